/- The walk of the law RightsDoes. -/
import Derived.Test.YtacocolcighomaaRights4
import Derived.Test.YtacocolcighomaaRightsLaw2
namespace Go.Proofs.Ytacocolcighomaa
open Go.RowKit

set_option maxRecDepth 100000 in
set_option maxHeartbeats 4000000 in
theorem rightsDoes_walk (a b : Int) (s : ByteArray) (w : World) (ha : isI64 a) (hb : isI64 b) (hs : s.size ≤ maxLen) : Law Try.prog 6 #[.int .i64 a, .int .i64 b, .string s] w := by
  unfold Law
  obtain ⟨⟨l⟩⟩ := s
  have hlen : (ByteArray.mk ⟨l⟩).size = l.length := rfl
  have hmax : l.length ≤ 9223372036854775807 := by rw [hlen] at hs; unfold maxLen at hs; omega
  clear hs
  by_cases hbig : 1000 < l.length
  · have h1000 : decide ((1000 : Int) < (l.length : Int)) = true := by simp; omega
    go_enter Try.func6, Try.ntmps6
    go_wp2_with (first
      | (go_at_call 23; go_must (refine (rightsBegun_any _).mono ?_; rintro e w1 ⟨rfl, ho1⟩)))
    go_ret
    exact ⟨rfl, ho1.below⟩
  · have h1000 : decide ((1000 : Int) < (l.length : Int)) = false := by simp; omega
    obtain ⟨x, hx⟩ := vec_of ha.1 ha.2
    obtain ⟨y, hy⟩ := vec_of hb.1 hb.2
    have Hx : Hid (a = x.toInt) := hx
    have Hy : Hid (b = y.toInt) := hy
    clear hx hy
    go_enter Try.func6, Try.ntmps6
    go_wp2_with (first
      | (go_at_call 23; go_must (refine (rightsBegun_any _).mono ?_; rintro e w1 ⟨rfl, ho1⟩)))
    go_loop [7, 8, 9] (fun h m i => ∃ (k : Nat) (hk : Bool) (mk : Int), k ≤ 63 ∧ i = .int .i64 k ∧ h = .bool hk ∧ m = .int .i64 mk ∧ Hid (hk = hasV x y k) ∧ Hid (mk = (meetV x y k).toInt)) (fun _ _ i => 63 - (intOf i).toNat)
    case atStart => exact ⟨0, true, 0, by omega, rfl, rfl, rfl, rfl, rfl⟩
    case round =>
      obtain ⟨k, hk, mk, hle, rfl, rfl, rfl, Hh, Hm⟩ := hrel
      by_cases hlt : k < 63
      · have hA : bitI a k = x.getLsbD k := by rw [Hx.out]; exact bit_vec x (by omega)
        have hB : bitI b k = y.getLsbD k := by rw [Hy.out]; exact bit_vec y (by omega)
        cases cx : x.getLsbD k <;> cases cy : y.getLsbD k <;> rw [cx] at hA <;> rw [cy] at hB
        all_goals
          go_wp2_with (go_at_call 26; go_must (refine (bit_any _ k (by omega) _).mono ?_; rintro e w' ⟨rfl, rfl⟩))
        · go_round
          case rel => exact ⟨k + 1, _, _, by omega, by go_num, rfl, rfl, by show _ = hasV x y (k + 1); rw [hasV_succ, cx, cy, ← Hh.out]; simp, by show _ = (meetV x y (k + 1)).toInt; rw [meetV_no (by rw [cx, cy]; rfl)]; exact Hm.out⟩
          case measure => simp [intOf]; omega
        · go_round
          case rel => exact ⟨k + 1, _, _, by omega, by go_num, rfl, rfl, by show _ = hasV x y (k + 1); rw [hasV_succ, cx, cy, ← Hh.out]; simp, by show _ = (meetV x y (k + 1)).toInt; rw [meetV_no (by rw [cx, cy]; rfl)]; exact Hm.out⟩
          case measure => simp [intOf]; omega
        · go_round
          case rel => exact ⟨k + 1, _, _, by omega, by go_num, rfl, rfl, by show _ = hasV x y (k + 1); rw [hasV_succ, cx, cy, ← Hh.out]; simp, by show _ = (meetV x y (k + 1)).toInt; rw [meetV_no (by rw [cx, cy]; rfl)]; exact Hm.out⟩
          case measure => simp [intOf]; omega
        · go_round
          case rel => exact ⟨k + 1, _, _, by omega, by go_num, rfl, rfl, by show _ = hasV x y (k + 1); rw [hasV_succ, cx, cy, ← Hh.out]; simp, by show _ = (meetV x y (k + 1)).toInt; rw [meetV_yes cx cy, ← or_pow _ (by omega), ← Hm.out]⟩
          case measure => simp [intOf]; omega
      · obtain rfl : k = 63 := by omega
        have hpr : rightsOf l = parseI l := (parse_ref l).symm
        have hA : x.getLsbD 63 = decide (a < 0) := by rw [Hx.out]; exact msb_lt x
        have hB : y.getLsbD 63 = decide (b < 0) := by rw [Hy.out]; exact msb_lt y
        have hM : Hid (meetI a b = (meetV x y 64).toInt) := by
          show meetI a b = _
          rw [Hx.out, Hy.out, meetI_vec, meetV_all]
        have hH : Hid (hasI a b = hasV x y 64) := by
          show hasI a b = _
          rw [Hx.out, Hy.out, hasI_vec, hasV_all]
        by_cases na : a < 0
        · have hA' : x.getLsbD 63 = true := by rw [hA]; simpa using na
          have hc : checkI a = false := by simp [checkI]; omega
          clear hA
          by_cases nb : b < 0
          · have hB' : y.getLsbD 63 = true := by rw [hB]; simpa using nb
            clear hB
            have e1 : meetI a b = bits .or .i64 mk (-9223372036854775808) := by rw [hM.out, meetV_yes hA' hB', Hm.out, or_top]
            have e2 : hasI a b = hk := by rw [hH.out, hasV_succ, hA', hB', ← Hh.out]; simp
            clear hA' hB'
            go_wp2_with (first
              | (go_at_call 27; go_must (refine (parse_any l _ (by omega)).mono ?_; rintro e w' ⟨rfl, rfl⟩))
              | (go_at_call 28; go_must (refine (rightsOf_any l _).mono ?_; rintro e w2 ⟨rfl, ho2⟩))
              | (go_at_call 29; go_must (refine (rcheck_any _ _).mono ?_; rintro e w' ⟨rfl, rfl⟩))
              | (go_at_call 25; go_must (refine (rhas_any _ _ _).mono ?_; rintro e w' ⟨rfl, rfl⟩))
              | (go_at_call 24; go_must (refine (rmeet_any _ _ _).mono ?_; rintro e w' ⟨rfl, rfl⟩))
              | (go_at_call 30; go_must (refine (text_any _ _).mono ?_; rintro e w3 ⟨rfl, ho3⟩))
              | (go_at_call 31; go_must (refine (refText_any _ _).mono ?_; rintro e w4 ⟨rfl, ho4⟩)))
            go_ret
            exact ⟨rfl, New.below (((ho1.trans ho2).trans ho3).trans ho4)⟩
          · have hB' : y.getLsbD 63 = false := by rw [hB]; simpa using nb
            clear hB
            have e1 : meetI a b = mk := by rw [hM.out, meetV_no (by rw [hA', hB']; rfl), Hm.out]
            have e2 : hasI a b = hk := by rw [hH.out, hasV_succ, hA', hB', ← Hh.out]; simp
            clear hA' hB'
            go_wp2_with (first
              | (go_at_call 27; go_must (refine (parse_any l _ (by omega)).mono ?_; rintro e w' ⟨rfl, rfl⟩))
              | (go_at_call 28; go_must (refine (rightsOf_any l _).mono ?_; rintro e w2 ⟨rfl, ho2⟩))
              | (go_at_call 29; go_must (refine (rcheck_any _ _).mono ?_; rintro e w' ⟨rfl, rfl⟩))
              | (go_at_call 25; go_must (refine (rhas_any _ _ _).mono ?_; rintro e w' ⟨rfl, rfl⟩))
              | (go_at_call 24; go_must (refine (rmeet_any _ _ _).mono ?_; rintro e w' ⟨rfl, rfl⟩))
              | (go_at_call 30; go_must (refine (text_any _ _).mono ?_; rintro e w3 ⟨rfl, ho3⟩))
              | (go_at_call 31; go_must (refine (refText_any _ _).mono ?_; rintro e w4 ⟨rfl, ho4⟩)))
            go_ret
            exact ⟨rfl, New.below (((ho1.trans ho2).trans ho3).trans ho4)⟩
        · have hA' : x.getLsbD 63 = false := by rw [hA]; simpa using na
          clear hA
          by_cases nb : b < 0
          · have hB' : y.getLsbD 63 = true := by rw [hB]; simpa using nb
            clear hB
            have e1 : meetI a b = mk := by rw [hM.out, meetV_no (by rw [hA', hB']; rfl), Hm.out]
            have e2 : hasI a b = false := by rw [hH.out, hasV_succ, hA', hB', ← Hh.out]; simp
            clear hA' hB'
            by_cases n15 : a ≤ 15
            · have hc : checkI a = true := by simp [checkI]; omega
              go_wp2_with (first
                | (go_at_call 27; go_must (refine (parse_any l _ (by omega)).mono ?_; rintro e w' ⟨rfl, rfl⟩))
                | (go_at_call 28; go_must (refine (rightsOf_any l _).mono ?_; rintro e w2 ⟨rfl, ho2⟩))
                | (go_at_call 29; go_must (refine (rcheck_any _ _).mono ?_; rintro e w' ⟨rfl, rfl⟩))
                | (go_at_call 25; go_must (refine (rhas_any _ _ _).mono ?_; rintro e w' ⟨rfl, rfl⟩))
                | (go_at_call 24; go_must (refine (rmeet_any _ _ _).mono ?_; rintro e w' ⟨rfl, rfl⟩))
                | (go_at_call 30; go_must (refine (text_any _ _).mono ?_; rintro e w3 ⟨rfl, ho3⟩))
                | (go_at_call 31; go_must (refine (refText_any _ _).mono ?_; rintro e w4 ⟨rfl, ho4⟩)))
              go_ret
              exact ⟨rfl, New.below (((ho1.trans ho2).trans ho3).trans ho4)⟩
            · have hc : checkI a = false := by simp [checkI]; omega
              have hd15 : decide (a ≤ 15) = false := by simp; omega
              go_wp2_with (first
                | (go_at_call 27; go_must (refine (parse_any l _ (by omega)).mono ?_; rintro e w' ⟨rfl, rfl⟩))
                | (go_at_call 28; go_must (refine (rightsOf_any l _).mono ?_; rintro e w2 ⟨rfl, ho2⟩))
                | (go_at_call 29; go_must (refine (rcheck_any _ _).mono ?_; rintro e w' ⟨rfl, rfl⟩))
                | (go_at_call 25; go_must (refine (rhas_any _ _ _).mono ?_; rintro e w' ⟨rfl, rfl⟩))
                | (go_at_call 24; go_must (refine (rmeet_any _ _ _).mono ?_; rintro e w' ⟨rfl, rfl⟩))
                | (go_at_call 30; go_must (refine (text_any _ _).mono ?_; rintro e w3 ⟨rfl, ho3⟩))
                | (go_at_call 31; go_must (refine (refText_any _ _).mono ?_; rintro e w4 ⟨rfl, ho4⟩)))
              go_ret
              exact ⟨rfl, New.below (((ho1.trans ho2).trans ho3).trans ho4)⟩
          · have hB' : y.getLsbD 63 = false := by rw [hB]; simpa using nb
            clear hB
            have e1 : meetI a b = mk := by rw [hM.out, meetV_no (by rw [hA', hB']; rfl), Hm.out]
            have e2 : hasI a b = hk := by rw [hH.out, hasV_succ, hA', hB', ← Hh.out]; simp
            clear hA' hB'
            by_cases n15 : a ≤ 15
            · have hc : checkI a = true := by simp [checkI]; omega
              go_wp2_with (first
                | (go_at_call 27; go_must (refine (parse_any l _ (by omega)).mono ?_; rintro e w' ⟨rfl, rfl⟩))
                | (go_at_call 28; go_must (refine (rightsOf_any l _).mono ?_; rintro e w2 ⟨rfl, ho2⟩))
                | (go_at_call 29; go_must (refine (rcheck_any _ _).mono ?_; rintro e w' ⟨rfl, rfl⟩))
                | (go_at_call 25; go_must (refine (rhas_any _ _ _).mono ?_; rintro e w' ⟨rfl, rfl⟩))
                | (go_at_call 24; go_must (refine (rmeet_any _ _ _).mono ?_; rintro e w' ⟨rfl, rfl⟩))
                | (go_at_call 30; go_must (refine (text_any _ _).mono ?_; rintro e w3 ⟨rfl, ho3⟩))
                | (go_at_call 31; go_must (refine (refText_any _ _).mono ?_; rintro e w4 ⟨rfl, ho4⟩)))
              go_ret
              exact ⟨rfl, New.below (((ho1.trans ho2).trans ho3).trans ho4)⟩
            · have hc : checkI a = false := by simp [checkI]; omega
              have hd15 : decide (a ≤ 15) = false := by simp; omega
              go_wp2_with (first
                | (go_at_call 27; go_must (refine (parse_any l _ (by omega)).mono ?_; rintro e w' ⟨rfl, rfl⟩))
                | (go_at_call 28; go_must (refine (rightsOf_any l _).mono ?_; rintro e w2 ⟨rfl, ho2⟩))
                | (go_at_call 29; go_must (refine (rcheck_any _ _).mono ?_; rintro e w' ⟨rfl, rfl⟩))
                | (go_at_call 25; go_must (refine (rhas_any _ _ _).mono ?_; rintro e w' ⟨rfl, rfl⟩))
                | (go_at_call 24; go_must (refine (rmeet_any _ _ _).mono ?_; rintro e w' ⟨rfl, rfl⟩))
                | (go_at_call 30; go_must (refine (text_any _ _).mono ?_; rintro e w3 ⟨rfl, ho3⟩))
                | (go_at_call 31; go_must (refine (refText_any _ _).mono ?_; rintro e w4 ⟨rfl, ho4⟩)))
              go_ret
              exact ⟨rfl, New.below (((ho1.trans ho2).trans ho3).trans ho4)⟩
end Go.Proofs.Ytacocolcighomaa
