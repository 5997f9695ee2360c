/- The walks of the laws RightsBack and RightsDoes. -/
import Derived.Test.YtacocolcighomaaRights3
import Derived.Test.YtacocolcighomaaRightsLaw
namespace Go.Proofs.Ytacocolcighomaa
open Go.RowKit

theorem text_le (r : Int) : (textI r).length ≤ 4 := by
  unfold textI
  split
  · simp
  · exact letters_le r 4
theorem low4 (a : Int) : ∃ q : Nat, q < 16 ∧ wrap64 ((IntKind.u64.wrap a).tmod 16) = (q : Nat) := by
  have h := wrap_u64_nonneg a
  rw [Int.tmod_eq_emod_of_nonneg h]
  refine ⟨(IntKind.u64.wrap a % 16).toNat, by omega, ?_⟩
  unfold wrap64
  omega
theorem check_low {q : Nat} (h : q < 16) : checkI (q : Nat) = true := by
  simp [checkI]
  omega

set_option maxHeartbeats 2000000 in
theorem rightsBack_walk (a : Int) (s : ByteArray) (w : World) (ha : isI64 a) (hs : s.size ≤ maxLen) : Law Try.prog 7 #[.int .i64 a, .string s] w := by
  unfold Law
  obtain ⟨⟨l⟩⟩ := s
  have hlen : (ByteArray.mk ⟨l⟩).size = l.length := rfl
  have hmax : l.length ≤ 9223372036854775807 := by rw [hlen] at hs; unfold maxLen at hs; omega
  clear hs
  by_cases hbig : 1000 < l.length
  · have h1000 : decide ((1000 : Int) < (l.length : Int)) = true := by simp; omega
    go_enter Try.func7, Try.ntmps7
    go_wp2_with (first
      | (go_at_call 23; go_must (refine (rightsBegun_any _).mono ?_; rintro e w1 ⟨rfl, ho1⟩)))
    go_ret
    exact ⟨rfl, ho1.below⟩
  · have h1000 : decide ((1000 : Int) < (l.length : Int)) = false := by simp; omega
    obtain ⟨q, hq, hqe⟩ := low4 a
    have htb := text_back hq
    have htb1 : (parseI (textI (q : Nat))).1 = (q : Nat) := by rw [htb]
    have htb2 : (parseI (textI (q : Nat))).2 = true := by rw [htb]
    have hle := text_le (q : Nat)
    have tok1 : True := trivial
    clear htb ha
    rcases hb : (parseI l).2 with _ | _
    · have hr := parse_false hb
      go_enter Try.func7, Try.ntmps7
      go_wp2_with (first
        | (go_at_call 23; go_must (refine (rightsBegun_any _).mono ?_; rintro e w1 ⟨rfl, ho1⟩))
        | (go_at_call 30; go_must (refine (text_any _ _).mono ?_; rintro e w2 ⟨rfl, ho2⟩))
        | (go_at_call 27; have _t := tok1; go_must (refine (parse_any (textI (q : Nat)) _ (by omega)).mono ?_; rintro e w' ⟨rfl, rfl⟩; clear tok1))
        | (go_at_call 27; go_must (refine (parse_any l _ (by omega)).mono ?_; rintro e w' ⟨rfl, rfl⟩)))
      go_ret
      exact ⟨rfl, New.below (ho1.trans ho2)⟩
    · obtain ⟨r, hr, hp1, ht⟩ := parse_true hb
      have hck := check_low hr
      have tok2 : True := trivial
      go_enter Try.func7, Try.ntmps7
      go_wp2_with (first
        | (go_at_call 23; go_must (refine (rightsBegun_any _).mono ?_; rintro e w1 ⟨rfl, ho1⟩))
        | (go_at_call 30; have _t := tok2; go_must (refine (text_any _ _).mono ?_; rintro e w2 ⟨rfl, ho2⟩; clear tok2))
        | (go_at_call 30; go_must (refine (text_any _ _).mono ?_; rintro e w3 ⟨rfl, ho3⟩))
        | (go_at_call 29; go_must (refine (rcheck_any _ _).mono ?_; rintro e w' ⟨rfl, rfl⟩))
        | (go_at_call 27; have _t := tok1; go_must (refine (parse_any (textI (q : Nat)) _ (by omega)).mono ?_; rintro e w' ⟨rfl, rfl⟩; clear tok1))
        | (go_at_call 27; go_must (refine (parse_any l _ (by omega)).mono ?_; rintro e w' ⟨rfl, rfl⟩)))
      go_ret
      exact ⟨rfl, New.below ((ho1.trans ho2).trans ho3)⟩

end Go.Proofs.Ytacocolcighomaa
