/- The walk of the law WorldAlone. -/
import Derived.Test.YtacocolcighomaaWorld2
import Derived.Test.YtacocolcighomaaOpen
import Derived.StillTailTactics
namespace Go.Proofs.Ytacocolcighomaa
open Go.RowKit

/-- one step more of a World, whatever it was -/
def Stepped (w : World) (base b : Nat) (m : Nat) (e : Ending) (w' : World) : Prop :=
  ∃ (v : Value) (cs : List Int) (lv : Value) (es : List Ent), e = .returned v ∧ IsWorld w' base b cs lv es.length (es.flatMap Ent.cells) ∧ es.length ≤ m + 1 ∧ Below base w w'

theorem read_step (c : Int) (b base : Nat) (p n : Int) (cs : List Int) (lv : Value) (es : List Ent) (w : World)
    (hw : IsWorld w base b cs lv es.length (es.flatMap Ent.cells)) (hm : es.length ≤ 100000) (hB : base ≤ w.heap.size) :
    Calls Try.prog 17 #[.pointer (some ⟨b, 0, none⟩), .int .i64 p, .int .i64 c, .int .i64 n] w (Stepped w base b es.length) := by
  have hb := hw.base
  by_cases hc : 0 ≤ c ∧ c < 12
  · refine (read_yes hc.1 hc.2 b base p n cs lv _ _ w hw hm).mono ?_
    rintro e w' ⟨rfl, lv', hw', ho, _⟩
    refine ⟨_, cs, lv', es ++ [⟨p, c, 1, n⟩], rfl, by simpa using hw', by simp, ho.below (by rintro k (h | h); omega; exact (hw.own.lt k h.symm).1) hB⟩
  · refine (read_no hc b p n w).mono ?_
    rintro e w' ⟨rfl, rfl⟩
    exact ⟨_, cs, lv, es, rfl, hw, by omega, Below.refl _ _⟩

theorem write_step (c : Int) (b base : Nat) (p n x : Int) (cs : List Int) (lv : Value) (es : List Ent) (w : World)
    (hw : IsWorld w base b cs lv es.length (es.flatMap Ent.cells)) (hm : es.length ≤ 100000) (hB : base ≤ w.heap.size) :
    Calls Try.prog 18 #[.pointer (some ⟨b, 0, none⟩), .int .i64 p, .int .i64 c, .int .i64 n, .int .i64 x] w (Stepped w base b es.length) := by
  have hb := hw.base
  by_cases hc : 0 ≤ c ∧ c < 12
  · refine (write_yes hc.1 hc.2 b base p n x cs lv _ _ w hw hm).mono ?_
    rintro e w' ⟨rfl, lv', hw', ho, _⟩
    refine ⟨_, _, lv', es ++ [⟨p, c, 2, n⟩], rfl, by simpa using hw', by simp, ho.below (by rintro k (h | h); omega; exact (hw.own.lt k h.symm).1) hB⟩
  · refine (write_no hc b p n x w).mono ?_
    rintro e w' ⟨rfl, rfl⟩
    exact ⟨_, cs, lv, es, rfl, hw, by omega, Below.refl _ _⟩

theorem set_get (cs : List Int) (j k : Nat) (z : Int) (hk : k < cs.length) : ((cs.set ((j : Int).toNat) z).map (Value.int .i64))[k]? = some (.int .i64 (if k = j then z else cs.getD k 0)) := by
  rw [Int.toNat_natCast, List.getElem?_map, List.getElem?_set]
  by_cases h : j = k
  · subst h
    simp [hk]
  · rw [if_neg h, if_neg (fun e => h e.symm), List.getElem?_eq_getElem hk]
    simp [List.getD, hk]

set_option maxRecDepth 100000 in
set_option maxHeartbeats 4000000 in
theorem worldAlone_walk (A : Option Addr) (n cap : Nat) (rows : List (List Int)) (d p c nn z : Int) (w : World) (hn : rows.length = n) (hrows : ∀ x ∈ rows, x.length = 5) (hs : Sl w 5 A n cap (rows.flatMap icells)) (hmax : n ≤ 9223372036854775807) :
    Law Try.prog 4 #[.slice A n cap, .agg #[.int .i64 d, .int .i64 p, .int .i64 c, .int .i64 nn, .int .i64 z]] w := by
  unfold Law
  by_cases hbig : 300 < n
  · go_enter Try.func4, Try.ntmps4
    go_wp2_with (go_at_call 14; go_must (refine (worldBegun_any _).mono ?_; rintro e w1 ⟨rfl, ho1⟩))
    go_ret
    exact ⟨rfl, (((Below.refl _ w).alloc (Nat.le_refl _) _).trans (ho1.below.mono (by simp)))⟩
  · have h300 : decide ((300 : Int) < (n : Int)) = false := by simp; omega
    have hx0 := Blk.new w 29 #[.int .i64 d, .int .i64 p, .int .i64 c, .int .i64 nn, .int .i64 z]
    have hal : New w (w.alloc (.cells #[.int .i64 d, .int .i64 p, .int .i64 c, .int .i64 nn, .int .i64 z] 29)) := (Only.refl _ w).alloc _
    go_enter Try.func4, Try.ntmps4
    go_wp2_with (first
      | (go_at_call 14; go_must (refine (worldBegun_any _).mono ?_; rintro e w1 ⟨rfl, ho1⟩))
      | (go_at_call 15; go_must (refine (new_any _).mono ?_; rintro e w2 ⟨rfl, hw2, ho2⟩)))
    have hx2 := (hx0.only ho1 (fun h => h)).only ho2 (fun h => h)
    have hlt2 := hx2.lt
    have h02 : New w w2 := (hal.trans ho1).trans ho2
    have hB := h02.size
    have hB1 := ho1.size
    simp at hB1
    -- what is kept: everything below w2's size but the World's own block
    go_loopw [6] (fun i wr => ∃ k : Nat, k ≤ n ∧ i = .int .i64 k ∧ ∃ (cs : List Int) (lv : Value) (es : List Ent), IsWorld wr w1.heap.size w1.heap.size cs lv es.length (es.flatMap Ent.cells) ∧ es.length ≤ k ∧ Below w1.heap.size w2 wr) (fun i _ => n - (intOf i).toNat)
    case atStart => exact ⟨0, by omega, rfl, _, _, [], hw2, by simp, Below.refl _ _⟩
    case round =>
      obtain ⟨k, hk, rfl, cs, lv, es, hw, hes, hbel⟩ := hrel
      have hszr := hbel.size
      have hw2b := hw2.blk.lt
      have hbw : Below w.heap.size w wr := h02.below.trans (hbel.mono (by omega))
      by_cases hlt : k < n
      · have hsr := hs.below_ hbw
        obtain ⟨b0, o0, rfl⟩ := hs.some_ (by omega)
        obtain ⟨d', p', c', n', z', hrk⟩ : ∃ d p c nn z, rows[k] = [d, p, c, nn, z] := by
          have hl := hrows rows[k] (List.getElem_mem _)
          match rows[k], hl with
          | [d, p, c, nn, z], _ => exact ⟨d, p, c, nn, z, rfl⟩
        have hlen : ∀ x ∈ rows, (icells x).length = 5 := fun x hx => by simpa using hrows x hx
        have f0 := hsr.at0 ((flat_get' rows hlen (k := k) (by omega) (j := 0) (by omega)).trans (by rw [hrk]; rfl))
        have f1 := hsr.at_ ((flat_get' rows hlen (k := k) (by omega) (j := 1) (by omega)).trans (by rw [hrk]; rfl))
        have f2 := hsr.at_ ((flat_get' rows hlen (k := k) (by omega) (j := 2) (by omega)).trans (by rw [hrk]; rfl))
        have f3 := hsr.at_ ((flat_get' rows hlen (k := k) (by omega) (j := 3) (by omega)).trans (by rw [hrk]; rfl))
        have f4 := hsr.at_ ((flat_get' rows hlen (k := k) (by omega) (j := 4) (by omega)).trans (by rw [hrk]; rfl))
        simp only [Nat.add_zero] at f0
        clear hrk hlen
        have hwd := hw.only ((Only.refl (fun _ => False) wr).drew) (fun h => h) (fun _ _ h => h)
        by_cases hd : d' = 0
        · have hd' : (d' == 0) = true := by simpa using hd
          go_wp2
          go_still_tail 16, (by kernel_rfl)
          change wpList _ _ _ _ _ wr.drew
          go_wp2_with (go_at_call 17; go_must (refine (read_step _ _ _ _ _ _ _ _ _ hwd (by omega) (by show _ ≤ wr.heap.size; omega)).mono ?_; rintro e w3 ⟨v, cs3, lv3, es3, rfl, hw3, hes3, hb3⟩))
          go_roundw
          case rel => exact ⟨k + 1, by omega, by go_num, cs3, lv3, es3, hw3, by omega, hbel.drew.trans hb3⟩
          case measure => simp [intOf]; omega
        · have hd' : (d' == 0) = false := by simpa using hd
          go_wp2
          go_still_tail 21, (by kernel_rfl)
          change wpList _ _ _ _ _ wr.drew
          go_wp2_with (go_at_call 18; go_must (refine (write_step _ _ _ _ _ _ _ _ _ _ hwd (by omega) (by show _ ≤ wr.heap.size; omega)).mono ?_; rintro e w3 ⟨v, cs3, lv3, es3, rfl, hw3, hes3, hb3⟩))
          go_roundw
          case rel => exact ⟨k + 1, by omega, by go_num, cs3, lv3, es3, hw3, by omega, hbel.drew.trans hb3⟩
          case measure => simp [intOf]; omega
      · have hxr := hx2.below hbel (by omega)
        have x0 : wr.cell? ⟨w.heap.size, 0, none⟩ = some (.int .i64 d) := hxr.cell 0
        have hcs := hw.len
        go_wp2_with (first
          | (go_at_call 20; go_must (refine (cells_any _ _ _ _ _ _ _ hw).mono ?_; rintro e w3 ⟨A3, cap3, rfl, hown3, ho3⟩; have hw3 := hw.only ho3 (fun h => h) (fun _ _ h => h); have hx3 := hxr.only ho3 (fun h => h))))
        refine (log_any _ _ _ _ _ _ _ hw3 (flat_one Ent.one _) (by omega)).mono ?_
        rintro e w4 ⟨A4, cap4, rfl, hown4, ho4⟩
        have hw4 := hw3.only ho4 (fun h => h) (fun _ _ h => h)
        have hx4 := hx3.only ho4 (fun h => h)
        have hwas4 := own_only hown3 ho4 (fun _ _ h => h)
        have hb4 : Below w.heap.size w w4 := (hbw.new ho3).new ho4
        have x0 : w4.cell? ⟨w.heap.size, 0, none⟩ = some (.int .i64 d) := hx4.cell 0
        have x1 : w4.cell? ⟨w.heap.size, 1, none⟩ = some (.int .i64 p) := hx4.cell 1
        have x2 : w4.cell? ⟨w.heap.size, 2, none⟩ = some (.int .i64 c) := hx4.cell 2
        have x3 : w4.cell? ⟨w.heap.size, 3, none⟩ = some (.int .i64 nn) := hx4.cell 3
        have x4 : w4.cell? ⟨w.heap.size, 4, none⟩ = some (.int .i64 z) := hx4.cell 4
        obtain ⟨b3, o3, rfl⟩ := (Sl.of_own hown3).some_ (by omega)
        by_cases hd : d = 0
        · have hd' : (d == 0) = true := by simpa using hd
          by_cases hc : 0 ≤ c ∧ c < 12
          · obtain ⟨hc0, hc1⟩ := hc
            have hne := hw4.ne
            have hlvb := hw4.own.lt
            have hwb := hw4.blk.lt
            have hw43 := hw3.blk.lt
            have h3l := own_lt hown3 (g := b3) rfl
            have h33 := (hown3.lt b3 rfl).1
            have h44 := hw.own.lt
            go_wp2_with (first
              | (go_at_call 17; go_must (refine (read_yes hc0 hc1 _ _ _ _ _ _ _ _ _ hw4 (by omega)).mono ?_; rintro e w5 ⟨rfl, lv5, hw5, ho5, hl5⟩; have hx5 := hx4.only ho5 (by rintro (h | h); omega; have := hlvb _ h.symm; omega); have hwas5 := own_only hwas4 ho5 (by rintro g' h (h' | h'); have := hw.blk.lt; have e : b3 = g' := Option.some.inj h; omega; have := h44 _ h'.symm; have e : b3 = g' := Option.some.inj h; omega); have hb5 := hb4.only ho5 (by rintro k' (h | h); omega; have := hlvb _ h.symm; omega)))
              | (go_at_call 20; go_must (refine (cells_any _ _ _ _ _ _ _ hw5).mono ?_; rintro e w6 ⟨A6, cap6, rfl, hown6, ho6⟩; have hw6 := hw5.only ho6 (fun h => h) (fun _ _ h => h); have hx6 := hx5.only ho6 (fun h => h); have hwas6 := own_only hwas5 ho6 (fun _ _ h => h); have hb6 := hb5.new ho6))
              | (go_at_call 19; go_must (refine (sameLongs_refl _ A6 12 cap3 cap6 _ _ hcs (Sl.of_own hwas6) (Sl.of_own hown6) (by omega)).mono ?_; rintro e w7 ⟨rfl, n7, rfl⟩; have hdr := (Only.refl (fun _ => False) w6).drewN n7; have hw7 := hw6.only hdr (fun h => h) (fun _ _ h => h); have hx7 := hx6.drewN n7; have hb7 := hb6.drewN_ n7; have hwas7 := own_only hwas6 hdr (fun _ _ h => h); have y2 : (w6.drewN n7).cell? ⟨w.heap.size, 2, none⟩ = some (.int .i64 c) := hx7.cell 2; have y5 : (w6.drewN n7).cell? ⟨b3, o3 + c.toNat, none⟩ = some (.int .i64 (cs.getD c.toNat 0)) := (Sl.of_own hwas7).at0 (by simp [List.getD, show c.toNat < cs.length by omega])))
              | (go_at_call 22; go_must (refine (log_any _ _ _ _ _ _ _ hw7 (by intro u hu; rcases List.mem_append.1 hu with h | h; exact flat_one Ent.one _ u h; exact entry_one _ _ _ _ u h) (by omega)).mono ?_; rintro e w8 ⟨A8, cap8, rfl, hown8, ho8⟩)))
            go_ret
            exact ⟨rfl, hb7.new ho8⟩
          · have hcc : c < 0 ∨ 12 ≤ c := by omega
            rcases hcc with hc0 | hc1
            all_goals
              have hw5 := hw4
              have hx5 := hx4
              have hwas5 := hwas4
              have hb5 := hb4
              go_wp2_with (first
                | (go_at_call 17; go_must (refine (read_no hc _ _ _ _).mono ?_; rintro e w' ⟨rfl, rfl⟩))
                | (go_at_call 20; go_must (refine (cells_any _ _ _ _ _ _ _ hw5).mono ?_; rintro e w6 ⟨A6, cap6, rfl, hown6, ho6⟩; have hw6 := hw5.only ho6 (fun h => h) (fun _ _ h => h); have hx6 := hx5.only ho6 (fun h => h); have hwas6 := own_only hwas5 ho6 (fun _ _ h => h); have hb6 := hb5.new ho6))
                | (go_at_call 19; go_must (refine (sameLongs_refl _ A6 12 cap3 cap6 _ _ hcs (Sl.of_own hwas6) (Sl.of_own hown6) (by omega)).mono ?_; rintro e w7 ⟨rfl, n7, rfl⟩; have hdr := (Only.refl (fun _ => False) w6).drewN n7; have hw7 := hw6.only hdr (fun h => h) (fun _ _ h => h); have hx7 := hx6.drewN n7; have hb7 := hb6.drewN_ n7; have hwas7 := own_only hwas6 hdr (fun _ _ h => h); have y2 : (w6.drewN n7).cell? ⟨w.heap.size, 2, none⟩ = some (.int .i64 c) := hx7.cell 2))
                | (go_at_call 22; go_must (refine (log_any _ _ _ _ _ _ _ hw7 (flat_one Ent.one _) (by omega)).mono ?_; rintro e w8 ⟨A8, cap8, rfl, hown8, ho8⟩)))
              go_ret
              exact ⟨rfl, hb7.new ho8⟩
        · have hd' : (d == 0) = false := by simpa using hd
          by_cases hc : 0 ≤ c ∧ c < 12
          · -- it is written
            obtain ⟨hc0, hc1⟩ := hc
            obtain ⟨j, rfl⟩ := Int.eq_ofNat_of_zero_le hc0
            have hne := hw4.ne
            have hlvb := hw4.own.lt
            have hwb := hw4.blk.lt
            have hw43 := hw3.blk.lt
            have h3l := own_lt hown3 (g := b3) rfl
            have h33 := (hown3.lt b3 rfl).1
            have h44 := hw.own.lt
            go_wp2_with (first
              | (go_at_call 18; go_must (refine (write_yes hc0 hc1 _ _ _ _ _ _ _ _ _ _ hw4 (by omega)).mono ?_; rintro e w5 ⟨rfl, lv5, hw5, ho5, hl5⟩; have hx5 := hx4.only ho5 (by rintro (h | h); omega; have := hlvb _ h.symm; omega); have hwas5 := own_only hwas4 ho5 (by rintro g' h (h' | h'); have := hw.blk.lt; have e : b3 = g' := Option.some.inj h; omega; have := h44 _ h'.symm; have e : b3 = g' := Option.some.inj h; omega); have hb5 := hb4.only ho5 (by rintro k' (h | h); omega; have := hlvb _ h.symm; omega)))
              | (go_at_call 20; go_must (refine (cells_any _ _ _ _ _ _ _ hw5).mono ?_; rintro e w6 ⟨A6, cap6, rfl, hown6, ho6⟩; have hw6 := hw5.only ho6 (fun h => h) (fun _ _ h => h); have hx6 := hx5.only ho6 (fun h => h); have hwas6 := own_only hwas5 ho6 (fun _ _ h => h); have hb6 := hb5.new ho6; have y2 : w6.cell? ⟨w.heap.size, 2, none⟩ = some (.int .i64 j) := hx6.cell 2; have y4 : w6.cell? ⟨w.heap.size, 4, none⟩ = some (.int .i64 z) := hx6.cell 4; obtain ⟨b6, o6, rfl⟩ := (Sl.of_own hown6).some_ (by omega))))
            go_loopw [13] (fun i wr => ∃ k nq : Nat, k ≤ 12 ∧ i = .int .i64 k ∧ wr = w6.drewN nq) (fun i _ => 12 - (intOf i).toNat)
            case atStart => exact ⟨0, 0, by omega, rfl, rfl⟩
            case round =>
              obtain ⟨k, nq, hk, rfl, rfl⟩ := hrel
              by_cases hlt : k < 12
              · have q0 := (Sl.of_own hown6).at0 (p := k) (u := .int .i64 (if k = j then z else cs.getD k 0)) (set_get cs j k z (by omega))
                have q1 := (Sl.of_own hwas6).at0 (p := k) (u := .int .i64 (cs.getD k 0)) (by simp [List.getD, show k < cs.length by omega])
                by_cases hkj : k = j
                · subst hkj
                  rw [if_pos rfl] at q0
                  clear q1
                  go_wp2
                  go_quiet (fail)
                  go_wp2
                  go_roundw
                  case rel => exact ⟨k + 1, _, by omega, by go_num, rfl⟩
                  case measure => simp [intOf]; omega
                · have hkj' : ((k : Int) == (j : Int)) = false := by simp; omega
                  have hkj'' : ((k : Int) != (j : Int)) = true := by simp; omega
                  rw [if_neg hkj] at q0
                  go_wp2
                  go_quiet (fail)
                  go_wp2
                  go_roundw
                  case rel => exact ⟨k + 1, _, by omega, by go_num, rfl⟩
                  case measure => simp [intOf]; omega
              · go_wp2_with (go_at_call 16; go_must (refine (has_yes hc0 hc1 _).mono ?_; rintro e w' ⟨rfl, rfl⟩))
                go_ret
                exact ⟨rfl, hb6.drewN_ nq⟩
          · have hcc : c < 0 ∨ 12 ≤ c := by omega
            rcases hcc with hc0 | hc1
            all_goals
              have hw5 := hw4
              have hx5 := hx4
              have hwas5 := hwas4
              have hb5 := hb4
              go_wp2_with (first
                | (go_at_call 18; go_must (refine (write_no hc _ _ _ _ _).mono ?_; rintro e w' ⟨rfl, rfl⟩))
                | (go_at_call 20; go_must (refine (cells_any _ _ _ _ _ _ _ hw5).mono ?_; rintro e w6 ⟨A6, cap6, rfl, hown6, ho6⟩; have hw6 := hw5.only ho6 (fun h => h) (fun _ _ h => h); have hx6 := hx5.only ho6 (fun h => h); have hwas6 := own_only hwas5 ho6 (fun _ _ h => h); have hb6 := hb5.new ho6; have y2 : w6.cell? ⟨w.heap.size, 2, none⟩ = some (.int .i64 c) := hx6.cell 2; have y4 : w6.cell? ⟨w.heap.size, 4, none⟩ = some (.int .i64 z) := hx6.cell 4; obtain ⟨b6, o6, rfl⟩ := (Sl.of_own hown6).some_ (by omega))))
              go_loopw [13] (fun i wr => ∃ k nq : Nat, k ≤ 12 ∧ i = .int .i64 k ∧ wr = w6.drewN nq) (fun i _ => 12 - (intOf i).toNat)
              case atStart => exact ⟨0, 0, by omega, rfl, rfl⟩
              case round =>
                obtain ⟨k, nq, hk, rfl, rfl⟩ := hrel
                by_cases hlt : k < 12
                · have q0 := (Sl.of_own hown6).at0 (p := k) (u := .int .i64 (cs.getD k 0)) (by simp [List.getD, show k < cs.length by omega])
                  have q1 := (Sl.of_own hwas6).at0 (p := k) (u := .int .i64 (cs.getD k 0)) (by simp [List.getD, show k < cs.length by omega])
                  have hkj' : ((k : Int) == c) = false := by simp; omega
                  have hkj'' : ((k : Int) != c) = true := by simp; omega
                  go_wp2
                  go_quiet (fail)
                  go_wp2
                  go_roundw
                  case rel => exact ⟨k + 1, _, by omega, by go_num, rfl⟩
                  case measure => simp [intOf]; omega
                · go_wp2_with (go_at_call 16; go_must (refine (has_no hc _).mono ?_; rintro e w' ⟨rfl, rfl⟩))
                  go_ret
                  exact ⟨rfl, hb6.drewN_ nq⟩
end Go.Proofs.Ytacocolcighomaa
