/- the document's Scan, in the plain model. -/
import Derived.Test.YtngphebjmmencaaDoorTokS2
namespace Go.Proofs.YtngphebjmmencaaDoor
set_option linter.unusedSimpArgs false
set_option linter.unusedVariables false
open Go

theorem soFar_blank {s : List UInt8} {a : Nat} {acc : List TD} (h : soFar s (a, acc)) {c : UInt8} {r : List UInt8} (hd : s.drop a = c :: r) (hb : blankB c = true) : soFar s (a + 1, acc) := by
  obtain ⟨h1, h2, h3⟩ := h
  simp only at h1 h2 h3
  obtain ⟨d1, d2, d3, d4⟩ := drop_at hd
  refine ⟨by simp only; omega, by simp only; omega, ?_⟩
  simp only
  rw [h3, hd, scanD_blank hb, d3]

section
variable {h : AH}
theorem tF_run (c a : Int) : runF Tryd.prog po 27 [.int .i64 c, .int .i64 a] h = some (.inl (.agg [.int .i64 c, .int .i64 a]), h) := by
  refine runF_R fn_tF rfl ?_; unfold rc_tF
  simp only [sim, List.length_cons, List.length_nil, Nat.reduceAdd, Nat.reduceSub, List.replicate, List.cons_append, List.nil_append, List.map_cons, List.map_nil, Option.bind_some, Option.map_some, Option.bind_none, Option.map_none, if_true, if_false, decide_true, decide_false, Bool.false_eq_true, Bool.true_eq_false, Bool.not_true, Bool.not_false, reduceCtorEq, Bool.and_true, Bool.true_and, Bool.and_false, Bool.false_and, Bool.or_true, Bool.true_or, Bool.or_false, Bool.false_or, true_and, and_true, false_and, and_false, List.take_zero, List.take_succ_cons, List.drop_zero, List.drop_succ_cons, List.take_nil, List.drop_nil, List.set_cons_zero, List.set_cons_succ, Nat.reduceLeDiff, Nat.reduceLT, Nat.zero_add, Nat.lt_add_one, Nat.le_refl, clearA, Int.toNat_natCast, fg_yes (GrewA.push h _) (rfl : wkA (.agg [.int .i64 c, .int .i64 a]) = _)]
set_option maxHeartbeats 4000000 in
theorem rScan_run (s : List UInt8) (hs : s.length ≤ 1000000) : runF Tryd.prog po 11 [.str s] h = some (.inl (.tup [lstA tRk (rowsT (scanR s).1), fltT (scanR s).2]), h) := by
  have cF := fun h c a => tF_run (h := h) c a
  by_cases h6 : 6000 < s.length
  · have e : scanR s = ([], (3, 6000)) := if_pos h6
    rw [e]
    have h6' : (6000 : Int) < (s.length : Int) := by omega
    refine runF_E fn_rScan rfl fun Q hQ => ?_; unfold rc_rScan
    simp only [sim, List.length_cons, List.length_nil, Nat.reduceAdd, Nat.reduceSub, List.replicate, List.cons_append, List.nil_append, List.map_cons, List.map_nil, Option.bind_some, Option.map_some, Option.bind_none, Option.map_none, if_true, if_false, decide_true, decide_false, Bool.false_eq_true, Bool.true_eq_false, Bool.not_true, Bool.not_false, reduceCtorEq, Bool.and_true, Bool.true_and, Bool.and_false, Bool.false_and, Bool.or_true, Bool.true_or, Bool.or_false, Bool.false_or, true_and, and_true, false_and, and_false, List.take_zero, List.take_succ_cons, List.drop_zero, List.drop_succ_cons, List.take_nil, List.drop_nil, List.set_cons_zero, List.set_cons_succ, Nat.reduceLeDiff, Nat.reduceLT, Nat.zero_add, Nat.lt_add_one, Nat.le_refl, clearA, Int.toNat_natCast, h6', cF]
    exact hQ _ _ (.tup [.nils, fltT (3, 6000)]) (by simp only [sim, List.length_cons, List.length_nil, Nat.reduceAdd, Nat.reduceSub, List.replicate, List.cons_append, List.nil_append, List.map_cons, List.map_nil, Option.bind_some, Option.map_some, Option.bind_none, Option.map_none, if_true, if_false, decide_true, decide_false, Bool.false_eq_true, Bool.true_eq_false, Bool.not_true, Bool.not_false, reduceCtorEq, Bool.and_true, Bool.true_and, Bool.and_false, Bool.false_and, Bool.or_true, Bool.true_or, Bool.or_false, Bool.false_or, true_and, and_true, false_and, and_false, List.take_zero, List.take_succ_cons, List.drop_zero, List.drop_succ_cons, List.take_nil, List.drop_nil, List.set_cons_zero, List.set_cons_succ, Nat.reduceLeDiff, Nat.reduceLT, Nat.zero_add, Nat.lt_add_one, Nat.le_refl, clearA, Int.toNat_natCast]) (GrewA.push _ _) rfl
  · have h6' : ¬ (6000 : Int) < (s.length : Int) := by omega
    refine runF_E fn_rScan rfl fun Q hQ => ?_; unfold rc_rScan
    simp only [sim, List.length_cons, List.length_nil, Nat.reduceAdd, Nat.reduceSub, List.replicate, List.cons_append, List.nil_append, List.map_cons, List.map_nil, Option.bind_some, Option.map_some, Option.bind_none, Option.map_none, if_true, if_false, decide_true, decide_false, Bool.false_eq_true, Bool.true_eq_false, Bool.not_true, Bool.not_false, reduceCtorEq, Bool.and_true, Bool.true_and, Bool.and_false, Bool.false_and, Bool.or_true, Bool.true_or, Bool.or_false, Bool.false_or, true_and, and_true, false_and, and_false, List.take_zero, List.take_succ_cons, List.drop_zero, List.drop_succ_cons, List.take_nil, List.drop_nil, List.set_cons_zero, List.set_cons_succ, Nat.reduceLeDiff, Nat.reduceLT, Nat.zero_add, Nat.lt_add_one, Nat.le_refl, clearA, Int.toNat_natCast, h6']
    generalize hh1 : h.push [[AV.int .i64 0, .int .i64 0]] = h1
    have c1 : h1.cell h.n = some [[.int .i64 0, .int .i64 0]] := by rw [← hh1]; exact push_same
    have g1 : GrewA h h1 := by rw [← hh1]; exact GrewA.push _ _
    have n1 : h1.n = h.n + 1 := by rw [← hh1]; rfl
    refine loop_W (fun q : Nat × List TD => s.length - q.1) (fun q V h' => ∃ v w5 w6 w7 w8 w10 w11 w12 w13 w14 w15 w16 w17, V = [.str s, .nils, .ptr h.n 0 0, v, .int .i64 ((q.1 : Nat) : Int), w5, w6, w7, w8, .bool false, w10, w11, w12, w13, w14, w15, w16, w17] ∧ Acc h1 h' tRk v (rowsT q.2) ∧ GrewA h1 h' ∧ soFar s q) ?_ (0, []) ⟨_, _, _, _, _, _, _, _, _, _, _, _, _, rfl, acc_nil _ _ _, GrewA.refl _, soFar_zero s⟩
    rintro ⟨a, acc⟩ V h' ⟨v, w5, w6, w7, w8, w10, w11, w12, w13, w14, w15, w16, w17, rfl, ha, gg, so⟩ next
    simp only at so next ⊢
    have so' := so
    obtain ⟨b1, b2, b3⟩ := so'
    simp only at b1 b2
    have cf : h'.cell h.n = some [[.int .i64 0, .int .i64 0]] := (gg.cell _ (by omega)).trans c1
    cases hd : s.drop a with
    | nil =>
      have hl : (s.drop a).length = s.length - a := List.length_drop
      rw [hd] at hl
      have hlt : ¬ (a : Int) < (s.length : Int) := by simp only [List.length_nil] at hl; omega
      have e := scan_out h6 (soFar_end so hd)
      rw [e] at hQ
      rw [r_lpb rc_rScan_b3.eq_1]
      simp only [sim, List.length_cons, List.length_nil, Nat.reduceAdd, Nat.reduceSub, List.replicate, List.cons_append, List.nil_append, List.map_cons, List.map_nil, Option.bind_some, Option.map_some, Option.bind_none, Option.map_none, if_true, if_false, decide_true, decide_false, Bool.false_eq_true, Bool.true_eq_false, Bool.not_true, Bool.not_false, reduceCtorEq, Bool.and_true, Bool.true_and, Bool.and_false, Bool.false_and, Bool.or_true, Bool.true_or, Bool.or_false, Bool.false_or, true_and, and_true, false_and, and_false, List.take_zero, List.take_succ_cons, List.drop_zero, List.drop_succ_cons, List.take_nil, List.drop_nil, List.set_cons_zero, List.set_cons_succ, Nat.reduceLeDiff, Nat.reduceLT, Nat.zero_add, Nat.lt_add_one, Nat.le_refl, clearA, Int.toNat_natCast, hlt, cf]
      exact hQ _ _ (.tup [v, fltT (0, 0)]) (by simp only [sim, List.length_cons, List.length_nil, Nat.reduceAdd, Nat.reduceSub, List.replicate, List.cons_append, List.nil_append, List.map_cons, List.map_nil, Option.bind_some, Option.map_some, Option.bind_none, Option.map_none, if_true, if_false, decide_true, decide_false, Bool.false_eq_true, Bool.true_eq_false, Bool.not_true, Bool.not_false, reduceCtorEq, Bool.and_true, Bool.true_and, Bool.and_false, Bool.false_and, Bool.or_true, Bool.true_or, Bool.or_false, Bool.false_or, true_and, and_true, false_and, and_false, List.take_zero, List.take_succ_cons, List.drop_zero, List.drop_succ_cons, List.take_nil, List.drop_nil, List.set_cons_zero, List.set_cons_succ, Nat.reduceLeDiff, Nat.reduceLT, Nat.zero_add, Nat.lt_add_one, Nat.le_refl, clearA, Int.toNat_natCast]) ((g1.trans gg).set (by omega)) (wk_scan ha _)
    | cons c r =>
      obtain ⟨d1, d2, d3, d4⟩ := drop_at hd
      have hlt : (a : Int) < (s.length : Int) := by omega
      have w1 : IntKind.wrap .i64 ((a : Int) + 1) = ((a + 1 : Nat) : Int) := w64' (by omega) (by omega) (by omega)
      have x32 : decide ((c.toNat : Int) = 32) = decide (c = 32) := u8_eq c 32 (by decide)
      have x9 : decide ((c.toNat : Int) = 9) = decide (c = 9) := u8_eq c 9 (by decide)
      have x10 : decide ((c.toNat : Int) = 10) = decide (c = 10) := u8_eq c 10 (by decide)
      have x13 : decide ((c.toNat : Int) = 13) = decide (c = 13) := u8_eq c 13 (by decide)
      have x40 : decide ((c.toNat : Int) = 40) = decide (c = 40) := u8_eq c 40 (by decide)
      have x41 : decide ((c.toNat : Int) = 41) = decide (c = 41) := u8_eq c 41 (by decide)
      have x45 : decide ((c.toNat : Int) = 45) = decide (c = 45) := u8_eq c 45 (by decide)
      have rl := fun h c => isLetter_run (h := h) c
      have rd := fun h c => isDigit_run (h := h) c
      cases hb : blankB c with
      | true =>
        have so2 := soFar_blank so hd hb
        rw [blank_eq] at hb
        cases z1 : decide (c = 32) with
        | true =>
          rw [r_lpb rc_rScan_b3.eq_1]
          simp only [sim, List.length_cons, List.length_nil, Nat.reduceAdd, Nat.reduceSub, List.replicate, List.cons_append, List.nil_append, List.map_cons, List.map_nil, Option.bind_some, Option.map_some, Option.bind_none, Option.map_none, if_true, if_false, decide_true, decide_false, Bool.false_eq_true, Bool.true_eq_false, Bool.not_true, Bool.not_false, reduceCtorEq, Bool.and_true, Bool.true_and, Bool.and_false, Bool.false_and, Bool.or_true, Bool.true_or, Bool.or_false, Bool.false_or, true_and, and_true, false_and, and_false, List.take_zero, List.take_succ_cons, List.drop_zero, List.drop_succ_cons, List.take_nil, List.drop_nil, List.set_cons_zero, List.set_cons_succ, Nat.reduceLeDiff, Nat.reduceLT, Nat.zero_add, Nat.lt_add_one, Nat.le_refl, clearA, Int.toNat_natCast, hlt, ix_str d1, w1, x32, z1]
          exact next (a + 1, acc) _ _ (by simp only; omega) ⟨_, _, _, _, _, _, _, _, _, _, _, _, _, rfl, ha, gg, so2⟩
        | false =>
          cases z2 : decide (c = 9) with
          | true =>
            rw [r_lpb rc_rScan_b3.eq_1]
            simp only [sim, List.length_cons, List.length_nil, Nat.reduceAdd, Nat.reduceSub, List.replicate, List.cons_append, List.nil_append, List.map_cons, List.map_nil, Option.bind_some, Option.map_some, Option.bind_none, Option.map_none, if_true, if_false, decide_true, decide_false, Bool.false_eq_true, Bool.true_eq_false, Bool.not_true, Bool.not_false, reduceCtorEq, Bool.and_true, Bool.true_and, Bool.and_false, Bool.false_and, Bool.or_true, Bool.true_or, Bool.or_false, Bool.false_or, true_and, and_true, false_and, and_false, List.take_zero, List.take_succ_cons, List.drop_zero, List.drop_succ_cons, List.take_nil, List.drop_nil, List.set_cons_zero, List.set_cons_succ, Nat.reduceLeDiff, Nat.reduceLT, Nat.zero_add, Nat.lt_add_one, Nat.le_refl, clearA, Int.toNat_natCast, hlt, ix_str d1, w1, x32, x9, z1, z2]
            exact next (a + 1, acc) _ _ (by simp only; omega) ⟨_, _, _, _, _, _, _, _, _, _, _, _, _, rfl, ha, gg, so2⟩
          | false =>
            cases z3 : decide (c = 10) with
            | true =>
              rw [r_lpb rc_rScan_b3.eq_1]
              simp only [sim, List.length_cons, List.length_nil, Nat.reduceAdd, Nat.reduceSub, List.replicate, List.cons_append, List.nil_append, List.map_cons, List.map_nil, Option.bind_some, Option.map_some, Option.bind_none, Option.map_none, if_true, if_false, decide_true, decide_false, Bool.false_eq_true, Bool.true_eq_false, Bool.not_true, Bool.not_false, reduceCtorEq, Bool.and_true, Bool.true_and, Bool.and_false, Bool.false_and, Bool.or_true, Bool.true_or, Bool.or_false, Bool.false_or, true_and, and_true, false_and, and_false, List.take_zero, List.take_succ_cons, List.drop_zero, List.drop_succ_cons, List.take_nil, List.drop_nil, List.set_cons_zero, List.set_cons_succ, Nat.reduceLeDiff, Nat.reduceLT, Nat.zero_add, Nat.lt_add_one, Nat.le_refl, clearA, Int.toNat_natCast, hlt, ix_str d1, w1, x32, x9, x10, z1, z2, z3]
              exact next (a + 1, acc) _ _ (by simp only; omega) ⟨_, _, _, _, _, _, _, _, _, _, _, _, _, rfl, ha, gg, so2⟩
            | false =>
              have z4 : decide (c = 13) = true := by rw [z1, z2, z3] at hb; simpa using hb
              rw [r_lpb rc_rScan_b3.eq_1]
              simp only [sim, List.length_cons, List.length_nil, Nat.reduceAdd, Nat.reduceSub, List.replicate, List.cons_append, List.nil_append, List.map_cons, List.map_nil, Option.bind_some, Option.map_some, Option.bind_none, Option.map_none, if_true, if_false, decide_true, decide_false, Bool.false_eq_true, Bool.true_eq_false, Bool.not_true, Bool.not_false, reduceCtorEq, Bool.and_true, Bool.true_and, Bool.and_false, Bool.false_and, Bool.or_true, Bool.true_or, Bool.or_false, Bool.false_or, true_and, and_true, false_and, and_false, List.take_zero, List.take_succ_cons, List.drop_zero, List.drop_succ_cons, List.take_nil, List.drop_nil, List.set_cons_zero, List.set_cons_succ, Nat.reduceLeDiff, Nat.reduceLT, Nat.zero_add, Nat.lt_add_one, Nat.le_refl, clearA, Int.toNat_natCast, hlt, ix_str d1, w1, x32, x9, x10, x13, z1, z2, z3, z4]
              exact next (a + 1, acc) _ _ (by simp only; omega) ⟨_, _, _, _, _, _, _, _, _, _, _, _, _, rfl, ha, gg, so2⟩
      | false =>
        have hb' := hb
        rw [blank_eq] at hb'
        simp only [Bool.or_eq_false_iff] at hb'
        obtain ⟨z1, z2, z3, z4⟩ := hb'
        by_cases hbr : c = 40 ∨ c = 41
        · have ho : oneD a (c :: r) = some ⟨a, [c], false, 0⟩ := if_pos hbr
          have so2 := soFar_one so hd hb ho
          have sl : sliceA (.str s) (some (.int .i64 (a : Int))) (some (.int .i64 ((a + 1 : Nat) : Int))) = some (.str [c]) := by
            rw [slc_str (by omega) (by omega), hd, Nat.add_sub_cancel_left]
            rfl
          obtain ⟨v2, h2, e2, a2, g2, k2, m2⟩ := acc_app ha gg (row := TD.row ⟨a, [c], false, 0⟩) rfl (by rw [List.length_map]; simp only; omega)
          simp only [TD.row] at e2
          have a2' : Acc h1 h2 tRk v2 (rowsT (acc ++ [⟨a, [c], false, 0⟩])) := by
            simp only [rowsT, List.map_append, List.map_cons, List.map_nil] at a2 ⊢
            exact a2
          rcases hbr with hx | hx
          · have y40 : decide (c = 40) = true := decide_eq_true hx
            rw [r_lpb rc_rScan_b3.eq_1]
            simp only [sim, List.length_cons, List.length_nil, Nat.reduceAdd, Nat.reduceSub, List.replicate, List.cons_append, List.nil_append, List.map_cons, List.map_nil, Option.bind_some, Option.map_some, Option.bind_none, Option.map_none, if_true, if_false, decide_true, decide_false, Bool.false_eq_true, Bool.true_eq_false, Bool.not_true, Bool.not_false, reduceCtorEq, Bool.and_true, Bool.true_and, Bool.and_false, Bool.false_and, Bool.or_true, Bool.true_or, Bool.or_false, Bool.false_or, true_and, and_true, false_and, and_false, List.take_zero, List.take_succ_cons, List.drop_zero, List.drop_succ_cons, List.take_nil, List.drop_nil, List.set_cons_zero, List.set_cons_succ, Nat.reduceLeDiff, Nat.reduceLT, Nat.zero_add, Nat.lt_add_one, Nat.le_refl, clearA, Int.toNat_natCast, hlt, ix_str d1, w1, x32, x9, x10, x13, z1, z2, z3, z4, x40, y40, sl, e2]
            exact next (a + 1, _) _ _ (by simp only; omega) ⟨_, _, _, _, _, _, _, _, _, _, _, _, _, rfl, a2', g2, so2⟩
          · have y40 : decide (c = 40) = false := decide_eq_false (by rw [hx]; decide)
            have y41 : decide (c = 41) = true := decide_eq_true hx
            rw [r_lpb rc_rScan_b3.eq_1]
            simp only [sim, List.length_cons, List.length_nil, Nat.reduceAdd, Nat.reduceSub, List.replicate, List.cons_append, List.nil_append, List.map_cons, List.map_nil, Option.bind_some, Option.map_some, Option.bind_none, Option.map_none, if_true, if_false, decide_true, decide_false, Bool.false_eq_true, Bool.true_eq_false, Bool.not_true, Bool.not_false, reduceCtorEq, Bool.and_true, Bool.true_and, Bool.and_false, Bool.false_and, Bool.or_true, Bool.true_or, Bool.or_false, Bool.false_or, true_and, and_true, false_and, and_false, List.take_zero, List.take_succ_cons, List.drop_zero, List.drop_succ_cons, List.take_nil, List.drop_nil, List.set_cons_zero, List.set_cons_succ, Nat.reduceLeDiff, Nat.reduceLT, Nat.zero_add, Nat.lt_add_one, Nat.le_refl, clearA, Int.toNat_natCast, hlt, ix_str d1, w1, x32, x9, x10, x13, z1, z2, z3, z4, x40, x41, y40, y41, sl, e2]
            exact next (a + 1, _) _ _ (by simp only; omega) ⟨_, _, _, _, _, _, _, _, _, _, _, _, _, rfl, a2', g2, so2⟩
        · have y40 : decide (c = 40) = false := decide_eq_false fun e => hbr (.inl e)
          have y41 : decide (c = 41) = false := decide_eq_false fun e => hbr (.inr e)
          cases hl : letB c with
          | true =>
            have ho : oneD a (c :: r) = some ⟨a, c :: r.takeWhile letB, false, 0⟩ := by rw [oneD, if_neg hbr, if_pos hl]
            have so2 := soFar_one so hd hb ho
            have hin := tw_at (f := letB) r
            have hend := tw_end (f := letB) r
            have hle : (r.takeWhile letB).length ≤ r.length := (List.takeWhile_sublist _).length_le
            have sl : sliceA (.str s) (some (.int .i64 (a : Int))) (some (.int .i64 ((a + 1 + (r.takeWhile letB).length : Nat) : Int))) = some (.str (c :: r.takeWhile letB)) := by
              rw [slc_str (by omega) (by omega), hd, show a + 1 + (r.takeWhile letB).length - a = (r.takeWhile letB).length + 1 by omega, List.take_succ_cons, take_tw]
            have hj : a + (c :: r.takeWhile letB).length = a + 1 + (r.takeWhile letB).length := by rw [List.length_cons]; omega
            simp only at so2
            rw [hj] at so2
            obtain ⟨v2, h2, e2, a2, g2, k2, m2⟩ := acc_app ha gg (row := TD.row ⟨a, c :: r.takeWhile letB, false, 0⟩) rfl (by rw [List.length_map]; simp only; omega)
            simp only [TD.row] at e2
            have a2' : Acc h1 h2 tRk v2 (rowsT (acc ++ [⟨a, c :: r.takeWhile letB, false, 0⟩])) := by
              simp only [rowsT, List.map_append, List.map_cons, List.map_nil] at a2 ⊢
              exact a2
            generalize c :: r.takeWhile letB = tx at *
            generalize (r.takeWhile letB).length = n at *
            rw [r_lpb rc_rScan_b3.eq_1]
            simp only [sim, List.length_cons, List.length_nil, Nat.reduceAdd, Nat.reduceSub, List.replicate, List.cons_append, List.nil_append, List.map_cons, List.map_nil, Option.bind_some, Option.map_some, Option.bind_none, Option.map_none, if_true, if_false, decide_true, decide_false, Bool.false_eq_true, Bool.true_eq_false, Bool.not_true, Bool.not_false, reduceCtorEq, Bool.and_true, Bool.true_and, Bool.and_false, Bool.false_and, Bool.or_true, Bool.true_or, Bool.or_false, Bool.false_or, true_and, and_true, false_and, and_false, List.take_zero, List.take_succ_cons, List.drop_zero, List.drop_succ_cons, List.take_nil, List.drop_nil, List.set_cons_zero, List.set_cons_succ, Nat.reduceLeDiff, Nat.reduceLT, Nat.zero_add, Nat.lt_add_one, Nat.le_refl, clearA, Int.toNat_natCast, hlt, ix_str d1, w1, x32, x9, x10, x13, z1, z2, z3, z4, x40, x41, y40, y41, rl, hl]
            refine loop_Q (fun k V h'' => ∃ w14, V = [.str s, .nils, .ptr h.n 0 0, v, .int .i64 (a : Int), .int .u8 c.toNat, .int .i64 ((a + 1 + k : Nat) : Int), w7, w8, .bool false, .bool true, .bool false, .bool false, .bool true, w14, w15, w16, w17] ∧ h'' = h') n ⟨_, rfl, rfl⟩ ?_ ?_
            · rintro k V h'' hk ⟨w14', rfl, rfl⟩ next2
              obtain ⟨x, hx, hfx⟩ := hin k hk
              rw [← d3, List.getElem?_drop] at hx
              have hlt2 : ((a + 1 + k : Nat) : Int) < (s.length : Int) := by omega
              have w2 : IntKind.wrap .i64 (((a + 1 + k : Nat) : Int) + 1) = ((a + 1 + (k + 1) : Nat) : Int) := w64' (by omega) (by omega) (by omega)
              rw [r_lpb rc_rScan_b2.eq_1]
              simp only [sim, List.length_cons, List.length_nil, Nat.reduceAdd, Nat.reduceSub, List.replicate, List.cons_append, List.nil_append, List.map_cons, List.map_nil, Option.bind_some, Option.map_some, Option.bind_none, Option.map_none, if_true, if_false, decide_true, decide_false, Bool.false_eq_true, Bool.true_eq_false, Bool.not_true, Bool.not_false, reduceCtorEq, Bool.and_true, Bool.true_and, Bool.and_false, Bool.false_and, Bool.or_true, Bool.true_or, Bool.or_false, Bool.false_or, true_and, and_true, false_and, and_false, List.take_zero, List.take_succ_cons, List.drop_zero, List.drop_succ_cons, List.take_nil, List.drop_nil, List.set_cons_zero, List.set_cons_succ, Nat.reduceLeDiff, Nat.reduceLT, Nat.zero_add, Nat.lt_add_one, Nat.le_refl, clearA, Int.toNat_natCast, hlt2, ix_str hx, rl, hfx, w2]
              exact next2 _ _ ⟨_, rfl, rfl⟩
            · rintro V h'' ⟨w14', rfl, rfl⟩
              rcases hend with he | ⟨x, hx, hfx⟩
              · have hlt2 : ¬ ((a + 1 + n : Nat) : Int) < (s.length : Int) := by omega
                rw [r_lpb rc_rScan_b2.eq_1]
                simp only [sim, List.length_cons, List.length_nil, Nat.reduceAdd, Nat.reduceSub, List.replicate, List.cons_append, List.nil_append, List.map_cons, List.map_nil, Option.bind_some, Option.map_some, Option.bind_none, Option.map_none, if_true, if_false, decide_true, decide_false, Bool.false_eq_true, Bool.true_eq_false, Bool.not_true, Bool.not_false, reduceCtorEq, Bool.and_true, Bool.true_and, Bool.and_false, Bool.false_and, Bool.or_true, Bool.true_or, Bool.or_false, Bool.false_or, true_and, and_true, false_and, and_false, List.take_zero, List.take_succ_cons, List.drop_zero, List.drop_succ_cons, List.take_nil, List.drop_nil, List.set_cons_zero, List.set_cons_succ, Nat.reduceLeDiff, Nat.reduceLT, Nat.zero_add, Nat.lt_add_one, Nat.le_refl, clearA, Int.toNat_natCast, hlt2, sl, e2]
                exact next (a + 1 + n, _) _ _ (by simp only; omega) ⟨_, _, _, _, _, _, _, _, _, _, _, _, _, rfl, a2', g2, so2⟩
              · rw [← d3, List.getElem?_drop] at hx
                have hlt2 : ((a + 1 + n : Nat) : Int) < (s.length : Int) := by
                  have := (List.getElem?_eq_some_iff.1 hx).1
                  omega
                rw [r_lpb rc_rScan_b2.eq_1]
                simp only [sim, List.length_cons, List.length_nil, Nat.reduceAdd, Nat.reduceSub, List.replicate, List.cons_append, List.nil_append, List.map_cons, List.map_nil, Option.bind_some, Option.map_some, Option.bind_none, Option.map_none, if_true, if_false, decide_true, decide_false, Bool.false_eq_true, Bool.true_eq_false, Bool.not_true, Bool.not_false, reduceCtorEq, Bool.and_true, Bool.true_and, Bool.and_false, Bool.false_and, Bool.or_true, Bool.true_or, Bool.or_false, Bool.false_or, true_and, and_true, false_and, and_false, List.take_zero, List.take_succ_cons, List.drop_zero, List.drop_succ_cons, List.take_nil, List.drop_nil, List.set_cons_zero, List.set_cons_succ, Nat.reduceLeDiff, Nat.reduceLT, Nat.zero_add, Nat.lt_add_one, Nat.le_refl, clearA, Int.toNat_natCast, hlt2, ix_str hx, rl, hfx, sl, e2]
                exact next (a + 1 + n, _) _ _ (by simp only; omega) ⟨_, _, _, _, _, _, _, _, _, _, _, _, _, rfl, a2', g2, so2⟩
          | false =>
            by_cases hdg : digB c = true ∨ c = 45
            · have ho : oneD a (c :: r) = (longD (c :: r.takeWhile digB)).map fun n => ⟨a, c :: r.takeWhile digB, true, n⟩ := by rw [oneD, if_neg hbr, hl, if_neg (by simp), if_pos hdg]
              have hin := tw_at (f := digB) r
              have hend := tw_end (f := digB) r
              have hle : (r.takeWhile digB).length ≤ r.length := (List.takeWhile_sublist _).length_le
              have sl : sliceA (.str s) (some (.int .i64 (a : Int))) (some (.int .i64 ((a + 1 + (r.takeWhile digB).length : Nat) : Int))) = some (.str (c :: r.takeWhile digB)) := by
                rw [slc_str (by omega) (by omega), hd, show a + 1 + (r.takeWhile digB).length - a = (r.takeWhile digB).length + 1 by omega, List.take_succ_cons, take_tw]
              have hj : a + (c :: r.takeWhile digB).length = a + 1 + (r.takeWhile digB).length := by rw [List.length_cons]; omega
              have cl := fun h => LongOf_run (h := h) (c :: r.takeWhile digB) (by rw [List.length_cons]; omega)
              have more : ∀ n, longD (c :: r.takeWhile digB) = some n → soFar s (a + 1 + (r.takeWhile digB).length, acc ++ [⟨a, c :: r.takeWhile digB, true, n⟩]) := by
                intro n hn
                rw [hn] at ho
                have := soFar_one so hd hb ho
                simp only at this
                rw [hj] at this
                exact this
              have none_ : longD (c :: r.takeWhile digB) = none → scanR s = ([], (7, (a : Int))) := by
                intro hn
                rw [hn] at ho
                exact scan_err h6 (soFar_none so hd hb ho)
              have dd : (digB c = true ∧ True) ∨ (digB c = false ∧ decide (c = 45) = true) := by
                cases h9 : digB c with
                | true => exact .inl ⟨rfl, trivial⟩
                | false => exact .inr ⟨rfl, decide_eq_true (hdg.resolve_left (by simp [h9]))⟩
              clear ho hj
              generalize c :: r.takeWhile digB = tx at sl cl more none_
              generalize (r.takeWhile digB).length = n at hin hend hle sl more
              rcases dd with ⟨q1, _⟩ | ⟨q1, q2⟩
              · rw [r_lpb rc_rScan_b3.eq_1]
                simp only [sim, List.length_cons, List.length_nil, Nat.reduceAdd, Nat.reduceSub, List.replicate, List.cons_append, List.nil_append, List.map_cons, List.map_nil, Option.bind_some, Option.map_some, Option.bind_none, Option.map_none, if_true, if_false, decide_true, decide_false, Bool.false_eq_true, Bool.true_eq_false, Bool.not_true, Bool.not_false, reduceCtorEq, Bool.and_true, Bool.true_and, Bool.and_false, Bool.false_and, Bool.or_true, Bool.true_or, Bool.or_false, Bool.false_or, true_and, and_true, false_and, and_false, List.take_zero, List.take_succ_cons, List.drop_zero, List.drop_succ_cons, List.take_nil, List.drop_nil, List.set_cons_zero, List.set_cons_succ, Nat.reduceLeDiff, Nat.reduceLT, Nat.zero_add, Nat.lt_add_one, Nat.le_refl, clearA, Int.toNat_natCast, hlt, ix_str d1, w1, x32, x9, x10, x13, z1, z2, z3, z4, x40, x41, y40, y41, rl, hl, rd, q1]
                refine loop_Q (fun k V h'' => ∃ w16, V = [.str s, .nils, .ptr h.n 0 0, v, .int .i64 (a : Int), .int .u8 c.toNat, .int .i64 ((a + 1 + k : Nat) : Int), w7, w8, .bool false, .bool true, .bool false, .bool false, .bool false, w14, .bool true, w16, w17] ∧ h'' = h') n ⟨_, rfl, rfl⟩ ?_ ?_
                · rintro k V h'' hk ⟨w16', rfl, rfl⟩ next2
                  obtain ⟨x, hx, hfx⟩ := hin k hk
                  rw [← d3, List.getElem?_drop] at hx
                  have hlt2 : ((a + 1 + k : Nat) : Int) < (s.length : Int) := by omega
                  have w2 : IntKind.wrap .i64 (((a + 1 + k : Nat) : Int) + 1) = ((a + 1 + (k + 1) : Nat) : Int) := w64' (by omega) (by omega) (by omega)
                  rw [r_lpb rc_rScan_b1.eq_1]
                  simp only [sim, List.length_cons, List.length_nil, Nat.reduceAdd, Nat.reduceSub, List.replicate, List.cons_append, List.nil_append, List.map_cons, List.map_nil, Option.bind_some, Option.map_some, Option.bind_none, Option.map_none, if_true, if_false, decide_true, decide_false, Bool.false_eq_true, Bool.true_eq_false, Bool.not_true, Bool.not_false, reduceCtorEq, Bool.and_true, Bool.true_and, Bool.and_false, Bool.false_and, Bool.or_true, Bool.true_or, Bool.or_false, Bool.false_or, true_and, and_true, false_and, and_false, List.take_zero, List.take_succ_cons, List.drop_zero, List.drop_succ_cons, List.take_nil, List.drop_nil, List.set_cons_zero, List.set_cons_succ, Nat.reduceLeDiff, Nat.reduceLT, Nat.zero_add, Nat.lt_add_one, Nat.le_refl, clearA, Int.toNat_natCast, hlt2, ix_str hx, rd, hfx, w2]
                  exact next2 _ _ ⟨_, rfl, rfl⟩
                · rintro V h'' ⟨w16', rfl, rfl⟩
                  rcases hend with he | ⟨x, hx, hfx⟩
                  · have hlt2 : ¬ ((a + 1 + n : Nat) : Int) < (s.length : Int) := by omega
                    cases hlg : longD tx with
                    | none =>
                      rw [none_ hlg] at hQ
                      rw [hlg] at cl
                      simp only at cl
                      rw [r_lpb rc_rScan_b1.eq_1]
                      simp only [sim, List.length_cons, List.length_nil, Nat.reduceAdd, Nat.reduceSub, List.replicate, List.cons_append, List.nil_append, List.map_cons, List.map_nil, Option.bind_some, Option.map_some, Option.bind_none, Option.map_none, if_true, if_false, decide_true, decide_false, Bool.false_eq_true, Bool.true_eq_false, Bool.not_true, Bool.not_false, reduceCtorEq, Bool.and_true, Bool.true_and, Bool.and_false, Bool.false_and, Bool.or_true, Bool.true_or, Bool.or_false, Bool.false_or, true_and, and_true, false_and, and_false, List.take_zero, List.take_succ_cons, List.drop_zero, List.drop_succ_cons, List.take_nil, List.drop_nil, List.set_cons_zero, List.set_cons_succ, Nat.reduceLeDiff, Nat.reduceLT, Nat.zero_add, Nat.lt_add_one, Nat.le_refl, clearA, Int.toNat_natCast, hlt2, sl, cl, cF, cf]
                      exact hQ _ _ (.tup [.nils, fltT (7, a)]) (by simp only [sim, List.length_cons, List.length_nil, Nat.reduceAdd, Nat.reduceSub, List.replicate, List.cons_append, List.nil_append, List.map_cons, List.map_nil, Option.bind_some, Option.map_some, Option.bind_none, Option.map_none, if_true, if_false, decide_true, decide_false, Bool.false_eq_true, Bool.true_eq_false, Bool.not_true, Bool.not_false, reduceCtorEq, Bool.and_true, Bool.true_and, Bool.and_false, Bool.false_and, Bool.or_true, Bool.true_or, Bool.or_false, Bool.false_or, true_and, and_true, false_and, and_false, List.take_zero, List.take_succ_cons, List.drop_zero, List.drop_succ_cons, List.take_nil, List.drop_nil, List.set_cons_zero, List.set_cons_succ, Nat.reduceLeDiff, Nat.reduceLT, Nat.zero_add, Nat.lt_add_one, Nat.le_refl, clearA, Int.toNat_natCast]) ((g1.trans gg).set (by omega)) rfl
                    | some z =>
                      have so2 := more z hlg
                      rw [hlg] at cl
                      simp only at cl
                      obtain ⟨v2, h2, e2, a2, g2, k2, m2⟩ := acc_app ha gg (row := TD.row ⟨a, tx, true, z⟩) rfl (by rw [List.length_map]; simp only; omega)
                      simp only [TD.row] at e2
                      have a2' : Acc h1 h2 tRk v2 (rowsT (acc ++ [⟨a, tx, true, z⟩])) := by
                        simp only [rowsT, List.map_append, List.map_cons, List.map_nil] at a2 ⊢
                        exact a2
                      rw [r_lpb rc_rScan_b1.eq_1]
                      simp only [sim, List.length_cons, List.length_nil, Nat.reduceAdd, Nat.reduceSub, List.replicate, List.cons_append, List.nil_append, List.map_cons, List.map_nil, Option.bind_some, Option.map_some, Option.bind_none, Option.map_none, if_true, if_false, decide_true, decide_false, Bool.false_eq_true, Bool.true_eq_false, Bool.not_true, Bool.not_false, reduceCtorEq, Bool.and_true, Bool.true_and, Bool.and_false, Bool.false_and, Bool.or_true, Bool.true_or, Bool.or_false, Bool.false_or, true_and, and_true, false_and, and_false, List.take_zero, List.take_succ_cons, List.drop_zero, List.drop_succ_cons, List.take_nil, List.drop_nil, List.set_cons_zero, List.set_cons_succ, Nat.reduceLeDiff, Nat.reduceLT, Nat.zero_add, Nat.lt_add_one, Nat.le_refl, clearA, Int.toNat_natCast, hlt2, sl, cl, e2]
                      exact next (a + 1 + n, _) _ _ (by simp only; omega) ⟨_, _, _, _, _, _, _, _, _, _, _, _, _, rfl, a2', g2, so2⟩
                  · rw [← d3, List.getElem?_drop] at hx
                    have hlt2 : ((a + 1 + n : Nat) : Int) < (s.length : Int) := by
                      have := (List.getElem?_eq_some_iff.1 hx).1
                      omega
                    cases hlg : longD tx with
                    | none =>
                      rw [none_ hlg] at hQ
                      rw [hlg] at cl
                      simp only at cl
                      rw [r_lpb rc_rScan_b1.eq_1]
                      simp only [sim, List.length_cons, List.length_nil, Nat.reduceAdd, Nat.reduceSub, List.replicate, List.cons_append, List.nil_append, List.map_cons, List.map_nil, Option.bind_some, Option.map_some, Option.bind_none, Option.map_none, if_true, if_false, decide_true, decide_false, Bool.false_eq_true, Bool.true_eq_false, Bool.not_true, Bool.not_false, reduceCtorEq, Bool.and_true, Bool.true_and, Bool.and_false, Bool.false_and, Bool.or_true, Bool.true_or, Bool.or_false, Bool.false_or, true_and, and_true, false_and, and_false, List.take_zero, List.take_succ_cons, List.drop_zero, List.drop_succ_cons, List.take_nil, List.drop_nil, List.set_cons_zero, List.set_cons_succ, Nat.reduceLeDiff, Nat.reduceLT, Nat.zero_add, Nat.lt_add_one, Nat.le_refl, clearA, Int.toNat_natCast, hlt2, ix_str hx, rd, hfx, sl, cl, cF, cf]
                      exact hQ _ _ (.tup [.nils, fltT (7, a)]) (by simp only [sim, List.length_cons, List.length_nil, Nat.reduceAdd, Nat.reduceSub, List.replicate, List.cons_append, List.nil_append, List.map_cons, List.map_nil, Option.bind_some, Option.map_some, Option.bind_none, Option.map_none, if_true, if_false, decide_true, decide_false, Bool.false_eq_true, Bool.true_eq_false, Bool.not_true, Bool.not_false, reduceCtorEq, Bool.and_true, Bool.true_and, Bool.and_false, Bool.false_and, Bool.or_true, Bool.true_or, Bool.or_false, Bool.false_or, true_and, and_true, false_and, and_false, List.take_zero, List.take_succ_cons, List.drop_zero, List.drop_succ_cons, List.take_nil, List.drop_nil, List.set_cons_zero, List.set_cons_succ, Nat.reduceLeDiff, Nat.reduceLT, Nat.zero_add, Nat.lt_add_one, Nat.le_refl, clearA, Int.toNat_natCast]) ((g1.trans gg).set (by omega)) rfl
                    | some z =>
                      have so2 := more z hlg
                      rw [hlg] at cl
                      simp only at cl
                      obtain ⟨v2, h2, e2, a2, g2, k2, m2⟩ := acc_app ha gg (row := TD.row ⟨a, tx, true, z⟩) rfl (by rw [List.length_map]; simp only; omega)
                      simp only [TD.row] at e2
                      have a2' : Acc h1 h2 tRk v2 (rowsT (acc ++ [⟨a, tx, true, z⟩])) := by
                        simp only [rowsT, List.map_append, List.map_cons, List.map_nil] at a2 ⊢
                        exact a2
                      rw [r_lpb rc_rScan_b1.eq_1]
                      simp only [sim, List.length_cons, List.length_nil, Nat.reduceAdd, Nat.reduceSub, List.replicate, List.cons_append, List.nil_append, List.map_cons, List.map_nil, Option.bind_some, Option.map_some, Option.bind_none, Option.map_none, if_true, if_false, decide_true, decide_false, Bool.false_eq_true, Bool.true_eq_false, Bool.not_true, Bool.not_false, reduceCtorEq, Bool.and_true, Bool.true_and, Bool.and_false, Bool.false_and, Bool.or_true, Bool.true_or, Bool.or_false, Bool.false_or, true_and, and_true, false_and, and_false, List.take_zero, List.take_succ_cons, List.drop_zero, List.drop_succ_cons, List.take_nil, List.drop_nil, List.set_cons_zero, List.set_cons_succ, Nat.reduceLeDiff, Nat.reduceLT, Nat.zero_add, Nat.lt_add_one, Nat.le_refl, clearA, Int.toNat_natCast, hlt2, ix_str hx, rd, hfx, sl, cl, e2]
                      exact next (a + 1 + n, _) _ _ (by simp only; omega) ⟨_, _, _, _, _, _, _, _, _, _, _, _, _, rfl, a2', g2, so2⟩
              · rw [r_lpb rc_rScan_b3.eq_1]
                simp only [sim, List.length_cons, List.length_nil, Nat.reduceAdd, Nat.reduceSub, List.replicate, List.cons_append, List.nil_append, List.map_cons, List.map_nil, Option.bind_some, Option.map_some, Option.bind_none, Option.map_none, if_true, if_false, decide_true, decide_false, Bool.false_eq_true, Bool.true_eq_false, Bool.not_true, Bool.not_false, reduceCtorEq, Bool.and_true, Bool.true_and, Bool.and_false, Bool.false_and, Bool.or_true, Bool.true_or, Bool.or_false, Bool.false_or, true_and, and_true, false_and, and_false, List.take_zero, List.take_succ_cons, List.drop_zero, List.drop_succ_cons, List.take_nil, List.drop_nil, List.set_cons_zero, List.set_cons_succ, Nat.reduceLeDiff, Nat.reduceLT, Nat.zero_add, Nat.lt_add_one, Nat.le_refl, clearA, Int.toNat_natCast, hlt, ix_str d1, w1, x32, x9, x10, x13, z1, z2, z3, z4, x40, x41, y40, y41, x45, rl, hl, rd, q1, q2]
                refine loop_Q (fun k V h'' => ∃ w16, V = [.str s, .nils, .ptr h.n 0 0, v, .int .i64 (a : Int), .int .u8 c.toNat, .int .i64 ((a + 1 + k : Nat) : Int), w7, w8, .bool false, .bool true, .bool false, .bool false, .bool false, w14, .bool true, w16, w17] ∧ h'' = h') n ⟨_, rfl, rfl⟩ ?_ ?_
                · rintro k V h'' hk ⟨w16', rfl, rfl⟩ next2
                  obtain ⟨x, hx, hfx⟩ := hin k hk
                  rw [← d3, List.getElem?_drop] at hx
                  have hlt2 : ((a + 1 + k : Nat) : Int) < (s.length : Int) := by omega
                  have w2 : IntKind.wrap .i64 (((a + 1 + k : Nat) : Int) + 1) = ((a + 1 + (k + 1) : Nat) : Int) := w64' (by omega) (by omega) (by omega)
                  rw [r_lpb rc_rScan_b1.eq_1]
                  simp only [sim, List.length_cons, List.length_nil, Nat.reduceAdd, Nat.reduceSub, List.replicate, List.cons_append, List.nil_append, List.map_cons, List.map_nil, Option.bind_some, Option.map_some, Option.bind_none, Option.map_none, if_true, if_false, decide_true, decide_false, Bool.false_eq_true, Bool.true_eq_false, Bool.not_true, Bool.not_false, reduceCtorEq, Bool.and_true, Bool.true_and, Bool.and_false, Bool.false_and, Bool.or_true, Bool.true_or, Bool.or_false, Bool.false_or, true_and, and_true, false_and, and_false, List.take_zero, List.take_succ_cons, List.drop_zero, List.drop_succ_cons, List.take_nil, List.drop_nil, List.set_cons_zero, List.set_cons_succ, Nat.reduceLeDiff, Nat.reduceLT, Nat.zero_add, Nat.lt_add_one, Nat.le_refl, clearA, Int.toNat_natCast, hlt2, ix_str hx, rd, hfx, w2]
                  exact next2 _ _ ⟨_, rfl, rfl⟩
                · rintro V h'' ⟨w16', rfl, rfl⟩
                  rcases hend with he | ⟨x, hx, hfx⟩
                  · have hlt2 : ¬ ((a + 1 + n : Nat) : Int) < (s.length : Int) := by omega
                    cases hlg : longD tx with
                    | none =>
                      rw [none_ hlg] at hQ
                      rw [hlg] at cl
                      simp only at cl
                      rw [r_lpb rc_rScan_b1.eq_1]
                      simp only [sim, List.length_cons, List.length_nil, Nat.reduceAdd, Nat.reduceSub, List.replicate, List.cons_append, List.nil_append, List.map_cons, List.map_nil, Option.bind_some, Option.map_some, Option.bind_none, Option.map_none, if_true, if_false, decide_true, decide_false, Bool.false_eq_true, Bool.true_eq_false, Bool.not_true, Bool.not_false, reduceCtorEq, Bool.and_true, Bool.true_and, Bool.and_false, Bool.false_and, Bool.or_true, Bool.true_or, Bool.or_false, Bool.false_or, true_and, and_true, false_and, and_false, List.take_zero, List.take_succ_cons, List.drop_zero, List.drop_succ_cons, List.take_nil, List.drop_nil, List.set_cons_zero, List.set_cons_succ, Nat.reduceLeDiff, Nat.reduceLT, Nat.zero_add, Nat.lt_add_one, Nat.le_refl, clearA, Int.toNat_natCast, hlt2, sl, cl, cF, cf]
                      exact hQ _ _ (.tup [.nils, fltT (7, a)]) (by simp only [sim, List.length_cons, List.length_nil, Nat.reduceAdd, Nat.reduceSub, List.replicate, List.cons_append, List.nil_append, List.map_cons, List.map_nil, Option.bind_some, Option.map_some, Option.bind_none, Option.map_none, if_true, if_false, decide_true, decide_false, Bool.false_eq_true, Bool.true_eq_false, Bool.not_true, Bool.not_false, reduceCtorEq, Bool.and_true, Bool.true_and, Bool.and_false, Bool.false_and, Bool.or_true, Bool.true_or, Bool.or_false, Bool.false_or, true_and, and_true, false_and, and_false, List.take_zero, List.take_succ_cons, List.drop_zero, List.drop_succ_cons, List.take_nil, List.drop_nil, List.set_cons_zero, List.set_cons_succ, Nat.reduceLeDiff, Nat.reduceLT, Nat.zero_add, Nat.lt_add_one, Nat.le_refl, clearA, Int.toNat_natCast]) ((g1.trans gg).set (by omega)) rfl
                    | some z =>
                      have so2 := more z hlg
                      rw [hlg] at cl
                      simp only at cl
                      obtain ⟨v2, h2, e2, a2, g2, k2, m2⟩ := acc_app ha gg (row := TD.row ⟨a, tx, true, z⟩) rfl (by rw [List.length_map]; simp only; omega)
                      simp only [TD.row] at e2
                      have a2' : Acc h1 h2 tRk v2 (rowsT (acc ++ [⟨a, tx, true, z⟩])) := by
                        simp only [rowsT, List.map_append, List.map_cons, List.map_nil] at a2 ⊢
                        exact a2
                      rw [r_lpb rc_rScan_b1.eq_1]
                      simp only [sim, List.length_cons, List.length_nil, Nat.reduceAdd, Nat.reduceSub, List.replicate, List.cons_append, List.nil_append, List.map_cons, List.map_nil, Option.bind_some, Option.map_some, Option.bind_none, Option.map_none, if_true, if_false, decide_true, decide_false, Bool.false_eq_true, Bool.true_eq_false, Bool.not_true, Bool.not_false, reduceCtorEq, Bool.and_true, Bool.true_and, Bool.and_false, Bool.false_and, Bool.or_true, Bool.true_or, Bool.or_false, Bool.false_or, true_and, and_true, false_and, and_false, List.take_zero, List.take_succ_cons, List.drop_zero, List.drop_succ_cons, List.take_nil, List.drop_nil, List.set_cons_zero, List.set_cons_succ, Nat.reduceLeDiff, Nat.reduceLT, Nat.zero_add, Nat.lt_add_one, Nat.le_refl, clearA, Int.toNat_natCast, hlt2, sl, cl, e2]
                      exact next (a + 1 + n, _) _ _ (by simp only; omega) ⟨_, _, _, _, _, _, _, _, _, _, _, _, _, rfl, a2', g2, so2⟩
                  · rw [← d3, List.getElem?_drop] at hx
                    have hlt2 : ((a + 1 + n : Nat) : Int) < (s.length : Int) := by
                      have := (List.getElem?_eq_some_iff.1 hx).1
                      omega
                    cases hlg : longD tx with
                    | none =>
                      rw [none_ hlg] at hQ
                      rw [hlg] at cl
                      simp only at cl
                      rw [r_lpb rc_rScan_b1.eq_1]
                      simp only [sim, List.length_cons, List.length_nil, Nat.reduceAdd, Nat.reduceSub, List.replicate, List.cons_append, List.nil_append, List.map_cons, List.map_nil, Option.bind_some, Option.map_some, Option.bind_none, Option.map_none, if_true, if_false, decide_true, decide_false, Bool.false_eq_true, Bool.true_eq_false, Bool.not_true, Bool.not_false, reduceCtorEq, Bool.and_true, Bool.true_and, Bool.and_false, Bool.false_and, Bool.or_true, Bool.true_or, Bool.or_false, Bool.false_or, true_and, and_true, false_and, and_false, List.take_zero, List.take_succ_cons, List.drop_zero, List.drop_succ_cons, List.take_nil, List.drop_nil, List.set_cons_zero, List.set_cons_succ, Nat.reduceLeDiff, Nat.reduceLT, Nat.zero_add, Nat.lt_add_one, Nat.le_refl, clearA, Int.toNat_natCast, hlt2, ix_str hx, rd, hfx, sl, cl, cF, cf]
                      exact hQ _ _ (.tup [.nils, fltT (7, a)]) (by simp only [sim, List.length_cons, List.length_nil, Nat.reduceAdd, Nat.reduceSub, List.replicate, List.cons_append, List.nil_append, List.map_cons, List.map_nil, Option.bind_some, Option.map_some, Option.bind_none, Option.map_none, if_true, if_false, decide_true, decide_false, Bool.false_eq_true, Bool.true_eq_false, Bool.not_true, Bool.not_false, reduceCtorEq, Bool.and_true, Bool.true_and, Bool.and_false, Bool.false_and, Bool.or_true, Bool.true_or, Bool.or_false, Bool.false_or, true_and, and_true, false_and, and_false, List.take_zero, List.take_succ_cons, List.drop_zero, List.drop_succ_cons, List.take_nil, List.drop_nil, List.set_cons_zero, List.set_cons_succ, Nat.reduceLeDiff, Nat.reduceLT, Nat.zero_add, Nat.lt_add_one, Nat.le_refl, clearA, Int.toNat_natCast]) ((g1.trans gg).set (by omega)) rfl
                    | some z =>
                      have so2 := more z hlg
                      rw [hlg] at cl
                      simp only at cl
                      obtain ⟨v2, h2, e2, a2, g2, k2, m2⟩ := acc_app ha gg (row := TD.row ⟨a, tx, true, z⟩) rfl (by rw [List.length_map]; simp only; omega)
                      simp only [TD.row] at e2
                      have a2' : Acc h1 h2 tRk v2 (rowsT (acc ++ [⟨a, tx, true, z⟩])) := by
                        simp only [rowsT, List.map_append, List.map_cons, List.map_nil] at a2 ⊢
                        exact a2
                      rw [r_lpb rc_rScan_b1.eq_1]
                      simp only [sim, List.length_cons, List.length_nil, Nat.reduceAdd, Nat.reduceSub, List.replicate, List.cons_append, List.nil_append, List.map_cons, List.map_nil, Option.bind_some, Option.map_some, Option.bind_none, Option.map_none, if_true, if_false, decide_true, decide_false, Bool.false_eq_true, Bool.true_eq_false, Bool.not_true, Bool.not_false, reduceCtorEq, Bool.and_true, Bool.true_and, Bool.and_false, Bool.false_and, Bool.or_true, Bool.true_or, Bool.or_false, Bool.false_or, true_and, and_true, false_and, and_false, List.take_zero, List.take_succ_cons, List.drop_zero, List.drop_succ_cons, List.take_nil, List.drop_nil, List.set_cons_zero, List.set_cons_succ, Nat.reduceLeDiff, Nat.reduceLT, Nat.zero_add, Nat.lt_add_one, Nat.le_refl, clearA, Int.toNat_natCast, hlt2, ix_str hx, rd, hfx, sl, cl, e2]
                      exact next (a + 1 + n, _) _ _ (by simp only; omega) ⟨_, _, _, _, _, _, _, _, _, _, _, _, _, rfl, a2', g2, so2⟩
            · have ho : oneD a (c :: r) = none := by rw [oneD, if_neg hbr, hl, if_neg (by simp), if_neg hdg]
              have e := scan_err h6 (soFar_none so hd hb ho)
              rw [e] at hQ
              have y1 : digB c = false := by
                cases h9 : digB c with
                | true => exact absurd (.inl h9) hdg
                | false => rfl
              have y2 : decide (c = 45) = false := decide_eq_false fun e => hdg (.inr e)
              rw [r_lpb rc_rScan_b3.eq_1]
              simp only [sim, List.length_cons, List.length_nil, Nat.reduceAdd, Nat.reduceSub, List.replicate, List.cons_append, List.nil_append, List.map_cons, List.map_nil, Option.bind_some, Option.map_some, Option.bind_none, Option.map_none, if_true, if_false, decide_true, decide_false, Bool.false_eq_true, Bool.true_eq_false, Bool.not_true, Bool.not_false, reduceCtorEq, Bool.and_true, Bool.true_and, Bool.and_false, Bool.false_and, Bool.or_true, Bool.true_or, Bool.or_false, Bool.false_or, true_and, and_true, false_and, and_false, List.take_zero, List.take_succ_cons, List.drop_zero, List.drop_succ_cons, List.take_nil, List.drop_nil, List.set_cons_zero, List.set_cons_succ, Nat.reduceLeDiff, Nat.reduceLT, Nat.zero_add, Nat.lt_add_one, Nat.le_refl, clearA, Int.toNat_natCast, hlt, ix_str d1, w1, x32, x9, x10, x13, z1, z2, z3, z4, x40, x41, x45, y40, y41, rl, hl, rd, y1, y2, cF, cf]
              exact hQ _ _ (.tup [.nils, fltT (7, a)]) (by simp only [sim, List.length_cons, List.length_nil, Nat.reduceAdd, Nat.reduceSub, List.replicate, List.cons_append, List.nil_append, List.map_cons, List.map_nil, Option.bind_some, Option.map_some, Option.bind_none, Option.map_none, if_true, if_false, decide_true, decide_false, Bool.false_eq_true, Bool.true_eq_false, Bool.not_true, Bool.not_false, reduceCtorEq, Bool.and_true, Bool.true_and, Bool.and_false, Bool.false_and, Bool.or_true, Bool.true_or, Bool.or_false, Bool.false_or, true_and, and_true, false_and, and_false, List.take_zero, List.take_succ_cons, List.drop_zero, List.drop_succ_cons, List.take_nil, List.drop_nil, List.set_cons_zero, List.set_cons_succ, Nat.reduceLeDiff, Nat.reduceLT, Nat.zero_add, Nat.lt_add_one, Nat.le_refl, clearA, Int.toNat_natCast]) ((g1.trans gg).set (by omega)) rfl
end
end Go.Proofs.YtngphebjmmencaaDoor
