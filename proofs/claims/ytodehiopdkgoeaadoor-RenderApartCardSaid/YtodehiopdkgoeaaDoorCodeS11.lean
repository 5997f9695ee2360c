/- code in the plain model: modules are judged. -/
import Derived.Test.YtodehiopdkgoeaaDoorCodeS10
namespace Go.Proofs.YtodehiopdkgoeaaDoor
set_option linter.unusedSimpArgs false
set_option linter.unusedVariables false
open Go

theorem firstX_cons (nf : Int) (i : Nat) (x : XD) (l : List XD) : firstX nf i (x :: l) = if funcX nf x ≠ 0 then (funcX nf x, (i : Int)) else firstX nf (i + 1) l := rfl

section
variable {h : AH}
theorem CodeFault_loop (v : AV) (L : List XD) (m : ∀ h, ModV h v L) (hL : L.length ≤ 100000) (hs : ∀ x ∈ L, x.size ≤ 100000) (v0 v6 : AV) : ∀ (l pre : List XD) (h' : AH) (v4 v5 v7 v8 v9 v10 : AV), L = pre ++ l →
    GrewA h h' → h.n + 1 < h'.n → h'.cell h.n = some [[v]] → h'.cell (h.n + 1) = some [[.int .i64 0, .int .i64 0]] →
    cFR true [.cell true 2 2] h (runR (runF Tryd.prog po) 11 [.lp rc_CodeFault_b1, .ss [], .blk 0, .ss [(.ops [(.i .l (.build [(.int .i64 0), (.int .i64 0)] [(0, 1), (1, 1)] [])), (.i .n (.store 2 (.v 2) (.l 0)))]), .ret]] [v0, .ptr h.n 0 0, .ptr (h.n + 1) 0 0, .int .i64 pre.length, v4, v5, v6, v7, v8, v9, v10] [] h') =
      some (.inl (.agg [.int .i64 (firstX L.length pre.length l).1, .int .i64 (firstX L.length pre.length l).2]), h) := by
  intro l
  induction l with
  | nil =>
    intro pre h' v4 v5 v7 v8 v9 v10 e g hn c1 c2
    have e' : L = pre := by simpa using e
    have hlt : ¬ ((pre.length : Int) < (L.length : Int)) := by rw [e']; omega
    rw [r_lpb rc_CodeFault_b1.eq_1]
    simp only [sim, List.length_cons, List.length_nil, Nat.reduceAdd, Nat.reduceSub, List.replicate, List.cons_append, List.nil_append, List.map_cons, List.map_nil, Option.bind_some, Option.map_some, Option.bind_none, Option.map_none, if_true, if_false, decide_true, decide_false, Bool.false_eq_true, Bool.true_eq_false, Bool.not_true, Bool.not_false, reduceCtorEq, Bool.and_true, Bool.true_and, Bool.and_false, Bool.false_and, Bool.or_true, Bool.true_or, Bool.or_false, Bool.false_or, true_and, and_true, false_and, and_false, List.take_zero, List.take_succ_cons, List.drop_zero, List.drop_succ_cons, List.take_nil, List.drop_nil, List.set_cons_zero, List.set_cons_succ, Nat.reduceLeDiff, Nat.reduceLT, Nat.zero_add, Nat.lt_add_one, Nat.le_refl, clearA, Int.toNat_natCast, c1, c2, (m h').len, (m h').fits, hlt, firstX, fg_yes (g.set (show h.n ≤ h.n + 1 by omega)) (rfl : wkA (.agg [.int .i64 0, .int .i64 0]) = _)]
  | cons y l ih =>
    intro pre h' v4 v5 v7 v8 v9 v10 e g hn c1 c2
    have hlt : (pre.length : Int) < (L.length : Int) := by rw [e]; simp; omega
    obtain ⟨a, q, i1, i2, i3⟩ := (m h').ix pre.length y (by rw [e]; simp)
    have i2' := i2 _ (GrewA.refl h')
    obtain ⟨o1, o2⟩ := i3.one
    have hys := hs y (by rw [e]; simp)
    have d1 : (h'.push [q]).cell h.n = some [[v]] := (push_lt (by omega)).trans c1
    have d2 : (h'.push [q]).cell (h.n + 1) = some [[.int .i64 0, .int .i64 0]] := (push_lt hn).trans c2
    have g1 := g.trans (GrewA.push h' [q])
    have hw := w64 (n := (pre.length : Int) + 1) (by rw [e] at hL; simp at hL; omega) (by rw [e] at hL; simp at hL; omega)
    have e3 : ((pre ++ [y]).length : Int) = (pre.length : Int) + 1 := by simp
    have e4 : (pre ++ [y]).length = pre.length + 1 := by simp
    have cd := DeepOf_run _ y (Nat.le_refl _) hys q (h'.push [q]) 30 i3 (by omega) (by omega)
    have cc := CountOf_run _ y (Nat.le_refl _) q (h'.push [q]) 120 i3 (by omega) (by omega)
    have ce := exprFault_run hL (m h').len (m h').fits (m h').one _ y (Nat.le_refl _) hys q (h'.push [q]) 0 i3 (by omega) (by omega)
    have g2 : ∀ es, GrewA h ((h'.push [q]).set (h.n + 1) es) := fun es => g1.set (by omega)
    have hwk : ∀ a b : Int, wkA (.agg [.int .i64 a, .int .i64 b]) = some (.agg [.int .i64 a, .int .i64 b]) := fun a b => rfl
    rw [firstX_cons]
    rw [r_lpb rc_CodeFault_b1.eq_1]
    by_cases hd : 30 < y.depth
    · have hd2 : (30 : Int) < min (y.depth : Int) (30 + 1) := by omega
      have ef : funcX L.length y = 4 := by simp [funcX, hd]
      rw [ef, if_pos (by decide)]
      simp only [sim, List.length_cons, List.length_nil, Nat.reduceAdd, Nat.reduceSub, List.replicate, List.cons_append, List.nil_append, List.map_cons, List.map_nil, Option.bind_some, Option.map_some, Option.bind_none, Option.map_none, if_true, if_false, decide_true, decide_false, Bool.false_eq_true, Bool.true_eq_false, Bool.not_true, Bool.not_false, reduceCtorEq, Bool.and_true, Bool.true_and, Bool.and_false, Bool.false_and, Bool.or_true, Bool.true_or, Bool.or_false, Bool.false_or, true_and, and_true, false_and, and_false, List.take_zero, List.take_succ_cons, List.drop_zero, List.drop_succ_cons, List.take_nil, List.drop_nil, List.set_cons_zero, List.set_cons_succ, Nat.reduceLeDiff, Nat.reduceLT, Nat.zero_add, Nat.lt_add_one, Nat.le_refl, clearA, Int.toNat_natCast, c1, (m h').len, (m h').fits, hlt, i1, i2', o1, o2, d1, d2, cd, hd2, rF_run, fg_yes (g2 _) (hwk _ _)]
    · have hd2 : ¬ (30 : Int) < min (y.depth : Int) (30 + 1) := by omega
      by_cases hc : 120 < y.size
      · have hc2 : (120 : Int) < min (y.size : Int) (120 + 1) := by omega
        have ef : funcX L.length y = 3 := by simp [funcX, hd, hc]
        rw [ef, if_pos (by decide)]
        simp only [sim, List.length_cons, List.length_nil, Nat.reduceAdd, Nat.reduceSub, List.replicate, List.cons_append, List.nil_append, List.map_cons, List.map_nil, Option.bind_some, Option.map_some, Option.bind_none, Option.map_none, if_true, if_false, decide_true, decide_false, Bool.false_eq_true, Bool.true_eq_false, Bool.not_true, Bool.not_false, reduceCtorEq, Bool.and_true, Bool.true_and, Bool.and_false, Bool.false_and, Bool.or_true, Bool.true_or, Bool.or_false, Bool.false_or, true_and, and_true, false_and, and_false, List.take_zero, List.take_succ_cons, List.drop_zero, List.drop_succ_cons, List.take_nil, List.drop_nil, List.set_cons_zero, List.set_cons_succ, Nat.reduceLeDiff, Nat.reduceLT, Nat.zero_add, Nat.lt_add_one, Nat.le_refl, clearA, Int.toNat_natCast, c1, (m h').len, (m h').fits, hlt, i1, i2', o1, o2, d1, d2, cd, hd2, cc, hc2, rF_run, fg_yes (g2 _) (hwk _ _)]
      · have hc2 : ¬ (120 : Int) < min (y.size : Int) (120 + 1) := by omega
        have ef : funcX L.length y = y.fault L.length 0 := by simp [funcX, hd, hc]
        rw [ef]
        by_cases hf : y.fault L.length 0 = 0
        · rw [if_neg (by simp [hf])]
          have r1 := ih (pre ++ [y]) (h'.push [q]) (.ptr h'.n 0 0) (.int .i64 0) (.bool true) (.bool false) (.bool false) (.bool false) (by simp [e]) g1 (by simp only [push_n]; omega) d1 d2
          rw [e3, e4] at r1
          rw [hf] at ce
          simp only [sim, List.length_cons, List.length_nil, Nat.reduceAdd, Nat.reduceSub, List.replicate, List.cons_append, List.nil_append, List.map_cons, List.map_nil, Option.bind_some, Option.map_some, Option.bind_none, Option.map_none, if_true, if_false, decide_true, decide_false, Bool.false_eq_true, Bool.true_eq_false, Bool.not_true, Bool.not_false, reduceCtorEq, Bool.and_true, Bool.true_and, Bool.and_false, Bool.false_and, Bool.or_true, Bool.true_or, Bool.or_false, Bool.false_or, true_and, and_true, false_and, and_false, List.take_zero, List.take_succ_cons, List.drop_zero, List.drop_succ_cons, List.take_nil, List.drop_nil, List.set_cons_zero, List.set_cons_succ, Nat.reduceLeDiff, Nat.reduceLT, Nat.zero_add, Nat.lt_add_one, Nat.le_refl, clearA, Int.toNat_natCast, c1, (m h').len, (m h').fits, hlt, i1, i2', o1, o2, d1, d2, cd, hd2, cc, hc2, ce, eq_self, hw]
          exact r1
        · rw [if_pos hf]
          simp only [sim, List.length_cons, List.length_nil, Nat.reduceAdd, Nat.reduceSub, List.replicate, List.cons_append, List.nil_append, List.map_cons, List.map_nil, Option.bind_some, Option.map_some, Option.bind_none, Option.map_none, if_true, if_false, decide_true, decide_false, Bool.false_eq_true, Bool.true_eq_false, Bool.not_true, Bool.not_false, reduceCtorEq, Bool.and_true, Bool.true_and, Bool.and_false, Bool.false_and, Bool.or_true, Bool.true_or, Bool.or_false, Bool.false_or, true_and, and_true, false_and, and_false, List.take_zero, List.take_succ_cons, List.drop_zero, List.drop_succ_cons, List.take_nil, List.drop_nil, List.set_cons_zero, List.set_cons_succ, Nat.reduceLeDiff, Nat.reduceLT, Nat.zero_add, Nat.lt_add_one, Nat.le_refl, clearA, Int.toNat_natCast, c1, (m h').len, (m h').fits, hlt, i1, i2', o1, o2, d1, d2, cd, hd2, cc, hc2, ce, hf, rF_run, fg_yes (g2 _) (hwk _ _)]
theorem CodeFault_run (v : AV) (L : List XD) (m : ∀ h, ModV h v L) (hL : L.length ≤ 100000) (hs : ∀ x ∈ L, x.size ≤ 100000) :
    runF Tryd.prog po 50 [.agg [v]] h = some (.inl (.agg [.int .i64 (checkX L).1, .int .i64 (checkX L).2]), h) := by
  have o1 := (m h).one
  have l1 := (m h).len
  have f1 := (m h).fits
  have g2 : GrewA h ((h.push [[v]]).push [[.int .i64 3, .int .i64 (-1)]]) := (GrewA.push h _).trans (GrewA.push _ _)
  have hwk : ∀ a b : Int, wkA (.agg [.int .i64 a, .int .i64 b]) = some (.agg [.int .i64 a, .int .i64 b]) := fun a b => rfl
  refine runF_R fn_CodeFault rfl ?_; unfold rc_CodeFault
  by_cases h0 : L.length = 0
  · have h0' : (L.length : Int) < 1 := by omega
    have e : checkX L = (3, -1) := by simp [checkX, h0]
    rw [e]
    simp only [sim, List.length_cons, List.length_nil, Nat.reduceAdd, Nat.reduceSub, List.replicate, List.cons_append, List.nil_append, List.map_cons, List.map_nil, Option.bind_some, Option.map_some, Option.bind_none, Option.map_none, if_true, if_false, decide_true, decide_false, Bool.false_eq_true, Bool.true_eq_false, Bool.not_true, Bool.not_false, reduceCtorEq, Bool.and_true, Bool.true_and, Bool.and_false, Bool.false_and, Bool.or_true, Bool.true_or, Bool.or_false, Bool.false_or, true_and, and_true, false_and, and_false, List.take_zero, List.take_succ_cons, List.drop_zero, List.drop_succ_cons, List.take_nil, List.drop_nil, List.set_cons_zero, List.set_cons_succ, Nat.reduceLeDiff, Nat.reduceLT, Nat.zero_add, Nat.lt_add_one, Nat.le_refl, clearA, Int.toNat_natCast, o1, l1, f1, h0', rF_run, fg_yes g2 (hwk _ _)]
  · have h0' : ¬ (L.length : Int) < 1 := by omega
    by_cases h6 : 6 < L.length
    · have h6' : (6 : Int) < (L.length : Int) := by omega
      have e : checkX L = (3, -1) := by simp [checkX, h6]
      rw [e]
      simp only [sim, List.length_cons, List.length_nil, Nat.reduceAdd, Nat.reduceSub, List.replicate, List.cons_append, List.nil_append, List.map_cons, List.map_nil, Option.bind_some, Option.map_some, Option.bind_none, Option.map_none, if_true, if_false, decide_true, decide_false, Bool.false_eq_true, Bool.true_eq_false, Bool.not_true, Bool.not_false, reduceCtorEq, Bool.and_true, Bool.true_and, Bool.and_false, Bool.false_and, Bool.or_true, Bool.true_or, Bool.or_false, Bool.false_or, true_and, and_true, false_and, and_false, List.take_zero, List.take_succ_cons, List.drop_zero, List.drop_succ_cons, List.take_nil, List.drop_nil, List.set_cons_zero, List.set_cons_succ, Nat.reduceLeDiff, Nat.reduceLT, Nat.zero_add, Nat.lt_add_one, Nat.le_refl, clearA, Int.toNat_natCast, o1, l1, f1, h0', h6', rF_run, fg_yes g2 (hwk _ _)]
    · have h6' : ¬ (6 : Int) < (L.length : Int) := by omega
      have e : checkX L = firstX L.length 0 L := by simp only [checkX, h0, h6, or_self, if_false]
      rw [e]
      have r1 := CodeFault_loop (h := h) v L m hL hs (.agg [v]) (.bool false) L [] ((h.push [[v]]).push [[.int .i64 0, .int .i64 0]]) .junk .junk .junk .junk .junk .junk rfl ((GrewA.push h _).trans (GrewA.push _ _)) (by simp only [push_n]; omega) push2_old push2_same
      simp only [List.length_nil, Int.natCast_zero] at r1
      simp only [sim, List.length_cons, List.length_nil, Nat.reduceAdd, Nat.reduceSub, List.replicate, List.cons_append, List.nil_append, List.map_cons, List.map_nil, Option.bind_some, Option.map_some, Option.bind_none, Option.map_none, if_true, if_false, decide_true, decide_false, Bool.false_eq_true, Bool.true_eq_false, Bool.not_true, Bool.not_false, reduceCtorEq, Bool.and_true, Bool.true_and, Bool.and_false, Bool.false_and, Bool.or_true, Bool.true_or, Bool.or_false, Bool.false_or, true_and, and_true, false_and, and_false, List.take_zero, List.take_succ_cons, List.drop_zero, List.drop_succ_cons, List.take_nil, List.drop_nil, List.set_cons_zero, List.set_cons_succ, Nat.reduceLeDiff, Nat.reduceLT, Nat.zero_add, Nat.lt_add_one, Nat.le_refl, clearA, Int.toNat_natCast, o1, l1, f1, h0', h6']
      exact r1

theorem Check_loop (v : AV) (L : List XD) (m : ModV h v L) (hL : L.length ≤ 100000) (hs : ∀ x ∈ L, x.size ≤ 100000) (v0 v6 : AV) : ∀ (l pre : List XD) (h' : AH) (v3 v4 v5 v10 v11 v12 : AV), L = pre ++ l →
    GrewA h h' → h.n + 1 < h'.n → h'.cell h.n = some [[v]] → h'.cell (h.n + 1) = some [[.int .i64 0, .int .i64 0]] →
    cFR true [.cell true 2 2] h (runR (runF Tryd.prog po) 13 [.lp rc_cCheck_b1, .ss [], .blk 0, .ss [(.ops [(.i .l (.build [(.int .i64 0), (.int .i64 0)] [(0, 1), (1, 1)] [])), (.i .n (.store 2 (.v 2) (.l 0)))]), .ret]] [v0, .ptr h.n 0 0, .ptr (h.n + 1) 0 0, v3, v4, v5, v6, v, .int .i64 L.length, .int .i64 pre.length, v10, v11, v12] [] h') =
      some (.inl (.agg [.int .i64 (firstX L.length pre.length l).1, .int .i64 (firstX L.length pre.length l).2]), h) := by
  intro l
  induction l with
  | nil =>
    intro pre h' v3 v4 v5 v10 v11 v12 e g hn c1 c2
    have e' : L = pre := by simpa using e
    have hlt : ¬ ((pre.length : Int) < (L.length : Int)) := by rw [e']; omega
    rw [r_lpb rc_cCheck_b1.eq_1]
    simp only [sim, List.length_cons, List.length_nil, Nat.reduceAdd, Nat.reduceSub, List.replicate, List.cons_append, List.nil_append, List.map_cons, List.map_nil, Option.bind_some, Option.map_some, Option.bind_none, Option.map_none, if_true, if_false, decide_true, decide_false, Bool.false_eq_true, Bool.true_eq_false, Bool.not_true, Bool.not_false, reduceCtorEq, Bool.and_true, Bool.true_and, Bool.and_false, Bool.false_and, Bool.or_true, Bool.true_or, Bool.or_false, Bool.false_or, true_and, and_true, false_and, and_false, List.take_zero, List.take_succ_cons, List.drop_zero, List.drop_succ_cons, List.take_nil, List.drop_nil, List.set_cons_zero, List.set_cons_succ, Nat.reduceLeDiff, Nat.reduceLT, Nat.zero_add, Nat.lt_add_one, Nat.le_refl, clearA, Int.toNat_natCast, c2, hlt, firstX, fg_yes (g.set (show h.n ≤ h.n + 1 by omega)) (rfl : wkA (.agg [.int .i64 0, .int .i64 0]) = _)]
  | cons y l ih =>
    intro pre h' v3 v4 v5 v10 v11 v12 e g hn c1 c2
    have hlt : (pre.length : Int) < (L.length : Int) := by rw [e]; simp; omega
    obtain ⟨a, q, i1, i2, i3⟩ := m.ix pre.length y (by rw [e]; simp)
    have i2' := i2 _ g
    obtain ⟨o1, o2⟩ := i3.one
    have hys := hs y (by rw [e]; simp)
    have ov := m.one
    have d1 : (h'.push [q]).cell h.n = some [[v]] := (push_lt (by omega)).trans c1
    have hw := w64 (n := (pre.length : Int) + 1) (by rw [e] at hL; simp at hL; omega) (by rw [e] at hL; simp at hL; omega)
    have e3 : ((pre ++ [y]).length : Int) = (pre.length : Int) + 1 := by simp
    have e4 : (pre ++ [y]).length = pre.length + 1 := by simp
    have hwk : ∀ a b : Int, wkA (.agg [.int .i64 a, .int .i64 b]) = some (.agg [.int .i64 a, .int .i64 b]) := fun a b => rfl
    -- the judge
    have gj : GrewA h ((h'.push [q]).push [[v, .int .i64 0]]) := (g.trans (GrewA.push h' [q])).trans (GrewA.push _ _)
    have jb : ((h'.push [q]).push [[v, .int .i64 0]]).cell (h'.n + 1) = some [[v, .int .i64 0]] := push2_same
    have cd := cdeep_run _ y (Nat.le_refl _) hys q ((h'.push [q]).push [[v, .int .i64 0]]) 30 i3 (by omega) (by omega)
    have keep : ∀ {h1 h2 : AH} {c : Int}, JH (h'.n + 1) v c h1 h2 → h'.n + 1 < h1.n → h1.cell h'.n = some [q] → h1.cell h.n = some [[v]] → h1.cell (h.n + 1) = some [[.int .i64 0, .int .i64 0]] →
        h2.cell h'.n = some [q] ∧ h2.cell h.n = some [[v]] ∧ h2.cell (h.n + 1) = some [[.int .i64 0, .int .i64 0]] ∧ h'.n + 1 < h2.n := fun {h1 h2 c} j n1 k1 k2 k3 =>
      ⟨(j.old _ (by omega) (by omega)).trans k1, (j.old _ (by omega) (by omega)).trans k2, (j.old _ (by omega) (by omega)).trans k3, Nat.lt_of_lt_of_le n1 j.n⟩
    have k0 : ((h'.push [q]).push [[v, .int .i64 0]]).cell h'.n = some [q] := push2_old
    have k1 : ((h'.push [q]).push [[v, .int .i64 0]]).cell h.n = some [[v]] := (push_lt (by simp only [push_n]; omega)).trans d1
    have k2 : ((h'.push [q]).push [[v, .int .i64 0]]).cell (h.n + 1) = some [[.int .i64 0, .int .i64 0]] := (push_lt (by simp only [push_n]; omega)).trans ((push_lt hn).trans c2)
    have kn : h'.n + 1 < ((h'.push [q]).push [[v, .int .i64 0]]).n := by simp only [push_n]; omega
    obtain ⟨h1, r1, j1⟩ := jfail_run jb (!decide ((y.depth : Int) ≤ 30)) 4
    obtain ⟨p0, p1, p2, pn⟩ := keep j1 kn k0 k1 k2
    have g1 := JH.grew gj (by omega) j1
    have cc := ccount_run _ y (Nat.le_refl _) q h1 120 i3 (by omega) (by omega)
    rw [firstX_cons]
    rw [r_lpb rc_cCheck_b1.eq_1]
    by_cases hd : 30 < y.depth
    · have hd2 : ¬ (y.depth : Int) ≤ 30 := by omega
      have ef : funcX L.length y = 4 := by simp [funcX, hd]
      rw [ef, if_pos (by decide)]
      have e1 : orF 0 (if (!decide ((y.depth : Int) ≤ 30)) = true then 4 else 0) = 4 := by simp [orF, hd2]
      rw [e1] at j1
      obtain ⟨h2, r2, j2⟩ := jfail_run j1.j false 3
      rw [if_neg (by simp), orF_z] at j2
      obtain ⟨s0, s1, s2, sn⟩ := keep j2 pn p0 p1 p2
      have g3 := (JH.grew g1 (by have := g.n; omega) j2).set (b := h.n + 1) (es := some [[.int .i64 4, .int .i64 pre.length]]) (by omega)
      have q1 := j1.j
      have q2 := j2.j
      simp only [hd2, decide_false, Bool.not_false] at r1
      simp only [sim, List.length_cons, List.length_nil, Nat.reduceAdd, Nat.reduceSub, List.replicate, List.cons_append, List.nil_append, List.map_cons, List.map_nil, Option.bind_some, Option.map_some, Option.bind_none, Option.map_none, if_true, if_false, decide_true, decide_false, Bool.false_eq_true, Bool.true_eq_false, Bool.not_true, Bool.not_false, reduceCtorEq, Bool.and_true, Bool.true_and, Bool.and_false, Bool.false_and, Bool.or_true, Bool.true_or, Bool.or_false, Bool.false_or, true_and, and_true, false_and, and_false, List.take_zero, List.take_succ_cons, List.drop_zero, List.drop_succ_cons, List.take_nil, List.drop_nil, List.set_cons_zero, List.set_cons_succ, Nat.reduceLeDiff, Nat.reduceLT, Nat.zero_add, Nat.lt_add_one, Nat.le_refl, clearA, Int.toNat_natCast, c1, hlt, i1, i2', o1, o2, ov, d1, cd, hd2, jb, k0, r1, p0, q1, Int.reduceEq, r2, q2, s0, s2, fg_yes g3 (hwk _ _)]
    · have hd2 : (y.depth : Int) ≤ 30 := by omega
      have e1 : orF 0 (if (!decide ((y.depth : Int) ≤ 30)) = true then 4 else 0) = 0 := by simp [orF, hd2]
      rw [e1] at j1
      have q1 := j1.j
      obtain ⟨h2, r2, j2⟩ := jfail_run j1.j (decide (max (120 - (y.size : Int)) (-1) < 0)) 3
      rw [orF_0] at j2
      obtain ⟨s0, s1, s2, sn⟩ := keep j2 pn p0 p1 p2
      have g2 := JH.grew g1 (by have := g.n; omega) j2
      simp only [hd2, decide_true, Bool.not_true] at r1
      by_cases hc : 120 < y.size
      · have hc2 : max (120 - (y.size : Int)) (-1) < 0 := by omega
        have ef : funcX L.length y = 3 := by simp [funcX, hd, hc]
        rw [ef, if_pos (by decide)]
        rw [if_pos (by simpa using hc2)] at j2
        have q2 := j2.j
        have g3 := g2.set (b := h.n + 1) (es := some [[.int .i64 3, .int .i64 pre.length]]) (by omega)
        simp only [hc2, decide_true] at r2
        simp only [sim, List.length_cons, List.length_nil, Nat.reduceAdd, Nat.reduceSub, List.replicate, List.cons_append, List.nil_append, List.map_cons, List.map_nil, Option.bind_some, Option.map_some, Option.bind_none, Option.map_none, if_true, if_false, decide_true, decide_false, Bool.false_eq_true, Bool.true_eq_false, Bool.not_true, Bool.not_false, reduceCtorEq, Bool.and_true, Bool.true_and, Bool.and_false, Bool.false_and, Bool.or_true, Bool.true_or, Bool.or_false, Bool.false_or, true_and, and_true, false_and, and_false, List.take_zero, List.take_succ_cons, List.drop_zero, List.drop_succ_cons, List.take_nil, List.drop_nil, List.set_cons_zero, List.set_cons_succ, Nat.reduceLeDiff, Nat.reduceLT, Nat.zero_add, Nat.lt_add_one, Nat.le_refl, clearA, Int.toNat_natCast, c1, hlt, i1, i2', o1, o2, ov, d1, cd, hd2, jb, k0, r1, p0, q1, eq_self, cc, hc2, Int.reduceEq, r2, q2, s0, s2, fg_yes g3 (hwk _ _)]
      · have hc2 : ¬ max (120 - (y.size : Int)) (-1) < 0 := by omega
        have ef : funcX L.length y = y.fault L.length 0 := by simp [funcX, hd, hc]
        rw [ef]
        rw [if_neg (by simpa using hc2)] at j2
        have q2 := j2.j
        simp only [hc2, decide_false] at r2
        obtain ⟨h3, r3, j3⟩ := jexpr_run (b := h'.n + 1) L.length m.len m.fits _ y (Nat.le_refl _) hys q h2 0 i3 (by omega) (by omega) j2.j sn
        obtain ⟨t0, t1, t2, tn⟩ := keep j3 sn s0 s1 s2
        have q3 := j3.j
        have g3 := JH.grew g2 (by have := g.n; omega) j3
        by_cases hf : y.fault L.length 0 = 0
        · rw [if_neg (by simp [hf])]
          have rr := ih (pre ++ [y]) h3 (.int .i64 pre.length) (.ptr h'.n 0 0) (.ptr (h'.n + 1) 0 0) (.bool true) (.bool true) (.bool false) (by simp [e]) g3 (by have := g.n; omega) t1 t2
          rw [e3, e4] at rr
          rw [hf] at q3
          simp only [sim, List.length_cons, List.length_nil, Nat.reduceAdd, Nat.reduceSub, List.replicate, List.cons_append, List.nil_append, List.map_cons, List.map_nil, Option.bind_some, Option.map_some, Option.bind_none, Option.map_none, if_true, if_false, decide_true, decide_false, Bool.false_eq_true, Bool.true_eq_false, Bool.not_true, Bool.not_false, reduceCtorEq, Bool.and_true, Bool.true_and, Bool.and_false, Bool.false_and, Bool.or_true, Bool.true_or, Bool.or_false, Bool.false_or, true_and, and_true, false_and, and_false, List.take_zero, List.take_succ_cons, List.drop_zero, List.drop_succ_cons, List.take_nil, List.drop_nil, List.set_cons_zero, List.set_cons_succ, Nat.reduceLeDiff, Nat.reduceLT, Nat.zero_add, Nat.lt_add_one, Nat.le_refl, clearA, Int.toNat_natCast, c1, hlt, i1, i2', o1, o2, ov, d1, cd, hd2, jb, k0, r1, p0, q1, eq_self, cc, hc2, Int.reduceEq, r2, q2, s0, r3, q3, hw]
          exact rr
        · rw [if_pos hf]
          have g4 := g3.set (b := h.n + 1) (es := some [[.int .i64 (y.fault L.length 0), .int .i64 pre.length]]) (by omega)
          simp only [sim, List.length_cons, List.length_nil, Nat.reduceAdd, Nat.reduceSub, List.replicate, List.cons_append, List.nil_append, List.map_cons, List.map_nil, Option.bind_some, Option.map_some, Option.bind_none, Option.map_none, if_true, if_false, decide_true, decide_false, Bool.false_eq_true, Bool.true_eq_false, Bool.not_true, Bool.not_false, reduceCtorEq, Bool.and_true, Bool.true_and, Bool.and_false, Bool.false_and, Bool.or_true, Bool.true_or, Bool.or_false, Bool.false_or, true_and, and_true, false_and, and_false, List.take_zero, List.take_succ_cons, List.drop_zero, List.drop_succ_cons, List.take_nil, List.drop_nil, List.set_cons_zero, List.set_cons_succ, Nat.reduceLeDiff, Nat.reduceLT, Nat.zero_add, Nat.lt_add_one, Nat.le_refl, clearA, Int.toNat_natCast, c1, hlt, i1, i2', o1, o2, ov, d1, cd, hd2, jb, k0, r1, p0, q1, eq_self, cc, hc2, Int.reduceEq, r2, q2, s0, r3, q3, hf, t2, fg_yes g4 (hwk _ _)]
theorem Check_run (v : AV) (L : List XD) (m : ModV h v L) (hL : L.length ≤ 100000) (hs : ∀ x ∈ L, x.size ≤ 100000) :
    runF Tryd.prog po 45 [.agg [v]] h = some (.inl (.agg [.int .i64 (checkX L).1, .int .i64 (checkX L).2]), h) := by
  have o1 := m.one
  have l1 := m.len
  have f1 := m.fits
  have g2 : GrewA h ((h.push [[v]]).push [[.int .i64 3, .int .i64 (-1)]]) := (GrewA.push h _).trans (GrewA.push _ _)
  have hwk : ∀ a b : Int, wkA (.agg [.int .i64 a, .int .i64 b]) = some (.agg [.int .i64 a, .int .i64 b]) := fun a b => rfl
  refine runF_R fn_cCheck rfl ?_; unfold rc_cCheck
  by_cases h0 : L.length = 0
  · have h0' : decide ((L.length : Int) = 0) = true := by simp [h0]
    have e : checkX L = (3, -1) := by simp [checkX, h0]
    rw [e]
    simp only [sim, List.length_cons, List.length_nil, Nat.reduceAdd, Nat.reduceSub, List.replicate, List.cons_append, List.nil_append, List.map_cons, List.map_nil, Option.bind_some, Option.map_some, Option.bind_none, Option.map_none, if_true, if_false, decide_true, decide_false, Bool.false_eq_true, Bool.true_eq_false, Bool.not_true, Bool.not_false, reduceCtorEq, Bool.and_true, Bool.true_and, Bool.and_false, Bool.false_and, Bool.or_true, Bool.true_or, Bool.or_false, Bool.false_or, true_and, and_true, false_and, and_false, List.take_zero, List.take_succ_cons, List.drop_zero, List.drop_succ_cons, List.take_nil, List.drop_nil, List.set_cons_zero, List.set_cons_succ, Nat.reduceLeDiff, Nat.reduceLT, Nat.zero_add, Nat.lt_add_one, Nat.le_refl, clearA, Int.toNat_natCast, o1, l1, f1, h0', fg_yes g2 (hwk _ _)]
  · have h0' : decide ((L.length : Int) = 0) = false := by rw [decide_eq_false_iff_not]; omega
    by_cases h6 : 6 < L.length
    · have h6' : (6 : Int) < (L.length : Int) := by omega
      have e : checkX L = (3, -1) := by simp [checkX, h6]
      rw [e]
      simp only [sim, List.length_cons, List.length_nil, Nat.reduceAdd, Nat.reduceSub, List.replicate, List.cons_append, List.nil_append, List.map_cons, List.map_nil, Option.bind_some, Option.map_some, Option.bind_none, Option.map_none, if_true, if_false, decide_true, decide_false, Bool.false_eq_true, Bool.true_eq_false, Bool.not_true, Bool.not_false, reduceCtorEq, Bool.and_true, Bool.true_and, Bool.and_false, Bool.false_and, Bool.or_true, Bool.true_or, Bool.or_false, Bool.false_or, true_and, and_true, false_and, and_false, List.take_zero, List.take_succ_cons, List.drop_zero, List.drop_succ_cons, List.take_nil, List.drop_nil, List.set_cons_zero, List.set_cons_succ, Nat.reduceLeDiff, Nat.reduceLT, Nat.zero_add, Nat.lt_add_one, Nat.le_refl, clearA, Int.toNat_natCast, o1, l1, f1, h0', h6', fg_yes g2 (hwk _ _)]
    · have h6' : ¬ (6 : Int) < (L.length : Int) := by omega
      have e : checkX L = firstX L.length 0 L := by simp only [checkX, h0, h6, or_self, if_false]
      rw [e]
      have r1 := Check_loop (h := h) v L m hL hs (.agg [v]) (.bool false) L [] ((h.push [[v]]).push [[.int .i64 0, .int .i64 0]]) .junk .junk .junk .junk .junk .junk rfl ((GrewA.push h _).trans (GrewA.push _ _)) (by simp only [push_n]; omega) push2_old push2_same
      simp only [List.length_nil, Int.natCast_zero] at r1
      simp only [sim, List.length_cons, List.length_nil, Nat.reduceAdd, Nat.reduceSub, List.replicate, List.cons_append, List.nil_append, List.map_cons, List.map_nil, Option.bind_some, Option.map_some, Option.bind_none, Option.map_none, if_true, if_false, decide_true, decide_false, Bool.false_eq_true, Bool.true_eq_false, Bool.not_true, Bool.not_false, reduceCtorEq, Bool.and_true, Bool.true_and, Bool.and_false, Bool.false_and, Bool.or_true, Bool.true_or, Bool.or_false, Bool.false_or, true_and, and_true, false_and, and_false, List.take_zero, List.take_succ_cons, List.drop_zero, List.drop_succ_cons, List.take_nil, List.drop_nil, List.set_cons_zero, List.set_cons_succ, Nat.reduceLeDiff, Nat.reduceLT, Nat.zero_add, Nat.lt_add_one, Nat.le_refl, clearA, Int.toNat_natCast, o1, l1, f1, h0', h6']
      exact r1

theorem fresh_push {m : Nat} {es : List (List AV)} : (h.fresh m).push es = (h.push es).fresh m := rfl
theorem fresh_set {m b : Nat} {es : Option (List (List AV))} : (h.fresh m).set b es = (h.set b es).fresh m := rfl
theorem grow_push {i m : Nat} {es : List (List AV)} : (h.grow i m).push es = (h.push es).grow i m := rfl
theorem grow_set {i m b : Nat} {es : Option (List (List AV))} : (h.grow i m).set b es = (h.set b es).grow i m := rfl
theorem f_agg {agg : Bool} {n off : Nat} {cs : List AV} : fldR agg n off (.agg cs) = ldA agg n cs off := rfl
theorem turns : (type_of% @f_agg) ∧ (type_of% @fresh_push) ∧ (type_of% @fresh_set) ∧ (type_of% @grow_push) ∧ (type_of% @grow_set) := ⟨@f_agg, @fresh_push, @fresh_set, @grow_push, @grow_set⟩
theorem fault_eql {a b c d : Int} : binR .agg (some [.int .i64, .int .i64]) false .eql (.agg [.int .i64 a, .int .i64 b]) (.agg [.int .i64 c, .int .i64 d]) = some (.bool (decide (a = c) && decide (b = d))) := by
  simp [binR, eqCells]
  rfl
theorem great_no {L : List XD} (hg : greatX L = false) : L.length ≤ 20 ∧ ∀ x ∈ L, x.size ≤ 600 := by
  simp only [greatX, Bool.or_eq_false_iff, decide_eq_false_iff_not, List.any_eq_false] at hg
  exact ⟨by omega, fun x hx => by have := hg.2 x hx; simpa using this⟩

end
end Go.Proofs.YtodehiopdkgoeaaDoor
