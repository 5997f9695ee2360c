/- code in the plain model: the same. -/
import Derived.Test.YtacocolcighomaaCodeS4
namespace Go.Proofs.Ytacocolcighomaa
set_option linter.unusedSimpArgs false
set_option linter.unusedVariables false
open Go

theorem sameX_eq (x y : XD) : sameX x y = (decide (x.op = y.op) && (decide (x.k = y.k) && (decide (x.n = y.n) && sameXs x.l y.l))) := by
  cases x; cases y
  rfl
theorem sameXs_ne {l l' : List XD} (h : decide ((l.length : Int) = (l'.length : Int)) = false) : sameXs l l' = false := by
  cases hs : sameXs l l'
  · rfl
  · have := sameXs_len hs
    simp [this] at h

section
variable {h : AH}
theorem equalE_loop (v1 v2 : AV) (L1 L2 : List XD) (m1 : ModV h v1 L1) (m2 : ModV h v2 L2) (hL : L1.length ≤ 100000)
    (hf : ∀ x ∈ L1, ∀ y q1 q2 h', ExA x q1 → ExA y q2 → runF Try.prog po 88 [.agg q1, .agg q2] h' = some (.inl (.bool (sameX x y)), h')) (v7 : AV) : ∀ (l1 pre1 l2 pre2 : List XD) (h' : AH) (v4 v5 v6 v11 v12 : AV), L1 = pre1 ++ l1 → L2 = pre2 ++ l2 → pre1.length = pre2.length → l1.length = l2.length → GrewA h h' →
    cFR true [.v 3] h (runR (runF Try.prog po) 13 [.lp rc_equalE_b1, .ss [], .blk 0, .ss [.ops [(.i (.v 3) (.mv (.c (.bool true))))], .ret]] [v1, v2, .fn 88 [] [], .bool false, v4, v5, v6, v7, v1, .int .i64 L1.length, .int .i64 pre1.length, v11, v12] [] h') =
      some (.inl (.bool (sameXs l1 l2)), h) := by
  intro l1
  induction l1 with
  | nil =>
    intro pre1 l2 pre2 h' v4 v5 v6 v11 v12 e1 e2 ep el hg
    have hz : l2 = [] := List.length_eq_zero_iff.1 (by simpa using el.symm)
    subst hz
    have e' : L1 = pre1 := by simpa using e1
    have hlt : ¬ ((pre1.length : Int) < (L1.length : Int)) := by rw [e']; omega
    rw [r_lpb rc_equalE_b1.eq_1]
    simp only [sim, List.length_cons, List.length_nil, Nat.reduceAdd, Nat.reduceSub, List.replicate, List.cons_append, List.nil_append, List.map_cons, List.map_nil, Option.bind_some, Option.map_some, Option.bind_none, Option.map_none, if_true, if_false, decide_true, decide_false, Bool.false_eq_true, Bool.true_eq_false, Bool.not_true, Bool.not_false, reduceCtorEq, Bool.and_true, Bool.true_and, Bool.and_false, Bool.false_and, Bool.or_true, Bool.true_or, Bool.or_false, Bool.false_or, true_and, and_true, false_and, and_false, List.take_zero, List.take_succ_cons, List.drop_zero, List.drop_succ_cons, List.take_nil, List.drop_nil, List.set_cons_zero, List.set_cons_succ, Nat.reduceLeDiff, Nat.reduceLT, Nat.zero_add, Nat.lt_add_one, Nat.le_refl, clearA, Int.toNat_natCast, hlt, sameXs, fg_yes hg (rfl : wkA (.bool true) = _)]
  | cons x l1 ih =>
    intro pre1 l2 pre2 h' v4 v5 v6 v11 v12 e1 e2 ep el hg
    cases l2 with
    | nil => simp at el
    | cons y l2 =>
      have hlt : (pre1.length : Int) < (L1.length : Int) := by rw [e1]; simp; omega
      obtain ⟨a1, q1, i1, j1, k1⟩ := m1.ix pre1.length x (by rw [e1]; simp)
      obtain ⟨a2, q2, i2, j2, k2⟩ := m2.ix pre1.length y (by rw [ep, e2]; simp)
      have j1' := j1 _ hg
      have g1 := hg.trans (GrewA.push h' [q1])
      have j2' := j2 _ g1
      have g2 := g1.trans (GrewA.push _ [q2])
      have cy := hf x (by rw [e1]; simp) y q1 q2 ((h'.push [q1]).push [q2]) k1 k2
      have hw := w64 (n := (pre1.length : Int) + 1) (by rw [e1] at hL; simp at hL; omega) (by rw [e1] at hL; simp at hL; omega)
      obtain ⟨o1, o2⟩ := k1.one
      obtain ⟨o3, o4⟩ := k2.one
      cases hb : sameX x y
      · rw [hb] at cy
        rw [r_lpb rc_equalE_b1.eq_1]
        simp only [sim, List.length_cons, List.length_nil, Nat.reduceAdd, Nat.reduceSub, List.replicate, List.cons_append, List.nil_append, List.map_cons, List.map_nil, Option.bind_some, Option.map_some, Option.bind_none, Option.map_none, if_true, if_false, decide_true, decide_false, Bool.false_eq_true, Bool.true_eq_false, Bool.not_true, Bool.not_false, reduceCtorEq, Bool.and_true, Bool.true_and, Bool.and_false, Bool.false_and, Bool.or_true, Bool.true_or, Bool.or_false, Bool.false_or, true_and, and_true, false_and, and_false, List.take_zero, List.take_succ_cons, List.drop_zero, List.drop_succ_cons, List.take_nil, List.drop_nil, List.set_cons_zero, List.set_cons_succ, Nat.reduceLeDiff, Nat.reduceLT, Nat.zero_add, Nat.lt_add_one, Nat.le_refl, clearA, Int.toNat_natCast, calls, List.append_nil, hlt, i1, j1', i2, j2', o1, o2, o3, o4, cy, sameXs, hb, fg_yes g2 (rfl : wkA (.bool false) = _)]
      · rw [hb] at cy
        have r1 := ih (pre1 ++ [x]) l2 (pre2 ++ [y]) ((h'.push [q1]).push [q2]) (.int .i64 pre1.length) (.ptr h'.n 0 0) (.ptr (h'.n + 1) 0 0) (.bool true) (.bool false) (by simp [e1]) (by simp [e2]) (by simp [ep]) (by simpa using el) g2
        have e3 : ((pre1 ++ [x]).length : Int) = (pre1.length : Int) + 1 := by simp
        rw [e3] at r1
        rw [r_lpb rc_equalE_b1.eq_1]
        simp only [sim, List.length_cons, List.length_nil, Nat.reduceAdd, Nat.reduceSub, List.replicate, List.cons_append, List.nil_append, List.map_cons, List.map_nil, Option.bind_some, Option.map_some, Option.bind_none, Option.map_none, if_true, if_false, decide_true, decide_false, Bool.false_eq_true, Bool.true_eq_false, Bool.not_true, Bool.not_false, reduceCtorEq, Bool.and_true, Bool.true_and, Bool.and_false, Bool.false_and, Bool.or_true, Bool.true_or, Bool.or_false, Bool.false_or, true_and, and_true, false_and, and_false, List.take_zero, List.take_succ_cons, List.drop_zero, List.drop_succ_cons, List.take_nil, List.drop_nil, List.set_cons_zero, List.set_cons_succ, Nat.reduceLeDiff, Nat.reduceLT, Nat.zero_add, Nat.lt_add_one, Nat.le_refl, clearA, Int.toNat_natCast, calls, List.append_nil, hlt, i1, j1', i2, j2', o1, o2, o3, o4, cy, sameXs, hb, hw]
        exact r1
theorem equalE_run (v1 v2 : AV) (L1 L2 : List XD) (m1 : ModV h v1 L1) (m2 : ModV h v2 L2) (hL : L1.length ≤ 100000)
    (hf : ∀ x ∈ L1, ∀ y q1 q2 h', ExA x q1 → ExA y q2 → runF Try.prog po 88 [.agg q1, .agg q2] h' = some (.inl (.bool (sameX x y)), h')) :
    runF Try.prog po 87 [v1, v2, .fn 88 [] []] h = some (.inl (.bool (sameXs L1 L2)), h) := by
  refine runF_R fn_equalE rfl ?_; unfold rc_equalE
  cases hd : decide ((L1.length : Int) = (L2.length : Int))
  · simp only [sim, List.length_cons, List.length_nil, Nat.reduceAdd, Nat.reduceSub, List.replicate, List.cons_append, List.nil_append, List.map_cons, List.map_nil, Option.bind_some, Option.map_some, Option.bind_none, Option.map_none, if_true, if_false, decide_true, decide_false, Bool.false_eq_true, Bool.true_eq_false, Bool.not_true, Bool.not_false, reduceCtorEq, Bool.and_true, Bool.true_and, Bool.and_false, Bool.false_and, Bool.or_true, Bool.true_or, Bool.or_false, Bool.false_or, true_and, and_true, false_and, and_false, List.take_zero, List.take_succ_cons, List.drop_zero, List.drop_succ_cons, List.take_nil, List.drop_nil, List.set_cons_zero, List.set_cons_succ, Nat.reduceLeDiff, Nat.reduceLT, Nat.zero_add, Nat.lt_add_one, Nat.le_refl, clearA, Int.toNat_natCast, m1.len, m1.fits, m2.len, m2.fits, hd, sameXs_ne hd, fg_yes (GrewA.refl h) (rfl : wkA (.bool false) = _)]
  · have r1 := equalE_loop v1 v2 L1 L2 m1 m2 hL hf (.bool false) L1 [] L2 [] h .junk .junk .junk .junk .junk rfl rfl rfl (by simp at hd; omega) (GrewA.refl h)
    simp only [List.length_nil, Int.natCast_zero] at r1
    simp only [sim, List.length_cons, List.length_nil, Nat.reduceAdd, Nat.reduceSub, List.replicate, List.cons_append, List.nil_append, List.map_cons, List.map_nil, Option.bind_some, Option.map_some, Option.bind_none, Option.map_none, if_true, if_false, decide_true, decide_false, Bool.false_eq_true, Bool.true_eq_false, Bool.not_true, Bool.not_false, reduceCtorEq, Bool.and_true, Bool.true_and, Bool.and_false, Bool.false_and, Bool.or_true, Bool.true_or, Bool.or_false, Bool.false_or, true_and, and_true, false_and, and_false, List.take_zero, List.take_succ_cons, List.drop_zero, List.drop_succ_cons, List.take_nil, List.drop_nil, List.set_cons_zero, List.set_cons_succ, Nat.reduceLeDiff, Nat.reduceLT, Nat.zero_add, Nat.lt_add_one, Nat.le_refl, clearA, Int.toNat_natCast, m1.len, m1.fits, m2.len, m2.fits, hd]
    exact r1

theorem csame_run : ∀ (N : Nat) (x : XD), SizeOf.sizeOf x ≤ N → x.size ≤ 100000 → ∀ (y : XD) (r1 r2 : List AV) (h : AH), ExA x r1 → ExA y r2 →
    runF Try.prog po 88 [.agg r1, .agg r2] h = some (.inl (.bool (sameX x y)), h) := by
  intro N
  induction N with
  | zero => intro x hx; have := x.so_pos; omega
  | succ N ih =>
    intro x hx hsz y r1 r2 h he1 he2
    obtain ⟨v1, es1, e1, hv1, hl1⟩ := he1.row
    obtain ⟨v2, es2, e2, hv2, hl2⟩ := he2.row
    have hlen := x.len_size
    have g2 : GrewA h ((h.push [r1]).push [r2]) := (GrewA.push h _).trans (GrewA.push _ _)
    have ck := equalE_run (h := (h.push [r1]).push [r2]) v1 v2 x.l y.l (ModV.of hv1 hl1) (ModV.of hv2 hl2) (by omega) (fun z hz w q1 q2 h' hq1 hq2 => ih z (by have := XD.lt_mem hz; omega) (by have := XD.size_mem hz; omega) w q1 q2 h' hq1 hq2)
    have o1 := (ModV.of (h := h) hv1 hl1).one
    have o2 := (ModV.of (h := h) hv2 hl2).one
    subst e1 e2
    rw [sameX_eq]
    refine runF_R fn_csame rfl ?_; unfold rc_csame
    cases h1 : decide (x.op = y.op) <;> cases h2 : decide (x.k = y.k) <;> cases h3 : decide (x.n = y.n) <;>
      simp only [sim, List.length_cons, List.length_nil, Nat.reduceAdd, Nat.reduceSub, List.replicate, List.cons_append, List.nil_append, List.map_cons, List.map_nil, Option.bind_some, Option.map_some, Option.bind_none, Option.map_none, if_true, if_false, decide_true, decide_false, Bool.false_eq_true, Bool.true_eq_false, Bool.not_true, Bool.not_false, reduceCtorEq, Bool.and_true, Bool.true_and, Bool.and_false, Bool.false_and, Bool.or_true, Bool.true_or, Bool.or_false, Bool.false_or, true_and, and_true, false_and, and_false, List.take_zero, List.take_succ_cons, List.drop_zero, List.drop_succ_cons, List.take_nil, List.drop_nil, List.set_cons_zero, List.set_cons_succ, Nat.reduceLeDiff, Nat.reduceLT, Nat.zero_add, Nat.lt_add_one, Nat.le_refl, clearA, Int.toNat_natCast, o1, o2, h1, h2, h3, ck] <;> first | exact fg_yes g2 rfl | skip
theorem cSame_run (v1 v2 : AV) (L1 L2 : List XD) (m1 : ∀ h, ModV h v1 L1) (m2 : ∀ h, ModV h v2 L2) (hL : L1.length ≤ 100000) (hs : ∀ x ∈ L1, x.size ≤ 100000) :
    runF Try.prog po 60 [.agg [v1], .agg [v2]] h = some (.inl (.bool (sameXs L1 L2)), h) := by
  have ck := equalE_run (h := (h.push [[v1]]).push [[v2]]) v1 v2 L1 L2 (m1 _) (m2 _) hL (fun x hx y q1 q2 h' hq1 hq2 => csame_run _ x (Nat.le_refl _) (hs x hx) y q1 q2 h' hq1 hq2)
  have o1 := (m1 h).one
  have o2 := (m2 h).one
  refine runF_R fn_cSame rfl ?_; unfold rc_cSame
  simp only [sim, List.length_cons, List.length_nil, Nat.reduceAdd, Nat.reduceSub, List.replicate, List.cons_append, List.nil_append, List.map_cons, List.map_nil, Option.bind_some, Option.map_some, Option.bind_none, Option.map_none, if_true, if_false, decide_true, decide_false, Bool.false_eq_true, Bool.true_eq_false, Bool.not_true, Bool.not_false, reduceCtorEq, Bool.and_true, Bool.true_and, Bool.and_false, Bool.false_and, Bool.or_true, Bool.true_or, Bool.or_false, Bool.false_or, true_and, and_true, false_and, and_false, List.take_zero, List.take_succ_cons, List.drop_zero, List.drop_succ_cons, List.take_nil, List.drop_nil, List.set_cons_zero, List.set_cons_succ, Nat.reduceLeDiff, Nat.reduceLT, Nat.zero_add, Nat.lt_add_one, Nat.le_refl, clearA, Int.toNat_natCast, o1, o2, ck, fg_yes ((GrewA.push h _).trans (GrewA.push _ _)) (rfl : wkA (.bool (sameXs L1 L2)) = _)]

theorem sameExpr_loop (H : AH) (hH : GrewA h H) (C1 C2 : List AV) (v1 v2 : AV) (hb1 : H.cell h.n = some [C1]) (hb2 : H.cell (h.n + 1) = some [C2]) (hc1 : C1[3]? = some v1) (hc2 : C2[3]? = some v2) (L1 L2 : List XD) (m1 : ModV H v1 L1) (m2 : ModV H v2 L2) (hL : L1.length ≤ 100000)
    (hf : ∀ x ∈ L1, ∀ y q1 q2 h', ExA x q1 → ExA y q2 → runF Try.prog po 85 [.agg q1, .agg q2] h' = some (.inl (.bool (sameX x y)), h')) (v0 v00 v6 : AV) : ∀ (l1 pre1 l2 pre2 : List XD) (v7 v8 : AV), L1 = pre1 ++ l1 → L2 = pre2 ++ l2 → pre1.length = pre2.length → l1.length = l2.length →
    cFR true [.v 4] h (runR (runF Try.prog po) 9 [.lp rc_sameExpr_b1, .ss [], .blk 0, .ss [.ops [(.i (.v 4) (.mv (.c (.bool true))))], .ret]] [v0, v00, .ptr h.n 0 0, .ptr (h.n + 1) 0 0, .bool false, .int .i64 pre1.length, v6, v7, v8] [] H) =
      some (.inl (.bool (sameXs l1 l2)), h) := by
  intro l1
  induction l1 with
  | nil =>
    intro pre1 l2 pre2 v7 v8 e1 e2 ep el
    have hz : l2 = [] := List.length_eq_zero_iff.1 (by simpa using el.symm)
    subst hz
    have e' : L1 = pre1 := by simpa using e1
    have hlt : ¬ ((pre1.length : Int) < (L1.length : Int)) := by rw [e']; omega
    rw [r_lpb rc_sameExpr_b1.eq_1]
    simp only [sim, List.length_cons, List.length_nil, Nat.reduceAdd, Nat.reduceSub, List.replicate, List.cons_append, List.nil_append, List.map_cons, List.map_nil, Option.bind_some, Option.map_some, Option.bind_none, Option.map_none, if_true, if_false, decide_true, decide_false, Bool.false_eq_true, Bool.true_eq_false, Bool.not_true, Bool.not_false, reduceCtorEq, Bool.and_true, Bool.true_and, Bool.and_false, Bool.false_and, Bool.or_true, Bool.true_or, Bool.or_false, Bool.false_or, true_and, and_true, false_and, and_false, List.take_zero, List.take_succ_cons, List.drop_zero, List.drop_succ_cons, List.take_nil, List.drop_nil, List.set_cons_zero, List.set_cons_succ, Nat.reduceLeDiff, Nat.reduceLT, Nat.zero_add, Nat.lt_add_one, Nat.le_refl, clearA, Int.toNat_natCast, hb1, hc1, m1.len, m1.fits, hlt, sameXs, fg_yes hH (rfl : wkA (.bool true) = _)]
  | cons x l1 ih =>
    intro pre1 l2 pre2 v7 v8 e1 e2 ep el
    cases l2 with
    | nil => simp at el
    | cons y l2 =>
      have hlt : (pre1.length : Int) < (L1.length : Int) := by rw [e1]; simp; omega
      obtain ⟨a1, q1, i1, j1, k1⟩ := m1.ix pre1.length x (by rw [e1]; simp)
      obtain ⟨a2, q2, i2, j2, k2⟩ := m2.ix pre1.length y (by rw [ep, e2]; simp)
      have j1' := j1 _ (GrewA.refl H)
      have j2' := j2 _ (GrewA.refl H)
      have cy := hf x (by rw [e1]; simp) y q1 q2 H k1 k2
      have hw := w64 (n := (pre1.length : Int) + 1) (by rw [e1] at hL; simp at hL; omega) (by rw [e1] at hL; simp at hL; omega)
      cases hb : sameX x y
      · rw [hb] at cy
        rw [r_lpb rc_sameExpr_b1.eq_1]
        simp only [sim, List.length_cons, List.length_nil, Nat.reduceAdd, Nat.reduceSub, List.replicate, List.cons_append, List.nil_append, List.map_cons, List.map_nil, Option.bind_some, Option.map_some, Option.bind_none, Option.map_none, if_true, if_false, decide_true, decide_false, Bool.false_eq_true, Bool.true_eq_false, Bool.not_true, Bool.not_false, reduceCtorEq, Bool.and_true, Bool.true_and, Bool.and_false, Bool.false_and, Bool.or_true, Bool.true_or, Bool.or_false, Bool.false_or, true_and, and_true, false_and, and_false, List.take_zero, List.take_succ_cons, List.drop_zero, List.drop_succ_cons, List.take_nil, List.drop_nil, List.set_cons_zero, List.set_cons_succ, Nat.reduceLeDiff, Nat.reduceLT, Nat.zero_add, Nat.lt_add_one, Nat.le_refl, clearA, Int.toNat_natCast, hb1, hb2, hc1, hc2, m1.len, m1.fits, hlt, i1, j1', i2, j2', cy, sameXs, hb, fg_yes hH (rfl : wkA (.bool false) = _)]
      · rw [hb] at cy
        have r1 := ih (pre1 ++ [x]) l2 (pre2 ++ [y]) (.bool true) (.bool false) (by simp [e1]) (by simp [e2]) (by simp [ep]) (by simpa using el)
        have e3 : ((pre1 ++ [x]).length : Int) = (pre1.length : Int) + 1 := by simp
        rw [e3] at r1
        rw [r_lpb rc_sameExpr_b1.eq_1]
        simp only [sim, List.length_cons, List.length_nil, Nat.reduceAdd, Nat.reduceSub, List.replicate, List.cons_append, List.nil_append, List.map_cons, List.map_nil, Option.bind_some, Option.map_some, Option.bind_none, Option.map_none, if_true, if_false, decide_true, decide_false, Bool.false_eq_true, Bool.true_eq_false, Bool.not_true, Bool.not_false, reduceCtorEq, Bool.and_true, Bool.true_and, Bool.and_false, Bool.false_and, Bool.or_true, Bool.true_or, Bool.or_false, Bool.false_or, true_and, and_true, false_and, and_false, List.take_zero, List.take_succ_cons, List.drop_zero, List.drop_succ_cons, List.take_nil, List.drop_nil, List.set_cons_zero, List.set_cons_succ, Nat.reduceLeDiff, Nat.reduceLT, Nat.zero_add, Nat.lt_add_one, Nat.le_refl, clearA, Int.toNat_natCast, hb1, hb2, hc1, hc2, m1.len, m1.fits, hlt, i1, j1', i2, j2', cy, sameXs, hb, hw]
        exact r1

theorem sameExpr_run : ∀ (N : Nat) (x : XD), SizeOf.sizeOf x ≤ N → x.size ≤ 100000 → ∀ (y : XD) (r1 r2 : List AV) (h : AH), ExA x r1 → ExA y r2 →
    runF Try.prog po 85 [.agg r1, .agg r2] h = some (.inl (.bool (sameX x y)), h) := by
  intro N
  induction N with
  | zero => intro x hx; have := x.so_pos; omega
  | succ N ih =>
    intro x hx hsz y r1 r2 h he1 he2
    obtain ⟨v1, es1, e1, hv1, hl1⟩ := he1.row
    obtain ⟨v2, es2, e2, hv2, hl2⟩ := he2.row
    have hlen := x.len_size
    have g2 : GrewA h ((h.push [r1]).push [r2]) := (GrewA.push h _).trans (GrewA.push _ _)
    have m1 : ∀ h, ModV h v1 x.l := fun h => ModV.of hv1 hl1
    have m2 : ∀ h, ModV h v2 y.l := fun h => ModV.of hv2 hl2
    have o1 := (m1 h).one
    have o2 := (m2 h).one
    have l1 := (m1 h).len
    have l2 := (m2 h).len
    have f1 := (m1 h).fits
    have f2 := (m2 h).fits
    subst e1 e2
    rw [sameX_eq]
    refine runF_R fn_sameExpr rfl ?_; unfold rc_sameExpr
    cases h1 : decide (x.op = y.op) <;> cases h2 : decide (x.k = y.k) <;> cases h3 : decide (x.n = y.n)
    case true.true.true =>
      cases hd : decide ((x.l.length : Int) = (y.l.length : Int))
      · simp only [sim, List.length_cons, List.length_nil, Nat.reduceAdd, Nat.reduceSub, List.replicate, List.cons_append, List.nil_append, List.map_cons, List.map_nil, Option.bind_some, Option.map_some, Option.bind_none, Option.map_none, if_true, if_false, decide_true, decide_false, Bool.false_eq_true, Bool.true_eq_false, Bool.not_true, Bool.not_false, reduceCtorEq, Bool.and_true, Bool.true_and, Bool.and_false, Bool.false_and, Bool.or_true, Bool.true_or, Bool.or_false, Bool.false_or, true_and, and_true, false_and, and_false, List.take_zero, List.take_succ_cons, List.drop_zero, List.drop_succ_cons, List.take_nil, List.drop_nil, List.set_cons_zero, List.set_cons_succ, Nat.reduceLeDiff, Nat.reduceLT, Nat.zero_add, Nat.lt_add_one, Nat.le_refl, clearA, Int.toNat_natCast, o1, o2, l1, l2, f1, f2, h1, h2, h3, hd, sameXs_ne hd]
        exact fg_yes g2 rfl
      · have r1 := sameExpr_loop (h := h) _ g2 _ _ v1 v2 push2_old push2_same rfl rfl x.l y.l (m1 _) (m2 _) (by omega) (fun z hz w q1 q2 h' hq1 hq2 => ih z (by have := XD.lt_mem hz; omega) (by have := XD.size_mem hz; omega) w q1 q2 h' hq1 hq2) (.agg [.int .i64 x.op, .int .i64 x.k, .int .i64 x.n, v1]) (.agg [.int .i64 y.op, .int .i64 y.k, .int .i64 y.n, v2]) (.bool false) x.l [] y.l [] .junk .junk rfl rfl rfl (by simp at hd; omega)
        simp only [List.length_nil, Int.natCast_zero] at r1
        simp only [sim, List.length_cons, List.length_nil, Nat.reduceAdd, Nat.reduceSub, List.replicate, List.cons_append, List.nil_append, List.map_cons, List.map_nil, Option.bind_some, Option.map_some, Option.bind_none, Option.map_none, if_true, if_false, decide_true, decide_false, Bool.false_eq_true, Bool.true_eq_false, Bool.not_true, Bool.not_false, reduceCtorEq, Bool.and_true, Bool.true_and, Bool.and_false, Bool.false_and, Bool.or_true, Bool.true_or, Bool.or_false, Bool.false_or, true_and, and_true, false_and, and_false, List.take_zero, List.take_succ_cons, List.drop_zero, List.drop_succ_cons, List.take_nil, List.drop_nil, List.set_cons_zero, List.set_cons_succ, Nat.reduceLeDiff, Nat.reduceLT, Nat.zero_add, Nat.lt_add_one, Nat.le_refl, clearA, Int.toNat_natCast, o1, o2, l1, l2, f1, f2, h1, h2, h3, hd]
        exact r1
    all_goals
      simp only [sim, List.length_cons, List.length_nil, Nat.reduceAdd, Nat.reduceSub, List.replicate, List.cons_append, List.nil_append, List.map_cons, List.map_nil, Option.bind_some, Option.map_some, Option.bind_none, Option.map_none, if_true, if_false, decide_true, decide_false, Bool.false_eq_true, Bool.true_eq_false, Bool.not_true, Bool.not_false, reduceCtorEq, Bool.and_true, Bool.true_and, Bool.and_false, Bool.false_and, Bool.or_true, Bool.true_or, Bool.or_false, Bool.false_or, true_and, and_true, false_and, and_false, List.take_zero, List.take_succ_cons, List.drop_zero, List.drop_succ_cons, List.take_nil, List.drop_nil, List.set_cons_zero, List.set_cons_succ, Nat.reduceLeDiff, Nat.reduceLT, Nat.zero_add, Nat.lt_add_one, Nat.le_refl, clearA, Int.toNat_natCast, o1, o2, h1, h2, h3]
      exact fg_yes g2 rfl

theorem SameModule_loop (H : AH) (hH : GrewA h H) (C1 C2 : List AV) (v1 v2 : AV) (hb1 : H.cell h.n = some [C1]) (hb2 : H.cell (h.n + 1) = some [C2]) (hc1 : C1[0]? = some v1) (hc2 : C2[0]? = some v2) (L1 L2 : List XD) (m1 : ModV H v1 L1) (m2 : ModV H v2 L2) (hL : L1.length ≤ 100000)
    (hf : ∀ x ∈ L1, ∀ y q1 q2 h', ExA x q1 → ExA y q2 → runF Try.prog po 85 [.agg q1, .agg q2] h' = some (.inl (.bool (sameX x y)), h')) (v0 v00 v6 : AV) : ∀ (l1 pre1 l2 pre2 : List XD) (v7 v8 : AV), L1 = pre1 ++ l1 → L2 = pre2 ++ l2 → pre1.length = pre2.length → l1.length = l2.length →
    cFR true [.v 4] h (runR (runF Try.prog po) 9 [.lp rc_SameModule_b1, .ss [], .blk 0, .ss [.ops [(.i (.v 4) (.mv (.c (.bool true))))], .ret]] [v0, v00, .ptr h.n 0 0, .ptr (h.n + 1) 0 0, .bool false, .int .i64 pre1.length, v6, v7, v8] [] H) =
      some (.inl (.bool (sameXs l1 l2)), h) := by
  intro l1
  induction l1 with
  | nil =>
    intro pre1 l2 pre2 v7 v8 e1 e2 ep el
    have hz : l2 = [] := List.length_eq_zero_iff.1 (by simpa using el.symm)
    subst hz
    have e' : L1 = pre1 := by simpa using e1
    have hlt : ¬ ((pre1.length : Int) < (L1.length : Int)) := by rw [e']; omega
    rw [r_lpb rc_SameModule_b1.eq_1]
    simp only [sim, List.length_cons, List.length_nil, Nat.reduceAdd, Nat.reduceSub, List.replicate, List.cons_append, List.nil_append, List.map_cons, List.map_nil, Option.bind_some, Option.map_some, Option.bind_none, Option.map_none, if_true, if_false, decide_true, decide_false, Bool.false_eq_true, Bool.true_eq_false, Bool.not_true, Bool.not_false, reduceCtorEq, Bool.and_true, Bool.true_and, Bool.and_false, Bool.false_and, Bool.or_true, Bool.true_or, Bool.or_false, Bool.false_or, true_and, and_true, false_and, and_false, List.take_zero, List.take_succ_cons, List.drop_zero, List.drop_succ_cons, List.take_nil, List.drop_nil, List.set_cons_zero, List.set_cons_succ, Nat.reduceLeDiff, Nat.reduceLT, Nat.zero_add, Nat.lt_add_one, Nat.le_refl, clearA, Int.toNat_natCast, hb1, hc1, m1.len, m1.fits, hlt, sameXs, fg_yes hH (rfl : wkA (.bool true) = _)]
  | cons x l1 ih =>
    intro pre1 l2 pre2 v7 v8 e1 e2 ep el
    cases l2 with
    | nil => simp at el
    | cons y l2 =>
      have hlt : (pre1.length : Int) < (L1.length : Int) := by rw [e1]; simp; omega
      obtain ⟨a1, q1, i1, j1, k1⟩ := m1.ix pre1.length x (by rw [e1]; simp)
      obtain ⟨a2, q2, i2, j2, k2⟩ := m2.ix pre1.length y (by rw [ep, e2]; simp)
      have j1' := j1 _ (GrewA.refl H)
      have j2' := j2 _ (GrewA.refl H)
      have cy := hf x (by rw [e1]; simp) y q1 q2 H k1 k2
      have hw := w64 (n := (pre1.length : Int) + 1) (by rw [e1] at hL; simp at hL; omega) (by rw [e1] at hL; simp at hL; omega)
      cases hb : sameX x y
      · rw [hb] at cy
        rw [r_lpb rc_SameModule_b1.eq_1]
        simp only [sim, List.length_cons, List.length_nil, Nat.reduceAdd, Nat.reduceSub, List.replicate, List.cons_append, List.nil_append, List.map_cons, List.map_nil, Option.bind_some, Option.map_some, Option.bind_none, Option.map_none, if_true, if_false, decide_true, decide_false, Bool.false_eq_true, Bool.true_eq_false, Bool.not_true, Bool.not_false, reduceCtorEq, Bool.and_true, Bool.true_and, Bool.and_false, Bool.false_and, Bool.or_true, Bool.true_or, Bool.or_false, Bool.false_or, true_and, and_true, false_and, and_false, List.take_zero, List.take_succ_cons, List.drop_zero, List.drop_succ_cons, List.take_nil, List.drop_nil, List.set_cons_zero, List.set_cons_succ, Nat.reduceLeDiff, Nat.reduceLT, Nat.zero_add, Nat.lt_add_one, Nat.le_refl, clearA, Int.toNat_natCast, hb1, hb2, hc1, hc2, m1.len, m1.fits, hlt, i1, j1', i2, j2', cy, sameXs, hb, fg_yes hH (rfl : wkA (.bool false) = _)]
      · rw [hb] at cy
        have r1 := ih (pre1 ++ [x]) l2 (pre2 ++ [y]) (.bool true) (.bool false) (by simp [e1]) (by simp [e2]) (by simp [ep]) (by simpa using el)
        have e3 : ((pre1 ++ [x]).length : Int) = (pre1.length : Int) + 1 := by simp
        rw [e3] at r1
        rw [r_lpb rc_SameModule_b1.eq_1]
        simp only [sim, List.length_cons, List.length_nil, Nat.reduceAdd, Nat.reduceSub, List.replicate, List.cons_append, List.nil_append, List.map_cons, List.map_nil, Option.bind_some, Option.map_some, Option.bind_none, Option.map_none, if_true, if_false, decide_true, decide_false, Bool.false_eq_true, Bool.true_eq_false, Bool.not_true, Bool.not_false, reduceCtorEq, Bool.and_true, Bool.true_and, Bool.and_false, Bool.false_and, Bool.or_true, Bool.true_or, Bool.or_false, Bool.false_or, true_and, and_true, false_and, and_false, List.take_zero, List.take_succ_cons, List.drop_zero, List.drop_succ_cons, List.take_nil, List.drop_nil, List.set_cons_zero, List.set_cons_succ, Nat.reduceLeDiff, Nat.reduceLT, Nat.zero_add, Nat.lt_add_one, Nat.le_refl, clearA, Int.toNat_natCast, hb1, hb2, hc1, hc2, m1.len, m1.fits, hlt, i1, j1', i2, j2', cy, sameXs, hb, hw]
        exact r1

theorem SameModule_run (v1 v2 : AV) (L1 L2 : List XD) (m1 : ∀ h, ModV h v1 L1) (m2 : ∀ h, ModV h v2 L2) (hL : L1.length ≤ 100000) (hs : ∀ x ∈ L1, x.size ≤ 100000) :
    runF Try.prog po 58 [.agg [v1], .agg [v2]] h = some (.inl (.bool (sameXs L1 L2)), h) := by
  have g2 : GrewA h ((h.push [[v1]]).push [[v2]]) := (GrewA.push h _).trans (GrewA.push _ _)
  have o1 := (m1 h).one
  have o2 := (m2 h).one
  have l1 := (m1 h).len
  have l2 := (m2 h).len
  have f1 := (m1 h).fits
  have f2 := (m2 h).fits
  refine runF_R fn_SameModule rfl ?_; unfold rc_SameModule
  cases hd : decide ((L1.length : Int) = (L2.length : Int))
  · simp only [sim, List.length_cons, List.length_nil, Nat.reduceAdd, Nat.reduceSub, List.replicate, List.cons_append, List.nil_append, List.map_cons, List.map_nil, Option.bind_some, Option.map_some, Option.bind_none, Option.map_none, if_true, if_false, decide_true, decide_false, Bool.false_eq_true, Bool.true_eq_false, Bool.not_true, Bool.not_false, reduceCtorEq, Bool.and_true, Bool.true_and, Bool.and_false, Bool.false_and, Bool.or_true, Bool.true_or, Bool.or_false, Bool.false_or, true_and, and_true, false_and, and_false, List.take_zero, List.take_succ_cons, List.drop_zero, List.drop_succ_cons, List.take_nil, List.drop_nil, List.set_cons_zero, List.set_cons_succ, Nat.reduceLeDiff, Nat.reduceLT, Nat.zero_add, Nat.lt_add_one, Nat.le_refl, clearA, Int.toNat_natCast, o1, o2, l1, l2, f1, f2, hd, sameXs_ne hd]
    exact fg_yes g2 rfl
  · have r1 := SameModule_loop (h := h) _ g2 _ _ v1 v2 push2_old push2_same rfl rfl L1 L2 (m1 _) (m2 _) hL (fun x hx y q1 q2 h' hq1 hq2 => sameExpr_run _ x (Nat.le_refl _) (hs x hx) y q1 q2 h' hq1 hq2) (.agg [v1]) (.agg [v2]) (.bool false) L1 [] L2 [] .junk .junk rfl rfl rfl (by simp at hd; omega)
    simp only [List.length_nil, Int.natCast_zero] at r1
    simp only [sim, List.length_cons, List.length_nil, Nat.reduceAdd, Nat.reduceSub, List.replicate, List.cons_append, List.nil_append, List.map_cons, List.map_nil, Option.bind_some, Option.map_some, Option.bind_none, Option.map_none, if_true, if_false, decide_true, decide_false, Bool.false_eq_true, Bool.true_eq_false, Bool.not_true, Bool.not_false, reduceCtorEq, Bool.and_true, Bool.true_and, Bool.and_false, Bool.false_and, Bool.or_true, Bool.true_or, Bool.or_false, Bool.false_or, true_and, and_true, false_and, and_false, List.take_zero, List.take_succ_cons, List.drop_zero, List.drop_succ_cons, List.take_nil, List.drop_nil, List.set_cons_zero, List.set_cons_succ, Nat.reduceLeDiff, Nat.reduceLT, Nat.zero_add, Nat.lt_add_one, Nat.le_refl, clearA, Int.toNat_natCast, o1, o2, l1, l2, f1, f2, hd]
    exact r1
end
end Go.Proofs.Ytacocolcighomaa
