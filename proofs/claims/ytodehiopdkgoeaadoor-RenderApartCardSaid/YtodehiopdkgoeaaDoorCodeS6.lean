/- code in the plain model: what is asked of each in a list; the same. code in the plain model: the same. code in the plain model: copies. -/
import Derived.Test.YtodehiopdkgoeaaDoorCodeS3
import Derived.Test.YtodehiopdkgoeaaDoorAid
namespace Go.Proofs.YtodehiopdkgoeaaDoor
set_option linter.unusedSimpArgs false
set_option linter.unusedVariables false
open Go


section
variable {h : AH}
theorem indexE_loop (v : AV) (L : List XD) (hv : ModV h v L) (hL : L.length ≤ 100000) (g : FuncId) (a c : List AV) (p : XD → Bool)
    (hf : ∀ y ∈ L, ∀ q, ExA y q → runF Tryd.prog po g (a ++ [.agg q] ++ c) h = some (.inl (.bool (p y)), h)) : ∀ (l pre : List XD) (v2 v3 v6 v7 : AV), L = pre ++ l →
    ∃ n : Int, cFR true [.v 2] h (runR (runF Tryd.prog po) 8 [.lp rc_indexE_b1, .ss [], .blk 0, .ss [.ops [(.i (.v 2) (.mv (.c (.int .i64 (-1)))))], .ret]] [v, .fn g a c, v2, v3, .int .i64 L.length, .int .i64 pre.length, v6, v7] [] h) =
      some (.inl (.int .i64 n), h) ∧ decide (0 ≤ n) = l.any p := by
  intro l
  induction l with
  | nil =>
    intro pre v2 v3 v6 v7 e
    have e' : L = pre := by simpa using e
    have hlt : ¬ ((pre.length : Int) < (L.length : Int)) := by rw [e']; omega
    refine ⟨-1, ?_, rfl⟩
    rw [r_lpb rc_indexE_b1.eq_1]
    simp only [sim, List.length_cons, List.length_nil, Nat.reduceAdd, Nat.reduceSub, List.replicate, List.cons_append, List.nil_append, List.map_cons, List.map_nil, Option.bind_some, Option.map_some, Option.bind_none, Option.map_none, if_true, if_false, decide_true, decide_false, Bool.false_eq_true, Bool.true_eq_false, Bool.not_true, Bool.not_false, reduceCtorEq, Bool.and_true, Bool.true_and, Bool.and_false, Bool.false_and, Bool.or_true, Bool.true_or, Bool.or_false, Bool.false_or, true_and, and_true, false_and, and_false, List.take_zero, List.take_succ_cons, List.drop_zero, List.drop_succ_cons, List.take_nil, List.drop_nil, List.set_cons_zero, List.set_cons_succ, Nat.reduceLeDiff, Nat.reduceLT, Nat.zero_add, Nat.lt_add_one, Nat.le_refl, clearA, Int.toNat_natCast, hlt]
  | cons y l ih =>
    intro pre v2 v3 v6 v7 e
    have hlt : (pre.length : Int) < (L.length : Int) := by rw [e]; simp; omega
    obtain ⟨ad, q, i1, i2, i3⟩ := hv.ix pre.length y (by rw [e]; simp)
    have i2' := i2 _ (GrewA.refl h)
    have cy := hf y (by rw [e]; simp) q i3
    simp only [List.append_assoc, List.cons_append, List.nil_append] at cy
    have hw := w64 (n := (pre.length : Int) + 1) (by rw [e] at hL; simp at hL; omega) (by rw [e] at hL; simp at hL; omega)
    cases hb : p y
    · obtain ⟨n, r1, r2⟩ := ih (pre ++ [y]) v2 (.int .i64 pre.length) (.bool true) (.bool false) (by simp [e])
      have e2 : ((pre ++ [y]).length : Int) = (pre.length : Int) + 1 := by simp
      rw [e2] at r1
      refine ⟨n, ?_, by rw [r2]; simp [hb]⟩
      rw [hb] at cy
      rw [r_lpb rc_indexE_b1.eq_1]
      simp only [sim, List.length_cons, List.length_nil, Nat.reduceAdd, Nat.reduceSub, List.replicate, List.cons_append, List.nil_append, List.map_cons, List.map_nil, Option.bind_some, Option.map_some, Option.bind_none, Option.map_none, if_true, if_false, decide_true, decide_false, Bool.false_eq_true, Bool.true_eq_false, Bool.not_true, Bool.not_false, reduceCtorEq, Bool.and_true, Bool.true_and, Bool.and_false, Bool.false_and, Bool.or_true, Bool.true_or, Bool.or_false, Bool.false_or, true_and, and_true, false_and, and_false, List.take_zero, List.take_succ_cons, List.drop_zero, List.drop_succ_cons, List.take_nil, List.drop_nil, List.set_cons_zero, List.set_cons_succ, Nat.reduceLeDiff, Nat.reduceLT, Nat.zero_add, Nat.lt_add_one, Nat.le_refl, clearA, Int.toNat_natCast, calls, List.append_assoc, hlt, i1, i2', cy, hw]
      exact r1
    · refine ⟨pre.length, ?_, ?_⟩
      · rw [hb] at cy
        rw [r_lpb rc_indexE_b1.eq_1]
        simp only [sim, List.length_cons, List.length_nil, Nat.reduceAdd, Nat.reduceSub, List.replicate, List.cons_append, List.nil_append, List.map_cons, List.map_nil, Option.bind_some, Option.map_some, Option.bind_none, Option.map_none, if_true, if_false, decide_true, decide_false, Bool.false_eq_true, Bool.true_eq_false, Bool.not_true, Bool.not_false, reduceCtorEq, Bool.and_true, Bool.true_and, Bool.and_false, Bool.false_and, Bool.or_true, Bool.true_or, Bool.or_false, Bool.false_or, true_and, and_true, false_and, and_false, List.take_zero, List.take_succ_cons, List.drop_zero, List.drop_succ_cons, List.take_nil, List.drop_nil, List.set_cons_zero, List.set_cons_succ, Nat.reduceLeDiff, Nat.reduceLT, Nat.zero_add, Nat.lt_add_one, Nat.le_refl, clearA, Int.toNat_natCast, calls, List.append_assoc, hlt, i1, i2', cy]
      · simp [hb]
theorem containsE_run (v : AV) (L : List XD) (hv : ModV h v L) (hL : L.length ≤ 100000) (g : FuncId) (a c : List AV) (p : XD → Bool)
    (hf : ∀ y ∈ L, ∀ q, ExA y q → runF Tryd.prog po g (a ++ [.agg q] ++ c) h = some (.inl (.bool (p y)), h)) :
    runF Tryd.prog po 83 [v, .fn g a c] h = some (.inl (.bool (L.any p)), h) := by
  obtain ⟨n, r1, r2⟩ := indexE_loop v L hv hL g a c p hf L [] (.int .i64 0) .junk .junk .junk rfl
  simp only [List.length_nil, Int.natCast_zero] at r1
  have r0 : runF Tryd.prog po 98 [v, .fn g a c] h = some (.inl (.int .i64 n), h) := by
    refine runF_R fn_indexE rfl ?_; unfold rc_indexE
    simp only [sim, List.length_cons, List.length_nil, Nat.reduceAdd, Nat.reduceSub, List.replicate, List.cons_append, List.nil_append, List.map_cons, List.map_nil, Option.bind_some, Option.map_some, Option.bind_none, Option.map_none, if_true, if_false, decide_true, decide_false, Bool.false_eq_true, Bool.true_eq_false, Bool.not_true, Bool.not_false, reduceCtorEq, Bool.and_true, Bool.true_and, Bool.and_false, Bool.false_and, Bool.or_true, Bool.true_or, Bool.or_false, Bool.false_or, true_and, and_true, false_and, and_false, List.take_zero, List.take_succ_cons, List.drop_zero, List.drop_succ_cons, List.take_nil, List.drop_nil, List.set_cons_zero, List.set_cons_succ, Nat.reduceLeDiff, Nat.reduceLT, Nat.zero_add, Nat.lt_add_one, Nat.le_refl, clearA, Int.toNat_natCast, hv.len, hv.fits]
    exact r1
  refine runF_R fn_containsE rfl ?_; unfold rc_containsE
  simp only [sim, List.length_cons, List.length_nil, Nat.reduceAdd, Nat.reduceSub, List.replicate, List.cons_append, List.nil_append, List.map_cons, List.map_nil, Option.bind_some, Option.map_some, Option.bind_none, Option.map_none, if_true, if_false, decide_true, decide_false, Bool.false_eq_true, Bool.true_eq_false, Bool.not_true, Bool.not_false, reduceCtorEq, Bool.and_true, Bool.true_and, Bool.and_false, Bool.false_and, Bool.or_true, Bool.true_or, Bool.or_false, Bool.false_or, true_and, and_true, false_and, and_false, List.take_zero, List.take_succ_cons, List.drop_zero, List.drop_succ_cons, List.take_nil, List.drop_nil, List.set_cons_zero, List.set_cons_succ, Nat.reduceLeDiff, Nat.reduceLT, Nat.zero_add, Nat.lt_add_one, Nat.le_refl, clearA, Int.toNat_natCast, r0, r2]

theorem cdeep_run : ∀ (N : Nat) (x : XD), SizeOf.sizeOf x ≤ N → x.size ≤ 100000 → ∀ (r : List AV) (h : AH) (left : Int), ExA x r → -1 ≤ left → left ≤ 100000 →
    runF Tryd.prog po 64 [.agg r, .int .i64 left] h = some (.inl (.bool (decide ((x.depth : Int) ≤ left))), h) := by
  intro N
  induction N with
  | zero => intro x hx; have := x.so_pos; omega
  | succ N ih =>
    intro x hx hsz r h left he h0 hm
    obtain ⟨v, es, e, hv, hl⟩ := he.row
    have mv : ∀ h', ModV h' v x.l := fun h' => ModV.of hv hl
    have hv1 := (mv h).one
    subst e
    refine runF_R fn_cdeep rfl ?_; unfold rc_cdeep
    by_cases hp : 0 ≤ left
    · have hlen := x.len_size
      have ck := containsE_run (h := (h.push [[.int .i64 x.op, .int .i64 x.k, .int .i64 x.n, v]]).push [[.int .i64 left]]) v x.l (mv _) (by omega) 84 [] [.ptr (h.n + 1) 0 0] (fun y => !decide ((y.depth : Int) ≤ left - 1)) (fun y hy q hq => by
        have hw := w64 (n := left - 1) (by omega) (by omega)
        have dy := ih y (by have := XD.lt_mem hy; omega) (by have := XD.size_mem hy; omega) q (((h.push [[.int .i64 x.op, .int .i64 x.k, .int .i64 x.n, v]]).push [[.int .i64 left]]).push [q]) (left - 1) hq (by omega) (by omega)
        obtain ⟨q1, q2⟩ := hq.one
        refine runF_R fn_cdeep1 rfl ?_; unfold rc_cdeep1
        simp only [sim, List.length_cons, List.length_nil, Nat.reduceAdd, Nat.reduceSub, List.replicate, List.cons_append, List.nil_append, List.map_cons, List.map_nil, Option.bind_some, Option.map_some, Option.bind_none, Option.map_none, if_true, if_false, decide_true, decide_false, Bool.false_eq_true, Bool.true_eq_false, Bool.not_true, Bool.not_false, reduceCtorEq, Bool.and_true, Bool.true_and, Bool.and_false, Bool.false_and, Bool.or_true, Bool.true_or, Bool.or_false, Bool.false_or, true_and, and_true, false_and, and_false, List.take_zero, List.take_succ_cons, List.drop_zero, List.drop_succ_cons, List.take_nil, List.drop_nil, List.set_cons_zero, List.set_cons_succ, Nat.reduceLeDiff, Nat.reduceLT, Nat.zero_add, Nat.lt_add_one, Nat.le_refl, clearA, Int.toNat_natCast, q1, q2, hw, dy, fg_yes (GrewA.push _ _) (rfl : wkA (.bool (!decide ((y.depth : Int) ≤ left - 1))) = _)])
      simp only [sim, List.length_cons, List.length_nil, Nat.reduceAdd, Nat.reduceSub, List.replicate, List.cons_append, List.nil_append, List.map_cons, List.map_nil, Option.bind_some, Option.map_some, Option.bind_none, Option.map_none, if_true, if_false, decide_true, decide_false, Bool.false_eq_true, Bool.true_eq_false, Bool.not_true, Bool.not_false, reduceCtorEq, Bool.and_true, Bool.true_and, Bool.and_false, Bool.false_and, Bool.or_true, Bool.true_or, Bool.or_false, Bool.false_or, true_and, and_true, false_and, and_false, List.take_zero, List.take_succ_cons, List.drop_zero, List.drop_succ_cons, List.take_nil, List.drop_nil, List.set_cons_zero, List.set_cons_succ, Nat.reduceLeDiff, Nat.reduceLT, Nat.zero_add, Nat.lt_add_one, Nat.le_refl, clearA, Int.toNat_natCast, hv1, hp, ck, deep_any x hp, fg_yes ((GrewA.push h _).trans (GrewA.push _ _)) (rfl : wkA (.bool (decide ((x.depth : Int) ≤ left))) = _)]
    · have hd : decide ((x.depth : Int) ≤ left) = false := by rw [decide_eq_false_iff_not]; omega
      rw [hd]
      simp only [sim, List.length_cons, List.length_nil, Nat.reduceAdd, Nat.reduceSub, List.replicate, List.cons_append, List.nil_append, List.map_cons, List.map_nil, Option.bind_some, Option.map_some, Option.bind_none, Option.map_none, if_true, if_false, decide_true, decide_false, Bool.false_eq_true, Bool.true_eq_false, Bool.not_true, Bool.not_false, reduceCtorEq, Bool.and_true, Bool.true_and, Bool.and_false, Bool.false_and, Bool.or_true, Bool.true_or, Bool.or_false, Bool.false_or, true_and, and_true, false_and, and_false, List.take_zero, List.take_succ_cons, List.drop_zero, List.drop_succ_cons, List.take_nil, List.drop_nil, List.set_cons_zero, List.set_cons_succ, Nat.reduceLeDiff, Nat.reduceLT, Nat.zero_add, Nat.lt_add_one, Nat.le_refl, clearA, Int.toNat_natCast, hv1, hp, fg_yes ((GrewA.push h _).trans (GrewA.push _ _)) (rfl : wkA (.bool false) = _)]
end
end Go.Proofs.YtodehiopdkgoeaaDoor
namespace Go.Proofs.YtodehiopdkgoeaaDoor
set_option linter.unusedSimpArgs false
set_option linter.unusedVariables false
open Go

theorem sameX_eq (x y : XD) : sameX x y = (decide (x.op = y.op) && (decide (x.k = y.k) && (decide (x.n = y.n) && sameXs x.l y.l))) := by
  cases x; cases y
  rfl
theorem sameXs_ne {l l' : List XD} (h : decide ((l.length : Int) = (l'.length : Int)) = false) : sameXs l l' = false := by
  cases hs : sameXs l l'
  · rfl
  · have := sameXs_len hs
    simp [this] at h

section
variable {h : AH}

theorem sameExpr_loop (H : AH) (hH : GrewA h H) (C1 C2 : List AV) (v1 v2 : AV) (hb1 : H.cell h.n = some [C1]) (hb2 : H.cell (h.n + 1) = some [C2]) (hc1 : C1[3]? = some v1) (hc2 : C2[3]? = some v2) (L1 L2 : List XD) (m1 : ModV H v1 L1) (m2 : ModV H v2 L2) (hL : L1.length ≤ 100000)
    (hf : ∀ x ∈ L1, ∀ y q1 q2 h', ExA x q1 → ExA y q2 → runF Tryd.prog po 53 [.agg q1, .agg q2] h' = some (.inl (.bool (sameX x y)), h')) (v0 v00 v6 : AV) : ∀ (l1 pre1 l2 pre2 : List XD) (v7 v8 : AV), L1 = pre1 ++ l1 → L2 = pre2 ++ l2 → pre1.length = pre2.length → l1.length = l2.length →
    cFR true [.v 4] h (runR (runF Tryd.prog po) 9 [.lp rc_sameExpr_b1, .ss [], .blk 0, .ss [.ops [(.i (.v 4) (.mv (.c (.bool true))))], .ret]] [v0, v00, .ptr h.n 0 0, .ptr (h.n + 1) 0 0, .bool false, .int .i64 pre1.length, v6, v7, v8] [] H) =
      some (.inl (.bool (sameXs l1 l2)), h) := by
  intro l1
  induction l1 with
  | nil =>
    intro pre1 l2 pre2 v7 v8 e1 e2 ep el
    have hz : l2 = [] := List.length_eq_zero_iff.1 (by simpa using el.symm)
    subst hz
    have e' : L1 = pre1 := by simpa using e1
    have hlt : ¬ ((pre1.length : Int) < (L1.length : Int)) := by rw [e']; omega
    rw [r_lpb rc_sameExpr_b1.eq_1]
    simp only [sim, List.length_cons, List.length_nil, Nat.reduceAdd, Nat.reduceSub, List.replicate, List.cons_append, List.nil_append, List.map_cons, List.map_nil, Option.bind_some, Option.map_some, Option.bind_none, Option.map_none, if_true, if_false, decide_true, decide_false, Bool.false_eq_true, Bool.true_eq_false, Bool.not_true, Bool.not_false, reduceCtorEq, Bool.and_true, Bool.true_and, Bool.and_false, Bool.false_and, Bool.or_true, Bool.true_or, Bool.or_false, Bool.false_or, true_and, and_true, false_and, and_false, List.take_zero, List.take_succ_cons, List.drop_zero, List.drop_succ_cons, List.take_nil, List.drop_nil, List.set_cons_zero, List.set_cons_succ, Nat.reduceLeDiff, Nat.reduceLT, Nat.zero_add, Nat.lt_add_one, Nat.le_refl, clearA, Int.toNat_natCast, hb1, hc1, m1.len, m1.fits, hlt, sameXs, fg_yes hH (rfl : wkA (.bool true) = _)]
  | cons x l1 ih =>
    intro pre1 l2 pre2 v7 v8 e1 e2 ep el
    cases l2 with
    | nil => simp at el
    | cons y l2 =>
      have hlt : (pre1.length : Int) < (L1.length : Int) := by rw [e1]; simp; omega
      obtain ⟨a1, q1, i1, j1, k1⟩ := m1.ix pre1.length x (by rw [e1]; simp)
      obtain ⟨a2, q2, i2, j2, k2⟩ := m2.ix pre1.length y (by rw [ep, e2]; simp)
      have j1' := j1 _ (GrewA.refl H)
      have j2' := j2 _ (GrewA.refl H)
      have cy := hf x (by rw [e1]; simp) y q1 q2 H k1 k2
      have hw := w64 (n := (pre1.length : Int) + 1) (by rw [e1] at hL; simp at hL; omega) (by rw [e1] at hL; simp at hL; omega)
      cases hb : sameX x y
      · rw [hb] at cy
        rw [r_lpb rc_sameExpr_b1.eq_1]
        simp only [sim, List.length_cons, List.length_nil, Nat.reduceAdd, Nat.reduceSub, List.replicate, List.cons_append, List.nil_append, List.map_cons, List.map_nil, Option.bind_some, Option.map_some, Option.bind_none, Option.map_none, if_true, if_false, decide_true, decide_false, Bool.false_eq_true, Bool.true_eq_false, Bool.not_true, Bool.not_false, reduceCtorEq, Bool.and_true, Bool.true_and, Bool.and_false, Bool.false_and, Bool.or_true, Bool.true_or, Bool.or_false, Bool.false_or, true_and, and_true, false_and, and_false, List.take_zero, List.take_succ_cons, List.drop_zero, List.drop_succ_cons, List.take_nil, List.drop_nil, List.set_cons_zero, List.set_cons_succ, Nat.reduceLeDiff, Nat.reduceLT, Nat.zero_add, Nat.lt_add_one, Nat.le_refl, clearA, Int.toNat_natCast, hb1, hb2, hc1, hc2, m1.len, m1.fits, hlt, i1, j1', i2, j2', cy, sameXs, hb, fg_yes hH (rfl : wkA (.bool false) = _)]
      · rw [hb] at cy
        have r1 := ih (pre1 ++ [x]) l2 (pre2 ++ [y]) (.bool true) (.bool false) (by simp [e1]) (by simp [e2]) (by simp [ep]) (by simpa using el)
        have e3 : ((pre1 ++ [x]).length : Int) = (pre1.length : Int) + 1 := by simp
        rw [e3] at r1
        rw [r_lpb rc_sameExpr_b1.eq_1]
        simp only [sim, List.length_cons, List.length_nil, Nat.reduceAdd, Nat.reduceSub, List.replicate, List.cons_append, List.nil_append, List.map_cons, List.map_nil, Option.bind_some, Option.map_some, Option.bind_none, Option.map_none, if_true, if_false, decide_true, decide_false, Bool.false_eq_true, Bool.true_eq_false, Bool.not_true, Bool.not_false, reduceCtorEq, Bool.and_true, Bool.true_and, Bool.and_false, Bool.false_and, Bool.or_true, Bool.true_or, Bool.or_false, Bool.false_or, true_and, and_true, false_and, and_false, List.take_zero, List.take_succ_cons, List.drop_zero, List.drop_succ_cons, List.take_nil, List.drop_nil, List.set_cons_zero, List.set_cons_succ, Nat.reduceLeDiff, Nat.reduceLT, Nat.zero_add, Nat.lt_add_one, Nat.le_refl, clearA, Int.toNat_natCast, hb1, hb2, hc1, hc2, m1.len, m1.fits, hlt, i1, j1', i2, j2', cy, sameXs, hb, hw]
        exact r1

theorem sameExpr_run : ∀ (N : Nat) (x : XD), SizeOf.sizeOf x ≤ N → x.size ≤ 100000 → ∀ (y : XD) (r1 r2 : List AV) (h : AH), ExA x r1 → ExA y r2 →
    runF Tryd.prog po 53 [.agg r1, .agg r2] h = some (.inl (.bool (sameX x y)), h) := by
  intro N
  induction N with
  | zero => intro x hx; have := x.so_pos; omega
  | succ N ih =>
    intro x hx hsz y r1 r2 h he1 he2
    obtain ⟨v1, es1, e1, hv1, hl1⟩ := he1.row
    obtain ⟨v2, es2, e2, hv2, hl2⟩ := he2.row
    have hlen := x.len_size
    have g2 : GrewA h ((h.push [r1]).push [r2]) := (GrewA.push h _).trans (GrewA.push _ _)
    have m1 : ∀ h, ModV h v1 x.l := fun h => ModV.of hv1 hl1
    have m2 : ∀ h, ModV h v2 y.l := fun h => ModV.of hv2 hl2
    have o1 := (m1 h).one
    have o2 := (m2 h).one
    have l1 := (m1 h).len
    have l2 := (m2 h).len
    have f1 := (m1 h).fits
    have f2 := (m2 h).fits
    subst e1 e2
    rw [sameX_eq]
    refine runF_R fn_sameExpr rfl ?_; unfold rc_sameExpr
    cases h1 : decide (x.op = y.op) <;> cases h2 : decide (x.k = y.k) <;> cases h3 : decide (x.n = y.n)
    case true.true.true =>
      cases hd : decide ((x.l.length : Int) = (y.l.length : Int))
      · simp only [sim, List.length_cons, List.length_nil, Nat.reduceAdd, Nat.reduceSub, List.replicate, List.cons_append, List.nil_append, List.map_cons, List.map_nil, Option.bind_some, Option.map_some, Option.bind_none, Option.map_none, if_true, if_false, decide_true, decide_false, Bool.false_eq_true, Bool.true_eq_false, Bool.not_true, Bool.not_false, reduceCtorEq, Bool.and_true, Bool.true_and, Bool.and_false, Bool.false_and, Bool.or_true, Bool.true_or, Bool.or_false, Bool.false_or, true_and, and_true, false_and, and_false, List.take_zero, List.take_succ_cons, List.drop_zero, List.drop_succ_cons, List.take_nil, List.drop_nil, List.set_cons_zero, List.set_cons_succ, Nat.reduceLeDiff, Nat.reduceLT, Nat.zero_add, Nat.lt_add_one, Nat.le_refl, clearA, Int.toNat_natCast, o1, o2, l1, l2, f1, f2, h1, h2, h3, hd, sameXs_ne hd]
        exact fg_yes g2 rfl
      · have r1 := sameExpr_loop (h := h) _ g2 _ _ v1 v2 push2_old push2_same rfl rfl x.l y.l (m1 _) (m2 _) (by omega) (fun z hz w q1 q2 h' hq1 hq2 => ih z (by have := XD.lt_mem hz; omega) (by have := XD.size_mem hz; omega) w q1 q2 h' hq1 hq2) (.agg [.int .i64 x.op, .int .i64 x.k, .int .i64 x.n, v1]) (.agg [.int .i64 y.op, .int .i64 y.k, .int .i64 y.n, v2]) (.bool false) x.l [] y.l [] .junk .junk rfl rfl rfl (by simp at hd; omega)
        simp only [List.length_nil, Int.natCast_zero] at r1
        simp only [sim, List.length_cons, List.length_nil, Nat.reduceAdd, Nat.reduceSub, List.replicate, List.cons_append, List.nil_append, List.map_cons, List.map_nil, Option.bind_some, Option.map_some, Option.bind_none, Option.map_none, if_true, if_false, decide_true, decide_false, Bool.false_eq_true, Bool.true_eq_false, Bool.not_true, Bool.not_false, reduceCtorEq, Bool.and_true, Bool.true_and, Bool.and_false, Bool.false_and, Bool.or_true, Bool.true_or, Bool.or_false, Bool.false_or, true_and, and_true, false_and, and_false, List.take_zero, List.take_succ_cons, List.drop_zero, List.drop_succ_cons, List.take_nil, List.drop_nil, List.set_cons_zero, List.set_cons_succ, Nat.reduceLeDiff, Nat.reduceLT, Nat.zero_add, Nat.lt_add_one, Nat.le_refl, clearA, Int.toNat_natCast, o1, o2, l1, l2, f1, f2, h1, h2, h3, hd]
        exact r1
    all_goals
      simp only [sim, List.length_cons, List.length_nil, Nat.reduceAdd, Nat.reduceSub, List.replicate, List.cons_append, List.nil_append, List.map_cons, List.map_nil, Option.bind_some, Option.map_some, Option.bind_none, Option.map_none, if_true, if_false, decide_true, decide_false, Bool.false_eq_true, Bool.true_eq_false, Bool.not_true, Bool.not_false, reduceCtorEq, Bool.and_true, Bool.true_and, Bool.and_false, Bool.false_and, Bool.or_true, Bool.true_or, Bool.or_false, Bool.false_or, true_and, and_true, false_and, and_false, List.take_zero, List.take_succ_cons, List.drop_zero, List.drop_succ_cons, List.take_nil, List.drop_nil, List.set_cons_zero, List.set_cons_succ, Nat.reduceLeDiff, Nat.reduceLT, Nat.zero_add, Nat.lt_add_one, Nat.le_refl, clearA, Int.toNat_natCast, o1, o2, h1, h2, h3]
      exact fg_yes g2 rfl

theorem SameModule_loop (H : AH) (hH : GrewA h H) (C1 C2 : List AV) (v1 v2 : AV) (hb1 : H.cell h.n = some [C1]) (hb2 : H.cell (h.n + 1) = some [C2]) (hc1 : C1[0]? = some v1) (hc2 : C2[0]? = some v2) (L1 L2 : List XD) (m1 : ModV H v1 L1) (m2 : ModV H v2 L2) (hL : L1.length ≤ 100000)
    (hf : ∀ x ∈ L1, ∀ y q1 q2 h', ExA x q1 → ExA y q2 → runF Tryd.prog po 53 [.agg q1, .agg q2] h' = some (.inl (.bool (sameX x y)), h')) (v0 v00 v6 : AV) : ∀ (l1 pre1 l2 pre2 : List XD) (v7 v8 : AV), L1 = pre1 ++ l1 → L2 = pre2 ++ l2 → pre1.length = pre2.length → l1.length = l2.length →
    cFR true [.v 4] h (runR (runF Tryd.prog po) 9 [.lp rc_SameModule_b1, .ss [], .blk 0, .ss [.ops [(.i (.v 4) (.mv (.c (.bool true))))], .ret]] [v0, v00, .ptr h.n 0 0, .ptr (h.n + 1) 0 0, .bool false, .int .i64 pre1.length, v6, v7, v8] [] H) =
      some (.inl (.bool (sameXs l1 l2)), h) := by
  intro l1
  induction l1 with
  | nil =>
    intro pre1 l2 pre2 v7 v8 e1 e2 ep el
    have hz : l2 = [] := List.length_eq_zero_iff.1 (by simpa using el.symm)
    subst hz
    have e' : L1 = pre1 := by simpa using e1
    have hlt : ¬ ((pre1.length : Int) < (L1.length : Int)) := by rw [e']; omega
    rw [r_lpb rc_SameModule_b1.eq_1]
    simp only [sim, List.length_cons, List.length_nil, Nat.reduceAdd, Nat.reduceSub, List.replicate, List.cons_append, List.nil_append, List.map_cons, List.map_nil, Option.bind_some, Option.map_some, Option.bind_none, Option.map_none, if_true, if_false, decide_true, decide_false, Bool.false_eq_true, Bool.true_eq_false, Bool.not_true, Bool.not_false, reduceCtorEq, Bool.and_true, Bool.true_and, Bool.and_false, Bool.false_and, Bool.or_true, Bool.true_or, Bool.or_false, Bool.false_or, true_and, and_true, false_and, and_false, List.take_zero, List.take_succ_cons, List.drop_zero, List.drop_succ_cons, List.take_nil, List.drop_nil, List.set_cons_zero, List.set_cons_succ, Nat.reduceLeDiff, Nat.reduceLT, Nat.zero_add, Nat.lt_add_one, Nat.le_refl, clearA, Int.toNat_natCast, hb1, hc1, m1.len, m1.fits, hlt, sameXs, fg_yes hH (rfl : wkA (.bool true) = _)]
  | cons x l1 ih =>
    intro pre1 l2 pre2 v7 v8 e1 e2 ep el
    cases l2 with
    | nil => simp at el
    | cons y l2 =>
      have hlt : (pre1.length : Int) < (L1.length : Int) := by rw [e1]; simp; omega
      obtain ⟨a1, q1, i1, j1, k1⟩ := m1.ix pre1.length x (by rw [e1]; simp)
      obtain ⟨a2, q2, i2, j2, k2⟩ := m2.ix pre1.length y (by rw [ep, e2]; simp)
      have j1' := j1 _ (GrewA.refl H)
      have j2' := j2 _ (GrewA.refl H)
      have cy := hf x (by rw [e1]; simp) y q1 q2 H k1 k2
      have hw := w64 (n := (pre1.length : Int) + 1) (by rw [e1] at hL; simp at hL; omega) (by rw [e1] at hL; simp at hL; omega)
      cases hb : sameX x y
      · rw [hb] at cy
        rw [r_lpb rc_SameModule_b1.eq_1]
        simp only [sim, List.length_cons, List.length_nil, Nat.reduceAdd, Nat.reduceSub, List.replicate, List.cons_append, List.nil_append, List.map_cons, List.map_nil, Option.bind_some, Option.map_some, Option.bind_none, Option.map_none, if_true, if_false, decide_true, decide_false, Bool.false_eq_true, Bool.true_eq_false, Bool.not_true, Bool.not_false, reduceCtorEq, Bool.and_true, Bool.true_and, Bool.and_false, Bool.false_and, Bool.or_true, Bool.true_or, Bool.or_false, Bool.false_or, true_and, and_true, false_and, and_false, List.take_zero, List.take_succ_cons, List.drop_zero, List.drop_succ_cons, List.take_nil, List.drop_nil, List.set_cons_zero, List.set_cons_succ, Nat.reduceLeDiff, Nat.reduceLT, Nat.zero_add, Nat.lt_add_one, Nat.le_refl, clearA, Int.toNat_natCast, hb1, hb2, hc1, hc2, m1.len, m1.fits, hlt, i1, j1', i2, j2', cy, sameXs, hb, fg_yes hH (rfl : wkA (.bool false) = _)]
      · rw [hb] at cy
        have r1 := ih (pre1 ++ [x]) l2 (pre2 ++ [y]) (.bool true) (.bool false) (by simp [e1]) (by simp [e2]) (by simp [ep]) (by simpa using el)
        have e3 : ((pre1 ++ [x]).length : Int) = (pre1.length : Int) + 1 := by simp
        rw [e3] at r1
        rw [r_lpb rc_SameModule_b1.eq_1]
        simp only [sim, List.length_cons, List.length_nil, Nat.reduceAdd, Nat.reduceSub, List.replicate, List.cons_append, List.nil_append, List.map_cons, List.map_nil, Option.bind_some, Option.map_some, Option.bind_none, Option.map_none, if_true, if_false, decide_true, decide_false, Bool.false_eq_true, Bool.true_eq_false, Bool.not_true, Bool.not_false, reduceCtorEq, Bool.and_true, Bool.true_and, Bool.and_false, Bool.false_and, Bool.or_true, Bool.true_or, Bool.or_false, Bool.false_or, true_and, and_true, false_and, and_false, List.take_zero, List.take_succ_cons, List.drop_zero, List.drop_succ_cons, List.take_nil, List.drop_nil, List.set_cons_zero, List.set_cons_succ, Nat.reduceLeDiff, Nat.reduceLT, Nat.zero_add, Nat.lt_add_one, Nat.le_refl, clearA, Int.toNat_natCast, hb1, hb2, hc1, hc2, m1.len, m1.fits, hlt, i1, j1', i2, j2', cy, sameXs, hb, hw]
        exact r1

theorem SameModule_run (v1 v2 : AV) (L1 L2 : List XD) (m1 : ∀ h, ModV h v1 L1) (m2 : ∀ h, ModV h v2 L2) (hL : L1.length ≤ 100000) (hs : ∀ x ∈ L1, x.size ≤ 100000) :
    runF Tryd.prog po 30 [.agg [v1], .agg [v2]] h = some (.inl (.bool (sameXs L1 L2)), h) := by
  have g2 : GrewA h ((h.push [[v1]]).push [[v2]]) := (GrewA.push h _).trans (GrewA.push _ _)
  have o1 := (m1 h).one
  have o2 := (m2 h).one
  have l1 := (m1 h).len
  have l2 := (m2 h).len
  have f1 := (m1 h).fits
  have f2 := (m2 h).fits
  refine runF_R fn_SameModule rfl ?_; unfold rc_SameModule
  cases hd : decide ((L1.length : Int) = (L2.length : Int))
  · simp only [sim, List.length_cons, List.length_nil, Nat.reduceAdd, Nat.reduceSub, List.replicate, List.cons_append, List.nil_append, List.map_cons, List.map_nil, Option.bind_some, Option.map_some, Option.bind_none, Option.map_none, if_true, if_false, decide_true, decide_false, Bool.false_eq_true, Bool.true_eq_false, Bool.not_true, Bool.not_false, reduceCtorEq, Bool.and_true, Bool.true_and, Bool.and_false, Bool.false_and, Bool.or_true, Bool.true_or, Bool.or_false, Bool.false_or, true_and, and_true, false_and, and_false, List.take_zero, List.take_succ_cons, List.drop_zero, List.drop_succ_cons, List.take_nil, List.drop_nil, List.set_cons_zero, List.set_cons_succ, Nat.reduceLeDiff, Nat.reduceLT, Nat.zero_add, Nat.lt_add_one, Nat.le_refl, clearA, Int.toNat_natCast, o1, o2, l1, l2, f1, f2, hd, sameXs_ne hd]
    exact fg_yes g2 rfl
  · have r1 := SameModule_loop (h := h) _ g2 _ _ v1 v2 push2_old push2_same rfl rfl L1 L2 (m1 _) (m2 _) hL (fun x hx y q1 q2 h' hq1 hq2 => sameExpr_run _ x (Nat.le_refl _) (hs x hx) y q1 q2 h' hq1 hq2) (.agg [v1]) (.agg [v2]) (.bool false) L1 [] L2 [] .junk .junk rfl rfl rfl (by simp at hd; omega)
    simp only [List.length_nil, Int.natCast_zero] at r1
    simp only [sim, List.length_cons, List.length_nil, Nat.reduceAdd, Nat.reduceSub, List.replicate, List.cons_append, List.nil_append, List.map_cons, List.map_nil, Option.bind_some, Option.map_some, Option.bind_none, Option.map_none, if_true, if_false, decide_true, decide_false, Bool.false_eq_true, Bool.true_eq_false, Bool.not_true, Bool.not_false, reduceCtorEq, Bool.and_true, Bool.true_and, Bool.and_false, Bool.false_and, Bool.or_true, Bool.true_or, Bool.or_false, Bool.false_or, true_and, and_true, false_and, and_false, List.take_zero, List.take_succ_cons, List.drop_zero, List.drop_succ_cons, List.take_nil, List.drop_nil, List.set_cons_zero, List.set_cons_succ, Nat.reduceLeDiff, Nat.reduceLT, Nat.zero_add, Nat.lt_add_one, Nat.le_refl, clearA, Int.toNat_natCast, o1, o2, l1, l2, f1, f2, hd]
    exact r1
end
end Go.Proofs.YtodehiopdkgoeaaDoor
namespace Go.Proofs.YtodehiopdkgoeaaDoor
set_option linter.unusedSimpArgs false
set_option linter.unusedVariables false
open Go

section
variable {h : AH}

theorem ownExpr_loop (L : List XD) (v : AV) (m : ∀ h, ModV h v L) (hL : L.length ≤ 100000) (op k n : Int) 
    (hf : ∀ y ∈ L, ∀ q h', ExA y q → ∃ q', runF Tryd.prog po 44 [.agg q] h' = some (.inl (.agg q'), h') ∧ ExA y q') (v0 : AV) (K : List RK) : ∀ (l pre : List XD) (h' : AH) (acc : AV) (rows : List (List AV)) (v5 : AV), L = pre ++ l →
    GrewA h h' → h.n + 1 + 1 < h'.n → h'.cell h.n = some [[.int .i64 op, .int .i64 k, .int .i64 n, v]] → h'.cell (h.n + 1) = some [[.int .i64 0, .int .i64 0, .int .i64 0, .nils]] → h'.cell (h.n + 1 + 1) = some [[.int .i64 op, .int .i64 k, .int .i64 n, acc]] → Acc h h' tE acc rows → ExL pre rows →
    ∃ h'' acc' rows' w4 w5, runR (runF Tryd.prog po) 6 (.lp rc_ownExpr_b1 :: .ss [] :: .blk 0 :: K) [v0, .ptr h.n 0 0, .ptr (h.n + 1) 0 0, .ptr (h.n + 1 + 1) 0 0, .int .i64 pre.length, v5] [] h' = runR (runF Tryd.prog po) 6 K [v0, .ptr h.n 0 0, .ptr (h.n + 1) 0 0, .ptr (h.n + 1 + 1) 0 0, w4, w5] [] h'' ∧
      GrewA h h'' ∧ h''.cell (h.n + 1) = some [[.int .i64 0, .int .i64 0, .int .i64 0, .nils]] ∧ h''.cell (h.n + 1 + 1) = some [[.int .i64 op, .int .i64 k, .int .i64 n, acc']] ∧ Acc h h'' tE acc' rows' ∧ ExL L rows' := by
  intro l
  induction l with
  | nil =>
    intro pre h' acc rows v5 e g hn c1 c2 c3 ha hr
    have e' : L = pre := by simpa using e
    have hlt : ¬ ((pre.length : Int) < (L.length : Int)) := by rw [e']; omega
    refine ⟨h', acc, rows, .int .i64 pre.length, .bool false, ?_, g, c2, c3, ha, by rw [e']; exact hr⟩
    rw [r_lpb rc_ownExpr_b1.eq_1]
    simp only [sim, List.length_cons, List.length_nil, Nat.reduceAdd, Nat.reduceSub, List.replicate, List.cons_append, List.nil_append, List.map_cons, List.map_nil, Option.bind_some, Option.map_some, Option.bind_none, Option.map_none, if_true, if_false, decide_true, decide_false, Bool.false_eq_true, Bool.true_eq_false, Bool.not_true, Bool.not_false, reduceCtorEq, Bool.and_true, Bool.true_and, Bool.and_false, Bool.false_and, Bool.or_true, Bool.true_or, Bool.or_false, Bool.false_or, true_and, and_true, false_and, and_false, List.take_zero, List.take_succ_cons, List.drop_zero, List.drop_succ_cons, List.take_nil, List.drop_nil, List.set_cons_zero, List.set_cons_succ, Nat.reduceLeDiff, Nat.reduceLT, Nat.zero_add, Nat.lt_add_one, Nat.le_refl, clearA, Int.toNat_natCast, c1, (m h).len, (m h).fits, hlt]
  | cons y l ih =>
    intro pre h' acc rows v5 e g hn c1 c2 c3 ha hr
    have hlt : (pre.length : Int) < (L.length : Int) := by rw [e]; simp; omega
    have hpl : pre.length ≤ 100000 := by rw [e] at hL; simp at hL; omega
    obtain ⟨a, q, i1, i2, i3⟩ := (m h').ix pre.length y (by rw [e]; simp)
    have i2' := i2 _ (GrewA.refl h')
    obtain ⟨q', cy, hq'⟩ := hf y (by rw [e]; simp) q h' i3
    obtain ⟨o1, o2⟩ := hq'.one
    have hw := w64 (n := (pre.length : Int) + 1) (by omega) (by omega)
    have hrl : rows.length ≤ 1000000 := by rw [hr.len]; omega
    obtain ⟨acc2, h2, e1, a1, a2, a3, a4⟩ := acc_app ha g (row := q') o1 hrl
    have b1 : (h2.set (h.n + 1 + 1) (some [[.int .i64 op, .int .i64 k, .int .i64 n, acc2]])).cell h.n = some [[.int .i64 op, .int .i64 k, .int .i64 n, v]] := by rw [set_ne (by omega), a3]; exact c1
    have b2 : (h2.set (h.n + 1 + 1) (some [[.int .i64 op, .int .i64 k, .int .i64 n, acc2]])).cell (h.n + 1) = some [[.int .i64 0, .int .i64 0, .int .i64 0, .nils]] := by rw [set_ne (by omega), a3]; exact c2
    obtain ⟨h'', acc', rows', w4, w5, r1, r2⟩ := ih (pre ++ [y]) (h2.set (h.n + 1 + 1) (some [[.int .i64 op, .int .i64 k, .int .i64 n, acc2]])) acc2 (rows ++ [q']) (.bool true) (by simp [e]) (a2.set (by omega)) (by show _ < h2.n; rw [a4]; exact hn) b1 b2 set_same a1 (hr.append hq')
    have e3 : ((pre ++ [y]).length : Int) = (pre.length : Int) + 1 := by simp
    rw [e3] at r1
    refine ⟨h'', acc', rows', w4, w5, ?_, r2⟩
    have oA : acc2.one = true := by
      rcases a1 with ⟨_, rfl⟩ | ⟨id, _, _, _, _, rfl⟩ <;> rfl
    have cA : acc2.cells = [acc2] := by
      rcases a1 with ⟨_, rfl⟩ | ⟨id, _, _, _, _, rfl⟩ <;> rfl
    rw [r_lpb rc_ownExpr_b1.eq_1]
    simp only [sim, List.length_cons, List.length_nil, Nat.reduceAdd, Nat.reduceSub, List.replicate, List.cons_append, List.nil_append, List.map_cons, List.map_nil, Option.bind_some, Option.map_some, Option.bind_none, Option.map_none, if_true, if_false, decide_true, decide_false, Bool.false_eq_true, Bool.true_eq_false, Bool.not_true, Bool.not_false, reduceCtorEq, Bool.and_true, Bool.true_and, Bool.and_false, Bool.false_and, Bool.or_true, Bool.true_or, Bool.or_false, Bool.false_or, true_and, and_true, false_and, and_false, List.take_zero, List.take_succ_cons, List.drop_zero, List.drop_succ_cons, List.take_nil, List.drop_nil, List.set_cons_zero, List.set_cons_succ, Nat.reduceLeDiff, Nat.reduceLT, Nat.zero_add, Nat.lt_add_one, Nat.le_refl, clearA, Int.toNat_natCast, c1, c2, c3, (m h).len, (m h).fits, hlt, i1, i2', cy, o1, o2, e1, a3, oA, cA, hw]
    exact r1

theorem ownExpr_run : ∀ (N : Nat) (x : XD), SizeOf.sizeOf x ≤ N → x.size ≤ 100000 → ∀ (r : List AV) (h : AH), ExA x r →
    ∃ r', runF Tryd.prog po 44 [.agg r] h = some (.inl (.agg r'), h) ∧ ExA x r' := by
  intro N
  induction N with
  | zero => intro x hx; have := x.so_pos; omega
  | succ N ih =>
    intro x hx hsz r h he
    obtain ⟨v, es, e, hv, hl⟩ := he.row
    have m : ∀ h, ModV h v x.l := fun h => ModV.of hv hl
    have o1 := (m h).one
    have l1 := (m h).len
    have f1 := (m h).fits
    have hlen := x.len_size
    subst e
    obtain ⟨h'', acc', rows', w4, w5, r1, g, c2, c3, ha, hr⟩ := ownExpr_loop (h := h) x.l v m (by omega) x.op x.k x.n (fun y hy q h' hq => ih y (by have := XD.lt_mem hy; omega) (by have := XD.size_mem hy; omega) q h' hq) (.agg [.int .i64 x.op, .int .i64 x.k, .int .i64 x.n, v]) [.ss [.ops [(.i .l (.load true 4 (.v 3))), (.i .n (.store 4 (.v 2) (.l 0)))], .ret]] x.l []
      (((h.push [[.int .i64 x.op, .int .i64 x.k, .int .i64 x.n, v]]).push [[.int .i64 0, .int .i64 0, .int .i64 0, .nils]]).push [[.int .i64 x.op, .int .i64 x.k, .int .i64 x.n, .nils]]) .nils [] .junk rfl
      (((GrewA.push h _).trans (GrewA.push _ _)).trans (GrewA.push _ _)) (by simp only [push_n]; omega) push3_0 push3_1 push3_same (acc_nil _ _ _) rfl
    simp only [List.length_nil, Int.natCast_zero] at r1
    have hx' : ExA x [.int .i64 x.op, .int .i64 x.k, .int .i64 x.n, acc'] := by
      rw [x.eta]
      simp only [ExA]
      refine ⟨acc', rows', rfl, ?_, hr⟩
      rcases ha with ⟨q1, q2⟩ | ⟨id, _, _, _, _, q2⟩
      · exact .inl ⟨q1, q2⟩
      · exact .inr ⟨_, q2⟩
    obtain ⟨r', hw, hr'⟩ := ex_wk hx'
    have oA := hx'.one.1
    simp only [List.all_cons, List.all_nil, Bool.and_true] at oA
    have oA' : acc'.one = true := oA
    have hwA : wkA (.agg [.int .i64 x.op, .int .i64 x.k, .int .i64 x.n, acc']) = some (.agg r') := by simp only [wkA, hw, Option.map_some]
    refine ⟨r', ?_, hr'⟩
    refine runF_R fn_ownExpr rfl ?_; unfold rc_ownExpr
    simp only [sim, List.length_cons, List.length_nil, Nat.reduceAdd, Nat.reduceSub, List.replicate, List.cons_append, List.nil_append, List.map_cons, List.map_nil, Option.bind_some, Option.map_some, Option.bind_none, Option.map_none, if_true, if_false, decide_true, decide_false, Bool.false_eq_true, Bool.true_eq_false, Bool.not_true, Bool.not_false, reduceCtorEq, Bool.and_true, Bool.true_and, Bool.and_false, Bool.false_and, Bool.or_true, Bool.true_or, Bool.or_false, Bool.false_or, true_and, and_true, false_and, and_false, List.take_zero, List.take_succ_cons, List.drop_zero, List.drop_succ_cons, List.take_nil, List.drop_nil, List.set_cons_zero, List.set_cons_succ, Nat.reduceLeDiff, Nat.reduceLT, Nat.zero_add, Nat.lt_add_one, Nat.le_refl, clearA, Int.toNat_natCast, o1, l1, f1, r1, c2, c3, oA', fg_yes (g.set (show h.n ≤ h.n + 1 by omega)) hwA]

theorem OwnModule_loop (L : List XD) (v : AV) (m : ∀ h, ModV h v L) (hL : L.length ≤ 100000) 
    (hf : ∀ y ∈ L, ∀ q h', ExA y q → ∃ q', runF Tryd.prog po 44 [.agg q] h' = some (.inl (.agg q'), h') ∧ ExA y q') (v0 : AV) (K : List RK) : ∀ (l pre : List XD) (h' : AH) (acc : AV) (rows : List (List AV)) (v5 : AV), L = pre ++ l →
    GrewA h h' → h.n + 1 + 1 < h'.n → h'.cell h.n = some [[v]] → h'.cell (h.n + 1) = some [[.nils]] → h'.cell (h.n + 1 + 1) = some [[acc]] → Acc h h' tE acc rows → ExL pre rows →
    ∃ h'' acc' rows' w4 w5, runR (runF Tryd.prog po) 6 (.lp rc_OwnModule_b1 :: .ss [] :: .blk 0 :: K) [v0, .ptr h.n 0 0, .ptr (h.n + 1) 0 0, .ptr (h.n + 1 + 1) 0 0, .int .i64 pre.length, v5] [] h' = runR (runF Tryd.prog po) 6 K [v0, .ptr h.n 0 0, .ptr (h.n + 1) 0 0, .ptr (h.n + 1 + 1) 0 0, w4, w5] [] h'' ∧
      GrewA h h'' ∧ h''.cell (h.n + 1) = some [[.nils]] ∧ h''.cell (h.n + 1 + 1) = some [[acc']] ∧ Acc h h'' tE acc' rows' ∧ ExL L rows' := by
  intro l
  induction l with
  | nil =>
    intro pre h' acc rows v5 e g hn c1 c2 c3 ha hr
    have e' : L = pre := by simpa using e
    have hlt : ¬ ((pre.length : Int) < (L.length : Int)) := by rw [e']; omega
    refine ⟨h', acc, rows, .int .i64 pre.length, .bool false, ?_, g, c2, c3, ha, by rw [e']; exact hr⟩
    rw [r_lpb rc_OwnModule_b1.eq_1]
    simp only [sim, List.length_cons, List.length_nil, Nat.reduceAdd, Nat.reduceSub, List.replicate, List.cons_append, List.nil_append, List.map_cons, List.map_nil, Option.bind_some, Option.map_some, Option.bind_none, Option.map_none, if_true, if_false, decide_true, decide_false, Bool.false_eq_true, Bool.true_eq_false, Bool.not_true, Bool.not_false, reduceCtorEq, Bool.and_true, Bool.true_and, Bool.and_false, Bool.false_and, Bool.or_true, Bool.true_or, Bool.or_false, Bool.false_or, true_and, and_true, false_and, and_false, List.take_zero, List.take_succ_cons, List.drop_zero, List.drop_succ_cons, List.take_nil, List.drop_nil, List.set_cons_zero, List.set_cons_succ, Nat.reduceLeDiff, Nat.reduceLT, Nat.zero_add, Nat.lt_add_one, Nat.le_refl, clearA, Int.toNat_natCast, c1, (m h).len, (m h).fits, hlt]
  | cons y l ih =>
    intro pre h' acc rows v5 e g hn c1 c2 c3 ha hr
    have hlt : (pre.length : Int) < (L.length : Int) := by rw [e]; simp; omega
    have hpl : pre.length ≤ 100000 := by rw [e] at hL; simp at hL; omega
    obtain ⟨a, q, i1, i2, i3⟩ := (m h').ix pre.length y (by rw [e]; simp)
    have i2' := i2 _ (GrewA.refl h')
    obtain ⟨q', cy, hq'⟩ := hf y (by rw [e]; simp) q h' i3
    obtain ⟨o1, o2⟩ := hq'.one
    have hw := w64 (n := (pre.length : Int) + 1) (by omega) (by omega)
    have hrl : rows.length ≤ 1000000 := by rw [hr.len]; omega
    obtain ⟨acc2, h2, e1, a1, a2, a3, a4⟩ := acc_app ha g (row := q') o1 hrl
    have b1 : (h2.set (h.n + 1 + 1) (some [[acc2]])).cell h.n = some [[v]] := by rw [set_ne (by omega), a3]; exact c1
    have b2 : (h2.set (h.n + 1 + 1) (some [[acc2]])).cell (h.n + 1) = some [[.nils]] := by rw [set_ne (by omega), a3]; exact c2
    obtain ⟨h'', acc', rows', w4, w5, r1, r2⟩ := ih (pre ++ [y]) (h2.set (h.n + 1 + 1) (some [[acc2]])) acc2 (rows ++ [q']) (.bool true) (by simp [e]) (a2.set (by omega)) (by show _ < h2.n; rw [a4]; exact hn) b1 b2 set_same a1 (hr.append hq')
    have e3 : ((pre ++ [y]).length : Int) = (pre.length : Int) + 1 := by simp
    rw [e3] at r1
    refine ⟨h'', acc', rows', w4, w5, ?_, r2⟩
    have oA : acc2.one = true := by
      rcases a1 with ⟨_, rfl⟩ | ⟨id, _, _, _, _, rfl⟩ <;> rfl
    have cA : acc2.cells = [acc2] := by
      rcases a1 with ⟨_, rfl⟩ | ⟨id, _, _, _, _, rfl⟩ <;> rfl
    rw [r_lpb rc_OwnModule_b1.eq_1]
    simp only [sim, List.length_cons, List.length_nil, Nat.reduceAdd, Nat.reduceSub, List.replicate, List.cons_append, List.nil_append, List.map_cons, List.map_nil, Option.bind_some, Option.map_some, Option.bind_none, Option.map_none, if_true, if_false, decide_true, decide_false, Bool.false_eq_true, Bool.true_eq_false, Bool.not_true, Bool.not_false, reduceCtorEq, Bool.and_true, Bool.true_and, Bool.and_false, Bool.false_and, Bool.or_true, Bool.true_or, Bool.or_false, Bool.false_or, true_and, and_true, false_and, and_false, List.take_zero, List.take_succ_cons, List.drop_zero, List.drop_succ_cons, List.take_nil, List.drop_nil, List.set_cons_zero, List.set_cons_succ, Nat.reduceLeDiff, Nat.reduceLT, Nat.zero_add, Nat.lt_add_one, Nat.le_refl, clearA, Int.toNat_natCast, c1, c2, c3, (m h).len, (m h).fits, hlt, i1, i2', cy, o1, o2, e1, a3, oA, cA, hw]
    exact r1

theorem OwnModule_run (v : AV) (L : List XD) (m : ∀ h, ModV h v L) (hL : L.length ≤ 100000) (hs : ∀ x ∈ L, x.size ≤ 100000) :
    ∃ r', runF Tryd.prog po 27 [.agg [v]] h = some (.inl (.agg r'), h) ∧ ModA L r' := by
  have o1 := (m h).one
  have l1 := (m h).len
  have f1 := (m h).fits
  obtain ⟨h'', acc', rows', w4, w5, r1, g, c2, c3, ha, hr⟩ := OwnModule_loop (h := h) L v m hL (fun y hy q h' hq => ownExpr_run _ y (Nat.le_refl _) (hs y hy) q h' hq) (.agg [v]) [.ss [.ops [(.i .l (.load true 1 (.v 3))), (.i .n (.store 1 (.v 2) (.l 0)))], .ret]] L []
    (((h.push [[v]]).push [[.nils]]).push [[.nils]]) .nils [] .junk rfl
    (((GrewA.push h _).trans (GrewA.push _ _)).trans (GrewA.push _ _)) (by simp only [push_n]; omega) push3_0 push3_1 push3_same (acc_nil _ _ _) rfl
  simp only [List.length_nil, Int.natCast_zero] at r1
  have hsl : SlA tE acc' rows' := by
    rcases ha with ⟨q1, q2⟩ | ⟨id, _, _, _, _, q2⟩
    · exact .inl ⟨q1, q2⟩
    · exact .inr ⟨_, q2⟩
  obtain ⟨rows2, hw, hr'⟩ := exs_wk hr
  have oA' : acc'.one = true := (ModV.of (h := h) hsl hr).one
  have hwA : ∃ a2, wkA (.agg [acc']) = some (.agg [a2]) ∧ SlA tE a2 rows2 := by
    rcases hsl with ⟨q1, rfl⟩ | ⟨id, rfl⟩
    · subst q1
      cases hw
      exact ⟨.nils, rfl, .inl ⟨rfl, rfl⟩⟩
    · exact ⟨.isl none tE rows2, by simp only [wkA, wkL, hw, Option.map_some], .inr ⟨_, rfl⟩⟩
  obtain ⟨a2, hwA, hs2⟩ := hwA
  refine ⟨[a2], ?_, a2, rows2, rfl, hs2, hr'⟩
  refine runF_R fn_OwnModule rfl ?_; unfold rc_OwnModule
  simp only [sim, List.length_cons, List.length_nil, Nat.reduceAdd, Nat.reduceSub, List.replicate, List.cons_append, List.nil_append, List.map_cons, List.map_nil, Option.bind_some, Option.map_some, Option.bind_none, Option.map_none, if_true, if_false, decide_true, decide_false, Bool.false_eq_true, Bool.true_eq_false, Bool.not_true, Bool.not_false, reduceCtorEq, Bool.and_true, Bool.true_and, Bool.and_false, Bool.false_and, Bool.or_true, Bool.true_or, Bool.or_false, Bool.false_or, true_and, and_true, false_and, and_false, List.take_zero, List.take_succ_cons, List.drop_zero, List.drop_succ_cons, List.take_nil, List.drop_nil, List.set_cons_zero, List.set_cons_succ, Nat.reduceLeDiff, Nat.reduceLT, Nat.zero_add, Nat.lt_add_one, Nat.le_refl, clearA, Int.toNat_natCast, o1, l1, f1, r1, c2, c3, oA', fg_yes (g.set (show h.n ≤ h.n + 1 by omega)) hwA]
end
end Go.Proofs.YtodehiopdkgoeaaDoor
