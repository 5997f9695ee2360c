/- What compares lists of numbers, in the plain model. -/
import Derived.Test.YtodehiopdkgoeaaDoorCInts
import Derived.Test.YtodehiopdkgoeaaDoorHeapV
import Derived.Test.YtodehiopdkgoeaaDoorAid
namespace Go.Proofs.YtodehiopdkgoeaaDoor
set_option linter.unusedSimpArgs false
set_option linter.unusedVariables false
open Go

section
variable {h : AH}

theorem SameInts_loop (l m : List Int) (v w : AV) (hv : IsL 3 v (intsA l)) (hw : IsL 3 w (intsA m)) (hl : l.length ≤ 1000) : ∀ (r r' pre pre' : List Int) (t1 t2 t3 : AV), l = pre ++ r → m = pre' ++ r' → pre.length = pre'.length → r.length = r'.length →
    cFR true [.v 2] h (runR (runF Tryd.prog po) 7 [.lp rc_SameInts_b1, .ss [], .blk 0, .ss [.ops [(.i (.v 2) (.mv (.c (.bool true))))], .ret]] [v, w, .bool false, .int .i64 pre.length, t1, t2, t3] [] h) = some (.inl (.bool (decide (r = r'))), h) := by
  intro r
  induction r with
  | nil =>
    intro r' pre pre' t1 t2 t3 e e' hp hr
    obtain rfl : r' = [] := List.length_eq_zero_iff.1 hr.symm
    rw [r_lpb rc_SameInts_b1.eq_1]
    have hlt : ¬ ((pre.length : Int) < (l.length : Int)) := by rw [e]; simp
    simp only [sim, List.length_cons, List.length_nil, Nat.reduceAdd, Nat.reduceSub, List.replicate, List.cons_append, List.nil_append, List.map_cons, List.map_nil, Option.bind_some, Option.map_some, Option.bind_none, Option.map_none, if_true, if_false, decide_true, decide_false, Bool.false_eq_true, Bool.true_eq_false, Bool.not_true, Bool.not_false, reduceCtorEq, Bool.and_true, Bool.true_and, Bool.and_false, Bool.false_and, Bool.or_true, Bool.true_or, Bool.or_false, Bool.false_or, true_and, and_true, false_and, and_false, List.take_zero, List.take_succ_cons, List.drop_zero, List.drop_succ_cons, List.take_nil, List.drop_nil, List.set_cons_zero, List.set_cons_succ, Nat.reduceLeDiff, Nat.reduceLT, Nat.zero_add, Nat.lt_add_one, Nat.le_refl, clearA, Int.toNat_natCast, hv.len, hv.fits, List.length_map, hlt]
  | cons i r ih =>
    intro r' pre pre' t1 t2 t3 e e' hp hr
    obtain ⟨i', r', rfl⟩ : ∃ i' s, r' = i' :: s := by cases r' with | nil => simp at hr | cons a s => exact ⟨a, s, rfl⟩
    rw [r_lpb rc_SameInts_b1.eq_1]
    have hlt : (pre.length : Int) < (l.length : Int) := by rw [e]; simp; omega
    have hix := hv.ix .i64 pre.length [.int .i64 i] (by rw [e]; simp)
    have hix2 := hw.ix .i64 pre.length [.int .i64 i'] (by rw [e', hp]; simp)
    have hwr := w64 (n := (pre.length : Int) + 1) (by omega) (by omega)
    have e2 : ((pre ++ [i]).length : Int) = (pre.length : Int) + 1 := by simp
    cases hd : decide (i = i')
    · have hc : decide (i :: r = i' :: r') = false := by
        have : ¬ i = i' := by simpa using hd
        simp [this]
      simp only [sim, List.length_cons, List.length_nil, Nat.reduceAdd, Nat.reduceSub, List.replicate, List.cons_append, List.nil_append, List.map_cons, List.map_nil, Option.bind_some, Option.map_some, Option.bind_none, Option.map_none, if_true, if_false, decide_true, decide_false, Bool.false_eq_true, Bool.true_eq_false, Bool.not_true, Bool.not_false, reduceCtorEq, Bool.and_true, Bool.true_and, Bool.and_false, Bool.false_and, Bool.or_true, Bool.true_or, Bool.or_false, Bool.false_or, true_and, and_true, false_and, and_false, List.take_zero, List.take_succ_cons, List.drop_zero, List.drop_succ_cons, List.take_nil, List.drop_nil, List.set_cons_zero, List.set_cons_succ, Nat.reduceLeDiff, Nat.reduceLT, Nat.zero_add, Nat.lt_add_one, Nat.le_refl, clearA, Int.toNat_natCast, hv.len, hv.fits, List.length_map, hlt, hix, hix2, hd, hc]
    · have := ih r' (pre ++ [i]) (pre' ++ [i']) t1 (.bool true) (.bool false) (by simp [e]) (by simp [e']) (by simp [hp]) (by simpa using hr)
      rw [e2] at this
      have hc : decide (i :: r = i' :: r') = decide (r = r') := by
        have : i = i' := by simpa using hd
        simp [this]
      simp only [sim, List.length_cons, List.length_nil, Nat.reduceAdd, Nat.reduceSub, List.replicate, List.cons_append, List.nil_append, List.map_cons, List.map_nil, Option.bind_some, Option.map_some, Option.bind_none, Option.map_none, if_true, if_false, decide_true, decide_false, Bool.false_eq_true, Bool.true_eq_false, Bool.not_true, Bool.not_false, reduceCtorEq, Bool.and_true, Bool.true_and, Bool.and_false, Bool.false_and, Bool.or_true, Bool.true_or, Bool.or_false, Bool.false_or, true_and, and_true, false_and, and_false, List.take_zero, List.take_succ_cons, List.drop_zero, List.drop_succ_cons, List.take_nil, List.drop_nil, List.set_cons_zero, List.set_cons_succ, Nat.reduceLeDiff, Nat.reduceLT, Nat.zero_add, Nat.lt_add_one, Nat.le_refl, clearA, Int.toNat_natCast, hv.len, hv.fits, List.length_map, hlt, hix, hix2, hd, hwr, this, hc]
theorem r_SameInts (l m : List Int) (v w : AV) (hv : IsL 3 v (intsA l)) (hw : IsL 3 w (intsA m)) (hl : l.length ≤ 1000) : runF Tryd.prog po 18 [v, w] h = some (.inl (.bool (decide (l = m))), h) := by
  refine runF_R fn_SameInts rfl ?_; unfold rc_SameInts
  cases hd : decide ((l.length : Int) = (m.length : Int))
  · have hne : decide (l = m) = false := by
      simp at hd ⊢
      intro e
      rw [e] at hd
      exact hd rfl
    simp only [sim, List.length_cons, List.length_nil, Nat.reduceAdd, Nat.reduceSub, List.replicate, List.cons_append, List.nil_append, List.map_cons, List.map_nil, Option.bind_some, Option.map_some, Option.bind_none, Option.map_none, if_true, if_false, decide_true, decide_false, Bool.false_eq_true, Bool.true_eq_false, Bool.not_true, Bool.not_false, reduceCtorEq, Bool.and_true, Bool.true_and, Bool.and_false, Bool.false_and, Bool.or_true, Bool.true_or, Bool.or_false, Bool.false_or, true_and, and_true, false_and, and_false, List.take_zero, List.take_succ_cons, List.drop_zero, List.drop_succ_cons, List.take_nil, List.drop_nil, List.set_cons_zero, List.set_cons_succ, Nat.reduceLeDiff, Nat.reduceLT, Nat.zero_add, Nat.lt_add_one, Nat.le_refl, clearA, Int.toNat_natCast, hv.len, hv.fits, hw.len, hw.fits, List.length_map, hd, hne]
  · have := SameInts_loop (h := h) l m v w hv hw hl l m [] [] (.bool false) .junk .junk rfl rfl rfl (by simp at hd; omega)
    simp only [List.length_nil, Int.natCast_zero] at this
    simp only [sim, List.length_cons, List.length_nil, Nat.reduceAdd, Nat.reduceSub, List.replicate, List.cons_append, List.nil_append, List.map_cons, List.map_nil, Option.bind_some, Option.map_some, Option.bind_none, Option.map_none, if_true, if_false, decide_true, decide_false, Bool.false_eq_true, Bool.true_eq_false, Bool.not_true, Bool.not_false, reduceCtorEq, Bool.and_true, Bool.true_and, Bool.and_false, Bool.false_and, Bool.or_true, Bool.true_or, Bool.or_false, Bool.false_or, true_and, and_true, false_and, and_false, List.take_zero, List.take_succ_cons, List.drop_zero, List.drop_succ_cons, List.take_nil, List.drop_nil, List.set_cons_zero, List.set_cons_succ, Nat.reduceLeDiff, Nat.reduceLT, Nat.zero_add, Nat.lt_add_one, Nat.le_refl, clearA, Int.toNat_natCast, hv.len, hv.fits, hw.len, hw.fits, List.length_map, hd]
    exact this
end
end Go.Proofs.YtodehiopdkgoeaaDoor
