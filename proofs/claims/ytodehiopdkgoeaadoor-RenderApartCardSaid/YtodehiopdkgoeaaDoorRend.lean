/- render and the document's texts of modules, in the plain model. -/
import Derived.Test.YtodehiopdkgoeaaDoorBuf
import Derived.Test.YtodehiopdkgoeaaDoorCRender
import Derived.Test.YtodehiopdkgoeaaDoorRendLaw
import Derived.Test.YtodehiopdkgoeaaDoorCodeS11
import Derived.Test.YtodehiopdkgoeaaDoorVal3
namespace Go.Proofs.YtodehiopdkgoeaaDoor
set_option linter.unusedSimpArgs false
set_option linter.unusedVariables false
open Go

section
variable {h : AH}
theorem words_ix : ∀ {op : Int}, ¬ op < 1 → ¬ 21 < op → ixR false (some (22, (1, false))) (.agg (wordsL.map AV.str)) (.int .i64 op) = some (.str (wordX op)) := by
  intro op h1 h2
  rcases op_cases h1 h2 with rfl | rfl | rfl | rfl | rfl | rfl | rfl | rfl | rfl | rfl | rfl | rfl | rfl | rfl | rfl | rfl | rfl | rfl | rfl | rfl | rfl <;> rfl
theorem bin_cases {k : Int} (h1 : ¬ k < 1) (h2 : ¬ 5 < k) : k = 1 ∨ k = 2 ∨ k = 3 ∨ k = 4 ∨ k = 5 := by omega
theorem bins_ix : ∀ {k : Int}, ¬ k < 1 → ¬ 5 < k → ixR false (some (6, (1, false))) (.agg (binsL.map AV.str)) (.int .i64 k) = some (.str (binX k)) := by
  intro k h1 h2
  rcases bin_cases h1 h2 with rfl | rfl | rfl | rfl | rfl <;> rfl
theorem parts_neg {op : Int} (h : op < 1 ∨ 21 < op) : partsX op = -1 := by
  unfold partsX
  split
  · omega
  · split
    · omega
    · split
      · omega
      · split <;> omega
theorem parts_pos {op : Int} (h1 : ¬ op < 1) (h2 : ¬ 21 < op) : ¬ partsX op < 0 := by
  rcases op_cases h1 h2 with rfl | rfl | rfl | rfl | rfl | rfl | rfl | rfl | rfl | rfl | rfl | rfl | rfl | rfl | rfl | rfl | rfl | rfl | rfl | rfl | rfl <;> decide
set_option maxHeartbeats 1000000 in
theorem pWord_run (op : Int) : runF Tryd.prog po 68 [.int .i64 op] h = some (.inl (.str (wordX op)), h) := by
  have cp := fun h => c_Parts (h := h) op
  by_cases hb : op < 1 ∨ 21 < op
  · have e : wordX op = [] := if_pos hb
    rw [parts_neg hb] at cp
    refine runF_E fn_pWord rfl fun Q hQ => ?_; unfold rc_pWord
    simp only [sim, List.length_cons, List.length_nil, Nat.reduceAdd, Nat.reduceSub, List.replicate, List.cons_append, List.nil_append, List.map_cons, List.map_nil, Option.bind_some, Option.map_some, Option.bind_none, Option.map_none, if_true, if_false, decide_true, decide_false, Bool.false_eq_true, Bool.true_eq_false, Bool.not_true, Bool.not_false, reduceCtorEq, Bool.and_true, Bool.true_and, Bool.and_false, Bool.false_and, Bool.or_true, Bool.true_or, Bool.or_false, Bool.false_or, true_and, and_true, false_and, and_false, List.take_zero, List.take_succ_cons, List.drop_zero, List.drop_succ_cons, List.take_nil, List.drop_nil, List.set_cons_zero, List.set_cons_succ, Nat.reduceLeDiff, Nat.reduceLT, Nat.zero_add, Nat.lt_add_one, Nat.le_refl, clearA, Int.toNat_natCast, cp, Int.reduceLT]
    rw [e] at hQ
    exact hQ _ _ _ rfl (GrewA.refl _) rfl
  · have h1 : ¬ op < 1 := fun e => hb (.inl e)
    have h2 : ¬ 21 < op := fun e => hb (.inr e)
    have hp := parts_pos h1 h2
    have ix := words_ix h1 h2
    simp only [wordsL, List.map_cons, List.map_nil] at ix
    refine runF_E fn_pWord rfl fun Q hQ => ?_; unfold rc_pWord
    simp only [sim, List.length_cons, List.length_nil, Nat.reduceAdd, Nat.reduceSub, List.replicate, List.cons_append, List.nil_append, List.map_cons, List.map_nil, Option.bind_some, Option.map_some, Option.bind_none, Option.map_none, if_true, if_false, decide_true, decide_false, Bool.false_eq_true, Bool.true_eq_false, Bool.not_true, Bool.not_false, reduceCtorEq, Bool.and_true, Bool.true_and, Bool.and_false, Bool.false_and, Bool.or_true, Bool.true_or, Bool.or_false, Bool.false_or, true_and, and_true, false_and, and_false, List.take_zero, List.take_succ_cons, List.drop_zero, List.drop_succ_cons, List.take_nil, List.drop_nil, List.set_cons_zero, List.set_cons_succ, Nat.reduceLeDiff, Nat.reduceLT, Nat.zero_add, Nat.lt_add_one, Nat.le_refl, clearA, Int.toNat_natCast, cp, hp, ix]
    exact hQ _ _ _ rfl (GrewA.refl _) rfl
theorem pBin_run (k : Int) : runF Tryd.prog po 70 [.int .i64 k] h = some (.inl (.str (binX k)), h) := by
  by_cases h1 : k < 1
  · have e : binX k = [] := if_pos (.inl h1)
    rw [e]
    refine runF_E fn_pBin rfl fun Q hQ => ?_; unfold rc_pBin
    simp only [sim, List.length_cons, List.length_nil, Nat.reduceAdd, Nat.reduceSub, List.replicate, List.cons_append, List.nil_append, List.map_cons, List.map_nil, Option.bind_some, Option.map_some, Option.bind_none, Option.map_none, if_true, if_false, decide_true, decide_false, Bool.false_eq_true, Bool.true_eq_false, Bool.not_true, Bool.not_false, reduceCtorEq, Bool.and_true, Bool.true_and, Bool.and_false, Bool.false_and, Bool.or_true, Bool.true_or, Bool.or_false, Bool.false_or, true_and, and_true, false_and, and_false, List.take_zero, List.take_succ_cons, List.drop_zero, List.drop_succ_cons, List.take_nil, List.drop_nil, List.set_cons_zero, List.set_cons_succ, Nat.reduceLeDiff, Nat.reduceLT, Nat.zero_add, Nat.lt_add_one, Nat.le_refl, clearA, Int.toNat_natCast, h1]
    exact hQ _ _ _ rfl (GrewA.refl _) rfl
  · by_cases h2 : 5 < k
    · have e : binX k = [] := if_pos (.inr h2)
      rw [e]
      refine runF_E fn_pBin rfl fun Q hQ => ?_; unfold rc_pBin
      simp only [sim, List.length_cons, List.length_nil, Nat.reduceAdd, Nat.reduceSub, List.replicate, List.cons_append, List.nil_append, List.map_cons, List.map_nil, Option.bind_some, Option.map_some, Option.bind_none, Option.map_none, if_true, if_false, decide_true, decide_false, Bool.false_eq_true, Bool.true_eq_false, Bool.not_true, Bool.not_false, reduceCtorEq, Bool.and_true, Bool.true_and, Bool.and_false, Bool.false_and, Bool.or_true, Bool.true_or, Bool.or_false, Bool.false_or, true_and, and_true, false_and, and_false, List.take_zero, List.take_succ_cons, List.drop_zero, List.drop_succ_cons, List.take_nil, List.drop_nil, List.set_cons_zero, List.set_cons_succ, Nat.reduceLeDiff, Nat.reduceLT, Nat.zero_add, Nat.lt_add_one, Nat.le_refl, clearA, Int.toNat_natCast, h1, h2]
      exact hQ _ _ _ rfl (GrewA.refl _) rfl
    · have ix := bins_ix h1 h2
      simp only [binsL, List.map_cons, List.map_nil] at ix
      refine runF_E fn_pBin rfl fun Q hQ => ?_; unfold rc_pBin
      simp only [sim, List.length_cons, List.length_nil, Nat.reduceAdd, Nat.reduceSub, List.replicate, List.cons_append, List.nil_append, List.map_cons, List.map_nil, Option.bind_some, Option.map_some, Option.bind_none, Option.map_none, if_true, if_false, decide_true, decide_false, Bool.false_eq_true, Bool.true_eq_false, Bool.not_true, Bool.not_false, reduceCtorEq, Bool.and_true, Bool.true_and, Bool.and_false, Bool.false_and, Bool.or_true, Bool.true_or, Bool.or_false, Bool.false_or, true_and, and_true, false_and, and_false, List.take_zero, List.take_succ_cons, List.drop_zero, List.drop_succ_cons, List.take_nil, List.drop_nil, List.set_cons_zero, List.set_cons_succ, Nat.reduceLeDiff, Nat.reduceLT, Nat.zero_add, Nat.lt_add_one, Nat.le_refl, clearA, Int.toNat_natCast, h1, h2, ix]
      exact hQ _ _ _ rfl (GrewA.refl _) rfl
theorem wordsO_ix {i : Option Nat} : ∀ {op : Int}, ¬ op < 1 → ¬ 21 < op → ixaR (some 9) none (.isl i 9 ((wordsL.drop 1).map fun w => [AV.str w])) (.int .i64 (op - 1)) = some (.ip [.str (wordX op)] 0) := by
  intro op h1 h2
  rcases op_cases h1 h2 with rfl | rfl | rfl | rfl | rfl | rfl | rfl | rfl | rfl | rfl | rfl | rfl | rfl | rfl | rfl | rfl | rfl | rfl | rfl | rfl | rfl <;> rfl
theorem binsO_ix {i : Option Nat} : ∀ {k : Int}, ¬ k < 1 → ¬ 5 < k → ixaR (some 9) none (.isl i 9 ((binsL.drop 1).map fun w => [AV.str w])) (.int .i64 (k - 1)) = some (.ip [.str (binX k)] 0) := by
  intro k h1 h2
  rcases bin_cases h1 h2 with rfl | rfl | rfl | rfl | rfl <;> rfl
set_option maxHeartbeats 1000000 in
theorem WordOf_run (op : Int) : runF Tryd.prog po 73 [.int .i64 op] h = some (.inl (.str (wordX op)), h) := by
  have g1 : GrewA h (h.fresh 21) := GrewA.fresh _ _
  by_cases h1 : op < 1
  · have e : wordX op = [] := if_pos (.inl h1)
    rw [e]
    refine runF_E fn_WordOf rfl fun Q hQ => ?_; unfold rc_WordOf
    simp only [sim, List.length_cons, List.length_nil, Nat.reduceAdd, Nat.reduceSub, List.replicate, List.cons_append, List.nil_append, List.map_cons, List.map_nil, Option.bind_some, Option.map_some, Option.bind_none, Option.map_none, if_true, if_false, decide_true, decide_false, Bool.false_eq_true, Bool.true_eq_false, Bool.not_true, Bool.not_false, reduceCtorEq, Bool.and_true, Bool.true_and, Bool.and_false, Bool.false_and, Bool.or_true, Bool.true_or, Bool.or_false, Bool.false_or, true_and, and_true, false_and, and_false, List.take_zero, List.take_succ_cons, List.drop_zero, List.drop_succ_cons, List.take_nil, List.drop_nil, List.set_cons_zero, List.set_cons_succ, Nat.reduceLeDiff, Nat.reduceLT, Nat.zero_add, Nat.lt_add_one, Nat.le_refl, clearA, Int.toNat_natCast, h1]
    exact hQ _ _ _ rfl g1 rfl
  · have c21 : ((21 : Nat) : Int) = 21 := rfl
    by_cases h2 : 21 < op
    · have e : wordX op = [] := if_pos (.inr h2)
      rw [e]
      refine runF_E fn_WordOf rfl fun Q hQ => ?_; unfold rc_WordOf
      simp only [sim, List.length_cons, List.length_nil, Nat.reduceAdd, Nat.reduceSub, List.replicate, List.cons_append, List.nil_append, List.map_cons, List.map_nil, Option.bind_some, Option.map_some, Option.bind_none, Option.map_none, if_true, if_false, decide_true, decide_false, Bool.false_eq_true, Bool.true_eq_false, Bool.not_true, Bool.not_false, reduceCtorEq, Bool.and_true, Bool.true_and, Bool.and_false, Bool.false_and, Bool.or_true, Bool.true_or, Bool.or_false, Bool.false_or, true_and, and_true, false_and, and_false, List.take_zero, List.take_succ_cons, List.drop_zero, List.drop_succ_cons, List.take_nil, List.drop_nil, List.set_cons_zero, List.set_cons_succ, Nat.reduceLeDiff, Nat.reduceLT, Nat.zero_add, Nat.lt_add_one, Nat.le_refl, clearA, Int.toNat_natCast, h1, c21, h2]
      exact hQ _ _ _ rfl g1 rfl
    · have ix := wordsO_ix (i := some h.ids) h1 h2
      have hw := w64 (n := op - 1) (by omega) (by omega)
      simp only [wordsL, List.drop_succ_cons, List.drop_zero, List.map_cons, List.map_nil] at ix
      refine runF_E fn_WordOf rfl fun Q hQ => ?_; unfold rc_WordOf
      simp only [sim, List.length_cons, List.length_nil, Nat.reduceAdd, Nat.reduceSub, List.replicate, List.cons_append, List.nil_append, List.map_cons, List.map_nil, Option.bind_some, Option.map_some, Option.bind_none, Option.map_none, if_true, if_false, decide_true, decide_false, Bool.false_eq_true, Bool.true_eq_false, Bool.not_true, Bool.not_false, reduceCtorEq, Bool.and_true, Bool.true_and, Bool.and_false, Bool.false_and, Bool.or_true, Bool.true_or, Bool.or_false, Bool.false_or, true_and, and_true, false_and, and_false, List.take_zero, List.take_succ_cons, List.drop_zero, List.drop_succ_cons, List.take_nil, List.drop_nil, List.set_cons_zero, List.set_cons_succ, Nat.reduceLeDiff, Nat.reduceLT, Nat.zero_add, Nat.lt_add_one, Nat.le_refl, clearA, Int.toNat_natCast, h1, c21, h2, hw, ix]
      exact hQ _ _ _ rfl g1 rfl
theorem BinOf_run (k : Int) : runF Tryd.prog po 74 [.int .i64 k] h = some (.inl (.str (binX k)), h) := by
  have g1 : GrewA h (h.fresh 5) := GrewA.fresh _ _
  by_cases h1 : k < 1
  · have e : binX k = [] := if_pos (.inl h1)
    rw [e]
    refine runF_E fn_BinOf rfl fun Q hQ => ?_; unfold rc_BinOf
    simp only [sim, List.length_cons, List.length_nil, Nat.reduceAdd, Nat.reduceSub, List.replicate, List.cons_append, List.nil_append, List.map_cons, List.map_nil, Option.bind_some, Option.map_some, Option.bind_none, Option.map_none, if_true, if_false, decide_true, decide_false, Bool.false_eq_true, Bool.true_eq_false, Bool.not_true, Bool.not_false, reduceCtorEq, Bool.and_true, Bool.true_and, Bool.and_false, Bool.false_and, Bool.or_true, Bool.true_or, Bool.or_false, Bool.false_or, true_and, and_true, false_and, and_false, List.take_zero, List.take_succ_cons, List.drop_zero, List.drop_succ_cons, List.take_nil, List.drop_nil, List.set_cons_zero, List.set_cons_succ, Nat.reduceLeDiff, Nat.reduceLT, Nat.zero_add, Nat.lt_add_one, Nat.le_refl, clearA, Int.toNat_natCast, h1]
    exact hQ _ _ _ rfl g1 rfl
  · have c5 : ((5 : Nat) : Int) = 5 := rfl
    by_cases h2 : 5 < k
    · have e : binX k = [] := if_pos (.inr h2)
      rw [e]
      refine runF_E fn_BinOf rfl fun Q hQ => ?_; unfold rc_BinOf
      simp only [sim, List.length_cons, List.length_nil, Nat.reduceAdd, Nat.reduceSub, List.replicate, List.cons_append, List.nil_append, List.map_cons, List.map_nil, Option.bind_some, Option.map_some, Option.bind_none, Option.map_none, if_true, if_false, decide_true, decide_false, Bool.false_eq_true, Bool.true_eq_false, Bool.not_true, Bool.not_false, reduceCtorEq, Bool.and_true, Bool.true_and, Bool.and_false, Bool.false_and, Bool.or_true, Bool.true_or, Bool.or_false, Bool.false_or, true_and, and_true, false_and, and_false, List.take_zero, List.take_succ_cons, List.drop_zero, List.drop_succ_cons, List.take_nil, List.drop_nil, List.set_cons_zero, List.set_cons_succ, Nat.reduceLeDiff, Nat.reduceLT, Nat.zero_add, Nat.lt_add_one, Nat.le_refl, clearA, Int.toNat_natCast, h1, c5, h2]
      exact hQ _ _ _ rfl g1 rfl
    · have ix := binsO_ix (i := some h.ids) h1 h2
      have hw := w64 (n := k - 1) (by omega) (by omega)
      simp only [binsL, List.drop_succ_cons, List.drop_zero, List.map_cons, List.map_nil] at ix
      refine runF_E fn_BinOf rfl fun Q hQ => ?_; unfold rc_BinOf
      simp only [sim, List.length_cons, List.length_nil, Nat.reduceAdd, Nat.reduceSub, List.replicate, List.cons_append, List.nil_append, List.map_cons, List.map_nil, Option.bind_some, Option.map_some, Option.bind_none, Option.map_none, if_true, if_false, decide_true, decide_false, Bool.false_eq_true, Bool.true_eq_false, Bool.not_true, Bool.not_false, reduceCtorEq, Bool.and_true, Bool.true_and, Bool.and_false, Bool.false_and, Bool.or_true, Bool.true_or, Bool.or_false, Bool.false_or, true_and, and_true, false_and, and_false, List.take_zero, List.take_succ_cons, List.drop_zero, List.drop_succ_cons, List.take_nil, List.drop_nil, List.set_cons_zero, List.set_cons_succ, Nat.reduceLeDiff, Nat.reduceLT, Nat.zero_add, Nat.lt_add_one, Nat.le_refl, clearA, Int.toNat_natCast, h1, c5, h2, hw, ix]
      exact hQ _ _ _ rfl g1 rfl
end
end Go.Proofs.YtodehiopdkgoeaaDoor
