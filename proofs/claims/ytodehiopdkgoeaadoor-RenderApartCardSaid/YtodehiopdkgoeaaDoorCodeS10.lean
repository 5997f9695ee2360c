/- code in the plain model: the document's walk through an expression. -/
import Derived.Test.YtodehiopdkgoeaaDoorCodeS9
namespace Go.Proofs.YtodehiopdkgoeaaDoor
set_option linter.unusedSimpArgs false
set_option linter.unusedVariables false
open Go

section
variable {h : AH} {mv : AV}
theorem ef_range {nf : Nat} (hnf : nf ≤ 100000) (hm : lenA mv = some nf) (hft : ∀ s, fitsR s (some tE) mv = true) (op k n o : Int) (ho : 0 ≤ o) (ho2 : o ≤ 12) (v : AV) (rest : List RS) (v0 v1 v6 v7 v8 v9 v10 v11 v12 v13 v14 v15 v16 v17 v18 v19 v20 v21 v22 v23 v24 : AV) :
    (nums2 nf op k o = 0 ∧ ∃ w7 w8 w14 w15 w16 w17 w18 w19 w20, runR (runF Tryd.prog po) 25 [.ss ((.ops [(.i (.v 7) (.mv (.c (.int .i64 0)))), (.i (.v 8) (.mv (.c (.int .i64 0))))]) :: (.ops [(.i .l (.fad 0 (.v 4))), (.i (.v 14) (.load false 1 (.l 0)))]) :: (.block 0 [(.ops [(.i .l (.bin (.int .i64) .eql (.v 14) (.c (.int .i64 4)))), (.i (.v 16) (.mv (.l 0)))]), (.cond (.v 16) [(.ops [(.i .l (.mv (.v 2))), (.i .l (.bin (.int .i64) .sub (.l 0) (.c (.int .i64 1)))), (.i (.v 8) (.mv (.l 0)))])] [(.ops [(.i .l (.bin (.int .i64) .eql (.v 14) (.c (.int .i64 6)))), (.i (.v 17) (.mv (.l 0)))]), (.cond (.v 17) [(.ops [(.i (.v 7) (.mv (.c (.int .i64 1)))), (.i (.v 8) (.mv (.c (.int .i64 5))))])] [(.ops [(.i .l (.bin (.int .i64) .eql (.v 14) (.c (.int .i64 15)))), (.i (.v 18) (.mv (.l 0)))]), (.cond (.v 18) [(.ops [(.i (.v 8) (.mv (.c (.int .i64 15))))])] [(.ops [(.i .l (.bin (.int .i64) .eql (.v 14) (.c (.int .i64 18)))), (.i (.v 19) (.mv (.l 0)))]), (.cond (.v 19) [(.ops [(.i .l (.fad 0 (.v 3))), (.i .l (.load false 1 (.l 0))), (.i .l (.len false (some 62) (.l 0))), (.i .l (.bin (.int .i64) .sub (.l 0) (.c (.int .i64 1)))), (.i (.v 8) (.mv (.l 0)))])] [(.ops [(.i .l (.fad 1 (.v 4))), (.i .l (.load false 1 (.l 0))), (.i (.v 15) (.bin (.int .i64) .neq (.l 0) (.c (.int .i64 0))))]), (.cond (.v 15) [(.ops [(.i (.v 5) (.mv (.c (.int .i64 5))))]), .ret] [])])])])])]) :: (.ops [(.i .l (.fad 1 (.v 4))), (.i .l (.load false 1 (.l 0))), (.i .l (.mv (.v 7))), (.i .l (.bin (.int .i64) .lss (.l 1) (.l 0))), (.i .l (.mv (.l 0))), (.g (.l 0) false .l (.fad 1 (.v 4))), (.g (.l 1) false .l (.load false 1 (.l 0))), (.g (.l 2) false .l (.mv (.v 8))), (.g (.l 3) false .l (.bin (.int .i64) .gtr (.l 1) (.l 0))), (.i (.v 20) (.pick (.l 4) (.c (.bool true)) (.l 0)))]) :: (.cond (.v 20) [(.ops [(.i (.v 5) (.mv (.c (.int .i64 1))))]), .ret] []) :: rest)] [v0, v1, .int .i64 o, .ptr h.n 0 0, .ptr (h.n + 1) 0 0, .int .i64 0, v6, v7, v8, v9, v10, v11, v12, v13, v14, v15, v16, v17, v18, v19, v20, v21, v22, v23, v24] [] ((h.push [[mv]]).push [[.int .i64 op, .int .i64 k, .int .i64 n, v]]) = runR (runF Tryd.prog po) 25 [.ss rest] [v0, v1, .int .i64 o, .ptr h.n 0 0, .ptr (h.n + 1) 0 0, .int .i64 0, v6, w7, w8, v9, v10, v11, v12, v13, w14, w15, w16, w17, w18, w19, w20, v21, v22, v23, v24] [] ((h.push [[mv]]).push [[.int .i64 op, .int .i64 k, .int .i64 n, v]])) ∨
    (nums2 nf op k o ≠ 0 ∧ cFR true [.v 5] h (runR (runF Tryd.prog po) 25 [.ss ((.ops [(.i (.v 7) (.mv (.c (.int .i64 0)))), (.i (.v 8) (.mv (.c (.int .i64 0))))]) :: (.ops [(.i .l (.fad 0 (.v 4))), (.i (.v 14) (.load false 1 (.l 0)))]) :: (.block 0 [(.ops [(.i .l (.bin (.int .i64) .eql (.v 14) (.c (.int .i64 4)))), (.i (.v 16) (.mv (.l 0)))]), (.cond (.v 16) [(.ops [(.i .l (.mv (.v 2))), (.i .l (.bin (.int .i64) .sub (.l 0) (.c (.int .i64 1)))), (.i (.v 8) (.mv (.l 0)))])] [(.ops [(.i .l (.bin (.int .i64) .eql (.v 14) (.c (.int .i64 6)))), (.i (.v 17) (.mv (.l 0)))]), (.cond (.v 17) [(.ops [(.i (.v 7) (.mv (.c (.int .i64 1)))), (.i (.v 8) (.mv (.c (.int .i64 5))))])] [(.ops [(.i .l (.bin (.int .i64) .eql (.v 14) (.c (.int .i64 15)))), (.i (.v 18) (.mv (.l 0)))]), (.cond (.v 18) [(.ops [(.i (.v 8) (.mv (.c (.int .i64 15))))])] [(.ops [(.i .l (.bin (.int .i64) .eql (.v 14) (.c (.int .i64 18)))), (.i (.v 19) (.mv (.l 0)))]), (.cond (.v 19) [(.ops [(.i .l (.fad 0 (.v 3))), (.i .l (.load false 1 (.l 0))), (.i .l (.len false (some 62) (.l 0))), (.i .l (.bin (.int .i64) .sub (.l 0) (.c (.int .i64 1)))), (.i (.v 8) (.mv (.l 0)))])] [(.ops [(.i .l (.fad 1 (.v 4))), (.i .l (.load false 1 (.l 0))), (.i (.v 15) (.bin (.int .i64) .neq (.l 0) (.c (.int .i64 0))))]), (.cond (.v 15) [(.ops [(.i (.v 5) (.mv (.c (.int .i64 5))))]), .ret] [])])])])])]) :: (.ops [(.i .l (.fad 1 (.v 4))), (.i .l (.load false 1 (.l 0))), (.i .l (.mv (.v 7))), (.i .l (.bin (.int .i64) .lss (.l 1) (.l 0))), (.i .l (.mv (.l 0))), (.g (.l 0) false .l (.fad 1 (.v 4))), (.g (.l 1) false .l (.load false 1 (.l 0))), (.g (.l 2) false .l (.mv (.v 8))), (.g (.l 3) false .l (.bin (.int .i64) .gtr (.l 1) (.l 0))), (.i (.v 20) (.pick (.l 4) (.c (.bool true)) (.l 0)))]) :: (.cond (.v 20) [(.ops [(.i (.v 5) (.mv (.c (.int .i64 1))))]), .ret] []) :: rest)] [v0, v1, .int .i64 o, .ptr h.n 0 0, .ptr (h.n + 1) 0 0, .int .i64 0, v6, v7, v8, v9, v10, v11, v12, v13, v14, v15, v16, v17, v18, v19, v20, v21, v22, v23, v24] [] ((h.push [[mv]]).push [[.int .i64 op, .int .i64 k, .int .i64 n, v]])) = some (.inl (.int .i64 (nums2 nf op k o)), h)) := by
  have g2 : GrewA h ((h.push [[mv]]).push [[.int .i64 op, .int .i64 k, .int .i64 n, v]]) := (GrewA.push h _).trans (GrewA.push _ _)
  have hw := w64 (n := o - 1) (by omega) (by omega)
  by_cases h4 : op = 4
  · subst h4
    
    by_cases hk : k < 0
    · refine .inr ⟨by simp [nums2, hk], ?_⟩
      have e2 : nums2 nf 4 k o = 1 := by simp [nums2, hk]
      rw [e2]
      simp only [sim, List.length_cons, List.length_nil, Nat.reduceAdd, Nat.reduceSub, List.replicate, List.cons_append, List.nil_append, List.map_cons, List.map_nil, Option.bind_some, Option.map_some, Option.bind_none, Option.map_none, if_true, if_false, decide_true, decide_false, Bool.false_eq_true, Bool.true_eq_false, Bool.not_true, Bool.not_false, reduceCtorEq, Bool.and_true, Bool.true_and, Bool.and_false, Bool.false_and, Bool.or_true, Bool.true_or, Bool.or_false, Bool.false_or, true_and, and_true, false_and, and_false, List.take_zero, List.take_succ_cons, List.drop_zero, List.drop_succ_cons, List.take_nil, List.drop_nil, List.set_cons_zero, List.set_cons_succ, Nat.reduceLeDiff, Nat.reduceLT, Nat.zero_add, Nat.lt_add_one, Nat.le_refl, clearA, Int.toNat_natCast, Int.reduceEq, hm, hft, hw, hk, fg_yes g2 (rfl : wkA (.int .i64 1) = _)]
    · by_cases hu : o ≤ k
      · refine .inr ⟨by simp [nums2, hu], ?_⟩
        have e2 : nums2 nf 4 k o = 1 := by simp [nums2, hu]
        have hu' : (o - 1) < k := by omega
        rw [e2]
        simp only [sim, List.length_cons, List.length_nil, Nat.reduceAdd, Nat.reduceSub, List.replicate, List.cons_append, List.nil_append, List.map_cons, List.map_nil, Option.bind_some, Option.map_some, Option.bind_none, Option.map_none, if_true, if_false, decide_true, decide_false, Bool.false_eq_true, Bool.true_eq_false, Bool.not_true, Bool.not_false, reduceCtorEq, Bool.and_true, Bool.true_and, Bool.and_false, Bool.false_and, Bool.or_true, Bool.true_or, Bool.or_false, Bool.false_or, true_and, and_true, false_and, and_false, List.take_zero, List.take_succ_cons, List.drop_zero, List.drop_succ_cons, List.take_nil, List.drop_nil, List.set_cons_zero, List.set_cons_succ, Nat.reduceLeDiff, Nat.reduceLT, Nat.zero_add, Nat.lt_add_one, Nat.le_refl, clearA, Int.toNat_natCast, Int.reduceEq, hm, hft, hw, hk, hu', fg_yes g2 (rfl : wkA (.int .i64 1) = _)]
      · refine .inl ⟨by simp [nums2, hk, hu], .int .i64 0, .int .i64 (o - 1), .int .i64 4, v15, .bool true, v17, v18, v19, .bool false, ?_⟩
        have hu' : ¬ (o - 1) < k := by omega
        simp only [sim, List.length_cons, List.length_nil, Nat.reduceAdd, Nat.reduceSub, List.replicate, List.cons_append, List.nil_append, List.map_cons, List.map_nil, Option.bind_some, Option.map_some, Option.bind_none, Option.map_none, if_true, if_false, decide_true, decide_false, Bool.false_eq_true, Bool.true_eq_false, Bool.not_true, Bool.not_false, reduceCtorEq, Bool.and_true, Bool.true_and, Bool.and_false, Bool.false_and, Bool.or_true, Bool.true_or, Bool.or_false, Bool.false_or, true_and, and_true, false_and, and_false, List.take_zero, List.take_succ_cons, List.drop_zero, List.drop_succ_cons, List.take_nil, List.drop_nil, List.set_cons_zero, List.set_cons_succ, Nat.reduceLeDiff, Nat.reduceLT, Nat.zero_add, Nat.lt_add_one, Nat.le_refl, clearA, Int.toNat_natCast, Int.reduceEq, hm, hft, hw, hk, hu']
  by_cases h6 : op = 6
  · subst h6
    
    by_cases hk : k < 1
    · refine .inr ⟨by simp [nums2, hk], ?_⟩
      have e2 : nums2 nf 6 k o = 1 := by simp [nums2, hk]
      rw [e2]
      simp only [sim, List.length_cons, List.length_nil, Nat.reduceAdd, Nat.reduceSub, List.replicate, List.cons_append, List.nil_append, List.map_cons, List.map_nil, Option.bind_some, Option.map_some, Option.bind_none, Option.map_none, if_true, if_false, decide_true, decide_false, Bool.false_eq_true, Bool.true_eq_false, Bool.not_true, Bool.not_false, reduceCtorEq, Bool.and_true, Bool.true_and, Bool.and_false, Bool.false_and, Bool.or_true, Bool.true_or, Bool.or_false, Bool.false_or, true_and, and_true, false_and, and_false, List.take_zero, List.take_succ_cons, List.drop_zero, List.drop_succ_cons, List.take_nil, List.drop_nil, List.set_cons_zero, List.set_cons_succ, Nat.reduceLeDiff, Nat.reduceLT, Nat.zero_add, Nat.lt_add_one, Nat.le_refl, clearA, Int.toNat_natCast, Int.reduceEq, hm, hft, hw, hk, fg_yes g2 (rfl : wkA (.int .i64 1) = _)]
    · by_cases hu : 5 < k
      · refine .inr ⟨by simp [nums2, hu], ?_⟩
        have e2 : nums2 nf 6 k o = 1 := by simp [nums2, hu]
        have hu' : 5 < k := by omega
        rw [e2]
        simp only [sim, List.length_cons, List.length_nil, Nat.reduceAdd, Nat.reduceSub, List.replicate, List.cons_append, List.nil_append, List.map_cons, List.map_nil, Option.bind_some, Option.map_some, Option.bind_none, Option.map_none, if_true, if_false, decide_true, decide_false, Bool.false_eq_true, Bool.true_eq_false, Bool.not_true, Bool.not_false, reduceCtorEq, Bool.and_true, Bool.true_and, Bool.and_false, Bool.false_and, Bool.or_true, Bool.true_or, Bool.or_false, Bool.false_or, true_and, and_true, false_and, and_false, List.take_zero, List.take_succ_cons, List.drop_zero, List.drop_succ_cons, List.take_nil, List.drop_nil, List.set_cons_zero, List.set_cons_succ, Nat.reduceLeDiff, Nat.reduceLT, Nat.zero_add, Nat.lt_add_one, Nat.le_refl, clearA, Int.toNat_natCast, Int.reduceEq, hm, hft, hw, hk, hu', fg_yes g2 (rfl : wkA (.int .i64 1) = _)]
      · refine .inl ⟨by simp [nums2, hk, hu], .int .i64 1, .int .i64 5, .int .i64 6, v15, .bool false, .bool true, v18, v19, .bool false, ?_⟩
        have hu' : ¬ 5 < k := by omega
        simp only [sim, List.length_cons, List.length_nil, Nat.reduceAdd, Nat.reduceSub, List.replicate, List.cons_append, List.nil_append, List.map_cons, List.map_nil, Option.bind_some, Option.map_some, Option.bind_none, Option.map_none, if_true, if_false, decide_true, decide_false, Bool.false_eq_true, Bool.true_eq_false, Bool.not_true, Bool.not_false, reduceCtorEq, Bool.and_true, Bool.true_and, Bool.and_false, Bool.false_and, Bool.or_true, Bool.true_or, Bool.or_false, Bool.false_or, true_and, and_true, false_and, and_false, List.take_zero, List.take_succ_cons, List.drop_zero, List.drop_succ_cons, List.take_nil, List.drop_nil, List.set_cons_zero, List.set_cons_succ, Nat.reduceLeDiff, Nat.reduceLT, Nat.zero_add, Nat.lt_add_one, Nat.le_refl, clearA, Int.toNat_natCast, Int.reduceEq, hm, hft, hw, hk, hu']
  by_cases h15 : op = 15
  · subst h15
    
    by_cases hk : k < 0
    · refine .inr ⟨by simp [nums2, hk], ?_⟩
      have e2 : nums2 nf 15 k o = 1 := by simp [nums2, hk]
      rw [e2]
      simp only [sim, List.length_cons, List.length_nil, Nat.reduceAdd, Nat.reduceSub, List.replicate, List.cons_append, List.nil_append, List.map_cons, List.map_nil, Option.bind_some, Option.map_some, Option.bind_none, Option.map_none, if_true, if_false, decide_true, decide_false, Bool.false_eq_true, Bool.true_eq_false, Bool.not_true, Bool.not_false, reduceCtorEq, Bool.and_true, Bool.true_and, Bool.and_false, Bool.false_and, Bool.or_true, Bool.true_or, Bool.or_false, Bool.false_or, true_and, and_true, false_and, and_false, List.take_zero, List.take_succ_cons, List.drop_zero, List.drop_succ_cons, List.take_nil, List.drop_nil, List.set_cons_zero, List.set_cons_succ, Nat.reduceLeDiff, Nat.reduceLT, Nat.zero_add, Nat.lt_add_one, Nat.le_refl, clearA, Int.toNat_natCast, Int.reduceEq, hm, hft, hw, hk, fg_yes g2 (rfl : wkA (.int .i64 1) = _)]
    · by_cases hu : 15 < k
      · refine .inr ⟨by simp [nums2, hu], ?_⟩
        have e2 : nums2 nf 15 k o = 1 := by simp [nums2, hu]
        have hu' : 15 < k := by omega
        rw [e2]
        simp only [sim, List.length_cons, List.length_nil, Nat.reduceAdd, Nat.reduceSub, List.replicate, List.cons_append, List.nil_append, List.map_cons, List.map_nil, Option.bind_some, Option.map_some, Option.bind_none, Option.map_none, if_true, if_false, decide_true, decide_false, Bool.false_eq_true, Bool.true_eq_false, Bool.not_true, Bool.not_false, reduceCtorEq, Bool.and_true, Bool.true_and, Bool.and_false, Bool.false_and, Bool.or_true, Bool.true_or, Bool.or_false, Bool.false_or, true_and, and_true, false_and, and_false, List.take_zero, List.take_succ_cons, List.drop_zero, List.drop_succ_cons, List.take_nil, List.drop_nil, List.set_cons_zero, List.set_cons_succ, Nat.reduceLeDiff, Nat.reduceLT, Nat.zero_add, Nat.lt_add_one, Nat.le_refl, clearA, Int.toNat_natCast, Int.reduceEq, hm, hft, hw, hk, hu', fg_yes g2 (rfl : wkA (.int .i64 1) = _)]
      · refine .inl ⟨by simp [nums2, hk, hu], .int .i64 0, .int .i64 15, .int .i64 15, v15, .bool false, .bool false, .bool true, v19, .bool false, ?_⟩
        have hu' : ¬ 15 < k := by omega
        simp only [sim, List.length_cons, List.length_nil, Nat.reduceAdd, Nat.reduceSub, List.replicate, List.cons_append, List.nil_append, List.map_cons, List.map_nil, Option.bind_some, Option.map_some, Option.bind_none, Option.map_none, if_true, if_false, decide_true, decide_false, Bool.false_eq_true, Bool.true_eq_false, Bool.not_true, Bool.not_false, reduceCtorEq, Bool.and_true, Bool.true_and, Bool.and_false, Bool.false_and, Bool.or_true, Bool.true_or, Bool.or_false, Bool.false_or, true_and, and_true, false_and, and_false, List.take_zero, List.take_succ_cons, List.drop_zero, List.drop_succ_cons, List.take_nil, List.drop_nil, List.set_cons_zero, List.set_cons_succ, Nat.reduceLeDiff, Nat.reduceLT, Nat.zero_add, Nat.lt_add_one, Nat.le_refl, clearA, Int.toNat_natCast, Int.reduceEq, hm, hft, hw, hk, hu']
  by_cases h18 : op = 18
  · subst h18
    have hw := w64 (n := (nf : Int) - 1) (by omega) (by omega)
    by_cases hk : k < 0
    · refine .inr ⟨by simp [nums2, hk], ?_⟩
      have e2 : nums2 nf 18 k o = 1 := by simp [nums2, hk]
      rw [e2]
      simp only [sim, List.length_cons, List.length_nil, Nat.reduceAdd, Nat.reduceSub, List.replicate, List.cons_append, List.nil_append, List.map_cons, List.map_nil, Option.bind_some, Option.map_some, Option.bind_none, Option.map_none, if_true, if_false, decide_true, decide_false, Bool.false_eq_true, Bool.true_eq_false, Bool.not_true, Bool.not_false, reduceCtorEq, Bool.and_true, Bool.true_and, Bool.and_false, Bool.false_and, Bool.or_true, Bool.true_or, Bool.or_false, Bool.false_or, true_and, and_true, false_and, and_false, List.take_zero, List.take_succ_cons, List.drop_zero, List.drop_succ_cons, List.take_nil, List.drop_nil, List.set_cons_zero, List.set_cons_succ, Nat.reduceLeDiff, Nat.reduceLT, Nat.zero_add, Nat.lt_add_one, Nat.le_refl, clearA, Int.toNat_natCast, Int.reduceEq, hm, hft, hw, hk, fg_yes g2 (rfl : wkA (.int .i64 1) = _)]
    · by_cases hu : (nf : Int) ≤ k
      · refine .inr ⟨by simp [nums2, hu], ?_⟩
        have e2 : nums2 nf 18 k o = 1 := by simp [nums2, hu]
        have hu' : ((nf : Int) - 1) < k := by omega
        rw [e2]
        simp only [sim, List.length_cons, List.length_nil, Nat.reduceAdd, Nat.reduceSub, List.replicate, List.cons_append, List.nil_append, List.map_cons, List.map_nil, Option.bind_some, Option.map_some, Option.bind_none, Option.map_none, if_true, if_false, decide_true, decide_false, Bool.false_eq_true, Bool.true_eq_false, Bool.not_true, Bool.not_false, reduceCtorEq, Bool.and_true, Bool.true_and, Bool.and_false, Bool.false_and, Bool.or_true, Bool.true_or, Bool.or_false, Bool.false_or, true_and, and_true, false_and, and_false, List.take_zero, List.take_succ_cons, List.drop_zero, List.drop_succ_cons, List.take_nil, List.drop_nil, List.set_cons_zero, List.set_cons_succ, Nat.reduceLeDiff, Nat.reduceLT, Nat.zero_add, Nat.lt_add_one, Nat.le_refl, clearA, Int.toNat_natCast, Int.reduceEq, hm, hft, hw, hk, hu', fg_yes g2 (rfl : wkA (.int .i64 1) = _)]
      · refine .inl ⟨by simp [nums2, hk, hu], .int .i64 0, .int .i64 ((nf : Int) - 1), .int .i64 18, v15, .bool false, .bool false, .bool false, .bool true, .bool false, ?_⟩
        have hu' : ¬ ((nf : Int) - 1) < k := by omega
        simp only [sim, List.length_cons, List.length_nil, Nat.reduceAdd, Nat.reduceSub, List.replicate, List.cons_append, List.nil_append, List.map_cons, List.map_nil, Option.bind_some, Option.map_some, Option.bind_none, Option.map_none, if_true, if_false, decide_true, decide_false, Bool.false_eq_true, Bool.true_eq_false, Bool.not_true, Bool.not_false, reduceCtorEq, Bool.and_true, Bool.true_and, Bool.and_false, Bool.false_and, Bool.or_true, Bool.true_or, Bool.or_false, Bool.false_or, true_and, and_true, false_and, and_false, List.take_zero, List.take_succ_cons, List.drop_zero, List.drop_succ_cons, List.take_nil, List.drop_nil, List.set_cons_zero, List.set_cons_succ, Nat.reduceLeDiff, Nat.reduceLT, Nat.zero_add, Nat.lt_add_one, Nat.le_refl, clearA, Int.toNat_natCast, Int.reduceEq, hm, hft, hw, hk, hu']
  by_cases hk : k = 0
  · subst hk
    refine .inl ⟨by simp [nums2, h4, h6, h15, h18], .int .i64 0, .int .i64 0, .int .i64 op, .bool false, .bool false, .bool false, .bool false, .bool false, .bool false, ?_⟩
    simp only [sim, List.length_cons, List.length_nil, Nat.reduceAdd, Nat.reduceSub, List.replicate, List.cons_append, List.nil_append, List.map_cons, List.map_nil, Option.bind_some, Option.map_some, Option.bind_none, Option.map_none, if_true, if_false, decide_true, decide_false, Bool.false_eq_true, Bool.true_eq_false, Bool.not_true, Bool.not_false, reduceCtorEq, Bool.and_true, Bool.true_and, Bool.and_false, Bool.false_and, Bool.or_true, Bool.true_or, Bool.or_false, Bool.false_or, true_and, and_true, false_and, and_false, List.take_zero, List.take_succ_cons, List.drop_zero, List.drop_succ_cons, List.take_nil, List.drop_nil, List.set_cons_zero, List.set_cons_succ, Nat.reduceLeDiff, Nat.reduceLT, Nat.zero_add, Nat.lt_add_one, Nat.le_refl, clearA, Int.toNat_natCast, Int.lt_irrefl, eq_self, h4, h6, h15, h18]
  · have e2 : nums2 nf op k o = 5 := by simp [nums2, h4, h6, h15, h18, hk]
    refine .inr ⟨by rw [e2]; decide, ?_⟩
    rw [e2]
    simp only [sim, List.length_cons, List.length_nil, Nat.reduceAdd, Nat.reduceSub, List.replicate, List.cons_append, List.nil_append, List.map_cons, List.map_nil, Option.bind_some, Option.map_some, Option.bind_none, Option.map_none, if_true, if_false, decide_true, decide_false, Bool.false_eq_true, Bool.true_eq_false, Bool.not_true, Bool.not_false, reduceCtorEq, Bool.and_true, Bool.true_and, Bool.and_false, Bool.false_and, Bool.or_true, Bool.true_or, Bool.or_false, Bool.false_or, true_and, and_true, false_and, and_false, List.take_zero, List.take_succ_cons, List.drop_zero, List.drop_succ_cons, List.take_nil, List.drop_nil, List.set_cons_zero, List.set_cons_succ, Nat.reduceLeDiff, Nat.reduceLT, Nat.zero_add, Nat.lt_add_one, Nat.le_refl, clearA, Int.toNat_natCast, h4, h6, h15, h18, hk, fg_yes g2 (rfl : wkA (.int .i64 5) = _)]

theorem ef_loop (nf : Int) (x : XD) (v : AV) (m : ∀ h, ModV h v x.l) (hL : x.l.length ≤ 100000) (o : Int) (ho : 0 ≤ o) (ho2 : o ≤ 12) (ht : x.op = 5 → o ≠ 12)
    (hf : ∀ y ∈ x.l, ∀ (q : List AV) (h : AH) (o : Int), ExA y q → 0 ≤ o → o ≤ 12 → runF Tryd.prog po 72 [.agg [mv], .agg q, .int .i64 o] h = some (.inl (.int .i64 (y.fault nf o)), h))
    (v0 v1 v7 v8 v12 v13 v14 v15 v16 v17 v18 v19 v20 v21 : AV) : ∀ (l pre : List XD) (v10 v11 v22 v23 v24 : AV), x.l = pre ++ l →
    cFR true [.v 5] h (runR (runF Tryd.prog po) 25 [.lp rc_exprFault_b1, .ss [], .blk 1, .ss [(.ops [(.i (.v 5) (.mv (.c (.int .i64 0))))]), .ret]] [v0, v1, .int .i64 o, .ptr h.n 0 0, .ptr (h.n + 1) 0 0, .int .i64 0, .int .i64 (x.l.length : Int), v7, v8, .int .i64 pre.length, v10, v11, v12, v13, v14, v15, v16, v17, v18, v19, v20, v21, v22, v23, v24] [] ((h.push [[mv]]).push [[.int .i64 x.op, .int .i64 x.k, .int .i64 x.n, v]])) = some (.inl (.int .i64 (faultsX nf x.op pre.length l o)), h) := by
  have g2 : GrewA h ((h.push [[mv]]).push [[.int .i64 x.op, .int .i64 x.k, .int .i64 x.n, v]]) := (GrewA.push h _).trans (GrewA.push _ _)
  intro l
  induction l with
  | nil =>
    intro pre v10 v11 v22 v23 v24 e
    have e' : x.l = pre := by simpa using e
    have hlt : ¬ ((pre.length : Int) < (x.l.length : Int)) := by rw [e']; omega
    rw [r_lpb rc_exprFault_b1.eq_1]
    simp only [sim, List.length_cons, List.length_nil, Nat.reduceAdd, Nat.reduceSub, List.replicate, List.cons_append, List.nil_append, List.map_cons, List.map_nil, Option.bind_some, Option.map_some, Option.bind_none, Option.map_none, if_true, if_false, decide_true, decide_false, Bool.false_eq_true, Bool.true_eq_false, Bool.not_true, Bool.not_false, reduceCtorEq, Bool.and_true, Bool.true_and, Bool.and_false, Bool.false_and, Bool.or_true, Bool.true_or, Bool.or_false, Bool.false_or, true_and, and_true, false_and, and_false, List.take_zero, List.take_succ_cons, List.drop_zero, List.drop_succ_cons, List.take_nil, List.drop_nil, List.set_cons_zero, List.set_cons_succ, Nat.reduceLeDiff, Nat.reduceLT, Nat.zero_add, Nat.lt_add_one, Nat.le_refl, clearA, Int.toNat_natCast, hlt, faultsX, fg_yes g2 (rfl : wkA (.int .i64 0) = _)]
  | cons y l ih =>
    intro pre v10 v11 v22 v23 v24 e
    have hlt : (pre.length : Int) < (x.l.length : Int) := by rw [e]; simp; omega
    obtain ⟨a, q, i1, i2, i3⟩ := (m ((h.push [[mv]]).push [[.int .i64 x.op, .int .i64 x.k, .int .i64 x.n, v]])).ix pre.length y (by rw [e]; simp)
    have i2' := i2 _ (GrewA.refl _)
    have hw := w64 (n := (pre.length : Int) + 1) (by rw [e] at hL; simp at hL; omega) (by rw [e] at hL; simp at hL; omega)
    have e3 : ((pre ++ [y]).length : Int) = (pre.length : Int) + 1 := by simp
    have e4 : (pre ++ [y]).length = pre.length + 1 := by simp
    by_cases hin : x.op = 5 ∧ pre.length = 1
    · obtain ⟨hop, hp1⟩ := hin
      have ho12 := ht hop
      have hd5 : decide ((pre.length : Int) = 1) = true := by simp [hp1]
      have hd6 : decide (x.op = 5) = true := by simp [hop]
      have hwo := w64 (n := o + 1) (by omega) (by omega)
      have cy := hf y (by rw [e]; simp) q ((h.push [[mv]]).push [[.int .i64 x.op, .int .i64 x.k, .int .i64 x.n, v]]) (o + 1) i3 (by omega) (by omega)
      rw [faultsX_cons, if_pos ⟨hop, hp1⟩]
      by_cases hc : y.fault nf (o + 1) = 0
      · have r1 := ih (pre ++ [y]) (.int .i64 (o + 1)) (.int .i64 0) (.bool true) (.bool true) (.bool false) (by simp [e])
        rw [e3, e4] at r1
        rw [hc] at cy
        rw [hc, orF_0]
        rw [r_lpb rc_exprFault_b1.eq_1]
        simp only [sim, List.length_cons, List.length_nil, Nat.reduceAdd, Nat.reduceSub, List.replicate, List.cons_append, List.nil_append, List.map_cons, List.map_nil, Option.bind_some, Option.map_some, Option.bind_none, Option.map_none, if_true, if_false, decide_true, decide_false, Bool.false_eq_true, Bool.true_eq_false, Bool.not_true, Bool.not_false, reduceCtorEq, Bool.and_true, Bool.true_and, Bool.and_false, Bool.false_and, Bool.or_true, Bool.true_or, Bool.or_false, Bool.false_or, true_and, and_true, false_and, and_false, List.take_zero, List.take_succ_cons, List.drop_zero, List.drop_succ_cons, List.take_nil, List.drop_nil, List.set_cons_zero, List.set_cons_succ, Nat.reduceLeDiff, Nat.reduceLT, Nat.zero_add, Nat.lt_add_one, Nat.le_refl, clearA, Int.toNat_natCast, hlt, i1, i2', hd5, hd6, hwo, cy, eq_self, hw]
        exact r1
      · rw [orF_ne hc]
        rw [r_lpb rc_exprFault_b1.eq_1]
        simp only [sim, List.length_cons, List.length_nil, Nat.reduceAdd, Nat.reduceSub, List.replicate, List.cons_append, List.nil_append, List.map_cons, List.map_nil, Option.bind_some, Option.map_some, Option.bind_none, Option.map_none, if_true, if_false, decide_true, decide_false, Bool.false_eq_true, Bool.true_eq_false, Bool.not_true, Bool.not_false, reduceCtorEq, Bool.and_true, Bool.true_and, Bool.and_false, Bool.false_and, Bool.or_true, Bool.true_or, Bool.or_false, Bool.false_or, true_and, and_true, false_and, and_false, List.take_zero, List.take_succ_cons, List.drop_zero, List.drop_succ_cons, List.take_nil, List.drop_nil, List.set_cons_zero, List.set_cons_succ, Nat.reduceLeDiff, Nat.reduceLT, Nat.zero_add, Nat.lt_add_one, Nat.le_refl, clearA, Int.toNat_natCast, hlt, i1, i2', hd5, hd6, hwo, cy, hc, fg_yes g2 (rfl : wkA (.int .i64 (y.fault nf (o + 1))) = _)]
    · have hd : (decide (x.op = 5) && decide ((pre.length : Int) = 1)) = false := by
        rw [Bool.and_eq_false_iff, decide_eq_false_iff_not, decide_eq_false_iff_not]
        by_cases h5 : x.op = 5
        · exact .inr (fun hp => hin ⟨h5, by omega⟩)
        · exact .inl h5
      have cy := hf y (by rw [e]; simp) q ((h.push [[mv]]).push [[.int .i64 x.op, .int .i64 x.k, .int .i64 x.n, v]]) o i3 (by omega) (by omega)
      rw [faultsX_cons, if_neg hin]
      by_cases hc : y.fault nf o = 0
      · have r1 := ih (pre ++ [y]) (.int .i64 o) (.int .i64 0) (.bool true) (.bool false) (.bool false) (by simp [e])
        rw [e3, e4] at r1
        rw [hc] at cy
        rw [hc, orF_0]
        rw [r_lpb rc_exprFault_b1.eq_1]
        cases h5 : decide (x.op = 5)
        · simp only [sim, List.length_cons, List.length_nil, Nat.reduceAdd, Nat.reduceSub, List.replicate, List.cons_append, List.nil_append, List.map_cons, List.map_nil, Option.bind_some, Option.map_some, Option.bind_none, Option.map_none, if_true, if_false, decide_true, decide_false, Bool.false_eq_true, Bool.true_eq_false, Bool.not_true, Bool.not_false, reduceCtorEq, Bool.and_true, Bool.true_and, Bool.and_false, Bool.false_and, Bool.or_true, Bool.true_or, Bool.or_false, Bool.false_or, true_and, and_true, false_and, and_false, List.take_zero, List.take_succ_cons, List.drop_zero, List.drop_succ_cons, List.take_nil, List.drop_nil, List.set_cons_zero, List.set_cons_succ, Nat.reduceLeDiff, Nat.reduceLT, Nat.zero_add, Nat.lt_add_one, Nat.le_refl, clearA, Int.toNat_natCast, hlt, i1, i2', h5, cy, eq_self, hw]
          exact r1
        · rw [h5, Bool.true_and] at hd
          simp only [sim, List.length_cons, List.length_nil, Nat.reduceAdd, Nat.reduceSub, List.replicate, List.cons_append, List.nil_append, List.map_cons, List.map_nil, Option.bind_some, Option.map_some, Option.bind_none, Option.map_none, if_true, if_false, decide_true, decide_false, Bool.false_eq_true, Bool.true_eq_false, Bool.not_true, Bool.not_false, reduceCtorEq, Bool.and_true, Bool.true_and, Bool.and_false, Bool.false_and, Bool.or_true, Bool.true_or, Bool.or_false, Bool.false_or, true_and, and_true, false_and, and_false, List.take_zero, List.take_succ_cons, List.drop_zero, List.drop_succ_cons, List.take_nil, List.drop_nil, List.set_cons_zero, List.set_cons_succ, Nat.reduceLeDiff, Nat.reduceLT, Nat.zero_add, Nat.lt_add_one, Nat.le_refl, clearA, Int.toNat_natCast, hlt, i1, i2', h5, hd, cy, eq_self, hw]
          exact r1
      · rw [orF_ne hc]
        rw [r_lpb rc_exprFault_b1.eq_1]
        cases h5 : decide (x.op = 5)
        · simp only [sim, List.length_cons, List.length_nil, Nat.reduceAdd, Nat.reduceSub, List.replicate, List.cons_append, List.nil_append, List.map_cons, List.map_nil, Option.bind_some, Option.map_some, Option.bind_none, Option.map_none, if_true, if_false, decide_true, decide_false, Bool.false_eq_true, Bool.true_eq_false, Bool.not_true, Bool.not_false, reduceCtorEq, Bool.and_true, Bool.true_and, Bool.and_false, Bool.false_and, Bool.or_true, Bool.true_or, Bool.or_false, Bool.false_or, true_and, and_true, false_and, and_false, List.take_zero, List.take_succ_cons, List.drop_zero, List.drop_succ_cons, List.take_nil, List.drop_nil, List.set_cons_zero, List.set_cons_succ, Nat.reduceLeDiff, Nat.reduceLT, Nat.zero_add, Nat.lt_add_one, Nat.le_refl, clearA, Int.toNat_natCast, hlt, i1, i2', h5, cy, hc, fg_yes g2 (rfl : wkA (.int .i64 (y.fault nf o)) = _)]
        · rw [h5, Bool.true_and] at hd
          simp only [sim, List.length_cons, List.length_nil, Nat.reduceAdd, Nat.reduceSub, List.replicate, List.cons_append, List.nil_append, List.map_cons, List.map_nil, Option.bind_some, Option.map_some, Option.bind_none, Option.map_none, if_true, if_false, decide_true, decide_false, Bool.false_eq_true, Bool.true_eq_false, Bool.not_true, Bool.not_false, reduceCtorEq, Bool.and_true, Bool.true_and, Bool.and_false, Bool.false_and, Bool.or_true, Bool.true_or, Bool.or_false, Bool.false_or, true_and, and_true, false_and, and_false, List.take_zero, List.take_succ_cons, List.drop_zero, List.drop_succ_cons, List.take_nil, List.drop_nil, List.set_cons_zero, List.set_cons_succ, Nat.reduceLeDiff, Nat.reduceLT, Nat.zero_add, Nat.lt_add_one, Nat.le_refl, clearA, Int.toNat_natCast, hlt, i1, i2', h5, hd, cy, hc, fg_yes g2 (rfl : wkA (.int .i64 (y.fault nf o)) = _)]

theorem exprFault_run {nf : Nat} (hnf : nf ≤ 100000) (hm : lenA mv = some nf) (hft : ∀ s, fitsR s (some tE) mv = true) (hmo : mv.one = true) : ∀ (N : Nat) (x : XD), SizeOf.sizeOf x ≤ N → x.size ≤ 100000 → ∀ (r : List AV) (h : AH) (o : Int), ExA x r → 0 ≤ o → o ≤ 12 →
    runF Tryd.prog po 72 [.agg [mv], .agg r, .int .i64 o] h = some (.inl (.int .i64 (x.fault nf o)), h) := by
  intro N
  induction N with
  | zero => intro x hx; have := x.so_pos; omega
  | succ N ih =>
    intro x hx hsz r h o he ho ho2
    obtain ⟨v, es, e, hv, hl⟩ := he.row
    have m : ∀ h, ModV h v x.l := fun h => ModV.of hv hl
    have o1 := (m h).one
    have l1 := (m h).len
    have f1 := (m h).fits
    have hlen := x.len_size
    subst e
    have g2 : GrewA h ((h.push [[mv]]).push [[.int .i64 x.op, .int .i64 x.k, .int .i64 x.n, v]]) := (GrewA.push h _).trans (GrewA.push _ _)
    have cp := r_PartsOf (h := ((h.push [[mv]]).push [[.int .i64 x.op, .int .i64 x.k, .int .i64 x.n, v]])) x.op
    rw [XD.fault_eq]
    refine runF_R fn_exprFault rfl ?_; unfold rc_exprFault
    by_cases h1 : partsX x.op < 0
    · have e2 : headX nf x.op x.k x.n x.l.length o = 2 := by simp [headX, h1]
      rw [e2, orF_ne (by decide)]
      simp only [sim, List.length_cons, List.length_nil, Nat.reduceAdd, Nat.reduceSub, List.replicate, List.cons_append, List.nil_append, List.map_cons, List.map_nil, Option.bind_some, Option.map_some, Option.bind_none, Option.map_none, if_true, if_false, decide_true, decide_false, Bool.false_eq_true, Bool.true_eq_false, Bool.not_true, Bool.not_false, reduceCtorEq, Bool.and_true, Bool.true_and, Bool.and_false, Bool.false_and, Bool.or_true, Bool.true_or, Bool.or_false, Bool.false_or, true_and, and_true, false_and, and_false, List.take_zero, List.take_succ_cons, List.drop_zero, List.drop_succ_cons, List.take_nil, List.drop_nil, List.set_cons_zero, List.set_cons_succ, Nat.reduceLeDiff, Nat.reduceLT, Nat.zero_add, Nat.lt_add_one, Nat.le_refl, clearA, Int.toNat_natCast, hmo, o1, cp, h1, fg_yes g2 (rfl : wkA (.int .i64 2) = _)]
    cases h2 : decide ((x.l.length : Int) = partsX x.op)
    · have h2' : ¬ (x.l.length : Int) = partsX x.op := by simpa using h2
      have e2 : headX nf x.op x.k x.n x.l.length o = 5 := by simp [headX, h1, h2']
      rw [e2, orF_ne (by decide)]
      simp only [sim, List.length_cons, List.length_nil, Nat.reduceAdd, Nat.reduceSub, List.replicate, List.cons_append, List.nil_append, List.map_cons, List.map_nil, Option.bind_some, Option.map_some, Option.bind_none, Option.map_none, if_true, if_false, decide_true, decide_false, Bool.false_eq_true, Bool.true_eq_false, Bool.not_true, Bool.not_false, reduceCtorEq, Bool.and_true, Bool.true_and, Bool.and_false, Bool.false_and, Bool.or_true, Bool.true_or, Bool.or_false, Bool.false_or, true_and, and_true, false_and, and_false, List.take_zero, List.take_succ_cons, List.drop_zero, List.drop_succ_cons, List.take_nil, List.drop_nil, List.set_cons_zero, List.set_cons_succ, Nat.reduceLeDiff, Nat.reduceLT, Nat.zero_add, Nat.lt_add_one, Nat.le_refl, clearA, Int.toNat_natCast, hmo, o1, cp, h1, l1, f1, h2, fg_yes g2 (rfl : wkA (.int .i64 5) = _)]
    have h2' : (x.l.length : Int) = partsX x.op := by simpa using h2
    by_cases h3 : x.n ≠ 0 ∧ x.op ≠ 2
    · have e2 : headX nf x.op x.k x.n x.l.length o = 5 := by simp [headX, h1, h2', numsX, h3]
      rw [e2, orF_ne (by decide)]
      obtain ⟨h31, h32⟩ := h3
      simp only [sim, List.length_cons, List.length_nil, Nat.reduceAdd, Nat.reduceSub, List.replicate, List.cons_append, List.nil_append, List.map_cons, List.map_nil, Option.bind_some, Option.map_some, Option.bind_none, Option.map_none, if_true, if_false, decide_true, decide_false, Bool.false_eq_true, Bool.true_eq_false, Bool.not_true, Bool.not_false, reduceCtorEq, Bool.and_true, Bool.true_and, Bool.and_false, Bool.false_and, Bool.or_true, Bool.true_or, Bool.or_false, Bool.false_or, true_and, and_true, false_and, and_false, List.take_zero, List.take_succ_cons, List.drop_zero, List.drop_succ_cons, List.take_nil, List.drop_nil, List.set_cons_zero, List.set_cons_succ, Nat.reduceLeDiff, Nat.reduceLT, Nat.zero_add, Nat.lt_add_one, Nat.le_refl, clearA, Int.toNat_natCast, hmo, o1, cp, h1, l1, f1, h2, h31, h32, fg_yes g2 (rfl : wkA (.int .i64 5) = _)]
    have e3 : numsX nf x.op x.k x.n o = nums2 nf x.op x.k o := by rw [nums_eq, if_neg h3, orF_0]
    have begin_ : ∀ K : List RS, runR (runF Tryd.prog po) 25 [.ss ((.ops [(.i (.v 3) (.box 1 (.v 0))), (.i (.v 4) (.box 4 (.v 1))), (.i (.v 5) (.mv (.c (.int .i64 0))))]) :: (.ops [(.i .l (.fad 0 (.v 4))), (.i .l (.load false 1 (.l 0))), (.i .l (.call (.c (.fn 89 [] [])) [(.l 0)])), (.i (.v 6) (.mv (.l 0)))]) :: (.ops [(.i .l (.mv (.v 6))), (.i (.v 12) (.bin (.int .i64) .lss (.l 0) (.c (.int .i64 0))))]) :: (.cond (.v 12) [(.ops [(.i (.v 5) (.mv (.c (.int .i64 2))))]), .ret] []) :: K)] [.agg [mv], .agg [.int .i64 x.op, .int .i64 x.k, .int .i64 x.n, v], .int .i64 o, .junk, .junk, .junk, .junk, .junk, .junk, .junk, .junk, .junk, .junk, .junk, .junk, .junk, .junk, .junk, .junk, .junk, .junk, .junk, .junk, .junk, .junk] [] h = runR (runF Tryd.prog po) 25 [.ss K] [.agg [mv], .agg [.int .i64 x.op, .int .i64 x.k, .int .i64 x.n, v], .int .i64 o, .ptr h.n 0 0, .ptr (h.n + 1) 0 0, .int .i64 0, .int .i64 (partsX x.op), .junk, .junk, .junk, .junk, .junk, .bool false, .junk, .junk, .junk, .junk, .junk, .junk, .junk, .junk, .junk, .junk, .junk, .junk] [] ((h.push [[mv]]).push [[.int .i64 x.op, .int .i64 x.k, .int .i64 x.n, v]]) := by
      intro K
      simp only [sim, List.length_cons, List.length_nil, Nat.reduceAdd, Nat.reduceSub, List.replicate, List.cons_append, List.nil_append, List.map_cons, List.map_nil, Option.bind_some, Option.map_some, Option.bind_none, Option.map_none, if_true, if_false, decide_true, decide_false, Bool.false_eq_true, Bool.true_eq_false, Bool.not_true, Bool.not_false, reduceCtorEq, Bool.and_true, Bool.true_and, Bool.and_false, Bool.false_and, Bool.or_true, Bool.true_or, Bool.or_false, Bool.false_or, true_and, and_true, false_and, and_false, List.take_zero, List.take_succ_cons, List.drop_zero, List.drop_succ_cons, List.take_nil, List.drop_nil, List.set_cons_zero, List.set_cons_succ, Nat.reduceLeDiff, Nat.reduceLT, Nat.zero_add, Nat.lt_add_one, Nat.le_refl, clearA, Int.toNat_natCast, hmo, o1, cp, h1]
    have first : ∀ K : List RS, runR (runF Tryd.prog po) 25 [.ss ((.ops [(.i .l (.fad 3 (.v 4))), (.i .l (.load false 1 (.l 0))), (.i .l (.len false (some 62) (.l 0))), (.i .l (.mv (.v 6))), (.i .l (.bin (.int .i64) .neq (.l 1) (.l 0))), (.i .l (.mv (.l 0))), (.g (.l 0) false .l (.fad 2 (.v 4))), (.g (.l 1) false .l (.load false 1 (.l 0))), (.g (.l 2) false .l (.bin (.int .i64) .neq (.l 0) (.c (.int .i64 0)))), (.g (.l 3) false .l (.mv (.l 0))), (.g (.l 0) true .l (.fad 0 (.v 4))), (.g (.l 1) true .l (.load false 1 (.l 0))), (.g (.l 2) true .l (.bin (.int .i64) .neq (.l 0) (.c (.int .i64 2)))), (.g (.l 7) false .l (.pick (.l 3) (.l 0) (.c (.bool false)))), (.i (.v 13) (.pick (.l 8) (.c (.bool true)) (.l 0)))]) :: (.cond (.v 13) [(.ops [(.i (.v 5) (.mv (.c (.int .i64 5))))]), .ret] []) :: K)] [.agg [mv], .agg [.int .i64 x.op, .int .i64 x.k, .int .i64 x.n, v], .int .i64 o, .ptr h.n 0 0, .ptr (h.n + 1) 0 0, .int .i64 0, .int .i64 (partsX x.op), .junk, .junk, .junk, .junk, .junk, .bool false, .junk, .junk, .junk, .junk, .junk, .junk, .junk, .junk, .junk, .junk, .junk, .junk] [] ((h.push [[mv]]).push [[.int .i64 x.op, .int .i64 x.k, .int .i64 x.n, v]]) = runR (runF Tryd.prog po) 25 [.ss K] [.agg [mv], .agg [.int .i64 x.op, .int .i64 x.k, .int .i64 x.n, v], .int .i64 o, .ptr h.n 0 0, .ptr (h.n + 1) 0 0, .int .i64 0, .int .i64 (partsX x.op), .junk, .junk, .junk, .junk, .junk, .bool false, .bool false, .junk, .junk, .junk, .junk, .junk, .junk, .junk, .junk, .junk, .junk, .junk] [] ((h.push [[mv]]).push [[.int .i64 x.op, .int .i64 x.k, .int .i64 x.n, v]]) := by
      intro K
      cases hn0 : decide (x.n = 0)
      · have hop : decide (x.op = 2) = true := by
          have hn0' : x.n ≠ 0 := by simpa using hn0
          simp only [decide_eq_true_eq]
          exact Classical.byContradiction fun hh => h3 ⟨hn0', hh⟩
        simp only [sim, List.length_cons, List.length_nil, Nat.reduceAdd, Nat.reduceSub, List.replicate, List.cons_append, List.nil_append, List.map_cons, List.map_nil, Option.bind_some, Option.map_some, Option.bind_none, Option.map_none, if_true, if_false, decide_true, decide_false, Bool.false_eq_true, Bool.true_eq_false, Bool.not_true, Bool.not_false, reduceCtorEq, Bool.and_true, Bool.true_and, Bool.and_false, Bool.false_and, Bool.or_true, Bool.true_or, Bool.or_false, Bool.false_or, true_and, and_true, false_and, and_false, List.take_zero, List.take_succ_cons, List.drop_zero, List.drop_succ_cons, List.take_nil, List.drop_nil, List.set_cons_zero, List.set_cons_succ, Nat.reduceLeDiff, Nat.reduceLT, Nat.zero_add, Nat.lt_add_one, Nat.le_refl, clearA, Int.toNat_natCast, l1, f1, h2, hn0, hop]
      · simp only [sim, List.length_cons, List.length_nil, Nat.reduceAdd, Nat.reduceSub, List.replicate, List.cons_append, List.nil_append, List.map_cons, List.map_nil, Option.bind_some, Option.map_some, Option.bind_none, Option.map_none, if_true, if_false, decide_true, decide_false, Bool.false_eq_true, Bool.true_eq_false, Bool.not_true, Bool.not_false, reduceCtorEq, Bool.and_true, Bool.true_and, Bool.and_false, Bool.false_and, Bool.or_true, Bool.true_or, Bool.or_false, Bool.false_or, true_and, and_true, false_and, and_false, List.take_zero, List.take_succ_cons, List.drop_zero, List.drop_succ_cons, List.take_nil, List.drop_nil, List.set_cons_zero, List.set_cons_succ, Nat.reduceLeDiff, Nat.reduceLT, Nat.zero_add, Nat.lt_add_one, Nat.le_refl, clearA, Int.toNat_natCast, l1, f1, h2, hn0]
    rcases ef_range (h := h) hnf hm hft x.op x.k x.n o ho ho2 v [(.ops [(.i .l (.fad 0 (.v 4))), (.i .l (.load false 1 (.l 0))), (.i .l (.bin (.int .i64) .eql (.l 0) (.c (.int .i64 5)))), (.i .l (.mv (.l 0))), (.g (.l 0) true .l (.mv (.v 2))), (.g (.l 1) true .l (.bin (.int .i64) .eql (.l 0) (.c (.int .i64 12)))), (.i (.v 21) (.pick (.l 2) (.l 0) (.c (.bool false))))]), (.cond (.v 21) [(.ops [(.i (.v 5) (.mv (.c (.int .i64 3))))]), .ret] []), (.ops [(.i (.v 9) (.mv (.c (.int .i64 0))))]), (.block 1 [(.loop rc_exprFault_b1)]), (.ops [(.i (.v 5) (.mv (.c (.int .i64 0))))]), .ret] (.agg [mv]) (.agg [.int .i64 x.op, .int .i64 x.k, .int .i64 x.n, v]) (.int .i64 (partsX x.op)) (.junk) (.junk) (.junk) (.junk) (.junk) (.bool false) (.bool false) (.junk) (.junk) (.junk) (.junk) (.junk) (.junk) (.junk) (.junk) (.junk) (.junk) (.junk) with ⟨h4, w7, w8, w14, w15, w16, w17, w18, w19, w20, r1⟩ | ⟨h4, r1⟩
    · cases h5 : (decide (x.op = 5) && decide (o = 12))
      · have e2 : headX nf x.op x.k x.n x.l.length o = 0 := by
          simp only [Bool.and_eq_false_iff, decide_eq_false_iff_not] at h5
          simp only [headX, h1, if_false, h2', ne_eq, not_true, e3, h4]
          rw [if_neg]
          rintro ⟨a, b⟩
          rcases h5 with h5 | h5
          · exact h5 a
          · exact h5 b
        rw [e2, orF_0]
        have r2 := ef_loop (h := h) (mv := mv) nf x v m (by omega) o ho ho2 (fun a b => by simp [a, b] at h5) (fun y hy q h o hq => ih y (by have := XD.lt_mem hy; omega) (by have := XD.size_mem hy; omega) q h o hq) (.agg [mv]) (.agg [.int .i64 x.op, .int .i64 x.k, .int .i64 x.n, v]) w7 w8 (.bool false) (.bool false) w14 w15 w16 w17 w18 w19 w20 (.bool false) x.l [] .junk .junk .junk .junk .junk rfl
        simp only [List.length_nil, Int.natCast_zero] at r2
        rw [h2'] at r2
        refine (congrArg (cFR true [.v 5] h) ((begin_ _).trans ((first _).trans r1))).trans ?_
        cases e5 : decide (x.op = 5)
        · simp only [sim, List.length_cons, List.length_nil, Nat.reduceAdd, Nat.reduceSub, List.replicate, List.cons_append, List.nil_append, List.map_cons, List.map_nil, Option.bind_some, Option.map_some, Option.bind_none, Option.map_none, if_true, if_false, decide_true, decide_false, Bool.false_eq_true, Bool.true_eq_false, Bool.not_true, Bool.not_false, reduceCtorEq, Bool.and_true, Bool.true_and, Bool.and_false, Bool.false_and, Bool.or_true, Bool.true_or, Bool.or_false, Bool.false_or, true_and, and_true, false_and, and_false, List.take_zero, List.take_succ_cons, List.drop_zero, List.drop_succ_cons, List.take_nil, List.drop_nil, List.set_cons_zero, List.set_cons_succ, Nat.reduceLeDiff, Nat.reduceLT, Nat.zero_add, Nat.lt_add_one, Nat.le_refl, clearA, Int.toNat_natCast, e5]
          exact r2
        · rw [e5, Bool.true_and] at h5
          simp only [sim, List.length_cons, List.length_nil, Nat.reduceAdd, Nat.reduceSub, List.replicate, List.cons_append, List.nil_append, List.map_cons, List.map_nil, Option.bind_some, Option.map_some, Option.bind_none, Option.map_none, if_true, if_false, decide_true, decide_false, Bool.false_eq_true, Bool.true_eq_false, Bool.not_true, Bool.not_false, reduceCtorEq, Bool.and_true, Bool.true_and, Bool.and_false, Bool.false_and, Bool.or_true, Bool.true_or, Bool.or_false, Bool.false_or, true_and, and_true, false_and, and_false, List.take_zero, List.take_succ_cons, List.drop_zero, List.drop_succ_cons, List.take_nil, List.drop_nil, List.set_cons_zero, List.set_cons_succ, Nat.reduceLeDiff, Nat.reduceLT, Nat.zero_add, Nat.lt_add_one, Nat.le_refl, clearA, Int.toNat_natCast, e5, h5]
          exact r2
      · have h5' := h5
        simp only [Bool.and_eq_true] at h5
        have e2 : headX nf x.op x.k x.n x.l.length o = 3 := by
          simp only [headX, h1, if_false, h2', ne_eq, not_true, e3, h4]
          simp only [decide_eq_true_eq] at h5
          rw [if_pos h5]
        rw [e2, orF_ne (by decide)]
        refine (congrArg (cFR true [.v 5] h) ((begin_ _).trans ((first _).trans r1))).trans ?_
        simp only [sim, List.length_cons, List.length_nil, Nat.reduceAdd, Nat.reduceSub, List.replicate, List.cons_append, List.nil_append, List.map_cons, List.map_nil, Option.bind_some, Option.map_some, Option.bind_none, Option.map_none, if_true, if_false, decide_true, decide_false, Bool.false_eq_true, Bool.true_eq_false, Bool.not_true, Bool.not_false, reduceCtorEq, Bool.and_true, Bool.true_and, Bool.and_false, Bool.false_and, Bool.or_true, Bool.true_or, Bool.or_false, Bool.false_or, true_and, and_true, false_and, and_false, List.take_zero, List.take_succ_cons, List.drop_zero, List.drop_succ_cons, List.take_nil, List.drop_nil, List.set_cons_zero, List.set_cons_succ, Nat.reduceLeDiff, Nat.reduceLT, Nat.zero_add, Nat.lt_add_one, Nat.le_refl, clearA, Int.toNat_natCast, h5, fg_yes g2 (rfl : wkA (.int .i64 3) = _)]
    · have e2 : headX nf x.op x.k x.n x.l.length o = nums2 nf x.op x.k o := by
        simp only [headX, h1, if_false, h2', ne_eq, not_true, e3, h4, not_false_eq_true, if_true]
      rw [e2, orF_ne h4]
      exact (congrArg (cFR true [.v 5] h) ((begin_ _).trans (first _))).trans r1
end
end Go.Proofs.YtodehiopdkgoeaaDoor
