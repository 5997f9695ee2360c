/- Graph and Net in the plain model: capabilities of cells, of functions, derived ones; a step in both. -/
import Derived.Test.YtioladnogpfeeaaGraphS6
namespace Go.Proofs.Ytioladnogpfeeaa
set_option linter.unusedSimpArgs false
set_option linter.unusedVariables false
open Go

section
variable {h : AH} {F J : Nat → Prop} {b : Nat} {G : GraphD}

theorem g_Cell (g : IsG h F J b G) (hW : G.Wf) (c r k : Int) : ∃ h', runF Try.prog po 45 [.ptr b 0 0, .int .i64 c, .int .i64 r, .int .i64 k] h = some (.inl (.tup [.int .i64 (G.cellC c r k).2.1, .int .i64 (G.cellC c r k).2.2]), h') ∧ DidG h F J b h' (G.cellC c r k).1 := by
  unfold GraphD.cellC
  cases hc : isCell c
  · rw [if_neg (by simp)]
    refine ⟨h, ?_, DidG.same g⟩
    refine runF_R fn_gCell rfl ?_; unfold rc_gCell
    simp only [sim, List.length_cons, List.length_nil, Nat.reduceAdd, Nat.reduceSub, List.replicate, List.cons_append, List.nil_append, List.map_cons, List.map_nil, Option.bind_some, Option.map_some, Option.bind_none, Option.map_none, if_true, if_false, decide_true, decide_false, Bool.false_eq_true, Bool.true_eq_false, Bool.not_true, Bool.not_false, reduceCtorEq, Bool.and_true, Bool.true_and, Bool.and_false, Bool.false_and, Bool.or_true, Bool.true_or, Bool.or_false, Bool.false_or, true_and, and_true, false_and, and_false, List.take_zero, List.take_succ_cons, List.drop_zero, List.drop_succ_cons, List.take_nil, List.drop_nil, List.set_cons_zero, List.set_cons_succ, Nat.reduceLeDiff, Nat.reduceLT, Nat.zero_add, Nat.lt_add_one, Nat.le_refl, clearA, Int.toNat_natCast, w_Has, hc]
  · rw [if_pos rfl]
    obtain ⟨h', e, d⟩ := g_add g hW ⟨-1, k, r, c, -1, 0⟩
    simp only [nodeA] at e
    refine ⟨h', ?_, d⟩
    refine runF_R fn_gCell rfl ?_; unfold rc_gCell
    simp only [sim, List.length_cons, List.length_nil, Nat.reduceAdd, Nat.reduceSub, List.replicate, List.cons_append, List.nil_append, List.map_cons, List.map_nil, Option.bind_some, Option.map_some, Option.bind_none, Option.map_none, if_true, if_false, decide_true, decide_false, Bool.false_eq_true, Bool.true_eq_false, Bool.not_true, Bool.not_false, reduceCtorEq, Bool.and_true, Bool.true_and, Bool.and_false, Bool.false_and, Bool.or_true, Bool.true_or, Bool.or_false, Bool.false_or, true_and, and_true, false_and, and_false, List.take_zero, List.take_succ_cons, List.drop_zero, List.drop_succ_cons, List.take_nil, List.drop_nil, List.set_cons_zero, List.set_cons_succ, Nat.reduceLeDiff, Nat.reduceLT, Nat.zero_add, Nat.lt_add_one, Nat.le_refl, clearA, Int.toNat_natCast, w_Has, hc, e]
theorem n_Cell (g : IsG h F J b G) (hW : G.Wf) (c r k : Int) : ∃ h', runF Try.prog po 74 [.ptr b 0 0, .int .i64 c, .int .i64 r, .int .i64 k] h = some (.inl (.tup [.int .i64 (G.cellC c r k).2.1, .int .i64 (G.cellC c r k).2.2]), h') ∧ DidG h F J b h' (G.cellC c r k).1 := by
  unfold GraphD.cellC
  cases hc : isCell c
  · rw [if_neg (by simp)]
    refine ⟨h, ?_, DidG.same g⟩
    have hc' : decide (c < 0) = true ∨ decide (c < 0) = false ∧ decide (12 ≤ c) = true := by
      simp [isCell] at hc
      simp only [decide_eq_true_eq, decide_eq_false_iff_not]
      omega
    refine runF_R fn_nCell rfl ?_; unfold rc_nCell
    rcases hc' with hc' | ⟨hc', hc2⟩
    · simp only [sim, List.length_cons, List.length_nil, Nat.reduceAdd, Nat.reduceSub, List.replicate, List.cons_append, List.nil_append, List.map_cons, List.map_nil, Option.bind_some, Option.map_some, Option.bind_none, Option.map_none, if_true, if_false, decide_true, decide_false, Bool.false_eq_true, Bool.true_eq_false, Bool.not_true, Bool.not_false, reduceCtorEq, Bool.and_true, Bool.true_and, Bool.and_false, Bool.false_and, Bool.or_true, Bool.true_or, Bool.or_false, Bool.false_or, true_and, and_true, false_and, and_false, List.take_zero, List.take_succ_cons, List.drop_zero, List.drop_succ_cons, List.take_nil, List.drop_nil, List.set_cons_zero, List.set_cons_succ, Nat.reduceLeDiff, Nat.reduceLT, Nat.zero_add, Nat.lt_add_one, Nat.le_refl, clearA, Int.toNat_natCast, hc']
    · simp only [sim, List.length_cons, List.length_nil, Nat.reduceAdd, Nat.reduceSub, List.replicate, List.cons_append, List.nil_append, List.map_cons, List.map_nil, Option.bind_some, Option.map_some, Option.bind_none, Option.map_none, if_true, if_false, decide_true, decide_false, Bool.false_eq_true, Bool.true_eq_false, Bool.not_true, Bool.not_false, reduceCtorEq, Bool.and_true, Bool.true_and, Bool.and_false, Bool.false_and, Bool.or_true, Bool.true_or, Bool.or_false, Bool.false_or, true_and, and_true, false_and, and_false, List.take_zero, List.take_succ_cons, List.drop_zero, List.drop_succ_cons, List.take_nil, List.drop_nil, List.set_cons_zero, List.set_cons_succ, Nat.reduceLeDiff, Nat.reduceLT, Nat.zero_add, Nat.lt_add_one, Nat.le_refl, clearA, Int.toNat_natCast, hc', hc2]
  · rw [if_pos rfl]
    have hc0 : decide (c < 0) = false := by simp [isCell] at hc; simp; omega
    have hc1 : decide (12 ≤ c) = false := by simp [isCell] at hc; simp; omega
    obtain ⟨h', e, d⟩ := n_put g hW ⟨-1, k, r, c, -1, 0⟩
    simp only [nodeA] at e
    refine ⟨h', ?_, d⟩
    refine runF_R fn_nCell rfl ?_; unfold rc_nCell
    simp only [sim, List.length_cons, List.length_nil, Nat.reduceAdd, Nat.reduceSub, List.replicate, List.cons_append, List.nil_append, List.map_cons, List.map_nil, Option.bind_some, Option.map_some, Option.bind_none, Option.map_none, if_true, if_false, decide_true, decide_false, Bool.false_eq_true, Bool.true_eq_false, Bool.not_true, Bool.not_false, reduceCtorEq, Bool.and_true, Bool.true_and, Bool.and_false, Bool.false_and, Bool.or_true, Bool.true_or, Bool.or_false, Bool.false_or, true_and, and_true, false_and, and_false, List.take_zero, List.take_succ_cons, List.drop_zero, List.drop_succ_cons, List.take_nil, List.drop_nil, List.set_cons_zero, List.set_cons_succ, Nat.reduceLeDiff, Nat.reduceLT, Nat.zero_add, Nat.lt_add_one, Nat.le_refl, clearA, Int.toNat_natCast, hc0, hc1, e]

theorem func_cases (p f : Int) : (isFunc p f = true ∧ decide (p < 0) = false ∧ decide (4 ≤ p) = false ∧ decide (f < 0) = false ∧ decide (6 ≤ f) = false) ∨
    (isFunc p f = false ∧ (decide (p < 0) = true ∨ decide (p < 0) = false ∧ decide (4 ≤ p) = true ∨ decide (p < 0) = false ∧ decide (4 ≤ p) = false ∧ decide (f < 0) = true ∨ decide (p < 0) = false ∧ decide (4 ≤ p) = false ∧ decide (f < 0) = false ∧ decide (6 ≤ f) = true)) := by
  simp only [isFunc, decide_eq_true_eq, decide_eq_false_iff_not]
  omega
theorem g_Func (g : IsG h F J b G) (hW : G.Wf) (p f r k : Int) : ∃ h', runF Try.prog po 75 [.ptr b 0 0, .int .i64 p, .int .i64 f, .int .i64 r, .int .i64 k] h = some (.inl (.tup [.int .i64 (G.funcC p f r k).2.1, .int .i64 (G.funcC p f r k).2.2]), h') ∧ DidG h F J b h' (G.funcC p f r k).1 := by
  unfold GraphD.funcC
  rcases func_cases p f with ⟨hc, h1, h2, h3, h4⟩ | ⟨hc, hx⟩
  · rw [if_pos hc]
    obtain ⟨h', e, d⟩ := g_add g hW ⟨-1, k, r, 0, p, f⟩
    simp only [nodeA] at e
    refine ⟨h', ?_, d⟩
    refine runF_R fn_gFunc rfl ?_; unfold rc_gFunc
    simp only [sim, List.length_cons, List.length_nil, Nat.reduceAdd, Nat.reduceSub, List.replicate, List.cons_append, List.nil_append, List.map_cons, List.map_nil, Option.bind_some, Option.map_some, Option.bind_none, Option.map_none, if_true, if_false, decide_true, decide_false, Bool.false_eq_true, Bool.true_eq_false, Bool.not_true, Bool.not_false, reduceCtorEq, Bool.and_true, Bool.true_and, Bool.and_false, Bool.false_and, Bool.or_true, Bool.true_or, Bool.or_false, Bool.false_or, true_and, and_true, false_and, and_false, List.take_zero, List.take_succ_cons, List.drop_zero, List.drop_succ_cons, List.take_nil, List.drop_nil, List.set_cons_zero, List.set_cons_succ, Nat.reduceLeDiff, Nat.reduceLT, Nat.zero_add, Nat.lt_add_one, Nat.le_refl, clearA, Int.toNat_natCast, h1, h2, h3, h4, e]
  · rw [if_neg (by simp [hc])]
    refine ⟨h, ?_, DidG.same g⟩
    refine runF_R fn_gFunc rfl ?_; unfold rc_gFunc
    rcases hx with h1 | ⟨h1, h2⟩ | ⟨h1, h2, h3⟩ | ⟨h1, h2, h3, h4⟩
    · simp only [sim, List.length_cons, List.length_nil, Nat.reduceAdd, Nat.reduceSub, List.replicate, List.cons_append, List.nil_append, List.map_cons, List.map_nil, Option.bind_some, Option.map_some, Option.bind_none, Option.map_none, if_true, if_false, decide_true, decide_false, Bool.false_eq_true, Bool.true_eq_false, Bool.not_true, Bool.not_false, reduceCtorEq, Bool.and_true, Bool.true_and, Bool.and_false, Bool.false_and, Bool.or_true, Bool.true_or, Bool.or_false, Bool.false_or, true_and, and_true, false_and, and_false, List.take_zero, List.take_succ_cons, List.drop_zero, List.drop_succ_cons, List.take_nil, List.drop_nil, List.set_cons_zero, List.set_cons_succ, Nat.reduceLeDiff, Nat.reduceLT, Nat.zero_add, Nat.lt_add_one, Nat.le_refl, clearA, Int.toNat_natCast, h1]
    · simp only [sim, List.length_cons, List.length_nil, Nat.reduceAdd, Nat.reduceSub, List.replicate, List.cons_append, List.nil_append, List.map_cons, List.map_nil, Option.bind_some, Option.map_some, Option.bind_none, Option.map_none, if_true, if_false, decide_true, decide_false, Bool.false_eq_true, Bool.true_eq_false, Bool.not_true, Bool.not_false, reduceCtorEq, Bool.and_true, Bool.true_and, Bool.and_false, Bool.false_and, Bool.or_true, Bool.true_or, Bool.or_false, Bool.false_or, true_and, and_true, false_and, and_false, List.take_zero, List.take_succ_cons, List.drop_zero, List.drop_succ_cons, List.take_nil, List.drop_nil, List.set_cons_zero, List.set_cons_succ, Nat.reduceLeDiff, Nat.reduceLT, Nat.zero_add, Nat.lt_add_one, Nat.le_refl, clearA, Int.toNat_natCast, h1, h2]
    · simp only [sim, List.length_cons, List.length_nil, Nat.reduceAdd, Nat.reduceSub, List.replicate, List.cons_append, List.nil_append, List.map_cons, List.map_nil, Option.bind_some, Option.map_some, Option.bind_none, Option.map_none, if_true, if_false, decide_true, decide_false, Bool.false_eq_true, Bool.true_eq_false, Bool.not_true, Bool.not_false, reduceCtorEq, Bool.and_true, Bool.true_and, Bool.and_false, Bool.false_and, Bool.or_true, Bool.true_or, Bool.or_false, Bool.false_or, true_and, and_true, false_and, and_false, List.take_zero, List.take_succ_cons, List.drop_zero, List.drop_succ_cons, List.take_nil, List.drop_nil, List.set_cons_zero, List.set_cons_succ, Nat.reduceLeDiff, Nat.reduceLT, Nat.zero_add, Nat.lt_add_one, Nat.le_refl, clearA, Int.toNat_natCast, h1, h2, h3]
    · simp only [sim, List.length_cons, List.length_nil, Nat.reduceAdd, Nat.reduceSub, List.replicate, List.cons_append, List.nil_append, List.map_cons, List.map_nil, Option.bind_some, Option.map_some, Option.bind_none, Option.map_none, if_true, if_false, decide_true, decide_false, Bool.false_eq_true, Bool.true_eq_false, Bool.not_true, Bool.not_false, reduceCtorEq, Bool.and_true, Bool.true_and, Bool.and_false, Bool.false_and, Bool.or_true, Bool.true_or, Bool.or_false, Bool.false_or, true_and, and_true, false_and, and_false, List.take_zero, List.take_succ_cons, List.drop_zero, List.drop_succ_cons, List.take_nil, List.drop_nil, List.set_cons_zero, List.set_cons_succ, Nat.reduceLeDiff, Nat.reduceLT, Nat.zero_add, Nat.lt_add_one, Nat.le_refl, clearA, Int.toNat_natCast, h1, h2, h3, h4]
theorem n_Func (g : IsG h F J b G) (hW : G.Wf) (p f r k : Int) : ∃ h', runF Try.prog po 76 [.ptr b 0 0, .int .i64 p, .int .i64 f, .int .i64 r, .int .i64 k] h = some (.inl (.tup [.int .i64 (G.funcC p f r k).2.1, .int .i64 (G.funcC p f r k).2.2]), h') ∧ DidG h F J b h' (G.funcC p f r k).1 := by
  unfold GraphD.funcC
  rcases func_cases p f with ⟨hc, h1, h2, h3, h4⟩ | ⟨hc, hx⟩
  · rw [if_pos hc]
    obtain ⟨h', e, d⟩ := n_put g hW ⟨-1, k, r, 0, p, f⟩
    simp only [nodeA] at e
    refine ⟨h', ?_, d⟩
    refine runF_R fn_nFunc rfl ?_; unfold rc_nFunc
    simp only [sim, List.length_cons, List.length_nil, Nat.reduceAdd, Nat.reduceSub, List.replicate, List.cons_append, List.nil_append, List.map_cons, List.map_nil, Option.bind_some, Option.map_some, Option.bind_none, Option.map_none, if_true, if_false, decide_true, decide_false, Bool.false_eq_true, Bool.true_eq_false, Bool.not_true, Bool.not_false, reduceCtorEq, Bool.and_true, Bool.true_and, Bool.and_false, Bool.false_and, Bool.or_true, Bool.true_or, Bool.or_false, Bool.false_or, true_and, and_true, false_and, and_false, List.take_zero, List.take_succ_cons, List.drop_zero, List.drop_succ_cons, List.take_nil, List.drop_nil, List.set_cons_zero, List.set_cons_succ, Nat.reduceLeDiff, Nat.reduceLT, Nat.zero_add, Nat.lt_add_one, Nat.le_refl, clearA, Int.toNat_natCast, h1, h2, h3, h4, e]
  · rw [if_neg (by simp [hc])]
    refine ⟨h, ?_, DidG.same g⟩
    refine runF_R fn_nFunc rfl ?_; unfold rc_nFunc
    rcases hx with h1 | ⟨h1, h2⟩ | ⟨h1, h2, h3⟩ | ⟨h1, h2, h3, h4⟩
    · simp only [sim, List.length_cons, List.length_nil, Nat.reduceAdd, Nat.reduceSub, List.replicate, List.cons_append, List.nil_append, List.map_cons, List.map_nil, Option.bind_some, Option.map_some, Option.bind_none, Option.map_none, if_true, if_false, decide_true, decide_false, Bool.false_eq_true, Bool.true_eq_false, Bool.not_true, Bool.not_false, reduceCtorEq, Bool.and_true, Bool.true_and, Bool.and_false, Bool.false_and, Bool.or_true, Bool.true_or, Bool.or_false, Bool.false_or, true_and, and_true, false_and, and_false, List.take_zero, List.take_succ_cons, List.drop_zero, List.drop_succ_cons, List.take_nil, List.drop_nil, List.set_cons_zero, List.set_cons_succ, Nat.reduceLeDiff, Nat.reduceLT, Nat.zero_add, Nat.lt_add_one, Nat.le_refl, clearA, Int.toNat_natCast, h1]
    · simp only [sim, List.length_cons, List.length_nil, Nat.reduceAdd, Nat.reduceSub, List.replicate, List.cons_append, List.nil_append, List.map_cons, List.map_nil, Option.bind_some, Option.map_some, Option.bind_none, Option.map_none, if_true, if_false, decide_true, decide_false, Bool.false_eq_true, Bool.true_eq_false, Bool.not_true, Bool.not_false, reduceCtorEq, Bool.and_true, Bool.true_and, Bool.and_false, Bool.false_and, Bool.or_true, Bool.true_or, Bool.or_false, Bool.false_or, true_and, and_true, false_and, and_false, List.take_zero, List.take_succ_cons, List.drop_zero, List.drop_succ_cons, List.take_nil, List.drop_nil, List.set_cons_zero, List.set_cons_succ, Nat.reduceLeDiff, Nat.reduceLT, Nat.zero_add, Nat.lt_add_one, Nat.le_refl, clearA, Int.toNat_natCast, h1, h2]
    · simp only [sim, List.length_cons, List.length_nil, Nat.reduceAdd, Nat.reduceSub, List.replicate, List.cons_append, List.nil_append, List.map_cons, List.map_nil, Option.bind_some, Option.map_some, Option.bind_none, Option.map_none, if_true, if_false, decide_true, decide_false, Bool.false_eq_true, Bool.true_eq_false, Bool.not_true, Bool.not_false, reduceCtorEq, Bool.and_true, Bool.true_and, Bool.and_false, Bool.false_and, Bool.or_true, Bool.true_or, Bool.or_false, Bool.false_or, true_and, and_true, false_and, and_false, List.take_zero, List.take_succ_cons, List.drop_zero, List.drop_succ_cons, List.take_nil, List.drop_nil, List.set_cons_zero, List.set_cons_succ, Nat.reduceLeDiff, Nat.reduceLT, Nat.zero_add, Nat.lt_add_one, Nat.le_refl, clearA, Int.toNat_natCast, h1, h2, h3]
    · simp only [sim, List.length_cons, List.length_nil, Nat.reduceAdd, Nat.reduceSub, List.replicate, List.cons_append, List.nil_append, List.map_cons, List.map_nil, Option.bind_some, Option.map_some, Option.bind_none, Option.map_none, if_true, if_false, decide_true, decide_false, Bool.false_eq_true, Bool.true_eq_false, Bool.not_true, Bool.not_false, reduceCtorEq, Bool.and_true, Bool.true_and, Bool.and_false, Bool.false_and, Bool.or_true, Bool.true_or, Bool.or_false, Bool.false_or, true_and, and_true, false_and, and_false, List.take_zero, List.take_succ_cons, List.drop_zero, List.drop_succ_cons, List.take_nil, List.drop_nil, List.set_cons_zero, List.set_cons_succ, Nat.reduceLeDiff, Nat.reduceLT, Nat.zero_add, Nat.lt_add_one, Nat.le_refl, clearA, Int.toNat_natCast, h1, h2, h3, h4]
theorem g_Derive (g : IsG h F J b G) (hW : G.Wf) (p r k : Int) : ∃ h', runF Try.prog po 77 [.ptr b 0 0, .int .i64 p, .int .i64 r, .int .i64 k] h = some (.inl (.tup [.int .i64 (G.derive p r k).2.1, .int .i64 (G.derive p r k).2.2]), h') ∧ DidG h F J b h' (G.derive p r k).1 := by
  unfold GraphD.derive
  cases hc : G.has p
  · rw [if_neg (by simp)]
    refine ⟨h, ?_, DidG.same g⟩
    refine runF_R fn_gDerive rfl ?_; unfold rc_gDerive
    simp only [sim, List.length_cons, List.length_nil, Nat.reduceAdd, Nat.reduceSub, List.replicate, List.cons_append, List.nil_append, List.map_cons, List.map_nil, Option.bind_some, Option.map_some, Option.bind_none, Option.map_none, if_true, if_false, decide_true, decide_false, Bool.false_eq_true, Bool.true_eq_false, Bool.not_true, Bool.not_false, reduceCtorEq, Bool.and_true, Bool.true_and, Bool.and_false, Bool.false_and, Bool.or_true, Bool.true_or, Bool.or_false, Bool.false_or, true_and, and_true, false_and, and_false, List.take_zero, List.take_succ_cons, List.drop_zero, List.drop_succ_cons, List.take_nil, List.drop_nil, List.set_cons_zero, List.set_cons_succ, Nat.reduceLeDiff, Nat.reduceLT, Nat.zero_add, Nat.lt_add_one, Nat.le_refl, clearA, Int.toNat_natCast, g_has g, hc]
  · rw [if_pos rfl]
    obtain ⟨h', e, d⟩ := g_add g hW ⟨p, k, r, 0, -1, 0⟩
    simp only [nodeA] at e
    refine ⟨h', ?_, d⟩
    refine runF_R fn_gDerive rfl ?_; unfold rc_gDerive
    simp only [sim, List.length_cons, List.length_nil, Nat.reduceAdd, Nat.reduceSub, List.replicate, List.cons_append, List.nil_append, List.map_cons, List.map_nil, Option.bind_some, Option.map_some, Option.bind_none, Option.map_none, if_true, if_false, decide_true, decide_false, Bool.false_eq_true, Bool.true_eq_false, Bool.not_true, Bool.not_false, reduceCtorEq, Bool.and_true, Bool.true_and, Bool.and_false, Bool.false_and, Bool.or_true, Bool.true_or, Bool.or_false, Bool.false_or, true_and, and_true, false_and, and_false, List.take_zero, List.take_succ_cons, List.drop_zero, List.drop_succ_cons, List.take_nil, List.drop_nil, List.set_cons_zero, List.set_cons_succ, Nat.reduceLeDiff, Nat.reduceLT, Nat.zero_add, Nat.lt_add_one, Nat.le_refl, clearA, Int.toNat_natCast, g_has g, hc, e]
theorem n_Derive (g : IsG h F J b G) (hW : G.Wf) (p r k : Int) : ∃ h', runF Try.prog po 78 [.ptr b 0 0, .int .i64 p, .int .i64 r, .int .i64 k] h = some (.inl (.tup [.int .i64 (G.derive p r k).2.1, .int .i64 (G.derive p r k).2.2]), h') ∧ DidG h F J b h' (G.derive p r k).1 := by
  obtain ⟨nv, sv, h1, h2, -⟩ := g.ex
  unfold GraphD.derive
  cases hc : G.has p
  · rw [if_neg (by simp)]
    refine ⟨h, ?_, DidG.same g⟩
    have hc' : decide (p < 0) = true ∨ decide (p < 0) = false ∧ decide ((G.nodes.length : Int) ≤ p) = true := by
      simp [GraphD.has] at hc
      simp only [decide_eq_true_eq, decide_eq_false_iff_not]
      omega
    refine runF_R fn_nDerive rfl ?_; unfold rc_nDerive
    rcases hc' with hc' | ⟨hc', hc2⟩
    · simp only [sim, List.length_cons, List.length_nil, Nat.reduceAdd, Nat.reduceSub, List.replicate, List.cons_append, List.nil_append, List.map_cons, List.map_nil, Option.bind_some, Option.map_some, Option.bind_none, Option.map_none, if_true, if_false, decide_true, decide_false, Bool.false_eq_true, Bool.true_eq_false, Bool.not_true, Bool.not_false, reduceCtorEq, Bool.and_true, Bool.true_and, Bool.and_false, Bool.false_and, Bool.or_true, Bool.true_or, Bool.or_false, Bool.false_or, true_and, and_true, false_and, and_false, List.take_zero, List.take_succ_cons, List.drop_zero, List.drop_succ_cons, List.take_nil, List.drop_nil, List.set_cons_zero, List.set_cons_succ, Nat.reduceLeDiff, Nat.reduceLT, Nat.zero_add, Nat.lt_add_one, Nat.le_refl, clearA, Int.toNat_natCast, hc']
    · simp only [sim, List.length_cons, List.length_nil, Nat.reduceAdd, Nat.reduceSub, List.replicate, List.cons_append, List.nil_append, List.map_cons, List.map_nil, Option.bind_some, Option.map_some, Option.bind_none, Option.map_none, if_true, if_false, decide_true, decide_false, Bool.false_eq_true, Bool.true_eq_false, Bool.not_true, Bool.not_false, reduceCtorEq, Bool.and_true, Bool.true_and, Bool.and_false, Bool.false_and, Bool.or_true, Bool.true_or, Bool.or_false, Bool.false_or, true_and, and_true, false_and, and_false, List.take_zero, List.take_succ_cons, List.drop_zero, List.drop_succ_cons, List.take_nil, List.drop_nil, List.set_cons_zero, List.set_cons_succ, Nat.reduceLeDiff, Nat.reduceLT, Nat.zero_add, Nat.lt_add_one, Nat.le_refl, clearA, Int.toNat_natCast, hc', hc2, h1, h2.isL.len, h2.isL.fits, List.length_map]
  · rw [if_pos rfl]
    have hc0 : decide (p < 0) = false := by simp [GraphD.has] at hc; simp; omega
    have hc1 : decide ((G.nodes.length : Int) ≤ p) = false := by simp [GraphD.has] at hc; simp; omega
    obtain ⟨h', e, d⟩ := n_put g hW ⟨p, k, r, 0, -1, 0⟩
    simp only [nodeA] at e
    refine ⟨h', ?_, d⟩
    refine runF_R fn_nDerive rfl ?_; unfold rc_nDerive
    simp only [sim, List.length_cons, List.length_nil, Nat.reduceAdd, Nat.reduceSub, List.replicate, List.cons_append, List.nil_append, List.map_cons, List.map_nil, Option.bind_some, Option.map_some, Option.bind_none, Option.map_none, if_true, if_false, decide_true, decide_false, Bool.false_eq_true, Bool.true_eq_false, Bool.not_true, Bool.not_false, reduceCtorEq, Bool.and_true, Bool.true_and, Bool.and_false, Bool.false_and, Bool.or_true, Bool.true_or, Bool.or_false, Bool.false_or, true_and, and_true, false_and, and_false, List.take_zero, List.take_succ_cons, List.drop_zero, List.drop_succ_cons, List.take_nil, List.drop_nil, List.set_cons_zero, List.set_cons_succ, Nat.reduceLeDiff, Nat.reduceLT, Nat.zero_add, Nat.lt_add_one, Nat.le_refl, clearA, Int.toNat_natCast, hc0, hc1, h1, h2.isL.len, h2.isL.fits, List.length_map, e]
theorem g_New : ∃ h', runF Try.prog po 43 [] h = some (.inl (.ptr h.n 0 0), h') ∧ h' = h.push [[.nils, .nils]] := by
  refine ⟨_, ?_, rfl⟩
  refine runF_R fn_gNew rfl ?_; unfold rc_gNew
  simp only [sim, List.length_cons, List.length_nil, Nat.reduceAdd, Nat.reduceSub, List.replicate, List.cons_append, List.nil_append, List.map_cons, List.map_nil, Option.bind_some, Option.map_some, Option.bind_none, Option.map_none, if_true, if_false, decide_true, decide_false, Bool.false_eq_true, Bool.true_eq_false, Bool.not_true, Bool.not_false, reduceCtorEq, Bool.and_true, Bool.true_and, Bool.and_false, Bool.false_and, Bool.or_true, Bool.true_or, Bool.or_false, Bool.false_or, true_and, and_true, false_and, and_false, List.take_zero, List.take_succ_cons, List.drop_zero, List.drop_succ_cons, List.take_nil, List.drop_nil, List.set_cons_zero, List.set_cons_succ, Nat.reduceLeDiff, Nat.reduceLT, Nat.zero_add, Nat.lt_add_one, Nat.le_refl, clearA, Int.toNat_natCast]
theorem isG_new (h : AH) : IsG (h.push [[.nils, .nils]]) (fun k => k = h.n) (fun _ => False) h.n ⟨[], []⟩ :=
  ⟨⟨rfl, by simp [AH.push]⟩, ⟨fun k hk => by rw [hk]; simp [AH.push], fun _ => False.elim⟩, .nils, .nils, push_same, .inl ⟨rfl, rfl⟩, .inl ⟨rfl, rfl⟩⟩
end
end Go.Proofs.Ytioladnogpfeeaa
