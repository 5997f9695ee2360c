/- The graph's laws in the plain model: how they begin; GraphDoes. -/
import Derived.Test.YtacocolcighomaaGraphS8
namespace Go.Proofs.Ytacocolcighomaa
set_option linter.unusedSimpArgs false
set_option linter.unusedVariables false
open Go

section
variable {h : AH} {b b2 : Nat} {G H : GraphD}

theorem one_new (h : AH) : IsG (h.push [[.nils, .nils]]) (fun k => k = h.n) (fun _ => False) h.n ⟨[], []⟩ := isG_new h
theorem two_new {hz h : AH} (x : GrewA hz h) : Two hz ((h.push [[.nils, .nils]]).push [[.nils, .nils]]) h.n ⟨[], []⟩ (h.n + 1) ⟨[], []⟩ := by
  have h2 := isG_new (h.push [[.nils, .nils]])
  have hn := x.n
  refine ⟨_, _, _, _, (isG_new h).grew (GrewA.push _ _), h2, fun k hk hk2 => ?_, fun j hj => hj.elim, fun k hk => ?_, fun j hj => by rcases hj with hj | hj <;> exact hj.elim, (x.trans (GrewA.push _ _)).trans (GrewA.push _ _)⟩
  · subst hk
    simp [AH.push] at hk2
  · rcases hk with hk | hk
    · rw [hk]; exact hn
    · rw [hk]; simp [AH.push]; omega

/-- one graph of the call's own -/
def One (hz h : AH) (b : Nat) (G : GraphD) : Prop := ∃ F J, IsG h F J b G ∧ (∀ k, F k → hz.n ≤ k) ∧ (∀ j, J j → hz.ids ≤ j) ∧ GrewA hz h
theorem One.did {hz h h' : AH} {G' : GraphD} (t : One hz h b G) (d : ∀ {F J}, IsG h F J b G → DidG h F J b h' G') : One hz h' b G' := by
  obtain ⟨F, J, g, a1, a2, a3⟩ := t
  obtain ⟨F', J', g', c, f, j⟩ := d g
  refine ⟨F', J', g', fun k hk => ?_, fun i hi => ?_, Chg.new a3 c a1 a2⟩
  · rcases f k hk with h | h
    · exact a1 k h
    · exact Nat.le_trans a3.n h
  · rcases j i hi with h | h
    · exact a2 i h
    · exact Nat.le_trans a3.ids h
theorem One.new {hz h : AH} (x : GrewA hz h) : One hz (h.push [[.nils, .nils]]) h.n ⟨[], []⟩ := ⟨_, _, isG_new h, fun k hk => by rw [hk]; exact x.n, fun _ h => h.elim, x.trans (GrewA.push _ _)⟩
theorem One.grew {hz h h' : AH} (t : One hz h b G) (x : GrewA h h') : One hz h' b G := by
  obtain ⟨F, J, g, a1, a2, a3⟩ := t
  exact ⟨F, J, g.grew x, a1, a2, a3.trans x⟩
theorem One.isG {hz h : AH} (t : One hz h b G) : ∃ F J, IsG h F J b G := by
  obtain ⟨F, J, g, _⟩ := t
  exact ⟨F, J, g⟩
theorem One.all {hz h : AH} (t : One hz h b G) : GrewA hz h := by
  obtain ⟨F, J, g, _, _, x⟩ := t
  exact x

theorem One.call {hz h : AH} {R : AH → Prop} {G' : GraphD} (t : One hz h b G) (c : ∀ F J, IsG h F J b G → ∃ h', R h' ∧ DidG h F J b h' G') : ∃ h', R h' ∧ One hz h' b G' := by
  obtain ⟨F, J, g, a1, a2, a3⟩ := t
  obtain ⟨h', r, F', J', g', c, f, j⟩ := c F J g
  refine ⟨h', r, F', J', g', fun k hk => ?_, fun i hi => ?_, Chg.new a3 c a1 a2⟩
  · rcases f k hk with h | h
    · exact a1 k h
    · exact Nat.le_trans a3.n h
  · rcases j i hi with h | h
    · exact a2 i h
    · exact Nat.le_trans a3.ids h

theorem graph_begun (h : AH) : runF Try.prog po 32 [] h = some (.inl (.bool true), h) := by
  obtain ⟨_, n1, rfl⟩ := g_New (h := h)
  have t0 := One.new (GrewA.refl h)
  have w0 : GraphD.Wf ⟨[], []⟩ := wf_nil
  obtain ⟨h1, e1, t1⟩ := t0.call fun F J g => g_Gate g w0
  have w1 := w0.gate
  have q1 : GraphD.gate ⟨[], []⟩ = (⟨[], [false]⟩, 0, 0) := rfl
  rw [q1] at e1 t1 w1
  simp only at e1 t1 w1
  obtain ⟨h2, e2, t2⟩ := t1.call fun F J g => g_Cell g w1 3 7 (-1)
  have w2 := w1.cellC 3 7 (-1)
  have q2 : GraphD.cellC ⟨[], [false]⟩ 3 7 (-1) = (⟨[⟨-1, -1, 7, 3, -1, 0⟩], [false]⟩, 0, 0) := by kernel_rfl
  rw [q2] at e2 t2 w2
  simp only at e2 t2 w2
  obtain ⟨h3, e3, t3⟩ := t2.call fun F J g => g_Derive g w2 0 13 0
  have w3 := w2.derive 0 13 0
  have q3 : GraphD.derive ⟨[⟨-1, -1, 7, 3, -1, 0⟩], [false]⟩ 0 13 0 = (⟨[⟨-1, -1, 7, 3, -1, 0⟩, ⟨0, 0, 13, 0, -1, 0⟩], [false]⟩, 1, 0) := by kernel_rfl
  rw [q3] at e3 t3 w3
  simp only at e3 t3 w3
  obtain ⟨F, J, g3⟩ := t3.isG
  have e4 := g_Rights g3 w3 1
  have q4 : GraphD.rights ⟨[⟨-1, -1, 7, 3, -1, 0⟩, ⟨0, 0, 13, 0, -1, 0⟩], [false]⟩ 1 = 5 := by kernel_rfl
  rw [q4] at e4
  have e5 := g_Target g3 w3 1
  have q5 : GraphD.target ⟨[⟨-1, -1, 7, 3, -1, 0⟩, ⟨0, 0, 13, 0, -1, 0⟩], [false]⟩ 1 = (⟨-1, -1, 7, 3, -1, 0⟩, true) := by kernel_rfl
  rw [q5] at e5
  simp only at e5
  have t4 := t3.grew (GrewA.push h3 [nodeA ⟨-1, -1, 7, 3, -1, 0⟩])
  obtain ⟨h5, e6, t5⟩ := t4.call fun F J g => g_Cut g 0
  have w5 := w3.cut 0
  have q6 : GraphD.cut ⟨[⟨-1, -1, 7, 3, -1, 0⟩, ⟨0, 0, 13, 0, -1, 0⟩], [false]⟩ 0 = (⟨[⟨-1, -1, 7, 3, -1, 0⟩, ⟨0, 0, 13, 0, -1, 0⟩], [true]⟩, 0) := by kernel_rfl
  rw [q6] at e6 t5 w5
  simp only at e6 t5 w5
  obtain ⟨F5, J5, g5⟩ := t5.isG
  have e7 := g_Rights g5 w5 1
  have q7 : GraphD.rights ⟨[⟨-1, -1, 7, 3, -1, 0⟩, ⟨0, 0, 13, 0, -1, 0⟩], [true]⟩ 1 = 0 := by kernel_rfl
  rw [q7] at e7
  have e8 := g_Rights g5 w5 0
  have q8 : GraphD.rights ⟨[⟨-1, -1, 7, 3, -1, 0⟩, ⟨0, 0, 13, 0, -1, 0⟩], [true]⟩ 0 = 7 := by kernel_rfl
  rw [q8] at e8
  have e9 := g_Open g5 0
  have q9 : GraphD.isOpen ⟨[⟨-1, -1, 7, 3, -1, 0⟩, ⟨0, 0, 13, 0, -1, 0⟩], [true]⟩ 0 = false := by kernel_rfl
  rw [q9] at e9
  refine runF_R fn_graphBegun rfl ?_; unfold rc_graphBegun
  simp only [sim, List.length_cons, List.length_nil, Nat.reduceAdd, Nat.reduceSub, List.replicate, List.cons_append, List.nil_append, List.map_cons, List.map_nil, Option.bind_some, Option.map_some, Option.bind_none, Option.map_none, if_true, if_false, decide_true, decide_false, Bool.false_eq_true, Bool.true_eq_false, Bool.not_true, Bool.not_false, reduceCtorEq, Bool.and_true, Bool.true_and, Bool.and_false, Bool.false_and, Bool.or_true, Bool.true_or, Bool.or_false, Bool.false_or, true_and, and_true, false_and, and_false, List.take_zero, List.take_succ_cons, List.drop_zero, List.drop_succ_cons, List.take_nil, List.drop_nil, List.set_cons_zero, List.set_cons_succ, Nat.reduceLeDiff, Nat.reduceLT, Nat.zero_add, Nat.lt_add_one, Nat.le_refl, clearA, Int.toNat_natCast, n1, e1, e2, e3, e4, e5, nodeS, e6, e7, e8, e9, fg_yes t5.all (rfl : wkA (.bool true) = _)]
end
end Go.Proofs.Ytacocolcighomaa
