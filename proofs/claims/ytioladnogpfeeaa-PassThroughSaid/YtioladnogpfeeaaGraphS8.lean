/- Graph and Net in the plain model: a step in both. -/
import Derived.Test.YtioladnogpfeeaaGraphS7
import Derived.Test.YtioladnogpfeeaaGraphLaw3
namespace Go.Proofs.Ytioladnogpfeeaa
set_option linter.unusedSimpArgs false
set_option linter.unusedVariables false
open Go

def stepA (x : StepD) : List AV := [.int .i64 x.d, .int .i64 x.a, .int .i64 x.b, .int .i64 x.c, .int .i64 x.e]
theorem stepS : (∀ x, (stepA x).length = 5) ∧ (∀ x, (stepA x).all AV.one = true) ∧ (∀ x : StepD, (stepA x)[0]? = some (.int .i64 x.d)) ∧ (∀ x : StepD, (stepA x)[1]? = some (.int .i64 x.a)) ∧ (∀ x : StepD, (stepA x)[2]? = some (.int .i64 x.b)) ∧ (∀ x : StepD, (stepA x)[3]? = some (.int .i64 x.c)) ∧ (∀ x : StepD, (stepA x)[4]? = some (.int .i64 x.e)) :=
  ⟨fun _ => rfl, fun _ => rfl, fun _ => rfl, fun _ => rfl, fun _ => rfl, fun _ => rfl, fun _ => rfl⟩
/-- two graphs apart, made since h0 -/
def Two (h0 h : AH) (b : Nat) (G : GraphD) (b2 : Nat) (H : GraphD) : Prop :=
  ∃ F J F2 J2, IsG h F J b G ∧ IsG h F2 J2 b2 H ∧ (∀ k, F k → ¬ F2 k) ∧ (∀ j, J j → ¬ J2 j) ∧ (∀ k, F k ∨ F2 k → h0.n ≤ k) ∧ (∀ j, J j ∨ J2 j → h0.ids ≤ j) ∧ GrewA h0 h
theorem Chg.new {F J : Nat → Prop} {h0 h h' : AH} (g : GrewA h0 h) (c : Chg F J h h') (hF : ∀ k, F k → h0.n ≤ k) (hJ : ∀ j, J j → h0.ids ≤ j) : GrewA h0 h' :=
  ⟨Nat.le_trans g.n c.n, Nat.le_trans g.ids c.ids, fun k hk => by
    rw [c.cell k (Nat.lt_of_lt_of_le hk g.n) (fun h => by have := hF k h; omega)]; exact g.cell k hk,
   fun j hj => by rw [c.hw j (Nat.lt_of_lt_of_le hj g.ids) (fun h => by have := hJ j h; omega)]; exact g.hw j hj⟩

section
variable {h : AH} {b b2 : Nat} {G H : GraphD}

/-- one call for the one, one for the other -/
theorem two_calls (h0 : AH) {h : AH} {F J F2 J2 : Nat → Prop} (g : IsG h F J b G) (n : IsG h F2 J2 b2 H) (hF : ∀ k, F k → ¬ F2 k) (hJ : ∀ j, J j → ¬ J2 j) (hF0 : ∀ k, F k ∨ F2 k → h0.n ≤ k) (hJ0 : ∀ j, J j ∨ J2 j → h0.ids ≤ j) (x0 : GrewA h0 h) {h1 : AH} {G' : GraphD} (d1 : DidG h F J b h1 G') :
    IsG h1 F2 J2 b2 H ∧ ∀ {h2 : AH} {H' : GraphD}, DidG h1 F2 J2 b2 h2 H' → Two h0 h2 b G' b2 H' ∧ Chg (fun k => F k ∨ F2 k) (fun j => J j ∨ J2 j) h h2 := by
  obtain ⟨F', J', g1, c1, f1, j1⟩ := d1
  have n1 := n.keep c1 (fun k hk hk2 => hF k hk2 hk) (fun j hj hj2 => hJ j hj2 hj)
  refine ⟨n1, fun {h2 H'} d2 => ?_⟩
  obtain ⟨F2', J2', n2, c2, f2, j2⟩ := d2
  have hFF : ∀ k, F' k → ¬ F2 k := fun k hk hk2 => by
    rcases f1 k hk with h | h
    · exact hF k h hk2
    · have := n.lt.1 k hk2
      omega
  have hJJ : ∀ j, J' j → ¬ J2 j := fun j hj hj2 => by
    rcases j1 j hj with h | h
    · exact hJ j h hj2
    · have := n.lt.2 j hj2
      omega
  have x1 := Chg.new x0 c1 (fun k hk => hF0 k (.inl hk)) (fun j hj => hJ0 j (.inl hj))
  have x2 := Chg.new x1 c2 (fun k hk => hF0 k (.inr hk)) (fun j hj => hJ0 j (.inr hj))
  refine ⟨⟨F', J', F2', J2', g1.keep c2 hFF hJJ, n2, fun k hk hk2 => ?_, fun j hj hj2 => ?_, fun k hk => ?_, fun j hj => ?_, x2⟩, ⟨Nat.le_trans c1.n c2.n, Nat.le_trans c1.ids c2.ids, fun k hk hn => ?_, fun j hj hn => ?_⟩⟩
  · rcases f2 k hk2 with h | h
    · exact hFF k hk h
    · have := g1.lt.1 k hk
      omega
  · rcases j2 j hj2 with h | h
    · exact hJJ j hj h
    · have := g1.lt.2 j hj
      omega
  · rcases hk with hk | hk
    · rcases f1 k hk with h | h
      · exact hF0 k (.inl h)
      · exact Nat.le_trans x0.n h
    · rcases f2 k hk with h | h
      · exact hF0 k (.inr h)
      · exact Nat.le_trans x1.n h
  · rcases hj with hj | hj
    · rcases j1 j hj with h | h
      · exact hJ0 j (.inl h)
      · exact Nat.le_trans x0.ids h
    · rcases j2 j hj with h | h
      · exact hJ0 j (.inr h)
      · exact Nat.le_trans x1.ids h
  · rw [c2.cell k (Nat.lt_of_lt_of_le hk c1.n) (fun h => hn (.inr h)), c1.cell k hk (fun h => hn (.inl h))]
  · rw [c2.hw j (Nat.lt_of_lt_of_le hj c1.ids) (fun h => hn (.inr h)), c1.hw j hj (fun h => hn (.inl h))]

theorem Two.grew {hz h h' : AH} (t : Two hz h b G b2 H) (x : GrewA h h') : Two hz h' b G b2 H := by
  obtain ⟨F, J, F2, J2, g, n, a1, a2, a3, a4, a5⟩ := t
  exact ⟨F, J, F2, J2, g.grew x, n.grew x, a1, a2, a3, a4, a5.trans x⟩
theorem graph_step (x : StepD) {hz : AH} {F J F2 J2 : Nat → Prop} (g0 : IsG h F J b G) (n0 : IsG h F2 J2 b2 H) (hF : ∀ k, F k → ¬ F2 k) (hJ : ∀ j, J j → ¬ J2 j) (hF0 : ∀ k, F k ∨ F2 k → hz.n ≤ k) (hJ0 : ∀ j, J j ∨ J2 j → hz.ids ≤ j) (hx0 : GrewA hz h) (hG : G.Wf) (hH : H.Wf) :
    ∃ h', runF Try.prog po 47 [.ptr b 0 0, .ptr b2 0 0, .agg (stepA x)] h = some (.inl (.bool (decide ((G.step x).2.1 = (H.step x).2.1) && decide ((G.step x).2.2 = (H.step x).2.2))), h') ∧ Two hz h' b (G.step x).1 b2 (H.step x).1 ∧ Chg (fun k => F k ∨ F2 k) (fun j => J j ∨ J2 j) h h' := by
  have x1 := GrewA.push h [stepA x]
  have g := g0.grew x1
  have n := n0.grew x1
  have hx : ∀ {F' J' : Nat → Prop} {h1 : AH} {b' : Nat} {G' : GraphD}, (∀ k, F' k → k < h.n) → DidG (h.push [stepA x]) F' J' b' h1 G' → h1.cell h.n = some [stepA x] := by
    rintro F' J' h1 b' G' hlt ⟨_, _, _, c, _, _⟩
    rw [c.cell h.n (by simp [AH.push]) (fun hk => by have := hlt _ hk; omega), push_same]
  have tc : ∀ {h1 : AH} {G' : GraphD}, DidG (h.push [stepA x]) F J b h1 G' → _ := fun {h1 G'} d => two_calls hz g n hF hJ hF0 hJ0 (hx0.trans x1) (h1 := h1) (G' := G') d
  cases h0 : decide (x.d = 0)
  · cases h1 : decide (x.d = 1)
    · cases h2 : decide (x.d = 2)
      · cases h3 : decide (x.d = 3)
        · cases h4 : decide (x.d = 4)
          · have e : ∀ K : GraphD, K.step x = (K, 0, 0) := fun K => by simp at h0 h1 h2 h3 h4; simp [GraphD.step, h0, h1, h2, h3, h4]
            rw [e, e]
            refine ⟨h.push [stepA x], ?_, ⟨F, J, F2, J2, g, n, hF, hJ, hF0, hJ0, hx0.trans x1⟩, x1.chg _ _⟩
            refine runF_R fn_graphStep rfl ?_; unfold rc_graphStep
            simp only [sim, List.length_cons, List.length_nil, Nat.reduceAdd, Nat.reduceSub, List.replicate, List.cons_append, List.nil_append, List.map_cons, List.map_nil, Option.bind_some, Option.map_some, Option.bind_none, Option.map_none, if_true, if_false, decide_true, decide_false, Bool.false_eq_true, Bool.true_eq_false, Bool.not_true, Bool.not_false, reduceCtorEq, Bool.and_true, Bool.true_and, Bool.and_false, Bool.false_and, Bool.or_true, Bool.true_or, Bool.or_false, Bool.false_or, true_and, and_true, false_and, and_false, List.take_zero, List.take_succ_cons, List.drop_zero, List.drop_succ_cons, List.take_nil, List.drop_nil, List.set_cons_zero, List.set_cons_succ, Nat.reduceLeDiff, Nat.reduceLT, Nat.zero_add, Nat.lt_add_one, Nat.le_refl, clearA, Int.toNat_natCast, stepS, h0, h1, h2, h3, h4]
          · have e : ∀ K : GraphD, K.step x = K.derive x.a x.b x.c := fun K => by simp [GraphD.step, (by simpa using h4 : x.d = 4)]
            rw [e, e]
            obtain ⟨ha, a1, a2⟩ := g_Derive g hG x.a x.b x.c
            obtain ⟨n1, t⟩ := tc a2
            obtain ⟨hb, b1, b2'⟩ := n_Derive n1 hH x.a x.b x.c
            refine ⟨hb, ?_, (t b2').1, (x1.chg _ _).trans (t b2').2⟩
            refine runF_R fn_graphStep rfl ?_; unfold rc_graphStep
            cases hq : decide ((G.derive x.a x.b x.c).2.1 = (H.derive x.a x.b x.c).2.1) <;> simp only [sim, List.length_cons, List.length_nil, Nat.reduceAdd, Nat.reduceSub, List.replicate, List.cons_append, List.nil_append, List.map_cons, List.map_nil, Option.bind_some, Option.map_some, Option.bind_none, Option.map_none, if_true, if_false, decide_true, decide_false, Bool.false_eq_true, Bool.true_eq_false, Bool.not_true, Bool.not_false, reduceCtorEq, Bool.and_true, Bool.true_and, Bool.and_false, Bool.false_and, Bool.or_true, Bool.true_or, Bool.or_false, Bool.false_or, true_and, and_true, false_and, and_false, List.take_zero, List.take_succ_cons, List.drop_zero, List.drop_succ_cons, List.take_nil, List.drop_nil, List.set_cons_zero, List.set_cons_succ, Nat.reduceLeDiff, Nat.reduceLT, Nat.zero_add, Nat.lt_add_one, Nat.le_refl, clearA, Int.toNat_natCast, stepS, h0, h1, h2, h3, h4, a1, hx g0.lt.1 a2, b1, hq]
        · have e : ∀ K : GraphD, K.step x = K.funcC x.a x.e x.b x.c := fun K => by simp [GraphD.step, (by simpa using h3 : x.d = 3)]
          rw [e, e]
          obtain ⟨ha, a1, a2⟩ := g_Func g hG x.a x.e x.b x.c
          obtain ⟨n1, t⟩ := tc a2
          obtain ⟨hb, b1, b2'⟩ := n_Func n1 hH x.a x.e x.b x.c
          refine ⟨hb, ?_, (t b2').1, (x1.chg _ _).trans (t b2').2⟩
          refine runF_R fn_graphStep rfl ?_; unfold rc_graphStep
          cases hq : decide ((G.funcC x.a x.e x.b x.c).2.1 = (H.funcC x.a x.e x.b x.c).2.1) <;> simp only [sim, List.length_cons, List.length_nil, Nat.reduceAdd, Nat.reduceSub, List.replicate, List.cons_append, List.nil_append, List.map_cons, List.map_nil, Option.bind_some, Option.map_some, Option.bind_none, Option.map_none, if_true, if_false, decide_true, decide_false, Bool.false_eq_true, Bool.true_eq_false, Bool.not_true, Bool.not_false, reduceCtorEq, Bool.and_true, Bool.true_and, Bool.and_false, Bool.false_and, Bool.or_true, Bool.true_or, Bool.or_false, Bool.false_or, true_and, and_true, false_and, and_false, List.take_zero, List.take_succ_cons, List.drop_zero, List.drop_succ_cons, List.take_nil, List.drop_nil, List.set_cons_zero, List.set_cons_succ, Nat.reduceLeDiff, Nat.reduceLT, Nat.zero_add, Nat.lt_add_one, Nat.le_refl, clearA, Int.toNat_natCast, stepS, h0, h1, h2, h3, a1, hx g0.lt.1 a2, b1, hq]
      · have e : ∀ K : GraphD, K.step x = K.cellC x.a x.b x.c := fun K => by simp [GraphD.step, (by simpa using h2 : x.d = 2)]
        rw [e, e]
        obtain ⟨ha, a1, a2⟩ := g_Cell g hG x.a x.b x.c
        obtain ⟨n1, t⟩ := tc a2
        obtain ⟨hb, b1, b2'⟩ := n_Cell n1 hH x.a x.b x.c
        refine ⟨hb, ?_, (t b2').1, (x1.chg _ _).trans (t b2').2⟩
        refine runF_R fn_graphStep rfl ?_; unfold rc_graphStep
        cases hq : decide ((G.cellC x.a x.b x.c).2.1 = (H.cellC x.a x.b x.c).2.1) <;> simp only [sim, List.length_cons, List.length_nil, Nat.reduceAdd, Nat.reduceSub, List.replicate, List.cons_append, List.nil_append, List.map_cons, List.map_nil, Option.bind_some, Option.map_some, Option.bind_none, Option.map_none, if_true, if_false, decide_true, decide_false, Bool.false_eq_true, Bool.true_eq_false, Bool.not_true, Bool.not_false, reduceCtorEq, Bool.and_true, Bool.true_and, Bool.and_false, Bool.false_and, Bool.or_true, Bool.true_or, Bool.or_false, Bool.false_or, true_and, and_true, false_and, and_false, List.take_zero, List.take_succ_cons, List.drop_zero, List.drop_succ_cons, List.take_nil, List.drop_nil, List.set_cons_zero, List.set_cons_succ, Nat.reduceLeDiff, Nat.reduceLT, Nat.zero_add, Nat.lt_add_one, Nat.le_refl, clearA, Int.toNat_natCast, stepS, h0, h1, h2, a1, hx g0.lt.1 a2, b1, hq]
    · have e : ∀ K : GraphD, K.step x = ((K.cut x.a).1, 0, (K.cut x.a).2) := fun K => by simp [GraphD.step, (by simpa using h1 : x.d = 1)]
      rw [e, e]
      obtain ⟨ha, a1, a2⟩ := g_Cut g x.a
      obtain ⟨n1, t⟩ := tc a2
      obtain ⟨hb, b1, b2'⟩ := n_Cut n1 x.a
      refine ⟨hb, ?_, (t b2').1, (x1.chg _ _).trans (t b2').2⟩
      refine runF_R fn_graphStep rfl ?_; unfold rc_graphStep
      simp only [sim, List.length_cons, List.length_nil, Nat.reduceAdd, Nat.reduceSub, List.replicate, List.cons_append, List.nil_append, List.map_cons, List.map_nil, Option.bind_some, Option.map_some, Option.bind_none, Option.map_none, if_true, if_false, decide_true, decide_false, Bool.false_eq_true, Bool.true_eq_false, Bool.not_true, Bool.not_false, reduceCtorEq, Bool.and_true, Bool.true_and, Bool.and_false, Bool.false_and, Bool.or_true, Bool.true_or, Bool.or_false, Bool.false_or, true_and, and_true, false_and, and_false, List.take_zero, List.take_succ_cons, List.drop_zero, List.drop_succ_cons, List.take_nil, List.drop_nil, List.set_cons_zero, List.set_cons_succ, Nat.reduceLeDiff, Nat.reduceLT, Nat.zero_add, Nat.lt_add_one, Nat.le_refl, clearA, Int.toNat_natCast, stepS, h0, h1, a1, hx g0.lt.1 a2, b1]
  · have e : ∀ K : GraphD, K.step x = K.gate := fun K => by simp [GraphD.step, (by simpa using h0 : x.d = 0)]
    rw [e, e]
    obtain ⟨ha, a1, a2⟩ := g_Gate g hG
    obtain ⟨n1, t⟩ := tc a2
    obtain ⟨hb, b1, b2'⟩ := n_Gate n1 hH
    refine ⟨hb, ?_, (t b2').1, (x1.chg _ _).trans (t b2').2⟩
    refine runF_R fn_graphStep rfl ?_; unfold rc_graphStep
    cases hq : decide (G.gate.2.1 = H.gate.2.1) <;> simp only [sim, List.length_cons, List.length_nil, Nat.reduceAdd, Nat.reduceSub, List.replicate, List.cons_append, List.nil_append, List.map_cons, List.map_nil, Option.bind_some, Option.map_some, Option.bind_none, Option.map_none, if_true, if_false, decide_true, decide_false, Bool.false_eq_true, Bool.true_eq_false, Bool.not_true, Bool.not_false, reduceCtorEq, Bool.and_true, Bool.true_and, Bool.and_false, Bool.false_and, Bool.or_true, Bool.true_or, Bool.or_false, Bool.false_or, true_and, and_true, false_and, and_false, List.take_zero, List.take_succ_cons, List.drop_zero, List.drop_succ_cons, List.take_nil, List.drop_nil, List.set_cons_zero, List.set_cons_succ, Nat.reduceLeDiff, Nat.reduceLT, Nat.zero_add, Nat.lt_add_one, Nat.le_refl, clearA, Int.toNat_natCast, stepS, h0, a1, b1, hq]
theorem one_new (h : AH) : IsG (h.push [[.nils, .nils]]) (fun k => k = h.n) (fun _ => False) h.n ⟨[], []⟩ := isG_new h
theorem two_new {hz h : AH} (x : GrewA hz h) : Two hz ((h.push [[.nils, .nils]]).push [[.nils, .nils]]) h.n ⟨[], []⟩ (h.n + 1) ⟨[], []⟩ := by
  have h2 := isG_new (h.push [[.nils, .nils]])
  have hn := x.n
  refine ⟨_, _, _, _, (isG_new h).grew (GrewA.push _ _), h2, fun k hk hk2 => ?_, fun j hj => hj.elim, fun k hk => ?_, fun j hj => by rcases hj with hj | hj <;> exact hj.elim, (x.trans (GrewA.push _ _)).trans (GrewA.push _ _)⟩
  · subst hk
    simp [AH.push] at hk2
  · rcases hk with hk | hk
    · rw [hk]; exact hn
    · rw [hk]; simp [AH.push]; omega

/-- one graph of the call's own -/
def One (hz h : AH) (b : Nat) (G : GraphD) : Prop := ∃ F J, IsG h F J b G ∧ (∀ k, F k → hz.n ≤ k) ∧ (∀ j, J j → hz.ids ≤ j) ∧ GrewA hz h
theorem One.did {hz h h' : AH} {G' : GraphD} (t : One hz h b G) (d : ∀ {F J}, IsG h F J b G → DidG h F J b h' G') : One hz h' b G' := by
  obtain ⟨F, J, g, a1, a2, a3⟩ := t
  obtain ⟨F', J', g', c, f, j⟩ := d g
  refine ⟨F', J', g', fun k hk => ?_, fun i hi => ?_, Chg.new a3 c a1 a2⟩
  · rcases f k hk with h | h
    · exact a1 k h
    · exact Nat.le_trans a3.n h
  · rcases j i hi with h | h
    · exact a2 i h
    · exact Nat.le_trans a3.ids h
theorem One.new {hz h : AH} (x : GrewA hz h) : One hz (h.push [[.nils, .nils]]) h.n ⟨[], []⟩ := ⟨_, _, isG_new h, fun k hk => by rw [hk]; exact x.n, fun _ h => h.elim, x.trans (GrewA.push _ _)⟩
theorem One.grew {hz h h' : AH} (t : One hz h b G) (x : GrewA h h') : One hz h' b G := by
  obtain ⟨F, J, g, a1, a2, a3⟩ := t
  exact ⟨F, J, g.grew x, a1, a2, a3.trans x⟩
theorem One.isG {hz h : AH} (t : One hz h b G) : ∃ F J, IsG h F J b G := by
  obtain ⟨F, J, g, _⟩ := t
  exact ⟨F, J, g⟩
theorem One.all {hz h : AH} (t : One hz h b G) : GrewA hz h := by
  obtain ⟨F, J, g, _, _, x⟩ := t
  exact x

theorem One.call {hz h : AH} {R : AH → Prop} {G' : GraphD} (t : One hz h b G) (c : ∀ F J, IsG h F J b G → ∃ h', R h' ∧ DidG h F J b h' G') : ∃ h', R h' ∧ One hz h' b G' := by
  obtain ⟨F, J, g, a1, a2, a3⟩ := t
  obtain ⟨h', r, F', J', g', c, f, j⟩ := c F J g
  refine ⟨h', r, F', J', g', fun k hk => ?_, fun i hi => ?_, Chg.new a3 c a1 a2⟩
  · rcases f k hk with h | h
    · exact a1 k h
    · exact Nat.le_trans a3.n h
  · rcases j i hi with h | h
    · exact a2 i h
    · exact Nat.le_trans a3.ids h

end
end Go.Proofs.Ytioladnogpfeeaa
