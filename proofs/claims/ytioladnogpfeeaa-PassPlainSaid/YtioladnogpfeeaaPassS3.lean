/- pass in the plain model: both graphs behind steps; how the laws begin. -/
import Derived.Test.YtioladnogpfeeaaAcrossR
import Derived.Test.YtioladnogpfeeaaGraphS8
import Derived.Test.YtioladnogpfeeaaGraphS5
import Derived.Test.YtioladnogpfeeaaPassLaw2
namespace Go.Proofs.Ytioladnogpfeeaa
set_option linter.unusedSimpArgs false
set_option linter.unusedVariables false
open Go

def runS (xs : List StepD) : GraphD := xs.foldl (fun G x => (G.step x).1) ⟨[], []⟩
theorem runS_snoc (xs : List StepD) (x : StepD) : runS (xs ++ [x]) = ((runS xs).step x).1 := by simp [runS, List.foldl_append]
theorem runS_wf (xs : List StepD) : (runS xs).Wf := by
  have : ∀ (xs : List StepD) (G : GraphD), G.Wf → (xs.foldl (fun G x => (G.step x).1) G).Wf := by
    intro xs
    induction xs with
    | nil => intro G h; exact h
    | cons x xs ih => intro G h; exact ih _ (h.step x)
  exact this xs _ wf_nil

/-- two graphs apart, and cells that are neither's -/
def Tw (h0 h : AH) (b : Nat) (G : GraphD) (b2 : Nat) (H : GraphD) (C : List Nat) : Prop :=
  ∃ F J F2 J2, IsG h F J b G ∧ IsG h F2 J2 b2 H ∧ (∀ k, F k → ¬ F2 k) ∧ (∀ j, J j → ¬ J2 j) ∧ (∀ k, F k ∨ F2 k → h0.n ≤ k) ∧ (∀ j, J j ∨ J2 j → h0.ids ≤ j) ∧ GrewA h0 h ∧ ∀ k ∈ C, k < h.n ∧ h0.n ≤ k ∧ ¬ F k ∧ ¬ F2 k
section
variable {h0 h : AH} {b b2 : Nat} {G G' H H' : GraphD} {C : List Nat}
theorem Two.tw (t : Two h0 h b G b2 H) : Tw h0 h b G b2 H [] := by
  obtain ⟨F, J, F2, J2, g, n, a1, a2, a3, a4, a5⟩ := t
  exact ⟨F, J, F2, J2, g, n, a1, a2, a3, a4, a5, by simp⟩
theorem Tw.all (t : Tw h0 h b G b2 H C) : GrewA h0 h := by
  obtain ⟨F, J, F2, J2, g, n, a1, a2, a3, a4, a5, _⟩ := t
  exact a5
theorem Tw.g1 (t : Tw h0 h b G b2 H C) : ∃ F J, IsG h F J b G := by
  obtain ⟨F, J, F2, J2, g, _⟩ := t
  exact ⟨F, J, g⟩
theorem Tw.g2 (t : Tw h0 h b G b2 H C) : ∃ F J, IsG h F J b2 H := by
  obtain ⟨F, J, F2, J2, g, n, _⟩ := t
  exact ⟨F2, J2, n⟩
theorem Tw.flip (t : Tw h0 h b G b2 H C) : Tw h0 h b2 H b G C := by
  obtain ⟨F, J, F2, J2, g, n, a1, a2, a3, a4, a5, a6⟩ := t
  exact ⟨F2, J2, F, J, n, g, fun k x y => a1 k y x, fun j x y => a2 j y x, fun k x => a3 k x.symm, fun j x => a4 j x.symm, a5, fun k hk => ⟨(a6 k hk).1, (a6 k hk).2.1, (a6 k hk).2.2.2, (a6 k hk).2.2.1⟩⟩
theorem Tw.push (t : Tw h0 h b G b2 H C) (r : List (List AV)) : Tw h0 (h.push r) b G b2 H (h.n :: C) := by
  obtain ⟨F, J, F2, J2, g, n, a1, a2, a3, a4, a5, a6⟩ := t
  refine ⟨F, J, F2, J2, g.grew (GrewA.push _ _), n.grew (GrewA.push _ _), a1, a2, a3, a4, a5.trans (GrewA.push _ _), fun k hk => ?_⟩
  rcases List.mem_cons.1 hk with rfl | hk
  · exact ⟨by simp [AH.push], a5.n, fun hF => by have := g.lt.1 _ hF; omega, fun hF => by have := n.lt.1 _ hF; omega⟩
  · obtain ⟨c1, c2, c3, c4⟩ := a6 k hk
    exact ⟨by simp only [push_n]; omega, c2, c3, c4⟩
theorem Tw.grew {h' : AH} (t : Tw h0 h b G b2 H C) (x : GrewA h h') : Tw h0 h' b G b2 H C := by
  obtain ⟨F, J, F2, J2, g, n, a1, a2, a3, a4, a5, a6⟩ := t
  exact ⟨F, J, F2, J2, g.grew x, n.grew x, a1, a2, a3, a4, a5.trans x, fun k hk => ⟨Nat.lt_of_lt_of_le (a6 k hk).1 x.n, (a6 k hk).2⟩⟩
theorem Tw.lt (t : Tw h0 h b G b2 H C) {k : Nat} (hk : k ∈ C) : k < h.n := by
  obtain ⟨F, J, F2, J2, g, n, a1, a2, a3, a4, a5, a6⟩ := t
  exact (a6 k hk).1
theorem Tw.call {R : AH → Prop} (t : Tw h0 h b G b2 H C) (c : ∀ F J, IsG h F J b G → ∃ h', R h' ∧ DidG h F J b h' G') :
    ∃ h', R h' ∧ Tw h0 h' b G' b2 H C ∧ ∀ k ∈ C, h'.cell k = h.cell k := by
  obtain ⟨F, J, F2, J2, g, n, a1, a2, a3, a4, a5, a6⟩ := t
  obtain ⟨h', r, F', J', g', c', f, j⟩ := c F J g
  refine ⟨h', r, ⟨F', J', F2, J2, g', n.keep c' (fun k hk hk2 => a1 k hk2 hk) (fun j hj hj2 => a2 j hj2 hj), fun k hk hk2 => ?_, fun i hi hi2 => ?_, fun k hk => ?_, fun i hi => ?_, Chg.new a5 c' (fun k hk => a3 k (.inl hk)) (fun j hj => a4 j (.inl hj)), fun k hk => ?_⟩, fun k hk => c'.cell k (a6 k hk).1 (a6 k hk).2.2.1⟩
  · rcases f k hk with h | h
    · exact a1 k h hk2
    · have := n.lt.1 k hk2; omega
  · rcases j i hi with h | h
    · exact a2 i h hi2
    · have := n.lt.2 i hi2; omega
  · rcases hk with hk | hk
    · rcases f k hk with h | h
      · exact a3 k (.inl h)
      · exact Nat.le_trans a5.n h
    · exact a3 k (.inr hk)
  · rcases hi with hi | hi
    · rcases j i hi with h | h
      · exact a4 i (.inl h)
      · exact Nat.le_trans a5.ids h
    · exact a4 i (.inr hi)
  · obtain ⟨c1, c2, c3, c4⟩ := a6 k hk
    refine ⟨Nat.lt_of_lt_of_le c1 c'.n, c2, fun hF => ?_, c4⟩
    rcases f k hF with h | h
    · exact c3 h
    · omega
theorem Tw.call2 {R : AH → Prop} (t : Tw h0 h b G b2 H C) (c : ∀ F J, IsG h F J b2 H → ∃ h', R h' ∧ DidG h F J b2 h' H') :
    ∃ h', R h' ∧ Tw h0 h' b G b2 H' C ∧ ∀ k ∈ C, h'.cell k = h.cell k := by
  obtain ⟨h', r, t', k⟩ := t.flip.call c
  exact ⟨h', r, t'.flip, k⟩
end

section
variable {h : AH}
theorem graphs_run (v : AV) (xs : List StepD) (hv : IsL 93 v (xs.map stepA)) (hl : xs.length ≤ 1000) :
    ∃ h', runF Try.prog po 18 [v] h = some (.inl (.tup [.ptr h.n 0 0, .ptr (h.n + 1) 0 0]), h') ∧ Tw h h' h.n (runS xs) (h.n + 1) (runS xs) [] := by
  obtain ⟨_, n1, rfl⟩ := g_New (h := h)
  have vl := hv.len
  have vf := hv.fits
  rw [List.length_map] at vl
  refine runF_I (R := fun h' => Tw h h' h.n (runS xs) (h.n + 1) (runS xs) []) fn_graphs rfl fun Q hQ => ?_; unfold rc_graphs
  simp only [sim, List.length_cons, List.length_nil, Nat.reduceAdd, Nat.reduceSub, List.replicate, List.cons_append, List.nil_append, List.map_cons, List.map_nil, Option.bind_some, Option.map_some, Option.bind_none, Option.map_none, if_true, if_false, decide_true, decide_false, Bool.false_eq_true, Bool.true_eq_false, Bool.not_true, Bool.not_false, reduceCtorEq, Bool.and_true, Bool.true_and, Bool.and_false, Bool.false_and, Bool.or_true, Bool.true_or, Bool.or_false, Bool.false_or, true_and, and_true, false_and, and_false, List.take_zero, List.take_succ_cons, List.drop_zero, List.drop_succ_cons, List.take_nil, List.drop_nil, List.set_cons_zero, List.set_cons_succ, Nat.reduceLeDiff, Nat.reduceLT, Nat.zero_add, Nat.lt_add_one, Nat.le_refl, clearA, Int.toNat_natCast, n1]
  refine loop_Q (fun i V h' => ∃ v6, V = [v, .nilp, .nilp, .ptr h.n 0 0, .ptr (h.n + 1) 0 0, .int .i64 (i : Nat), v6] ∧ Two h h' h.n (runS (xs.take i)) (h.n + 1) (runS (xs.take i))) xs.length ⟨_, rfl, two_new (GrewA.refl h)⟩ ?_ ?_
  · rintro i V h' hi ⟨v6, rfl, t⟩ next
    have hlt : (i : Int) < (xs.length : Int) := by omega
    have hw := w64 (n := (i : Int) + 1) (by omega) (by omega)
    obtain ⟨x, hx⟩ : ∃ x, xs[i]? = some x := ⟨_, List.getElem?_eq_getElem hi⟩
    have i1 := hv.ix .i64 i (stepA x) (by simp [hx])
    have hW := runS_wf (xs.take i)
    obtain ⟨F, J, F2, J2, g, n, a1, a2, a3, a4, a5⟩ := t
    obtain ⟨h2, e2, t2, -⟩ := graph_step x g n a1 a2 a3 a4 a5 hW hW
    rw [r_lpb rc_graphs_b1.eq_1]
    simp only [sim, List.length_cons, List.length_nil, Nat.reduceAdd, Nat.reduceSub, List.replicate, List.cons_append, List.nil_append, List.map_cons, List.map_nil, Option.bind_some, Option.map_some, Option.bind_none, Option.map_none, if_true, if_false, decide_true, decide_false, Bool.false_eq_true, Bool.true_eq_false, Bool.not_true, Bool.not_false, reduceCtorEq, Bool.and_true, Bool.true_and, Bool.and_false, Bool.false_and, Bool.or_true, Bool.true_or, Bool.or_false, Bool.false_or, true_and, and_true, false_and, and_false, List.take_zero, List.take_succ_cons, List.drop_zero, List.drop_succ_cons, List.take_nil, List.drop_nil, List.set_cons_zero, List.set_cons_succ, Nat.reduceLeDiff, Nat.reduceLT, Nat.zero_add, Nat.lt_add_one, Nat.le_refl, clearA, Int.toNat_natCast, vl, vf, hlt, i1, ld_all (stepS.1 x), e2, hw]
    refine next _ _ ⟨_, rfl, ?_⟩
    have e : xs.take (i + 1) = xs.take i ++ [x] := take_get hx
    rw [e, runS_snoc]
    exact t2
  · rintro V h' ⟨v6, rfl, t⟩
    have hlt : ¬ (xs.length : Int) < (xs.length : Int) := by omega
    rw [List.take_length] at t
    rw [r_lpb rc_graphs_b1.eq_1]
    simp only [sim, List.length_cons, List.length_nil, Nat.reduceAdd, Nat.reduceSub, List.replicate, List.cons_append, List.nil_append, List.map_cons, List.map_nil, Option.bind_some, Option.map_some, Option.bind_none, Option.map_none, if_true, if_false, decide_true, decide_false, Bool.false_eq_true, Bool.true_eq_false, Bool.not_true, Bool.not_false, reduceCtorEq, Bool.and_true, Bool.true_and, Bool.and_false, Bool.false_and, Bool.or_true, Bool.true_or, Bool.or_false, Bool.false_or, true_and, and_true, false_and, and_false, List.take_zero, List.take_succ_cons, List.drop_zero, List.drop_succ_cons, List.take_nil, List.drop_nil, List.set_cons_zero, List.set_cons_succ, Nat.reduceLeDiff, Nat.reduceLT, Nat.zero_add, Nat.lt_add_one, Nat.le_refl, clearA, Int.toNat_natCast, vl, vf, hlt]
    exact hQ _ _ rfl t.tw

theorem val_cells {x : VD} {r : List AV} (hx : VaA x r) : r[0]? = some (.int .i64 x.kind) ∧ r[1]? = some (.int .i64 x.n) := by
  obtain ⟨v, es, rfl, _⟩ := hx.row
  exact ⟨rfl, rfl⟩
theorem cap_va (n : Int) : VaA (.mk 4 n []) [.int .i64 4, .int .i64 n, .nils] := by
  simp only [VaA]
  exact ⟨_, [], rfl, .inl ⟨rfl, rfl⟩, rfl⟩
theorem pass_begun (h : AH) : runF Try.prog po 16 [] h = some (.inl (.bool true), h) := by
  obtain ⟨_, n1, rfl⟩ := g_New (h := h)
  have t0 := One.new (GrewA.refl h)
  have w0 : GraphD.Wf ⟨[], []⟩ := wf_nil
  obtain ⟨h1, e1, t1⟩ := t0.call fun F J g => g_Gate g w0
  have w1 := w0.gate
  have q1 : GraphD.gate ⟨[], []⟩ = (⟨[], [false]⟩, 0, 0) := rfl
  rw [q1] at e1 t1 w1
  simp only at e1 t1 w1
  obtain ⟨h2, e2, t2⟩ := t1.call fun F J g => g_Cell g w1 1 5 (-1)
  have w2 := w1.cellC 1 5 (-1)
  have q2 : GraphD.cellC ⟨[], [false]⟩ 1 5 (-1) = (⟨[⟨-1, -1, 5, 1, -1, 0⟩], [false]⟩, 0, 0) := by kernel_rfl
  rw [q2] at e2 t2 w2
  simp only at e2 t2 w2
  obtain ⟨h3, e3, t3⟩ := t2.call fun F J g => g_Cell g w2 1 1 (-1)
  have w3 := w2.cellC 1 1 (-1)
  have q3 : GraphD.cellC ⟨[⟨-1, -1, 5, 1, -1, 0⟩], [false]⟩ 1 1 (-1) = (⟨[⟨-1, -1, 5, 1, -1, 0⟩, ⟨-1, -1, 1, 1, -1, 0⟩], [false]⟩, 1, 0) := by kernel_rfl
  rw [q3] at e3 t3 w3
  simp only at e3 t3 w3
  obtain ⟨h4, ⟨r4, e4, x4⟩, t4⟩ := (t3.grew (GrewA.fresh h3 1)).call fun F J g => Across_run g w3 (cap_va 0) (gv := .isl (some h3.ids) 3 [[.int .i64 0]]) (ks := [0]) (.inr ⟨_, rfl⟩) (by decide)
  have w4 := acrossG_wf (ks := [0]) (x := .mk 4 0 []) w3
  have q4 : acrossG [0] ⟨[⟨-1, -1, 5, 1, -1, 0⟩, ⟨-1, -1, 1, 1, -1, 0⟩], [false]⟩ (.mk 4 0 []) = (⟨[⟨-1, -1, 5, 1, -1, 0⟩, ⟨-1, -1, 1, 1, -1, 0⟩, ⟨0, 0, 15, 0, -1, 0⟩], [false]⟩, .mk 4 2 [], 0) := by kernel_rfl
  rw [q4] at e4 t4 w4 x4
  simp only at e4 t4 w4 x4
  obtain ⟨o1, o2⟩ := x4.one
  obtain ⟨z0, z1⟩ := val_cells x4
  simp only [VD.kind, VD.n] at z0 z1
  have t5 := t4.grew (GrewA.push h4 [r4])
  obtain ⟨F5, J5, g5⟩ := t5.isG
  have e5 := g_Gates g5 w4 2
  have q5 : GraphD.gatesC ⟨[⟨-1, -1, 5, 1, -1, 0⟩, ⟨-1, -1, 1, 1, -1, 0⟩, ⟨0, 0, 15, 0, -1, 0⟩], [false]⟩ 2 = [0] := by kernel_rfl
  rw [q5] at e5
  have e6 := r_SameInts (h := (h4.push [r4]).fresh 1) [0] [0] (lstA 3 (intsA [0])) (.isl (some (h4.push [r4]).ids) 3 [[.int .i64 0]]) (isL_lst _ _) (isL_isl _ _ _) (by decide)
  simp only [push_ids] at e6
  have e6 : runF Try.prog po 27 [lstA 3 [[.int .i64 0]], .isl (some h4.ids) 3 [[.int .i64 0]]] ((h4.push [r4]).fresh 1) = some (.inl (.bool true), (h4.push [r4]).fresh 1) := e6
  have e7 := pMay_run (g5.grew (GrewA.fresh _ 1)) w4 (cap_va 1)
  have q7 : mayG ⟨[⟨-1, -1, 5, 1, -1, 0⟩, ⟨-1, -1, 1, 1, -1, 0⟩, ⟨0, 0, 15, 0, -1, 0⟩], [false]⟩ (.mk 4 1 []) = 9 := by kernel_rfl
  rw [q7] at e7
  refine runF_R fn_passBegun rfl ?_; unfold rc_passBegun
  simp only [sim, List.length_cons, List.length_nil, Nat.reduceAdd, Nat.reduceSub, List.replicate, List.cons_append, List.nil_append, List.map_cons, List.map_nil, Option.bind_some, Option.map_some, Option.bind_none, Option.map_none, if_true, if_false, decide_true, decide_false, Bool.false_eq_true, Bool.true_eq_false, Bool.not_true, Bool.not_false, reduceCtorEq, Bool.and_true, Bool.true_and, Bool.and_false, Bool.false_and, Bool.or_true, Bool.true_or, Bool.or_false, Bool.false_or, true_and, and_true, false_and, and_false, List.take_zero, List.take_succ_cons, List.drop_zero, List.drop_succ_cons, List.take_nil, List.drop_nil, List.set_cons_zero, List.set_cons_succ, Nat.reduceLeDiff, Nat.reduceLT, Nat.zero_add, Nat.lt_add_one, Nat.le_refl, clearA, Int.toNat_natCast, n1, e1, e2, e3, e4, o1, o2, z0, z1, e5, e6, e7, Int.reduceEq]
  exact fg_yes (t5.all.trans (GrewA.fresh _ 1)) rfl
end
end Go.Proofs.Ytioladnogpfeeaa
