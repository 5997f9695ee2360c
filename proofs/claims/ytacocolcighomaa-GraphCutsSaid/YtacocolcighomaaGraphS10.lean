/- GraphDoes in the plain model. -/
import Derived.Test.YtacocolcighomaaGraphS9
import Derived.Test.YtacocolcighomaaLawS
namespace Go.Proofs.Ytacocolcighomaa
set_option linter.unusedSimpArgs false
set_option linter.unusedVariables false
open Go

def stepOf (l : List Int) : StepD := ⟨l.getD 0 0, l.getD 1 0, l.getD 2 0, l.getD 3 0, l.getD 4 0⟩
theorem step_row {l : List Int} (h : l.length = 5) : i64r l = stepA (stepOf l) := by
  obtain ⟨a, b, c, d, e, rfl⟩ := list_of_5 h
  rfl

section
variable {hz h : AH} {b b2 : Nat} {G : GraphD}

theorem does_loop1 (t : Two hz h b G b2 G) (hW : G.Wf) (v0 v4 v5 v6 v7 v8 v9 v11 v12 v13 v14 v15 : AV) : ∀ (d k : Nat) (v16 v17 : AV), k + d = G.nodes.length →
    cFR true [.v 1] hz (runR (runF Try.prog po) 18 [.lp rc_GraphDoes_b1, .ss [], .blk 2, .ss [.ops [(.i (.v 1) (.mv (.c (.bool true))))], .ret]] [v0, .bool false, .ptr b 0 0, .ptr b2 0 0, v4, v5, v6, v7, v8, v9, .int .i64 (k : Int), v11, v12, v13, v14, v15, v16, v17] [] h) = some (.inl (.bool true), hz) := by
  obtain ⟨F, J, F2, J2, g, n, -, -, -, -, x⟩ := t
  obtain ⟨nv, sv, h1, h2, -⟩ := n.ex
  have hfew := hW.few
  intro d
  induction d with
  | zero =>
    intro k v16 v17 hk
    rw [r_lpb rc_GraphDoes_b1.eq_1]
    have hlt : ¬ ((k : Int) < (G.nodes.length : Int)) := by omega
    simp only [sim, List.length_cons, List.length_nil, Nat.reduceAdd, Nat.reduceSub, List.replicate, List.cons_append, List.nil_append, List.map_cons, List.map_nil, Option.bind_some, Option.map_some, Option.bind_none, Option.map_none, if_true, if_false, decide_true, decide_false, Bool.false_eq_true, Bool.true_eq_false, Bool.not_true, Bool.not_false, reduceCtorEq, Bool.and_true, Bool.true_and, Bool.and_false, Bool.false_and, Bool.or_true, Bool.true_or, Bool.or_false, Bool.false_or, true_and, and_true, false_and, and_false, List.take_zero, List.take_succ_cons, List.drop_zero, List.drop_succ_cons, List.take_nil, List.drop_nil, List.set_cons_zero, List.set_cons_succ, Nat.reduceLeDiff, Nat.reduceLT, Nat.zero_add, Nat.lt_add_one, Nat.le_refl, clearA, Int.toNat_natCast, h1, h2.isL.len, h2.isL.fits, List.length_map, hlt, fg_yes x (rfl : wkA (.bool true) = _)]
  | succ d ih =>
    intro k v16 v17 hk
    rw [r_lpb rc_GraphDoes_b1.eq_1]
    have hlt : (k : Int) < (G.nodes.length : Int) := by omega
    have hwr := w64 (n := (k : Int) + 1) (by omega) (by omega)
    have e1 : ((k + 1 : Nat) : Int) = (k : Int) + 1 := by omega
    have := ih (k + 1) (.bool true) (.bool false) (by omega)
    rw [e1] at this
    simp only [sim, List.length_cons, List.length_nil, Nat.reduceAdd, Nat.reduceSub, List.replicate, List.cons_append, List.nil_append, List.map_cons, List.map_nil, Option.bind_some, Option.map_some, Option.bind_none, Option.map_none, if_true, if_false, decide_true, decide_false, Bool.false_eq_true, Bool.true_eq_false, Bool.not_true, Bool.not_false, reduceCtorEq, Bool.and_true, Bool.true_and, Bool.and_false, Bool.false_and, Bool.or_true, Bool.true_or, Bool.or_false, Bool.false_or, true_and, and_true, false_and, and_false, List.take_zero, List.take_succ_cons, List.drop_zero, List.drop_succ_cons, List.take_nil, List.drop_nil, List.set_cons_zero, List.set_cons_succ, Nat.reduceLeDiff, Nat.reduceLT, Nat.zero_add, Nat.lt_add_one, Nat.le_refl, clearA, Int.toNat_natCast, h1, h2.isL.len, h2.isL.fits, List.length_map, hlt, g_Rights g hW, n_Rights n hW, hwr, this]

theorem does_loop2 (v0 : AV) (rows : List (List Int)) (hv : IsL 62 v0 (rows.map i64r)) (hl : rows.length ≤ 1000) (h5 : ∀ r ∈ rows, r.length = 5) : ∀ (l pre : List (List Int)) (h : AH) (G : GraphD) (v5 v6 v7 v8 v9 v10 v11 v12 v13 v14 v15 v16 v17 : AV), rows = pre ++ l → Two hz h b G b2 G → G.Wf →
    cFR true [.v 1] hz (runR (runF Try.prog po) 18 [.lp rc_GraphDoes_b2, .ss [], .blk 0, .ss [.ops [(.i (.v 10) (.mv (.c (.int .i64 0))))], .block 2 [(.loop rc_GraphDoes_b1)], .ops [(.i (.v 1) (.mv (.c (.bool true))))], .ret]] [v0, .bool false, .ptr b 0 0, .ptr b2 0 0, .int .i64 pre.length, v5, v6, v7, v8, v9, v10, v11, v12, v13, v14, v15, v16, v17] [] h) = some (.inl (.bool true), hz) := by
  intro l
  induction l with
  | nil =>
    intro pre h G v5 v6 v7 v8 v9 v10 v11 v12 v13 v14 v15 v16 v17 e t hW
    rw [r_lpb rc_GraphDoes_b2.eq_1]
    have hlt : ¬ ((pre.length : Int) < (rows.length : Int)) := by rw [e]; simp
    have := does_loop1 t hW v0 (.int .i64 pre.length) v5 v6 v7 v8 v9 v11 v12 (.bool false) v14 v15 G.nodes.length 0 v16 v17 (by omega)
    simp only [Int.natCast_zero] at this
    simp only [sim, List.length_cons, List.length_nil, Nat.reduceAdd, Nat.reduceSub, List.replicate, List.cons_append, List.nil_append, List.map_cons, List.map_nil, Option.bind_some, Option.map_some, Option.bind_none, Option.map_none, if_true, if_false, decide_true, decide_false, Bool.false_eq_true, Bool.true_eq_false, Bool.not_true, Bool.not_false, reduceCtorEq, Bool.and_true, Bool.true_and, Bool.and_false, Bool.false_and, Bool.or_true, Bool.true_or, Bool.or_false, Bool.false_or, true_and, and_true, false_and, and_false, List.take_zero, List.take_succ_cons, List.drop_zero, List.drop_succ_cons, List.take_nil, List.drop_nil, List.set_cons_zero, List.set_cons_succ, Nat.reduceLeDiff, Nat.reduceLT, Nat.zero_add, Nat.lt_add_one, Nat.le_refl, clearA, Int.toNat_natCast, hv.len, hv.fits, List.length_map, hlt, this]
  | cons r l ih =>
    intro pre h G v5 v6 v7 v8 v9 v10 v11 v12 v13 v14 v15 v16 v17 e t hW
    rw [r_lpb rc_GraphDoes_b2.eq_1]
    have hlt : (pre.length : Int) < (rows.length : Int) := by rw [e]; simp; omega
    have hr5 := h5 r (by rw [e]; simp)
    have hix := hv.ix .i64 pre.length (stepA (stepOf r)) (by rw [e, ← step_row hr5]; simp)
    have hwr := w64 (n := (pre.length : Int) + 1) (by omega) (by omega)
    have e2 : ((pre ++ [r]).length : Int) = (pre.length : Int) + 1 := by simp
    generalize stepOf r = x at hix
    have tt := t
    obtain ⟨F0, J0, F20, J20, g0, n0, b1, b2', b3, b4, b5⟩ := tt
    have hbx : ¬ (F0 h.n ∨ F20 h.n) := by
      rintro (hk | hk)
      · have := g0.lt.1 _ hk; omega
      · have := n0.lt.1 _ hk; omega
    have gx := GrewA.push h [stepA x]
    obtain ⟨h', r1, t2, cg⟩ := graph_step x (g0.grew gx) (n0.grew gx) b1 b2' b3 b4 (b5.trans gx) hW hW
    have hW' := hW.step x
    simp only [decide_true, Bool.and_self] at r1
    have hxc : h'.cell h.n = some [stepA x] := (cg.cell h.n (by simp [AH.push]) hbx).trans push_same
    have hlt' : h.n < h'.n := by have := cg.n; simp [AH.push] at this; omega
    generalize (G.step x).1 = G' at *
    have tt := t2
    obtain ⟨F, J, F2, J2, g, n, -, -, -, -, -⟩ := tt
    obtain ⟨nv, sv, c1, c2, -⟩ := n.ex
    have hfew := hW'.few
    have gN := g_Nodes g hW'
    have sN := r_SameNodes (h := h') G'.nodes G'.nodes (lstA tN (G'.nodes.map nodeA)) nv (isL_lst _ _) c2.isL (by omega)
    have gT := g_Target g hW' x.a
    have p1 := GrewA.push h' [nodeA (G'.target x.a).1]
    have nT := n_Target (n.grew p1) hW' x.a
    have p2 := p1.trans (GrewA.push (h'.push [nodeA (G'.target x.a).1]) [nodeA (G'.target x.a).1])
    have gP := g.grew p2
    have nP := n.grew p2
    have hx1 : (h'.push [nodeA (G'.target x.a).1]).cell h.n = some [stepA x] := (push_lt hlt').trans hxc
    have hx2 : ((h'.push [nodeA (G'.target x.a).1]).push [nodeA (G'.target x.a).1]).cell h.n = some [stepA x] := (push_lt (by simp [AH.push]; omega)).trans hx1
    have hgl : (intsA (G'.gatesC x.a)).length = (G'.gatesC x.a).length := by simp
    have hgl2 : (G'.gatesC x.a).length ≤ 1000 := by
      have h1 := List.length_filter_le (fun n : NodeD => decide (0 ≤ n.gate)) (G'.path x.a)
      have h2 := GraphD.path_few hW' x.a
      simp only [GraphD.gatesC, gatesOf, List.length_map]
      omega
    have sI := r_SameInts (h := (h'.push [nodeA (G'.target x.a).1]).push [nodeA (G'.target x.a).1]) (G'.gatesC x.a) (G'.gatesC x.a) (lstA 3 (intsA (G'.gatesC x.a))) (lstA 3 (intsA (G'.gatesC x.a))) (isL_lst _ _) (isL_lst _ _) hgl2
    have hrec := ih (pre ++ [r]) _ G' (.ptr h.n 0 0) (.ptr h'.n 0 0) (.bool (G'.target x.a).2) (.ptr (h'.n + 1) 0 0) (.bool (G'.target x.a).2) v10 v11 v12 (.bool true) (.bool false) (.bool false) v16 v17 (by simp [e]) (t2.grew p2) hW'
    rw [e2] at hrec
    simp only [sim, List.length_cons, List.length_nil, Nat.reduceAdd, Nat.reduceSub, List.replicate, List.cons_append, List.nil_append, List.map_cons, List.map_nil, Option.bind_some, Option.map_some, Option.bind_none, Option.map_none, if_true, if_false, decide_true, decide_false, Bool.false_eq_true, Bool.true_eq_false, Bool.not_true, Bool.not_false, reduceCtorEq, Bool.and_true, Bool.true_and, Bool.and_false, Bool.false_and, Bool.or_true, Bool.true_or, Bool.or_false, Bool.false_or, true_and, and_true, false_and, and_false, List.take_zero, List.take_succ_cons, List.drop_zero, List.drop_succ_cons, List.take_nil, List.drop_nil, List.set_cons_zero, List.set_cons_succ, Nat.reduceLeDiff, Nat.reduceLT, Nat.zero_add, Nat.lt_add_one, Nat.le_refl, clearA, Int.toNat_natCast, hv.len, hv.fits, List.length_map, hlt, hix, stepS, hwr, r1, gN, c1, sN, hxc, gT, nT, nodeS, node_neq, hx1, hx2, g_Rights gP hW', n_Rights nP hW', g_Gates gP hW', n_Gates nP hW', sI, g_Has gP, n_Has nP, g_Open gP, n_Open nP, beq_self_eq_true]
    exact hrec
theorem GraphDoes_run (v0 : AV) (rows : List (List Int)) (hv : IsL 62 v0 (rows.map i64r)) (h5 : ∀ r ∈ rows, r.length = 5) : runF Try.prog po 9 [v0] h = some (.inl (.bool true), h) := by
  refine runF_R fn_GraphDoes rfl ?_; unfold rc_GraphDoes
  obtain ⟨_, n1, rfl⟩ := g_New (h := h)
  cases hd : decide ((200 : Int) < (rows.length : Int))
  · have hl : rows.length ≤ 200 := by simp at hd; omega
    have := does_loop2 (b := h.n) (b2 := h.n + 1) v0 rows hv (by omega) h5 rows [] _ ⟨[], []⟩ .junk .junk .junk .junk .junk .junk (.bool false) (.bool false) .junk .junk .junk .junk .junk rfl (two_new (GrewA.refl h)) wf_nil
    simp only [List.length_nil, Int.natCast_zero] at this
    simp only [sim, List.length_cons, List.length_nil, Nat.reduceAdd, Nat.reduceSub, List.replicate, List.cons_append, List.nil_append, List.map_cons, List.map_nil, Option.bind_some, Option.map_some, Option.bind_none, Option.map_none, if_true, if_false, decide_true, decide_false, Bool.false_eq_true, Bool.true_eq_false, Bool.not_true, Bool.not_false, reduceCtorEq, Bool.and_true, Bool.true_and, Bool.and_false, Bool.false_and, Bool.or_true, Bool.true_or, Bool.or_false, Bool.false_or, true_and, and_true, false_and, and_false, List.take_zero, List.take_succ_cons, List.drop_zero, List.drop_succ_cons, List.take_nil, List.drop_nil, List.set_cons_zero, List.set_cons_succ, Nat.reduceLeDiff, Nat.reduceLT, Nat.zero_add, Nat.lt_add_one, Nat.le_refl, clearA, Int.toNat_natCast, graph_begun, hv.len, hv.fits, List.length_map, hd, n1]
    exact this
  · simp only [sim, List.length_cons, List.length_nil, Nat.reduceAdd, Nat.reduceSub, List.replicate, List.cons_append, List.nil_append, List.map_cons, List.map_nil, Option.bind_some, Option.map_some, Option.bind_none, Option.map_none, if_true, if_false, decide_true, decide_false, Bool.false_eq_true, Bool.true_eq_false, Bool.not_true, Bool.not_false, reduceCtorEq, Bool.and_true, Bool.true_and, Bool.and_false, Bool.false_and, Bool.or_true, Bool.true_or, Bool.or_false, Bool.false_or, true_and, and_true, false_and, and_false, List.take_zero, List.take_succ_cons, List.drop_zero, List.drop_succ_cons, List.take_nil, List.drop_nil, List.set_cons_zero, List.set_cons_succ, Nat.reduceLeDiff, Nat.reduceLT, Nat.zero_add, Nat.lt_add_one, Nat.le_refl, clearA, Int.toNat_natCast, graph_begun, hv.len, hv.fits, List.length_map, hd]
end
theorem graphDoes_walk (A : Option Addr) (n cap : Nat) (rows : List (List Int)) (W : World) (hn : rows.length = n) (h5 : ∀ x ∈ rows, x.length = 5) (hs : Sl W 5 A n cap (rows.flatMap icells)) (hlim : n ≤ 9223372036854775807) :
    Law Try.prog 9 #[.slice A n cap] W := by
  obtain ⟨h1, h2⟩ := vr_rows (P := Try.prog) (W := W) (e := 62) (k := 5) (by kernel_rfl) hn h5 hs
  exact law_of (vs := [.slice A n cap]) (GraphDoes_run _ rows h2 h5) (VRs.cons h1 VRs.nil)
end Go.Proofs.Ytacocolcighomaa
