/- Net in the plain model: gates, targets; and what compares. -/
import Derived.Test.YtacocolcighomaaGraphS3
namespace Go.Proofs.Ytacocolcighomaa
set_option linter.unusedSimpArgs false
set_option linter.unusedVariables false
open Go

section
variable {h : AH} {F J : Nat → Prop} {b : Nat} {G : GraphD}

theorem nGates_loop (g : IsG h F J b G) (hW : G.Wf) (W : List Int) (w : AV) (hw : IsL 3 w (intsA W)) (hWl : W.length ≤ 1000) (hWh : ∀ i ∈ W, G.has i = true) (v1 : AV) : ∀ (l pre : List Int) (h' : AH) (v v6 t1 t2 : AV), W = pre ++ l → GrewA h h' → Acc h h' 3 v (intsA (gatesOf (pre.map G.at_))) →
    cFR true [.v 2] h (runR (runF Try.prog po) 9 [.lp rc_nGates_b1, .ss [], .blk 0, .ss [.ops [(.i .l (.mv (.v 3))), (.i (.v 2) (.mv (.l 0)))], .ret]] [.ptr b 0 0, v1, .nils, v, w, .int .i64 pre.length, v6, t1, t2] [] h') =
      some (.inl (lstA 3 (intsA (gatesOf (W.map G.at_)))), h) := by
  intro l
  induction l with
  | nil =>
    intro pre h' v v6 t1 t2 e hg ha
    rw [r_lpb rc_nGates_b1.eq_1]
    have hlt : ¬ ((pre.length : Int) < (W.length : Int)) := by rw [e]; simp
    rw [List.append_nil] at e
    rw [← e] at ha
    simp only [sim, List.length_cons, List.length_nil, Nat.reduceAdd, Nat.reduceSub, List.replicate, List.cons_append, List.nil_append, List.map_cons, List.map_nil, Option.bind_some, Option.map_some, Option.bind_none, Option.map_none, if_true, if_false, decide_true, decide_false, Bool.false_eq_true, Bool.true_eq_false, Bool.not_true, Bool.not_false, reduceCtorEq, Bool.and_true, Bool.true_and, Bool.and_false, Bool.false_and, Bool.or_true, Bool.true_or, Bool.or_false, Bool.false_or, true_and, and_true, false_and, and_false, List.take_zero, List.take_succ_cons, List.drop_zero, List.drop_succ_cons, List.take_nil, List.drop_nil, List.set_cons_zero, List.set_cons_succ, Nat.reduceLeDiff, Nat.reduceLT, Nat.zero_add, Nat.lt_add_one, Nat.le_refl, clearA, Int.toNat_natCast, hw.len, hw.fits, List.length_map, hlt, fg_yes hg (acc_wk ha (ints_flat _))]
  | cons i l ih =>
    intro pre h' v v6 t1 t2 e hg ha
    have g' := g.grew hg
    obtain ⟨nv, sv, h1, h2, -⟩ := g'.ex
    rw [r_lpb rc_nGates_b1.eq_1]
    have hlt : (pre.length : Int) < (W.length : Int) := by rw [e]; simp; omega
    obtain ⟨m, rfl, hm, hm2⟩ := GraphD.node_nat (hWh i (by rw [e]; simp))
    have hix := hw.ix .i64 pre.length [.int .i64 (m : Int)] (by rw [e]; simp)
    have hix2 := h2.isL.ix .i64 m _ hm2
    have hat : G.at_ (m : Int) = G.nodes.getD m zeroN := rfl
    have hwr := w64 (n := (pre.length : Int) + 1) (by omega) (by omega)
    have e2 : ((pre ++ [(m : Int)]).length : Int) = (pre.length : Int) + 1 := by simp
    have hfew : (intsA (gatesOf (pre.map G.at_))).length ≤ 1000000 := by
      have := List.length_filter_le (fun n : NodeD => decide (0 ≤ n.gate)) (pre.map G.at_)
      have h2 : pre.length ≤ W.length := by rw [e]; simp
      simp [gatesOf] at this ⊢; omega
    by_cases h0 : 0 ≤ (G.nodes.getD m zeroN).gate
    · have hgo : gatesOf ((pre ++ [(m : Int)]).map G.at_) = gatesOf (pre.map G.at_) ++ [(G.nodes.getD m zeroN).gate] := by
        rw [List.map_append, gatesOf, List.filter_append, List.map_append]
        simp only [List.map_cons, List.map_nil, hat, List.filter_cons, h0, decide_true, if_true, List.filter_nil]
        rfl
      obtain ⟨v', h2', e1, a1, a2, a3, a4⟩ := acc_app ha hg (row := [.int .i64 (G.nodes.getD m zeroN).gate]) rfl hfew
      have := ih (pre ++ [(m : Int)]) h2' v' (.int .i64 (G.nodes.getD m zeroN).gate) (.bool true) (.bool true) (by simp [e]) a2 (by rw [hgo, intsA, List.map_append]; exact a1)
      rw [e2] at this
      simp only [sim, List.length_cons, List.length_nil, Nat.reduceAdd, Nat.reduceSub, List.replicate, List.cons_append, List.nil_append, List.map_cons, List.map_nil, Option.bind_some, Option.map_some, Option.bind_none, Option.map_none, if_true, if_false, decide_true, decide_false, Bool.false_eq_true, Bool.true_eq_false, Bool.not_true, Bool.not_false, reduceCtorEq, Bool.and_true, Bool.true_and, Bool.and_false, Bool.false_and, Bool.or_true, Bool.true_or, Bool.or_false, Bool.false_or, true_and, and_true, false_and, and_false, List.take_zero, List.take_succ_cons, List.drop_zero, List.drop_succ_cons, List.take_nil, List.drop_nil, List.set_cons_zero, List.set_cons_succ, Nat.reduceLeDiff, Nat.reduceLT, Nat.zero_add, Nat.lt_add_one, Nat.le_refl, clearA, Int.toNat_natCast, hw.len, hw.fits, List.length_map, hlt, hix, hix2, h1, nodeS, h0, hwr, e1, this]
    · have hgo : gatesOf ((pre ++ [(m : Int)]).map G.at_) = gatesOf (pre.map G.at_) := by
        rw [List.map_append, gatesOf, List.filter_append, List.map_append]
        simp only [List.map_cons, List.map_nil, hat, List.filter_cons, h0, decide_false, Bool.false_eq_true, if_false, List.filter_nil, List.append_nil]
        rfl
      have := ih (pre ++ [(m : Int)]) h' v (.int .i64 (G.nodes.getD m zeroN).gate) (.bool true) (.bool false) (by simp [e]) hg (by rw [hgo]; exact ha)
      rw [e2] at this
      simp only [sim, List.length_cons, List.length_nil, Nat.reduceAdd, Nat.reduceSub, List.replicate, List.cons_append, List.nil_append, List.map_cons, List.map_nil, Option.bind_some, Option.map_some, Option.bind_none, Option.map_none, if_true, if_false, decide_true, decide_false, Bool.false_eq_true, Bool.true_eq_false, Bool.not_true, Bool.not_false, reduceCtorEq, Bool.and_true, Bool.true_and, Bool.and_false, Bool.false_and, Bool.or_true, Bool.true_or, Bool.or_false, Bool.false_or, true_and, and_true, false_and, and_false, List.take_zero, List.take_succ_cons, List.drop_zero, List.drop_succ_cons, List.take_nil, List.drop_nil, List.set_cons_zero, List.set_cons_succ, Nat.reduceLeDiff, Nat.reduceLT, Nat.zero_add, Nat.lt_add_one, Nat.le_refl, clearA, Int.toNat_natCast, hw.len, hw.fits, List.length_map, hlt, hix, hix2, h1, nodeS, h0, hwr, this]
theorem n_Gates (g : IsG h F J b G) (hW : G.Wf) (i : Int) : runF Try.prog po 43 [.ptr b 0 0, .int .i64 i] h = some (.inl (lstA 3 (intsA (G.gatesC i))), h) := by
  refine runF_R fn_nGates rfl ?_; unfold rc_nGates
  have hl := isL_lst 3 (intsA (G.way i))
  have hloop := nGates_loop g hW (G.way i) (lstA 3 (intsA (G.way i))) hl (by have := GraphD.way_few hW i; omega) (GraphD.way_has i) (.int .i64 i) (G.way i) [] h .nils .junk .junk .junk rfl (GrewA.refl h) (acc_nil _ _ _)
  simp only [List.length_nil, Int.natCast_zero] at hloop
  rw [GraphD.way_path] at hloop
  simp only [sim, List.length_cons, List.length_nil, Nat.reduceAdd, Nat.reduceSub, List.replicate, List.cons_append, List.nil_append, List.map_cons, List.map_nil, Option.bind_some, Option.map_some, Option.bind_none, Option.map_none, if_true, if_false, decide_true, decide_false, Bool.false_eq_true, Bool.true_eq_false, Bool.not_true, Bool.not_false, reduceCtorEq, Bool.and_true, Bool.true_and, Bool.and_false, Bool.false_and, Bool.or_true, Bool.true_or, Bool.or_false, Bool.false_or, true_and, and_true, false_and, and_false, List.take_zero, List.take_succ_cons, List.drop_zero, List.drop_succ_cons, List.take_nil, List.drop_nil, List.set_cons_zero, List.set_cons_succ, Nat.reduceLeDiff, Nat.reduceLT, Nat.zero_add, Nat.lt_add_one, Nat.le_refl, clearA, Int.toNat_natCast, n_way g hW]
  exact hloop
theorem n_Target (g : IsG h F J b G) (hW : G.Wf) (i : Int) : runF Try.prog po 39 [.ptr b 0 0, .int .i64 i] h = some (.inl (.tup [.agg (nodeA (G.target i).1), .bool (G.target i).2]), h) := by
  refine runF_R fn_nTarget rfl ?_; unfold rc_nTarget
  have hl := isL_lst 3 (intsA (G.way i))
  have hw : ∀ (n : NodeD) (x : Bool), wkA (.tup [.agg (nodeA n), .bool x]) = some (.tup [.agg (nodeA n), .bool x]) := fun n x => rfl
  have hgz := GrewA.push h [[AV.int .i64 0, .int .i64 0, .int .i64 0, .int .i64 0, .int .i64 0, .int .i64 0]]
  have gz := g.grew hgz
  obtain ⟨nv, sv, h1, h2, -⟩ := gz.ex
  have gp := n_way gz hW
  have hg1 : ∀ n : NodeD, GrewA h (h.push [nodeA n]) := fun n => GrewA.push _ _
  rcases List.eq_nil_or_concat (G.way i) with hz | ⟨pre, k, hz⟩
  · have hp : G.path i = [] := by rw [← GraphD.way_path, hz]; rfl
    have ht : G.target i = (zeroN, false) := by simp [GraphD.target, hp]
    rw [ht]
    have hlen : (G.way i).length = 0 := by rw [hz]; rfl
    simp only [sim, List.length_cons, List.length_nil, Nat.reduceAdd, Nat.reduceSub, List.replicate, List.cons_append, List.nil_append, List.map_cons, List.map_nil, Option.bind_some, Option.map_some, Option.bind_none, Option.map_none, if_true, if_false, decide_true, decide_false, Bool.false_eq_true, Bool.true_eq_false, Bool.not_true, Bool.not_false, reduceCtorEq, Bool.and_true, Bool.true_and, Bool.and_false, Bool.false_and, Bool.or_true, Bool.true_or, Bool.or_false, Bool.false_or, true_and, and_true, false_and, and_false, List.take_zero, List.take_succ_cons, List.drop_zero, List.drop_succ_cons, List.take_nil, List.drop_nil, List.set_cons_zero, List.set_cons_succ, Nat.reduceLeDiff, Nat.reduceLT, Nat.zero_add, Nat.lt_add_one, Nat.le_refl, clearA, Int.toNat_natCast, gp, hl.len, hl.fits, List.length_map, hlen, Int.natCast_zero]
    exact fg_yes (hg1 zeroN) (hw zeroN false)
  · rw [List.concat_eq_append] at hz
    have hk := GraphD.way_has i k (by rw [hz]; simp)
    obtain ⟨m, rfl, hm, hm2⟩ := GraphD.node_nat hk
    have ht : G.target i = (G.nodes.getD m zeroN, true) := by
      unfold GraphD.target
      rw [← GraphD.way_path, hz, List.map_append, List.map_singleton]
      have : G.at_ (m : Int) = G.nodes.getD m zeroN := rfl
      rw [this]
      generalize G.nodes.getD m zeroN = n
      simp [List.getLastD_eq_getLast?]
    have hx : ¬ (((pre.length + 1 : Nat) : Int) = 0) := by omega
    have hs : IntKind.wrap .i64 (((pre.length + 1 : Nat) : Int) - 1) = (pre.length : Int) := by rw [w64] <;> (have := GraphD.way_few hW i; rw [hz] at this; simp at this; omega)
    have hix := hl.ix .i64 pre.length [.int .i64 (m : Int)] (by rw [hz]; simp)
    have hix2 := h2.isL.ix .i64 m _ hm2
    rw [ht]
    have hlen : (G.way i).length = pre.length + 1 := by rw [hz]; simp
    simp only [sim, List.length_cons, List.length_nil, Nat.reduceAdd, Nat.reduceSub, List.replicate, List.cons_append, List.nil_append, List.map_cons, List.map_nil, Option.bind_some, Option.map_some, Option.bind_none, Option.map_none, if_true, if_false, decide_true, decide_false, Bool.false_eq_true, Bool.true_eq_false, Bool.not_true, Bool.not_false, reduceCtorEq, Bool.and_true, Bool.true_and, Bool.and_false, Bool.false_and, Bool.or_true, Bool.true_or, Bool.or_false, Bool.false_or, true_and, and_true, false_and, and_false, List.take_zero, List.take_succ_cons, List.drop_zero, List.drop_succ_cons, List.take_nil, List.drop_nil, List.set_cons_zero, List.set_cons_succ, Nat.reduceLeDiff, Nat.reduceLT, Nat.zero_add, Nat.lt_add_one, Nat.le_refl, clearA, Int.toNat_natCast, gp, h1, hl.len, hl.fits, List.length_map, hlen, hx, hs, hix, hix2, nodeS]
    exact fg_yes (hg1 _) (hw _ true)

theorem In_loop (l : List Int) (v : AV) (hv : IsL 3 v (intsA l)) (hl : l.length ≤ 1000) (n : Int) : ∀ (r pre : List Int) (t1 t2 : AV), l = pre ++ r →
    cFR true [.v 2] h (runR (runF Try.prog po) 6 [.lp rc_In_b1, .ss [], .blk 0, .ss [.ops [(.i (.v 2) (.mv (.c (.bool false))))], .ret]] [v, .int .i64 n, .bool false, .int .i64 pre.length, t1, t2] [] h) = some (.inl (.bool (r.contains n)), h) := by
  intro r
  induction r with
  | nil =>
    intro pre t1 t2 e
    rw [r_lpb rc_In_b1.eq_1]
    have hlt : ¬ ((pre.length : Int) < (l.length : Int)) := by rw [e]; simp
    simp only [sim, List.length_cons, List.length_nil, Nat.reduceAdd, Nat.reduceSub, List.replicate, List.cons_append, List.nil_append, List.map_cons, List.map_nil, Option.bind_some, Option.map_some, Option.bind_none, Option.map_none, if_true, if_false, decide_true, decide_false, Bool.false_eq_true, Bool.true_eq_false, Bool.not_true, Bool.not_false, reduceCtorEq, Bool.and_true, Bool.true_and, Bool.and_false, Bool.false_and, Bool.or_true, Bool.true_or, Bool.or_false, Bool.false_or, true_and, and_true, false_and, and_false, List.take_zero, List.take_succ_cons, List.drop_zero, List.drop_succ_cons, List.take_nil, List.drop_nil, List.set_cons_zero, List.set_cons_succ, Nat.reduceLeDiff, Nat.reduceLT, Nat.zero_add, Nat.lt_add_one, Nat.le_refl, clearA, Int.toNat_natCast, hv.len, hv.fits, List.length_map, hlt]
    rfl
  | cons i r ih =>
    intro pre t1 t2 e
    rw [r_lpb rc_In_b1.eq_1]
    have hlt : (pre.length : Int) < (l.length : Int) := by rw [e]; simp; omega
    have hix := hv.ix .i64 pre.length [.int .i64 i] (by rw [e]; simp)
    have hwr := w64 (n := (pre.length : Int) + 1) (by omega) (by omega)
    have e2 : ((pre ++ [i]).length : Int) = (pre.length : Int) + 1 := by simp
    cases hd : decide (i = n)
    · have := ih (pre ++ [i]) (.bool true) (.bool false) (by simp [e])
      rw [e2] at this
      have hc : (i :: r).contains n = r.contains n := by
        have : ¬ n = i := fun x => by simp [x] at hd
        simp [List.contains_cons, this]
      simp only [sim, List.length_cons, List.length_nil, Nat.reduceAdd, Nat.reduceSub, List.replicate, List.cons_append, List.nil_append, List.map_cons, List.map_nil, Option.bind_some, Option.map_some, Option.bind_none, Option.map_none, if_true, if_false, decide_true, decide_false, Bool.false_eq_true, Bool.true_eq_false, Bool.not_true, Bool.not_false, reduceCtorEq, Bool.and_true, Bool.true_and, Bool.and_false, Bool.false_and, Bool.or_true, Bool.true_or, Bool.or_false, Bool.false_or, true_and, and_true, false_and, and_false, List.take_zero, List.take_succ_cons, List.drop_zero, List.drop_succ_cons, List.take_nil, List.drop_nil, List.set_cons_zero, List.set_cons_succ, Nat.reduceLeDiff, Nat.reduceLT, Nat.zero_add, Nat.lt_add_one, Nat.le_refl, clearA, Int.toNat_natCast, hv.len, hv.fits, List.length_map, hlt, hix, hd, hwr, this, hc]
    · have hc : (i :: r).contains n = true := by
        have : i = n := by simpa using hd
        simp [this]
      simp only [sim, List.length_cons, List.length_nil, Nat.reduceAdd, Nat.reduceSub, List.replicate, List.cons_append, List.nil_append, List.map_cons, List.map_nil, Option.bind_some, Option.map_some, Option.bind_none, Option.map_none, if_true, if_false, decide_true, decide_false, Bool.false_eq_true, Bool.true_eq_false, Bool.not_true, Bool.not_false, reduceCtorEq, Bool.and_true, Bool.true_and, Bool.and_false, Bool.false_and, Bool.or_true, Bool.true_or, Bool.or_false, Bool.false_or, true_and, and_true, false_and, and_false, List.take_zero, List.take_succ_cons, List.drop_zero, List.drop_succ_cons, List.take_nil, List.drop_nil, List.set_cons_zero, List.set_cons_succ, Nat.reduceLeDiff, Nat.reduceLT, Nat.zero_add, Nat.lt_add_one, Nat.le_refl, clearA, Int.toNat_natCast, hv.len, hv.fits, List.length_map, hlt, hix, hd, hc]
theorem r_In (l : List Int) (v : AV) (hv : IsL 3 v (intsA l)) (hl : l.length ≤ 1000) (n : Int) : runF Try.prog po 49 [v, .int .i64 n] h = some (.inl (.bool (l.contains n)), h) := by
  refine runF_R fn_In rfl ?_; unfold rc_In
  have := In_loop (h := h) l v hv hl n l [] .junk .junk rfl
  simp only [List.length_nil, Int.natCast_zero] at this
  simp only [sim, List.length_cons, List.length_nil, Nat.reduceAdd, Nat.reduceSub, List.replicate, List.cons_append, List.nil_append, List.map_cons, List.map_nil, Option.bind_some, Option.map_some, Option.bind_none, Option.map_none, if_true, if_false, decide_true, decide_false, Bool.false_eq_true, Bool.true_eq_false, Bool.not_true, Bool.not_false, reduceCtorEq, Bool.and_true, Bool.true_and, Bool.and_false, Bool.false_and, Bool.or_true, Bool.true_or, Bool.or_false, Bool.false_or, true_and, and_true, false_and, and_false, List.take_zero, List.take_succ_cons, List.drop_zero, List.drop_succ_cons, List.take_nil, List.drop_nil, List.set_cons_zero, List.set_cons_succ, Nat.reduceLeDiff, Nat.reduceLT, Nat.zero_add, Nat.lt_add_one, Nat.le_refl, clearA, Int.toNat_natCast]
  exact this
end
end Go.Proofs.Ytacocolcighomaa
