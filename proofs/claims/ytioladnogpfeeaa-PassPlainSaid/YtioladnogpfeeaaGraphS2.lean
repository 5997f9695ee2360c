/- Graph in the plain model: rights, targets, gates, nodes. -/
import Derived.Test.YtioladnogpfeeaaGraphS
import Derived.Test.YtioladnogpfeeaaCRights
namespace Go.Proofs.Ytioladnogpfeeaa
set_option linter.unusedSimpArgs false
set_option linter.unusedVariables false
open Go

section
variable {h : AH} {F J : Nat → Prop} {b : Nat} {G : GraphD}

theorem r_Meet (x y : Int) : runF Try.prog po 53 [.int .i64 x, .int .i64 y] h = some (.inl (.int .i64 (meetI x y)), h) := by
  refine runF_R fn_rMeet rfl ?_; unfold rc_rMeet
  simp only [sim, List.length_cons, List.length_nil, Nat.reduceAdd, Nat.reduceSub, List.replicate, List.cons_append, List.nil_append, List.map_cons, List.map_nil, Option.bind_some, Option.map_some, Option.bind_none, Option.map_none, if_true, if_false, decide_true, decide_false, Bool.false_eq_true, Bool.true_eq_false, Bool.not_true, Bool.not_false, reduceCtorEq, Bool.and_true, Bool.true_and, Bool.and_false, Bool.false_and, Bool.or_true, Bool.true_or, Bool.or_false, Bool.false_or, true_and, and_true, false_and, and_false, List.take_zero, List.take_succ_cons, List.drop_zero, List.drop_succ_cons, List.take_nil, List.drop_nil, List.set_cons_zero, List.set_cons_succ, Nat.reduceLeDiff, Nat.reduceLT, Nat.zero_add, Nat.lt_add_one, Nat.le_refl, clearA, Int.toNat_natCast]
  rfl
theorem r_Check (x : Int) : runF Try.prog po 92 [.int .i64 x] h = some (.inl (.bool (checkI x)), h) := by
  refine runF_R fn_rCheck rfl ?_; unfold rc_rCheck
  by_cases h0 : 0 ≤ x <;> simp only [sim, List.length_cons, List.length_nil, Nat.reduceAdd, Nat.reduceSub, List.replicate, List.cons_append, List.nil_append, List.map_cons, List.map_nil, Option.bind_some, Option.map_some, Option.bind_none, Option.map_none, if_true, if_false, decide_true, decide_false, Bool.false_eq_true, Bool.true_eq_false, Bool.not_true, Bool.not_false, reduceCtorEq, Bool.and_true, Bool.true_and, Bool.and_false, Bool.false_and, Bool.or_true, Bool.true_or, Bool.or_false, Bool.false_or, true_and, and_true, false_and, and_false, List.take_zero, List.take_succ_cons, List.drop_zero, List.drop_succ_cons, List.take_nil, List.drop_nil, List.set_cons_zero, List.set_cons_succ, Nat.reduceLeDiff, Nat.reduceLT, Nat.zero_add, Nat.lt_add_one, Nat.le_refl, clearA, Int.toNat_natCast, h0, checkI]
theorem w_Has (x : Int) : runF Try.prog po 69 [.int .i64 x] h = some (.inl (.bool (isCell x)), h) := by
  refine runF_R fn_wHas rfl ?_; unfold rc_wHas
  by_cases h0 : 0 ≤ x <;> simp only [sim, List.length_cons, List.length_nil, Nat.reduceAdd, Nat.reduceSub, List.replicate, List.cons_append, List.nil_append, List.map_cons, List.map_nil, Option.bind_some, Option.map_some, Option.bind_none, Option.map_none, if_true, if_false, decide_true, decide_false, Bool.false_eq_true, Bool.true_eq_false, Bool.not_true, Bool.not_false, reduceCtorEq, Bool.and_true, Bool.true_and, Bool.and_false, Bool.false_and, Bool.or_true, Bool.true_or, Bool.or_false, Bool.false_or, true_and, and_true, false_and, and_false, List.take_zero, List.take_succ_cons, List.drop_zero, List.drop_succ_cons, List.take_nil, List.drop_nil, List.set_cons_zero, List.set_cons_succ, Nat.reduceLeDiff, Nat.reduceLT, Nat.zero_add, Nat.lt_add_one, Nat.le_refl, clearA, Int.toNat_natCast, h0, isCell]

def rightsFrom (G : GraphD) : Bool → Int → List NodeD → Int
  | _, r, [] => r
  | first, r, n :: l => if closedOn G n then 0 else rightsFrom G false (meetI (if first then 15 else r) n.rights) l
theorem rightsFrom_fold (G : GraphD) : ∀ (l : List NodeD) (r : Int), rightsFrom G false r l = if l.any (closedOn G) then 0 else l.foldl (fun r n => meetI r n.rights) r
  | [], r => rfl
  | n :: l, r => by
    simp only [rightsFrom, List.any_cons, List.foldl_cons, Bool.false_eq_true, if_false]
    rw [rightsFrom_fold G l]
    by_cases hc : closedOn G n = true <;> simp [hc]
theorem rightsFrom_eq (G : GraphD) (i : Int) : rightsFrom G true 0 (G.path i) = G.rights i := by
  unfold GraphD.rights
  cases hp : G.path i with
  | nil => simp [rightsFrom]
  | cons n l =>
    simp only [rightsFrom, if_true, rightsFrom_fold, reduceCtorEq, false_or, List.any_cons, List.foldl_cons]
    cases hc : closedOn G n <;> simp

theorem gRights_loop (g : IsG h F J b G) (v1 p : AV) (P : List NodeD) (hp : IsL tN p (P.map nodeA)) (hP : P.length ≤ 1000) : ∀ (l pre : List NodeD) (r : Int) (h' : AH) (v4 v5 t1 t2 t3 : AV), P = pre ++ l → GrewA h h' →
    cFR true [.v 2] h (runR (runF Try.prog po) 12 [.lp rc_gRights_b1, .ss [], .blk 0, .ss [.ops [(.i .l (.mv (.v 3))), (.i (.v 2) (.mv (.l 0)))], .ret]] [.ptr b 0 0, v1, .int .i64 0, .int .i64 r, v4, v5, p, .int .i64 P.length, .int .i64 pre.length, t1, t2, t3] [] h') =
      some (.inl (.int .i64 (rightsFrom G pre.isEmpty r l)), h) := by
  intro l
  induction l with
  | nil =>
    intro pre r h' v4 v5 t1 t2 t3 e hg
    rw [r_lpb rc_gRights_b1.eq_1]
    have : ¬ ((pre.length : Int) < (P.length : Int)) := by rw [e]; simp
    simp only [sim, List.length_cons, List.length_nil, Nat.reduceAdd, Nat.reduceSub, List.replicate, List.cons_append, List.nil_append, List.map_cons, List.map_nil, Option.bind_some, Option.map_some, Option.bind_none, Option.map_none, if_true, if_false, decide_true, decide_false, Bool.false_eq_true, Bool.true_eq_false, Bool.not_true, Bool.not_false, reduceCtorEq, Bool.and_true, Bool.true_and, Bool.and_false, Bool.false_and, Bool.or_true, Bool.true_or, Bool.or_false, Bool.false_or, true_and, and_true, false_and, and_false, List.take_zero, List.take_succ_cons, List.drop_zero, List.drop_succ_cons, List.take_nil, List.drop_nil, List.set_cons_zero, List.set_cons_succ, Nat.reduceLeDiff, Nat.reduceLT, Nat.zero_add, Nat.lt_add_one, Nat.le_refl, clearA, Int.toNat_natCast, this, rightsFrom, fg_yes hg (rfl : wkA (.int .i64 r) = _)]
  | cons n l ih =>
    intro pre r h' v4 v5 t1 t2 t3 e hg
    rw [r_lpb rc_gRights_b1.eq_1]
    have hlt : (pre.length : Int) < (P.length : Int) := by rw [e]; simp; omega
    have hix := hp.ix .i64 pre.length (nodeA n) (by rw [e]; simp)
    have hg2 : GrewA h (h'.push [nodeA n]) := hg.trans (GrewA.push _ _)
    have hw := w64 (n := (pre.length : Int) + 1) (by omega) (by omega)
    have gO := g_Open (g.grew hg2)
    have hemp : pre.isEmpty = decide ((pre.length : Int) = 0) := by cases pre <;> simp <;> omega
    have fin : ∀ (r' : Int) (v4 v5 t1 t2 t3 : AV), cFR true [.v 2] h (runR (runF Try.prog po) 12 [.lp rc_gRights_b1, .ss [], .blk 0, .ss [.ops [(.i .l (.mv (.v 3))), (.i (.v 2) (.mv (.l 0)))], .ret]] [.ptr b 0 0, v1, .int .i64 0, .int .i64 r', v4, v5, p, .int .i64 P.length, .int .i64 ((pre.length : Int) + 1), t1, t2, t3] [] (h'.push [nodeA n])) = some (.inl (.int .i64 (rightsFrom G false r' l)), h) := by
      intro r' v4 v5 t1 t2 t3
      have := ih (pre ++ [n]) r' (h'.push [nodeA n]) v4 v5 t1 t2 t3 (by simp [e]) hg2
      have e1 : (pre ++ [n]).isEmpty = false := by cases pre <;> rfl
      have e2 : ((pre ++ [n]).length : Int) = (pre.length : Int) + 1 := by simp
      rw [e1, e2] at this
      exact this
    by_cases h0 : 0 ≤ n.gate
    · cases hO : G.isOpen n.gate
      · have hc : closedOn G n = true := by simp [closedOn, h0, hO]
        simp only [sim, List.length_cons, List.length_nil, Nat.reduceAdd, Nat.reduceSub, List.replicate, List.cons_append, List.nil_append, List.map_cons, List.map_nil, Option.bind_some, Option.map_some, Option.bind_none, Option.map_none, if_true, if_false, decide_true, decide_false, Bool.false_eq_true, Bool.true_eq_false, Bool.not_true, Bool.not_false, reduceCtorEq, Bool.and_true, Bool.true_and, Bool.and_false, Bool.false_and, Bool.or_true, Bool.true_or, Bool.or_false, Bool.false_or, true_and, and_true, false_and, and_false, List.take_zero, List.take_succ_cons, List.drop_zero, List.drop_succ_cons, List.take_nil, List.drop_nil, List.set_cons_zero, List.set_cons_succ, Nat.reduceLeDiff, Nat.reduceLT, Nat.zero_add, Nat.lt_add_one, Nat.le_refl, clearA, Int.toNat_natCast, hlt, hix, nodeS, h0, gO, hO, rightsFrom, hc, fg_yes hg2 (rfl : wkA (.int .i64 0) = _)]
      · have hc : closedOn G n = false := by simp [closedOn, hO]
        cases hz : decide ((pre.length : Int) = 0) <;> simp only [sim, List.length_cons, List.length_nil, Nat.reduceAdd, Nat.reduceSub, List.replicate, List.cons_append, List.nil_append, List.map_cons, List.map_nil, Option.bind_some, Option.map_some, Option.bind_none, Option.map_none, if_true, if_false, decide_true, decide_false, Bool.false_eq_true, Bool.true_eq_false, Bool.not_true, Bool.not_false, reduceCtorEq, Bool.and_true, Bool.true_and, Bool.and_false, Bool.false_and, Bool.or_true, Bool.true_or, Bool.or_false, Bool.false_or, true_and, and_true, false_and, and_false, List.take_zero, List.take_succ_cons, List.drop_zero, List.drop_succ_cons, List.take_nil, List.drop_nil, List.set_cons_zero, List.set_cons_succ, Nat.reduceLeDiff, Nat.reduceLT, Nat.zero_add, Nat.lt_add_one, Nat.le_refl, clearA, Int.toNat_natCast, hlt, hix, nodeS, h0, gO, hO, rightsFrom, hc, r_Meet, hw, hz, hemp, fin]
    · have hc : closedOn G n = false := by simp [closedOn, h0]
      cases hz : decide ((pre.length : Int) = 0) <;> simp only [sim, List.length_cons, List.length_nil, Nat.reduceAdd, Nat.reduceSub, List.replicate, List.cons_append, List.nil_append, List.map_cons, List.map_nil, Option.bind_some, Option.map_some, Option.bind_none, Option.map_none, if_true, if_false, decide_true, decide_false, Bool.false_eq_true, Bool.true_eq_false, Bool.not_true, Bool.not_false, reduceCtorEq, Bool.and_true, Bool.true_and, Bool.and_false, Bool.false_and, Bool.or_true, Bool.true_or, Bool.or_false, Bool.false_or, true_and, and_true, false_and, and_false, List.take_zero, List.take_succ_cons, List.drop_zero, List.drop_succ_cons, List.take_nil, List.drop_nil, List.set_cons_zero, List.set_cons_succ, Nat.reduceLeDiff, Nat.reduceLT, Nat.zero_add, Nat.lt_add_one, Nat.le_refl, clearA, Int.toNat_natCast, hlt, hix, nodeS, h0, gO, rightsFrom, hc, r_Meet, hw, hz, hemp, fin]
theorem g_Rights (g : IsG h F J b G) (hW : G.Wf) (i : Int) : runF Try.prog po 26 [.ptr b 0 0, .int .i64 i] h = some (.inl (.int .i64 (G.rights i)), h) := by
  refine runF_R fn_gRights rfl ?_; unfold rc_gRights
  have hl := isL_lst tN ((G.path i).map nodeA)
  have hloop := gRights_loop g (.int .i64 i) (lstA tN ((G.path i).map nodeA)) (G.path i) hl (by have := GraphD.path_few hW i; omega) (G.path i) [] 0 h .junk .junk .junk .junk .junk rfl (GrewA.refl h)
  simp only [List.length_nil, Int.natCast_zero, List.isEmpty_nil, rightsFrom_eq] at hloop
  simp only [sim, List.length_cons, List.length_nil, Nat.reduceAdd, Nat.reduceSub, List.replicate, List.cons_append, List.nil_append, List.map_cons, List.map_nil, Option.bind_some, Option.map_some, Option.bind_none, Option.map_none, if_true, if_false, decide_true, decide_false, Bool.false_eq_true, Bool.true_eq_false, Bool.not_true, Bool.not_false, reduceCtorEq, Bool.and_true, Bool.true_and, Bool.and_false, Bool.false_and, Bool.or_true, Bool.true_or, Bool.or_false, Bool.false_or, true_and, and_true, false_and, and_false, List.take_zero, List.take_succ_cons, List.drop_zero, List.drop_succ_cons, List.take_nil, List.drop_nil, List.set_cons_zero, List.set_cons_succ, Nat.reduceLeDiff, Nat.reduceLT, Nat.zero_add, Nat.lt_add_one, Nat.le_refl, clearA, Int.toNat_natCast, g_path g hW, hl.len, hl.fits, List.length_map]
  exact hloop
theorem cloneN_run (id : Option Nat) (rows : List (List AV)) (hf : ∀ r ∈ rows, r.all AV.one = true ∧ r.all flatA = true) (hl : rows.length ≤ 1000) :
    runF Try.prog po 62 [.isl id tN rows] h = some (.inl (.isl none tN rows), h) := by
  refine runF_R fn_cloneN rfl ?_; unfold rc_cloneN
  have e1 : appendA false tN (.isl (some h.ids) tN []) (.isl id tN rows) (h.fresh 0) = some (.isl (some h.ids) tN rows, if rows.length = 0 then h.fresh 0 else (h.fresh 0).grow h.ids rows.length) := by
    simp only [appendA, elemsA, if_true, Option.bind_some]
    by_cases hz : rows.length = 0
    · simp [hz, sameA, List.length_eq_zero_iff.1 hz]
    · rw [if_neg hz, if_neg hz]
      unfold moreA
      rw [if_pos ⟨by omega, by omega, by rw [List.all_eq_true]; exact fun r hr => (hf r hr).1⟩]
      simp [fresh_hw]
  have hg : GrewA h (if rows.length = 0 then h.fresh 0 else (h.fresh 0).grow h.ids rows.length) := by
    split
    · exact GrewA.fresh h 0
    · exact (GrewA.fresh h 0).grow (Nat.le_refl _)
  have hw : wkA (.isl (some h.ids) tN rows) = some (.isl none tN rows) := by
    simp only [wkA, flat_wkR fun r hr => (hf r hr).2, Option.map_some]
  simp only [sim, List.length_cons, List.length_nil, Nat.reduceAdd, Nat.reduceSub, List.replicate, List.cons_append, List.nil_append, List.map_cons, List.map_nil, Option.bind_some, Option.map_some, Option.bind_none, Option.map_none, if_true, if_false, decide_true, decide_false, Bool.false_eq_true, Bool.true_eq_false, Bool.not_true, Bool.not_false, reduceCtorEq, Bool.and_true, Bool.true_and, Bool.and_false, Bool.false_and, Bool.or_true, Bool.true_or, Bool.or_false, Bool.false_or, true_and, and_true, false_and, and_false, List.take_zero, List.take_succ_cons, List.drop_zero, List.drop_succ_cons, List.take_nil, List.drop_nil, List.set_cons_zero, List.set_cons_succ, Nat.reduceLeDiff, Nat.reduceLT, Nat.zero_add, Nat.lt_add_one, Nat.le_refl, clearA, Int.toNat_natCast, e1, fg_yes hg hw]
theorem cloneN_nil : runF Try.prog po 62 [.nils] h = some (.inl .nils, h) := by
  refine runF_R fn_cloneN rfl ?_; unfold rc_cloneN
  simp only [sim, List.length_cons, List.length_nil, Nat.reduceAdd, Nat.reduceSub, List.replicate, List.cons_append, List.nil_append, List.map_cons, List.map_nil, Option.bind_some, Option.map_some, Option.bind_none, Option.map_none, if_true, if_false, decide_true, decide_false, Bool.false_eq_true, Bool.true_eq_false, Bool.not_true, Bool.not_false, reduceCtorEq, Bool.and_true, Bool.true_and, Bool.and_false, Bool.false_and, Bool.or_true, Bool.true_or, Bool.or_false, Bool.false_or, true_and, and_true, false_and, and_false, List.take_zero, List.take_succ_cons, List.drop_zero, List.drop_succ_cons, List.take_nil, List.drop_nil, List.set_cons_zero, List.set_cons_succ, Nat.reduceLeDiff, Nat.reduceLT, Nat.zero_add, Nat.lt_add_one, Nat.le_refl, clearA, Int.toNat_natCast]
  exact fg_yes (GrewA.refl h) rfl
theorem g_Nodes (g : IsG h F J b G) (hW : G.Wf) : runF Try.prog po 33 [.ptr b 0 0] h = some (.inl (lstA tN (G.nodes.map nodeA)), h) := by
  obtain ⟨nv, sv, h1, h2, -⟩ := g.ex
  refine runF_R fn_gNodes rfl ?_; unfold rc_gNodes
  rcases h2 with ⟨e1, rfl⟩ | ⟨id, _, e0, _, _, rfl⟩
  · simp only [sim, List.length_cons, List.length_nil, Nat.reduceAdd, Nat.reduceSub, List.replicate, List.cons_append, List.nil_append, List.map_cons, List.map_nil, Option.bind_some, Option.map_some, Option.bind_none, Option.map_none, if_true, if_false, decide_true, decide_false, Bool.false_eq_true, Bool.true_eq_false, Bool.not_true, Bool.not_false, reduceCtorEq, Bool.and_true, Bool.true_and, Bool.and_false, Bool.false_and, Bool.or_true, Bool.true_or, Bool.or_false, Bool.false_or, true_and, and_true, false_and, and_false, List.take_zero, List.take_succ_cons, List.drop_zero, List.drop_succ_cons, List.take_nil, List.drop_nil, List.set_cons_zero, List.set_cons_succ, Nat.reduceLeDiff, Nat.reduceLT, Nat.zero_add, Nat.lt_add_one, Nat.le_refl, clearA, Int.toNat_natCast, h1, cloneN_nil]
    rw [e1]
    exact fg_yes (GrewA.refl h) rfl
  · have hc := cloneN_run (h := h) (some id) (G.nodes.map nodeA) (fun r hr => ⟨by obtain ⟨n, _, rfl⟩ := List.mem_map.1 hr; rfl, nodes_flat _ r hr⟩) (by have := hW.few; simp; omega)
    have hw : wkA (.isl none tN (G.nodes.map nodeA)) = some (lstA tN (G.nodes.map nodeA)) := by
      simp only [wkA, flat_wkR (nodes_flat _), Option.map_some, lstA, if_neg e0]
    simp only [sim, List.length_cons, List.length_nil, Nat.reduceAdd, Nat.reduceSub, List.replicate, List.cons_append, List.nil_append, List.map_cons, List.map_nil, Option.bind_some, Option.map_some, Option.bind_none, Option.map_none, if_true, if_false, decide_true, decide_false, Bool.false_eq_true, Bool.true_eq_false, Bool.not_true, Bool.not_false, reduceCtorEq, Bool.and_true, Bool.true_and, Bool.and_false, Bool.false_and, Bool.or_true, Bool.true_or, Bool.or_false, Bool.false_or, true_and, and_true, false_and, and_false, List.take_zero, List.take_succ_cons, List.drop_zero, List.drop_succ_cons, List.take_nil, List.drop_nil, List.set_cons_zero, List.set_cons_succ, Nat.reduceLeDiff, Nat.reduceLT, Nat.zero_add, Nat.lt_add_one, Nat.le_refl, clearA, Int.toNat_natCast, h1, hc, fg_yes (GrewA.refl h) hw]

theorem g_Target (g : IsG h F J b G) (hW : G.Wf) (i : Int) : runF Try.prog po 24 [.ptr b 0 0, .int .i64 i] h = some (.inl (.tup [.agg (nodeA (G.target i).1), .bool (G.target i).2]), h) := by
  refine runF_R fn_gTarget rfl ?_; unfold rc_gTarget
  have hl := isL_lst tN ((G.path i).map nodeA)
  have hw : ∀ (n : NodeD) (x : Bool), wkA (.tup [.agg (nodeA n), .bool x]) = some (.tup [.agg (nodeA n), .bool x]) := fun n x => rfl
  have gp := g_path (g.grew (GrewA.push h [[.int .i64 0, .int .i64 0, .int .i64 0, .int .i64 0, .int .i64 0, .int .i64 0]])) hW
  have hg1 : ∀ n : NodeD, GrewA h (h.push [nodeA n]) := fun n => GrewA.push _ _
  have hd : ∀ m : Nat, IntKind.wrap .i64 (m : Int) = m → True := fun _ _ => trivial
  rcases List.eq_nil_or_concat (G.path i) with hz | ⟨pre, n, hz⟩
  · have ht : G.target i = (zeroN, false) := by simp [GraphD.target, hz]
    rw [ht]
    have hlen : (G.path i).length = 0 := by rw [hz]; rfl
    simp only [sim, List.length_cons, List.length_nil, Nat.reduceAdd, Nat.reduceSub, List.replicate, List.cons_append, List.nil_append, List.map_cons, List.map_nil, Option.bind_some, Option.map_some, Option.bind_none, Option.map_none, if_true, if_false, decide_true, decide_false, Bool.false_eq_true, Bool.true_eq_false, Bool.not_true, Bool.not_false, reduceCtorEq, Bool.and_true, Bool.true_and, Bool.and_false, Bool.false_and, Bool.or_true, Bool.true_or, Bool.or_false, Bool.false_or, true_and, and_true, false_and, and_false, List.take_zero, List.take_succ_cons, List.drop_zero, List.drop_succ_cons, List.take_nil, List.drop_nil, List.set_cons_zero, List.set_cons_succ, Nat.reduceLeDiff, Nat.reduceLT, Nat.zero_add, Nat.lt_add_one, Nat.le_refl, clearA, Int.toNat_natCast, gp, hl.len, hl.fits, List.length_map, hlen, Int.natCast_zero]
    exact fg_yes (hg1 zeroN) (hw zeroN false)
  · rw [List.concat_eq_append] at hz
    have ht : G.target i = (n, true) := by
      unfold GraphD.target
      rw [hz]
      simp [List.getLastD_eq_getLast?]
    have hx : ¬ (((pre.length + 1 : Nat) : Int) = 0) := by omega
    have hs : IntKind.wrap .i64 (((pre.length + 1 : Nat) : Int) - 1) = (pre.length : Int) := by rw [w64] <;> (have := GraphD.path_few hW i; rw [hz] at this; simp at this; omega)
    have hix := hl.ix .i64 pre.length (nodeA n) (by rw [hz]; simp)
    rw [ht]
    have hlen : (G.path i).length = pre.length + 1 := by rw [hz]; simp
    simp only [sim, List.length_cons, List.length_nil, Nat.reduceAdd, Nat.reduceSub, List.replicate, List.cons_append, List.nil_append, List.map_cons, List.map_nil, Option.bind_some, Option.map_some, Option.bind_none, Option.map_none, if_true, if_false, decide_true, decide_false, Bool.false_eq_true, Bool.true_eq_false, Bool.not_true, Bool.not_false, reduceCtorEq, Bool.and_true, Bool.true_and, Bool.and_false, Bool.false_and, Bool.or_true, Bool.true_or, Bool.or_false, Bool.false_or, true_and, and_true, false_and, and_false, List.take_zero, List.take_succ_cons, List.drop_zero, List.drop_succ_cons, List.take_nil, List.drop_nil, List.set_cons_zero, List.set_cons_succ, Nat.reduceLeDiff, Nat.reduceLT, Nat.zero_add, Nat.lt_add_one, Nat.le_refl, clearA, Int.toNat_natCast, gp, hl.len, hl.fits, List.length_map, hlen, hx, hs, hix, nodeS]
    exact fg_yes (hg1 n) (hw n true)

theorem gGates_loop (p : AV) (P : List NodeD) (hp : IsL tN p (P.map nodeA)) (hP : P.length ≤ 1000) (v0 v1 : AV) : ∀ (l pre : List NodeD) (h' : AH) (v v4 t1 t2 : AV), P = pre ++ l → GrewA h h' → Acc h h' 3 v ((gatesOf pre).map fun x => [.int .i64 x]) →
    cFR true [.v 2] h (runR (runF Try.prog po) 10 [.lp rc_gGates_b1, .ss [], .blk 0, .ss [.ops [(.i .l (.mv (.v 3))), (.i (.v 2) (.mv (.l 0)))], .ret]] [v0, v1, .nils, v, v4, p, .int .i64 P.length, .int .i64 pre.length, t1, t2] [] h') =
      some (.inl (lstA 3 ((gatesOf P).map fun x => [.int .i64 x])), h) := by
  intro l
  induction l with
  | nil =>
    intro pre h' v v4 t1 t2 e hg ha
    rw [r_lpb rc_gGates_b1.eq_1]
    have hlt : ¬ ((pre.length : Int) < (P.length : Int)) := by rw [e]; simp
    rw [List.append_nil] at e
    rw [← e] at ha
    simp only [sim, List.length_cons, List.length_nil, Nat.reduceAdd, Nat.reduceSub, List.replicate, List.cons_append, List.nil_append, List.map_cons, List.map_nil, Option.bind_some, Option.map_some, Option.bind_none, Option.map_none, if_true, if_false, decide_true, decide_false, Bool.false_eq_true, Bool.true_eq_false, Bool.not_true, Bool.not_false, reduceCtorEq, Bool.and_true, Bool.true_and, Bool.and_false, Bool.false_and, Bool.or_true, Bool.true_or, Bool.or_false, Bool.false_or, true_and, and_true, false_and, and_false, List.take_zero, List.take_succ_cons, List.drop_zero, List.drop_succ_cons, List.take_nil, List.drop_nil, List.set_cons_zero, List.set_cons_succ, Nat.reduceLeDiff, Nat.reduceLT, Nat.zero_add, Nat.lt_add_one, Nat.le_refl, clearA, Int.toNat_natCast, hlt, fg_yes hg (acc_wk ha (ints_flat _))]
  | cons n l ih =>
    intro pre h' v v4 t1 t2 e hg ha
    rw [r_lpb rc_gGates_b1.eq_1]
    have hlt : (pre.length : Int) < (P.length : Int) := by rw [e]; simp; omega
    have hix := hp.ix .i64 pre.length (nodeA n) (by rw [e]; simp)
    have hg2 : GrewA h (h'.push [nodeA n]) := hg.trans (GrewA.push _ _)
    have hw := w64 (n := (pre.length : Int) + 1) (by omega) (by omega)
    have e2 : ((pre ++ [n]).length : Int) = (pre.length : Int) + 1 := by simp
    have hfew : ((gatesOf pre).map fun x => [AV.int .i64 x]).length ≤ 1000000 := by
      have := List.length_filter_le (fun n : NodeD => decide (0 ≤ n.gate)) pre
      have h2 : pre.length ≤ P.length := by rw [e]; simp
      simp [gatesOf]; omega
    by_cases h0 : 0 ≤ n.gate
    · have hgo : gatesOf (pre ++ [n]) = gatesOf pre ++ [n.gate] := by simp [gatesOf, h0]
      have ha2 : Acc h (h'.push [nodeA n]) 3 v ((gatesOf pre).map fun x => [.int .i64 x]) := ha
      obtain ⟨v', h2', e1, a1, a2, a3, a4⟩ := acc_app ha2 hg2 (row := [.int .i64 n.gate]) rfl hfew
      simp only [push_ids] at e1
      have := ih (pre ++ [n]) h2' v' (.ptr h'.n 0 0) (.bool true) (.bool true) (by simp [e]) a2 (by rw [hgo, List.map_append]; exact a1)
      rw [e2] at this
      simp only [sim, List.length_cons, List.length_nil, Nat.reduceAdd, Nat.reduceSub, List.replicate, List.cons_append, List.nil_append, List.map_cons, List.map_nil, Option.bind_some, Option.map_some, Option.bind_none, Option.map_none, if_true, if_false, decide_true, decide_false, Bool.false_eq_true, Bool.true_eq_false, Bool.not_true, Bool.not_false, reduceCtorEq, Bool.and_true, Bool.true_and, Bool.and_false, Bool.false_and, Bool.or_true, Bool.true_or, Bool.or_false, Bool.false_or, true_and, and_true, false_and, and_false, List.take_zero, List.take_succ_cons, List.drop_zero, List.drop_succ_cons, List.take_nil, List.drop_nil, List.set_cons_zero, List.set_cons_succ, Nat.reduceLeDiff, Nat.reduceLT, Nat.zero_add, Nat.lt_add_one, Nat.le_refl, clearA, Int.toNat_natCast, hlt, hix, nodeS, h0, hw, e1, this]
    · have hgo : gatesOf (pre ++ [n]) = gatesOf pre := by simp [gatesOf, h0]
      have ha2 : Acc h (h'.push [nodeA n]) 3 v ((gatesOf pre).map fun x => [.int .i64 x]) := ha
      have := ih (pre ++ [n]) (h'.push [nodeA n]) v (.ptr h'.n 0 0) (.bool true) (.bool false) (by simp [e]) hg2 (by rw [hgo]; exact ha2)
      rw [e2] at this
      simp only [sim, List.length_cons, List.length_nil, Nat.reduceAdd, Nat.reduceSub, List.replicate, List.cons_append, List.nil_append, List.map_cons, List.map_nil, Option.bind_some, Option.map_some, Option.bind_none, Option.map_none, if_true, if_false, decide_true, decide_false, Bool.false_eq_true, Bool.true_eq_false, Bool.not_true, Bool.not_false, reduceCtorEq, Bool.and_true, Bool.true_and, Bool.and_false, Bool.false_and, Bool.or_true, Bool.true_or, Bool.or_false, Bool.false_or, true_and, and_true, false_and, and_false, List.take_zero, List.take_succ_cons, List.drop_zero, List.drop_succ_cons, List.take_nil, List.drop_nil, List.set_cons_zero, List.set_cons_succ, Nat.reduceLeDiff, Nat.reduceLT, Nat.zero_add, Nat.lt_add_one, Nat.le_refl, clearA, Int.toNat_natCast, hlt, hix, nodeS, h0, hw, this]
theorem g_Gates (g : IsG h F J b G) (hW : G.Wf) (i : Int) : runF Try.prog po 25 [.ptr b 0 0, .int .i64 i] h = some (.inl (lstA 3 ((G.gatesC i).map fun x => [.int .i64 x])), h) := by
  refine runF_R fn_gGates rfl ?_; unfold rc_gGates
  have hl := isL_lst tN ((G.path i).map nodeA)
  have hloop := gGates_loop (h := h) (lstA tN ((G.path i).map nodeA)) (G.path i) hl (by have := GraphD.path_few hW i; omega) (.ptr b 0 0) (.int .i64 i) (G.path i) [] h .nils .junk .junk .junk rfl (GrewA.refl h) (acc_nil _ _ _)
  simp only [List.length_nil, Int.natCast_zero] at hloop
  simp only [sim, List.length_cons, List.length_nil, Nat.reduceAdd, Nat.reduceSub, List.replicate, List.cons_append, List.nil_append, List.map_cons, List.map_nil, Option.bind_some, Option.map_some, Option.bind_none, Option.map_none, if_true, if_false, decide_true, decide_false, Bool.false_eq_true, Bool.true_eq_false, Bool.not_true, Bool.not_false, reduceCtorEq, Bool.and_true, Bool.true_and, Bool.and_false, Bool.false_and, Bool.or_true, Bool.true_or, Bool.or_false, Bool.false_or, true_and, and_true, false_and, and_false, List.take_zero, List.take_succ_cons, List.drop_zero, List.drop_succ_cons, List.take_nil, List.drop_nil, List.set_cons_zero, List.set_cons_succ, Nat.reduceLeDiff, Nat.reduceLT, Nat.zero_add, Nat.lt_add_one, Nat.le_refl, clearA, Int.toNat_natCast, g_path g hW, hl.len, hl.fits, List.length_map]
  exact hloop
end
end Go.Proofs.Ytioladnogpfeeaa
