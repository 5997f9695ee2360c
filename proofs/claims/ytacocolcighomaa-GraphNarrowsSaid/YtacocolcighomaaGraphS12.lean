/- GraphNarrows in the plain model. -/
import Derived.Test.YtacocolcighomaaGraphS11
namespace Go.Proofs.Ytacocolcighomaa
set_option linter.unusedSimpArgs false
set_option linter.unusedVariables false
open Go

section
variable {hz h : AH} {b : Nat} {G : GraphD}

def rightsL (G : GraphD) (n : Nat) : List Int := (List.range n).map fun (k : Nat) => G.rights (k : Int)
theorem rightsL_succ (G : GraphD) (n : Nat) : rightsL G (n + 1) = rightsL G n ++ [G.rights (n : Int)] := by simp [rightsL, List.range_succ]
theorem rightsL_len (G : GraphD) (n : Nat) : (rightsL G n).length = n := by simp [rightsL]

/-- what was had is noted -/
theorem note_loop (t : One hz h b G) (hW : G.Wf) (v0 v1 v3 v6 v7 v8 v9 v10 v11 v12 v13 v14 v15 v16 v18 v19 v20 v21 : AV) (K : List RK) : ∀ (d k : Nat) (v17 : AV), k + d = G.nodes.length →
    ∃ w5 w17, runR (runF Try.prog po) 22 (.lp rc_GraphNarrows_b2 :: .ss [] :: .blk 2 :: K) [v0, v1, .ptr b 0 0, v3, .msl h.n 0 G.nodes.length 3, .int .i64 (k : Int), v6, v7, v8, v9, v10, v11, v12, v13, v14, v15, v16, v17, v18, v19, v20, v21] [] (h.push (intsA (rightsL G k ++ List.replicate d 0))) =
      runR (runF Try.prog po) 22 K [v0, v1, .ptr b 0 0, v3, .msl h.n 0 G.nodes.length 3, w5, v6, v7, v8, v9, v10, v11, v12, v13, v14, v15, v16, w17, v18, v19, v20, v21] [] (h.push (intsA (rightsL G G.nodes.length))) := by
  have hfew := hW.few
  obtain ⟨F, J, g0⟩ := t.isG
  intro d
  induction d with
  | zero =>
    intro k v17 hk
    have hkn : k = G.nodes.length := by omega
    subst hkn
    refine ⟨.int .i64 (G.nodes.length : Int), .bool false, ?_⟩
    rw [r_lpb rc_GraphNarrows_b2.eq_1]
    simp only [sim, List.length_cons, List.length_nil, Nat.reduceAdd, Nat.reduceSub, List.replicate, List.cons_append, List.nil_append, List.map_cons, List.map_nil, Option.bind_some, Option.map_some, Option.bind_none, Option.map_none, if_true, if_false, decide_true, decide_false, Bool.false_eq_true, Bool.true_eq_false, Bool.not_true, Bool.not_false, reduceCtorEq, Bool.and_true, Bool.true_and, Bool.and_false, Bool.false_and, Bool.or_true, Bool.true_or, Bool.or_false, Bool.false_or, true_and, and_true, false_and, and_false, List.take_zero, List.take_succ_cons, List.drop_zero, List.drop_succ_cons, List.take_nil, List.drop_nil, List.set_cons_zero, List.set_cons_succ, Nat.reduceLeDiff, Nat.reduceLT, Nat.zero_add, Nat.lt_add_one, Nat.le_refl, clearA, Int.toNat_natCast, Int.lt_irrefl, List.append_nil]
  | succ d ih =>
    intro k v17 hk
    have hlt : (k : Int) < (G.nodes.length : Int) := by omega
    have hkl : k < G.nodes.length := by omega
    have hwr := w64 (n := (k : Int) + 1) (by omega) (by omega)
    have e1 : ((k + 1 : Nat) : Int) = (k : Int) + 1 := by omega
    have g := g0.grew (GrewA.push h (intsA (rightsL G k ++ (0 :: List.replicate d 0))))
    have gR := g_Rights g hW (k : Int)
    have hrow : (intsA (rightsL G k ++ (0 :: List.replicate d 0)))[k]? = some [.int .i64 0] := by
      rw [intsA, List.map_append, List.getElem?_append_right (by simp [rightsL_len])]
      simp [rightsL_len]
    have hset : (intsA (rightsL G k ++ (0 :: List.replicate d 0))).set k [.int .i64 (G.rights (k : Int))] = intsA (rightsL G (k + 1) ++ List.replicate d 0) := by
      rw [rightsL_succ, intsA, List.map_append, List.map_cons, List.set_append_right _ _ (by simp [rightsL_len])]
      simp [rightsL_len]
    have hix : ∀ h : AH, ixaR (some 3) none (.msl h.n 0 G.nodes.length 3) (.int .i64 (k : Int)) = some (.ptr h.n k 0) := fun h => by
      rw [ix_msl rfl hkl, Nat.zero_add]
    obtain ⟨w5, w17, r1⟩ := ih (k + 1) (.bool true) (by omega)
    refine ⟨w5, w17, ?_⟩
    rw [e1] at r1
    rw [r_lpb rc_GraphNarrows_b2.eq_1]
    simp only [sim, List.length_cons, List.length_nil, Nat.reduceAdd, Nat.reduceSub, List.replicate, List.cons_append, List.nil_append, List.map_cons, List.map_nil, Option.bind_some, Option.map_some, Option.bind_none, Option.map_none, if_true, if_false, decide_true, decide_false, Bool.false_eq_true, Bool.true_eq_false, Bool.not_true, Bool.not_false, reduceCtorEq, Bool.and_true, Bool.true_and, Bool.and_false, Bool.false_and, Bool.or_true, Bool.true_or, Bool.or_false, Bool.false_or, true_and, and_true, false_and, and_false, List.take_zero, List.take_succ_cons, List.drop_zero, List.drop_succ_cons, List.take_nil, List.drop_nil, List.set_cons_zero, List.set_cons_succ, Nat.reduceLeDiff, Nat.reduceLT, Nat.zero_add, Nat.lt_add_one, Nat.le_refl, clearA, Int.toNat_natCast, hlt, gR, hix, hrow, hset, hwr]
    exact r1

theorem narrows_check (t : One hz h b G) (hW : G.Wf) (W : List Int) (q : Nat) (hq : q < h.n) (hqc : h.cell q = some (intsA W)) (hWl : W.length ≤ G.nodes.length) (hold : ∀ k : Nat, k < W.length → andNotI (G.rights (k : Int)) (W.getD k 0) = 0) (v0 v3 v5 v14 v15 v16 v17 : AV) (K : List RK) : ∀ (d k : Nat) (h' : AH) (v8 v9 v10 v11 v12 v13 v18 v19 v20 v21 : AV), k + d = G.nodes.length → GrewA h h' →
    ∃ h'' w7 w8 w9 w10 w11 w12 w13 w18 w19 w20 w21, runR (runF Try.prog po) 22 (.lp rc_GraphNarrows_b1 :: .ss [] :: .blk 4 :: K) [v0, .bool false, .ptr b 0 0, v3, .msl q 0 W.length 3, v5, lstA tN (G.nodes.map nodeA), .int .i64 (k : Int), v8, v9, v10, v11, v12, v13, v14, v15, v16, v17, v18, v19, v20, v21] [] h' =
      runR (runF Try.prog po) 22 K [v0, .bool false, .ptr b 0 0, v3, .msl q 0 W.length 3, v5, lstA tN (G.nodes.map nodeA), w7, w8, w9, w10, w11, w12, w13, v14, v15, v16, v17, w18, w19, w20, w21] [] h'' ∧ GrewA h h'' := by
  have hl := isL_lst tN (G.nodes.map nodeA)
  have hfew := hW.few
  obtain ⟨F, J, g0⟩ := t.isG
  intro d
  induction d with
  | zero =>
    intro k h' v8 v9 v10 v11 v12 v13 v18 v19 v20 v21 hk hg
    have hlt : ¬ ((k : Int) < (G.nodes.length : Int)) := by omega
    refine ⟨h', .int .i64 (k : Int), v8, v9, v10, v11, v12, v13, .bool false, v19, v20, v21, ?_, hg⟩
    rw [r_lpb rc_GraphNarrows_b1.eq_1]
    simp only [sim, List.length_cons, List.length_nil, Nat.reduceAdd, Nat.reduceSub, List.replicate, List.cons_append, List.nil_append, List.map_cons, List.map_nil, Option.bind_some, Option.map_some, Option.bind_none, Option.map_none, if_true, if_false, decide_true, decide_false, Bool.false_eq_true, Bool.true_eq_false, Bool.not_true, Bool.not_false, reduceCtorEq, Bool.and_true, Bool.true_and, Bool.and_false, Bool.false_and, Bool.or_true, Bool.true_or, Bool.or_false, Bool.false_or, true_and, and_true, false_and, and_false, List.take_zero, List.take_succ_cons, List.drop_zero, List.drop_succ_cons, List.take_nil, List.drop_nil, List.set_cons_zero, List.set_cons_succ, Nat.reduceLeDiff, Nat.reduceLT, Nat.zero_add, Nat.lt_add_one, Nat.le_refl, clearA, Int.toNat_natCast, hl.len, hl.fits, List.length_map, hlt]
  | succ d ih =>
    intro k h' v8 v9 v10 v11 v12 v13 v18 v19 v20 v21 hk hg
    have hlt : (k : Int) < (G.nodes.length : Int) := by omega
    have hkl : k < G.nodes.length := by omega
    have hh : G.has (k : Int) = true := by simp [GraphD.has]; omega
    have hwr := w64 (n := (k : Int) + 1) (by omega) (by omega)
    have e1 : ((k + 1 : Nat) : Int) = (k : Int) + 1 := by omega
    have g := g0.grew hg
    have gR := g_Rights g hW
    have hqc' : h'.cell q = some (intsA W) := (hg.cell q hq).trans hqc
    have hm2 : (G.nodes.map nodeA)[k]? = some (nodeA (G.nodes.getD k zeroN)) := by simp [hkl, List.getD]
    have hix := hl.ix .i64 k _ hm2
    have hown : IntKind.wrap .i64 ((BitVec.ofInt IntKind.i64.bits (G.rights (k : Int)) &&& ~~~(BitVec.ofInt IntKind.i64.bits (G.nodes.getD k zeroN).rights)).toNat : Int) = 0 := rights_own hW hh
    -- the first test is false
    have first : ∀ (X : Bool → RRun), (k < W.length → ixaR (some 3) none (.msl q 0 W.length 3) (.int .i64 (k : Int)) = some (.ptr q k 0) ∧ (intsA W)[k]? = some [.int .i64 (W.getD k 0)] ∧ IntKind.wrap .i64 ((BitVec.ofInt IntKind.i64.bits (G.rights (k : Int)) &&& ~~~(BitVec.ofInt IntKind.i64.bits (W.getD k 0))).toNat : Int) = 0) := fun X hk' =>
      ⟨by rw [ix_msl rfl hk', Nat.zero_add], by simp [hk', List.getD], hold k hk'⟩
    have first := first (fun _ => none)
    by_cases hpn : (G.nodes.getD k zeroN).parent < 0
    · obtain ⟨h'', w7, w8, w9, w10, w11, w12, w13, w18, w19, w20, w21, r1, r2⟩ := ih (k + 1) h' (.int .i64 (G.rights (k : Int))) (.int .i64 (G.nodes.getD k zeroN).parent) v10 v11 v12 v13 (.bool true) (.bool false) (.bool true) v21 (by omega) hg
      refine ⟨h'', w7, w8, w9, w10, w11, w12, w13, w18, w19, w20, w21, ?_, r2⟩
      rw [e1] at r1
      rw [r_lpb rc_GraphNarrows_b1.eq_1]
      by_cases hkW : k < W.length
      · obtain ⟨f1, f2, f3⟩ := first hkW
        have hkWi : (k : Int) < (W.length : Int) := by omega
        simp only [sim, List.length_cons, List.length_nil, Nat.reduceAdd, Nat.reduceSub, List.replicate, List.cons_append, List.nil_append, List.map_cons, List.map_nil, Option.bind_some, Option.map_some, Option.bind_none, Option.map_none, if_true, if_false, decide_true, decide_false, Bool.false_eq_true, Bool.true_eq_false, Bool.not_true, Bool.not_false, reduceCtorEq, Bool.and_true, Bool.true_and, Bool.and_false, Bool.false_and, Bool.or_true, Bool.true_or, Bool.or_false, Bool.false_or, true_and, and_true, false_and, and_false, List.take_zero, List.take_succ_cons, List.drop_zero, List.drop_succ_cons, List.take_nil, List.drop_nil, List.set_cons_zero, List.set_cons_succ, Nat.reduceLeDiff, Nat.reduceLT, Nat.zero_add, Nat.lt_add_one, Nat.le_refl, clearA, Int.toNat_natCast, hl.len, hl.fits, List.length_map, hlt, gR, hkWi, f1, hqc', f2, f3, eq_self, hix, nodeS, hown, hpn, hwr]
        exact r1
      · have hkWi : ¬ ((k : Int) < (W.length : Int)) := by omega
        simp only [sim, List.length_cons, List.length_nil, Nat.reduceAdd, Nat.reduceSub, List.replicate, List.cons_append, List.nil_append, List.map_cons, List.map_nil, Option.bind_some, Option.map_some, Option.bind_none, Option.map_none, if_true, if_false, decide_true, decide_false, Bool.false_eq_true, Bool.true_eq_false, Bool.not_true, Bool.not_false, reduceCtorEq, Bool.and_true, Bool.true_and, Bool.and_false, Bool.false_and, Bool.or_true, Bool.true_or, Bool.or_false, Bool.false_or, true_and, and_true, false_and, and_false, List.take_zero, List.take_succ_cons, List.drop_zero, List.drop_succ_cons, List.take_nil, List.drop_nil, List.set_cons_zero, List.set_cons_succ, Nat.reduceLeDiff, Nat.reduceLT, Nat.zero_add, Nat.lt_add_one, Nat.le_refl, clearA, Int.toNat_natCast, hl.len, hl.fits, List.length_map, hlt, gR, hkWi, eq_self, hix, nodeS, hown, hpn, hwr]
        exact r1
    · have ok := hW.get hh
      have q1 := ok.p1
      simp only [Int.toNat_natCast] at q1
      have hhp : G.has (G.nodes.getD k zeroN).parent = true := by simp only [GraphD.has, decide_eq_true_eq]; omega
      have hgp : decide ((k : Int) ≤ (G.nodes.getD k zeroN).parent) = false := by rw [decide_eq_false_iff_not]; omega
      have hpar : IntKind.wrap .i64 ((BitVec.ofInt IntKind.i64.bits (G.rights (k : Int)) &&& ~~~(BitVec.ofInt IntKind.i64.bits (G.rights (G.nodes.getD k zeroN).parent))).toNat : Int) = 0 := by
        rcases rights_parent hW hh with h | h
        · exact h
        · simp only [Int.toNat_natCast] at h
          rw [hhp] at h; cases h
      have htp : G.target (k : Int) = G.target (G.nodes.getD k zeroN).parent := target_parent hW hh hhp
      obtain ⟨pre, hgt⟩ := gates_parent hW hh
      simp only [Int.toNat_natCast] at hgt
      generalize hpp : (G.nodes.getD k zeroN).parent = p at *
      have gT := g_Target g hW (k : Int)
      have p1 := GrewA.push h' [nodeA (G.target (k : Int)).1]
      have gT2 := g_Target (g.grew p1) hW p
      rw [← htp] at gT2
      have p2 := p1.trans (GrewA.push (h'.push [nodeA (G.target (k : Int)).1]) [nodeA (G.target (k : Int)).1])
      have gG := g_Gates (g.grew p2) hW
      have gR2 := g_Rights (g.grew p2) hW
      have lx := isL_lst 3 (intsA (G.gatesC (k : Int)))
      have ly := isL_lst 3 (intsA (G.gatesC p))
      have hlen : (G.gatesC (k : Int)).length = pre.length + (G.gatesC p).length := by rw [hgt]; simp
      have hgl2 : (G.gatesC (k : Int)).length ≤ 1000 := by
        have h1 := List.length_filter_le (fun n : NodeD => decide (0 ≤ n.gate)) (G.path (k : Int))
        have h2 := GraphD.path_few hW (k : Int)
        simp only [GraphD.gatesC, gatesOf, List.length_map] at h1 ⊢
        omega
      have hll : ¬ (((G.gatesC (k : Int)).length : Int) < ((G.gatesC p).length : Int)) := by omega
      have hws : IntKind.wrap .i64 (((G.gatesC (k : Int)).length : Int) - ((G.gatesC p).length : Int)) = (pre.length : Int) := by rw [w64] <;> omega
      obtain ⟨w, s1, s2⟩ := lst_drop (e := 3) (rows := intsA (G.gatesC (k : Int))) (k := pre.length) (by simp; omega)
      have hdr : (intsA (G.gatesC (k : Int))).drop pre.length = intsA (G.gatesC p) := by rw [hgt, intsA, List.map_append]; simp
      rw [hdr] at s2
      have sI := r_SameInts (h := (h'.push [nodeA (G.target (k : Int)).1]).push [nodeA (G.target (k : Int)).1]) (G.gatesC p) (G.gatesC p) w (lstA 3 (intsA (G.gatesC p))) s2 ly (by omega)
      obtain ⟨h'', w7, w8, w9, w10, w11, w12, w13, w18, w19, w20, w21, r1, r2⟩ := ih (k + 1) ((h'.push [nodeA (G.target (k : Int)).1]).push [nodeA (G.target (k : Int)).1]) (.int .i64 (G.rights (k : Int))) (.int .i64 p) (.ptr h'.n 0 0) (.ptr (h'.n + 1) 0 0) (lstA 3 (intsA (G.gatesC (k : Int)))) (lstA 3 (intsA (G.gatesC p))) (.bool true) (.bool false) (.bool false) (.bool false) (by omega) (hg.trans p2)
      refine ⟨h'', w7, w8, w9, w10, w11, w12, w13, w18, w19, w20, w21, ?_, r2⟩
      rw [e1] at r1
      rw [r_lpb rc_GraphNarrows_b1.eq_1]
      by_cases hkW : k < W.length
      · obtain ⟨f1, f2, f3⟩ := first hkW
        have hkWi : (k : Int) < (W.length : Int) := by omega
        simp only [sim, List.length_cons, List.length_nil, Nat.reduceAdd, Nat.reduceSub, List.replicate, List.cons_append, List.nil_append, List.map_cons, List.map_nil, Option.bind_some, Option.map_some, Option.bind_none, Option.map_none, if_true, if_false, decide_true, decide_false, Bool.false_eq_true, Bool.true_eq_false, Bool.not_true, Bool.not_false, reduceCtorEq, Bool.and_true, Bool.true_and, Bool.and_false, Bool.false_and, Bool.or_true, Bool.true_or, Bool.or_false, Bool.false_or, true_and, and_true, false_and, and_false, List.take_zero, List.take_succ_cons, List.drop_zero, List.drop_succ_cons, List.take_nil, List.drop_nil, List.set_cons_zero, List.set_cons_succ, Nat.reduceLeDiff, Nat.reduceLT, Nat.zero_add, Nat.lt_add_one, Nat.le_refl, clearA, Int.toNat_natCast, hl.len, hl.fits, List.length_map, hlt, gR, hkWi, f1, hqc', f2, f3, eq_self, hix, nodeS, hown, hpp, hpn, gT, gT2, gG, hgp, gR2, hpar, node_neq, lx.len, lx.fits, ly.len, ly.fits, hll, hws, s1, sI, hwr]
        exact r1
      · have hkWi : ¬ ((k : Int) < (W.length : Int)) := by omega
        simp only [sim, List.length_cons, List.length_nil, Nat.reduceAdd, Nat.reduceSub, List.replicate, List.cons_append, List.nil_append, List.map_cons, List.map_nil, Option.bind_some, Option.map_some, Option.bind_none, Option.map_none, if_true, if_false, decide_true, decide_false, Bool.false_eq_true, Bool.true_eq_false, Bool.not_true, Bool.not_false, reduceCtorEq, Bool.and_true, Bool.true_and, Bool.and_false, Bool.false_and, Bool.or_true, Bool.true_or, Bool.or_false, Bool.false_or, true_and, and_true, false_and, and_false, List.take_zero, List.take_succ_cons, List.drop_zero, List.drop_succ_cons, List.take_nil, List.drop_nil, List.set_cons_zero, List.set_cons_succ, Nat.reduceLeDiff, Nat.reduceLT, Nat.zero_add, Nat.lt_add_one, Nat.le_refl, clearA, Int.toNat_natCast, hl.len, hl.fits, List.length_map, hlt, gR, hkWi, eq_self, hix, nodeS, hown, hpp, hpn, gT, gT2, gG, hgp, gR2, hpar, node_neq, lx.len, lx.fits, ly.len, ly.fits, hll, hws, s1, sI, hwr]
        exact r1

theorem narrows_loop (v0 : AV) (rows : List (List Int)) (hv : IsL 62 v0 (rows.map i64r)) (hl : rows.length ≤ 1000) (h5 : ∀ r ∈ rows, r.length = 5) (v14 v15 : AV) : ∀ (l pre : List (List Int)) (h : AH) (G : GraphD) (v4 v5 v6 v7 v8 v9 v10 v11 v12 v13 v16 v17 v18 v19 v20 v21 : AV), rows = pre ++ l → One hz h b G → G.Wf →
    cFR true [.v 1] hz (runR (runF Try.prog po) 22 [.lp rc_GraphNarrows_b3, .ss [], .blk 0, .ss [(.ops [(.i (.v 1) (.mv (.c (.bool true))))]), .ret]] [v0, .bool false, .ptr b 0 0, .int .i64 pre.length, v4, v5, v6, v7, v8, v9, v10, v11, v12, v13, v14, v15, v16, v17, v18, v19, v20, v21] [] h) = some (.inl (.bool true), hz) := by
  intro l
  induction l with
  | nil =>
    intro pre h G v4 v5 v6 v7 v8 v9 v10 v11 v12 v13 v16 v17 v18 v19 v20 v21 e t hW
    have hlt : ¬ ((pre.length : Int) < (rows.length : Int)) := by rw [e]; simp
    rw [r_lpb rc_GraphNarrows_b3.eq_1]
    simp only [sim, List.length_cons, List.length_nil, Nat.reduceAdd, Nat.reduceSub, List.replicate, List.cons_append, List.nil_append, List.map_cons, List.map_nil, Option.bind_some, Option.map_some, Option.bind_none, Option.map_none, if_true, if_false, decide_true, decide_false, Bool.false_eq_true, Bool.true_eq_false, Bool.not_true, Bool.not_false, reduceCtorEq, Bool.and_true, Bool.true_and, Bool.and_false, Bool.false_and, Bool.or_true, Bool.true_or, Bool.or_false, Bool.false_or, true_and, and_true, false_and, and_false, List.take_zero, List.take_succ_cons, List.drop_zero, List.drop_succ_cons, List.take_nil, List.drop_nil, List.set_cons_zero, List.set_cons_succ, Nat.reduceLeDiff, Nat.reduceLT, Nat.zero_add, Nat.lt_add_one, Nat.le_refl, clearA, Int.toNat_natCast, hv.len, hv.fits, List.length_map, hlt, fg_yes t.all (rfl : wkA (.bool true) = _)]
  | cons r l ih =>
    intro pre h G v4 v5 v6 v7 v8 v9 v10 v11 v12 v13 v16 v17 v18 v19 v20 v21 e t hW
    have hlt : (pre.length : Int) < (rows.length : Int) := by rw [e]; simp; omega
    have hr5 := h5 r (by rw [e]; simp)
    have hix := hv.ix .i64 pre.length (stepA (stepOf r)) (by rw [e, ← step_row hr5]; simp)
    have hwr := w64 (n := (pre.length : Int) + 1) (by omega) (by omega)
    have e2 : ((pre ++ [r]).length : Int) = (pre.length : Int) + 1 := by simp
    generalize stepOf r = x at hix
    have hfew := hW.few
    have tt := t
    obtain ⟨F, J, g, a1, a2, a3⟩ := tt
    have gN := g_Nodes g hW
    have hl1 := isL_lst tN (G.nodes.map nodeA)
    have hmk : mksR 3 [.int .i64 0] (.int .i64 (G.nodes.length : Int)) (.int .i64 (G.nodes.length : Int)) h = some (.msl h.n 0 G.nodes.length 3, h.push (intsA (rightsL G 0 ++ List.replicate G.nodes.length 0))) := by
      have h1 : (0 : Int) ≤ (G.nodes.length : Int) := by omega
      have h2 : (G.nodes.length : Int) ≤ 100000 := by omega
      simp [mksR, h1, h2, rightsL]
    obtain ⟨w5, w17, r1⟩ := note_loop t hW v0 (.bool false) (.int .i64 pre.length) v6 v7 v8 v9 v10 v11 v12 v13 v14 v15 (.bool true) v18 v19 v20 v21 [.ss [(.ops [(.i .l (.mv (.v 2))), (.i .l (.build [.nils, .nils] [(0, 1), (1, 1)] [])), (.i .l (.box 2 (.l 0))), (.i .l (.mv (.v 0))), (.i .l (.mv (.v 3))), (.i .l (.ixa (some 62) none (.l 1) (.l 0))), (.i .l (.load true 5 (.l 0))), (.i .l (.call (.c (.fn 35 [] [])) [(.l 6), (.l 4), (.l 0)]))]), (.ops [(.i .l (.mv (.v 2))), (.i .l (.call (.c (.fn 34 [] [])) [(.l 0)])), (.i (.v 6) (.mv (.l 0)))]), (.ops [(.i (.v 7) (.mv (.c (.int .i64 0))))]), (.block 4 [(.loop rc_GraphNarrows_b1)])], .blk 1, .ss [(.ops [(.i .l (.mv (.v 3))), (.i .l (.bin (.int .i64) .add (.l 0) (.c (.int .i64 1)))), (.i (.v 3) (.mv (.l 0)))])], .lp rc_GraphNarrows_b3, .ss [], .blk 0, .ss [(.ops [(.i (.v 1) (.mv (.c (.bool true))))]), .ret]] G.nodes.length 0 v17 (by omega)
    simp only [Int.natCast_zero] at r1
    have px := GrewA.push h (intsA (rightsL G G.nodes.length))
    have gq := g.grew px
    obtain ⟨h', v, s1, t', hlt', hkeep⟩ := one_stepF x gq a1 a2 (a3.trans px) hW
    have hW' := hW.step x
    have later := G.step_later x
    have hqc : h'.cell h.n = some (intsA (rightsL G G.nodes.length)) := (hkeep h.n (by simp [AH.push]) (fun hF => by have := g.lt.1 _ hF; omega)).trans push_same
    have hqn : h.n < h'.n := by simp [AH.push] at hlt'; omega
    generalize (G.step x).1 = G' at *
    obtain ⟨F', J', g'⟩ := t'.isG
    have gN' := g_Nodes g' hW'
    obtain ⟨ext, hext⟩ := later.nodes
    have hold : ∀ k : Nat, k < (rightsL G G.nodes.length).length → andNotI (G'.rights (k : Int)) ((rightsL G G.nodes.length).getD k 0) = 0 := by
      intro k hk
      rw [rightsL_len] at hk
      have hh : G.has (k : Int) = true := by simp [GraphD.has]; omega
      have hget : (rightsL G G.nodes.length).getD k 0 = G.rights (k : Int) := by simp [rightsL, List.getD, hk]
      rw [hget]
      rcases later.rights hW hW' hh with h | h
      · rw [h]; exact andNot_self (rights_vec hW _)
      · rw [h]; exact andNot_zero _
    obtain ⟨h'', w7, w8, w9, w10, w11, w12, w13, w18, w19, w20, w21, y1, y2⟩ := narrows_check t' hW' (rightsL G G.nodes.length) h.n hqn hqc (by rw [rightsL_len, hext]; simp) hold v0 (.int .i64 pre.length) w5 v14 v15 (.bool true) w17 [.ss [], .blk 1, .ss [(.ops [(.i .l (.mv (.v 3))), (.i .l (.bin (.int .i64) .add (.l 0) (.c (.int .i64 1)))), (.i (.v 3) (.mv (.l 0)))])], .lp rc_GraphNarrows_b3, .ss [], .blk 0, .ss [(.ops [(.i (.v 1) (.mv (.c (.bool true))))]), .ret]] G'.nodes.length 0 h' v8 v9 v10 v11 v12 v13 v18 v19 v20 v21 (by omega) (GrewA.refl h')
    simp only [Int.natCast_zero, rightsL_len] at y1
    have hrec := ih (pre ++ [r]) h'' G' (.msl h.n 0 G.nodes.length 3) w5 (lstA tN (G'.nodes.map nodeA)) w7 w8 w9 w10 w11 w12 w13 (.bool true) w17 w18 w19 w20 w21 (by simp [e]) (t'.grew y2) hW'
    rw [e2] at hrec
    rw [r_lpb rc_GraphNarrows_b3.eq_1]
    simp only [sim, List.length_cons, List.length_nil, Nat.reduceAdd, Nat.reduceSub, List.replicate, List.cons_append, List.nil_append, List.map_cons, List.map_nil, Option.bind_some, Option.map_some, Option.bind_none, Option.map_none, if_true, if_false, decide_true, decide_false, Bool.false_eq_true, Bool.true_eq_false, Bool.not_true, Bool.not_false, reduceCtorEq, Bool.and_true, Bool.true_and, Bool.and_false, Bool.false_and, Bool.or_true, Bool.true_or, Bool.or_false, Bool.false_or, true_and, and_true, false_and, and_false, List.take_zero, List.take_succ_cons, List.drop_zero, List.drop_succ_cons, List.take_nil, List.drop_nil, List.set_cons_zero, List.set_cons_succ, Nat.reduceLeDiff, Nat.reduceLT, Nat.zero_add, Nat.lt_add_one, Nat.le_refl, clearA, Int.toNat_natCast, hv.len, hv.fits, List.length_map, hlt, gN, hl1.len, hl1.fits, hmk, r1, hix, stepS]
    simp only [push_n] at s1
    simp only [sim, List.length_cons, List.length_nil, Nat.reduceAdd, Nat.reduceSub, List.replicate, List.cons_append, List.nil_append, List.map_cons, List.map_nil, Option.bind_some, Option.map_some, Option.bind_none, Option.map_none, if_true, if_false, decide_true, decide_false, Bool.false_eq_true, Bool.true_eq_false, Bool.not_true, Bool.not_false, reduceCtorEq, Bool.and_true, Bool.true_and, Bool.and_false, Bool.false_and, Bool.or_true, Bool.true_or, Bool.or_false, Bool.false_or, true_and, and_true, false_and, and_false, List.take_zero, List.take_succ_cons, List.drop_zero, List.drop_succ_cons, List.take_nil, List.drop_nil, List.set_cons_zero, List.set_cons_succ, Nat.reduceLeDiff, Nat.reduceLT, Nat.zero_add, Nat.lt_add_one, Nat.le_refl, clearA, Int.toNat_natCast, s1, gN', y1, hwr]
    exact hrec
theorem GraphNarrows_run (v0 : AV) (rows : List (List Int)) (hv : IsL 62 v0 (rows.map i64r)) (h5 : ∀ r ∈ rows, r.length = 5) : runF Try.prog po 10 [v0] h = some (.inl (.bool true), h) := by
  obtain ⟨_, n1, rfl⟩ := g_New (h := h)
  refine runF_R fn_GraphNarrows rfl ?_; unfold rc_GraphNarrows
  cases hd : decide ((150 : Int) < (rows.length : Int))
  · have hl : rows.length ≤ 150 := by simp at hd; omega
    have := narrows_loop (b := h.n) v0 rows hv (by omega) h5 (.bool false) (.bool false) rows [] _ ⟨[], []⟩ .junk .junk .junk .junk .junk .junk .junk .junk .junk .junk .junk .junk .junk .junk .junk .junk rfl (One.new (GrewA.refl h)) wf_nil
    simp only [List.length_nil, Int.natCast_zero] at this
    simp only [sim, List.length_cons, List.length_nil, Nat.reduceAdd, Nat.reduceSub, List.replicate, List.cons_append, List.nil_append, List.map_cons, List.map_nil, Option.bind_some, Option.map_some, Option.bind_none, Option.map_none, if_true, if_false, decide_true, decide_false, Bool.false_eq_true, Bool.true_eq_false, Bool.not_true, Bool.not_false, reduceCtorEq, Bool.and_true, Bool.true_and, Bool.and_false, Bool.false_and, Bool.or_true, Bool.true_or, Bool.or_false, Bool.false_or, true_and, and_true, false_and, and_false, List.take_zero, List.take_succ_cons, List.drop_zero, List.drop_succ_cons, List.take_nil, List.drop_nil, List.set_cons_zero, List.set_cons_succ, Nat.reduceLeDiff, Nat.reduceLT, Nat.zero_add, Nat.lt_add_one, Nat.le_refl, clearA, Int.toNat_natCast, graph_begun, hv.len, hv.fits, List.length_map, hd, n1]
    exact this
  · simp only [sim, List.length_cons, List.length_nil, Nat.reduceAdd, Nat.reduceSub, List.replicate, List.cons_append, List.nil_append, List.map_cons, List.map_nil, Option.bind_some, Option.map_some, Option.bind_none, Option.map_none, if_true, if_false, decide_true, decide_false, Bool.false_eq_true, Bool.true_eq_false, Bool.not_true, Bool.not_false, reduceCtorEq, Bool.and_true, Bool.true_and, Bool.and_false, Bool.false_and, Bool.or_true, Bool.true_or, Bool.or_false, Bool.false_or, true_and, and_true, false_and, and_false, List.take_zero, List.take_succ_cons, List.drop_zero, List.drop_succ_cons, List.take_nil, List.drop_nil, List.set_cons_zero, List.set_cons_succ, Nat.reduceLeDiff, Nat.reduceLT, Nat.zero_add, Nat.lt_add_one, Nat.le_refl, clearA, Int.toNat_natCast, graph_begun, hv.len, hv.fits, List.length_map, hd]
end
theorem graphNarrows_walk (A : Option Addr) (n cap : Nat) (rows : List (List Int)) (W : World) (hn : rows.length = n) (h5 : ∀ x ∈ rows, x.length = 5) (hs : Sl W 5 A n cap (rows.flatMap icells)) (hlim : n ≤ 9223372036854775807) :
    Law Try.prog 10 #[.slice A n cap] W := by
  obtain ⟨h1, h2⟩ := vr_rows (P := Try.prog) (W := W) (e := 62) (k := 5) (by kernel_rfl) hn h5 hs
  exact law_of (vs := [.slice A n cap]) (GraphNarrows_run _ rows h2 h5) (VRs.cons h1 VRs.nil)
end Go.Proofs.Ytacocolcighomaa
