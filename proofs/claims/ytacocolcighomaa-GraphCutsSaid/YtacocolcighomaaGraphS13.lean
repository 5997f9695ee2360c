/- GraphCuts in the plain model. -/
import Derived.Test.YtacocolcighomaaGraphS12
namespace Go.Proofs.Ytacocolcighomaa
set_option linter.unusedSimpArgs false
set_option linter.unusedVariables false
open Go

section
variable {hz h : AH} {b : Nat} {G : GraphD}

theorem cuts_steps1 (v0 : AV) (rows : List (List Int)) (hv : IsL 62 v0 (rows.map i64r)) (hl : rows.length ≤ 1000) (h5 : ∀ r ∈ rows, r.length = 5) (v1 v2 v3 v6 v7 v8 v9 v10 v11 v12 v13 v14 v15 v17 v18 v19 v20 v21 v22 v23 : AV) (K : List RK) : ∀ (l pre : List (List Int)) (h : AH) (G : GraphD) (v16 : AV), rows = pre ++ l → One hz h b G → G.Wf →
    ∃ h' G' w5 w16, runR (runF Try.prog po) 24 (.lp rc_GraphCuts_b5 :: .ss [] :: .blk 0 :: K) [v0, v1, v2, v3, .ptr b 0 0, .int .i64 pre.length, v6, v7, v8, v9, v10, v11, v12, v13, v14, v15, v16, v17, v18, v19, v20, v21, v22, v23] [] h =
      runR (runF Try.prog po) 24 K [v0, v1, v2, v3, .ptr b 0 0, w5, v6, v7, v8, v9, v10, v11, v12, v13, v14, v15, w16, v17, v18, v19, v20, v21, v22, v23] [] h' ∧ One hz h' b G' ∧ G'.Wf ∧ G.Later G' := by
  intro l
  induction l with
  | nil =>
    intro pre h G v16 e t hW
    have hlt : ¬ ((pre.length : Int) < (rows.length : Int)) := by rw [e]; simp
    refine ⟨h, G, .int .i64 pre.length, .bool false, ?_, t, hW, GraphD.Later.refl G⟩
    rw [r_lpb rc_GraphCuts_b5.eq_1]
    simp only [sim, List.length_cons, List.length_nil, Nat.reduceAdd, Nat.reduceSub, List.replicate, List.cons_append, List.nil_append, List.map_cons, List.map_nil, Option.bind_some, Option.map_some, Option.bind_none, Option.map_none, if_true, if_false, decide_true, decide_false, Bool.false_eq_true, Bool.true_eq_false, Bool.not_true, Bool.not_false, reduceCtorEq, Bool.and_true, Bool.true_and, Bool.and_false, Bool.false_and, Bool.or_true, Bool.true_or, Bool.or_false, Bool.false_or, true_and, and_true, false_and, and_false, List.take_zero, List.take_succ_cons, List.drop_zero, List.drop_succ_cons, List.take_nil, List.drop_nil, List.set_cons_zero, List.set_cons_succ, Nat.reduceLeDiff, Nat.reduceLT, Nat.zero_add, Nat.lt_add_one, Nat.le_refl, clearA, Int.toNat_natCast, hv.len, hv.fits, List.length_map, hlt]
  | cons r l ih =>
    intro pre h G v16 e t hW
    have hlt : (pre.length : Int) < (rows.length : Int) := by rw [e]; simp; omega
    have hr5 := h5 r (by rw [e]; simp)
    have hix := hv.ix .i64 pre.length (stepA (stepOf r)) (by rw [e, ← step_row hr5]; simp)
    have hwr := w64 (n := (pre.length : Int) + 1) (by omega) (by omega)
    have e2 : ((pre ++ [r]).length : Int) = (pre.length : Int) + 1 := by simp
    generalize stepOf r = x at hix
    obtain ⟨h', v, r1, t'⟩ := one_step x t hW
    obtain ⟨h'', G'', wi, wt, y1, y2, y3, y4⟩ := ih (pre ++ [r]) h' _ (.bool true) (by simp [e]) t' (hW.step x)
    refine ⟨h'', G'', wi, wt, ?_, y2, y3, (G.step_later x).trans y4⟩
    rw [e2] at y1
    rw [r_lpb rc_GraphCuts_b5.eq_1]
    simp only [sim, List.length_cons, List.length_nil, Nat.reduceAdd, Nat.reduceSub, List.replicate, List.cons_append, List.nil_append, List.map_cons, List.map_nil, Option.bind_some, Option.map_some, Option.bind_none, Option.map_none, if_true, if_false, decide_true, decide_false, Bool.false_eq_true, Bool.true_eq_false, Bool.not_true, Bool.not_false, reduceCtorEq, Bool.and_true, Bool.true_and, Bool.and_false, Bool.false_and, Bool.or_true, Bool.true_or, Bool.or_false, Bool.false_or, true_and, and_true, false_and, and_false, List.take_zero, List.take_succ_cons, List.drop_zero, List.drop_succ_cons, List.take_nil, List.drop_nil, List.set_cons_zero, List.set_cons_succ, Nat.reduceLeDiff, Nat.reduceLT, Nat.zero_add, Nat.lt_add_one, Nat.le_refl, clearA, Int.toNat_natCast, hv.len, hv.fits, List.length_map, hlt, hix, stepS, r1, hwr]
    exact y1

theorem cuts_steps2 (v1 : AV) (rows : List (List Int)) (hv : IsL 62 v1 (rows.map i64r)) (hl : rows.length ≤ 1000) (h5 : ∀ r ∈ rows, r.length = 5) (v0 v2 v3 v5 v6 v7 v8 v9 v10 v11 v13 v14 v15 v16 v17 v18 v19 v20 v22 v23 : AV) (K : List RK) : ∀ (l pre : List (List Int)) (h : AH) (G : GraphD) (v21 : AV), rows = pre ++ l → One hz h b G → G.Wf →
    ∃ h' G' w12 w21, runR (runF Try.prog po) 24 (.lp rc_GraphCuts_b2 :: .ss [] :: .blk 6 :: K) [v0, v1, v2, v3, .ptr b 0 0, v5, v6, v7, v8, v9, v10, v11, .int .i64 pre.length, v13, v14, v15, v16, v17, v18, v19, v20, v21, v22, v23] [] h =
      runR (runF Try.prog po) 24 K [v0, v1, v2, v3, .ptr b 0 0, v5, v6, v7, v8, v9, v10, v11, w12, v13, v14, v15, v16, v17, v18, v19, v20, w21, v22, v23] [] h' ∧ One hz h' b G' ∧ G'.Wf ∧ G.Later G' := by
  intro l
  induction l with
  | nil =>
    intro pre h G v21 e t hW
    have hlt : ¬ ((pre.length : Int) < (rows.length : Int)) := by rw [e]; simp
    refine ⟨h, G, .int .i64 pre.length, .bool false, ?_, t, hW, GraphD.Later.refl G⟩
    rw [r_lpb rc_GraphCuts_b2.eq_1]
    simp only [sim, List.length_cons, List.length_nil, Nat.reduceAdd, Nat.reduceSub, List.replicate, List.cons_append, List.nil_append, List.map_cons, List.map_nil, Option.bind_some, Option.map_some, Option.bind_none, Option.map_none, if_true, if_false, decide_true, decide_false, Bool.false_eq_true, Bool.true_eq_false, Bool.not_true, Bool.not_false, reduceCtorEq, Bool.and_true, Bool.true_and, Bool.and_false, Bool.false_and, Bool.or_true, Bool.true_or, Bool.or_false, Bool.false_or, true_and, and_true, false_and, and_false, List.take_zero, List.take_succ_cons, List.drop_zero, List.drop_succ_cons, List.take_nil, List.drop_nil, List.set_cons_zero, List.set_cons_succ, Nat.reduceLeDiff, Nat.reduceLT, Nat.zero_add, Nat.lt_add_one, Nat.le_refl, clearA, Int.toNat_natCast, hv.len, hv.fits, List.length_map, hlt]
  | cons r l ih =>
    intro pre h G v21 e t hW
    have hlt : (pre.length : Int) < (rows.length : Int) := by rw [e]; simp; omega
    have hr5 := h5 r (by rw [e]; simp)
    have hix := hv.ix .i64 pre.length (stepA (stepOf r)) (by rw [e, ← step_row hr5]; simp)
    have hwr := w64 (n := (pre.length : Int) + 1) (by omega) (by omega)
    have e2 : ((pre ++ [r]).length : Int) = (pre.length : Int) + 1 := by simp
    generalize stepOf r = x at hix
    obtain ⟨h', v, r1, t'⟩ := one_step x t hW
    obtain ⟨h'', G'', wi, wt, y1, y2, y3, y4⟩ := ih (pre ++ [r]) h' _ (.bool true) (by simp [e]) t' (hW.step x)
    refine ⟨h'', G'', wi, wt, ?_, y2, y3, (G.step_later x).trans y4⟩
    rw [e2] at y1
    rw [r_lpb rc_GraphCuts_b2.eq_1]
    simp only [sim, List.length_cons, List.length_nil, Nat.reduceAdd, Nat.reduceSub, List.replicate, List.cons_append, List.nil_append, List.map_cons, List.map_nil, Option.bind_some, Option.map_some, Option.bind_none, Option.map_none, if_true, if_false, decide_true, decide_false, Bool.false_eq_true, Bool.true_eq_false, Bool.not_true, Bool.not_false, reduceCtorEq, Bool.and_true, Bool.true_and, Bool.and_false, Bool.false_and, Bool.or_true, Bool.true_or, Bool.or_false, Bool.false_or, true_and, and_true, false_and, and_false, List.take_zero, List.take_succ_cons, List.drop_zero, List.drop_succ_cons, List.take_nil, List.drop_nil, List.set_cons_zero, List.set_cons_succ, Nat.reduceLeDiff, Nat.reduceLT, Nat.zero_add, Nat.lt_add_one, Nat.le_refl, clearA, Int.toNat_natCast, hv.len, hv.fits, List.length_map, hlt, hix, stepS, r1, hwr]
    exact y1

theorem cuts_note (t : One hz h b G) (hW : G.Wf) (v0 v1 v2 v3 v5 v9 v10 v11 v12 v13 v14 v15 v16 v18 v19 v20 v21 v22 v23 : AV) (K : List RK) : ∀ (d k : Nat) (v17 : AV), k + d = G.nodes.length →
    ∃ w8 w17, runR (runF Try.prog po) 24 (.lp rc_GraphCuts_b4 :: .ss [] :: .blk 2 :: K) [v0, v1, v2, v3, .ptr b 0 0, v5, .int .i64 (G.nodes.length : Int), .msl h.n 0 G.nodes.length 3, .int .i64 (k : Int), v9, v10, v11, v12, v13, v14, v15, v16, v17, v18, v19, v20, v21, v22, v23] [] (h.push (intsA (rightsL G k ++ List.replicate d 0))) =
      runR (runF Try.prog po) 24 K [v0, v1, v2, v3, .ptr b 0 0, v5, .int .i64 (G.nodes.length : Int), .msl h.n 0 G.nodes.length 3, w8, v9, v10, v11, v12, v13, v14, v15, v16, w17, v18, v19, v20, v21, v22, v23] [] (h.push (intsA (rightsL G G.nodes.length))) := by
  have hfew := hW.few
  obtain ⟨F, J, g0⟩ := t.isG
  intro d
  induction d with
  | zero =>
    intro k v17 hk
    have hkn : k = G.nodes.length := by omega
    subst hkn
    refine ⟨.int .i64 (G.nodes.length : Int), .bool false, ?_⟩
    rw [r_lpb rc_GraphCuts_b4.eq_1]
    simp only [sim, List.length_cons, List.length_nil, Nat.reduceAdd, Nat.reduceSub, List.replicate, List.cons_append, List.nil_append, List.map_cons, List.map_nil, Option.bind_some, Option.map_some, Option.bind_none, Option.map_none, if_true, if_false, decide_true, decide_false, Bool.false_eq_true, Bool.true_eq_false, Bool.not_true, Bool.not_false, reduceCtorEq, Bool.and_true, Bool.true_and, Bool.and_false, Bool.false_and, Bool.or_true, Bool.true_or, Bool.or_false, Bool.false_or, true_and, and_true, false_and, and_false, List.take_zero, List.take_succ_cons, List.drop_zero, List.drop_succ_cons, List.take_nil, List.drop_nil, List.set_cons_zero, List.set_cons_succ, Nat.reduceLeDiff, Nat.reduceLT, Nat.zero_add, Nat.lt_add_one, Nat.le_refl, clearA, Int.toNat_natCast, Int.lt_irrefl, List.append_nil]
  | succ d ih =>
    intro k v17 hk
    have hlt : (k : Int) < (G.nodes.length : Int) := by omega
    have hkl : k < G.nodes.length := by omega
    have hwr := w64 (n := (k : Int) + 1) (by omega) (by omega)
    have e1 : ((k + 1 : Nat) : Int) = (k : Int) + 1 := by omega
    have g := g0.grew (GrewA.push h (intsA (rightsL G k ++ (0 :: List.replicate d 0))))
    have gR := g_Rights g hW (k : Int)
    have hrow : (intsA (rightsL G k ++ (0 :: List.replicate d 0)))[k]? = some [.int .i64 0] := by
      rw [intsA, List.map_append, List.getElem?_append_right (by simp [rightsL_len])]
      simp [rightsL_len]
    have hset : (intsA (rightsL G k ++ (0 :: List.replicate d 0))).set k [.int .i64 (G.rights (k : Int))] = intsA (rightsL G (k + 1) ++ List.replicate d 0) := by
      rw [rightsL_succ, intsA, List.map_append, List.map_cons, List.set_append_right _ _ (by simp [rightsL_len])]
      simp [rightsL_len]
    have hix : ∀ h : AH, ixaR (some 3) none (.msl h.n 0 G.nodes.length 3) (.int .i64 (k : Int)) = some (.ptr h.n k 0) := fun h => by
      rw [ix_msl rfl hkl, Nat.zero_add]
    obtain ⟨w8, w17, r1⟩ := ih (k + 1) (.bool true) (by omega)
    refine ⟨w8, w17, ?_⟩
    rw [e1] at r1
    rw [r_lpb rc_GraphCuts_b4.eq_1]
    simp only [sim, List.length_cons, List.length_nil, Nat.reduceAdd, Nat.reduceSub, List.replicate, List.cons_append, List.nil_append, List.map_cons, List.map_nil, Option.bind_some, Option.map_some, Option.bind_none, Option.map_none, if_true, if_false, decide_true, decide_false, Bool.false_eq_true, Bool.true_eq_false, Bool.not_true, Bool.not_false, reduceCtorEq, Bool.and_true, Bool.true_and, Bool.and_false, Bool.false_and, Bool.or_true, Bool.true_or, Bool.or_false, Bool.false_or, true_and, and_true, false_and, and_false, List.take_zero, List.take_succ_cons, List.drop_zero, List.drop_succ_cons, List.take_nil, List.drop_nil, List.set_cons_zero, List.set_cons_succ, Nat.reduceLeDiff, Nat.reduceLT, Nat.zero_add, Nat.lt_add_one, Nat.le_refl, clearA, Int.toNat_natCast, hlt, gR, hix, hrow, hset, hwr]
    exact r1

theorem gates_few {G : GraphD} (hW : G.Wf) (i : Int) : (G.gatesC i).length ≤ 1000 := by
  have h1 := List.length_filter_le (fun n : NodeD => decide (0 ≤ n.gate)) (G.path i)
  have h2 := GraphD.path_few hW i
  simp only [GraphD.gatesC, gatesOf, List.length_map] at h1 ⊢
  omega
theorem gates_same {G : GraphD} {k : Int} (i : Int) (hn : (G.cut k).1.nodes = G.nodes) : (G.cut k).1.gatesC i = G.gatesC i := by
  unfold GraphD.gatesC
  rw [path_same hn]

theorem cuts_check (gate : Int) (hgt : G.hasGate gate = true) (hW : G.Wf) (t : One hz h b (G.cut gate).1) (q : Nat) (hq : h.cell q = some (intsA (rightsL G G.nodes.length))) (v0 v1 v5 v8 v9 v12 v13 v14 v15 v16 v17 v18 v21 v22 v23 : AV) (K : List RK) : ∀ (d k : Nat) (v11 v19 v20 : AV), k + d = G.nodes.length →
    ∃ w10 w11 w19 w20, runR (runF Try.prog po) 24 (.lp rc_GraphCuts_b3 :: .ss [] :: .blk 4 :: K) [v0, v1, .int .i64 gate, .bool false, .ptr b 0 0, v5, .int .i64 (G.nodes.length : Int), .msl q 0 G.nodes.length 3, v8, v9, .int .i64 (k : Int), v11, v12, v13, v14, v15, v16, v17, v18, v19, v20, v21, v22, v23] [] h = runR (runF Try.prog po) 24 K [v0, v1, .int .i64 gate, .bool false, .ptr b 0 0, v5, .int .i64 (G.nodes.length : Int), .msl q 0 G.nodes.length 3, v8, v9, w10, w11, v12, v13, v14, v15, v16, v17, v18, w19, w20, v21, v22, v23] [] h := by
  have hW' := hW.cut gate
  have hfew := hW.few
  obtain ⟨hs, hn, _, h0⟩ := cut_shut hgt
  obtain ⟨F, J, g⟩ := t.isG
  intro d
  induction d with
  | zero =>
    intro k v11 v19 v20 hk
    have hkn : k = G.nodes.length := by omega
    subst hkn
    refine ⟨.int .i64 (G.nodes.length : Int), v11, .bool false, v20, ?_⟩
    rw [r_lpb rc_GraphCuts_b3.eq_1]
    simp only [sim, List.length_cons, List.length_nil, Nat.reduceAdd, Nat.reduceSub, List.replicate, List.cons_append, List.nil_append, List.map_cons, List.map_nil, Option.bind_some, Option.map_some, Option.bind_none, Option.map_none, if_true, if_false, decide_true, decide_false, Bool.false_eq_true, Bool.true_eq_false, Bool.not_true, Bool.not_false, reduceCtorEq, Bool.and_true, Bool.true_and, Bool.and_false, Bool.false_and, Bool.or_true, Bool.true_or, Bool.or_false, Bool.false_or, true_and, and_true, false_and, and_false, List.take_zero, List.take_succ_cons, List.drop_zero, List.drop_succ_cons, List.take_nil, List.drop_nil, List.set_cons_zero, List.set_cons_succ, Nat.reduceLeDiff, Nat.reduceLT, Nat.zero_add, Nat.lt_add_one, Nat.le_refl, clearA, Int.toNat_natCast, Int.lt_irrefl]
  | succ d ih =>
    intro k v11 v19 v20 hk
    have hlt : (k : Int) < (G.nodes.length : Int) := by omega
    have hkl : k < G.nodes.length := by omega
    have hwr := w64 (n := (k : Int) + 1) (by omega) (by omega)
    have e1 : ((k + 1 : Nat) : Int) = (k : Int) + 1 := by omega
    have gG := g_Gates g hW' (k : Int)
    have gR := g_Rights g hW' (k : Int)
    have gI := r_In (h := h) ((G.cut gate).1.gatesC (k : Int)) (lstA 3 (intsA ((G.cut gate).1.gatesC (k : Int)))) (isL_lst _ _) (gates_few hW' _) gate
    have hix : ixaR (some 3) none (.msl q 0 G.nodes.length 3) (.int .i64 (k : Int)) = some (.ptr q k 0) := by
      rw [ix_msl rfl hkl, Nat.zero_add]
    have hrow : (intsA (rightsL G G.nodes.length))[k]? = some [.int .i64 (G.rights (k : Int))] := by simp [rightsL, hkl]
    cases hth : ((G.cut gate).1.gatesC (k : Int)).contains gate
    · have hr : (G.cut gate).1.rights (k : Int) = G.rights (k : Int) := not_through hgt (by rw [← gates_same _ hn]; exact hth)
      rw [hr] at gR
      obtain ⟨w10, w11, w19, w20, r1⟩ := ih (k + 1) (.bool false) (.bool true) (.bool false) (by omega)
      refine ⟨w10, w11, w19, w20, ?_⟩
      rw [e1] at r1
      rw [r_lpb rc_GraphCuts_b3.eq_1]
      simp only [sim, List.length_cons, List.length_nil, Nat.reduceAdd, Nat.reduceSub, List.replicate, List.cons_append, List.nil_append, List.map_cons, List.map_nil, Option.bind_some, Option.map_some, Option.bind_none, Option.map_none, if_true, if_false, decide_true, decide_false, Bool.false_eq_true, Bool.true_eq_false, Bool.not_true, Bool.not_false, reduceCtorEq, Bool.and_true, Bool.true_and, Bool.and_false, Bool.false_and, Bool.or_true, Bool.true_or, Bool.or_false, Bool.false_or, true_and, and_true, false_and, and_false, List.take_zero, List.take_succ_cons, List.drop_zero, List.drop_succ_cons, List.take_nil, List.drop_nil, List.set_cons_zero, List.set_cons_succ, Nat.reduceLeDiff, Nat.reduceLT, Nat.zero_add, Nat.lt_add_one, Nat.le_refl, clearA, Int.toNat_natCast, hlt, gG, gI, hth, gR, hix, hq, hrow, eq_self, hwr]
      exact r1
    · have hr : (G.cut gate).1.rights (k : Int) = 0 := through_none h0 hs hth
      rw [hr] at gR
      obtain ⟨w10, w11, w19, w20, r1⟩ := ih (k + 1) (.bool true) (.bool true) (.bool false) (by omega)
      refine ⟨w10, w11, w19, w20, ?_⟩
      rw [e1] at r1
      rw [r_lpb rc_GraphCuts_b3.eq_1]
      simp only [sim, List.length_cons, List.length_nil, Nat.reduceAdd, Nat.reduceSub, List.replicate, List.cons_append, List.nil_append, List.map_cons, List.map_nil, Option.bind_some, Option.map_some, Option.bind_none, Option.map_none, if_true, if_false, decide_true, decide_false, Bool.false_eq_true, Bool.true_eq_false, Bool.not_true, Bool.not_false, reduceCtorEq, Bool.and_true, Bool.true_and, Bool.and_false, Bool.false_and, Bool.or_true, Bool.true_or, Bool.or_false, Bool.false_or, true_and, and_true, false_and, and_false, List.take_zero, List.take_succ_cons, List.drop_zero, List.drop_succ_cons, List.take_nil, List.drop_nil, List.set_cons_zero, List.set_cons_succ, Nat.reduceLeDiff, Nat.reduceLT, Nat.zero_add, Nat.lt_add_one, Nat.le_refl, clearA, Int.toNat_natCast, hlt, gG, gI, hth, gR, eq_self, hwr]
      exact r1

theorem cuts_after (gate : Int) (h0 : 0 ≤ gate) (hs : G.shut.getD gate.toNat false = true) (t : One hz h b G) (hW : G.Wf) (v0 v1 v5 v6 v7 v8 v9 v10 v11 v12 v14 v15 v16 v17 v18 v19 v20 v21 : AV) (K : List RK) : ∀ (d k : Nat) (v22 v23 : AV), k + d = G.nodes.length →
    ∃ w13 w22 w23, runR (runF Try.prog po) 24 (.lp rc_GraphCuts_b1 :: .ss [] :: .blk 8 :: K) [v0, v1, .int .i64 gate, .bool false, .ptr b 0 0, v5, v6, v7, v8, v9, v10, v11, v12, .int .i64 (k : Int), v14, v15, v16, v17, v18, v19, v20, v21, v22, v23] [] h = runR (runF Try.prog po) 24 K [v0, v1, .int .i64 gate, .bool false, .ptr b 0 0, v5, v6, v7, v8, v9, v10, v11, v12, w13, v14, v15, v16, v17, v18, v19, v20, v21, w22, w23] [] h := by
  have hfew := hW.few
  obtain ⟨F, J, g⟩ := t.isG
  have gN := g_Nodes g hW
  have hl := isL_lst tN (G.nodes.map nodeA)
  intro d
  induction d with
  | zero =>
    intro k v22 v23 hk
    have hkn : k = G.nodes.length := by omega
    subst hkn
    refine ⟨.int .i64 (G.nodes.length : Int), .bool false, v23, ?_⟩
    rw [r_lpb rc_GraphCuts_b1.eq_1]
    simp only [sim, List.length_cons, List.length_nil, Nat.reduceAdd, Nat.reduceSub, List.replicate, List.cons_append, List.nil_append, List.map_cons, List.map_nil, Option.bind_some, Option.map_some, Option.bind_none, Option.map_none, if_true, if_false, decide_true, decide_false, Bool.false_eq_true, Bool.true_eq_false, Bool.not_true, Bool.not_false, reduceCtorEq, Bool.and_true, Bool.true_and, Bool.and_false, Bool.false_and, Bool.or_true, Bool.true_or, Bool.or_false, Bool.false_or, true_and, and_true, false_and, and_false, List.take_zero, List.take_succ_cons, List.drop_zero, List.drop_succ_cons, List.take_nil, List.drop_nil, List.set_cons_zero, List.set_cons_succ, Nat.reduceLeDiff, Nat.reduceLT, Nat.zero_add, Nat.lt_add_one, Nat.le_refl, clearA, Int.toNat_natCast, gN, hl.len, hl.fits, List.length_map, Int.lt_irrefl]
  | succ d ih =>
    intro k v22 v23 hk
    have hlt : (k : Int) < (G.nodes.length : Int) := by omega
    have hwr := w64 (n := (k : Int) + 1) (by omega) (by omega)
    have e1 : ((k + 1 : Nat) : Int) = (k : Int) + 1 := by omega
    have gG := g_Gates g hW (k : Int)
    have gR := g_Rights g hW (k : Int)
    have gI := r_In (h := h) (G.gatesC (k : Int)) (lstA 3 (intsA (G.gatesC (k : Int)))) (isL_lst _ _) (gates_few hW _) gate
    obtain ⟨w13, w22, w23, r1⟩ := ih (k + 1) (.bool true) (.bool false) (by omega)
    refine ⟨w13, w22, w23, ?_⟩
    rw [e1] at r1
    rw [r_lpb rc_GraphCuts_b1.eq_1]
    cases hth : (G.gatesC (k : Int)).contains gate
    · simp only [sim, List.length_cons, List.length_nil, Nat.reduceAdd, Nat.reduceSub, List.replicate, List.cons_append, List.nil_append, List.map_cons, List.map_nil, Option.bind_some, Option.map_some, Option.bind_none, Option.map_none, if_true, if_false, decide_true, decide_false, Bool.false_eq_true, Bool.true_eq_false, Bool.not_true, Bool.not_false, reduceCtorEq, Bool.and_true, Bool.true_and, Bool.and_false, Bool.false_and, Bool.or_true, Bool.true_or, Bool.or_false, Bool.false_or, true_and, and_true, false_and, and_false, List.take_zero, List.take_succ_cons, List.drop_zero, List.drop_succ_cons, List.take_nil, List.drop_nil, List.set_cons_zero, List.set_cons_succ, Nat.reduceLeDiff, Nat.reduceLT, Nat.zero_add, Nat.lt_add_one, Nat.le_refl, clearA, Int.toNat_natCast, gN, hl.len, hl.fits, List.length_map, hlt, gG, gI, hth, hwr]
      exact r1
    · have hr : G.rights (k : Int) = 0 := through_none h0 hs hth
      rw [hr] at gR
      simp only [sim, List.length_cons, List.length_nil, Nat.reduceAdd, Nat.reduceSub, List.replicate, List.cons_append, List.nil_append, List.map_cons, List.map_nil, Option.bind_some, Option.map_some, Option.bind_none, Option.map_none, if_true, if_false, decide_true, decide_false, Bool.false_eq_true, Bool.true_eq_false, Bool.not_true, Bool.not_false, reduceCtorEq, Bool.and_true, Bool.true_and, Bool.and_false, Bool.false_and, Bool.or_true, Bool.true_or, Bool.or_false, Bool.false_or, true_and, and_true, false_and, and_false, List.take_zero, List.take_succ_cons, List.drop_zero, List.drop_succ_cons, List.take_nil, List.drop_nil, List.set_cons_zero, List.set_cons_succ, Nat.reduceLeDiff, Nat.reduceLT, Nat.zero_add, Nat.lt_add_one, Nat.le_refl, clearA, Int.toNat_natCast, gN, hl.len, hl.fits, List.length_map, hlt, gG, gI, hth, gR, eq_self, hwr]
      exact r1

theorem GraphCuts_run (v0 v1 : AV) (gate : Int) (rows rows2 : List (List Int)) (hv : IsL 62 v0 (rows.map i64r)) (h5 : ∀ r ∈ rows, r.length = 5) (hv2 : IsL 62 v1 (rows2.map i64r)) (h52 : ∀ r ∈ rows2, r.length = 5) :
    runF Try.prog po 11 [v0, v1, .int .i64 gate] h = some (.inl (.bool true), h) := by
  obtain ⟨_, n1, rfl⟩ := g_New (h := h)
  cases hd : decide ((150 : Int) < (rows.length : Int))
  · cases hd2 : decide ((100 : Int) < (rows2.length : Int))
    · have hl : rows.length ≤ 150 := by simp at hd; omega
      have hl2 : rows2.length ≤ 100 := by simp at hd2; omega
      obtain ⟨h1, G, w5, w16, r1, t1, hW, -⟩ := cuts_steps1 (b := h.n) v0 rows hv (by omega) h5 v1 (.int .i64 gate) (.bool false) .junk .junk .junk .junk .junk .junk .junk .junk (.bool false) (.bool false) .junk .junk .junk .junk .junk .junk .junk [.ss [(.ops [(.i .l (.mv (.v 4))), (.i .l (.call (.c (.fn 34 [] [])) [(.l 0)])), (.i .l (.len false (some 65) (.l 0))), (.i (.v 6) (.mv (.l 0)))]), (.ops [(.i .l (.mv (.v 6))), (.i .l (.mks 3 [(.int .i64 0)] (.l 0) (.l 0))), (.i (.v 7) (.mv (.l 0)))]), (.ops [(.i (.v 8) (.mv (.c (.int .i64 0))))]), (.block 2 [(.loop rc_GraphCuts_b4)]), (.ops [(.i .l (.mv (.v 4))), (.i .l (.mv (.v 2))), (.i .l (.call (.c (.fn 48 [] [])) [(.l 1), (.l 0)])), (.i (.v 9) (.mv (.l 0)))]), (.ops [(.i .l (.mv (.v 9))), (.i (.v 18) (.bin (.int .i64) .neq (.l 0) (.c (.int .i64 0))))]), (.cond (.v 18) [(.ops [(.i .l (.mv (.v 9))), (.i .l (.bin (.int .i64) .eql (.l 0) (.c (.int .i64 8)))), (.i .l (.mv (.l 0))), (.g (.l 0) true .l (.mv (.v 4))), (.g (.l 1) true .l (.mv (.v 2))), (.g (.l 2) true .l (.call (.c (.fn 44 [] [])) [(.l 1), (.l 0)])), (.g (.l 3) true .l (.un .not (.l 0))), (.i .l (.pick (.l 4) (.l 0) (.c (.bool false)))), (.i (.v 3) (.mv (.l 0)))]), .ret] []), (.ops [(.i (.v 10) (.mv (.c (.int .i64 0))))]), (.block 4 [(.loop rc_GraphCuts_b3)]), (.ops [(.i (.v 12) (.mv (.c (.int .i64 0))))]), (.block 6 [(.loop rc_GraphCuts_b2)]), (.ops [(.i (.v 13) (.mv (.c (.int .i64 0))))]), (.block 8 [(.loop rc_GraphCuts_b1)]), (.ops [(.i .l (.mv (.v 4))), (.i .l (.mv (.v 2))), (.i .l (.call (.c (.fn 46 [] [])) [(.l 1), (.l 0)])), (.i .l (.un .not (.l 0))), (.i (.v 3) (.mv (.l 0)))]), .ret]] rows [] _ ⟨[], []⟩ .junk rfl (One.new (GrewA.refl h)) wf_nil
      simp only [List.length_nil, Int.natCast_zero] at r1
      have hfew := hW.few
      obtain ⟨F, J, g⟩ := t1.isG
      have gN := g_Nodes g hW
      have hl1 := isL_lst tN (G.nodes.map nodeA)
      have hmk : mksR 3 [.int .i64 0] (.int .i64 (G.nodes.length : Int)) (.int .i64 (G.nodes.length : Int)) h1 = some (.msl h1.n 0 G.nodes.length 3, h1.push (intsA (rightsL G 0 ++ List.replicate G.nodes.length 0))) := by
        have h1 : (0 : Int) ≤ (G.nodes.length : Int) := by omega
        have h2 : (G.nodes.length : Int) ≤ 100000 := by omega
        simp [mksR, h1, h2, rightsL]
      obtain ⟨w8, w17, r2⟩ := cuts_note t1 hW v0 v1 (.int .i64 gate) (.bool false) w5 .junk .junk .junk .junk .junk (.bool false) (.bool false) w16 .junk .junk .junk .junk .junk .junk [.ss [(.ops [(.i .l (.mv (.v 4))), (.i .l (.mv (.v 2))), (.i .l (.call (.c (.fn 48 [] [])) [(.l 1), (.l 0)])), (.i (.v 9) (.mv (.l 0)))]), (.ops [(.i .l (.mv (.v 9))), (.i (.v 18) (.bin (.int .i64) .neq (.l 0) (.c (.int .i64 0))))]), (.cond (.v 18) [(.ops [(.i .l (.mv (.v 9))), (.i .l (.bin (.int .i64) .eql (.l 0) (.c (.int .i64 8)))), (.i .l (.mv (.l 0))), (.g (.l 0) true .l (.mv (.v 4))), (.g (.l 1) true .l (.mv (.v 2))), (.g (.l 2) true .l (.call (.c (.fn 44 [] [])) [(.l 1), (.l 0)])), (.g (.l 3) true .l (.un .not (.l 0))), (.i .l (.pick (.l 4) (.l 0) (.c (.bool false)))), (.i (.v 3) (.mv (.l 0)))]), .ret] []), (.ops [(.i (.v 10) (.mv (.c (.int .i64 0))))]), (.block 4 [(.loop rc_GraphCuts_b3)]), (.ops [(.i (.v 12) (.mv (.c (.int .i64 0))))]), (.block 6 [(.loop rc_GraphCuts_b2)]), (.ops [(.i (.v 13) (.mv (.c (.int .i64 0))))]), (.block 8 [(.loop rc_GraphCuts_b1)]), (.ops [(.i .l (.mv (.v 4))), (.i .l (.mv (.v 2))), (.i .l (.call (.c (.fn 46 [] [])) [(.l 1), (.l 0)])), (.i .l (.un .not (.l 0))), (.i (.v 3) (.mv (.l 0)))]), .ret]] G.nodes.length 0 .junk (by omega)
      simp only [Int.natCast_zero] at r2
      have px := GrewA.push h1 (intsA (rightsL G G.nodes.length))
      obtain ⟨F2, J2, g20, a1, a2, a30⟩ := t1
      have g2 := g20.grew px
      have a3 := a30.trans px
      cases hgt : G.hasGate gate
      · have hc : G.cut gate = (G, 8) := by unfold GraphD.cut; rw [if_neg (by simp [hgt])]
        obtain ⟨h2, c1, d1⟩ := g_Cut g2 gate
        rw [hc] at c1 d1
        simp only at c1 d1
        obtain ⟨F3, J3, g3, c3, b1, b2⟩ := d1
        have gH := g_Has g3 gate
        rw [hgt] at gH
        have hall : GrewA h h2 := Chg.new a3 c3 a1 a2
        refine runF_R fn_GraphCuts rfl ?_; unfold rc_GraphCuts
        simp only [sim, List.length_cons, List.length_nil, Nat.reduceAdd, Nat.reduceSub, List.replicate, List.cons_append, List.nil_append, List.map_cons, List.map_nil, Option.bind_some, Option.map_some, Option.bind_none, Option.map_none, if_true, if_false, decide_true, decide_false, Bool.false_eq_true, Bool.true_eq_false, Bool.not_true, Bool.not_false, reduceCtorEq, Bool.and_true, Bool.true_and, Bool.and_false, Bool.false_and, Bool.or_true, Bool.true_or, Bool.or_false, Bool.false_or, true_and, and_true, false_and, and_false, List.take_zero, List.take_succ_cons, List.drop_zero, List.drop_succ_cons, List.take_nil, List.drop_nil, List.set_cons_zero, List.set_cons_succ, Nat.reduceLeDiff, Nat.reduceLT, Nat.zero_add, Nat.lt_add_one, Nat.le_refl, clearA, Int.toNat_natCast, graph_begun, hv.len, hv.fits, hv2.len, hv2.fits, List.length_map, hd, hd2, n1]
        simp only [sim, List.length_cons, List.length_nil, Nat.reduceAdd, Nat.reduceSub, List.replicate, List.cons_append, List.nil_append, List.map_cons, List.map_nil, Option.bind_some, Option.map_some, Option.bind_none, Option.map_none, if_true, if_false, decide_true, decide_false, Bool.false_eq_true, Bool.true_eq_false, Bool.not_true, Bool.not_false, reduceCtorEq, Bool.and_true, Bool.true_and, Bool.and_false, Bool.false_and, Bool.or_true, Bool.true_or, Bool.or_false, Bool.false_or, true_and, and_true, false_and, and_false, List.take_zero, List.take_succ_cons, List.drop_zero, List.drop_succ_cons, List.take_nil, List.drop_nil, List.set_cons_zero, List.set_cons_succ, Nat.reduceLeDiff, Nat.reduceLT, Nat.zero_add, Nat.lt_add_one, Nat.le_refl, clearA, Int.toNat_natCast, r1, gN, hl1.len, hl1.fits, List.length_map, hmk, r2, c1, gH, eq_self, (by decide : decide ((8 : Int) = 0) = false), fg_yes hall (rfl : wkA (.bool true) = _)]
      · obtain ⟨hs, hn, hc0, h0⟩ := cut_shut hgt
        obtain ⟨h2, c1, d1⟩ := g_Cut g2 gate
        rw [hc0] at c1
        obtain ⟨F3, J3, g3, c3, b1, b2⟩ := d1
        have hq : h2.cell h1.n = some (intsA (rightsL G G.nodes.length)) := by
          rw [c3.cell h1.n (by simp [AH.push]) (fun hF => absurd (g20.lt.1 _ hF) (Nat.lt_irrefl _)), push_same]
        have t2 : One h h2 h.n (G.cut gate).1 := ⟨F3, J3, g3, fun k hk => by rcases b1 k hk with h' | h'; exact a1 k h'; exact Nat.le_trans a3.n h', fun j hj => by rcases b2 j hj with h' | h'; exact a2 j h'; exact Nat.le_trans a3.ids h', Chg.new a3 c3 a1 a2⟩
        have hW2 := hW.cut gate
        obtain ⟨w10, w11, w19, w20, r3⟩ := cuts_check gate hgt hW t2 h1.n hq v0 v1 w5 w8 (.int .i64 0) .junk .junk (.bool false) (.bool false) w16 w17 (.bool false) .junk .junk .junk [.ss [(.ops [(.i (.v 12) (.mv (.c (.int .i64 0))))]), (.block 6 [(.loop rc_GraphCuts_b2)]), (.ops [(.i (.v 13) (.mv (.c (.int .i64 0))))]), (.block 8 [(.loop rc_GraphCuts_b1)]), (.ops [(.i .l (.mv (.v 4))), (.i .l (.mv (.v 2))), (.i .l (.call (.c (.fn 46 [] [])) [(.l 1), (.l 0)])), (.i .l (.un .not (.l 0))), (.i (.v 3) (.mv (.l 0)))]), .ret]] G.nodes.length 0 .junk .junk .junk (by omega)
        simp only [Int.natCast_zero] at r3
        obtain ⟨h3, G3, w12, w21, r4, t3, hW3, later⟩ := cuts_steps2 v1 rows2 hv2 (by omega) h52 v0 (.int .i64 gate) (.bool false) w5 (.int .i64 G.nodes.length) (.msl h1.n 0 G.nodes.length 3) w8 (.int .i64 0) w10 w11 .junk (.bool false) (.bool false) w16 w17 (.bool false) w19 w20 .junk .junk [.ss [(.ops [(.i (.v 13) (.mv (.c (.int .i64 0))))]), (.block 8 [(.loop rc_GraphCuts_b1)]), (.ops [(.i .l (.mv (.v 4))), (.i .l (.mv (.v 2))), (.i .l (.call (.c (.fn 46 [] [])) [(.l 1), (.l 0)])), (.i .l (.un .not (.l 0))), (.i (.v 3) (.mv (.l 0)))]), .ret]] rows2 [] h2 (G.cut gate).1 .junk rfl t2 hW2
        simp only [List.length_nil, Int.natCast_zero] at r4
        have hs3 := later.shut.2 _ hs
        obtain ⟨w13, w22, w23, r5⟩ := cuts_after gate h0 hs3 t3 hW3 v0 v1 w5 (.int .i64 G.nodes.length) (.msl h1.n 0 G.nodes.length 3) w8 (.int .i64 0) w10 w11 w12 (.bool false) (.bool false) w16 w17 (.bool false) w19 w20 w21 [.ss [(.ops [(.i .l (.mv (.v 4))), (.i .l (.mv (.v 2))), (.i .l (.call (.c (.fn 46 [] [])) [(.l 1), (.l 0)])), (.i .l (.un .not (.l 0))), (.i (.v 3) (.mv (.l 0)))]), .ret]] G3.nodes.length 0 .junk .junk (by omega)
        simp only [Int.natCast_zero] at r5
        obtain ⟨F4, J4, g4⟩ := t3.isG
        have gO := g_Open g4 gate
        have ho : G3.isOpen gate = false := by simp only [GraphD.isOpen, hs3, Bool.not_true, Bool.and_false]
        rw [ho] at gO
        refine runF_R fn_GraphCuts rfl ?_; unfold rc_GraphCuts
        simp only [sim, List.length_cons, List.length_nil, Nat.reduceAdd, Nat.reduceSub, List.replicate, List.cons_append, List.nil_append, List.map_cons, List.map_nil, Option.bind_some, Option.map_some, Option.bind_none, Option.map_none, if_true, if_false, decide_true, decide_false, Bool.false_eq_true, Bool.true_eq_false, Bool.not_true, Bool.not_false, reduceCtorEq, Bool.and_true, Bool.true_and, Bool.and_false, Bool.false_and, Bool.or_true, Bool.true_or, Bool.or_false, Bool.false_or, true_and, and_true, false_and, and_false, List.take_zero, List.take_succ_cons, List.drop_zero, List.drop_succ_cons, List.take_nil, List.drop_nil, List.set_cons_zero, List.set_cons_succ, Nat.reduceLeDiff, Nat.reduceLT, Nat.zero_add, Nat.lt_add_one, Nat.le_refl, clearA, Int.toNat_natCast, graph_begun, hv.len, hv.fits, hv2.len, hv2.fits, List.length_map, hd, hd2, n1]
        simp only [sim, List.length_cons, List.length_nil, Nat.reduceAdd, Nat.reduceSub, List.replicate, List.cons_append, List.nil_append, List.map_cons, List.map_nil, Option.bind_some, Option.map_some, Option.bind_none, Option.map_none, if_true, if_false, decide_true, decide_false, Bool.false_eq_true, Bool.true_eq_false, Bool.not_true, Bool.not_false, reduceCtorEq, Bool.and_true, Bool.true_and, Bool.and_false, Bool.false_and, Bool.or_true, Bool.true_or, Bool.or_false, Bool.false_or, true_and, and_true, false_and, and_false, List.take_zero, List.take_succ_cons, List.drop_zero, List.drop_succ_cons, List.take_nil, List.drop_nil, List.set_cons_zero, List.set_cons_succ, Nat.reduceLeDiff, Nat.reduceLT, Nat.zero_add, Nat.lt_add_one, Nat.le_refl, clearA, Int.toNat_natCast, r1, gN, hl1.len, hl1.fits, List.length_map, hmk, r2, c1, eq_self, r3, r4, r5, gO, fg_yes t3.all (rfl : wkA (.bool true) = _)]
    · refine runF_R fn_GraphCuts rfl ?_; unfold rc_GraphCuts
      simp only [sim, List.length_cons, List.length_nil, Nat.reduceAdd, Nat.reduceSub, List.replicate, List.cons_append, List.nil_append, List.map_cons, List.map_nil, Option.bind_some, Option.map_some, Option.bind_none, Option.map_none, if_true, if_false, decide_true, decide_false, Bool.false_eq_true, Bool.true_eq_false, Bool.not_true, Bool.not_false, reduceCtorEq, Bool.and_true, Bool.true_and, Bool.and_false, Bool.false_and, Bool.or_true, Bool.true_or, Bool.or_false, Bool.false_or, true_and, and_true, false_and, and_false, List.take_zero, List.take_succ_cons, List.drop_zero, List.drop_succ_cons, List.take_nil, List.drop_nil, List.set_cons_zero, List.set_cons_succ, Nat.reduceLeDiff, Nat.reduceLT, Nat.zero_add, Nat.lt_add_one, Nat.le_refl, clearA, Int.toNat_natCast, graph_begun, hv.len, hv.fits, hv2.len, hv2.fits, List.length_map, hd, hd2]
  · refine runF_R fn_GraphCuts rfl ?_; unfold rc_GraphCuts
    simp only [sim, List.length_cons, List.length_nil, Nat.reduceAdd, Nat.reduceSub, List.replicate, List.cons_append, List.nil_append, List.map_cons, List.map_nil, Option.bind_some, Option.map_some, Option.bind_none, Option.map_none, if_true, if_false, decide_true, decide_false, Bool.false_eq_true, Bool.true_eq_false, Bool.not_true, Bool.not_false, reduceCtorEq, Bool.and_true, Bool.true_and, Bool.and_false, Bool.false_and, Bool.or_true, Bool.true_or, Bool.or_false, Bool.false_or, true_and, and_true, false_and, and_false, List.take_zero, List.take_succ_cons, List.drop_zero, List.drop_succ_cons, List.take_nil, List.drop_nil, List.set_cons_zero, List.set_cons_succ, Nat.reduceLeDiff, Nat.reduceLT, Nat.zero_add, Nat.lt_add_one, Nat.le_refl, clearA, Int.toNat_natCast, graph_begun, hv.len, hv.fits, hv2.len, hv2.fits, List.length_map, hd]
end
theorem graphCuts_walk (A0 : Option Addr) (n0 cap0 : Nat) (rows0 : List (List Int)) (A1 : Option Addr) (n1 cap1 : Nat) (rows1 : List (List Int)) (gate : Int) (W : World) (hn0 : rows0.length = n0) (h50 : ∀ x ∈ rows0, x.length = 5) (hs0 : Sl W 5 A0 n0 cap0 (rows0.flatMap icells)) (hl0 : n0 ≤ 9223372036854775807)
    (hn1 : rows1.length = n1) (h51 : ∀ x ∈ rows1, x.length = 5) (hs1 : Sl W 5 A1 n1 cap1 (rows1.flatMap icells)) (hl1 : n1 ≤ 9223372036854775807) (hg : isI64 gate) :
    Law Try.prog 11 #[.slice A0 n0 cap0, .slice A1 n1 cap1, .int .i64 gate] W := by
  obtain ⟨h1, h2⟩ := vr_rows (P := Try.prog) (W := W) (e := 62) (k := 5) (by kernel_rfl) hn0 h50 hs0
  obtain ⟨h3, h4⟩ := vr_rows (P := Try.prog) (W := W) (e := 62) (k := 5) (by kernel_rfl) hn1 h51 hs1
  exact law_of (vs := [.slice A0 n0 cap0, .slice A1 n1 cap1, .int .i64 gate]) (GraphCuts_run _ _ gate rows0 rows1 h2 h50 h4 h51) (VRs.cons h1 (VRs.cons h3 (VRs.cons (vr_int gate) VRs.nil)))
end Go.Proofs.Ytacocolcighomaa
