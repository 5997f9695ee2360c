/- GraphWays in the plain model. -/
import Derived.Test.YtacocolcighomaaGraphS10
namespace Go.Proofs.Ytacocolcighomaa
set_option linter.unusedSimpArgs false
set_option linter.unusedVariables false
open Go

section
variable {hz h : AH} {b : Nat} {G : GraphD}

/-- a step beside an empty net -/
theorem one_stepF (x : StepD) {F J : Nat → Prop} (g : IsG h F J b G) (a1 : ∀ k, F k → hz.n ≤ k) (a2 : ∀ j, J j → hz.ids ≤ j) (a3 : GrewA hz h) (hW : G.Wf) : ∃ h' v, runF Try.prog po 35 [.ptr b 0 0, .ptr h.n 0 0, .agg (stepA x)] (h.push [[.nils, .nils]]) = some (.inl (.bool v), h') ∧ One hz h' b (G.step x).1 ∧ h.n < h'.n ∧ ∀ k, k < h.n → ¬ F k → h'.cell k = h.cell k := by
  have gx := GrewA.push h [[AV.nils, .nils]]
  have hn := a3.n
  obtain ⟨h', r1, ⟨F', J', F2', J2', g', n', c1, c2, c3, c4, c5⟩, cg⟩ := graph_step x (g.grew gx) (isG_new h) (fun k hk hk2 => by have := g.lt.1 k hk; omega) (fun j _ hj => hj.elim) (fun k hk => by rcases hk with hk | hk; exact a1 k hk; omega) (fun j hj => by rcases hj with hj | hj; exact a2 j hj; exact hj.elim) (a3.trans gx) hW wf_nil
  have hlt : h.n < h'.n := by have := cg.n; simp [AH.push] at this; omega
  refine ⟨h', _, r1, ⟨F', J', g', fun k hk => c3 k (.inl hk), fun j hj => c4 j (.inl hj), c5⟩, hlt, fun k hk hno => ?_⟩
  rw [cg.cell k (by simp [AH.push]; omega) (fun hk2 => ?_), push_lt hk]
  rcases hk2 with hk2 | hk2
  · exact hno hk2
  · omega
theorem one_step (x : StepD) (t : One hz h b G) (hW : G.Wf) : ∃ h' v, runF Try.prog po 35 [.ptr b 0 0, .ptr h.n 0 0, .agg (stepA x)] (h.push [[.nils, .nils]]) = some (.inl (.bool v), h') ∧ One hz h' b (G.step x).1 := by
  obtain ⟨F, J, g, a1, a2, a3⟩ := t
  obtain ⟨h', v, r, t', _, _⟩ := one_stepF x g a1 a2 a3 hW
  exact ⟨h', v, r, t'⟩

theorem lst_take {e : TypeId} {rows : List (List AV)} {k : Nat} (hk : k ≤ rows.length) : ∃ v, sliceA (lstA e rows) none (some (.int .i64 (k : Int))) = some v ∧ IsL e v (rows.take k) := by
  unfold lstA
  by_cases hz : rows = []
  · subst hz
    have : k = 0 := by simpa using hk
    subst this
    exact ⟨.nils, by simp [sliceA, loA, hiA, lenA, cutA], isL_nils e⟩
  · rw [if_neg hz]
    refine ⟨.isl none e (rows.take k), ?_, isL_isl _ _ _⟩
    have : ((k : Int) ≤ (rows.length : Int)) := by omega
    simp [sliceA, loA, hiA, lenA, cutA, hk]
theorem lst_drop {e : TypeId} {rows : List (List AV)} {k : Nat} (hk : k ≤ rows.length) : ∃ v, sliceA (lstA e rows) (some (.int .i64 (k : Int))) none = some v ∧ IsL e v (rows.drop k) := by
  unfold lstA
  by_cases hz : rows = []
  · subst hz
    have : k = 0 := by simpa using hk
    subst this
    exact ⟨.nils, by simp [sliceA, loA, hiA, lenA, cutA], isL_nils e⟩
  · rw [if_neg hz]
    refine ⟨.isl none e (rows.drop k), ?_, isL_isl _ _ _⟩
    have h2 : (rows.drop k).take (rows.length - k) = rows.drop k := List.take_of_length_le (by simp)
    simp [sliceA, loA, hiA, lenA, cutA, hk, h2]

theorem ways_loop1 (t : One hz h b G) (hW : G.Wf) (v0 v3 v4 v5 v10 v11 v12 v13 v14 : AV) : ∀ (d k : Nat) (h' : AH) (v8 v9 v15 v16 v17 : AV) (K : List RK), k + d = G.nodes.length → GrewA h h' →
    ∃ h'' w7 w8 w9 w15 w16 w17, runR (runF Try.prog po) 18 (.lp rc_GraphWays_b1 :: .ss [] :: .blk 2 :: K) [v0, .bool false, .ptr b 0 0, v3, v4, v5, lstA tN (G.nodes.map nodeA), .int .i64 (k : Int), v8, v9, v10, v11, v12, v13, v14, v15, v16, v17] [] h' =
      runR (runF Try.prog po) 18 K [v0, .bool false, .ptr b 0 0, v3, v4, v5, lstA tN (G.nodes.map nodeA), w7, w8, w9, v10, v11, v12, v13, v14, w15, w16, w17] [] h'' ∧ GrewA h h'' := by
  have hl := isL_lst tN (G.nodes.map nodeA)
  have hfew := hW.few
  obtain ⟨F, J, g0⟩ := t.isG
  intro d
  induction d with
  | zero =>
    intro k h' v8 v9 v15 v16 v17 K hk hg
    have hlt : ¬ ((k : Int) < (G.nodes.length : Int)) := by omega
    refine ⟨h', .int .i64 (k : Int), v8, v9, .bool false, v16, v17, ?_, hg⟩
    rw [r_lpb rc_GraphWays_b1.eq_1]
    simp only [sim, List.length_cons, List.length_nil, Nat.reduceAdd, Nat.reduceSub, List.replicate, List.cons_append, List.nil_append, List.map_cons, List.map_nil, Option.bind_some, Option.map_some, Option.bind_none, Option.map_none, if_true, if_false, decide_true, decide_false, Bool.false_eq_true, Bool.true_eq_false, Bool.not_true, Bool.not_false, reduceCtorEq, Bool.and_true, Bool.true_and, Bool.and_false, Bool.false_and, Bool.or_true, Bool.true_or, Bool.or_false, Bool.false_or, true_and, and_true, false_and, and_false, List.take_zero, List.take_succ_cons, List.drop_zero, List.drop_succ_cons, List.take_nil, List.drop_nil, List.set_cons_zero, List.set_cons_succ, Nat.reduceLeDiff, Nat.reduceLT, Nat.zero_add, Nat.lt_add_one, Nat.le_refl, clearA, Int.toNat_natCast, hl.len, hl.fits, List.length_map, hlt]
  | succ d ih =>
    intro k h' v8 v9 v15 v16 v17 K hk hg
    have hlt : (k : Int) < (G.nodes.length : Int) := by omega
    have hh : G.has (k : Int) = true := by simp [GraphD.has]; omega
    have hwr := w64 (n := (k : Int) + 1) (by omega) (by omega)
    have e1 : ((k + 1 : Nat) : Int) = (k : Int) + 1 := by omega
    have g := g0.grew hg
    have gT := g_Target g hW (k : Int)
    obtain ⟨o1, o2, o3⟩ := GraphD.target_ok hW hh
    obtain ⟨m, hm0, hm, hm2⟩ := GraphD.node_nat hh
    have hmk : k = m := by omega
    subst hmk
    have ok := hW.get hh
    have hix := hl.ix .i64 k _ hm2
    have q1 := ok.p1
    have q0 := ok.p0
    have q2 := ok.r
    simp only [Int.toNat_natCast] at q0 q1 q2
    have r1 : decide ((k : Int) ≤ (G.nodes.getD k zeroN).parent) = false := by rw [decide_eq_false_iff_not]; omega
    have r2 : decide ((G.nodes.getD k zeroN).parent < -1) = false := by rw [decide_eq_false_iff_not]; omega
    have r3 : decide ((G.nodes.getD k zeroN).rights < 0) = false := by simp only [checkI, decide_eq_true_eq] at q2; rw [decide_eq_false_iff_not]; omega
    have r4 : decide (15 < (G.nodes.getD k zeroN).rights) = false := by simp only [checkI, decide_eq_true_eq] at q2; rw [decide_eq_false_iff_not]; omega
    have r5 : decide ((G.target (k : Int)).1.parent = -1) = true := by rw [o2]; rfl
    have p1 := GrewA.push h' [nodeA (G.target (k : Int)).1]
    obtain ⟨h'', w7, w8, w9, w15, w16, w17, s1, s2⟩ := ih (k + 1) (h'.push [nodeA (G.target (k : Int)).1]) (.ptr h'.n 0 0) (.bool true) (.bool true) (.bool false) (.bool false) K (by omega) (hg.trans p1)
    refine ⟨h'', w7, w8, w9, w15, w16, w17, ?_, s2⟩
    rw [e1] at s1
    rw [r_lpb rc_GraphWays_b1.eq_1]
    rcases o3 with ⟨u1, u2, u3, u4⟩ | ⟨u1, u2, u3, u4, u5⟩
    · have f1 : decide ((G.target (k : Int)).1.plugin < 0) = true := by rw [u1]; rfl
      have f2 : decide ((G.target (k : Int)).1.cell < 0) = false := by rw [decide_eq_false_iff_not]; omega
      have f3 : decide (12 ≤ (G.target (k : Int)).1.cell) = false := by rw [decide_eq_false_iff_not]; omega
      have f4 : decide (4 ≤ (G.target (k : Int)).1.plugin) = false := by rw [u1]; rfl
      have f5 : decide ((G.target (k : Int)).1.func < 0) = false := by rw [u4]; rfl
      have f6 : decide (6 ≤ (G.target (k : Int)).1.func) = false := by rw [u4]; rfl
      simp only [sim, List.length_cons, List.length_nil, Nat.reduceAdd, Nat.reduceSub, List.replicate, List.cons_append, List.nil_append, List.map_cons, List.map_nil, Option.bind_some, Option.map_some, Option.bind_none, Option.map_none, if_true, if_false, decide_true, decide_false, Bool.false_eq_true, Bool.true_eq_false, Bool.not_true, Bool.not_false, reduceCtorEq, Bool.and_true, Bool.true_and, Bool.and_false, Bool.false_and, Bool.or_true, Bool.true_or, Bool.or_false, Bool.false_or, true_and, and_true, false_and, and_false, List.take_zero, List.take_succ_cons, List.drop_zero, List.drop_succ_cons, List.take_nil, List.drop_nil, List.set_cons_zero, List.set_cons_succ, Nat.reduceLeDiff, Nat.reduceLT, Nat.zero_add, Nat.lt_add_one, Nat.le_refl, clearA, Int.toNat_natCast, hl.len, hl.fits, List.length_map, hlt, gT, o1, nodeS, hix, r1, r2, r3, r4, r5, f1, f2, f3, f4, f5, f6, hwr]
      exact s1
    · have f1 : decide ((G.target (k : Int)).1.plugin < 0) = false := by rw [decide_eq_false_iff_not]; omega
      have f4 : decide (4 ≤ (G.target (k : Int)).1.plugin) = false := by rw [decide_eq_false_iff_not]; omega
      have f5 : decide ((G.target (k : Int)).1.func < 0) = false := by rw [decide_eq_false_iff_not]; omega
      have f6 : decide (6 ≤ (G.target (k : Int)).1.func) = false := by rw [decide_eq_false_iff_not]; omega
      simp only [sim, List.length_cons, List.length_nil, Nat.reduceAdd, Nat.reduceSub, List.replicate, List.cons_append, List.nil_append, List.map_cons, List.map_nil, Option.bind_some, Option.map_some, Option.bind_none, Option.map_none, if_true, if_false, decide_true, decide_false, Bool.false_eq_true, Bool.true_eq_false, Bool.not_true, Bool.not_false, reduceCtorEq, Bool.and_true, Bool.true_and, Bool.and_false, Bool.false_and, Bool.or_true, Bool.true_or, Bool.or_false, Bool.false_or, true_and, and_true, false_and, and_false, List.take_zero, List.take_succ_cons, List.drop_zero, List.drop_succ_cons, List.take_nil, List.drop_nil, List.set_cons_zero, List.set_cons_succ, Nat.reduceLeDiff, Nat.reduceLT, Nat.zero_add, Nat.lt_add_one, Nat.le_refl, clearA, Int.toNat_natCast, hl.len, hl.fits, List.length_map, hlt, gT, o1, nodeS, hix, r1, r2, r3, r4, r5, f1, f4, f5, f6, hwr]
      exact s1

theorem ways_loop2 (v0 : AV) (rows : List (List Int)) (hv : IsL 62 v0 (rows.map i64r)) (hl : rows.length ≤ 1000) (h5 : ∀ r ∈ rows, r.length = 5) (v6 v7 v8 v9 v10 v11 v12 v15 v16 v17 : AV) (K : List RK) : ∀ (l pre : List (List Int)) (h : AH) (G : GraphD) (v4 v5 v13 v14 : AV), rows = pre ++ l → One hz h b G → G.Wf →
    ∃ h' G' w3 w4 w5 w13 w14, runR (runF Try.prog po) 18 (.lp rc_GraphWays_b2 :: .ss [] :: .blk 0 :: K) [v0, .bool false, .ptr b 0 0, .int .i64 pre.length, v4, v5, v6, v7, v8, v9, v10, v11, v12, v13, v14, v15, v16, v17] [] h =
      runR (runF Try.prog po) 18 K [v0, .bool false, .ptr b 0 0, w3, w4, w5, v6, v7, v8, v9, v10, v11, v12, w13, w14, v15, v16, v17] [] h' ∧ One hz h' b G' ∧ G'.Wf := by
  intro l
  induction l with
  | nil =>
    intro pre h G v4 v5 v13 v14 e t hW
    have hlt : ¬ ((pre.length : Int) < (rows.length : Int)) := by rw [e]; simp
    refine ⟨h, G, .int .i64 pre.length, v4, v5, .bool false, v14, ?_, t, hW⟩
    rw [r_lpb rc_GraphWays_b2.eq_1]
    simp only [sim, List.length_cons, List.length_nil, Nat.reduceAdd, Nat.reduceSub, List.replicate, List.cons_append, List.nil_append, List.map_cons, List.map_nil, Option.bind_some, Option.map_some, Option.bind_none, Option.map_none, if_true, if_false, decide_true, decide_false, Bool.false_eq_true, Bool.true_eq_false, Bool.not_true, Bool.not_false, reduceCtorEq, Bool.and_true, Bool.true_and, Bool.and_false, Bool.false_and, Bool.or_true, Bool.true_or, Bool.or_false, Bool.false_or, true_and, and_true, false_and, and_false, List.take_zero, List.take_succ_cons, List.drop_zero, List.drop_succ_cons, List.take_nil, List.drop_nil, List.set_cons_zero, List.set_cons_succ, Nat.reduceLeDiff, Nat.reduceLT, Nat.zero_add, Nat.lt_add_one, Nat.le_refl, clearA, Int.toNat_natCast, hv.len, hv.fits, List.length_map, hlt]
  | cons r l ih =>
    intro pre h G v4 v5 v13 v14 e t hW
    have hlt : (pre.length : Int) < (rows.length : Int) := by rw [e]; simp; omega
    have hr5 := h5 r (by rw [e]; simp)
    have hix := hv.ix .i64 pre.length (stepA (stepOf r)) (by rw [e, ← step_row hr5]; simp)
    have hwr := w64 (n := (pre.length : Int) + 1) (by omega) (by omega)
    have e2 : ((pre ++ [r]).length : Int) = (pre.length : Int) + 1 := by simp
    generalize stepOf r = x at hix
    obtain ⟨F, J, g⟩ := t.isG
    have gN := g_Nodes g hW
    obtain ⟨h', v, r1, t'⟩ := one_step x t hW
    have hW' := hW.step x
    obtain ⟨⟨ext, x1, x2⟩, -, -⟩ := G.step_nodes x
    generalize (G.step x).1 = G' at *
    obtain ⟨F', J', g'⟩ := t'.isG
    have gN' := g_Nodes g' hW'
    have hl1 := isL_lst tN (G.nodes.map nodeA)
    have hl2 := isL_lst tN (G'.nodes.map nodeA)
    have hlen : G'.nodes.length = G.nodes.length + ext.length := by rw [x1]; simp
    have hf := hW.few
    have hf' := hW'.few
    obtain ⟨w, s1, s2⟩ := lst_take (e := tN) (rows := G'.nodes.map nodeA) (k := G.nodes.length) (by simp; omega)
    have htk : (G'.nodes.map nodeA).take G.nodes.length = G.nodes.map nodeA := by rw [x1, List.map_append]; simp
    rw [htk] at s2
    have sN := r_SameNodes (h := h') G.nodes G.nodes w (lstA tN (G.nodes.map nodeA)) s2 hl1 (by omega)
    have d1 : decide ((G'.nodes.length : Int) < (G.nodes.length : Int)) = false := by rw [decide_eq_false_iff_not]; omega
    have d2 : decide ((G.nodes.length : Int) + 1 < (G'.nodes.length : Int)) = false := by rw [decide_eq_false_iff_not]; omega
    have d3 : decide (80 < (G'.nodes.length : Int)) = false := by rw [decide_eq_false_iff_not]; omega
    have hwr2 := w64 (n := (G.nodes.length : Int) + 1) (by omega) (by omega)
    obtain ⟨h'', G'', w3, w4, w5, w13, w14, y1, y2, y3⟩ := ih (pre ++ [r]) h' G' (lstA tN (G.nodes.map nodeA)) (lstA tN (G'.nodes.map nodeA)) (.bool true) (.bool false) (by simp [e]) t' hW'
    refine ⟨h'', G'', w3, w4, w5, w13, w14, ?_, y2, y3⟩
    rw [e2] at y1
    rw [r_lpb rc_GraphWays_b2.eq_1]
    simp only [sim, List.length_cons, List.length_nil, Nat.reduceAdd, Nat.reduceSub, List.replicate, List.cons_append, List.nil_append, List.map_cons, List.map_nil, Option.bind_some, Option.map_some, Option.bind_none, Option.map_none, if_true, if_false, decide_true, decide_false, Bool.false_eq_true, Bool.true_eq_false, Bool.not_true, Bool.not_false, reduceCtorEq, Bool.and_true, Bool.true_and, Bool.and_false, Bool.false_and, Bool.or_true, Bool.true_or, Bool.or_false, Bool.false_or, true_and, and_true, false_and, and_false, List.take_zero, List.take_succ_cons, List.drop_zero, List.drop_succ_cons, List.take_nil, List.drop_nil, List.set_cons_zero, List.set_cons_succ, Nat.reduceLeDiff, Nat.reduceLT, Nat.zero_add, Nat.lt_add_one, Nat.le_refl, clearA, Int.toNat_natCast, hv.len, hv.fits, List.length_map, hlt, gN, hix, stepS, r1, gN', hl1.len, hl1.fits, hl2.len, hl2.fits, d1, d2, d3, hwr2, s1, sN, hwr]
    exact y1
theorem GraphWays_run (v0 : AV) (rows : List (List Int)) (hv : IsL 62 v0 (rows.map i64r)) (h5 : ∀ r ∈ rows, r.length = 5) : runF Try.prog po 8 [v0] h = some (.inl (.bool true), h) := by
  obtain ⟨_, n1, rfl⟩ := g_New (h := h)
  cases hd : decide ((150 : Int) < (rows.length : Int))
  · have hl : rows.length ≤ 150 := by simp at hd; omega
    obtain ⟨h', G', w3, w4, w5, w13, w14, r1, t', hW'⟩ := ways_loop2 (b := h.n) v0 rows hv (by omega) h5 .junk .junk .junk .junk .junk (.bool false) (.bool false) .junk .junk .junk [.ss [(.ops [(.i .l (.mv (.v 2))), (.i .l (.call (.c (.fn 34 [] [])) [(.l 0)])), (.i (.v 6) (.mv (.l 0)))]), (.ops [(.i (.v 7) (.mv (.c (.int .i64 0))))]), (.block 2 [(.loop rc_GraphWays_b1)]), (.ops [(.i .l (.mv (.v 2))), (.i .l (.mv (.v 6))), (.i .l (.len false (some 65) (.l 0))), (.i .l (.call (.c (.fn 37 [] [])) [(.l 2), (.l 0)])), (.i .l (.mv (.l 0))), (.i .l (.ext (.l 0) 0)), (.i .l (.ext (.l 1) 1)), (.i .l (.alloc [(.int .i64 0), (.int .i64 0), (.int .i64 0), (.int .i64 0), (.int .i64 0), (.int .i64 0)])), (.i .n (.store 6 (.l 0) (.l 2))), (.i (.v 10) (.mv (.l 1)))]), (.ops [(.i .l (.mv (.v 10))), (.i .l (.un .not (.l 0))), (.i .l (.mv (.l 0))), (.g (.l 0) true .l (.mv (.v 2))), (.g (.l 1) true .l (.mv (.v 6))), (.g (.l 2) true .l (.len false (some 65) (.l 0))), (.g (.l 3) true .l (.call (.c (.fn 38 [] [])) [(.l 2), (.l 0)])), (.g (.l 4) true .l (.bin (.int .i64) .eql (.l 0) (.c (.int .i64 0)))), (.i .l (.pick (.l 5) (.l 0) (.c (.bool false)))), (.i .l (.mv (.l 0))), (.g (.l 0) true .l (.mv (.v 2))), (.g (.l 1) true .l (.call (.c (.fn 38 [] [])) [(.l 0), (.c (.int .i64 (-1)))])), (.g (.l 2) true .l (.bin (.int .i64) .eql (.l 0) (.c (.int .i64 0)))), (.i .l (.pick (.l 3) (.l 0) (.c (.bool false)))), (.i (.v 1) (.mv (.l 0)))]), .ret]] rows [] _ ⟨[], []⟩ .junk .junk .junk .junk rfl (One.new (GrewA.refl h)) wf_nil
    simp only [List.length_nil, Int.natCast_zero] at r1
    obtain ⟨F, J, g⟩ := t'.isG
    have gN := g_Nodes g hW'
    have hl' := isL_lst tN (G'.nodes.map nodeA)
    obtain ⟨h'', u7, u8, u9, u15, u16, u17, r2, x2⟩ := ways_loop1 t' hW' v0 w3 w4 w5 .junk (.bool false) (.bool false) w13 w14 G'.nodes.length 0 h' .junk .junk .junk .junk .junk [.ss [(.ops [(.i .l (.mv (.v 2))), (.i .l (.mv (.v 6))), (.i .l (.len false (some 65) (.l 0))), (.i .l (.call (.c (.fn 37 [] [])) [(.l 2), (.l 0)])), (.i .l (.mv (.l 0))), (.i .l (.ext (.l 0) 0)), (.i .l (.ext (.l 1) 1)), (.i .l (.alloc [(.int .i64 0), (.int .i64 0), (.int .i64 0), (.int .i64 0), (.int .i64 0), (.int .i64 0)])), (.i .n (.store 6 (.l 0) (.l 2))), (.i (.v 10) (.mv (.l 1)))]), (.ops [(.i .l (.mv (.v 10))), (.i .l (.un .not (.l 0))), (.i .l (.mv (.l 0))), (.g (.l 0) true .l (.mv (.v 2))), (.g (.l 1) true .l (.mv (.v 6))), (.g (.l 2) true .l (.len false (some 65) (.l 0))), (.g (.l 3) true .l (.call (.c (.fn 38 [] [])) [(.l 2), (.l 0)])), (.g (.l 4) true .l (.bin (.int .i64) .eql (.l 0) (.c (.int .i64 0)))), (.i .l (.pick (.l 5) (.l 0) (.c (.bool false)))), (.i .l (.mv (.l 0))), (.g (.l 0) true .l (.mv (.v 2))), (.g (.l 1) true .l (.call (.c (.fn 38 [] [])) [(.l 0), (.c (.int .i64 (-1)))])), (.g (.l 2) true .l (.bin (.int .i64) .eql (.l 0) (.c (.int .i64 0)))), (.i .l (.pick (.l 3) (.l 0) (.c (.bool false)))), (.i (.v 1) (.mv (.l 0)))]), .ret]] (by omega) (GrewA.refl h')
    simp only [Int.natCast_zero] at r2
    have g2 := g.grew x2
    have hno : G'.has (G'.nodes.length : Int) = false := by simp [GraphD.has]
    have hno2 : G'.has (-1) = false := by simp [GraphD.has]
    have gT := g_Target g2 hW' (G'.nodes.length : Int)
    have ht : G'.target (G'.nodes.length : Int) = (zeroN, false) := by simp [GraphD.target, GraphD.path_no hno]
    rw [ht] at gT
    simp only at gT
    have g3 := g2.grew (GrewA.push h'' [nodeA zeroN])
    have gR := g_Rights g3 hW' (G'.nodes.length : Int)
    have gR2 := g_Rights g3 hW' (-1)
    have e1 : G'.rights (G'.nodes.length : Int) = 0 := by unfold GraphD.rights; rw [if_pos (.inl (GraphD.path_no hno))]
    have e2 : G'.rights (-1) = 0 := by unfold GraphD.rights; rw [if_pos (.inl (GraphD.path_no hno2))]
    rw [e1] at gR
    rw [e2] at gR2
    have hall : GrewA h (h''.push [nodeA zeroN]) := (t'.all.trans x2).trans (GrewA.push _ _)
    refine runF_R fn_GraphWays rfl ?_; unfold rc_GraphWays
    simp only [sim, List.length_cons, List.length_nil, Nat.reduceAdd, Nat.reduceSub, List.replicate, List.cons_append, List.nil_append, List.map_cons, List.map_nil, Option.bind_some, Option.map_some, Option.bind_none, Option.map_none, if_true, if_false, decide_true, decide_false, Bool.false_eq_true, Bool.true_eq_false, Bool.not_true, Bool.not_false, reduceCtorEq, Bool.and_true, Bool.true_and, Bool.and_false, Bool.false_and, Bool.or_true, Bool.true_or, Bool.or_false, Bool.false_or, true_and, and_true, false_and, and_false, List.take_zero, List.take_succ_cons, List.drop_zero, List.drop_succ_cons, List.take_nil, List.drop_nil, List.set_cons_zero, List.set_cons_succ, Nat.reduceLeDiff, Nat.reduceLT, Nat.zero_add, Nat.lt_add_one, Nat.le_refl, clearA, Int.toNat_natCast, graph_begun, hv.len, hv.fits, List.length_map, hd, n1, r1, gN, r2, hl'.len, hl'.fits, gT, nodeS, gR, gR2, eq_self, fg_yes hall (rfl : wkA (.bool true) = _)]
  · refine runF_R fn_GraphWays rfl ?_; unfold rc_GraphWays
    simp only [sim, List.length_cons, List.length_nil, Nat.reduceAdd, Nat.reduceSub, List.replicate, List.cons_append, List.nil_append, List.map_cons, List.map_nil, Option.bind_some, Option.map_some, Option.bind_none, Option.map_none, if_true, if_false, decide_true, decide_false, Bool.false_eq_true, Bool.true_eq_false, Bool.not_true, Bool.not_false, reduceCtorEq, Bool.and_true, Bool.true_and, Bool.and_false, Bool.false_and, Bool.or_true, Bool.true_or, Bool.or_false, Bool.false_or, true_and, and_true, false_and, and_false, List.take_zero, List.take_succ_cons, List.drop_zero, List.drop_succ_cons, List.take_nil, List.drop_nil, List.set_cons_zero, List.set_cons_succ, Nat.reduceLeDiff, Nat.reduceLT, Nat.zero_add, Nat.lt_add_one, Nat.le_refl, clearA, Int.toNat_natCast, graph_begun, hv.len, hv.fits, List.length_map, hd]
end
theorem graphWays_walk (A : Option Addr) (n cap : Nat) (rows : List (List Int)) (W : World) (hn : rows.length = n) (h5 : ∀ x ∈ rows, x.length = 5) (hs : Sl W 5 A n cap (rows.flatMap icells)) (hlim : n ≤ 9223372036854775807) :
    Law Try.prog 8 #[.slice A n cap] W := by
  obtain ⟨h1, h2⟩ := vr_rows (P := Try.prog) (W := W) (e := 62) (k := 5) (by kernel_rfl) hn h5 hs
  exact law_of (vs := [.slice A n cap]) (GraphWays_run _ rows h2 h5) (VRs.cons h1 VRs.nil)
end Go.Proofs.Ytacocolcighomaa
