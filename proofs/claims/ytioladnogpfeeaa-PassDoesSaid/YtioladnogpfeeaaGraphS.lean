/- Graph and Net in the plain model: what each method that only looks answers. -/
import Derived.Test.YtioladnogpfeeaaHeapG
import Derived.Test.YtioladnogpfeeaaCGraph
import Derived.Test.YtioladnogpfeeaaSimLib
import Derived.Test.YtioladnogpfeeaaGraphLaw2
namespace Go.Proofs.Ytioladnogpfeeaa
set_option linter.unusedSimpArgs false
set_option linter.unusedVariables false
open Go

theorem nodeA_len (n : NodeD) : (nodeA n).length = 6 := rfl
theorem nodeA_one (n : NodeD) : (nodeA n).all AV.one = true := rfl
theorem nodeA_flat (n : NodeD) : (nodeA n).all flatA = true := rfl
theorem nodeA_0 (n : NodeD) : (nodeA n)[0]? = some (.int .i64 n.parent) := rfl
theorem nodeA_1 (n : NodeD) : (nodeA n)[1]? = some (.int .i64 n.gate) := rfl
theorem nodeA_2 (n : NodeD) : (nodeA n)[2]? = some (.int .i64 n.rights) := rfl
theorem nodeA_3 (n : NodeD) : (nodeA n)[3]? = some (.int .i64 n.cell) := rfl
theorem nodeA_4 (n : NodeD) : (nodeA n)[4]? = some (.int .i64 n.plugin) := rfl
theorem nodeA_5 (n : NodeD) : (nodeA n)[5]? = some (.int .i64 n.func) := rfl
theorem nodeS : (∀ n, (nodeA n).length = 6) ∧ (∀ n, (nodeA n).all AV.one = true) ∧ (∀ n : NodeD, (nodeA n)[0]? = some (.int .i64 n.parent)) ∧ (∀ n : NodeD, (nodeA n)[1]? = some (.int .i64 n.gate)) ∧ (∀ n : NodeD, (nodeA n)[2]? = some (.int .i64 n.rights)) ∧ (∀ n : NodeD, (nodeA n)[3]? = some (.int .i64 n.cell)) ∧
    (∀ n : NodeD, (nodeA n)[4]? = some (.int .i64 n.plugin)) ∧ (∀ n : NodeD, (nodeA n)[5]? = some (.int .i64 n.func)) := ⟨nodeA_len, nodeA_one, nodeA_0, nodeA_1, nodeA_2, nodeA_3, nodeA_4, nodeA_5⟩
theorem GrowV.isL {h : AH} {J : Nat → Prop} {e : TypeId} {v : AV} {rows : List (List AV)} (g : GrowV h J e v rows) : IsL e v rows := by
  rcases g with ⟨rfl, rfl⟩ | ⟨id, _, _, _, _, rfl⟩
  · exact isL_nils e
  · exact isL_isl _ _ _
theorem TurnV.len {h : AH} {F : Nat → Prop} {b : Nat} {e : TypeId} {v : AV} {rows : List (List AV)} (g : TurnV h F b e v rows) : lenA v = some rows.length ∧ ∀ s, fitsR s (some e) v = true := by
  rcases g with ⟨rfl, rfl⟩ | ⟨q, _, _, _, _, rfl⟩
  · exact ⟨rfl, fun s => rfl⟩
  · exact ⟨rfl, fun s => fits_msl⟩
theorem GrowV.grew {h h' : AH} {J : Nat → Prop} {e : TypeId} {v : AV} {rows : List (List AV)} (g : GrowV h J e v rows) (x : GrewA h h') : GrowV h' J e v rows := by
  rcases g with h1 | ⟨id, h1, h0, h2, h3, h4⟩
  · exact .inl h1
  · exact .inr ⟨id, h1, h0, Nat.lt_of_lt_of_le h2 x.ids, (x.hw id h2).trans h3, h4⟩
theorem TurnV.grew {h h' : AH} {F : Nat → Prop} {b : Nat} {e : TypeId} {v : AV} {rows : List (List AV)} (g : TurnV h F b e v rows) (x : GrewA h h') : TurnV h' F b e v rows := by
  rcases g with h1 | ⟨q, h1, h2, h3, h4, h5⟩
  · exact .inl h1
  · exact .inr ⟨q, h1, h2, Nat.lt_of_lt_of_le h3 x.n, (x.cell q h3).trans h4, h5⟩
theorem IsG.grew {h h' : AH} {F J : Nat → Prop} {b : Nat} {G : GraphD} (g : IsG h F J b G) (x : GrewA h h') : IsG h' F J b G := by
  obtain ⟨nv, sv, h1, h2, h3⟩ := g.ex
  exact ⟨⟨g.hb.1, Nat.lt_of_lt_of_le g.hb.2 x.n⟩, ⟨fun k hk => Nat.lt_of_lt_of_le (g.lt.1 k hk) x.n, fun j hj => Nat.lt_of_lt_of_le (g.lt.2 j hj) x.ids⟩, nv, sv, (x.cell b g.hb.2).trans h1, h2.grew x, h3.grew x⟩

theorem shut_at {h : AH} {F : Nat → Prop} {b : Nat} {sv : AV} {l : List Bool} (g : TurnV h F b tB sv (l.map fun x => [.bool x])) {m : Nat} (hm : m < l.length) :
    ∃ q, ixaR (some tB) none sv (.int .i64 (m : Int)) = some (.ptr q m 0) ∧ h.cell q = some (l.map fun x => [.bool x]) ∧ (l.map fun x => [AV.bool x])[m]? = some [.bool (l.getD m false)] ∧ F q ∧ q ≠ b ∧ q < h.n ∧ sv = .msl q 0 l.length tB := by
  rcases g with ⟨h1, _⟩ | ⟨q, h1, h2, h3, h4, rfl⟩
  · simp at h1; subst h1; simp at hm
  · exact ⟨q, by simp [ixaR, hm], h4, by simp [hm, List.getD], h1, h2, h3, by simp⟩
theorem GraphD.gate_nat {G : GraphD} {k : Int} (hh : G.hasGate k = true) : ∃ m : Nat, k = m ∧ m < G.shut.length := by
  simp [GraphD.hasGate] at hh
  exact ⟨k.toNat, by omega, by omega⟩
theorem GraphD.has_nn {G : GraphD} {k : Int} (hh : G.has k = true) : 0 ≤ k := by simp [GraphD.has] at hh; exact hh.1
theorem GraphD.node_nat {G : GraphD} {k : Int} (hh : G.has k = true) : ∃ m : Nat, k = m ∧ m < G.nodes.length ∧ (G.nodes.map nodeA)[m]? = some (nodeA (G.nodes.getD m zeroN)) := by
  simp [GraphD.has] at hh
  have hl : k.toNat < G.nodes.length := by omega
  exact ⟨k.toNat, by omega, hl, by simp [hl, List.getD]⟩

section
variable {h : AH} {F J : Nat → Prop} {b : Nat} {G : GraphD}

theorem g_Has (g : IsG h F J b G) (k : Int) : runF Try.prog po 81 [.ptr b 0 0, .int .i64 k] h = some (.inl (.bool (G.hasGate k)), h) := by
  obtain ⟨nv, sv, h1, -, h3⟩ := g.ex
  refine runF_R fn_gHas rfl ?_; unfold rc_gHas
  by_cases h0 : 0 ≤ k <;> simp only [sim, List.length_cons, List.length_nil, Nat.reduceAdd, Nat.reduceSub, List.replicate, List.cons_append, List.nil_append, List.map_cons, List.map_nil, Option.bind_some, Option.map_some, Option.bind_none, Option.map_none, if_true, if_false, decide_true, decide_false, Bool.false_eq_true, Bool.true_eq_false, Bool.not_true, Bool.not_false, reduceCtorEq, Bool.and_true, Bool.true_and, Bool.and_false, Bool.false_and, Bool.or_true, Bool.true_or, Bool.or_false, Bool.false_or, true_and, and_true, false_and, and_false, List.take_zero, List.take_succ_cons, List.drop_zero, List.drop_succ_cons, List.take_nil, List.drop_nil, List.set_cons_zero, List.set_cons_succ, Nat.reduceLeDiff, Nat.reduceLT, Nat.zero_add, Nat.lt_add_one, Nat.le_refl, clearA, Int.toNat_natCast, h0, h1, h3.len.1, h3.len.2, fg_bool, GraphD.hasGate, List.length_map]
theorem n_Has (g : IsG h F J b G) (k : Int) : runF Try.prog po 93 [.ptr b 0 0, .int .i64 k] h = some (.inl (.bool (G.hasGate k)), h) := by
  obtain ⟨nv, sv, h1, -, h3⟩ := g.ex
  refine runF_R fn_nHas rfl ?_; unfold rc_nHas
  by_cases h0 : 0 ≤ k <;> simp only [sim, List.length_cons, List.length_nil, Nat.reduceAdd, Nat.reduceSub, List.replicate, List.cons_append, List.nil_append, List.map_cons, List.map_nil, Option.bind_some, Option.map_some, Option.bind_none, Option.map_none, if_true, if_false, decide_true, decide_false, Bool.false_eq_true, Bool.true_eq_false, Bool.not_true, Bool.not_false, reduceCtorEq, Bool.and_true, Bool.true_and, Bool.and_false, Bool.false_and, Bool.or_true, Bool.true_or, Bool.or_false, Bool.false_or, true_and, and_true, false_and, and_false, List.take_zero, List.take_succ_cons, List.drop_zero, List.drop_succ_cons, List.take_nil, List.drop_nil, List.set_cons_zero, List.set_cons_succ, Nat.reduceLeDiff, Nat.reduceLT, Nat.zero_add, Nat.lt_add_one, Nat.le_refl, clearA, Int.toNat_natCast, h0, h1, h3.len.1, h3.len.2, fg_bool, GraphD.hasGate, List.length_map]
theorem g_has (g : IsG h F J b G) (k : Int) : runF Try.prog po 80 [.ptr b 0 0, .int .i64 k] h = some (.inl (.bool (G.has k)), h) := by
  obtain ⟨nv, sv, h1, h2, -⟩ := g.ex
  refine runF_R fn_ghas rfl ?_; unfold rc_ghas
  by_cases h0 : 0 ≤ k <;> simp only [sim, List.length_cons, List.length_nil, Nat.reduceAdd, Nat.reduceSub, List.replicate, List.cons_append, List.nil_append, List.map_cons, List.map_nil, Option.bind_some, Option.map_some, Option.bind_none, Option.map_none, if_true, if_false, decide_true, decide_false, Bool.false_eq_true, Bool.true_eq_false, Bool.not_true, Bool.not_false, reduceCtorEq, Bool.and_true, Bool.true_and, Bool.and_false, Bool.false_and, Bool.or_true, Bool.true_or, Bool.or_false, Bool.false_or, true_and, and_true, false_and, and_false, List.take_zero, List.take_succ_cons, List.drop_zero, List.drop_succ_cons, List.take_nil, List.drop_nil, List.set_cons_zero, List.set_cons_succ, Nat.reduceLeDiff, Nat.reduceLT, Nat.zero_add, Nat.lt_add_one, Nat.le_refl, clearA, Int.toNat_natCast, h0, h1, h2.isL.len, h2.isL.fits, fg_bool, GraphD.has, List.length_map]

theorem g_Open (g : IsG h F J b G) (k : Int) : runF Try.prog po 52 [.ptr b 0 0, .int .i64 k] h = some (.inl (.bool (G.isOpen k)), h) := by
  obtain ⟨nv, sv, h1, -, h3⟩ := g.ex
  refine runF_R fn_gOpen rfl ?_; unfold rc_gOpen
  cases hh : G.hasGate k
  · simp only [sim, List.length_cons, List.length_nil, Nat.reduceAdd, Nat.reduceSub, List.replicate, List.cons_append, List.nil_append, List.map_cons, List.map_nil, Option.bind_some, Option.map_some, Option.bind_none, Option.map_none, if_true, if_false, decide_true, decide_false, Bool.false_eq_true, Bool.true_eq_false, Bool.not_true, Bool.not_false, reduceCtorEq, Bool.and_true, Bool.true_and, Bool.and_false, Bool.false_and, Bool.or_true, Bool.true_or, Bool.or_false, Bool.false_or, true_and, and_true, false_and, and_false, List.take_zero, List.take_succ_cons, List.drop_zero, List.drop_succ_cons, List.take_nil, List.drop_nil, List.set_cons_zero, List.set_cons_succ, Nat.reduceLeDiff, Nat.reduceLT, Nat.zero_add, Nat.lt_add_one, Nat.le_refl, clearA, Int.toNat_natCast, g_Has g, hh, GraphD.isOpen]
  · obtain ⟨m, rfl, hm⟩ := GraphD.gate_nat hh
    obtain ⟨q, e1, e2, e3, -⟩ := shut_at h3 hm
    simp only [sim, List.length_cons, List.length_nil, Nat.reduceAdd, Nat.reduceSub, List.replicate, List.cons_append, List.nil_append, List.map_cons, List.map_nil, Option.bind_some, Option.map_some, Option.bind_none, Option.map_none, if_true, if_false, decide_true, decide_false, Bool.false_eq_true, Bool.true_eq_false, Bool.not_true, Bool.not_false, reduceCtorEq, Bool.and_true, Bool.true_and, Bool.and_false, Bool.false_and, Bool.or_true, Bool.true_or, Bool.or_false, Bool.false_or, true_and, and_true, false_and, and_false, List.take_zero, List.take_succ_cons, List.drop_zero, List.drop_succ_cons, List.take_nil, List.drop_nil, List.set_cons_zero, List.set_cons_succ, Nat.reduceLeDiff, Nat.reduceLT, Nat.zero_add, Nat.lt_add_one, Nat.le_refl, clearA, Int.toNat_natCast, g_Has g, hh, h1, e1, e2, e3, GraphD.isOpen, Int.toNat_natCast]
theorem n_Open (g : IsG h F J b G) (k : Int) : runF Try.prog po 87 [.ptr b 0 0, .int .i64 k] h = some (.inl (.bool (G.isOpen k)), h) := by
  obtain ⟨nv, sv, h1, -, h3⟩ := g.ex
  refine runF_R fn_nOpen rfl ?_; unfold rc_nOpen
  cases hh : G.hasGate k
  · simp only [sim, List.length_cons, List.length_nil, Nat.reduceAdd, Nat.reduceSub, List.replicate, List.cons_append, List.nil_append, List.map_cons, List.map_nil, Option.bind_some, Option.map_some, Option.bind_none, Option.map_none, if_true, if_false, decide_true, decide_false, Bool.false_eq_true, Bool.true_eq_false, Bool.not_true, Bool.not_false, reduceCtorEq, Bool.and_true, Bool.true_and, Bool.and_false, Bool.false_and, Bool.or_true, Bool.true_or, Bool.or_false, Bool.false_or, true_and, and_true, false_and, and_false, List.take_zero, List.take_succ_cons, List.drop_zero, List.drop_succ_cons, List.take_nil, List.drop_nil, List.set_cons_zero, List.set_cons_succ, Nat.reduceLeDiff, Nat.reduceLT, Nat.zero_add, Nat.lt_add_one, Nat.le_refl, clearA, Int.toNat_natCast, n_Has g, hh, GraphD.isOpen]
  · obtain ⟨m, rfl, hm⟩ := GraphD.gate_nat hh
    obtain ⟨q, e1, e2, e3, -⟩ := shut_at h3 hm
    simp only [sim, List.length_cons, List.length_nil, Nat.reduceAdd, Nat.reduceSub, List.replicate, List.cons_append, List.nil_append, List.map_cons, List.map_nil, Option.bind_some, Option.map_some, Option.bind_none, Option.map_none, if_true, if_false, decide_true, decide_false, Bool.false_eq_true, Bool.true_eq_false, Bool.not_true, Bool.not_false, reduceCtorEq, Bool.and_true, Bool.true_and, Bool.and_false, Bool.false_and, Bool.or_true, Bool.true_or, Bool.or_false, Bool.false_or, true_and, and_true, false_and, and_false, List.take_zero, List.take_succ_cons, List.drop_zero, List.drop_succ_cons, List.take_nil, List.drop_nil, List.set_cons_zero, List.set_cons_succ, Nat.reduceLeDiff, Nat.reduceLT, Nat.zero_add, Nat.lt_add_one, Nat.le_refl, clearA, Int.toNat_natCast, n_Has g, hh, h1, e1, e2, e3, GraphD.isOpen, Int.toNat_natCast]

theorem gpath_loop (g : IsG h F J b G) (hW : G.Wf) (rest : List RS) : ∀ (f : Nat) (i : Int) (acc : List NodeD) (h' : AH) (v tt : AV), i + 1 ≤ f → (G.has i = true → acc.length + i.toNat < 200) → Acc h h' tN v (acc.map nodeA) → GrewA h h' →
    ∃ h'' v' i' t, runR (runF Try.prog po) 5 [.lp rc_gpath_b1, .ss [], .blk 0, .ss rest] [.ptr b 0 0, .int .i64 i, .nils, v, tt] [] h' = runR (runF Try.prog po) 5 [.ss rest] [.ptr b 0 0, i', .nils, v', t] [] h'' ∧ Acc h h'' tN v' ((acc ++ G.path i).map nodeA) ∧ GrewA h h'' := by
  intro f
  induction f with
  | zero =>
    intro i acc h' v tt hi hf ha hg
    have g' := g.grew hg
    have hh : G.has i = false := by simp [GraphD.has]; omega
    rw [r_lpb rc_gpath_b1.eq_1]
    refine ⟨h', v, .int .i64 i, .bool false, ?_, by rw [GraphD.path_no hh, List.append_nil]; exact ha, hg⟩
    simp only [sim, List.length_cons, List.length_nil, Nat.reduceAdd, Nat.reduceSub, List.replicate, List.cons_append, List.nil_append, List.map_cons, List.map_nil, Option.bind_some, Option.map_some, Option.bind_none, Option.map_none, if_true, if_false, decide_true, decide_false, Bool.false_eq_true, Bool.true_eq_false, Bool.not_true, Bool.not_false, reduceCtorEq, Bool.and_true, Bool.true_and, Bool.and_false, Bool.false_and, Bool.or_true, Bool.true_or, Bool.or_false, Bool.false_or, true_and, and_true, false_and, and_false, List.take_zero, List.take_succ_cons, List.drop_zero, List.drop_succ_cons, List.take_nil, List.drop_nil, List.set_cons_zero, List.set_cons_succ, Nat.reduceLeDiff, Nat.reduceLT, Nat.zero_add, Nat.lt_add_one, Nat.le_refl, clearA, Int.toNat_natCast, g_has g', hh]
  | succ f ih =>
    intro i acc h' v tt hi hf ha hg
    have g' := g.grew hg
    obtain ⟨nv, sv, h1, h2, -⟩ := g'.ex
    rw [r_lpb rc_gpath_b1.eq_1]
    cases hh : G.has i
    · refine ⟨h', v, .int .i64 i, .bool false, ?_, by rw [GraphD.path_no hh, List.append_nil]; exact ha, hg⟩
      simp only [sim, List.length_cons, List.length_nil, Nat.reduceAdd, Nat.reduceSub, List.replicate, List.cons_append, List.nil_append, List.map_cons, List.map_nil, Option.bind_some, Option.map_some, Option.bind_none, Option.map_none, if_true, if_false, decide_true, decide_false, Bool.false_eq_true, Bool.true_eq_false, Bool.not_true, Bool.not_false, reduceCtorEq, Bool.and_true, Bool.true_and, Bool.and_false, Bool.false_and, Bool.or_true, Bool.true_or, Bool.or_false, Bool.false_or, true_and, and_true, false_and, and_false, List.take_zero, List.take_succ_cons, List.drop_zero, List.drop_succ_cons, List.take_nil, List.drop_nil, List.set_cons_zero, List.set_cons_succ, Nat.reduceLeDiff, Nat.reduceLT, Nat.zero_add, Nat.lt_add_one, Nat.le_refl, clearA, Int.toNat_natCast, g_has g', hh]
    · obtain ⟨m, rfl, hm, hm2⟩ := GraphD.node_nat hh
      have hf := hf hh
      have hix := h2.isL.ix .i64 m _ hm2
      obtain ⟨v', h2', e1, a1, a2, a3, a4⟩ := acc_app ha hg (row := nodeA (G.nodes.getD m zeroN)) rfl (by simp; omega)
      simp only [sim, List.length_cons, List.length_nil, Nat.reduceAdd, Nat.reduceSub, List.replicate, List.cons_append, List.nil_append, List.map_cons, List.map_nil, Option.bind_some, Option.map_some, Option.bind_none, Option.map_none, if_true, if_false, decide_true, decide_false, Bool.false_eq_true, Bool.true_eq_false, Bool.not_true, Bool.not_false, reduceCtorEq, Bool.and_true, Bool.true_and, Bool.and_false, Bool.false_and, Bool.or_true, Bool.true_or, Bool.or_false, Bool.false_or, true_and, and_true, false_and, and_false, List.take_zero, List.take_succ_cons, List.drop_zero, List.drop_succ_cons, List.take_nil, List.drop_nil, List.set_cons_zero, List.set_cons_succ, Nat.reduceLeDiff, Nat.reduceLT, Nat.zero_add, Nat.lt_add_one, Nat.le_refl, clearA, Int.toNat_natCast, g_has g', hh, h1, hix, e1, a3, nodeS]
      have ok := hW.get hh
      have hp := ok.p1
      have hp0 := ok.p0
      simp only [Int.toNat_natCast] at hp hp0 hf
      obtain ⟨h'', w', i', t, r1, r2, r3⟩ := ih (G.nodes.getD m zeroN).parent (acc ++ [G.nodes.getD m zeroN]) h2' v' (.bool true) (by omega) (by
        intro hpp
        have := GraphD.has_nn hpp
        simp only [List.length_append, List.length_singleton]
        omega) (by simpa using a1) a2
      refine ⟨h'', w', i', t, r1, ?_, r3⟩
      rw [GraphD.path_yes hW hh]
      simpa using r2
theorem GraphD.path_few {G : GraphD} (hW : G.Wf) (i : Int) : (G.path i).length ≤ 81 := by
  have key : ∀ (f : Nat) (i : Int), (G.pathF f i).length ≤ f := by
    intro f
    induction f with
    | zero => intro i; simp [GraphD.pathF]
    | succ f ih =>
      intro i
      unfold GraphD.pathF
      split
      · have := ih (G.nodes.getD i.toNat zeroN).parent
        rw [List.length_cons]
        omega
      · simp
  by_cases hh : G.has i = true
  · have := key (i.toNat + 1) i
    simp [GraphD.has] at hh
    have := hW.few
    unfold GraphD.path
    omega
  · rw [GraphD.path_no (by simpa using hh)]
    simp
theorem nodes_flat (l : List NodeD) : ∀ r ∈ l.map nodeA, r.all flatA = true := by
  intro r hr
  obtain ⟨n, _, rfl⟩ := List.mem_map.1 hr
  rfl
theorem ints_flat (l : List Int) : ∀ r ∈ l.map (fun x => [AV.int .i64 x]), r.all flatA = true := by
  intro r hr
  obtain ⟨n, _, rfl⟩ := List.mem_map.1 hr
  rfl
theorem g_path (g : IsG h F J b G) (hW : G.Wf) (i : Int) : runF Try.prog po 51 [.ptr b 0 0, .int .i64 i] h = some (.inl (lstA tN ((G.path i).map nodeA)), h) := by
  refine runF_R fn_gpath rfl ?_; unfold rc_gpath
  obtain ⟨h'', v', i', t, r1, r2, r3⟩ := gpath_loop g hW [.ops [(.i .l (.mv (.v 3))), (.i (.v 2) (.mv (.l 0)))], .ret] (i + 1).toNat i [] h .nils .junk (by omega) (by
    intro hh
    have := hW.few
    simp [GraphD.has] at hh
    simp; omega) (acc_nil _ _ _) (GrewA.refl h)
  simp only [sim, List.length_cons, List.length_nil, Nat.reduceAdd, Nat.reduceSub, List.replicate, List.cons_append, List.nil_append, List.map_cons, List.map_nil, Option.bind_some, Option.map_some, Option.bind_none, Option.map_none, if_true, if_false, decide_true, decide_false, Bool.false_eq_true, Bool.true_eq_false, Bool.not_true, Bool.not_false, reduceCtorEq, Bool.and_true, Bool.true_and, Bool.and_false, Bool.false_and, Bool.or_true, Bool.true_or, Bool.or_false, Bool.false_or, true_and, and_true, false_and, and_false, List.take_zero, List.take_succ_cons, List.drop_zero, List.drop_succ_cons, List.take_nil, List.drop_nil, List.set_cons_zero, List.set_cons_succ, Nat.reduceLeDiff, Nat.reduceLT, Nat.zero_add, Nat.lt_add_one, Nat.le_refl, clearA, Int.toNat_natCast, r1, fg_yes r3 (acc_wk r2 (nodes_flat _))]
end
end Go.Proofs.Ytioladnogpfeeaa
