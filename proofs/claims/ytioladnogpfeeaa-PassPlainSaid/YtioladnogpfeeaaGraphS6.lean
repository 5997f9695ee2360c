/- Graph and Net in the plain model: what turns them. -/
import Derived.Test.YtioladnogpfeeaaGraphS5
namespace Go.Proofs.Ytioladnogpfeeaa
set_option linter.unusedSimpArgs false
set_option linter.unusedVariables false
open Go

theorem Chg.refl (F J : Nat → Prop) (h : AH) : Chg F J h h := ⟨Nat.le_refl _, Nat.le_refl _, fun _ _ _ => rfl, fun _ _ _ => rfl⟩
theorem GrewA.chg {h h' : AH} (g : GrewA h h') (F J : Nat → Prop) : Chg F J h h' := ⟨g.n, g.ids, fun k hk _ => g.cell k hk, fun j hj _ => g.hw j hj⟩
theorem Chg.trans {F J : Nat → Prop} {a b c : AH} (x : Chg F J a b) (y : Chg F J b c) : Chg F J a c :=
  ⟨Nat.le_trans x.n y.n, Nat.le_trans x.ids y.ids, fun k hk hF => (y.cell k (Nat.lt_of_lt_of_le hk x.n) hF).trans (x.cell k hk hF), fun j hj hJ => (y.hw j (Nat.lt_of_lt_of_le hj x.ids) hJ).trans (x.hw j hj hJ)⟩
/-- what follows may turn what is new as well -/
theorem Chg.then {F J F' J' : Nat → Prop} {a b c : AH} (x : Chg F J a b) (y : Chg F' J' b c) (hF : ∀ k, F' k → F k ∨ a.n ≤ k) (hJ : ∀ j, J' j → J j ∨ a.ids ≤ j) : Chg F J a c :=
  ⟨Nat.le_trans x.n y.n, Nat.le_trans x.ids y.ids,
    fun k hk h1 => (y.cell k (Nat.lt_of_lt_of_le hk x.n) fun h2 => by rcases hF k h2 with h | h; exact h1 h; omega).trans (x.cell k hk h1),
    fun j hj h1 => (y.hw j (Nat.lt_of_lt_of_le hj x.ids) fun h2 => by rcases hJ j h2 with h | h; exact h1 h; omega).trans (x.hw j hj h1)⟩

theorem DidG.same {h : AH} {F J : Nat → Prop} {b : Nat} {G : GraphD} (g : IsG h F J b G) : DidG h F J b h G := ⟨F, J, g, Chg.refl _ _ _, fun _ => .inl, fun _ => .inl⟩
theorem DidG.grew {h h' : AH} {F J : Nat → Prop} {b : Nat} {G : GraphD} (g : IsG h F J b G) (x : GrewA h h') : DidG h F J b h' G := ⟨F, J, g.grew x, x.chg _ _, fun _ => .inl, fun _ => .inl⟩
theorem DidG.after {h h1 h2 : AH} {F J : Nat → Prop} {b : Nat} {G' : GraphD} (x : GrewA h h1) (d : DidG h1 F J b h2 G') : DidG h F J b h2 G' := by
  obtain ⟨F', J', g, c, hF, hJ⟩ := d
  have := x.n
  have := x.ids
  exact ⟨F', J', g, (x.chg F J).trans c, fun k hk => (hF k hk).imp id (by omega), fun j hj => (hJ j hj).imp id (by omega)⟩
/-- a graph apart stays as it is -/
theorem IsG.keep {h h' : AH} {F J F2 J2 : Nat → Prop} {b : Nat} {G : GraphD} (g : IsG h F J b G) (c : Chg F2 J2 h h') (hF : ∀ k, F k → ¬ F2 k) (hJ : ∀ j, J j → ¬ J2 j) : IsG h' F J b G := by
  obtain ⟨nv, sv, h1, h2, h3⟩ := g.ex
  refine ⟨⟨g.hb.1, Nat.lt_of_lt_of_le g.hb.2 c.n⟩, ⟨fun k hk => Nat.lt_of_lt_of_le (g.lt.1 k hk) c.n, fun j hj => Nat.lt_of_lt_of_le (g.lt.2 j hj) c.ids⟩, nv, sv, (c.cell b g.hb.2 (hF b g.hb.1)).trans h1, ?_, ?_⟩
  · rcases h2 with h2 | ⟨id, a1, a0, a2, a3, a4⟩
    · exact .inl h2
    · exact .inr ⟨id, a1, a0, Nat.lt_of_lt_of_le a2 c.ids, (c.hw id a2 (hJ id a1)).trans a3, a4⟩
  · rcases h3 with h3 | ⟨q, a1, a2, a3, a4, a5⟩
    · exact .inl h3
    · exact .inr ⟨q, a1, a2, Nat.lt_of_lt_of_le a3 c.n, (c.cell q a3 (hF q a1)).trans a4, a5⟩

section
variable {h : AH} {F J : Nat → Prop} {b : Nat} {G : GraphD}

/-- a cell is appended to what is cut -/
theorem shut_app (h : AH) {F : Nat → Prop} {b : Nat} {sv : AV} {l : List Bool} (g : TurnV h F b tB sv (l.map fun x => [.bool x])) (hl : l.length ≤ 1000) :
    ∃ h' v', appendA true tB sv (.msl h.n 0 1 tB) (h.push [[.bool false]]) = some (v', h') ∧ lenA v' = some (l.length + 1) ∧ (∀ s, fitsR s (some tB) v' = true) ∧ v'.one = true ∧ v'.cells = [v'] ∧ h'.ids = h.ids ∧ h'.hw = h.hw ∧ h'.n = h.n + 2 ∧ h'.cell (h.n + 1) = some ((l ++ [false]).map fun x => [.bool x]) ∧ v' = .msl (h.n + 1) 0 (l.length + 1) tB ∧ ∀ k, k < h.n → ¬ (F k ∧ k ≠ b) → h'.cell k = h.cell k := by
  have e0 : elemsA (h.push [[.bool false]]) tB (.msl h.n 0 1 tB) = some [[.bool false]] := by simp [elemsA, push_same]
  rcases g with ⟨h1, rfl⟩ | ⟨q, h1, h2, h3, h4, rfl⟩
  · have hl0 : l = [] := by simpa using h1
    subst hl0
    refine ⟨(h.push [[.bool false]]).push [[.bool false]], .msl (h.n + 1) 0 1 tB, ?_, rfl, fun s => fits_msl, rfl, rfl, rfl, rfl, rfl, ?_, rfl, fun k hk _ => ?_⟩
    · simp [appendA, e0, moreA, AV.one, push_n]
    · simp [AH.push]
    · simp [AH.push, show k ≠ h.n by omega, show k ≠ h.n + 1 by omega]
  · have hq : q ≠ h.n := by omega
    refine ⟨((h.push [[.bool false]]).set q none).push ((l.map fun x => [.bool x]) ++ [[.bool false]]), .msl (h.n + 1) 0 (l.length + 1) tB, ?_, rfl, fun s => fits_msl, rfl, rfl, rfl, rfl, rfl, ?_, rfl, fun k hk hk2 => ?_⟩
    · have e1 : (h.push [[.bool false]]).cell q = some (l.map fun x => [.bool x]) := by rw [push_ne hq]; exact h4
      simp only [appendA, e0, Option.bind_some, List.length_singleton, Nat.one_ne_zero, if_false, moreA, List.length_map]
      rw [if_pos ⟨by omega, by omega, rfl⟩, if_pos ⟨trivial, trivial, by omega⟩, e1]
      have e2 : List.take l.length (l.map fun x => [AV.bool x]) = l.map fun x => [.bool x] := List.take_of_length_le (by simp)
      simp [push_n, set_n, e2]
    · simp [AH.push, AH.set]
    · have : k ≠ q := fun e => hk2 (by subst e; exact ⟨h1, h2⟩)
      simp [AH.push, AH.set, show k ≠ h.n by omega, show k ≠ h.n + 1 by omega, this]

theorem gate_did {h' : AH} {nv v' : AV} (g : IsG h F J b G) (h2 : GrowV h J tN nv (G.nodes.map nodeA)) (e1 : h'.ids = h.ids) (e2 : h'.hw = h.hw) (e3 : h'.n = h.n + 2) (e4 : h'.cell (h.n + 1) = some ((G.shut ++ [false]).map fun x => [.bool x])) (e5 : v' = .msl (h.n + 1) 0 (G.shut.length + 1) tB) (e6 : ∀ k, k < h.n → ¬ (F k ∧ k ≠ b) → h'.cell k = h.cell k) :
    DidG h F J b (h'.set b (some [[nv, v']])) ⟨G.nodes, G.shut ++ [false]⟩ := by
  have hbn := g.hb.2
  refine ⟨fun k => k = b ∨ k = h.n + 1, J, ⟨⟨.inl rfl, by rw [set_n, e3]; omega⟩, ⟨by rintro k (rfl | rfl) <;> (rw [set_n, e3]; omega), fun j hj => by rw [set_ids, e1]; exact g.lt.2 j hj⟩, nv, v', set_same, ?_, .inr ⟨h.n + 1, .inr rfl, by omega, by rw [set_n, e3]; omega, by rw [set_ne (by omega)]; exact e4, ?_⟩⟩, ⟨by rw [set_n, e3]; omega, by rw [set_ids, e1]; omega, fun k hk hF => ?_, fun j hj hJ => by rw [set_hw, e2]⟩, ?_, fun _ => .inl⟩
  · rcases h2 with h2 | ⟨id, a1, a0, a2, a3, a4⟩
    · exact .inl h2
    · exact .inr ⟨id, a1, a0, by rw [set_ids, e1]; exact a2, by rw [set_hw, e2]; exact a3, a4⟩
  · rw [e5]
    simp
  · have : k ≠ b := fun e => hF (by rw [e]; exact g.hb.1)
    rw [set_ne this]
    exact e6 k hk fun x => hF x.1
  · rintro k (rfl | rfl)
    · exact .inl g.hb.1
    · exact .inr (by omega)
theorem g_Gate (g : IsG h F J b G) (hW : G.Wf) : ∃ h', runF Try.prog po 44 [.ptr b 0 0] h = some (.inl (.tup [.int .i64 G.gate.2.1, .int .i64 G.gate.2.2]), h') ∧ DidG h F J b h' G.gate.1 := by
  obtain ⟨nv, sv, h1, h2, h3⟩ := g.ex
  have hgs := hW.gates
  cases hd : decide ((G.shut.length : Int) = 20)
  · have hne : ¬ G.shut.length = 20 := by simp at hd; omega
    have hG : G.gate = (⟨G.nodes, G.shut ++ [false]⟩, (G.shut.length : Int), 0) := by unfold GraphD.gate; rw [if_neg hne]
    obtain ⟨h', v', a1, a2, a3, a4, a5, a6, a7, a8, a9, a10, a11⟩ := shut_app h h3 (by omega)
    have hbn : b ≠ h.n := by have := g.hb.2; omega
    have hcb : h'.cell b = some [[nv, sv]] := (a11 b g.hb.2 (fun x => x.2 rfl)).trans h1
    have hwr : IntKind.wrap .i64 (((G.shut.length + 1 : Nat) : Int) - 1) = (G.shut.length : Int) := by rw [w64] <;> omega
    refine ⟨h'.set b (some [[nv, v']]), ?_, by rw [hG]; exact gate_did g h2 a6 a7 a8 a9 a10 a11⟩
    rw [hG]
    refine runF_R fn_gGate rfl ?_; unfold rc_gGate
    simp only [sim, List.length_cons, List.length_nil, Nat.reduceAdd, Nat.reduceSub, List.replicate, List.cons_append, List.nil_append, List.map_cons, List.map_nil, Option.bind_some, Option.map_some, Option.bind_none, Option.map_none, if_true, if_false, decide_true, decide_false, Bool.false_eq_true, Bool.true_eq_false, Bool.not_true, Bool.not_false, reduceCtorEq, Bool.and_true, Bool.true_and, Bool.and_false, Bool.false_and, Bool.or_true, Bool.true_or, Bool.or_false, Bool.false_or, true_and, and_true, false_and, and_false, List.take_zero, List.take_succ_cons, List.drop_zero, List.drop_succ_cons, List.take_nil, List.drop_nil, List.set_cons_zero, List.set_cons_succ, Nat.reduceLeDiff, Nat.reduceLT, Nat.zero_add, Nat.lt_add_one, Nat.le_refl, clearA, Int.toNat_natCast, h1, h3.len.1, h3.len.2, List.length_map, hd, a1, push_ne hbn, hcb, a4, a5, a2, a3, hwr]
  · have he : G.shut.length = 20 := by simp at hd; omega
    have hG : G.gate = (G, 0, 11) := by unfold GraphD.gate; rw [if_pos he]
    refine ⟨h, ?_, by rw [hG]; exact DidG.same g⟩
    rw [hG]
    refine runF_R fn_gGate rfl ?_; unfold rc_gGate
    simp only [sim, List.length_cons, List.length_nil, Nat.reduceAdd, Nat.reduceSub, List.replicate, List.cons_append, List.nil_append, List.map_cons, List.map_nil, Option.bind_some, Option.map_some, Option.bind_none, Option.map_none, if_true, if_false, decide_true, decide_false, Bool.false_eq_true, Bool.true_eq_false, Bool.not_true, Bool.not_false, reduceCtorEq, Bool.and_true, Bool.true_and, Bool.and_false, Bool.false_and, Bool.or_true, Bool.true_or, Bool.or_false, Bool.false_or, true_and, and_true, false_and, and_false, List.take_zero, List.take_succ_cons, List.drop_zero, List.drop_succ_cons, List.take_nil, List.drop_nil, List.set_cons_zero, List.set_cons_succ, Nat.reduceLeDiff, Nat.reduceLT, Nat.zero_add, Nat.lt_add_one, Nat.le_refl, clearA, Int.toNat_natCast, h1, h3.len.1, h3.len.2, List.length_map, hd]
theorem n_Gate (g : IsG h F J b G) (hW : G.Wf) : ∃ h', runF Try.prog po 71 [.ptr b 0 0] h = some (.inl (.tup [.int .i64 G.gate.2.1, .int .i64 G.gate.2.2]), h') ∧ DidG h F J b h' G.gate.1 := by
  obtain ⟨nv, sv, h1, h2, h3⟩ := g.ex
  have hgs := hW.gates
  cases hd : decide (20 ≤ (G.shut.length : Int))
  · have hne : ¬ G.shut.length = 20 := by simp at hd; omega
    have hG : G.gate = (⟨G.nodes, G.shut ++ [false]⟩, (G.shut.length : Int), 0) := by unfold GraphD.gate; rw [if_neg hne]
    obtain ⟨h', v', a1, a2, a3, a4, a5, a6, a7, a8, a9, a10, a11⟩ := shut_app h h3 (by omega)
    have hbn : b ≠ h.n := by have := g.hb.2; omega
    have hcb : h'.cell b = some [[nv, sv]] := (a11 b g.hb.2 (fun x => x.2 rfl)).trans h1
    have hwr : IntKind.wrap .i64 (((G.shut.length + 1 : Nat) : Int) - 1) = (G.shut.length : Int) := by rw [w64] <;> omega
    refine ⟨h'.set b (some [[nv, v']]), ?_, by rw [hG]; exact gate_did g h2 a6 a7 a8 a9 a10 a11⟩
    rw [hG]
    refine runF_R fn_nGate rfl ?_; unfold rc_nGate
    simp only [sim, List.length_cons, List.length_nil, Nat.reduceAdd, Nat.reduceSub, List.replicate, List.cons_append, List.nil_append, List.map_cons, List.map_nil, Option.bind_some, Option.map_some, Option.bind_none, Option.map_none, if_true, if_false, decide_true, decide_false, Bool.false_eq_true, Bool.true_eq_false, Bool.not_true, Bool.not_false, reduceCtorEq, Bool.and_true, Bool.true_and, Bool.and_false, Bool.false_and, Bool.or_true, Bool.true_or, Bool.or_false, Bool.false_or, true_and, and_true, false_and, and_false, List.take_zero, List.take_succ_cons, List.drop_zero, List.drop_succ_cons, List.take_nil, List.drop_nil, List.set_cons_zero, List.set_cons_succ, Nat.reduceLeDiff, Nat.reduceLT, Nat.zero_add, Nat.lt_add_one, Nat.le_refl, clearA, Int.toNat_natCast, h1, h3.len.1, h3.len.2, List.length_map, hd, a1, push_ne hbn, hcb, a4, a5, a2, a3, hwr]
  · have he : G.shut.length = 20 := by simp at hd; omega
    have hG : G.gate = (G, 0, 11) := by unfold GraphD.gate; rw [if_pos he]
    refine ⟨h, ?_, by rw [hG]; exact DidG.same g⟩
    rw [hG]
    refine runF_R fn_nGate rfl ?_; unfold rc_nGate
    simp only [sim, List.length_cons, List.length_nil, Nat.reduceAdd, Nat.reduceSub, List.replicate, List.cons_append, List.nil_append, List.map_cons, List.map_nil, Option.bind_some, Option.map_some, Option.bind_none, Option.map_none, if_true, if_false, decide_true, decide_false, Bool.false_eq_true, Bool.true_eq_false, Bool.not_true, Bool.not_false, reduceCtorEq, Bool.and_true, Bool.true_and, Bool.and_false, Bool.false_and, Bool.or_true, Bool.true_or, Bool.or_false, Bool.false_or, true_and, and_true, false_and, and_false, List.take_zero, List.take_succ_cons, List.drop_zero, List.drop_succ_cons, List.take_nil, List.drop_nil, List.set_cons_zero, List.set_cons_succ, Nat.reduceLeDiff, Nat.reduceLT, Nat.zero_add, Nat.lt_add_one, Nat.le_refl, clearA, Int.toNat_natCast, h1, h3.len.1, h3.len.2, List.length_map, hd]

theorem cut_did {nv sv : AV} (g : IsG h F J b G) (h1 : h.cell b = some [[nv, sv]]) (h2 : GrowV h J tN nv (G.nodes.map nodeA)) {m q : Nat} (hm : m < G.shut.length) (e1 : F q) (e2 : q ≠ b) (e3 : q < h.n) (e4 : sv = .msl q 0 G.shut.length tB) :
    DidG h F J b (h.set q (some ((G.shut.map fun x => [AV.bool x]).set m [.bool true]))) ⟨G.nodes, G.shut.set m true⟩ := by
  refine ⟨F, J, ⟨⟨g.hb.1, g.hb.2⟩, g.lt, nv, sv, by rw [set_ne (Ne.symm e2)]; exact h1, ?_, .inr ⟨q, e1, e2, e3, by rw [set_same, List.map_set], by rw [e4]; simp⟩⟩, ⟨Nat.le_refl _, Nat.le_refl _, fun k hk hF => set_ne (fun e => hF (by rw [e]; exact e1)), fun _ _ _ => rfl⟩, fun _ => .inl, fun _ => .inl⟩
  rcases h2 with h2 | ⟨id, a1, a0, a2, a3, a4⟩
  · exact .inl h2
  · exact .inr ⟨id, a1, a0, a2, a3, a4⟩
theorem g_Cut (g : IsG h F J b G) (k : Int) : ∃ h', runF Try.prog po 72 [.ptr b 0 0, .int .i64 k] h = some (.inl (.int .i64 (G.cut k).2), h') ∧ DidG h F J b h' (G.cut k).1 := by
  obtain ⟨nv, sv, h1, h2, h3⟩ := g.ex
  cases hh : G.hasGate k
  · have hG : G.cut k = (G, 8) := by unfold GraphD.cut; rw [if_neg (by simp [hh])]
    rw [hG]
    refine ⟨h, ?_, DidG.same g⟩
    refine runF_R fn_gCut rfl ?_; unfold rc_gCut
    simp only [sim, List.length_cons, List.length_nil, Nat.reduceAdd, Nat.reduceSub, List.replicate, List.cons_append, List.nil_append, List.map_cons, List.map_nil, Option.bind_some, Option.map_some, Option.bind_none, Option.map_none, if_true, if_false, decide_true, decide_false, Bool.false_eq_true, Bool.true_eq_false, Bool.not_true, Bool.not_false, reduceCtorEq, Bool.and_true, Bool.true_and, Bool.and_false, Bool.false_and, Bool.or_true, Bool.true_or, Bool.or_false, Bool.false_or, true_and, and_true, false_and, and_false, List.take_zero, List.take_succ_cons, List.drop_zero, List.drop_succ_cons, List.take_nil, List.drop_nil, List.set_cons_zero, List.set_cons_succ, Nat.reduceLeDiff, Nat.reduceLT, Nat.zero_add, Nat.lt_add_one, Nat.le_refl, clearA, Int.toNat_natCast, g_Has g, hh]
  · obtain ⟨m, rfl, hm⟩ := GraphD.gate_nat hh
    have hG : G.cut (m : Int) = (⟨G.nodes, G.shut.set m true⟩, 0) := by unfold GraphD.cut; rw [if_pos hh]; simp
    obtain ⟨q, e1, e2, e3, e4, e5, e6, e7⟩ := shut_at h3 hm
    rw [hG]
    refine ⟨_, ?_, cut_did g h1 h2 hm e4 e5 e6 e7⟩
    refine runF_R fn_gCut rfl ?_; unfold rc_gCut
    simp only [sim, List.length_cons, List.length_nil, Nat.reduceAdd, Nat.reduceSub, List.replicate, List.cons_append, List.nil_append, List.map_cons, List.map_nil, Option.bind_some, Option.map_some, Option.bind_none, Option.map_none, if_true, if_false, decide_true, decide_false, Bool.false_eq_true, Bool.true_eq_false, Bool.not_true, Bool.not_false, reduceCtorEq, Bool.and_true, Bool.true_and, Bool.and_false, Bool.false_and, Bool.or_true, Bool.true_or, Bool.or_false, Bool.false_or, true_and, and_true, false_and, and_false, List.take_zero, List.take_succ_cons, List.drop_zero, List.drop_succ_cons, List.take_nil, List.drop_nil, List.set_cons_zero, List.set_cons_succ, Nat.reduceLeDiff, Nat.reduceLT, Nat.zero_add, Nat.lt_add_one, Nat.le_refl, clearA, Int.toNat_natCast, g_Has g, hh, h1, e1, e2, e3]
theorem n_Cut (g : IsG h F J b G) (k : Int) : ∃ h', runF Try.prog po 73 [.ptr b 0 0, .int .i64 k] h = some (.inl (.int .i64 (G.cut k).2), h') ∧ DidG h F J b h' (G.cut k).1 := by
  obtain ⟨nv, sv, h1, h2, h3⟩ := g.ex
  cases hh : G.hasGate k
  · have hG : G.cut k = (G, 8) := by unfold GraphD.cut; rw [if_neg (by simp [hh])]
    rw [hG]
    refine ⟨h, ?_, DidG.same g⟩
    refine runF_R fn_nCut rfl ?_; unfold rc_nCut
    simp only [sim, List.length_cons, List.length_nil, Nat.reduceAdd, Nat.reduceSub, List.replicate, List.cons_append, List.nil_append, List.map_cons, List.map_nil, Option.bind_some, Option.map_some, Option.bind_none, Option.map_none, if_true, if_false, decide_true, decide_false, Bool.false_eq_true, Bool.true_eq_false, Bool.not_true, Bool.not_false, reduceCtorEq, Bool.and_true, Bool.true_and, Bool.and_false, Bool.false_and, Bool.or_true, Bool.true_or, Bool.or_false, Bool.false_or, true_and, and_true, false_and, and_false, List.take_zero, List.take_succ_cons, List.drop_zero, List.drop_succ_cons, List.take_nil, List.drop_nil, List.set_cons_zero, List.set_cons_succ, Nat.reduceLeDiff, Nat.reduceLT, Nat.zero_add, Nat.lt_add_one, Nat.le_refl, clearA, Int.toNat_natCast, n_Has g, hh]
  · obtain ⟨m, rfl, hm⟩ := GraphD.gate_nat hh
    have hG : G.cut (m : Int) = (⟨G.nodes, G.shut.set m true⟩, 0) := by unfold GraphD.cut; rw [if_pos hh]; simp
    obtain ⟨q, e1, e2, e3, e4, e5, e6, e7⟩ := shut_at h3 hm
    rw [hG]
    refine ⟨_, ?_, cut_did g h1 h2 hm e4 e5 e6 e7⟩
    refine runF_R fn_nCut rfl ?_; unfold rc_nCut
    simp only [sim, List.length_cons, List.length_nil, Nat.reduceAdd, Nat.reduceSub, List.replicate, List.cons_append, List.nil_append, List.map_cons, List.map_nil, Option.bind_some, Option.map_some, Option.bind_none, Option.map_none, if_true, if_false, decide_true, decide_false, Bool.false_eq_true, Bool.true_eq_false, Bool.not_true, Bool.not_false, reduceCtorEq, Bool.and_true, Bool.true_and, Bool.and_false, Bool.false_and, Bool.or_true, Bool.true_or, Bool.or_false, Bool.false_or, true_and, and_true, false_and, and_false, List.take_zero, List.take_succ_cons, List.drop_zero, List.drop_succ_cons, List.take_nil, List.drop_nil, List.set_cons_zero, List.set_cons_succ, Nat.reduceLeDiff, Nat.reduceLT, Nat.zero_add, Nat.lt_add_one, Nat.le_refl, clearA, Int.toNat_natCast, n_Has g, hh, h1, e1, e2, e3]

/-- a row is appended to what grows -/
theorem grow_app (h : AH) {J : Nat → Prop} {nv : AV} {rows : List (List AV)} (g : GrowV h J tN nv rows) {row : List AV} (hr : row.all AV.one = true) (hl : rows.length ≤ 1000) :
    ∃ h' v', appendA false tN nv (.isl (some h.ids) tN [row]) (h.fresh 1) = some (v', h') ∧ lenA v' = some (rows.length + 1) ∧ (∀ s, fitsR s (some tN) v' = true) ∧ v'.one = true ∧ v'.cells = [v'] ∧ h'.cell = h.cell ∧ h'.n = h.n ∧ h.ids ≤ h'.ids ∧
      (∃ id, (J id ∨ h.ids ≤ id) ∧ id < h'.ids ∧ h'.hw id = rows.length + 1 ∧ v' = .isl (some id) tN (rows ++ [row]) ∧ ∀ j, j < h.ids → ¬ J j → h'.hw j = h.hw j) := by
  have hr' : [row].all (·.all AV.one) = true := by simpa using hr
  rcases g with ⟨rfl, rfl⟩ | ⟨id, a1, a0, a2, a3, rfl⟩
  · refine ⟨(h.fresh 1).fresh 1, .isl (some (h.ids + 1)) tN [row], ?_, rfl, fun s => fits_isl, rfl, rfl, rfl, rfl, by simp [AH.fresh]; omega, h.ids + 1, .inr (by omega), by simp [AH.fresh], by simp [AH.fresh], by simp, fun j hj _ => by simp [AH.fresh, show j ≠ h.ids by omega, show j ≠ h.ids + 1 by omega]⟩
    simp only [appendA, elemsA, if_true, Option.bind_some, List.length_singleton, Nat.one_ne_zero, if_false, moreA]
    rw [if_pos ⟨by omega, by omega, hr'⟩]
    rfl
  · have hne : id ≠ h.ids := by omega
    refine ⟨(h.fresh 1).grow id (rows.length + 1), .isl (some id) tN (rows ++ [row]), ?_, by simp [lenA], fun s => fits_isl, rfl, rfl, rfl, rfl, by simp [AH.fresh, AH.grow], id, .inl a1, by simp [AH.fresh, AH.grow]; omega, by simp [AH.grow], rfl, fun j hj hJ => ?_⟩
    · simp only [appendA, elemsA, if_true, Option.bind_some, List.length_singleton, Nat.one_ne_zero, if_false, moreA]
      rw [if_pos ⟨by omega, by omega, hr'⟩, fresh_hw_ne hne, a3, if_pos ⟨trivial, rfl, by omega⟩]
    · have h1 : j ≠ id := fun e => hJ (by rw [e]; exact a1)
      simp [AH.grow, AH.fresh, h1, show j ≠ h.ids by omega]
theorem add_did {h' : AH} {sv v' : AV} {n : NodeD} (g : IsG h F J b G) (h3 : TurnV h F b tB sv (G.shut.map fun x => [.bool x])) (e1 : h'.cell = h.cell) (e2 : h'.n = h.n) (e0 : h.ids ≤ h'.ids)
    (e3 : ∃ id, (J id ∨ h.ids ≤ id) ∧ id < h'.ids ∧ h'.hw id = G.nodes.length + 1 ∧ v' = .isl (some id) tN (G.nodes.map nodeA ++ [nodeA n]) ∧ ∀ j, j < h.ids → ¬ J j → h'.hw j = h.hw j) : DidG h F J b (h'.set b (some [[v', sv]])) ⟨G.nodes ++ [n], G.shut⟩ := by
  obtain ⟨id, a1, a2, a3, a4, a5⟩ := e3
  refine ⟨F, fun j => j = id, ⟨⟨g.hb.1, by rw [set_n, e2]; exact g.hb.2⟩, ⟨fun k hk => by rw [set_n, e2]; exact g.lt.1 k hk, fun j hj => by rw [hj]; exact a2⟩, v', sv, set_same, .inr ⟨id, rfl, by simp, a2, by rw [set_hw, a3]; simp, by rw [a4]; simp⟩, ?_⟩, ⟨by rw [set_n, e2]; exact Nat.le_refl _, by rw [set_ids]; exact e0, fun k hk hF => ?_, fun j hj hJ => by rw [set_hw]; exact a5 j hj hJ⟩, fun _ => .inl, fun j hj => by rw [hj]; exact a1⟩
  · rcases h3 with h3 | ⟨q, b1, b2, b3, b4, b5⟩
    · exact .inl h3
    · exact .inr ⟨q, b1, b2, by rw [set_n, e2]; exact b3, by rw [set_ne b2, e1]; exact b4, b5⟩
  · rw [set_ne (fun e => hF (by rw [e]; exact g.hb.1)), e1]
theorem g_add (g : IsG h F J b G) (hW : G.Wf) (n : NodeD) : ∃ h', runF Try.prog po 70 [.ptr b 0 0, .agg (nodeA n)] h = some (.inl (.tup [.int .i64 (G.add n).2.1, .int .i64 (G.add n).2.2]), h') ∧ DidG h F J b h' (G.add n).1 := by
  have hg1 := GrewA.push h [nodeA n]
  have g1 := g.grew hg1
  have hbn : h.n ≠ b := by have := g.hb.2; omega
  obtain ⟨nv, sv, h1, h2, h3⟩ := g1.ex
  have hfew := hW.few
  have hH := g_Has g1
  unfold GraphD.add
  skip
  cases hc : checkI n.rights
  · rw [if_pos rfl]
    refine ⟨h.push [nodeA n], ?_, DidG.grew g hg1⟩
    refine runF_R fn_gadd rfl ?_; unfold rc_gadd
    simp only [sim, List.length_cons, List.length_nil, Nat.reduceAdd, Nat.reduceSub, List.replicate, List.cons_append, List.nil_append, List.map_cons, List.map_nil, Option.bind_some, Option.map_some, Option.bind_none, Option.map_none, if_true, if_false, decide_true, decide_false, Bool.false_eq_true, Bool.true_eq_false, Bool.not_true, Bool.not_false, reduceCtorEq, Bool.and_true, Bool.true_and, Bool.and_false, Bool.false_and, Bool.or_true, Bool.true_or, Bool.or_false, Bool.false_or, true_and, and_true, false_and, and_false, List.take_zero, List.take_succ_cons, List.drop_zero, List.drop_succ_cons, List.take_nil, List.drop_nil, List.set_cons_zero, List.set_cons_succ, Nat.reduceLeDiff, Nat.reduceLT, Nat.zero_add, Nat.lt_add_one, Nat.le_refl, clearA, Int.toNat_natCast, nodeS, r_Check, hc]
  · rw [if_neg (by simp)]
    have stop : (n.gate ≠ -1 ∧ G.hasGate n.gate = false) ∨ (n.gate = -1 ∨ G.hasGate n.gate = true) := by
      by_cases e : n.gate = -1
      · exact .inr (.inl e)
      · cases hh : G.hasGate n.gate
        · exact .inl ⟨e, rfl⟩
        · exact .inr (.inr rfl)
    rcases stop with hs | hs
    · rw [if_pos hs]
      refine ⟨h.push [nodeA n], ?_, DidG.grew g hg1⟩
      obtain ⟨s1, s2⟩ := hs
      refine runF_R fn_gadd rfl ?_; unfold rc_gadd
      simp only [sim, List.length_cons, List.length_nil, Nat.reduceAdd, Nat.reduceSub, List.replicate, List.cons_append, List.nil_append, List.map_cons, List.map_nil, Option.bind_some, Option.map_some, Option.bind_none, Option.map_none, if_true, if_false, decide_true, decide_false, Bool.false_eq_true, Bool.true_eq_false, Bool.not_true, Bool.not_false, reduceCtorEq, Bool.and_true, Bool.true_and, Bool.and_false, Bool.false_and, Bool.or_true, Bool.true_or, Bool.or_false, Bool.false_or, true_and, and_true, false_and, and_false, List.take_zero, List.take_succ_cons, List.drop_zero, List.drop_succ_cons, List.take_nil, List.drop_nil, List.set_cons_zero, List.set_cons_succ, Nat.reduceLeDiff, Nat.reduceLT, Nat.zero_add, Nat.lt_add_one, Nat.le_refl, clearA, Int.toNat_natCast, nodeS, r_Check, hc, hH, s1, s2]
    · have hs' : ¬ (n.gate ≠ -1 ∧ G.hasGate n.gate = false) := by
        rintro ⟨a, b⟩
        rcases hs with hs | hs
        · exact a hs
        · rw [b] at hs; cases hs
      rw [if_neg hs']
      have hs2 : decide (n.gate = -1) = true ∨ decide (n.gate = -1) = false ∧ G.hasGate n.gate = true := by
        rcases hs with hs | hs
        · exact .inl (by simp [hs])
        · by_cases e : n.gate = -1
          · exact .inl (by simp [e])
          · exact .inr ⟨by simp [e], hs⟩
      cases hd : decide ((G.nodes.length : Int) = 80)
      · have hne : ¬ G.nodes.length = 80 := by simp at hd; omega
        rw [if_neg hne]
        obtain ⟨h', v', a1, a2, a3, a4, a5, a6, a7, a8, a9⟩ := grow_app (h.push [nodeA n]) h2 (row := nodeA n) rfl (by simp; omega)
        have hwr : IntKind.wrap .i64 (((G.nodes.length + 1 : Nat) : Int) - 1) = (G.nodes.length : Int) := by rw [w64] <;> omega
        refine ⟨h'.set b (some [[v', sv]]), ?_, DidG.after hg1 (add_did g1 h3 a6 a7 a8 (by simpa using a9))⟩
        simp only [push_ids, List.length_map] at a1 a2
        rcases hs2 with hs2 | ⟨hs2, hs3⟩
        · refine runF_R fn_gadd rfl ?_; unfold rc_gadd
          simp only [sim, List.length_cons, List.length_nil, Nat.reduceAdd, Nat.reduceSub, List.replicate, List.cons_append, List.nil_append, List.map_cons, List.map_nil, Option.bind_some, Option.map_some, Option.bind_none, Option.map_none, if_true, if_false, decide_true, decide_false, Bool.false_eq_true, Bool.true_eq_false, Bool.not_true, Bool.not_false, reduceCtorEq, Bool.and_true, Bool.true_and, Bool.and_false, Bool.false_and, Bool.or_true, Bool.true_or, Bool.or_false, Bool.false_or, true_and, and_true, false_and, and_false, List.take_zero, List.take_succ_cons, List.drop_zero, List.drop_succ_cons, List.take_nil, List.drop_nil, List.set_cons_zero, List.set_cons_succ, Nat.reduceLeDiff, Nat.reduceLT, Nat.zero_add, Nat.lt_add_one, Nat.le_refl, clearA, Int.toNat_natCast, nodeS, r_Check, hc, hH, hs2, hd, h1, h2.isL.len, h2.isL.fits, List.length_map, a1, a2, a3, a4, a5, a6, hwr]
        · refine runF_R fn_gadd rfl ?_; unfold rc_gadd
          simp only [sim, List.length_cons, List.length_nil, Nat.reduceAdd, Nat.reduceSub, List.replicate, List.cons_append, List.nil_append, List.map_cons, List.map_nil, Option.bind_some, Option.map_some, Option.bind_none, Option.map_none, if_true, if_false, decide_true, decide_false, Bool.false_eq_true, Bool.true_eq_false, Bool.not_true, Bool.not_false, reduceCtorEq, Bool.and_true, Bool.true_and, Bool.and_false, Bool.false_and, Bool.or_true, Bool.true_or, Bool.or_false, Bool.false_or, true_and, and_true, false_and, and_false, List.take_zero, List.take_succ_cons, List.drop_zero, List.drop_succ_cons, List.take_nil, List.drop_nil, List.set_cons_zero, List.set_cons_succ, Nat.reduceLeDiff, Nat.reduceLT, Nat.zero_add, Nat.lt_add_one, Nat.le_refl, clearA, Int.toNat_natCast, nodeS, r_Check, hc, hH, hs2, hs3, hd, h1, h2.isL.len, h2.isL.fits, List.length_map, a1, a2, a3, a4, a5, a6, hwr]
      · have he : G.nodes.length = 80 := by simp at hd; omega
        rw [if_pos he]
        refine ⟨h.push [nodeA n], ?_, DidG.grew g hg1⟩
        rcases hs2 with hs2 | ⟨hs2, hs3⟩
        · refine runF_R fn_gadd rfl ?_; unfold rc_gadd
          simp only [sim, List.length_cons, List.length_nil, Nat.reduceAdd, Nat.reduceSub, List.replicate, List.cons_append, List.nil_append, List.map_cons, List.map_nil, Option.bind_some, Option.map_some, Option.bind_none, Option.map_none, if_true, if_false, decide_true, decide_false, Bool.false_eq_true, Bool.true_eq_false, Bool.not_true, Bool.not_false, reduceCtorEq, Bool.and_true, Bool.true_and, Bool.and_false, Bool.false_and, Bool.or_true, Bool.true_or, Bool.or_false, Bool.false_or, true_and, and_true, false_and, and_false, List.take_zero, List.take_succ_cons, List.drop_zero, List.drop_succ_cons, List.take_nil, List.drop_nil, List.set_cons_zero, List.set_cons_succ, Nat.reduceLeDiff, Nat.reduceLT, Nat.zero_add, Nat.lt_add_one, Nat.le_refl, clearA, Int.toNat_natCast, nodeS, r_Check, hc, hH, hs2, hd, h1, h2.isL.len, h2.isL.fits, List.length_map]
        · refine runF_R fn_gadd rfl ?_; unfold rc_gadd
          simp only [sim, List.length_cons, List.length_nil, Nat.reduceAdd, Nat.reduceSub, List.replicate, List.cons_append, List.nil_append, List.map_cons, List.map_nil, Option.bind_some, Option.map_some, Option.bind_none, Option.map_none, if_true, if_false, decide_true, decide_false, Bool.false_eq_true, Bool.true_eq_false, Bool.not_true, Bool.not_false, reduceCtorEq, Bool.and_true, Bool.true_and, Bool.and_false, Bool.false_and, Bool.or_true, Bool.true_or, Bool.or_false, Bool.false_or, true_and, and_true, false_and, and_false, List.take_zero, List.take_succ_cons, List.drop_zero, List.drop_succ_cons, List.take_nil, List.drop_nil, List.set_cons_zero, List.set_cons_succ, Nat.reduceLeDiff, Nat.reduceLT, Nat.zero_add, Nat.lt_add_one, Nat.le_refl, clearA, Int.toNat_natCast, nodeS, r_Check, hc, hH, hs2, hs3, hd, h1, h2.isL.len, h2.isL.fits, List.length_map]
theorem n_put (g : IsG h F J b G) (hW : G.Wf) (n : NodeD) : ∃ h', runF Try.prog po 94 [.ptr b 0 0, .agg (nodeA n)] h = some (.inl (.tup [.int .i64 (G.add n).2.1, .int .i64 (G.add n).2.2]), h') ∧ DidG h F J b h' (G.add n).1 := by
  have hg1 := GrewA.push h [nodeA n]
  have g1 := g.grew hg1
  have hbn : h.n ≠ b := by have := g.hb.2; omega
  obtain ⟨nv, sv, h1, h2, h3⟩ := g1.ex
  have hfew := hW.few
  have hH := n_Has g1
  unfold GraphD.add
  skip
  cases hc : checkI n.rights
  · rw [if_pos rfl]
    refine ⟨h.push [nodeA n], ?_, DidG.grew g hg1⟩
    refine runF_R fn_nput rfl ?_; unfold rc_nput
    have hc' : decide (n.rights < 0) = true ∨ decide (n.rights < 0) = false ∧ decide (15 < n.rights) = true := by
      simp [checkI] at hc
      simp only [decide_eq_true_eq, decide_eq_false_iff_not]
      omega
    rcases hc' with hc' | ⟨hc', hc2⟩
    · simp only [sim, List.length_cons, List.length_nil, Nat.reduceAdd, Nat.reduceSub, List.replicate, List.cons_append, List.nil_append, List.map_cons, List.map_nil, Option.bind_some, Option.map_some, Option.bind_none, Option.map_none, if_true, if_false, decide_true, decide_false, Bool.false_eq_true, Bool.true_eq_false, Bool.not_true, Bool.not_false, reduceCtorEq, Bool.and_true, Bool.true_and, Bool.and_false, Bool.false_and, Bool.or_true, Bool.true_or, Bool.or_false, Bool.false_or, true_and, and_true, false_and, and_false, List.take_zero, List.take_succ_cons, List.drop_zero, List.drop_succ_cons, List.take_nil, List.drop_nil, List.set_cons_zero, List.set_cons_succ, Nat.reduceLeDiff, Nat.reduceLT, Nat.zero_add, Nat.lt_add_one, Nat.le_refl, clearA, Int.toNat_natCast, nodeS, hc']
    · simp only [sim, List.length_cons, List.length_nil, Nat.reduceAdd, Nat.reduceSub, List.replicate, List.cons_append, List.nil_append, List.map_cons, List.map_nil, Option.bind_some, Option.map_some, Option.bind_none, Option.map_none, if_true, if_false, decide_true, decide_false, Bool.false_eq_true, Bool.true_eq_false, Bool.not_true, Bool.not_false, reduceCtorEq, Bool.and_true, Bool.true_and, Bool.and_false, Bool.false_and, Bool.or_true, Bool.true_or, Bool.or_false, Bool.false_or, true_and, and_true, false_and, and_false, List.take_zero, List.take_succ_cons, List.drop_zero, List.drop_succ_cons, List.take_nil, List.drop_nil, List.set_cons_zero, List.set_cons_succ, Nat.reduceLeDiff, Nat.reduceLT, Nat.zero_add, Nat.lt_add_one, Nat.le_refl, clearA, Int.toNat_natCast, nodeS, hc', hc2]
  · rw [if_neg (by simp)]
    have hr0 : decide (n.rights < 0) = false := by simp [checkI] at hc; simp; omega
    have hr1 : decide (15 < n.rights) = false := by simp [checkI] at hc; simp; omega
    have stop : (n.gate ≠ -1 ∧ G.hasGate n.gate = false) ∨ (n.gate = -1 ∨ G.hasGate n.gate = true) := by
      by_cases e : n.gate = -1
      · exact .inr (.inl e)
      · cases hh : G.hasGate n.gate
        · exact .inl ⟨e, rfl⟩
        · exact .inr (.inr rfl)
    rcases stop with hs | hs
    · rw [if_pos hs]
      refine ⟨h.push [nodeA n], ?_, DidG.grew g hg1⟩
      obtain ⟨s1, s2⟩ := hs
      refine runF_R fn_nput rfl ?_; unfold rc_nput
      simp only [sim, List.length_cons, List.length_nil, Nat.reduceAdd, Nat.reduceSub, List.replicate, List.cons_append, List.nil_append, List.map_cons, List.map_nil, Option.bind_some, Option.map_some, Option.bind_none, Option.map_none, if_true, if_false, decide_true, decide_false, Bool.false_eq_true, Bool.true_eq_false, Bool.not_true, Bool.not_false, reduceCtorEq, Bool.and_true, Bool.true_and, Bool.and_false, Bool.false_and, Bool.or_true, Bool.true_or, Bool.or_false, Bool.false_or, true_and, and_true, false_and, and_false, List.take_zero, List.take_succ_cons, List.drop_zero, List.drop_succ_cons, List.take_nil, List.drop_nil, List.set_cons_zero, List.set_cons_succ, Nat.reduceLeDiff, Nat.reduceLT, Nat.zero_add, Nat.lt_add_one, Nat.le_refl, clearA, Int.toNat_natCast, nodeS, hr0, hr1, hH, s1, s2]
    · have hs' : ¬ (n.gate ≠ -1 ∧ G.hasGate n.gate = false) := by
        rintro ⟨a, b⟩
        rcases hs with hs | hs
        · exact a hs
        · rw [b] at hs; cases hs
      rw [if_neg hs']
      have hs2 : decide (n.gate = -1) = true ∨ decide (n.gate = -1) = false ∧ G.hasGate n.gate = true := by
        rcases hs with hs | hs
        · exact .inl (by simp [hs])
        · by_cases e : n.gate = -1
          · exact .inl (by simp [e])
          · exact .inr ⟨by simp [e], hs⟩
      cases hd : decide (80 ≤ (G.nodes.length : Int))
      · have hne : ¬ G.nodes.length = 80 := by simp at hd; omega
        rw [if_neg hne]
        obtain ⟨h', v', a1, a2, a3, a4, a5, a6, a7, a8, a9⟩ := grow_app (h.push [nodeA n]) h2 (row := nodeA n) rfl (by simp; omega)
        have hwr : IntKind.wrap .i64 (((G.nodes.length + 1 : Nat) : Int) - 1) = (G.nodes.length : Int) := by rw [w64] <;> omega
        refine ⟨h'.set b (some [[v', sv]]), ?_, DidG.after hg1 (add_did g1 h3 a6 a7 a8 (by simpa using a9))⟩
        simp only [push_ids, List.length_map] at a1 a2
        rcases hs2 with hs2 | ⟨hs2, hs3⟩
        · refine runF_R fn_nput rfl ?_; unfold rc_nput
          simp only [sim, List.length_cons, List.length_nil, Nat.reduceAdd, Nat.reduceSub, List.replicate, List.cons_append, List.nil_append, List.map_cons, List.map_nil, Option.bind_some, Option.map_some, Option.bind_none, Option.map_none, if_true, if_false, decide_true, decide_false, Bool.false_eq_true, Bool.true_eq_false, Bool.not_true, Bool.not_false, reduceCtorEq, Bool.and_true, Bool.true_and, Bool.and_false, Bool.false_and, Bool.or_true, Bool.true_or, Bool.or_false, Bool.false_or, true_and, and_true, false_and, and_false, List.take_zero, List.take_succ_cons, List.drop_zero, List.drop_succ_cons, List.take_nil, List.drop_nil, List.set_cons_zero, List.set_cons_succ, Nat.reduceLeDiff, Nat.reduceLT, Nat.zero_add, Nat.lt_add_one, Nat.le_refl, clearA, Int.toNat_natCast, nodeS, hr0, hr1, hH, hs2, hd, h1, h2.isL.len, h2.isL.fits, List.length_map, a1, a2, a3, a4, a5, a6, hwr]
        · refine runF_R fn_nput rfl ?_; unfold rc_nput
          simp only [sim, List.length_cons, List.length_nil, Nat.reduceAdd, Nat.reduceSub, List.replicate, List.cons_append, List.nil_append, List.map_cons, List.map_nil, Option.bind_some, Option.map_some, Option.bind_none, Option.map_none, if_true, if_false, decide_true, decide_false, Bool.false_eq_true, Bool.true_eq_false, Bool.not_true, Bool.not_false, reduceCtorEq, Bool.and_true, Bool.true_and, Bool.and_false, Bool.false_and, Bool.or_true, Bool.true_or, Bool.or_false, Bool.false_or, true_and, and_true, false_and, and_false, List.take_zero, List.take_succ_cons, List.drop_zero, List.drop_succ_cons, List.take_nil, List.drop_nil, List.set_cons_zero, List.set_cons_succ, Nat.reduceLeDiff, Nat.reduceLT, Nat.zero_add, Nat.lt_add_one, Nat.le_refl, clearA, Int.toNat_natCast, nodeS, hr0, hr1, hH, hs2, hs3, hd, h1, h2.isL.len, h2.isL.fits, List.length_map, a1, a2, a3, a4, a5, a6, hwr]
      · have he : G.nodes.length = 80 := by simp at hd; omega
        rw [if_pos he]
        refine ⟨h.push [nodeA n], ?_, DidG.grew g hg1⟩
        rcases hs2 with hs2 | ⟨hs2, hs3⟩
        · refine runF_R fn_nput rfl ?_; unfold rc_nput
          simp only [sim, List.length_cons, List.length_nil, Nat.reduceAdd, Nat.reduceSub, List.replicate, List.cons_append, List.nil_append, List.map_cons, List.map_nil, Option.bind_some, Option.map_some, Option.bind_none, Option.map_none, if_true, if_false, decide_true, decide_false, Bool.false_eq_true, Bool.true_eq_false, Bool.not_true, Bool.not_false, reduceCtorEq, Bool.and_true, Bool.true_and, Bool.and_false, Bool.false_and, Bool.or_true, Bool.true_or, Bool.or_false, Bool.false_or, true_and, and_true, false_and, and_false, List.take_zero, List.take_succ_cons, List.drop_zero, List.drop_succ_cons, List.take_nil, List.drop_nil, List.set_cons_zero, List.set_cons_succ, Nat.reduceLeDiff, Nat.reduceLT, Nat.zero_add, Nat.lt_add_one, Nat.le_refl, clearA, Int.toNat_natCast, nodeS, hr0, hr1, hH, hs2, hd, h1, h2.isL.len, h2.isL.fits, List.length_map]
        · refine runF_R fn_nput rfl ?_; unfold rc_nput
          simp only [sim, List.length_cons, List.length_nil, Nat.reduceAdd, Nat.reduceSub, List.replicate, List.cons_append, List.nil_append, List.map_cons, List.map_nil, Option.bind_some, Option.map_some, Option.bind_none, Option.map_none, if_true, if_false, decide_true, decide_false, Bool.false_eq_true, Bool.true_eq_false, Bool.not_true, Bool.not_false, reduceCtorEq, Bool.and_true, Bool.true_and, Bool.and_false, Bool.false_and, Bool.or_true, Bool.true_or, Bool.or_false, Bool.false_or, true_and, and_true, false_and, and_false, List.take_zero, List.take_succ_cons, List.drop_zero, List.drop_succ_cons, List.take_nil, List.drop_nil, List.set_cons_zero, List.set_cons_succ, Nat.reduceLeDiff, Nat.reduceLT, Nat.zero_add, Nat.lt_add_one, Nat.le_refl, clearA, Int.toNat_natCast, nodeS, hr0, hr1, hH, hs2, hs3, hd, h1, h2.isL.len, h2.isL.fits, List.length_map]
end
end Go.Proofs.Ytioladnogpfeeaa
