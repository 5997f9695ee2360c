/- Net in the plain model: way, rights, targets, gates. -/
import Derived.Test.YtioladnogpfeeaaGraphS2
import Derived.Test.YtioladnogpfeeaaAid
namespace Go.Proofs.Ytioladnogpfeeaa
set_option linter.unusedSimpArgs false
set_option linter.unusedVariables false
open Go


section
variable {h : AH} {F J : Nat → Prop} {b : Nat} {G : GraphD}

theorem GraphD.way_few {G : GraphD} (hW : G.Wf) (i : Int) : (G.way i).length ≤ 81 := by
  rw [GraphD.way_length]
  exact GraphD.path_few hW i
theorem n_Way (hW : G.Wf) : ∀ (f : Nat) (i : Int) (h : AH) (F J : Nat → Prop) (b : Nat), i + 1 ≤ f → IsG h F J b G → runF Try.prog po 86 [.ptr b 0 0, .int .i64 i] h = some (.inl (lstA 3 (intsA (G.way i))), h) := by
  intro f
  induction f with
  | zero =>
    intro i h F J b hi g
    obtain ⟨nv, sv, h1, h2, -⟩ := g.ex
    have h0 : i < 0 := by omega
    have hh : G.has i = false := by simp [GraphD.has]; omega
    refine runF_R fn_nWay rfl ?_; unfold rc_nWay
    simp only [sim, List.length_cons, List.length_nil, Nat.reduceAdd, Nat.reduceSub, List.replicate, List.cons_append, List.nil_append, List.map_cons, List.map_nil, Option.bind_some, Option.map_some, Option.bind_none, Option.map_none, if_true, if_false, decide_true, decide_false, Bool.false_eq_true, Bool.true_eq_false, Bool.not_true, Bool.not_false, reduceCtorEq, Bool.and_true, Bool.true_and, Bool.and_false, Bool.false_and, Bool.or_true, Bool.true_or, Bool.or_false, Bool.false_or, true_and, and_true, false_and, and_false, List.take_zero, List.take_succ_cons, List.drop_zero, List.drop_succ_cons, List.take_nil, List.drop_nil, List.set_cons_zero, List.set_cons_succ, Nat.reduceLeDiff, Nat.reduceLT, Nat.zero_add, Nat.lt_add_one, Nat.le_refl, clearA, Int.toNat_natCast, h0, h1, GraphD.way_no hh]
    exact fg_yes (GrewA.refl h) rfl
  | succ f ih =>
    intro i h F J b hi g
    obtain ⟨nv, sv, h1, h2, -⟩ := g.ex
    refine runF_R fn_nWay rfl ?_; unfold rc_nWay
    cases hh : G.has i
    · have : decide (i < 0) = true ∨ decide (i < 0) = false ∧ decide ((G.nodes.length : Int) ≤ i) = true := by
        simp [GraphD.has] at hh
        simp only [decide_eq_true_eq, decide_eq_false_iff_not]
        omega
      rcases this with h0 | ⟨h0, h3⟩
      · simp only [sim, List.length_cons, List.length_nil, Nat.reduceAdd, Nat.reduceSub, List.replicate, List.cons_append, List.nil_append, List.map_cons, List.map_nil, Option.bind_some, Option.map_some, Option.bind_none, Option.map_none, if_true, if_false, decide_true, decide_false, Bool.false_eq_true, Bool.true_eq_false, Bool.not_true, Bool.not_false, reduceCtorEq, Bool.and_true, Bool.true_and, Bool.and_false, Bool.false_and, Bool.or_true, Bool.true_or, Bool.or_false, Bool.false_or, true_and, and_true, false_and, and_false, List.take_zero, List.take_succ_cons, List.drop_zero, List.drop_succ_cons, List.take_nil, List.drop_nil, List.set_cons_zero, List.set_cons_succ, Nat.reduceLeDiff, Nat.reduceLT, Nat.zero_add, Nat.lt_add_one, Nat.le_refl, clearA, Int.toNat_natCast, h0, h1, GraphD.way_no hh]
        exact fg_yes (GrewA.refl h) rfl
      · simp only [sim, List.length_cons, List.length_nil, Nat.reduceAdd, Nat.reduceSub, List.replicate, List.cons_append, List.nil_append, List.map_cons, List.map_nil, Option.bind_some, Option.map_some, Option.bind_none, Option.map_none, if_true, if_false, decide_true, decide_false, Bool.false_eq_true, Bool.true_eq_false, Bool.not_true, Bool.not_false, reduceCtorEq, Bool.and_true, Bool.true_and, Bool.and_false, Bool.false_and, Bool.or_true, Bool.true_or, Bool.or_false, Bool.false_or, true_and, and_true, false_and, and_false, List.take_zero, List.take_succ_cons, List.drop_zero, List.drop_succ_cons, List.take_nil, List.drop_nil, List.set_cons_zero, List.set_cons_succ, Nat.reduceLeDiff, Nat.reduceLT, Nat.zero_add, Nat.lt_add_one, Nat.le_refl, clearA, Int.toNat_natCast, h0, h3, h1, h2.isL.len, h2.isL.fits, List.length_map, GraphD.way_no hh]
        exact fg_yes (GrewA.refl h) rfl
    · obtain ⟨m, rfl, hm, hm2⟩ := GraphD.node_nat hh
      have hix := h2.isL.ix .i64 m _ hm2
      have h0 : decide ((m : Int) < 0) = false := by simp
      have h3 : decide ((G.nodes.length : Int) ≤ (m : Int)) = false := by simp; omega
      have ok := hW.get hh
      have hp := ok.p1
      have hp0 := ok.p0
      simp only [Int.toNat_natCast] at hp hp0
      have g1 : GrewA h (h.fresh 1) := GrewA.fresh h 1
      have hcall := ih (G.nodes.getD m zeroN).parent (h.fresh 1) F J b (by omega) (g.grew g1)
      have ha : Acc h (h.fresh 1) 3 (.isl (some h.ids) 3 [[.int .i64 (m : Int)]]) [[.int .i64 (m : Int)]] := .inr ⟨h.ids, by simp, Nat.le_refl _, by simp [AH.fresh], by simp [AH.fresh], rfl⟩
      obtain ⟨v', h', e1, a1, a2, -, -⟩ := acc_apps ha g1 (lst_app 3 (intsA (G.way (G.nodes.getD m zeroN).parent))) (ints_one _) (by simp) (by have := GraphD.way_few hW (G.nodes.getD m zeroN).parent; rw [List.length_map]; omega)
      have hway := GraphD.way_yes hW hh
      simp only [Int.toNat_natCast] at hway
      have hfin : wkA v' = some (lstA 3 (intsA (G.way m))) := by
        rw [hway]
        exact acc_wk a1 (ints_flat (m :: G.way (G.nodes.getD m zeroN).parent))
      simp only [sim, List.length_cons, List.length_nil, Nat.reduceAdd, Nat.reduceSub, List.replicate, List.cons_append, List.nil_append, List.map_cons, List.map_nil, Option.bind_some, Option.map_some, Option.bind_none, Option.map_none, if_true, if_false, decide_true, decide_false, Bool.false_eq_true, Bool.true_eq_false, Bool.not_true, Bool.not_false, reduceCtorEq, Bool.and_true, Bool.true_and, Bool.and_false, Bool.false_and, Bool.or_true, Bool.true_or, Bool.or_false, Bool.false_or, true_and, and_true, false_and, and_false, List.take_zero, List.take_succ_cons, List.drop_zero, List.drop_succ_cons, List.take_nil, List.drop_nil, List.set_cons_zero, List.set_cons_succ, Nat.reduceLeDiff, Nat.reduceLT, Nat.zero_add, Nat.lt_add_one, Nat.le_refl, clearA, Int.toNat_natCast, h0, h3, h1, h2.isL.len, h2.isL.fits, List.length_map, hix, nodeS, hcall, e1, fg_yes a2 hfin]
theorem n_way (g : IsG h F J b G) (hW : G.Wf) (i : Int) : runF Try.prog po 86 [.ptr b 0 0, .int .i64 i] h = some (.inl (lstA 3 (intsA (G.way i))), h) := n_Way hW (i + 1).toNat i h F J b (by omega) g

theorem b_shr {kd : Kd} {q q2 : IntKind} {x : Int} {k : Nat} (hk : k ≤ q.bits) : binA kd .shr (.int q x) (.int q2 (k : Int)) = some (.int q (x.fdiv (2 ^ k))) := by
  simp [binA, Nat.min_eq_left hk]
theorem b_shl {kd : Kd} {q q2 : IntKind} {x : Int} {k : Nat} (hk : k ≤ q.bits) : binA kd .shl (.int q x) (.int q2 (k : Int)) = some (.int q (q.wrap (x * 2 ^ k))) := by
  simp [binA, Nat.min_eq_left hk]
theorem u64n {k : Nat} (hk : k < 1000) : IntKind.wrap .u64 (k : Int) = k := by rw [IntKind.wrap_u64]; omega
theorem r_Bit (x : Int) (k : Nat) (hk : k < 64) : runF Try.prog po 59 [.int .i64 x, .int .i64 (k : Int)] h = some (.inl (.bool (bitI x k)), h) := by
  refine runF_R fn_Bit rfl ?_; unfold rc_Bit
  have hs : ∀ kd, binA kd .shr (.int .i64 x) (.int .u64 (k : Int)) = some (.int .i64 (x.fdiv (2 ^ k))) := fun kd => b_shr (by simp [IntKind.bits]; omega)
  simp only [sim, List.length_cons, List.length_nil, Nat.reduceAdd, Nat.reduceSub, List.replicate, List.cons_append, List.nil_append, List.map_cons, List.map_nil, Option.bind_some, Option.map_some, Option.bind_none, Option.map_none, if_true, if_false, decide_true, decide_false, Bool.false_eq_true, Bool.true_eq_false, Bool.not_true, Bool.not_false, reduceCtorEq, Bool.and_true, Bool.true_and, Bool.and_false, Bool.false_and, Bool.or_true, Bool.true_or, Bool.or_false, Bool.false_or, true_and, and_true, false_and, and_false, List.take_zero, List.take_succ_cons, List.drop_zero, List.drop_succ_cons, List.take_nil, List.drop_nil, List.set_cons_zero, List.set_cons_succ, Nat.reduceLeDiff, Nat.reduceLT, Nat.zero_add, Nat.lt_add_one, Nat.le_refl, clearA, Int.toNat_natCast, u64n (k := k) (by omega), hs]
  have e : x.fdiv (2 ^ k) = x / 2 ^ k := Int.fdiv_eq_ediv_of_nonneg _ (by exact Int.le_of_lt (Int.pow_pos (by decide)))
  rw [e]
  rfl

def wayAll (G : GraphD) (k : Nat) (l : List Int) : Bool := l.all fun i => bitI (G.at_ i).rights k && !closedOn G (G.at_ i)
theorem nRights_in (g : IsG h F J b G) (hW : G.Wf) (W : List Int) (w : AV) (hw : IsL 3 w (intsA W)) (hWl : W.length ≤ 1000) (hWh : ∀ i ∈ W, G.has i = true) (k : Nat) (hk : k < 64) (v1 v2 v4 v9 : AV) (K : List RK) : ∀ (l pre : List Int) (a : Bool) (h' : AH) (v8 v10 v11 : AV), W = pre ++ l → GrewA h h' →
    ∃ h'' v7 v8' v10' , runR (runF Try.prog po) 12 (.lp rc_nRights_b1 :: .ss [] :: .blk 2 :: K) [.ptr b 0 0, v1, v2, w, v4, .int .i64 (k : Int), .bool a, .int .i64 (pre.length : Int), v8, v9, v10, v11] [] h' =
      runR (runF Try.prog po) 12 K [.ptr b 0 0, v1, v2, w, v4, .int .i64 (k : Int), .bool (a && wayAll G k l), v7, v8', v9, v10', v11] [] h'' ∧ GrewA h h'' := by
  intro l
  induction l with
  | nil =>
    intro pre a h' v8 v10 v11 e hg
    rw [r_lpb rc_nRights_b1.eq_1]
    have hlt : ¬ ((pre.length : Int) < (W.length : Int)) := by rw [e]; simp
    refine ⟨h', .int .i64 (pre.length : Int), v8, .bool false, ?_, hg⟩
    simp only [sim, List.length_cons, List.length_nil, Nat.reduceAdd, Nat.reduceSub, List.replicate, List.cons_append, List.nil_append, List.map_cons, List.map_nil, Option.bind_some, Option.map_some, Option.bind_none, Option.map_none, if_true, if_false, decide_true, decide_false, Bool.false_eq_true, Bool.true_eq_false, Bool.not_true, Bool.not_false, reduceCtorEq, Bool.and_true, Bool.true_and, Bool.and_false, Bool.false_and, Bool.or_true, Bool.true_or, Bool.or_false, Bool.false_or, true_and, and_true, false_and, and_false, List.take_zero, List.take_succ_cons, List.drop_zero, List.drop_succ_cons, List.take_nil, List.drop_nil, List.set_cons_zero, List.set_cons_succ, Nat.reduceLeDiff, Nat.reduceLT, Nat.zero_add, Nat.lt_add_one, Nat.le_refl, clearA, Int.toNat_natCast, hw.len, hw.fits, List.length_map, hlt, wayAll, List.all_nil]
  | cons i l ih =>
    intro pre a h' v8 v10 v11 e hg
    have g' := g.grew hg
    obtain ⟨nv, sv, h1, h2, -⟩ := g'.ex
    have hlt : (pre.length : Int) < (W.length : Int) := by rw [e]; simp; omega
    have hiW := hWh i (by rw [e]; simp)
    obtain ⟨m, rfl, hm, hm2⟩ := GraphD.node_nat hiW
    have hix := hw.ix .i64 pre.length [.int .i64 (m : Int)] (by rw [e]; simp)
    have hix2 := h2.isL.ix .i64 m _ hm2
    have hat : G.at_ (m : Int) = G.nodes.getD m zeroN := rfl
    have hg2 : GrewA h (h'.push [nodeA (G.nodes.getD m zeroN)]) := hg.trans (GrewA.push _ _)
    have hwr := w64 (n := (pre.length : Int) + 1) (by omega) (by omega)
    have hbn : b ≠ h'.n := by have := g'.hb.2; omega
    have gO := n_Open (g.grew hg2)
    have e2 : ((pre ++ [(m : Int)]).length : Int) = (pre.length : Int) + 1 := by simp
    have hB := r_Bit (h := h'.push [nodeA (G.nodes.getD m zeroN)]) (G.nodes.getD m zeroN).rights k hk
    obtain ⟨h'', v7, v8', v10', r1, r2⟩ := ih (pre ++ [(m : Int)]) (a && (bitI (G.nodes.getD m zeroN).rights k && !closedOn G (G.nodes.getD m zeroN))) (h'.push [nodeA (G.nodes.getD m zeroN)]) (.ptr h'.n 0 0) (.bool true) v11 (by simp [e]) hg2
    refine ⟨h'', v7, v8', v10', ?_, r2⟩
    rw [e2] at r1
    rw [r_lpb rc_nRights_b1.eq_1]
    generalize G.nodes.getD m zeroN = n at *
    have hal : wayAll G k ((m : Int) :: l) = ((bitI n.rights k && !closedOn G n) && wayAll G k l) := by simp only [wayAll, List.all_cons, hat]
    rw [hal, ← Bool.and_assoc, ← r1]
    have hcl : closedOn G n = (decide (0 ≤ n.gate) && !G.isOpen n.gate) := rfl
    by_cases h0 : n.gate < 0
    · have h0' : ¬ (0 ≤ n.gate) := by omega
      cases a <;> cases hb : bitI n.rights k <;> simp only [sim, List.length_cons, List.length_nil, Nat.reduceAdd, Nat.reduceSub, List.replicate, List.cons_append, List.nil_append, List.map_cons, List.map_nil, Option.bind_some, Option.map_some, Option.bind_none, Option.map_none, if_true, if_false, decide_true, decide_false, Bool.false_eq_true, Bool.true_eq_false, Bool.not_true, Bool.not_false, reduceCtorEq, Bool.and_true, Bool.true_and, Bool.and_false, Bool.false_and, Bool.or_true, Bool.true_or, Bool.or_false, Bool.false_or, true_and, and_true, false_and, and_false, List.take_zero, List.take_succ_cons, List.drop_zero, List.drop_succ_cons, List.take_nil, List.drop_nil, List.set_cons_zero, List.set_cons_succ, Nat.reduceLeDiff, Nat.reduceLT, Nat.zero_add, Nat.lt_add_one, Nat.le_refl, clearA, Int.toNat_natCast, hw.len, hw.fits, List.length_map, hlt, hix, hix2, h1, nodeS, push_ne hbn, hB, hb, h0, h0', hcl, hwr]
    · have h0' : 0 ≤ n.gate := by omega
      cases a <;> cases hb : bitI n.rights k <;> cases hO : G.isOpen n.gate <;> simp only [sim, List.length_cons, List.length_nil, Nat.reduceAdd, Nat.reduceSub, List.replicate, List.cons_append, List.nil_append, List.map_cons, List.map_nil, Option.bind_some, Option.map_some, Option.bind_none, Option.map_none, if_true, if_false, decide_true, decide_false, Bool.false_eq_true, Bool.true_eq_false, Bool.not_true, Bool.not_false, reduceCtorEq, Bool.and_true, Bool.true_and, Bool.and_false, Bool.false_and, Bool.or_true, Bool.true_or, Bool.or_false, Bool.false_or, true_and, and_true, false_and, and_false, List.take_zero, List.take_succ_cons, List.drop_zero, List.drop_succ_cons, List.take_nil, List.drop_nil, List.set_cons_zero, List.set_cons_succ, Nat.reduceLeDiff, Nat.reduceLT, Nat.zero_add, Nat.lt_add_one, Nat.le_refl, clearA, Int.toNat_natCast, hw.len, hw.fits, List.length_map, hlt, hix, hix2, h1, nodeS, push_ne hbn, hB, hb, h0, h0', hcl, hwr, gO, hO]
def sumN (G : GraphD) (W : List Int) (k : Nat) : Int := ((List.range k).map fun j => if wayAll G j W then (2 : Int) ^ j else 0).sum
theorem sumN_succ (G : GraphD) (W : List Int) (k : Nat) : sumN G W (k + 1) = sumN G W k + (if wayAll G k W then (2 : Int) ^ k else 0) := by
  simp [sumN, List.range_succ]
theorem sumN_small (G : GraphD) (W : List Int) : ∀ k, 0 ≤ sumN G W k ∧ sumN G W k < 2 ^ k
  | 0 => by simp [sumN]
  | k + 1 => by
    have := sumN_small G W k
    have h2 : (2 : Int) ^ (k + 1) = 2 ^ k + 2 ^ k := by rw [Int.pow_succ]; omega
    rw [sumN_succ, h2]
    split <;> omega
theorem nRights_out (g : IsG h F J b G) (hW : G.Wf) (W : List Int) (w : AV) (hw : IsL 3 w (intsA W)) (hWl : W.length ≤ 1000) (hW0 : W ≠ []) (hWh : ∀ i ∈ W, G.has i = true) (v1 : AV) : ∀ (d k : Nat) (h' : AH) (v6 v7 v8 v9 v10 v11 : AV), k + d = 4 → GrewA h h' →
    cFR true [.v 2] h (runR (runF Try.prog po) 12 [.lp rc_nRights_b2, .ss [], .blk 0, .ss [.ops [(.i .l (.mv (.v 4))), (.i (.v 2) (.mv (.l 0)))], .ret]] [.ptr b 0 0, v1, .int .i64 0, w, .int .i64 (sumN G W k), .int .i64 (k : Int), v6, v7, v8, v9, v10, v11] [] h') =
      some (.inl (.int .i64 (sumN G W 4)), h) := by
  intro d
  induction d with
  | zero =>
    intro k h' v6 v7 v8 v9 v10 v11 hk hg
    obtain rfl : k = 4 := by omega
    rw [r_lpb rc_nRights_b2.eq_1]
    have h4 : ((4 : Nat) : Int) = 4 := rfl
    simp only [sim, List.length_cons, List.length_nil, Nat.reduceAdd, Nat.reduceSub, List.replicate, List.cons_append, List.nil_append, List.map_cons, List.map_nil, Option.bind_some, Option.map_some, Option.bind_none, Option.map_none, if_true, if_false, decide_true, decide_false, Bool.false_eq_true, Bool.true_eq_false, Bool.not_true, Bool.not_false, reduceCtorEq, Bool.and_true, Bool.true_and, Bool.and_false, Bool.false_and, Bool.or_true, Bool.true_or, Bool.or_false, Bool.false_or, true_and, and_true, false_and, and_false, List.take_zero, List.take_succ_cons, List.drop_zero, List.drop_succ_cons, List.take_nil, List.drop_nil, List.set_cons_zero, List.set_cons_succ, Nat.reduceLeDiff, Nat.reduceLT, Nat.zero_add, Nat.lt_add_one, Nat.le_refl, clearA, Int.toNat_natCast, h4, Int.lt_irrefl, fg_yes hg (rfl : wkA (.int .i64 (sumN G W 4)) = _)]
  | succ d ih =>
    intro k h' v6 v7 v8 v9 v10 v11 hk hg
    have hlt : (k : Int) < 4 := by omega
    have hpos : (0 : Int) < (W.length : Int) := by
      have : 0 < W.length := List.length_pos_iff.2 hW0
      omega
    have hsm := sumN_small G W k
    have hp16 : (2 : Int) ^ k ≤ 16 := by
      have : k = 0 ∨ k = 1 ∨ k = 2 ∨ k = 3 := by omega
      rcases this with rfl | rfl | rfl | rfl <;> decide
    have hp0 : (0 : Int) < (2 : Int) ^ k := Int.pow_pos (by decide)
    have hw1 : IntKind.wrap .i64 (1 * 2 ^ k : Int) = 2 ^ k := by rw [Int.one_mul]; exact w64 (by omega) (by omega)
    have hw2 := w64 (n := sumN G W k + 2 ^ k) (by omega) (by omega)
    have hw3 := w64 (n := (k : Int) + 1) (by omega) (by omega)
    have hsh : ∀ kd, binA kd .shl (.int .i64 1) (.int .u64 (k : Int)) = some (.int .i64 (IntKind.wrap .i64 (1 * 2 ^ k))) := fun kd => b_shl (by simp [IntKind.bits]; omega)
    have e1 : ((k + 1 : Nat) : Int) = (k : Int) + 1 := by omega
    obtain ⟨h'', u7, u8, u10, r1, r2⟩ := nRights_in g hW W w hw hWl hWh k (by omega) v1 (.int .i64 0) (.int .i64 (sumN G W k)) (.bool true) [.ss [.ops [(.i (.v 11) (.mv (.v 6)))], .cond (.v 11) [.ops [(.i .l (.mv (.v 4))), (.i .l (.mv (.v 5))), (.i .l (.conv (.int .u64) (.l 0))), (.i .l (.bin (.int .i64) .shl (.c (.int .i64 1)) (.l 0))), (.i .l (.bin (.int .i64) .add (.l 3) (.l 0))), (.i (.v 4) (.mv (.l 0)))]] []], .blk 1, .ss [.ops [(.i .l (.mv (.v 5))), (.i .l (.bin (.int .i64) .add (.l 0) (.c (.int .i64 1)))), (.i (.v 5) (.mv (.l 0)))]], .lp rc_nRights_b2, .ss [], .blk 0, .ss [.ops [(.i .l (.mv (.v 4))), (.i (.v 2) (.mv (.l 0)))], .ret]] W [] true h' v8 v10 v11 rfl hg
    simp only [List.length_nil, Int.natCast_zero, Bool.true_and] at r1
    rw [r_lpb rc_nRights_b2.eq_1]
    cases ha : wayAll G k W
    · have := ih (k + 1) h'' (.bool false) u7 u8 (.bool true) u10 (.bool false) (by omega) r2
      rw [sumN_succ, ha, e1] at this
      simp only [Bool.false_eq_true, if_false, Int.add_zero] at this
      simp only [sim, List.length_cons, List.length_nil, Nat.reduceAdd, Nat.reduceSub, List.replicate, List.cons_append, List.nil_append, List.map_cons, List.map_nil, Option.bind_some, Option.map_some, Option.bind_none, Option.map_none, if_true, if_false, decide_true, decide_false, Bool.false_eq_true, Bool.true_eq_false, Bool.not_true, Bool.not_false, reduceCtorEq, Bool.and_true, Bool.true_and, Bool.and_false, Bool.false_and, Bool.or_true, Bool.true_or, Bool.or_false, Bool.false_or, true_and, and_true, false_and, and_false, List.take_zero, List.take_succ_cons, List.drop_zero, List.drop_succ_cons, List.take_nil, List.drop_nil, List.set_cons_zero, List.set_cons_succ, Nat.reduceLeDiff, Nat.reduceLT, Nat.zero_add, Nat.lt_add_one, Nat.le_refl, clearA, Int.toNat_natCast, hlt, hw.len, hw.fits, List.length_map, hpos, r1, ha, u64n (k := k) (by omega), hsh, hw1, hw2, hw3, this]
    · have := ih (k + 1) h'' (.bool true) u7 u8 (.bool true) u10 (.bool true) (by omega) r2
      rw [sumN_succ, ha, e1] at this
      simp only [if_true] at this
      simp only [sim, List.length_cons, List.length_nil, Nat.reduceAdd, Nat.reduceSub, List.replicate, List.cons_append, List.nil_append, List.map_cons, List.map_nil, Option.bind_some, Option.map_some, Option.bind_none, Option.map_none, if_true, if_false, decide_true, decide_false, Bool.false_eq_true, Bool.true_eq_false, Bool.not_true, Bool.not_false, reduceCtorEq, Bool.and_true, Bool.true_and, Bool.and_false, Bool.false_and, Bool.or_true, Bool.true_or, Bool.or_false, Bool.false_or, true_and, and_true, false_and, and_false, List.take_zero, List.take_succ_cons, List.drop_zero, List.drop_succ_cons, List.take_nil, List.drop_nil, List.set_cons_zero, List.set_cons_succ, Nat.reduceLeDiff, Nat.reduceLT, Nat.zero_add, Nat.lt_add_one, Nat.le_refl, clearA, Int.toNat_natCast, hlt, hw.len, hw.fits, List.length_map, hpos, r1, ha, u64n (k := k) (by omega), hsh, hw1, hw2, hw3, this]
theorem wayAll_path (G : GraphD) (k : Nat) (i : Int) : wayAll G k (G.way i) = allOn G (G.path i) k := by
  unfold wayAll allOn
  rw [← GraphD.way_path, List.all_map]
  rfl
theorem n_Rights (g : IsG h F J b G) (hW : G.Wf) (i : Int) : runF Try.prog po 60 [.ptr b 0 0, .int .i64 i] h = some (.inl (.int .i64 (G.rights i)), h) := by
  refine runF_R fn_nRights rfl ?_; unfold rc_nRights
  have hl := isL_lst 3 (intsA (G.way i))
  have hfew := GraphD.way_few hW i
  rw [← net_rights hW i]
  by_cases hz : G.way i = []
  · have hp : G.path i = [] := by rw [← GraphD.way_path, hz]; rfl
    have hlen : (G.way i).length = 0 := by rw [hz]; rfl
    have hr : netRights G i 4 = 0 := by unfold netRights; rw [if_pos hp]
    have h04 : (0 : Int) < 4 := by decide
    rw [hr]
    simp only [sim, List.length_cons, List.length_nil, Nat.reduceAdd, Nat.reduceSub, List.replicate, List.cons_append, List.nil_append, List.map_cons, List.map_nil, Option.bind_some, Option.map_some, Option.bind_none, Option.map_none, if_true, if_false, decide_true, decide_false, Bool.false_eq_true, Bool.true_eq_false, Bool.not_true, Bool.not_false, reduceCtorEq, Bool.and_true, Bool.true_and, Bool.and_false, Bool.false_and, Bool.or_true, Bool.true_or, Bool.or_false, Bool.false_or, true_and, and_true, false_and, and_false, List.take_zero, List.take_succ_cons, List.drop_zero, List.drop_succ_cons, List.take_nil, List.drop_nil, List.set_cons_zero, List.set_cons_succ, Nat.reduceLeDiff, Nat.reduceLT, Nat.zero_add, Nat.lt_add_one, Nat.le_refl, clearA, Int.toNat_natCast, n_way g hW]
    rw [r_lpb rc_nRights_b2.eq_1]
    simp only [sim, List.length_cons, List.length_nil, Nat.reduceAdd, Nat.reduceSub, List.replicate, List.cons_append, List.nil_append, List.map_cons, List.map_nil, Option.bind_some, Option.map_some, Option.bind_none, Option.map_none, if_true, if_false, decide_true, decide_false, Bool.false_eq_true, Bool.true_eq_false, Bool.not_true, Bool.not_false, reduceCtorEq, Bool.and_true, Bool.true_and, Bool.and_false, Bool.false_and, Bool.or_true, Bool.true_or, Bool.or_false, Bool.false_or, true_and, and_true, false_and, and_false, List.take_zero, List.take_succ_cons, List.drop_zero, List.drop_succ_cons, List.take_nil, List.drop_nil, List.set_cons_zero, List.set_cons_succ, Nat.reduceLeDiff, Nat.reduceLT, Nat.zero_add, Nat.lt_add_one, Nat.le_refl, clearA, Int.toNat_natCast, hl.len, hl.fits, List.length_map, hlen, Int.natCast_zero, Int.lt_irrefl, h04]
  · have hp : G.path i ≠ [] := by
      intro e
      rw [← GraphD.way_path] at e
      exact hz (List.map_eq_nil_iff.1 e)
    have hr : netRights G i 4 = sumN G (G.way i) 4 := by
      unfold netRights sumN
      rw [if_neg hp]
      simp only [wayAll_path]
    rw [hr]
    have := nRights_out g hW (G.way i) (lstA 3 (intsA (G.way i))) hl (by omega) hz (GraphD.way_has i) (.int .i64 i) 4 0 h .junk .junk .junk .junk .junk .junk rfl (GrewA.refl h)
    have h0 : sumN G (G.way i) 0 = 0 := rfl
    rw [h0] at this
    simp only [sim, List.length_cons, List.length_nil, Nat.reduceAdd, Nat.reduceSub, List.replicate, List.cons_append, List.nil_append, List.map_cons, List.map_nil, Option.bind_some, Option.map_some, Option.bind_none, Option.map_none, if_true, if_false, decide_true, decide_false, Bool.false_eq_true, Bool.true_eq_false, Bool.not_true, Bool.not_false, reduceCtorEq, Bool.and_true, Bool.true_and, Bool.and_false, Bool.false_and, Bool.or_true, Bool.true_or, Bool.or_false, Bool.false_or, true_and, and_true, false_and, and_false, List.take_zero, List.take_succ_cons, List.drop_zero, List.drop_succ_cons, List.take_nil, List.drop_nil, List.set_cons_zero, List.set_cons_succ, Nat.reduceLeDiff, Nat.reduceLT, Nat.zero_add, Nat.lt_add_one, Nat.le_refl, clearA, Int.toNat_natCast, n_way g hW]
    exact this
end
end Go.Proofs.Ytioladnogpfeeaa
