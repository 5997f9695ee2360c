/- pass in the plain model: PassThrough; the laws' walks. -/
import Derived.Test.YtioladnogpfeeaaPassS4
namespace Go.Proofs.Ytioladnogpfeeaa
set_option linter.unusedSimpArgs false
set_option linter.unusedVariables false
open Go Go.RowKit

mutual
theorem shapeD_size : ∀ x : VD, (shapeD x).size = x.size
  | .mk kind n l => by simp only [shapeD, VD.size, shapeDs_size l]
theorem shapeDs_size : ∀ l : List VD, sizesV (l.map shapeD) = sizesV l
  | [] => rfl
  | x :: l => by simp only [List.map_cons, sizesV, shapeD_size x, shapeDs_size l]
end
abbrev posI (k : Int) : Bool := decide (0 ≤ k)
theorem back_step {ks : List Int} {j : Nat} (hj : j < ks.length) : ∃ k, ks[ks.length - 1 - j]? = some k ∧ (ks.drop (ks.length - (j + 1))).reverse.filter posI = (ks.drop (ks.length - j)).reverse.filter posI ++ (if posI k then [k] else []) := by
  have hi : ks.length - 1 - j < ks.length := by omega
  refine ⟨ks[ks.length - 1 - j], List.getElem?_eq_getElem hi, ?_⟩
  have e : ks.length - (j + 1) = ks.length - 1 - j := by omega
  have e2 : ks.length - j = ks.length - 1 - j + 1 := by omega
  rw [e, e2, List.drop_eq_getElem_cons hi, List.reverse_cons, List.filter_append]
  congr 1
  simp only [List.filter_cons, List.filter_nil]
theorem gates_few {G : GraphD} (hW : G.Wf) (i : Int) : (G.gatesC i).length ≤ 1000 := by
  have h1 := List.length_filter_le (fun n : NodeD => decide (0 ≤ n.gate)) (G.path i)
  have h2 := GraphD.path_few hW i
  simp only [GraphD.gatesC, gatesOf, List.length_map]
  omega

section
variable {h : AH}
set_option maxHeartbeats 2000000 in
theorem PassThrough_run (sv gv : AV) (xs : List StepD) (x : VD) (r : List AV) (ks : List Int) (hv : IsL 93 sv (xs.map stepA)) (hx : VaA x r) (hg : SlA 3 gv (intsA ks)) :
    runF Try.prog po 5 [sv, .agg r, gv] h = some (.inl (.bool true), h) := by
  obtain ⟨o1, o2⟩ := hx.one
  have pb := fun h => pass_begun h
  have e1 := fun h => GreatVal_run (h := h) hx
  have vl := hv.len
  have vf := hv.fits
  have gl := hg.isL.len
  have gf := hg.isL.fits
  rw [List.length_map] at vl gl
  cases hA : decide ((150 : Int) < (xs.length : Int))
  · cases hB : x.great
    · cases hC : decide ((50 : Int) < (ks.length : Int))
      · have hxl : xs.length ≤ 1000 := by have := of_decide_eq_false hA; omega
        have hkl : ks.length ≤ 1000000 := by have := of_decide_eq_false hC; omega
        have hsz := great_size hB
        simp only [hB] at e1
        have hW := runS_wf xs
        generalize hG : runS xs = G at hW
        obtain ⟨h1, gr, t1⟩ := graphs_run' (h := h) sv xs r hv hxl
        rw [hG] at t1
        have b1 := box_cell t1
        obtain ⟨h2, ⟨r2, w2, x2⟩, t2, k2⟩ := t1.call fun F J g => Across_run g hW hx hg hkl
        obtain ⟨p1, p2⟩ := x2.one
        have t3 := t2.push [r2]
        have b3 := box_cell t3
        by_cases hz : (acrossG ks G x).2.2 = 0
        · have hW' := acrossG_wf (ks := ks) (x := x) hW
          have hrel : mayG G x = 0 ∧ RelV ks (acrossG ks G x).1 x (acrossG ks G x).2.1 := by
            unfold acrossG at hz ⊢
            by_cases hm : mayG G x = 0
            · rw [if_neg (by simp [hm])] at hz ⊢
              exact ⟨hm, (valG_rel ks x G hW (may_has hm).2 hz).2⟩
            · rw [if_pos hm] at hz
              exact absurd hz hm
          obtain ⟨hm, rel⟩ := hrel
          have hgate := (may_has hm).1
          rw [hz] at w2
          generalize (acrossG ks G x).1 = G' at *
          generalize (acrossG ks G x).2.1 = y at *
          have hys := rel.size
          have hyg : y.gate = false := by rw [rel.gate, hgate]
          have c1 := CapsOf_run _ x (Nat.le_refl _) (by omega) r (h2.push [r2]) hx
          have c2 := CapsOf_run _ y (Nat.le_refl _) (by omega) r2 (h2.push [r2]) x2
          obtain ⟨s1, e2, y1⟩ := shape_run _ x (Nat.le_refl _) (by omega) r (h2.push [r2]) hx
          obtain ⟨s2, e3, y2⟩ := shape_run _ y (Nat.le_refl _) (by omega) r2 (h2.push [r2]) x2
          have e4 := SameVal_run _ (shapeD x) (Nat.le_refl _) (by rw [shapeD_size]; omega) (shapeD y) s1 s2 (h2.push [r2]) y1 y2
          rw [rel.shape, sameV_refl] at e4
          have e5 := GateIn_run _ y (Nat.le_refl _) (by omega) r2 (h2.push [r2]) x2
          rw [hyg] at e5
          have il1 := isL_lst 3 (intsA x.caps)
          have il2 := isL_lst 3 (intsA y.caps)
          have l1 := il1.len
          have l2 := il2.len
          rw [List.length_map] at l1 l2
          have f1 := il1.fits
          have f2 := il2.fits
          have hll : y.caps.length = x.caps.length := rel.caps.len.symm
          rw [hll] at l2
          have cf := x.caps_few
          obtain ⟨F3, J3, g3⟩ := t3.g1
          have gg := (GrewA.push h [r]).trans t3.all
          refine runF_E fn_PassThrough rfl fun Q hQ => ?_; unfold rc_PassThrough
          simp only [sim, List.length_cons, List.length_nil, Nat.reduceAdd, Nat.reduceSub, List.replicate, List.cons_append, List.nil_append, List.map_cons, List.map_nil, Option.bind_some, Option.map_some, Option.bind_none, Option.map_none, if_true, if_false, decide_true, decide_false, Bool.false_eq_true, Bool.true_eq_false, Bool.not_true, Bool.not_false, reduceCtorEq, Bool.and_true, Bool.true_and, Bool.and_false, Bool.false_and, Bool.or_true, Bool.true_or, Bool.or_false, Bool.false_or, true_and, and_true, false_and, and_false, List.take_zero, List.take_succ_cons, List.drop_zero, List.drop_succ_cons, List.take_nil, List.drop_nil, List.set_cons_zero, List.set_cons_succ, Nat.reduceLeDiff, Nat.reduceLT, Nat.zero_add, Nat.lt_add_one, Nat.le_refl, clearA, Int.toNat_natCast, o1, o2, ld_all o2, pb, vl, vf, hA, e1, gl, gf, hC, gr, b1, w2, p1, p2, ld_all p2, b3, c1, c2, e2, e3, e4, e5, l1, l2, f1, f2, eq_self]
          refine loop_Q (fun i V h' => ∃ v11 v12 v13 v14 v15 v20 v21 v22 v23, V = [sv, .agg r, gv, .ptr h.n 0 0, .bool false, .ptr (h.n + 1) 0 0, .ptr h2.n 0 0, .int .i64 0, lstA 3 (intsA x.caps), lstA 3 (intsA y.caps), .int .i64 (i : Nat), v11, v12, v13, v14, v15, .bool false, .bool false, .bool false, .bool false, v20, v21, v22, v23] ∧ GrewA (h2.push [r2]) h') x.caps.length ⟨_, _, _, _, _, _, _, _, _, rfl, GrewA.refl _⟩ ?_ ?_
          · rintro i V h' hi ⟨v11, v12, v13, v14, v15, v20, v21, v22, v23, rfl, gx⟩ next
            have hlt : (i : Int) < (x.caps.length : Int) := by omega
            have hw := w64 (n := (i : Int) + 1) (by omega) (by omega)
            obtain ⟨n, hn⟩ : ∃ n, x.caps[i]? = some n := ⟨_, List.getElem?_eq_getElem hi⟩
            obtain ⟨n', hn'⟩ : ∃ n, y.caps[i]? = some n := ⟨_, List.getElem?_eq_getElem (by omega)⟩
            have rc := rel.caps.get hn hn'
            have i1 := il1.ix .i64 i [.int .i64 n] (by simp [hn])
            have i2 := il2.ix .i64 i [.int .i64 n'] (by simp [hn'])
            have gi := g3.grew gx
            have gt1 := g_Target gi hW' n
            have gp := gx.trans (GrewA.push h' [nodeA (G'.target n).1])
            have gt2 := g_Target (g3.grew gp) hW' n'
            have gq := gp.trans (GrewA.push (h'.push [nodeA (G'.target n).1]) [nodeA (G'.target n').1])
            have hT := rc.target hW'
            rw [hT.2] at gt2
            rw [hT.1] at gt2 gq
            have hwk := w64 (n := (ks.length : Int) - 1) (by omega) (by omega)
            rw [r_lpb rc_PassThrough_b2.eq_1]
            simp only [sim, List.length_cons, List.length_nil, Nat.reduceAdd, Nat.reduceSub, List.replicate, List.cons_append, List.nil_append, List.map_cons, List.map_nil, Option.bind_some, Option.map_some, Option.bind_none, Option.map_none, if_true, if_false, decide_true, decide_false, Bool.false_eq_true, Bool.true_eq_false, Bool.not_true, Bool.not_false, reduceCtorEq, Bool.and_true, Bool.true_and, Bool.and_false, Bool.false_and, Bool.or_true, Bool.true_or, Bool.or_false, Bool.false_or, true_and, and_true, false_and, and_false, List.take_zero, List.take_succ_cons, List.drop_zero, List.drop_succ_cons, List.take_nil, List.drop_nil, List.set_cons_zero, List.set_cons_succ, Nat.reduceLeDiff, Nat.reduceLT, Nat.zero_add, Nat.lt_add_one, Nat.le_refl, clearA, Int.toNat_natCast, l1, l2, f1, f2, hlt, i1, i2, gt1, nodeS, gt2, gl, gf, hwk]
            refine loop_Q (fun j V h'' => ∃ v21 v22 acc, V = [sv, .agg r, gv, .ptr h.n 0 0, .bool false, .ptr (h.n + 1) 0 0, .ptr h2.n 0 0, .int .i64 0, lstA 3 (intsA x.caps), lstA 3 (intsA y.caps), .int .i64 (i : Nat), .ptr h'.n 0 0, .ptr (h'.n + 1) 0 0, .bool true, acc, .int .i64 ((ks.length : Int) - 1 - (j : Nat)), .bool false, .bool false, .bool false, .bool false, .bool true, v21, v22, v23] ∧
              GrewA ((h'.push [nodeA (G'.target n).1]).push [nodeA (G'.target n).1]) h'' ∧ Acc ((h'.push [nodeA (G'.target n).1]).push [nodeA (G'.target n).1]) h'' 3 acc (intsA ((ks.drop (ks.length - j)).reverse.filter posI))) ks.length ⟨v21, v22, .nils, by simp, GrewA.refl _, by simp; exact acc_nil _ _ _⟩ ?_ ?_
            · rintro j V h'' hj ⟨v21, v22, acc, rfl, gz, ha⟩ next2
              obtain ⟨k, hk1, hk2⟩ := back_step hj
              have e9 : ((ks.length : Int) - 1 - (j : Nat)) = ((ks.length - 1 - j : Nat) : Int) := by omega
              have j1 := hg.isL.ix .i64 (ks.length - 1 - j) [.int .i64 k] (by simp [hk1])
              rw [← e9] at j1
              have hge : (0 : Int) ≤ (ks.length : Int) - 1 - (j : Nat) := by omega
              have hwj := w64 (n := (ks.length : Int) - 1 - (j : Nat) - 1) (by omega) (by omega)
              have e10 : (ks.length : Int) - 1 - (j : Nat) - 1 = (ks.length : Int) - 1 - ((j + 1 : Nat) : Int) := by omega
              rw [e10] at hwj
              by_cases hp : 0 ≤ k
              · have hps : posI k = true := decide_eq_true hp
                rw [hps, if_pos rfl] at hk2
                have hfl : ((ks.drop (ks.length - j)).reverse.filter posI).length ≤ 1000000 := by
                  have := List.length_filter_le posI (ks.drop (ks.length - j)).reverse
                  simp only [List.length_reverse, List.length_drop] at this
                  omega
                obtain ⟨acc2, h3, e3, a1, a2, a3, a4⟩ := acc_app ha gz (row := [.int .i64 k]) rfl (by simpa using hfl)
                rw [r_lpb rc_PassThrough_b1.eq_1]
                simp only [sim, List.length_cons, List.length_nil, Nat.reduceAdd, Nat.reduceSub, List.replicate, List.cons_append, List.nil_append, List.map_cons, List.map_nil, Option.bind_some, Option.map_some, Option.bind_none, Option.map_none, if_true, if_false, decide_true, decide_false, Bool.false_eq_true, Bool.true_eq_false, Bool.not_true, Bool.not_false, reduceCtorEq, Bool.and_true, Bool.true_and, Bool.and_false, Bool.false_and, Bool.or_true, Bool.true_or, Bool.or_false, Bool.false_or, true_and, and_true, false_and, and_false, List.take_zero, List.take_succ_cons, List.drop_zero, List.drop_succ_cons, List.take_nil, List.drop_nil, List.set_cons_zero, List.set_cons_succ, Nat.reduceLeDiff, Nat.reduceLT, Nat.zero_add, Nat.lt_add_one, Nat.le_refl, clearA, Int.toNat_natCast, hge, j1, hp, e3, hwj, e10]
                refine next2 _ _ ⟨_, _, _, rfl, a2, ?_⟩
                rw [hk2]
                simpa using a1
              · have hps : posI k = false := decide_eq_false hp
                rw [hps, if_neg (by simp), List.append_nil] at hk2
                rw [r_lpb rc_PassThrough_b1.eq_1]
                simp only [sim, List.length_cons, List.length_nil, Nat.reduceAdd, Nat.reduceSub, List.replicate, List.cons_append, List.nil_append, List.map_cons, List.map_nil, Option.bind_some, Option.map_some, Option.bind_none, Option.map_none, if_true, if_false, decide_true, decide_false, Bool.false_eq_true, Bool.true_eq_false, Bool.not_true, Bool.not_false, reduceCtorEq, Bool.and_true, Bool.true_and, Bool.and_false, Bool.false_and, Bool.or_true, Bool.true_or, Bool.or_false, Bool.false_or, true_and, and_true, false_and, and_false, List.take_zero, List.take_succ_cons, List.drop_zero, List.drop_succ_cons, List.take_nil, List.drop_nil, List.set_cons_zero, List.set_cons_succ, Nat.reduceLeDiff, Nat.reduceLT, Nat.zero_add, Nat.lt_add_one, Nat.le_refl, clearA, Int.toNat_natCast, hge, j1, hp, hwj, e10]
                refine next2 _ _ ⟨_, _, _, rfl, gz, ?_⟩
                rw [hk2]
                exact ha
            · rintro V h'' ⟨v21, v22, acc, rfl, gz, ha⟩
              have hge : ¬ (0 : Int) ≤ (ks.length : Int) - 1 - (ks.length : Nat) := by omega
              rw [Nat.sub_self, List.drop_zero] at ha
              have gi2 := g3.grew (gq.trans gz)
              have hga := g_Gates gi2 hW' n
              have hfl : (ks.reverse.filter posI).length ≤ 1000 := by
                have := List.length_filter_le posI ks.reverse
                have h50 := of_decide_eq_false hC
                simp only [List.length_reverse] at this
                omega
              have hgf := gates_few hW' n
              obtain ⟨acc2, h3, e3, a1, a2, a3, a4⟩ := acc_apps ha gz (lst_app 3 (intsA (G'.gatesC n))) (ints_one _) (by simp only [List.length_map]; omega) (by simp only [List.length_map]; omega)
              have ka : h3.cell h'.n = some [nodeA (G'.target n).1] := (a2.cell h'.n (by simp only [push_n]; omega)).trans push2_old
              have kb : h3.cell (h'.n + 1) = some [nodeA (G'.target n).1] := (a2.cell (h'.n + 1) (by simp only [push_n]; omega)).trans push2_same
              have gi3 := g3.grew (gq.trans a2)
              have hr1 := g_Rights gi3 hW' n
              have hr2 := g_Rights gi3 hW' n'
              have hgy := g_Gates gi3 hW' n'
              have hgn := rc.gates
              have ia := isL_acc a1
              rw [← List.map_append] at ia
              have hsi := r_SameInts (h := h3) (G'.gatesC n') (ks.reverse.filter posI ++ G'.gatesC n) (lstA 3 (intsA (G'.gatesC n'))) acc2 (isL_lst _ _) ia (gates_few hW' n')
              have hdc : decide (G'.gatesC n' = ks.reverse.filter posI ++ G'.gatesC n) = true := decide_eq_true hgn
              rw [hdc] at hsi
              have han : IntKind.i64.wrap ((BitVec.ofInt IntKind.i64.bits (G'.rights n') &&& ~~~BitVec.ofInt IntKind.i64.bits (G'.rights n)).toNat : Int) = 0 := rc.rights hW'
              rw [r_lpb rc_PassThrough_b1.eq_1]
              simp only [sim, List.length_cons, List.length_nil, Nat.reduceAdd, Nat.reduceSub, List.replicate, List.cons_append, List.nil_append, List.map_cons, List.map_nil, Option.bind_some, Option.map_some, Option.bind_none, Option.map_none, if_true, if_false, decide_true, decide_false, Bool.false_eq_true, Bool.true_eq_false, Bool.not_true, Bool.not_false, reduceCtorEq, Bool.and_true, Bool.true_and, Bool.and_false, Bool.false_and, Bool.or_true, Bool.true_or, Bool.or_false, Bool.false_or, true_and, and_true, false_and, and_false, List.take_zero, List.take_succ_cons, List.drop_zero, List.drop_succ_cons, List.take_nil, List.drop_nil, List.set_cons_zero, List.set_cons_succ, Nat.reduceLeDiff, Nat.reduceLT, Nat.zero_add, Nat.lt_add_one, Nat.le_refl, clearA, Int.toNat_natCast, hge, i1, hga, e3, ka, kb, nodeS, ld_all (nodeA_len _), node_neq, i2, hr1, hr2, han, hgy, hsi, hw, beq_self_eq_true, decide_true]
              exact next _ _ ⟨_, _, _, _, _, _, _, _, _, rfl, gq.trans a2⟩
          · rintro V h' ⟨v11, v12, v13, v14, v15, v20, v21, v22, v23, rfl, gx⟩
            have hlt : ¬ (x.caps.length : Int) < (x.caps.length : Int) := by omega
            rw [r_lpb rc_PassThrough_b2.eq_1]
            simp only [sim, List.length_cons, List.length_nil, Nat.reduceAdd, Nat.reduceSub, List.replicate, List.cons_append, List.nil_append, List.map_cons, List.map_nil, Option.bind_some, Option.map_some, Option.bind_none, Option.map_none, if_true, if_false, decide_true, decide_false, Bool.false_eq_true, Bool.true_eq_false, Bool.not_true, Bool.not_false, reduceCtorEq, Bool.and_true, Bool.true_and, Bool.and_false, Bool.false_and, Bool.or_true, Bool.true_or, Bool.or_false, Bool.false_or, true_and, and_true, false_and, and_false, List.take_zero, List.take_succ_cons, List.drop_zero, List.drop_succ_cons, List.take_nil, List.drop_nil, List.set_cons_zero, List.set_cons_succ, Nat.reduceLeDiff, Nat.reduceLT, Nat.zero_add, Nat.lt_add_one, Nat.le_refl, clearA, Int.toNat_natCast, l1, l2, f1, f2, hlt]
            exact hQ _ _ _ rfl (gg.trans gx) rfl
        · have hzv := acrossG_zero hz
          rw [hzv] at x2
          have s1 := SameVal_run _ zeroV (Nat.le_refl _) (by decide) zeroV r2 zR (h2.push [r2]) x2 zero_va
          rw [sameV_refl] at s1
          refine runF_E fn_PassThrough rfl fun Q hQ => ?_; unfold rc_PassThrough
          simp only [sim, List.length_cons, List.length_nil, Nat.reduceAdd, Nat.reduceSub, List.replicate, List.cons_append, List.nil_append, List.map_cons, List.map_nil, Option.bind_some, Option.map_some, Option.bind_none, Option.map_none, if_true, if_false, decide_true, decide_false, Bool.false_eq_true, Bool.true_eq_false, Bool.not_true, Bool.not_false, reduceCtorEq, Bool.and_true, Bool.true_and, Bool.and_false, Bool.false_and, Bool.or_true, Bool.true_or, Bool.or_false, Bool.false_or, true_and, and_true, false_and, and_false, List.take_zero, List.take_succ_cons, List.drop_zero, List.drop_succ_cons, List.take_nil, List.drop_nil, List.set_cons_zero, List.set_cons_succ, Nat.reduceLeDiff, Nat.reduceLT, Nat.zero_add, Nat.lt_add_one, Nat.le_refl, clearA, Int.toNat_natCast, o1, o2, ld_all o2, pb, vl, vf, hA, e1, gl, gf, hC, gr, b1, w2, p1, p2, ld_all p2, hz, s1]
          exact hQ _ _ _ rfl ((GrewA.push h [r]).trans t3.all) rfl
      · refine runF_E fn_PassThrough rfl fun Q hQ => ?_; unfold rc_PassThrough
        simp only [sim, List.length_cons, List.length_nil, Nat.reduceAdd, Nat.reduceSub, List.replicate, List.cons_append, List.nil_append, List.map_cons, List.map_nil, Option.bind_some, Option.map_some, Option.bind_none, Option.map_none, if_true, if_false, decide_true, decide_false, Bool.false_eq_true, Bool.true_eq_false, Bool.not_true, Bool.not_false, reduceCtorEq, Bool.and_true, Bool.true_and, Bool.and_false, Bool.false_and, Bool.or_true, Bool.true_or, Bool.or_false, Bool.false_or, true_and, and_true, false_and, and_false, List.take_zero, List.take_succ_cons, List.drop_zero, List.drop_succ_cons, List.take_nil, List.drop_nil, List.set_cons_zero, List.set_cons_succ, Nat.reduceLeDiff, Nat.reduceLT, Nat.zero_add, Nat.lt_add_one, Nat.le_refl, clearA, Int.toNat_natCast, o1, o2, ld_all o2, pb, vl, vf, hA, e1, hB, gl, gf, hC]
        exact hQ _ _ _ rfl (by repeat (first | exact GrewA.refl _ | refine GrewA.trans ?_ (GrewA.push _ _) | refine GrewA.trans ?_ (GrewA.fresh _ _))) rfl
    · refine runF_E fn_PassThrough rfl fun Q hQ => ?_; unfold rc_PassThrough
      simp only [sim, List.length_cons, List.length_nil, Nat.reduceAdd, Nat.reduceSub, List.replicate, List.cons_append, List.nil_append, List.map_cons, List.map_nil, Option.bind_some, Option.map_some, Option.bind_none, Option.map_none, if_true, if_false, decide_true, decide_false, Bool.false_eq_true, Bool.true_eq_false, Bool.not_true, Bool.not_false, reduceCtorEq, Bool.and_true, Bool.true_and, Bool.and_false, Bool.false_and, Bool.or_true, Bool.true_or, Bool.or_false, Bool.false_or, true_and, and_true, false_and, and_false, List.take_zero, List.take_succ_cons, List.drop_zero, List.drop_succ_cons, List.take_nil, List.drop_nil, List.set_cons_zero, List.set_cons_succ, Nat.reduceLeDiff, Nat.reduceLT, Nat.zero_add, Nat.lt_add_one, Nat.le_refl, clearA, Int.toNat_natCast, o1, o2, ld_all o2, pb, vl, vf, hA, e1, hB]
      exact hQ _ _ _ rfl (by repeat (first | exact GrewA.refl _ | refine GrewA.trans ?_ (GrewA.push _ _) | refine GrewA.trans ?_ (GrewA.fresh _ _))) rfl
  · refine runF_E fn_PassThrough rfl fun Q hQ => ?_; unfold rc_PassThrough
    simp only [sim, List.length_cons, List.length_nil, Nat.reduceAdd, Nat.reduceSub, List.replicate, List.cons_append, List.nil_append, List.map_cons, List.map_nil, Option.bind_some, Option.map_some, Option.bind_none, Option.map_none, if_true, if_false, decide_true, decide_false, Bool.false_eq_true, Bool.true_eq_false, Bool.not_true, Bool.not_false, reduceCtorEq, Bool.and_true, Bool.true_and, Bool.and_false, Bool.false_and, Bool.or_true, Bool.true_or, Bool.or_false, Bool.false_or, true_and, and_true, false_and, and_false, List.take_zero, List.take_succ_cons, List.drop_zero, List.drop_succ_cons, List.take_nil, List.drop_nil, List.set_cons_zero, List.set_cons_succ, Nat.reduceLeDiff, Nat.reduceLT, Nat.zero_add, Nat.lt_add_one, Nat.le_refl, clearA, Int.toNat_natCast, o1, o2, ld_all o2, pb, vl, vf, hA]
    exact hQ _ _ _ rfl (by repeat (first | exact GrewA.refl _ | refine GrewA.trans ?_ (GrewA.push _ _) | refine GrewA.trans ?_ (GrewA.fresh _ _))) rfl
end

theorem intSl : (Try.prog).underlying 48 = some (.slice 3) := by kernel_rfl
theorem intTy : (Try.prog).underlying 3 = some (.int .i64) := by kernel_rfl
theorem stepSl : (Try.prog).underlying 44 = some (.slice 93) := by kernel_rfl
theorem stepTs : fieldTs Try.prog 93 = some [3, 3, 3, 3, 3] := by kernel_rfl
theorem rows_of {α : Type} {f : α → List AV} : ∀ {es : List (List AV)}, (∀ r ∈ es, ∃ x, r = f x) → ∃ xs : List α, es = xs.map f
  | [], _ => ⟨[], rfl⟩
  | r :: es, h => by
    obtain ⟨x, rfl⟩ := h r (by simp)
    obtain ⟨xs, rfl⟩ := rows_of fun q hq => h q (List.mem_cons_of_mem _ hq)
    exact ⟨x :: xs, rfl⟩
theorem ints_of {n : Nat} {av : AV} (h : TyA Try.prog n 48 [av]) : ∃ ks, SlA 3 av (intsA ks) := by
  obtain ⟨m, v, es, rfl, e, hv, _, hr⟩ := ty_slc intSl h
  obtain rfl : av = v := by simpa using e
  obtain ⟨xs, rfl⟩ := rows_of (f := fun x : Int => [AV.int .i64 x]) fun r hr' => by
    obtain ⟨z, rfl, _⟩ := ty_int intTy (hr r hr').2
    exact ⟨z, rfl⟩
  exact ⟨xs, hv.sla⟩
theorem steps_of {n : Nat} {av : AV} (h : TyA Try.prog n 44 [av]) : ∃ xs : List StepD, IsL 93 av (xs.map stepA) := by
  obtain ⟨m, v, es, rfl, e, hv, _, hr⟩ := ty_slc stepSl h
  obtain rfl : av = v := by simpa using e
  obtain ⟨xs, rfl⟩ := rows_of (f := stepA) fun r hr' => by
    obtain ⟨m2, rfl, parts, rfl, hl, hf⟩ := ty_struct stepTs (hr r hr').2
    obtain ⟨p0, a0, _, b0⟩ := hf 0 _ rfl
    obtain ⟨p1, a1, _, b1⟩ := hf 1 _ rfl
    obtain ⟨p2, a2, _, b2⟩ := hf 2 _ rfl
    obtain ⟨p3, a3, _, b3⟩ := hf 3 _ rfl
    obtain ⟨p4, a4, _, b4⟩ := hf 4 _ rfl
    obtain ⟨z0, rfl, _⟩ := ty_int intTy b0
    obtain ⟨z1, rfl, _⟩ := ty_int intTy b1
    obtain ⟨z2, rfl, _⟩ := ty_int intTy b2
    obtain ⟨z3, rfl, _⟩ := ty_int intTy b3
    obtain ⟨z4, rfl, _⟩ := ty_int intTy b4
    refine ⟨⟨z0, z1, z2, z3, z4⟩, ?_⟩
    match parts, hl with
    | [c0, c1, c2, c3, c4], _ =>
      simp only [List.getElem?_cons_zero, List.getElem?_cons_succ, Option.some.injEq] at a0 a1 a2 a3 a4
      subst a0 a1 a2 a3 a4
      rfl
  exact ⟨xs, hv.isL⟩
/-- the types of what the laws are handed -/
def stepTS : List TypeId := [3, 93, 44]
theorem stepTS_ok : closedT Try.prog stepTS = true := by kernel_rfl
def intTS : List TypeId := [3, 48]
theorem intTS_ok : closedT Try.prog intTS = true := by kernel_rfl
def valTS : List TypeId := [3, 2, 47, 45]
theorem valTS_ok : closedT Try.prog valTS = true := by kernel_rfl
theorem passDoes_walk {n0 n1 n2 : Nat} {sv gv : AV} {r : List AV} {x0 x1 x2 : Value} (W : World) (t0 : TyA Try.prog n0 44 [sv]) (u0 : VR Try.prog (m0A W) h0A sv x0) (t1 : TyA Try.prog n1 47 r) (u1 : VR Try.prog (m0A W) h0A (.agg r) x1) (t2 : TyA Try.prog n2 48 [gv]) (u2 : VR Try.prog (m0A W) h0A gv x2) :
    Law Try.prog 6 #[x0, x1, x2] W := by
  obtain ⟨xs, hv⟩ := steps_of t0
  obtain ⟨x, hx, _⟩ := va_of _ _ t1
  obtain ⟨ks, hg⟩ := ints_of t2
  exact law_of (vs := [x0, x1, x2]) (PassDoes_run sv gv xs x r ks hv hx hg) (VRs.cons u0 (VRs.cons u1 (VRs.cons u2 VRs.nil)))
theorem passPlain_walk {n0 n1 n2 : Nat} {sv gv : AV} {r : List AV} {x0 x1 x2 : Value} (W : World) (t0 : TyA Try.prog n0 44 [sv]) (u0 : VR Try.prog (m0A W) h0A sv x0) (t1 : TyA Try.prog n1 47 r) (u1 : VR Try.prog (m0A W) h0A (.agg r) x1) (t2 : TyA Try.prog n2 48 [gv]) (u2 : VR Try.prog (m0A W) h0A gv x2) :
    Law Try.prog 7 #[x0, x1, x2] W := by
  obtain ⟨xs, hv⟩ := steps_of t0
  obtain ⟨x, hx, _⟩ := va_of _ _ t1
  obtain ⟨ks, hg⟩ := ints_of t2
  exact law_of (vs := [x0, x1, x2]) (PassPlain_run sv gv xs x r ks hv hx hg) (VRs.cons u0 (VRs.cons u1 (VRs.cons u2 VRs.nil)))
theorem passThrough_walk {n0 n1 n2 : Nat} {sv gv : AV} {r : List AV} {x0 x1 x2 : Value} (W : World) (t0 : TyA Try.prog n0 44 [sv]) (u0 : VR Try.prog (m0A W) h0A sv x0) (t1 : TyA Try.prog n1 47 r) (u1 : VR Try.prog (m0A W) h0A (.agg r) x1) (t2 : TyA Try.prog n2 48 [gv]) (u2 : VR Try.prog (m0A W) h0A gv x2) :
    Law Try.prog 5 #[x0, x1, x2] W := by
  obtain ⟨xs, hv⟩ := steps_of t0
  obtain ⟨x, hx, _⟩ := va_of _ _ t1
  obtain ⟨ks, hg⟩ := ints_of t2
  exact law_of (vs := [x0, x1, x2]) (PassThrough_run sv gv xs x r ks hv hx hg) (VRs.cons u0 (VRs.cons u1 (VRs.cons u2 VRs.nil)))
end Go.Proofs.Ytioladnogpfeeaa
