/- pass in the plain model: PassDoes, PassPlain. -/
import Derived.Test.YtioladnogpfeeaaPassS3
namespace Go.Proofs.Ytioladnogpfeeaa
set_option linter.unusedSimpArgs false
set_option linter.unusedVariables false
open Go

theorem across_few {ks : List Int} {G : GraphD} {x : VD} (hW : G.Wf) (hx : x.size ≤ 500) : (acrossG ks G x).2.1.size ≤ 500 := by
  by_cases hz : (acrossG ks G x).2.2 = 0
  · unfold acrossG at hz ⊢
    by_cases hm : mayG G x = 0
    · rw [if_neg (by simp [hm])] at hz ⊢
      have := (valG_rel ks x G hW (may_has hm).2 hz).2.size
      omega
    · rw [if_pos hm] at hz
      exact absurd hz hm
  · rw [acrossG_zero hz]
    decide
theorem great_size {x : VD} (h : x.great = false) : x.size ≤ 500 := by
  unfold VD.great at h
  have := of_decide_eq_false h
  omega

section
variable {h : AH}
theorem graphs_run' (sv : AV) (xs : List StepD) (r : List AV) (hv : IsL 93 sv (xs.map stepA)) (hl : xs.length ≤ 1000) :
    ∃ h1, runF Try.prog po 18 [sv] (h.push [r]) = some (.inl (.tup [.ptr (h.n + 1) 0 0, .ptr (h.n + 1 + 1) 0 0]), h1) ∧ Tw (h.push [r]) h1 (h.n + 1) (runS xs) (h.n + 1 + 1) (runS xs) [] := by
  obtain ⟨h1, e, t⟩ := graphs_run (h := h.push [r]) sv xs hv hl
  simp only [push_n] at e t
  exact ⟨h1, e, t⟩
theorem box_cell {h h1 : AH} {r : List AV} {b b2 : Nat} {G H : GraphD} {C : List Nat} (t : Tw (h.push [r]) h1 b G b2 H C) : h1.cell h.n = some [r] := (t.all.cell h.n (by simp [AH.push])).trans push_same
theorem box_lt {h h1 : AH} {r : List AV} {b b2 : Nat} {G H : GraphD} {C : List Nat} (t : Tw (h.push [r]) h1 b G b2 H C) : h.n < h1.n := by
  have := t.all.n
  simp only [push_n] at this
  omega

set_option maxHeartbeats 2000000 in
theorem PassDoes_run (sv gv : AV) (xs : List StepD) (x : VD) (r : List AV) (ks : List Int) (hv : IsL 93 sv (xs.map stepA)) (hx : VaA x r) (hg : SlA 3 gv (intsA ks)) :
    runF Try.prog po 6 [sv, .agg r, gv] h = some (.inl (.bool true), h) := by
  obtain ⟨o1, o2⟩ := hx.one
  have pb := fun h => pass_begun h
  have e1 := fun h => GreatVal_run (h := h) hx
  have vl := hv.len
  have vf := hv.fits
  have gl := hg.isL.len
  have gf := hg.isL.fits
  rw [List.length_map] at vl gl
  cases hA : decide ((150 : Int) < (xs.length : Int))
  · cases hB : x.great
    · cases hC : decide ((50 : Int) < (ks.length : Int))
      · have hxl : xs.length ≤ 1000 := by have := of_decide_eq_false hA; omega
        have hkl : ks.length ≤ 1000000 := by have := of_decide_eq_false hC; omega
        have hsz := great_size hB
        simp only [hB] at e1
        have hW := runS_wf xs
        generalize hG : runS xs = G at hW
        obtain ⟨h1, gr, t1⟩ := graphs_run' (h := h) sv xs r hv hxl
        rw [hG] at t1
        have b1 := box_cell t1
        obtain ⟨r1, w1, x1⟩ := OwnVal_run _ x (Nat.le_refl _) (by omega) r h1 hx
        have x1 : VaA x r1 := x1
        obtain ⟨p1, p2⟩ := x1.one
        have t2 := t1.push [r1]
        have b2 : (h1.push [r1]).cell h.n = some [r] := box_cell t2
        obtain ⟨F, J, g2⟩ := t2.g1
        obtain ⟨F', J', n2⟩ := t2.g2
        have w2 := pMay_run g2 hW x1
        have w3 := n_MayPass n2 hW hx
        obtain ⟨h3, ⟨r3, w4, x3⟩, t3, k3⟩ := t2.call fun F J g => Across_run g hW x1 hg hkl
        have hW' := acrossG_wf (ks := ks) (x := x) hW
        have hfs := across_few (ks := ks) (x := x) hW hsz
        obtain ⟨p3, p4⟩ := x3.one
        have c1 : h3.cell h1.n = some [r1] := (k3 _ (by simp)).trans push_same
        have t4 := t3.push [r3]
        have c2 : (h3.push [r3]).cell h1.n = some [r1] := (push_lt (t3.lt (by simp))).trans c1
        have b4 := box_cell t4
        obtain ⟨h5, ⟨r5, w5, x5⟩, t5, k5⟩ := t4.call2 fun F J g => Passed_run hg.isL hkl g hW hx
        obtain ⟨p5, p6⟩ := x5.one
        have t6 := t5.push [r5]
        have d1 : h5.cell h1.n = some [r1] := (k5 _ (by simp)).trans c2
        have d3 : h5.cell h3.n = some [r3] := (k5 _ (by simp)).trans push_same
        have f1 : (h5.push [r5]).cell h1.n = some [r1] := (push_lt (t5.lt (by simp))).trans d1
        have f3 : (h5.push [r5]).cell h3.n = some [r3] := (push_lt (t5.lt (by simp))).trans d3
        have b6 := box_cell t6
        have s1 := SameVal_run _ (acrossG ks G x).2.1 (Nat.le_refl _) (by omega) (acrossG ks G x).2.1 r3 r5 (h5.push [r5]) x3 x5
        have s2 := SameVal_run _ x (Nat.le_refl _) (by omega) x r1 r (h5.push [r5]) x1 hx
        rw [sameV_refl] at s1 s2
        generalize acrossG ks G x = A at *
        obtain ⟨F6, J6, g6⟩ := t6.g1
        obtain ⟨F7, J7, n6⟩ := t6.g2
        have gN := g_Nodes g6 hW'
        obtain ⟨nv, sv', q1, q2, -⟩ := n6.ex
        have sN := r_SameNodes (h := h5.push [r5]) A.1.nodes A.1.nodes (lstA tN (A.1.nodes.map nodeA)) nv (isL_lst _ _) q2.isL (by have := hW'.few; omega)
        simp only [decide_true] at sN
        have hl1 := box_lt t1
        refine runF_E fn_PassDoes rfl fun Q hQ => ?_; unfold rc_PassDoes
        simp only [sim, List.length_cons, List.length_nil, Nat.reduceAdd, Nat.reduceSub, List.replicate, List.cons_append, List.nil_append, List.map_cons, List.map_nil, Option.bind_some, Option.map_some, Option.bind_none, Option.map_none, if_true, if_false, decide_true, decide_false, Bool.false_eq_true, Bool.true_eq_false, Bool.not_true, Bool.not_false, reduceCtorEq, Bool.and_true, Bool.true_and, Bool.and_false, Bool.false_and, Bool.or_true, Bool.true_or, Bool.or_false, Bool.false_or, true_and, and_true, false_and, and_false, List.take_zero, List.take_succ_cons, List.drop_zero, List.drop_succ_cons, List.take_nil, List.drop_nil, List.set_cons_zero, List.set_cons_succ, Nat.reduceLeDiff, Nat.reduceLT, Nat.zero_add, Nat.lt_add_one, Nat.le_refl, clearA, Int.toNat_natCast, o1, o2, ld_all o2, pb, vl, vf, hA, e1, gl, gf, hC, gr, b1, w1, p1, p2, ld_all p2, b2, w2, w3, w4, p3, p4, ld_all p4, b4, w5, p5, p6, ld_all p6, f1, f3, b6, s1, s2, q1, gN, sN, eq_self]
        exact hQ _ _ _ rfl ((GrewA.push h [r]).trans t6.all) rfl
      · refine runF_E fn_PassDoes rfl fun Q hQ => ?_; unfold rc_PassDoes
        simp only [sim, List.length_cons, List.length_nil, Nat.reduceAdd, Nat.reduceSub, List.replicate, List.cons_append, List.nil_append, List.map_cons, List.map_nil, Option.bind_some, Option.map_some, Option.bind_none, Option.map_none, if_true, if_false, decide_true, decide_false, Bool.false_eq_true, Bool.true_eq_false, Bool.not_true, Bool.not_false, reduceCtorEq, Bool.and_true, Bool.true_and, Bool.and_false, Bool.false_and, Bool.or_true, Bool.true_or, Bool.or_false, Bool.false_or, true_and, and_true, false_and, and_false, List.take_zero, List.take_succ_cons, List.drop_zero, List.drop_succ_cons, List.take_nil, List.drop_nil, List.set_cons_zero, List.set_cons_succ, Nat.reduceLeDiff, Nat.reduceLT, Nat.zero_add, Nat.lt_add_one, Nat.le_refl, clearA, Int.toNat_natCast, o1, o2, ld_all o2, pb, vl, vf, hA, e1, hB, gl, gf, hC]
        exact hQ _ _ _ rfl (by repeat (first | exact GrewA.refl _ | refine GrewA.trans ?_ (GrewA.push _ _) | refine GrewA.trans ?_ (GrewA.fresh _ _))) rfl
    · refine runF_E fn_PassDoes rfl fun Q hQ => ?_; unfold rc_PassDoes
      simp only [sim, List.length_cons, List.length_nil, Nat.reduceAdd, Nat.reduceSub, List.replicate, List.cons_append, List.nil_append, List.map_cons, List.map_nil, Option.bind_some, Option.map_some, Option.bind_none, Option.map_none, if_true, if_false, decide_true, decide_false, Bool.false_eq_true, Bool.true_eq_false, Bool.not_true, Bool.not_false, reduceCtorEq, Bool.and_true, Bool.true_and, Bool.and_false, Bool.false_and, Bool.or_true, Bool.true_or, Bool.or_false, Bool.false_or, true_and, and_true, false_and, and_false, List.take_zero, List.take_succ_cons, List.drop_zero, List.drop_succ_cons, List.take_nil, List.drop_nil, List.set_cons_zero, List.set_cons_succ, Nat.reduceLeDiff, Nat.reduceLT, Nat.zero_add, Nat.lt_add_one, Nat.le_refl, clearA, Int.toNat_natCast, o1, o2, ld_all o2, pb, vl, vf, hA, e1, hB]
      exact hQ _ _ _ rfl (by repeat (first | exact GrewA.refl _ | refine GrewA.trans ?_ (GrewA.push _ _) | refine GrewA.trans ?_ (GrewA.fresh _ _))) rfl
  · refine runF_E fn_PassDoes rfl fun Q hQ => ?_; unfold rc_PassDoes
    simp only [sim, List.length_cons, List.length_nil, Nat.reduceAdd, Nat.reduceSub, List.replicate, List.cons_append, List.nil_append, List.map_cons, List.map_nil, Option.bind_some, Option.map_some, Option.bind_none, Option.map_none, if_true, if_false, decide_true, decide_false, Bool.false_eq_true, Bool.true_eq_false, Bool.not_true, Bool.not_false, reduceCtorEq, Bool.and_true, Bool.true_and, Bool.and_false, Bool.false_and, Bool.or_true, Bool.true_or, Bool.or_false, Bool.false_or, true_and, and_true, false_and, and_false, List.take_zero, List.take_succ_cons, List.drop_zero, List.drop_succ_cons, List.take_nil, List.drop_nil, List.set_cons_zero, List.set_cons_succ, Nat.reduceLeDiff, Nat.reduceLT, Nat.zero_add, Nat.lt_add_one, Nat.le_refl, clearA, Int.toNat_natCast, o1, o2, ld_all o2, pb, vl, vf, hA]
    exact hQ _ _ _ rfl (by repeat (first | exact GrewA.refl _ | refine GrewA.trans ?_ (GrewA.push _ _) | refine GrewA.trans ?_ (GrewA.fresh _ _))) rfl

set_option maxHeartbeats 2000000 in
theorem PassPlain_run (sv gv : AV) (xs : List StepD) (x : VD) (r : List AV) (ks : List Int) (hv : IsL 93 sv (xs.map stepA)) (hx : VaA x r) (hg : SlA 3 gv (intsA ks)) :
    runF Try.prog po 7 [sv, .agg r, gv] h = some (.inl (.bool true), h) := by
  obtain ⟨o1, o2⟩ := hx.one
  have pb := fun h => pass_begun h
  have e1 := fun h => GreatVal_run (h := h) hx
  have vl := hv.len
  have vf := hv.fits
  have gl := hg.isL.len
  have gf := hg.isL.fits
  rw [List.length_map] at vl gl
  cases hA : decide ((150 : Int) < (xs.length : Int))
  · cases hB : x.great
    · cases hC : decide ((50 : Int) < (ks.length : Int))
      · have hxl : xs.length ≤ 1000 := by have := of_decide_eq_false hA; omega
        have hkl : ks.length ≤ 1000000 := by have := of_decide_eq_false hC; omega
        have hsz := great_size hB
        simp only [hB] at e1
        have hW := runS_wf xs
        generalize hG : runS xs = G at hW
        obtain ⟨h1, gr, t1⟩ := graphs_run' (h := h) sv xs r hv hxl
        rw [hG] at t1
        have b1 := box_cell t1
        obtain ⟨F, J, g1⟩ := t1.g1
        have w0 := g_Nodes g1 hW
        have w1 := pMay_run g1 hW hx
        obtain ⟨h2, ⟨r2, w2, x2⟩, t2, k2⟩ := t1.call fun F J g => Across_run g hW hx (gv := .nils) (ks := []) (.inl ⟨rfl, rfl⟩) (by decide)
        rw [acrossG_nil] at w2 x2 t2
        simp only at w2 x2 t2
        obtain ⟨p1, p2⟩ := x2.one
        have t3 := t2.push [r2]
        have b3 := box_cell t3
        obtain ⟨F3, J3, g3⟩ := t3.g1
        have w3 := g_Nodes g3 hW
        have sN := fun h => r_SameNodes (h := h) G.nodes G.nodes (lstA tN (G.nodes.map nodeA)) (lstA tN (G.nodes.map nodeA)) (isL_lst _ _) (isL_lst _ _) (by have := hW.few; omega)
        simp only [decide_true] at sN
        by_cases hm : mayG G x = 0
        · rw [hm] at w1 w2
          rw [if_neg (by simp [hm])] at x2
          have s1 := SameVal_run _ x (Nat.le_refl _) (by omega) x r r2 (h2.push [r2]) hx x2
          rw [sameV_refl] at s1
          refine runF_E fn_PassPlain rfl fun Q hQ => ?_; unfold rc_PassPlain
          simp only [sim, List.length_cons, List.length_nil, Nat.reduceAdd, Nat.reduceSub, List.replicate, List.cons_append, List.nil_append, List.map_cons, List.map_nil, Option.bind_some, Option.map_some, Option.bind_none, Option.map_none, if_true, if_false, decide_true, decide_false, Bool.false_eq_true, Bool.true_eq_false, Bool.not_true, Bool.not_false, reduceCtorEq, Bool.and_true, Bool.true_and, Bool.and_false, Bool.false_and, Bool.or_true, Bool.true_or, Bool.or_false, Bool.false_or, true_and, and_true, false_and, and_false, List.take_zero, List.take_succ_cons, List.drop_zero, List.drop_succ_cons, List.take_nil, List.drop_nil, List.set_cons_zero, List.set_cons_succ, Nat.reduceLeDiff, Nat.reduceLT, Nat.zero_add, Nat.lt_add_one, Nat.le_refl, clearA, Int.toNat_natCast, o1, o2, ld_all o2, pb, vl, vf, hA, e1, gl, gf, hC, gr, b1, w0, w1, w2, p1, p2, ld_all p2, b3, s1, w3, sN, eq_self]
          exact hQ _ _ _ rfl ((GrewA.push h [r]).trans t3.all) rfl
        · rw [if_pos hm] at x2
          have s1 := SameVal_run _ zeroV (Nat.le_refl _) (by decide) zeroV r2 zR (h2.push [r2]) x2 zero_va
          rw [sameV_refl] at s1
          obtain ⟨h4, ⟨r4, w4, x4⟩, t4, k4⟩ := t3.call fun F J g => Across_run g hW hx hg hkl
          have ha : acrossG ks G x = (G, zeroV, mayG G x) := by rw [acrossG, if_pos hm]
          rw [ha] at w4 x4 t4
          simp only at w4 x4 t4
          obtain ⟨F4, J4, g4⟩ := t4.g1
          have w5 := g_Nodes g4 hW
          generalize mayG G x = c at *
          refine runF_E fn_PassPlain rfl fun Q hQ => ?_; unfold rc_PassPlain
          simp only [sim, List.length_cons, List.length_nil, Nat.reduceAdd, Nat.reduceSub, List.replicate, List.cons_append, List.nil_append, List.map_cons, List.map_nil, Option.bind_some, Option.map_some, Option.bind_none, Option.map_none, if_true, if_false, decide_true, decide_false, Bool.false_eq_true, Bool.true_eq_false, Bool.not_true, Bool.not_false, reduceCtorEq, Bool.and_true, Bool.true_and, Bool.and_false, Bool.false_and, Bool.or_true, Bool.true_or, Bool.or_false, Bool.false_or, true_and, and_true, false_and, and_false, List.take_zero, List.take_succ_cons, List.drop_zero, List.drop_succ_cons, List.take_nil, List.drop_nil, List.set_cons_zero, List.set_cons_succ, Nat.reduceLeDiff, Nat.reduceLT, Nat.zero_add, Nat.lt_add_one, Nat.le_refl, clearA, Int.toNat_natCast, o1, o2, ld_all o2, pb, vl, vf, hA, e1, gl, gf, hC, gr, b1, w0, w1, w2, p1, p2, ld_all p2, b3, hm, s1, w3, sN, w4, w5, eq_self]
          exact hQ _ _ _ rfl ((GrewA.push h [r]).trans t4.all) rfl
      · refine runF_E fn_PassPlain rfl fun Q hQ => ?_; unfold rc_PassPlain
        simp only [sim, List.length_cons, List.length_nil, Nat.reduceAdd, Nat.reduceSub, List.replicate, List.cons_append, List.nil_append, List.map_cons, List.map_nil, Option.bind_some, Option.map_some, Option.bind_none, Option.map_none, if_true, if_false, decide_true, decide_false, Bool.false_eq_true, Bool.true_eq_false, Bool.not_true, Bool.not_false, reduceCtorEq, Bool.and_true, Bool.true_and, Bool.and_false, Bool.false_and, Bool.or_true, Bool.true_or, Bool.or_false, Bool.false_or, true_and, and_true, false_and, and_false, List.take_zero, List.take_succ_cons, List.drop_zero, List.drop_succ_cons, List.take_nil, List.drop_nil, List.set_cons_zero, List.set_cons_succ, Nat.reduceLeDiff, Nat.reduceLT, Nat.zero_add, Nat.lt_add_one, Nat.le_refl, clearA, Int.toNat_natCast, o1, o2, ld_all o2, pb, vl, vf, hA, e1, hB, gl, gf, hC]
        exact hQ _ _ _ rfl (by repeat (first | exact GrewA.refl _ | refine GrewA.trans ?_ (GrewA.push _ _) | refine GrewA.trans ?_ (GrewA.fresh _ _))) rfl
    · refine runF_E fn_PassPlain rfl fun Q hQ => ?_; unfold rc_PassPlain
      simp only [sim, List.length_cons, List.length_nil, Nat.reduceAdd, Nat.reduceSub, List.replicate, List.cons_append, List.nil_append, List.map_cons, List.map_nil, Option.bind_some, Option.map_some, Option.bind_none, Option.map_none, if_true, if_false, decide_true, decide_false, Bool.false_eq_true, Bool.true_eq_false, Bool.not_true, Bool.not_false, reduceCtorEq, Bool.and_true, Bool.true_and, Bool.and_false, Bool.false_and, Bool.or_true, Bool.true_or, Bool.or_false, Bool.false_or, true_and, and_true, false_and, and_false, List.take_zero, List.take_succ_cons, List.drop_zero, List.drop_succ_cons, List.take_nil, List.drop_nil, List.set_cons_zero, List.set_cons_succ, Nat.reduceLeDiff, Nat.reduceLT, Nat.zero_add, Nat.lt_add_one, Nat.le_refl, clearA, Int.toNat_natCast, o1, o2, ld_all o2, pb, vl, vf, hA, e1, hB]
      exact hQ _ _ _ rfl (by repeat (first | exact GrewA.refl _ | refine GrewA.trans ?_ (GrewA.push _ _) | refine GrewA.trans ?_ (GrewA.fresh _ _))) rfl
  · refine runF_E fn_PassPlain rfl fun Q hQ => ?_; unfold rc_PassPlain
    simp only [sim, List.length_cons, List.length_nil, Nat.reduceAdd, Nat.reduceSub, List.replicate, List.cons_append, List.nil_append, List.map_cons, List.map_nil, Option.bind_some, Option.map_some, Option.bind_none, Option.map_none, if_true, if_false, decide_true, decide_false, Bool.false_eq_true, Bool.true_eq_false, Bool.not_true, Bool.not_false, reduceCtorEq, Bool.and_true, Bool.true_and, Bool.and_false, Bool.false_and, Bool.or_true, Bool.true_or, Bool.or_false, Bool.false_or, true_and, and_true, false_and, and_false, List.take_zero, List.take_succ_cons, List.drop_zero, List.drop_succ_cons, List.take_nil, List.drop_nil, List.set_cons_zero, List.set_cons_succ, Nat.reduceLeDiff, Nat.reduceLT, Nat.zero_add, Nat.lt_add_one, Nat.le_refl, clearA, Int.toNat_natCast, o1, o2, ld_all o2, pb, vl, vf, hA]
    exact hQ _ _ _ rfl (by repeat (first | exact GrewA.refl _ | refine GrewA.trans ?_ (GrewA.push _ _) | refine GrewA.trans ?_ (GrewA.fresh _ _))) rfl
end
end Go.Proofs.Ytioladnogpfeeaa
