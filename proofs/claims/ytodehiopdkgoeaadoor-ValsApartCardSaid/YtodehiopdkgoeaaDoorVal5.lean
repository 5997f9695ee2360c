/- vals in the plain model: what the laws begin with; the laws. -/
import Derived.Test.YtodehiopdkgoeaaDoorVal4
namespace Go.Proofs.YtodehiopdkgoeaaDoor
set_option linter.unusedSimpArgs false
set_option linter.unusedVariables false
open Go

def begV : VD := .mk 2 0 [.mk 3 2 [.mk 4 7 []], .mk 5 1 []]
theorem beg_text : begV.text = [40, 91, 50, 32, 35, 55, 93, 32, 33, 49, 41] := by
  simp [begV, VD.text, textsV, Lib.itoa, Lib.decDigits, Lib.join, List.intercalate]
theorem beg_wf : begV.wf := by
  simp [begV, VD.wf, wfVs, isI64]
theorem va_nil (k n : Int) : VaA (.mk k n []) [.int .i64 k, .int .i64 n, .nils] := by
  simp only [VaA, VaL]
  exact ⟨_, [], rfl, .inl ⟨rfl, rfl⟩, rfl⟩
theorem beg_va (a b : Option Nat) : VaA begV [.int .i64 2, .int .i64 0, .isl b tV [[.int .i64 3, .int .i64 2, .isl a tV [[.int .i64 4, .int .i64 7, .nils]]], [.int .i64 5, .int .i64 1, .nils]]] := by
  simp only [begV, VaA, VaL]
  exact ⟨_, _, rfl, .inr ⟨_, rfl⟩, _, _, rfl, ⟨_, _, rfl, .inr ⟨_, rfl⟩, _, _, rfl, ⟨_, [], rfl, .inl ⟨rfl, rfl⟩, rfl⟩, rfl⟩, _, _, rfl, ⟨_, [], rfl, .inl ⟨rfl, rfl⟩, rfl⟩, rfl⟩
theorem code_zero {x : VD} (h : x.code = 0) : x.fault = 0 ∧ x.size ≤ 40 := by
  unfold VD.code at h
  split at h
  · cases h
  · exact ⟨h, by omega⟩
theorem b_bbeq {a b : Bool} : binA .bool .eql (.bool a) (.bool b) = some (.bool (a == b)) := rfl

section
variable {h : AH}
set_option maxHeartbeats 1000000 in
theorem vals_begun (h : AH) : runF Tryd.prog po 10 [] h = some (.inl (.bool true), h) := by
  have B := beg_va (some h.ids) (some (h.ids + 1))
  generalize hR : [AV.int .i64 2, AV.int .i64 0, AV.isl (some (h.ids + 1)) tV [[.int .i64 3, .int .i64 2, .isl (some h.ids) tV [[.int .i64 4, .int .i64 7, .nils]]], [.int .i64 5, .int .i64 1, .nils]]] = R at B
  have e1 := fun h => vCheck_run (h := h) B
  have e2 := fun h => vText_run _ begV (Nat.le_refl _) (by decide) beg_wf (by decide) R h B
  have e3 := fun h => vCaps_run _ begV (Nat.le_refl _) (by decide) R h B
  have e4 := fun h => vGates_run _ begV (Nat.le_refl _) (by decide) R h B
  rw [beg_text] at e2
  have c0 : begV.code = 0 := by decide
  have c1 : begV.gate = true := by decide
  have c2 : begV.caps = [7] := by decide
  rw [c0] at e1
  rw [c1] at e4
  rw [c2] at e3
  have e7 := fun h => vCheck_run (h := h) (va_nil 0 1)
  have c3 : (VD.mk 0 1 []).code = 5 := by decide
  rw [c3] at e7
  generalize hh : ((h.fresh 1).fresh 2).push [R] = h1
  obtain ⟨r5, e5, x5⟩ := vOwn_run _ begV (Nat.le_refl _) (by decide) R h1 B
  have x5 : VaA begV r5 := x5
  have e6 := fun h => vSame_run _ begV (Nat.le_refl _) (by decide) begV r5 R h x5 B
  rw [sameV_refl] at e6
  obtain ⟨p1, p2⟩ := B.one
  have k1 : ∀ x, (((h.fresh 1).fresh 2).push x).cell h.n = some x := fun x => push_same (h := (h.fresh 1).fresh 2)
  have k2 : ∀ x y, (((h.fresh 1).fresh 2).push x).set h.n (some y) = ((h.fresh 1).fresh 2).push y := fun x y => set_push (h := (h.fresh 1).fresh 2)
  have k3 : h1.cell h.n = some [R] := by rw [← hh]; exact k1 _
  have gg : GrewA h h1 := by rw [← hh]; exact (by repeat (first | exact GrewA.refl _ | refine GrewA.trans ?_ (GrewA.push _ _) | refine GrewA.trans ?_ (GrewA.fresh _ _)))
  refine runF_E fn_valsBegun rfl fun Q hQ => ?_; unfold rc_valsBegun
  simp only [sim, List.length_cons, List.length_nil, Nat.reduceAdd, Nat.reduceSub, List.replicate, List.cons_append, List.nil_append, List.map_cons, List.map_nil, Option.bind_some, Option.map_some, Option.bind_none, Option.map_none, if_true, if_false, decide_true, decide_false, Bool.false_eq_true, Bool.true_eq_false, Bool.not_true, Bool.not_false, reduceCtorEq, Bool.and_true, Bool.true_and, Bool.and_false, Bool.false_and, Bool.or_true, Bool.true_or, Bool.or_false, Bool.false_or, true_and, and_true, false_and, and_false, List.take_zero, List.take_succ_cons, List.drop_zero, List.drop_succ_cons, List.take_nil, List.drop_nil, List.set_cons_zero, List.set_cons_succ, Nat.reduceLeDiff, Nat.reduceLT, Nat.zero_add, Nat.lt_add_one, Nat.le_refl, clearA, Int.toNat_natCast, k1, k2, k3, hR, hh, p1, p2, ld_all p2, e1, e2, e3, e4, e5, e6, e7, lstA, intsA, Int.natCast_one, eq_self]
  exact hQ _ _ _ rfl gg rfl

set_option maxHeartbeats 2000000 in
theorem ValsDoes_run (x y : VD) (r q : List AV) (hx : VaA x r) (hy : VaA y q) (wx : x.wf) :
    runF Tryd.prog po 3 [.agg r, .agg q] h = some (.inl (.bool true), h) := by
  obtain ⟨o1, o2⟩ := hx.one
  obtain ⟨o3, o4⟩ := hy.one
  have vb := fun h => vals_begun h
  have e1 := fun h => GreatVal_run (h := h) hx
  have e2 := fun h => GreatVal_run (h := h) hy
  have gg : GrewA h ((h.push [r]).push [q]) := (by repeat (first | exact GrewA.refl _ | refine GrewA.trans ?_ (GrewA.push _ _) | refine GrewA.trans ?_ (GrewA.fresh _ _)))
  cases hB : x.great
  · cases hC : y.great
    · have hsz := great_size hB
      obtain ⟨r1, e3, x1⟩ := OwnVal_run _ x (Nat.le_refl _) (by omega) r ((h.push [r]).push [q]) hx
      have x1 : VaA x r1 := x1
      obtain ⟨p1, p2⟩ := x1.one
      generalize hh : ((h.push [r]).push [q]).push [r1] = h3
      have k0 : h3.cell h.n = some [r] := by rw [← hh]; exact push3_0
      have k1 : h3.cell (h.n + 1) = some [q] := by rw [← hh]; exact push3_1
      have k2 : h3.cell (h.n + 1 + 1) = some [r1] := by rw [← hh]; exact push3_same
      have g3 : GrewA h h3 := by rw [← hh]; exact (by repeat (first | exact GrewA.refl _ | refine GrewA.trans ?_ (GrewA.push _ _) | refine GrewA.trans ?_ (GrewA.fresh _ _)))
      have e4 := fun h => vCheck_run (h := h) x1
      have e5 := fun h => ValFault_run (h := h) hx
      have e6 := fun h => vSame_run _ x (Nat.le_refl _) (by omega) y r1 q h x1 hy
      have e7 := fun h => SameVal_run _ x (Nat.le_refl _) (by omega) y r q h hx hy
      obtain ⟨r2, e8, x2⟩ := vOwn_run _ x (Nat.le_refl _) (by omega) r1 h3 x1
      have x2 : VaA x r2 := x2
      have e9 := fun h => SameVal_run _ x (Nat.le_refl _) (by omega) x r2 r h x2 hx
      have e10 := fun h => SameVal_run _ x (Nat.le_refl _) (by omega) x r1 r h x1 hx
      rw [sameV_refl] at e9 e10
      cases hD : decide (x.code = 0)
      · refine runF_E fn_ValsDoes rfl fun Q hQ => ?_; unfold rc_ValsDoes
        simp only [sim, List.length_cons, List.length_nil, Nat.reduceAdd, Nat.reduceSub, List.replicate, List.cons_append, List.nil_append, List.map_cons, List.map_nil, Option.bind_some, Option.map_some, Option.bind_none, Option.map_none, if_true, if_false, decide_true, decide_false, Bool.false_eq_true, Bool.true_eq_false, Bool.not_true, Bool.not_false, reduceCtorEq, Bool.and_true, Bool.true_and, Bool.and_false, Bool.false_and, Bool.or_true, Bool.true_or, Bool.or_false, Bool.false_or, true_and, and_true, false_and, and_false, List.take_zero, List.take_succ_cons, List.drop_zero, List.drop_succ_cons, List.take_nil, List.drop_nil, List.set_cons_zero, List.set_cons_succ, Nat.reduceLeDiff, Nat.reduceLT, Nat.zero_add, Nat.lt_add_one, Nat.le_refl, clearA, Int.toNat_natCast, o1, o2, o3, o4, ld_all o2, ld_all o4, vb, e1, e2, hB, hC, e3, p1, p2, ld_all p2, hh, k0, k1, k2, e4, e5, e6, e7, e8, e9, e10, hD, eq_self, bne_self_eq_false, beq_self_eq_true]
        exact hQ _ _ _ rfl g3 rfl
      · have hc0 := of_decide_eq_true hD
        obtain ⟨hf, hs40⟩ := code_zero hc0
        have f1 := fun h => vCaps_run _ x (Nat.le_refl _) (by omega) r1 h x1
        have f2 := fun h => CapsOf_run _ x (Nat.le_refl _) (by omega) r h hx
        have f3 := fun h => vGates_run _ x (Nat.le_refl _) (by omega) r1 h x1
        have f4 := fun h => GateIn_run _ x (Nat.le_refl _) (by omega) r h hx
        have f5 := fun h => vText_run _ x (Nat.le_refl _) hf wx (by omega) r1 h x1
        have f6 := fun h => ValText_run _ x (Nat.le_refl _) hf wx (by omega) r h hx
        have cf := x.caps_few
        have f7 := fun h => r_SameInts (h := h) x.caps x.caps (lstA 3 (intsA x.caps)) (lstA 3 (intsA x.caps)) (isL_lst _ _) (isL_lst _ _) (by omega)
        simp only [decide_true] at f7
        refine runF_E fn_ValsDoes rfl fun Q hQ => ?_; unfold rc_ValsDoes
        simp only [sim, List.length_cons, List.length_nil, Nat.reduceAdd, Nat.reduceSub, List.replicate, List.cons_append, List.nil_append, List.map_cons, List.map_nil, Option.bind_some, Option.map_some, Option.bind_none, Option.map_none, if_true, if_false, decide_true, decide_false, Bool.false_eq_true, Bool.true_eq_false, Bool.not_true, Bool.not_false, reduceCtorEq, Bool.and_true, Bool.true_and, Bool.and_false, Bool.false_and, Bool.or_true, Bool.true_or, Bool.or_false, Bool.false_or, true_and, and_true, false_and, and_false, List.take_zero, List.take_succ_cons, List.drop_zero, List.drop_succ_cons, List.take_nil, List.drop_nil, List.set_cons_zero, List.set_cons_succ, Nat.reduceLeDiff, Nat.reduceLT, Nat.zero_add, Nat.lt_add_one, Nat.le_refl, clearA, Int.toNat_natCast, o1, o2, o3, o4, ld_all o2, ld_all o4, vb, e1, e2, hB, hC, e3, p1, p2, ld_all p2, hh, k0, k1, k2, e4, e5, e6, e7, e8, e9, e10, hD, f1, f2, f3, f4, f5, f6, f7, eq_self, bne_self_eq_false, beq_self_eq_true]
        exact hQ _ _ _ rfl g3 rfl
    · refine runF_E fn_ValsDoes rfl fun Q hQ => ?_; unfold rc_ValsDoes
      simp only [sim, List.length_cons, List.length_nil, Nat.reduceAdd, Nat.reduceSub, List.replicate, List.cons_append, List.nil_append, List.map_cons, List.map_nil, Option.bind_some, Option.map_some, Option.bind_none, Option.map_none, if_true, if_false, decide_true, decide_false, Bool.false_eq_true, Bool.true_eq_false, Bool.not_true, Bool.not_false, reduceCtorEq, Bool.and_true, Bool.true_and, Bool.and_false, Bool.false_and, Bool.or_true, Bool.true_or, Bool.or_false, Bool.false_or, true_and, and_true, false_and, and_false, List.take_zero, List.take_succ_cons, List.drop_zero, List.drop_succ_cons, List.take_nil, List.drop_nil, List.set_cons_zero, List.set_cons_succ, Nat.reduceLeDiff, Nat.reduceLT, Nat.zero_add, Nat.lt_add_one, Nat.le_refl, clearA, Int.toNat_natCast, o1, o2, o3, o4, ld_all o2, ld_all o4, vb, e1, e2, hB, hC]
      exact hQ _ _ _ rfl gg rfl
  · refine runF_E fn_ValsDoes rfl fun Q hQ => ?_; unfold rc_ValsDoes
    simp only [sim, List.length_cons, List.length_nil, Nat.reduceAdd, Nat.reduceSub, List.replicate, List.cons_append, List.nil_append, List.map_cons, List.map_nil, Option.bind_some, Option.map_some, Option.bind_none, Option.map_none, if_true, if_false, decide_true, decide_false, Bool.false_eq_true, Bool.true_eq_false, Bool.not_true, Bool.not_false, reduceCtorEq, Bool.and_true, Bool.true_and, Bool.and_false, Bool.false_and, Bool.or_true, Bool.true_or, Bool.or_false, Bool.false_or, true_and, and_true, false_and, and_false, List.take_zero, List.take_succ_cons, List.drop_zero, List.drop_succ_cons, List.take_nil, List.drop_nil, List.set_cons_zero, List.set_cons_succ, Nat.reduceLeDiff, Nat.reduceLT, Nat.zero_add, Nat.lt_add_one, Nat.le_refl, clearA, Int.toNat_natCast, o1, o2, o3, o4, ld_all o2, ld_all o4, vb, e1, hB]
    exact hQ _ _ _ rfl gg rfl

set_option maxHeartbeats 2000000 in
theorem ValsApart_run (x y : VD) (r q : List AV) (hx : VaA x r) (hy : VaA y q) (wx : x.wf) (wy : y.wf) :
    runF Tryd.prog po 4 [.agg r, .agg q] h = some (.inl (.bool true), h) := by
  obtain ⟨o1, o2⟩ := hx.one
  obtain ⟨o3, o4⟩ := hy.one
  have vb := fun h => vals_begun h
  have e1 := fun h => GreatVal_run (h := h) hx
  have e2 := fun h => GreatVal_run (h := h) hy
  have e3 := fun h => vCheck_run (h := h) hx
  have e4 := fun h => vCheck_run (h := h) hy
  have gg : GrewA h ((h.push [r]).push [q]) := (by repeat (first | exact GrewA.refl _ | refine GrewA.trans ?_ (GrewA.push _ _) | refine GrewA.trans ?_ (GrewA.fresh _ _)))
  cases hB : x.great
  · cases hC : y.great
    · cases hD : decide (x.code = 0)
      · refine runF_E fn_ValsApart rfl fun Q hQ => ?_; unfold rc_ValsApart
        simp only [sim, List.length_cons, List.length_nil, Nat.reduceAdd, Nat.reduceSub, List.replicate, List.cons_append, List.nil_append, List.map_cons, List.map_nil, Option.bind_some, Option.map_some, Option.bind_none, Option.map_none, if_true, if_false, decide_true, decide_false, Bool.false_eq_true, Bool.true_eq_false, Bool.not_true, Bool.not_false, reduceCtorEq, Bool.and_true, Bool.true_and, Bool.and_false, Bool.false_and, Bool.or_true, Bool.true_or, Bool.or_false, Bool.false_or, true_and, and_true, false_and, and_false, List.take_zero, List.take_succ_cons, List.drop_zero, List.drop_succ_cons, List.take_nil, List.drop_nil, List.set_cons_zero, List.set_cons_succ, Nat.reduceLeDiff, Nat.reduceLT, Nat.zero_add, Nat.lt_add_one, Nat.le_refl, clearA, Int.toNat_natCast, o1, o2, o3, o4, ld_all o2, ld_all o4, vb, e1, e2, hB, hC, e3, hD]
        exact hQ _ _ _ rfl gg rfl
      · cases hE : decide (y.code = 0)
        · refine runF_E fn_ValsApart rfl fun Q hQ => ?_; unfold rc_ValsApart
          simp only [sim, List.length_cons, List.length_nil, Nat.reduceAdd, Nat.reduceSub, List.replicate, List.cons_append, List.nil_append, List.map_cons, List.map_nil, Option.bind_some, Option.map_some, Option.bind_none, Option.map_none, if_true, if_false, decide_true, decide_false, Bool.false_eq_true, Bool.true_eq_false, Bool.not_true, Bool.not_false, reduceCtorEq, Bool.and_true, Bool.true_and, Bool.and_false, Bool.false_and, Bool.or_true, Bool.true_or, Bool.or_false, Bool.false_or, true_and, and_true, false_and, and_false, List.take_zero, List.take_succ_cons, List.drop_zero, List.drop_succ_cons, List.take_nil, List.drop_nil, List.set_cons_zero, List.set_cons_succ, Nat.reduceLeDiff, Nat.reduceLT, Nat.zero_add, Nat.lt_add_one, Nat.le_refl, clearA, Int.toNat_natCast, o1, o2, o3, o4, ld_all o2, ld_all o4, vb, e1, e2, hB, hC, e3, e4, hD, hE]
          exact hQ _ _ _ rfl gg rfl
        · have hsz := great_size hB
          obtain ⟨fx, sx⟩ := code_zero (of_decide_eq_true hD)
          obtain ⟨fy, sy⟩ := code_zero (of_decide_eq_true hE)
          have f1 := fun h => vText_run _ x (Nat.le_refl _) fx wx (by omega) r h hx
          have f2 := fun h => vText_run _ y (Nat.le_refl _) fy wy (by omega) q h hy
          have f3 := fun h => vSame_run _ x (Nat.le_refl _) (by omega) y r q h hx hy
          have ts := text_same fx fy
          refine runF_E fn_ValsApart rfl fun Q hQ => ?_; unfold rc_ValsApart
          simp only [sim, List.length_cons, List.length_nil, Nat.reduceAdd, Nat.reduceSub, List.replicate, List.cons_append, List.nil_append, List.map_cons, List.map_nil, Option.bind_some, Option.map_some, Option.bind_none, Option.map_none, if_true, if_false, decide_true, decide_false, Bool.false_eq_true, Bool.true_eq_false, Bool.not_true, Bool.not_false, reduceCtorEq, Bool.and_true, Bool.true_and, Bool.and_false, Bool.false_and, Bool.or_true, Bool.true_or, Bool.or_false, Bool.false_or, true_and, and_true, false_and, and_false, List.take_zero, List.take_succ_cons, List.drop_zero, List.drop_succ_cons, List.take_nil, List.drop_nil, List.set_cons_zero, List.set_cons_succ, Nat.reduceLeDiff, Nat.reduceLT, Nat.zero_add, Nat.lt_add_one, Nat.le_refl, clearA, Int.toNat_natCast, o1, o2, o3, o4, ld_all o2, ld_all o4, vb, e1, e2, hB, hC, e3, e4, hD, hE, f1, f2, f3, ts, eq_self, beq_self_eq_true]
          exact hQ _ _ _ rfl gg rfl
    · refine runF_E fn_ValsApart rfl fun Q hQ => ?_; unfold rc_ValsApart
      simp only [sim, List.length_cons, List.length_nil, Nat.reduceAdd, Nat.reduceSub, List.replicate, List.cons_append, List.nil_append, List.map_cons, List.map_nil, Option.bind_some, Option.map_some, Option.bind_none, Option.map_none, if_true, if_false, decide_true, decide_false, Bool.false_eq_true, Bool.true_eq_false, Bool.not_true, Bool.not_false, reduceCtorEq, Bool.and_true, Bool.true_and, Bool.and_false, Bool.false_and, Bool.or_true, Bool.true_or, Bool.or_false, Bool.false_or, true_and, and_true, false_and, and_false, List.take_zero, List.take_succ_cons, List.drop_zero, List.drop_succ_cons, List.take_nil, List.drop_nil, List.set_cons_zero, List.set_cons_succ, Nat.reduceLeDiff, Nat.reduceLT, Nat.zero_add, Nat.lt_add_one, Nat.le_refl, clearA, Int.toNat_natCast, o1, o2, o3, o4, ld_all o2, ld_all o4, vb, e1, e2, hB, hC]
      exact hQ _ _ _ rfl gg rfl
  · refine runF_E fn_ValsApart rfl fun Q hQ => ?_; unfold rc_ValsApart
    simp only [sim, List.length_cons, List.length_nil, Nat.reduceAdd, Nat.reduceSub, List.replicate, List.cons_append, List.nil_append, List.map_cons, List.map_nil, Option.bind_some, Option.map_some, Option.bind_none, Option.map_none, if_true, if_false, decide_true, decide_false, Bool.false_eq_true, Bool.true_eq_false, Bool.not_true, Bool.not_false, reduceCtorEq, Bool.and_true, Bool.true_and, Bool.and_false, Bool.false_and, Bool.or_true, Bool.true_or, Bool.or_false, Bool.false_or, true_and, and_true, false_and, and_false, List.take_zero, List.take_succ_cons, List.drop_zero, List.drop_succ_cons, List.take_nil, List.drop_nil, List.set_cons_zero, List.set_cons_succ, Nat.reduceLeDiff, Nat.reduceLT, Nat.zero_add, Nat.lt_add_one, Nat.le_refl, clearA, Int.toNat_natCast, o1, o2, o3, o4, ld_all o2, ld_all o4, vb, e1, hB]
    exact hQ _ _ _ rfl gg rfl

theorem gates_take {l : List VD} {i : Nat} {y : VD} (h : l[i]? = some y) : gatesVs (l.take (i + 1)) = (gatesVs (l.take i) || y.gate) := by
  rw [take_get h, gatesVs_any, gatesVs_any, List.any_append]
  simp
theorem code_of {x : VD} (h1 : x.fault = 0) (h2 : x.size ≤ 40) : x.code = 0 := by
  unfold VD.code
  rw [if_neg (by omega), h1]
set_option maxHeartbeats 2000000 in
theorem ValsParts_run (x : VD) (r : List AV) (hx : VaA x r) :
    runF Tryd.prog po 5 [.agg r] h = some (.inl (.bool true), h) := by
  obtain ⟨o1, o2⟩ := hx.one
  have vb := fun h => vals_begun h
  have e1 := fun h => GreatVal_run (h := h) hx
  have e3 := fun h => vCheck_run (h := h) hx
  have gg : GrewA h (h.push [r]) := (by repeat (first | exact GrewA.refl _ | refine GrewA.trans ?_ (GrewA.push _ _) | refine GrewA.trans ?_ (GrewA.fresh _ _)))
  cases hB : x.great
  · cases hD : decide (x.code = 0)
    · refine runF_E fn_ValsParts rfl fun Q hQ => ?_; unfold rc_ValsParts
      simp only [sim, List.length_cons, List.length_nil, Nat.reduceAdd, Nat.reduceSub, List.replicate, List.cons_append, List.nil_append, List.map_cons, List.map_nil, Option.bind_some, Option.map_some, Option.bind_none, Option.map_none, if_true, if_false, decide_true, decide_false, Bool.false_eq_true, Bool.true_eq_false, Bool.not_true, Bool.not_false, reduceCtorEq, Bool.and_true, Bool.true_and, Bool.and_false, Bool.false_and, Bool.or_true, Bool.true_or, Bool.or_false, Bool.false_or, true_and, and_true, false_and, and_false, List.take_zero, List.take_succ_cons, List.drop_zero, List.drop_succ_cons, List.take_nil, List.drop_nil, List.set_cons_zero, List.set_cons_succ, Nat.reduceLeDiff, Nat.reduceLT, Nat.zero_add, Nat.lt_add_one, Nat.le_refl, clearA, Int.toNat_natCast, o1, o2, ld_all o2, vb, e1, hB, e3, hD]
      exact hQ _ _ _ rfl gg rfl
    · obtain ⟨hf, hs40⟩ := code_zero (of_decide_eq_true hD)
      obtain ⟨hl2, hfp⟩ := val_parts hf
      have f1 := fun h => vCaps_run _ x (Nat.le_refl _) (by omega) r h hx
      have f3 := fun h => vGates_run _ x (Nat.le_refl _) (by omega) r h hx
      have cfx := x.caps_few
      have hcx := x.caps_eq
      have hgx := x.gate_eq
      obtain ⟨v, es, rfl, hsl, hv, hn, hix⟩ := hx.facts
      have rest : ∀ (Q : RRun → Prop) (h0 : AH) (acc0 : AV) (c0 : List Int) (b8 : Bool), Acc h h0 3 acc0 (intsA c0) → GrewA h h0 → h.n < h0.n → h0.cell h.n = some [[.int .i64 x.kind, .int .i64 x.n, v]] → c0 ++ capsVs x.l = x.caps → c0.length ≤ 1 →
          (∀ V h', (resR V h' [.v 2]).map oneA = some (.bool true) → GrewA h h' → Q (some (.ret, V, h'))) →
          Q (runR (runF Tryd.prog po) 11 (.lp rc_ValsParts_b1 :: .ss [] :: .blk 0 :: [.ss [(.ops [(.i .l (.mv (.v 3))), (.i .l (.load true 3 (.v 1))), (.i .l (.call (.c (.fn 19 [] [])) [(.l 0)])), (.i .l (.call (.c (.fn 18 [] [])) [(.l 2), (.l 0)])), (.i .l (.mv (.l 0))), (.g (.l 0) true .l (.mv (.v 4))), (.g (.l 1) true .l (.load true 3 (.v 1))), (.g (.l 2) true .l (.call (.c (.fn 21 [] [])) [(.l 0)])), (.g (.l 3) true .l (.bin .bool .eql (.l 2) (.l 0))), (.i .l (.pick (.l 4) (.l 0) (.c (.bool false)))), (.i (.v 2) (.mv (.l 0)))]), .ret]])
            [.agg [.int .i64 x.kind, .int .i64 x.n, v], .ptr h.n 0 0, .bool false, acc0, .bool (decide (x.kind = 5)), .int .i64 0, .bool false, .bool false, .bool b8, .junk, .junk] [] h0) := by
        intro Q h0 acc0 c0 b8 ha0 g0 hn0 k0 hc0 hcl hQ
        refine loop_Q (fun i V h' => ∃ acc w9 w10, V = [.agg [.int .i64 x.kind, .int .i64 x.n, v], .ptr h.n 0 0, .bool false, acc, .bool (decide (x.kind = 5) || gatesVs (x.l.take i)), .int .i64 (i : Nat), .bool false, .bool false, .bool b8, w9, w10] ∧
          GrewA h h' ∧ h.n < h'.n ∧ h'.cell h.n = some [[.int .i64 x.kind, .int .i64 x.n, v]] ∧ Acc h h' 3 acc (intsA (c0 ++ capsVs (x.l.take i)))) x.l.length ⟨_, _, _, by simp [gatesVs]; exact ⟨rfl, rfl, rfl⟩, g0, hn0, k0, by simpa [capsVs] using ha0⟩ ?_ ?_
        · rintro i V h' hi ⟨acc, w9, w10, rfl, g, hm, c1, ha⟩ next
          have hlt : (i : Int) < (es.length : Int) := by rw [hn]; omega
          obtain ⟨y, hy⟩ := at_get hi
          obtain ⟨q, i1, d1, x1⟩ := hix i y hy
          obtain ⟨p1, p2⟩ := x1.one
          have hw := w64 (n := (i : Int) + 1) (by omega) (by omega)
          have sy := VD.size_mem (at_mem hy)
          have e5 := fun h => vCheck_run (h := h) x1
          rw [code_of (hfp y (at_mem hy)) (by omega)] at e5
          have e6 := fun h => vCaps_run _ y (Nat.le_refl _) (by omega) q h x1
          have e7 := fun h => vGates_run _ y (Nat.le_refl _) (by omega) q h x1
          have cf := capsVs_few (x.l.take i)
          have sl := sizesV_le x.l i
          have cy := y.caps_few
          have hs := x.size_eq
          obtain ⟨acc2, h2, e2, a1, a2, a3, a4⟩ := acc_apps (h := h') ha g (lst_app 3 (intsA y.caps)) (ints_one _) (by simp only [List.length_map, List.length_append]; omega) (by simp only [List.length_map]; omega)
          have a1' : Acc h h2 3 acc2 (intsA (c0 ++ capsVs (x.l.take (i + 1)))) := by
            rw [take_get hy, capsVs_append, ← List.append_assoc]
            simpa [capsVs] using a1
          have c2 : h2.cell h.n = some [[.int .i64 x.kind, .int .i64 x.n, v]] := by rw [a3]; exact c1
          have gt := gates_take hy
          have m2 : h.n < h2.n := by rw [a4]; exact hm
          cases hb : (decide (x.kind = 5) || gatesVs (x.l.take i))
          · have gt2 : (decide (x.kind = 5) || gatesVs (x.l.take (i + 1))) = y.gate := by
              rw [gt, ← Bool.or_assoc, hb]
              rfl
            rw [r_lpb rc_ValsParts_b1.eq_1]
            simp only [sim, List.length_cons, List.length_nil, Nat.reduceAdd, Nat.reduceSub, List.replicate, List.cons_append, List.nil_append, List.map_cons, List.map_nil, Option.bind_some, Option.map_some, Option.bind_none, Option.map_none, if_true, if_false, decide_true, decide_false, Bool.false_eq_true, Bool.true_eq_false, Bool.not_true, Bool.not_false, reduceCtorEq, Bool.and_true, Bool.true_and, Bool.and_false, Bool.false_and, Bool.or_true, Bool.true_or, Bool.or_false, Bool.false_or, true_and, and_true, false_and, and_false, List.take_zero, List.take_succ_cons, List.drop_zero, List.drop_succ_cons, List.take_nil, List.drop_nil, List.set_cons_zero, List.set_cons_succ, Nat.reduceLeDiff, Nat.reduceLT, Nat.zero_add, Nat.lt_add_one, Nat.le_refl, clearA, Int.toNat_natCast, c1, c2, hsl.len, hsl.fits, hlt, i1, d1, p1, p2, ld_all p2, e5, e2, e6, e7, hw, eq_self]
            exact next _ _ ⟨_, _, _, by rw [gt2]; rfl, a2, m2, c2, a1'⟩
          · have gt2 : (decide (x.kind = 5) || gatesVs (x.l.take (i + 1))) = true := by
              rw [gt, ← Bool.or_assoc, hb]
              rfl
            rw [r_lpb rc_ValsParts_b1.eq_1]
            simp only [sim, List.length_cons, List.length_nil, Nat.reduceAdd, Nat.reduceSub, List.replicate, List.cons_append, List.nil_append, List.map_cons, List.map_nil, Option.bind_some, Option.map_some, Option.bind_none, Option.map_none, if_true, if_false, decide_true, decide_false, Bool.false_eq_true, Bool.true_eq_false, Bool.not_true, Bool.not_false, reduceCtorEq, Bool.and_true, Bool.true_and, Bool.and_false, Bool.false_and, Bool.or_true, Bool.true_or, Bool.or_false, Bool.false_or, true_and, and_true, false_and, and_false, List.take_zero, List.take_succ_cons, List.drop_zero, List.drop_succ_cons, List.take_nil, List.drop_nil, List.set_cons_zero, List.set_cons_succ, Nat.reduceLeDiff, Nat.reduceLT, Nat.zero_add, Nat.lt_add_one, Nat.le_refl, clearA, Int.toNat_natCast, c1, c2, hsl.len, hsl.fits, hlt, i1, d1, p1, p2, ld_all p2, e5, e2, e6, e7, hw, eq_self]
            exact next _ _ ⟨_, _, _, by rw [gt2]; rfl, a2, m2, c2, a1'⟩
        · rintro V h' ⟨acc, w9, w10, rfl, g, hm, c1, ha⟩
          have hlt : ¬ ((x.l.length : Int) < (es.length : Int)) := by rw [hn]; omega
          rw [List.take_length] at ha ⊢
          rw [hc0] at ha
          rw [← hgx]
          have f7 := r_SameInts (h := h') x.caps x.caps acc (lstA 3 (intsA x.caps)) (isL_acc ha) (isL_lst _ _) (by omega)
          simp only [decide_true] at f7
          rw [r_lpb rc_ValsParts_b1.eq_1]
          simp only [sim, List.length_cons, List.length_nil, Nat.reduceAdd, Nat.reduceSub, List.replicate, List.cons_append, List.nil_append, List.map_cons, List.map_nil, Option.bind_some, Option.map_some, Option.bind_none, Option.map_none, if_true, if_false, decide_true, decide_false, Bool.false_eq_true, Bool.true_eq_false, Bool.not_true, Bool.not_false, reduceCtorEq, Bool.and_true, Bool.true_and, Bool.and_false, Bool.false_and, Bool.or_true, Bool.true_or, Bool.or_false, Bool.false_or, true_and, and_true, false_and, and_false, List.take_zero, List.take_succ_cons, List.drop_zero, List.drop_succ_cons, List.take_nil, List.drop_nil, List.set_cons_zero, List.set_cons_succ, Nat.reduceLeDiff, Nat.reduceLT, Nat.zero_add, Nat.lt_add_one, Nat.le_refl, clearA, Int.toNat_natCast, c1, hsl.len, hsl.fits, hlt, o1, o2, ld_all o2, f1, f3, f7, eq_self, beq_self_eq_true]
          exact hQ _ _ rfl g
      refine runF_E fn_ValsParts rfl fun Q hQ => ?_; unfold rc_ValsParts
      by_cases h4 : x.kind = 4
      · rw [if_pos h4] at hcx
        have L := rest
        obtain ⟨acc1, h1, e9, a1, a2, a3, a4⟩ := acc_app (h0 := h) (h := h.push [[.int .i64 x.kind, .int .i64 x.n, v]]) (acc_nil h _ 3) (by repeat (first | exact GrewA.refl _ | refine GrewA.trans ?_ (GrewA.push _ _) | refine GrewA.trans ?_ (GrewA.fresh _ _))) (row := [.int .i64 x.n]) rfl (by simp)
        simp only [push_ids] at e9
        have d4 : decide (x.kind = 4) = true := decide_eq_true h4
        simp only [sim, List.length_cons, List.length_nil, Nat.reduceAdd, Nat.reduceSub, List.replicate, List.cons_append, List.nil_append, List.map_cons, List.map_nil, Option.bind_some, Option.map_some, Option.bind_none, Option.map_none, if_true, if_false, decide_true, decide_false, Bool.false_eq_true, Bool.true_eq_false, Bool.not_true, Bool.not_false, reduceCtorEq, Bool.and_true, Bool.true_and, Bool.and_false, Bool.false_and, Bool.or_true, Bool.true_or, Bool.or_false, Bool.false_or, true_and, and_true, false_and, and_false, List.take_zero, List.take_succ_cons, List.drop_zero, List.drop_succ_cons, List.take_nil, List.drop_nil, List.set_cons_zero, List.set_cons_succ, Nat.reduceLeDiff, Nat.reduceLT, Nat.zero_add, Nat.lt_add_one, Nat.le_refl, clearA, Int.toNat_natCast, o1, o2, ld_all o2, vb, e1, hB, e3, hD, d4, e9, a3]
        exact L _ _ _ [x.n] _ a1 a2 (by rw [a4]; simp only [push_n]; omega) (by rw [a3]; exact push_same) hcx.symm (by simp) fun V h' e g => hQ _ _ _ e g rfl
      · rw [if_neg h4] at hcx
        have d4 : decide (x.kind = 4) = false := decide_eq_false h4
        simp only [sim, List.length_cons, List.length_nil, Nat.reduceAdd, Nat.reduceSub, List.replicate, List.cons_append, List.nil_append, List.map_cons, List.map_nil, Option.bind_some, Option.map_some, Option.bind_none, Option.map_none, if_true, if_false, decide_true, decide_false, Bool.false_eq_true, Bool.true_eq_false, Bool.not_true, Bool.not_false, reduceCtorEq, Bool.and_true, Bool.true_and, Bool.and_false, Bool.false_and, Bool.or_true, Bool.true_or, Bool.or_false, Bool.false_or, true_and, and_true, false_and, and_false, List.take_zero, List.take_succ_cons, List.drop_zero, List.drop_succ_cons, List.take_nil, List.drop_nil, List.set_cons_zero, List.set_cons_succ, Nat.reduceLeDiff, Nat.reduceLT, Nat.zero_add, Nat.lt_add_one, Nat.le_refl, clearA, Int.toNat_natCast, o1, o2, ld_all o2, vb, e1, hB, e3, hD, d4]
        exact rest _ _ _ [] _ (acc_nil _ _ _) (by repeat (first | exact GrewA.refl _ | refine GrewA.trans ?_ (GrewA.push _ _) | refine GrewA.trans ?_ (GrewA.fresh _ _))) (by simp only [push_n]; omega) push_same hcx.symm (by simp) fun V h' e g => hQ _ _ _ e g rfl
  · refine runF_E fn_ValsParts rfl fun Q hQ => ?_; unfold rc_ValsParts
    simp only [sim, List.length_cons, List.length_nil, Nat.reduceAdd, Nat.reduceSub, List.replicate, List.cons_append, List.nil_append, List.map_cons, List.map_nil, Option.bind_some, Option.map_some, Option.bind_none, Option.map_none, if_true, if_false, decide_true, decide_false, Bool.false_eq_true, Bool.true_eq_false, Bool.not_true, Bool.not_false, reduceCtorEq, Bool.and_true, Bool.true_and, Bool.and_false, Bool.false_and, Bool.or_true, Bool.true_or, Bool.or_false, Bool.false_or, true_and, and_true, false_and, and_false, List.take_zero, List.take_succ_cons, List.drop_zero, List.drop_succ_cons, List.take_nil, List.drop_nil, List.set_cons_zero, List.set_cons_succ, Nat.reduceLeDiff, Nat.reduceLT, Nat.zero_add, Nat.lt_add_one, Nat.le_refl, clearA, Int.toNat_natCast, o1, o2, ld_all o2, vb, e1, hB]
    exact hQ _ _ _ rfl gg rfl
end
end Go.Proofs.YtodehiopdkgoeaaDoor
