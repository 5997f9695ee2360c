/- compile in the plain model: the laws. -/
import Derived.Test.YtioladnogpfeeaaCompS4
namespace Go.Proofs.Ytioladnogpfeeaa
set_option linter.unusedSimpArgs false
set_option linter.unusedVariables false
open Go

def begX : XD := .mk 2 0 5 []
theorem begX_ok : checkX [begX] = (0, 0) := by decide +kernel
theorem begX_size : begX.size = 1 := by decide +kernel
theorem begX_code : fullC begX = [⟨100, 0, 0⟩, ⟨2, 0, 5⟩, ⟨105, 0, 0⟩] := by
  unfold fullC
  rw [codeI_mix]
  simp [begX, XD.op, XD.k, XD.n, XD.l, mixI, seqI]
theorem fault_neq {a b c d : Int} : binR .agg (some [.int .i64, .int .i64]) false .neq (.agg [.int .i64 a, .int .i64 b]) (.agg [.int .i64 c, .int .i64 d]) = some (.bool (!(decide (a = c) && decide (b = d)))) := by
  simp [binR, eqCells]
  rfl

section
variable {h : AH}
theorem MakesV.row {h : AH} {v : AV} {L : List XD} (m : MakesV h v L) {i : Nat} {x : XD} (hx : L[i]? = some x) : ∃ q, ixaR (some tIs) none v (.int .i64 (i : Int)) = some (.ip [.msl q 0 (fullC x).length tI] 0) ∧ q < h.n ∧ h.cell q = some ((fullC x).map insR) ∧
    ∀ (j : Nat) (y : InsD), (fullC x)[j]? = some y → ixaR (some tI) none (.msl q 0 (fullC x).length tI) (.int .i64 (j : Int)) = some (.ptr q j 0) ∧ ((fullC x).map insR)[j]? = some [.int .i64 y.op, .int .i64 y.k, .int .i64 y.n] := by
  obtain ⟨q, h1, h2, h3⟩ := m.ix i x hx
  refine ⟨q, h1, h2, h3, fun j y hy => ⟨?_, by simp [hy]⟩⟩
  rw [ix_msl rfl (List.getElem?_eq_some_iff.1 hy).1, Nat.zero_add]

theorem compileBegun_run : runF Try.prog po 8 [] h = some (.inl (.bool true), h) := by
  have hl : ExL [begX] [[.int .i64 2, .int .i64 0, .int .i64 5, .nils]] := by
    simp only [ExL, ExA, begX]
    exact ⟨_, _, rfl, ⟨_, _, rfl, .inl ⟨rfl, rfl⟩, rfl⟩, rfl⟩
  obtain ⟨r, h', e, r0, rfl, g, mv⟩ := kMake_run (h := h.fresh 1) (.isl (some h.ids) tE [[.int .i64 2, .int .i64 0, .int .i64 5, .nils]]) [begX] (fun h => ModV.of (.inr ⟨_, rfl⟩) hl) (by decide) (by simp [begX_size])
  rw [begX_ok] at e mv
  simp only [if_true] at mv
  obtain ⟨q, i1, i2, i3, i4⟩ := mv.row (i := 0) (x := begX) rfl
  have i1 : ixaR (some tIs) none r0 (.int .i64 0) = some (.ip [.msl q 0 (fullC begX).length tI] 0) := i1
  rw [begX_code] at i1 i3 i4
  obtain ⟨j0, k0⟩ := i4 0 _ rfl
  obtain ⟨j1, k1⟩ := i4 1 _ rfl
  obtain ⟨j2, k2⟩ := i4 2 _ rfl
  have j0 : ixaR (some tI) none (.msl q 0 [(⟨100, 0, 0⟩ : InsD), ⟨2, 0, 5⟩, ⟨105, 0, 0⟩].length tI) (.int .i64 0) = some (.ptr q 0 0) := j0
  have j1 : ixaR (some tI) none (.msl q 0 [(⟨100, 0, 0⟩ : InsD), ⟨2, 0, 5⟩, ⟨105, 0, 0⟩].length tI) (.int .i64 1) = some (.ptr q 1 0) := j1
  have j2 : ixaR (some tI) none (.msl q 0 [(⟨100, 0, 0⟩ : InsD), ⟨2, 0, 5⟩, ⟨105, 0, 0⟩].length tI) (.int .i64 2) = some (.ptr q 2 0) := j2
  simp only [List.length_cons, List.length_nil, Nat.reduceAdd] at i1 j0 j1 j2
  have l1 := mv.len
  refine runF_E fn_compileBegun rfl fun Q hQ => ?_; unfold rc_compileBegun
  simp only [sim, List.length_cons, List.length_nil, Nat.reduceAdd, Nat.reduceSub, List.replicate, List.cons_append, List.nil_append, List.map_cons, List.map_nil, Option.bind_some, Option.map_some, Option.bind_none, Option.map_none, if_true, if_false, decide_true, decide_false, Bool.false_eq_true, Bool.true_eq_false, Bool.not_true, Bool.not_false, reduceCtorEq, Bool.and_true, Bool.true_and, Bool.and_false, Bool.false_and, Bool.or_true, Bool.true_or, Bool.or_false, Bool.false_or, true_and, and_true, false_and, and_false, List.take_zero, List.take_succ_cons, List.drop_zero, List.drop_succ_cons, List.take_nil, List.drop_nil, List.set_cons_zero, List.set_cons_succ, Nat.reduceLeDiff, Nat.reduceLT, Nat.zero_add, Nat.lt_add_one, Nat.le_refl, clearA, Int.toNat_natCast, turns, lnum_run, e, l1, mv.fits, i1, j0, j1, j2, push_lt i2, i3, k0, k1, k2, eq_self, Int.reduceEq, Int.natCast_one, Int.cast_ofNat_Int]
  exact hQ _ _ _ rfl ((GrewA.fresh h 1).trans (g.trans (GrewA.push _ _))) rfl

set_option maxHeartbeats 1000000 in
theorem CompileMakes_run (v : AV) (L : List XD) (m : ∀ h, ModV h v L) : runF Try.prog po 3 [.agg [v]] h = some (.inl (.bool true), h) := by
  have o1 := (m h).one
  have q1 := fun h => Great_run (h := h) v L (m h)
  cases hg : greatX L
  · obtain ⟨hl1, hs1⟩ := great_no hg
    have hL : L.length ≤ 100000 := by omega
    have hS : ∀ x ∈ L, x.size ≤ 100000 := fun x hx => by have := hs1 x hx; omega
    obtain ⟨r', ro, ⟨v3, es3, e3, hv3, hl3⟩⟩ := OwnModule_run (h := h.push [[v]]) v L m hL hS
    subst e3
    have m3 : ∀ h, ModV h v3 L := fun h => ModV.of hv3 hl3
    have o3 := (m3 h).one
    obtain ⟨r, h', e, r0, rfl, g, mv⟩ := kMake_run (h := (h.push [[v]]).push [[v3]]) v3 L m3 hL hS
    have c2 := fun h => CodeFault_run (h := h) v L m hL hS
    have c6 := fun h => SameModule_run (h := h) v3 v L L m3 m hL hS
    have n1 : h.n + 1 < h'.n := by have := g.n; simp only [push_n] at this; omega
    have n0 : h.n < h'.n := by omega
    have k1 : h'.cell h.n = some [[v]] := (g.cell _ (by simp only [push_n]; omega)).trans push2_old
    have k3 : h'.cell (h.n + 1) = some [[v3]] := (g.cell _ (by simp only [push_n]; omega)).trans push2_same
    have gg : GrewA h h' := GrewA.trans (by repeat (first | exact GrewA.refl _ | refine GrewA.trans ?_ (GrewA.push _ _) | refine GrewA.trans ?_ (GrewA.fresh _ _))) g
    have l1 := (m h).len
    have f1 := (m h).fits
    by_cases h0 : (checkX L).1 = 0
    · rw [if_pos h0] at mv
      obtain ⟨ec, hl6, hx⟩ := check_ok h0
      rw [ec] at e c2
      have lr := mv.len
      refine runF_E fn_CompileMakes rfl fun Q hQ => ?_; unfold rc_CompileMakes
      simp only [sim, List.length_cons, List.length_nil, Nat.reduceAdd, Nat.reduceSub, List.replicate, List.cons_append, List.nil_append, List.map_cons, List.map_nil, Option.bind_some, Option.map_some, Option.bind_none, Option.map_none, if_true, if_false, decide_true, decide_false, Bool.false_eq_true, Bool.true_eq_false, Bool.not_true, Bool.not_false, reduceCtorEq, Bool.and_true, Bool.true_and, Bool.and_false, Bool.false_and, Bool.or_true, Bool.true_or, Bool.or_false, Bool.false_or, true_and, and_true, false_and, and_false, List.take_zero, List.take_succ_cons, List.drop_zero, List.drop_succ_cons, List.take_nil, List.drop_nil, List.set_cons_zero, List.set_cons_succ, Nat.reduceLeDiff, Nat.reduceLT, Nat.zero_add, Nat.lt_add_one, Nat.le_refl, clearA, Int.toNat_natCast, compileBegun_run, o1, q1, hg, ro, o3, e, c2, fault_neq, eq_self, push_lt, lt_s, n0, n1, k1, k3, c6, sameXs_refl, lr, mv.fits, l1, f1]
      refine loop_Q (fun i V h'' => ∃ v8 v9 v15 v16 v17 v18, V = [.agg [v], .ptr h.n 0 0, .bool false, .ptr (h.n + 1) 0 0, r0, .ptr h'.n 0 0, .ptr (h'.n + 1) 0 0, .int .i64 (i : Nat), v8, v9, .bool false, .bool false, .bool false, .bool false, .bool false, v15, v16, v17, v18] ∧
        GrewA h h'' ∧ MakesV h'' r0 L ∧ Cel h'' h.n [[v]]) L.length ⟨_, _, _, _, _, _, rfl, gg.trans (by repeat (first | exact GrewA.refl _ | refine GrewA.trans ?_ (GrewA.push _ _) | refine GrewA.trans ?_ (GrewA.fresh _ _))), mv.grew (by repeat (first | exact GrewA.refl _ | refine GrewA.trans ?_ (GrewA.push _ _) | refine GrewA.trans ?_ (GrewA.fresh _ _))), (show Cel h' h.n [[v]] from ⟨n0, k1⟩).on (by repeat (first | exact GrewA.refl _ | refine GrewA.trans ?_ (GrewA.push _ _) | refine GrewA.trans ?_ (GrewA.fresh _ _)))⟩ ?_ ?_
      · rintro i V h2 hi ⟨v8, v9, v15, v16, v17, v18, rfl, g2, mv2, d1⟩ next
        obtain ⟨y, hy⟩ : ∃ y, L[i]? = some y := ⟨_, List.getElem?_eq_getElem hi⟩
        obtain ⟨fy, sy⟩ := hx y (List.mem_of_getElem? hy)
        have hlt : (i : Int) < (L.length : Int) := by omega
        have hw := w64 (n := (i : Int) + 1) (by omega) (by omega)
        obtain ⟨a, q, i1, i2, i3⟩ := (m h2).ix i y hy
        have i2' := i2 _ (GrewA.refl h2)
        obtain ⟨w, h3, e3, b3⟩ := refCode_run L.length _ y (Nat.le_refl _) 0 fy q h2 0 i3 (by omega)
        have e3 : runF Try.prog po 14 [.agg q, .int .i64 0] h2 = some (.inl w, h3) := e3
        have lc := codeI_len _ y (Nat.le_refl _) 0
        obtain ⟨w4, h4, e4, b4, k4, m4⟩ := b3.one (by omega) 105 0 0
        have b4 : AccI h2 h4 w4 (fullC y) := b4
        have mv4 := mv2.grew b4.2
        obtain ⟨p, j1, j2, j3, j4⟩ := mv4.row hy
        have lw := b4.len
        have ilw := isL_acc b4.1
        have lf : (fullC y).length ≤ 10000 := by simp only [fullC, List.length_append, List.length_singleton]; omega
        rw [r_lpb rc_CompileMakes_b2.eq_1]
        simp only [sim, List.length_cons, List.length_nil, Nat.reduceAdd, Nat.reduceSub, List.replicate, List.cons_append, List.nil_append, List.map_cons, List.map_nil, Option.bind_some, Option.map_some, Option.bind_none, Option.map_none, if_true, if_false, decide_true, decide_false, Bool.false_eq_true, Bool.true_eq_false, Bool.not_true, Bool.not_false, reduceCtorEq, Bool.and_true, Bool.true_and, Bool.and_false, Bool.false_and, Bool.or_true, Bool.true_or, Bool.or_false, Bool.false_or, true_and, and_true, false_and, and_false, List.take_zero, List.take_succ_cons, List.drop_zero, List.drop_succ_cons, List.take_nil, List.drop_nil, List.set_cons_zero, List.set_cons_succ, Nat.reduceLeDiff, Nat.reduceLT, Nat.zero_add, Nat.lt_add_one, Nat.le_refl, clearA, Int.toNat_natCast, lr, mv.fits, hlt, d1.2, i1, i2', e3, e4, j1, lw, b4.fits, eq_self]
        refine loop_Q (fun j V h'' => ∃ v17 v18, V = [.agg [v], .ptr h.n 0 0, .bool false, .ptr (h.n + 1) 0 0, r0, .ptr h'.n 0 0, .ptr (h'.n + 1) 0 0, .int .i64 (i : Nat), w4, .int .i64 (j : Nat), .bool false, .bool false, .bool false, .bool false, .bool false, .bool true, .bool false, v17, v18] ∧ h'' = h4) (fullC y).length ⟨_, _, rfl, rfl⟩ ?_ ?_
        · rintro j V h'' hj ⟨v17, v18, rfl, rfl⟩ next
          obtain ⟨z, hz⟩ : ∃ z, (fullC y)[j]? = some z := ⟨_, List.getElem?_eq_getElem hj⟩
          obtain ⟨t1, t2⟩ := j4 j z hz
          have t3 := ilw.ix .i64 j _ t2
          have hlt2 : (j : Int) < ((fullC y).length : Int) := by omega
          have hw2 := w64 (n := (j : Int) + 1) (by omega) (by omega)
          rw [r_lpb rc_CompileMakes_b1.eq_1]
          simp only [sim, List.length_cons, List.length_nil, Nat.reduceAdd, Nat.reduceSub, List.replicate, List.cons_append, List.nil_append, List.map_cons, List.map_nil, Option.bind_some, Option.map_some, Option.bind_none, Option.map_none, if_true, if_false, decide_true, decide_false, Bool.false_eq_true, Bool.true_eq_false, Bool.not_true, Bool.not_false, reduceCtorEq, Bool.and_true, Bool.true_and, Bool.and_false, Bool.false_and, Bool.or_true, Bool.true_or, Bool.or_false, Bool.false_or, true_and, and_true, false_and, and_false, List.take_zero, List.take_succ_cons, List.drop_zero, List.drop_succ_cons, List.take_nil, List.drop_nil, List.set_cons_zero, List.set_cons_succ, Nat.reduceLeDiff, Nat.reduceLT, Nat.zero_add, Nat.lt_add_one, Nat.le_refl, clearA, Int.toNat_natCast, lw, b4.fits, hlt2, j1, t1, j3, t2, t3, eq_self, hw2]
          exact next _ _ ⟨_, _, rfl, rfl⟩
        · rintro V h'' ⟨v17, v18, rfl, rfl⟩
          have hlt2 : ¬ ((fullC y).length : Int) < ((fullC y).length : Int) := by omega
          rw [r_lpb rc_CompileMakes_b1.eq_1]
          simp only [sim, List.length_cons, List.length_nil, Nat.reduceAdd, Nat.reduceSub, List.replicate, List.cons_append, List.nil_append, List.map_cons, List.map_nil, Option.bind_some, Option.map_some, Option.bind_none, Option.map_none, if_true, if_false, decide_true, decide_false, Bool.false_eq_true, Bool.true_eq_false, Bool.not_true, Bool.not_false, reduceCtorEq, Bool.and_true, Bool.true_and, Bool.and_false, Bool.false_and, Bool.or_true, Bool.true_or, Bool.or_false, Bool.false_or, true_and, and_true, false_and, and_false, List.take_zero, List.take_succ_cons, List.drop_zero, List.drop_succ_cons, List.take_nil, List.drop_nil, List.set_cons_zero, List.set_cons_succ, Nat.reduceLeDiff, Nat.reduceLT, Nat.zero_add, Nat.lt_add_one, Nat.le_refl, clearA, Int.toNat_natCast, lw, b4.fits, hlt2, hw]
          exact next _ _ ⟨_, _, _, _, _, _, rfl, g2.trans b4.2, mv4, d1.on b4.2⟩
      · rintro V h2 ⟨v8, v9, v15, v16, v17, v18, rfl, g2, mv2, d1⟩
        have hlt : ¬ ((L.length : Int) < (L.length : Int)) := by omega
        rw [r_lpb rc_CompileMakes_b2.eq_1]
        simp only [sim, List.length_cons, List.length_nil, Nat.reduceAdd, Nat.reduceSub, List.replicate, List.cons_append, List.nil_append, List.map_cons, List.map_nil, Option.bind_some, Option.map_some, Option.bind_none, Option.map_none, if_true, if_false, decide_true, decide_false, Bool.false_eq_true, Bool.true_eq_false, Bool.not_true, Bool.not_false, reduceCtorEq, Bool.and_true, Bool.true_and, Bool.and_false, Bool.false_and, Bool.or_true, Bool.true_or, Bool.or_false, Bool.false_or, true_and, and_true, false_and, and_false, List.take_zero, List.take_succ_cons, List.drop_zero, List.drop_succ_cons, List.take_nil, List.drop_nil, List.set_cons_zero, List.set_cons_succ, Nat.reduceLeDiff, Nat.reduceLT, Nat.zero_add, Nat.lt_add_one, Nat.le_refl, clearA, Int.toNat_natCast, lr, mv.fits, hlt]
        exact hQ _ _ _ rfl g2 rfl
    · rw [if_neg h0] at mv
      subst mv
      refine runF_E fn_CompileMakes rfl fun Q hQ => ?_; unfold rc_CompileMakes
      simp only [sim, List.length_cons, List.length_nil, Nat.reduceAdd, Nat.reduceSub, List.replicate, List.cons_append, List.nil_append, List.map_cons, List.map_nil, Option.bind_some, Option.map_some, Option.bind_none, Option.map_none, if_true, if_false, decide_true, decide_false, Bool.false_eq_true, Bool.true_eq_false, Bool.not_true, Bool.not_false, reduceCtorEq, Bool.and_true, Bool.true_and, Bool.and_false, Bool.false_and, Bool.or_true, Bool.true_or, Bool.or_false, Bool.false_or, true_and, and_true, false_and, and_false, List.take_zero, List.take_succ_cons, List.drop_zero, List.drop_succ_cons, List.take_nil, List.drop_nil, List.set_cons_zero, List.set_cons_succ, Nat.reduceLeDiff, Nat.reduceLT, Nat.zero_add, Nat.lt_add_one, Nat.le_refl, clearA, Int.toNat_natCast, compileBegun_run, o1, q1, hg, ro, o3, e, c2, fault_neq, eq_self, push_lt, lt_s, n0, n1, k1, k3, c6, sameXs_refl, h0]
      exact hQ _ _ _ rfl (gg.trans (by repeat (first | exact GrewA.refl _ | refine GrewA.trans ?_ (GrewA.push _ _) | refine GrewA.trans ?_ (GrewA.fresh _ _)))) rfl
  · refine runF_E fn_CompileMakes rfl fun Q hQ => ?_; unfold rc_CompileMakes
    simp only [sim, List.length_cons, List.length_nil, Nat.reduceAdd, Nat.reduceSub, List.replicate, List.cons_append, List.nil_append, List.map_cons, List.map_nil, Option.bind_some, Option.map_some, Option.bind_none, Option.map_none, if_true, if_false, decide_true, decide_false, Bool.false_eq_true, Bool.true_eq_false, Bool.not_true, Bool.not_false, reduceCtorEq, Bool.and_true, Bool.true_and, Bool.and_false, Bool.false_and, Bool.or_true, Bool.true_or, Bool.or_false, Bool.false_or, true_and, and_true, false_and, and_false, List.take_zero, List.take_succ_cons, List.drop_zero, List.drop_succ_cons, List.take_nil, List.drop_nil, List.set_cons_zero, List.set_cons_succ, Nat.reduceLeDiff, Nat.reduceLT, Nat.zero_add, Nat.lt_add_one, Nat.le_refl, clearA, Int.toNat_natCast, compileBegun_run, o1, q1, hg]
    exact hQ _ _ _ rfl (by repeat (first | exact GrewA.refl _ | refine GrewA.trans ?_ (GrewA.push _ _) | refine GrewA.trans ?_ (GrewA.fresh _ _))) rfl

theorem look_step {N : Nat} {z : InsD} {l : List InsD} {p : Nat} {o t : Int} {R : Int × Int} (h : lookI N (z :: l) p o t = some R) :
    ((z.op = 103 ∨ z.op = 104) → (p : Int) < z.k ∧ z.k < N) ∧ (z.op = 4 → z.k < o) ∧ 0 ≤ opnI z o ∧ opnI z o ≤ 12 ∧ (z.op = 105 ↔ p + 1 = N) ∧ lookI N l (p + 1) (opnI z o) (if z.op = 100 then t + 1 else t) = some R := by
  simp only [lookI] at h
  split at h
  · cases h
  · rename_i hb
    unfold badI at hb
    refine ⟨fun h1 => ?_, fun h1 => ?_, ?_, ?_, ?_, h⟩
    · exact Classical.byContradiction fun h2 => hb (.inl ⟨h1, h2⟩)
    · exact Classical.byContradiction fun h2 => hb (.inr (.inl ⟨h1, by omega⟩))
    · exact Classical.byContradiction fun h2 => hb (.inr (.inr (.inl (by omega))))
    · exact Classical.byContradiction fun h2 => hb (.inr (.inr (.inr (.inl (by omega)))))
    · exact Classical.byContradiction fun h2 => hb (.inr (.inr (.inr (.inr h2))))
theorem look_full {nf : Int} {x : XD} (hf : x.fault nf 0 = 0) : lookI (fullC x).length (fullC x) 0 0 0 = some (0, (x.size : Int)) := by
  have hN : (fullC x).length = (codeI x 0).length + 1 := by simp [fullC]
  have h1 := look_code (fullC x).length nf _ x (Nat.le_refl _) 0 0 0 (by omega) (by omega) hf (by omega)
  conv => lhs; arg 2; unfold fullC
  rw [lookI_append, h1, Option.bind_some]
  simp only [lookI]
  rw [if_neg]
  · simp [opnI]
  · unfold badI
    simp [opnI, hN]

set_option maxHeartbeats 1000000 in
theorem CompileJumps_run (v : AV) (L : List XD) (m : ∀ h, ModV h v L) : runF Try.prog po 4 [.agg [v]] h = some (.inl (.bool true), h) := by
  have o1 := (m h).one
  have q1 := fun h => Great_run (h := h) v L (m h)
  cases hg : greatX L
  · obtain ⟨hl1, hs1⟩ := great_no hg
    have hL : L.length ≤ 100000 := by omega
    have hS : ∀ x ∈ L, x.size ≤ 100000 := fun x hx => by have := hs1 x hx; omega
    obtain ⟨r, h', e, r0, rfl, g, mv⟩ := kMake_run (h := h.push [[v]]) v L m hL hS
    have n0 : h.n < h'.n := by have := g.n; simp only [push_n] at this; omega
    have k1 : h'.cell h.n = some [[v]] := (g.cell _ (by simp only [push_n]; omega)).trans push_same
    have gg : GrewA h h' := GrewA.trans (by repeat (first | exact GrewA.refl _ | refine GrewA.trans ?_ (GrewA.push _ _) | refine GrewA.trans ?_ (GrewA.fresh _ _))) g
    by_cases h0 : (checkX L).1 = 0
    · rw [if_pos h0] at mv
      obtain ⟨ec, hl6, hx⟩ := check_ok h0
      rw [ec] at e
      have lr := mv.len
      refine runF_E fn_CompileJumps rfl fun Q hQ => ?_; unfold rc_CompileJumps
      simp only [sim, List.length_cons, List.length_nil, Nat.reduceAdd, Nat.reduceSub, List.replicate, List.cons_append, List.nil_append, List.map_cons, List.map_nil, Option.bind_some, Option.map_some, Option.bind_none, Option.map_none, if_true, if_false, decide_true, decide_false, Bool.false_eq_true, Bool.true_eq_false, Bool.not_true, Bool.not_false, reduceCtorEq, Bool.and_true, Bool.true_and, Bool.and_false, Bool.false_and, Bool.or_true, Bool.true_or, Bool.or_false, Bool.false_or, true_and, and_true, false_and, and_false, List.take_zero, List.take_succ_cons, List.drop_zero, List.drop_succ_cons, List.take_nil, List.drop_nil, List.set_cons_zero, List.set_cons_succ, Nat.reduceLeDiff, Nat.reduceLT, Nat.zero_add, Nat.lt_add_one, Nat.le_refl, clearA, Int.toNat_natCast, compileBegun_run, o1, q1, hg, e, eq_self, push_lt, lt_s, n0, k1]
      refine loop_Q (fun i V h'' => ∃ v6 v7 v8 v9 v13 v14 v15 v16 v17 v18 v19 v20 v21 v22 v23 v24, V = [.agg [v], .ptr h.n 0 0, .bool false, r0, .ptr h'.n 0 0, .int .i64 (i : Nat), v6, v7, v8, v9, .bool false, .bool false, .bool false, v13, v14, v15, v16, v17, v18, v19, v20, v21, v22, v23, v24] ∧
        GrewA h h'' ∧ MakesV h'' r0 L ∧ Cel h'' h.n [[v]]) L.length ⟨_, _, _, _, _, _, _, _, _, _, _, _, _, _, _, _, rfl, gg.trans (by repeat (first | exact GrewA.refl _ | refine GrewA.trans ?_ (GrewA.push _ _) | refine GrewA.trans ?_ (GrewA.fresh _ _))), mv.grew (by repeat (first | exact GrewA.refl _ | refine GrewA.trans ?_ (GrewA.push _ _) | refine GrewA.trans ?_ (GrewA.fresh _ _))), (show Cel h' h.n [[v]] from ⟨n0, k1⟩).on (by repeat (first | exact GrewA.refl _ | refine GrewA.trans ?_ (GrewA.push _ _) | refine GrewA.trans ?_ (GrewA.fresh _ _)))⟩ ?_ ?_
      · rintro i V h2 hi ⟨v6, v7, v8, v9, v13, v14, v15, v16, v17, v18, v19, v20, v21, v22, v23, v24, rfl, g2, mv2, d1⟩ next
        obtain ⟨y, hy⟩ : ∃ y, L[i]? = some y := ⟨_, List.getElem?_eq_getElem hi⟩
        obtain ⟨fy, sy⟩ := hx y (List.mem_of_getElem? hy)
        have hlt : (i : Int) < (L.length : Int) := by omega
        have hw := w64 (n := (i : Int) + 1) (by omega) (by omega)
        have lc := codeI_len _ y (Nat.le_refl _) 0
        have lf : (fullC y).length ≤ 10000 := by simp only [fullC, List.length_append, List.length_singleton]; omega
        have lp : 1 ≤ (fullC y).length := by simp [fullC]
        rw [r_lpb rc_CompileJumps_b2.eq_1]
        simp only [sim, List.length_cons, List.length_nil, Nat.reduceAdd, Nat.reduceSub, List.replicate, List.cons_append, List.nil_append, List.map_cons, List.map_nil, Option.bind_some, Option.map_some, Option.bind_none, Option.map_none, if_true, if_false, decide_true, decide_false, Bool.false_eq_true, Bool.true_eq_false, Bool.not_true, Bool.not_false, reduceCtorEq, Bool.and_true, Bool.true_and, Bool.and_false, Bool.false_and, Bool.or_true, Bool.true_or, Bool.or_false, Bool.false_or, true_and, and_true, false_and, and_false, List.take_zero, List.take_succ_cons, List.drop_zero, List.drop_succ_cons, List.take_nil, List.drop_nil, List.set_cons_zero, List.set_cons_succ, Nat.reduceLeDiff, Nat.reduceLT, Nat.zero_add, Nat.lt_add_one, Nat.le_refl, clearA, Int.toNat_natCast, lr, mv.fits, hlt]
        refine loop_Q (fun j V h'' => ∃ (o t : Int) (v9 v14 v15 v16 v17 v18 v19 v20 v21 v22 v23 : AV), V = [.agg [v], .ptr h.n 0 0, .bool false, r0, .ptr h'.n 0 0, .int .i64 (i : Nat), .int .i64 o, .int .i64 t, .int .i64 (j : Nat), v9, .bool false, .bool false, .bool false, .bool true, v14, v15, v16, v17, v18, v19, v20, v21, v22, v23, v24] ∧
          GrewA h2 h'' ∧ 0 ≤ o ∧ o ≤ 12 ∧ 0 ≤ t ∧ t ≤ j ∧ lookI (fullC y).length ((fullC y).drop j) j o t = some (0, (y.size : Int))) (fullC y).length ⟨0, 0, _, _, _, _, _, _, _, _, _, _, _, rfl, GrewA.refl _, by omega, by omega, by omega, by omega, look_full fy⟩ ?_ ?_
        · rintro j V h3 hj ⟨o, t, v9, v14, v15, v16, v17, v18, v19, v20, v21, v22, v23, rfl, g3, ho, ho2, ht, ht2, hlk⟩ next
          obtain ⟨z, hz⟩ : ∃ z, (fullC y)[j]? = some z := ⟨_, List.getElem?_eq_getElem hj⟩
          have hdrop : (fullC y).drop j = z :: (fullC y).drop (j + 1) := by
            obtain ⟨hj', rfl⟩ := List.getElem?_eq_some_iff.1 hz
            exact List.drop_eq_getElem_cons hj'
          rw [hdrop] at hlk
          obtain ⟨s1, s2, s3, s4, s5, s6⟩ := look_step hlk
          obtain ⟨p, j1, j2, j3, j4⟩ := (mv2.grew g3).row hy
          obtain ⟨t1, t2⟩ := j4 j z hz
          have hlt2 : (j : Int) < ((fullC y).length : Int) := by omega
          have hw2 := w64 (n := (j : Int) + 1) (by omega) (by omega)
          have hw3 := w64 (n := ((fullC y).length : Int) - 1) (by omega) (by omega)
          have hD : ((j : Int) = ((fullC y).length : Int) - 1) = (z.op = 105) := propext ⟨fun h => s5.2 (by omega), fun h => by have := s5.1 h; omega⟩
          have g4 : ∀ r, GrewA h2 (h3.push r) := fun r => g3.trans (GrewA.push _ _)
          have hwt := w64 (n := t + 1) (by omega) (by omega)
          have hwo := w64 (n := o + 1) (by omega) (by omega)
          have hwp := w64 (n := o - 1) (by omega) (by omega)
          have fin : ∀ o' t' : Int, o' = opnI z o → t' = (if z.op = 100 then t + 1 else t) → 0 ≤ o' ∧ o' ≤ 12 ∧ 0 ≤ t' ∧ t' ≤ ((j + 1 : Nat) : Int) ∧ lookI (fullC y).length ((fullC y).drop (j + 1)) (j + 1) o' t' = some (0, (y.size : Int)) := by
            rintro o' t' rfl rfl
            exact ⟨s3, s4, by split <;> omega, by split <;> omega, s6⟩
          by_cases c100 : z.op = 100
          · have eo : opnI z o = o := by simp [opnI, c100]
            have n1 : ¬ o < 0 := by omega
            have n2 : ¬ 12 < o := by omega
            rw [r_lpb rc_CompileJumps_b1.eq_1]
            simp only [sim, List.length_cons, List.length_nil, Nat.reduceAdd, Nat.reduceSub, List.replicate, List.cons_append, List.nil_append, List.map_cons, List.map_nil, Option.bind_some, Option.map_some, Option.bind_none, Option.map_none, if_true, if_false, decide_true, decide_false, Bool.false_eq_true, Bool.true_eq_false, Bool.not_true, Bool.not_false, reduceCtorEq, Bool.and_true, Bool.true_and, Bool.and_false, Bool.false_and, Bool.or_true, Bool.true_or, Bool.or_false, Bool.false_or, true_and, and_true, false_and, and_false, List.take_zero, List.take_succ_cons, List.drop_zero, List.drop_succ_cons, List.take_nil, List.drop_nil, List.set_cons_zero, List.set_cons_succ, Nat.reduceLeDiff, Nat.reduceLT, Nat.zero_add, Nat.lt_add_one, Nat.le_refl, clearA, Int.toNat_natCast, j1, lr, mv.fits, hlt2, t1, j2, j3, push_lt j2, t2, c100, eq_self, Int.reduceEq, n1, n2, hw2, hw3, hD, hwt, beq_self_eq_true]
            exact next _ _ ⟨_, _, _, _, _, _, _, _, _, _, _, _, _, rfl, g4 _, fin _ _ eo.symm (by rw [if_pos c100])⟩
          by_cases c101 : z.op = 101
          · have eo : opnI z o = o + 1 := by simp [opnI, c101]
            rw [eo] at s3 s4
            have n1 : ¬ o + 1 < 0 := by omega
            have n2 : ¬ 12 < o + 1 := by omega
            rw [r_lpb rc_CompileJumps_b1.eq_1]
            simp only [sim, List.length_cons, List.length_nil, Nat.reduceAdd, Nat.reduceSub, List.replicate, List.cons_append, List.nil_append, List.map_cons, List.map_nil, Option.bind_some, Option.map_some, Option.bind_none, Option.map_none, if_true, if_false, decide_true, decide_false, Bool.false_eq_true, Bool.true_eq_false, Bool.not_true, Bool.not_false, reduceCtorEq, Bool.and_true, Bool.true_and, Bool.and_false, Bool.false_and, Bool.or_true, Bool.true_or, Bool.or_false, Bool.false_or, true_and, and_true, false_and, and_false, List.take_zero, List.take_succ_cons, List.drop_zero, List.drop_succ_cons, List.take_nil, List.drop_nil, List.set_cons_zero, List.set_cons_succ, Nat.reduceLeDiff, Nat.reduceLT, Nat.zero_add, Nat.lt_add_one, Nat.le_refl, clearA, Int.toNat_natCast, j1, lr, mv.fits, hlt2, t1, j2, j3, push_lt j2, t2, c101, eq_self, Int.reduceEq, n1, n2, hw2, hw3, hD, hwo, beq_self_eq_true]
            exact next _ _ ⟨_, _, _, _, _, _, _, _, _, _, _, _, _, rfl, g4 _, fin _ _ eo.symm (by rw [if_neg c100])⟩
          by_cases c102 : z.op = 102
          · have eo : opnI z o = o - 1 := by simp [opnI, c102]
            rw [eo] at s3 s4
            have n1 : ¬ o - 1 < 0 := by omega
            have n2 : ¬ 12 < o - 1 := by omega
            rw [r_lpb rc_CompileJumps_b1.eq_1]
            simp only [sim, List.length_cons, List.length_nil, Nat.reduceAdd, Nat.reduceSub, List.replicate, List.cons_append, List.nil_append, List.map_cons, List.map_nil, Option.bind_some, Option.map_some, Option.bind_none, Option.map_none, if_true, if_false, decide_true, decide_false, Bool.false_eq_true, Bool.true_eq_false, Bool.not_true, Bool.not_false, reduceCtorEq, Bool.and_true, Bool.true_and, Bool.and_false, Bool.false_and, Bool.or_true, Bool.true_or, Bool.or_false, Bool.false_or, true_and, and_true, false_and, and_false, List.take_zero, List.take_succ_cons, List.drop_zero, List.drop_succ_cons, List.take_nil, List.drop_nil, List.set_cons_zero, List.set_cons_succ, Nat.reduceLeDiff, Nat.reduceLT, Nat.zero_add, Nat.lt_add_one, Nat.le_refl, clearA, Int.toNat_natCast, j1, lr, mv.fits, hlt2, t1, j2, j3, push_lt j2, t2, c102, eq_self, Int.reduceEq, n1, n2, hw2, hw3, hD, hwp, beq_self_eq_true]
            exact next _ _ ⟨_, _, _, _, _, _, _, _, _, _, _, _, _, rfl, g4 _, fin _ _ eo.symm (by rw [if_neg c100])⟩
          have eo : opnI z o = o := by simp [opnI, c101, c102]
          have n1 : ¬ o < 0 := by omega
          have n2 : ¬ 12 < o := by omega
          by_cases c103 : z.op = 103
          · obtain ⟨u1, u2⟩ := s1 (.inl c103)
            have u1' : ¬ z.k ≤ (j : Int) := by omega
            have u2' : ¬ ((fullC y).length : Int) ≤ z.k := by omega
            rw [r_lpb rc_CompileJumps_b1.eq_1]
            simp only [sim, List.length_cons, List.length_nil, Nat.reduceAdd, Nat.reduceSub, List.replicate, List.cons_append, List.nil_append, List.map_cons, List.map_nil, Option.bind_some, Option.map_some, Option.bind_none, Option.map_none, if_true, if_false, decide_true, decide_false, Bool.false_eq_true, Bool.true_eq_false, Bool.not_true, Bool.not_false, reduceCtorEq, Bool.and_true, Bool.true_and, Bool.and_false, Bool.false_and, Bool.or_true, Bool.true_or, Bool.or_false, Bool.false_or, true_and, and_true, false_and, and_false, List.take_zero, List.take_succ_cons, List.drop_zero, List.drop_succ_cons, List.take_nil, List.drop_nil, List.set_cons_zero, List.set_cons_succ, Nat.reduceLeDiff, Nat.reduceLT, Nat.zero_add, Nat.lt_add_one, Nat.le_refl, clearA, Int.toNat_natCast, j1, lr, mv.fits, hlt2, t1, j2, j3, push_lt j2, t2, c103, eq_self, Int.reduceEq, n1, n2, hw2, hw3, hD, u1', u2', beq_self_eq_true]
            exact next _ _ ⟨_, _, _, _, _, _, _, _, _, _, _, _, _, rfl, g4 _, fin _ _ eo.symm (by rw [if_neg c100])⟩
          by_cases c104 : z.op = 104
          · obtain ⟨u1, u2⟩ := s1 (.inr c104)
            have u1' : ¬ z.k ≤ (j : Int) := by omega
            have u2' : ¬ ((fullC y).length : Int) ≤ z.k := by omega
            rw [r_lpb rc_CompileJumps_b1.eq_1]
            simp only [sim, List.length_cons, List.length_nil, Nat.reduceAdd, Nat.reduceSub, List.replicate, List.cons_append, List.nil_append, List.map_cons, List.map_nil, Option.bind_some, Option.map_some, Option.bind_none, Option.map_none, if_true, if_false, decide_true, decide_false, Bool.false_eq_true, Bool.true_eq_false, Bool.not_true, Bool.not_false, reduceCtorEq, Bool.and_true, Bool.true_and, Bool.and_false, Bool.false_and, Bool.or_true, Bool.true_or, Bool.or_false, Bool.false_or, true_and, and_true, false_and, and_false, List.take_zero, List.take_succ_cons, List.drop_zero, List.drop_succ_cons, List.take_nil, List.drop_nil, List.set_cons_zero, List.set_cons_succ, Nat.reduceLeDiff, Nat.reduceLT, Nat.zero_add, Nat.lt_add_one, Nat.le_refl, clearA, Int.toNat_natCast, j1, lr, mv.fits, hlt2, t1, j2, j3, push_lt j2, t2, c104, eq_self, Int.reduceEq, n1, n2, hw2, hw3, hD, u1', u2', beq_self_eq_true]
            exact next _ _ ⟨_, _, _, _, _, _, _, _, _, _, _, _, _, rfl, g4 _, fin _ _ eo.symm (by rw [if_neg c100])⟩
          by_cases c4 : z.op = 4
          · have u1 := s2 c4
            have u1' : ¬ o ≤ z.k := by omega
            rw [r_lpb rc_CompileJumps_b1.eq_1]
            simp only [sim, List.length_cons, List.length_nil, Nat.reduceAdd, Nat.reduceSub, List.replicate, List.cons_append, List.nil_append, List.map_cons, List.map_nil, Option.bind_some, Option.map_some, Option.bind_none, Option.map_none, if_true, if_false, decide_true, decide_false, Bool.false_eq_true, Bool.true_eq_false, Bool.not_true, Bool.not_false, reduceCtorEq, Bool.and_true, Bool.true_and, Bool.and_false, Bool.false_and, Bool.or_true, Bool.true_or, Bool.or_false, Bool.false_or, true_and, and_true, false_and, and_false, List.take_zero, List.take_succ_cons, List.drop_zero, List.drop_succ_cons, List.take_nil, List.drop_nil, List.set_cons_zero, List.set_cons_succ, Nat.reduceLeDiff, Nat.reduceLT, Nat.zero_add, Nat.lt_add_one, Nat.le_refl, clearA, Int.toNat_natCast, j1, lr, mv.fits, hlt2, t1, j2, j3, push_lt j2, t2, c4, eq_self, Int.reduceEq, n1, n2, hw2, hw3, hD, u1', beq_self_eq_true]
            exact next _ _ ⟨_, _, _, _, _, _, _, _, _, _, _, _, _, rfl, g4 _, fin _ _ eo.symm (by rw [if_neg c100])⟩
          · rw [r_lpb rc_CompileJumps_b1.eq_1]
            simp only [sim, List.length_cons, List.length_nil, Nat.reduceAdd, Nat.reduceSub, List.replicate, List.cons_append, List.nil_append, List.map_cons, List.map_nil, Option.bind_some, Option.map_some, Option.bind_none, Option.map_none, if_true, if_false, decide_true, decide_false, Bool.false_eq_true, Bool.true_eq_false, Bool.not_true, Bool.not_false, reduceCtorEq, Bool.and_true, Bool.true_and, Bool.and_false, Bool.false_and, Bool.or_true, Bool.true_or, Bool.or_false, Bool.false_or, true_and, and_true, false_and, and_false, List.take_zero, List.take_succ_cons, List.drop_zero, List.drop_succ_cons, List.take_nil, List.drop_nil, List.set_cons_zero, List.set_cons_succ, Nat.reduceLeDiff, Nat.reduceLT, Nat.zero_add, Nat.lt_add_one, Nat.le_refl, clearA, Int.toNat_natCast, j1, lr, mv.fits, hlt2, t1, j2, j3, push_lt j2, t2, c100, c101, c102, c103, c104, c4, n1, n2, hw2, hw3, hD, beq_self_eq_true]
            exact next _ _ ⟨_, _, _, _, _, _, _, _, _, _, _, _, _, rfl, g4 _, fin _ _ eo.symm (by rw [if_neg c100])⟩
        · rintro V h3 ⟨o, t, v9, v14, v15, v16, v17, v18, v19, v20, v21, v22, v23, rfl, g3, ho, ho2, ht, ht2, hlk⟩
          rw [List.drop_length] at hlk
          simp only [lookI, Option.some.injEq, Prod.mk.injEq] at hlk
          obtain ⟨rfl, rfl⟩ := hlk
          obtain ⟨p, j1, j2, j3, j4⟩ := (mv2.grew g3).row hy
          obtain ⟨a, q, i1, i2, i3⟩ := (m h3).ix i y hy
          have i2' := i2 _ (GrewA.refl h3)
          have cc := CountOf_run _ y (Nat.le_refl _) q h3 600 i3 (by omega) (by omega)
          have hmin : min (y.size : Int) (600 + 1) = (y.size : Int) := by omega
          rw [hmin] at cc
          have d3 := d1.on g3
          have hlt2 : ¬ ((fullC y).length : Int) < ((fullC y).length : Int) := by omega
          rw [r_lpb rc_CompileJumps_b1.eq_1]
          simp only [sim, List.length_cons, List.length_nil, Nat.reduceAdd, Nat.reduceSub, List.replicate, List.cons_append, List.nil_append, List.map_cons, List.map_nil, Option.bind_some, Option.map_some, Option.bind_none, Option.map_none, if_true, if_false, decide_true, decide_false, Bool.false_eq_true, Bool.true_eq_false, Bool.not_true, Bool.not_false, reduceCtorEq, Bool.and_true, Bool.true_and, Bool.and_false, Bool.false_and, Bool.or_true, Bool.true_or, Bool.or_false, Bool.false_or, true_and, and_true, false_and, and_false, List.take_zero, List.take_succ_cons, List.drop_zero, List.drop_succ_cons, List.take_nil, List.drop_nil, List.set_cons_zero, List.set_cons_succ, Nat.reduceLeDiff, Nat.reduceLT, Nat.zero_add, Nat.lt_add_one, Nat.le_refl, clearA, Int.toNat_natCast, j1, lr, mv.fits, hlt2, d3.2, i1, i2', cc, eq_self, hw]
          exact next _ _ ⟨_, _, _, _, _, _, _, _, _, _, _, _, _, _, _, _, rfl, g2.trans g3, mv2.grew g3, d3⟩
      · rintro V h2 ⟨v6, v7, v8, v9, v13, v14, v15, v16, v17, v18, v19, v20, v21, v22, v23, v24, rfl, g2, mv2, d1⟩
        have hlt : ¬ ((L.length : Int) < (L.length : Int)) := by omega
        rw [r_lpb rc_CompileJumps_b2.eq_1]
        simp only [sim, List.length_cons, List.length_nil, Nat.reduceAdd, Nat.reduceSub, List.replicate, List.cons_append, List.nil_append, List.map_cons, List.map_nil, Option.bind_some, Option.map_some, Option.bind_none, Option.map_none, if_true, if_false, decide_true, decide_false, Bool.false_eq_true, Bool.true_eq_false, Bool.not_true, Bool.not_false, reduceCtorEq, Bool.and_true, Bool.true_and, Bool.and_false, Bool.false_and, Bool.or_true, Bool.true_or, Bool.or_false, Bool.false_or, true_and, and_true, false_and, and_false, List.take_zero, List.take_succ_cons, List.drop_zero, List.drop_succ_cons, List.take_nil, List.drop_nil, List.set_cons_zero, List.set_cons_succ, Nat.reduceLeDiff, Nat.reduceLT, Nat.zero_add, Nat.lt_add_one, Nat.le_refl, clearA, Int.toNat_natCast, lr, mv.fits, hlt]
        exact hQ _ _ _ rfl g2 rfl
    · rw [if_neg h0] at mv
      subst mv
      refine runF_E fn_CompileJumps rfl fun Q hQ => ?_; unfold rc_CompileJumps
      simp only [sim, List.length_cons, List.length_nil, Nat.reduceAdd, Nat.reduceSub, List.replicate, List.cons_append, List.nil_append, List.map_cons, List.map_nil, Option.bind_some, Option.map_some, Option.bind_none, Option.map_none, if_true, if_false, decide_true, decide_false, Bool.false_eq_true, Bool.true_eq_false, Bool.not_true, Bool.not_false, reduceCtorEq, Bool.and_true, Bool.true_and, Bool.and_false, Bool.false_and, Bool.or_true, Bool.true_or, Bool.or_false, Bool.false_or, true_and, and_true, false_and, and_false, List.take_zero, List.take_succ_cons, List.drop_zero, List.drop_succ_cons, List.take_nil, List.drop_nil, List.set_cons_zero, List.set_cons_succ, Nat.reduceLeDiff, Nat.reduceLT, Nat.zero_add, Nat.lt_add_one, Nat.le_refl, clearA, Int.toNat_natCast, compileBegun_run, o1, q1, hg, e, h0]
      exact hQ _ _ _ rfl (gg.trans (by repeat (first | exact GrewA.refl _ | refine GrewA.trans ?_ (GrewA.push _ _) | refine GrewA.trans ?_ (GrewA.fresh _ _)))) rfl
  · refine runF_E fn_CompileJumps rfl fun Q hQ => ?_; unfold rc_CompileJumps
    simp only [sim, List.length_cons, List.length_nil, Nat.reduceAdd, Nat.reduceSub, List.replicate, List.cons_append, List.nil_append, List.map_cons, List.map_nil, Option.bind_some, Option.map_some, Option.bind_none, Option.map_none, if_true, if_false, decide_true, decide_false, Bool.false_eq_true, Bool.true_eq_false, Bool.not_true, Bool.not_false, reduceCtorEq, Bool.and_true, Bool.true_and, Bool.and_false, Bool.false_and, Bool.or_true, Bool.true_or, Bool.or_false, Bool.false_or, true_and, and_true, false_and, and_false, List.take_zero, List.take_succ_cons, List.drop_zero, List.drop_succ_cons, List.take_nil, List.drop_nil, List.set_cons_zero, List.set_cons_succ, Nat.reduceLeDiff, Nat.reduceLT, Nat.zero_add, Nat.lt_add_one, Nat.le_refl, clearA, Int.toNat_natCast, compileBegun_run, o1, q1, hg]
    exact hQ _ _ _ rfl (by repeat (first | exact GrewA.refl _ | refine GrewA.trans ?_ (GrewA.push _ _) | refine GrewA.trans ?_ (GrewA.fresh _ _))) rfl
end

theorem mod_arg {n : Nat} {r : List AV} (t : TyA Try.prog n 24 r) : ∃ v L, r = [v] ∧ ∀ h, ModV h v L := by
  obtain ⟨L, v, es, rfl, hv, hl⟩ := mod_of t
  exact ⟨v, L, rfl, fun h => ModV.of hv hl⟩
/-- the types of a module -/
def modS : List TypeId := [3, 2, 38, 22, 24]
theorem modS_ok : closedT Try.prog modS = true := by kernel_rfl
theorem compileMakes_walk {n0 : Nat} {r0 : List AV} {x0 : Value} (W : World) (t0 : TyA Try.prog n0 24 r0) (u0 : VR Try.prog (m0A W) h0A (.agg r0) x0) :
    Law Try.prog 3 #[x0] W := by
  obtain ⟨v, L, rfl, m⟩ := mod_arg t0
  exact law_of (CompileMakes_run v L m) (VRs.cons u0 VRs.nil)
theorem compileJumps_walk {n0 : Nat} {r0 : List AV} {x0 : Value} (W : World) (t0 : TyA Try.prog n0 24 r0) (u0 : VR Try.prog (m0A W) h0A (.agg r0) x0) :
    Law Try.prog 4 #[x0] W := by
  obtain ⟨v, L, rfl, m⟩ := mod_arg t0
  exact law_of (CompileJumps_run v L m) (VRs.cons u0 VRs.nil)
end Go.Proofs.Ytioladnogpfeeaa
