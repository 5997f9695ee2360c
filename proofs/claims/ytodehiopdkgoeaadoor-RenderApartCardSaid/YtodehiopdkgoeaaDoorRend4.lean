/- render in the plain model: Print; what the laws begin with. -/
import Derived.Test.YtodehiopdkgoeaaDoorRend3
namespace Go.Proofs.YtodehiopdkgoeaaDoor
set_option linter.unusedSimpArgs false
set_option linter.unusedVariables false
open Go

abbrev tWr : TypeId := 72
section
variable {h : AH}
set_option maxHeartbeats 2000000 in
theorem Print_run (v : AV) (L : List XD) (m : ∀ h, ModV h v L) (hL : L.length ≤ 20) (hs : ∀ x ∈ L, x.size ≤ 600) (hw : ∀ x ∈ L, x.wf) :
    runF Tryd.prog po 28 [.agg [v]] h = some (.inl (.tup [.str (printX L).1, fltA (printX L).2]), h) := by
  have o1 := (m h).one
  have l1 := (m h).len
  have f1 := (m h).fits
  have cf := fun h => Check_run (h := h) v L (m h) (by omega) (fun x hx => by have := hs x hx; omega)
  have g3 : GrewA h (((h.push [[v]]).push [[.int .i64 0, .int .i64 0]]).push [[.int .i64 0, .int .i64 0]]) := (GrewA.push _ _).trans ((GrewA.push _ _).trans (GrewA.push _ _))
  have k3 : (((h.push [[v]]).push [[.int .i64 0, .int .i64 0]]).push [[.int .i64 0, .int .i64 0]]).cell (h.n + 1) = some [[.int .i64 0, .int .i64 0]] := push3_1
  have n3 : (((h.push [[v]]).push [[.int .i64 0, .int .i64 0]]).push [[.int .i64 0, .int .i64 0]]).n = h.n + 1 + 1 + 1 := rfl
  have k4v : ∀ d, ((((h.push [[v]]).push [[.int .i64 0, .int .i64 0]]).push [[.int .i64 0, .int .i64 0]]).push d).cell h.n = some [[v]] := fun d => (push_lt (by rw [n3]; omega)).trans push3_0
  by_cases hc : (checkX L).1 = 0
  · have h2 := check_two hc
    obtain ⟨a1, a2, a3⟩ := check_ok hc
    rw [h2] at cf
    have hml := modText_len (l := L) fun x hx => ⟨hw x hx, (a3 x hx).2.1⟩
    have tl : ∀ i, (modText (L.take i)).length ≤ (modText L).length := by
      intro i
      have := modText_append (L.take i) (L.drop i)
      rw [List.take_append_drop] at this
      rw [this, List.length_append]
      omega
    refine runF_E fn_Print rfl fun Q hQ => ?_; unfold rc_Print
    simp only [sim, List.length_cons, List.length_nil, Nat.reduceAdd, Nat.reduceSub, List.replicate, List.cons_append, List.nil_append, List.map_cons, List.map_nil, Option.bind_some, Option.map_some, Option.bind_none, Option.map_none, if_true, if_false, decide_true, decide_false, Bool.false_eq_true, Bool.true_eq_false, Bool.not_true, Bool.not_false, reduceCtorEq, Bool.and_true, Bool.true_and, Bool.and_false, Bool.false_and, Bool.or_true, Bool.true_or, Bool.or_false, Bool.false_or, true_and, and_true, false_and, and_false, List.take_zero, List.take_succ_cons, List.drop_zero, List.drop_succ_cons, List.take_nil, List.drop_nil, List.set_cons_zero, List.set_cons_succ, Nat.reduceLeDiff, Nat.reduceLT, Nat.zero_add, Nat.lt_add_one, Nat.le_refl, clearA, Int.toNat_natCast, o1, l1, f1, cf, Int.reduceEq, k4v]
    generalize (((h.push [[v]]).push [[AV.int .i64 0, .int .i64 0]]).push [[.int .i64 0, .int .i64 0]]) = h3 at *
    have B0 : Buf (h3.push [[.nilp, .nils]]) tWr (h.n + 1 + 1 + 1) none [] [] := ⟨by decide, by rw [push_n, n3]; omega, .nilp, .nils, by rw [← n3]; exact push_same, .inl rfl, .inl ⟨rfl, rfl, rfl⟩⟩
    have g4 : GrewA h (h3.push [[.nilp, .nils]]) := g3.trans (GrewA.push _ _)
    have k4 : (h3.push [[.nilp, .nils]]).cell (h.n + 1) = some [[.int .i64 0, .int .i64 0]] := (push_lt (by rw [n3]; omega)).trans k3
    have n4 : (h3.push [[.nilp, .nils]]).n = h.n + 1 + 1 + 1 + 1 := by rw [push_n, n3]
    generalize h3.push [[.nilp, .nils]] = h4 at *
    refine loop_Q (fun i V h' => ∃ w6 w11 bb, V = [.agg [v], .ptr h.n 0 0, .str [], .ptr (h.n + 1) 0 0, .ptr (h.n + 1 + 1) 0 0, .tptr tWr (h.n + 1 + 1 + 1), w6, .bool false, v, .int .i64 L.length, .int .i64 (i : Nat), w11, .junk] ∧
      Buf h' tWr (h.n + 1 + 1 + 1) bb [] (modText (L.take i)) ∧ Wr h4 none h' bb (h.n + 1 + 1 + 1)) L.length ⟨_, _, none, rfl, B0, Wr.refl _ _ _⟩ ?_ ?_
    · rintro i V h' hi ⟨w6, w11, bb, rfl, B, W⟩ next
      have hlt : (i : Int) < (L.length : Int) := by omega
      obtain ⟨y, hy⟩ := get_at hi
      obtain ⟨a, q, i1, i2, x1⟩ := (m h').ix i y hy
      have i2' := i2 _ (GrewA.refl _)
      obtain ⟨p1, p2⟩ := x1.one
      have hwi := w64 (n := (i : Int) + 1) (by omega) (by omega)
      have ym := mem_at hy
      have yl := xtext_len _ y (Nat.le_refl _) (hw y ym)
      have ys := hs y ym
      have t1 := tl i
      have B1 := B.grew (GrewA.push h' [q])
      have W1 : Wr h' bb (h'.push [q]) bb (h.n + 1 + 1 + 1) := Wr.grew (GrewA.push _ _) B.bb_lt
      have hbn : h.n + 1 + 1 + 1 ≠ h'.n := by have := B.lt; omega
      have nb : bb ≠ some h'.n := fun e => by have := B.bb_lt _ e; omega
      obtain ⟨h5, bb5, e5, B5, W5⟩ := bWrite_run B1 (s := [102, 117, 110, 32]) (by omega) (by simp)
      have c5 : h5.cell h'.n = some [q] := (W5.cell _ (by simp only [push_n]; omega) (fun e => hbn e.symm) nb).trans push_same
      obtain ⟨h6, bb6, e6, B6, W6⟩ := wexpr_run _ y (Nat.le_refl _) (hw y ym) q h5 bb5 _ x1 B5 (by simp; omega)
      obtain ⟨h7, bb7, e7, B7, W7⟩ := bWrite_run B6 (s := [10]) (by simp; omega) (by simp)
      rw [r_lpb rc_Print_b1.eq_1]
      simp only [sim, List.length_cons, List.length_nil, Nat.reduceAdd, Nat.reduceSub, List.replicate, List.cons_append, List.nil_append, List.map_cons, List.map_nil, Option.bind_some, Option.map_some, Option.bind_none, Option.map_none, if_true, if_false, decide_true, decide_false, Bool.false_eq_true, Bool.true_eq_false, Bool.not_true, Bool.not_false, reduceCtorEq, Bool.and_true, Bool.true_and, Bool.and_false, Bool.false_and, Bool.or_true, Bool.true_or, Bool.or_false, Bool.false_or, true_and, and_true, false_and, and_false, List.take_zero, List.take_succ_cons, List.drop_zero, List.drop_succ_cons, List.take_nil, List.drop_nil, List.set_cons_zero, List.set_cons_succ, Nat.reduceLeDiff, Nat.reduceLT, Nat.zero_add, Nat.lt_add_one, Nat.le_refl, clearA, Int.toNat_natCast, hlt, i1, i2', p1, p2, ld_all p2, e5, c5, e6, e7, hwi]
      refine next _ _ ⟨_, _, bb7, rfl, ?_, (((W.trans W1).trans W5).trans W6).trans W7⟩
      rw [modText_take hy]
      simpa using B7
    · rintro V h' ⟨w6, w11, bb, rfl, B, W⟩
      have hlt : ¬ ((L.length : Int) < (L.length : Int)) := by omega
      rw [List.take_length] at B
      have el := bLen_run B
      obtain ⟨gz, bz⟩ := W.to g4 (by omega) (fun q hq => by cases hq)
      have nb1 : bb ≠ some (h.n + 1) := W.buf _ (by rw [n4]; omega) (by simp)
      have kz : h'.cell (h.n + 1) = some [[.int .i64 0, .int .i64 0]] := (W.cell _ (by rw [n4]; omega) (by omega) (by simp)).trans k4
      by_cases h6 : 6000 < (modText L).length
      · have e : printX L = ([], (3, -1)) := by rw [printX, if_neg (by simp [hc]), if_pos h6]
        rw [e] at hQ
        have h6' : (6000 : Int) < ((modText L).length : Int) := by omega
        rw [r_lpb rc_Print_b1.eq_1]
        simp only [sim, List.length_cons, List.length_nil, Nat.reduceAdd, Nat.reduceSub, List.replicate, List.cons_append, List.nil_append, List.map_cons, List.map_nil, Option.bind_some, Option.map_some, Option.bind_none, Option.map_none, if_true, if_false, decide_true, decide_false, Bool.false_eq_true, Bool.true_eq_false, Bool.not_true, Bool.not_false, reduceCtorEq, Bool.and_true, Bool.true_and, Bool.and_false, Bool.false_and, Bool.or_true, Bool.true_or, Bool.or_false, Bool.false_or, true_and, and_true, false_and, and_false, List.take_zero, List.take_succ_cons, List.drop_zero, List.drop_succ_cons, List.take_nil, List.drop_nil, List.set_cons_zero, List.set_cons_succ, Nat.reduceLeDiff, Nat.reduceLT, Nat.zero_add, Nat.lt_add_one, Nat.le_refl, clearA, Int.toNat_natCast, hlt, el, h6', kz]
        exact hQ _ _ (.tup [.str [], fltA (3, -1)]) (by simp only [sim, List.length_cons, List.length_nil, Nat.reduceAdd, Nat.reduceSub, List.replicate, List.cons_append, List.nil_append, List.map_cons, List.map_nil, Option.bind_some, Option.map_some, Option.bind_none, Option.map_none, if_true, if_false, decide_true, decide_false, Bool.false_eq_true, Bool.true_eq_false, Bool.not_true, Bool.not_false, reduceCtorEq, Bool.and_true, Bool.true_and, Bool.and_false, Bool.false_and, Bool.or_true, Bool.true_or, Bool.or_false, Bool.false_or, true_and, and_true, false_and, and_false, List.take_zero, List.take_succ_cons, List.drop_zero, List.drop_succ_cons, List.take_nil, List.drop_nil, List.set_cons_zero, List.set_cons_succ, Nat.reduceLeDiff, Nat.reduceLT, Nat.zero_add, Nat.lt_add_one, Nat.le_refl, clearA, Int.toNat_natCast]) (gz.set (by omega)) rfl
      · have e : printX L = (modText L, (0, 0)) := by rw [printX, if_neg (by simp [hc]), if_neg h6]
        rw [e] at hQ
        have h6' : ¬ (6000 : Int) < ((modText L).length : Int) := by omega
        obtain ⟨h8, e8, k8, n8, i8, w8⟩ := bStr_run B
        have kz8 : h8.cell (h.n + 1) = some [[.int .i64 0, .int .i64 0]] := (k8 _ nb1).trans kz
        have g8 : GrewA h h8 := ⟨by rw [n8]; exact gz.n, by rw [i8]; exact gz.ids, fun q hq => by rw [k8 q (fun e => by have := bz q e; omega)]; exact gz.cell q hq, fun k hk => by rw [w8]; exact gz.hw k hk⟩
        rw [r_lpb rc_Print_b1.eq_1]
        simp only [sim, List.length_cons, List.length_nil, Nat.reduceAdd, Nat.reduceSub, List.replicate, List.cons_append, List.nil_append, List.map_cons, List.map_nil, Option.bind_some, Option.map_some, Option.bind_none, Option.map_none, if_true, if_false, decide_true, decide_false, Bool.false_eq_true, Bool.true_eq_false, Bool.not_true, Bool.not_false, reduceCtorEq, Bool.and_true, Bool.true_and, Bool.and_false, Bool.false_and, Bool.or_true, Bool.true_or, Bool.or_false, Bool.false_or, true_and, and_true, false_and, and_false, List.take_zero, List.take_succ_cons, List.drop_zero, List.drop_succ_cons, List.take_nil, List.drop_nil, List.set_cons_zero, List.set_cons_succ, Nat.reduceLeDiff, Nat.reduceLT, Nat.zero_add, Nat.lt_add_one, Nat.le_refl, clearA, Int.toNat_natCast, hlt, el, h6', e8, kz8]
        exact hQ _ _ (.tup [.str (modText L), fltA (0, 0)]) (by simp only [sim, List.length_cons, List.length_nil, Nat.reduceAdd, Nat.reduceSub, List.replicate, List.cons_append, List.nil_append, List.map_cons, List.map_nil, Option.bind_some, Option.map_some, Option.bind_none, Option.map_none, if_true, if_false, decide_true, decide_false, Bool.false_eq_true, Bool.true_eq_false, Bool.not_true, Bool.not_false, reduceCtorEq, Bool.and_true, Bool.true_and, Bool.and_false, Bool.false_and, Bool.or_true, Bool.true_or, Bool.or_false, Bool.false_or, true_and, and_true, false_and, and_false, List.take_zero, List.take_succ_cons, List.drop_zero, List.drop_succ_cons, List.take_nil, List.drop_nil, List.set_cons_zero, List.set_cons_succ, Nat.reduceLeDiff, Nat.reduceLT, Nat.zero_add, Nat.lt_add_one, Nat.le_refl, clearA, Int.toNat_natCast]) (g8.set (by omega)) rfl
  · have e : printX L = ([], checkX L) := by rw [printX, if_pos hc]
    rw [e]
    refine runF_E fn_Print rfl fun Q hQ => ?_; unfold rc_Print
    simp only [sim, List.length_cons, List.length_nil, Nat.reduceAdd, Nat.reduceSub, List.replicate, List.cons_append, List.nil_append, List.map_cons, List.map_nil, Option.bind_some, Option.map_some, Option.bind_none, Option.map_none, if_true, if_false, decide_true, decide_false, Bool.false_eq_true, Bool.true_eq_false, Bool.not_true, Bool.not_false, reduceCtorEq, Bool.and_true, Bool.true_and, Bool.and_false, Bool.false_and, Bool.or_true, Bool.true_or, Bool.or_false, Bool.false_or, true_and, and_true, false_and, and_false, List.take_zero, List.take_succ_cons, List.drop_zero, List.drop_succ_cons, List.take_nil, List.drop_nil, List.set_cons_zero, List.set_cons_succ, Nat.reduceLeDiff, Nat.reduceLT, Nat.zero_add, Nat.lt_add_one, Nat.le_refl, clearA, Int.toNat_natCast, o1, cf, hc]
    exact hQ _ _ (.tup [.str [], fltA (checkX L)]) (by simp only [sim, List.length_cons, List.length_nil, Nat.reduceAdd, Nat.reduceSub, List.replicate, List.cons_append, List.nil_append, List.map_cons, List.map_nil, Option.bind_some, Option.map_some, Option.bind_none, Option.map_none, if_true, if_false, decide_true, decide_false, Bool.false_eq_true, Bool.true_eq_false, Bool.not_true, Bool.not_false, reduceCtorEq, Bool.and_true, Bool.true_and, Bool.and_false, Bool.false_and, Bool.or_true, Bool.true_or, Bool.or_false, Bool.false_or, true_and, and_true, false_and, and_false, List.take_zero, List.take_succ_cons, List.drop_zero, List.drop_succ_cons, List.take_nil, List.drop_nil, List.set_cons_zero, List.set_cons_succ, Nat.reduceLeDiff, Nat.reduceLT, Nat.zero_add, Nat.lt_add_one, Nat.le_refl, clearA, Int.toNat_natCast]) (((GrewA.push _ _).trans ((GrewA.push _ _).trans (GrewA.push _ _))).set (by omega)) rfl

def begR : List XD := [.mk 15 3 0 [.mk 3 0 0 []]]
theorem begR_text : modText begR = [102, 117, 110, 32, 40, 110, 97, 114, 114, 111, 119, 32, 51, 32, 40, 97, 114, 103, 41, 41, 10] := by
  simp [begR, modText, XD.text, textsX, argX, wordX, wordsL, Lib.itoa, Lib.decDigits]
theorem begR_ok : checkX begR = (0, 0) := by decide +kernel
theorem begR_print : printX begR = (modText begR, (0, 0)) := by
  have h1 : ¬ (checkX begR).1 ≠ 0 := by rw [begR_ok]; decide
  have h2 : ¬ 6000 < (modText begR).length := by rw [begR_text]; decide
  rw [printX, if_neg h1, if_neg h2]
theorem begR_mod (i j : Option Nat) : ModV h (.isl i tE [[.int .i64 15, .int .i64 3, .int .i64 0, .isl j tE [[.int .i64 3, .int .i64 0, .int .i64 0, .nils]]]]) begR := by
  refine ModV.of (.inr ⟨_, rfl⟩) ?_
  simp only [begR, ExL, ExA]
  exact ⟨_, _, rfl, ⟨_, _, rfl, .inr ⟨_, rfl⟩, _, _, rfl, ⟨_, _, rfl, .inl ⟨rfl, rfl⟩, rfl⟩, rfl⟩, rfl⟩
theorem begR_wf : ∀ x ∈ begR, x.wf := by
  intro x hx
  rw [List.mem_singleton.1 hx]
  simp [XD.wf, wfXs, isI64]
theorem begR_size : ∀ x ∈ begR, x.size ≤ 600 := by
  intro x hx
  rw [List.mem_singleton.1 hx]
  decide +kernel
theorem renderBegun_run : runF Tryd.prog po 25 [] h = some (.inl (.bool true), h) := by
  have c1 : ∀ (h : AH) (i j : Nat), runF Tryd.prog po 28 [.agg [.isl (some i) tE [[.int .i64 15, .int .i64 3, .int .i64 0, .isl (some j) tE [[.int .i64 3, .int .i64 0, .int .i64 0, .nils]]]]]] h =
      some (.inl (.tup [.str [102, 117, 110, 32, 40, 110, 97, 114, 114, 111, 119, 32, 51, 32, 40, 97, 114, 103, 41, 41, 10], .agg [.int .i64 0, .int .i64 0]]), h) := fun h i j => by
    have := Print_run (h := h) _ begR (fun h => begR_mod (h := h) (some i) (some j)) (by decide) begR_size begR_wf
    rw [begR_print, begR_text] at this
    exact this
  refine runF_R fn_renderBegun rfl ?_; unfold rc_renderBegun
  simp only [sim, List.length_cons, List.length_nil, Nat.reduceAdd, Nat.reduceSub, List.replicate, List.cons_append, List.nil_append, List.map_cons, List.map_nil, Option.bind_some, Option.map_some, Option.bind_none, Option.map_none, if_true, if_false, decide_true, decide_false, Bool.false_eq_true, Bool.true_eq_false, Bool.not_true, Bool.not_false, reduceCtorEq, Bool.and_true, Bool.true_and, Bool.and_false, Bool.false_and, Bool.or_true, Bool.true_or, Bool.or_false, Bool.false_or, true_and, and_true, false_and, and_false, List.take_zero, List.take_succ_cons, List.drop_zero, List.drop_succ_cons, List.take_nil, List.drop_nil, List.set_cons_zero, List.set_cons_succ, Nat.reduceLeDiff, Nat.reduceLT, Nat.zero_add, Nat.lt_add_one, Nat.le_refl, clearA, Int.toNat_natCast, turns, c1, eq_self, Int.reduceEq]
  exact fg_yes (by repeat (first | exact GrewA.refl _ | refine GrewA.trans ?_ (GrewA.push _ _) | refine GrewA.trans ?_ (GrewA.fresh _ _))) rfl

set_option maxHeartbeats 1000000 in
theorem RenderPrints_run (v : AV) (L : List XD) (m : ∀ h, ModV h v L) (hw : ∀ x ∈ L, x.wf) : runF Tryd.prog po 6 [.agg [v]] h = some (.inl (.bool true), h) := by
  have o1 := (m h).one
  have vb := fun h => renderBegun_run (h := h)
  have q1 := fun h => Great_run (h := h) v L (m h)
  have gg : GrewA h (h.push [[v]]) := (by repeat (first | exact GrewA.refl _ | refine GrewA.trans ?_ (GrewA.push _ _) | refine GrewA.trans ?_ (GrewA.fresh _ _)))
  cases g1 : greatX L
  · obtain ⟨hl, hs⟩ := great_no g1
    obtain ⟨r', ro, ⟨v3, es3, e3, hv3, hl3⟩⟩ := OwnModule_run (h := h.push [[v]]) v L m (by omega) (fun x hx => by have := hs x hx; omega)
    subst e3
    have m3 : ∀ h, ModV h v3 L := fun h => ModV.of hv3 hl3
    have o3 := (m3 h).one
    have e4 := fun h => Print_run (h := h) v3 L m3 hl hs hw
    have e5 := fun h => Printed_run (h := h) v L m hl hs hw
    have e6 := fun h => SameModule_run (h := h) v3 v L L m3 m (by omega) (fun x hx => by have := hs x hx; omega)
    rw [sameXs_refl] at e6
    have hb : ∀ a b c d : AH, True := fun _ _ _ _ => trivial
    have k1 : ∀ x y, ((((h.push [[v]]).push [[v3]]).push x).push y).cell h.n = some [[v]] := fun x y => (push_lt (by simp only [push_n]; omega)).trans ((push_lt (by simp only [push_n]; omega)).trans push2_old)
    have k2 : ∀ x y, ((((h.push [[v]]).push [[v3]]).push x).push y).cell (h.n + 1) = some [[v3]] := fun x y => (push_lt (by simp only [push_n]; omega)).trans ((push_lt (by simp only [push_n]; omega)).trans push2_same)
    have k3 : ∀ x y, ((((h.push [[v]]).push [[v3]]).push x).push y).cell (h.n + 1 + 1) = some x := fun x y => (push_lt (by simp only [push_n]; omega)).trans (push_same (h := (h.push [[v]]).push [[v3]]))
    have k4 : ∀ x y, ((((h.push [[v]]).push [[v3]]).push x).push y).cell (h.n + 1 + 1 + 1) = some y := fun x y => push_same (h := ((h.push [[v]]).push [[v3]]).push x)
    have k5 : ∀ x y z, ((((h.push [[v]]).push [[v3]]).push x).push y).set (h.n + 1 + 1 + 1) (some z) = (((h.push [[v]]).push [[v3]]).push x).push z := fun x y z => set_push (h := ((h.push [[v]]).push [[v3]]).push x)
    generalize printX L = pr at *
    refine runF_E fn_RenderPrints rfl fun Q hQ => ?_; unfold rc_RenderPrints
    simp only [sim, List.length_cons, List.length_nil, Nat.reduceAdd, Nat.reduceSub, List.replicate, List.cons_append, List.nil_append, List.map_cons, List.map_nil, Option.bind_some, Option.map_some, Option.bind_none, Option.map_none, if_true, if_false, decide_true, decide_false, Bool.false_eq_true, Bool.true_eq_false, Bool.not_true, Bool.not_false, reduceCtorEq, Bool.and_true, Bool.true_and, Bool.and_false, Bool.false_and, Bool.or_true, Bool.true_or, Bool.or_false, Bool.false_or, true_and, and_true, false_and, and_false, List.take_zero, List.take_succ_cons, List.drop_zero, List.drop_succ_cons, List.take_nil, List.drop_nil, List.set_cons_zero, List.set_cons_succ, Nat.reduceLeDiff, Nat.reduceLT, Nat.zero_add, Nat.lt_add_one, Nat.le_refl, clearA, Int.toNat_natCast, turns, o1, o3, vb, q1, g1, ro, e4, e5, e6, k1, k2, k3, k4, k5, fault_eql, eq_self]
    exact hQ _ _ _ rfl (gg.trans (by repeat (first | exact GrewA.refl _ | refine GrewA.trans ?_ (GrewA.push _ _) | refine GrewA.trans ?_ (GrewA.fresh _ _)))) rfl
  · refine runF_E fn_RenderPrints rfl fun Q hQ => ?_; unfold rc_RenderPrints
    simp only [sim, List.length_cons, List.length_nil, Nat.reduceAdd, Nat.reduceSub, List.replicate, List.cons_append, List.nil_append, List.map_cons, List.map_nil, Option.bind_some, Option.map_some, Option.bind_none, Option.map_none, if_true, if_false, decide_true, decide_false, Bool.false_eq_true, Bool.true_eq_false, Bool.not_true, Bool.not_false, reduceCtorEq, Bool.and_true, Bool.true_and, Bool.and_false, Bool.false_and, Bool.or_true, Bool.true_or, Bool.or_false, Bool.false_or, true_and, and_true, false_and, and_false, List.take_zero, List.take_succ_cons, List.drop_zero, List.drop_succ_cons, List.take_nil, List.drop_nil, List.set_cons_zero, List.set_cons_succ, Nat.reduceLeDiff, Nat.reduceLT, Nat.zero_add, Nat.lt_add_one, Nat.le_refl, clearA, Int.toNat_natCast, o1, vb, q1, g1]
    exact hQ _ _ _ rfl gg rfl

theorem print_zero {L : List XD} (h : (printX L).2.1 = 0) : printX L = (modText L, (0, 0)) ∧ (checkX L).1 = 0 := by
  unfold printX at h ⊢
  by_cases hc : (checkX L).1 = 0
  · rw [if_neg (by simp [hc])] at h ⊢
    by_cases h6 : 6000 < (modText L).length
    · rw [if_pos h6] at h
      cases h
    · rw [if_neg h6] at h ⊢
      exact ⟨rfl, hc⟩
  · rw [if_pos hc] at h
    exact absurd h hc
set_option maxHeartbeats 1000000 in
theorem RenderApart_run (v1 v2 : AV) (L1 L2 : List XD) (m1 : ∀ h, ModV h v1 L1) (m2 : ∀ h, ModV h v2 L2) (w1 : ∀ x ∈ L1, x.wf) (w2 : ∀ x ∈ L2, x.wf) :
    runF Tryd.prog po 7 [.agg [v1], .agg [v2]] h = some (.inl (.bool true), h) := by
  have o1 := (m1 h).one
  have o2 := (m2 h).one
  have vb := fun h => renderBegun_run (h := h)
  have q1 := fun h => Great_run (h := h) v1 L1 (m1 h)
  have q2 := fun h => Great_run (h := h) v2 L2 (m2 h)
  have gg : GrewA h ((h.push [[v1]]).push [[v2]]) := (by repeat (first | exact GrewA.refl _ | refine GrewA.trans ?_ (GrewA.push _ _) | refine GrewA.trans ?_ (GrewA.fresh _ _)))
  cases g1 : greatX L1
  · cases g2 : greatX L2
    · obtain ⟨hl1, hs1⟩ := great_no g1
      obtain ⟨hl2, hs2⟩ := great_no g2
      have e4 := fun h => Print_run (h := h) v1 L1 m1 hl1 hs1 w1
      have e5 := fun h => Print_run (h := h) v2 L2 m2 hl2 hs2 w2
      have e6 := fun h => SameModule_run (h := h) v1 v2 L1 L2 m1 m2 (by omega) (fun x hx => by have := hs1 x hx; omega)
      have k1 : ∀ x y, ((((h.push [[v1]]).push [[v2]]).push x).push y).cell h.n = some [[v1]] := fun x y => (push_lt (by simp only [push_n]; omega)).trans ((push_lt (by simp only [push_n]; omega)).trans push2_old)
      have k2 : ∀ x y, ((((h.push [[v1]]).push [[v2]]).push x).push y).cell (h.n + 1) = some [[v2]] := fun x y => (push_lt (by simp only [push_n]; omega)).trans ((push_lt (by simp only [push_n]; omega)).trans push2_same)
      have k3 : ∀ x y, ((((h.push [[v1]]).push [[v2]]).push x).push y).cell (h.n + 1 + 1) = some x := fun x y => (push_lt (by simp only [push_n]; omega)).trans (push_same (h := (h.push [[v1]]).push [[v2]]))
      have k4 : ∀ x y, ((((h.push [[v1]]).push [[v2]]).push x).push y).cell (h.n + 1 + 1 + 1) = some y := fun x y => push_same (h := ((h.push [[v1]]).push [[v2]]).push x)
      have k5 : ∀ x y z, ((((h.push [[v1]]).push [[v2]]).push x).push y).set (h.n + 1 + 1 + 1) (some z) = (((h.push [[v1]]).push [[v2]]).push x).push z := fun x y z => set_push (h := ((h.push [[v1]]).push [[v2]]).push x)
      cases c1 : decide ((printX L1).2.1 = 0)
      · generalize printX L1 = pr1 at *
        generalize printX L2 = pr2 at *
        refine runF_E fn_RenderApart rfl fun Q hQ => ?_; unfold rc_RenderApart
        simp only [sim, List.length_cons, List.length_nil, Nat.reduceAdd, Nat.reduceSub, List.replicate, List.cons_append, List.nil_append, List.map_cons, List.map_nil, Option.bind_some, Option.map_some, Option.bind_none, Option.map_none, if_true, if_false, decide_true, decide_false, Bool.false_eq_true, Bool.true_eq_false, Bool.not_true, Bool.not_false, reduceCtorEq, Bool.and_true, Bool.true_and, Bool.and_false, Bool.false_and, Bool.or_true, Bool.true_or, Bool.or_false, Bool.false_or, true_and, and_true, false_and, and_false, List.take_zero, List.take_succ_cons, List.drop_zero, List.drop_succ_cons, List.take_nil, List.drop_nil, List.set_cons_zero, List.set_cons_succ, Nat.reduceLeDiff, Nat.reduceLT, Nat.zero_add, Nat.lt_add_one, Nat.le_refl, clearA, Int.toNat_natCast, turns, o1, o2, vb, q1, q2, g1, g2, e4, e5, k1, k2, k3, k4, k5, c1, eq_self]
        exact hQ _ _ _ rfl (gg.trans (by repeat (first | exact GrewA.refl _ | refine GrewA.trans ?_ (GrewA.push _ _) | refine GrewA.trans ?_ (GrewA.fresh _ _)))) rfl
      · cases c2 : decide ((printX L2).2.1 = 0)
        · generalize printX L1 = pr1 at *
          generalize printX L2 = pr2 at *
          refine runF_E fn_RenderApart rfl fun Q hQ => ?_; unfold rc_RenderApart
          simp only [sim, List.length_cons, List.length_nil, Nat.reduceAdd, Nat.reduceSub, List.replicate, List.cons_append, List.nil_append, List.map_cons, List.map_nil, Option.bind_some, Option.map_some, Option.bind_none, Option.map_none, if_true, if_false, decide_true, decide_false, Bool.false_eq_true, Bool.true_eq_false, Bool.not_true, Bool.not_false, reduceCtorEq, Bool.and_true, Bool.true_and, Bool.and_false, Bool.false_and, Bool.or_true, Bool.true_or, Bool.or_false, Bool.false_or, true_and, and_true, false_and, and_false, List.take_zero, List.take_succ_cons, List.drop_zero, List.drop_succ_cons, List.take_nil, List.drop_nil, List.set_cons_zero, List.set_cons_succ, Nat.reduceLeDiff, Nat.reduceLT, Nat.zero_add, Nat.lt_add_one, Nat.le_refl, clearA, Int.toNat_natCast, turns, o1, o2, vb, q1, q2, g1, g2, e4, e5, k1, k2, k3, k4, k5, c1, c2, eq_self]
          exact hQ _ _ _ rfl (gg.trans (by repeat (first | exact GrewA.refl _ | refine GrewA.trans ?_ (GrewA.push _ _) | refine GrewA.trans ?_ (GrewA.fresh _ _)))) rfl
        · obtain ⟨p1, z1⟩ := print_zero (of_decide_eq_true c1)
          obtain ⟨p2, z2⟩ := print_zero (of_decide_eq_true c2)
          have ms := mod_same z1 z2
          rw [p1] at e4
          rw [p2] at e5
          refine runF_E fn_RenderApart rfl fun Q hQ => ?_; unfold rc_RenderApart
          simp only [sim, List.length_cons, List.length_nil, Nat.reduceAdd, Nat.reduceSub, List.replicate, List.cons_append, List.nil_append, List.map_cons, List.map_nil, Option.bind_some, Option.map_some, Option.bind_none, Option.map_none, if_true, if_false, decide_true, decide_false, Bool.false_eq_true, Bool.true_eq_false, Bool.not_true, Bool.not_false, reduceCtorEq, Bool.and_true, Bool.true_and, Bool.and_false, Bool.false_and, Bool.or_true, Bool.true_or, Bool.or_false, Bool.false_or, true_and, and_true, false_and, and_false, List.take_zero, List.take_succ_cons, List.drop_zero, List.drop_succ_cons, List.take_nil, List.drop_nil, List.set_cons_zero, List.set_cons_succ, Nat.reduceLeDiff, Nat.reduceLT, Nat.zero_add, Nat.lt_add_one, Nat.le_refl, clearA, Int.toNat_natCast, turns, o1, o2, vb, q1, q2, g1, g2, e4, e5, e6, k1, k2, k3, k4, k5, ms, eq_self, beq_self_eq_true]
          exact hQ _ _ _ rfl (gg.trans (by repeat (first | exact GrewA.refl _ | refine GrewA.trans ?_ (GrewA.push _ _) | refine GrewA.trans ?_ (GrewA.fresh _ _)))) rfl
    · refine runF_E fn_RenderApart rfl fun Q hQ => ?_; unfold rc_RenderApart
      simp only [sim, List.length_cons, List.length_nil, Nat.reduceAdd, Nat.reduceSub, List.replicate, List.cons_append, List.nil_append, List.map_cons, List.map_nil, Option.bind_some, Option.map_some, Option.bind_none, Option.map_none, if_true, if_false, decide_true, decide_false, Bool.false_eq_true, Bool.true_eq_false, Bool.not_true, Bool.not_false, reduceCtorEq, Bool.and_true, Bool.true_and, Bool.and_false, Bool.false_and, Bool.or_true, Bool.true_or, Bool.or_false, Bool.false_or, true_and, and_true, false_and, and_false, List.take_zero, List.take_succ_cons, List.drop_zero, List.drop_succ_cons, List.take_nil, List.drop_nil, List.set_cons_zero, List.set_cons_succ, Nat.reduceLeDiff, Nat.reduceLT, Nat.zero_add, Nat.lt_add_one, Nat.le_refl, clearA, Int.toNat_natCast, o1, o2, vb, q1, q2, g1, g2]
      exact hQ _ _ _ rfl gg rfl
  · refine runF_E fn_RenderApart rfl fun Q hQ => ?_; unfold rc_RenderApart
    simp only [sim, List.length_cons, List.length_nil, Nat.reduceAdd, Nat.reduceSub, List.replicate, List.cons_append, List.nil_append, List.map_cons, List.map_nil, Option.bind_some, Option.map_some, Option.bind_none, Option.map_none, if_true, if_false, decide_true, decide_false, Bool.false_eq_true, Bool.true_eq_false, Bool.not_true, Bool.not_false, reduceCtorEq, Bool.and_true, Bool.true_and, Bool.and_false, Bool.false_and, Bool.or_true, Bool.true_or, Bool.or_false, Bool.false_or, true_and, and_true, false_and, and_false, List.take_zero, List.take_succ_cons, List.drop_zero, List.drop_succ_cons, List.take_nil, List.drop_nil, List.set_cons_zero, List.set_cons_succ, Nat.reduceLeDiff, Nat.reduceLT, Nat.zero_add, Nat.lt_add_one, Nat.le_refl, clearA, Int.toNat_natCast, o1, o2, vb, q1, g1]
    exact hQ _ _ _ rfl gg rfl
end
end Go.Proofs.YtodehiopdkgoeaaDoor
