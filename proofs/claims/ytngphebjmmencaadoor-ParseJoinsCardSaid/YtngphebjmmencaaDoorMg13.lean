/- render in the plain model: Print; what the laws begin with. render: the laws' walks. RenderBack as a list of steps. What was printed is read as the module that it was. No program here. render: what was printed is read as it was, in the plain model. -/
import Derived.Test.YtngphebjmmencaaDoorMg12
namespace Go.Proofs.YtngphebjmmencaaDoor
set_option linter.unusedSimpArgs false
set_option linter.unusedVariables false
open Go

abbrev tWr : TypeId := 80
section
variable {h : AH}
set_option maxHeartbeats 2000000 in
theorem Print_run (v : AV) (L : List XD) (m : ∀ h, ModV h v L) (hL : L.length ≤ 20) (hs : ∀ x ∈ L, x.size ≤ 600) (hw : ∀ x ∈ L, x.wf) :
    runF Tryd.prog po 23 [.agg [v]] h = some (.inl (.tup [.str (printX L).1, fltA (printX L).2]), h) := by
  have o1 := (m h).one
  have l1 := (m h).len
  have f1 := (m h).fits
  have cf := fun h => Check_run (h := h) v L (m h) (by omega) (fun x hx => by have := hs x hx; omega)
  have g3 : GrewA h (((h.push [[v]]).push [[.int .i64 0, .int .i64 0]]).push [[.int .i64 0, .int .i64 0]]) := (GrewA.push _ _).trans ((GrewA.push _ _).trans (GrewA.push _ _))
  have k3 : (((h.push [[v]]).push [[.int .i64 0, .int .i64 0]]).push [[.int .i64 0, .int .i64 0]]).cell (h.n + 1) = some [[.int .i64 0, .int .i64 0]] := push3_1
  have n3 : (((h.push [[v]]).push [[.int .i64 0, .int .i64 0]]).push [[.int .i64 0, .int .i64 0]]).n = h.n + 1 + 1 + 1 := rfl
  have k4v : ∀ d, ((((h.push [[v]]).push [[.int .i64 0, .int .i64 0]]).push [[.int .i64 0, .int .i64 0]]).push d).cell h.n = some [[v]] := fun d => (push_lt (by rw [n3]; omega)).trans push3_0
  by_cases hc : (checkX L).1 = 0
  · have h2 := check_two hc
    obtain ⟨a1, a2, a3⟩ := check_ok hc
    rw [h2] at cf
    have hml := modText_len (l := L) fun x hx => ⟨hw x hx, (a3 x hx).2.1⟩
    have tl : ∀ i, (modText (L.take i)).length ≤ (modText L).length := by
      intro i
      have := modText_append (L.take i) (L.drop i)
      rw [List.take_append_drop] at this
      rw [this, List.length_append]
      omega
    refine runF_E fn_Print rfl fun Q hQ => ?_; unfold rc_Print
    simp only [sim, simB, Nat.reduceAdd, Nat.reduceSub, List.replicate, reduceCtorEq, Nat.reduceLeDiff, Nat.reduceLT, clearA, o1, l1, f1, cf, Int.reduceEq, k4v]
    generalize (((h.push [[v]]).push [[AV.int .i64 0, .int .i64 0]]).push [[.int .i64 0, .int .i64 0]]) = h3 at *
    have B0 : Buf (h3.push [[.nilp, .nils]]) tWr (h.n + 1 + 1 + 1) none [] [] := ⟨by decide, by rw [push_n, n3]; omega, .nilp, .nils, by rw [← n3]; exact push_same, .inl rfl, .inl ⟨rfl, rfl, rfl⟩⟩
    have g4 : GrewA h (h3.push [[.nilp, .nils]]) := g3.trans (GrewA.push _ _)
    have k4 : (h3.push [[.nilp, .nils]]).cell (h.n + 1) = some [[.int .i64 0, .int .i64 0]] := (push_lt (by rw [n3]; omega)).trans k3
    have n4 : (h3.push [[.nilp, .nils]]).n = h.n + 1 + 1 + 1 + 1 := by rw [push_n, n3]
    generalize h3.push [[.nilp, .nils]] = h4 at *
    refine loop_Q (fun i V h' => ∃ w6 w11 bb, V = [.agg [v], .ptr h.n 0 0, .str [], .ptr (h.n + 1) 0 0, .ptr (h.n + 1 + 1) 0 0, .tptr tWr (h.n + 1 + 1 + 1), w6, .bool false, v, .int .i64 L.length, .int .i64 (i : Nat), w11, .junk] ∧
      Buf h' tWr (h.n + 1 + 1 + 1) bb [] (modText (L.take i)) ∧ Wr h4 none h' bb (h.n + 1 + 1 + 1)) L.length ⟨_, _, none, rfl, B0, Wr.refl _ _ _⟩ ?_ ?_
    · rintro i V h' hi ⟨w6, w11, bb, rfl, B, W⟩ next
      have hlt : (i : Int) < (L.length : Int) := by omega
      obtain ⟨y, hy⟩ := get_at hi
      obtain ⟨a, q, i1, i2, x1⟩ := (m h').ix i y hy
      have i2' := i2 _ (GrewA.refl _)
      obtain ⟨p1, p2⟩ := x1.one
      have hwi := w64 (n := (i : Int) + 1) (by omega) (by omega)
      have ym := mem_at hy
      have yl := xtext_len _ y (Nat.le_refl _) (hw y ym)
      have ys := hs y ym
      have t1 := tl i
      have B1 := B.grew (GrewA.push h' [q])
      have W1 : Wr h' bb (h'.push [q]) bb (h.n + 1 + 1 + 1) := Wr.grew (GrewA.push _ _) B.bb_lt
      have hbn : h.n + 1 + 1 + 1 ≠ h'.n := by have := B.lt; omega
      have nb : bb ≠ some h'.n := fun e => by have := B.bb_lt _ e; omega
      obtain ⟨h5, bb5, e5, B5, W5⟩ := bWrite_run B1 (s := [102, 117, 110, 32]) (by omega) (by simp)
      have c5 : h5.cell h'.n = some [q] := (W5.cell _ (by simp only [push_n]; omega) (fun e => hbn e.symm) nb).trans push_same
      obtain ⟨h6, bb6, e6, B6, W6⟩ := wexpr_run _ y (Nat.le_refl _) (hw y ym) q h5 bb5 _ x1 B5 (by simp; omega)
      obtain ⟨h7, bb7, e7, B7, W7⟩ := bWrite_run B6 (s := [10]) (by simp; omega) (by simp)
      rw [r_lpb rc_Print_b1.eq_1]
      simp only [sim, simB, Nat.reduceAdd, Nat.reduceSub, List.replicate, reduceCtorEq, Nat.reduceLeDiff, Nat.reduceLT, clearA, hlt, i1, i2', p1, p2, ld_all p2, e5, c5, e6, e7, hwi]
      refine next _ _ ⟨_, _, bb7, rfl, ?_, (((W.trans W1).trans W5).trans W6).trans W7⟩
      rw [modText_take hy]
      simpa using B7
    · rintro V h' ⟨w6, w11, bb, rfl, B, W⟩
      have hlt : ¬ ((L.length : Int) < (L.length : Int)) := by omega
      rw [List.take_length] at B
      have el := bLen_run B
      obtain ⟨gz, bz⟩ := W.to g4 (by omega) (fun q hq => by cases hq)
      have nb1 : bb ≠ some (h.n + 1) := W.buf _ (by rw [n4]; omega) (by simp)
      have kz : h'.cell (h.n + 1) = some [[.int .i64 0, .int .i64 0]] := (W.cell _ (by rw [n4]; omega) (by omega) (by simp)).trans k4
      by_cases h6 : 6000 < (modText L).length
      · have e : printX L = ([], (3, -1)) := by rw [printX, if_neg (by simp [hc]), if_pos h6]
        rw [e] at hQ
        have h6' : (6000 : Int) < ((modText L).length : Int) := by omega
        rw [r_lpb rc_Print_b1.eq_1]
        simp only [sim, simB, Nat.reduceAdd, Nat.reduceSub, List.replicate, reduceCtorEq, Nat.reduceLeDiff, Nat.reduceLT, clearA, hlt, el, h6', kz]
        exact hQ _ _ (.tup [.str [], fltA (3, -1)]) (by simp only [sim, simB, Nat.reduceAdd, Nat.reduceSub, List.replicate, reduceCtorEq, Nat.reduceLeDiff, Nat.reduceLT, clearA]) (gz.set (by omega)) rfl
      · have e : printX L = (modText L, (0, 0)) := by rw [printX, if_neg (by simp [hc]), if_neg h6]
        rw [e] at hQ
        have h6' : ¬ (6000 : Int) < ((modText L).length : Int) := by omega
        obtain ⟨h8, e8, k8, n8, i8, w8⟩ := bStr_run B
        have kz8 : h8.cell (h.n + 1) = some [[.int .i64 0, .int .i64 0]] := (k8 _ nb1).trans kz
        have g8 : GrewA h h8 := ⟨by rw [n8]; exact gz.n, by rw [i8]; exact gz.ids, fun q hq => by rw [k8 q (fun e => by have := bz q e; omega)]; exact gz.cell q hq, fun k hk => by rw [w8]; exact gz.hw k hk⟩
        rw [r_lpb rc_Print_b1.eq_1]
        simp only [sim, simB, Nat.reduceAdd, Nat.reduceSub, List.replicate, reduceCtorEq, Nat.reduceLeDiff, Nat.reduceLT, clearA, hlt, el, h6', e8, kz8]
        exact hQ _ _ (.tup [.str (modText L), fltA (0, 0)]) (by simp only [sim, simB, Nat.reduceAdd, Nat.reduceSub, List.replicate, reduceCtorEq, Nat.reduceLeDiff, Nat.reduceLT, clearA]) (g8.set (by omega)) rfl
  · have e : printX L = ([], checkX L) := by rw [printX, if_pos hc]
    rw [e]
    refine runF_E fn_Print rfl fun Q hQ => ?_; unfold rc_Print
    simp only [sim, simB, Nat.reduceAdd, Nat.reduceSub, List.replicate, reduceCtorEq, Nat.reduceLeDiff, Nat.reduceLT, clearA, o1, cf, hc]
    exact hQ _ _ (.tup [.str [], fltA (checkX L)]) (by simp only [sim, simB, Nat.reduceAdd, Nat.reduceSub, List.replicate, reduceCtorEq, Nat.reduceLeDiff, Nat.reduceLT, clearA]) (((GrewA.push _ _).trans ((GrewA.push _ _).trans (GrewA.push _ _))).set (by omega)) rfl

def begR : List XD := [.mk 15 3 0 [.mk 3 0 0 []]]
theorem begR_text : modText begR = [102, 117, 110, 32, 40, 110, 97, 114, 114, 111, 119, 32, 51, 32, 40, 97, 114, 103, 41, 41, 10] := by
  simp [begR, modText, XD.text, textsX, argX, wordX, wordsL, Lib.itoa, Lib.decDigits]
theorem begR_ok : checkX begR = (0, 0) := by decide +kernel
theorem begR_print : printX begR = (modText begR, (0, 0)) := by
  have h1 : ¬ (checkX begR).1 ≠ 0 := by rw [begR_ok]; decide
  have h2 : ¬ 6000 < (modText begR).length := by rw [begR_text]; decide
  rw [printX, if_neg h1, if_neg h2]
theorem begR_mod (i j : Option Nat) : ModV h (.isl i tE [[.int .i64 15, .int .i64 3, .int .i64 0, .isl j tE [[.int .i64 3, .int .i64 0, .int .i64 0, .nils]]]]) begR := by
  refine ModV.of (.inr ⟨_, rfl⟩) ?_
  simp only [begR, ExL, ExA]
  exact ⟨_, _, rfl, ⟨_, _, rfl, .inr ⟨_, rfl⟩, _, _, rfl, ⟨_, _, rfl, .inl ⟨rfl, rfl⟩, rfl⟩, rfl⟩, rfl⟩
theorem begR_wf : ∀ x ∈ begR, x.wf := by
  intro x hx
  rw [List.mem_singleton.1 hx]
  simp [XD.wf, wfXs, isI64]
theorem begR_size : ∀ x ∈ begR, x.size ≤ 600 := by
  intro x hx
  rw [List.mem_singleton.1 hx]
  decide +kernel
theorem renderBegun_run : runF Tryd.prog po 21 [] h = some (.inl (.bool true), h) := by
  have c1 : ∀ (h : AH) (i j : Nat), runF Tryd.prog po 23 [.agg [.isl (some i) tE [[.int .i64 15, .int .i64 3, .int .i64 0, .isl (some j) tE [[.int .i64 3, .int .i64 0, .int .i64 0, .nils]]]]]] h =
      some (.inl (.tup [.str [102, 117, 110, 32, 40, 110, 97, 114, 114, 111, 119, 32, 51, 32, 40, 97, 114, 103, 41, 41, 10], .agg [.int .i64 0, .int .i64 0]]), h) := fun h i j => by
    have := Print_run (h := h) _ begR (fun h => begR_mod (h := h) (some i) (some j)) (by decide) begR_size begR_wf
    rw [begR_print, begR_text] at this
    exact this
  refine runF_R fn_renderBegun rfl ?_; unfold rc_renderBegun
  simp only [sim, simB, Nat.reduceAdd, Nat.reduceSub, List.replicate, reduceCtorEq, Nat.reduceLeDiff, Nat.reduceLT, clearA, turns, c1, eq_self, Int.reduceEq]
  exact fg_yes (by repeat (first | exact GrewA.refl _ | refine GrewA.trans ?_ (GrewA.push _ _) | refine GrewA.trans ?_ (GrewA.fresh _ _))) rfl


theorem print_zero {L : List XD} (h : (printX L).2.1 = 0) : printX L = (modText L, (0, 0)) ∧ (checkX L).1 = 0 := by
  unfold printX at h ⊢
  by_cases hc : (checkX L).1 = 0
  · rw [if_neg (by simp [hc])] at h ⊢
    by_cases h6 : 6000 < (modText L).length
    · rw [if_pos h6] at h
      cases h
    · rw [if_neg h6] at h ⊢
      exact ⟨rfl, hc⟩
  · rw [if_pos hc] at h
    exact absurd h hc
end
end Go.Proofs.YtngphebjmmencaaDoor
namespace Go.Proofs.YtngphebjmmencaaDoor
set_option linter.unusedSimpArgs false
set_option linter.unusedVariables false
open Go Go.RowKit

theorem wf64 {z : Int} (w : (Lit.int .i64 z).wf = true) : isI64 z := by simpa [isI64, Lit.wf, IntKind.min, IntKind.max, IntKind.signed, IntKind.bits] using w
theorem exw_of : ∀ (n : Nat) (r : List AV), TyA Tryd.prog n tE r → ∃ x : XD, ExA x r ∧ x.wf := by
  intro n
  induction n using Nat.strongRecOn with
  | ind n ih =>
    intro r h
    obtain ⟨m, rfl, parts, rfl, hl, hf⟩ := ty_struct exprTs h
    obtain ⟨p0, a0, _, b0⟩ := hf 0 _ rfl
    obtain ⟨p1, a1, _, b1⟩ := hf 1 _ rfl
    obtain ⟨p2, a2, _, b2⟩ := hf 2 _ rfl
    obtain ⟨p3, a3, _, b3⟩ := hf 3 _ rfl
    obtain ⟨op, rfl, w0⟩ := ty_int intT b0
    obtain ⟨k, rfl, w1⟩ := ty_int intT b1
    obtain ⟨z, rfl, w2⟩ := ty_int int64T b2
    obtain ⟨m', v, es, rfl, rfl, hv, _, hr⟩ := ty_slc exprsT b3
    obtain ⟨c0, c1, c2, c3, rfl⟩ := list4 hl
    simp only [List.getElem?_cons_zero, List.getElem?_cons_succ, Option.some.injEq] at a0 a1 a2 a3
    subst a0 a1 a2 a3
    have key : ∀ es : List (List AV), (∀ r ∈ es, ∃ x : XD, ExA x r ∧ x.wf) → ∃ l, ExL l es ∧ wfXs l := by
      intro es
      induction es with
      | nil => intro _; exact ⟨[], rfl, trivial⟩
      | cons r es ih2 =>
        intro hh
        obtain ⟨x, hx, hw⟩ := hh r (by simp)
        obtain ⟨l, hl, hw2⟩ := ih2 fun q hq => hh q (by simp [hq])
        exact ⟨x :: l, by simp only [ExL]; exact ⟨r, es, rfl, hx, hl⟩, hw, hw2⟩
    obtain ⟨l, hl, hw⟩ := key es fun r hr' => ih m' (by omega) r (hr r hr').2
    exact ⟨.mk op k z l, by simp only [ExA]; exact ⟨v, es, rfl, hv.sla, hl⟩, wf64 w0, wf64 w1, wf64 w2, hw⟩
theorem modw_of {n : Nat} {r : List AV} (h : TyA Tryd.prog n 37 r) : ∃ v l, r = [v] ∧ (∀ h, ModV h v l) ∧ ∀ x ∈ l, x.wf := by
  obtain ⟨m, rfl, parts, rfl, hl, hf⟩ := ty_struct modTs h
  obtain ⟨p0, a0, _, b0⟩ := hf 0 _ rfl
  obtain ⟨m', v, es, rfl, rfl, hv, _, hr⟩ := ty_slc exprsT b0
  obtain ⟨c0, rfl⟩ := list1 hl
  simp only [List.getElem?_cons_zero, Option.some.injEq] at a0
  subst a0
  have key : ∀ es : List (List AV), (∀ r ∈ es, ∃ x : XD, ExA x r ∧ x.wf) → ∃ l, ExL l es ∧ ∀ x ∈ l, x.wf := by
    intro es
    induction es with
    | nil => intro _; exact ⟨[], rfl, fun x hx => by cases hx⟩
    | cons r es ih2 =>
      intro hh
      obtain ⟨x, hx, hw⟩ := hh r (by simp)
      obtain ⟨l, hl, hw2⟩ := ih2 fun q hq => hh q (by simp [hq])
      refine ⟨x :: l, by simp only [ExL]; exact ⟨r, es, rfl, hx, hl⟩, fun y hy => ?_⟩
      rcases List.mem_cons.1 hy with rfl | hy
      · exact hw
      · exact hw2 y hy
  obtain ⟨l, hl, hw⟩ := key es fun r hr' => exw_of m' r (hr r hr').2
  exact ⟨v, l, rfl, fun h => ModV.of hv.sla hl, hw⟩
end Go.Proofs.YtngphebjmmencaaDoor
namespace Go.Proofs.YtngphebjmmencaaDoor
set_option linter.unusedSimpArgs false
set_option linter.unusedVariables false
open Go

def rc_RenderBack : List RS := [(.ops [(.i (.v 1) (.box 1 (.v 0))), (.i (.v 2) (.mv (.c (.bool false))))]), (.ops [(.i .l (.call (.c (.fn 21 [] [])) [])), (.i (.v 9) (.un .not (.l 0)))]), (.cond (.v 9) [(.ops [(.i (.v 2) (.mv (.c (.bool false))))]), .ret] []), (.ops [(.i .l (.load true 1 (.v 1))), (.i (.v 10) (.call (.c (.fn 22 [] [])) [(.l 0)]))]), (.cond (.v 10) [(.ops [(.i (.v 2) (.mv (.c (.bool true))))]), .ret] []), (.ops [(.i .l (.load true 1 (.v 1))), (.i .l (.call (.c (.fn 23 [] [])) [(.l 0)])), (.i .l (.mv (.l 0))), (.i .l (.ext (.l 0) 0)), (.i .l (.ext (.l 1) 1)), (.i (.v 4) (.alloc [(.int .i64 0), (.int .i64 0)])), (.i (.v 3) (.mv (.l 1))), (.i .n (.store 2 (.v 4) (.l 0)))]), (.ops [(.i .l (.fad 0 (.v 4))), (.i .l (.load false 1 (.l 0))), (.i (.v 11) (.bin (.int .i64) .neq (.l 0) (.c (.int .i64 0))))]), (.cond (.v 11) [(.ops [(.i .l (.mv (.v 3))), (.i .l (.bin .str .eql (.l 0) (.c (.str [])))), (.i (.v 2) (.mv (.l 0)))]), .ret] []), (.ops [(.i .l (.mv (.v 3))), (.i .l (.call (.c (.fn 13 [] [])) [(.l 0)])), (.i .l (.mv (.l 0))), (.i .l (.ext (.l 0) 0)), (.i .l (.ext (.l 1) 1)), (.i (.v 5) (.alloc [.nils])), (.i (.v 6) (.alloc [(.int .i64 0), (.int .i64 0)])), (.i .n (.store 1 (.v 5) (.l 1))), (.i .n (.store 2 (.v 6) (.l 0)))]), (.ops [(.i .l (.load true 1 (.v 5))), (.i .l (.call (.c (.fn 23 [] [])) [(.l 0)])), (.i .l (.mv (.l 0))), (.i .l (.ext (.l 0) 0)), (.i .l (.ext (.l 1) 1)), (.i (.v 8) (.alloc [(.int .i64 0), (.int .i64 0)])), (.i (.v 7) (.mv (.l 1))), (.i .n (.store 2 (.v 8) (.l 0)))]), (.ops [(.i .l (.fad 0 (.v 6))), (.i .l (.load false 1 (.l 0))), (.i .l (.bin (.int .i64) .eql (.l 0) (.c (.int .i64 0)))), (.i .l (.mv (.l 0))), (.g (.l 0) true .l (.fad 0 (.v 8))), (.g (.l 1) true .l (.load false 1 (.l 0))), (.g (.l 2) true .l (.bin (.int .i64) .eql (.l 0) (.c (.int .i64 0)))), (.i .l (.pick (.l 3) (.l 0) (.c (.bool false)))), (.i .l (.mv (.l 0))), (.g (.l 0) true .l (.mv (.v 3))), (.g (.l 1) true .l (.mv (.v 7))), (.g (.l 2) true .l (.bin .str .eql (.l 1) (.l 0))), (.i .l (.pick (.l 3) (.l 0) (.c (.bool false)))), (.i .l (.mv (.l 0))), (.g (.l 0) true .l (.load true 1 (.v 1))), (.g (.l 1) true .l (.load true 1 (.v 5))), (.g (.l 2) true .l (.call (.c (.fn 15 [] [])) [(.l 1), (.l 0)])), (.i .l (.pick (.l 3) (.l 0) (.c (.bool false)))), (.i (.v 2) (.mv (.l 0)))]), .ret]
theorem fn_RenderBack : FnR Tryd.prog po 8 1 12 [0, 1, 2, 3, 4, 5, 6, 7, 8, 10, 12, 20] rc_RenderBack [(.v 2)] true := ⟨_, _, Tryd.func8, rfl, rfl, by kernel_rfl, by kernel_rfl, by kernel_rfl, by kernel_rfl, by kernel_rfl⟩
end Go.Proofs.YtngphebjmmencaaDoor
namespace Go.Proofs.YtngphebjmmencaaDoor
set_option linter.unusedSimpArgs false
set_option linter.unusedVariables false
open Go Go.Lib

/-! ### numerals -/
theorem uintM_ok {M : Nat} (hM : M ≤ 18446744073709551615) : ∀ (l : List UInt8) (acc : Nat), (∀ c ∈ l, digB c = true) → l.foldl (fun n c => n * 10 + (c.toNat - 48)) acc ≤ M → parseUintM M acc l = .ok (l.foldl (fun n c => n * 10 + (c.toNat - 48)) acc)
  | [], acc, _, _ => rfl
  | c :: r, acc, hd, hv => by
    have hc := hd c (by simp)
    have hc2 : 48 ≤ c.toNat ∧ c.toNat ≤ 57 := by
      simp only [digB, Bool.and_eq_true, decide_eq_true_eq] at hc
      exact ⟨hc.1, hc.2⟩
    have mono : ∀ (l : List UInt8) (a : Nat), a ≤ l.foldl (fun n c => n * 10 + (c.toNat - 48)) a := by
      intro l
      induction l with
      | nil => intro a; exact Nat.le_refl _
      | cons x l ih => intro a; exact Nat.le_trans (by omega) (ih (a * 10 + (x.toNat - 48)))
    rw [List.foldl_cons] at hv ⊢
    have h1 := mono r (acc * 10 + (c.toNat - 48))
    rw [parseUintM, if_pos hc2, if_neg (by omega), if_neg (by omega)]
    exact uintM_ok hM r _ (fun x hx => hd x (List.mem_cons_of_mem _ hx)) hv
theorem uintB_dec {u : Nat} (hu : u ≤ 18446744073709551615) : parseUintB 64 (decDigits u) = .ok u := by
  have h := uintM_ok (M := 18446744073709551615) (Nat.le_refl _) (decDigits u) 0 (dec_digs u) (by have := valD_dec u; unfold valD at this; omega)
  have e : (decDigits u).foldl (fun n c => n * 10 + (c.toNat - 48)) 0 = u := valD_dec u
  rw [e] at h
  unfold parseUintB
  rw [if_neg (dec_ne u)]
  exact h
theorem long_itoa {n : Int} (h : isI64 n) : longD (itoa n) = some n := by
  have key : parseIntB 64 (itoa n) = .ok n := by
    obtain ⟨h1, h2⟩ := h
    unfold itoa
    by_cases hn : n < 0
    · rw [if_pos hn]
      have e := uintB_dec (u := n.natAbs) (by omega)
      have e2 : parseUintB 64 (if (45 : UInt8).toNat = 43 ∨ (45 : UInt8).toNat = 45 then decDigits n.natAbs else 45 :: decDigits n.natAbs) = .ok n.natAbs := by
        rw [if_pos (by decide)]; exact e
      simp only [parseIntB, e2]
      rw [if_neg (fun h => h.1 (by decide)), if_neg (by rintro ⟨_, h⟩; omega), if_pos (by decide)]
      congr 1
      omega
    · rw [if_neg hn]
      have e := uintB_dec (u := n.toNat) (by omega)
      have hd := dec_digs n.toNat
      cases hc : decDigits n.toNat with
      | nil => exact absurd hc (dec_ne _)
      | cons c r =>
        rw [hc] at e hd
        have hc := hd c (by simp)
        have hc2 : 48 ≤ c.toNat ∧ c.toNat ≤ 57 := by
          simp only [digB, Bool.and_eq_true, decide_eq_true_eq] at hc
          exact ⟨hc.1, hc.2⟩
        have e2 : parseUintB 64 (if c.toNat = 43 ∨ c.toNat = 45 then r else c :: r) = .ok n.toNat := by
          rw [if_neg (by omega)]; exact e
        simp only [parseIntB, e2]
        rw [if_neg (by rintro ⟨_, h⟩; omega), if_neg (by rintro ⟨h, _⟩; omega), if_neg (by omega)]
        congr 1
        omega
  simp only [longD, key, if_true]
theorem itoa_ok {n : Int} (h : isI64 n) (a : Nat) : TD.ok ⟨a, itoa n, true, n⟩ := by
  refine .inr (.inr ⟨?_, rfl, long_itoa h⟩)
  show ∃ c r, itoa n = c :: r ∧ _
  unfold itoa
  by_cases hn : n < 0
  · rw [if_pos hn]
    exact ⟨45, _, rfl, .inr rfl, dec_digs _⟩
  · rw [if_neg hn]
    have hd := dec_digs n.toNat
    cases hc : decDigits n.toNat with
    | nil => exact absurd hc (dec_ne _)
    | cons c r =>
      rw [hc] at hd
      exact ⟨c, r, rfl, .inl (hd c (by simp)), fun x hx => hd x (by simp [hx])⟩

/-! ### the tokens of a text -/
def tkP (c : UInt8) : TD := ⟨0, [c], false, 0⟩
def tkW (w : List UInt8) : TD := ⟨0, w, false, 0⟩
def tkN (n : Int) : TD := ⟨0, itoa n, true, n⟩
def argT (op k n : Int) : List TD := if op = 2 then [tkN n] else if op = 4 ∨ op = 18 ∨ op = 15 then [tkN k] else if op = 6 then [tkW (binX k)] else []
mutual
def toksX : XD → List TD
  | .mk op k n l => tkP 40 :: tkW (wordX op) :: (argT op k n ++ (toksXs l ++ [tkP 41]))
def toksXs : List XD → List TD
  | [] => []
  | x :: l => toksX x ++ toksXs l
end
def toksM : List XD → List TD
  | [] => []
  | x :: l => tkW funB :: (toksX x ++ toksM l)
/-- a text is these tokens, and then it goes on -/
def ScTo (s : List UInt8) (ts : List TD) (r : List UInt8) : Prop := ∀ a : Nat, ∃ us, sameT ts us ∧ scanD 0 a (s ++ r) = (match scanD 0 (a + s.length) r with | .inl l => .inl (us ++ l) | .inr e => .inr e)
theorem ScTo.nil (r : List UInt8) : ScTo [] [] r := fun a => ⟨[], rfl, by simp only [List.nil_append, List.length_nil, Nat.add_zero]; cases scanD 0 a r <;> rfl⟩
theorem ScTo.cat {s1 s2 r : List UInt8} {t1 t2 : List TD} (h1 : ScTo s1 t1 (s2 ++ r)) (h2 : ScTo s2 t2 r) : ScTo (s1 ++ s2) (t1 ++ t2) r := by
  intro a
  obtain ⟨u1, a1, b1⟩ := h1 a
  obtain ⟨u2, a2, b2⟩ := h2 (a + s1.length)
  refine ⟨u1 ++ u2, by simp only [sameT, List.map_append] at a1 a2 ⊢; rw [a1, a2], ?_⟩
  rw [List.append_assoc, b1, b2, List.length_append, Nat.add_assoc]
  cases scanD 0 (a + (s1.length + s2.length)) r with
  | inl l => simp
  | inr e => rfl
theorem ScTo.blank {c : UInt8} (hc : blankB c = true) (r : List UInt8) : ScTo [c] [] r := by
  intro a
  refine ⟨[], rfl, ?_⟩
  rw [List.singleton_append, scanD_blank hc]
  simp only [List.length_singleton, List.nil_append]
  cases scanD 0 (a + 1) r <;> rfl
theorem ScTo.tok {t : TD} (h : t.ok) {r : List UInt8} (hr : sepB r) : ScTo t.text [t] r := by
  intro a
  obtain ⟨o1, c, q, o2, o3⟩ := one_of h a hr
  refine ⟨[{ t with at' := a }], rfl, ?_⟩
  have hd : (t.text ++ r).drop t.text.length = r := List.drop_left
  rw [show t.text ++ r = c :: (q ++ r) by rw [o2]; rfl] at o1 hd ⊢
  rw [scanD_one o3 o1]
  simp only
  rw [hd]
  cases scanD 0 (a + t.text.length) r <;> rfl
theorem ScTo.par {c : UInt8} (hc : c = 40 ∨ c = 41) (r : List UInt8) : ScTo [c] [tkP c] r := by
  intro a
  refine ⟨[⟨a, [c], false, 0⟩], rfl, ?_⟩
  have hb : blankB c = false := by rcases hc with rfl | rfl <;> rfl
  have ho : oneD a (c :: r) = some ⟨a, [c], false, 0⟩ := by
    simp only [oneD]
    rw [if_pos hc]
  rw [List.singleton_append, scanD_one hb ho]
  simp only [List.length_singleton, List.drop_succ_cons, List.drop_zero]
  cases scanD 0 (a + 1) r <;> rfl
theorem word_ok {w : List UInt8} (hl : ∀ c ∈ w, letB c = true) (hn : w ≠ []) : (tkW w).ok := by
  cases w with
  | nil => exact absurd rfl hn
  | cons c r => exact .inr (.inl ⟨⟨c, r, rfl, hl c (by simp), fun x hx => hl x (by simp [hx])⟩, rfl, rfl⟩)
theorem sep_end {s : List UInt8} (h : ∃ c t, s = c :: t ∧ (c = 32 ∨ c = 41)) : sepB s := by
  obtain ⟨c, t, rfl, hc⟩ := h
  intro d t' e
  injection e with e1 e2
  rw [← e1]
  rcases hc with rfl | rfl <;> exact ⟨by decide, by decide⟩
theorem word_ne {op : Int} (h : 1 ≤ op ∧ op ≤ 21) : wordX op ≠ [] := by
  obtain ⟨i, hi, rfl⟩ := op_nat h
  revert i
  decide
theorem bin_ne {k : Int} (h : 1 ≤ k ∧ k ≤ 5) : binX k ≠ [] := by
  obtain ⟨i, hi, rfl⟩ := bin_nat h
  revert i
  decide
theorem sc_arg {op k n : Int} (hk : isI64 k) (hn : isI64 n) (h6 : op = 6 → 1 ≤ k ∧ k ≤ 5) {r : List UInt8} (hr : sepB r) : ScTo (argX op k n) (argT op k n) r := by
  have num : ∀ {m : Int}, isI64 m → ScTo (32 :: itoa m) [tkN m] r := fun {m} hm => ScTo.cat (s1 := [32]) (t1 := []) (ScTo.blank (by decide) _) (ScTo.tok (t := tkN m) (itoa_ok hm 0) hr)
  unfold argX argT
  split
  · exact num hn
  · split
    · exact num hk
    · split
      · rename_i o6
        exact ScTo.cat (s1 := [32]) (t1 := []) (ScTo.blank (by decide) _) (ScTo.tok (t := tkW (binX k)) (word_ok (bin_lets k) (bin_ne (h6 o6))) hr)
      · exact ScTo.nil r
mutual
theorem sc_expr : ∀ (x : XD), x.good → x.wf → ∀ r, ScTo x.text (toksX x) r
  | .mk op k n l, g, w, r => by
    obtain ⟨g1, g2, g3, g4, g5, g6, g7⟩ := g
    obtain ⟨w1, w2, w3, w4⟩ := w
    have e1 := argX_end op k n l r
    have e2 := textsX_end l r
    have a5 : ScTo [41] [tkP 41] r := ScTo.par (.inr rfl) r
    have a4 := ScTo.cat (sc_exprs l g7 w4 ([41] ++ r)) a5
    have a3 := ScTo.cat (s1 := argX op k n) (sc_arg (op := op) w2 w3 g5 (r := textsX l ++ [41] ++ r) (by rw [List.append_assoc]; exact sep_end e2)) a4
    have a2 := ScTo.cat (s1 := wordX op) (ScTo.tok (t := tkW (wordX op)) (word_ok (word_lets op) (word_ne g1)) (r := argX op k n ++ (textsX l ++ [41]) ++ r) (by
      rw [List.append_assoc, List.append_assoc]
      exact sep_end e1)) a3
    have a1 := ScTo.cat (s1 := [40]) (ScTo.par (.inl rfl) _) a2
    simpa only [XD.text, toksX, List.singleton_append] using a1
theorem sc_exprs : ∀ (l : List XD), goodXs l → wfXs l → ∀ r, ScTo (textsX l) (toksXs l) r
  | [], _, _, r => ScTo.nil r
  | x :: l, g, w, r => by
    have a1 := ScTo.cat (s1 := [32]) (t1 := []) (ScTo.blank (by decide) _) (ScTo.cat (sc_expr x g.1 w.1 (textsX l ++ r)) (sc_exprs l g.2 w.2 r))
    simpa only [textsX, toksXs, List.singleton_append, List.nil_append] using a1
end
theorem sc_mod : ∀ (l : List XD), (∀ x ∈ l, x.good ∧ x.wf) → ∀ r, ScTo (modText l) (toksM l) r
  | [], _, r => ScTo.nil r
  | x :: l, h, r => by
    have a4 := ScTo.cat (s1 := [10]) (t1 := []) (ScTo.blank (by decide) _) (sc_mod l (fun y hy => h y (by simp [hy])) r)
    have a3 := ScTo.cat (sc_expr x (h x (by simp)).1 (h x (by simp)).2 _) a4
    have a2 := ScTo.cat (s1 := [32]) (t1 := []) (ScTo.blank (by decide) _) a3
    have a1 := ScTo.cat (s1 := funB) (ScTo.tok (t := tkW funB) (word_ok (by decide) (by decide)) (r := [32] ++ (x.text ++ ([10] ++ modText l)) ++ r) (sep_end ⟨32, _, rfl, .inl rfl⟩)) a2
    simpa only [modText, toksM, List.singleton_append, List.nil_append, List.cons_append] using a1

/-! ### .. and these tokens are that module -/
theorem is_tk {s : List UInt8} (r : List TD) : pIs s (tkW s :: r) = some r := if_pos ⟨rfl, rfl⟩
theorem pick_from {e : Int} {of : Int → List UInt8} {t : TD} {r : List TD} (ht : t.num = false) {j : Nat} (hj : t.text = of j) : ∀ {c k : Nat}, k ≤ j → j < k + c → (∀ i : Nat, k ≤ i → i < j → of i ≠ of j) → pPickFrom e of (t :: r) c k = .ok ((j : Int), r)
  | 0, k, h1, h2, _ => by omega
  | c + 1, k, h1, h2, hne => by
    rw [pPickFrom]
    by_cases hk : k = j
    · subst hk
      have : pIs (of k) (t :: r) = some r := if_pos ⟨ht, hj⟩
      rw [this]
    · have : pIs (of k) (t :: r) = none := if_neg fun h => hne k (Nat.le_refl _) (by omega) (h.2.symm.trans hj)
      rw [this]
      exact pick_from ht hj (by omega) (by omega) fun i h3 h4 => hne i (by omega) h4
theorem pick_word (e : Int) {op : Int} (h : 1 ≤ op ∧ op ≤ 21) (r : List TD) : pPick e 21 wordX (tkW (wordX op) :: r) = .ok (op, r) := by
  obtain ⟨j, rfl⟩ : ∃ j : Nat, op = (j : Int) := ⟨op.toNat, by omega⟩
  exact pick_from rfl rfl (by omega) (by omega) fun i h1 h2 he => by
    have := word_inj (op := i) (op' := j) ⟨by omega, by omega⟩ h he
    omega
theorem pick_bin (e : Int) {k : Int} (h : 1 ≤ k ∧ k ≤ 5) (r : List TD) : pPick e 5 binX (tkW (binX k) :: r) = .ok (k, r) := by
  obtain ⟨j, rfl⟩ : ∃ j : Nat, k = (j : Int) := ⟨k.toNat, by omega⟩
  exact pick_from rfl rfl (by omega) (by omega) fun i h1 h2 he => by
    have := bin_inj (k := i) (k' := j) ⟨by omega, by omega⟩ h he
    omega
mutual
/-- its names are few -/
def XD.few : XD → Prop
  | .mk op k n l => ((op = 4 ∨ op = 18 ∨ op = 15) → 0 ≤ k ∧ k ≤ 999) ∧ fewXs l
def fewXs : List XD → Prop
  | [] => True
  | x :: l => x.few ∧ fewXs l
end
mutual
theorem few_of {nf : Int} (hf : nf ≤ 100) : ∀ (x : XD) (o : Int), o ≤ 12 → x.fault nf o = 0 → x.few
  | .mk op k n l, o, ho, h => by
    rw [XD.fault] at h
    by_cases h1 : headX nf op k n l.length o = 0
    · rw [if_neg (by simp [h1])] at h
      unfold headX at h1
      split at h1
      · cases h1
      · split at h1
        · cases h1
        · split at h1
          · rename_i hn
            exact absurd h1 hn
          · rename_i hn
            split at h1
            · cases h1
            · rename_i h5
              have hn : numsX nf op k n o = 0 := by omega
              refine ⟨fun e => ?_, fews_of hf op l 0 o ho h5 h⟩
              unfold numsX at hn
              split at hn
              · cases hn
              · rcases e with e | e | e
                · rw [if_pos e] at hn
                  split at hn
                  · cases hn
                  · omega
                · rw [if_neg (by omega), if_neg (by omega), if_neg (by omega), if_pos e] at hn
                  split at hn
                  · cases hn
                  · omega
                · rw [if_neg (by omega), if_neg (by omega), if_pos e] at hn
                  split at hn
                  · cases hn
                  · omega
    · rw [if_pos h1] at h
      exact absurd h h1
theorem fews_of {nf : Int} (hf : nf ≤ 100) (op : Int) : ∀ (l : List XD) (i : Nat) (o : Int), o ≤ 12 → ¬ (op = 5 ∧ o = 12) → faultsX nf op i l o = 0 → fewXs l
  | [], _, _, _, _, _ => trivial
  | x :: l, i, o, ho, h5, h => by
    rw [faultsX] at h
    by_cases h1 : x.fault nf (if op = 5 ∧ i = 1 then o + 1 else o) = 0
    · rw [if_neg (by simp [h1])] at h
      exact ⟨few_of hf x _ (by split <;> omega) h1, fews_of hf op l (i + 1) o ho h5 h⟩
    · rw [if_pos h1] at h
      exact absurd h h1
end
theorem arg_tk (e : Int) {op k n : Int} (h1 : (op = 4 ∨ op = 18 ∨ op = 15) → 0 ≤ k ∧ k ≤ 999) (h2 : op ≠ 2 → n = 0) (h3 : op ≠ 4 → op ≠ 6 → op ≠ 15 → op ≠ 18 → k = 0) (h4 : op = 6 → 1 ≤ k ∧ k ≤ 5) (r : List TD) : pArg e op (argT op k n ++ r) = .ok (k, n, r) := by
  unfold pArg argT
  by_cases o2 : op = 2
  · rw [if_pos o2, if_pos o2, h3 (by omega) (by omega) (by omega) (by omega)]
    rfl
  · rw [if_neg o2, if_neg o2, h2 o2]
    by_cases o4 : op = 4 ∨ op = 18 ∨ op = 15
    · obtain ⟨a, b⟩ := h1 o4
      rw [if_pos o4, if_pos o4]
      have hf : pFew e ([tkN k] ++ r) = .ok (k, r) := by
        simp only [List.singleton_append, pFew, tkN]
        rw [if_neg (by rintro ⟨_, h⟩; omega)]
        rfl
      rw [hf]
    · rw [if_neg o4, if_neg o4]
      by_cases o6 : op = 6
      · rw [if_pos o6, if_pos o6, List.singleton_append, pick_bin e (h4 o6)]
      · rw [if_neg o6, if_neg o6, List.nil_append, h3 (by omega) o6 (by omega) (by omega)]
mutual
theorem expr_tk (e : Int) : ∀ (R : Nat) (x : XD), x.good → x.few → x.depth < R → ∀ r, pExpr e R (toksX x ++ r) = .ok (x, r)
  | 0, x, _, _, h, _ => by omega
  | R + 1, .mk op k n l, g, w, hd, r => by
    obtain ⟨g1, g2, g3, g4, g5, g6, g7⟩ := g
    obtain ⟨w1, w2⟩ := w
    have hp := exprs_tk e R l g7 w2 (by
      rw [XD.depth] at hd
      omega) ([tkP 41] ++ r)
    have hn : (partsX op).toNat = l.length := by omega
    have e1 : pWant e [40] (toksX (.mk op k n l) ++ r) = .ok (tkW (wordX op) :: (argT op k n ++ (toksXs l ++ ([tkP 41] ++ r)))) := by
      simp only [toksX, List.cons_append, List.append_assoc]
      exact congrArg (fun o : Option (List TD) => (match o with | some r => .ok r | none => .error (pFail e (tkP 40 :: tkW (wordX op) :: (argT op k n ++ (toksXs l ++ ([tkP 41] ++ r)))) 5) : Except (Int × Int) (List TD))) (is_tk (s := [40]) _)
    have e5 : pWant e [41] ([tkP 41] ++ r) = .ok r := rfl
    simp only [pExpr, e1, pick_word e g1, arg_tk e w1 g3 g4 g5, hn, hp, e5]
theorem exprs_tk (e : Int) : ∀ (R : Nat) (l : List XD), goodXs l → fewXs l → depthsX l ≤ R → ∀ r, pParts (pExpr e R) l.length (toksXs l ++ r) = .ok (l, r)
  | R, [], _, _, _, r => rfl
  | R, x :: l, g, w, hd, r => by
    simp only [depthsX] at hd
    have h1 := expr_tk e R x g.1 w.1 (by omega) (toksXs l ++ r)
    have h2 := exprs_tk e R l g.2 w.2 (by omega) r
    simp only [List.length_cons, pParts, toksXs, List.append_assoc, h1, h2]
end
theorem mod_tk (e : Int) : ∀ (N : Nat) (l : List XD), (∀ x ∈ l, x.good ∧ x.few ∧ x.depth ≤ 30) → l.length ≤ N → pMod e N (toksM l) = .ok l
  | _, [], _, _ => by simp only [toksM, pMod]
  | 0, x :: l, _, h => by simp at h
  | N + 1, x :: l, h, hN => by
    obtain ⟨g, w, d⟩ := h x (by simp)
    have h1 := expr_tk e 31 x g w (by omega) (toksM l)
    have h2 := mod_tk e N l (fun y hy => h y (by simp [hy])) (by simpa using hN)
    have e1 : pWant e funB (tkW funB :: (toksX x ++ toksM l)) = .ok (toksX x ++ toksM l) := rfl
    simp only [toksM, pMod, e1, h1, h2]
/-- THERE AND BACK -/
theorem parse_back {L : List XD} (hc : (checkX L).1 = 0) (hw : ∀ x ∈ L, x.wf) (hl : ¬ 6000 < (modText L).length) : parseR (modText L) = (L, (0, 0)) := by
  obtain ⟨c1, c2, c3⟩ := check_ok hc
  obtain ⟨us, u1, u2⟩ := sc_mod L (fun x hx => ⟨(c3 x hx).2.2.2, hw x hx⟩) [] 0
  rw [List.append_nil, scanD_nil] at u2
  simp only [List.append_nil] at u2
  have hm := mod_tk 0 (toksM L).length L (fun x hx => ⟨(c3 x hx).2.2.2, few_of (nf := L.length) (by omega) x 0 (by omega) (c3 x hx).2.2.1, (c3 x hx).1⟩) (by
    have : ∀ l : List XD, l.length ≤ (toksM l).length := by
      intro l
      induction l with
      | nil => exact Nat.le_refl _
      | cons x l ih =>
        simp only [toksM, List.length_cons, List.length_append]
        omega
    exact this L)
  have m2 := pMod_same (e' := ((modText L).length : Int)) (q := []) (Nat.le_refl _) hm u1 (N' := us.length) (by simp)
  simp only [List.append_nil, List.length_nil, pMod] at m2
  unfold parseR
  rw [scan_out hl u2]
  simp only [m2]
  rw [if_neg (by simp), if_neg (by simpa using hc)]
end Go.Proofs.YtngphebjmmencaaDoor
namespace Go.Proofs.YtngphebjmmencaaDoor
set_option linter.unusedSimpArgs false
set_option linter.unusedVariables false
open Go Go.RowKit

section
variable {h : AH}
set_option maxHeartbeats 1000000 in
theorem RenderBack_run (v : AV) (L : List XD) (m : ∀ h, ModV h v L) (hw : ∀ x ∈ L, x.wf) : runF Tryd.prog po 8 [.agg [v]] h = some (.inl (.bool true), h) := by
  have o1 := (m h).one
  have vb := fun h => renderBegun_run (h := h)
  have q1 := fun h => Great_run (h := h) v L (m h)
  cases g1 : greatX L
  · obtain ⟨hl, hs⟩ := great_no g1
    have e4 := fun h => Print_run (h := h) v L m hl hs hw
    cases c1 : decide ((printX L).2.1 = 0)
    · have hp : (printX L).1 = [] := by
        have c1 := of_decide_eq_false c1
        unfold printX at c1 ⊢
        split
        · rfl
        · split
          · rfl
          · rename_i h1 h2
            rw [if_neg h1, if_neg h2] at c1
            exact absurd rfl c1
      rw [hp] at e4
      generalize printX L = pr at *
      refine runF_E fn_RenderBack rfl fun Q hQ => ?_; unfold rc_RenderBack
      simp only [sim, simB, Nat.reduceAdd, Nat.reduceSub, List.replicate, reduceCtorEq, Nat.reduceLeDiff, Nat.reduceLT, clearA, turns, o1, vb, q1, g1, e4, c1, eq_self]
      exact hQ _ _ _ rfl (by repeat (first | exact GrewA.refl _ | refine GrewA.trans ?_ (GrewA.push _ _) | refine GrewA.trans ?_ (GrewA.fresh _ _))) rfl
    · have c1 := of_decide_eq_true c1
      obtain ⟨p1, z1⟩ := print_zero c1
      have h6 : ¬ 6000 < (modText L).length := by
        intro h6
        unfold printX at c1
        rw [if_neg (by simpa using z1), if_pos h6] at c1
        cases c1
      have pb := parse_back z1 hw h6
      rw [p1] at e4
      have e5 : ∀ h, runF Tryd.prog po 13 [.str (modText L)] h = some (.inl (.tup [.agg [modL L], .agg [.int .i64 0, .int .i64 0]]), h) := fun h => by
        have := Parse_run (h := h) (modText L)
        rw [pb] at this
        exact this
      have e6 := fun h => Print_run (h := h) (modL L) L (fun h => modL_mod h _) hl hs hw
      rw [p1] at e6
      have e7 := fun h => SameModule_run (h := h) v (modL L) L L m (fun h => modL_mod h _) (by omega) (fun x hx => by have := hs x hx; omega)
      rw [sameXs_refl] at e7
      obtain ⟨oc, od⟩ := modL_facts L
      generalize modL L = vl at e5 e6 e7 oc od
      generalize modText L = tx at e4 e5 e6
      simp only [fltA] at e4 e6
      have gH : GrewA h ((h.push [[v]]).push [[.int .i64 0, .int .i64 0]]) := (by repeat (first | exact GrewA.refl _ | refine GrewA.trans ?_ (GrewA.push _ _) | refine GrewA.trans ?_ (GrewA.fresh _ _)))
      have k0 : ((h.push [[v]]).push [[.int .i64 0, .int .i64 0]]).cell h.n = some [[v]] := push2_old
      have nH : ((h.push [[v]]).push [[.int .i64 0, .int .i64 0]]).n = h.n + 2 := rfl
      refine runF_E fn_RenderBack rfl fun Q hQ => ?_; unfold rc_RenderBack
      simp only [sim, simB, Nat.reduceAdd, Nat.reduceSub, List.replicate, reduceCtorEq, Nat.reduceLeDiff, Nat.reduceLT, clearA, turns, o1, vb, q1, g1, e4]
      generalize (h.push [[v]]).push [[AV.int .i64 0, .int .i64 0]] = H at gH k0 nH ⊢
      simp only [sim, simB, Nat.reduceAdd, Nat.reduceSub, List.replicate, reduceCtorEq, Nat.reduceLeDiff, Nat.reduceLT, clearA, e5, oc, od, set2]
      have gI : GrewA h ((H.push [[vl]]).push [[.int .i64 0, .int .i64 0]]) := (gH.trans (GrewA.push _ _)).trans (GrewA.push _ _)
      have i0 : ((H.push [[vl]]).push [[.int .i64 0, .int .i64 0]]).cell h.n = some [[v]] := (push_lt (by rw [push_n]; omega)).trans ((push_lt (by omega)).trans k0)
      have i2 : ((H.push [[vl]]).push [[.int .i64 0, .int .i64 0]]).cell H.n = some [[vl]] := push2_old
      have i3 : ((H.push [[vl]]).push [[.int .i64 0, .int .i64 0]]).cell (H.n + 1) = some [[.int .i64 0, .int .i64 0]] := push2_same
      have nI : ((H.push [[vl]]).push [[.int .i64 0, .int .i64 0]]).n = H.n + 2 := rfl
      generalize (H.push [[vl]]).push [[.int .i64 0, .int .i64 0]] = I at gI i0 i2 i3 nI ⊢
      have q0 : ∀ x, (I.push x).cell h.n = some [[v]] := fun x => (push_lt (by omega)).trans i0
      have q2 : ∀ x, (I.push x).cell H.n = some [[vl]] := fun x => (push_lt (by omega)).trans i2
      have q3 : ∀ x, (I.push x).cell (H.n + 1) = some [[.int .i64 0, .int .i64 0]] := fun x => (push_lt (by omega)).trans i3
      simp only [sim, simB, Nat.reduceAdd, Nat.reduceSub, List.replicate, reduceCtorEq, Nat.reduceLeDiff, Nat.reduceLT, clearA, i2, e6, q0, q2, q3, e7, ld_all, eq_self, beq_self_eq_true]
      exact hQ _ _ _ rfl (gI.trans (GrewA.push _ _)) rfl
  · refine runF_E fn_RenderBack rfl fun Q hQ => ?_; unfold rc_RenderBack
    simp only [sim, simB, Nat.reduceAdd, Nat.reduceSub, List.replicate, reduceCtorEq, Nat.reduceLeDiff, Nat.reduceLT, clearA, o1, vb, q1, g1]
    exact hQ _ _ _ rfl (GrewA.push _ _) rfl
end
theorem renderBack_walk {n0 : Nat} {r0 : List AV} {x0 : Value} (W : World) (t0 : TyA Tryd.prog n0 37 r0) (u0 : VR Tryd.prog (m0A W) h0A (.agg r0) x0) (hg : GoodW Tryd.prog W.heap.size W) :
    Law Tryd.prog 8 #[x0] W := by
  obtain ⟨v, l, rfl, m, w⟩ := modw_of t0
  exact law_of (vs := [x0]) (RenderBack_run v l m w) (VRs.cons u0 VRs.nil) hg
end Go.Proofs.YtngphebjmmencaaDoor
