/- render and the document's texts of modules, in the plain model. the parser in the plain model: expressions. the document's reading of tokens, in the plain model. the document's reading of expressions, in the plain model. the document's reading of expressions, in the plain model: what it comes to. How much a text's module can hold. the document's Parse, in the plain model. -/
import Derived.Test.YtngphebjmmencaaDoorMg10
namespace Go.Proofs.YtngphebjmmencaaDoor
set_option linter.unusedSimpArgs false
set_option linter.unusedVariables false
open Go

section
variable {h : AH}
theorem words_ix : ∀ {op : Int}, ¬ op < 1 → ¬ 21 < op → ixR false (some (22, (1, false))) (.agg (wordsL.map AV.str)) (.int .i64 op) = some (.str (wordX op)) := by
  intro op h1 h2
  rcases op_cases h1 h2 with rfl | rfl | rfl | rfl | rfl | rfl | rfl | rfl | rfl | rfl | rfl | rfl | rfl | rfl | rfl | rfl | rfl | rfl | rfl | rfl | rfl <;> rfl
theorem bin_cases {k : Int} (h1 : ¬ k < 1) (h2 : ¬ 5 < k) : k = 1 ∨ k = 2 ∨ k = 3 ∨ k = 4 ∨ k = 5 := by omega
theorem bins_ix : ∀ {k : Int}, ¬ k < 1 → ¬ 5 < k → ixR false (some (6, (1, false))) (.agg (binsL.map AV.str)) (.int .i64 k) = some (.str (binX k)) := by
  intro k h1 h2
  rcases bin_cases h1 h2 with rfl | rfl | rfl | rfl | rfl <;> rfl
theorem parts_neg {op : Int} (h : op < 1 ∨ 21 < op) : partsX op = -1 := by
  unfold partsX
  split
  · omega
  · split
    · omega
    · split
      · omega
      · split <;> omega
theorem parts_pos {op : Int} (h1 : ¬ op < 1) (h2 : ¬ 21 < op) : ¬ partsX op < 0 := by
  rcases op_cases h1 h2 with rfl | rfl | rfl | rfl | rfl | rfl | rfl | rfl | rfl | rfl | rfl | rfl | rfl | rfl | rfl | rfl | rfl | rfl | rfl | rfl | rfl <;> decide
set_option maxHeartbeats 1000000 in
theorem pWord_run (op : Int) : runF Tryd.prog po 16 [.int .i64 op] h = some (.inl (.str (wordX op)), h) := by
  have cp := fun h => c_Parts (h := h) op
  by_cases hb : op < 1 ∨ 21 < op
  · have e : wordX op = [] := if_pos hb
    rw [parts_neg hb] at cp
    refine runF_E fn_pWord rfl fun Q hQ => ?_; unfold rc_pWord
    simp only [sim, simB, Nat.reduceAdd, Nat.reduceSub, List.replicate, reduceCtorEq, Nat.reduceLeDiff, Nat.reduceLT, clearA, cp, Int.reduceLT]
    rw [e] at hQ
    exact hQ _ _ _ rfl (GrewA.refl _) rfl
  · have h1 : ¬ op < 1 := fun e => hb (.inl e)
    have h2 : ¬ 21 < op := fun e => hb (.inr e)
    have hp := parts_pos h1 h2
    have ix := words_ix h1 h2
    simp only [wordsL, List.map_cons, List.map_nil] at ix
    refine runF_E fn_pWord rfl fun Q hQ => ?_; unfold rc_pWord
    simp only [sim, simB, Nat.reduceAdd, Nat.reduceSub, List.replicate, reduceCtorEq, Nat.reduceLeDiff, Nat.reduceLT, clearA, cp, hp, ix]
    exact hQ _ _ _ rfl (GrewA.refl _) rfl
theorem pBin_run (k : Int) : runF Tryd.prog po 18 [.int .i64 k] h = some (.inl (.str (binX k)), h) := by
  by_cases h1 : k < 1
  · have e : binX k = [] := if_pos (.inl h1)
    rw [e]
    refine runF_E fn_pBin rfl fun Q hQ => ?_; unfold rc_pBin
    simp only [sim, simB, Nat.reduceAdd, Nat.reduceSub, List.replicate, reduceCtorEq, Nat.reduceLeDiff, Nat.reduceLT, clearA, h1]
    exact hQ _ _ _ rfl (GrewA.refl _) rfl
  · by_cases h2 : 5 < k
    · have e : binX k = [] := if_pos (.inr h2)
      rw [e]
      refine runF_E fn_pBin rfl fun Q hQ => ?_; unfold rc_pBin
      simp only [sim, simB, Nat.reduceAdd, Nat.reduceSub, List.replicate, reduceCtorEq, Nat.reduceLeDiff, Nat.reduceLT, clearA, h1, h2]
      exact hQ _ _ _ rfl (GrewA.refl _) rfl
    · have ix := bins_ix h1 h2
      simp only [binsL, List.map_cons, List.map_nil] at ix
      refine runF_E fn_pBin rfl fun Q hQ => ?_; unfold rc_pBin
      simp only [sim, simB, Nat.reduceAdd, Nat.reduceSub, List.replicate, reduceCtorEq, Nat.reduceLeDiff, Nat.reduceLT, clearA, h1, h2, ix]
      exact hQ _ _ _ rfl (GrewA.refl _) rfl
theorem wordsO_ix {i : Option Nat} : ∀ {op : Int}, ¬ op < 1 → ¬ 21 < op → ixaR (some 9) none (.isl i 9 ((wordsL.drop 1).map fun w => [AV.str w])) (.int .i64 (op - 1)) = some (.ip [.str (wordX op)] 0) := by
  intro op h1 h2
  rcases op_cases h1 h2 with rfl | rfl | rfl | rfl | rfl | rfl | rfl | rfl | rfl | rfl | rfl | rfl | rfl | rfl | rfl | rfl | rfl | rfl | rfl | rfl | rfl <;> rfl
theorem binsO_ix {i : Option Nat} : ∀ {k : Int}, ¬ k < 1 → ¬ 5 < k → ixaR (some 9) none (.isl i 9 ((binsL.drop 1).map fun w => [AV.str w])) (.int .i64 (k - 1)) = some (.ip [.str (binX k)] 0) := by
  intro k h1 h2
  rcases bin_cases h1 h2 with rfl | rfl | rfl | rfl | rfl <;> rfl
set_option maxHeartbeats 1000000 in
theorem WordOf_run (op : Int) : runF Tryd.prog po 17 [.int .i64 op] h = some (.inl (.str (wordX op)), h) := by
  have g1 : GrewA h (h.fresh 21) := GrewA.fresh _ _
  by_cases h1 : op < 1
  · have e : wordX op = [] := if_pos (.inl h1)
    rw [e]
    refine runF_E fn_WordOf rfl fun Q hQ => ?_; unfold rc_WordOf
    simp only [sim, simB, Nat.reduceAdd, Nat.reduceSub, List.replicate, reduceCtorEq, Nat.reduceLeDiff, Nat.reduceLT, clearA, h1]
    exact hQ _ _ _ rfl g1 rfl
  · have c21 : ((21 : Nat) : Int) = 21 := rfl
    by_cases h2 : 21 < op
    · have e : wordX op = [] := if_pos (.inr h2)
      rw [e]
      refine runF_E fn_WordOf rfl fun Q hQ => ?_; unfold rc_WordOf
      simp only [sim, simB, Nat.reduceAdd, Nat.reduceSub, List.replicate, reduceCtorEq, Nat.reduceLeDiff, Nat.reduceLT, clearA, h1, c21, h2]
      exact hQ _ _ _ rfl g1 rfl
    · have ix := wordsO_ix (i := some h.ids) h1 h2
      have hw := w64 (n := op - 1) (by omega) (by omega)
      simp only [wordsL, List.drop_succ_cons, List.drop_zero, List.map_cons, List.map_nil] at ix
      refine runF_E fn_WordOf rfl fun Q hQ => ?_; unfold rc_WordOf
      simp only [sim, simB, Nat.reduceAdd, Nat.reduceSub, List.replicate, reduceCtorEq, Nat.reduceLeDiff, Nat.reduceLT, clearA, h1, c21, h2, hw, ix]
      exact hQ _ _ _ rfl g1 rfl
theorem BinOf_run (k : Int) : runF Tryd.prog po 19 [.int .i64 k] h = some (.inl (.str (binX k)), h) := by
  have g1 : GrewA h (h.fresh 5) := GrewA.fresh _ _
  by_cases h1 : k < 1
  · have e : binX k = [] := if_pos (.inl h1)
    rw [e]
    refine runF_E fn_BinOf rfl fun Q hQ => ?_; unfold rc_BinOf
    simp only [sim, simB, Nat.reduceAdd, Nat.reduceSub, List.replicate, reduceCtorEq, Nat.reduceLeDiff, Nat.reduceLT, clearA, h1]
    exact hQ _ _ _ rfl g1 rfl
  · have c5 : ((5 : Nat) : Int) = 5 := rfl
    by_cases h2 : 5 < k
    · have e : binX k = [] := if_pos (.inr h2)
      rw [e]
      refine runF_E fn_BinOf rfl fun Q hQ => ?_; unfold rc_BinOf
      simp only [sim, simB, Nat.reduceAdd, Nat.reduceSub, List.replicate, reduceCtorEq, Nat.reduceLeDiff, Nat.reduceLT, clearA, h1, c5, h2]
      exact hQ _ _ _ rfl g1 rfl
    · have ix := binsO_ix (i := some h.ids) h1 h2
      have hw := w64 (n := k - 1) (by omega) (by omega)
      simp only [binsL, List.drop_succ_cons, List.drop_zero, List.map_cons, List.map_nil] at ix
      refine runF_E fn_BinOf rfl fun Q hQ => ?_; unfold rc_BinOf
      simp only [sim, simB, Nat.reduceAdd, Nat.reduceSub, List.replicate, reduceCtorEq, Nat.reduceLeDiff, Nat.reduceLT, clearA, h1, c5, h2, hw, ix]
      exact hQ _ _ _ rfl g1 rfl
end
end Go.Proofs.YtngphebjmmencaaDoor
namespace Go.Proofs.YtngphebjmmencaaDoor
set_option linter.unusedSimpArgs false
set_option linter.unusedVariables false
open Go

/-- what stands beside a block stays -/
structure Tp (h h' : AH) (b : Nat) : Prop where
  n : h.n ≤ h'.n
  ids : h.ids ≤ h'.ids
  cell : ∀ q, q < h.n → q ≠ b → h'.cell q = h.cell q
  hw : ∀ k, k < h.ids → h'.hw k = h.hw k
section
variable {h h1 h' : AH} {b : Nat}
theorem Tp.refl (h : AH) (b : Nat) : Tp h h b := ⟨Nat.le_refl _, Nat.le_refl _, fun _ _ _ => rfl, fun _ _ => rfl⟩
theorem Tp.trans (x : Tp h h1 b) (y : Tp h1 h' b) : Tp h h' b :=
  ⟨Nat.le_trans x.n y.n, Nat.le_trans x.ids y.ids, fun q hq hn => (y.cell q (Nat.lt_of_lt_of_le hq x.n) hn).trans (x.cell q hq hn), fun k hk => (y.hw k (Nat.lt_of_lt_of_le hk x.ids)).trans (x.hw k hk)⟩
theorem Tp.push (h : AH) (es : List (List AV)) (b : Nat) : Tp h (h.push es) b := ⟨Nat.le_succ _, Nat.le_refl _, fun q hq _ => push_lt hq, fun _ _ => rfl⟩
theorem Tp.pc (h : AH) (b : Nat) (e : Int) (r : List TD) : Tp h (pc h b e r) b := ⟨Nat.le_refl _, Nat.le_refl _, fun q _ hn => set_ne hn, fun _ _ => rfl⟩
theorem Tp.set (x : Tp h h' b) {c : Nat} (hc : h.n ≤ c) (es : Option (List (List AV))) : Tp h (h'.set c es) b := ⟨x.n, x.ids, fun q hq hn => (set_ne (by omega)).trans (x.cell q hq hn), x.hw⟩
theorem PH.keep {e : Int} {l : List TD} (p : PH h b e l) (hc : h'.cell b = h.cell b) : PH h' b e l := by
  obtain ⟨v, h1, h2⟩ := p
  exact ⟨v, hc.trans h1, h2⟩
/-- a memory with these rows' ends alone -/
def ids0 (h : AH) : AH := { n := 0, cell := fun _ => none, ids := h.ids, hw := h.hw }
theorem Tp.gz (x : Tp h h' b) : GrewA (ids0 h) h' := ⟨Nat.zero_le _, x.ids, fun q hq => absurd hq (Nat.not_lt_zero _), x.hw⟩
theorem Acc.tp {h0 : AH} {e : TypeId} {v : AV} {acc : List (List AV)} (ha : Acc h0 h e v acc) (x : Tp h h' b) : Acc h0 h' e v acc := by
  rcases ha with ⟨a1, a2⟩ | ⟨id, a0, a1, a2, a3, a4⟩
  · exact .inl ⟨a1, a2⟩
  · exact .inr ⟨id, a0, a1, Nat.lt_of_lt_of_le a2 x.ids, (x.hw id a2).trans a3, a4⟩
theorem Acc.sla {h0 : AH} {e : TypeId} {v : AV} {acc : List (List AV)} (ha : Acc h0 h e v acc) : SlA e v acc := by
  rcases ha with ⟨rfl, rfl⟩ | ⟨id, _, _, _, _, rfl⟩
  · exact .inl ⟨rfl, rfl⟩
  · exact .inr ⟨_, rfl⟩
theorem Acc.cells' {h0 : AH} {e : TypeId} {v : AV} {acc : List (List AV)} (ha : Acc h0 h e v acc) : v.cells = [v] := by
  rcases ha with ⟨rfl, rfl⟩ | ⟨id, _, _, _, _, rfl⟩ <;> rfl
theorem Acc.one' {h0 : AH} {e : TypeId} {v : AV} {acc : List (List AV)} (ha : Acc h0 h e v acc) : v.one = true := by
  rcases ha with ⟨rfl, rfl⟩ | ⟨id, _, _, _, _, rfl⟩ <;> rfl
end
abbrev zE : List AV := [.int .i64 0, .int .i64 0, .int .i64 0, .nils]
theorem wkR_app {r row : List AV} : ∀ {acc rs : List (List AV)}, wkR acc = some rs → wkL row = some r → wkR (acc ++ [row]) = some (rs ++ [r])
  | [], rs, h, hr => by
    simp only [wkR, Option.some.injEq] at h
    subst h
    simp only [List.nil_append, wkR, hr]
  | x :: acc, rs, h, hr => by
    simp only [wkR] at h
    cases hx : wkL x with
    | none => rw [hx] at h; simp at h
    | some x' =>
      cases ha : wkR acc with
      | none => rw [hx, ha] at h; simp at h
      | some zs =>
        rw [hx, ha] at h
        simp only [Option.some.injEq] at h
        subst h
        simp only [List.cons_append, wkR, hx, wkR_app ha hr]
theorem rowsX_app (x : XD) : ∀ l : List XD, rowsX (l ++ [x]) = rowsX l ++ [rowX x]
  | [] => rfl
  | y :: l => by simp only [List.cons_append, rowsX, rowsX_app x l]
theorem rowsX_len : ∀ l : List XD, (rowsX l).length = l.length
  | [] => rfl
  | y :: l => by simp only [rowsX, List.length_cons, rowsX_len l]
theorem wkR_len : ∀ {acc rs : List (List AV)}, wkR acc = some rs → rs.length = acc.length
  | [], rs, h => by
    simp only [wkR, Option.some.injEq] at h
    subst h
    rfl
  | x :: acc, rs, h => by
    simp only [wkR] at h
    cases hx : wkL x with
    | none => rw [hx] at h; simp at h
    | some x' =>
      cases ha : wkR acc with
      | none => rw [hx, ha] at h; simp at h
      | some zs =>
        rw [hx, ha] at h
        simp only [Option.some.injEq] at h
        subst h
        simp only [List.length_cons, wkR_len ha]
theorem Acc.wkx {h0 h : AH} {v : AV} {acc : List (List AV)} {xs : List XD} (ha : Acc h0 h tE v acc) (hw : wkR acc = some (rowsX xs)) : wkA v = some (lstA tE (rowsX xs)) := by
  have hl := wkR_len hw
  rcases ha with ⟨rfl, rfl⟩ | ⟨id, a0, _, _, _, rfl⟩
  · have : rowsX xs = [] := List.length_eq_zero_iff.1 (by rw [hl]; rfl)
    rw [this]
    rfl
  · have : rowsX xs ≠ [] := fun e => a0 (List.length_eq_zero_iff.1 (by rw [← hl, e]; rfl))
    simp only [wkA, hw, Option.map_some, lstA, if_neg this]
/-- what an expression's reading comes to -/
def ExprOut (e : Int) (b : Nat) (h' : AH) (q : AV ⊕ AV) : Except (Int × Int) (XD × List TD) → Prop
  | .ok (x, r) => (∃ row, q = .inl (.agg row) ∧ ExA x row ∧ wkL row = some (rowX x)) ∧ PH h' b e r
  | .error f => q = .inr (.iface tPg (fltT f))
section
variable {h : AH}
theorem pexpr_zero (e : Int) {b : Nat} {l : List TD} (hb : b < h.n) (p : PH h b e l) : ∃ q h', runF Tryd.prog po 33 [.ptr b 0 0, .int .i64 31] h = some (q, h') ∧ Tp h h' b ∧ ExprOut e b h' q (pExpr e 0 l) := by
  have e2 := pfail_run (p.keep (h' := h.push [[.int .i64 0, .int .i64 0, .int .i64 0, .nils]]) (push_lt hb)) 4
  refine runF_W fn_pexpr rfl fun Q hQ hP => ?_
  unfold rc_pexpr
  simp only [sim, simB, Nat.reduceAdd, Nat.reduceSub, List.replicate, reduceCtorEq, Nat.reduceLeDiff, Nat.reduceLT, clearA, Int.reduceLT, e2]
  exact hP _ _ _ ⟨Tp.push _ _ _, rfl⟩
theorem parts_nn {op : Int} (h1 : 1 ≤ op) (h2 : op ≤ 21) : 0 ≤ partsX op := by
  have := parts_pos (op := op) (by omega) (by omega)
  omega
set_option maxHeartbeats 2000000 in
theorem pexpr_run (e : Int) : ∀ (R : Nat), R ≤ 31 → ∀ (h : AH) (b : Nat) (l : List TD), b < h.n → PH h b e l → ∃ q h', runF Tryd.prog po 33 [.ptr b 0 0, .int .i64 (31 - (R : Int))] h = some (q, h') ∧ Tp h h' b ∧ ExprOut e b h' q (pExpr e R l) := by
  intro R
  induction R with
  | zero => intro _ h b l hb p; exact pexpr_zero e hb p
  | succ R ih =>
    intro hR h b l hb p
    have ih := ih (by omega)
    have dw : IntKind.wrap .i64 (31 - ((R + 1 : Nat) : Int) + 1) = 31 - (R : Int) := w64' (by omega) (by omega) (by omega)
    have d0 : ¬ (30 : Int) < 31 - ((R + 1 : Nat) : Int) := by omega
    generalize 31 - ((R + 1 : Nat) : Int) = dp at dw d0 ⊢
    have t1 : Tp h (h.push [[.int .i64 0, .int .i64 0, .int .i64 0, .nils]]) b := Tp.push _ _ _
    have p1 : PH (h.push [[.int .i64 0, .int .i64 0, .int .i64 0, .nils]]) b e l := p.keep (push_lt hb)
    have c1 : (h.push [[.int .i64 0, .int .i64 0, .int .i64 0, .nils]]).cell h.n = some [zE] := push_same
    have n1 : (h.push [[.int .i64 0, .int .i64 0, .int .i64 0, .nils]]).n = h.n + 1 := rfl
    refine runF_W fn_pexpr rfl fun Q hQ hP => ?_
    unfold rc_pexpr
    cases hw : pWant e [40] l with
    | error f =>
      have e1 := pwant_no p1 hw
      simp only [sim, simB, Nat.reduceAdd, Nat.reduceSub, List.replicate, reduceCtorEq, Nat.reduceLeDiff, Nat.reduceLT, clearA, d0, e1]
      exact hP _ _ _ ⟨t1, by simp only [pExpr, hw]; rfl⟩
    | ok l1 =>
      have e1 := pwant_ok p1 hw
      obtain ⟨q2, h3, e2', m2⟩ := ppick_run (PH.pc (h.push [[.int .i64 0, .int .i64 0, .int .i64 0, .nils]]) b e l1) (of := wordX) (fun k h => pWord_run (h := h) k) (most := 21) (by omega)
      have e2 : runF Tryd.prog po 53 [.ptr b 0 0, .int .i64 21, .fn 16 [] []] (pc (h.push [[.int .i64 0, .int .i64 0, .int .i64 0, .nils]]) b e l1) = some (q2, h3) := e2'
      clear e2'
      cases hp : pPick e 21 wordX l1 with
      | error f =>
        rw [hp] at m2
        obtain ⟨rfl, rfl⟩ := m2
        simp only [sim, simB, Nat.reduceAdd, Nat.reduceSub, List.replicate, reduceCtorEq, Nat.reduceLeDiff, Nat.reduceLT, clearA, d0, e1, e2]
        exact hP _ _ _ ⟨t1.trans (Tp.pc _ _ _ _), by simp only [pExpr, hw, hp]; rfl⟩
      | ok v =>
        obtain ⟨op, l2⟩ := v
        rw [hp] at m2
        obtain ⟨rfl, rfl⟩ := m2
        obtain ⟨o1, o2, _⟩ := pick_ok hp
        have hp0 : 0 ≤ partsX op := parts_nn o1 (by omega)
        have t3 : Tp h (pc (pc (h.push [[.int .i64 0, .int .i64 0, .int .i64 0, .nils]]) b e l1) b e l2) b := (t1.trans (Tp.pc _ _ _ _)).trans (Tp.pc _ _ _ _)
        have p3 : PH (pc (pc (h.push [[.int .i64 0, .int .i64 0, .int .i64 0, .nils]]) b e l1) b e l2) b e l2 := PH.pc _ _ _ _
        have c3 : (pc (pc (h.push [[.int .i64 0, .int .i64 0, .int .i64 0, .nils]]) b e l1) b e l2).cell h.n = some [zE] := (set_ne (by omega)).trans ((set_ne (by omega)).trans c1)
        have n3 : (pc (pc (h.push [[.int .i64 0, .int .i64 0, .int .i64 0, .nils]]) b e l1) b e l2).n = h.n + 1 := rfl
        generalize pc (pc (h.push [[.int .i64 0, .int .i64 0, .int .i64 0, .nils]]) b e l1) b e l2 = h3 at t3 p3 c3 n3 e2
        have cp := fun h => c_Parts (h := h) op
        have whole : ∀ k n l3, pArg e op l2 = .ok (k, n, l3) → pExpr e (R + 1) l = match pParts (pExpr e R) (partsX op).toNat l3 with
            | .error f => .error f
            | .ok (xs, l4) => match pWant e [41] l4 with
              | .error f => .error f
              | .ok l5 => .ok (.mk op k n xs, l5) := fun k n l3 ha => by simp only [pExpr, hw, hp, ha]; cases pParts (pExpr e R) (partsX op).toNat l3 <;> rfl
        have bad : ∀ f, pArg e op l2 = .error f → pExpr e (R + 1) l = .error f := fun f ha => by simp only [pExpr, hw, hp, ha]
        generalize pExpr e (R + 1) l = out at whole bad hQ hP
        have rest_ : ∀ (k n : Int) (l3 : List TD) (h5 : AH) (w6 w7 w8 : AV), pArg e op l2 = .ok (k, n, l3) → Tp h h5 b → h5.cell h.n = some [zE] → h5.cell h3.n = some [[.int .i64 op, .int .i64 k, .int .i64 n, .nils]] → h3.n < h5.n → PH h5 b e l3 →
            Q (runR (runF Tryd.prog po) 12 (.lp rc_pexpr_b1 :: .ss [] :: .blk 1 :: [.ss [(.ops [(.i .l (.mv (.v 0))), (.i .l (.call (.c (.fn 32 [] [])) [(.l 0), (.c (.str [41]))]))]), (.ops [(.i .l (.load true 4 (.v 3))), (.i .n (.store 4 (.v 2) (.l 0)))]), .ret]])
              [.ptr b 0 0, .int .i64 dp, .ptr h.n 0 0, .ptr h3.n 0 0, .bool false, .int .i64 op, w6, w7, w8, .int .i64 (partsX op), .int .i64 0, .junk] [] h5) := by
          intro k n l3 h5 w6 w7 w8 ha t5 c5 x5 n5 p5
          have wh := whole k n l3 ha
          obtain ⟨np, hnp⟩ : ∃ np : Nat, partsX op = (np : Int) := ⟨(partsX op).toNat, by omega⟩
          have np3 : np ≤ 3 := by have := parts_le op; omega
          rw [hnp] at wh ⊢
          simp only [Int.toNat_natCast] at wh
          refine loop_W (fun q : Nat × List XD × List TD => np - q.1) (fun q V h' => ∃ v acc w11, V = [.ptr b 0 0, .int .i64 dp, .ptr h.n 0 0, .ptr h3.n 0 0, .bool false, .int .i64 op, w6, w7, w8, .int .i64 (np : Int), .int .i64 ((q.1 : Nat) : Int), w11] ∧
            Tp h h' b ∧ h'.cell h.n = some [zE] ∧ h'.cell h3.n = some [[.int .i64 op, .int .i64 k, .int .i64 n, v]] ∧ h3.n < h'.n ∧ Acc (ids0 h) h' tE v acc ∧ ExL q.2.1 acc ∧ wkR acc = some (rowsX q.2.1) ∧ PH h' b e q.2.2 ∧ q.2.1.length = q.1 ∧ q.1 ≤ np ∧
            pParts (pExpr e R) np l3 = (match pParts (pExpr e R) (np - q.1) q.2.2 with
              | .error f => .error f
              | .ok (ys, r) => .ok (q.2.1 ++ ys, r))) ?_ (0, [], l3) ⟨.nils, [], _, rfl, t5, c5, x5, n5, acc_nil _ _ _, rfl, rfl, p5, rfl, Nat.zero_le _, by simp only [Nat.sub_zero, List.nil_append]; cases pParts (pExpr e R) np l3 <;> rfl⟩
          rintro ⟨i, xs, lc⟩ V h' ⟨v, acc, w11, rfl, t', cz, cx, nx, ac, xl, xw, pl, hlen, hle, hpp⟩ next
          simp only at xl xw pl hlen hle hpp next ⊢
          by_cases hi : i < np
          · have hlt : (i : Int) < (np : Int) := by omega
            have hwi : IntKind.wrap .i64 ((i : Int) + 1) = ((i + 1 : Nat) : Int) := w64' (by omega) (by omega) (by omega)
            obtain ⟨q, h'', er, tq, oq⟩ := ih h' b lc (Nat.lt_of_lt_of_le hb t'.n) pl
            have cx2 : h''.cell h3.n = some [[.int .i64 op, .int .i64 k, .int .i64 n, v]] := (tq.cell _ nx (by have := n3; omega)).trans cx
            have cz2 : h''.cell h.n = some [zE] := (tq.cell _ (by have := t'.n; omega) (by omega)).trans cz
            obtain ⟨c, hc⟩ : ∃ c, np - i = c + 1 := ⟨np - i - 1, by omega⟩
            have hc2 : np - (i + 1) = c := by omega
            cases ho : pExpr e R lc with
            | error f =>
              rw [ho] at oq
              obtain rfl : q = .inr (.iface tPg (fltT f)) := oq
              have wo : out = .error f := by rw [wh, hpp, hc, pParts, ho]
              rw [r_lpb rc_pexpr_b1.eq_1]
              simp only [sim, simB, Nat.reduceAdd, Nat.reduceSub, List.replicate, reduceCtorEq, Nat.reduceLeDiff, Nat.reduceLT, clearA, hlt, cx, dw, er]
              exact hP _ _ _ ⟨t'.trans tq, by rw [wo]; rfl⟩
            | ok z =>
              obtain ⟨x, r⟩ := z
              rw [ho] at oq
              obtain ⟨⟨row, rfl, xr, rw_⟩, pr⟩ := oq
              obtain ⟨y1, y2⟩ := xr.one
              have lacc := xl.len
              have t2 := t'.trans tq
              obtain ⟨v2, h6, ea, a6, g6, k6, m6⟩ := acc_app (ac.tp tq) t2.gz y1 (by omega)
              have cx6 : h6.cell h3.n = some [[.int .i64 op, .int .i64 k, .int .i64 n, v]] := by rw [k6]; exact cx2
              have v2o := a6.one'
              have v2c := a6.cells'
              rw [r_lpb rc_pexpr_b1.eq_1]
              simp only [sim, simB, Nat.reduceAdd, Nat.reduceSub, List.replicate, reduceCtorEq, Nat.reduceLeDiff, Nat.reduceLT, clearA, hlt, cx, dw, er, cx2, y1, y2, ea, cx6, v2o, v2c, hwi]
              refine next (i + 1, xs ++ [x], r) _ _ (by simp only; omega) ⟨v2, acc ++ [row], _, rfl, ?_, ?_, set_same, ?_, ?_, xl.append xr, by rw [rowsX_app]; exact wkR_app xw rw_, ?_, by simp [hlen], by omega, ?_⟩
              · have t6 : Tp h h6 b := ⟨by rw [m6]; exact t2.n, g6.ids, fun q hq hn => by rw [k6]; exact t2.cell q hq hn, g6.hw⟩
                exact t6.set (by omega) _
              · rw [set_ne (by omega), k6]
                exact cz2
              · rw [set_n, m6]
                exact Nat.lt_of_lt_of_le nx tq.n
              · exact a6
              · refine pr.keep ?_
                rw [set_ne (by omega), k6]
              · rw [hpp, hc, pParts, ho]
                simp only
                rw [hc2]
                cases pParts (pExpr e R) c r with
                | error f => rfl
                | ok z => simp
          · have hlt : ¬ (i : Int) < (np : Int) := by omega
            obtain rfl : i = np := by omega
            rw [Nat.sub_self, pParts] at hpp
            simp only [List.append_nil] at hpp
            rw [hpp] at wh
            simp only at wh
            cases hq : pWant e [41] lc with
            | error f =>
              have e7 := pwant_no pl hq
              rw [hq] at wh
              rw [r_lpb rc_pexpr_b1.eq_1]
              simp only [sim, simB, Nat.reduceAdd, Nat.reduceSub, List.replicate, reduceCtorEq, Nat.reduceLeDiff, Nat.reduceLT, clearA, hlt, e7]
              exact hP _ _ _ ⟨t', by rw [wh]; rfl⟩
            | ok l5 =>
              have e7 := pwant_ok pl hq
              rw [hq] at wh
              have cx7 : (pc h' b e l5).cell h3.n = some [[.int .i64 op, .int .i64 k, .int .i64 n, v]] := (set_ne (by omega)).trans cx
              have cz7 : (pc h' b e l5).cell h.n = some [zE] := (set_ne (by omega)).trans cz
              have vo := ac.one'
              rw [r_lpb rc_pexpr_b1.eq_1]
              simp only [sim, simB, Nat.reduceAdd, Nat.reduceSub, List.replicate, reduceCtorEq, Nat.reduceLeDiff, Nat.reduceLT, clearA, hlt, e7, cx7, cz7, vo]
              refine hQ _ _ (.agg [.int .i64 op, .int .i64 k, .int .i64 n, v]) (by simp only [sim, simB, Nat.reduceAdd, Nat.reduceSub, List.replicate, reduceCtorEq, Nat.reduceLeDiff, Nat.reduceLT, clearA]) ⟨(t'.trans (Tp.pc _ _ _ _)).set (Nat.le_refl _) _, ?_⟩
              rw [wh]
              refine ⟨⟨_, rfl, ?_, ?_⟩, (PH.pc _ _ _ _).keep (set_ne (by omega))⟩
              · simp only [ExA]
                exact ⟨v, acc, rfl, ac.sla, xl⟩
              · have := ac.wkx xw
                simp only [wkL, wkA, this, rowX]
        have p4 : PH (h3.push [[.int .i64 op, .int .i64 0, .int .i64 0, .nils]]) b e l2 := p3.keep (push_lt (by omega))
        have t4 : Tp h (h3.push [[.int .i64 op, .int .i64 0, .int .i64 0, .nils]]) b := t3.trans (Tp.push _ _ _)
        have z4 : (h3.push [[.int .i64 op, .int .i64 0, .int .i64 0, .nils]]).cell h.n = some [zE] := (push_lt (by omega)).trans c3
        have k4 : ∀ l3, (pc (h3.push [[.int .i64 op, .int .i64 0, .int .i64 0, .nils]]) b e l3).cell h3.n = some [[.int .i64 op, .int .i64 0, .int .i64 0, .nils]] := fun l3 => (set_ne (by omega)).trans push_same
        have fin : ∀ (k n : Int) (l3 : List TD) (w6 w7 w8 : AV), pArg e op l2 = .ok (k, n, l3) → Q (runR (runF Tryd.prog po) 12 (.lp rc_pexpr_b1 :: .ss [] :: .blk 1 :: [.ss [(.ops [(.i .l (.mv (.v 0))), (.i .l (.call (.c (.fn 32 [] [])) [(.l 0), (.c (.str [41]))]))]), (.ops [(.i .l (.load true 4 (.v 3))), (.i .n (.store 4 (.v 2) (.l 0)))]), .ret]])
              [.ptr b 0 0, .int .i64 dp, .ptr h.n 0 0, .ptr h3.n 0 0, .bool false, .int .i64 op, w6, w7, w8, .int .i64 (partsX op), .int .i64 0, .junk] [] ((pc (h3.push [[.int .i64 op, .int .i64 0, .int .i64 0, .nils]]) b e l3).set h3.n (some [[.int .i64 op, .int .i64 k, .int .i64 n, .nils]]))) := fun k n l3 w6 w7 w8 ha =>
          rest_ k n l3 _ w6 w7 w8 ha ((t4.trans (Tp.pc _ _ _ _)).set (by omega) _) ((set_ne (by omega)).trans ((set_ne (by omega)).trans z4)) set_same (Nat.lt_succ_self _) ((PH.pc _ _ _ _).keep (set_ne (by omega)))
        by_cases q2 : op = 2
        · have y2 : decide (op = 2) = true := decide_eq_true q2
          cases ha : pNum e l2 with
          | error f =>
            have e8 := pnum_no p4 ha
            simp only [sim, simB, Nat.reduceAdd, Nat.reduceSub, List.replicate, reduceCtorEq, Nat.reduceLeDiff, Nat.reduceLT, clearA, d0, e1, e2, y2, e8]
            exact hP _ _ _ ⟨t4, by rw [bad f (by rw [pArg, if_pos q2, ha])]; rfl⟩
          | ok v =>
            obtain ⟨n, l3⟩ := v
            have e8 := pnum_ok p4 ha
            simp only [sim, simB, Nat.reduceAdd, Nat.reduceSub, List.replicate, reduceCtorEq, Nat.reduceLeDiff, Nat.reduceLT, clearA, d0, e1, e2, y2, e8, k4, cp]
            exact fin 0 n l3 _ _ _ (by rw [pArg, if_pos q2, ha])
        · have y2 : decide (op = 2) = false := decide_eq_false q2
          by_cases q4 : op = 4 ∨ op = 18 ∨ op = 15
          · have yy : (decide (op = 4) = true ∧ True) ∨ (decide (op = 4) = false ∧ decide (op = 18) = true) ∨ (decide (op = 4) = false ∧ decide (op = 18) = false ∧ decide (op = 15) = true) := by
              rcases q4 with rfl | rfl | rfl
              · exact .inl ⟨rfl, trivial⟩
              · exact .inr (.inl ⟨rfl, rfl⟩)
              · exact .inr (.inr ⟨rfl, rfl, rfl⟩)
            cases ha : pFew e l2 with
            | error f =>
              have e8 := pfew_no p4 ha
              have hb2 := bad f (by rw [pArg, if_neg q2, if_pos q4, ha])
              rcases yy with ⟨y4, _⟩ | ⟨y4, y18⟩ | ⟨y4, y18, y15⟩
              · simp only [sim, simB, Nat.reduceAdd, Nat.reduceSub, List.replicate, reduceCtorEq, Nat.reduceLeDiff, Nat.reduceLT, clearA, d0, e1, e2, y2, y4, e8]
                exact hP _ _ _ ⟨t4, by rw [hb2]; rfl⟩
              · simp only [sim, simB, Nat.reduceAdd, Nat.reduceSub, List.replicate, reduceCtorEq, Nat.reduceLeDiff, Nat.reduceLT, clearA, d0, e1, e2, y2, y4, y18, e8]
                exact hP _ _ _ ⟨t4, by rw [hb2]; rfl⟩
              · simp only [sim, simB, Nat.reduceAdd, Nat.reduceSub, List.replicate, reduceCtorEq, Nat.reduceLeDiff, Nat.reduceLT, clearA, d0, e1, e2, y2, y4, y18, y15, e8]
                exact hP _ _ _ ⟨t4, by rw [hb2]; rfl⟩
            | ok v =>
              obtain ⟨k, l3⟩ := v
              have e8 := pfew_ok p4 ha
              have hb2 : pArg e op l2 = .ok (k, 0, l3) := by rw [pArg, if_neg q2, if_pos q4, ha]
              rcases yy with ⟨y4, _⟩ | ⟨y4, y18⟩ | ⟨y4, y18, y15⟩
              · simp only [sim, simB, Nat.reduceAdd, Nat.reduceSub, List.replicate, reduceCtorEq, Nat.reduceLeDiff, Nat.reduceLT, clearA, d0, e1, e2, y2, y4, e8, k4, cp]
                exact fin k 0 l3 _ _ _ hb2
              · simp only [sim, simB, Nat.reduceAdd, Nat.reduceSub, List.replicate, reduceCtorEq, Nat.reduceLeDiff, Nat.reduceLT, clearA, d0, e1, e2, y2, y4, y18, e8, k4, cp]
                exact fin k 0 l3 _ _ _ hb2
              · simp only [sim, simB, Nat.reduceAdd, Nat.reduceSub, List.replicate, reduceCtorEq, Nat.reduceLeDiff, Nat.reduceLT, clearA, d0, e1, e2, y2, y4, y18, y15, e8, k4, cp]
                exact fin k 0 l3 _ _ _ hb2
          · have y4 : decide (op = 4) = false := decide_eq_false fun q => q4 (.inl q)
            have y18 : decide (op = 18) = false := decide_eq_false fun q => q4 (.inr (.inl q))
            have y15 : decide (op = 15) = false := decide_eq_false fun q => q4 (.inr (.inr q))
            by_cases q6 : op = 6
            · have y6 : decide (op = 6) = true := decide_eq_true q6
              obtain ⟨qq, h9, e8', m8⟩ := ppick_run p4 (of := binX) (fun k h => pBin_run (h := h) k) (most := 5) (by omega)
              have e8 : runF Tryd.prog po 53 [.ptr b 0 0, .int .i64 5, .fn 18 [] []] (h3.push [[.int .i64 op, .int .i64 0, .int .i64 0, .nils]]) = some (qq, h9) := e8'
              clear e8'
              cases ha : pPick e 5 binX l2 with
              | error f =>
                rw [ha] at m8
                obtain ⟨rfl, rfl⟩ := m8
                simp only [sim, simB, Nat.reduceAdd, Nat.reduceSub, List.replicate, reduceCtorEq, Nat.reduceLeDiff, Nat.reduceLT, clearA, d0, e1, e2, y2, y4, y18, y15, y6, e8]
                exact hP _ _ _ ⟨t4, by rw [bad f (by rw [pArg, if_neg q2, if_neg q4, if_pos q6, ha])]; rfl⟩
              | ok v =>
                obtain ⟨k, l3⟩ := v
                rw [ha] at m8
                obtain ⟨rfl, rfl⟩ := m8
                simp only [sim, simB, Nat.reduceAdd, Nat.reduceSub, List.replicate, reduceCtorEq, Nat.reduceLeDiff, Nat.reduceLT, clearA, d0, e1, e2, y2, y4, y18, y15, y6, e8, k4, cp]
                exact fin k 0 l3 _ _ _ (by rw [pArg, if_neg q2, if_neg q4, if_pos q6, ha])
            · have y6 : decide (op = 6) = false := decide_eq_false q6
              simp only [sim, simB, Nat.reduceAdd, Nat.reduceSub, List.replicate, reduceCtorEq, Nat.reduceLeDiff, Nat.reduceLT, clearA, d0, e1, e2, y2, y4, y18, y15, y6, cp]
              exact rest_ 0 0 l2 _ _ _ _ (by rw [pArg, if_neg q2, if_neg q4, if_neg q6]) t4 z4 push_same (Nat.lt_succ_self _) p4
end
end Go.Proofs.YtngphebjmmencaaDoor
namespace Go.Proofs.YtngphebjmmencaaDoor
set_option linter.unusedSimpArgs false
set_option linter.unusedVariables false
open Go

/-- a reading: all tokens, the text's end, the next one, the first fault -/
abbrev rrow (v : AV) (e : Int) (i : Nat) (f : Int × Int) : List AV := [v, .int .i64 e, .int .i64 (i : Int), .int .i64 f.1, .int .i64 f.2]
section
variable {h : AH}
theorem rdok_run {b : Nat} {v : AV} {e : Int} {i : Nat} {f : Int × Int} (hc : h.cell b = some [rrow v e i f]) : runF Tryd.prog po 35 [.ptr b 0 0] h = some (.inl (.bool (decide (f.1 = 0))), h) := by
  refine runF_E fn_rdok rfl fun Q hQ => ?_; unfold rc_rdok
  simp only [sim, simB, Nat.reduceAdd, Nat.reduceSub, List.replicate, reduceCtorEq, Nat.reduceLeDiff, Nat.reduceLT, clearA, hc]
  exact hQ _ _ _ rfl (GrewA.refl _) rfl
theorem rdwrong_not {b : Nat} {v : AV} {e code : Int} {i : Nat} {f : Int × Int} (hc : h.cell b = some [rrow v e i f]) (hf : f.1 ≠ 0) : runF Tryd.prog po 61 [.ptr b 0 0, .int .i64 code] h = some (.inl (.tup []), h) := by
  have e1 := rdok_run hc
  have d : decide (f.1 = 0) = false := decide_eq_false hf
  rw [d] at e1
  refine runF_R fn_rdwrong rfl ?_; unfold rc_rdwrong
  simp only [sim, simB, Nat.reduceAdd, Nat.reduceSub, List.replicate, reduceCtorEq, Nat.reduceLeDiff, Nat.reduceLT, clearA, e1]
theorem rdwrong_yes {b : Nat} {v : AV} {e code : Int} {i : Nat} {L : List TD} {y : Int} (hc : h.cell b = some [rrow v e i (0, y)]) (hs : SlA tRk v (rowsT L)) :
    runF Tryd.prog po 61 [.ptr b 0 0, .int .i64 code] h = some (.inl (.tup []), h.set b (some [rrow v e i (pFail e (L.drop i) code)])) := by
  have e1 := rdok_run hc
  have d : decide (((0 : Int), y).1 = 0) = true := rfl
  rw [d] at e1
  have m := hs.isL
  have l1 := m.len
  have q1 := m.fits
  rw [List.length_map] at l1
  have cF := fun h c a => tF_run (h := h) c a
  by_cases hi : i < L.length
  · have hlt : (i : Int) < (L.length : Int) := by omega
    have hy : (rowsT L)[i]? = some (L[i].row) := by simp [hi]
    have x1 := m.ix .i64 i _ hy
    simp only [TD.row] at x1
    have hp : pFail e (L.drop i) code = (code, (L[i].at' : Int)) := by rw [List.drop_eq_getElem_cons hi]; rfl
    rw [hp]
    refine runF_R fn_rdwrong rfl ?_; unfold rc_rdwrong
    simp only [sim, simB, Nat.reduceAdd, Nat.reduceSub, List.replicate, reduceCtorEq, Nat.reduceLeDiff, Nat.reduceLT, clearA, e1, hc, l1, q1, hlt, x1, cF]
  · have hlt : ¬ (i : Int) < (L.length : Int) := by omega
    have hd : L.drop i = [] := List.drop_eq_nil_of_le (by omega)
    by_cases h5 : code = 5
    · have d5 : decide (code = 5) = true := decide_eq_true h5
      have hp : pFail e (L.drop i) code = (6, e) := by rw [hd]; simp [pFail, h5]
      rw [hp]
      refine runF_R fn_rdwrong rfl ?_; unfold rc_rdwrong
      simp only [sim, simB, Nat.reduceAdd, Nat.reduceSub, List.replicate, reduceCtorEq, Nat.reduceLeDiff, Nat.reduceLT, clearA, e1, hc, l1, q1, hlt, d5, cF]
    · have d5 : decide (code = 5) = false := decide_eq_false h5
      have hp : pFail e (L.drop i) code = (code, e) := by rw [hd]; simp [pFail, h5]
      rw [hp]
      refine runF_R fn_rdwrong rfl ?_; unfold rc_rdwrong
      simp only [sim, simB, Nat.reduceAdd, Nat.reduceSub, List.replicate, reduceCtorEq, Nat.reduceLeDiff, Nat.reduceLT, clearA, e1, hc, l1, q1, hlt, d5, cF]
theorem rdis_run {b : Nat} {v : AV} {e : Int} {i : Nat} {L : List TD} {f : Int × Int} (hc : h.cell b = some [rrow v e i f]) (hs : SlA tRk v (rowsT L)) (s : List UInt8) :
    runF Tryd.prog po 60 [.ptr b 0 0, .str s] h = some (.inl (.bool (decide (f.1 = 0) && (pIs s (L.drop i)).isSome)), h) := by
  have e1 := rdok_run hc
  have m := hs.isL
  have l1 := m.len
  have q1 := m.fits
  rw [List.length_map] at l1
  cases d : decide (f.1 = 0) with
  | false =>
    rw [d] at e1
    rw [Bool.false_and]
    refine runF_E fn_rdis rfl fun Q hQ => ?_; unfold rc_rdis
    simp only [sim, simB, Nat.reduceAdd, Nat.reduceSub, List.replicate, reduceCtorEq, Nat.reduceLeDiff, Nat.reduceLT, clearA, e1]
    exact hQ _ _ _ rfl (GrewA.refl _) rfl
  | true =>
    rw [d] at e1
    rw [Bool.true_and]
    by_cases hi : i < L.length
    · have hlt : (i : Int) < (L.length : Int) := by omega
      have hy : (rowsT L)[i]? = some (L[i].row) := by simp [hi]
      have x1 := m.ix .i64 i _ hy
      simp only [TD.row] at x1
      have hd : L.drop i = L[i] :: L.drop (i + 1) := List.drop_eq_getElem_cons hi
      rw [hd]
      cases hn : L[i].num with
      | true =>
        have hz : (pIs s (L[i] :: L.drop (i + 1))).isSome = false := by simp [pIs, hn]
        rw [hz]
        rw [hn] at x1
        refine runF_E fn_rdis rfl fun Q hQ => ?_; unfold rc_rdis
        simp only [sim, simB, Nat.reduceAdd, Nat.reduceSub, List.replicate, reduceCtorEq, Nat.reduceLeDiff, Nat.reduceLT, clearA, e1, hc, l1, q1, hlt, x1]
        exact hQ _ _ _ rfl (GrewA.refl _) rfl
      | false =>
        rw [hn] at x1
        have hz : (pIs s (L[i] :: L.drop (i + 1))).isSome = decide (L[i].text = s) := by
          by_cases ht : L[i].text = s <;> simp [pIs, hn, ht]
        rw [hz]
        refine runF_E fn_rdis rfl fun Q hQ => ?_; unfold rc_rdis
        simp only [sim, simB, Nat.reduceAdd, Nat.reduceSub, List.replicate, reduceCtorEq, Nat.reduceLeDiff, Nat.reduceLT, clearA, e1, hc, l1, q1, hlt, x1]
        exact hQ _ _ _ rfl (GrewA.refl _) rfl
    · have hlt : ¬ (i : Int) < (L.length : Int) := by omega
      have hd : L.drop i = [] := List.drop_eq_nil_of_le (by omega)
      rw [hd]
      have hz : (pIs s []).isSome = false := rfl
      rw [hz]
      refine runF_E fn_rdis rfl fun Q hQ => ?_; unfold rc_rdis
      simp only [sim, simB, Nat.reduceAdd, Nat.reduceSub, List.replicate, reduceCtorEq, Nat.reduceLeDiff, Nat.reduceLT, clearA, e1, hc, l1, q1, hlt]
      exact hQ _ _ _ rfl (GrewA.refl _) rfl
/-- it must come: one is gone over, or there is a fault -/
theorem rdmust_yes {b : Nat} {v : AV} {e : Int} {i : Nat} {L : List TD} {s : List UInt8} {r : List TD} {y : Int} (hc : h.cell b = some [rrow v e i (0, y)]) (hs : SlA tRk v (rowsT L)) (hl : L.length ≤ 1000000) (hw : pIs s (L.drop i) = some r) :
    runF Tryd.prog po 36 [.ptr b 0 0, .str s] h = some (.inl (.tup []), h.set b (some [rrow v e (i + 1) (0, y)])) := by
  have e1 := rdis_run hc hs s
  rw [hw] at e1
  have e2 : (decide (((0 : Int), y).1 = 0) && (some r).isSome) = true := rfl
  rw [e2] at e1
  have hi : i < L.length := by
    rcases Nat.lt_or_ge i L.length with h | h
    · exact h
    · rw [List.drop_eq_nil_of_le h] at hw
      cases hw
  have hwi : IntKind.wrap .i64 ((i : Int) + 1) = ((i + 1 : Nat) : Int) := w64' (by omega) (by omega) (by omega)
  refine runF_R fn_rdmust rfl ?_; unfold rc_rdmust
  simp only [sim, simB, Nat.reduceAdd, Nat.reduceSub, List.replicate, reduceCtorEq, Nat.reduceLeDiff, Nat.reduceLT, clearA, e1, hc, hwi]
theorem rdmust_no {b : Nat} {v : AV} {e : Int} {i : Nat} {L : List TD} {s : List UInt8} {y : Int} (hc : h.cell b = some [rrow v e i (0, y)]) (hs : SlA tRk v (rowsT L)) (hw : pIs s (L.drop i) = none) :
    runF Tryd.prog po 36 [.ptr b 0 0, .str s] h = some (.inl (.tup []), h.set b (some [rrow v e i (pFail e (L.drop i) 5)])) := by
  have e1 := rdis_run hc hs s
  rw [hw] at e1
  have e2 : (decide (((0 : Int), y).1 = 0) && (none : Option (List TD)).isSome) = false := rfl
  rw [e2] at e1
  have e3 := rdwrong_yes (code := 5) hc hs
  refine runF_R fn_rdmust rfl ?_; unfold rc_rdmust
  simp only [sim, simB, Nat.reduceAdd, Nat.reduceSub, List.replicate, reduceCtorEq, Nat.reduceLeDiff, Nat.reduceLT, clearA, e1, e3]
theorem rdmust_not {b : Nat} {v : AV} {e : Int} {i : Nat} {L : List TD} {s : List UInt8} {f : Int × Int} (hc : h.cell b = some [rrow v e i f]) (hs : SlA tRk v (rowsT L)) (hf : f.1 ≠ 0) :
    runF Tryd.prog po 36 [.ptr b 0 0, .str s] h = some (.inl (.tup []), h) := by
  have e1 := rdis_run hc hs s
  rw [decide_eq_false hf, Bool.false_and] at e1
  have e3 := rdwrong_not (code := 5) hc hf
  refine runF_R fn_rdmust rfl ?_; unfold rc_rdmust
  simp only [sim, simB, Nat.reduceAdd, Nat.reduceSub, List.replicate, reduceCtorEq, Nat.reduceLeDiff, Nat.reduceLT, clearA, e1, e3]
theorem at_tok {L : List TD} {i : Nat} (hi : i < L.length) {v : AV} (hs : SlA tRk v (rowsT L)) : ixaR (some tRk) none v (.int .i64 (i : Int)) = some (.ip [.int .i64 (L[i].at' : Nat), .str L[i].text, .bool L[i].num, .int .i64 L[i].n] 0) ∧ L.drop i = L[i] :: L.drop (i + 1) := by
  have hy : (rowsT L)[i]? = some (L[i].row) := by simp [hi]
  exact ⟨hs.isL.ix .i64 i _ hy, List.drop_eq_getElem_cons hi⟩
theorem rdnumber_yes {b : Nat} {v : AV} {e n : Int} {i : Nat} {L : List TD} {r : List TD} {y : Int} (hc : h.cell b = some [rrow v e i (0, y)]) (hs : SlA tRk v (rowsT L)) (hl : L.length ≤ 1000000) (hn : pNum e (L.drop i) = .ok (n, r)) :
    runF Tryd.prog po 62 [.ptr b 0 0] h = some (.inl (.int .i64 n), h.set b (some [rrow v e (i + 1) (0, y)])) := by
  have e1 := rdok_run hc
  have d : decide (((0 : Int), y).1 = 0) = true := rfl
  rw [d] at e1
  have m := hs.isL
  have l1 := m.len
  have q1 := m.fits
  rw [List.length_map] at l1
  have hi : i < L.length := by
    rcases Nat.lt_or_ge i L.length with h | h
    · exact h
    · rw [List.drop_eq_nil_of_le h] at hn
      cases hn
  obtain ⟨x1, hd⟩ := at_tok hi hs
  obtain ⟨t, et, tn, tv⟩ := num_ok hn
  have et1 : L[i] = t := (List.cons.inj (hd.symm.trans et)).1
  rw [et1, tn, tv] at x1
  have hge : ¬ (L.length : Int) ≤ (i : Int) := by omega
  have hwi : IntKind.wrap .i64 ((i : Int) + 1) = ((i + 1 : Nat) : Int) := w64' (by omega) (by omega) (by omega)
  have hwj : IntKind.wrap .i64 (((i + 1 : Nat) : Int) - 1) = (i : Int) := w64' (by omega) (by omega) (by omega)
  refine runF_R fn_rdnumber rfl ?_; unfold rc_rdnumber
  simp only [sim, simB, Nat.reduceAdd, Nat.reduceSub, List.replicate, reduceCtorEq, Nat.reduceLeDiff, Nat.reduceLT, clearA, e1, hc, l1, q1, hge, x1, hwi, hwj]
theorem rdnumber_no {b : Nat} {v : AV} {e : Int} {i : Nat} {L : List TD} {f : Int × Int} {y : Int} (hc : h.cell b = some [rrow v e i (0, y)]) (hs : SlA tRk v (rowsT L)) (hn : pNum e (L.drop i) = .error f) :
    runF Tryd.prog po 62 [.ptr b 0 0] h = some (.inl (.int .i64 0), h.set b (some [rrow v e i f])) := by
  have e1 := rdok_run hc
  have d : decide (((0 : Int), y).1 = 0) = true := rfl
  rw [d] at e1
  have m := hs.isL
  have l1 := m.len
  have q1 := m.fits
  rw [List.length_map] at l1
  have e3 := rdwrong_yes (code := 5) hc hs
  have hf : f = pFail e (L.drop i) 5 := by
    cases hd : L.drop i with
    | nil => rw [hd] at hn; exact (Except.error.inj hn).symm
    | cons t r =>
      rw [hd] at hn
      simp only [pNum] at hn
      split at hn
      · cases hn
      · exact (Except.error.inj hn).symm
  rw [hf]
  by_cases hi : i < L.length
  · obtain ⟨x1, hd⟩ := at_tok hi hs
    have tn : L[i].num = false := by
      cases hx : L[i].num with
      | false => rfl
      | true =>
        rw [hd] at hn
        simp only [pNum, hx, if_true] at hn
        cases hn
    rw [tn] at x1
    have hge : ¬ (L.length : Int) ≤ (i : Int) := by omega
    refine runF_R fn_rdnumber rfl ?_; unfold rc_rdnumber
    simp only [sim, simB, Nat.reduceAdd, Nat.reduceSub, List.replicate, reduceCtorEq, Nat.reduceLeDiff, Nat.reduceLT, clearA, e1, hc, l1, q1, hge, x1, e3]
  · have hge : (L.length : Int) ≤ (i : Int) := by omega
    refine runF_R fn_rdnumber rfl ?_; unfold rc_rdnumber
    simp only [sim, simB, Nat.reduceAdd, Nat.reduceSub, List.replicate, reduceCtorEq, Nat.reduceLeDiff, Nat.reduceLT, clearA, e1, hc, l1, q1, hge, e3]
theorem rdnumber_not {b : Nat} {v : AV} {e : Int} {i : Nat} {f : Int × Int} (hc : h.cell b = some [rrow v e i f]) (hf : f.1 ≠ 0) : runF Tryd.prog po 62 [.ptr b 0 0] h = some (.inl (.int .i64 0), h) := by
  have e1 := rdok_run hc
  rw [decide_eq_false hf] at e1
  refine runF_R fn_rdnumber rfl ?_; unfold rc_rdnumber
  simp only [sim, simB, Nat.reduceAdd, Nat.reduceSub, List.replicate, reduceCtorEq, Nat.reduceLeDiff, Nat.reduceLT, clearA, e1]
theorem rdfew_not {b : Nat} {v : AV} {e : Int} {i : Nat} {f : Int × Int} (hc : h.cell b = some [rrow v e i f]) (hf : f.1 ≠ 0) : runF Tryd.prog po 63 [.ptr b 0 0] h = some (.inl (.int .i64 0), h) := by
  have e1 := rdok_run hc
  have e2 := rdnumber_not hc hf
  rw [decide_eq_false hf] at e1
  refine runF_R fn_rdfew rfl ?_; unfold rc_rdfew
  simp only [sim, simB, Nat.reduceAdd, Nat.reduceSub, List.replicate, reduceCtorEq, Nat.reduceLeDiff, Nat.reduceLT, clearA, e1, e2]
theorem rdfew_yes {b : Nat} {v : AV} {e n : Int} {i : Nat} {L : List TD} {r : List TD} {y : Int} (hc : h.cell b = some [rrow v e i (0, y)]) (hs : SlA tRk v (rowsT L)) (hl : L.length ≤ 1000000) (hn : pFew e (L.drop i) = .ok (n, r)) :
    runF Tryd.prog po 63 [.ptr b 0 0] h = some (.inl (.int .i64 n), h.set b (some [rrow v e (i + 1) (0, y)])) := by
  have e1 := rdok_run hc
  have d : decide (((0 : Int), y).1 = 0) = true := rfl
  rw [d] at e1
  have m := hs.isL
  have l1 := m.len
  have q1 := m.fits
  rw [List.length_map] at l1
  have hi : i < L.length := by
    rcases Nat.lt_or_ge i L.length with h | h
    · exact h
    · rw [List.drop_eq_nil_of_le h] at hn
      cases hn
  obtain ⟨x1, hd⟩ := at_tok hi hs
  obtain ⟨t, et, tn, tv, n0, n1⟩ := few_ok hn
  have et1 : L[i] = t := (List.cons.inj (hd.symm.trans et)).1
  have e2 := rdnumber_yes hc hs hl (show pNum e (L.drop i) = .ok (n, r) by rw [et]; simp [pNum, tn, tv])
  rw [et1, tn, tv] at x1
  have hlt : (i : Int) < (L.length : Int) := by omega
  have d1 : decide (n < 0) = false := decide_eq_false (by omega)
  have d2 : decide (999 < n) = false := decide_eq_false (by omega)
  refine runF_R fn_rdfew rfl ?_; unfold rc_rdfew
  simp only [sim, simB, Nat.reduceAdd, Nat.reduceSub, List.replicate, reduceCtorEq, Nat.reduceLeDiff, Nat.reduceLT, clearA, e1, hc, l1, q1, hlt, x1, d1, d2, e2]
theorem rdfew_no {b : Nat} {v : AV} {e : Int} {i : Nat} {L : List TD} {f : Int × Int} {y : Int} (hc : h.cell b = some [rrow v e i (0, y)]) (hs : SlA tRk v (rowsT L)) (hn : pFew e (L.drop i) = .error f) :
    runF Tryd.prog po 63 [.ptr b 0 0] h = some (.inl (.int .i64 0), h.set b (some [rrow v e i f])) := by
  have e1 := rdok_run hc
  have d : decide (((0 : Int), y).1 = 0) = true := rfl
  rw [d] at e1
  have m := hs.isL
  have l1 := m.len
  have q1 := m.fits
  rw [List.length_map] at l1
  by_cases hi : i < L.length
  · obtain ⟨x1, hd⟩ := at_tok hi hs
    have hlt : (i : Int) < (L.length : Int) := by omega
    rw [hd] at hn
    simp only [pFew] at hn
    split at hn
    · rename_i hm
      have hf : f = pFail e (L.drop i) 1 := by rw [hd]; exact (Except.error.inj hn).symm
      have e3 := rdwrong_yes (code := 1) hc hs
      have c3 : (h.set b (some [rrow v e i (pFail e (L.drop i) 1)])).cell b = some [rrow v e i (pFail e (L.drop i) 1)] := set_same
      have e4 := rdnumber_not c3 (by rw [hd]; show (1 : Int) ≠ 0; decide)
      rw [hf]
      rw [hm.1] at x1
      cases d1 : decide (L[i].n < 0) with
      | true =>
        refine runF_R fn_rdfew rfl ?_; unfold rc_rdfew
        simp only [sim, simB, Nat.reduceAdd, Nat.reduceSub, List.replicate, reduceCtorEq, Nat.reduceLeDiff, Nat.reduceLT, clearA, e1, hc, l1, q1, hlt, x1, d1, e3, e4]
      | false =>
        have d2 : decide (999 < L[i].n) = true := decide_eq_true (hm.2.resolve_left (of_decide_eq_false d1))
        refine runF_R fn_rdfew rfl ?_; unfold rc_rdfew
        simp only [sim, simB, Nat.reduceAdd, Nat.reduceSub, List.replicate, reduceCtorEq, Nat.reduceLeDiff, Nat.reduceLT, clearA, e1, hc, l1, q1, hlt, x1, d1, d2, e3, e4]
    · have e2 := rdnumber_no hc hs (show pNum e (L.drop i) = .error f by rw [hd]; exact hn)
      have hx : L[i].num = false := by
        cases hx : L[i].num with
        | false => rfl
        | true =>
          simp only [pNum, hx, if_true] at hn
          cases hn
      rw [hx] at x1
      refine runF_R fn_rdfew rfl ?_; unfold rc_rdfew
      simp only [sim, simB, Nat.reduceAdd, Nat.reduceSub, List.replicate, reduceCtorEq, Nat.reduceLeDiff, Nat.reduceLT, clearA, e1, hc, l1, q1, hlt, x1, e2]
  · have hlt : ¬ (i : Int) < (L.length : Int) := by omega
    have hd : L.drop i = [] := List.drop_eq_nil_of_le (by omega)
    have e2 := rdnumber_no hc hs (show pNum e (L.drop i) = .error f by rw [hd] at hn ⊢; exact hn)
    refine runF_R fn_rdfew rfl ?_; unfold rc_rdfew
    simp only [sim, simB, Nat.reduceAdd, Nat.reduceSub, List.replicate, reduceCtorEq, Nat.reduceLeDiff, Nat.reduceLT, clearA, e1, hc, l1, q1, hlt, e2]
end
end Go.Proofs.YtngphebjmmencaaDoor
namespace Go.Proofs.YtngphebjmmencaaDoor
set_option linter.unusedSimpArgs false
set_option linter.unusedVariables false
open Go

/-- the last word that comes, of those from a number on -/
def lastW (of : Int → List UInt8) (l : List TD) : Nat → Nat → Int → Int
  | 0, _, x => x
  | c + 1, k, x => lastW of l c (k + 1) (if (pIs (of (k : Int)) l).isSome = true then (k : Int) else x)
theorem lastW_from {e : Int} {of : Int → List UInt8} {l : List TD} : ∀ {c k : Nat} {x : Int}, (∀ i j : Nat, k ≤ i → i < k + c → k ≤ j → j < k + c → of i = of j → i = j) →
    lastW of l c k x = match pPickFrom e of l c k with
      | .ok q => q.1
      | .error _ => x
  | 0, k, x, _ => rfl
  | c + 1, k, x, hi => by
    have ih := fun x => lastW_from (e := e) (of := of) (l := l) (c := c) (k := k + 1) (x := x) fun i j h1 h2 h3 h4 => hi i j (by omega) (by omega) (by omega) (by omega)
    rw [lastW, ih, pPickFrom]
    cases hp : pIs (of k) l with
    | none => rfl
    | some r =>
      simp only [Option.isSome_some, if_true]
      cases hq : pPickFrom e of l c (k + 1) with
      | error f => rfl
      | ok q =>
        obtain ⟨j, r2⟩ := q
        obtain ⟨n, rfl, h2, h3, h4⟩ := pickFrom_ok hq
        obtain ⟨t, rfl, _, t2⟩ := is_some hp
        obtain ⟨t', e', _, t3⟩ := is_some h4
        injection e' with e1 _
        subst e1
        have := hi k n (Nat.le_refl _) (by omega) (by omega) (by omega) (t2.symm.trans t3)
        omega
theorem last_word (e : Int) (l : List TD) : lastW wordX l 21 1 0 = match pPick e 21 wordX l with
    | .ok q => q.1
    | .error _ => 0 := lastW_from fun i j h1 h2 h3 h4 h => by
  have := word_inj (op := i) (op' := j) ⟨by omega, by omega⟩ ⟨by omega, by omega⟩ h
  omega
theorem last_bin (e : Int) (l : List TD) : lastW binX l 5 1 0 = match pPick e 5 binX l with
    | .ok q => q.1
    | .error _ => 0 := lastW_from fun i j h1 h2 h3 h4 h => by
  have := bin_inj (k := i) (k' := j) ⟨by omega, by omega⟩ ⟨by omega, by omega⟩ h
  omega
theorem pickFrom_err {e : Int} {of : Int → List UInt8} {l : List TD} {f : Int × Int} : ∀ {c k : Nat}, pPickFrom e of l c k = .error f → f = pFail e l 5
  | 0, k, h => (Except.error.inj h).symm
  | c + 1, k, h => by
    rw [pPickFrom] at h
    split at h
    · cases h
    · exact pickFrom_err h
theorem fail_nz {e code : Int} (l : List TD) (h : code ≠ 0) : (pFail e l code).1 ≠ 0 := by
  cases l with
  | nil =>
    simp only [pFail]
    split
    · decide
    · exact h
  | cons t r => exact h
theorem arg_nz {e op : Int} {l : List TD} {f : Int × Int} (h : pArg e op l = .error f) : f.1 ≠ 0 := by
  have num : ∀ {l f}, pNum e l = .error f → f.1 ≠ 0 := by
    intro l f h
    cases l with
    | nil => rw [← Except.error.inj h]; exact fail_nz _ (by decide)
    | cons t r =>
      simp only [pNum] at h
      split at h
      · cases h
      · rw [← Except.error.inj h]; exact fail_nz _ (by decide)
  unfold pArg at h
  split at h
  · split at h
    · cases h
    · rename_i g hg
      rw [← Except.error.inj h]
      exact num hg
  · split at h
    · split at h
      · cases h
      · rename_i g hg
        rw [← Except.error.inj h]
        cases l with
        | nil => rw [← Except.error.inj hg]; exact fail_nz _ (by decide)
        | cons t r =>
          simp only [pFew] at hg
          split at hg
          · rw [← Except.error.inj hg]; exact fail_nz _ (by decide)
          · exact num hg
    · split at h
      · split at h
        · cases h
        · rename_i g hg
          rw [← Except.error.inj h, pickFrom_err hg]
          exact fail_nz _ (by decide)
      · cases h
theorem parts_nz {F : List TD → Except (Int × Int) (XD × List TD)} (hF : ∀ l f, F l = .error f → f.1 ≠ 0) : ∀ {n : Nat} {l : List TD} {f : Int × Int}, pParts F n l = .error f → f.1 ≠ 0
  | 0, l, f, h => by cases h
  | n + 1, l, f, h => by
    rw [pParts] at h
    split at h
    · rename_i g hg
      rw [← Except.error.inj h]
      exact hF _ _ hg
    · split at h
      · rename_i g hg
        rw [← Except.error.inj h]
        exact parts_nz hF hg
      · cases h
theorem want_nz {e : Int} {s : List UInt8} {l : List TD} {f : Int × Int} (h : pWant e s l = .error f) : f.1 ≠ 0 := by
  rw [(want_err h).2]
  exact fail_nz _ (by decide)
theorem expr_nz (e : Int) : ∀ (R : Nat) (l : List TD) (f : Int × Int), pExpr e R l = .error f → f.1 ≠ 0
  | 0, l, f, h => by
    rw [← Except.error.inj h]
    exact fail_nz _ (by decide)
  | R + 1, l, f, h => by
    rw [pExpr] at h
    split at h
    · rename_i g hg
      rw [← Except.error.inj h]
      exact want_nz hg
    · split at h
      · rename_i g hg
        rw [← Except.error.inj h, pickFrom_err hg]
        exact fail_nz _ (by decide)
      · split at h
        · rename_i g hg
          rw [← Except.error.inj h]
          exact arg_nz hg
        · split at h
          · rename_i g hg
            rw [← Except.error.inj h]
            exact parts_nz (expr_nz e R) hg
          · split at h
            · rename_i g hg
              rw [← Except.error.inj h]
              exact want_nz hg
            · cases h
theorem set_idT {h : AH} {b : Nat} {es : Option (List (List AV))} (hc : h.cell b = es) : h.set b es = h := by
  cases h with
  | mk =>
    simp only [AH.set, AH.mk.injEq, and_true, true_and]
    funext k
    by_cases hk : k = b
    · subst hk
      simpa using hc.symm
    · simp [hk]
theorem Tp.setb {h h' : AH} {b : Nat} (x : Tp h h' b) (es : Option (List (List AV))) : Tp h (h'.set b es) b := ⟨x.n, x.ids, fun q hq hn => (set_ne hn).trans (x.cell q hq hn), x.hw⟩

/-- behind the first bracket; behind the parts' number -/
def rdR1 : List RS := rc_rdexpr.drop 7
def rdR2 : List RS := rc_rdexpr.drop 14
section
variable {h4 : AH} {b n x : Nat} {v dp w4 w5 w6 w7 w8 w9 w10 w11 w12 w13 w14 w15 w16 w17 w18 : AV} {e : Int} {i : Nat} {L : List TD} {f : Int × Int}
/-- behind a fault: no word comes, and that's all -/
theorem rdx_stop (hc : h4.cell b = some [rrow v e i f]) (hs : SlA tRk v (rowsT L)) (hf : f.1 ≠ 0) (hn : h4.cell n = some [zE]) (hx : h4.cell x = some [zE]) {Q : RRun → Prop}
    (hQ : ∀ V' : List AV, V'.getD 2 .junk = .ptr n 0 0 → Q (some (.ret, V', h4))) :
    Q (runR (runF Tryd.prog po) 19 (.lp rc_rdexpr_b3 :: .ss [] :: .blk 0 :: [.ss rdR1]) [.ptr b 0 0, dp, .ptr n 0 0, .ptr x 0 0, .int .i64 1, w5, w6, w7, w8, w9, w10, w11, w12, w13, w14, w15, w16, w17, w18] [] h4) := by
  have hz := set_idT hn
  refine loop_W (fun k : Nat => 22 - k) (fun k V h' => ∃ w8 w9, V = [.ptr b 0 0, dp, .ptr n 0 0, .ptr x 0 0, .int .i64 (k : Int), w5, w6, w7, w8, w9, w10, w11, w12, w13, w14, w15, w16, w17, w18] ∧ h' = h4 ∧ 1 ≤ k ∧ k ≤ 22) ?_ 1 ⟨_, _, rfl, rfl, by omega, by omega⟩
  rintro k V h' ⟨w8, w9, rfl, rfl, k1, k2⟩ next
  by_cases hk : k ≤ 21
  · have hlt : (k : Int) ≤ 21 := by omega
    have hwi : IntKind.wrap .i64 ((k : Int) + 1) = ((k + 1 : Nat) : Int) := w64' (by omega) (by omega) (by omega)
    have e1 := rdis_run hc hs (wordX k)
    rw [decide_eq_false hf, Bool.false_and] at e1
    have e2 := fun h => WordOf_run (h := h) (k : Int)
    rw [r_lpb rc_rdexpr_b3.eq_1]
    simp only [sim, simB, Nat.reduceAdd, Nat.reduceSub, List.replicate, reduceCtorEq, Nat.reduceLeDiff, Nat.reduceLT, clearA, hlt, e2, e1, hwi]
    exact next (k + 1) _ _ (by omega) ⟨_, _, rfl, rfl, by omega, by omega⟩
  · have hlt : ¬ (k : Int) ≤ 21 := by omega
    have e1 := rdwrong_not (code := 5) hc hf
    rw [r_lpb rc_rdexpr_b3.eq_1]
    simp only [rdR1, rc_rdexpr, List.drop_succ_cons, List.drop_zero]
    simp only [sim, simB, Nat.reduceAdd, Nat.reduceSub, List.replicate, reduceCtorEq, Nat.reduceLeDiff, Nat.reduceLT, clearA, hlt, hx, e1, hn, hz]
    exact hQ _ rfl
/-- behind a fault: no part comes, and that's all -/
theorem rdx_end {op k m : Int} {vv : AV} (hc : h4.cell b = some [rrow v e i f]) (hs : SlA tRk v (rowsT L)) (hf : f.1 ≠ 0) (hn : h4.cell n = some [zE]) (hx : h4.cell x = some [[.int .i64 op, .int .i64 k, .int .i64 m, vv]]) (hv : vv.one = true) (hvc : vv.cells = [vv]) {j : Int} {Q : RRun → Prop}
    (hQ : ∀ V' : List AV, V'.getD 2 .junk = .ptr n 0 0 → Q (some (.ret, V', h4.set n (some [[.int .i64 op, .int .i64 k, .int .i64 m, vv]])))) :
    Q (runR (runF Tryd.prog po) 19 (.lp rc_rdexpr_b1 :: .ss [] :: .blk 5 :: [.ss rdR2]) [.ptr b 0 0, dp, .ptr n 0 0, .ptr x 0 0, w4, w5, .int .i64 j, w7, w8, w9, w10, w11, w12, w13, w14, w15, w16, w17, w18] [] h4) := by
  have e1 := rdok_run hc
  rw [decide_eq_false hf] at e1
  have e2 := fun h => r_PartsOf (h := h) op
  have e3 := rdmust_not (s := [41]) hc hs hf
  cases hd : decide (j < partsX op) with
  | true =>
    have hlt : j < partsX op := of_decide_eq_true hd
    rw [r_lpb rc_rdexpr_b1.eq_1]
    simp only [rdR2, rc_rdexpr, List.drop_succ_cons, List.drop_zero]
    simp only [sim, simB, Nat.reduceAdd, Nat.reduceSub, List.replicate, reduceCtorEq, Nat.reduceLeDiff, Nat.reduceLT, clearA, hx, e2, hlt, e1, e3, hn, hv, hvc]
    exact hQ _ rfl
  | false =>
    have hlt : ¬ j < partsX op := of_decide_eq_false hd
    rw [r_lpb rc_rdexpr_b1.eq_1]
    simp only [rdR2, rc_rdexpr, List.drop_succ_cons, List.drop_zero]
    simp only [sim, simB, Nat.reduceAdd, Nat.reduceSub, List.replicate, reduceCtorEq, Nat.reduceLeDiff, Nat.reduceLT, clearA, hx, e2, hlt, e3, hn, hv, hvc]
    exact hQ _ rfl
end
end Go.Proofs.YtngphebjmmencaaDoor
namespace Go.Proofs.YtngphebjmmencaaDoor
set_option linter.unusedSimpArgs false
set_option linter.unusedVariables false
open Go

/-- what the document's reading of an expression comes to -/
def RdOut (v : AV) (e : Int) (b : Nat) (L : List TD) (y : Int) (h' : AH) (q : AV ⊕ AV) : Except (Int × Int) (XD × List TD) → Prop
  | .ok (x, r) => (∃ row, q = .inl (.agg row) ∧ ExA x row) ∧ ∃ i, h'.cell b = some [rrow v e i (0, y)] ∧ L.drop i = r ∧ i ≤ L.length
  | .error f => (∃ row, q = .inl (.agg row) ∧ row.all AV.one = true ∧ row.length = 4) ∧ ∃ i, h'.cell b = some [rrow v e i f]
abbrev zP (h : AH) : AH := (h.push [[.int .i64 0, .int .i64 0, .int .i64 0, .nils]]).push [[.int .i64 0, .int .i64 0, .int .i64 0, .nils]]
section
variable {h : AH} {b : Nat} {v : AV} {e : Int} {i : Nat} {L : List TD}
theorem zP_facts {r : List (List AV)} (hb : b < h.n) (hc : h.cell b = some r) : (zP h).cell b = some r ∧ (zP h).cell h.n = some [zE] ∧ (zP h).cell (h.n + 1) = some [zE] ∧ (zP h).n = h.n + 2 ∧ Tp h (zP h) b :=
  ⟨(push_lt (by rw [push_n]; omega)).trans ((push_lt hb).trans hc), push2_old, push2_same, rfl, (Tp.push _ _ _).trans (Tp.push _ _ _)⟩
/-- behind a fault it is nothing -/
theorem rdexpr_not {f : Int × Int} (hs : SlA tRk v (rowsT L)) (hb : b < h.n) (hc : h.cell b = some [rrow v e i f]) (hf : f.1 ≠ 0) (dp : Int) :
    ∃ q h', runF Tryd.prog po 37 [.ptr b 0 0, .int .i64 dp] h = some (q, h') ∧ q = .inl (.agg zE) ∧ Tp h h' b ∧ h'.cell b = some [rrow v e i f] := by
  obtain ⟨c2, n2, x2, _, t2⟩ := zP_facts hb hc
  have e1 := rdwrong_not (code := 4) c2 hf
  have e2 := rdmust_not (s := [40]) c2 hs hf
  refine runF_W fn_rdexpr rfl fun Q hQ _ => ?_
  unfold rc_rdexpr
  by_cases hd : 30 < dp
  · simp only [sim, simB, Nat.reduceAdd, Nat.reduceSub, List.replicate, reduceCtorEq, Nat.reduceLeDiff, Nat.reduceLT, clearA, hd, e1, e2]
    exact rdx_stop c2 hs hf n2 x2 fun V' hV => hQ _ _ (.agg zE) (by simp only [sim, simB, Nat.reduceAdd, Nat.reduceSub, List.replicate, reduceCtorEq, Nat.reduceLeDiff, Nat.reduceLT, clearA, hV, n2]) ⟨rfl, t2, c2⟩
  · simp only [sim, simB, Nat.reduceAdd, Nat.reduceSub, List.replicate, reduceCtorEq, Nat.reduceLeDiff, Nat.reduceLT, clearA, hd, e2]
    exact rdx_stop c2 hs hf n2 x2 fun V' hV => hQ _ _ (.agg zE) (by simp only [sim, simB, Nat.reduceAdd, Nat.reduceSub, List.replicate, reduceCtorEq, Nat.reduceLeDiff, Nat.reduceLT, clearA, hV, n2]) ⟨rfl, t2, c2⟩
theorem drop_is {l r : List TD} {s : List UInt8} (hi : pIs s (L.drop i) = some r) : L.drop (i + 1) = r ∧ i + 1 ≤ L.length := by
  obtain ⟨t, e, _⟩ := is_some hi
  have hl : i < L.length := by
    rcases Nat.lt_or_ge i L.length with h | h
    · exact h
    · rw [List.drop_eq_nil_of_le h] at e
      cases e
  rw [List.drop_eq_getElem_cons hl] at e
  injection e with _ e
  exact ⟨e, hl⟩
theorem drop_cons {t : TD} {r : List TD} (e : L.drop i = t :: r) : L.drop (i + 1) = r ∧ i + 1 ≤ L.length := by
  have hl : i < L.length := by
    rcases Nat.lt_or_ge i L.length with h | h
    · exact h
    · rw [List.drop_eq_nil_of_le h] at e
      cases e
  rw [List.drop_eq_getElem_cons hl] at e
  injection e with _ e
  exact ⟨e, hl⟩
set_option maxHeartbeats 4000000 in
theorem rdexpr_run (e : Int) (v : AV) (L : List TD) (y : Int) (hs : SlA tRk v (rowsT L)) (hl : L.length ≤ 100000) : ∀ (R : Nat), R ≤ 31 → ∀ (h : AH) (b i : Nat), b < h.n → i ≤ L.length → h.cell b = some [rrow v e i (0, y)] →
    ∃ q h', runF Tryd.prog po 37 [.ptr b 0 0, .int .i64 (31 - (R : Int))] h = some (q, h') ∧ Tp h h' b ∧ RdOut v e b L y h' q (pExpr e R (L.drop i)) := by
  intro R
  induction R with
  | zero =>
    intro _ h b i hb hi hc
    obtain ⟨c2, n2, x2, m2, t2⟩ := zP_facts hb hc
    have nz := fail_nz (e := e) (code := 4) (L.drop i) (by decide)
    have e1 := rdwrong_yes (code := 4) c2 hs
    have c3 : ((zP h).set b (some [rrow v e i (pFail e (L.drop i) 4)])).cell b = some [rrow v e i (pFail e (L.drop i) 4)] := set_same
    have n3 : ((zP h).set b (some [rrow v e i (pFail e (L.drop i) 4)])).cell h.n = some [zE] := (set_ne (by omega)).trans n2
    have x3 : ((zP h).set b (some [rrow v e i (pFail e (L.drop i) 4)])).cell (h.n + 1) = some [zE] := (set_ne (by omega)).trans x2
    have e2 := rdmust_not (s := [40]) c3 hs nz
    refine runF_W fn_rdexpr rfl fun Q hQ _ => ?_
    unfold rc_rdexpr
    simp only [sim, simB, Nat.reduceAdd, Nat.reduceSub, List.replicate, reduceCtorEq, Nat.reduceLeDiff, Nat.reduceLT, clearA, Int.natCast_zero, Int.cast_ofNat_Int, Int.sub_zero, Int.reduceLT, e1, e2]
    exact rdx_stop c3 hs nz n3 x3 fun V' hV => hQ _ _ (.agg zE) (by simp only [sim, simB, Nat.reduceAdd, Nat.reduceSub, List.replicate, reduceCtorEq, Nat.reduceLeDiff, Nat.reduceLT, clearA, hV, n3]) ⟨t2.setb _, ⟨_, rfl, rfl, rfl⟩, i, c3⟩
  | succ R ih =>
    intro hR h b i hb hi hc
    have ih := ih (by omega)
    have dw : IntKind.wrap .i64 (31 - ((R + 1 : Nat) : Int) + 1) = 31 - (R : Int) := w64' (by omega) (by omega) (by omega)
    have d0 : ¬ (30 : Int) < 31 - ((R + 1 : Nat) : Int) := by omega
    generalize 31 - ((R + 1 : Nat) : Int) = dp at dw d0 ⊢
    obtain ⟨c2, n2, x2, m2, t2⟩ := zP_facts hb hc
    refine runF_W fn_rdexpr rfl fun Q hQ _ => ?_
    unfold rc_rdexpr
    cases hw : pWant e [40] (L.drop i) with
    | error f =>
      have nz := want_nz hw
      have hx : pExpr e (R + 1) (L.drop i) = .error f := by simp only [pExpr, hw]
      obtain ⟨hw1, hw2⟩ := want_err hw
      have e1 := rdmust_no c2 hs hw1
      rw [← hw2] at e1
      have c3 : ((zP h).set b (some [rrow v e i f])).cell b = some [rrow v e i f] := set_same
      have n3 : ((zP h).set b (some [rrow v e i f])).cell h.n = some [zE] := (set_ne (by omega)).trans n2
      have x3 : ((zP h).set b (some [rrow v e i f])).cell (h.n + 1) = some [zE] := (set_ne (by omega)).trans x2
      simp only [sim, simB, Nat.reduceAdd, Nat.reduceSub, List.replicate, reduceCtorEq, Nat.reduceLeDiff, Nat.reduceLT, clearA, d0, e1]
      exact rdx_stop c3 hs nz n3 x3 fun V' hV => hQ _ _ (.agg zE) (by simp only [sim, simB, Nat.reduceAdd, Nat.reduceSub, List.replicate, reduceCtorEq, Nat.reduceLeDiff, Nat.reduceLT, clearA, hV, n3]) ⟨t2.setb _, by rw [hx]; exact ⟨⟨_, rfl, rfl, rfl⟩, i, c3⟩⟩
    | ok l1 =>
      have hi1 := want_ok hw
      have e1 := rdmust_yes c2 hs (by omega) hi1
      obtain ⟨hd1, hl1⟩ := drop_is (l := []) hi1
      have n3 : ((zP h).set b (some [rrow v e (i + 1) (0, y)])).cell h.n = some [zE] := (set_ne (by omega)).trans n2
      have x3 : ((zP h).set b (some [rrow v e (i + 1) (0, y)])).cell (h.n + 1) = some [zE] := (set_ne (by omega)).trans x2
      simp only [sim, simB, Nat.reduceAdd, Nat.reduceSub, List.replicate, reduceCtorEq, Nat.reduceLeDiff, Nat.reduceLT, clearA, d0, e1]
      refine loop_W (fun q : Nat × Int => 22 - q.1) (fun q V h' => ∃ w8 w9, V = [.ptr b 0 0, .int .i64 dp, .ptr h.n 0 0, .ptr (h.n + 1) 0 0, .int .i64 (q.1 : Int), .junk, .junk, .bool false, w8, w9, .junk, .junk, .junk, .junk, .junk, .junk, .junk, .junk, .junk] ∧
        Tp h h' b ∧ h'.n = h.n + 2 ∧ h'.cell b = some [rrow v e (i + 1) (0, y)] ∧ h'.cell h.n = some [zE] ∧ h'.cell (h.n + 1) = some [[.int .i64 q.2, .int .i64 0, .int .i64 0, .nils]] ∧ 1 ≤ q.1 ∧ q.1 ≤ 22 ∧ lastW wordX l1 21 1 0 = lastW wordX l1 (22 - q.1) q.1 q.2) ?_ (1, 0) ⟨_, _, rfl, t2.setb _, m2, set_same, n3, x3, by simp, by simp, rfl⟩
      rintro ⟨k, o⟩ V h3 ⟨w8, w9, rfl, t3, m3, c3, n3, x3, k1, k2, hk⟩ next
      simp only at x3 k1 k2 hk next ⊢
      by_cases hk21 : k ≤ 21
      · have hlt : (k : Int) ≤ 21 := by omega
        have hwi : IntKind.wrap .i64 ((k : Int) + 1) = ((k + 1 : Nat) : Int) := w64' (by omega) (by omega) (by omega)
        have e4 := rdis_run c3 hs (wordX k)
        rw [decide_eq_true rfl, Bool.true_and, hd1] at e4
        have e2 := fun h => WordOf_run (h := h) (k : Int)
        have hk' : lastW wordX l1 21 1 0 = lastW wordX l1 (22 - (k + 1)) (k + 1) (if (pIs (wordX k) l1).isSome = true then (k : Int) else o) := by
          rw [hk, show 22 - k = (22 - (k + 1)) + 1 by omega, lastW]
        cases hz : (pIs (wordX k) l1).isSome with
        | true =>
          rw [hz] at e4
          rw [hz, if_pos rfl] at hk'
          rw [r_lpb rc_rdexpr_b3.eq_1]
          simp only [sim, simB, Nat.reduceAdd, Nat.reduceSub, List.replicate, reduceCtorEq, Nat.reduceLeDiff, Nat.reduceLT, clearA, hlt, e2, e4, hwi, x3]
          exact next (k + 1, (k : Int)) _ _ (by simp only; omega) ⟨_, _, rfl, t3.set (by omega) _, m3, (set_ne (by omega)).trans c3, (set_ne (by omega)).trans n3, set_same, by simp, by simp only; omega, hk'⟩
        | false =>
          rw [hz] at e4
          rw [hz, if_neg (by simp)] at hk'
          rw [r_lpb rc_rdexpr_b3.eq_1]
          simp only [sim, simB, Nat.reduceAdd, Nat.reduceSub, List.replicate, reduceCtorEq, Nat.reduceLeDiff, Nat.reduceLT, clearA, hlt, e2, e4, hwi]
          exact next (k + 1, o) _ _ (by simp only; omega) ⟨_, _, rfl, t3, m3, c3, n3, x3, by simp, by simp only; omega, hk'⟩
      · have hlt : ¬ (k : Int) ≤ 21 := by omega
        clear next
        rw [show 22 - k = 0 by omega, lastW, last_word e] at hk
        cases hp : pPick e 21 wordX l1 with
        | error f =>
          rw [hp] at hk
          simp only at hk
          subst hk
          have hf : f = pFail e l1 5 := pickFrom_err hp
          have e4 := rdwrong_yes (code := 5) c3 hs
          rw [hd1, ← hf] at e4
          have n5 : (h3.set b (some [rrow v e (i + 1) f])).cell h.n = some [zE] := (set_ne (by omega)).trans n3
          have x5 : (h3.set b (some [rrow v e (i + 1) f])).cell (h.n + 1) = some [zE] := (set_ne (by omega)).trans x3
          have z5 := set_idT n5
          have hx : pExpr e (R + 1) (L.drop i) = .error f := by simp only [pExpr, hw, hp]
          rw [r_lpb rc_rdexpr_b3.eq_1]
          simp only [sim, simB, Nat.reduceAdd, Nat.reduceSub, List.replicate, reduceCtorEq, Nat.reduceLeDiff, Nat.reduceLT, clearA, hlt, x3, e4, n5, x5, z5]
          exact hQ _ _ (.agg zE) (by simp only [sim, simB, Nat.reduceAdd, Nat.reduceSub, List.replicate, reduceCtorEq, Nat.reduceLeDiff, Nat.reduceLT, clearA, n5]) ⟨t3.setb _, by rw [hx]; exact ⟨⟨_, rfl, rfl, rfl⟩, i + 1, set_same⟩⟩
        | ok q =>
          obtain ⟨op, l2⟩ := q
          rw [hp] at hk
          simp only at hk
          subst hk
          obtain ⟨o1, o2, o3⟩ := pick_ok hp
          rw [← hd1] at o3
          obtain ⟨hd2, hl2⟩ := drop_is (l := []) o3
          have ho : decide (op = 0) = false := decide_eq_false (by omega)
          have hwi : IntKind.wrap .i64 (((i + 1 : Nat) : Int) + 1) = ((i + 1 + 1 : Nat) : Int) := w64' (by omega) (by omega) (by omega)
          have whole : ∀ k n l3, pArg e op l2 = .ok (k, n, l3) → pExpr e (R + 1) (L.drop i) = match pParts (pExpr e R) (partsX op).toNat l3 with
              | .error f => .error f
              | .ok (xs, l4) => match pWant e [41] l4 with
                | .error f => .error f
                | .ok l5 => .ok (.mk op k n xs, l5) := fun k n l3 ha => by simp only [pExpr, hw, hp, ha]; cases pParts (pExpr e R) (partsX op).toNat l3 <;> rfl
          have bad : ∀ f, pArg e op l2 = .error f → pExpr e (R + 1) (L.drop i) = .error f := fun f ha => by simp only [pExpr, hw, hp, ha]
          generalize pExpr e (R + 1) (L.drop i) = out at whole bad hQ
          have hp0 : 0 ≤ partsX op := parts_nn o1 (by omega)
          have c5 : (h3.set b (some [rrow v e (i + 1 + 1) (0, y)])).cell b = some [rrow v e (i + 1 + 1) (0, y)] := set_same
          have n5 : (h3.set b (some [rrow v e (i + 1 + 1) (0, y)])).cell h.n = some [zE] := (set_ne (by omega)).trans n3
          have x5 : (h3.set b (some [rrow v e (i + 1 + 1) (0, y)])).cell (h.n + 1) = some [[.int .i64 op, .int .i64 0, .int .i64 0, .nils]] := (set_ne (by omega)).trans x3
          have t5 : Tp h (h3.set b (some [rrow v e (i + 1 + 1) (0, y)])) b := t3.setb _
          have m5 : (h3.set b (some [rrow v e (i + 1 + 1) (0, y)])).n = h.n + 2 := m3
          -- behind a fault
          have end_ : ∀ (k n : Int) (j : Nat) (f : Int × Int) (h5 : AH) (w4 w5 w7 w8 w9 w10 w11 w12 w13 w14 w15 w16 w17 w18 : AV), out = .error f → f.1 ≠ 0 → Tp h h5 b → h5.cell h.n = some [zE] → h5.cell (h.n + 1) = some [[.int .i64 op, .int .i64 k, .int .i64 n, .nils]] → h5.cell b = some [rrow v e j f] →
              Q (runR (runF Tryd.prog po) 19 (.lp rc_rdexpr_b1 :: .ss [] :: .blk 5 :: [.ss rdR2]) [.ptr b 0 0, .int .i64 dp, .ptr h.n 0 0, .ptr (h.n + 1) 0 0, w4, w5, .int .i64 0, w7, w8, w9, w10, w11, w12, w13, w14, w15, w16, w17, w18] [] h5) := by
            intro k n j f h5 w4 w5 w7 w8 w9 w10 w11 w12 w13 w14 w15 w16 w17 w18 ho' hf t5 n5 x5 c5
            refine rdx_end c5 hs hf n5 x5 rfl rfl fun V' hV => hQ _ _ (.agg [.int .i64 op, .int .i64 k, .int .i64 n, .nils]) (by simp only [sim, simB, Nat.reduceAdd, Nat.reduceSub, List.replicate, reduceCtorEq, Nat.reduceLeDiff, Nat.reduceLT, clearA, hV]) ⟨t5.set (Nat.le_refl _) _, ?_⟩
            rw [ho']
            exact ⟨⟨_, rfl, rfl, rfl⟩, j, (set_ne (by omega)).trans c5⟩
          have rest_ : ∀ (k n : Int) (l3 : List TD) (j : Nat) (h5 : AH) (w4 w5 w7 w8 w9 w10 w11 w12 w13 w14 w15 w16 w17 w18 : AV), pArg e op l2 = .ok (k, n, l3) → Tp h h5 b → h5.n = h.n + 2 → h5.cell h.n = some [zE] → h5.cell (h.n + 1) = some [[.int .i64 op, .int .i64 k, .int .i64 n, .nils]] → h5.cell b = some [rrow v e j (0, y)] → L.drop j = l3 → j ≤ L.length →
              Q (runR (runF Tryd.prog po) 19 (.lp rc_rdexpr_b1 :: .ss [] :: .blk 5 :: [.ss rdR2]) [.ptr b 0 0, .int .i64 dp, .ptr h.n 0 0, .ptr (h.n + 1) 0 0, w4, w5, .int .i64 0, w7, w8, w9, w10, w11, w12, w13, w14, w15, w16, w17, w18] [] h5) := by
            intro k n l3 j h5 w4 w5 w7 w8 w9 w10 w11 w12 w13 w14 w15 w16 w17 w18 ha t5 m5 n5 x5 c5 dj lj
            have wh := whole k n l3 ha
            obtain ⟨np, hnp⟩ : ∃ np : Nat, partsX op = (np : Int) := ⟨(partsX op).toNat, by omega⟩
            have np3 : np ≤ 3 := by have := parts_le op; omega
            have cp := fun h => r_PartsOf (h := h) op
            rw [hnp] at wh cp
            simp only [Int.toNat_natCast] at wh
            refine loop_W (fun q : Nat × List XD × Nat => np - q.1) (fun q V h' => ∃ v2 acc w18, V = [.ptr b 0 0, .int .i64 dp, .ptr h.n 0 0, .ptr (h.n + 1) 0 0, w4, w5, .int .i64 ((q.1 : Nat) : Int), w7, w8, w9, w10, w11, w12, w13, w14, w15, w16, w17, w18] ∧
              Tp h h' b ∧ h.n + 1 < h'.n ∧ h'.cell h.n = some [zE] ∧ h'.cell (h.n + 1) = some [[.int .i64 op, .int .i64 k, .int .i64 n, v2]] ∧ Acc (ids0 h) h' tE v2 acc ∧ ExL q.2.1 acc ∧ h'.cell b = some [rrow v e q.2.2 (0, y)] ∧ q.2.2 ≤ L.length ∧ q.2.1.length = q.1 ∧ q.1 ≤ np ∧
              pParts (pExpr e R) np l3 = (match pParts (pExpr e R) (np - q.1) (L.drop q.2.2) with
                | .error f => .error f
                | .ok (ys, r) => .ok (q.2.1 ++ ys, r))) ?_ (0, [], j) ⟨.nils, [], _, rfl, t5, by omega, n5, x5, acc_nil _ _ _, rfl, c5, lj, rfl, Nat.zero_le _, by simp only [Nat.sub_zero, List.nil_append, dj]; cases pParts (pExpr e R) np l3 <;> rfl⟩
            rintro ⟨m, xs, jc⟩ V h' ⟨v2, acc, w18, rfl, t', nx, cz, cx, ac, xl, cb, lc, hlen, hle, hpp⟩ next
            simp only at xl cb lc hlen hle hpp next ⊢
            have ok1 := rdok_run cb
            rw [decide_eq_true rfl] at ok1
            by_cases hi : m < np
            · have hlt : (m : Int) < (np : Int) := by omega
              have hwi : IntKind.wrap .i64 ((m : Int) + 1) = ((m + 1 : Nat) : Int) := w64' (by omega) (by omega) (by omega)
              obtain ⟨q, h'', er, tq, oq⟩ := ih h' b jc (Nat.lt_of_lt_of_le hb t'.n) lc cb
              have cx2 : h''.cell (h.n + 1) = some [[.int .i64 op, .int .i64 k, .int .i64 n, v2]] := (tq.cell _ nx (by omega)).trans cx
              have cz2 : h''.cell h.n = some [zE] := (tq.cell _ (by omega) (by omega)).trans cz
              obtain ⟨c, hc'⟩ : ∃ c, np - m = c + 1 := ⟨np - m - 1, by omega⟩
              have hc2 : np - (m + 1) = c := by omega
              have t2 := t'.trans tq
              have lacc := xl.len
              cases hoo : pExpr e R (L.drop jc) with
              | error f =>
                rw [hoo] at oq
                obtain ⟨⟨row, rfl, y1, y2⟩, j2, cb2⟩ := oq
                have nz := expr_nz e R _ _ hoo
                have wo : out = .error f := by rw [wh, hpp, hc', pParts, hoo]
                obtain ⟨v3, h6, ea, a6, g6, k6, m6⟩ := acc_app (ac.tp tq) t2.gz y1 (by omega)
                have cx6 : h6.cell (h.n + 1) = some [[.int .i64 op, .int .i64 k, .int .i64 n, v2]] := by rw [k6]; exact cx2
                have v3o := a6.one'
                have v3c := a6.cells'
                rw [r_lpb rc_rdexpr_b1.eq_1]
                simp only [sim, simB, Nat.reduceAdd, Nat.reduceSub, List.replicate, reduceCtorEq, Nat.reduceLeDiff, Nat.reduceLT, clearA, cp, hlt, ok1, cx, dw, er, cx2, y1, y2, ea, cx6, v3o, v3c, hwi]
                have t6 : Tp h h6 b := ⟨by rw [m6]; exact t2.n, g6.ids, fun q hq hn => by rw [k6]; exact t2.cell q hq hn, g6.hw⟩
                refine rdx_end (e := e) (f := f) (i := j2) (L := L) ?_ hs nz ?_ set_same v3o v3c fun V' hV => hQ _ _ (.agg [.int .i64 op, .int .i64 k, .int .i64 n, v3]) (by simp only [sim, simB, Nat.reduceAdd, Nat.reduceSub, List.replicate, reduceCtorEq, Nat.reduceLeDiff, Nat.reduceLT, clearA, hV]) ⟨(t6.set (by omega) _).set (Nat.le_refl _) _, ?_⟩
                · rw [set_ne (by omega), k6]; exact cb2
                · rw [set_ne (by omega), k6]; exact cz2
                · rw [wo]
                  refine ⟨⟨_, rfl, by simp only [List.all_cons, List.all_nil, v3o]; rfl, rfl⟩, j2, ?_⟩
                  rw [set_ne (by omega), set_ne (by omega), k6]; exact cb2
              | ok z =>
                obtain ⟨x, r⟩ := z
                rw [hoo] at oq
                obtain ⟨⟨row, rfl, xr⟩, j2, cb2, dj2, lj2⟩ := oq
                obtain ⟨y1, y2⟩ := xr.one
                obtain ⟨v3, h6, ea, a6, g6, k6, m6⟩ := acc_app (ac.tp tq) t2.gz y1 (by omega)
                have cx6 : h6.cell (h.n + 1) = some [[.int .i64 op, .int .i64 k, .int .i64 n, v2]] := by rw [k6]; exact cx2
                have v3o := a6.one'
                have v3c := a6.cells'
                rw [r_lpb rc_rdexpr_b1.eq_1]
                simp only [sim, simB, Nat.reduceAdd, Nat.reduceSub, List.replicate, reduceCtorEq, Nat.reduceLeDiff, Nat.reduceLT, clearA, cp, hlt, ok1, cx, dw, er, cx2, y1, y2, ea, cx6, v3o, v3c, hwi]
                refine next (m + 1, xs ++ [x], j2) _ _ (by simp only; omega) ⟨v3, acc ++ [row], _, rfl, ?_, ?_, ?_, set_same, ?_, xl.append xr, ?_, lj2, by simp [hlen], by simp only; omega, ?_⟩
                · have t6 : Tp h h6 b := ⟨by rw [m6]; exact t2.n, g6.ids, fun q hq hn => by rw [k6]; exact t2.cell q hq hn, g6.hw⟩
                  exact t6.set (by omega) _
                · rw [set_n, m6]
                  exact Nat.lt_of_lt_of_le nx tq.n
                · rw [set_ne (by omega), k6]
                  exact cz2
                · exact a6
                · rw [set_ne (by omega), k6]
                  exact cb2
                · simp only
                  rw [hpp, hc', pParts, hoo]
                  simp only
                  rw [hc2, dj2]
                  cases pParts (pExpr e R) c r with
                  | error f => rfl
                  | ok z => simp
            · have hlt : ¬ (m : Int) < (np : Int) := by omega
              obtain rfl : m = np := by omega
              rw [Nat.sub_self, pParts] at hpp
              simp only [List.append_nil] at hpp
              rw [hpp] at wh
              simp only at wh
              have vo := ac.one'
              have vc := ac.cells'
              cases hq : pWant e [41] (L.drop jc) with
              | error f =>
                have nz := want_nz hq
                obtain ⟨q1, q2⟩ := want_err hq
                have e7 := rdmust_no cb hs q1
                rw [← q2] at e7
                rw [hq] at wh
                have cx7 : (h'.set b (some [rrow v e jc f])).cell (h.n + 1) = some [[.int .i64 op, .int .i64 k, .int .i64 n, v2]] := (set_ne (by omega)).trans cx
                have cz7 : (h'.set b (some [rrow v e jc f])).cell h.n = some [zE] := (set_ne (by omega)).trans cz
                rw [r_lpb rc_rdexpr_b1.eq_1]
                simp only [rdR2, rc_rdexpr, List.drop_succ_cons, List.drop_zero]
                simp only [sim, simB, Nat.reduceAdd, Nat.reduceSub, List.replicate, reduceCtorEq, Nat.reduceLeDiff, Nat.reduceLT, clearA, cx, cp, hlt, e7, cx7, cz7, vo, vc]
                refine hQ _ _ (.agg [.int .i64 op, .int .i64 k, .int .i64 n, v2]) (by simp only [sim, simB, Nat.reduceAdd, Nat.reduceSub, List.replicate, reduceCtorEq, Nat.reduceLeDiff, Nat.reduceLT, clearA]) ⟨(t'.setb _).set (Nat.le_refl _) _, ?_⟩
                rw [wh]
                exact ⟨⟨_, rfl, by simp only [List.all_cons, List.all_nil, vo]; rfl, rfl⟩, jc, (set_ne (by omega)).trans set_same⟩
              | ok l5 =>
                have q1 := want_ok hq
                have e7 := rdmust_yes cb hs (by omega) q1
                obtain ⟨dq, lq⟩ := drop_is (l := []) q1
                rw [hq] at wh
                have cx7 : (h'.set b (some [rrow v e (jc + 1) (0, y)])).cell (h.n + 1) = some [[.int .i64 op, .int .i64 k, .int .i64 n, v2]] := (set_ne (by omega)).trans cx
                have cz7 : (h'.set b (some [rrow v e (jc + 1) (0, y)])).cell h.n = some [zE] := (set_ne (by omega)).trans cz
                rw [r_lpb rc_rdexpr_b1.eq_1]
                simp only [rdR2, rc_rdexpr, List.drop_succ_cons, List.drop_zero]
                simp only [sim, simB, Nat.reduceAdd, Nat.reduceSub, List.replicate, reduceCtorEq, Nat.reduceLeDiff, Nat.reduceLT, clearA, cx, cp, hlt, e7, cx7, cz7, vo, vc]
                refine hQ _ _ (.agg [.int .i64 op, .int .i64 k, .int .i64 n, v2]) (by simp only [sim, simB, Nat.reduceAdd, Nat.reduceSub, List.replicate, reduceCtorEq, Nat.reduceLeDiff, Nat.reduceLT, clearA]) ⟨(t'.setb _).set (Nat.le_refl _) _, ?_⟩
                rw [wh]
                refine ⟨⟨_, rfl, ?_⟩, jc + 1, (set_ne (by omega)).trans set_same, dq, lq⟩
                simp only [ExA]
                exact ⟨v2, acc, rfl, ac.sla, xl⟩
          -- behind one argument that is read
          have on_ : ∀ (k n : Int) (w4 w5 w7 w8 w9 w10 w11 w12 w13 w14 w15 w16 w17 w18 : AV) (t : TD) (l3 : List TD), l2 = t :: l3 → pArg e op l2 = .ok (k, n, l3) →
              Q (runR (runF Tryd.prog po) 19 (.lp rc_rdexpr_b1 :: .ss [] :: .blk 5 :: [.ss rdR2]) [.ptr b 0 0, .int .i64 dp, .ptr h.n 0 0, .ptr (h.n + 1) 0 0, w4, w5, .int .i64 0, w7, w8, w9, w10, w11, w12, w13, w14, w15, w16, w17, w18] [] ((h3.set b (some [rrow v e (i + 1 + 1 + 1) (0, y)])).set (h.n + 1) (some [[.int .i64 op, .int .i64 k, .int .i64 n, .nils]]))) := by
            intro k n w4 w5 w7 w8 w9 w10 w11 w12 w13 w14 w15 w16 w17 w18 t l3 el ha
            obtain ⟨dq, lq⟩ := drop_cons (hd2.trans el)
            exact rest_ k n l3 (i + 1 + 1 + 1) _ _ _ _ _ _ _ _ _ _ _ _ _ _ _ ha ((t3.setb _).set (by omega) _) m5 ((set_ne (by omega)).trans ((set_ne (by omega)).trans n3)) set_same ((set_ne (by omega)).trans set_same) dq lq
          have off_ : ∀ (w4 w5 w7 w8 w9 w10 w11 w12 w13 w14 w15 w16 w17 w18 : AV) (f : Int × Int), pArg e op l2 = .error f →
              Q (runR (runF Tryd.prog po) 19 (.lp rc_rdexpr_b1 :: .ss [] :: .blk 5 :: [.ss rdR2]) [.ptr b 0 0, .int .i64 dp, .ptr h.n 0 0, .ptr (h.n + 1) 0 0, w4, w5, .int .i64 0, w7, w8, w9, w10, w11, w12, w13, w14, w15, w16, w17, w18] [] ((h3.set b (some [rrow v e (i + 1 + 1) f])).set (h.n + 1) (some [[.int .i64 op, .int .i64 0, .int .i64 0, .nils]]))) := by
            intro w4 w5 w7 w8 w9 w10 w11 w12 w13 w14 w15 w16 w17 w18 f ha
            exact end_ 0 0 (i + 1 + 1) f _ _ _ _ _ _ _ _ _ _ _ _ _ _ _ (bad f ha) (arg_nz ha) ((t3.setb _).set (by omega) _) ((set_ne (by omega)).trans ((set_ne (by omega)).trans n3)) set_same ((set_ne (by omega)).trans set_same)
          have x6 : ∀ r, (h3.set b r).cell (h.n + 1) = some [[.int .i64 op, .int .i64 0, .int .i64 0, .nils]] := fun r => (set_ne (by omega)).trans x3
          by_cases q2 : op = 2
          · have y2 : decide (op = 2) = true := decide_eq_true q2
            cases ha : pNum e l2 with
            | error f =>
              have e8 := rdnumber_no c5 hs (by rw [hd2]; exact ha)
              have hb2 : pArg e op l2 = .error f := by rw [pArg, if_pos q2, ha]
              rw [r_lpb rc_rdexpr_b3.eq_1]
              simp only [sim, simB, Nat.reduceAdd, Nat.reduceSub, List.replicate, reduceCtorEq, Nat.reduceLeDiff, Nat.reduceLT, clearA, hlt, x3, ho, c3, hwi, x5, y2, e8, x6]
              exact off_ _ _ _ _ _ _ _ _ _ _ _ _ _ _ f hb2
            | ok z =>
              obtain ⟨m, l3⟩ := z
              have e8 := rdnumber_yes c5 hs (by omega) (by rw [hd2]; exact ha)
              have hb2 : pArg e op l2 = .ok (0, m, l3) := by rw [pArg, if_pos q2, ha]
              obtain ⟨t, el, _, _⟩ := num_ok ha
              rw [r_lpb rc_rdexpr_b3.eq_1]
              simp only [sim, simB, Nat.reduceAdd, Nat.reduceSub, List.replicate, reduceCtorEq, Nat.reduceLeDiff, Nat.reduceLT, clearA, hlt, x3, ho, c3, hwi, x5, y2, e8, x6]
              exact on_ 0 m _ _ _ _ _ _ _ _ _ _ _ _ _ _ t l3 el hb2
          · have y2 : decide (op = 2) = false := decide_eq_false q2
            by_cases q4 : op = 4 ∨ op = 18 ∨ op = 15
            · have yy : (decide (op = 4) = true ∧ True) ∨ (decide (op = 4) = false ∧ decide (op = 18) = true) ∨ (decide (op = 4) = false ∧ decide (op = 18) = false ∧ decide (op = 15) = true) := by
                rcases q4 with rfl | rfl | rfl
                · exact .inl ⟨rfl, trivial⟩
                · exact .inr (.inl ⟨rfl, rfl⟩)
                · exact .inr (.inr ⟨rfl, rfl, rfl⟩)
              cases ha : pFew e l2 with
              | error f =>
                have e8 := rdfew_no c5 hs (by rw [hd2]; exact ha)
                have hb2 : pArg e op l2 = .error f := by rw [pArg, if_neg q2, if_pos q4, ha]
                rcases yy with ⟨y4, _⟩ | ⟨y4, y18⟩ | ⟨y4, y18, y15⟩
                · rw [r_lpb rc_rdexpr_b3.eq_1]
                  simp only [sim, simB, Nat.reduceAdd, Nat.reduceSub, List.replicate, reduceCtorEq, Nat.reduceLeDiff, Nat.reduceLT, clearA, hlt, x3, ho, c3, hwi, x5, y2, y4, e8, x6]
                  exact off_ _ _ _ _ _ _ _ _ _ _ _ _ _ _ f hb2
                · rw [r_lpb rc_rdexpr_b3.eq_1]
                  simp only [sim, simB, Nat.reduceAdd, Nat.reduceSub, List.replicate, reduceCtorEq, Nat.reduceLeDiff, Nat.reduceLT, clearA, hlt, x3, ho, c3, hwi, x5, y2, y4, y18, e8, x6]
                  exact off_ _ _ _ _ _ _ _ _ _ _ _ _ _ _ f hb2
                · rw [r_lpb rc_rdexpr_b3.eq_1]
                  simp only [sim, simB, Nat.reduceAdd, Nat.reduceSub, List.replicate, reduceCtorEq, Nat.reduceLeDiff, Nat.reduceLT, clearA, hlt, x3, ho, c3, hwi, x5, y2, y4, y18, y15, e8, x6]
                  exact off_ _ _ _ _ _ _ _ _ _ _ _ _ _ _ f hb2
              | ok z =>
                obtain ⟨m, l3⟩ := z
                have e8 := rdfew_yes c5 hs (by omega) (by rw [hd2]; exact ha)
                have hb2 : pArg e op l2 = .ok (m, 0, l3) := by rw [pArg, if_neg q2, if_pos q4, ha]
                obtain ⟨t, el, _, _⟩ := few_ok ha
                rcases yy with ⟨y4, _⟩ | ⟨y4, y18⟩ | ⟨y4, y18, y15⟩
                · rw [r_lpb rc_rdexpr_b3.eq_1]
                  simp only [sim, simB, Nat.reduceAdd, Nat.reduceSub, List.replicate, reduceCtorEq, Nat.reduceLeDiff, Nat.reduceLT, clearA, hlt, x3, ho, c3, hwi, x5, y2, y4, e8, x6]
                  exact on_ m 0 _ _ _ _ _ _ _ _ _ _ _ _ _ _ t l3 el hb2
                · rw [r_lpb rc_rdexpr_b3.eq_1]
                  simp only [sim, simB, Nat.reduceAdd, Nat.reduceSub, List.replicate, reduceCtorEq, Nat.reduceLeDiff, Nat.reduceLT, clearA, hlt, x3, ho, c3, hwi, x5, y2, y4, y18, e8, x6]
                  exact on_ m 0 _ _ _ _ _ _ _ _ _ _ _ _ _ _ t l3 el hb2
                · rw [r_lpb rc_rdexpr_b3.eq_1]
                  simp only [sim, simB, Nat.reduceAdd, Nat.reduceSub, List.replicate, reduceCtorEq, Nat.reduceLeDiff, Nat.reduceLT, clearA, hlt, x3, ho, c3, hwi, x5, y2, y4, y18, y15, e8, x6]
                  exact on_ m 0 _ _ _ _ _ _ _ _ _ _ _ _ _ _ t l3 el hb2
            · have y4 : decide (op = 4) = false := decide_eq_false fun q => q4 (.inl q)
              have y18 : decide (op = 18) = false := decide_eq_false fun q => q4 (.inr (.inl q))
              have y15 : decide (op = 15) = false := decide_eq_false fun q => q4 (.inr (.inr q))
              by_cases q6 : op = 6
              · have y6 : decide (op = 6) = true := decide_eq_true q6
                rw [r_lpb rc_rdexpr_b3.eq_1]
                simp only [sim, simB, Nat.reduceAdd, Nat.reduceSub, List.replicate, reduceCtorEq, Nat.reduceLeDiff, Nat.reduceLT, clearA, hlt, x3, ho, c3, hwi, x5, y2, y4, y18, y15, y6]
                refine loop_W (fun q : Nat × Int => 6 - q.1) (fun q V h' => ∃ w15 w16, V = [.ptr b 0 0, .int .i64 dp, .ptr h.n 0 0, .ptr (h.n + 1) 0 0, .int .i64 (k : Int), .int .i64 (q.1 : Int), .junk, .bool false, .bool false, w9, .bool false, .int .i64 op, .bool false, .bool false, .bool true, w15, w16, .junk, .junk] ∧
                  Tp h h' b ∧ h'.n = h.n + 2 ∧ h'.cell b = some [rrow v e (i + 1 + 1) (0, y)] ∧ h'.cell h.n = some [zE] ∧ h'.cell (h.n + 1) = some [[.int .i64 op, .int .i64 q.2, .int .i64 0, .nils]] ∧ 1 ≤ q.1 ∧ q.1 ≤ 6 ∧ lastW binX l2 5 1 0 = lastW binX l2 (6 - q.1) q.1 q.2) ?_ (1, 0) ⟨_, _, rfl, t5, m5, c5, n5, x5, by simp, by simp, rfl⟩
                rintro ⟨k, o⟩ V h6 ⟨w15, w16, rfl, t6, m6, c6, n6, x6, k1, k2, hk⟩ next
                simp only at x6 k1 k2 hk next ⊢
                by_cases hk5 : k ≤ 5
                · have hlt : (k : Int) ≤ 5 := by omega
                  have hwi : IntKind.wrap .i64 ((k : Int) + 1) = ((k + 1 : Nat) : Int) := w64' (by omega) (by omega) (by omega)
                  have e4 := rdis_run c6 hs (binX k)
                  rw [decide_eq_true rfl, Bool.true_and, hd2] at e4
                  have e2 := fun h => BinOf_run (h := h) (k : Int)
                  have hk' : lastW binX l2 5 1 0 = lastW binX l2 (6 - (k + 1)) (k + 1) (if (pIs (binX k) l2).isSome = true then (k : Int) else o) := by
                    rw [hk, show 6 - k = (6 - (k + 1)) + 1 by omega, lastW]
                  cases hz : (pIs (binX k) l2).isSome with
                  | true =>
                    rw [hz] at e4
                    rw [hz, if_pos rfl] at hk'
                    rw [r_lpb rc_rdexpr_b2.eq_1]
                    simp only [sim, simB, Nat.reduceAdd, Nat.reduceSub, List.replicate, reduceCtorEq, Nat.reduceLeDiff, Nat.reduceLT, clearA, hlt, e2, e4, hwi, x6]
                    exact next (k + 1, (k : Int)) _ _ (by simp only; omega) ⟨_, _, rfl, t6.set (by omega) _, m6, (set_ne (by omega)).trans c6, (set_ne (by omega)).trans n6, set_same, by simp, by simp only; omega, hk'⟩
                  | false =>
                    rw [hz] at e4
                    rw [hz, if_neg (by simp)] at hk'
                    rw [r_lpb rc_rdexpr_b2.eq_1]
                    simp only [sim, simB, Nat.reduceAdd, Nat.reduceSub, List.replicate, reduceCtorEq, Nat.reduceLeDiff, Nat.reduceLT, clearA, hlt, e2, e4, hwi]
                    exact next (k + 1, o) _ _ (by simp only; omega) ⟨_, _, rfl, t6, m6, c6, n6, x6, by simp, by simp only; omega, hk'⟩
                · have hlt : ¬ (k : Int) ≤ 5 := by omega
                  clear next
                  rw [show 6 - k = 0 by omega, lastW, last_bin e] at hk
                  cases hp : pPick e 5 binX l2 with
                  | error f =>
                    rw [hp] at hk
                    simp only at hk
                    subst hk
                    have hf : f = pFail e l2 5 := pickFrom_err hp
                    have e4 := rdwrong_yes (code := 5) c6 hs
                    rw [hd2, ← hf] at e4
                    have hwi : IntKind.wrap .i64 (((i + 1 + 1 : Nat) : Int) + 1) = ((i + 1 + 1 + 1 : Nat) : Int) := w64' (by omega) (by omega) (by omega)
                    have hb2 : pArg e op l2 = .error f := by rw [pArg, if_neg q2, if_neg q4, if_pos q6, hp]
                    rw [r_lpb rc_rdexpr_b2.eq_1]
                    simp only [sim, simB, Nat.reduceAdd, Nat.reduceSub, List.replicate, reduceCtorEq, Nat.reduceLeDiff, Nat.reduceLT, clearA, hlt, x6, e4, hwi]
                    exact end_ 0 0 (i + 1 + 1 + 1) f _ _ _ _ _ _ _ _ _ _ _ _ _ _ _ (bad f hb2) (arg_nz hb2) (t6.setb _) ((set_ne (by omega)).trans n6) ((set_ne (by omega)).trans x6) set_same
                  | ok z =>
                    obtain ⟨m, l3⟩ := z
                    rw [hp] at hk
                    simp only at hk
                    subst hk
                    obtain ⟨p1, p2, p3⟩ := pick_ok hp
                    have hb2 : pArg e op l2 = .ok (m, 0, l3) := by rw [pArg, if_neg q2, if_neg q4, if_pos q6, hp]
                    have ho : decide (m = 0) = false := decide_eq_false (by omega)
                    rw [← hd2] at p3
                    obtain ⟨dq, lq⟩ := drop_is (l := []) p3
                    have hwi : IntKind.wrap .i64 (((i + 1 + 1 : Nat) : Int) + 1) = ((i + 1 + 1 + 1 : Nat) : Int) := w64' (by omega) (by omega) (by omega)
                    rw [r_lpb rc_rdexpr_b2.eq_1]
                    simp only [sim, simB, Nat.reduceAdd, Nat.reduceSub, List.replicate, reduceCtorEq, Nat.reduceLeDiff, Nat.reduceLT, clearA, hlt, x6, ho, c6, hwi]
                    exact rest_ m 0 l3 (i + 1 + 1 + 1) _ _ _ _ _ _ _ _ _ _ _ _ _ _ _ hb2 (t6.setb _) m6 ((set_ne (by omega)).trans n6) ((set_ne (by omega)).trans x6) set_same dq lq
              · have y6 : decide (op = 6) = false := decide_eq_false q6
                have hb2 : pArg e op l2 = .ok (0, 0, l2) := by rw [pArg, if_neg q2, if_neg q4, if_neg q6]
                rw [r_lpb rc_rdexpr_b3.eq_1]
                simp only [sim, simB, Nat.reduceAdd, Nat.reduceSub, List.replicate, reduceCtorEq, Nat.reduceLeDiff, Nat.reduceLT, clearA, hlt, x3, ho, c3, hwi, x5, y2, y4, y18, y15, y6]
                exact rest_ 0 0 l2 (i + 1 + 1) _ _ _ _ _ _ _ _ _ _ _ _ _ _ _ hb2 t5 m5 n5 x5 c5 hd2 hl2
end
end Go.Proofs.YtngphebjmmencaaDoor
namespace Go.Proofs.YtngphebjmmencaaDoor
set_option linter.unusedSimpArgs false
set_option linter.unusedVariables false
open Go Go.Lib

theorem parts_size {f : List TD → Except (Int × Int) (XD × List TD)} (hf : ∀ l x r, f l = .ok (x, r) → x.size + r.length ≤ l.length) : ∀ {n : Nat} {l r : List TD} {xs : List XD}, pParts f n l = .ok (xs, r) → sizesX xs + r.length ≤ l.length
  | 0, l, r, xs, h => by
    injection h with h
    injection h with h1 h
    subst h h1
    simp [sizesX]
  | n + 1, l, r, xs, h => by
    simp only [pParts] at h
    split at h
    · cases h
    · rename_i x q hx
      have h1 := hf _ _ _ hx
      split at h
      · cases h
      · rename_i ys z hy
        have h2 := parts_size hf hy
        injection h with h
        injection h with h3 h
        subst h h3
        simp only [sizesX]
        omega
theorem expr_size (e : Int) : ∀ (R : Nat) (l : List TD) (x : XD) (r : List TD), pExpr e R l = .ok (x, r) → x.size + r.length ≤ l.length
  | 0, l, x, r, h => by cases h
  | R + 1, l, x, r, h => by
    obtain ⟨op, k, n, xs, l1, l2, l3, l4, rfl, h1, h2, h3, h4, h5⟩ := expr_ok h
    have a1 := is_len (want_ok h1)
    have a2 := is_len (pick_ok h2).2.2
    have a3 := arg_len h3
    have a4 := parts_size (expr_size e R) h4
    have a5 := is_len (want_ok h5)
    rw [XD.size_eq]
    simp only [XD.l]
    omega
theorem mod_room {e : Int} : ∀ {N N' : Nat} {l : List TD}, l.length ≤ N → l.length ≤ N' → pMod e N l = pMod e N' l
  | _, _, [], _, _ => by simp only [pMod]
  | 0, _, t :: l, h, _ => by simp at h
  | _, 0, t :: l, _, h => by simp at h
  | N + 1, N' + 1, t :: l, h1, h2 => by
    simp only [pMod]
    cases hw : pWant e funB (t :: l) with
    | error f => rfl
    | ok l1 =>
      have a1 := is_len (want_ok hw)
      simp only
      cases hx : pExpr e 31 l1 with
      | error f => rfl
      | ok q =>
        obtain ⟨x, r⟩ := q
        have a2 := expr_len e 31 l1 x r hx
        simp only
        rw [mod_room (N := N) (N' := N') (l := r) (by simp at h1 a1; omega) (by simp at h2 a1; omega)]
theorem mod_size {e : Int} : ∀ {N : Nat} {l : List TD} {xs : List XD}, pMod e N l = .ok xs → sizesX xs ≤ l.length
  | _, [], xs, h => by
    simp only [pMod] at h
    injection h with h
    subst h
    simp [sizesX]
  | 0, t :: l, xs, h => by
    simp only [pMod] at h
    injection h with h
    subst h
    simp [sizesX]
  | N + 1, t :: l, xs, h => by
    simp only [pMod] at h
    split at h
    · cases h
    · rename_i l1 hw
      have a1 := is_len (want_ok hw)
      split at h
      · cases h
      · rename_i x r hx
        have a2 := expr_size e 31 l1 x r hx
        split at h
        · cases h
        · rename_i ys hy
          have a3 := mod_size hy
          injection h with h
          subst h
          simp only [sizesX]
          omega
theorem sizes_len : ∀ (l : List XD), l.length ≤ sizesX l
  | [] => Nat.zero_le _
  | x :: l => by
    have := sizes_len l
    have := x.size_pos
    simp only [sizesX, List.length_cons]
    omega
theorem sizes_mem : ∀ {l : List XD} {x : XD}, x ∈ l → x.size ≤ sizesX l
  | y :: l, x, h => by
    simp only [sizesX]
    rcases List.mem_cons.1 h with rfl | h
    · omega
    · have := sizes_mem h
      omega
theorem oks_len : ∀ {ts : List TD}, (∀ t ∈ ts, t.ok) → ts.length ≤ (ts.map fun t => t.text.length).sum
  | [], _ => Nat.zero_le _
  | t :: ts, h => by
    have h1 := oks_len fun x hx => h x (List.mem_cons_of_mem _ hx)
    obtain ⟨_, c, s, e, _⟩ := one_of (h t (by simp)) 0 (r := []) (fun c t e => by cases e)
    have : 0 < t.text.length := by rw [e]; simp
    simp only [List.length_cons, List.map_cons, List.sum_cons]
    omega
theorem scan_lens (s : List UInt8) : (scanR s).1.length ≤ s.length ∧ (scanR s).1.length ≤ 6000 := by
  unfold scanR
  split
  · exact ⟨Nat.zero_le _, Nat.zero_le _⟩
  · rename_i h6
    split
    · rename_i l hl
      obtain ⟨h1, h2⟩ := scan_ok s.length 0 s (Nat.le_refl _) l hl
      have := oks_len h1
      simp only
      omega
    · exact ⟨Nat.zero_le _, Nat.zero_le _⟩
end Go.Proofs.YtngphebjmmencaaDoor
namespace Go.Proofs.YtngphebjmmencaaDoor
set_option linter.unusedSimpArgs false
set_option linter.unusedVariables false
open Go

theorem Acc.exwk {h0 h : AH} {v : AV} {es : List (List AV)} {l : List XD} (ha : Acc h0 h tE v es) (hl : ExL l es) : ∃ v' es', wkA v = some v' ∧ SlA tE v' es' ∧ ExL l es' := by
  obtain ⟨es', h1, h2⟩ := exs_wk hl
  rcases ha with ⟨rfl, rfl⟩ | ⟨id, _, _, _, _, rfl⟩
  · exact ⟨_, [], rfl, .inl ⟨rfl, rfl⟩, hl⟩
  · exact ⟨.isl none tE es', es', by simp only [wkA, h1, Option.map_some], .inr ⟨_, rfl⟩, h2⟩
theorem lst_sla (e : TypeId) (rows : List (List AV)) : SlA e (lstA e rows) rows := by
  unfold lstA
  split
  · rename_i h
    exact .inl ⟨h, rfl⟩
  · exact .inr ⟨_, rfl⟩
theorem GrewA.tp {h h' h'' : AH} {b : Nat} (g : GrewA h h') (t : Tp h' h'' b) (hb : h.n ≤ b) : GrewA h h'' :=
  ⟨Nat.le_trans g.n t.n, Nat.le_trans g.ids t.ids, fun q hq => (t.cell q (Nat.lt_of_lt_of_le hq g.n) (by omega)).trans (g.cell q hq), fun k hk => (t.hw k (Nat.lt_of_lt_of_le hk g.ids)).trans (g.hw k hk)⟩
theorem GrewA.gz0 {h h' : AH} (g : GrewA h h') : GrewA (ids0 h) h' := ⟨Nat.zero_le _, g.ids, fun q hq => absurd hq (Nat.not_lt_zero _), g.hw⟩
theorem GrewA.same {h h' h'' : AH} (g : GrewA h h') (hc : h''.cell = h'.cell) (hn : h''.n = h'.n) (hi : h.ids ≤ h''.ids) (hw : ∀ k, k < h.ids → h''.hw k = h.hw k) : GrewA h h'' := ⟨by rw [hn]; exact g.n, hi, fun q hq => by rw [hc]; exact g.cell q hq, hw⟩
theorem ld_rr {v : AV} {e : Int} {i : Nat} {f : Int × Int} : ldA true 2 (rrow v e i f) 3 = some (.agg [.int .i64 f.1, .int .i64 f.2]) := rfl
def rpR : List RS := rc_rParse.drop 7
section
variable {h : AH}
set_option maxHeartbeats 2000000 in
theorem rParse_run (s : List UInt8) : ∃ v', runF Tryd.prog po 14 [.str s] h = some (.inl v', h) ∧ ∃ v rows, v' = .tup [.agg [v], fltT (parseR s).2] ∧ SlA tE v rows ∧ ExL (parseR s).1 rows := by
  have e1 := fun h => rScan_any (h := h) s
  obtain ⟨hl1, hl2⟩ := scan_lens s
  have hP : parseR s = parseR s := rfl
  conv at hP => rhs; unfold parseR
  have hsl : SlA tRk (lstA tRk (rowsT (scanR s).1)) (rowsT (scanR s).1) := lst_sla _ _
  have o1 : (lstA tRk (rowsT (scanR s).1)).one = true := by rcases hsl with ⟨_, h⟩ | ⟨id, h⟩ <;> rw [h] <;> rfl
  have oc : (lstA tRk (rowsT (scanR s).1)).cells = [lstA tRk (rowsT (scanR s).1)] := by rcases hsl with ⟨_, h⟩ | ⟨id, h⟩ <;> rw [h] <;> rfl
  have ol : lenA (lstA tRk (rowsT (scanR s).1)) = some (scanR s).1.length := by have := hsl.isL.len; rwa [List.length_map] at this
  have of_ := hsl.isL.fits
  generalize lstA tRk (rowsT (scanR s).1) = lv at e1 hsl o1 oc ol of_
  generalize (scanR s).1 = L at hsl hP hl1 hl2 ol
  generalize (scanR s).2 = F at hP e1
  generalize parseR s = out at hP ⊢
  refine runF_V fn_rParse rfl fun Q hQ => ?_
  unfold rc_rParse
  by_cases hF : F.1 = 0
  · have d0 : decide (F.1 = 0) = true := decide_eq_true hF
    rw [if_neg (by simpa using hF)] at hP
    simp only [sim, simB, Nat.reduceAdd, Nat.reduceSub, List.replicate, reduceCtorEq, Nat.reduceLeDiff, Nat.reduceLT, clearA, e1, d0, o1, oc]
    generalize hh : ((((h.push [[AV.nils]]).push [[.int .i64 0, .int .i64 0]]).push [[.int .i64 F.1, .int .i64 F.2]]).push [[lv, .int .i64 (s.length : Int), .int .i64 0, .int .i64 0, .int .i64 0]]).push [[.nils]] = h1
    have g1 : GrewA h h1 := by rw [← hh]; exact (by repeat (first | exact GrewA.refl _ | refine GrewA.trans ?_ (GrewA.push _ _) | refine GrewA.trans ?_ (GrewA.fresh _ _)))
    have n1 : h1.n = h.n + 5 := by rw [← hh]; rfl
    have z0 : h1.cell h.n = some [[.nils]] := by rw [← hh]; repeat (first | exact push_same | refine (push_lt (by simp only [push_n]; omega)).trans ?_)
    have z1 : h1.cell (h.n + 1) = some [[.int .i64 0, .int .i64 0]] := by rw [← hh]; repeat (first | exact push_same | refine (push_lt (by simp only [push_n]; omega)).trans ?_)
    have z3 : h1.cell (h.n + 1 + 1 + 1) = some [rrow lv s.length 0 (0, 0)] := by rw [← hh]; repeat (first | exact push_same | refine (push_lt (by simp only [push_n]; omega)).trans ?_)
    have z4 : h1.cell (h.n + 1 + 1 + 1 + 1) = some [[.nils]] := by rw [← hh]; repeat (first | exact push_same | refine (push_lt (by simp only [push_n]; omega)).trans ?_)
    clear hh
    -- behind a fault
    have stop_ : ∀ (h' : AH) (w7 w9 w10 w11 : AV) (i : Nat) (f : Int × Int), f.1 ≠ 0 → out = ([], f) → GrewA h h' → h.n + 5 ≤ h'.n → h'.cell h.n = some [[.nils]] → h'.cell (h.n + 1) = some [[.int .i64 0, .int .i64 0]] → h'.cell (h.n + 1 + 1 + 1) = some [rrow lv s.length i f] →
        Q (runR (runF Tryd.prog po) 12 (.lp rc_rParse_b1 :: .ss [] :: .blk 0 :: [.ss rpR]) [.str s, .ptr h.n 0 0, .ptr (h.n + 1) 0 0, lv, .ptr (h.n + 1 + 1) 0 0, .ptr (h.n + 1 + 1 + 1) 0 0, .ptr (h.n + 1 + 1 + 1 + 1) 0 0, w7, .bool false, w9, w10, w11] [] h') := by
      intro h' w7 w9 w10 w11 i f hf ho gg nn c0 c1 c3
      have ok := rdok_run c3
      rw [decide_eq_false hf] at ok
      have c3' : (h'.set h.n (some [[.nils]])).cell (h.n + 1 + 1 + 1) = some [rrow lv s.length i f] := (set_ne (by omega)).trans c3
      have c1' : (h'.set h.n (some [[.nils]])).cell (h.n + 1) = some [[.int .i64 0, .int .i64 0]] := (set_ne (by omega)).trans c1
      rw [set_idT c0] at c3' c1'
      rw [r_lpb rc_rParse_b1.eq_1]
      simp only [rpR, rc_rParse, List.drop_succ_cons, List.drop_zero]
      simp only [sim, simB, Nat.reduceAdd, Nat.reduceSub, List.replicate, reduceCtorEq, Nat.reduceLeDiff, Nat.reduceLT, clearA, ok, c0, c1, c3, set_idT c0, ld_rr]
      have k0 : (h'.set (h.n + 1) (some [[.int .i64 f.1, .int .i64 f.2]])).cell h.n = some [[.nils]] := (set_ne (by omega)).trans c0
      refine hQ _ _ (.tup [.agg [.nils], fltT f]) _ (by simp only [sim, simB, Nat.reduceAdd, Nat.reduceSub, List.replicate, reduceCtorEq, Nat.reduceLeDiff, Nat.reduceLT, clearA, k0]) (gg.set (by omega)) rfl ?_
      rw [ho]
      exact ⟨_, [], rfl, .inl ⟨rfl, rfl⟩, rfl⟩
    refine loop_W (fun q : Nat × List XD => L.length - q.1) (fun q V h' => ∃ v acc w9, V = [.str s, .ptr h.n 0 0, .ptr (h.n + 1) 0 0, lv, .ptr (h.n + 1 + 1) 0 0, .ptr (h.n + 1 + 1 + 1) 0 0, .ptr (h.n + 1 + 1 + 1 + 1) 0 0, .junk, .bool false, w9, .junk, .junk] ∧
      GrewA h h' ∧ h.n + 5 ≤ h'.n ∧ h'.cell h.n = some [[.nils]] ∧ h'.cell (h.n + 1) = some [[.int .i64 0, .int .i64 0]] ∧ h'.cell (h.n + 1 + 1 + 1) = some [rrow lv s.length q.1 (0, 0)] ∧ h'.cell (h.n + 1 + 1 + 1 + 1) = some [[v]] ∧ Acc (ids0 h) h' tE v acc ∧ ExL q.2 acc ∧ q.1 ≤ L.length ∧ q.2.length ≤ q.1 ∧
      pMod s.length L.length L = (match pMod s.length (L.length - q.1) (L.drop q.1) with
        | .error f => .error f
        | .ok ys => .ok (q.2 ++ ys))) ?_ (0, []) ⟨.nils, [], _, rfl, g1, by omega, z0, z1, z3, z4, acc_nil _ _ _, rfl, Nat.zero_le _, Nat.le_refl _, by simp only [Nat.sub_zero, List.drop_zero, List.nil_append]; cases pMod s.length L.length L <;> rfl⟩
    rintro ⟨i, xs⟩ V h' ⟨v, acc, w9, rfl, gg, nn, c0, c1, c3, c4, ac, xl, hi, hx, hm⟩ next
    simp only at c3 xl hi hx hm next ⊢
    have ok := rdok_run c3
    rw [decide_eq_true rfl] at ok
    have lacc := xl.len
    by_cases hlt : i < L.length
    · have hlt' : (i : Int) < (L.length : Int) := by omega
      have hd := List.drop_eq_getElem_cons hlt
      rw [hd, show L.length - i = (L.length - i - 1) + 1 by omega, pMod, ← hd] at hm
      cases hw : pWant s.length funB (L.drop i) with
      | error f =>
        have nz := want_nz hw
        obtain ⟨w1, w2⟩ := want_err hw
        have e2 := rdmust_no c3 hsl w1
        rw [← w2] at e2
        rw [hw] at hm
        simp only at hm
        rw [hm] at hP
        simp only at hP
        have k3 : (h'.set (h.n + 1 + 1 + 1) (some [rrow lv s.length i f])).cell (h.n + 1 + 1 + 1) = some [rrow lv s.length i f] := set_same
        obtain ⟨q, h2, e3, rfl, t3, k3'⟩ := rdexpr_not hsl (by rw [set_n]; omega) k3 nz 0
        have k4 : (h'.set (h.n + 1 + 1 + 1) (some [rrow lv s.length i f])).cell (h.n + 1 + 1 + 1 + 1) = some [[v]] := (set_ne (by omega)).trans c4
        have k4' : h2.cell (h.n + 1 + 1 + 1 + 1) = some [[v]] := (t3.cell _ (by rw [set_n]; omega) (by omega)).trans k4
        have t4 : Tp h' h2 (h.n + 1 + 1 + 1) := ((Tp.refl _ _).setb _).trans t3
        have gz : GrewA (ids0 h) h2 := (gg.tp t4 (by omega)).gz0
        obtain ⟨v3, h6, ea, a6, g6, k6, m6⟩ := acc_app (ac.tp t4) gz (row := zE) rfl (by omega)
        have c6 : h6.cell (h.n + 1 + 1 + 1 + 1) = some [[v]] := by rw [k6]; exact k4'
        have v3o := a6.one'
        have v3c := a6.cells'
        rw [r_lpb rc_rParse_b1.eq_1]
        simp only [sim, simB, Nat.reduceAdd, Nat.reduceSub, List.replicate, reduceCtorEq, Nat.reduceLeDiff, Nat.reduceLT, clearA, ok, c3, ol, of_, hlt', e2, k4, e3, k4', ea, c6, v3o, v3c]
        have g7 : GrewA h h6 := (gg.tp t4 (by omega)).same k6 m6 g6.ids g6.hw
        refine stop_ _ _ _ _ _ i f nz hP (g7.set (by omega)) (by rw [set_n, m6]; have := t4.n; omega) ?_ ?_ ?_
        · rw [set_ne (by omega), k6, t4.cell _ (by omega) (by omega)]; exact c0
        · rw [set_ne (by omega), k6, t4.cell _ (by omega) (by omega)]; exact c1
        · rw [set_ne (by omega), k6]; exact k3'
      | ok l1 =>
        have w1 := want_ok hw
        have e2 := rdmust_yes c3 hsl (by omega) w1
        obtain ⟨hd1, hl1⟩ := drop_is (l := []) w1
        rw [hw] at hm
        simp only at hm
        have k3 : (h'.set (h.n + 1 + 1 + 1) (some [rrow lv s.length (i + 1) (0, 0)])).cell (h.n + 1 + 1 + 1) = some [rrow lv s.length (i + 1) (0, 0)] := set_same
        obtain ⟨q, h2, e3, t3, oq⟩ := rdexpr_run s.length lv L 0 hsl (by omega) 31 (by omega) _ (h.n + 1 + 1 + 1) (i + 1) (by rw [set_n]; omega) hl1 k3
        rw [show (31 : Int) - ((31 : Nat) : Int) = 0 from rfl] at e3
        rw [hd1] at oq
        have k4 : (h'.set (h.n + 1 + 1 + 1) (some [rrow lv s.length (i + 1) (0, 0)])).cell (h.n + 1 + 1 + 1 + 1) = some [[v]] := (set_ne (by omega)).trans c4
        have k4' : h2.cell (h.n + 1 + 1 + 1 + 1) = some [[v]] := (t3.cell _ (by rw [set_n]; omega) (by omega)).trans k4
        have t4 : Tp h' h2 (h.n + 1 + 1 + 1) := ((Tp.refl _ _).setb _).trans t3
        have gz : GrewA (ids0 h) h2 := (gg.tp t4 (by omega)).gz0
        cases ho : pExpr s.length 31 l1 with
        | error f =>
          have nz := expr_nz _ _ _ _ ho
          rw [ho] at oq hm
          obtain ⟨⟨row, rfl, y1, y2⟩, j2, k3'⟩ := oq
          simp only at hm
          rw [hm] at hP
          simp only at hP
          obtain ⟨v3, h6, ea, a6, g6, k6, m6⟩ := acc_app (ac.tp t4) gz y1 (by omega)
          have c6 : h6.cell (h.n + 1 + 1 + 1 + 1) = some [[v]] := by rw [k6]; exact k4'
          have v3o := a6.one'
          have v3c := a6.cells'
          rw [r_lpb rc_rParse_b1.eq_1]
          simp only [sim, simB, Nat.reduceAdd, Nat.reduceSub, List.replicate, reduceCtorEq, Nat.reduceLeDiff, Nat.reduceLT, clearA, ok, c3, ol, of_, hlt', e2, k4, e3, k4', y1, y2, ea, c6, v3o, v3c]
          have g7 : GrewA h h6 := (gg.tp t4 (by omega)).same k6 m6 g6.ids g6.hw
          refine stop_ _ _ _ _ _ j2 f nz hP (g7.set (by omega)) (by rw [set_n, m6]; have := t4.n; omega) ?_ ?_ ?_
          · rw [set_ne (by omega), k6, t4.cell _ (by omega) (by omega)]; exact c0
          · rw [set_ne (by omega), k6, t4.cell _ (by omega) (by omega)]; exact c1
          · rw [set_ne (by omega), k6]; exact k3'
        | ok z =>
          obtain ⟨x, r⟩ := z
          rw [ho] at oq hm
          obtain ⟨⟨row, rfl, xr⟩, j2, k3', dj, lj⟩ := oq
          obtain ⟨y1, y2⟩ := xr.one
          simp only at hm
          obtain ⟨v3, h6, ea, a6, g6, k6, m6⟩ := acc_app (ac.tp t4) gz y1 (by omega)
          have c6 : h6.cell (h.n + 1 + 1 + 1 + 1) = some [[v]] := by rw [k6]; exact k4'
          have v3o := a6.one'
          have v3c := a6.cells'
          have el := expr_len _ _ _ _ _ ho
          have jl : i + 1 < j2 := by
            have e5 : (L.drop j2).length = r.length := by rw [dj]
            have e6 : (L.drop (i + 1)).length = l1.length := by rw [hd1]
            rw [List.length_drop] at e5 e6
            omega
          rw [r_lpb rc_rParse_b1.eq_1]
          simp only [sim, simB, Nat.reduceAdd, Nat.reduceSub, List.replicate, reduceCtorEq, Nat.reduceLeDiff, Nat.reduceLT, clearA, ok, c3, ol, of_, hlt', e2, k4, e3, k4', y1, y2, ea, c6, v3o, v3c]
          have g7 : GrewA h h6 := (gg.tp t4 (by omega)).same k6 m6 g6.ids g6.hw
          refine next (j2, xs ++ [x]) _ _ (by simp only; omega) ⟨v3, acc ++ [row], _, rfl, g7.set (by omega), by rw [set_n, m6]; have := t4.n; omega, ?_, ?_, ?_, set_same, a6, xl.append xr, lj, by simp only [List.length_append, List.length_singleton]; omega, ?_⟩
          · rw [set_ne (by omega), k6, t4.cell _ (by omega) (by omega)]; exact c0
          · rw [set_ne (by omega), k6, t4.cell _ (by omega) (by omega)]; exact c1
          · rw [set_ne (by omega), k6]; exact k3'
          · simp only
            rw [hm, dj, mod_room (N := L.length - j2) (N' := L.length - i - 1) (by rw [← dj, List.length_drop]; omega) (by rw [← dj, List.length_drop]; omega)]
            cases pMod s.length (L.length - i - 1) r with
            | error f => rfl
            | ok ys => simp
    · have hlt' : ¬ (i : Int) < (L.length : Int) := by omega
      rw [List.drop_eq_nil_of_le (by omega), pMod] at hm
      simp only [List.append_nil] at hm
      have sz := mod_size hm
      have hl3 := sizes_len xs
      have cf := fun h => CodeFault_run (h := h) v xs (fun h => ModV.of ac.sla xl) (by omega) (fun x hx => by have := sizes_mem hx; omega)
      rw [hm] at hP
      simp only at hP
      obtain ⟨v', es', wk, sl', xl'⟩ := ac.exwk xl
      have vo := ac.one'
      have vc := ac.cells'
      have q0 : ∀ x, (h'.push [x]).cell h.n = some [[.nils]] := fun x => (push_lt (by omega)).trans c0
      have q1 : ∀ x, (h'.push [x]).cell (h.n + 1) = some [[.int .i64 0, .int .i64 0]] := fun x => (push_lt (by omega)).trans c1
      have q4 : ∀ x, (h'.push [x]).cell (h.n + 1 + 1 + 1 + 1) = some [[v]] := fun x => (push_lt (by omega)).trans c4
      have s1 : ∀ x y, ((h'.push [x]).set h.n y).cell (h.n + 1) = some [[.int .i64 0, .int .i64 0]] := fun x y => (set_ne (by omega)).trans (q1 x)
      by_cases hc : (checkX xs).1 = 0
      · have dc : decide ((checkX xs).1 = 0) = true := decide_eq_true hc
        rw [if_neg (by simpa using hc)] at hP
        rw [r_lpb rc_rParse_b1.eq_1]
        simp only [sim, simB, Nat.reduceAdd, Nat.reduceSub, List.replicate, reduceCtorEq, Nat.reduceLeDiff, Nat.reduceLT, clearA, ok, c3, ol, of_, hlt', c4, cf, dc, q0, q1, q4, vo, vc, s1]
        have k0 : ∀ x y, (((h'.push [x]).set h.n (some [[v]])).set (h.n + 1) y).cell h.n = some [[v]] := fun x y => (set_ne (by omega)).trans set_same
        refine hQ _ _ (.tup [.agg [v], fltT (0, 0)]) (.tup [.agg [v'], fltT (0, 0)]) (by simp only [sim, simB, Nat.reduceAdd, Nat.reduceSub, List.replicate, reduceCtorEq, Nat.reduceLeDiff, Nat.reduceLT, clearA, k0]) (((gg.trans (GrewA.push _ _)).set (by omega)).set (by omega)) (by simp only [wkA, wkL, wk, Option.map_some]) ?_
        rw [hP]
        exact ⟨_, es', rfl, sl', xl'⟩
      · have dc : decide ((checkX xs).1 = 0) = false := decide_eq_false hc
        rw [if_pos (by simpa using hc)] at hP
        have i0 : ∀ x, (h'.push [x]).set h.n (some [[.nils]]) = h'.push [x] := fun x => set_idT (q0 x)
        rw [r_lpb rc_rParse_b1.eq_1]
        simp only [sim, simB, Nat.reduceAdd, Nat.reduceSub, List.replicate, reduceCtorEq, Nat.reduceLeDiff, Nat.reduceLT, clearA, ok, c3, ol, of_, hlt', c4, cf, dc, q0, q1, q4, i0]
        have k0 : ∀ x y, ((h'.push [x]).set (h.n + 1) y).cell h.n = some [[.nils]] := fun x y => (set_ne (by omega)).trans (q0 x)
        refine hQ _ _ (.tup [.agg [.nils], fltT (checkX xs)]) _ (by simp only [sim, simB, Nat.reduceAdd, Nat.reduceSub, List.replicate, reduceCtorEq, Nat.reduceLeDiff, Nat.reduceLT, clearA, k0]) ((gg.trans (GrewA.push _ _)).set (by omega)) rfl ?_
        rw [hP]
        exact ⟨_, [], rfl, .inl ⟨rfl, rfl⟩, rfl⟩
  · have d0 : decide (F.1 = 0) = false := decide_eq_false hF
    rw [if_pos (by simpa using hF)] at hP
    have hz : ∀ x, (((h.push [[AV.nils]]).push [[.int .i64 0, .int .i64 0]]).push x).set h.n (some [[.nils]]) = ((h.push [[AV.nils]]).push [[.int .i64 0, .int .i64 0]]).push x := fun x => set_idT push3_0
    simp only [sim, simB, Nat.reduceAdd, Nat.reduceSub, List.replicate, reduceCtorEq, Nat.reduceLeDiff, Nat.reduceLT, clearA, e1, d0, o1, oc, hz]
    have k0 : ∀ x y, ((((h.push [[AV.nils]]).push [[.int .i64 0, .int .i64 0]]).push x).set (h.n + 1) y).cell h.n = some [[.nils]] := fun x y => (set_ne (by omega)).trans push3_0
    refine hQ _ _ (.tup [.agg [.nils], fltT F]) _ (by simp only [sim, simB, Nat.reduceAdd, Nat.reduceSub, List.replicate, reduceCtorEq, Nat.reduceLeDiff, Nat.reduceLT, clearA, k0]) (GrewA.set (by repeat (first | exact GrewA.refl _ | refine GrewA.trans ?_ (GrewA.push _ _) | refine GrewA.trans ?_ (GrewA.fresh _ _))) (by omega)) rfl ?_
    rw [hP]
    exact ⟨_, [], rfl, .inl ⟨rfl, rfl⟩, rfl⟩
end
end Go.Proofs.YtngphebjmmencaaDoor
