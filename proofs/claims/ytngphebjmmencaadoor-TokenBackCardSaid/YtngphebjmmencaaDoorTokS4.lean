/- the laws of tokens, in the plain model. -/
import Derived.Test.YtngphebjmmencaaDoorTokS3
namespace Go.Proofs.YtngphebjmmencaaDoor
set_option linter.unusedSimpArgs false
set_option linter.unusedVariables false
open Go

theorem eqT {a b c d : Int} : binR .agg (some [.int .i64, .int .i64]) false .neq (.agg [.int .i64 a, .int .i64 b]) (.agg [.int .i64 c, .int .i64 d]) = some (.bool (!(decide (a = c) && decide (b = d)))) := by
  have e : ∀ x y : Int, (x == y) = decide (x = y) := fun x y => rfl
  simp [binR, eqCells, e]
theorem ok_pos {t : TD} (h : t.ok) : 0 < t.text.length := by
  rcases h with ⟨h1 | h1, _⟩ | ⟨⟨c, s, h1, _⟩, _⟩ | ⟨⟨c, s, h1, _⟩, _⟩ <;> simp [h1]
theorem few_toks : ∀ {l : List TD}, (∀ t ∈ l, t.ok) → l.length ≤ (l.map fun t => t.text.length).sum
  | [], _ => Nat.le_refl _
  | t :: l, h => by
    have := few_toks fun x hx => h x (List.mem_cons_of_mem t hx)
    have := ok_pos (h t (by simp))
    simp only [List.length_cons, List.map_cons, List.sum_cons]
    omega
theorem scanR_cases (s : List UInt8) : (scanR s).1 = [] ∧ (scanR s).2.1 ≠ 0 ∨ (s.length ≤ 6000 ∧ ∃ l, scanD 0 0 s = .inl l ∧ scanR s = (l, (0, 0))) := by
  by_cases h6 : 6000 < s.length
  · exact .inl (by rw [scanR, if_pos h6]; exact ⟨rfl, by decide⟩)
  · cases h : scanD 0 0 s with
    | inl l => exact .inr ⟨by omega, l, rfl, scan_out h6 h⟩
    | inr e => exact .inl (by rw [scan_err h6 h]; exact ⟨rfl, by show (7 : Int) ≠ 0; decide⟩)
theorem scanR_len (s : List UInt8) : (scanR s).1.length ≤ s.length := by
  rcases scanR_cases s with ⟨h, _⟩ | ⟨_, l, h1, h2⟩
  · rw [h]
    exact Nat.zero_le _
  · rw [h2]
    obtain ⟨o1, o2⟩ := scan_ok _ 0 s (Nat.le_refl _) l h1
    exact Nat.le_trans (few_toks o1) o2

theorem long5 : longD [45, 53] = some (-5) := by
  have : Lib.parseIntB 64 [45, 53] = .ok (-5) := by decide +kernel
  simp [longD, this, Lib.itoa, Lib.decDigits]
theorem long55 : longD [53] = some 5 := by
  have : Lib.parseIntB 64 [53] = .ok 5 := by decide +kernel
  simp [longD, this, Lib.itoa, Lib.decDigits]
theorem long05 : longD [48, 53] = none := by
  have : Lib.parseIntB 64 [48, 53] = .ok 5 := by decide +kernel
  simp [longD, this, Lib.itoa, Lib.decDigits]
def tk1 : List TD := [⟨0, [40], false, 0⟩, ⟨1, [110, 117, 109], false, 0⟩, ⟨5, [45, 53], true, -5⟩, ⟨7, [41], false, 0⟩]
theorem scan1 : scanR [40, 110, 117, 109, 32, 45, 53, 41] = (tk1, (0, 0)) := by
  refine scan_out (by decide) ?_
  simp [scanD, oneD, blankB, letB, digB, long5, tk1]
theorem scan2 : scanR [40, 53, 120] = ([⟨0, [40], false, 0⟩, ⟨1, [53], true, 5⟩, ⟨2, [120], false, 0⟩], (0, 0)) := by
  refine scan_out (by decide) ?_
  simp [scanD, oneD, blankB, letB, digB, long55]
theorem scan3 : scanR [48, 53] = ([], (7, 0)) := by
  refine scan_err (by decide) ?_
  simp [scanD, oneD, blankB, letB, digB, long05]

section
variable {h : AH}
theorem tokenBegun_run : runF Tryd.prog po 9 [] h = some (.inl (.bool true), h) := by
  have c1 : ∀ h, runF Tryd.prog po 10 [.str [40, 110, 117, 109, 32, 45, 53, 41]] h = some (.inl (.tup [.isl none tTk (rowsT tk1), .agg [.int .i64 0, .int .i64 0]]), h) := fun h => by
    have := tScan_run (h := h) [40, 110, 117, 109, 32, 45, 53, 41] (by decide)
    rw [scan1] at this
    exact this
  have c2 : ∀ h, runF Tryd.prog po 10 [.str [40, 53, 120]] h = some (.inl (.tup [.isl none tTk (rowsT [⟨0, [40], false, 0⟩, ⟨1, [53], true, 5⟩, ⟨2, [120], false, 0⟩]), .agg [.int .i64 0, .int .i64 0]]), h) := fun h => by
    have := tScan_run (h := h) [40, 53, 120] (by decide)
    rw [scan2] at this
    exact this
  have c3 : ∀ h, runF Tryd.prog po 10 [.str [48, 53]] h = some (.inl (.tup [.nils, .agg [.int .i64 7, .int .i64 0]]), h) := fun h => by
    have := tScan_run (h := h) [48, 53] (by decide)
    rw [scan3] at this
    exact this
  have i2 : ixaR (some tTk) none (.isl none tTk (rowsT tk1)) (.int .i64 2) = some (.ip [.int .i64 5, .str [45, 53], .bool true, .int .i64 (-5)] 0) := rfl
  have l4 : decide (((rowsT tk1).length : Int) = 4) = true := by decide
  refine runF_R fn_tokenBegun rfl ?_; unfold rc_tokenBegun
  simp only [sim, List.length_cons, List.length_nil, Nat.reduceAdd, Nat.reduceSub, List.replicate, List.cons_append, List.nil_append, List.map_cons, List.map_nil, Option.bind_some, Option.map_some, Option.bind_none, Option.map_none, if_true, if_false, decide_true, decide_false, Bool.false_eq_true, Bool.true_eq_false, Bool.not_true, Bool.not_false, reduceCtorEq, Bool.and_true, Bool.true_and, Bool.and_false, Bool.false_and, Bool.or_true, Bool.true_or, Bool.or_false, Bool.false_or, true_and, and_true, false_and, and_false, List.take_zero, List.take_succ_cons, List.drop_zero, List.drop_succ_cons, List.take_nil, List.drop_nil, List.set_cons_zero, List.set_cons_succ, Nat.reduceLeDiff, Nat.reduceLT, Nat.zero_add, Nat.lt_add_one, Nat.le_refl, clearA, Int.toNat_natCast, c1, c2, c3, i2, l4, Int.reduceEq]
  refine fg_yes ?_ rfl
  exact (by repeat (first | exact GrewA.refl _ | refine GrewA.trans ?_ (GrewA.push _ _) | refine GrewA.trans ?_ (GrewA.fresh _ _)))

set_option maxHeartbeats 1000000 in
theorem TokenScans_run (s : List UInt8) : runF Tryd.prog po 3 [.str s] h = some (.inl (.bool true), h) := by
  have vb := fun h => tokenBegun_run (h := h)
  by_cases h9 : 9000 < s.length
  · have h9' : (9000 : Int) < (s.length : Int) := by omega
    refine runF_E fn_TokenScans rfl fun Q hQ => ?_; unfold rc_TokenScans
    simp only [sim, List.length_cons, List.length_nil, Nat.reduceAdd, Nat.reduceSub, List.replicate, List.cons_append, List.nil_append, List.map_cons, List.map_nil, Option.bind_some, Option.map_some, Option.bind_none, Option.map_none, if_true, if_false, decide_true, decide_false, Bool.false_eq_true, Bool.true_eq_false, Bool.not_true, Bool.not_false, reduceCtorEq, Bool.and_true, Bool.true_and, Bool.and_false, Bool.false_and, Bool.or_true, Bool.true_or, Bool.or_false, Bool.false_or, true_and, and_true, false_and, and_false, List.take_zero, List.take_succ_cons, List.drop_zero, List.drop_succ_cons, List.take_nil, List.drop_nil, List.set_cons_zero, List.set_cons_succ, Nat.reduceLeDiff, Nat.reduceLT, Nat.zero_add, Nat.lt_add_one, Nat.le_refl, clearA, Int.toNat_natCast, vb, h9']
    exact hQ _ _ _ rfl (GrewA.refl _) rfl
  · have h9' : ¬ (9000 : Int) < (s.length : Int) := by omega
    have e1 := fun h => tScan_run (h := h) s (by omega)
    have e2 := fun h => rScan_run (h := h) s (by omega)
    have hlen := scanR_len s
    generalize scanR s = R at *
    obtain ⟨L, f1, f2⟩ := R
    simp only at e1 e2 hlen
    have m1 := isL_lst tTk (rowsT L)
    have m2 := isL_lst tRk (rowsT L)
    have ll : (rowsT L).length = L.length := List.length_map _
    have l1 := m1.len
    have l2 := m2.len
    rw [ll] at l1 l2
    have q1 := m1.fits
    have q2 := m2.fits
    refine runF_E fn_TokenScans rfl fun Q hQ => ?_; unfold rc_TokenScans
    simp only [sim, List.length_cons, List.length_nil, Nat.reduceAdd, Nat.reduceSub, List.replicate, List.cons_append, List.nil_append, List.map_cons, List.map_nil, Option.bind_some, Option.map_some, Option.bind_none, Option.map_none, if_true, if_false, decide_true, decide_false, Bool.false_eq_true, Bool.true_eq_false, Bool.not_true, Bool.not_false, reduceCtorEq, Bool.and_true, Bool.true_and, Bool.and_false, Bool.false_and, Bool.or_true, Bool.true_or, Bool.or_false, Bool.false_or, true_and, and_true, false_and, and_false, List.take_zero, List.take_succ_cons, List.drop_zero, List.drop_succ_cons, List.take_nil, List.drop_nil, List.set_cons_zero, List.set_cons_succ, Nat.reduceLeDiff, Nat.reduceLT, Nat.zero_add, Nat.lt_add_one, Nat.le_refl, clearA, Int.toNat_natCast, vb, h9', e1, e2, eqT, l1, l2, q1, q2, eq_self]
    refine loop_Q (fun i V h' => ∃ w10 w11, V = [.str s, .bool false, lstA tTk (rowsT L), .ptr h.n 0 0, lstA tRk (rowsT L), .ptr (h.n + 1) 0 0, .int .i64 (i : Nat), .bool false, .bool false, .bool false, w10, w11] ∧ h' = ((h.push [[.int .i64 f1, .int .i64 f2]]).push [[.int .i64 f1, .int .i64 f2]])) L.length ⟨_, _, rfl, rfl⟩ ?_ ?_
    · rintro i V h' hi ⟨w10, w11, rfl, rfl⟩ next
      have hlt : (i : Int) < (L.length : Int) := by omega
      have hwi := w64 (n := (i : Int) + 1) (by omega) (by omega)
      have hy : (rowsT L)[i]? = some (L[i].row) := by simp [hi]
      have x1 := m1.ix .i64 i _ hy
      have x2 := m2.ix .i64 i _ hy
      simp only [TD.row] at x1 x2
      rw [r_lpb rc_TokenScans_b1.eq_1]
      simp only [sim, List.length_cons, List.length_nil, Nat.reduceAdd, Nat.reduceSub, List.replicate, List.cons_append, List.nil_append, List.map_cons, List.map_nil, Option.bind_some, Option.map_some, Option.bind_none, Option.map_none, if_true, if_false, decide_true, decide_false, Bool.false_eq_true, Bool.true_eq_false, Bool.not_true, Bool.not_false, reduceCtorEq, Bool.and_true, Bool.true_and, Bool.and_false, Bool.false_and, Bool.or_true, Bool.true_or, Bool.or_false, Bool.false_or, true_and, and_true, false_and, and_false, List.take_zero, List.take_succ_cons, List.drop_zero, List.drop_succ_cons, List.take_nil, List.drop_nil, List.set_cons_zero, List.set_cons_succ, Nat.reduceLeDiff, Nat.reduceLT, Nat.zero_add, Nat.lt_add_one, Nat.le_refl, clearA, Int.toNat_natCast, l1, l2, q1, q2, hlt, x1, x2, eq_self, beq_self_eq_true, hwi]
      exact next _ _ ⟨_, _, rfl, rfl⟩
    · rintro V h' ⟨w10, w11, rfl, rfl⟩
      have hlt : ¬ (L.length : Int) < (L.length : Int) := by omega
      rw [r_lpb rc_TokenScans_b1.eq_1]
      simp only [sim, List.length_cons, List.length_nil, Nat.reduceAdd, Nat.reduceSub, List.replicate, List.cons_append, List.nil_append, List.map_cons, List.map_nil, Option.bind_some, Option.map_some, Option.bind_none, Option.map_none, if_true, if_false, decide_true, decide_false, Bool.false_eq_true, Bool.true_eq_false, Bool.not_true, Bool.not_false, reduceCtorEq, Bool.and_true, Bool.true_and, Bool.and_false, Bool.false_and, Bool.or_true, Bool.true_or, Bool.or_false, Bool.false_or, true_and, and_true, false_and, and_false, List.take_zero, List.take_succ_cons, List.drop_zero, List.drop_succ_cons, List.take_nil, List.drop_nil, List.set_cons_zero, List.set_cons_succ, Nat.reduceLeDiff, Nat.reduceLT, Nat.zero_add, Nat.lt_add_one, Nat.le_refl, clearA, Int.toNat_natCast, l1, q1, hlt]
      exact hQ _ _ _ rfl ((GrewA.push _ _).trans (GrewA.push _ _)) rfl

theorem tokT_take {sep : List UInt8} {L : List TD} {i : Nat} {y : TD} (hy : L[i]? = some y) : tokT sep (L.take (i + 1)) = tokT sep (L.take i) ++ (y.text ++ sep) := by
  rw [take_get hy, tokT_append]
  simp [tokT]
theorem tokT_le (sep : List UInt8) (L : List TD) (i : Nat) : (tokT sep (L.take i)).length ≤ (tokT sep L).length := by
  have := tokT_append sep (L.take i) (L.drop i)
  rw [List.take_append_drop] at this
  rw [this, List.length_append]
  omega
theorem bare_at {U L : List TD} (h : U.map TD.bare = L.map TD.bare) {i : Nat} (hi : i < U.length) (hj : i < L.length) : U[i].text = L[i].text ∧ U[i].num = L[i].num ∧ U[i].n = L[i].n := by
  have : (U.map TD.bare)[i]? = (L.map TD.bare)[i]? := by rw [h]
  simp only [List.getElem?_map, List.getElem?_eq_getElem hi, List.getElem?_eq_getElem hj, Option.map_some, Option.some.injEq, TD.bare, Prod.mk.injEq] at this
  exact this
set_option maxHeartbeats 2000000 in
theorem TokenBack_run (s : List UInt8) : runF Tryd.prog po 4 [.str s] h = some (.inl (.bool true), h) := by
  have vb := fun h => tokenBegun_run (h := h)
  by_cases h9 : 2000 < s.length
  · have h9' : (2000 : Int) < (s.length : Int) := by omega
    refine runF_E fn_TokenBack rfl fun Q hQ => ?_; unfold rc_TokenBack
    simp only [sim, List.length_cons, List.length_nil, Nat.reduceAdd, Nat.reduceSub, List.replicate, List.cons_append, List.nil_append, List.map_cons, List.map_nil, Option.bind_some, Option.map_some, Option.bind_none, Option.map_none, if_true, if_false, decide_true, decide_false, Bool.false_eq_true, Bool.true_eq_false, Bool.not_true, Bool.not_false, reduceCtorEq, Bool.and_true, Bool.true_and, Bool.and_false, Bool.false_and, Bool.or_true, Bool.true_or, Bool.or_false, Bool.false_or, true_and, and_true, false_and, and_false, List.take_zero, List.take_succ_cons, List.drop_zero, List.drop_succ_cons, List.take_nil, List.drop_nil, List.set_cons_zero, List.set_cons_succ, Nat.reduceLeDiff, Nat.reduceLT, Nat.zero_add, Nat.lt_add_one, Nat.le_refl, clearA, Int.toNat_natCast, vb, h9']
    exact hQ _ _ _ rfl (GrewA.refl _) rfl
  · have h9' : ¬ (2000 : Int) < (s.length : Int) := by omega
    have e1 := fun h => tScan_run (h := h) s (by omega)
    rcases scanR_cases s with ⟨n1, n2⟩ | ⟨_, L, k1, k2⟩
    · generalize scanR s = R at *
      obtain ⟨L, f1, f2⟩ := R
      simp only at e1 n1 n2
      subst n1
      have z : lstA tTk (rowsT []) = .nils := rfl
      rw [z] at e1
      have dn : decide (f1 = 0) = false := decide_eq_false n2
      refine runF_E fn_TokenBack rfl fun Q hQ => ?_; unfold rc_TokenBack
      simp only [sim, List.length_cons, List.length_nil, Nat.reduceAdd, Nat.reduceSub, List.replicate, List.cons_append, List.nil_append, List.map_cons, List.map_nil, Option.bind_some, Option.map_some, Option.bind_none, Option.map_none, if_true, if_false, decide_true, decide_false, Bool.false_eq_true, Bool.true_eq_false, Bool.not_true, Bool.not_false, reduceCtorEq, Bool.and_true, Bool.true_and, Bool.and_false, Bool.false_and, Bool.or_true, Bool.true_or, Bool.or_false, Bool.false_or, true_and, and_true, false_and, and_false, List.take_zero, List.take_succ_cons, List.drop_zero, List.drop_succ_cons, List.take_nil, List.drop_nil, List.set_cons_zero, List.set_cons_succ, Nat.reduceLeDiff, Nat.reduceLT, Nat.zero_add, Nat.lt_add_one, Nat.le_refl, clearA, Int.toNat_natCast, vb, h9', e1, dn, len_nils, fits_nils, Int.cast_ofNat_Int, eq_self]
      exact hQ _ _ _ rfl (GrewA.push _ _) rfl
    · obtain ⟨o1, o2⟩ := scan_ok _ 0 s (Nat.le_refl _) L k1
      have o3 := few_toks o1
      obtain ⟨U, u1, u2⟩ := scan_back (sep := [32, 10]) (by simp) (by decide) L 0 o1
      have tl := tokT_len [32, 10] L
      simp only [List.length_cons, List.length_nil] at tl
      have e2 := fun h => tScan_run (h := h) (tokT [32, 10] L) (by omega)
      have su := scan_out (by omega) u1
      rw [k2] at e1
      rw [su] at e2
      simp only at e1 e2
      have lu : U.length = L.length := by
        have := congrArg List.length u2
        simpa using this
      have m1 := isL_lst tTk (rowsT L)
      have m2 := isL_lst tTk (rowsT U)
      have l1 := m1.len
      have l2 := m2.len
      rw [List.length_map] at l1 l2
      rw [lu] at l2
      have q1 := m1.fits
      have q2 := m2.fits
      refine runF_E fn_TokenBack rfl fun Q hQ => ?_; unfold rc_TokenBack
      simp only [sim, List.length_cons, List.length_nil, Nat.reduceAdd, Nat.reduceSub, List.replicate, List.cons_append, List.nil_append, List.map_cons, List.map_nil, Option.bind_some, Option.map_some, Option.bind_none, Option.map_none, if_true, if_false, decide_true, decide_false, Bool.false_eq_true, Bool.true_eq_false, Bool.not_true, Bool.not_false, reduceCtorEq, Bool.and_true, Bool.true_and, Bool.and_false, Bool.false_and, Bool.or_true, Bool.true_or, Bool.or_false, Bool.false_or, true_and, and_true, false_and, and_false, List.take_zero, List.take_succ_cons, List.drop_zero, List.drop_succ_cons, List.take_nil, List.drop_nil, List.set_cons_zero, List.set_cons_succ, Nat.reduceLeDiff, Nat.reduceLT, Nat.zero_add, Nat.lt_add_one, Nat.le_refl, clearA, Int.toNat_natCast, vb, h9', e1, eq_self]
      refine loop_Q (fun i V h' => ∃ w12, V = [.str s, .bool false, lstA tTk (rowsT L), .ptr h.n 0 0, .str (tokT [32, 10] (L.take i)), .int .i64 (i : Nat), .junk, .junk, .junk, .bool false, .bool false, .bool false, w12, .junk, .junk, .junk] ∧ h' = h.push [[.int .i64 0, .int .i64 0]]) L.length ⟨_, rfl, rfl⟩ ?_ ?_
      · rintro i V h' hi ⟨w12, rfl, rfl⟩ next
        have hlt : (i : Int) < (L.length : Int) := by omega
        have hwi := w64 (n := (i : Int) + 1) (by omega) (by omega)
        have hy : (rowsT L)[i]? = some (L[i].row) := by simp [hi]
        have x1 := m1.ix .i64 i _ hy
        simp only [TD.row] at x1
        have ht := tokT_le [32, 10] L (i + 1)
        have hg : L[i]? = some L[i] := List.getElem?_eq_getElem hi
        rw [tokT_take hg] at ht
        simp only [List.length_append, List.length_cons, List.length_nil] at ht
        have s1 : binA .str .add (.str L[i].text) (.str [32, 10]) = some (.str (L[i].text ++ [32, 10])) := s_add rfl (by simp only [List.length_cons, List.length_nil]; omega)
        have s2 : binA .str .add (.str (tokT [32, 10] (L.take i))) (.str (L[i].text ++ [32, 10])) = some (.str (tokT [32, 10] (L.take (i + 1)))) := s_add (tokT_take hg).symm (by simp only [List.length_append, List.length_cons, List.length_nil]; omega)
        rw [r_lpb rc_TokenBack_b2.eq_1]
        simp only [sim, List.length_cons, List.length_nil, Nat.reduceAdd, Nat.reduceSub, List.replicate, List.cons_append, List.nil_append, List.map_cons, List.map_nil, Option.bind_some, Option.map_some, Option.bind_none, Option.map_none, if_true, if_false, decide_true, decide_false, Bool.false_eq_true, Bool.true_eq_false, Bool.not_true, Bool.not_false, reduceCtorEq, Bool.and_true, Bool.true_and, Bool.and_false, Bool.false_and, Bool.or_true, Bool.true_or, Bool.or_false, Bool.false_or, true_and, and_true, false_and, and_false, List.take_zero, List.take_succ_cons, List.drop_zero, List.drop_succ_cons, List.take_nil, List.drop_nil, List.set_cons_zero, List.set_cons_succ, Nat.reduceLeDiff, Nat.reduceLT, Nat.zero_add, Nat.lt_add_one, Nat.le_refl, clearA, Int.toNat_natCast, l1, q1, hlt, x1, s1, s2, hwi]
        exact next _ _ ⟨_, rfl, rfl⟩
      · rintro V h' ⟨w12, rfl, rfl⟩
        have hlt : ¬ (L.length : Int) < (L.length : Int) := by omega
        rw [List.take_length]
        rw [r_lpb rc_TokenBack_b2.eq_1]
        simp only [sim, List.length_cons, List.length_nil, Nat.reduceAdd, Nat.reduceSub, List.replicate, List.cons_append, List.nil_append, List.map_cons, List.map_nil, Option.bind_some, Option.map_some, Option.bind_none, Option.map_none, if_true, if_false, decide_true, decide_false, Bool.false_eq_true, Bool.true_eq_false, Bool.not_true, Bool.not_false, reduceCtorEq, Bool.and_true, Bool.true_and, Bool.and_false, Bool.false_and, Bool.or_true, Bool.true_or, Bool.or_false, Bool.false_or, true_and, and_true, false_and, and_false, List.take_zero, List.take_succ_cons, List.drop_zero, List.drop_succ_cons, List.take_nil, List.drop_nil, List.set_cons_zero, List.set_cons_succ, Nat.reduceLeDiff, Nat.reduceLT, Nat.zero_add, Nat.lt_add_one, Nat.le_refl, clearA, Int.toNat_natCast, l1, l2, q1, q2, hlt, e2, eq_self]
        refine loop_Q (fun i V h' => ∃ w14 w15, V = [.str s, .bool false, lstA tTk (rowsT L), .ptr h.n 0 0, .str (tokT [32, 10] L), .int .i64 (L.length : Nat), lstA tTk (rowsT U), .ptr (h.n + 1) 0 0, .int .i64 (i : Nat), .bool false, .bool false, .bool false, .bool false, .bool false, w14, w15] ∧ h' = (h.push [[.int .i64 0, .int .i64 0]]).push [[.int .i64 0, .int .i64 0]]) L.length ⟨_, _, rfl, rfl⟩ ?_ ?_
        · rintro i V h' hi ⟨w14, w15, rfl, rfl⟩ next
          have hlt : (i : Int) < (L.length : Int) := by omega
          have hwi := w64 (n := (i : Int) + 1) (by omega) (by omega)
          have hu : i < U.length := by omega
          have hy : (rowsT L)[i]? = some (L[i].row) := by simp [hi]
          have hz : (rowsT U)[i]? = some (U[i].row) := by simp [hu]
          have x1 := m1.ix .i64 i _ hy
          have x2 := m2.ix .i64 i _ hz
          obtain ⟨p1, p2, p3⟩ := bare_at u2 hu hi
          simp only [TD.row] at x1 x2
          rw [p1, p2, p3] at x2
          rw [r_lpb rc_TokenBack_b1.eq_1]
          simp only [sim, List.length_cons, List.length_nil, Nat.reduceAdd, Nat.reduceSub, List.replicate, List.cons_append, List.nil_append, List.map_cons, List.map_nil, Option.bind_some, Option.map_some, Option.bind_none, Option.map_none, if_true, if_false, decide_true, decide_false, Bool.false_eq_true, Bool.true_eq_false, Bool.not_true, Bool.not_false, reduceCtorEq, Bool.and_true, Bool.true_and, Bool.and_false, Bool.false_and, Bool.or_true, Bool.true_or, Bool.or_false, Bool.false_or, true_and, and_true, false_and, and_false, List.take_zero, List.take_succ_cons, List.drop_zero, List.drop_succ_cons, List.take_nil, List.drop_nil, List.set_cons_zero, List.set_cons_succ, Nat.reduceLeDiff, Nat.reduceLT, Nat.zero_add, Nat.lt_add_one, Nat.le_refl, clearA, Int.toNat_natCast, l1, l2, q1, q2, hlt, x1, x2, eq_self, beq_self_eq_true, hwi]
          exact next _ _ ⟨_, _, rfl, rfl⟩
        · rintro V h' ⟨w14, w15, rfl, rfl⟩
          have hlt : ¬ (L.length : Int) < (L.length : Int) := by omega
          rw [r_lpb rc_TokenBack_b1.eq_1]
          simp only [sim, List.length_cons, List.length_nil, Nat.reduceAdd, Nat.reduceSub, List.replicate, List.cons_append, List.nil_append, List.map_cons, List.map_nil, Option.bind_some, Option.map_some, Option.bind_none, Option.map_none, if_true, if_false, decide_true, decide_false, Bool.false_eq_true, Bool.true_eq_false, Bool.not_true, Bool.not_false, reduceCtorEq, Bool.and_true, Bool.true_and, Bool.and_false, Bool.false_and, Bool.or_true, Bool.true_or, Bool.or_false, Bool.false_or, true_and, and_true, false_and, and_false, List.take_zero, List.take_succ_cons, List.drop_zero, List.drop_succ_cons, List.take_nil, List.drop_nil, List.set_cons_zero, List.set_cons_succ, Nat.reduceLeDiff, Nat.reduceLT, Nat.zero_add, Nat.lt_add_one, Nat.le_refl, clearA, Int.toNat_natCast, l1, q1, hlt]
          exact hQ _ _ _ rfl ((GrewA.push _ _).trans (GrewA.push _ _)) rfl
end
end Go.Proofs.YtngphebjmmencaaDoor
