/- the parser in the plain model: what it takes, one token at a time. The functions of the part 'build' as lists of steps. A strings.Builder at the beginning of a block, in the plain model. The functions of the part 'render' as lists of steps. The functions of the part 'code' as lists of steps. Any argument of numbers, bools, strings, structs and slices of these: from 'it reads as data' to a value of the plain model, and what its type says of it. Slices that nobody turns. Expressions in the plain model. -/
import Derived.Test.YtngphebjmmencaaDoorMg8
namespace Go.Proofs.YtngphebjmmencaaDoor
set_option linter.unusedSimpArgs false
set_option linter.unusedVariables false
open Go

abbrev tPg : TypeId := 57
/-- a parser, with these tokens left -/
def PH (h : AH) (b : Nat) (e : Int) (l : List TD) : Prop := ∃ v, h.cell b = some [[v, .int .i64 e]] ∧ SlA tTk v (rowsT l)
/-- .. then with these -/
def pc (h : AH) (b : Nat) (e : Int) (r : List TD) : AH := h.set b (some [[.isl none tTk (rowsT r), .int .i64 e]])
theorem PH.pc (h : AH) (b : Nat) (e : Int) (r : List TD) : PH (pc h b e r) b e r := ⟨_, set_same, .inr ⟨_, rfl⟩⟩
theorem mki_agg {t : TypeId} {cs : List AV} : mkiR t (.agg cs) = some (.iface t (.agg cs)) := rfl
theorem tScan_any {h : AH} (s : List UInt8) : runF Tryd.prog po 10 [.str s] h = some (.inl (.tup [lstA tTk (rowsT (scanR s).1), fltT (scanR s).2]), h) := by
  by_cases hs : s.length ≤ 1000000
  · exact tScan_run s hs
  · have h6 : 6000 < s.length := by omega
    have e : scanR s = ([], (3, 6000)) := if_pos h6
    rw [e]
    have h6' : (6000 : Int) < (s.length : Int) := by omega
    refine runF_E fn_tScan rfl fun Q hQ => ?_; unfold rc_tScan
    simp only [sim, simB, Nat.reduceAdd, Nat.reduceSub, List.replicate, reduceCtorEq, Nat.reduceLeDiff, Nat.reduceLT, clearA, h6']
    exact hQ _ _ (.tup [.nils, fltT (3, 6000)]) (by simp only [sim, simB, Nat.reduceAdd, Nat.reduceSub, List.replicate, reduceCtorEq, Nat.reduceLeDiff, Nat.reduceLT, clearA]) (GrewA.push _ _) rfl
theorem rScan_any {h : AH} (s : List UInt8) : runF Tryd.prog po 11 [.str s] h = some (.inl (.tup [lstA tRk (rowsT (scanR s).1), fltT (scanR s).2]), h) := by
  by_cases hs : s.length ≤ 1000000
  · exact rScan_run s hs
  · have h6 : 6000 < s.length := by omega
    have e : scanR s = ([], (3, 6000)) := if_pos h6
    rw [e]
    have h6' : (6000 : Int) < (s.length : Int) := by omega
    have cF := fun h c a => tF_run (h := h) c a
    refine runF_E fn_rScan rfl fun Q hQ => ?_; unfold rc_rScan
    simp only [sim, simB, Nat.reduceAdd, Nat.reduceSub, List.replicate, reduceCtorEq, Nat.reduceLeDiff, Nat.reduceLT, clearA, h6', cF]
    exact hQ _ _ (.tup [.nils, fltT (3, 6000)]) (by simp only [sim, simB, Nat.reduceAdd, Nat.reduceSub, List.replicate, reduceCtorEq, Nat.reduceLeDiff, Nat.reduceLT, clearA]) (by repeat (first | exact GrewA.refl _ | refine GrewA.trans ?_ (GrewA.push _ _) | refine GrewA.trans ?_ (GrewA.fresh _ _))) rfl
theorem slc_tail {id : Option Nat} {e : TypeId} {x : List AV} {es : List (List AV)} {q : IntKind} : sliceA (.isl id e (x :: es)) (some (.int q 1)) none = some (.isl none e es) := by
  simp only [sliceA, loA, hiA, lenA, cutA, Option.bind_some, List.length_cons]
  rw [if_pos ⟨by omega, by omega, by omega⟩]
  simp
section
variable {h : AH}
theorem pfail_run {b : Nat} {e : Int} {l : List TD} (p : PH h b e l) (code : Int) : runF Tryd.prog po 52 [.ptr b 0 0, .int .i64 code] h = some (.inr (.iface tPg (fltT (pFail e l code))), h) := by
  obtain ⟨v, hc, hs⟩ := p
  cases l with
  | nil =>
    have hv : v = .nils ∨ ∃ id, v = .isl id tTk [] := by
      rcases hs with ⟨_, h⟩ | h
      · exact .inl h
      · exact .inr h
    by_cases h5 : code = 5
    · have d5 : decide (code = 5) = true := decide_eq_true h5
      rcases hv with rfl | ⟨id, rfl⟩
      · refine runF_R fn_pfail rfl ?_; unfold rc_pfail
        simp only [sim, simB, Nat.reduceAdd, Nat.reduceSub, List.replicate, reduceCtorEq, Nat.reduceLeDiff, Nat.reduceLT, clearA, hc, d5, Int.reduceLT, Int.natCast_zero, Int.cast_ofNat_Int, mki_agg, cFR_panic, Int.lt_irrefl, gt_iff_lt]
        rw [show pFail e [] code = (6, e) by simp [pFail, h5]]
        rw [r_pan rfl, cFR_panic]
        exact fg_yesP (GrewA.refl _) rfl
      · refine runF_R fn_pfail rfl ?_; unfold rc_pfail
        simp only [sim, simB, Nat.reduceAdd, Nat.reduceSub, List.replicate, reduceCtorEq, Nat.reduceLeDiff, Nat.reduceLT, clearA, hc, d5, Int.reduceLT, Int.natCast_zero, Int.cast_ofNat_Int, mki_agg, cFR_panic, Int.lt_irrefl, gt_iff_lt]
        rw [show pFail e [] code = (6, e) by simp [pFail, h5]]
        rw [r_pan rfl, cFR_panic]
        exact fg_yesP (GrewA.refl _) rfl
    · have d5 : decide (code = 5) = false := decide_eq_false h5
      rcases hv with rfl | ⟨id, rfl⟩
      · refine runF_R fn_pfail rfl ?_; unfold rc_pfail
        simp only [sim, simB, Nat.reduceAdd, Nat.reduceSub, List.replicate, reduceCtorEq, Nat.reduceLeDiff, Nat.reduceLT, clearA, hc, d5, Int.reduceLT, Int.natCast_zero, Int.cast_ofNat_Int, mki_agg, cFR_panic, Int.lt_irrefl, gt_iff_lt]
        rw [show pFail e [] code = (code, e) by simp [pFail, h5]]
        rw [r_pan rfl, cFR_panic]
        exact fg_yesP (GrewA.refl _) rfl
      · refine runF_R fn_pfail rfl ?_; unfold rc_pfail
        simp only [sim, simB, Nat.reduceAdd, Nat.reduceSub, List.replicate, reduceCtorEq, Nat.reduceLeDiff, Nat.reduceLT, clearA, hc, d5, Int.reduceLT, Int.natCast_zero, Int.cast_ofNat_Int, mki_agg, cFR_panic, Int.lt_irrefl, gt_iff_lt]
        rw [show pFail e [] code = (code, e) by simp [pFail, h5]]
        rw [r_pan rfl, cFR_panic]
        exact fg_yesP (GrewA.refl _) rfl
  | cons t r =>
    obtain ⟨id, rfl⟩ : ∃ id, v = .isl id tTk (t.row :: rowsT r) := by
      rcases hs with ⟨h, _⟩ | h
      · cases h
      · exact h
    have hl : (0 : Int) < ((t.row :: rowsT r).length : Int) := by
      simp only [List.length_cons]
      omega
    have i0 : ixaR (some tTk) none (.isl id tTk (t.row :: rowsT r)) (.int .i64 0) = some (.ip [.int .i64 (t.at' : Nat), .str t.text, .bool t.num, .int .i64 t.n] 0) := ix_isl (i := 0) rfl rfl
    have hl' : (0 : Int) < (((rowsT r).length + 1 : Nat) : Int) := by omega
    refine runF_R fn_pfail rfl ?_; unfold rc_pfail
    simp only [sim, simB, Nat.reduceAdd, Nat.reduceSub, List.replicate, reduceCtorEq, Nat.reduceLeDiff, Nat.reduceLT, clearA, hc, hl, hl', i0, mki_agg, cFR_panic]
    rw [r_pan rfl, cFR_panic]
    exact fg_yesP (GrewA.refl _) rfl
/-- it comes, and is gone over -/
theorem pis_hit {b : Nat} {e : Int} {l r : List TD} (p : PH h b e l) {s : List UInt8} (hi : pIs s l = some r) : runF Tryd.prog po 51 [.ptr b 0 0, .str s] h = some (.inl (.bool true), pc h b e r) := by
  obtain ⟨v, hc, hs⟩ := p
  obtain ⟨t, rfl, tn, rfl⟩ := is_some hi
  obtain ⟨id, rfl⟩ : ∃ id, v = .isl id tTk (t.row :: rowsT r) := by
    rcases hs with ⟨h, _⟩ | h
    · cases h
    · exact h
  have hl' : (0 : Int) < (((rowsT r).length + 1 : Nat) : Int) := by omega
  have i0 : ixaR (some tTk) none (.isl id tTk (t.row :: rowsT r)) (.int .i64 0) = some (.ip [.int .i64 (t.at' : Nat), .str t.text, .bool false, .int .i64 t.n] 0) := by
    have := ix_isl (q := .i64) (e := tTk) (el := tTk) (id := id) (es := t.row :: rowsT r) (i := 0) (r := t.row) rfl rfl
    simp only [TD.row, tn] at this ⊢
    exact this
  refine runF_R fn_pis rfl ?_; unfold rc_pis
  simp only [sim, simB, Nat.reduceAdd, Nat.reduceSub, List.replicate, reduceCtorEq, Nat.reduceLeDiff, Nat.reduceLT, clearA, hc, hl', i0, slc_tail, eq_self]
  rfl
/-- another one comes, or none -/
theorem pis_miss {b : Nat} {e : Int} {l : List TD} (p : PH h b e l) {s : List UInt8} (hi : pIs s l = none) : runF Tryd.prog po 51 [.ptr b 0 0, .str s] h = some (.inl (.bool false), h) := by
  obtain ⟨v, hc, hs⟩ := p
  cases l with
  | nil =>
    have hv : v = .nils ∨ ∃ id, v = .isl id tTk [] := by
      rcases hs with ⟨_, h⟩ | h
      · exact .inl h
      · exact .inr h
    rcases hv with rfl | ⟨id, rfl⟩
    · refine runF_R fn_pis rfl ?_; unfold rc_pis
      simp only [sim, simB, Nat.reduceAdd, Nat.reduceSub, List.replicate, reduceCtorEq, Nat.reduceLeDiff, Nat.reduceLT, clearA, hc, Int.natCast_zero, Int.cast_ofNat_Int, Int.lt_irrefl]
    · refine runF_R fn_pis rfl ?_; unfold rc_pis
      simp only [sim, simB, Nat.reduceAdd, Nat.reduceSub, List.replicate, reduceCtorEq, Nat.reduceLeDiff, Nat.reduceLT, clearA, hc, Int.natCast_zero, Int.cast_ofNat_Int, Int.lt_irrefl]
  | cons t r =>
    obtain ⟨id, rfl⟩ : ∃ id, v = .isl id tTk (t.row :: rowsT r) := by
      rcases hs with ⟨h, _⟩ | h
      · cases h
      · exact h
    have hl' : (0 : Int) < (((rowsT r).length + 1 : Nat) : Int) := by omega
    have i0 : ixaR (some tTk) none (.isl id tTk (t.row :: rowsT r)) (.int .i64 0) = some (.ip [.int .i64 (t.at' : Nat), .str t.text, .bool t.num, .int .i64 t.n] 0) := ix_isl (i := 0) rfl rfl
    have hn : ¬ (t.num = false ∧ t.text = s) := by
      intro hh
      simp only [pIs, if_pos hh] at hi
      cases hi
    cases hm : t.num with
    | true =>
      rw [hm] at i0
      refine runF_R fn_pis rfl ?_; unfold rc_pis
      simp only [sim, simB, Nat.reduceAdd, Nat.reduceSub, List.replicate, reduceCtorEq, Nat.reduceLeDiff, Nat.reduceLT, clearA, hc, hl', i0]
    | false =>
      rw [hm] at i0
      have ht : decide (t.text = s) = false := decide_eq_false fun e => hn ⟨hm, e⟩
      refine runF_R fn_pis rfl ?_; unfold rc_pis
      simp only [sim, simB, Nat.reduceAdd, Nat.reduceSub, List.replicate, reduceCtorEq, Nat.reduceLeDiff, Nat.reduceLT, clearA, hc, hl', i0, ht]
theorem pwant_ok {b : Nat} {e : Int} {l r : List TD} (p : PH h b e l) {s : List UInt8} (hw : pWant e s l = .ok r) : runF Tryd.prog po 32 [.ptr b 0 0, .str s] h = some (.inl (.tup []), pc h b e r) := by
  have e1 := pis_hit p (want_ok hw)
  refine runF_R fn_pwant rfl ?_; unfold rc_pwant
  simp only [sim, simB, Nat.reduceAdd, Nat.reduceSub, List.replicate, reduceCtorEq, Nat.reduceLeDiff, Nat.reduceLT, clearA, e1]
theorem want_err {e : Int} {s : List UInt8} {l : List TD} {f : Int × Int} (h : pWant e s l = .error f) : pIs s l = none ∧ f = pFail e l 5 := by
  unfold pWant at h
  split at h
  · cases h
  · rename_i hn
    injection h with h
    exact ⟨hn, h.symm⟩
theorem pwant_no {b : Nat} {e : Int} {l : List TD} (p : PH h b e l) {s : List UInt8} {f : Int × Int} (hw : pWant e s l = .error f) : runF Tryd.prog po 32 [.ptr b 0 0, .str s] h = some (.inr (.iface tPg (fltT f)), h) := by
  obtain ⟨hn, rfl⟩ := want_err hw
  have e1 := pis_miss p hn
  have e2 := pfail_run p 5
  refine runF_R fn_pwant rfl ?_; unfold rc_pwant
  simp only [sim, simB, Nat.reduceAdd, Nat.reduceSub, List.replicate, reduceCtorEq, Nat.reduceLeDiff, Nat.reduceLT, clearA, e1, e2]
theorem PH.cons {b : Nat} {e : Int} {t : TD} {r : List TD} (p : PH h b e (t :: r)) : ∃ id, h.cell b = some [[.isl id tTk (t.row :: rowsT r), .int .i64 e]] ∧ (0 : Int) < (((rowsT r).length + 1 : Nat) : Int) ∧ (¬ (((rowsT r).length + 1 : Nat) : Int) = 0) ∧
    ixaR (some tTk) none (.isl id tTk (t.row :: rowsT r)) (.int .i64 0) = some (.ip [.int .i64 (t.at' : Nat), .str t.text, .bool t.num, .int .i64 t.n] 0) := by
  obtain ⟨v, hc, hs⟩ := p
  obtain ⟨id, rfl⟩ : ∃ id, v = .isl id tTk (t.row :: rowsT r) := by
    rcases hs with ⟨h, _⟩ | h
    · cases h
    · exact h
  exact ⟨id, hc, by omega, by omega, ix_isl (i := 0) rfl rfl⟩
theorem PH.nil {b : Nat} {e : Int} (p : PH h b e []) : h.cell b = some [[.nils, .int .i64 e]] ∨ ∃ id, h.cell b = some [[.isl id tTk [], .int .i64 e]] := by
  obtain ⟨v, hc, hs⟩ := p
  rcases hs with ⟨_, rfl⟩ | ⟨id, rfl⟩
  · exact .inl hc
  · exact .inr ⟨id, hc⟩
theorem pnum_ok {b : Nat} {e n : Int} {l r : List TD} (p : PH h b e l) (hn : pNum e l = .ok (n, r)) : runF Tryd.prog po 54 [.ptr b 0 0] h = some (.inl (.int .i64 n), pc h b e r) := by
  obtain ⟨t, rfl, tn, rfl⟩ := num_ok hn
  obtain ⟨id, hc, hl, hz, i0⟩ := p.cons
  rw [tn] at i0
  refine runF_R fn_pnum rfl ?_; unfold rc_pnum
  simp only [sim, simB, Nat.reduceAdd, Nat.reduceSub, List.replicate, reduceCtorEq, Nat.reduceLeDiff, Nat.reduceLT, clearA, hc, hl, hz, i0, slc_tail]
  rfl
theorem pnum_no {b : Nat} {e : Int} {l : List TD} {f : Int × Int} (p : PH h b e l) (hn : pNum e l = .error f) : runF Tryd.prog po 54 [.ptr b 0 0] h = some (.inr (.iface tPg (fltT f)), h) := by
  have e2 := pfail_run p 5
  cases l with
  | nil =>
    rw [show f = pFail e [] 5 from (Except.error.inj hn).symm]
    rcases p.nil with hc | ⟨id, hc⟩
    · refine runF_R fn_pnum rfl ?_; unfold rc_pnum
      simp only [sim, simB, Nat.reduceAdd, Nat.reduceSub, List.replicate, reduceCtorEq, Nat.reduceLeDiff, Nat.reduceLT, clearA, hc, Int.natCast_zero, Int.cast_ofNat_Int, eq_self, e2]
    · refine runF_R fn_pnum rfl ?_; unfold rc_pnum
      simp only [sim, simB, Nat.reduceAdd, Nat.reduceSub, List.replicate, reduceCtorEq, Nat.reduceLeDiff, Nat.reduceLT, clearA, hc, Int.natCast_zero, Int.cast_ofNat_Int, eq_self, e2]
  | cons t r =>
    obtain ⟨id, hc, hl, hz, i0⟩ := p.cons
    simp only [pNum] at hn
    split at hn
    · cases hn
    · rename_i hm
      rw [show f = pFail e (t :: r) 5 from (Except.error.inj hn).symm]
      have hm : t.num = false := by simpa using hm
      rw [hm] at i0
      refine runF_R fn_pnum rfl ?_; unfold rc_pnum
      simp only [sim, simB, Nat.reduceAdd, Nat.reduceSub, List.replicate, reduceCtorEq, Nat.reduceLeDiff, Nat.reduceLT, clearA, hc, hl, hz, i0, e2]
theorem pfew_ok {b : Nat} {e n : Int} {l r : List TD} (p : PH h b e l) (hn : pFew e l = .ok (n, r)) : runF Tryd.prog po 55 [.ptr b 0 0] h = some (.inl (.int .i64 n), pc h b e r) := by
  obtain ⟨t, rfl, tn, rfl, n1, n2⟩ := few_ok hn
  have hq : pNum e (t :: r) = .ok (t.n, r) := by simp [pNum, tn]
  have e1 := pnum_ok p hq
  obtain ⟨id, hc, hl, hz, i0⟩ := p.cons
  rw [tn] at i0
  have d1 : decide (t.n < 0) = false := decide_eq_false (by omega)
  have d2 : decide (999 < t.n) = false := decide_eq_false (by omega)
  refine runF_R fn_pfew rfl ?_; unfold rc_pfew
  simp only [sim, simB, Nat.reduceAdd, Nat.reduceSub, List.replicate, reduceCtorEq, Nat.reduceLeDiff, Nat.reduceLT, clearA, hc, hl, hz, i0, d1, d2, e1]
theorem pfew_no {b : Nat} {e : Int} {l : List TD} {f : Int × Int} (p : PH h b e l) (hn : pFew e l = .error f) : runF Tryd.prog po 55 [.ptr b 0 0] h = some (.inr (.iface tPg (fltT f)), h) := by
  cases l with
  | nil =>
    have e1 := pnum_no p (show pNum e [] = .error f from hn)
    rcases p.nil with hc | ⟨id, hc⟩
    · refine runF_R fn_pfew rfl ?_; unfold rc_pfew
      simp only [sim, simB, Nat.reduceAdd, Nat.reduceSub, List.replicate, reduceCtorEq, Nat.reduceLeDiff, Nat.reduceLT, clearA, hc, Int.natCast_zero, Int.cast_ofNat_Int, Int.lt_irrefl, e1]
    · refine runF_R fn_pfew rfl ?_; unfold rc_pfew
      simp only [sim, simB, Nat.reduceAdd, Nat.reduceSub, List.replicate, reduceCtorEq, Nat.reduceLeDiff, Nat.reduceLT, clearA, hc, Int.natCast_zero, Int.cast_ofNat_Int, Int.lt_irrefl, e1]
  | cons t r =>
    obtain ⟨id, hc, hl, hz, i0⟩ := p.cons
    simp only [pFew] at hn
    split at hn
    · rename_i hm
      rw [show f = pFail e (t :: r) 1 from (Except.error.inj hn).symm]
      have e2 := pfail_run p 1
      rw [hm.1] at i0
      cases d1 : decide (t.n < 0) with
      | true =>
        refine runF_R fn_pfew rfl ?_; unfold rc_pfew
        simp only [sim, simB, Nat.reduceAdd, Nat.reduceSub, List.replicate, reduceCtorEq, Nat.reduceLeDiff, Nat.reduceLT, clearA, hc, hl, hz, i0, d1, e2]
      | false =>
        have d2 : decide (999 < t.n) = true := decide_eq_true (hm.2.resolve_left (of_decide_eq_false d1))
        refine runF_R fn_pfew rfl ?_; unfold rc_pfew
        simp only [sim, simB, Nat.reduceAdd, Nat.reduceSub, List.replicate, reduceCtorEq, Nat.reduceLeDiff, Nat.reduceLT, clearA, hc, hl, hz, i0, d1, d2, e2]
    · rename_i hm
      have e1 := pnum_no p hn
      have hx : t.num = false := by
        cases hx : t.num with
        | false => rfl
        | true =>
          simp only [pNum, hx, if_true] at hn
          cases hn
      rw [hx] at i0
      refine runF_R fn_pfew rfl ?_; unfold rc_pfew
      simp only [sim, simB, Nat.reduceAdd, Nat.reduceSub, List.replicate, reduceCtorEq, Nat.reduceLeDiff, Nat.reduceLT, clearA, hc, hl, hz, i0, e1]
/-- the words, one after the other -/
theorem ppick_run {b : Nat} {e : Int} {l : List TD} (p : PH h b e l) {g : FuncId} {of : Int → List UInt8} (hg : ∀ (k : Int) (h : AH), runF Tryd.prog po g [.int .i64 k] h = some (.inl (.str (of k)), h)) {most : Nat} (hm : most ≤ 1000) :
    ∃ q h', runF Tryd.prog po 53 [.ptr b 0 0, .int .i64 (most : Int), .fn g [] []] h = some (q, h') ∧ (match pPick e most of l with
      | .ok (k, r) => q = .inl (.int .i64 k) ∧ h' = pc h b e r
      | .error f => q = .inr (.iface tPg (fltT f)) ∧ h' = h) := by
  have e2 := pfail_run p 5
  refine runF_W fn_ppick rfl fun Q hQ hP => ?_
  unfold rc_ppick
  simp only [sim, simB, Nat.reduceAdd, Nat.reduceSub, List.replicate, reduceCtorEq, Nat.reduceLeDiff, Nat.reduceLT, clearA]
  refine loop_W (fun k : Nat => most + 1 - k) (fun k V h' => ∃ w5 w6, V = [.ptr b 0 0, .int .i64 (most : Int), .fn g [] [], .int .i64 0, .int .i64 ((k : Nat) : Int), w5, w6] ∧ h' = h ∧ 1 ≤ k ∧ k ≤ most + 1 ∧ pPick e most of l = pPickFrom e of l (most + 1 - k) k) ?_ 1 ⟨_, _, rfl, rfl, by omega, by omega, rfl⟩
  rintro k V h' ⟨w5, w6, rfl, rfl, k1, k2, hk⟩ next
  have hwi : IntKind.wrap .i64 ((k : Int) + 1) = ((k + 1 : Nat) : Int) := w64' (by omega) (by omega) (by omega)
  by_cases hlt : k ≤ most
  · have hlt' : (k : Int) ≤ (most : Int) := by omega
    obtain ⟨c, hc⟩ : ∃ c, most + 1 - k = c + 1 := ⟨most - k, by omega⟩
    cases hi : pIs (of k) l with
    | some r =>
      have e1 := pis_hit p hi
      have hv : pPick e most of l = .ok ((k : Int), r) := by rw [hk, hc, pPickFrom, hi]
      rw [r_lpb rc_ppick_b1.eq_1]
      simp only [sim, simB, Nat.reduceAdd, Nat.reduceSub, List.replicate, reduceCtorEq, Nat.reduceLeDiff, Nat.reduceLT, clearA, calls, hlt', hg, e1]
      exact hQ _ _ _ rfl (by rw [hv]; exact ⟨rfl, rfl⟩)
    | none =>
      have e1 := pis_miss p hi
      rw [r_lpb rc_ppick_b1.eq_1]
      simp only [sim, simB, Nat.reduceAdd, Nat.reduceSub, List.replicate, reduceCtorEq, Nat.reduceLeDiff, Nat.reduceLT, clearA, calls, hlt', hg, e1, hwi]
      exact next (k + 1) _ _ (by omega) ⟨_, _, rfl, rfl, by omega, by omega, by rw [hk, hc, pPickFrom, hi, show most + 1 - (k + 1) = c by omega]⟩
  · have hlt' : ¬ (k : Int) ≤ (most : Int) := by omega
    have hv : pPick e most of l = .error (pFail e l 5) := by rw [hk, show most + 1 - k = 0 by omega, pPickFrom]
    rw [r_lpb rc_ppick_b1.eq_1]
    simp only [sim, simB, Nat.reduceAdd, Nat.reduceSub, List.replicate, reduceCtorEq, Nat.reduceLeDiff, Nat.reduceLT, clearA, hlt', e2]
    exact hP _ _ _ (by rw [hv]; exact ⟨rfl, rfl⟩)
end
end Go.Proofs.YtngphebjmmencaaDoor
namespace Go.Proofs.YtngphebjmmencaaDoor
set_option linter.unusedSimpArgs false
set_option linter.unusedVariables false
open Go

def rc_bWrite : List RS := [(.ops [(.i (.v 2) (.mv (.c (.int .i64 0)))), (.i (.v 3) (.mv (.c .nili)))]), (.ops [(.i .l (.mv (.v 0))), (.i .l (.call (.c (.fn 65 [] [])) [(.l 0)]))]), (.ops [(.i .l (.mv (.v 0))), (.i .l (.mv (.v 0))), (.i .l (.nilc (.l 0))), (.i .l (.fad 1 (.l 0))), (.i .l (.load false 1 (.l 0))), (.i .l (.mv (.v 1))), (.i .l (.apps true 5 (.l 1) (.l 0))), (.i .l (.nilc (.l 6))), (.i .l (.fad 1 (.l 0))), (.i .n (.store 1 (.l 0) (.l 2)))]), (.ops [(.i .l (.mv (.v 1))), (.i .l (.len true none (.l 0))), (.i (.v 2) (.mv (.l 0))), (.i (.v 3) (.mv (.c .nili)))]), .ret]
theorem fn_bWrite : FnR Tryd.prog po 43 2 4 [0, 1, 4, 5] rc_bWrite [(.v 2), (.v 3)] false := ⟨_, _, Tryd.func43, rfl, rfl, by kernel_rfl, by kernel_rfl, by kernel_rfl, by kernel_rfl, by kernel_rfl⟩
def rc_bLen : List RS := [(.ops [(.i (.v 1) (.mv (.c (.int .i64 0))))]), (.ops [(.i .l (.mv (.v 0))), (.i .l (.nilc (.l 0))), (.i .l (.fad 1 (.l 0))), (.i .l (.load false 1 (.l 0))), (.i .l (.len false (some 5) (.l 0))), (.i (.v 1) (.mv (.l 0)))]), .ret]
theorem fn_bLen : FnR Tryd.prog po 45 1 2 [0, 2] rc_bLen [(.v 1)] true := ⟨_, _, Tryd.func45, rfl, rfl, by kernel_rfl, by kernel_rfl, by kernel_rfl, by kernel_rfl, by kernel_rfl⟩
end Go.Proofs.YtngphebjmmencaaDoor
namespace Go.Proofs.YtngphebjmmencaaDoor
set_option linter.unusedSimpArgs false
set_option linter.unusedVariables false
open Go

abbrev tU8 : TypeId := 5
/-- the block b begins with a Builder that holds the text l; its buffer is the block bb -/
structure Buf (h : AH) (T b : Nat) (bb : Option Nat) (rest : List AV) (l : List UInt8) : Prop where
  ty : buildT.contains T = true
  lt : b < h.n
  mem : ∃ a0 v, h.cell b = some [a0 :: v :: rest] ∧ (a0 = .nilp ∨ a0 = .tptr T b) ∧
    ((bb = none ∧ l = [] ∧ v = .nils) ∨ ∃ b', bb = some b' ∧ v = .msl b' 0 l.length tU8 ∧ h.cell b' = some (bytesA l) ∧ b' ≠ b ∧ b' < h.n ∧ l ≠ [])
/-- what writing does to memory: that block, and its buffer, turn -/
structure Wr (h : AH) (bb : Option Nat) (h' : AH) (bb' : Option Nat) (b : Nat) : Prop where
  n : h.n ≤ h'.n
  ids : h.ids ≤ h'.ids
  cell : ∀ q, q < h.n → q ≠ b → bb ≠ some q → h'.cell q = h.cell q
  buf : ∀ q, q < h.n → bb ≠ some q → bb' ≠ some q
  hw : ∀ k, k < h.ids → h'.hw k = h.hw k
theorem Wr.refl (h : AH) (bb : Option Nat) (b : Nat) : Wr h bb h bb b := ⟨Nat.le_refl _, Nat.le_refl _, fun _ _ _ _ => rfl, fun _ _ h => h, fun _ _ => rfl⟩
theorem Wr.trans {h1 h2 h3 : AH} {b1 b2 b3 : Option Nat} {b : Nat} (x : Wr h1 b1 h2 b2 b) (y : Wr h2 b2 h3 b3 b) : Wr h1 b1 h3 b3 b :=
  ⟨Nat.le_trans x.n y.n, Nat.le_trans x.ids y.ids, fun q hq hb hn => (y.cell q (Nat.lt_of_lt_of_le hq x.n) hb (x.buf q hq hn)).trans (x.cell q hq hb hn), fun q hq hn => y.buf q (Nat.lt_of_lt_of_le hq x.n) (x.buf q hq hn),
    fun k hk => (y.hw k (Nat.lt_of_lt_of_le hk x.ids)).trans (x.hw k hk)⟩
/-- new memory of another's -/
theorem Wr.grew {h1 h2 : AH} {bb : Option Nat} {b : Nat} (g : GrewA h1 h2) (hb : ∀ q, bb = some q → q < h1.n) : Wr h1 bb h2 bb b := ⟨g.n, g.ids, fun q hq _ _ => g.cell q hq, fun _ _ h => h, g.hw⟩
theorem Wr.to {h0 h h' : AH} {bb bb' : Option Nat} {b : Nat} (x : Wr h bb h' bb' b) (g : GrewA h0 h) (h1 : h0.n ≤ b) (h2 : ∀ q, bb = some q → h0.n ≤ q) : GrewA h0 h' ∧ ∀ q, bb' = some q → h0.n ≤ q := by
  refine ⟨⟨Nat.le_trans g.n x.n, Nat.le_trans g.ids x.ids, fun q hq => ?_, fun k hk => ?_⟩, fun q hq => ?_⟩
  · rw [x.cell q (Nat.lt_of_lt_of_le hq g.n) (by omega) (fun e => by have := h2 q e; omega)]
    exact g.cell q hq
  · rw [x.hw k (Nat.lt_of_lt_of_le hk g.ids)]
    exact g.hw k hk
  · by_cases hl : q < h0.n
    · have := x.buf q (Nat.lt_of_lt_of_le hl g.n) (fun e => by have := h2 q e; omega)
      exact absurd hq this
    · omega
theorem Buf.bb_lt {h : AH} {T b : Nat} {bb : Option Nat} {rest : List AV} {l : List UInt8} (B : Buf h T b bb rest l) : ∀ q, bb = some q → q < h.n := by
  intro q hq
  obtain ⟨_, _, _, _, c⟩ := B.mem
  rcases c with ⟨rfl, _⟩ | ⟨b', rfl, _, _, _, h5, _⟩
  · cases hq
  · injection hq with hq
    omega
/-- others' memory grows -/
theorem Buf.grew {h h' : AH} {T b : Nat} {bb : Option Nat} {rest : List AV} {l : List UInt8} (B : Buf h T b bb rest l) (g : GrewA h h') : Buf h' T b bb rest l := by
  obtain ⟨a0, v, c1, c2, c3⟩ := B.mem
  refine ⟨B.ty, Nat.lt_of_lt_of_le B.lt g.n, a0, v, (g.cell b B.lt).trans c1, c2, ?_⟩
  rcases c3 with c3 | ⟨b', d1, d2, d3, d4, d5, d6⟩
  · exact .inl c3
  · exact .inr ⟨b', d1, d2, (g.cell b' d5).trans d3, d4, Nat.lt_of_lt_of_le d5 g.n, d6⟩

theorem itoa_run {n : Int} (hn : -9223372036854775808 ≤ n ∧ n ≤ 9223372036854775807) (h : AH) : runF Tryd.prog po 66 [.int .i64 n] h = some (.inl (.str (Lib.itoa n)), h) := by
  unfold runF
  rw [ext_itoa]
  show itoaF _ _ = _
  unfold itoaF
  exact if_pos hn
theorem cc_run {h : AH} {T b : Nat} {a0 : AV} {row : List AV} (hT : buildT.contains T = true) (hc : h.cell b = some [a0 :: row]) (ha : a0 = .nilp ∨ a0 = .tptr T b) :
    ∃ h', runF Tryd.prog po 65 [.tptr T b] h = some (.inl (.tup []), h') ∧ h'.cell b = some [.tptr T b :: row] ∧ (∀ q, q ≠ b → h'.cell q = h.cell q) ∧ h'.n = h.n ∧ h'.ids = h.ids ∧ h'.hw = h.hw := by
  unfold runF
  rw [ext_cc]
  show ∃ h', ccF _ _ = _ ∧ _
  unfold ccF
  simp only [hT, if_true, hc]
  rcases ha with rfl | rfl
  · exact ⟨_, rfl, set_same, fun q hq => set_ne hq, rfl, rfl, rfl⟩
  · exact ⟨h, by simp, hc, fun _ _ => rfl, rfl, rfl, rfl⟩

section
variable {h : AH}
theorem bytesA_app (l s : List UInt8) : bytesA l ++ bytesA s = bytesA (l ++ s) := by simp [bytesA]
theorem bWrite_run {T b : Nat} {bb : Option Nat} {rest : List AV} {l s : List UInt8} (B : Buf h T b bb rest l) (hl : l.length ≤ 1000000000) (hs : s.length ≤ 1000000000) :
    ∃ h' bb', runF Tryd.prog po 43 [.tptr T b, .str s] h = some (.inl (.tup [.int .i64 s.length, .nili]), h') ∧ Buf h' T b bb' rest (l ++ s) ∧ Wr h bb h' bb' b := by
  obtain ⟨a0, v, c1, c2, c3⟩ := B.mem
  obtain ⟨h1, e1, k1, k2, k3, k4, k5⟩ := cc_run B.ty c1 c2
  -- what is appended
  have key : ∃ v2 h2 bb', appendS true tU8 v (.str s) h1 = some (v2, h2) ∧ h2.cell b = some [.tptr T b :: v :: rest] ∧ v2.one = true ∧ v2.cells = [v2] ∧ h.n ≤ h2.n ∧ h2.ids = h.ids ∧ h2.hw = h.hw ∧
      (∀ q, q < h.n → q ≠ b → bb ≠ some q → h2.cell q = h.cell q) ∧ (∀ q, q < h.n → bb ≠ some q → bb' ≠ some q) ∧
      ((bb' = none ∧ l ++ s = [] ∧ v2 = .nils) ∨ ∃ b', bb' = some b' ∧ v2 = .msl b' 0 (l ++ s).length tU8 ∧ h2.cell b' = some (bytesA (l ++ s)) ∧ b' ≠ b ∧ b' < h2.n ∧ l ++ s ≠ []) := by
    have hbn : b < h1.n := by rw [k3]; exact B.lt
    by_cases hz : s.length = 0
    · have hs0 := List.length_eq_zero_iff.1 hz
      subst hs0
      rcases c3 with ⟨rfl, rfl, rfl⟩ | ⟨b', rfl, rfl, d3, d4, d5, d6⟩
      · exact ⟨.nils, h1, none, rfl, k1, rfl, rfl, by omega, k4, k5, fun q _ hq _ => k2 q hq, fun _ _ h => h, .inl ⟨rfl, rfl, rfl⟩⟩
      · refine ⟨_, h1, some b', ?_, k1, rfl, rfl, by omega, k4, k5, fun q _ hq _ => k2 q hq, fun _ _ h => h, .inr ⟨b', rfl, rfl, ?_, d4, by omega, ?_⟩⟩
        · simp [appendS, sameA]
        · rw [k2 b' d4, List.append_nil]
          exact d3
        · simpa using d6
    · have hne : ∀ l' : List UInt8, l' ++ s ≠ [] := fun l' e => hz (by have := congrArg List.length e; simp at this; exact List.length_eq_zero_iff.2 this.2)
      rcases c3 with ⟨rfl, rfl, rfl⟩ | ⟨b', rfl, rfl, d3, d4, d5, d6⟩
      · refine ⟨.msl h1.n 0 s.length tU8, h1.push (bytesA s), some h1.n, ?_, ?_, rfl, rfl, by simp only [push_n]; omega, k4, k5, fun q hq hb _ => ?_, fun q hq _ e => by injection e with e; omega, .inr ⟨h1.n, rfl, by simp, push_same, by omega, by simp only [push_n]; omega, hne []⟩⟩
        · simp only [appendS]
          rw [if_neg hz, if_pos hs]
          rfl
        · exact (push_lt hbn).trans k1
        · exact (push_lt (by omega)).trans (k2 q hb)
      · refine ⟨.msl h1.n 0 (l.length + s.length) tU8, (h1.set b' none).push (bytesA l ++ bytesA s), some h1.n, ?_, ?_, rfl, rfl, by simp only [push_n, set_n]; omega, k4, k5, fun q hq hb hn => ?_, fun q hq _ e => by injection e with e; omega, .inr ⟨h1.n, rfl, by simp, ?_, by omega, by simp only [push_n, set_n]; omega, hne l⟩⟩
        · simp only [appendS]
          rw [if_neg hz, if_pos hs]
          have hc : h1.cell b' = some (bytesA l) := by rw [k2 b' d4]; exact d3
          have hll : l.length ≤ (bytesA l).length := by simp
          simp only [hl, and_self, if_true, hc, Option.bind_some, hll]
          rw [List.take_of_length_le (by simp)]
        · rw [push_ne (by rw [set_n]; omega), set_ne (fun e => d4 e.symm)]
          exact k1
        · rw [push_ne (by rw [set_n]; omega), set_ne (fun e => hn (by rw [e]))]
          exact k2 q hb
        · rw [bytesA_app]
          exact push_same (h := h1.set b' none)
  obtain ⟨v2, h2, bb', ap, p1, p2, p3, p4, p5, p6, p7, p8, p9⟩ := key
  have hbn : b < h2.n := Nat.lt_of_lt_of_le B.lt p4
  have hrun : runF Tryd.prog po 43 [.tptr T b, .str s] h = some (.inl (.tup [.int .i64 s.length, .nili]), h2.set b (some [.tptr T b :: v2 :: rest])) := by
    refine runF_R fn_bWrite rfl ?_; unfold rc_bWrite
    simp only [sim, simB, Nat.reduceAdd, Nat.reduceSub, List.replicate, reduceCtorEq, Nat.reduceLeDiff, Nat.reduceLT, clearA, e1, k1, ap, p1, p2, p3]
  refine ⟨_, bb', hrun, ⟨B.ty, hbn, _, _, set_same, .inr rfl, ?_⟩, ⟨p4, by rw [set_ids, p5]; exact Nat.le_refl _, fun q hq hb hn => by rw [set_ne hb]; exact p7 q hq hb hn, p8, fun k hk => by rw [set_hw, p6]⟩⟩
  rcases p9 with q | ⟨b', q1, q2, q3, q4, q5, q6⟩
  · exact .inl q
  · exact .inr ⟨b', q1, q2, by rw [set_ne q4]; exact q3, q4, q5, q6⟩
theorem bLen_run {T b : Nat} {bb : Option Nat} {rest : List AV} {l : List UInt8} (B : Buf h T b bb rest l) : runF Tryd.prog po 45 [.tptr T b] h = some (.inl (.int .i64 l.length), h) := by
  obtain ⟨a0, v, c1, c2, c3⟩ := B.mem
  refine runF_R fn_bLen rfl ?_; unfold rc_bLen
  rcases c3 with ⟨rfl, rfl, rfl⟩ | ⟨b', rfl, rfl, d3, d4, d5, d6⟩
  · simp only [sim, simB, Nat.reduceAdd, Nat.reduceSub, List.replicate, reduceCtorEq, Nat.reduceLeDiff, Nat.reduceLT, clearA, c1]
  · simp only [sim, simB, Nat.reduceAdd, Nat.reduceSub, List.replicate, reduceCtorEq, Nat.reduceLeDiff, Nat.reduceLT, clearA, c1]
theorem bStr_run {T b : Nat} {bb : Option Nat} {rest : List AV} {l : List UInt8} (B : Buf h T b bb rest l) :
    ∃ h', runF Tryd.prog po 46 [.tptr T b] h = some (.inl (.str l), h') ∧ (∀ q, bb ≠ some q → h'.cell q = h.cell q) ∧ h'.n = h.n ∧ h'.ids = h.ids ∧ h'.hw = h.hw := by
  obtain ⟨a0, v, c1, c2, c3⟩ := B.mem
  unfold runF
  rw [ext_bstr]
  show ∃ h', bstrF _ _ = _ ∧ _
  unfold bstrF
  simp only [c1]
  rcases c3 with ⟨rfl, rfl, rfl⟩ | ⟨b', rfl, rfl, d3, d4, d5, d6⟩
  · exact ⟨h, rfl, fun _ _ => rfl, rfl, rfl, rfl⟩
  · refine ⟨h.set b' none, ?_, fun q hq => set_ne (fun e => hq (by rw [e])), rfl, rfl, rfl⟩
    have hn : l.length ≠ 0 := by simpa using d6
    have hb : (bytesA l).length = l.length := by simp
    simp only [hn, ne_eq, not_false_eq_true, and_self, if_true, d3, Option.bind_some, hb, u8of_bytes, Option.map_some]
end
end Go.Proofs.YtngphebjmmencaaDoor
namespace Go.Proofs.YtngphebjmmencaaDoor
set_option linter.unusedSimpArgs false
set_option linter.unusedVariables false
open Go

def rc_pWord : List RS := [(.ops [(.i (.v 1) (.mv (.c (.str []))))]), (.ops [(.i .l (.mv (.v 0))), (.i .l (.call (.c (.fn 39 [] [])) [(.l 0)])), (.i (.v 2) (.bin (.int .i64) .lss (.l 0) (.c (.int .i64 0))))]), (.cond (.v 2) [(.ops [(.i (.v 1) (.mv (.c (.str []))))]), .ret] []), (.ops [(.i .l (.build [(.str []), (.str []), (.str []), (.str []), (.str []), (.str []), (.str []), (.str []), (.str []), (.str []), (.str []), (.str []), (.str []), (.str []), (.str []), (.str []), (.str []), (.str []), (.str []), (.str []), (.str []), (.str [])] [(0, 1), (1, 1), (2, 1), (3, 1), (4, 1), (5, 1), (6, 1), (7, 1), (8, 1), (9, 1), (10, 1), (11, 1), (12, 1), (13, 1), (14, 1), (15, 1), (16, 1), (17, 1), (18, 1), (19, 1), (20, 1), (21, 1)] [(0, (.c (.str []))), (1, (.c (.str [110, 105, 108]))), (2, (.c (.str [110, 117, 109]))), (3, (.c (.str [97, 114, 103]))), (4, (.c (.str [118, 97, 114]))), (5, (.c (.str [108, 101, 116]))), (6, (.c (.str [98, 105, 110]))), (7, (.c (.str [105, 102]))), (8, (.c (.str [112, 97, 105, 114]))), (9, (.c (.str [102, 115, 116]))), (10, (.c (.str [115, 110, 100]))), (11, (.c (.str [115, 101, 97, 108]))), (12, (.c (.str [111, 112, 101, 110]))), (13, (.c (.str [114, 101, 97, 100]))), (14, (.c (.str [119, 114, 105, 116, 101]))), (15, (.c (.str [110, 97, 114, 114, 111, 119]))), (16, (.c (.str [119, 114, 97, 112]))), (17, (.c (.str [99, 117, 116]))), (18, (.c (.str [99, 97, 108, 108]))), (19, (.c (.str [97, 115, 107]))), (20, (.c (.str [107, 101, 101, 112]))), (21, (.c (.str [107, 101, 112, 116])))])), (.i .l (.mv (.v 0))), (.i .l (.ix false (some (22, (1, false))) (.l 1) (.l 0))), (.i (.v 1) (.mv (.l 0)))]), .ret]
theorem fn_pWord : FnR Tryd.prog po 16 1 3 [0, 2, 5] rc_pWord [(.v 1)] true := ⟨_, _, Tryd.func16, rfl, rfl, by kernel_rfl, by kernel_rfl, by kernel_rfl, by kernel_rfl, by kernel_rfl⟩
def rc_pBin : List RS := [(.ops [(.i (.v 1) (.mv (.c (.str []))))]), (.ops [(.i .l (.mv (.v 0))), (.i .l (.bin (.int .i64) .lss (.l 0) (.c (.int .i64 1)))), (.i .l (.mv (.l 0))), (.g (.l 0) false .l (.mv (.v 0))), (.g (.l 1) false .l (.bin (.int .i64) .gtr (.l 0) (.c (.int .i64 5)))), (.i (.v 2) (.pick (.l 2) (.c (.bool true)) (.l 0)))]), (.cond (.v 2) [(.ops [(.i (.v 1) (.mv (.c (.str []))))]), .ret] []), (.ops [(.i .l (.build [(.str []), (.str []), (.str []), (.str []), (.str []), (.str [])] [(0, 1), (1, 1), (2, 1), (3, 1), (4, 1), (5, 1)] [(0, (.c (.str []))), (1, (.c (.str [97, 100, 100]))), (2, (.c (.str [115, 117, 98]))), (3, (.c (.str [109, 117, 108]))), (4, (.c (.str [108, 101, 115, 115]))), (5, (.c (.str [101, 113])))])), (.i .l (.mv (.v 0))), (.i .l (.ix false (some (6, (1, false))) (.l 1) (.l 0))), (.i (.v 1) (.mv (.l 0)))]), .ret]
theorem fn_pBin : FnR Tryd.prog po 18 1 3 [0, 2, 8] rc_pBin [(.v 1)] true := ⟨_, _, Tryd.func18, rfl, rfl, by kernel_rfl, by kernel_rfl, by kernel_rfl, by kernel_rfl, by kernel_rfl⟩
def rc_WordOf : List RS := [(.ops [(.i (.v 1) (.mv (.c (.str []))))]), (.ops [(.i .l (.bsl false 9 [(.str [])] 1 21 [(0, (.c (.str [110, 105, 108]))), (1, (.c (.str [110, 117, 109]))), (2, (.c (.str [97, 114, 103]))), (3, (.c (.str [118, 97, 114]))), (4, (.c (.str [108, 101, 116]))), (5, (.c (.str [98, 105, 110]))), (6, (.c (.str [105, 102]))), (7, (.c (.str [112, 97, 105, 114]))), (8, (.c (.str [102, 115, 116]))), (9, (.c (.str [115, 110, 100]))), (10, (.c (.str [115, 101, 97, 108]))), (11, (.c (.str [111, 112, 101, 110]))), (12, (.c (.str [114, 101, 97, 100]))), (13, (.c (.str [119, 114, 105, 116, 101]))), (14, (.c (.str [110, 97, 114, 114, 111, 119]))), (15, (.c (.str [119, 114, 97, 112]))), (16, (.c (.str [99, 117, 116]))), (17, (.c (.str [99, 97, 108, 108]))), (18, (.c (.str [97, 115, 107]))), (19, (.c (.str [107, 101, 101, 112]))), (20, (.c (.str [107, 101, 112, 116])))])), (.i (.v 2) (.mv (.l 0)))]), (.ops [(.i .l (.mv (.v 0))), (.i .l (.bin (.int .i64) .lss (.l 0) (.c (.int .i64 1)))), (.i .l (.mv (.l 0))), (.g (.l 0) false .l (.mv (.v 0))), (.g (.l 1) false .l (.mv (.v 2))), (.g (.l 2) false .l (.len false (some 9) (.l 0))), (.g (.l 3) false .l (.bin (.int .i64) .gtr (.l 2) (.l 0))), (.i (.v 3) (.pick (.l 4) (.c (.bool true)) (.l 0)))]), (.cond (.v 3) [(.ops [(.i (.v 1) (.mv (.c (.str []))))]), .ret] []), (.ops [(.i .l (.mv (.v 2))), (.i .l (.mv (.v 0))), (.i .l (.bin (.int .i64) .sub (.l 0) (.c (.int .i64 1)))), (.i .l (.ixa (some 9) none (.l 2) (.l 0))), (.i .l (.load false 1 (.l 0))), (.i (.v 1) (.mv (.l 0)))]), .ret]
theorem fn_WordOf : FnR Tryd.prog po 17 1 4 [0, 2, 3, 12] rc_WordOf [(.v 1)] true := ⟨_, _, Tryd.func17, rfl, rfl, by kernel_rfl, by kernel_rfl, by kernel_rfl, by kernel_rfl, by kernel_rfl⟩
def rc_BinOf : List RS := [(.ops [(.i (.v 1) (.mv (.c (.str []))))]), (.ops [(.i .l (.bsl false 9 [(.str [])] 1 5 [(0, (.c (.str [97, 100, 100]))), (1, (.c (.str [115, 117, 98]))), (2, (.c (.str [109, 117, 108]))), (3, (.c (.str [108, 101, 115, 115]))), (4, (.c (.str [101, 113])))])), (.i (.v 2) (.mv (.l 0)))]), (.ops [(.i .l (.mv (.v 0))), (.i .l (.bin (.int .i64) .lss (.l 0) (.c (.int .i64 1)))), (.i .l (.mv (.l 0))), (.g (.l 0) false .l (.mv (.v 0))), (.g (.l 1) false .l (.mv (.v 2))), (.g (.l 2) false .l (.len false (some 9) (.l 0))), (.g (.l 3) false .l (.bin (.int .i64) .gtr (.l 2) (.l 0))), (.i (.v 3) (.pick (.l 4) (.c (.bool true)) (.l 0)))]), (.cond (.v 3) [(.ops [(.i (.v 1) (.mv (.c (.str []))))]), .ret] []), (.ops [(.i .l (.mv (.v 2))), (.i .l (.mv (.v 0))), (.i .l (.bin (.int .i64) .sub (.l 0) (.c (.int .i64 1)))), (.i .l (.ixa (some 9) none (.l 2) (.l 0))), (.i .l (.load false 1 (.l 0))), (.i (.v 1) (.mv (.l 0)))]), .ret]
theorem fn_BinOf : FnR Tryd.prog po 19 1 4 [0, 2, 3, 12] rc_BinOf [(.v 1)] true := ⟨_, _, Tryd.func19, rfl, rfl, by kernel_rfl, by kernel_rfl, by kernel_rfl, by kernel_rfl, by kernel_rfl⟩
def rc_wexpr_b1 : List RS := [(.ops [(.i (.v 11) (.bin (.int .i64) .lss (.v 10) (.v 9)))]), (.cond (.v 11) [] [(.exit 1)]), (.block 2 [(.ops [(.i .l (.ixa (some 56) none (.v 8) (.v 10))), (.i .l (.load true 4 (.l 0))), (.i (.v 3) (.alloc [(.int .i64 0), (.int .i64 0), (.int .i64 0), .nils])), (.i .n (.store 4 (.v 3) (.l 0)))]), (.ops [(.i .l (.mv (.v 0))), (.i .l (.nilc (.l 0))), (.i .l (.fad 0 (.l 0))), (.i .l (.call (.c (.fn 43 [] [])) [(.l 0), (.c (.str [32]))]))]), (.ops [(.i .l (.mv (.v 0))), (.i .l (.load true 4 (.v 3))), (.i .l (.call (.c (.fn 44 [] [])) [(.l 1), (.l 0)]))])]), (.ops [(.i .l (.bin (.int .i64) .add (.v 10) (.c (.int .i64 1)))), (.i (.v 10) (.mv (.l 0)))])]
def rc_wexpr : List RS := [(.ops [(.i (.v 2) (.box 4 (.v 1)))]), (.ops [(.i .l (.mv (.v 0))), (.i .l (.nilc (.l 0))), (.i .l (.fad 0 (.l 0))), (.i .l (.fad 0 (.v 2))), (.i .l (.load false 1 (.l 0))), (.i .l (.call (.c (.fn 16 [] [])) [(.l 0)])), (.i .l (.bin .str .add (.c (.str [40])) (.l 0))), (.i .l (.call (.c (.fn 43 [] [])) [(.l 4), (.l 0)]))]), (.ops [(.i .l (.fad 0 (.v 2))), (.i (.v 4) (.load false 1 (.l 0)))]), (.block 0 [(.ops [(.i .l (.bin (.int .i64) .eql (.v 4) (.c (.int .i64 2)))), (.i (.v 5) (.mv (.l 0)))]), (.cond (.v 5) [(.ops [(.i .l (.mv (.v 0))), (.i .l (.nilc (.l 0))), (.i .l (.fad 0 (.l 0))), (.i .l (.fad 2 (.v 2))), (.i .l (.load false 1 (.l 0))), (.i .l (.call (.c (.fn 50 [] [])) [(.l 0), (.c (.int .i64 10))])), (.i .l (.bin .str .add (.c (.str [32])) (.l 0))), (.i .l (.call (.c (.fn 43 [] [])) [(.l 4), (.l 0)]))])] [(.ops [(.i .l (.bin (.int .i64) .eql (.v 4) (.c (.int .i64 4)))), (.i (.v 6) (.mv (.l 0)))]), (.cond (.v 6) [] [(.ops [(.i .l (.bin (.int .i64) .eql (.v 4) (.c (.int .i64 18)))), (.i (.v 6) (.mv (.l 0)))]), (.cond (.v 6) [] [(.ops [(.i .l (.bin (.int .i64) .eql (.v 4) (.c (.int .i64 15)))), (.i (.v 6) (.mv (.l 0)))])])]), (.cond (.v 6) [(.ops [(.i .l (.mv (.v 0))), (.i .l (.nilc (.l 0))), (.i .l (.fad 0 (.l 0))), (.i .l (.fad 1 (.v 2))), (.i .l (.load false 1 (.l 0))), (.i .l (.call (.c (.fn 66 [] [])) [(.l 0)])), (.i .l (.bin .str .add (.c (.str [32])) (.l 0))), (.i .l (.call (.c (.fn 43 [] [])) [(.l 4), (.l 0)]))])] [(.ops [(.i .l (.bin (.int .i64) .eql (.v 4) (.c (.int .i64 6)))), (.i (.v 7) (.mv (.l 0)))]), (.cond (.v 7) [(.ops [(.i .l (.mv (.v 0))), (.i .l (.nilc (.l 0))), (.i .l (.fad 0 (.l 0))), (.i .l (.fad 1 (.v 2))), (.i .l (.load false 1 (.l 0))), (.i .l (.call (.c (.fn 18 [] [])) [(.l 0)])), (.i .l (.bin .str .add (.c (.str [32])) (.l 0))), (.i .l (.call (.c (.fn 43 [] [])) [(.l 4), (.l 0)]))])] [])])])]), (.ops [(.i .l (.fad 3 (.v 2))), (.i (.v 8) (.load false 1 (.l 0))), (.i (.v 9) (.len false (some 56) (.v 8))), (.i (.v 10) (.mv (.c (.int .i64 0))))]), (.block 1 [(.loop rc_wexpr_b1)]), (.ops [(.i .l (.mv (.v 0))), (.i .l (.nilc (.l 0))), (.i .l (.fad 0 (.l 0))), (.i .l (.call (.c (.fn 43 [] [])) [(.l 0), (.c (.str [41]))]))])]
theorem fn_wexpr : FnR Tryd.prog po 44 2 12 [0, 1, 3, 5, 15, 16, 26, 38, 49, 50, 51, 52] rc_wexpr [] false := ⟨_, _, Tryd.func44, rfl, rfl, by kernel_rfl, by kernel_rfl, by kernel_rfl, by kernel_rfl, by kernel_rfl⟩
def rc_Print_b1 : List RS := [(.ops [(.i (.v 11) (.bin (.int .i64) .lss (.v 10) (.v 9)))]), (.cond (.v 11) [] [(.exit 0)]), (.block 1 [(.ops [(.i .l (.ixa (some 56) none (.v 8) (.v 10))), (.i .l (.load true 4 (.l 0))), (.i (.v 6) (.alloc [(.int .i64 0), (.int .i64 0), (.int .i64 0), .nils])), (.i .n (.store 4 (.v 6) (.l 0)))]), (.ops [(.i .l (.mv (.v 5))), (.i .l (.nilc (.l 0))), (.i .l (.fad 0 (.l 0))), (.i .l (.call (.c (.fn 43 [] [])) [(.l 0), (.c (.str [102, 117, 110, 32]))]))]), (.ops [(.i .l (.mv (.v 5))), (.i .l (.load true 4 (.v 6))), (.i .l (.call (.c (.fn 44 [] [])) [(.l 1), (.l 0)]))]), (.ops [(.i .l (.mv (.v 5))), (.i .l (.nilc (.l 0))), (.i .l (.fad 0 (.l 0))), (.i .l (.call (.c (.fn 43 [] [])) [(.l 0), (.c (.str [10]))]))])]), (.ops [(.i .l (.bin (.int .i64) .add (.v 10) (.c (.int .i64 1)))), (.i (.v 10) (.mv (.l 0)))])]
def rc_Print : List RS := [(.ops [(.i (.v 1) (.box 1 (.v 0))), (.i (.v 2) (.mv (.c (.str [])))), (.i (.v 3) (.alloc [(.int .i64 0), (.int .i64 0)]))]), (.ops [(.i .l (.load true 1 (.v 1))), (.i .l (.call (.c (.fn 34 [] [])) [(.l 0)])), (.i (.v 4) (.alloc [(.int .i64 0), (.int .i64 0)])), (.i .n (.store 2 (.v 4) (.l 0)))]), (.ops [(.i .l (.fad 0 (.v 4))), (.i .l (.load false 1 (.l 0))), (.i (.v 7) (.bin (.int .i64) .neq (.l 0) (.c (.int .i64 0))))]), (.cond (.v 7) [(.ops [(.i .l (.load true 2 (.v 4))), (.i (.v 2) (.mv (.c (.str [])))), (.i .n (.store 2 (.v 3) (.l 0)))]), .ret] []), (.ops [(.i .l (.build [.nilp, .nils] [(0, 2)] [])), (.i .l (.tbox 80 2 (.l 0))), (.i (.v 5) (.mv (.l 0)))]), (.ops [(.i .l (.fad 0 (.v 1))), (.i (.v 8) (.load false 1 (.l 0))), (.i (.v 9) (.len false (some 56) (.v 8))), (.i (.v 10) (.mv (.c (.int .i64 0))))]), (.block 0 [(.loop rc_Print_b1)]), (.ops [(.i .l (.mv (.v 5))), (.i .l (.nilc (.l 0))), (.i .l (.fad 0 (.l 0))), (.i .l (.call (.c (.fn 45 [] [])) [(.l 0)])), (.i (.v 12) (.bin (.int .i64) .gtr (.l 0) (.c (.int .i64 6000))))]), (.cond (.v 12) [(.ops [(.i .l (.build [(.int .i64 0), (.int .i64 0)] [(0, 1), (1, 1)] [(0, (.c (.int .i64 3))), (1, (.c (.int .i64 (-1))))])), (.i (.v 2) (.mv (.c (.str [])))), (.i .n (.store 2 (.v 3) (.l 0)))]), .ret] []), (.ops [(.i .l (.mv (.v 5))), (.i .l (.nilc (.l 0))), (.i .l (.fad 0 (.l 0))), (.i .l (.call (.c (.fn 46 [] [])) [(.l 0)])), (.i .l (.build [(.int .i64 0), (.int .i64 0)] [(0, 1), (1, 1)] [])), (.i (.v 2) (.mv (.l 1))), (.i .n (.store 2 (.v 3) (.l 0)))]), .ret]
theorem fn_Print : FnR Tryd.prog po 23 1 13 [0, 1, 2, 3, 4, 5, 7, 12, 17, 18, 19, 20, 39] rc_Print [(.v 2), (.cell true 2 3)] true := ⟨_, _, Tryd.func23, rfl, rfl, by kernel_rfl, by kernel_rfl, by kernel_rfl, by kernel_rfl, by kernel_rfl⟩
def rc_renderBegun : List RS := [(.ops [(.i (.v 0) (.mv (.c (.bool false))))]), (.ops [(.i .l (.build [(.int .i64 0), (.int .i64 0), (.int .i64 0), .nils] [(0, 1), (1, 1), (2, 1), (3, 1)] [(0, (.c (.int .i64 3)))])), (.i .l (.bsl false 56 [(.int .i64 0), (.int .i64 0), (.int .i64 0), .nils] 4 1 [(0, (.l 0))])), (.i .l (.build [(.int .i64 0), (.int .i64 0), (.int .i64 0), .nils] [(0, 1), (1, 1), (2, 1), (3, 1)] [(0, (.c (.int .i64 15))), (1, (.c (.int .i64 3))), (3, (.l 0))])), (.i .l (.bsl false 56 [(.int .i64 0), (.int .i64 0), (.int .i64 0), .nils] 4 1 [(0, (.l 0))])), (.i .l (.build [.nils] [(0, 1)] [(0, (.l 0))])), (.i .l (.call (.c (.fn 23 [] [])) [(.l 0)])), (.i .l (.mv (.l 0))), (.i .l (.ext (.l 0) 0)), (.i .l (.ext (.l 1) 1)), (.i (.v 2) (.alloc [(.int .i64 0), (.int .i64 0)])), (.i (.v 1) (.mv (.l 1))), (.i .n (.store 2 (.v 2) (.l 0)))]), (.ops [(.i .l (.fad 0 (.v 2))), (.i .l (.load false 1 (.l 0))), (.i .l (.bin (.int .i64) .eql (.l 0) (.c (.int .i64 0)))), (.i .l (.mv (.l 0))), (.g (.l 0) true .l (.mv (.v 1))), (.g (.l 1) true .l (.bin .str .eql (.l 0) (.c (.str [102, 117, 110, 32, 40, 110, 97, 114, 114, 111, 119, 32, 51, 32, 40, 97, 114, 103, 41, 41, 10])))), (.i .l (.pick (.l 2) (.l 0) (.c (.bool false)))), (.i (.v 0) (.mv (.l 0)))]), .ret]
theorem fn_renderBegun : FnR Tryd.prog po 21 0 3 [0, 1, 2] rc_renderBegun [(.v 0)] true := ⟨_, _, Tryd.func21, rfl, rfl, by kernel_rfl, by kernel_rfl, by kernel_rfl, by kernel_rfl, by kernel_rfl⟩
def rc_RenderApart : List RS := [(.ops [(.i (.v 2) (.box 1 (.v 0))), (.i (.v 3) (.box 1 (.v 1))), (.i (.v 4) (.mv (.c (.bool false))))]), (.ops [(.i .l (.call (.c (.fn 21 [] [])) [])), (.i (.v 9) (.un .not (.l 0)))]), (.cond (.v 9) [(.ops [(.i (.v 4) (.mv (.c (.bool false))))]), .ret] []), (.ops [(.i .l (.load true 1 (.v 2))), (.i .l (.call (.c (.fn 22 [] [])) [(.l 0)])), (.i .l (.mv (.l 0))), (.g (.l 0) false .l (.load true 1 (.v 3))), (.g (.l 1) false .l (.call (.c (.fn 22 [] [])) [(.l 0)])), (.i (.v 10) (.pick (.l 2) (.c (.bool true)) (.l 0)))]), (.cond (.v 10) [(.ops [(.i (.v 4) (.mv (.c (.bool true))))]), .ret] []), (.ops [(.i .l (.load true 1 (.v 2))), (.i .l (.call (.c (.fn 23 [] [])) [(.l 0)])), (.i .l (.mv (.l 0))), (.i .l (.ext (.l 0) 0)), (.i .l (.ext (.l 1) 1)), (.i (.v 6) (.alloc [(.int .i64 0), (.int .i64 0)])), (.i (.v 5) (.mv (.l 1))), (.i .n (.store 2 (.v 6) (.l 0)))]), (.ops [(.i .l (.load true 1 (.v 3))), (.i .l (.call (.c (.fn 23 [] [])) [(.l 0)])), (.i .l (.mv (.l 0))), (.i .l (.ext (.l 0) 0)), (.i .l (.ext (.l 1) 1)), (.i (.v 8) (.alloc [(.int .i64 0), (.int .i64 0)])), (.i (.v 7) (.mv (.l 1))), (.i .n (.store 2 (.v 8) (.l 0)))]), (.ops [(.i .l (.fad 0 (.v 6))), (.i .l (.load false 1 (.l 0))), (.i .l (.bin (.int .i64) .neq (.l 0) (.c (.int .i64 0)))), (.i .l (.mv (.l 0))), (.g (.l 0) false .l (.fad 0 (.v 8))), (.g (.l 1) false .l (.load false 1 (.l 0))), (.g (.l 2) false .l (.bin (.int .i64) .neq (.l 0) (.c (.int .i64 0)))), (.i .l (.pick (.l 3) (.c (.bool true)) (.l 0))), (.i .l (.mv (.l 0))), (.g (.l 0) false .l (.mv (.v 5))), (.g (.l 1) false .l (.mv (.v 7))), (.g (.l 2) false .l (.bin .str .eql (.l 1) (.l 0))), (.g (.l 3) false .l (.load true 1 (.v 2))), (.g (.l 4) false .l (.load true 1 (.v 3))), (.g (.l 5) false .l (.call (.c (.fn 15 [] [])) [(.l 1), (.l 0)])), (.g (.l 6) false .l (.bin .bool .eql (.l 3) (.l 0))), (.i .l (.pick (.l 7) (.c (.bool true)) (.l 0))), (.i (.v 4) (.mv (.l 0)))]), .ret]
end Go.Proofs.YtngphebjmmencaaDoor
namespace Go.Proofs.YtngphebjmmencaaDoor
set_option linter.unusedSimpArgs false
set_option linter.unusedVariables false
open Go

def rc_cParts : List RS := [(.ops [(.i (.v 1) (.mv (.c (.int .i64 0))))]), (.ops [(.i .l (.mv (.v 0))), (.i .l (.bin (.int .i64) .lss (.l 0) (.c (.int .i64 1)))), (.i .l (.mv (.l 0))), (.g (.l 0) false .l (.mv (.v 0))), (.g (.l 1) false .l (.bin (.int .i64) .gtr (.l 0) (.c (.int .i64 21)))), (.i (.v 2) (.pick (.l 2) (.c (.bool true)) (.l 0)))]), (.cond (.v 2) [(.ops [(.i (.v 1) (.mv (.c (.int .i64 (-1)))))]), .ret] []), (.ops [(.i .l (.build [(.int .i64 0), (.int .i64 0), (.int .i64 0), (.int .i64 0), (.int .i64 0), (.int .i64 0), (.int .i64 0), (.int .i64 0), (.int .i64 0), (.int .i64 0), (.int .i64 0), (.int .i64 0), (.int .i64 0), (.int .i64 0), (.int .i64 0), (.int .i64 0), (.int .i64 0), (.int .i64 0), (.int .i64 0), (.int .i64 0), (.int .i64 0), (.int .i64 0)] [(0, 1), (1, 1), (2, 1), (3, 1), (4, 1), (5, 1), (6, 1), (7, 1), (8, 1), (9, 1), (10, 1), (11, 1), (12, 1), (13, 1), (14, 1), (15, 1), (16, 1), (17, 1), (18, 1), (19, 1), (20, 1), (21, 1)] [(0, (.c (.int .i64 0))), (1, (.c (.int .i64 0))), (2, (.c (.int .i64 0))), (3, (.c (.int .i64 0))), (4, (.c (.int .i64 0))), (5, (.c (.int .i64 2))), (6, (.c (.int .i64 2))), (7, (.c (.int .i64 3))), (8, (.c (.int .i64 2))), (9, (.c (.int .i64 1))), (10, (.c (.int .i64 1))), (11, (.c (.int .i64 1))), (12, (.c (.int .i64 1))), (13, (.c (.int .i64 1))), (14, (.c (.int .i64 2))), (15, (.c (.int .i64 1))), (16, (.c (.int .i64 1))), (17, (.c (.int .i64 1))), (18, (.c (.int .i64 1))), (19, (.c (.int .i64 2))), (20, (.c (.int .i64 1))), (21, (.c (.int .i64 0)))])), (.i .l (.mv (.v 0))), (.i .l (.ix false (some (22, (1, false))) (.l 1) (.l 0))), (.i (.v 1) (.mv (.l 0)))]), .ret]
theorem fn_cParts : FnR Tryd.prog po 39 1 3 [0, 2, 8] rc_cParts [(.v 1)] true := ⟨_, _, Tryd.func39, rfl, rfl, by kernel_rfl, by kernel_rfl, by kernel_rfl, by kernel_rfl, by kernel_rfl⟩
def rc_jfail : List RS := [(.ops [(.i .l (.mv (.v 1))), (.i .l (.mv (.l 0))), (.g (.l 0) true .l (.mv (.v 0))), (.g (.l 1) true .l (.nilc (.l 0))), (.g (.l 2) true .l (.fad 1 (.l 0))), (.g (.l 3) true .l (.load false 1 (.l 0))), (.g (.l 4) true .l (.bin (.int .i64) .eql (.l 0) (.c (.int .i64 0)))), (.i (.v 3) (.pick (.l 5) (.l 0) (.c (.bool false))))]), (.cond (.v 3) [(.ops [(.i .l (.mv (.v 0))), (.i .l (.mv (.v 2))), (.i .l (.nilc (.l 1))), (.i .l (.fad 1 (.l 0))), (.i .n (.store 1 (.l 0) (.l 2)))])] [])]
theorem fn_jfail : FnR Tryd.prog po 56 3 4 [0, 1, 2, 13] rc_jfail [] false := ⟨_, _, Tryd.func56, rfl, rfl, by kernel_rfl, by kernel_rfl, by kernel_rfl, by kernel_rfl, by kernel_rfl⟩
def rc_cdeep : List RS := [(.ops [(.i (.v 2) (.box 4 (.v 0))), (.i (.v 3) (.box 1 (.v 1))), (.i (.v 4) (.mv (.c (.bool false))))]), (.ops [(.i .l (.load false 1 (.v 3))), (.i .l (.bin (.int .i64) .geq (.l 0) (.c (.int .i64 0)))), (.i .l (.mv (.l 0))), (.g (.l 0) true .l (.fad 3 (.v 2))), (.g (.l 1) true .l (.load false 1 (.l 0))), (.g (.l 2) true .l (.mkf 71 [] [(.v 3)])), (.g (.l 3) true .l (.call (.c (.fn 70 [] [])) [(.l 1), (.l 0)])), (.g (.l 4) true .l (.un .not (.l 0))), (.i .l (.pick (.l 5) (.l 0) (.c (.bool false)))), (.i (.v 4) (.mv (.l 0)))]), .ret]
theorem fn_cdeep : FnR Tryd.prog po 57 2 5 [0, 1, 2, 3, 4] rc_cdeep [(.v 4)] true := ⟨_, _, Tryd.func57, rfl, rfl, by kernel_rfl, by kernel_rfl, by kernel_rfl, by kernel_rfl, by kernel_rfl⟩
def rc_cdeep1 : List RS := [(.ops [(.i (.v 2) (.box 4 (.v 0))), (.i (.v 3) (.mv (.c (.bool false))))]), (.ops [(.i .l (.load true 4 (.v 2))), (.i .l (.load false 1 (.v 1))), (.i .l (.bin (.int .i64) .sub (.l 0) (.c (.int .i64 1)))), (.i .l (.call (.c (.fn 57 [] [])) [(.l 2), (.l 0)])), (.i .l (.un .not (.l 0))), (.i (.v 3) (.mv (.l 0)))]), .ret]
theorem fn_cdeep1 : FnR Tryd.prog po 71 2 4 [0, 1, 2, 3] rc_cdeep1 [(.v 3)] true := ⟨_, _, Tryd.func71, rfl, rfl, by kernel_rfl, by kernel_rfl, by kernel_rfl, by kernel_rfl, by kernel_rfl⟩
def rc_containsE : List RS := [(.ops [(.i (.v 2) (.mv (.c (.bool false))))]), (.ops [(.i .l (.mv (.v 0))), (.i .l (.mv (.v 1))), (.i .l (.call (.c (.fn 84 [] [])) [(.l 1), (.l 0)])), (.i .l (.bin (.int .i64) .geq (.l 0) (.c (.int .i64 0)))), (.i (.v 2) (.mv (.l 0)))]), .ret]
theorem fn_containsE : FnR Tryd.prog po 70 2 3 [0, 1, 4] rc_containsE [(.v 2)] true := ⟨_, _, Tryd.func70, rfl, rfl, by kernel_rfl, by kernel_rfl, by kernel_rfl, by kernel_rfl, by kernel_rfl⟩
def rc_indexE_b1 : List RS := [(.ops [(.i (.v 6) (.bin (.int .i64) .lss (.v 5) (.v 4)))]), (.cond (.v 6) [] [(.exit 0)]), (.block 1 [(.ops [(.i .l (.mv (.v 5))), (.i (.v 3) (.mv (.l 0)))]), (.ops [(.i .l (.mv (.v 1))), (.i .l (.mv (.v 0))), (.i .l (.mv (.v 3))), (.i .l (.ixa (some 56) none (.l 1) (.l 0))), (.i .l (.load true 4 (.l 0))), (.i (.v 7) (.call (.l 4) [(.l 0)]))]), (.cond (.v 7) [(.ops [(.i .l (.mv (.v 3))), (.i (.v 2) (.mv (.l 0)))]), .ret] [])]), (.ops [(.i .l (.bin (.int .i64) .add (.v 5) (.c (.int .i64 1)))), (.i (.v 5) (.mv (.l 0)))])]
def rc_indexE : List RS := [(.ops [(.i (.v 2) (.mv (.c (.int .i64 0))))]), (.ops [(.i .l (.mv (.v 0))), (.i (.v 4) (.len false (some 56) (.l 0))), (.i (.v 5) (.mv (.c (.int .i64 0))))]), (.block 0 [(.loop rc_indexE_b1)]), (.ops [(.i (.v 2) (.mv (.c (.int .i64 (-1)))))]), .ret]
theorem fn_indexE : FnR Tryd.prog po 84 2 8 [0, 1, 4, 5, 7, 8, 9, 16] rc_indexE [(.v 2)] true := ⟨_, _, Tryd.func84, rfl, rfl, by kernel_rfl, by kernel_rfl, by kernel_rfl, by kernel_rfl, by kernel_rfl⟩
def rc_ccount_b1 : List RS := [(.ops [(.i .l (.mv (.v 4))), (.i .l (.fad 3 (.v 2))), (.i .l (.load false 1 (.l 0))), (.i .l (.len false (some 56) (.l 0))), (.i .l (.bin (.int .i64) .lss (.l 3) (.l 0))), (.i .l (.mv (.l 0))), (.g (.l 0) true .l (.mv (.v 1))), (.g (.l 1) true .l (.bin (.int .i64) .geq (.l 0) (.c (.int .i64 0)))), (.i (.v 5) (.pick (.l 2) (.l 0) (.c (.bool false))))]), (.cond (.v 5) [] [(.exit 0)]), (.block 1 [(.ops [(.i .l (.fad 3 (.v 2))), (.i .l (.load false 1 (.l 0))), (.i .l (.mv (.v 4))), (.i .l (.ixa (some 56) none (.l 1) (.l 0))), (.i .l (.load true 4 (.l 0))), (.i .l (.mv (.v 1))), (.i .l (.call (.c (.fn 58 [] [])) [(.l 1), (.l 0)])), (.i (.v 1) (.mv (.l 0)))])]), (.ops [(.i .l (.mv (.v 4))), (.i .l (.bin (.int .i64) .add (.l 0) (.c (.int .i64 1)))), (.i (.v 4) (.mv (.l 0)))])]
def rc_ccount : List RS := [(.ops [(.i (.v 2) (.box 4 (.v 0))), (.i (.v 3) (.mv (.c (.int .i64 0))))]), (.ops [(.i .l (.mv (.v 1))), (.i .l (.bin (.int .i64) .sub (.l 0) (.c (.int .i64 1)))), (.i (.v 1) (.mv (.l 0)))]), (.ops [(.i (.v 4) (.mv (.c (.int .i64 0))))]), (.block 0 [(.loop rc_ccount_b1)]), (.ops [(.i .l (.mv (.v 1))), (.i (.v 3) (.mv (.l 0)))]), .ret]
theorem fn_ccount : FnR Tryd.prog po 58 2 6 [0, 1, 2, 4, 5, 16] rc_ccount [(.v 3)] true := ⟨_, _, Tryd.func58, rfl, rfl, by kernel_rfl, by kernel_rfl, by kernel_rfl, by kernel_rfl, by kernel_rfl⟩
def rc_jnumbers : List RS := [(.ops [(.i (.v 3) (.box 4 (.v 1)))]), (.ops [(.i .l (.mv (.v 0))), (.i .l (.fad 2 (.v 3))), (.i .l (.load false 1 (.l 0))), (.i .l (.bin (.int .i64) .neq (.l 0) (.c (.int .i64 0)))), (.i .l (.mv (.l 0))), (.g (.l 0) true .l (.fad 0 (.v 3))), (.g (.l 1) true .l (.load false 1 (.l 0))), (.g (.l 2) true .l (.bin (.int .i64) .neq (.l 0) (.c (.int .i64 2)))), (.i .l (.pick (.l 3) (.l 0) (.c (.bool false)))), (.i .l (.call (.c (.fn 56 [] [])) [(.l 8), (.l 0), (.c (.int .i64 5))]))]), (.ops [(.i .l (.fad 0 (.v 3))), (.i (.v 4) (.load false 1 (.l 0)))]), (.block 0 [(.ops [(.i .l (.bin (.int .i64) .eql (.v 4) (.c (.int .i64 4)))), (.i (.v 5) (.mv (.l 0)))]), (.cond (.v 5) [(.ops [(.i .l (.mv (.v 0))), (.i .l (.fad 1 (.v 3))), (.i .l (.load false 1 (.l 0))), (.i .l (.bin (.int .i64) .lss (.l 0) (.c (.int .i64 0)))), (.i .l (.mv (.l 0))), (.g (.l 0) false .l (.fad 1 (.v 3))), (.g (.l 1) false .l (.load false 1 (.l 0))), (.g (.l 2) false .l (.mv (.v 2))), (.g (.l 3) false .l (.bin (.int .i64) .geq (.l 1) (.l 0))), (.i .l (.pick (.l 4) (.c (.bool true)) (.l 0))), (.i .l (.call (.c (.fn 56 [] [])) [(.l 9), (.l 0), (.c (.int .i64 1))]))])] [(.ops [(.i .l (.bin (.int .i64) .eql (.v 4) (.c (.int .i64 6)))), (.i (.v 6) (.mv (.l 0)))]), (.cond (.v 6) [(.ops [(.i .l (.mv (.v 0))), (.i .l (.fad 1 (.v 3))), (.i .l (.load false 1 (.l 0))), (.i .l (.bin (.int .i64) .lss (.l 0) (.c (.int .i64 1)))), (.i .l (.mv (.l 0))), (.g (.l 0) false .l (.fad 1 (.v 3))), (.g (.l 1) false .l (.load false 1 (.l 0))), (.g (.l 2) false .l (.bin (.int .i64) .gtr (.l 0) (.c (.int .i64 5)))), (.i .l (.pick (.l 3) (.c (.bool true)) (.l 0))), (.i .l (.call (.c (.fn 56 [] [])) [(.l 8), (.l 0), (.c (.int .i64 1))]))])] [(.ops [(.i .l (.bin (.int .i64) .eql (.v 4) (.c (.int .i64 15)))), (.i (.v 7) (.mv (.l 0)))]), (.cond (.v 7) [(.ops [(.i .l (.mv (.v 0))), (.i .l (.fad 1 (.v 3))), (.i .l (.load false 1 (.l 0))), (.i .l (.call (.c (.fn 85 [] [])) [(.l 0)])), (.i .l (.un .not (.l 0))), (.i .l (.call (.c (.fn 56 [] [])) [(.l 4), (.l 0), (.c (.int .i64 1))]))])] [(.ops [(.i .l (.bin (.int .i64) .eql (.v 4) (.c (.int .i64 18)))), (.i (.v 8) (.mv (.l 0)))]), (.cond (.v 8) [(.ops [(.i .l (.mv (.v 0))), (.i .l (.fad 1 (.v 3))), (.i .l (.load false 1 (.l 0))), (.i .l (.bin (.int .i64) .lss (.l 0) (.c (.int .i64 0)))), (.i .l (.mv (.l 0))), (.g (.l 0) false .l (.fad 1 (.v 3))), (.g (.l 1) false .l (.load false 1 (.l 0))), (.g (.l 2) false .l (.mv (.v 0))), (.g (.l 3) false .l (.nilc (.l 0))), (.g (.l 4) false .l (.fad 0 (.l 0))), (.g (.l 5) false .l (.fad 0 (.l 0))), (.g (.l 6) false .l (.load false 1 (.l 0))), (.g (.l 7) false .l (.len false (some 56) (.l 0))), (.g (.l 8) false .l (.bin (.int .i64) .geq (.l 6) (.l 0))), (.i .l (.pick (.l 9) (.c (.bool true)) (.l 0))), (.i .l (.call (.c (.fn 56 [] [])) [(.l 14), (.l 0), (.c (.int .i64 1))]))])] [(.ops [(.i .l (.mv (.v 0))), (.i .l (.fad 1 (.v 3))), (.i .l (.load false 1 (.l 0))), (.i .l (.bin (.int .i64) .neq (.l 0) (.c (.int .i64 0)))), (.i .l (.call (.c (.fn 56 [] [])) [(.l 3), (.l 0), (.c (.int .i64 5))]))])])])])])])]
theorem fn_jnumbers : FnR Tryd.prog po 72 3 9 [0, 1, 2, 4, 17, 23, 36, 48, 56] rc_jnumbers [] false := ⟨_, _, Tryd.func72, rfl, rfl, by kernel_rfl, by kernel_rfl, by kernel_rfl, by kernel_rfl, by kernel_rfl⟩
def rc_jexpr_b1 : List RS := [(.ops [(.i (.v 10) (.bin (.int .i64) .lss (.v 9) (.v 8)))]), (.cond (.v 10) [] [(.exit 0)]), (.block 1 [(.ops [(.i .l (.mv (.v 9))), (.i .l (.ixa (some 56) none (.v 7) (.v 9))), (.i .l (.load true 4 (.l 0))), (.i (.v 6) (.alloc [(.int .i64 0), (.int .i64 0), (.int .i64 0), .nils])), (.i (.v 5) (.mv (.l 2))), (.i .n (.store 4 (.v 6) (.l 0)))]), (.ops [(.i .l (.mv (.v 0))), (.i .l (.nilc (.l 0))), (.i .l (.fad 1 (.l 0))), (.i .l (.load false 1 (.l 0))), (.i (.v 11) (.bin (.int .i64) .neq (.l 0) (.c (.int .i64 0))))]), (.cond (.v 11) [.ret] []), (.ops [(.i .l (.fad 0 (.v 3))), (.i .l (.load false 1 (.l 0))), (.i .l (.bin (.int .i64) .eql (.l 0) (.c (.int .i64 5)))), (.i .l (.mv (.l 0))), (.g (.l 0) true .l (.mv (.v 5))), (.g (.l 1) true .l (.bin (.int .i64) .eql (.l 0) (.c (.int .i64 1)))), (.i (.v 12) (.pick (.l 2) (.l 0) (.c (.bool false))))]), (.cond (.v 12) [(.ops [(.i .l (.mv (.v 0))), (.i .l (.load true 4 (.v 6))), (.i .l (.mv (.v 2))), (.i .l (.bin (.int .i64) .add (.l 0) (.c (.int .i64 1)))), (.i .l (.call (.c (.fn 59 [] [])) [(.l 3), (.l 2), (.l 0)]))])] [(.ops [(.i .l (.mv (.v 0))), (.i .l (.load true 4 (.v 6))), (.i .l (.mv (.v 2))), (.i .l (.call (.c (.fn 59 [] [])) [(.l 2), (.l 1), (.l 0)]))])])]), (.ops [(.i .l (.bin (.int .i64) .add (.v 9) (.c (.int .i64 1)))), (.i (.v 9) (.mv (.l 0)))])]
def rc_jexpr : List RS := [(.ops [(.i (.v 3) (.box 4 (.v 1)))]), (.ops [(.i .l (.fad 0 (.v 3))), (.i .l (.load false 1 (.l 0))), (.i .l (.call (.c (.fn 39 [] [])) [(.l 0)])), (.i (.v 4) (.mv (.l 0)))]), (.ops [(.i .l (.mv (.v 0))), (.i .l (.mv (.v 4))), (.i .l (.bin (.int .i64) .lss (.l 0) (.c (.int .i64 0)))), (.i .l (.call (.c (.fn 56 [] [])) [(.l 2), (.l 0), (.c (.int .i64 2))]))]), (.ops [(.i .l (.mv (.v 0))), (.i .l (.fad 3 (.v 3))), (.i .l (.load false 1 (.l 0))), (.i .l (.len false (some 56) (.l 0))), (.i .l (.mv (.v 4))), (.i .l (.bin (.int .i64) .neq (.l 1) (.l 0))), (.i .l (.call (.c (.fn 56 [] [])) [(.l 5), (.l 0), (.c (.int .i64 5))]))]), (.ops [(.i .l (.mv (.v 0))), (.i .l (.load true 4 (.v 3))), (.i .l (.mv (.v 2))), (.i .l (.call (.c (.fn 72 [] [])) [(.l 2), (.l 1), (.l 0)]))]), (.ops [(.i .l (.mv (.v 0))), (.i .l (.fad 0 (.v 3))), (.i .l (.load false 1 (.l 0))), (.i .l (.bin (.int .i64) .eql (.l 0) (.c (.int .i64 5)))), (.i .l (.mv (.l 0))), (.g (.l 0) true .l (.mv (.v 2))), (.g (.l 1) true .l (.bin (.int .i64) .eql (.l 0) (.c (.int .i64 12)))), (.i .l (.pick (.l 2) (.l 0) (.c (.bool false)))), (.i .l (.call (.c (.fn 56 [] [])) [(.l 7), (.l 0), (.c (.int .i64 3))]))]), (.ops [(.i .l (.fad 3 (.v 3))), (.i (.v 7) (.load false 1 (.l 0))), (.i (.v 8) (.len false (some 56) (.v 7))), (.i (.v 9) (.mv (.c (.int .i64 0))))]), (.block 0 [(.loop rc_jexpr_b1)])]
theorem fn_jexpr : FnR Tryd.prog po 59 3 13 [0, 1, 2, 4, 6, 7, 8, 37, 38, 39, 40, 48, 55] rc_jexpr [] false := ⟨_, _, Tryd.func59, rfl, rfl, by kernel_rfl, by kernel_rfl, by kernel_rfl, by kernel_rfl, by kernel_rfl⟩
def rc_cCheck_b1 : List RS := [(.ops [(.i (.v 10) (.bin (.int .i64) .lss (.v 9) (.v 8)))]), (.cond (.v 10) [] [(.exit 0)]), (.block 1 [(.ops [(.i .l (.mv (.v 9))), (.i .l (.ixa (some 56) none (.v 7) (.v 9))), (.i .l (.load true 4 (.l 0))), (.i (.v 4) (.alloc [(.int .i64 0), (.int .i64 0), (.int .i64 0), .nils])), (.i (.v 3) (.mv (.l 2))), (.i .n (.store 4 (.v 4) (.l 0)))]), (.ops [(.i .l (.load true 1 (.v 1))), (.i .l (.build [.nils, (.int .i64 0)] [(0, 1), (1, 1)] [(0, (.l 0))])), (.i .l (.box 2 (.l 0))), (.i (.v 5) (.mv (.l 0)))]), (.ops [(.i .l (.mv (.v 5))), (.i .l (.load true 4 (.v 4))), (.i .l (.call (.c (.fn 57 [] [])) [(.l 0), (.c (.int .i64 30))])), (.i .l (.un .not (.l 0))), (.i .l (.call (.c (.fn 56 [] [])) [(.l 3), (.l 0), (.c (.int .i64 4))]))]), (.ops [(.i .l (.mv (.v 5))), (.i .l (.mv (.v 5))), (.i .l (.nilc (.l 0))), (.i .l (.fad 1 (.l 0))), (.i .l (.load false 1 (.l 0))), (.i .l (.bin (.int .i64) .eql (.l 0) (.c (.int .i64 0)))), (.i .l (.mv (.l 0))), (.g (.l 0) true .l (.load true 4 (.v 4))), (.g (.l 1) true .l (.call (.c (.fn 58 [] [])) [(.l 0), (.c (.int .i64 120))])), (.g (.l 2) true .l (.bin (.int .i64) .lss (.l 0) (.c (.int .i64 0)))), (.i .l (.pick (.l 3) (.l 0) (.c (.bool false)))), (.i .l (.call (.c (.fn 56 [] [])) [(.l 10), (.l 0), (.c (.int .i64 3))]))]), (.ops [(.i .l (.mv (.v 5))), (.i .l (.nilc (.l 0))), (.i .l (.fad 1 (.l 0))), (.i .l (.load false 1 (.l 0))), (.i (.v 11) (.bin (.int .i64) .eql (.l 0) (.c (.int .i64 0))))]), (.cond (.v 11) [(.ops [(.i .l (.mv (.v 5))), (.i .l (.load true 4 (.v 4))), (.i .l (.call (.c (.fn 59 [] [])) [(.l 1), (.l 0), (.c (.int .i64 0))]))])] []), (.ops [(.i .l (.mv (.v 5))), (.i .l (.nilc (.l 0))), (.i .l (.fad 1 (.l 0))), (.i .l (.load false 1 (.l 0))), (.i (.v 12) (.bin (.int .i64) .neq (.l 0) (.c (.int .i64 0))))]), (.cond (.v 12) [(.ops [(.i .l (.mv (.v 5))), (.i .l (.nilc (.l 0))), (.i .l (.fad 1 (.l 0))), (.i .l (.load false 1 (.l 0))), (.i .l (.mv (.v 3))), (.i .l (.build [(.int .i64 0), (.int .i64 0)] [(0, 1), (1, 1)] [(0, (.l 1)), (1, (.l 0))])), (.i .n (.store 2 (.v 2) (.l 0)))]), .ret] [])]), (.ops [(.i .l (.bin (.int .i64) .add (.v 9) (.c (.int .i64 1)))), (.i (.v 9) (.mv (.l 0)))])]
def rc_cCheck : List RS := [(.ops [(.i (.v 1) (.box 1 (.v 0))), (.i (.v 2) (.alloc [(.int .i64 0), (.int .i64 0)]))]), (.ops [(.i .l (.fad 0 (.v 1))), (.i .l (.load false 1 (.l 0))), (.i .l (.len false (some 56) (.l 0))), (.i .l (.bin (.int .i64) .eql (.l 0) (.c (.int .i64 0)))), (.i .l (.mv (.l 0))), (.g (.l 0) false .l (.fad 0 (.v 1))), (.g (.l 1) false .l (.load false 1 (.l 0))), (.g (.l 2) false .l (.len false (some 56) (.l 0))), (.g (.l 3) false .l (.bin (.int .i64) .gtr (.l 0) (.c (.int .i64 6)))), (.i (.v 6) (.pick (.l 4) (.c (.bool true)) (.l 0)))]), (.cond (.v 6) [(.ops [(.i .l (.build [(.int .i64 0), (.int .i64 0)] [(0, 1), (1, 1)] [(0, (.c (.int .i64 3))), (1, (.c (.int .i64 (-1))))])), (.i .n (.store 2 (.v 2) (.l 0)))]), .ret] []), (.ops [(.i .l (.fad 0 (.v 1))), (.i (.v 7) (.load false 1 (.l 0))), (.i (.v 8) (.len false (some 56) (.v 7))), (.i (.v 9) (.mv (.c (.int .i64 0))))]), (.block 0 [(.loop rc_cCheck_b1)]), (.ops [(.i .l (.build [(.int .i64 0), (.int .i64 0)] [(0, 1), (1, 1)] [])), (.i .n (.store 2 (.v 2) (.l 0)))]), .ret]
theorem fn_cCheck : FnR Tryd.prog po 34 1 13 [0, 1, 2, 3, 4, 5, 15, 18, 19, 20, 21, 49, 57] rc_cCheck [(.cell true 2 2)] true := ⟨_, _, Tryd.func34, rfl, rfl, by kernel_rfl, by kernel_rfl, by kernel_rfl, by kernel_rfl, by kernel_rfl⟩
def rc_rF : List RS := [(.ops [(.i (.v 2) (.alloc [(.int .i64 0), (.int .i64 0)]))]), (.ops [(.i .l (.mv (.v 0))), (.i .l (.mv (.v 1))), (.i .l (.build [(.int .i64 0), (.int .i64 0)] [(0, 1), (1, 1)] [(0, (.l 1)), (1, (.l 0))])), (.i .n (.store 2 (.v 2) (.l 0)))]), .ret]
theorem fn_rF : FnR Tryd.prog po 27 2 3 [0, 1, 4] rc_rF [(.cell true 2 2)] true := ⟨_, _, Tryd.func27, rfl, rfl, by kernel_rfl, by kernel_rfl, by kernel_rfl, by kernel_rfl, by kernel_rfl⟩
def rc_PartsOf : List RS := [(.ops [(.i (.v 1) (.mv (.c (.int .i64 0))))]), (.ops [(.i (.v 2) (.mv (.v 0)))]), (.block 0 [(.ops [(.i .l (.bin (.int .i64) .eql (.v 2) (.c (.int .i64 1)))), (.i (.v 3) (.mv (.l 0)))]), (.cond (.v 3) [] [(.ops [(.i .l (.bin (.int .i64) .eql (.v 2) (.c (.int .i64 2)))), (.i (.v 3) (.mv (.l 0)))]), (.cond (.v 3) [] [(.ops [(.i .l (.bin (.int .i64) .eql (.v 2) (.c (.int .i64 3)))), (.i (.v 3) (.mv (.l 0)))]), (.cond (.v 3) [] [(.ops [(.i .l (.bin (.int .i64) .eql (.v 2) (.c (.int .i64 4)))), (.i (.v 3) (.mv (.l 0)))]), (.cond (.v 3) [] [(.ops [(.i .l (.bin (.int .i64) .eql (.v 2) (.c (.int .i64 21)))), (.i (.v 3) (.mv (.l 0)))])])])])]), (.cond (.v 3) [(.ops [(.i (.v 1) (.mv (.c (.int .i64 0))))]), .ret] [(.ops [(.i .l (.bin (.int .i64) .eql (.v 2) (.c (.int .i64 9)))), (.i (.v 4) (.mv (.l 0)))]), (.cond (.v 4) [] [(.ops [(.i .l (.bin (.int .i64) .eql (.v 2) (.c (.int .i64 10)))), (.i (.v 4) (.mv (.l 0)))]), (.cond (.v 4) [] [(.ops [(.i .l (.bin (.int .i64) .eql (.v 2) (.c (.int .i64 11)))), (.i (.v 4) (.mv (.l 0)))]), (.cond (.v 4) [] [(.ops [(.i .l (.bin (.int .i64) .eql (.v 2) (.c (.int .i64 12)))), (.i (.v 4) (.mv (.l 0)))]), (.cond (.v 4) [] [(.ops [(.i .l (.bin (.int .i64) .eql (.v 2) (.c (.int .i64 13)))), (.i (.v 4) (.mv (.l 0)))]), (.cond (.v 4) [] [(.ops [(.i .l (.bin (.int .i64) .eql (.v 2) (.c (.int .i64 15)))), (.i (.v 4) (.mv (.l 0)))]), (.cond (.v 4) [] [(.ops [(.i .l (.bin (.int .i64) .eql (.v 2) (.c (.int .i64 16)))), (.i (.v 4) (.mv (.l 0)))]), (.cond (.v 4) [] [(.ops [(.i .l (.bin (.int .i64) .eql (.v 2) (.c (.int .i64 17)))), (.i (.v 4) (.mv (.l 0)))]), (.cond (.v 4) [] [(.ops [(.i .l (.bin (.int .i64) .eql (.v 2) (.c (.int .i64 18)))), (.i (.v 4) (.mv (.l 0)))]), (.cond (.v 4) [] [(.ops [(.i .l (.bin (.int .i64) .eql (.v 2) (.c (.int .i64 20)))), (.i (.v 4) (.mv (.l 0)))])])])])])])])])])]), (.cond (.v 4) [(.ops [(.i (.v 1) (.mv (.c (.int .i64 1))))]), .ret] [(.ops [(.i .l (.bin (.int .i64) .eql (.v 2) (.c (.int .i64 5)))), (.i (.v 5) (.mv (.l 0)))]), (.cond (.v 5) [] [(.ops [(.i .l (.bin (.int .i64) .eql (.v 2) (.c (.int .i64 6)))), (.i (.v 5) (.mv (.l 0)))]), (.cond (.v 5) [] [(.ops [(.i .l (.bin (.int .i64) .eql (.v 2) (.c (.int .i64 8)))), (.i (.v 5) (.mv (.l 0)))]), (.cond (.v 5) [] [(.ops [(.i .l (.bin (.int .i64) .eql (.v 2) (.c (.int .i64 14)))), (.i (.v 5) (.mv (.l 0)))]), (.cond (.v 5) [] [(.ops [(.i .l (.bin (.int .i64) .eql (.v 2) (.c (.int .i64 19)))), (.i (.v 5) (.mv (.l 0)))])])])])]), (.cond (.v 5) [(.ops [(.i (.v 1) (.mv (.c (.int .i64 2))))]), .ret] [(.ops [(.i .l (.bin (.int .i64) .eql (.v 2) (.c (.int .i64 7)))), (.i (.v 6) (.mv (.l 0)))]), (.cond (.v 6) [(.ops [(.i (.v 1) (.mv (.c (.int .i64 3))))]), .ret] [])])])])]), (.ops [(.i (.v 1) (.mv (.c (.int .i64 (-1)))))]), .ret]
theorem fn_PartsOf : FnR Tryd.prog po 64 1 7 [0, 2, 3, 4, 10, 21, 27] rc_PartsOf [(.v 1)] true := ⟨_, _, Tryd.func64, rfl, rfl, by kernel_rfl, by kernel_rfl, by kernel_rfl, by kernel_rfl, by kernel_rfl⟩
def rc_DeepOf_b1 : List RS := [(.ops [(.i .l (.mv (.v 5))), (.i .l (.fad 3 (.v 2))), (.i .l (.load false 1 (.l 0))), (.i .l (.len false (some 56) (.l 0))), (.i .l (.bin (.int .i64) .lss (.l 3) (.l 0))), (.i .l (.mv (.l 0))), (.g (.l 0) true .l (.mv (.v 4))), (.g (.l 1) true .l (.mv (.v 1))), (.g (.l 2) true .l (.bin (.int .i64) .leq (.l 1) (.l 0))), (.i (.v 7) (.pick (.l 3) (.l 0) (.c (.bool false))))]), (.cond (.v 7) [] [(.exit 0)]), (.block 1 [(.ops [(.i (.v 6) (.mv (.c (.int .i64 1))))]), (.ops [(.i .l (.mv (.v 1))), (.i (.v 8) (.bin (.int .i64) .gtr (.l 0) (.c (.int .i64 0))))]), (.cond (.v 8) [(.ops [(.i .l (.fad 3 (.v 2))), (.i .l (.load false 1 (.l 0))), (.i .l (.mv (.v 5))), (.i .l (.ixa (some 56) none (.l 1) (.l 0))), (.i .l (.load true 4 (.l 0))), (.i .l (.mv (.v 1))), (.i .l (.bin (.int .i64) .sub (.l 0) (.c (.int .i64 1)))), (.i .l (.call (.c (.fn 40 [] [])) [(.l 2), (.l 0)])), (.i .l (.bin (.int .i64) .add (.c (.int .i64 1)) (.l 0))), (.i (.v 6) (.mv (.l 0)))])] []), (.ops [(.i .l (.mv (.v 6))), (.i .l (.mv (.v 4))), (.i (.v 9) (.bin (.int .i64) .gtr (.l 1) (.l 0)))]), (.cond (.v 9) [(.ops [(.i .l (.mv (.v 6))), (.i (.v 4) (.mv (.l 0)))])] [])]), (.ops [(.i .l (.mv (.v 5))), (.i .l (.bin (.int .i64) .add (.l 0) (.c (.int .i64 1)))), (.i (.v 5) (.mv (.l 0)))])]
def rc_DeepOf : List RS := [(.ops [(.i (.v 2) (.box 4 (.v 0))), (.i (.v 3) (.mv (.c (.int .i64 0))))]), (.ops [(.i (.v 4) (.mv (.c (.int .i64 0))))]), (.ops [(.i (.v 5) (.mv (.c (.int .i64 0))))]), (.block 0 [(.loop rc_DeepOf_b1)]), (.ops [(.i .l (.mv (.v 4))), (.i (.v 3) (.mv (.l 0)))]), .ret]
theorem fn_DeepOf : FnR Tryd.prog po 40 2 10 [0, 1, 2, 4, 5, 6, 7, 17, 21, 33] rc_DeepOf [(.v 3)] true := ⟨_, _, Tryd.func40, rfl, rfl, by kernel_rfl, by kernel_rfl, by kernel_rfl, by kernel_rfl, by kernel_rfl⟩
def rc_CountOf_b1 : List RS := [(.ops [(.i .l (.mv (.v 5))), (.i .l (.fad 3 (.v 2))), (.i .l (.load false 1 (.l 0))), (.i .l (.len false (some 56) (.l 0))), (.i .l (.bin (.int .i64) .lss (.l 3) (.l 0))), (.i .l (.mv (.l 0))), (.g (.l 0) true .l (.mv (.v 4))), (.g (.l 1) true .l (.mv (.v 1))), (.g (.l 2) true .l (.bin (.int .i64) .leq (.l 1) (.l 0))), (.i (.v 6) (.pick (.l 3) (.l 0) (.c (.bool false))))]), (.cond (.v 6) [] [(.exit 0)]), (.block 1 [(.ops [(.i .l (.mv (.v 4))), (.i .l (.fad 3 (.v 2))), (.i .l (.load false 1 (.l 0))), (.i .l (.mv (.v 5))), (.i .l (.ixa (some 56) none (.l 1) (.l 0))), (.i .l (.load true 4 (.l 0))), (.i .l (.mv (.v 1))), (.i .l (.mv (.v 4))), (.i .l (.bin (.int .i64) .sub (.l 1) (.l 0))), (.i .l (.call (.c (.fn 41 [] [])) [(.l 3), (.l 0)])), (.i .l (.bin (.int .i64) .add (.l 9) (.l 0))), (.i (.v 4) (.mv (.l 0)))])]), (.ops [(.i .l (.mv (.v 5))), (.i .l (.bin (.int .i64) .add (.l 0) (.c (.int .i64 1)))), (.i (.v 5) (.mv (.l 0)))])]
def rc_CountOf : List RS := [(.ops [(.i (.v 2) (.box 4 (.v 0))), (.i (.v 3) (.mv (.c (.int .i64 0))))]), (.ops [(.i (.v 4) (.mv (.c (.int .i64 1))))]), (.ops [(.i (.v 5) (.mv (.c (.int .i64 0))))]), (.block 0 [(.loop rc_CountOf_b1)]), (.ops [(.i .l (.mv (.v 4))), (.i (.v 3) (.mv (.l 0)))]), .ret]
theorem fn_CountOf : FnR Tryd.prog po 41 2 7 [0, 1, 2, 4, 5, 6, 16] rc_CountOf [(.v 3)] true := ⟨_, _, Tryd.func41, rfl, rfl, by kernel_rfl, by kernel_rfl, by kernel_rfl, by kernel_rfl, by kernel_rfl⟩
def rc_exprFault_b1 : List RS := [(.ops [(.i .l (.mv (.v 9))), (.i .l (.mv (.v 6))), (.i (.v 22) (.bin (.int .i64) .lss (.l 1) (.l 0)))]), (.cond (.v 22) [] [(.exit 1)]), (.block 2 [(.ops [(.i .l (.mv (.v 2))), (.i (.v 10) (.mv (.l 0)))]), (.ops [(.i .l (.fad 0 (.v 4))), (.i .l (.load false 1 (.l 0))), (.i .l (.bin (.int .i64) .eql (.l 0) (.c (.int .i64 5)))), (.i .l (.mv (.l 0))), (.g (.l 0) true .l (.mv (.v 9))), (.g (.l 1) true .l (.bin (.int .i64) .eql (.l 0) (.c (.int .i64 1)))), (.i (.v 23) (.pick (.l 2) (.l 0) (.c (.bool false))))]), (.cond (.v 23) [(.ops [(.i .l (.mv (.v 10))), (.i .l (.bin (.int .i64) .add (.l 0) (.c (.int .i64 1)))), (.i (.v 10) (.mv (.l 0)))])] []), (.ops [(.i .l (.load true 1 (.v 3))), (.i .l (.fad 3 (.v 4))), (.i .l (.load false 1 (.l 0))), (.i .l (.mv (.v 9))), (.i .l (.ixa (some 56) none (.l 1) (.l 0))), (.i .l (.load true 4 (.l 0))), (.i .l (.mv (.v 10))), (.i .l (.call (.c (.fn 42 [] [])) [(.l 6), (.l 1), (.l 0)])), (.i (.v 11) (.mv (.l 0)))]), (.ops [(.i .l (.mv (.v 11))), (.i (.v 24) (.bin (.int .i64) .neq (.l 0) (.c (.int .i64 0))))]), (.cond (.v 24) [(.ops [(.i .l (.mv (.v 11))), (.i (.v 5) (.mv (.l 0)))]), .ret] [])]), (.ops [(.i .l (.mv (.v 9))), (.i .l (.bin (.int .i64) .add (.l 0) (.c (.int .i64 1)))), (.i (.v 9) (.mv (.l 0)))])]
def rc_exprFault : List RS := [(.ops [(.i (.v 3) (.box 1 (.v 0))), (.i (.v 4) (.box 4 (.v 1))), (.i (.v 5) (.mv (.c (.int .i64 0))))]), (.ops [(.i .l (.fad 0 (.v 4))), (.i .l (.load false 1 (.l 0))), (.i .l (.call (.c (.fn 64 [] [])) [(.l 0)])), (.i (.v 6) (.mv (.l 0)))]), (.ops [(.i .l (.mv (.v 6))), (.i (.v 12) (.bin (.int .i64) .lss (.l 0) (.c (.int .i64 0))))]), (.cond (.v 12) [(.ops [(.i (.v 5) (.mv (.c (.int .i64 2))))]), .ret] []), (.ops [(.i .l (.fad 3 (.v 4))), (.i .l (.load false 1 (.l 0))), (.i .l (.len false (some 56) (.l 0))), (.i .l (.mv (.v 6))), (.i .l (.bin (.int .i64) .neq (.l 1) (.l 0))), (.i .l (.mv (.l 0))), (.g (.l 0) false .l (.fad 2 (.v 4))), (.g (.l 1) false .l (.load false 1 (.l 0))), (.g (.l 2) false .l (.bin (.int .i64) .neq (.l 0) (.c (.int .i64 0)))), (.g (.l 3) false .l (.mv (.l 0))), (.g (.l 0) true .l (.fad 0 (.v 4))), (.g (.l 1) true .l (.load false 1 (.l 0))), (.g (.l 2) true .l (.bin (.int .i64) .neq (.l 0) (.c (.int .i64 2)))), (.g (.l 7) false .l (.pick (.l 3) (.l 0) (.c (.bool false)))), (.i (.v 13) (.pick (.l 8) (.c (.bool true)) (.l 0)))]), (.cond (.v 13) [(.ops [(.i (.v 5) (.mv (.c (.int .i64 5))))]), .ret] []), (.ops [(.i (.v 7) (.mv (.c (.int .i64 0)))), (.i (.v 8) (.mv (.c (.int .i64 0))))]), (.ops [(.i .l (.fad 0 (.v 4))), (.i (.v 14) (.load false 1 (.l 0)))]), (.block 0 [(.ops [(.i .l (.bin (.int .i64) .eql (.v 14) (.c (.int .i64 4)))), (.i (.v 16) (.mv (.l 0)))]), (.cond (.v 16) [(.ops [(.i .l (.mv (.v 2))), (.i .l (.bin (.int .i64) .sub (.l 0) (.c (.int .i64 1)))), (.i (.v 8) (.mv (.l 0)))])] [(.ops [(.i .l (.bin (.int .i64) .eql (.v 14) (.c (.int .i64 6)))), (.i (.v 17) (.mv (.l 0)))]), (.cond (.v 17) [(.ops [(.i (.v 7) (.mv (.c (.int .i64 1)))), (.i (.v 8) (.mv (.c (.int .i64 5))))])] [(.ops [(.i .l (.bin (.int .i64) .eql (.v 14) (.c (.int .i64 15)))), (.i (.v 18) (.mv (.l 0)))]), (.cond (.v 18) [(.ops [(.i (.v 8) (.mv (.c (.int .i64 15))))])] [(.ops [(.i .l (.bin (.int .i64) .eql (.v 14) (.c (.int .i64 18)))), (.i (.v 19) (.mv (.l 0)))]), (.cond (.v 19) [(.ops [(.i .l (.fad 0 (.v 3))), (.i .l (.load false 1 (.l 0))), (.i .l (.len false (some 56) (.l 0))), (.i .l (.bin (.int .i64) .sub (.l 0) (.c (.int .i64 1)))), (.i (.v 8) (.mv (.l 0)))])] [(.ops [(.i .l (.fad 1 (.v 4))), (.i .l (.load false 1 (.l 0))), (.i (.v 15) (.bin (.int .i64) .neq (.l 0) (.c (.int .i64 0))))]), (.cond (.v 15) [(.ops [(.i (.v 5) (.mv (.c (.int .i64 5))))]), .ret] [])])])])])]), (.ops [(.i .l (.fad 1 (.v 4))), (.i .l (.load false 1 (.l 0))), (.i .l (.mv (.v 7))), (.i .l (.bin (.int .i64) .lss (.l 1) (.l 0))), (.i .l (.mv (.l 0))), (.g (.l 0) false .l (.fad 1 (.v 4))), (.g (.l 1) false .l (.load false 1 (.l 0))), (.g (.l 2) false .l (.mv (.v 8))), (.g (.l 3) false .l (.bin (.int .i64) .gtr (.l 1) (.l 0))), (.i (.v 20) (.pick (.l 4) (.c (.bool true)) (.l 0)))]), (.cond (.v 20) [(.ops [(.i (.v 5) (.mv (.c (.int .i64 1))))]), .ret] []), (.ops [(.i .l (.fad 0 (.v 4))), (.i .l (.load false 1 (.l 0))), (.i .l (.bin (.int .i64) .eql (.l 0) (.c (.int .i64 5)))), (.i .l (.mv (.l 0))), (.g (.l 0) true .l (.mv (.v 2))), (.g (.l 1) true .l (.bin (.int .i64) .eql (.l 0) (.c (.int .i64 12)))), (.i (.v 21) (.pick (.l 2) (.l 0) (.c (.bool false))))]), (.cond (.v 21) [(.ops [(.i (.v 5) (.mv (.c (.int .i64 3))))]), .ret] []), (.ops [(.i (.v 9) (.mv (.c (.int .i64 0))))]), (.block 1 [(.loop rc_exprFault_b1)]), (.ops [(.i (.v 5) (.mv (.c (.int .i64 0))))]), .ret]
theorem fn_exprFault : FnR Tryd.prog po 42 3 25 [0, 1, 2, 3, 4, 6, 7, 8, 9, 10, 11, 12, 17, 32, 34, 37, 38, 42, 44, 46, 61, 68, 71, 81, 93] rc_exprFault [(.v 5)] true := ⟨_, _, Tryd.func42, rfl, rfl, by kernel_rfl, by kernel_rfl, by kernel_rfl, by kernel_rfl, by kernel_rfl⟩
def rc_CodeFault_b1 : List RS := [(.ops [(.i .l (.mv (.v 3))), (.i .l (.fad 0 (.v 1))), (.i .l (.load false 1 (.l 0))), (.i .l (.len false (some 56) (.l 0))), (.i (.v 7) (.bin (.int .i64) .lss (.l 3) (.l 0)))]), (.cond (.v 7) [] [(.exit 0)]), (.block 1 [(.ops [(.i .l (.fad 0 (.v 1))), (.i .l (.load false 1 (.l 0))), (.i .l (.mv (.v 3))), (.i .l (.ixa (some 56) none (.l 1) (.l 0))), (.i .l (.load true 4 (.l 0))), (.i (.v 4) (.alloc [(.int .i64 0), (.int .i64 0), (.int .i64 0), .nils])), (.i .n (.store 4 (.v 4) (.l 0)))]), (.ops [(.i .l (.load true 4 (.v 4))), (.i .l (.call (.c (.fn 40 [] [])) [(.l 0), (.c (.int .i64 30))])), (.i (.v 8) (.bin (.int .i64) .gtr (.l 0) (.c (.int .i64 30))))]), (.cond (.v 8) [(.ops [(.i .l (.mv (.v 3))), (.i .l (.call (.c (.fn 27 [] [])) [(.c (.int .i64 4)), (.l 0)])), (.i .n (.store 2 (.v 2) (.l 0)))]), .ret] []), (.ops [(.i .l (.load true 4 (.v 4))), (.i .l (.call (.c (.fn 41 [] [])) [(.l 0), (.c (.int .i64 120))])), (.i (.v 9) (.bin (.int .i64) .gtr (.l 0) (.c (.int .i64 120))))]), (.cond (.v 9) [(.ops [(.i .l (.mv (.v 3))), (.i .l (.call (.c (.fn 27 [] [])) [(.c (.int .i64 3)), (.l 0)])), (.i .n (.store 2 (.v 2) (.l 0)))]), .ret] []), (.ops [(.i .l (.load true 1 (.v 1))), (.i .l (.load true 4 (.v 4))), (.i .l (.call (.c (.fn 42 [] [])) [(.l 1), (.l 0), (.c (.int .i64 0))])), (.i (.v 5) (.mv (.l 0)))]), (.ops [(.i .l (.mv (.v 5))), (.i (.v 10) (.bin (.int .i64) .neq (.l 0) (.c (.int .i64 0))))]), (.cond (.v 10) [(.ops [(.i .l (.mv (.v 5))), (.i .l (.mv (.v 3))), (.i .l (.call (.c (.fn 27 [] [])) [(.l 1), (.l 0)])), (.i .n (.store 2 (.v 2) (.l 0)))]), .ret] [])]), (.ops [(.i .l (.mv (.v 3))), (.i .l (.bin (.int .i64) .add (.l 0) (.c (.int .i64 1)))), (.i (.v 3) (.mv (.l 0)))])]
def rc_CodeFault : List RS := [(.ops [(.i (.v 1) (.box 1 (.v 0))), (.i (.v 2) (.alloc [(.int .i64 0), (.int .i64 0)]))]), (.ops [(.i .l (.fad 0 (.v 1))), (.i .l (.load false 1 (.l 0))), (.i .l (.len false (some 56) (.l 0))), (.i .l (.bin (.int .i64) .lss (.l 0) (.c (.int .i64 1)))), (.i .l (.mv (.l 0))), (.g (.l 0) false .l (.fad 0 (.v 1))), (.g (.l 1) false .l (.load false 1 (.l 0))), (.g (.l 2) false .l (.len false (some 56) (.l 0))), (.g (.l 3) false .l (.bin (.int .i64) .gtr (.l 0) (.c (.int .i64 6)))), (.i (.v 6) (.pick (.l 4) (.c (.bool true)) (.l 0)))]), (.cond (.v 6) [(.ops [(.i .l (.call (.c (.fn 27 [] [])) [(.c (.int .i64 3)), (.c (.int .i64 (-1)))])), (.i .n (.store 2 (.v 2) (.l 0)))]), .ret] []), (.ops [(.i (.v 3) (.mv (.c (.int .i64 0))))]), (.block 0 [(.loop rc_CodeFault_b1)]), (.ops [(.i .l (.build [(.int .i64 0), (.int .i64 0)] [(0, 1), (1, 1)] [])), (.i .n (.store 2 (.v 2) (.l 0)))]), .ret]
theorem fn_CodeFault : FnR Tryd.prog po 20 1 11 [0, 1, 2, 3, 4, 5, 15, 21, 31, 36, 43] rc_CodeFault [(.cell true 2 2)] true := ⟨_, _, Tryd.func20, rfl, rfl, by kernel_rfl, by kernel_rfl, by kernel_rfl, by kernel_rfl, by kernel_rfl⟩
def rc_GreatModule_b1 : List RS := [(.ops [(.i .l (.mv (.v 3))), (.i .l (.fad 0 (.v 1))), (.i .l (.load false 1 (.l 0))), (.i .l (.len false (some 56) (.l 0))), (.i (.v 5) (.bin (.int .i64) .lss (.l 3) (.l 0)))]), (.cond (.v 5) [] [(.exit 0)]), (.block 1 [(.ops [(.i .l (.fad 0 (.v 1))), (.i .l (.load false 1 (.l 0))), (.i .l (.mv (.v 3))), (.i .l (.ixa (some 56) none (.l 1) (.l 0))), (.i .l (.load true 4 (.l 0))), (.i .l (.call (.c (.fn 41 [] [])) [(.l 0), (.c (.int .i64 600))])), (.i (.v 6) (.bin (.int .i64) .gtr (.l 0) (.c (.int .i64 600))))]), (.cond (.v 6) [(.ops [(.i (.v 2) (.mv (.c (.bool true))))]), .ret] [])]), (.ops [(.i .l (.mv (.v 3))), (.i .l (.bin (.int .i64) .add (.l 0) (.c (.int .i64 1)))), (.i (.v 3) (.mv (.l 0)))])]
def rc_GreatModule : List RS := [(.ops [(.i (.v 1) (.box 1 (.v 0))), (.i (.v 2) (.mv (.c (.bool false))))]), (.ops [(.i .l (.fad 0 (.v 1))), (.i .l (.load false 1 (.l 0))), (.i .l (.len false (some 56) (.l 0))), (.i (.v 4) (.bin (.int .i64) .gtr (.l 0) (.c (.int .i64 20))))]), (.cond (.v 4) [(.ops [(.i (.v 2) (.mv (.c (.bool true))))]), .ret] []), (.ops [(.i (.v 3) (.mv (.c (.int .i64 0))))]), (.block 0 [(.loop rc_GreatModule_b1)]), (.ops [(.i (.v 2) (.mv (.c (.bool false))))]), .ret]
theorem fn_GreatModule : FnR Tryd.prog po 22 1 7 [0, 1, 2, 3, 7, 12, 21] rc_GreatModule [(.v 2)] true := ⟨_, _, Tryd.func22, rfl, rfl, by kernel_rfl, by kernel_rfl, by kernel_rfl, by kernel_rfl, by kernel_rfl⟩
def rc_sameExpr_b1 : List RS := [(.ops [(.i .l (.mv (.v 5))), (.i .l (.fad 3 (.v 2))), (.i .l (.load false 1 (.l 0))), (.i .l (.len false (some 56) (.l 0))), (.i (.v 7) (.bin (.int .i64) .lss (.l 3) (.l 0)))]), (.cond (.v 7) [] [(.exit 0)]), (.block 1 [(.ops [(.i .l (.fad 3 (.v 2))), (.i .l (.load false 1 (.l 0))), (.i .l (.mv (.v 5))), (.i .l (.ixa (some 56) none (.l 1) (.l 0))), (.i .l (.load true 4 (.l 0))), (.i .l (.fad 3 (.v 3))), (.i .l (.load false 1 (.l 0))), (.i .l (.mv (.v 5))), (.i .l (.ixa (some 56) none (.l 1) (.l 0))), (.i .l (.load true 4 (.l 0))), (.i .l (.call (.c (.fn 38 [] [])) [(.l 5), (.l 0)])), (.i (.v 8) (.un .not (.l 0)))]), (.cond (.v 8) [(.ops [(.i (.v 4) (.mv (.c (.bool false))))]), .ret] [])]), (.ops [(.i .l (.mv (.v 5))), (.i .l (.bin (.int .i64) .add (.l 0) (.c (.int .i64 1)))), (.i (.v 5) (.mv (.l 0)))])]
def rc_sameExpr : List RS := [(.ops [(.i (.v 2) (.box 4 (.v 0))), (.i (.v 3) (.box 4 (.v 1))), (.i (.v 4) (.mv (.c (.bool false))))]), (.ops [(.i .l (.fad 0 (.v 2))), (.i .l (.load false 1 (.l 0))), (.i .l (.fad 0 (.v 3))), (.i .l (.load false 1 (.l 0))), (.i .l (.bin (.int .i64) .neq (.l 2) (.l 0))), (.i .l (.mv (.l 0))), (.g (.l 0) false .l (.fad 1 (.v 2))), (.g (.l 1) false .l (.load false 1 (.l 0))), (.g (.l 2) false .l (.fad 1 (.v 3))), (.g (.l 3) false .l (.load false 1 (.l 0))), (.g (.l 4) false .l (.bin (.int .i64) .neq (.l 2) (.l 0))), (.i .l (.pick (.l 5) (.c (.bool true)) (.l 0))), (.i .l (.mv (.l 0))), (.g (.l 0) false .l (.fad 2 (.v 2))), (.g (.l 1) false .l (.load false 1 (.l 0))), (.g (.l 2) false .l (.fad 2 (.v 3))), (.g (.l 3) false .l (.load false 1 (.l 0))), (.g (.l 4) false .l (.bin (.int .i64) .neq (.l 2) (.l 0))), (.i .l (.pick (.l 5) (.c (.bool true)) (.l 0))), (.i .l (.mv (.l 0))), (.g (.l 0) false .l (.fad 3 (.v 2))), (.g (.l 1) false .l (.load false 1 (.l 0))), (.g (.l 2) false .l (.len false (some 56) (.l 0))), (.g (.l 3) false .l (.fad 3 (.v 3))), (.g (.l 4) false .l (.load false 1 (.l 0))), (.g (.l 5) false .l (.len false (some 56) (.l 0))), (.g (.l 6) false .l (.bin (.int .i64) .neq (.l 3) (.l 0))), (.i (.v 6) (.pick (.l 7) (.c (.bool true)) (.l 0)))]), (.cond (.v 6) [(.ops [(.i (.v 4) (.mv (.c (.bool false))))]), .ret] []), (.ops [(.i (.v 5) (.mv (.c (.int .i64 0))))]), (.block 0 [(.loop rc_sameExpr_b1)]), (.ops [(.i (.v 4) (.mv (.c (.bool true))))]), .ret]
theorem fn_sameExpr : FnR Tryd.prog po 38 2 9 [0, 1, 2, 3, 4, 5, 33, 38, 52] rc_sameExpr [(.v 4)] true := ⟨_, _, Tryd.func38, rfl, rfl, by kernel_rfl, by kernel_rfl, by kernel_rfl, by kernel_rfl, by kernel_rfl⟩
def rc_SameModule_b1 : List RS := [(.ops [(.i .l (.mv (.v 5))), (.i .l (.fad 0 (.v 2))), (.i .l (.load false 1 (.l 0))), (.i .l (.len false (some 56) (.l 0))), (.i (.v 7) (.bin (.int .i64) .lss (.l 3) (.l 0)))]), (.cond (.v 7) [] [(.exit 0)]), (.block 1 [(.ops [(.i .l (.fad 0 (.v 2))), (.i .l (.load false 1 (.l 0))), (.i .l (.mv (.v 5))), (.i .l (.ixa (some 56) none (.l 1) (.l 0))), (.i .l (.load true 4 (.l 0))), (.i .l (.fad 0 (.v 3))), (.i .l (.load false 1 (.l 0))), (.i .l (.mv (.v 5))), (.i .l (.ixa (some 56) none (.l 1) (.l 0))), (.i .l (.load true 4 (.l 0))), (.i .l (.call (.c (.fn 38 [] [])) [(.l 5), (.l 0)])), (.i (.v 8) (.un .not (.l 0)))]), (.cond (.v 8) [(.ops [(.i (.v 4) (.mv (.c (.bool false))))]), .ret] [])]), (.ops [(.i .l (.mv (.v 5))), (.i .l (.bin (.int .i64) .add (.l 0) (.c (.int .i64 1)))), (.i (.v 5) (.mv (.l 0)))])]
def rc_SameModule : List RS := [(.ops [(.i (.v 2) (.box 1 (.v 0))), (.i (.v 3) (.box 1 (.v 1))), (.i (.v 4) (.mv (.c (.bool false))))]), (.ops [(.i .l (.fad 0 (.v 2))), (.i .l (.load false 1 (.l 0))), (.i .l (.len false (some 56) (.l 0))), (.i .l (.fad 0 (.v 3))), (.i .l (.load false 1 (.l 0))), (.i .l (.len false (some 56) (.l 0))), (.i (.v 6) (.bin (.int .i64) .neq (.l 3) (.l 0)))]), (.cond (.v 6) [(.ops [(.i (.v 4) (.mv (.c (.bool false))))]), .ret] []), (.ops [(.i (.v 5) (.mv (.c (.int .i64 0))))]), (.block 0 [(.loop rc_SameModule_b1)]), (.ops [(.i (.v 4) (.mv (.c (.bool true))))]), .ret]
theorem fn_SameModule : FnR Tryd.prog po 15 2 9 [0, 1, 2, 3, 4, 5, 12, 17, 31] rc_SameModule [(.v 4)] true := ⟨_, _, Tryd.func15, rfl, rfl, by kernel_rfl, by kernel_rfl, by kernel_rfl, by kernel_rfl, by kernel_rfl⟩
end Go.Proofs.YtngphebjmmencaaDoor
namespace Go.Proofs.YtngphebjmmencaaDoor
set_option linter.unusedSimpArgs false
set_option linter.unusedVariables false
open Go Go.ChangeShapes Go.WideShapes Go.ChangeAt Go.RowKit Go.Deep

/-- cells of a type, as deep as so -/
def TyA (P : Program) : Nat → TypeId → List AV → Prop
  | 0, _, _ => False
  | n + 1, t, cs => match P.underlying t with
    | some .bool => ∃ b, cs = [.bool b]
    | some (.int k) => ∃ z, cs = [.int k z] ∧ (Lit.int k z).wf = true
    | some .string => ∃ s, cs = [.str s] ∧ s.length ≤ maxLen
    | some (.slice e) => cs = [.nils] ∨ ∃ es, cs = [.isl none e es] ∧ es.length ≤ maxLen ∧ ∀ r ∈ es, r.length = P.cellsOf e ∧ TyA P n e r
    | some (.struct fs) => ∃ parts : List (List AV), cs = parts.flatten ∧ parts.length = fs.size ∧ ∀ (i : Nat) (f : Field), fs[i]? = some f → ∃ p, parts[i]? = some p ∧ p.length = P.cellsOf f.type ∧ TyA P n f.type p
    | _ => False

def consecF (P : Program) : Nat → List Field → Nat → Bool
  | o, [], m => o == m
  | o, f :: r, m => f.offset == o && consecF P (o + P.cellsOf f.type) r m
/-- types of numbers, bools, strings, structs and slices of these -/
def closedT (P : Program) (S : List TypeId) : Bool := S.all fun t => match P.underlying t with
  | some .bool | some (.int _) | some .string => true
  | some (.slice e) => S.contains e && P.cellsOf e != 0
  | some (.struct fs) => consecF P 0 fs.toList (P.cellsOf t) && fs.toList.all fun f => S.contains f.type
  | _ => false

theorem consecF_le {P : Program} : ∀ {l : List Field} {o m : Nat}, consecF P o l m = true → o ≤ m
  | [], o, m, h => by simp [consecF] at h; omega
  | f :: r, o, m, h => by
    simp only [consecF, Bool.and_eq_true] at h
    have := consecF_le h.2
    omega

section
variable {H : Type} {enc : TypeId × Value → H} {P : Program} {W : World} {S : List TypeId}

theorem open_fields {n : Nat} (ih : ∀ t cs x, t ∈ S → DataW.trod enc P W 0 (fun _ => true) true n t cs = some x → ∃ avs, TyA P n t avs ∧ VRs P (m0A W) h0A avs cs) :
    ∀ (fl : List Field) (o m : Nat) (cs : List Value), consecF P o fl m = true → cs.length = m → (∀ f ∈ fl, f.type ∈ S ∧ ∃ x, DataW.trod enc P W 0 (fun _ => true) true n f.type ((cs.drop f.offset).take (P.cellsOf f.type)) = some x) →
    ∃ parts : List (List AV), parts.length = fl.length ∧ (∀ (i : Nat) (f : Field), fl[i]? = some f → ∃ p, parts[i]? = some p ∧ p.length = P.cellsOf f.type ∧ TyA P n f.type p) ∧ VRs P (m0A W) h0A parts.flatten (cs.drop o)
  | [], o, m, cs, h, hc, hf => by
    simp only [consecF, beq_iff_eq] at h
    refine ⟨[], rfl, fun i f hi => by simp at hi, ?_⟩
    rw [List.drop_eq_nil_of_le (by omega)]
    exact VRs.nil
  | f :: fl, o, m, cs, h, hc, hf => by
    simp only [consecF, Bool.and_eq_true, beq_iff_eq] at h
    obtain ⟨h1, h2⟩ := h
    have hle := consecF_le h2
    obtain ⟨hs, x, hx⟩ := hf f (by simp)
    obtain ⟨p, hp1, hp2⟩ := ih _ _ _ hs hx
    obtain ⟨parts, q1, q2, q3⟩ := open_fields ih fl (o + P.cellsOf f.type) m cs h2 hc (fun g hg => hf g (by simp [hg]))
    rw [h1] at hp2
    have hl : p.length = P.cellsOf f.type := by
      have := hp2.1
      rw [List.length_take, List.length_drop] at this
      omega
    refine ⟨p :: parts, by simp [q1], ?_, ?_⟩
    · intro i g hi
      cases i with
      | zero =>
        obtain rfl : f = g := by simpa using hi
        exact ⟨p, rfl, hl, hp1⟩
      | succ i => exact q2 i g (by simpa using hi)
    · have e : cs.drop o = (cs.drop o).take (P.cellsOf f.type) ++ cs.drop (o + P.cellsOf f.type) := by
        rw [← List.drop_drop, List.take_append_drop]
      rw [e, List.flatten_cons]
      exact VRs.append hp2 q3

theorem open_ty (hS : closedT P S = true) : ∀ (fuel : Nat) (t : TypeId) (cs : List Value) (x : DataW H × List MemPlace), t ∈ S → DataW.trod enc P W 0 (fun _ => true) true fuel t cs = some x →
    ∃ avs, TyA P fuel t avs ∧ VRs P (m0A W) h0A avs cs
  | 0, t, cs, x, _, h => by simp [DataW.trod] at h
  | n + 1, t, cs, x, ht, h => by
    have hS' := hS
    have hc := List.all_eq_true.1 hS t ht
    simp only [TyA]
    split at hc
    · rename_i hu
      obtain ⟨b, rfl, -⟩ := DataW.trod_bool hu h
      exact ⟨_, ⟨b, rfl⟩, VRs.cons (.bool b) VRs.nil⟩
    · rename_i k hu
      obtain ⟨z, rfl, -, hw⟩ := DataW.trod_int hu h
      exact ⟨_, ⟨z, rfl, hw⟩, VRs.cons (.int k z) VRs.nil⟩
    · rename_i hu
      obtain ⟨s, rfl, -, hw⟩ := DataW.trod_string hu h
      exact ⟨_, ⟨s.data.toList, rfl, by simpa using hw⟩, VRs.cons (vr_str s) VRs.nil⟩
    · rename_i e hu
      simp only [Bool.and_eq_true, bne_iff_ne, ne_eq, List.contains_iff_mem] at hc
      rcases DataW.trod_slice hu h with ⟨rfl, -⟩ | ⟨a, len, cap, elems, rest, n', hn, rfl, -, hb, hl, hm, hlen, hel, -, -⟩
      · exact ⟨_, Or.inl rfl, VRs.cons .nils VRs.nil⟩
      · obtain rfl : n = n' := by omega
        have key : ∀ i, i < len → ∃ q : List AV × List Value, W.cells? 0 (a.add (i * P.cellsOf e)) (P.cellsOf e) = some q.2 ∧ TyA P n e q.1 ∧ VRs P (m0A W) h0A q.1 q.2 := by
          intro i hi
          have h1 := hel i hi
          rw [List.getElem?_eq_getElem (by omega)] at h1
          obtain ⟨cs', h2, h3⟩ := Option.bind_eq_some_iff.1 h1
          obtain ⟨avs, h4, h5⟩ := open_ty hS' n e cs' _ hc.1 h3
          exact ⟨(avs, cs'), h2, h4, h5⟩
        obtain ⟨V, hV⟩ := choose_lt key
        have hlen2 : ∀ i, i < len → (V i).1.length = P.cellsOf e ∧ (V i).2.length = P.cellsOf e := fun i hi => by
          obtain ⟨h1, h2, h3⟩ := hV i hi
          have := (World.cells?_some h1).2.1
          exact ⟨by rw [← this, h3.1], this⟩
        refine ⟨_, Or.inr ⟨(List.range len).map fun i => (V i).1, rfl, by simp; omega, ?_⟩, VRs.cons ?_ VRs.nil⟩
        · intro r hr
          obtain ⟨i, hi, rfl⟩ := List.mem_map.1 hr
          have hi := List.mem_range.1 hi
          exact ⟨(hlen2 i hi).1, (hV i hi).2.1⟩
        · by_cases hz : len = 0
          · subst hz
            exact .isl0 e a cap
          · have ha : a = ⟨a.block, a.off, none⟩ := by
              obtain ⟨h1, h2, h3⟩ := hV 0 (by omega)
              have := (World.cells?_some h1).2.2 0 (by omega)
              rw [List.getElem?_eq_getElem (by rw [(hlen2 0 (by omega)).2]; omega)] at this
              have hsp := World.cell?_spot this
              obtain ⟨b, o, sp⟩ := a
              simp [Addr.add] at hsp
              subst hsp
              rfl
            have := VR.isl (P := P) (m := m0A W) (h := h0A) none e ((List.range len).map fun i => (V i).1) a.block a.off cap (fun i j => (V i).2.getD j default) (fun r hr => ?_) (fun i hi j hj => ?_) (fun i hi j hj => ?_) (by simpa using hl) (fun q hq => by cases hq)
            · rw [← ha] at this
              simpa using this
            · obtain ⟨i, hi, rfl⟩ := List.mem_map.1 hr
              exact (hlen2 i (List.mem_range.1 hi)).1
            · simp only [List.length_map, List.length_range] at hi
              obtain ⟨h1, h2, h3⟩ := hV i hi
              have h4 := (World.cells?_some h1).2.2 j hj
              rw [Go.Deep.add_add, ha, Addr.add_lit] at h4
              have h5 : j < (V i).2.length := by rw [(hlen2 i hi).2]; exact hj
              rw [List.getElem?_eq_getElem h5] at h4
              show W.cell? _ = _
              rw [h4]
              simp [List.getD, h5]
            · simp only [List.length_map, List.length_range] at hi
              obtain ⟨h1, h2, h3⟩ := hV i hi
              simp only [List.getElem_map, List.getElem_range] at hj ⊢
              have h5 : j < (V i).2.length := by rw [h3.1]; exact hj
              have := h3.2 j hj h5
              simpa [List.getD, h5] using this
    · rename_i fs hu
      simp only [Bool.and_eq_true, List.all_eq_true, List.contains_iff_mem] at hc
      obtain ⟨xs, n', hn, -, hl, hxl, hf⟩ := DataW.trod_struct hu h
      obtain rfl : n = n' := by omega
      obtain ⟨parts, q1, q2, q3⟩ := open_fields (S := S) (n := n) (fun t cs x ht h => open_ty hS' n t cs x ht h) fs.toList 0 (P.cellsOf t) cs hc.1 hl (fun f hm => ⟨hc.2 f hm, by
        obtain ⟨i, hi⟩ := List.mem_iff_getElem?.1 hm
        rw [Array.getElem?_toList] at hi
        have h1 := hf i f hi
        have h2 := (Array.getElem?_eq_some_iff.1 hi).1
        rw [List.getElem?_eq_getElem (by omega)] at h1
        exact ⟨_, h1⟩⟩)
      exact ⟨_, ⟨parts, rfl, by simpa using q1, fun i f hi => q2 i f (by rw [Array.getElem?_toList]; exact hi)⟩, by simpa using q3⟩
    · cases hc

/-- a struct, by value -/
theorem open_struct {t : TypeId} {fs : Array Field} (hS : closedT P S = true) (hm : t ∈ S) (hu : P.underlying t = some (.struct fs)) {v : Value} {d : DataW H} {p : List MemPlace} {r : Reach} {b0 : Nat} (hok : Value.okWide P W r b0 t v) (h : DataW.Trod enc P W 0 (fun _ => true) true t v d p) :
    ∃ n avs, TyA P n t avs ∧ VR P (m0A W) h0A (.agg avs) v := by
  obtain ⟨cs, rfl, hsz⟩ := okWide_struct hu hok
  obtain ⟨fuel, hf⟩ := h
  obtain ⟨avs, h1, h2⟩ := open_ty hS fuel t _ _ hm hf
  refine ⟨fuel, avs, h1, ?_⟩
  have := VR.agg avs cs.toList (m := m0A W) (h := h0A) (P := P) h2.1 h2.2
  simpa using this
/-- a slice -/
theorem open_slc {t e : TypeId} (hS : closedT P S = true) (hm : t ∈ S) (hu : P.underlying t = some (.slice e)) {v : Value} {d : DataW H} {p : List MemPlace} {r : Reach} {b0 : Nat} (hok : Value.okWide P W r b0 t v) (h : DataW.Trod enc P W 0 (fun _ => true) true t v d p) :
    ∃ n av, TyA P n t [av] ∧ VR P (m0A W) h0A av v := by
  obtain ⟨a, len, cap, rfl⟩ := okWide_slice hu hok
  obtain ⟨fuel, hf⟩ := h
  obtain ⟨avs, h1, h2⟩ := open_ty hS fuel t _ _ hm hf
  have hl := h2.1
  match avs, hl with
  | [av], _ => exact ⟨fuel, av, h1, h2.2 0 (by simp) (by simp [Value.cells])⟩
end

/-! ### what a type says -/
section
variable {P : Program} {t e : TypeId} {cs : List AV}
theorem ty_int {n : Nat} {k : IntKind} (hu : P.underlying t = some (.int k)) (h : TyA P n t cs) : ∃ z, cs = [.int k z] ∧ (Lit.int k z).wf = true := by
  cases n with
  | zero => exact h.elim
  | succ n => simpa only [TyA, hu] using h
theorem ty_bool {n : Nat} (hu : P.underlying t = some .bool) (h : TyA P n t cs) : ∃ b, cs = [.bool b] := by
  cases n with
  | zero => exact h.elim
  | succ n => simpa only [TyA, hu] using h
theorem ty_str {n : Nat} (hu : P.underlying t = some .string) (h : TyA P n t cs) : ∃ s, cs = [.str s] ∧ s.length ≤ maxLen := by
  cases n with
  | zero => exact h.elim
  | succ n => simpa only [TyA, hu] using h
/-- a slice that was handed in -/
def InS (e : TypeId) (v : AV) (es : List (List AV)) : Prop := (es = [] ∧ v = .nils) ∨ v = .isl none e es
theorem InS.isL {v : AV} {es : List (List AV)} (h : InS e v es) : IsL e v es := by
  rcases h with ⟨rfl, rfl⟩ | rfl
  · exact isL_nils e
  · exact isL_isl _ _ _
theorem ty_slc {n : Nat} (hu : P.underlying t = some (.slice e)) (h : TyA P n t cs) : ∃ m v es, n = m + 1 ∧ cs = [v] ∧ InS e v es ∧ es.length ≤ maxLen ∧ ∀ r ∈ es, r.length = P.cellsOf e ∧ TyA P m e r := by
  cases n with
  | zero => exact h.elim
  | succ n =>
    simp only [TyA, hu] at h
    rcases h with rfl | ⟨es, rfl, h1, h2⟩
    · exact ⟨n, .nils, [], rfl, rfl, .inl ⟨rfl, rfl⟩, by simp, fun r hr => by simp at hr⟩
    · exact ⟨n, _, es, rfl, rfl, .inr rfl, h1, h2⟩
/-- the types of a struct's fields (for the kernel) -/
def fieldTs (P : Program) (t : TypeId) : Option (List TypeId) := match P.underlying t with
  | some (.struct fs) => some (fs.toList.map (·.type))
  | _ => none
theorem ty_struct {n : Nat} {ts : List TypeId} (hu : fieldTs P t = some ts) (h : TyA P n t cs) : ∃ m, n = m + 1 ∧ ∃ parts : List (List AV), cs = parts.flatten ∧ parts.length = ts.length ∧ ∀ (i : Nat) (t' : TypeId), ts[i]? = some t' → ∃ p, parts[i]? = some p ∧ p.length = P.cellsOf t' ∧ TyA P m t' p := by
  cases n with
  | zero => exact h.elim
  | succ n =>
    unfold fieldTs at hu
    simp only [TyA] at h
    split at hu
    · rename_i fs hf
      cases hu
      rw [hf] at h
      obtain ⟨parts, h1, h2, h3⟩ := h
      refine ⟨n, rfl, parts, h1, by simpa using h2, fun i t' hi => ?_⟩
      rw [List.getElem?_map] at hi
      obtain ⟨f, h4, h5⟩ := Option.map_eq_some_iff.1 hi
      subst h5
      exact h3 i f (by rw [← Array.getElem?_toList]; exact h4)
    · cases hu
theorem list1 {α : Type} {l : List α} (h : l.length = 1) : ∃ a, l = [a] := by
  match l, h with
  | [a], _ => exact ⟨a, rfl⟩
theorem list2 {α : Type} {l : List α} (h : l.length = 2) : ∃ a b, l = [a, b] := by
  match l, h with
  | [a, b], _ => exact ⟨a, b, rfl⟩
theorem list3 {α : Type} {l : List α} (h : l.length = 3) : ∃ a b c, l = [a, b, c] := by
  match l, h with
  | [a, b, c], _ => exact ⟨a, b, c, rfl⟩
theorem list4 {α : Type} {l : List α} (h : l.length = 4) : ∃ a b c d, l = [a, b, c, d] := by
  match l, h with
  | [a, b, c, d], _ => exact ⟨a, b, c, d, rfl⟩
end
end Go.Proofs.YtngphebjmmencaaDoor
namespace Go.Proofs.YtngphebjmmencaaDoor
set_option linter.unusedSimpArgs false
set_option linter.unusedVariables false
open Go

theorem SlA.isL {e : TypeId} {v : AV} {es : List (List AV)} (h : SlA e v es) : IsL e v es := by
  rcases h with ⟨rfl, rfl⟩ | ⟨id, rfl⟩
  · exact isL_nils e
  · exact isL_isl _ _ _
theorem InS.sla {e : TypeId} {v : AV} {es : List (List AV)} (h : InS e v es) : SlA e v es := by
  rcases h with h | h
  · exact .inl h
  · exact .inr ⟨_, h⟩

end Go.Proofs.YtngphebjmmencaaDoor
namespace Go.Proofs.YtngphebjmmencaaDoor
set_option linter.unusedSimpArgs false
set_option linter.unusedVariables false
open Go

theorem ExL.len : ∀ {l : List XD} {es : List (List AV)}, ExL l es → es.length = l.length
  | [], es, h => by
    simp only [ExL] at h
    subst h
    rfl
  | x :: l, es, h => by
    simp only [ExL] at h
    obtain ⟨r, rs, rfl, _, h2⟩ := h
    simp [ExL.len h2]
theorem ExL.get : ∀ {l : List XD} {es : List (List AV)} {i : Nat} {x : XD}, ExL l es → l[i]? = some x → ∃ r, es[i]? = some r ∧ ExA x r
  | [], es, i, x, h, hx => by simp at hx
  | y :: l, es, i, x, h, hx => by
    simp only [ExL] at h
    obtain ⟨r, rs, rfl, h1, h2⟩ := h
    cases i with
    | zero =>
      obtain rfl : y = x := by simpa using hx
      exact ⟨r, rfl, h1⟩
    | succ i => simpa using ExL.get h2 (by simpa using hx)
theorem ExL.mk : ∀ {l : List XD} {es : List (List AV)}, es.length = l.length → (∀ (i : Nat) (x : XD) (r : List AV), l[i]? = some x → es[i]? = some r → ExA x r) → ExL l es
  | [], es, h, _ => by simp only [ExL]; exact List.length_eq_zero_iff.1 (by simpa using h)
  | x :: l, [], h, _ => by simp at h
  | x :: l, r :: rs, h, hx => by
    simp only [ExL]
    exact ⟨r, rs, rfl, hx 0 x r rfl rfl, ExL.mk (by simpa using h) fun i y q h1 h2 => hx (i + 1) y q (by simpa using h1) (by simpa using h2)⟩
theorem ExL.append {l : List XD} {es : List (List AV)} {x : XD} {r : List AV} (h : ExL l es) (hx : ExA x r) : ExL (l ++ [x]) (es ++ [r]) := by
  induction l generalizing es with
  | nil =>
    simp only [ExL] at h
    subst h
    simp [ExL, hx]
  | cons y l ih =>
    simp only [ExL] at h
    obtain ⟨q, rs, rfl, h1, h2⟩ := h
    exact ⟨q, rs ++ [r], rfl, h1, ih h2⟩
theorem ExA.row {x : XD} {r : List AV} (h : ExA x r) : ∃ v es, r = [.int .i64 x.op, .int .i64 x.k, .int .i64 x.n, v] ∧ SlA tE v es ∧ ExL x.l es := by
  cases x with
  | mk op k n l => simp only [ExA] at h; exact h
theorem ExA.one {x : XD} {r : List AV} (h : ExA x r) : r.all AV.one = true ∧ r.length = 4 := by
  obtain ⟨v, es, rfl, hv, _⟩ := h.row
  rcases hv with ⟨_, rfl⟩ | ⟨id, rfl⟩ <;> exact ⟨rfl, rfl⟩

/-- what a walk asks of an expression's cells -/
theorem ExA.facts {x : XD} {r : List AV} (h : ExA x r) : ∃ v es, r = [.int .i64 x.op, .int .i64 x.k, .int .i64 x.n, v] ∧ IsL tE v es ∧ v.one = true ∧ es.length = x.l.length ∧
    ∀ (i : Nat) (y : XD), x.l[i]? = some y → ∃ q, ixaR (some tE) none v (.int .i64 (i : Int)) = some (.ip q 0) ∧ ldA true 4 q 0 = some (.agg q) ∧ ExA y q := by
  obtain ⟨v, es, rfl, hv, hl⟩ := h.row
  refine ⟨v, es, rfl, hv.isL, ?_, hl.len, fun i y hy => ?_⟩
  · rcases hv with ⟨_, rfl⟩ | ⟨id, rfl⟩ <;> rfl
  · obtain ⟨q, h1, h2⟩ := hl.get hy
    exact ⟨q, hv.isL.ix .i64 i q h1, ld_all h2.one.2, h2⟩

mutual
/-- .. and it is one still when it is forgotten where it came from -/
theorem ex_wk : ∀ {x : XD} {r : List AV}, ExA x r → ∃ r', wkL r = some r' ∧ ExA x r'
  | .mk op k n l, r, h => by
    simp only [ExA] at h
    obtain ⟨v, es, rfl, hv, hl⟩ := h
    obtain ⟨es', h1, h2⟩ := exs_wk hl
    rcases hv with ⟨rfl, rfl⟩ | ⟨id, rfl⟩
    · exact ⟨_, rfl, by simp only [ExA]; exact ⟨_, [], rfl, .inl ⟨rfl, rfl⟩, hl⟩⟩
    · refine ⟨[.int .i64 op, .int .i64 k, .int .i64 n, .isl none tE es'], ?_, ?_⟩
      · simp only [wkL, wkA, h1, Option.map_some]
      · simp only [ExA]
        exact ⟨_, es', rfl, .inr ⟨_, rfl⟩, h2⟩
theorem exs_wk : ∀ {l : List XD} {es : List (List AV)}, ExL l es → ∃ es', wkR es = some es' ∧ ExL l es'
  | [], es, h => by
    simp only [ExL] at h
    subst h
    exact ⟨[], rfl, rfl⟩
  | x :: l, es, h => by
    simp only [ExL] at h
    obtain ⟨r, rs, rfl, h1, h2⟩ := h
    obtain ⟨r', q1, q2⟩ := ex_wk h1
    obtain ⟨rs', q3, q4⟩ := exs_wk h2
    exact ⟨r' :: rs', by simp only [wkR, q1, q3], by simp only [ExL]; exact ⟨r', rs', rfl, q2, q4⟩⟩
end

theorem exprTs : fieldTs Tryd.prog tE = some [3, 3, 2, 35] := by kernel_rfl
theorem intT : (Tryd.prog).underlying 3 = some (.int .i64) := by kernel_rfl
theorem int64T : (Tryd.prog).underlying 2 = some (.int .i64) := by kernel_rfl
theorem exprsT : (Tryd.prog).underlying 35 = some (.slice tE) := by kernel_rfl
theorem ex_of : ∀ (n : Nat) (r : List AV), TyA Tryd.prog n tE r → ∃ x, ExA x r := by
  intro n
  induction n using Nat.strongRecOn with
  | ind n ih =>
    intro r h
    obtain ⟨m, rfl, parts, rfl, hl, hf⟩ := ty_struct exprTs h
    obtain ⟨p0, a0, _, b0⟩ := hf 0 _ rfl
    obtain ⟨p1, a1, _, b1⟩ := hf 1 _ rfl
    obtain ⟨p2, a2, _, b2⟩ := hf 2 _ rfl
    obtain ⟨p3, a3, _, b3⟩ := hf 3 _ rfl
    obtain ⟨op, rfl, _⟩ := ty_int intT b0
    obtain ⟨k, rfl, _⟩ := ty_int intT b1
    obtain ⟨z, rfl, _⟩ := ty_int int64T b2
    obtain ⟨m', v, es, rfl, rfl, hv, _, hr⟩ := ty_slc exprsT b3
    obtain ⟨c0, c1, c2, c3, rfl⟩ := list4 hl
    simp only [List.getElem?_cons_zero, List.getElem?_cons_succ, Option.some.injEq] at a0 a1 a2 a3
    subst a0 a1 a2 a3
    have key : ∀ es : List (List AV), (∀ r ∈ es, ∃ x, ExA x r) → ∃ l, ExL l es := by
      intro es
      induction es with
      | nil => intro _; exact ⟨[], rfl⟩
      | cons r es ih2 =>
        intro hh
        obtain ⟨x, hx⟩ := hh r (by simp)
        obtain ⟨l, hl⟩ := ih2 fun q hq => hh q (by simp [hq])
        exact ⟨x :: l, by simp only [ExL]; exact ⟨r, es, rfl, hx, hl⟩⟩
    obtain ⟨l, hl⟩ := key es fun r hr' => ih m' (by omega) r (hr r hr').2
    exact ⟨.mk op k z l, by simp only [ExA]; exact ⟨v, es, rfl, hv.sla, hl⟩⟩

/-- a module, as cells: its functions -/
def ModA (l : List XD) (r : List AV) : Prop := ∃ v es, r = [v] ∧ SlA tE v es ∧ ExL l es
theorem modTs : fieldTs Tryd.prog 37 = some [35] := by kernel_rfl
theorem mod_of {n : Nat} {r : List AV} (h : TyA Tryd.prog n 37 r) : ∃ l, ModA l r := by
  obtain ⟨m, rfl, parts, rfl, hl, hf⟩ := ty_struct modTs h
  obtain ⟨p0, a0, _, b0⟩ := hf 0 _ rfl
  obtain ⟨m', v, es, rfl, rfl, hv, _, hr⟩ := ty_slc exprsT b0
  obtain ⟨c0, rfl⟩ := list1 hl
  simp only [List.getElem?_cons_zero, Option.some.injEq] at a0
  subst a0
  have key : ∀ es : List (List AV), (∀ r ∈ es, ∃ x, ExA x r) → ∃ l, ExL l es := by
    intro es
    induction es with
    | nil => intro _; exact ⟨[], rfl⟩
    | cons r es ih2 =>
      intro hh
      obtain ⟨x, hx⟩ := hh r (by simp)
      obtain ⟨l, hl⟩ := ih2 fun q hq => hh q (by simp [hq])
      exact ⟨x :: l, by simp only [ExL]; exact ⟨r, es, rfl, hx, hl⟩⟩
  obtain ⟨l, hl⟩ := key es fun r hr' => ex_of m' r (hr r hr').2
  exact ⟨l, v, es, rfl, hv.sla, hl⟩
/-- the types of a module's parts -/
def modS : List TypeId := [3, 2, 56, 35, 37]
theorem modS_ok : closedT Tryd.prog modS = true := by kernel_rfl
end Go.Proofs.YtngphebjmmencaaDoor
