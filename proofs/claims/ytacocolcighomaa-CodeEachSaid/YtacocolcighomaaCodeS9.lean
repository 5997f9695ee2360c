/- code in the plain model: the judge and the document go through an expression. -/
import Derived.Test.YtacocolcighomaaCodeS8
namespace Go.Proofs.Ytacocolcighomaa
set_option linter.unusedSimpArgs false
set_option linter.unusedVariables false
open Go

theorem XD.fault_eq (nf : Int) (x : XD) (o : Int) : x.fault nf o = orF (headX nf x.op x.k x.n x.l.length o) (faultsX nf x.op 0 x.l o) := by
  cases x with
  | mk op k n l =>
    simp only [XD.fault, XD.op, XD.k, XD.n, XD.l, orF]
    by_cases hh : headX nf op k n l.length o = 0 <;> simp [hh]
theorem head_ne (nf k n : Int) (len : Nat) : headX nf 5 k n len 12 ≠ 0 := by
  unfold headX
  split
  · decide
  · split
    · decide
    · split
      · assumption
      · simp
theorem faultsX_cons (nf op : Int) (i : Nat) (x : XD) (l : List XD) (o : Int) : faultsX nf op i (x :: l) o = orF (x.fault nf (if op = 5 ∧ i = 1 then o + 1 else o)) (faultsX nf op (i + 1) l o) := by
  simp only [faultsX, orF]
  by_cases hh : x.fault nf (if op = 5 ∧ i = 1 then o + 1 else o) = 0 <;> simp [hh]
theorem head_eq (nf op k n : Int) (len : Nat) (o : Int) : headX nf op k n len o =
    orF (orF (orF (if decide (partsX op < 0) = true then 2 else 0) (if (!decide ((len : Int) = partsX op)) = true then 5 else 0)) (numsX nf op k n o)) (if (decide (op = 5) && decide (o = 12)) = true then 3 else 0) := by
  unfold headX orF
  by_cases h1 : partsX op < 0
  · simp [h1]
  · by_cases h2 : (len : Int) = partsX op
    · by_cases h3 : numsX nf op k n o = 0 <;> simp [h1, h2, h3]
    · simp [h1, h2]

section
variable {h : AH} {b : Nat} {mv : AV}
theorem jexpr_loop (hbn : b < h.n) (nf : Int) (x : XD) (v : AV) (m : ∀ h, ModV h v x.l) (hL : x.l.length ≤ 100000) (o : Int) (ho : 0 ≤ o) (ho2 : o ≤ 12) (H : AH)
    (hf : ∀ y ∈ x.l, ∀ (q : List AV) (h : AH) (o : Int), ExA y q → 0 ≤ o → o ≤ 12 → h.cell b = some [[mv, .int .i64 0]] → b < h.n → ∃ h', runF Try.prog po 80 [.ptr b 0 0, .agg q, .int .i64 o] h = some (.inl (.tup []), h') ∧ JH b mv (y.fault nf o) h h')
    (v1 v4 : AV) : ∀ (l pre : List XD) (h' : AH) (c : Int) (v5 v6 v10 v11 v12 : AV), x.l = pre ++ l → JH b mv c h h' → h.n < h'.n → h'.cell h.n = some [[.int .i64 x.op, .int .i64 x.k, .int .i64 x.n, v]] → (x.op = 5 → o = 12 → c ≠ 0) →
    ∃ h'', cFR false [] H (runR (runF Try.prog po) 13 [.lp rc_jexpr_b1, .ss [], .blk 0, .ss []] [.ptr b 0 0, v1, .int .i64 o, .ptr h.n 0 0, v4, v5, v6, v, .int .i64 x.l.length, .int .i64 pre.length, v10, v11, v12] [] h') = some (.inl (.tup []), h'') ∧
      JH b mv (orF c (faultsX nf x.op pre.length l o)) h h'' := by
  intro l
  induction l with
  | nil =>
    intro pre h' c v5 v6 v10 v11 v12 e j hn hx ht
    have e' : x.l = pre := by simpa using e
    have hlt : ¬ ((pre.length : Int) < (x.l.length : Int)) := by rw [e']; omega
    refine ⟨h', ?_, by simp only [faultsX, orF_z]; exact j⟩
    rw [r_lpb rc_jexpr_b1.eq_1]
    simp only [sim, List.length_cons, List.length_nil, Nat.reduceAdd, Nat.reduceSub, List.replicate, List.cons_append, List.nil_append, List.map_cons, List.map_nil, Option.bind_some, Option.map_some, Option.bind_none, Option.map_none, if_true, if_false, decide_true, decide_false, Bool.false_eq_true, Bool.true_eq_false, Bool.not_true, Bool.not_false, reduceCtorEq, Bool.and_true, Bool.true_and, Bool.and_false, Bool.false_and, Bool.or_true, Bool.true_or, Bool.or_false, Bool.false_or, true_and, and_true, false_and, and_false, List.take_zero, List.take_succ_cons, List.drop_zero, List.drop_succ_cons, List.take_nil, List.drop_nil, List.set_cons_zero, List.set_cons_succ, Nat.reduceLeDiff, Nat.reduceLT, Nat.zero_add, Nat.lt_add_one, Nat.le_refl, clearA, Int.toNat_natCast, hlt]
  | cons y l ih =>
    intro pre h' c v5 v6 v10 v11 v12 e j hn hx ht
    have hlt : (pre.length : Int) < (x.l.length : Int) := by rw [e]; simp; omega
    obtain ⟨a, q, i1, i2, i3⟩ := (m h').ix pre.length y (by rw [e]; simp)
    have i2' := i2 _ (GrewA.refl h')
    obtain ⟨o1, o2⟩ := i3.one
    have p := JH.push j.j (Nat.lt_trans hbn hn) [q]
    have hj := p.j
    have hx2 : (h'.push [q]).cell h.n = some [[.int .i64 x.op, .int .i64 x.k, .int .i64 x.n, v]] := (push_lt hn).trans hx
    have hw := w64 (n := (pre.length : Int) + 1) (by rw [e] at hL; simp at hL; omega) (by rw [e] at hL; simp at hL; omega)
    by_cases hc : c = 0
    · subst hc
      have hb0 : h'.n + 1 = (h'.push [q]).n := rfl
      have ht2 : ∀ {c' : Int}, x.op = 5 → o = 12 → c' ≠ 0 := fun h1 h2 => absurd rfl (ht h1 h2)
      have e3 : ((pre ++ [y]).length : Int) = (pre.length : Int) + 1 := by simp
      have e4 : (pre ++ [y]).length = pre.length + 1 := by simp
      have hk : ∀ (h1 : AH) (c' : Int), JH b mv c' (h'.push [q]) h1 → h1.cell h.n = some [[.int .i64 x.op, .int .i64 x.k, .int .i64 x.n, v]] ∧ h.n < h1.n := fun h1 c' j1 =>
        ⟨(j1.old h.n (by simp only [push_n]; omega) (by omega)).trans hx2, Nat.lt_of_lt_of_le (by simp only [push_n]; omega) j1.n⟩
      by_cases hin : x.op = 5 ∧ pre.length = 1
      · obtain ⟨hop, hp1⟩ := hin
        have ho12 : o ≤ 11 := by
          rcases Int.lt_or_eq_of_le ho2 with h1 | h1
          · omega
          · exact absurd rfl (ht hop h1)
        have hp1' : (pre.length : Int) = 1 := by omega
        have hwo := w64 (n := o + 1) (by omega) (by omega)
        obtain ⟨h1, r1, j1⟩ := hf y (by rw [e]; simp) q (h'.push [q]) (o + 1) i3 (by omega) (by omega) hj (by simp only [push_n]; omega)
        obtain ⟨h2, r2, j2⟩ := ih (pre ++ [y]) h1 (y.fault nf (o + 1)) (.int .i64 pre.length) (.ptr h'.n 0 0) (.bool true) (.bool false) (.bool true) (by simp [e]) ((j.trans p).trans j1) (hk h1 _ j1).2 (hk h1 _ j1).1 ht2
        rw [e3] at r2
        refine ⟨h2, ?_, ?_⟩
        · rw [hop] at hx2
          have hd5 : decide ((pre.length : Int) = 1) = true := by simp [hp1']
          rw [r_lpb rc_jexpr_b1.eq_1]
          simp only [sim, List.length_cons, List.length_nil, Nat.reduceAdd, Nat.reduceSub, List.replicate, List.cons_append, List.nil_append, List.map_cons, List.map_nil, Option.bind_some, Option.map_some, Option.bind_none, Option.map_none, if_true, if_false, decide_true, decide_false, Bool.false_eq_true, Bool.true_eq_false, Bool.not_true, Bool.not_false, reduceCtorEq, Bool.and_true, Bool.true_and, Bool.and_false, Bool.false_and, Bool.or_true, Bool.true_or, Bool.or_false, Bool.false_or, true_and, and_true, false_and, and_false, List.take_zero, List.take_succ_cons, List.drop_zero, List.drop_succ_cons, List.take_nil, List.drop_nil, List.set_cons_zero, List.set_cons_succ, Nat.reduceLeDiff, Nat.reduceLT, Nat.zero_add, Nat.lt_add_one, Nat.le_refl, clearA, Int.toNat_natCast, hlt, i1, i2', o1, o2, hj, hx2, Int.reduceEq, hd5, hwo, r1, hw]
          exact r2
        · rw [faultsX_cons, if_pos ⟨hop, hp1⟩, orF_0]
          rw [e4] at j2
          exact j2
      · obtain ⟨h1, r1, j1⟩ := hf y (by rw [e]; simp) q (h'.push [q]) o i3 (by omega) (by omega) hj (by simp only [push_n]; omega)
        have hd : (decide (x.op = 5) && decide ((pre.length : Int) = 1)) = false := by
          rw [Bool.and_eq_false_iff, decide_eq_false_iff_not, decide_eq_false_iff_not]
          by_cases h5 : x.op = 5
          · exact .inr (fun hp => hin ⟨h5, by omega⟩)
          · exact .inl h5
        obtain ⟨h2, r2, j2⟩ := ih (pre ++ [y]) h1 (y.fault nf o) (.int .i64 pre.length) (.ptr h'.n 0 0) (.bool true) (.bool false) (.bool false) (by simp [e]) ((j.trans p).trans j1) (hk h1 _ j1).2 (hk h1 _ j1).1 ht2
        rw [e3] at r2
        refine ⟨h2, ?_, ?_⟩
        · rw [r_lpb rc_jexpr_b1.eq_1]
          cases h5 : decide (x.op = 5)
          · simp only [sim, List.length_cons, List.length_nil, Nat.reduceAdd, Nat.reduceSub, List.replicate, List.cons_append, List.nil_append, List.map_cons, List.map_nil, Option.bind_some, Option.map_some, Option.bind_none, Option.map_none, if_true, if_false, decide_true, decide_false, Bool.false_eq_true, Bool.true_eq_false, Bool.not_true, Bool.not_false, reduceCtorEq, Bool.and_true, Bool.true_and, Bool.and_false, Bool.false_and, Bool.or_true, Bool.true_or, Bool.or_false, Bool.false_or, true_and, and_true, false_and, and_false, List.take_zero, List.take_succ_cons, List.drop_zero, List.drop_succ_cons, List.take_nil, List.drop_nil, List.set_cons_zero, List.set_cons_succ, Nat.reduceLeDiff, Nat.reduceLT, Nat.zero_add, Nat.lt_add_one, Nat.le_refl, clearA, Int.toNat_natCast, hlt, i1, i2', o1, o2, hj, hx2, Int.reduceEq, h5, r1, hw]
            exact r2
          · rw [h5, Bool.true_and] at hd
            simp only [sim, List.length_cons, List.length_nil, Nat.reduceAdd, Nat.reduceSub, List.replicate, List.cons_append, List.nil_append, List.map_cons, List.map_nil, Option.bind_some, Option.map_some, Option.bind_none, Option.map_none, if_true, if_false, decide_true, decide_false, Bool.false_eq_true, Bool.true_eq_false, Bool.not_true, Bool.not_false, reduceCtorEq, Bool.and_true, Bool.true_and, Bool.and_false, Bool.false_and, Bool.or_true, Bool.true_or, Bool.or_false, Bool.false_or, true_and, and_true, false_and, and_false, List.take_zero, List.take_succ_cons, List.drop_zero, List.drop_succ_cons, List.take_nil, List.drop_nil, List.set_cons_zero, List.set_cons_succ, Nat.reduceLeDiff, Nat.reduceLT, Nat.zero_add, Nat.lt_add_one, Nat.le_refl, clearA, Int.toNat_natCast, hlt, i1, i2', o1, o2, hj, hx2, Int.reduceEq, h5, hd, r1, hw]
            exact r2
        · rw [faultsX_cons, if_neg hin, orF_0]
          rw [e4] at j2
          exact j2
    · refine ⟨h'.push [q], ?_, by rw [orF_ne hc]; exact j.trans p⟩
      rw [r_lpb rc_jexpr_b1.eq_1]
      simp only [sim, List.length_cons, List.length_nil, Nat.reduceAdd, Nat.reduceSub, List.replicate, List.cons_append, List.nil_append, List.map_cons, List.map_nil, Option.bind_some, Option.map_some, Option.bind_none, Option.map_none, if_true, if_false, decide_true, decide_false, Bool.false_eq_true, Bool.true_eq_false, Bool.not_true, Bool.not_false, reduceCtorEq, Bool.and_true, Bool.true_and, Bool.and_false, Bool.false_and, Bool.or_true, Bool.true_or, Bool.or_false, Bool.false_or, true_and, and_true, false_and, and_false, List.take_zero, List.take_succ_cons, List.drop_zero, List.drop_succ_cons, List.take_nil, List.drop_nil, List.set_cons_zero, List.set_cons_succ, Nat.reduceLeDiff, Nat.reduceLT, Nat.zero_add, Nat.lt_add_one, Nat.le_refl, clearA, Int.toNat_natCast, hlt, i1, i2', o1, o2, hj, hc]

theorem jexpr_run (nf : Nat) (hm : lenA mv = some nf) (hft : ∀ s, fitsR s (some tE) mv = true) : ∀ (N : Nat) (x : XD), SizeOf.sizeOf x ≤ N → x.size ≤ 100000 → ∀ (r : List AV) (h : AH) (o : Int), ExA x r → 0 ≤ o → o ≤ 12 → h.cell b = some [[mv, .int .i64 0]] → b < h.n →
    ∃ h', runF Try.prog po 80 [.ptr b 0 0, .agg r, .int .i64 o] h = some (.inl (.tup []), h') ∧ JH b mv (x.fault nf o) h h' := by
  intro N
  induction N with
  | zero => intro x hx; have := x.so_pos; omega
  | succ N ih =>
    intro x hx hsz r h o he ho ho2 hb hlt
    obtain ⟨v, es, e, hv, hl⟩ := he.row
    have m : ∀ h, ModV h v x.l := fun h => ModV.of hv hl
    have o1 := (m h).one
    have l1 := (m h).len
    have f1 := (m h).fits
    have hlen := x.len_size
    subst e
    have p := JH.push hb hlt [[.int .i64 x.op, .int .i64 x.k, .int .i64 x.n, v]]
    have w0 : (h.push [[.int .i64 x.op, .int .i64 x.k, .int .i64 x.n, v]]).cell h.n = some [[.int .i64 x.op, .int .i64 x.k, .int .i64 x.n, v]] := push_same
    have hbn : h.n ≠ b := by omega
    obtain ⟨h1, r1, j1⟩ := jfail_run p.j (decide (partsX x.op < 0)) 2
    have w1 := (j1.old h.n (by simp only [push_n]; omega) hbn).trans w0
    have n1 : h.n < h1.n := Nat.lt_of_lt_of_le (by simp only [push_n]; omega) j1.n
    obtain ⟨h2, r2, j2⟩ := jfail_run j1.j (!decide ((x.l.length : Int) = partsX x.op)) 5
    have w2 := (j2.old h.n n1 hbn).trans w1
    have n2 : h.n < h2.n := Nat.lt_of_lt_of_le n1 j2.n
    obtain ⟨h3, r3, j3⟩ := jnumbers_run j2.j (by omega) hm hft x.op x.k x.n o v o1
    have w3 := (j3.old h.n n2 hbn).trans w2
    have n3 : h.n < h3.n := Nat.lt_of_lt_of_le n2 j3.n
    obtain ⟨h4, r4, j4⟩ := jfail_run j3.j (decide (x.op = 5) && decide (o = 12)) 3
    have w4 := (j4.old h.n n3 hbn).trans w3
    have n4 : h.n < h4.n := Nat.lt_of_lt_of_le n3 j4.n
    rw [orF_0, ← head_eq] at j4
    have jj := (((p.trans j1).trans j2).trans j3).trans j4
    obtain ⟨h5, r5, j5⟩ := jexpr_loop (h := h) hlt nf x v m (by omega) o ho ho2 h (fun y hy q h o hq => ih y (by have := XD.lt_mem hy; omega) (by have := XD.size_mem hy; omega) q h o hq) (.agg [.int .i64 x.op, .int .i64 x.k, .int .i64 x.n, v]) (.int .i64 (partsX x.op)) x.l [] h4 _ .junk .junk .junk .junk .junk rfl jj n4 w4 (fun h5 h12 => by
      rw [h5, h12]
      exact head_ne _ _ _ _)
    simp only [List.length_nil, Int.natCast_zero] at r5
    rw [List.length_nil, ← XD.fault_eq] at j5
    refine ⟨h5, ?_, j5⟩
    have cp := c_Parts (h := h.push [[.int .i64 x.op, .int .i64 x.k, .int .i64 x.n, v]]) x.op
    refine runF_R fn_jexpr rfl ?_; unfold rc_jexpr
    cases e5 : decide (x.op = 5) <;> cases e12 : decide (o = 12) <;> simp only [e5, e12, Bool.and_true, Bool.and_false] at r4 <;>
      (simp only [sim, List.length_cons, List.length_nil, Nat.reduceAdd, Nat.reduceSub, List.replicate, List.cons_append, List.nil_append, List.map_cons, List.map_nil, Option.bind_some, Option.map_some, Option.bind_none, Option.map_none, if_true, if_false, decide_true, decide_false, Bool.false_eq_true, Bool.true_eq_false, Bool.not_true, Bool.not_false, reduceCtorEq, Bool.and_true, Bool.true_and, Bool.and_false, Bool.false_and, Bool.or_true, Bool.true_or, Bool.or_false, Bool.false_or, true_and, and_true, false_and, and_false, List.take_zero, List.take_succ_cons, List.drop_zero, List.drop_succ_cons, List.take_nil, List.drop_nil, List.set_cons_zero, List.set_cons_succ, Nat.reduceLeDiff, Nat.reduceLT, Nat.zero_add, Nat.lt_add_one, Nat.le_refl, clearA, Int.toNat_natCast, o1, cp, r1, w1, l1, f1, r2, w2, r3, w3, e5, e12, r4, w4]; exact r5)
end
end Go.Proofs.Ytacocolcighomaa
