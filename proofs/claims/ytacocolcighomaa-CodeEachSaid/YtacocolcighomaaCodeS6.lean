/- code in the plain model: copies. -/
import Derived.Test.YtacocolcighomaaCodeS5
namespace Go.Proofs.Ytacocolcighomaa
set_option linter.unusedSimpArgs false
set_option linter.unusedVariables false
open Go

section
variable {h : AH}

theorem ownExpr_loop (L : List XD) (v : AV) (m : ∀ h, ModV h v L) (hL : L.length ≤ 100000) (op k n : Int) 
    (hf : ∀ y ∈ L, ∀ q h', ExA y q → ∃ q', runF Try.prog po 81 [.agg q] h' = some (.inl (.agg q'), h') ∧ ExA y q') (v0 : AV) (K : List RK) : ∀ (l pre : List XD) (h' : AH) (acc : AV) (rows : List (List AV)) (v5 : AV), L = pre ++ l →
    GrewA h h' → h.n + 1 + 1 < h'.n → h'.cell h.n = some [[.int .i64 op, .int .i64 k, .int .i64 n, v]] → h'.cell (h.n + 1) = some [[.int .i64 0, .int .i64 0, .int .i64 0, .nils]] → h'.cell (h.n + 1 + 1) = some [[.int .i64 op, .int .i64 k, .int .i64 n, acc]] → Acc h h' tE acc rows → ExL pre rows →
    ∃ h'' acc' rows' w4 w5, runR (runF Try.prog po) 6 (.lp rc_ownExpr_b1 :: .ss [] :: .blk 0 :: K) [v0, .ptr h.n 0 0, .ptr (h.n + 1) 0 0, .ptr (h.n + 1 + 1) 0 0, .int .i64 pre.length, v5] [] h' = runR (runF Try.prog po) 6 K [v0, .ptr h.n 0 0, .ptr (h.n + 1) 0 0, .ptr (h.n + 1 + 1) 0 0, w4, w5] [] h'' ∧
      GrewA h h'' ∧ h''.cell (h.n + 1) = some [[.int .i64 0, .int .i64 0, .int .i64 0, .nils]] ∧ h''.cell (h.n + 1 + 1) = some [[.int .i64 op, .int .i64 k, .int .i64 n, acc']] ∧ Acc h h'' tE acc' rows' ∧ ExL L rows' := by
  intro l
  induction l with
  | nil =>
    intro pre h' acc rows v5 e g hn c1 c2 c3 ha hr
    have e' : L = pre := by simpa using e
    have hlt : ¬ ((pre.length : Int) < (L.length : Int)) := by rw [e']; omega
    refine ⟨h', acc, rows, .int .i64 pre.length, .bool false, ?_, g, c2, c3, ha, by rw [e']; exact hr⟩
    rw [r_lpb rc_ownExpr_b1.eq_1]
    simp only [sim, List.length_cons, List.length_nil, Nat.reduceAdd, Nat.reduceSub, List.replicate, List.cons_append, List.nil_append, List.map_cons, List.map_nil, Option.bind_some, Option.map_some, Option.bind_none, Option.map_none, if_true, if_false, decide_true, decide_false, Bool.false_eq_true, Bool.true_eq_false, Bool.not_true, Bool.not_false, reduceCtorEq, Bool.and_true, Bool.true_and, Bool.and_false, Bool.false_and, Bool.or_true, Bool.true_or, Bool.or_false, Bool.false_or, true_and, and_true, false_and, and_false, List.take_zero, List.take_succ_cons, List.drop_zero, List.drop_succ_cons, List.take_nil, List.drop_nil, List.set_cons_zero, List.set_cons_succ, Nat.reduceLeDiff, Nat.reduceLT, Nat.zero_add, Nat.lt_add_one, Nat.le_refl, clearA, Int.toNat_natCast, c1, (m h).len, (m h).fits, hlt]
  | cons y l ih =>
    intro pre h' acc rows v5 e g hn c1 c2 c3 ha hr
    have hlt : (pre.length : Int) < (L.length : Int) := by rw [e]; simp; omega
    have hpl : pre.length ≤ 100000 := by rw [e] at hL; simp at hL; omega
    obtain ⟨a, q, i1, i2, i3⟩ := (m h').ix pre.length y (by rw [e]; simp)
    have i2' := i2 _ (GrewA.refl h')
    obtain ⟨q', cy, hq'⟩ := hf y (by rw [e]; simp) q h' i3
    obtain ⟨o1, o2⟩ := hq'.one
    have hw := w64 (n := (pre.length : Int) + 1) (by omega) (by omega)
    have hrl : rows.length ≤ 1000000 := by rw [hr.len]; omega
    obtain ⟨acc2, h2, e1, a1, a2, a3, a4⟩ := acc_app ha g (row := q') o1 hrl
    have b1 : (h2.set (h.n + 1 + 1) (some [[.int .i64 op, .int .i64 k, .int .i64 n, acc2]])).cell h.n = some [[.int .i64 op, .int .i64 k, .int .i64 n, v]] := by rw [set_ne (by omega), a3]; exact c1
    have b2 : (h2.set (h.n + 1 + 1) (some [[.int .i64 op, .int .i64 k, .int .i64 n, acc2]])).cell (h.n + 1) = some [[.int .i64 0, .int .i64 0, .int .i64 0, .nils]] := by rw [set_ne (by omega), a3]; exact c2
    obtain ⟨h'', acc', rows', w4, w5, r1, r2⟩ := ih (pre ++ [y]) (h2.set (h.n + 1 + 1) (some [[.int .i64 op, .int .i64 k, .int .i64 n, acc2]])) acc2 (rows ++ [q']) (.bool true) (by simp [e]) (a2.set (by omega)) (by show _ < h2.n; rw [a4]; exact hn) b1 b2 set_same a1 (hr.append hq')
    have e3 : ((pre ++ [y]).length : Int) = (pre.length : Int) + 1 := by simp
    rw [e3] at r1
    refine ⟨h'', acc', rows', w4, w5, ?_, r2⟩
    have oA : acc2.one = true := by
      rcases a1 with ⟨_, rfl⟩ | ⟨id, _, _, _, _, rfl⟩ <;> rfl
    have cA : acc2.cells = [acc2] := by
      rcases a1 with ⟨_, rfl⟩ | ⟨id, _, _, _, _, rfl⟩ <;> rfl
    rw [r_lpb rc_ownExpr_b1.eq_1]
    simp only [sim, List.length_cons, List.length_nil, Nat.reduceAdd, Nat.reduceSub, List.replicate, List.cons_append, List.nil_append, List.map_cons, List.map_nil, Option.bind_some, Option.map_some, Option.bind_none, Option.map_none, if_true, if_false, decide_true, decide_false, Bool.false_eq_true, Bool.true_eq_false, Bool.not_true, Bool.not_false, reduceCtorEq, Bool.and_true, Bool.true_and, Bool.and_false, Bool.false_and, Bool.or_true, Bool.true_or, Bool.or_false, Bool.false_or, true_and, and_true, false_and, and_false, List.take_zero, List.take_succ_cons, List.drop_zero, List.drop_succ_cons, List.take_nil, List.drop_nil, List.set_cons_zero, List.set_cons_succ, Nat.reduceLeDiff, Nat.reduceLT, Nat.zero_add, Nat.lt_add_one, Nat.le_refl, clearA, Int.toNat_natCast, c1, c2, c3, (m h).len, (m h).fits, hlt, i1, i2', cy, o1, o2, e1, a3, oA, cA, hw]
    exact r1

theorem ownExpr_run : ∀ (N : Nat) (x : XD), SizeOf.sizeOf x ≤ N → x.size ≤ 100000 → ∀ (r : List AV) (h : AH), ExA x r →
    ∃ r', runF Try.prog po 81 [.agg r] h = some (.inl (.agg r'), h) ∧ ExA x r' := by
  intro N
  induction N with
  | zero => intro x hx; have := x.so_pos; omega
  | succ N ih =>
    intro x hx hsz r h he
    obtain ⟨v, es, e, hv, hl⟩ := he.row
    have m : ∀ h, ModV h v x.l := fun h => ModV.of hv hl
    have o1 := (m h).one
    have l1 := (m h).len
    have f1 := (m h).fits
    have hlen := x.len_size
    subst e
    obtain ⟨h'', acc', rows', w4, w5, r1, g, c2, c3, ha, hr⟩ := ownExpr_loop (h := h) x.l v m (by omega) x.op x.k x.n (fun y hy q h' hq => ih y (by have := XD.lt_mem hy; omega) (by have := XD.size_mem hy; omega) q h' hq) (.agg [.int .i64 x.op, .int .i64 x.k, .int .i64 x.n, v]) [.ss [.ops [(.i .l (.load true 4 (.v 3))), (.i .n (.store 4 (.v 2) (.l 0)))], .ret]] x.l []
      (((h.push [[.int .i64 x.op, .int .i64 x.k, .int .i64 x.n, v]]).push [[.int .i64 0, .int .i64 0, .int .i64 0, .nils]]).push [[.int .i64 x.op, .int .i64 x.k, .int .i64 x.n, .nils]]) .nils [] .junk rfl
      (((GrewA.push h _).trans (GrewA.push _ _)).trans (GrewA.push _ _)) (by simp only [push_n]; omega) push3_0 push3_1 push3_same (acc_nil _ _ _) rfl
    simp only [List.length_nil, Int.natCast_zero] at r1
    have hx' : ExA x [.int .i64 x.op, .int .i64 x.k, .int .i64 x.n, acc'] := by
      rw [x.eta]
      simp only [ExA]
      refine ⟨acc', rows', rfl, ?_, hr⟩
      rcases ha with ⟨q1, q2⟩ | ⟨id, _, _, _, _, q2⟩
      · exact .inl ⟨q1, q2⟩
      · exact .inr ⟨_, q2⟩
    obtain ⟨r', hw, hr'⟩ := ex_wk hx'
    have oA := hx'.one.1
    simp only [List.all_cons, List.all_nil, Bool.and_true] at oA
    have oA' : acc'.one = true := oA
    have hwA : wkA (.agg [.int .i64 x.op, .int .i64 x.k, .int .i64 x.n, acc']) = some (.agg r') := by simp only [wkA, hw, Option.map_some]
    refine ⟨r', ?_, hr'⟩
    refine runF_R fn_ownExpr rfl ?_; unfold rc_ownExpr
    simp only [sim, List.length_cons, List.length_nil, Nat.reduceAdd, Nat.reduceSub, List.replicate, List.cons_append, List.nil_append, List.map_cons, List.map_nil, Option.bind_some, Option.map_some, Option.bind_none, Option.map_none, if_true, if_false, decide_true, decide_false, Bool.false_eq_true, Bool.true_eq_false, Bool.not_true, Bool.not_false, reduceCtorEq, Bool.and_true, Bool.true_and, Bool.and_false, Bool.false_and, Bool.or_true, Bool.true_or, Bool.or_false, Bool.false_or, true_and, and_true, false_and, and_false, List.take_zero, List.take_succ_cons, List.drop_zero, List.drop_succ_cons, List.take_nil, List.drop_nil, List.set_cons_zero, List.set_cons_succ, Nat.reduceLeDiff, Nat.reduceLT, Nat.zero_add, Nat.lt_add_one, Nat.le_refl, clearA, Int.toNat_natCast, o1, l1, f1, r1, c2, c3, oA', fg_yes (g.set (show h.n ≤ h.n + 1 by omega)) hwA]

theorem OwnModule_loop (L : List XD) (v : AV) (m : ∀ h, ModV h v L) (hL : L.length ≤ 100000) 
    (hf : ∀ y ∈ L, ∀ q h', ExA y q → ∃ q', runF Try.prog po 81 [.agg q] h' = some (.inl (.agg q'), h') ∧ ExA y q') (v0 : AV) (K : List RK) : ∀ (l pre : List XD) (h' : AH) (acc : AV) (rows : List (List AV)) (v5 : AV), L = pre ++ l →
    GrewA h h' → h.n + 1 + 1 < h'.n → h'.cell h.n = some [[v]] → h'.cell (h.n + 1) = some [[.nils]] → h'.cell (h.n + 1 + 1) = some [[acc]] → Acc h h' tE acc rows → ExL pre rows →
    ∃ h'' acc' rows' w4 w5, runR (runF Try.prog po) 6 (.lp rc_OwnModule_b1 :: .ss [] :: .blk 0 :: K) [v0, .ptr h.n 0 0, .ptr (h.n + 1) 0 0, .ptr (h.n + 1 + 1) 0 0, .int .i64 pre.length, v5] [] h' = runR (runF Try.prog po) 6 K [v0, .ptr h.n 0 0, .ptr (h.n + 1) 0 0, .ptr (h.n + 1 + 1) 0 0, w4, w5] [] h'' ∧
      GrewA h h'' ∧ h''.cell (h.n + 1) = some [[.nils]] ∧ h''.cell (h.n + 1 + 1) = some [[acc']] ∧ Acc h h'' tE acc' rows' ∧ ExL L rows' := by
  intro l
  induction l with
  | nil =>
    intro pre h' acc rows v5 e g hn c1 c2 c3 ha hr
    have e' : L = pre := by simpa using e
    have hlt : ¬ ((pre.length : Int) < (L.length : Int)) := by rw [e']; omega
    refine ⟨h', acc, rows, .int .i64 pre.length, .bool false, ?_, g, c2, c3, ha, by rw [e']; exact hr⟩
    rw [r_lpb rc_OwnModule_b1.eq_1]
    simp only [sim, List.length_cons, List.length_nil, Nat.reduceAdd, Nat.reduceSub, List.replicate, List.cons_append, List.nil_append, List.map_cons, List.map_nil, Option.bind_some, Option.map_some, Option.bind_none, Option.map_none, if_true, if_false, decide_true, decide_false, Bool.false_eq_true, Bool.true_eq_false, Bool.not_true, Bool.not_false, reduceCtorEq, Bool.and_true, Bool.true_and, Bool.and_false, Bool.false_and, Bool.or_true, Bool.true_or, Bool.or_false, Bool.false_or, true_and, and_true, false_and, and_false, List.take_zero, List.take_succ_cons, List.drop_zero, List.drop_succ_cons, List.take_nil, List.drop_nil, List.set_cons_zero, List.set_cons_succ, Nat.reduceLeDiff, Nat.reduceLT, Nat.zero_add, Nat.lt_add_one, Nat.le_refl, clearA, Int.toNat_natCast, c1, (m h).len, (m h).fits, hlt]
  | cons y l ih =>
    intro pre h' acc rows v5 e g hn c1 c2 c3 ha hr
    have hlt : (pre.length : Int) < (L.length : Int) := by rw [e]; simp; omega
    have hpl : pre.length ≤ 100000 := by rw [e] at hL; simp at hL; omega
    obtain ⟨a, q, i1, i2, i3⟩ := (m h').ix pre.length y (by rw [e]; simp)
    have i2' := i2 _ (GrewA.refl h')
    obtain ⟨q', cy, hq'⟩ := hf y (by rw [e]; simp) q h' i3
    obtain ⟨o1, o2⟩ := hq'.one
    have hw := w64 (n := (pre.length : Int) + 1) (by omega) (by omega)
    have hrl : rows.length ≤ 1000000 := by rw [hr.len]; omega
    obtain ⟨acc2, h2, e1, a1, a2, a3, a4⟩ := acc_app ha g (row := q') o1 hrl
    have b1 : (h2.set (h.n + 1 + 1) (some [[acc2]])).cell h.n = some [[v]] := by rw [set_ne (by omega), a3]; exact c1
    have b2 : (h2.set (h.n + 1 + 1) (some [[acc2]])).cell (h.n + 1) = some [[.nils]] := by rw [set_ne (by omega), a3]; exact c2
    obtain ⟨h'', acc', rows', w4, w5, r1, r2⟩ := ih (pre ++ [y]) (h2.set (h.n + 1 + 1) (some [[acc2]])) acc2 (rows ++ [q']) (.bool true) (by simp [e]) (a2.set (by omega)) (by show _ < h2.n; rw [a4]; exact hn) b1 b2 set_same a1 (hr.append hq')
    have e3 : ((pre ++ [y]).length : Int) = (pre.length : Int) + 1 := by simp
    rw [e3] at r1
    refine ⟨h'', acc', rows', w4, w5, ?_, r2⟩
    have oA : acc2.one = true := by
      rcases a1 with ⟨_, rfl⟩ | ⟨id, _, _, _, _, rfl⟩ <;> rfl
    have cA : acc2.cells = [acc2] := by
      rcases a1 with ⟨_, rfl⟩ | ⟨id, _, _, _, _, rfl⟩ <;> rfl
    rw [r_lpb rc_OwnModule_b1.eq_1]
    simp only [sim, List.length_cons, List.length_nil, Nat.reduceAdd, Nat.reduceSub, List.replicate, List.cons_append, List.nil_append, List.map_cons, List.map_nil, Option.bind_some, Option.map_some, Option.bind_none, Option.map_none, if_true, if_false, decide_true, decide_false, Bool.false_eq_true, Bool.true_eq_false, Bool.not_true, Bool.not_false, reduceCtorEq, Bool.and_true, Bool.true_and, Bool.and_false, Bool.false_and, Bool.or_true, Bool.true_or, Bool.or_false, Bool.false_or, true_and, and_true, false_and, and_false, List.take_zero, List.take_succ_cons, List.drop_zero, List.drop_succ_cons, List.take_nil, List.drop_nil, List.set_cons_zero, List.set_cons_succ, Nat.reduceLeDiff, Nat.reduceLT, Nat.zero_add, Nat.lt_add_one, Nat.le_refl, clearA, Int.toNat_natCast, c1, c2, c3, (m h).len, (m h).fits, hlt, i1, i2', cy, o1, o2, e1, a3, oA, cA, hw]
    exact r1

theorem OwnModule_run (v : AV) (L : List XD) (m : ∀ h, ModV h v L) (hL : L.length ≤ 100000) (hs : ∀ x ∈ L, x.size ≤ 100000) :
    ∃ r', runF Try.prog po 54 [.agg [v]] h = some (.inl (.agg r'), h) ∧ ModA L r' := by
  have o1 := (m h).one
  have l1 := (m h).len
  have f1 := (m h).fits
  obtain ⟨h'', acc', rows', w4, w5, r1, g, c2, c3, ha, hr⟩ := OwnModule_loop (h := h) L v m hL (fun y hy q h' hq => ownExpr_run _ y (Nat.le_refl _) (hs y hy) q h' hq) (.agg [v]) [.ss [.ops [(.i .l (.load true 1 (.v 3))), (.i .n (.store 1 (.v 2) (.l 0)))], .ret]] L []
    (((h.push [[v]]).push [[.nils]]).push [[.nils]]) .nils [] .junk rfl
    (((GrewA.push h _).trans (GrewA.push _ _)).trans (GrewA.push _ _)) (by simp only [push_n]; omega) push3_0 push3_1 push3_same (acc_nil _ _ _) rfl
  simp only [List.length_nil, Int.natCast_zero] at r1
  have hsl : SlA tE acc' rows' := by
    rcases ha with ⟨q1, q2⟩ | ⟨id, _, _, _, _, q2⟩
    · exact .inl ⟨q1, q2⟩
    · exact .inr ⟨_, q2⟩
  obtain ⟨rows2, hw, hr'⟩ := exs_wk hr
  have oA' : acc'.one = true := (ModV.of (h := h) hsl hr).one
  have hwA : ∃ a2, wkA (.agg [acc']) = some (.agg [a2]) ∧ SlA tE a2 rows2 := by
    rcases hsl with ⟨q1, rfl⟩ | ⟨id, rfl⟩
    · subst q1
      cases hw
      exact ⟨.nils, rfl, .inl ⟨rfl, rfl⟩⟩
    · exact ⟨.isl none tE rows2, by simp only [wkA, wkL, hw, Option.map_some], .inr ⟨_, rfl⟩⟩
  obtain ⟨a2, hwA, hs2⟩ := hwA
  refine ⟨[a2], ?_, a2, rows2, rfl, hs2, hr'⟩
  refine runF_R fn_OwnModule rfl ?_; unfold rc_OwnModule
  simp only [sim, List.length_cons, List.length_nil, Nat.reduceAdd, Nat.reduceSub, List.replicate, List.cons_append, List.nil_append, List.map_cons, List.map_nil, Option.bind_some, Option.map_some, Option.bind_none, Option.map_none, if_true, if_false, decide_true, decide_false, Bool.false_eq_true, Bool.true_eq_false, Bool.not_true, Bool.not_false, reduceCtorEq, Bool.and_true, Bool.true_and, Bool.and_false, Bool.false_and, Bool.or_true, Bool.true_or, Bool.or_false, Bool.false_or, true_and, and_true, false_and, and_false, List.take_zero, List.take_succ_cons, List.drop_zero, List.drop_succ_cons, List.take_nil, List.drop_nil, List.set_cons_zero, List.set_cons_succ, Nat.reduceLeDiff, Nat.reduceLT, Nat.zero_add, Nat.lt_add_one, Nat.le_refl, clearA, Int.toNat_natCast, o1, l1, f1, r1, c2, c3, oA', fg_yes (g.set (show h.n ≤ h.n + 1 by omega)) hwA]

theorem cown_loop (L : List XD) (v : AV) (m : ∀ h, ModV h v L) (hL : L.length ≤ 100000) (op k n : Int) 
    (hf : ∀ y ∈ L, ∀ q h', ExA y q → ∃ q', runF Try.prog po 86 [.agg q] h' = some (.inl (.agg q'), h') ∧ ExA y q') (v0 : AV) (K : List RK) : ∀ (l pre : List XD) (h' : AH) (acc : AV) (rows : List (List AV)) (v4 v8 : AV), L = pre ++ l →
    GrewA h h' → h.n + 1 + 1 < h'.n → h'.cell h.n = some [[.int .i64 op, .int .i64 k, .int .i64 n, v]] → h'.cell (h.n + 1) = some [[.int .i64 0, .int .i64 0, .int .i64 0, .nils]] → h'.cell (h.n + 1 + 1) = some [[.int .i64 op, .int .i64 k, .int .i64 n, acc]] → Acc h h' tE acc rows → ExL pre rows →
    ∃ h'' acc' rows' w4 w7 w8, runR (runF Try.prog po) 9 (.lp rc_cown_b1 :: .ss [] :: .blk 0 :: K) [v0, .ptr h.n 0 0, .ptr (h.n + 1) 0 0, .ptr (h.n + 1 + 1) 0 0, v4, v, .int .i64 L.length, .int .i64 pre.length, v8] [] h' = runR (runF Try.prog po) 9 K [v0, .ptr h.n 0 0, .ptr (h.n + 1) 0 0, .ptr (h.n + 1 + 1) 0 0, w4, v, .int .i64 L.length, w7, w8] [] h'' ∧
      GrewA h h'' ∧ h''.cell (h.n + 1) = some [[.int .i64 0, .int .i64 0, .int .i64 0, .nils]] ∧ h''.cell (h.n + 1 + 1) = some [[.int .i64 op, .int .i64 k, .int .i64 n, acc']] ∧ Acc h h'' tE acc' rows' ∧ ExL L rows' := by
  intro l
  induction l with
  | nil =>
    intro pre h' acc rows v4 v8 e g hn c1 c2 c3 ha hr
    have e' : L = pre := by simpa using e
    have hlt : ¬ ((pre.length : Int) < (L.length : Int)) := by rw [e']; omega
    refine ⟨h', acc, rows, v4, .int .i64 pre.length, .bool false, ?_, g, c2, c3, ha, by rw [e']; exact hr⟩
    rw [r_lpb rc_cown_b1.eq_1]
    simp only [sim, List.length_cons, List.length_nil, Nat.reduceAdd, Nat.reduceSub, List.replicate, List.cons_append, List.nil_append, List.map_cons, List.map_nil, Option.bind_some, Option.map_some, Option.bind_none, Option.map_none, if_true, if_false, decide_true, decide_false, Bool.false_eq_true, Bool.true_eq_false, Bool.not_true, Bool.not_false, reduceCtorEq, Bool.and_true, Bool.true_and, Bool.and_false, Bool.false_and, Bool.or_true, Bool.true_or, Bool.or_false, Bool.false_or, true_and, and_true, false_and, and_false, List.take_zero, List.take_succ_cons, List.drop_zero, List.drop_succ_cons, List.take_nil, List.drop_nil, List.set_cons_zero, List.set_cons_succ, Nat.reduceLeDiff, Nat.reduceLT, Nat.zero_add, Nat.lt_add_one, Nat.le_refl, clearA, Int.toNat_natCast, c1, (m h).len, (m h).fits, hlt]
  | cons y l ih =>
    intro pre h' acc rows v4 v8 e g hn c1 c2 c3 ha hr
    have hlt : (pre.length : Int) < (L.length : Int) := by rw [e]; simp; omega
    have hpl : pre.length ≤ 100000 := by rw [e] at hL; simp at hL; omega
    obtain ⟨a, q, i1, i2, i3⟩ := (m h').ix pre.length y (by rw [e]; simp)
    have i2' := i2 _ (GrewA.refl h')
    obtain ⟨q', cy, hq'⟩ := hf y (by rw [e]; simp) q (h'.push [q]) i3
    obtain ⟨o1, o2⟩ := hq'.one
    have hw := w64 (n := (pre.length : Int) + 1) (by omega) (by omega)
    have hrl : rows.length ≤ 1000000 := by rw [hr.len]; omega
    obtain ⟨p1, p2⟩ := i3.one
    have c1 : (h'.push [q]).cell h.n = some [[.int .i64 op, .int .i64 k, .int .i64 n, v]] := (push_lt (by omega)).trans c1
    have c2 : (h'.push [q]).cell (h.n + 1) = some [[.int .i64 0, .int .i64 0, .int .i64 0, .nils]] := (push_lt (by omega)).trans c2
    have c3 : (h'.push [q]).cell (h.n + 1 + 1) = some [[.int .i64 op, .int .i64 k, .int .i64 n, acc]] := (push_lt (by omega)).trans c3
    have g := g.trans (GrewA.push h' [q])
    have ha : Acc h (h'.push [q]) tE acc rows := ha
    obtain ⟨acc2, h2, e1, a1, a2, a3, a4⟩ := acc_app ha g (row := q') o1 hrl
    simp only [push_ids] at e1
    have b1 : (h2.set (h.n + 1 + 1) (some [[.int .i64 op, .int .i64 k, .int .i64 n, acc2]])).cell h.n = some [[.int .i64 op, .int .i64 k, .int .i64 n, v]] := by rw [set_ne (by omega), a3]; exact c1
    have b2 : (h2.set (h.n + 1 + 1) (some [[.int .i64 op, .int .i64 k, .int .i64 n, acc2]])).cell (h.n + 1) = some [[.int .i64 0, .int .i64 0, .int .i64 0, .nils]] := by rw [set_ne (by omega), a3]; exact c2
    obtain ⟨h'', acc', rows', w4, w7, w8, r1, r2⟩ := ih (pre ++ [y]) (h2.set (h.n + 1 + 1) (some [[.int .i64 op, .int .i64 k, .int .i64 n, acc2]])) acc2 (rows ++ [q']) (.ptr h'.n 0 0) (.bool true) (by simp [e]) (a2.set (by omega)) (by show _ < h2.n; rw [a4]; show _ < h'.n + 1; omega) b1 b2 set_same a1 (hr.append hq')
    have e3 : ((pre ++ [y]).length : Int) = (pre.length : Int) + 1 := by simp
    rw [e3] at r1
    refine ⟨h'', acc', rows', w4, w7, w8, ?_, r2⟩
    have oA : acc2.one = true := by
      rcases a1 with ⟨_, rfl⟩ | ⟨id, _, _, _, _, rfl⟩ <;> rfl
    have cA : acc2.cells = [acc2] := by
      rcases a1 with ⟨_, rfl⟩ | ⟨id, _, _, _, _, rfl⟩ <;> rfl
    rw [r_lpb rc_cown_b1.eq_1]
    simp only [sim, List.length_cons, List.length_nil, Nat.reduceAdd, Nat.reduceSub, List.replicate, List.cons_append, List.nil_append, List.map_cons, List.map_nil, Option.bind_some, Option.map_some, Option.bind_none, Option.map_none, if_true, if_false, decide_true, decide_false, Bool.false_eq_true, Bool.true_eq_false, Bool.not_true, Bool.not_false, reduceCtorEq, Bool.and_true, Bool.true_and, Bool.and_false, Bool.false_and, Bool.or_true, Bool.true_or, Bool.or_false, Bool.false_or, true_and, and_true, false_and, and_false, List.take_zero, List.take_succ_cons, List.drop_zero, List.drop_succ_cons, List.take_nil, List.drop_nil, List.set_cons_zero, List.set_cons_succ, Nat.reduceLeDiff, Nat.reduceLT, Nat.zero_add, Nat.lt_add_one, Nat.le_refl, clearA, Int.toNat_natCast, c1, c2, c3, (m h).len, (m h).fits, hlt, i1, i2', cy, o1, o2, e1, a3, oA, cA, hw, p1, p2]
    exact r1

theorem cown_run : ∀ (N : Nat) (x : XD), SizeOf.sizeOf x ≤ N → x.size ≤ 100000 → ∀ (r : List AV) (h : AH), ExA x r →
    ∃ r', runF Try.prog po 86 [.agg r] h = some (.inl (.agg r'), h) ∧ ExA x r' := by
  intro N
  induction N with
  | zero => intro x hx; have := x.so_pos; omega
  | succ N ih =>
    intro x hx hsz r h he
    obtain ⟨v, es, e, hv, hl⟩ := he.row
    have m : ∀ h, ModV h v x.l := fun h => ModV.of hv hl
    have o1 := (m h).one
    have l1 := (m h).len
    have f1 := (m h).fits
    have hlen := x.len_size
    subst e
    obtain ⟨h'', acc', rows', w4, w7, w8, r1, g, c2, c3, ha, hr⟩ := cown_loop (h := h) x.l v m (by omega) x.op x.k x.n (fun y hy q h' hq => ih y (by have := XD.lt_mem hy; omega) (by have := XD.size_mem hy; omega) q h' hq) (.agg [.int .i64 x.op, .int .i64 x.k, .int .i64 x.n, v]) [.ss [.ops [(.i .l (.load true 4 (.v 3))), (.i .n (.store 4 (.v 2) (.l 0)))], .ret]] x.l []
      (((h.push [[.int .i64 x.op, .int .i64 x.k, .int .i64 x.n, v]]).push [[.int .i64 0, .int .i64 0, .int .i64 0, .nils]]).push [[.int .i64 x.op, .int .i64 x.k, .int .i64 x.n, .nils]]) .nils [] .junk .junk rfl
      (((GrewA.push h _).trans (GrewA.push _ _)).trans (GrewA.push _ _)) (by simp only [push_n]; omega) push3_0 push3_1 push3_same (acc_nil _ _ _) rfl
    simp only [List.length_nil, Int.natCast_zero] at r1
    have hx' : ExA x [.int .i64 x.op, .int .i64 x.k, .int .i64 x.n, acc'] := by
      rw [x.eta]
      simp only [ExA]
      refine ⟨acc', rows', rfl, ?_, hr⟩
      rcases ha with ⟨q1, q2⟩ | ⟨id, _, _, _, _, q2⟩
      · exact .inl ⟨q1, q2⟩
      · exact .inr ⟨_, q2⟩
    obtain ⟨r', hw, hr'⟩ := ex_wk hx'
    have oA := hx'.one.1
    simp only [List.all_cons, List.all_nil, Bool.and_true] at oA
    have oA' : acc'.one = true := oA
    have hwA : wkA (.agg [.int .i64 x.op, .int .i64 x.k, .int .i64 x.n, acc']) = some (.agg r') := by simp only [wkA, hw, Option.map_some]
    refine ⟨r', ?_, hr'⟩
    refine runF_R fn_cown rfl ?_; unfold rc_cown
    simp only [sim, List.length_cons, List.length_nil, Nat.reduceAdd, Nat.reduceSub, List.replicate, List.cons_append, List.nil_append, List.map_cons, List.map_nil, Option.bind_some, Option.map_some, Option.bind_none, Option.map_none, if_true, if_false, decide_true, decide_false, Bool.false_eq_true, Bool.true_eq_false, Bool.not_true, Bool.not_false, reduceCtorEq, Bool.and_true, Bool.true_and, Bool.and_false, Bool.false_and, Bool.or_true, Bool.true_or, Bool.or_false, Bool.false_or, true_and, and_true, false_and, and_false, List.take_zero, List.take_succ_cons, List.drop_zero, List.drop_succ_cons, List.take_nil, List.drop_nil, List.set_cons_zero, List.set_cons_succ, Nat.reduceLeDiff, Nat.reduceLT, Nat.zero_add, Nat.lt_add_one, Nat.le_refl, clearA, Int.toNat_natCast, o1, l1, f1, r1, c2, c3, oA', fg_yes (g.set (show h.n ≤ h.n + 1 by omega)) hwA]

theorem cOwn_loop (L : List XD) (v : AV) (m : ∀ h, ModV h v L) (hL : L.length ≤ 100000) 
    (hf : ∀ y ∈ L, ∀ q h', ExA y q → ∃ q', runF Try.prog po 86 [.agg q] h' = some (.inl (.agg q'), h') ∧ ExA y q') (v0 : AV) (K : List RK) : ∀ (l pre : List XD) (h' : AH) (acc : AV) (rows : List (List AV)) (v4 v8 : AV), L = pre ++ l →
    GrewA h h' → h.n + 1 + 1 < h'.n → h'.cell h.n = some [[v]] → h'.cell (h.n + 1) = some [[.nils]] → h'.cell (h.n + 1 + 1) = some [[acc]] → Acc h h' tE acc rows → ExL pre rows →
    ∃ h'' acc' rows' w4 w7 w8, runR (runF Try.prog po) 9 (.lp rc_cOwn_b1 :: .ss [] :: .blk 0 :: K) [v0, .ptr h.n 0 0, .ptr (h.n + 1) 0 0, .ptr (h.n + 1 + 1) 0 0, v4, v, .int .i64 L.length, .int .i64 pre.length, v8] [] h' = runR (runF Try.prog po) 9 K [v0, .ptr h.n 0 0, .ptr (h.n + 1) 0 0, .ptr (h.n + 1 + 1) 0 0, w4, v, .int .i64 L.length, w7, w8] [] h'' ∧
      GrewA h h'' ∧ h''.cell (h.n + 1) = some [[.nils]] ∧ h''.cell (h.n + 1 + 1) = some [[acc']] ∧ Acc h h'' tE acc' rows' ∧ ExL L rows' := by
  intro l
  induction l with
  | nil =>
    intro pre h' acc rows v4 v8 e g hn c1 c2 c3 ha hr
    have e' : L = pre := by simpa using e
    have hlt : ¬ ((pre.length : Int) < (L.length : Int)) := by rw [e']; omega
    refine ⟨h', acc, rows, v4, .int .i64 pre.length, .bool false, ?_, g, c2, c3, ha, by rw [e']; exact hr⟩
    rw [r_lpb rc_cOwn_b1.eq_1]
    simp only [sim, List.length_cons, List.length_nil, Nat.reduceAdd, Nat.reduceSub, List.replicate, List.cons_append, List.nil_append, List.map_cons, List.map_nil, Option.bind_some, Option.map_some, Option.bind_none, Option.map_none, if_true, if_false, decide_true, decide_false, Bool.false_eq_true, Bool.true_eq_false, Bool.not_true, Bool.not_false, reduceCtorEq, Bool.and_true, Bool.true_and, Bool.and_false, Bool.false_and, Bool.or_true, Bool.true_or, Bool.or_false, Bool.false_or, true_and, and_true, false_and, and_false, List.take_zero, List.take_succ_cons, List.drop_zero, List.drop_succ_cons, List.take_nil, List.drop_nil, List.set_cons_zero, List.set_cons_succ, Nat.reduceLeDiff, Nat.reduceLT, Nat.zero_add, Nat.lt_add_one, Nat.le_refl, clearA, Int.toNat_natCast, c1, (m h).len, (m h).fits, hlt]
  | cons y l ih =>
    intro pre h' acc rows v4 v8 e g hn c1 c2 c3 ha hr
    have hlt : (pre.length : Int) < (L.length : Int) := by rw [e]; simp; omega
    have hpl : pre.length ≤ 100000 := by rw [e] at hL; simp at hL; omega
    obtain ⟨a, q, i1, i2, i3⟩ := (m h').ix pre.length y (by rw [e]; simp)
    have i2' := i2 _ (GrewA.refl h')
    obtain ⟨q', cy, hq'⟩ := hf y (by rw [e]; simp) q (h'.push [q]) i3
    obtain ⟨o1, o2⟩ := hq'.one
    have hw := w64 (n := (pre.length : Int) + 1) (by omega) (by omega)
    have hrl : rows.length ≤ 1000000 := by rw [hr.len]; omega
    obtain ⟨p1, p2⟩ := i3.one
    have c1 : (h'.push [q]).cell h.n = some [[v]] := (push_lt (by omega)).trans c1
    have c2 : (h'.push [q]).cell (h.n + 1) = some [[.nils]] := (push_lt (by omega)).trans c2
    have c3 : (h'.push [q]).cell (h.n + 1 + 1) = some [[acc]] := (push_lt (by omega)).trans c3
    have g := g.trans (GrewA.push h' [q])
    have ha : Acc h (h'.push [q]) tE acc rows := ha
    obtain ⟨acc2, h2, e1, a1, a2, a3, a4⟩ := acc_app ha g (row := q') o1 hrl
    simp only [push_ids] at e1
    have b1 : (h2.set (h.n + 1 + 1) (some [[acc2]])).cell h.n = some [[v]] := by rw [set_ne (by omega), a3]; exact c1
    have b2 : (h2.set (h.n + 1 + 1) (some [[acc2]])).cell (h.n + 1) = some [[.nils]] := by rw [set_ne (by omega), a3]; exact c2
    obtain ⟨h'', acc', rows', w4, w7, w8, r1, r2⟩ := ih (pre ++ [y]) (h2.set (h.n + 1 + 1) (some [[acc2]])) acc2 (rows ++ [q']) (.ptr h'.n 0 0) (.bool true) (by simp [e]) (a2.set (by omega)) (by show _ < h2.n; rw [a4]; show _ < h'.n + 1; omega) b1 b2 set_same a1 (hr.append hq')
    have e3 : ((pre ++ [y]).length : Int) = (pre.length : Int) + 1 := by simp
    rw [e3] at r1
    refine ⟨h'', acc', rows', w4, w7, w8, ?_, r2⟩
    have oA : acc2.one = true := by
      rcases a1 with ⟨_, rfl⟩ | ⟨id, _, _, _, _, rfl⟩ <;> rfl
    have cA : acc2.cells = [acc2] := by
      rcases a1 with ⟨_, rfl⟩ | ⟨id, _, _, _, _, rfl⟩ <;> rfl
    rw [r_lpb rc_cOwn_b1.eq_1]
    simp only [sim, List.length_cons, List.length_nil, Nat.reduceAdd, Nat.reduceSub, List.replicate, List.cons_append, List.nil_append, List.map_cons, List.map_nil, Option.bind_some, Option.map_some, Option.bind_none, Option.map_none, if_true, if_false, decide_true, decide_false, Bool.false_eq_true, Bool.true_eq_false, Bool.not_true, Bool.not_false, reduceCtorEq, Bool.and_true, Bool.true_and, Bool.and_false, Bool.false_and, Bool.or_true, Bool.true_or, Bool.or_false, Bool.false_or, true_and, and_true, false_and, and_false, List.take_zero, List.take_succ_cons, List.drop_zero, List.drop_succ_cons, List.take_nil, List.drop_nil, List.set_cons_zero, List.set_cons_succ, Nat.reduceLeDiff, Nat.reduceLT, Nat.zero_add, Nat.lt_add_one, Nat.le_refl, clearA, Int.toNat_natCast, c1, c2, c3, (m h).len, (m h).fits, hlt, i1, i2', cy, o1, o2, e1, a3, oA, cA, hw, p1, p2]
    exact r1

theorem cOwn_run (v : AV) (L : List XD) (m : ∀ h, ModV h v L) (hL : L.length ≤ 100000) (hs : ∀ x ∈ L, x.size ≤ 100000) :
    ∃ r', runF Try.prog po 59 [.agg [v]] h = some (.inl (.agg r'), h) ∧ ModA L r' := by
  have o1 := (m h).one
  have l1 := (m h).len
  have f1 := (m h).fits
  obtain ⟨h'', acc', rows', w4, w7, w8, r1, g, c2, c3, ha, hr⟩ := cOwn_loop (h := h) L v m hL (fun y hy q h' hq => cown_run _ y (Nat.le_refl _) (hs y hy) q h' hq) (.agg [v]) [.ss [.ops [(.i .l (.load true 1 (.v 3))), (.i .n (.store 1 (.v 2) (.l 0)))], .ret]] L []
    (((h.push [[v]]).push [[.nils]]).push [[.nils]]) .nils [] .junk .junk rfl
    (((GrewA.push h _).trans (GrewA.push _ _)).trans (GrewA.push _ _)) (by simp only [push_n]; omega) push3_0 push3_1 push3_same (acc_nil _ _ _) rfl
  simp only [List.length_nil, Int.natCast_zero] at r1
  have hsl : SlA tE acc' rows' := by
    rcases ha with ⟨q1, q2⟩ | ⟨id, _, _, _, _, q2⟩
    · exact .inl ⟨q1, q2⟩
    · exact .inr ⟨_, q2⟩
  obtain ⟨rows2, hw, hr'⟩ := exs_wk hr
  have oA' : acc'.one = true := (ModV.of (h := h) hsl hr).one
  have hwA : ∃ a2, wkA (.agg [acc']) = some (.agg [a2]) ∧ SlA tE a2 rows2 := by
    rcases hsl with ⟨q1, rfl⟩ | ⟨id, rfl⟩
    · subst q1
      cases hw
      exact ⟨.nils, rfl, .inl ⟨rfl, rfl⟩⟩
    · exact ⟨.isl none tE rows2, by simp only [wkA, wkL, hw, Option.map_some], .inr ⟨_, rfl⟩⟩
  obtain ⟨a2, hwA, hs2⟩ := hwA
  refine ⟨[a2], ?_, a2, rows2, rfl, hs2, hr'⟩
  refine runF_R fn_cOwn rfl ?_; unfold rc_cOwn
  simp only [sim, List.length_cons, List.length_nil, Nat.reduceAdd, Nat.reduceSub, List.replicate, List.cons_append, List.nil_append, List.map_cons, List.map_nil, Option.bind_some, Option.map_some, Option.bind_none, Option.map_none, if_true, if_false, decide_true, decide_false, Bool.false_eq_true, Bool.true_eq_false, Bool.not_true, Bool.not_false, reduceCtorEq, Bool.and_true, Bool.true_and, Bool.and_false, Bool.false_and, Bool.or_true, Bool.true_or, Bool.or_false, Bool.false_or, true_and, and_true, false_and, and_false, List.take_zero, List.take_succ_cons, List.drop_zero, List.drop_succ_cons, List.take_nil, List.drop_nil, List.set_cons_zero, List.set_cons_succ, Nat.reduceLeDiff, Nat.reduceLT, Nat.zero_add, Nat.lt_add_one, Nat.le_refl, clearA, Int.toNat_natCast, o1, l1, f1, r1, c2, c3, oA', fg_yes (g.set (show h.n ≤ h.n + 1 by omega)) hwA]
end
end Go.Proofs.Ytacocolcighomaa
