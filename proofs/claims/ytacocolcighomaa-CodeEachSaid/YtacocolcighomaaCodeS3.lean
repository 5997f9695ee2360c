/- code in the plain model: kinds, modules. -/
import Derived.Test.YtacocolcighomaaCodeS2
namespace Go.Proofs.Ytacocolcighomaa
set_option linter.unusedSimpArgs false
set_option linter.unusedVariables false
open Go

/-- a slice of expressions that a walk reads -/
structure ModV (h : AH) (v : AV) (l : List XD) : Prop where
  len : lenA v = some l.length
  fits : ∀ s, fitsR s (some tE) v = true
  one : v.one = true
  ix : ∀ (i : Nat) (y : XD), l[i]? = some y → ∃ a q, ixaR (some tE) none v (.int .i64 (i : Int)) = some a ∧ (∀ h', GrewA h h' → loadA true 4 h' a = some (.agg q)) ∧ ExA y q
theorem ModV.grew {h h' : AH} {v : AV} {l : List XD} (m : ModV h v l) (g : GrewA h h') : ModV h' v l :=
  ⟨m.len, m.fits, m.one, fun i y hy => by
    obtain ⟨a, q, h1, h2, h3⟩ := m.ix i y hy
    exact ⟨a, q, h1, fun h'' g' => h2 h'' (g.trans g'), h3⟩⟩
theorem ModV.of {h : AH} {v : AV} {es : List (List AV)} {l : List XD} (hv : SlA tE v es) (hl : ExL l es) : ModV h v l := by
  refine ⟨?_, hv.isL.fits, ?_, fun i y hy => ?_⟩
  · rw [← hl.len]; exact hv.isL.len
  · rcases hv with ⟨_, rfl⟩ | ⟨id, rfl⟩ <;> rfl
  · obtain ⟨q, h1, h2⟩ := hl.get hy
    exact ⟨.ip q 0, q, hv.isL.ix .i64 i q h1, fun h' _ => ld_all h2.one.2, h2⟩
theorem ModA.modV {h : AH} {l : List XD} {r : List AV} (m : ModA l r) : ∃ v, r = [v] ∧ ModV h v l := by
  obtain ⟨v, es, rfl, hv, hl⟩ := m
  exact ⟨v, rfl, ModV.of hv hl⟩

section
variable {h : AH}
theorem r_PartsOf (op : Int) : runF Try.prog po 57 [.int .i64 op] h = some (.inl (.int .i64 (partsX op)), h) := by
  refine runF_R fn_PartsOf rfl ?_; unfold rc_PartsOf
  by_cases h1 : op < 1
  · have hn : ∀ k : Int, 1 ≤ k → decide (op = k) = false := fun k hk => by rw [decide_eq_false_iff_not]; omega
    have : partsX op = -1 := by unfold partsX; split <;> omega
    simp only [sim, List.length_cons, List.length_nil, Nat.reduceAdd, Nat.reduceSub, List.replicate, List.cons_append, List.nil_append, List.map_cons, List.map_nil, Option.bind_some, Option.map_some, Option.bind_none, Option.map_none, if_true, if_false, decide_true, decide_false, Bool.false_eq_true, Bool.true_eq_false, Bool.not_true, Bool.not_false, reduceCtorEq, Bool.and_true, Bool.true_and, Bool.and_false, Bool.false_and, Bool.or_true, Bool.true_or, Bool.or_false, Bool.false_or, true_and, and_true, false_and, and_false, List.take_zero, List.take_succ_cons, List.drop_zero, List.drop_succ_cons, List.take_nil, List.drop_nil, List.set_cons_zero, List.set_cons_succ, Nat.reduceLeDiff, Nat.reduceLT, Nat.zero_add, Nat.lt_add_one, Nat.le_refl, clearA, Int.toNat_natCast, this, hn 1 (by omega), hn 2 (by omega), hn 3 (by omega), hn 4 (by omega), hn 5 (by omega), hn 6 (by omega), hn 7 (by omega), hn 8 (by omega), hn 9 (by omega), hn 10 (by omega), hn 11 (by omega), hn 12 (by omega), hn 13 (by omega), hn 14 (by omega), hn 15 (by omega), hn 16 (by omega), hn 17 (by omega), hn 18 (by omega), hn 19 (by omega), hn 20 (by omega), hn 21 (by omega)]
  · by_cases h2 : 21 < op
    · have hn : ∀ k : Int, k ≤ 21 → decide (op = k) = false := fun k hk => by rw [decide_eq_false_iff_not]; omega
      have : partsX op = -1 := by unfold partsX; split <;> omega
      simp only [sim, List.length_cons, List.length_nil, Nat.reduceAdd, Nat.reduceSub, List.replicate, List.cons_append, List.nil_append, List.map_cons, List.map_nil, Option.bind_some, Option.map_some, Option.bind_none, Option.map_none, if_true, if_false, decide_true, decide_false, Bool.false_eq_true, Bool.true_eq_false, Bool.not_true, Bool.not_false, reduceCtorEq, Bool.and_true, Bool.true_and, Bool.and_false, Bool.false_and, Bool.or_true, Bool.true_or, Bool.or_false, Bool.false_or, true_and, and_true, false_and, and_false, List.take_zero, List.take_succ_cons, List.drop_zero, List.drop_succ_cons, List.take_nil, List.drop_nil, List.set_cons_zero, List.set_cons_succ, Nat.reduceLeDiff, Nat.reduceLT, Nat.zero_add, Nat.lt_add_one, Nat.le_refl, clearA, Int.toNat_natCast, this, hn 1 (by omega), hn 2 (by omega), hn 3 (by omega), hn 4 (by omega), hn 5 (by omega), hn 6 (by omega), hn 7 (by omega), hn 8 (by omega), hn 9 (by omega), hn 10 (by omega), hn 11 (by omega), hn 12 (by omega), hn 13 (by omega), hn 14 (by omega), hn 15 (by omega), hn 16 (by omega), hn 17 (by omega), hn 18 (by omega), hn 19 (by omega), hn 20 (by omega), hn 21 (by omega)]
    · rcases op_cases h1 h2 with rfl | rfl | rfl | rfl | rfl | rfl | rfl | rfl | rfl | rfl | rfl | rfl | rfl | rfl | rfl | rfl | rfl | rfl | rfl | rfl | rfl <;>
        (simp only [sim, List.length_cons, List.length_nil, Nat.reduceAdd, Nat.reduceSub, List.replicate, List.cons_append, List.nil_append, List.map_cons, List.map_nil, Option.bind_some, Option.map_some, Option.bind_none, Option.map_none, if_true, if_false, decide_true, decide_false, Bool.false_eq_true, Bool.true_eq_false, Bool.not_true, Bool.not_false, reduceCtorEq, Bool.and_true, Bool.true_and, Bool.and_false, Bool.false_and, Bool.or_true, Bool.true_or, Bool.or_false, Bool.false_or, true_and, and_true, false_and, and_false, List.take_zero, List.take_succ_cons, List.drop_zero, List.drop_succ_cons, List.take_nil, List.drop_nil, List.set_cons_zero, List.set_cons_succ, Nat.reduceLeDiff, Nat.reduceLT, Nat.zero_add, Nat.lt_add_one, Nat.le_refl, clearA, Int.toNat_natCast, Int.reduceEq]; rfl)
theorem rF_run (c a : Int) : runF Try.prog po 82 [.int .i64 c, .int .i64 a] h = some (.inl (.agg [.int .i64 c, .int .i64 a]), h) := by
  refine runF_R fn_rF rfl ?_; unfold rc_rF
  simp only [sim, List.length_cons, List.length_nil, Nat.reduceAdd, Nat.reduceSub, List.replicate, List.cons_append, List.nil_append, List.map_cons, List.map_nil, Option.bind_some, Option.map_some, Option.bind_none, Option.map_none, if_true, if_false, decide_true, decide_false, Bool.false_eq_true, Bool.true_eq_false, Bool.not_true, Bool.not_false, reduceCtorEq, Bool.and_true, Bool.true_and, Bool.and_false, Bool.false_and, Bool.or_true, Bool.true_or, Bool.or_false, Bool.false_or, true_and, and_true, false_and, and_false, List.take_zero, List.take_succ_cons, List.drop_zero, List.drop_succ_cons, List.take_nil, List.drop_nil, List.set_cons_zero, List.set_cons_succ, Nat.reduceLeDiff, Nat.reduceLT, Nat.zero_add, Nat.lt_add_one, Nat.le_refl, clearA, Int.toNat_natCast, fg_yes (GrewA.push h _) (rfl : wkA (.agg [.int .i64 c, .int .i64 a]) = _)]
theorem lnum_run (n : Int) : runF Try.prog po 53 [.int .i64 n] h = some (.inl (.agg [.int .i64 2, .int .i64 0, .int .i64 n, .nils]), h) := by
  refine runF_R fn_lnum rfl ?_; unfold rc_lnum
  simp only [sim, List.length_cons, List.length_nil, Nat.reduceAdd, Nat.reduceSub, List.replicate, List.cons_append, List.nil_append, List.map_cons, List.map_nil, Option.bind_some, Option.map_some, Option.bind_none, Option.map_none, if_true, if_false, decide_true, decide_false, Bool.false_eq_true, Bool.true_eq_false, Bool.not_true, Bool.not_false, reduceCtorEq, Bool.and_true, Bool.true_and, Bool.and_false, Bool.false_and, Bool.or_true, Bool.true_or, Bool.or_false, Bool.false_or, true_and, and_true, false_and, and_false, List.take_zero, List.take_succ_cons, List.drop_zero, List.drop_succ_cons, List.take_nil, List.drop_nil, List.set_cons_zero, List.set_cons_succ, Nat.reduceLeDiff, Nat.reduceLT, Nat.zero_add, Nat.lt_add_one, Nat.le_refl, clearA, Int.toNat_natCast, fg_yes (GrewA.push h _) (rfl : wkA (.agg [.int .i64 2, .int .i64 0, .int .i64 n, .nils]) = _)]

theorem Great_loop (v : AV) (L : List XD) (hv : ModV h v L) (hL : L.length ≤ 20) (v0 v4 : AV) : ∀ (l pre : List XD) (v5 v6 : AV), L = pre ++ l →
    cFR true [.v 2] h (runR (runF Try.prog po) 7 [.lp rc_GreatModule_b1, .ss [], .blk 0, .ss [.ops [(.i (.v 2) (.mv (.c (.bool false))))], .ret]] [v0, .ptr h.n 0 0, .bool false, .int .i64 pre.length, v4, v5, v6] [] (h.push [[v]])) =
      some (.inl (.bool (l.any fun x => decide (600 < x.size))), h) := by
  intro l
  induction l with
  | nil =>
    intro pre v5 v6 e
    have e' : L = pre := by simpa using e
    have hlt : ¬ ((pre.length : Int) < (L.length : Int)) := by rw [e']; omega
    rw [r_lpb rc_GreatModule_b1.eq_1]
    simp only [sim, List.length_cons, List.length_nil, Nat.reduceAdd, Nat.reduceSub, List.replicate, List.cons_append, List.nil_append, List.map_cons, List.map_nil, Option.bind_some, Option.map_some, Option.bind_none, Option.map_none, if_true, if_false, decide_true, decide_false, Bool.false_eq_true, Bool.true_eq_false, Bool.not_true, Bool.not_false, reduceCtorEq, Bool.and_true, Bool.true_and, Bool.and_false, Bool.false_and, Bool.or_true, Bool.true_or, Bool.or_false, Bool.false_or, true_and, and_true, false_and, and_false, List.take_zero, List.take_succ_cons, List.drop_zero, List.drop_succ_cons, List.take_nil, List.drop_nil, List.set_cons_zero, List.set_cons_succ, Nat.reduceLeDiff, Nat.reduceLT, Nat.zero_add, Nat.lt_add_one, Nat.le_refl, clearA, Int.toNat_natCast, hv.len, hv.fits, hlt, List.any_nil, fg_yes (GrewA.push h _) (rfl : wkA (.bool false) = _)]
  | cons y l ih =>
    intro pre v5 v6 e
    have hlt : (pre.length : Int) < (L.length : Int) := by rw [e]; simp; omega
    obtain ⟨a, q, i1, i2, i3⟩ := hv.ix pre.length y (by rw [e]; simp)
    have i2' := i2 _ (GrewA.push h [[v]])
    have cy := CountOf_run _ y (Nat.le_refl _) q (h.push [[v]]) 600 i3 (by omega) (by omega)
    have hw := w64 (n := (pre.length : Int) + 1) (by rw [e] at hL; simp at hL; omega) (by rw [e] at hL; simp at hL; omega)
    rw [r_lpb rc_GreatModule_b1.eq_1]
    by_cases hb : 600 < y.size
    · have hb2 : (600 : Int) < min (y.size : Int) (600 + 1) := by omega
      simp only [sim, List.length_cons, List.length_nil, Nat.reduceAdd, Nat.reduceSub, List.replicate, List.cons_append, List.nil_append, List.map_cons, List.map_nil, Option.bind_some, Option.map_some, Option.bind_none, Option.map_none, if_true, if_false, decide_true, decide_false, Bool.false_eq_true, Bool.true_eq_false, Bool.not_true, Bool.not_false, reduceCtorEq, Bool.and_true, Bool.true_and, Bool.and_false, Bool.false_and, Bool.or_true, Bool.true_or, Bool.or_false, Bool.false_or, true_and, and_true, false_and, and_false, List.take_zero, List.take_succ_cons, List.drop_zero, List.drop_succ_cons, List.take_nil, List.drop_nil, List.set_cons_zero, List.set_cons_succ, Nat.reduceLeDiff, Nat.reduceLT, Nat.zero_add, Nat.lt_add_one, Nat.le_refl, clearA, Int.toNat_natCast, hv.len, hv.fits, hlt, i1, i2', cy, hb2, List.any_cons, hb, fg_yes (GrewA.push h _) (rfl : wkA (.bool true) = _)]
    · have hb2 : ¬ (600 : Int) < min (y.size : Int) (600 + 1) := by omega
      have r1 := ih (pre ++ [y]) (.bool true) (.bool false) (by simp [e])
      have e2 : ((pre ++ [y]).length : Int) = (pre.length : Int) + 1 := by simp
      rw [e2] at r1
      simp only [sim, List.length_cons, List.length_nil, Nat.reduceAdd, Nat.reduceSub, List.replicate, List.cons_append, List.nil_append, List.map_cons, List.map_nil, Option.bind_some, Option.map_some, Option.bind_none, Option.map_none, if_true, if_false, decide_true, decide_false, Bool.false_eq_true, Bool.true_eq_false, Bool.not_true, Bool.not_false, reduceCtorEq, Bool.and_true, Bool.true_and, Bool.and_false, Bool.false_and, Bool.or_true, Bool.true_or, Bool.or_false, Bool.false_or, true_and, and_true, false_and, and_false, List.take_zero, List.take_succ_cons, List.drop_zero, List.drop_succ_cons, List.take_nil, List.drop_nil, List.set_cons_zero, List.set_cons_succ, Nat.reduceLeDiff, Nat.reduceLT, Nat.zero_add, Nat.lt_add_one, Nat.le_refl, clearA, Int.toNat_natCast, hv.len, hv.fits, hlt, i1, i2', cy, hb2, List.any_cons, hb, hw]
      exact r1
theorem Great_run (v : AV) (L : List XD) (hv : ModV h v L) : runF Try.prog po 51 [.agg [v]] h = some (.inl (.bool (greatX L)), h) := by
  refine runF_R fn_GreatModule rfl ?_; unfold rc_GreatModule
  have h1 := hv.one
  by_cases hb : 20 < L.length
  · have hb2 : (20 : Int) < (L.length : Int) := by omega
    simp only [sim, List.length_cons, List.length_nil, Nat.reduceAdd, Nat.reduceSub, List.replicate, List.cons_append, List.nil_append, List.map_cons, List.map_nil, Option.bind_some, Option.map_some, Option.bind_none, Option.map_none, if_true, if_false, decide_true, decide_false, Bool.false_eq_true, Bool.true_eq_false, Bool.not_true, Bool.not_false, reduceCtorEq, Bool.and_true, Bool.true_and, Bool.and_false, Bool.false_and, Bool.or_true, Bool.true_or, Bool.or_false, Bool.false_or, true_and, and_true, false_and, and_false, List.take_zero, List.take_succ_cons, List.drop_zero, List.drop_succ_cons, List.take_nil, List.drop_nil, List.set_cons_zero, List.set_cons_succ, Nat.reduceLeDiff, Nat.reduceLT, Nat.zero_add, Nat.lt_add_one, Nat.le_refl, clearA, Int.toNat_natCast, h1, hv.len, hv.fits, hb2, greatX, hb, fg_yes (GrewA.push h _) (rfl : wkA (.bool true) = _)]
  · have hb2 : ¬ (20 : Int) < (L.length : Int) := by omega
    have r1 := Great_loop v L hv (by omega) (.agg [v]) (.bool false) L [] .junk .junk rfl
    simp only [List.length_nil, Int.natCast_zero] at r1
    simp only [sim, List.length_cons, List.length_nil, Nat.reduceAdd, Nat.reduceSub, List.replicate, List.cons_append, List.nil_append, List.map_cons, List.map_nil, Option.bind_some, Option.map_some, Option.bind_none, Option.map_none, if_true, if_false, decide_true, decide_false, Bool.false_eq_true, Bool.true_eq_false, Bool.not_true, Bool.not_false, reduceCtorEq, Bool.and_true, Bool.true_and, Bool.and_false, Bool.false_and, Bool.or_true, Bool.true_or, Bool.or_false, Bool.false_or, true_and, and_true, false_and, and_false, List.take_zero, List.take_succ_cons, List.drop_zero, List.drop_succ_cons, List.take_nil, List.drop_nil, List.set_cons_zero, List.set_cons_succ, Nat.reduceLeDiff, Nat.reduceLT, Nat.zero_add, Nat.lt_add_one, Nat.le_refl, clearA, Int.toNat_natCast, h1, hv.len, hv.fits, hb2, greatX, hb]
    exact r1
end
end Go.Proofs.Ytacocolcighomaa
