/- code in the plain model: kinds and numbers of expressions. code in the plain model: how many expressions, how deep. code in the plain model: kinds, modules. -/
import Derived.Test.YtodehiopdkgoeaaDoorCCode
import Derived.Test.YtodehiopdkgoeaaDoorExpr
namespace Go.Proofs.YtodehiopdkgoeaaDoor
set_option linter.unusedSimpArgs false
set_option linter.unusedVariables false
open Go

section
variable {h : AH}
theorem op_cases {op : Int} (h1 : ¬ op < 1) (h2 : ¬ 21 < op) : op = 1 ∨ op = 2 ∨ op = 3 ∨ op = 4 ∨ op = 5 ∨ op = 6 ∨ op = 7 ∨ op = 8 ∨ op = 9 ∨ op = 10 ∨ op = 11 ∨ op = 12 ∨ op = 13 ∨ op = 14 ∨ op = 15 ∨ op = 16 ∨ op = 17 ∨ op = 18 ∨ op = 19 ∨ op = 20 ∨ op = 21 := by omega
theorem c_Parts (op : Int) : runF Tryd.prog po 85 [.int .i64 op] h = some (.inl (.int .i64 (partsX op)), h) := by
  refine runF_R fn_cParts rfl ?_; unfold rc_cParts
  by_cases h1 : op < 1
  · have : partsX op = -1 := by unfold partsX; split <;> omega
    simp only [sim, List.length_cons, List.length_nil, Nat.reduceAdd, Nat.reduceSub, List.replicate, List.cons_append, List.nil_append, List.map_cons, List.map_nil, Option.bind_some, Option.map_some, Option.bind_none, Option.map_none, if_true, if_false, decide_true, decide_false, Bool.false_eq_true, Bool.true_eq_false, Bool.not_true, Bool.not_false, reduceCtorEq, Bool.and_true, Bool.true_and, Bool.and_false, Bool.false_and, Bool.or_true, Bool.true_or, Bool.or_false, Bool.false_or, true_and, and_true, false_and, and_false, List.take_zero, List.take_succ_cons, List.drop_zero, List.drop_succ_cons, List.take_nil, List.drop_nil, List.set_cons_zero, List.set_cons_succ, Nat.reduceLeDiff, Nat.reduceLT, Nat.zero_add, Nat.lt_add_one, Nat.le_refl, clearA, Int.toNat_natCast, h1, this, fg_yes (GrewA.refl h) (rfl : wkA (.int .i64 (-1)) = _)]
  · by_cases h2 : 21 < op
    · have : partsX op = -1 := by unfold partsX; split <;> omega
      simp only [sim, List.length_cons, List.length_nil, Nat.reduceAdd, Nat.reduceSub, List.replicate, List.cons_append, List.nil_append, List.map_cons, List.map_nil, Option.bind_some, Option.map_some, Option.bind_none, Option.map_none, if_true, if_false, decide_true, decide_false, Bool.false_eq_true, Bool.true_eq_false, Bool.not_true, Bool.not_false, reduceCtorEq, Bool.and_true, Bool.true_and, Bool.and_false, Bool.false_and, Bool.or_true, Bool.true_or, Bool.or_false, Bool.false_or, true_and, and_true, false_and, and_false, List.take_zero, List.take_succ_cons, List.drop_zero, List.drop_succ_cons, List.take_nil, List.drop_nil, List.set_cons_zero, List.set_cons_succ, Nat.reduceLeDiff, Nat.reduceLT, Nat.zero_add, Nat.lt_add_one, Nat.le_refl, clearA, Int.toNat_natCast, h1, h2, this, fg_yes (GrewA.refl h) (rfl : wkA (.int .i64 (-1)) = _)]
    · have hix : ixR false (some (22, (1, false))) (.agg [(.int .i64 0), (.int .i64 0), (.int .i64 0), (.int .i64 0), (.int .i64 0), (.int .i64 2), (.int .i64 2), (.int .i64 3), (.int .i64 2), (.int .i64 1), (.int .i64 1), (.int .i64 1), (.int .i64 1), (.int .i64 1), (.int .i64 2), (.int .i64 1), (.int .i64 1), (.int .i64 1), (.int .i64 1), (.int .i64 2), (.int .i64 1), (.int .i64 0)]) (.int .i64 op) = some (.int .i64 (partsX op)) := by
        rcases op_cases h1 h2 with rfl | rfl | rfl | rfl | rfl | rfl | rfl | rfl | rfl | rfl | rfl | rfl | rfl | rfl | rfl | rfl | rfl | rfl | rfl | rfl | rfl <;> rfl
      simp only [sim, List.length_cons, List.length_nil, Nat.reduceAdd, Nat.reduceSub, List.replicate, List.cons_append, List.nil_append, List.map_cons, List.map_nil, Option.bind_some, Option.map_some, Option.bind_none, Option.map_none, if_true, if_false, decide_true, decide_false, Bool.false_eq_true, Bool.true_eq_false, Bool.not_true, Bool.not_false, reduceCtorEq, Bool.and_true, Bool.true_and, Bool.and_false, Bool.false_and, Bool.or_true, Bool.true_or, Bool.or_false, Bool.false_or, true_and, and_true, false_and, and_false, List.take_zero, List.take_succ_cons, List.drop_zero, List.drop_succ_cons, List.take_nil, List.drop_nil, List.set_cons_zero, List.set_cons_succ, Nat.reduceLeDiff, Nat.reduceLT, Nat.zero_add, Nat.lt_add_one, Nat.le_refl, clearA, Int.toNat_natCast, h1, h2, hix]

end
end Go.Proofs.YtodehiopdkgoeaaDoor
namespace Go.Proofs.YtodehiopdkgoeaaDoor
set_option linter.unusedSimpArgs false
set_option linter.unusedVariables false
open Go

section
variable {h : AH}
/-! ### CountOf -/
theorem CountOf_loop (x : XD) (v : AV) (es : List (List AV)) (hl : IsL tE v es) (hn : es.length = x.l.length) (hv : v.one = true) (most : Int) (h0 : 0 ≤ most) (hm : most ≤ 100000)
    (hix : ∀ (i : Nat) (y : XD), x.l[i]? = some y → ∃ q, ixaR (some tE) none v (.int .i64 (i : Int)) = some (.ip q 0) ∧ ldA true 4 q 0 = some (.agg q) ∧ ExA y q)
    (hc : ∀ y ∈ x.l, ∀ (q : List AV) (h : AH) (m : Int), ExA y q → 0 ≤ m → m ≤ 100000 → runF Tryd.prog po 43 [.agg q, .int .i64 m] h = some (.inl (.int .i64 (min (y.size : Int) (m + 1))), h))
    (v0 v3 : AV) (K : List RK) : ∀ (l pre : List XD) (v6 : AV), x.l = pre ++ l →
    ∃ w5 w6, runR (runF Tryd.prog po) 7 (.lp rc_CountOf_b1 :: .ss [] :: .blk 0 :: K) [v0, .int .i64 most, .ptr h.n 0 0, v3, .int .i64 (min (1 + (sizesX pre : Int)) (most + 1)), .int .i64 pre.length, v6] [] (h.push [[.int .i64 x.op, .int .i64 x.k, .int .i64 x.n, v]]) =
      runR (runF Tryd.prog po) 7 K [v0, .int .i64 most, .ptr h.n 0 0, v3, .int .i64 (min (x.size : Int) (most + 1)), w5, w6] [] (h.push [[.int .i64 x.op, .int .i64 x.k, .int .i64 x.n, v]]) := by
  intro l
  induction l with
  | nil =>
    intro pre v6 e
    have e' : x.l = pre := by simpa using e
    have hlt : ¬ ((pre.length : Int) < (es.length : Int)) := by rw [hn, e']; omega
    refine ⟨.int .i64 pre.length, .bool false, ?_⟩
    rw [r_lpb rc_CountOf_b1.eq_1]
    have es : (1 + (sizesX pre : Int)) = (x.size : Int) := by rw [x.size_eq, e']; omega
    simp only [sim, List.length_cons, List.length_nil, Nat.reduceAdd, Nat.reduceSub, List.replicate, List.cons_append, List.nil_append, List.map_cons, List.map_nil, Option.bind_some, Option.map_some, Option.bind_none, Option.map_none, if_true, if_false, decide_true, decide_false, Bool.false_eq_true, Bool.true_eq_false, Bool.not_true, Bool.not_false, reduceCtorEq, Bool.and_true, Bool.true_and, Bool.and_false, Bool.false_and, Bool.or_true, Bool.true_or, Bool.or_false, Bool.false_or, true_and, and_true, false_and, and_false, List.take_zero, List.take_succ_cons, List.drop_zero, List.drop_succ_cons, List.take_nil, List.drop_nil, List.set_cons_zero, List.set_cons_succ, Nat.reduceLeDiff, Nat.reduceLT, Nat.zero_add, Nat.lt_add_one, Nat.le_refl, clearA, Int.toNat_natCast, hl.len, hl.fits, hlt, es]
  | cons y l ih =>
    intro pre v6 e
    have hlt : (pre.length : Int) < (es.length : Int) := by rw [hn, e]; simp; omega
    obtain ⟨q, i1, i2, i3⟩ := hix pre.length y (by rw [e]; simp)
    have hsz : (x.size : Int) = 1 + (sizesX pre : Int) + (y.size : Int) + (sizesX l : Int) := by rw [x.size_eq, e, sizesX_append]; simp [sizesX]; omega
    have hyp := y.size_pos
    have hlen := x.len_size
    rw [r_lpb rc_CountOf_b1.eq_1]
    by_cases hle : min (1 + (sizesX pre : Int)) (most + 1) ≤ most
    · have hmin : min (1 + (sizesX pre : Int)) (most + 1) = 1 + (sizesX pre : Int) := by omega
      rw [hmin] at hle
      have hpl : (pre.length : Int) ≤ sizesX pre := by
        have : ∀ l : List XD, l.length ≤ sizesX l := by
          intro l
          induction l with
          | nil => simp
          | cons y l ih =>
            have := y.size_pos
            simp only [sizesX, List.length_cons]
            omega
        have := this pre
        omega
      have hw1 := w64 (n := most - (1 + (sizesX pre : Int))) (by omega) (by omega)
      have hw2 := w64 (n := (1 + (sizesX pre : Int)) + min (y.size : Int) (most - (1 + (sizesX pre : Int)) + 1)) (by omega) (by omega)
      have hw3 := w64 (n := (pre.length : Int) + 1) (by omega) (by omega)
      have cy := hc y (by rw [e]; simp) q (h.push [[.int .i64 x.op, .int .i64 x.k, .int .i64 x.n, v]]) (most - (1 + (sizesX pre : Int))) i3 (by omega) (by omega)
      obtain ⟨w5, w6, r1⟩ := ih (pre ++ [y]) (.bool true) (by simp [e])
      have e2 : ((pre ++ [y]).length : Int) = (pre.length : Int) + 1 := by simp
      have e3 : min (1 + (sizesX (pre ++ [y]) : Int)) (most + 1) = (1 + (sizesX pre : Int)) + min (y.size : Int) (most - (1 + (sizesX pre : Int)) + 1) := by
        rw [sizesX_append, sizesX_one]
        omega
      rw [e2, e3] at r1
      refine ⟨w5, w6, ?_⟩
      simp only [sim, List.length_cons, List.length_nil, Nat.reduceAdd, Nat.reduceSub, List.replicate, List.cons_append, List.nil_append, List.map_cons, List.map_nil, Option.bind_some, Option.map_some, Option.bind_none, Option.map_none, if_true, if_false, decide_true, decide_false, Bool.false_eq_true, Bool.true_eq_false, Bool.not_true, Bool.not_false, reduceCtorEq, Bool.and_true, Bool.true_and, Bool.and_false, Bool.false_and, Bool.or_true, Bool.true_or, Bool.or_false, Bool.false_or, true_and, and_true, false_and, and_false, List.take_zero, List.take_succ_cons, List.drop_zero, List.drop_succ_cons, List.take_nil, List.drop_nil, List.set_cons_zero, List.set_cons_succ, Nat.reduceLeDiff, Nat.reduceLT, Nat.zero_add, Nat.lt_add_one, Nat.le_refl, clearA, Int.toNat_natCast, hl.len, hl.fits, hlt, hmin, hle, i1, i2, hw1, cy, hw2, hw3]
      exact r1
    · have hmin : min (1 + (sizesX pre : Int)) (most + 1) = most + 1 := by omega
      have hmin2 : min (x.size : Int) (most + 1) = most + 1 := by omega
      have hgt : ¬ (most + 1 ≤ most) := by omega
      refine ⟨.int .i64 pre.length, .bool false, ?_⟩
      simp only [sim, List.length_cons, List.length_nil, Nat.reduceAdd, Nat.reduceSub, List.replicate, List.cons_append, List.nil_append, List.map_cons, List.map_nil, Option.bind_some, Option.map_some, Option.bind_none, Option.map_none, if_true, if_false, decide_true, decide_false, Bool.false_eq_true, Bool.true_eq_false, Bool.not_true, Bool.not_false, reduceCtorEq, Bool.and_true, Bool.true_and, Bool.and_false, Bool.false_and, Bool.or_true, Bool.true_or, Bool.or_false, Bool.false_or, true_and, and_true, false_and, and_false, List.take_zero, List.take_succ_cons, List.drop_zero, List.drop_succ_cons, List.take_nil, List.drop_nil, List.set_cons_zero, List.set_cons_succ, Nat.reduceLeDiff, Nat.reduceLT, Nat.zero_add, Nat.lt_add_one, Nat.le_refl, clearA, Int.toNat_natCast, hl.len, hl.fits, hlt, hmin, hmin2, hgt]

theorem CountOf_run : ∀ (N : Nat) (x : XD), SizeOf.sizeOf x ≤ N → ∀ (r : List AV) (h : AH) (most : Int), ExA x r → 0 ≤ most → most ≤ 100000 →
    runF Tryd.prog po 43 [.agg r, .int .i64 most] h = some (.inl (.int .i64 (min (x.size : Int) (most + 1))), h) := by
  intro N
  induction N with
  | zero => intro x hx; have := x.so_pos; omega
  | succ N ih =>
    intro x hx r h most he h0 hm
    obtain ⟨v, es, rfl, hl, hv, hn, hix⟩ := he.facts
    obtain ⟨w5, w6, r1⟩ := CountOf_loop (h := h) x v es hl hn hv most h0 hm hix (fun y hy q h m hq => ih y (by have := XD.lt_mem hy; omega) q h m hq) (.agg [.int .i64 x.op, .int .i64 x.k, .int .i64 x.n, v]) (.int .i64 0) [.ss [.ops [(.i .l (.mv (.v 4))), (.i (.v 3) (.mv (.l 0)))], .ret]] x.l [] .junk rfl
    have em : min (1 + (sizesX [] : Int)) (most + 1) = 1 := by simp only [sizesX]; omega
    rw [em] at r1
    simp only [List.length_nil, Int.natCast_zero] at r1
    refine runF_R fn_CountOf rfl ?_; unfold rc_CountOf
    simp only [sim, List.length_cons, List.length_nil, Nat.reduceAdd, Nat.reduceSub, List.replicate, List.cons_append, List.nil_append, List.map_cons, List.map_nil, Option.bind_some, Option.map_some, Option.bind_none, Option.map_none, if_true, if_false, decide_true, decide_false, Bool.false_eq_true, Bool.true_eq_false, Bool.not_true, Bool.not_false, reduceCtorEq, Bool.and_true, Bool.true_and, Bool.and_false, Bool.false_and, Bool.or_true, Bool.true_or, Bool.or_false, Bool.false_or, true_and, and_true, false_and, and_false, List.take_zero, List.take_succ_cons, List.drop_zero, List.drop_succ_cons, List.take_nil, List.drop_nil, List.set_cons_zero, List.set_cons_succ, Nat.reduceLeDiff, Nat.reduceLT, Nat.zero_add, Nat.lt_add_one, Nat.le_refl, clearA, Int.toNat_natCast, hv, r1, fg_yes (GrewA.push h _) (rfl : wkA (.int .i64 (min (x.size : Int) (most + 1))) = _)]

/-! ### DeepOf -/
theorem DeepOf_loop (x : XD) (v : AV) (es : List (List AV)) (hl : IsL tE v es) (hn : es.length = x.l.length) (hv : v.one = true) (most : Int) (h0 : 0 ≤ most) (hm : most ≤ 100000) (hf : x.l.length ≤ 100000)
    (hix : ∀ (i : Nat) (y : XD), x.l[i]? = some y → ∃ q, ixaR (some tE) none v (.int .i64 (i : Int)) = some (.ip q 0) ∧ ldA true 4 q 0 = some (.agg q) ∧ ExA y q)
    (hc : ∀ y ∈ x.l, ∀ (q : List AV) (h : AH) (m : Int), ExA y q → 0 ≤ m → m ≤ 100000 → runF Tryd.prog po 71 [.agg q, .int .i64 m] h = some (.inl (.int .i64 (min (y.depth : Int) (m + 1))), h))
    (v0 v3 : AV) (K : List RK) : ∀ (l pre : List XD) (v6 v7 v8 v9 : AV), x.l = pre ++ l →
    ∃ w5 w6 w7 w8 w9, runR (runF Tryd.prog po) 10 (.lp rc_DeepOf_b1 :: .ss [] :: .blk 0 :: K) [v0, .int .i64 most, .ptr h.n 0 0, v3, .int .i64 (min (depthsX pre : Int) (most + 1)), .int .i64 pre.length, v6, v7, v8, v9] [] (h.push [[.int .i64 x.op, .int .i64 x.k, .int .i64 x.n, v]]) =
      runR (runF Tryd.prog po) 10 K [v0, .int .i64 most, .ptr h.n 0 0, v3, .int .i64 (min (x.depth : Int) (most + 1)), w5, w6, w7, w8, w9] [] (h.push [[.int .i64 x.op, .int .i64 x.k, .int .i64 x.n, v]]) := by
  intro l
  induction l with
  | nil =>
    intro pre v6 v7 v8 v9 e
    have e' : x.l = pre := by simpa using e
    have hlt : ¬ ((pre.length : Int) < (es.length : Int)) := by rw [hn, e']; omega
    refine ⟨.int .i64 pre.length, v6, .bool false, v8, v9, ?_⟩
    rw [r_lpb rc_DeepOf_b1.eq_1]
    have es : depthsX pre = x.depth := by rw [x.depth_eq, e']
    simp only [sim, List.length_cons, List.length_nil, Nat.reduceAdd, Nat.reduceSub, List.replicate, List.cons_append, List.nil_append, List.map_cons, List.map_nil, Option.bind_some, Option.map_some, Option.bind_none, Option.map_none, if_true, if_false, decide_true, decide_false, Bool.false_eq_true, Bool.true_eq_false, Bool.not_true, Bool.not_false, reduceCtorEq, Bool.and_true, Bool.true_and, Bool.and_false, Bool.false_and, Bool.or_true, Bool.true_or, Bool.or_false, Bool.false_or, true_and, and_true, false_and, and_false, List.take_zero, List.take_succ_cons, List.drop_zero, List.drop_succ_cons, List.take_nil, List.drop_nil, List.set_cons_zero, List.set_cons_succ, Nat.reduceLeDiff, Nat.reduceLT, Nat.zero_add, Nat.lt_add_one, Nat.le_refl, clearA, Int.toNat_natCast, hl.len, hl.fits, hlt, es]
  | cons y l ih =>
    intro pre v6 v7 v8 v9 e
    have hlt : (pre.length : Int) < (es.length : Int) := by rw [hn, e]; simp; omega
    obtain ⟨q, i1, i2, i3⟩ := hix pre.length y (by rw [e]; simp)
    have hdx : x.depth = max (depthsX pre) (max (1 + y.depth) (depthsX l)) := by rw [x.depth_eq, e, depthsX_append]; simp [depthsX]
    have hpl : pre.length ≤ 100000 := by rw [e] at hf; simp at hf; omega
    have hw3 := w64 (n := (pre.length : Int) + 1) (by omega) (by omega)
    rw [r_lpb rc_DeepOf_b1.eq_1]
    by_cases hle : min (depthsX pre : Int) (most + 1) ≤ most
    · have hmin : min (depthsX pre : Int) (most + 1) = (depthsX pre : Int) := by omega
      rw [hmin] at hle
      obtain ⟨w5, w6, w7, w8, w9, r1⟩ := ih (pre ++ [y]) (.int .i64 (1 + min (y.depth : Int) most)) (.bool true) (.bool (decide (0 < most))) (.bool (decide ((depthsX pre : Int) < 1 + min (y.depth : Int) most))) (by simp [e])
      have e2 : ((pre ++ [y]).length : Int) = (pre.length : Int) + 1 := by simp
      have e3 : min (depthsX (pre ++ [y]) : Int) (most + 1) = max (depthsX pre : Int) (1 + min (y.depth : Int) most) := by
        rw [depthsX_append, depthsX_one]
        omega
      rw [e2, e3] at r1
      have hw2 := w64 (n := 1 + min (y.depth : Int) most) (by omega) (by omega)
      refine ⟨w5, w6, w7, w8, w9, ?_⟩
      by_cases hp : 0 < most
      · have hw1 := w64 (n := most - 1) (by omega) (by omega)
        have cy := hc y (by rw [e]; simp) q (h.push [[.int .i64 x.op, .int .i64 x.k, .int .i64 x.n, v]]) (most - 1) i3 (by omega) (by omega)
        rw [show most - 1 + 1 = most by omega] at cy
        by_cases hb : (depthsX pre : Int) < 1 + min (y.depth : Int) most
        · have e4 : max (depthsX pre : Int) (1 + min (y.depth : Int) most) = 1 + min (y.depth : Int) most := by omega
          simp only [hp, hb, e4, decide_true] at r1
          simp only [sim, List.length_cons, List.length_nil, Nat.reduceAdd, Nat.reduceSub, List.replicate, List.cons_append, List.nil_append, List.map_cons, List.map_nil, Option.bind_some, Option.map_some, Option.bind_none, Option.map_none, if_true, if_false, decide_true, decide_false, Bool.false_eq_true, Bool.true_eq_false, Bool.not_true, Bool.not_false, reduceCtorEq, Bool.and_true, Bool.true_and, Bool.and_false, Bool.false_and, Bool.or_true, Bool.true_or, Bool.or_false, Bool.false_or, true_and, and_true, false_and, and_false, List.take_zero, List.take_succ_cons, List.drop_zero, List.drop_succ_cons, List.take_nil, List.drop_nil, List.set_cons_zero, List.set_cons_succ, Nat.reduceLeDiff, Nat.reduceLT, Nat.zero_add, Nat.lt_add_one, Nat.le_refl, clearA, Int.toNat_natCast, hl.len, hl.fits, hlt, hmin, hle, hp, i1, i2, hw1, cy, hw2, hb, hw3]
          exact r1
        · have e4 : max (depthsX pre : Int) (1 + min (y.depth : Int) most) = (depthsX pre : Int) := by omega
          simp only [hp, hb, e4, decide_true, decide_false] at r1
          simp only [sim, List.length_cons, List.length_nil, Nat.reduceAdd, Nat.reduceSub, List.replicate, List.cons_append, List.nil_append, List.map_cons, List.map_nil, Option.bind_some, Option.map_some, Option.bind_none, Option.map_none, if_true, if_false, decide_true, decide_false, Bool.false_eq_true, Bool.true_eq_false, Bool.not_true, Bool.not_false, reduceCtorEq, Bool.and_true, Bool.true_and, Bool.and_false, Bool.false_and, Bool.or_true, Bool.true_or, Bool.or_false, Bool.false_or, true_and, and_true, false_and, and_false, List.take_zero, List.take_succ_cons, List.drop_zero, List.drop_succ_cons, List.take_nil, List.drop_nil, List.set_cons_zero, List.set_cons_succ, Nat.reduceLeDiff, Nat.reduceLT, Nat.zero_add, Nat.lt_add_one, Nat.le_refl, clearA, Int.toNat_natCast, hl.len, hl.fits, hlt, hmin, hle, hp, i1, i2, hw1, cy, hw2, hb, hw3]
          exact r1
      · have hz : min (y.depth : Int) most = 0 := by omega
        rw [hz] at r1
        simp only [Int.add_zero] at r1
        by_cases hb : (depthsX pre : Int) < 1
        · have e4 : max (depthsX pre : Int) 1 = 1 := by omega
          simp only [hp, hb, e4, decide_true, decide_false] at r1
          simp only [sim, List.length_cons, List.length_nil, Nat.reduceAdd, Nat.reduceSub, List.replicate, List.cons_append, List.nil_append, List.map_cons, List.map_nil, Option.bind_some, Option.map_some, Option.bind_none, Option.map_none, if_true, if_false, decide_true, decide_false, Bool.false_eq_true, Bool.true_eq_false, Bool.not_true, Bool.not_false, reduceCtorEq, Bool.and_true, Bool.true_and, Bool.and_false, Bool.false_and, Bool.or_true, Bool.true_or, Bool.or_false, Bool.false_or, true_and, and_true, false_and, and_false, List.take_zero, List.take_succ_cons, List.drop_zero, List.drop_succ_cons, List.take_nil, List.drop_nil, List.set_cons_zero, List.set_cons_succ, Nat.reduceLeDiff, Nat.reduceLT, Nat.zero_add, Nat.lt_add_one, Nat.le_refl, clearA, Int.toNat_natCast, hl.len, hl.fits, hlt, hmin, hle, hp, hb, hw3]
          exact r1
        · have e4 : max (depthsX pre : Int) 1 = (depthsX pre : Int) := by omega
          simp only [hp, hb, e4, decide_false] at r1
          simp only [sim, List.length_cons, List.length_nil, Nat.reduceAdd, Nat.reduceSub, List.replicate, List.cons_append, List.nil_append, List.map_cons, List.map_nil, Option.bind_some, Option.map_some, Option.bind_none, Option.map_none, if_true, if_false, decide_true, decide_false, Bool.false_eq_true, Bool.true_eq_false, Bool.not_true, Bool.not_false, reduceCtorEq, Bool.and_true, Bool.true_and, Bool.and_false, Bool.false_and, Bool.or_true, Bool.true_or, Bool.or_false, Bool.false_or, true_and, and_true, false_and, and_false, List.take_zero, List.take_succ_cons, List.drop_zero, List.drop_succ_cons, List.take_nil, List.drop_nil, List.set_cons_zero, List.set_cons_succ, Nat.reduceLeDiff, Nat.reduceLT, Nat.zero_add, Nat.lt_add_one, Nat.le_refl, clearA, Int.toNat_natCast, hl.len, hl.fits, hlt, hmin, hle, hp, hb, hw3]
          exact r1
    · have hmin : min (depthsX pre : Int) (most + 1) = most + 1 := by omega
      have hmin2 : min (x.depth : Int) (most + 1) = most + 1 := by omega
      have hgt : ¬ (most + 1 ≤ most) := by omega
      refine ⟨.int .i64 pre.length, v6, .bool false, v8, v9, ?_⟩
      simp only [sim, List.length_cons, List.length_nil, Nat.reduceAdd, Nat.reduceSub, List.replicate, List.cons_append, List.nil_append, List.map_cons, List.map_nil, Option.bind_some, Option.map_some, Option.bind_none, Option.map_none, if_true, if_false, decide_true, decide_false, Bool.false_eq_true, Bool.true_eq_false, Bool.not_true, Bool.not_false, reduceCtorEq, Bool.and_true, Bool.true_and, Bool.and_false, Bool.false_and, Bool.or_true, Bool.true_or, Bool.or_false, Bool.false_or, true_and, and_true, false_and, and_false, List.take_zero, List.take_succ_cons, List.drop_zero, List.drop_succ_cons, List.take_nil, List.drop_nil, List.set_cons_zero, List.set_cons_succ, Nat.reduceLeDiff, Nat.reduceLT, Nat.zero_add, Nat.lt_add_one, Nat.le_refl, clearA, Int.toNat_natCast, hl.len, hl.fits, hlt, hmin, hmin2, hgt]

theorem XD.size_mem {x y : XD} (h : y ∈ x.l) : y.size < x.size := by
  have : ∀ l : List XD, y ∈ l → y.size ≤ sizesX l := by
    intro l
    induction l with
    | nil => intro hm; simp at hm
    | cons z l ih =>
      intro hm
      simp only [sizesX]
      rcases List.mem_cons.1 hm with rfl | hm
      · omega
      · have := ih hm; omega
  have := this x.l h
  rw [x.size_eq]
  omega

theorem DeepOf_run : ∀ (N : Nat) (x : XD), SizeOf.sizeOf x ≤ N → x.size ≤ 100000 → ∀ (r : List AV) (h : AH) (most : Int), ExA x r → 0 ≤ most → most ≤ 100000 →
    runF Tryd.prog po 71 [.agg r, .int .i64 most] h = some (.inl (.int .i64 (min (x.depth : Int) (most + 1))), h) := by
  intro N
  induction N with
  | zero => intro x hx; have := x.so_pos; omega
  | succ N ih =>
    intro x hx hsz r h most he h0 hm
    obtain ⟨v, es, rfl, hl, hv, hn, hix⟩ := he.facts
    have hlen := x.len_size
    obtain ⟨w5, w6, w7, w8, w9, r1⟩ := DeepOf_loop (h := h) x v es hl hn hv most h0 hm (by omega) hix (fun y hy q h m hq => ih y (by have := XD.lt_mem hy; omega) (by have := XD.size_mem hy; omega) q h m hq) (.agg [.int .i64 x.op, .int .i64 x.k, .int .i64 x.n, v]) (.int .i64 0) [.ss [.ops [(.i .l (.mv (.v 4))), (.i (.v 3) (.mv (.l 0)))], .ret]] x.l [] .junk .junk .junk .junk rfl
    have em : min (depthsX [] : Int) (most + 1) = 0 := by simp only [depthsX]; omega
    rw [em] at r1
    simp only [List.length_nil, Int.natCast_zero] at r1
    refine runF_R fn_DeepOf rfl ?_; unfold rc_DeepOf
    simp only [sim, List.length_cons, List.length_nil, Nat.reduceAdd, Nat.reduceSub, List.replicate, List.cons_append, List.nil_append, List.map_cons, List.map_nil, Option.bind_some, Option.map_some, Option.bind_none, Option.map_none, if_true, if_false, decide_true, decide_false, Bool.false_eq_true, Bool.true_eq_false, Bool.not_true, Bool.not_false, reduceCtorEq, Bool.and_true, Bool.true_and, Bool.and_false, Bool.false_and, Bool.or_true, Bool.true_or, Bool.or_false, Bool.false_or, true_and, and_true, false_and, and_false, List.take_zero, List.take_succ_cons, List.drop_zero, List.drop_succ_cons, List.take_nil, List.drop_nil, List.set_cons_zero, List.set_cons_succ, Nat.reduceLeDiff, Nat.reduceLT, Nat.zero_add, Nat.lt_add_one, Nat.le_refl, clearA, Int.toNat_natCast, hv, r1, fg_yes (GrewA.push h _) (rfl : wkA (.int .i64 (min (x.depth : Int) (most + 1))) = _)]

/-! ### count -/
theorem ccount_loop (x : XD) (v : AV) (es : List (List AV)) (hl : IsL tE v es) (hn : es.length = x.l.length) (hv : v.one = true) (c : Int) (h0 : 0 ≤ c) (hm : c ≤ 100000)
    (hix : ∀ (i : Nat) (y : XD), x.l[i]? = some y → ∃ q, ixaR (some tE) none v (.int .i64 (i : Int)) = some (.ip q 0) ∧ ldA true 4 q 0 = some (.agg q) ∧ ExA y q)
    (hc : ∀ y ∈ x.l, ∀ (q : List AV) (h : AH) (m : Int), ExA y q → 0 ≤ m → m ≤ 100000 → runF Tryd.prog po 65 [.agg q, .int .i64 m] h = some (.inl (.int .i64 (max (m - y.size) (-1))), h))
    (v0 v3 : AV) (K : List RK) : ∀ (l pre : List XD) (v5 : AV), x.l = pre ++ l →
    ∃ w4 w5, runR (runF Tryd.prog po) 6 (.lp rc_ccount_b1 :: .ss [] :: .blk 0 :: K) [v0, .int .i64 (max (c - 1 - sizesX pre) (-1)), .ptr h.n 0 0, v3, .int .i64 pre.length, v5] [] (h.push [[.int .i64 x.op, .int .i64 x.k, .int .i64 x.n, v]]) =
      runR (runF Tryd.prog po) 6 K [v0, .int .i64 (max (c - x.size) (-1)), .ptr h.n 0 0, v3, w4, w5] [] (h.push [[.int .i64 x.op, .int .i64 x.k, .int .i64 x.n, v]]) := by
  intro l
  induction l with
  | nil =>
    intro pre v5 e
    have e' : x.l = pre := by simpa using e
    have hlt : ¬ ((pre.length : Int) < (es.length : Int)) := by rw [hn, e']; omega
    refine ⟨.int .i64 pre.length, .bool false, ?_⟩
    rw [r_lpb rc_ccount_b1.eq_1]
    have es : c - 1 - (sizesX pre : Int) = c - x.size := by rw [x.size_eq, e']; omega
    simp only [sim, List.length_cons, List.length_nil, Nat.reduceAdd, Nat.reduceSub, List.replicate, List.cons_append, List.nil_append, List.map_cons, List.map_nil, Option.bind_some, Option.map_some, Option.bind_none, Option.map_none, if_true, if_false, decide_true, decide_false, Bool.false_eq_true, Bool.true_eq_false, Bool.not_true, Bool.not_false, reduceCtorEq, Bool.and_true, Bool.true_and, Bool.and_false, Bool.false_and, Bool.or_true, Bool.true_or, Bool.or_false, Bool.false_or, true_and, and_true, false_and, and_false, List.take_zero, List.take_succ_cons, List.drop_zero, List.drop_succ_cons, List.take_nil, List.drop_nil, List.set_cons_zero, List.set_cons_succ, Nat.reduceLeDiff, Nat.reduceLT, Nat.zero_add, Nat.lt_add_one, Nat.le_refl, clearA, Int.toNat_natCast, hl.len, hl.fits, hlt, es]
  | cons y l ih =>
    intro pre v5 e
    have hlt : (pre.length : Int) < (es.length : Int) := by rw [hn, e]; simp; omega
    obtain ⟨q, i1, i2, i3⟩ := hix pre.length y (by rw [e]; simp)
    have hsz : (x.size : Int) = 1 + (sizesX pre : Int) + (y.size : Int) + (sizesX l : Int) := by rw [x.size_eq, e, sizesX_append]; simp [sizesX]; omega
    have hyp := y.size_pos
    rw [r_lpb rc_ccount_b1.eq_1]
    by_cases hle : 0 ≤ max (c - 1 - (sizesX pre : Int)) (-1)
    · have hmin : max (c - 1 - (sizesX pre : Int)) (-1) = c - 1 - (sizesX pre : Int) := by omega
      rw [hmin] at hle
      have hpl : (pre.length : Int) ≤ sizesX pre := by
        have : ∀ l : List XD, l.length ≤ sizesX l := by
          intro l
          induction l with
          | nil => simp
          | cons y l ih =>
            have := y.size_pos
            simp only [sizesX, List.length_cons]
            omega
        have := this pre
        omega
      have hw3 := w64 (n := (pre.length : Int) + 1) (by omega) (by omega)
      have cy := hc y (by rw [e]; simp) q (h.push [[.int .i64 x.op, .int .i64 x.k, .int .i64 x.n, v]]) (c - 1 - (sizesX pre : Int)) i3 (by omega) (by omega)
      obtain ⟨w4, w5, r1⟩ := ih (pre ++ [y]) (.bool true) (by simp [e])
      have e2 : ((pre ++ [y]).length : Int) = (pre.length : Int) + 1 := by simp
      have e3 : max (c - 1 - (sizesX (pre ++ [y]) : Int)) (-1) = max (c - 1 - (sizesX pre : Int) - (y.size : Int)) (-1) := by
        rw [sizesX_append, sizesX_one]
        omega
      rw [e2, e3] at r1
      refine ⟨w4, w5, ?_⟩
      simp only [sim, List.length_cons, List.length_nil, Nat.reduceAdd, Nat.reduceSub, List.replicate, List.cons_append, List.nil_append, List.map_cons, List.map_nil, Option.bind_some, Option.map_some, Option.bind_none, Option.map_none, if_true, if_false, decide_true, decide_false, Bool.false_eq_true, Bool.true_eq_false, Bool.not_true, Bool.not_false, reduceCtorEq, Bool.and_true, Bool.true_and, Bool.and_false, Bool.false_and, Bool.or_true, Bool.true_or, Bool.or_false, Bool.false_or, true_and, and_true, false_and, and_false, List.take_zero, List.take_succ_cons, List.drop_zero, List.drop_succ_cons, List.take_nil, List.drop_nil, List.set_cons_zero, List.set_cons_succ, Nat.reduceLeDiff, Nat.reduceLT, Nat.zero_add, Nat.lt_add_one, Nat.le_refl, clearA, Int.toNat_natCast, hl.len, hl.fits, hlt, hmin, hle, i1, i2, cy, hw3]
      exact r1
    · have hmin : max (c - 1 - (sizesX pre : Int)) (-1) = -1 := by omega
      have hmin2 : max (c - (x.size : Int)) (-1) = -1 := by omega
      have hgt : ¬ ((0 : Int) ≤ -1) := by omega
      refine ⟨.int .i64 pre.length, .bool false, ?_⟩
      simp only [sim, List.length_cons, List.length_nil, Nat.reduceAdd, Nat.reduceSub, List.replicate, List.cons_append, List.nil_append, List.map_cons, List.map_nil, Option.bind_some, Option.map_some, Option.bind_none, Option.map_none, if_true, if_false, decide_true, decide_false, Bool.false_eq_true, Bool.true_eq_false, Bool.not_true, Bool.not_false, reduceCtorEq, Bool.and_true, Bool.true_and, Bool.and_false, Bool.false_and, Bool.or_true, Bool.true_or, Bool.or_false, Bool.false_or, true_and, and_true, false_and, and_false, List.take_zero, List.take_succ_cons, List.drop_zero, List.drop_succ_cons, List.take_nil, List.drop_nil, List.set_cons_zero, List.set_cons_succ, Nat.reduceLeDiff, Nat.reduceLT, Nat.zero_add, Nat.lt_add_one, Nat.le_refl, clearA, Int.toNat_natCast, hl.len, hl.fits, hlt, hmin, hmin2, hgt]

theorem ccount_run : ∀ (N : Nat) (x : XD), SizeOf.sizeOf x ≤ N → ∀ (r : List AV) (h : AH) (c : Int), ExA x r → 0 ≤ c → c ≤ 100000 →
    runF Tryd.prog po 65 [.agg r, .int .i64 c] h = some (.inl (.int .i64 (max (c - x.size) (-1))), h) := by
  intro N
  induction N with
  | zero => intro x hx; have := x.so_pos; omega
  | succ N ih =>
    intro x hx r h c he h0 hm
    obtain ⟨v, es, rfl, hl, hv, hn, hix⟩ := he.facts
    obtain ⟨w4, w5, r1⟩ := ccount_loop (h := h) x v es hl hn hv c h0 hm hix (fun y hy q h m hq => ih y (by have := XD.lt_mem hy; omega) q h m hq) (.agg [.int .i64 x.op, .int .i64 x.k, .int .i64 x.n, v]) (.int .i64 0) [.ss [.ops [(.i .l (.mv (.v 1))), (.i (.v 3) (.mv (.l 0)))], .ret]] x.l [] .junk rfl
    have em : max (c - 1 - (sizesX [] : Int)) (-1) = c - 1 := by simp only [sizesX]; omega
    rw [em] at r1
    simp only [List.length_nil, Int.natCast_zero] at r1
    have hw := w64 (n := c - 1) (by omega) (by omega)
    refine runF_R fn_ccount rfl ?_; unfold rc_ccount
    simp only [sim, List.length_cons, List.length_nil, Nat.reduceAdd, Nat.reduceSub, List.replicate, List.cons_append, List.nil_append, List.map_cons, List.map_nil, Option.bind_some, Option.map_some, Option.bind_none, Option.map_none, if_true, if_false, decide_true, decide_false, Bool.false_eq_true, Bool.true_eq_false, Bool.not_true, Bool.not_false, reduceCtorEq, Bool.and_true, Bool.true_and, Bool.and_false, Bool.false_and, Bool.or_true, Bool.true_or, Bool.or_false, Bool.false_or, true_and, and_true, false_and, and_false, List.take_zero, List.take_succ_cons, List.drop_zero, List.drop_succ_cons, List.take_nil, List.drop_nil, List.set_cons_zero, List.set_cons_succ, Nat.reduceLeDiff, Nat.reduceLT, Nat.zero_add, Nat.lt_add_one, Nat.le_refl, clearA, Int.toNat_natCast, hv, hw, r1, fg_yes (GrewA.push h _) (rfl : wkA (.int .i64 (max (c - x.size) (-1))) = _)]
end
end Go.Proofs.YtodehiopdkgoeaaDoor
namespace Go.Proofs.YtodehiopdkgoeaaDoor
set_option linter.unusedSimpArgs false
set_option linter.unusedVariables false
open Go

/-- a slice of expressions that a walk reads -/
structure ModV (h : AH) (v : AV) (l : List XD) : Prop where
  len : lenA v = some l.length
  fits : ∀ s, fitsR s (some tE) v = true
  one : v.one = true
  ix : ∀ (i : Nat) (y : XD), l[i]? = some y → ∃ a q, ixaR (some tE) none v (.int .i64 (i : Int)) = some a ∧ (∀ h', GrewA h h' → loadA true 4 h' a = some (.agg q)) ∧ ExA y q
theorem ModV.grew {h h' : AH} {v : AV} {l : List XD} (m : ModV h v l) (g : GrewA h h') : ModV h' v l :=
  ⟨m.len, m.fits, m.one, fun i y hy => by
    obtain ⟨a, q, h1, h2, h3⟩ := m.ix i y hy
    exact ⟨a, q, h1, fun h'' g' => h2 h'' (g.trans g'), h3⟩⟩
theorem ModV.of {h : AH} {v : AV} {es : List (List AV)} {l : List XD} (hv : SlA tE v es) (hl : ExL l es) : ModV h v l := by
  refine ⟨?_, hv.isL.fits, ?_, fun i y hy => ?_⟩
  · rw [← hl.len]; exact hv.isL.len
  · rcases hv with ⟨_, rfl⟩ | ⟨id, rfl⟩ <;> rfl
  · obtain ⟨q, h1, h2⟩ := hl.get hy
    exact ⟨.ip q 0, q, hv.isL.ix .i64 i q h1, fun h' _ => ld_all h2.one.2, h2⟩
theorem ModA.modV {h : AH} {l : List XD} {r : List AV} (m : ModA l r) : ∃ v, r = [v] ∧ ModV h v l := by
  obtain ⟨v, es, rfl, hv, hl⟩ := m
  exact ⟨v, rfl, ModV.of hv hl⟩

section
variable {h : AH}
theorem r_PartsOf (op : Int) : runF Tryd.prog po 89 [.int .i64 op] h = some (.inl (.int .i64 (partsX op)), h) := by
  refine runF_R fn_PartsOf rfl ?_; unfold rc_PartsOf
  by_cases h1 : op < 1
  · have hn : ∀ k : Int, 1 ≤ k → decide (op = k) = false := fun k hk => by rw [decide_eq_false_iff_not]; omega
    have : partsX op = -1 := by unfold partsX; split <;> omega
    simp only [sim, List.length_cons, List.length_nil, Nat.reduceAdd, Nat.reduceSub, List.replicate, List.cons_append, List.nil_append, List.map_cons, List.map_nil, Option.bind_some, Option.map_some, Option.bind_none, Option.map_none, if_true, if_false, decide_true, decide_false, Bool.false_eq_true, Bool.true_eq_false, Bool.not_true, Bool.not_false, reduceCtorEq, Bool.and_true, Bool.true_and, Bool.and_false, Bool.false_and, Bool.or_true, Bool.true_or, Bool.or_false, Bool.false_or, true_and, and_true, false_and, and_false, List.take_zero, List.take_succ_cons, List.drop_zero, List.drop_succ_cons, List.take_nil, List.drop_nil, List.set_cons_zero, List.set_cons_succ, Nat.reduceLeDiff, Nat.reduceLT, Nat.zero_add, Nat.lt_add_one, Nat.le_refl, clearA, Int.toNat_natCast, this, hn 1 (by omega), hn 2 (by omega), hn 3 (by omega), hn 4 (by omega), hn 5 (by omega), hn 6 (by omega), hn 7 (by omega), hn 8 (by omega), hn 9 (by omega), hn 10 (by omega), hn 11 (by omega), hn 12 (by omega), hn 13 (by omega), hn 14 (by omega), hn 15 (by omega), hn 16 (by omega), hn 17 (by omega), hn 18 (by omega), hn 19 (by omega), hn 20 (by omega), hn 21 (by omega)]
  · by_cases h2 : 21 < op
    · have hn : ∀ k : Int, k ≤ 21 → decide (op = k) = false := fun k hk => by rw [decide_eq_false_iff_not]; omega
      have : partsX op = -1 := by unfold partsX; split <;> omega
      simp only [sim, List.length_cons, List.length_nil, Nat.reduceAdd, Nat.reduceSub, List.replicate, List.cons_append, List.nil_append, List.map_cons, List.map_nil, Option.bind_some, Option.map_some, Option.bind_none, Option.map_none, if_true, if_false, decide_true, decide_false, Bool.false_eq_true, Bool.true_eq_false, Bool.not_true, Bool.not_false, reduceCtorEq, Bool.and_true, Bool.true_and, Bool.and_false, Bool.false_and, Bool.or_true, Bool.true_or, Bool.or_false, Bool.false_or, true_and, and_true, false_and, and_false, List.take_zero, List.take_succ_cons, List.drop_zero, List.drop_succ_cons, List.take_nil, List.drop_nil, List.set_cons_zero, List.set_cons_succ, Nat.reduceLeDiff, Nat.reduceLT, Nat.zero_add, Nat.lt_add_one, Nat.le_refl, clearA, Int.toNat_natCast, this, hn 1 (by omega), hn 2 (by omega), hn 3 (by omega), hn 4 (by omega), hn 5 (by omega), hn 6 (by omega), hn 7 (by omega), hn 8 (by omega), hn 9 (by omega), hn 10 (by omega), hn 11 (by omega), hn 12 (by omega), hn 13 (by omega), hn 14 (by omega), hn 15 (by omega), hn 16 (by omega), hn 17 (by omega), hn 18 (by omega), hn 19 (by omega), hn 20 (by omega), hn 21 (by omega)]
    · rcases op_cases h1 h2 with rfl | rfl | rfl | rfl | rfl | rfl | rfl | rfl | rfl | rfl | rfl | rfl | rfl | rfl | rfl | rfl | rfl | rfl | rfl | rfl | rfl <;>
        (simp only [sim, List.length_cons, List.length_nil, Nat.reduceAdd, Nat.reduceSub, List.replicate, List.cons_append, List.nil_append, List.map_cons, List.map_nil, Option.bind_some, Option.map_some, Option.bind_none, Option.map_none, if_true, if_false, decide_true, decide_false, Bool.false_eq_true, Bool.true_eq_false, Bool.not_true, Bool.not_false, reduceCtorEq, Bool.and_true, Bool.true_and, Bool.and_false, Bool.false_and, Bool.or_true, Bool.true_or, Bool.or_false, Bool.false_or, true_and, and_true, false_and, and_false, List.take_zero, List.take_succ_cons, List.drop_zero, List.drop_succ_cons, List.take_nil, List.drop_nil, List.set_cons_zero, List.set_cons_succ, Nat.reduceLeDiff, Nat.reduceLT, Nat.zero_add, Nat.lt_add_one, Nat.le_refl, clearA, Int.toNat_natCast, Int.reduceEq]; rfl)
theorem rF_run (c a : Int) : runF Tryd.prog po 52 [.int .i64 c, .int .i64 a] h = some (.inl (.agg [.int .i64 c, .int .i64 a]), h) := by
  refine runF_R fn_rF rfl ?_; unfold rc_rF
  simp only [sim, List.length_cons, List.length_nil, Nat.reduceAdd, Nat.reduceSub, List.replicate, List.cons_append, List.nil_append, List.map_cons, List.map_nil, Option.bind_some, Option.map_some, Option.bind_none, Option.map_none, if_true, if_false, decide_true, decide_false, Bool.false_eq_true, Bool.true_eq_false, Bool.not_true, Bool.not_false, reduceCtorEq, Bool.and_true, Bool.true_and, Bool.and_false, Bool.false_and, Bool.or_true, Bool.true_or, Bool.or_false, Bool.false_or, true_and, and_true, false_and, and_false, List.take_zero, List.take_succ_cons, List.drop_zero, List.drop_succ_cons, List.take_nil, List.drop_nil, List.set_cons_zero, List.set_cons_succ, Nat.reduceLeDiff, Nat.reduceLT, Nat.zero_add, Nat.lt_add_one, Nat.le_refl, clearA, Int.toNat_natCast, fg_yes (GrewA.push h _) (rfl : wkA (.agg [.int .i64 c, .int .i64 a]) = _)]

theorem Great_loop (v : AV) (L : List XD) (hv : ModV h v L) (hL : L.length ≤ 20) (v0 v4 : AV) : ∀ (l pre : List XD) (v5 v6 : AV), L = pre ++ l →
    cFR true [.v 2] h (runR (runF Tryd.prog po) 7 [.lp rc_GreatModule_b1, .ss [], .blk 0, .ss [.ops [(.i (.v 2) (.mv (.c (.bool false))))], .ret]] [v0, .ptr h.n 0 0, .bool false, .int .i64 pre.length, v4, v5, v6] [] (h.push [[v]])) =
      some (.inl (.bool (l.any fun x => decide (600 < x.size))), h) := by
  intro l
  induction l with
  | nil =>
    intro pre v5 v6 e
    have e' : L = pre := by simpa using e
    have hlt : ¬ ((pre.length : Int) < (L.length : Int)) := by rw [e']; omega
    rw [r_lpb rc_GreatModule_b1.eq_1]
    simp only [sim, List.length_cons, List.length_nil, Nat.reduceAdd, Nat.reduceSub, List.replicate, List.cons_append, List.nil_append, List.map_cons, List.map_nil, Option.bind_some, Option.map_some, Option.bind_none, Option.map_none, if_true, if_false, decide_true, decide_false, Bool.false_eq_true, Bool.true_eq_false, Bool.not_true, Bool.not_false, reduceCtorEq, Bool.and_true, Bool.true_and, Bool.and_false, Bool.false_and, Bool.or_true, Bool.true_or, Bool.or_false, Bool.false_or, true_and, and_true, false_and, and_false, List.take_zero, List.take_succ_cons, List.drop_zero, List.drop_succ_cons, List.take_nil, List.drop_nil, List.set_cons_zero, List.set_cons_succ, Nat.reduceLeDiff, Nat.reduceLT, Nat.zero_add, Nat.lt_add_one, Nat.le_refl, clearA, Int.toNat_natCast, hv.len, hv.fits, hlt, List.any_nil, fg_yes (GrewA.push h _) (rfl : wkA (.bool false) = _)]
  | cons y l ih =>
    intro pre v5 v6 e
    have hlt : (pre.length : Int) < (L.length : Int) := by rw [e]; simp; omega
    obtain ⟨a, q, i1, i2, i3⟩ := hv.ix pre.length y (by rw [e]; simp)
    have i2' := i2 _ (GrewA.push h [[v]])
    have cy := CountOf_run _ y (Nat.le_refl _) q (h.push [[v]]) 600 i3 (by omega) (by omega)
    have hw := w64 (n := (pre.length : Int) + 1) (by rw [e] at hL; simp at hL; omega) (by rw [e] at hL; simp at hL; omega)
    rw [r_lpb rc_GreatModule_b1.eq_1]
    by_cases hb : 600 < y.size
    · have hb2 : (600 : Int) < min (y.size : Int) (600 + 1) := by omega
      simp only [sim, List.length_cons, List.length_nil, Nat.reduceAdd, Nat.reduceSub, List.replicate, List.cons_append, List.nil_append, List.map_cons, List.map_nil, Option.bind_some, Option.map_some, Option.bind_none, Option.map_none, if_true, if_false, decide_true, decide_false, Bool.false_eq_true, Bool.true_eq_false, Bool.not_true, Bool.not_false, reduceCtorEq, Bool.and_true, Bool.true_and, Bool.and_false, Bool.false_and, Bool.or_true, Bool.true_or, Bool.or_false, Bool.false_or, true_and, and_true, false_and, and_false, List.take_zero, List.take_succ_cons, List.drop_zero, List.drop_succ_cons, List.take_nil, List.drop_nil, List.set_cons_zero, List.set_cons_succ, Nat.reduceLeDiff, Nat.reduceLT, Nat.zero_add, Nat.lt_add_one, Nat.le_refl, clearA, Int.toNat_natCast, hv.len, hv.fits, hlt, i1, i2', cy, hb2, List.any_cons, hb, fg_yes (GrewA.push h _) (rfl : wkA (.bool true) = _)]
    · have hb2 : ¬ (600 : Int) < min (y.size : Int) (600 + 1) := by omega
      have r1 := ih (pre ++ [y]) (.bool true) (.bool false) (by simp [e])
      have e2 : ((pre ++ [y]).length : Int) = (pre.length : Int) + 1 := by simp
      rw [e2] at r1
      simp only [sim, List.length_cons, List.length_nil, Nat.reduceAdd, Nat.reduceSub, List.replicate, List.cons_append, List.nil_append, List.map_cons, List.map_nil, Option.bind_some, Option.map_some, Option.bind_none, Option.map_none, if_true, if_false, decide_true, decide_false, Bool.false_eq_true, Bool.true_eq_false, Bool.not_true, Bool.not_false, reduceCtorEq, Bool.and_true, Bool.true_and, Bool.and_false, Bool.false_and, Bool.or_true, Bool.true_or, Bool.or_false, Bool.false_or, true_and, and_true, false_and, and_false, List.take_zero, List.take_succ_cons, List.drop_zero, List.drop_succ_cons, List.take_nil, List.drop_nil, List.set_cons_zero, List.set_cons_succ, Nat.reduceLeDiff, Nat.reduceLT, Nat.zero_add, Nat.lt_add_one, Nat.le_refl, clearA, Int.toNat_natCast, hv.len, hv.fits, hlt, i1, i2', cy, hb2, List.any_cons, hb, hw]
      exact r1
theorem Great_run (v : AV) (L : List XD) (hv : ModV h v L) : runF Tryd.prog po 26 [.agg [v]] h = some (.inl (.bool (greatX L)), h) := by
  refine runF_R fn_GreatModule rfl ?_; unfold rc_GreatModule
  have h1 := hv.one
  by_cases hb : 20 < L.length
  · have hb2 : (20 : Int) < (L.length : Int) := by omega
    simp only [sim, List.length_cons, List.length_nil, Nat.reduceAdd, Nat.reduceSub, List.replicate, List.cons_append, List.nil_append, List.map_cons, List.map_nil, Option.bind_some, Option.map_some, Option.bind_none, Option.map_none, if_true, if_false, decide_true, decide_false, Bool.false_eq_true, Bool.true_eq_false, Bool.not_true, Bool.not_false, reduceCtorEq, Bool.and_true, Bool.true_and, Bool.and_false, Bool.false_and, Bool.or_true, Bool.true_or, Bool.or_false, Bool.false_or, true_and, and_true, false_and, and_false, List.take_zero, List.take_succ_cons, List.drop_zero, List.drop_succ_cons, List.take_nil, List.drop_nil, List.set_cons_zero, List.set_cons_succ, Nat.reduceLeDiff, Nat.reduceLT, Nat.zero_add, Nat.lt_add_one, Nat.le_refl, clearA, Int.toNat_natCast, h1, hv.len, hv.fits, hb2, greatX, hb, fg_yes (GrewA.push h _) (rfl : wkA (.bool true) = _)]
  · have hb2 : ¬ (20 : Int) < (L.length : Int) := by omega
    have r1 := Great_loop v L hv (by omega) (.agg [v]) (.bool false) L [] .junk .junk rfl
    simp only [List.length_nil, Int.natCast_zero] at r1
    simp only [sim, List.length_cons, List.length_nil, Nat.reduceAdd, Nat.reduceSub, List.replicate, List.cons_append, List.nil_append, List.map_cons, List.map_nil, Option.bind_some, Option.map_some, Option.bind_none, Option.map_none, if_true, if_false, decide_true, decide_false, Bool.false_eq_true, Bool.true_eq_false, Bool.not_true, Bool.not_false, reduceCtorEq, Bool.and_true, Bool.true_and, Bool.and_false, Bool.false_and, Bool.or_true, Bool.true_or, Bool.or_false, Bool.false_or, true_and, and_true, false_and, and_false, List.take_zero, List.take_succ_cons, List.drop_zero, List.drop_succ_cons, List.take_nil, List.drop_nil, List.set_cons_zero, List.set_cons_succ, Nat.reduceLeDiff, Nat.reduceLT, Nat.zero_add, Nat.lt_add_one, Nat.le_refl, clearA, Int.toNat_natCast, h1, hv.len, hv.fits, hb2, greatX, hb]
    exact r1
end
end Go.Proofs.YtodehiopdkgoeaaDoor
