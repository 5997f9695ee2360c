/- code in the plain model: kinds and numbers of expressions. code in the plain model: how many expressions, how deep. code in the plain model: kinds, modules. code in the plain model: what is asked of each in a list; the same. code in the plain model: the same. code in the plain model: copies. The functions of the part 'rights' as lists of steps. code in the plain model: the judge. code in the plain model: what the judge says of an expression. code in the plain model: the judge and the document go through an expression. code in the plain model: the document's walk through an expression. code in the plain model: modules are judged. -/
import Derived.Test.YtngphebjmmencaaDoorMg9
namespace Go.Proofs.YtngphebjmmencaaDoor
set_option linter.unusedSimpArgs false
set_option linter.unusedVariables false
open Go

section
variable {h : AH}
theorem op_cases {op : Int} (h1 : ¬ op < 1) (h2 : ¬ 21 < op) : op = 1 ∨ op = 2 ∨ op = 3 ∨ op = 4 ∨ op = 5 ∨ op = 6 ∨ op = 7 ∨ op = 8 ∨ op = 9 ∨ op = 10 ∨ op = 11 ∨ op = 12 ∨ op = 13 ∨ op = 14 ∨ op = 15 ∨ op = 16 ∨ op = 17 ∨ op = 18 ∨ op = 19 ∨ op = 20 ∨ op = 21 := by omega
theorem c_Parts (op : Int) : runF Tryd.prog po 39 [.int .i64 op] h = some (.inl (.int .i64 (partsX op)), h) := by
  refine runF_R fn_cParts rfl ?_; unfold rc_cParts
  by_cases h1 : op < 1
  · have : partsX op = -1 := by unfold partsX; split <;> omega
    simp only [sim, simB, Nat.reduceAdd, Nat.reduceSub, List.replicate, reduceCtorEq, Nat.reduceLeDiff, Nat.reduceLT, clearA, h1, this, fg_yes (GrewA.refl h) (rfl : wkA (.int .i64 (-1)) = _)]
  · by_cases h2 : 21 < op
    · have : partsX op = -1 := by unfold partsX; split <;> omega
      simp only [sim, simB, Nat.reduceAdd, Nat.reduceSub, List.replicate, reduceCtorEq, Nat.reduceLeDiff, Nat.reduceLT, clearA, h1, h2, this, fg_yes (GrewA.refl h) (rfl : wkA (.int .i64 (-1)) = _)]
    · have hix : ixR false (some (22, (1, false))) (.agg [(.int .i64 0), (.int .i64 0), (.int .i64 0), (.int .i64 0), (.int .i64 0), (.int .i64 2), (.int .i64 2), (.int .i64 3), (.int .i64 2), (.int .i64 1), (.int .i64 1), (.int .i64 1), (.int .i64 1), (.int .i64 1), (.int .i64 2), (.int .i64 1), (.int .i64 1), (.int .i64 1), (.int .i64 1), (.int .i64 2), (.int .i64 1), (.int .i64 0)]) (.int .i64 op) = some (.int .i64 (partsX op)) := by
        rcases op_cases h1 h2 with rfl | rfl | rfl | rfl | rfl | rfl | rfl | rfl | rfl | rfl | rfl | rfl | rfl | rfl | rfl | rfl | rfl | rfl | rfl | rfl | rfl <;> rfl
      simp only [sim, simB, Nat.reduceAdd, Nat.reduceSub, List.replicate, reduceCtorEq, Nat.reduceLeDiff, Nat.reduceLT, clearA, h1, h2, hix]

end
end Go.Proofs.YtngphebjmmencaaDoor
namespace Go.Proofs.YtngphebjmmencaaDoor
set_option linter.unusedSimpArgs false
set_option linter.unusedVariables false
open Go

section
variable {h : AH}
/-! ### CountOf -/
theorem CountOf_loop (x : XD) (v : AV) (es : List (List AV)) (hl : IsL tE v es) (hn : es.length = x.l.length) (hv : v.one = true) (most : Int) (h0 : 0 ≤ most) (hm : most ≤ 100000)
    (hix : ∀ (i : Nat) (y : XD), x.l[i]? = some y → ∃ q, ixaR (some tE) none v (.int .i64 (i : Int)) = some (.ip q 0) ∧ ldA true 4 q 0 = some (.agg q) ∧ ExA y q)
    (hc : ∀ y ∈ x.l, ∀ (q : List AV) (h : AH) (m : Int), ExA y q → 0 ≤ m → m ≤ 100000 → runF Tryd.prog po 41 [.agg q, .int .i64 m] h = some (.inl (.int .i64 (min (y.size : Int) (m + 1))), h))
    (v0 v3 : AV) (K : List RK) : ∀ (l pre : List XD) (v6 : AV), x.l = pre ++ l →
    ∃ w5 w6, runR (runF Tryd.prog po) 7 (.lp rc_CountOf_b1 :: .ss [] :: .blk 0 :: K) [v0, .int .i64 most, .ptr h.n 0 0, v3, .int .i64 (min (1 + (sizesX pre : Int)) (most + 1)), .int .i64 pre.length, v6] [] (h.push [[.int .i64 x.op, .int .i64 x.k, .int .i64 x.n, v]]) =
      runR (runF Tryd.prog po) 7 K [v0, .int .i64 most, .ptr h.n 0 0, v3, .int .i64 (min (x.size : Int) (most + 1)), w5, w6] [] (h.push [[.int .i64 x.op, .int .i64 x.k, .int .i64 x.n, v]]) := by
  intro l
  induction l with
  | nil =>
    intro pre v6 e
    have e' : x.l = pre := by simpa using e
    have hlt : ¬ ((pre.length : Int) < (es.length : Int)) := by rw [hn, e']; omega
    refine ⟨.int .i64 pre.length, .bool false, ?_⟩
    rw [r_lpb rc_CountOf_b1.eq_1]
    have es : (1 + (sizesX pre : Int)) = (x.size : Int) := by rw [x.size_eq, e']; omega
    simp only [sim, simB, Nat.reduceAdd, Nat.reduceSub, List.replicate, reduceCtorEq, Nat.reduceLeDiff, Nat.reduceLT, clearA, hl.len, hl.fits, hlt, es]
  | cons y l ih =>
    intro pre v6 e
    have hlt : (pre.length : Int) < (es.length : Int) := by rw [hn, e]; simp; omega
    obtain ⟨q, i1, i2, i3⟩ := hix pre.length y (by rw [e]; simp)
    have hsz : (x.size : Int) = 1 + (sizesX pre : Int) + (y.size : Int) + (sizesX l : Int) := by rw [x.size_eq, e, sizesX_append]; simp [sizesX]; omega
    have hyp := y.size_pos
    have hlen := x.len_size
    rw [r_lpb rc_CountOf_b1.eq_1]
    by_cases hle : min (1 + (sizesX pre : Int)) (most + 1) ≤ most
    · have hmin : min (1 + (sizesX pre : Int)) (most + 1) = 1 + (sizesX pre : Int) := by omega
      rw [hmin] at hle
      have hpl : (pre.length : Int) ≤ sizesX pre := by
        have : ∀ l : List XD, l.length ≤ sizesX l := by
          intro l
          induction l with
          | nil => simp
          | cons y l ih =>
            have := y.size_pos
            simp only [sizesX, List.length_cons]
            omega
        have := this pre
        omega
      have hw1 := w64 (n := most - (1 + (sizesX pre : Int))) (by omega) (by omega)
      have hw2 := w64 (n := (1 + (sizesX pre : Int)) + min (y.size : Int) (most - (1 + (sizesX pre : Int)) + 1)) (by omega) (by omega)
      have hw3 := w64 (n := (pre.length : Int) + 1) (by omega) (by omega)
      have cy := hc y (by rw [e]; simp) q (h.push [[.int .i64 x.op, .int .i64 x.k, .int .i64 x.n, v]]) (most - (1 + (sizesX pre : Int))) i3 (by omega) (by omega)
      obtain ⟨w5, w6, r1⟩ := ih (pre ++ [y]) (.bool true) (by simp [e])
      have e2 : ((pre ++ [y]).length : Int) = (pre.length : Int) + 1 := by simp
      have e3 : min (1 + (sizesX (pre ++ [y]) : Int)) (most + 1) = (1 + (sizesX pre : Int)) + min (y.size : Int) (most - (1 + (sizesX pre : Int)) + 1) := by
        rw [sizesX_append, sizesX_one]
        omega
      rw [e2, e3] at r1
      refine ⟨w5, w6, ?_⟩
      simp only [sim, simB, Nat.reduceAdd, Nat.reduceSub, List.replicate, reduceCtorEq, Nat.reduceLeDiff, Nat.reduceLT, clearA, hl.len, hl.fits, hlt, hmin, hle, i1, i2, hw1, cy, hw2, hw3]
      exact r1
    · have hmin : min (1 + (sizesX pre : Int)) (most + 1) = most + 1 := by omega
      have hmin2 : min (x.size : Int) (most + 1) = most + 1 := by omega
      have hgt : ¬ (most + 1 ≤ most) := by omega
      refine ⟨.int .i64 pre.length, .bool false, ?_⟩
      simp only [sim, simB, Nat.reduceAdd, Nat.reduceSub, List.replicate, reduceCtorEq, Nat.reduceLeDiff, Nat.reduceLT, clearA, hl.len, hl.fits, hlt, hmin, hmin2, hgt]

theorem CountOf_run : ∀ (N : Nat) (x : XD), SizeOf.sizeOf x ≤ N → ∀ (r : List AV) (h : AH) (most : Int), ExA x r → 0 ≤ most → most ≤ 100000 →
    runF Tryd.prog po 41 [.agg r, .int .i64 most] h = some (.inl (.int .i64 (min (x.size : Int) (most + 1))), h) := by
  intro N
  induction N with
  | zero => intro x hx; have := x.so_pos; omega
  | succ N ih =>
    intro x hx r h most he h0 hm
    obtain ⟨v, es, rfl, hl, hv, hn, hix⟩ := he.facts
    obtain ⟨w5, w6, r1⟩ := CountOf_loop (h := h) x v es hl hn hv most h0 hm hix (fun y hy q h m hq => ih y (by have := XD.lt_mem hy; omega) q h m hq) (.agg [.int .i64 x.op, .int .i64 x.k, .int .i64 x.n, v]) (.int .i64 0) [.ss [.ops [(.i .l (.mv (.v 4))), (.i (.v 3) (.mv (.l 0)))], .ret]] x.l [] .junk rfl
    have em : min (1 + (sizesX [] : Int)) (most + 1) = 1 := by simp only [sizesX]; omega
    rw [em] at r1
    simp only [List.length_nil, Int.natCast_zero] at r1
    refine runF_R fn_CountOf rfl ?_; unfold rc_CountOf
    simp only [sim, simB, Nat.reduceAdd, Nat.reduceSub, List.replicate, reduceCtorEq, Nat.reduceLeDiff, Nat.reduceLT, clearA, hv, r1, fg_yes (GrewA.push h _) (rfl : wkA (.int .i64 (min (x.size : Int) (most + 1))) = _)]

/-! ### DeepOf -/
theorem DeepOf_loop (x : XD) (v : AV) (es : List (List AV)) (hl : IsL tE v es) (hn : es.length = x.l.length) (hv : v.one = true) (most : Int) (h0 : 0 ≤ most) (hm : most ≤ 100000) (hf : x.l.length ≤ 100000)
    (hix : ∀ (i : Nat) (y : XD), x.l[i]? = some y → ∃ q, ixaR (some tE) none v (.int .i64 (i : Int)) = some (.ip q 0) ∧ ldA true 4 q 0 = some (.agg q) ∧ ExA y q)
    (hc : ∀ y ∈ x.l, ∀ (q : List AV) (h : AH) (m : Int), ExA y q → 0 ≤ m → m ≤ 100000 → runF Tryd.prog po 40 [.agg q, .int .i64 m] h = some (.inl (.int .i64 (min (y.depth : Int) (m + 1))), h))
    (v0 v3 : AV) (K : List RK) : ∀ (l pre : List XD) (v6 v7 v8 v9 : AV), x.l = pre ++ l →
    ∃ w5 w6 w7 w8 w9, runR (runF Tryd.prog po) 10 (.lp rc_DeepOf_b1 :: .ss [] :: .blk 0 :: K) [v0, .int .i64 most, .ptr h.n 0 0, v3, .int .i64 (min (depthsX pre : Int) (most + 1)), .int .i64 pre.length, v6, v7, v8, v9] [] (h.push [[.int .i64 x.op, .int .i64 x.k, .int .i64 x.n, v]]) =
      runR (runF Tryd.prog po) 10 K [v0, .int .i64 most, .ptr h.n 0 0, v3, .int .i64 (min (x.depth : Int) (most + 1)), w5, w6, w7, w8, w9] [] (h.push [[.int .i64 x.op, .int .i64 x.k, .int .i64 x.n, v]]) := by
  intro l
  induction l with
  | nil =>
    intro pre v6 v7 v8 v9 e
    have e' : x.l = pre := by simpa using e
    have hlt : ¬ ((pre.length : Int) < (es.length : Int)) := by rw [hn, e']; omega
    refine ⟨.int .i64 pre.length, v6, .bool false, v8, v9, ?_⟩
    rw [r_lpb rc_DeepOf_b1.eq_1]
    have es : depthsX pre = x.depth := by rw [x.depth_eq, e']
    simp only [sim, simB, Nat.reduceAdd, Nat.reduceSub, List.replicate, reduceCtorEq, Nat.reduceLeDiff, Nat.reduceLT, clearA, hl.len, hl.fits, hlt, es]
  | cons y l ih =>
    intro pre v6 v7 v8 v9 e
    have hlt : (pre.length : Int) < (es.length : Int) := by rw [hn, e]; simp; omega
    obtain ⟨q, i1, i2, i3⟩ := hix pre.length y (by rw [e]; simp)
    have hdx : x.depth = max (depthsX pre) (max (1 + y.depth) (depthsX l)) := by rw [x.depth_eq, e, depthsX_append]; simp [depthsX]
    have hpl : pre.length ≤ 100000 := by rw [e] at hf; simp at hf; omega
    have hw3 := w64 (n := (pre.length : Int) + 1) (by omega) (by omega)
    rw [r_lpb rc_DeepOf_b1.eq_1]
    by_cases hle : min (depthsX pre : Int) (most + 1) ≤ most
    · have hmin : min (depthsX pre : Int) (most + 1) = (depthsX pre : Int) := by omega
      rw [hmin] at hle
      obtain ⟨w5, w6, w7, w8, w9, r1⟩ := ih (pre ++ [y]) (.int .i64 (1 + min (y.depth : Int) most)) (.bool true) (.bool (decide (0 < most))) (.bool (decide ((depthsX pre : Int) < 1 + min (y.depth : Int) most))) (by simp [e])
      have e2 : ((pre ++ [y]).length : Int) = (pre.length : Int) + 1 := by simp
      have e3 : min (depthsX (pre ++ [y]) : Int) (most + 1) = max (depthsX pre : Int) (1 + min (y.depth : Int) most) := by
        rw [depthsX_append, depthsX_one]
        omega
      rw [e2, e3] at r1
      have hw2 := w64 (n := 1 + min (y.depth : Int) most) (by omega) (by omega)
      refine ⟨w5, w6, w7, w8, w9, ?_⟩
      by_cases hp : 0 < most
      · have hw1 := w64 (n := most - 1) (by omega) (by omega)
        have cy := hc y (by rw [e]; simp) q (h.push [[.int .i64 x.op, .int .i64 x.k, .int .i64 x.n, v]]) (most - 1) i3 (by omega) (by omega)
        rw [show most - 1 + 1 = most by omega] at cy
        by_cases hb : (depthsX pre : Int) < 1 + min (y.depth : Int) most
        · have e4 : max (depthsX pre : Int) (1 + min (y.depth : Int) most) = 1 + min (y.depth : Int) most := by omega
          simp only [hp, hb, e4, decide_true] at r1
          simp only [sim, simB, Nat.reduceAdd, Nat.reduceSub, List.replicate, reduceCtorEq, Nat.reduceLeDiff, Nat.reduceLT, clearA, hl.len, hl.fits, hlt, hmin, hle, hp, i1, i2, hw1, cy, hw2, hb, hw3]
          exact r1
        · have e4 : max (depthsX pre : Int) (1 + min (y.depth : Int) most) = (depthsX pre : Int) := by omega
          simp only [hp, hb, e4, decide_true, decide_false] at r1
          simp only [sim, simB, Nat.reduceAdd, Nat.reduceSub, List.replicate, reduceCtorEq, Nat.reduceLeDiff, Nat.reduceLT, clearA, hl.len, hl.fits, hlt, hmin, hle, hp, i1, i2, hw1, cy, hw2, hb, hw3]
          exact r1
      · have hz : min (y.depth : Int) most = 0 := by omega
        rw [hz] at r1
        simp only [Int.add_zero] at r1
        by_cases hb : (depthsX pre : Int) < 1
        · have e4 : max (depthsX pre : Int) 1 = 1 := by omega
          simp only [hp, hb, e4, decide_true, decide_false] at r1
          simp only [sim, simB, Nat.reduceAdd, Nat.reduceSub, List.replicate, reduceCtorEq, Nat.reduceLeDiff, Nat.reduceLT, clearA, hl.len, hl.fits, hlt, hmin, hle, hp, hb, hw3]
          exact r1
        · have e4 : max (depthsX pre : Int) 1 = (depthsX pre : Int) := by omega
          simp only [hp, hb, e4, decide_false] at r1
          simp only [sim, simB, Nat.reduceAdd, Nat.reduceSub, List.replicate, reduceCtorEq, Nat.reduceLeDiff, Nat.reduceLT, clearA, hl.len, hl.fits, hlt, hmin, hle, hp, hb, hw3]
          exact r1
    · have hmin : min (depthsX pre : Int) (most + 1) = most + 1 := by omega
      have hmin2 : min (x.depth : Int) (most + 1) = most + 1 := by omega
      have hgt : ¬ (most + 1 ≤ most) := by omega
      refine ⟨.int .i64 pre.length, v6, .bool false, v8, v9, ?_⟩
      simp only [sim, simB, Nat.reduceAdd, Nat.reduceSub, List.replicate, reduceCtorEq, Nat.reduceLeDiff, Nat.reduceLT, clearA, hl.len, hl.fits, hlt, hmin, hmin2, hgt]

theorem XD.size_mem {x y : XD} (h : y ∈ x.l) : y.size < x.size := by
  have : ∀ l : List XD, y ∈ l → y.size ≤ sizesX l := by
    intro l
    induction l with
    | nil => intro hm; simp at hm
    | cons z l ih =>
      intro hm
      simp only [sizesX]
      rcases List.mem_cons.1 hm with rfl | hm
      · omega
      · have := ih hm; omega
  have := this x.l h
  rw [x.size_eq]
  omega

theorem DeepOf_run : ∀ (N : Nat) (x : XD), SizeOf.sizeOf x ≤ N → x.size ≤ 100000 → ∀ (r : List AV) (h : AH) (most : Int), ExA x r → 0 ≤ most → most ≤ 100000 →
    runF Tryd.prog po 40 [.agg r, .int .i64 most] h = some (.inl (.int .i64 (min (x.depth : Int) (most + 1))), h) := by
  intro N
  induction N with
  | zero => intro x hx; have := x.so_pos; omega
  | succ N ih =>
    intro x hx hsz r h most he h0 hm
    obtain ⟨v, es, rfl, hl, hv, hn, hix⟩ := he.facts
    have hlen := x.len_size
    obtain ⟨w5, w6, w7, w8, w9, r1⟩ := DeepOf_loop (h := h) x v es hl hn hv most h0 hm (by omega) hix (fun y hy q h m hq => ih y (by have := XD.lt_mem hy; omega) (by have := XD.size_mem hy; omega) q h m hq) (.agg [.int .i64 x.op, .int .i64 x.k, .int .i64 x.n, v]) (.int .i64 0) [.ss [.ops [(.i .l (.mv (.v 4))), (.i (.v 3) (.mv (.l 0)))], .ret]] x.l [] .junk .junk .junk .junk rfl
    have em : min (depthsX [] : Int) (most + 1) = 0 := by simp only [depthsX]; omega
    rw [em] at r1
    simp only [List.length_nil, Int.natCast_zero] at r1
    refine runF_R fn_DeepOf rfl ?_; unfold rc_DeepOf
    simp only [sim, simB, Nat.reduceAdd, Nat.reduceSub, List.replicate, reduceCtorEq, Nat.reduceLeDiff, Nat.reduceLT, clearA, hv, r1, fg_yes (GrewA.push h _) (rfl : wkA (.int .i64 (min (x.depth : Int) (most + 1))) = _)]

/-! ### count -/
theorem ccount_loop (x : XD) (v : AV) (es : List (List AV)) (hl : IsL tE v es) (hn : es.length = x.l.length) (hv : v.one = true) (c : Int) (h0 : 0 ≤ c) (hm : c ≤ 100000)
    (hix : ∀ (i : Nat) (y : XD), x.l[i]? = some y → ∃ q, ixaR (some tE) none v (.int .i64 (i : Int)) = some (.ip q 0) ∧ ldA true 4 q 0 = some (.agg q) ∧ ExA y q)
    (hc : ∀ y ∈ x.l, ∀ (q : List AV) (h : AH) (m : Int), ExA y q → 0 ≤ m → m ≤ 100000 → runF Tryd.prog po 58 [.agg q, .int .i64 m] h = some (.inl (.int .i64 (max (m - y.size) (-1))), h))
    (v0 v3 : AV) (K : List RK) : ∀ (l pre : List XD) (v5 : AV), x.l = pre ++ l →
    ∃ w4 w5, runR (runF Tryd.prog po) 6 (.lp rc_ccount_b1 :: .ss [] :: .blk 0 :: K) [v0, .int .i64 (max (c - 1 - sizesX pre) (-1)), .ptr h.n 0 0, v3, .int .i64 pre.length, v5] [] (h.push [[.int .i64 x.op, .int .i64 x.k, .int .i64 x.n, v]]) =
      runR (runF Tryd.prog po) 6 K [v0, .int .i64 (max (c - x.size) (-1)), .ptr h.n 0 0, v3, w4, w5] [] (h.push [[.int .i64 x.op, .int .i64 x.k, .int .i64 x.n, v]]) := by
  intro l
  induction l with
  | nil =>
    intro pre v5 e
    have e' : x.l = pre := by simpa using e
    have hlt : ¬ ((pre.length : Int) < (es.length : Int)) := by rw [hn, e']; omega
    refine ⟨.int .i64 pre.length, .bool false, ?_⟩
    rw [r_lpb rc_ccount_b1.eq_1]
    have es : c - 1 - (sizesX pre : Int) = c - x.size := by rw [x.size_eq, e']; omega
    simp only [sim, simB, Nat.reduceAdd, Nat.reduceSub, List.replicate, reduceCtorEq, Nat.reduceLeDiff, Nat.reduceLT, clearA, hl.len, hl.fits, hlt, es]
  | cons y l ih =>
    intro pre v5 e
    have hlt : (pre.length : Int) < (es.length : Int) := by rw [hn, e]; simp; omega
    obtain ⟨q, i1, i2, i3⟩ := hix pre.length y (by rw [e]; simp)
    have hsz : (x.size : Int) = 1 + (sizesX pre : Int) + (y.size : Int) + (sizesX l : Int) := by rw [x.size_eq, e, sizesX_append]; simp [sizesX]; omega
    have hyp := y.size_pos
    rw [r_lpb rc_ccount_b1.eq_1]
    by_cases hle : 0 ≤ max (c - 1 - (sizesX pre : Int)) (-1)
    · have hmin : max (c - 1 - (sizesX pre : Int)) (-1) = c - 1 - (sizesX pre : Int) := by omega
      rw [hmin] at hle
      have hpl : (pre.length : Int) ≤ sizesX pre := by
        have : ∀ l : List XD, l.length ≤ sizesX l := by
          intro l
          induction l with
          | nil => simp
          | cons y l ih =>
            have := y.size_pos
            simp only [sizesX, List.length_cons]
            omega
        have := this pre
        omega
      have hw3 := w64 (n := (pre.length : Int) + 1) (by omega) (by omega)
      have cy := hc y (by rw [e]; simp) q (h.push [[.int .i64 x.op, .int .i64 x.k, .int .i64 x.n, v]]) (c - 1 - (sizesX pre : Int)) i3 (by omega) (by omega)
      obtain ⟨w4, w5, r1⟩ := ih (pre ++ [y]) (.bool true) (by simp [e])
      have e2 : ((pre ++ [y]).length : Int) = (pre.length : Int) + 1 := by simp
      have e3 : max (c - 1 - (sizesX (pre ++ [y]) : Int)) (-1) = max (c - 1 - (sizesX pre : Int) - (y.size : Int)) (-1) := by
        rw [sizesX_append, sizesX_one]
        omega
      rw [e2, e3] at r1
      refine ⟨w4, w5, ?_⟩
      simp only [sim, simB, Nat.reduceAdd, Nat.reduceSub, List.replicate, reduceCtorEq, Nat.reduceLeDiff, Nat.reduceLT, clearA, hl.len, hl.fits, hlt, hmin, hle, i1, i2, cy, hw3]
      exact r1
    · have hmin : max (c - 1 - (sizesX pre : Int)) (-1) = -1 := by omega
      have hmin2 : max (c - (x.size : Int)) (-1) = -1 := by omega
      have hgt : ¬ ((0 : Int) ≤ -1) := by omega
      refine ⟨.int .i64 pre.length, .bool false, ?_⟩
      simp only [sim, simB, Nat.reduceAdd, Nat.reduceSub, List.replicate, reduceCtorEq, Nat.reduceLeDiff, Nat.reduceLT, clearA, hl.len, hl.fits, hlt, hmin, hmin2, hgt]

theorem ccount_run : ∀ (N : Nat) (x : XD), SizeOf.sizeOf x ≤ N → ∀ (r : List AV) (h : AH) (c : Int), ExA x r → 0 ≤ c → c ≤ 100000 →
    runF Tryd.prog po 58 [.agg r, .int .i64 c] h = some (.inl (.int .i64 (max (c - x.size) (-1))), h) := by
  intro N
  induction N with
  | zero => intro x hx; have := x.so_pos; omega
  | succ N ih =>
    intro x hx r h c he h0 hm
    obtain ⟨v, es, rfl, hl, hv, hn, hix⟩ := he.facts
    obtain ⟨w4, w5, r1⟩ := ccount_loop (h := h) x v es hl hn hv c h0 hm hix (fun y hy q h m hq => ih y (by have := XD.lt_mem hy; omega) q h m hq) (.agg [.int .i64 x.op, .int .i64 x.k, .int .i64 x.n, v]) (.int .i64 0) [.ss [.ops [(.i .l (.mv (.v 1))), (.i (.v 3) (.mv (.l 0)))], .ret]] x.l [] .junk rfl
    have em : max (c - 1 - (sizesX [] : Int)) (-1) = c - 1 := by simp only [sizesX]; omega
    rw [em] at r1
    simp only [List.length_nil, Int.natCast_zero] at r1
    have hw := w64 (n := c - 1) (by omega) (by omega)
    refine runF_R fn_ccount rfl ?_; unfold rc_ccount
    simp only [sim, simB, Nat.reduceAdd, Nat.reduceSub, List.replicate, reduceCtorEq, Nat.reduceLeDiff, Nat.reduceLT, clearA, hv, hw, r1, fg_yes (GrewA.push h _) (rfl : wkA (.int .i64 (max (c - x.size) (-1))) = _)]
end
end Go.Proofs.YtngphebjmmencaaDoor
namespace Go.Proofs.YtngphebjmmencaaDoor
set_option linter.unusedSimpArgs false
set_option linter.unusedVariables false
open Go

/-- a slice of expressions that a walk reads -/
structure ModV (h : AH) (v : AV) (l : List XD) : Prop where
  len : lenA v = some l.length
  fits : ∀ s, fitsR s (some tE) v = true
  one : v.one = true
  ix : ∀ (i : Nat) (y : XD), l[i]? = some y → ∃ a q, ixaR (some tE) none v (.int .i64 (i : Int)) = some a ∧ (∀ h', GrewA h h' → loadA true 4 h' a = some (.agg q)) ∧ ExA y q
theorem ModV.grew {h h' : AH} {v : AV} {l : List XD} (m : ModV h v l) (g : GrewA h h') : ModV h' v l :=
  ⟨m.len, m.fits, m.one, fun i y hy => by
    obtain ⟨a, q, h1, h2, h3⟩ := m.ix i y hy
    exact ⟨a, q, h1, fun h'' g' => h2 h'' (g.trans g'), h3⟩⟩
theorem ModV.of {h : AH} {v : AV} {es : List (List AV)} {l : List XD} (hv : SlA tE v es) (hl : ExL l es) : ModV h v l := by
  refine ⟨?_, hv.isL.fits, ?_, fun i y hy => ?_⟩
  · rw [← hl.len]; exact hv.isL.len
  · rcases hv with ⟨_, rfl⟩ | ⟨id, rfl⟩ <;> rfl
  · obtain ⟨q, h1, h2⟩ := hl.get hy
    exact ⟨.ip q 0, q, hv.isL.ix .i64 i q h1, fun h' _ => ld_all h2.one.2, h2⟩
theorem ModA.modV {h : AH} {l : List XD} {r : List AV} (m : ModA l r) : ∃ v, r = [v] ∧ ModV h v l := by
  obtain ⟨v, es, rfl, hv, hl⟩ := m
  exact ⟨v, rfl, ModV.of hv hl⟩

section
variable {h : AH}
theorem r_PartsOf (op : Int) : runF Tryd.prog po 64 [.int .i64 op] h = some (.inl (.int .i64 (partsX op)), h) := by
  refine runF_R fn_PartsOf rfl ?_; unfold rc_PartsOf
  by_cases h1 : op < 1
  · have hn : ∀ k : Int, 1 ≤ k → decide (op = k) = false := fun k hk => by rw [decide_eq_false_iff_not]; omega
    have : partsX op = -1 := by unfold partsX; split <;> omega
    simp only [sim, simB, Nat.reduceAdd, Nat.reduceSub, List.replicate, reduceCtorEq, Nat.reduceLeDiff, Nat.reduceLT, clearA, this, hn 1 (by omega), hn 2 (by omega), hn 3 (by omega), hn 4 (by omega), hn 5 (by omega), hn 6 (by omega), hn 7 (by omega), hn 8 (by omega), hn 9 (by omega), hn 10 (by omega), hn 11 (by omega), hn 12 (by omega), hn 13 (by omega), hn 14 (by omega), hn 15 (by omega), hn 16 (by omega), hn 17 (by omega), hn 18 (by omega), hn 19 (by omega), hn 20 (by omega), hn 21 (by omega)]
  · by_cases h2 : 21 < op
    · have hn : ∀ k : Int, k ≤ 21 → decide (op = k) = false := fun k hk => by rw [decide_eq_false_iff_not]; omega
      have : partsX op = -1 := by unfold partsX; split <;> omega
      simp only [sim, simB, Nat.reduceAdd, Nat.reduceSub, List.replicate, reduceCtorEq, Nat.reduceLeDiff, Nat.reduceLT, clearA, this, hn 1 (by omega), hn 2 (by omega), hn 3 (by omega), hn 4 (by omega), hn 5 (by omega), hn 6 (by omega), hn 7 (by omega), hn 8 (by omega), hn 9 (by omega), hn 10 (by omega), hn 11 (by omega), hn 12 (by omega), hn 13 (by omega), hn 14 (by omega), hn 15 (by omega), hn 16 (by omega), hn 17 (by omega), hn 18 (by omega), hn 19 (by omega), hn 20 (by omega), hn 21 (by omega)]
    · rcases op_cases h1 h2 with rfl | rfl | rfl | rfl | rfl | rfl | rfl | rfl | rfl | rfl | rfl | rfl | rfl | rfl | rfl | rfl | rfl | rfl | rfl | rfl | rfl <;>
        (simp only [sim, simB, Nat.reduceAdd, Nat.reduceSub, List.replicate, reduceCtorEq, Nat.reduceLeDiff, Nat.reduceLT, clearA, Int.reduceEq]; rfl)
theorem rF_run (c a : Int) : runF Tryd.prog po 27 [.int .i64 c, .int .i64 a] h = some (.inl (.agg [.int .i64 c, .int .i64 a]), h) := by
  refine runF_R fn_rF rfl ?_; unfold rc_rF
  simp only [sim, simB, Nat.reduceAdd, Nat.reduceSub, List.replicate, reduceCtorEq, Nat.reduceLeDiff, Nat.reduceLT, clearA, fg_yes (GrewA.push h _) (rfl : wkA (.agg [.int .i64 c, .int .i64 a]) = _)]

theorem Great_loop (v : AV) (L : List XD) (hv : ModV h v L) (hL : L.length ≤ 20) (v0 v4 : AV) : ∀ (l pre : List XD) (v5 v6 : AV), L = pre ++ l →
    cFR true [.v 2] h (runR (runF Tryd.prog po) 7 [.lp rc_GreatModule_b1, .ss [], .blk 0, .ss [.ops [(.i (.v 2) (.mv (.c (.bool false))))], .ret]] [v0, .ptr h.n 0 0, .bool false, .int .i64 pre.length, v4, v5, v6] [] (h.push [[v]])) =
      some (.inl (.bool (l.any fun x => decide (600 < x.size))), h) := by
  intro l
  induction l with
  | nil =>
    intro pre v5 v6 e
    have e' : L = pre := by simpa using e
    have hlt : ¬ ((pre.length : Int) < (L.length : Int)) := by rw [e']; omega
    rw [r_lpb rc_GreatModule_b1.eq_1]
    simp only [sim, simB, Nat.reduceAdd, Nat.reduceSub, List.replicate, reduceCtorEq, Nat.reduceLeDiff, Nat.reduceLT, clearA, hv.len, hv.fits, hlt, List.any_nil, fg_yes (GrewA.push h _) (rfl : wkA (.bool false) = _)]
  | cons y l ih =>
    intro pre v5 v6 e
    have hlt : (pre.length : Int) < (L.length : Int) := by rw [e]; simp; omega
    obtain ⟨a, q, i1, i2, i3⟩ := hv.ix pre.length y (by rw [e]; simp)
    have i2' := i2 _ (GrewA.push h [[v]])
    have cy := CountOf_run _ y (Nat.le_refl _) q (h.push [[v]]) 600 i3 (by omega) (by omega)
    have hw := w64 (n := (pre.length : Int) + 1) (by rw [e] at hL; simp at hL; omega) (by rw [e] at hL; simp at hL; omega)
    rw [r_lpb rc_GreatModule_b1.eq_1]
    by_cases hb : 600 < y.size
    · have hb2 : (600 : Int) < min (y.size : Int) (600 + 1) := by omega
      simp only [sim, simB, Nat.reduceAdd, Nat.reduceSub, List.replicate, reduceCtorEq, Nat.reduceLeDiff, Nat.reduceLT, clearA, hv.len, hv.fits, hlt, i1, i2', cy, hb2, List.any_cons, hb, fg_yes (GrewA.push h _) (rfl : wkA (.bool true) = _)]
    · have hb2 : ¬ (600 : Int) < min (y.size : Int) (600 + 1) := by omega
      have r1 := ih (pre ++ [y]) (.bool true) (.bool false) (by simp [e])
      have e2 : ((pre ++ [y]).length : Int) = (pre.length : Int) + 1 := by simp
      rw [e2] at r1
      simp only [sim, simB, Nat.reduceAdd, Nat.reduceSub, List.replicate, reduceCtorEq, Nat.reduceLeDiff, Nat.reduceLT, clearA, hv.len, hv.fits, hlt, i1, i2', cy, hb2, List.any_cons, hb, hw]
      exact r1
theorem Great_run (v : AV) (L : List XD) (hv : ModV h v L) : runF Tryd.prog po 22 [.agg [v]] h = some (.inl (.bool (greatX L)), h) := by
  refine runF_R fn_GreatModule rfl ?_; unfold rc_GreatModule
  have h1 := hv.one
  by_cases hb : 20 < L.length
  · have hb2 : (20 : Int) < (L.length : Int) := by omega
    simp only [sim, simB, Nat.reduceAdd, Nat.reduceSub, List.replicate, reduceCtorEq, Nat.reduceLeDiff, Nat.reduceLT, clearA, h1, hv.len, hv.fits, hb2, greatX, hb, fg_yes (GrewA.push h _) (rfl : wkA (.bool true) = _)]
  · have hb2 : ¬ (20 : Int) < (L.length : Int) := by omega
    have r1 := Great_loop v L hv (by omega) (.agg [v]) (.bool false) L [] .junk .junk rfl
    simp only [List.length_nil, Int.natCast_zero] at r1
    simp only [sim, simB, Nat.reduceAdd, Nat.reduceSub, List.replicate, reduceCtorEq, Nat.reduceLeDiff, Nat.reduceLT, clearA, h1, hv.len, hv.fits, hb2, greatX, hb]
    exact r1
end
end Go.Proofs.YtngphebjmmencaaDoor
namespace Go.Proofs.YtngphebjmmencaaDoor
set_option linter.unusedSimpArgs false
set_option linter.unusedVariables false
open Go


section
variable {h : AH}
theorem indexE_loop (v : AV) (L : List XD) (hv : ModV h v L) (hL : L.length ≤ 100000) (g : FuncId) (a c : List AV) (p : XD → Bool)
    (hf : ∀ y ∈ L, ∀ q, ExA y q → runF Tryd.prog po g (a ++ [.agg q] ++ c) h = some (.inl (.bool (p y)), h)) : ∀ (l pre : List XD) (v2 v3 v6 v7 : AV), L = pre ++ l →
    ∃ n : Int, cFR true [.v 2] h (runR (runF Tryd.prog po) 8 [.lp rc_indexE_b1, .ss [], .blk 0, .ss [.ops [(.i (.v 2) (.mv (.c (.int .i64 (-1)))))], .ret]] [v, .fn g a c, v2, v3, .int .i64 L.length, .int .i64 pre.length, v6, v7] [] h) =
      some (.inl (.int .i64 n), h) ∧ decide (0 ≤ n) = l.any p := by
  intro l
  induction l with
  | nil =>
    intro pre v2 v3 v6 v7 e
    have e' : L = pre := by simpa using e
    have hlt : ¬ ((pre.length : Int) < (L.length : Int)) := by rw [e']; omega
    refine ⟨-1, ?_, rfl⟩
    rw [r_lpb rc_indexE_b1.eq_1]
    simp only [sim, simB, Nat.reduceAdd, Nat.reduceSub, List.replicate, reduceCtorEq, Nat.reduceLeDiff, Nat.reduceLT, clearA, hlt]
  | cons y l ih =>
    intro pre v2 v3 v6 v7 e
    have hlt : (pre.length : Int) < (L.length : Int) := by rw [e]; simp; omega
    obtain ⟨ad, q, i1, i2, i3⟩ := hv.ix pre.length y (by rw [e]; simp)
    have i2' := i2 _ (GrewA.refl h)
    have cy := hf y (by rw [e]; simp) q i3
    simp only [List.append_assoc, List.cons_append, List.nil_append] at cy
    have hw := w64 (n := (pre.length : Int) + 1) (by rw [e] at hL; simp at hL; omega) (by rw [e] at hL; simp at hL; omega)
    cases hb : p y
    · obtain ⟨n, r1, r2⟩ := ih (pre ++ [y]) v2 (.int .i64 pre.length) (.bool true) (.bool false) (by simp [e])
      have e2 : ((pre ++ [y]).length : Int) = (pre.length : Int) + 1 := by simp
      rw [e2] at r1
      refine ⟨n, ?_, by rw [r2]; simp [hb]⟩
      rw [hb] at cy
      rw [r_lpb rc_indexE_b1.eq_1]
      simp only [sim, simB, Nat.reduceAdd, Nat.reduceSub, List.replicate, reduceCtorEq, Nat.reduceLeDiff, Nat.reduceLT, clearA, calls, List.append_assoc, hlt, i1, i2', cy, hw]
      exact r1
    · refine ⟨pre.length, ?_, ?_⟩
      · rw [hb] at cy
        rw [r_lpb rc_indexE_b1.eq_1]
        simp only [sim, simB, Nat.reduceAdd, Nat.reduceSub, List.replicate, reduceCtorEq, Nat.reduceLeDiff, Nat.reduceLT, clearA, calls, List.append_assoc, hlt, i1, i2', cy]
      · simp [hb]
theorem containsE_run (v : AV) (L : List XD) (hv : ModV h v L) (hL : L.length ≤ 100000) (g : FuncId) (a c : List AV) (p : XD → Bool)
    (hf : ∀ y ∈ L, ∀ q, ExA y q → runF Tryd.prog po g (a ++ [.agg q] ++ c) h = some (.inl (.bool (p y)), h)) :
    runF Tryd.prog po 70 [v, .fn g a c] h = some (.inl (.bool (L.any p)), h) := by
  obtain ⟨n, r1, r2⟩ := indexE_loop v L hv hL g a c p hf L [] (.int .i64 0) .junk .junk .junk rfl
  simp only [List.length_nil, Int.natCast_zero] at r1
  have r0 : runF Tryd.prog po 84 [v, .fn g a c] h = some (.inl (.int .i64 n), h) := by
    refine runF_R fn_indexE rfl ?_; unfold rc_indexE
    simp only [sim, simB, Nat.reduceAdd, Nat.reduceSub, List.replicate, reduceCtorEq, Nat.reduceLeDiff, Nat.reduceLT, clearA, hv.len, hv.fits]
    exact r1
  refine runF_R fn_containsE rfl ?_; unfold rc_containsE
  simp only [sim, simB, Nat.reduceAdd, Nat.reduceSub, List.replicate, reduceCtorEq, Nat.reduceLeDiff, Nat.reduceLT, clearA, r0, r2]

theorem cdeep_run : ∀ (N : Nat) (x : XD), SizeOf.sizeOf x ≤ N → x.size ≤ 100000 → ∀ (r : List AV) (h : AH) (left : Int), ExA x r → -1 ≤ left → left ≤ 100000 →
    runF Tryd.prog po 57 [.agg r, .int .i64 left] h = some (.inl (.bool (decide ((x.depth : Int) ≤ left))), h) := by
  intro N
  induction N with
  | zero => intro x hx; have := x.so_pos; omega
  | succ N ih =>
    intro x hx hsz r h left he h0 hm
    obtain ⟨v, es, e, hv, hl⟩ := he.row
    have mv : ∀ h', ModV h' v x.l := fun h' => ModV.of hv hl
    have hv1 := (mv h).one
    subst e
    refine runF_R fn_cdeep rfl ?_; unfold rc_cdeep
    by_cases hp : 0 ≤ left
    · have hlen := x.len_size
      have ck := containsE_run (h := (h.push [[.int .i64 x.op, .int .i64 x.k, .int .i64 x.n, v]]).push [[.int .i64 left]]) v x.l (mv _) (by omega) 71 [] [.ptr (h.n + 1) 0 0] (fun y => !decide ((y.depth : Int) ≤ left - 1)) (fun y hy q hq => by
        have hw := w64 (n := left - 1) (by omega) (by omega)
        have dy := ih y (by have := XD.lt_mem hy; omega) (by have := XD.size_mem hy; omega) q (((h.push [[.int .i64 x.op, .int .i64 x.k, .int .i64 x.n, v]]).push [[.int .i64 left]]).push [q]) (left - 1) hq (by omega) (by omega)
        obtain ⟨q1, q2⟩ := hq.one
        refine runF_R fn_cdeep1 rfl ?_; unfold rc_cdeep1
        simp only [sim, simB, Nat.reduceAdd, Nat.reduceSub, List.replicate, reduceCtorEq, Nat.reduceLeDiff, Nat.reduceLT, clearA, q1, q2, hw, dy, fg_yes (GrewA.push _ _) (rfl : wkA (.bool (!decide ((y.depth : Int) ≤ left - 1))) = _)])
      simp only [sim, simB, Nat.reduceAdd, Nat.reduceSub, List.replicate, reduceCtorEq, Nat.reduceLeDiff, Nat.reduceLT, clearA, hv1, hp, ck, deep_any x hp, fg_yes ((GrewA.push h _).trans (GrewA.push _ _)) (rfl : wkA (.bool (decide ((x.depth : Int) ≤ left))) = _)]
    · have hd : decide ((x.depth : Int) ≤ left) = false := by rw [decide_eq_false_iff_not]; omega
      rw [hd]
      simp only [sim, simB, Nat.reduceAdd, Nat.reduceSub, List.replicate, reduceCtorEq, Nat.reduceLeDiff, Nat.reduceLT, clearA, hv1, hp, fg_yes ((GrewA.push h _).trans (GrewA.push _ _)) (rfl : wkA (.bool false) = _)]
end
end Go.Proofs.YtngphebjmmencaaDoor
namespace Go.Proofs.YtngphebjmmencaaDoor
set_option linter.unusedSimpArgs false
set_option linter.unusedVariables false
open Go

theorem sameX_eq (x y : XD) : sameX x y = (decide (x.op = y.op) && (decide (x.k = y.k) && (decide (x.n = y.n) && sameXs x.l y.l))) := by
  cases x; cases y
  rfl
theorem sameXs_ne {l l' : List XD} (h : decide ((l.length : Int) = (l'.length : Int)) = false) : sameXs l l' = false := by
  cases hs : sameXs l l'
  · rfl
  · have := sameXs_len hs
    simp [this] at h

section
variable {h : AH}

theorem sameExpr_loop (H : AH) (hH : GrewA h H) (C1 C2 : List AV) (v1 v2 : AV) (hb1 : H.cell h.n = some [C1]) (hb2 : H.cell (h.n + 1) = some [C2]) (hc1 : C1[3]? = some v1) (hc2 : C2[3]? = some v2) (L1 L2 : List XD) (m1 : ModV H v1 L1) (m2 : ModV H v2 L2) (hL : L1.length ≤ 100000)
    (hf : ∀ x ∈ L1, ∀ y q1 q2 h', ExA x q1 → ExA y q2 → runF Tryd.prog po 38 [.agg q1, .agg q2] h' = some (.inl (.bool (sameX x y)), h')) (v0 v00 v6 : AV) : ∀ (l1 pre1 l2 pre2 : List XD) (v7 v8 : AV), L1 = pre1 ++ l1 → L2 = pre2 ++ l2 → pre1.length = pre2.length → l1.length = l2.length →
    cFR true [.v 4] h (runR (runF Tryd.prog po) 9 [.lp rc_sameExpr_b1, .ss [], .blk 0, .ss [.ops [(.i (.v 4) (.mv (.c (.bool true))))], .ret]] [v0, v00, .ptr h.n 0 0, .ptr (h.n + 1) 0 0, .bool false, .int .i64 pre1.length, v6, v7, v8] [] H) =
      some (.inl (.bool (sameXs l1 l2)), h) := by
  intro l1
  induction l1 with
  | nil =>
    intro pre1 l2 pre2 v7 v8 e1 e2 ep el
    have hz : l2 = [] := List.length_eq_zero_iff.1 (by simpa using el.symm)
    subst hz
    have e' : L1 = pre1 := by simpa using e1
    have hlt : ¬ ((pre1.length : Int) < (L1.length : Int)) := by rw [e']; omega
    rw [r_lpb rc_sameExpr_b1.eq_1]
    simp only [sim, simB, Nat.reduceAdd, Nat.reduceSub, List.replicate, reduceCtorEq, Nat.reduceLeDiff, Nat.reduceLT, clearA, hb1, hc1, m1.len, m1.fits, hlt, sameXs, fg_yes hH (rfl : wkA (.bool true) = _)]
  | cons x l1 ih =>
    intro pre1 l2 pre2 v7 v8 e1 e2 ep el
    cases l2 with
    | nil => simp at el
    | cons y l2 =>
      have hlt : (pre1.length : Int) < (L1.length : Int) := by rw [e1]; simp; omega
      obtain ⟨a1, q1, i1, j1, k1⟩ := m1.ix pre1.length x (by rw [e1]; simp)
      obtain ⟨a2, q2, i2, j2, k2⟩ := m2.ix pre1.length y (by rw [ep, e2]; simp)
      have j1' := j1 _ (GrewA.refl H)
      have j2' := j2 _ (GrewA.refl H)
      have cy := hf x (by rw [e1]; simp) y q1 q2 H k1 k2
      have hw := w64 (n := (pre1.length : Int) + 1) (by rw [e1] at hL; simp at hL; omega) (by rw [e1] at hL; simp at hL; omega)
      cases hb : sameX x y
      · rw [hb] at cy
        rw [r_lpb rc_sameExpr_b1.eq_1]
        simp only [sim, simB, Nat.reduceAdd, Nat.reduceSub, List.replicate, reduceCtorEq, Nat.reduceLeDiff, Nat.reduceLT, clearA, hb1, hb2, hc1, hc2, m1.len, m1.fits, hlt, i1, j1', i2, j2', cy, sameXs, hb, fg_yes hH (rfl : wkA (.bool false) = _)]
      · rw [hb] at cy
        have r1 := ih (pre1 ++ [x]) l2 (pre2 ++ [y]) (.bool true) (.bool false) (by simp [e1]) (by simp [e2]) (by simp [ep]) (by simpa using el)
        have e3 : ((pre1 ++ [x]).length : Int) = (pre1.length : Int) + 1 := by simp
        rw [e3] at r1
        rw [r_lpb rc_sameExpr_b1.eq_1]
        simp only [sim, simB, Nat.reduceAdd, Nat.reduceSub, List.replicate, reduceCtorEq, Nat.reduceLeDiff, Nat.reduceLT, clearA, hb1, hb2, hc1, hc2, m1.len, m1.fits, hlt, i1, j1', i2, j2', cy, sameXs, hb, hw]
        exact r1

theorem sameExpr_run : ∀ (N : Nat) (x : XD), SizeOf.sizeOf x ≤ N → x.size ≤ 100000 → ∀ (y : XD) (r1 r2 : List AV) (h : AH), ExA x r1 → ExA y r2 →
    runF Tryd.prog po 38 [.agg r1, .agg r2] h = some (.inl (.bool (sameX x y)), h) := by
  intro N
  induction N with
  | zero => intro x hx; have := x.so_pos; omega
  | succ N ih =>
    intro x hx hsz y r1 r2 h he1 he2
    obtain ⟨v1, es1, e1, hv1, hl1⟩ := he1.row
    obtain ⟨v2, es2, e2, hv2, hl2⟩ := he2.row
    have hlen := x.len_size
    have g2 : GrewA h ((h.push [r1]).push [r2]) := (GrewA.push h _).trans (GrewA.push _ _)
    have m1 : ∀ h, ModV h v1 x.l := fun h => ModV.of hv1 hl1
    have m2 : ∀ h, ModV h v2 y.l := fun h => ModV.of hv2 hl2
    have o1 := (m1 h).one
    have o2 := (m2 h).one
    have l1 := (m1 h).len
    have l2 := (m2 h).len
    have f1 := (m1 h).fits
    have f2 := (m2 h).fits
    subst e1 e2
    rw [sameX_eq]
    refine runF_R fn_sameExpr rfl ?_; unfold rc_sameExpr
    cases h1 : decide (x.op = y.op) <;> cases h2 : decide (x.k = y.k) <;> cases h3 : decide (x.n = y.n)
    case true.true.true =>
      cases hd : decide ((x.l.length : Int) = (y.l.length : Int))
      · simp only [sim, simB, Nat.reduceAdd, Nat.reduceSub, List.replicate, reduceCtorEq, Nat.reduceLeDiff, Nat.reduceLT, clearA, o1, o2, l1, l2, f1, f2, h1, h2, h3, hd, sameXs_ne hd]
        exact fg_yes g2 rfl
      · have r1 := sameExpr_loop (h := h) _ g2 _ _ v1 v2 push2_old push2_same rfl rfl x.l y.l (m1 _) (m2 _) (by omega) (fun z hz w q1 q2 h' hq1 hq2 => ih z (by have := XD.lt_mem hz; omega) (by have := XD.size_mem hz; omega) w q1 q2 h' hq1 hq2) (.agg [.int .i64 x.op, .int .i64 x.k, .int .i64 x.n, v1]) (.agg [.int .i64 y.op, .int .i64 y.k, .int .i64 y.n, v2]) (.bool false) x.l [] y.l [] .junk .junk rfl rfl rfl (by simp at hd; omega)
        simp only [List.length_nil, Int.natCast_zero] at r1
        simp only [sim, simB, Nat.reduceAdd, Nat.reduceSub, List.replicate, reduceCtorEq, Nat.reduceLeDiff, Nat.reduceLT, clearA, o1, o2, l1, l2, f1, f2, h1, h2, h3, hd]
        exact r1
    all_goals
      simp only [sim, simB, Nat.reduceAdd, Nat.reduceSub, List.replicate, reduceCtorEq, Nat.reduceLeDiff, Nat.reduceLT, clearA, o1, o2, h1, h2, h3]
      exact fg_yes g2 rfl

theorem SameModule_loop (H : AH) (hH : GrewA h H) (C1 C2 : List AV) (v1 v2 : AV) (hb1 : H.cell h.n = some [C1]) (hb2 : H.cell (h.n + 1) = some [C2]) (hc1 : C1[0]? = some v1) (hc2 : C2[0]? = some v2) (L1 L2 : List XD) (m1 : ModV H v1 L1) (m2 : ModV H v2 L2) (hL : L1.length ≤ 100000)
    (hf : ∀ x ∈ L1, ∀ y q1 q2 h', ExA x q1 → ExA y q2 → runF Tryd.prog po 38 [.agg q1, .agg q2] h' = some (.inl (.bool (sameX x y)), h')) (v0 v00 v6 : AV) : ∀ (l1 pre1 l2 pre2 : List XD) (v7 v8 : AV), L1 = pre1 ++ l1 → L2 = pre2 ++ l2 → pre1.length = pre2.length → l1.length = l2.length →
    cFR true [.v 4] h (runR (runF Tryd.prog po) 9 [.lp rc_SameModule_b1, .ss [], .blk 0, .ss [.ops [(.i (.v 4) (.mv (.c (.bool true))))], .ret]] [v0, v00, .ptr h.n 0 0, .ptr (h.n + 1) 0 0, .bool false, .int .i64 pre1.length, v6, v7, v8] [] H) =
      some (.inl (.bool (sameXs l1 l2)), h) := by
  intro l1
  induction l1 with
  | nil =>
    intro pre1 l2 pre2 v7 v8 e1 e2 ep el
    have hz : l2 = [] := List.length_eq_zero_iff.1 (by simpa using el.symm)
    subst hz
    have e' : L1 = pre1 := by simpa using e1
    have hlt : ¬ ((pre1.length : Int) < (L1.length : Int)) := by rw [e']; omega
    rw [r_lpb rc_SameModule_b1.eq_1]
    simp only [sim, simB, Nat.reduceAdd, Nat.reduceSub, List.replicate, reduceCtorEq, Nat.reduceLeDiff, Nat.reduceLT, clearA, hb1, hc1, m1.len, m1.fits, hlt, sameXs, fg_yes hH (rfl : wkA (.bool true) = _)]
  | cons x l1 ih =>
    intro pre1 l2 pre2 v7 v8 e1 e2 ep el
    cases l2 with
    | nil => simp at el
    | cons y l2 =>
      have hlt : (pre1.length : Int) < (L1.length : Int) := by rw [e1]; simp; omega
      obtain ⟨a1, q1, i1, j1, k1⟩ := m1.ix pre1.length x (by rw [e1]; simp)
      obtain ⟨a2, q2, i2, j2, k2⟩ := m2.ix pre1.length y (by rw [ep, e2]; simp)
      have j1' := j1 _ (GrewA.refl H)
      have j2' := j2 _ (GrewA.refl H)
      have cy := hf x (by rw [e1]; simp) y q1 q2 H k1 k2
      have hw := w64 (n := (pre1.length : Int) + 1) (by rw [e1] at hL; simp at hL; omega) (by rw [e1] at hL; simp at hL; omega)
      cases hb : sameX x y
      · rw [hb] at cy
        rw [r_lpb rc_SameModule_b1.eq_1]
        simp only [sim, simB, Nat.reduceAdd, Nat.reduceSub, List.replicate, reduceCtorEq, Nat.reduceLeDiff, Nat.reduceLT, clearA, hb1, hb2, hc1, hc2, m1.len, m1.fits, hlt, i1, j1', i2, j2', cy, sameXs, hb, fg_yes hH (rfl : wkA (.bool false) = _)]
      · rw [hb] at cy
        have r1 := ih (pre1 ++ [x]) l2 (pre2 ++ [y]) (.bool true) (.bool false) (by simp [e1]) (by simp [e2]) (by simp [ep]) (by simpa using el)
        have e3 : ((pre1 ++ [x]).length : Int) = (pre1.length : Int) + 1 := by simp
        rw [e3] at r1
        rw [r_lpb rc_SameModule_b1.eq_1]
        simp only [sim, simB, Nat.reduceAdd, Nat.reduceSub, List.replicate, reduceCtorEq, Nat.reduceLeDiff, Nat.reduceLT, clearA, hb1, hb2, hc1, hc2, m1.len, m1.fits, hlt, i1, j1', i2, j2', cy, sameXs, hb, hw]
        exact r1

theorem SameModule_run (v1 v2 : AV) (L1 L2 : List XD) (m1 : ∀ h, ModV h v1 L1) (m2 : ∀ h, ModV h v2 L2) (hL : L1.length ≤ 100000) (hs : ∀ x ∈ L1, x.size ≤ 100000) :
    runF Tryd.prog po 15 [.agg [v1], .agg [v2]] h = some (.inl (.bool (sameXs L1 L2)), h) := by
  have g2 : GrewA h ((h.push [[v1]]).push [[v2]]) := (GrewA.push h _).trans (GrewA.push _ _)
  have o1 := (m1 h).one
  have o2 := (m2 h).one
  have l1 := (m1 h).len
  have l2 := (m2 h).len
  have f1 := (m1 h).fits
  have f2 := (m2 h).fits
  refine runF_R fn_SameModule rfl ?_; unfold rc_SameModule
  cases hd : decide ((L1.length : Int) = (L2.length : Int))
  · simp only [sim, simB, Nat.reduceAdd, Nat.reduceSub, List.replicate, reduceCtorEq, Nat.reduceLeDiff, Nat.reduceLT, clearA, o1, o2, l1, l2, f1, f2, hd, sameXs_ne hd]
    exact fg_yes g2 rfl
  · have r1 := SameModule_loop (h := h) _ g2 _ _ v1 v2 push2_old push2_same rfl rfl L1 L2 (m1 _) (m2 _) hL (fun x hx y q1 q2 h' hq1 hq2 => sameExpr_run _ x (Nat.le_refl _) (hs x hx) y q1 q2 h' hq1 hq2) (.agg [v1]) (.agg [v2]) (.bool false) L1 [] L2 [] .junk .junk rfl rfl rfl (by simp at hd; omega)
    simp only [List.length_nil, Int.natCast_zero] at r1
    simp only [sim, simB, Nat.reduceAdd, Nat.reduceSub, List.replicate, reduceCtorEq, Nat.reduceLeDiff, Nat.reduceLT, clearA, o1, o2, l1, l2, f1, f2, hd]
    exact r1
end
end Go.Proofs.YtngphebjmmencaaDoor
namespace Go.Proofs.YtngphebjmmencaaDoor
set_option linter.unusedSimpArgs false
set_option linter.unusedVariables false
open Go

section
variable {h : AH}




end
end Go.Proofs.YtngphebjmmencaaDoor
namespace Go.Proofs.YtngphebjmmencaaDoor
set_option linter.unusedSimpArgs false
set_option linter.unusedVariables false
open Go

def rc_rCheck : List RS := [(.ops [(.i (.v 1) (.mv (.c (.bool false))))]), (.ops [(.i .l (.mv (.v 0))), (.i .l (.bin (.int .i64) .geq (.l 0) (.c (.int .i64 0)))), (.i .l (.mv (.l 0))), (.g (.l 0) true .l (.mv (.v 0))), (.g (.l 1) true .l (.bin (.int .i64) .leq (.l 0) (.c (.int .i64 15)))), (.i .l (.pick (.l 2) (.l 0) (.c (.bool false)))), (.i (.v 1) (.mv (.l 0)))]), .ret]
theorem fn_rCheck : FnR Tryd.prog po 85 1 2 [0, 2] rc_rCheck [(.v 1)] true := ⟨_, _, Tryd.func85, rfl, rfl, by kernel_rfl, by kernel_rfl, by kernel_rfl, by kernel_rfl, by kernel_rfl⟩
end Go.Proofs.YtngphebjmmencaaDoor
namespace Go.Proofs.YtngphebjmmencaaDoor
set_option linter.unusedSimpArgs false
set_option linter.unusedVariables false
open Go

/-- the first fault stays -/
def orF (c d : Int) : Int := if c = 0 then d else c
theorem orF_0 (d : Int) : orF 0 d = d := rfl
theorem orF_z (c : Int) : orF c 0 = c := by unfold orF; split <;> simp_all
theorem orF_ne {c : Int} (h : c ≠ 0) (d : Int) : orF c d = c := if_neg h
theorem orF_assoc (a b c : Int) : orF (orF a b) c = orF a (orF b c) := by
  unfold orF
  by_cases h : a = 0 <;> simp [h]

/-- only what a judge holds has turned: the fault is c -/
structure JH (b : Nat) (mv : AV) (c : Int) (h h' : AH) : Prop where
  n : h.n ≤ h'.n
  ids : h.ids ≤ h'.ids
  old : ∀ k, k < h.n → k ≠ b → h'.cell k = h.cell k
  hw : ∀ k, k < h.ids → h'.hw k = h.hw k
  j : h'.cell b = some [[mv, .int .i64 c]]
theorem JH.refl {b : Nat} {mv : AV} {c : Int} {h : AH} (hb : h.cell b = some [[mv, .int .i64 c]]) : JH b mv c h h := ⟨Nat.le_refl _, Nat.le_refl _, fun _ _ _ => rfl, fun _ _ => rfl, hb⟩
theorem JH.trans {b : Nat} {mv : AV} {c c' : Int} {h h' h'' : AH} (x : JH b mv c h h') (y : JH b mv c' h' h'') : JH b mv c' h h'' :=
  ⟨Nat.le_trans x.n y.n, Nat.le_trans x.ids y.ids, fun k hk hn => (y.old k (Nat.lt_of_lt_of_le hk x.n) hn).trans (x.old k hk hn), fun k hk => (y.hw k (Nat.lt_of_lt_of_le hk x.ids)).trans (x.hw k hk), y.j⟩
theorem JH.push {b : Nat} {mv : AV} {c : Int} {h : AH} (hb : h.cell b = some [[mv, .int .i64 c]]) (hlt : b < h.n) (es : List (List AV)) : JH b mv c h (h.push es) :=
  ⟨by simp [AH.push], by simp [AH.push], fun k hk _ => push_lt hk, fun _ _ => rfl, (push_lt hlt).trans hb⟩
theorem JH.grew {b : Nat} {mv : AV} {c : Int} {h0 h h' : AH} (g : GrewA h0 h) (hb : h0.n ≤ b) (x : JH b mv c h h') : GrewA h0 h' :=
  ⟨Nat.le_trans g.n x.n, Nat.le_trans g.ids x.ids, fun k hk => (x.old k (Nat.lt_of_lt_of_le hk g.n) (by omega)).trans (g.cell k hk), fun k hk => (x.hw k (Nat.lt_of_lt_of_le hk g.ids)).trans (g.hw k hk)⟩

section
variable {h : AH} {b : Nat} {mv : AV} {c : Int}
theorem jfail_run (hb : h.cell b = some [[mv, .int .i64 c]]) (is : Bool) (d : Int) :
    ∃ h', runF Tryd.prog po 56 [.ptr b 0 0, .bool is, .int .i64 d] h = some (.inl (.tup []), h') ∧ JH b mv (orF c (if is then d else 0)) h h' := by
  cases is
  · refine ⟨h, ?_, by rw [if_neg (by simp), orF_z]; exact JH.refl hb⟩
    refine runF_R fn_jfail rfl ?_; unfold rc_jfail
    simp only [sim, simB, Nat.reduceAdd, Nat.reduceSub, List.replicate, reduceCtorEq, Nat.reduceLeDiff, Nat.reduceLT, clearA]
  · by_cases hc : c = 0
    · subst hc
      refine ⟨h.set b (some [[mv, .int .i64 d]]), ?_, ⟨Nat.le_refl _, Nat.le_refl _, fun k _ hn => set_ne hn, fun _ _ => rfl, by rw [set_same]; rfl⟩⟩
      refine runF_R fn_jfail rfl ?_; unfold rc_jfail
      simp only [sim, simB, Nat.reduceAdd, Nat.reduceSub, List.replicate, reduceCtorEq, Nat.reduceLeDiff, Nat.reduceLT, clearA, hb, eq_self]
    · refine ⟨h, ?_, by rw [orF_ne hc]; exact JH.refl hb⟩
      refine runF_R fn_jfail rfl ?_; unfold rc_jfail
      simp only [sim, simB, Nat.reduceAdd, Nat.reduceSub, List.replicate, reduceCtorEq, Nat.reduceLeDiff, Nat.reduceLT, clearA, hb, hc]

/-- the numbers, looked at as the judge does -/
def nums2 (nf op k o : Int) : Int :=
  if op = 4 then (if k < 0 ∨ o ≤ k then 1 else 0)
  else if op = 6 then (if k < 1 ∨ 5 < k then 1 else 0)
  else if op = 15 then (if k < 0 ∨ 15 < k then 1 else 0)
  else if op = 18 then (if k < 0 ∨ nf ≤ k then 1 else 0)
  else if k ≠ 0 then 5 else 0
theorem nums_eq (nf op k n o : Int) : numsX nf op k n o = orF (if n ≠ 0 ∧ op ≠ 2 then 5 else 0) (nums2 nf op k o) := by
  unfold numsX
  by_cases h1 : n ≠ 0 ∧ op ≠ 2
  · rw [if_pos h1, if_pos h1]; rfl
  · rw [if_neg h1, if_neg h1]; rfl
theorem w_rCheck (k : Int) : runF Tryd.prog po 85 [.int .i64 k] h = some (.inl (.bool (!decide (k < 0 ∨ 15 < k))), h) := by
  refine runF_R fn_rCheck rfl ?_; unfold rc_rCheck
  by_cases h0 : 0 ≤ k
  · by_cases h1 : k ≤ 15
    · have e : decide (k < 0 ∨ 15 < k) = false := by rw [decide_eq_false_iff_not]; omega
      simp only [sim, simB, Nat.reduceAdd, Nat.reduceSub, List.replicate, reduceCtorEq, Nat.reduceLeDiff, Nat.reduceLT, clearA, h0, h1, e]
    · have e : decide (k < 0 ∨ 15 < k) = true := by rw [decide_eq_true_eq]; omega
      simp only [sim, simB, Nat.reduceAdd, Nat.reduceSub, List.replicate, reduceCtorEq, Nat.reduceLeDiff, Nat.reduceLT, clearA, h0, h1, e]
  · have e : decide (k < 0 ∨ 15 < k) = true := by rw [decide_eq_true_eq]; omega
    simp only [sim, simB, Nat.reduceAdd, Nat.reduceSub, List.replicate, reduceCtorEq, Nat.reduceLeDiff, Nat.reduceLT, clearA, h0, e]
end
end Go.Proofs.YtngphebjmmencaaDoor
namespace Go.Proofs.YtngphebjmmencaaDoor
set_option linter.unusedSimpArgs false
set_option linter.unusedVariables false
open Go

section
variable {h : AH} {b : Nat} {mv : AV} {c : Int}
theorem jn_first (hb : h.cell b = some [[mv, .int .i64 c]]) (op k n : Int) (v : AV) (q : Nat) (hq : h.cell q = some [[.int .i64 op, .int .i64 k, .int .i64 n, v]]) (v1 v2 v4 v5 v6 v7 v8 : AV) (rest : List RS) (K : List RK) :
    ∃ h1, runR (runF Tryd.prog po) 9 (.ss ((.ops [(.i .l (.mv (.v 0))), (.i .l (.fad 2 (.v 3))), (.i .l (.load false 1 (.l 0))), (.i .l (.bin (.int .i64) .neq (.l 0) (.c (.int .i64 0)))), (.i .l (.mv (.l 0))), (.g (.l 0) true .l (.fad 0 (.v 3))), (.g (.l 1) true .l (.load false 1 (.l 0))), (.g (.l 2) true .l (.bin (.int .i64) .neq (.l 0) (.c (.int .i64 2)))), (.i .l (.pick (.l 3) (.l 0) (.c (.bool false)))), (.i .l (.call (.c (.fn 56 [] [])) [(.l 8), (.l 0), (.c (.int .i64 5))]))]) :: rest) :: K) [.ptr b 0 0, v1, v2, .ptr q 0 0, v4, v5, v6, v7, v8] [] h = runR (runF Tryd.prog po) 9 (.ss rest :: K) [.ptr b 0 0, v1, v2, .ptr q 0 0, v4, v5, v6, v7, v8] [] h1 ∧
      JH b mv (orF c (if n ≠ 0 ∧ op ≠ 2 then 5 else 0)) h h1 := by
  obtain ⟨h1, r1, j1⟩ := jfail_run hb (!decide (n = 0) && !decide (op = 2)) 5
  refine ⟨h1, ?_, ?_⟩
  · cases e1 : decide (n = 0) <;> cases e2 : decide (op = 2) <;> simp only [e1, e2, Bool.not_true, Bool.not_false, Bool.and_true, Bool.and_false] at r1 <;> simp only [sim, simB, Nat.reduceAdd, Nat.reduceSub, List.replicate, reduceCtorEq, Nat.reduceLeDiff, Nat.reduceLT, clearA, hq, e1, e2, r1]
  · have e : (if (!decide (n = 0) && !decide (op = 2)) = true then (5 : Int) else 0) = if n ≠ 0 ∧ op ≠ 2 then 5 else 0 := by simp
    rw [e] at j1
    exact j1
theorem jn_second (hb : h.cell b = some [[mv, .int .i64 c]]) {nf : Nat} (hm : lenA mv = some nf) (hft : ∀ s, fitsR s (some tE) mv = true) (op k n o : Int) (v : AV) (q : Nat) (hx : h.cell q = some [[.int .i64 op, .int .i64 k, .int .i64 n, v]]) (H : AH) (v1 v4 v5 v6 v7 v8 : AV) :
    ∃ h1, cFR false [] H (runR (runF Tryd.prog po) 9 [.ss [(.ops [(.i .l (.fad 0 (.v 3))), (.i (.v 4) (.load false 1 (.l 0)))]), (.block 0 [(.ops [(.i .l (.bin (.int .i64) .eql (.v 4) (.c (.int .i64 4)))), (.i (.v 5) (.mv (.l 0)))]), (.cond (.v 5) [(.ops [(.i .l (.mv (.v 0))), (.i .l (.fad 1 (.v 3))), (.i .l (.load false 1 (.l 0))), (.i .l (.bin (.int .i64) .lss (.l 0) (.c (.int .i64 0)))), (.i .l (.mv (.l 0))), (.g (.l 0) false .l (.fad 1 (.v 3))), (.g (.l 1) false .l (.load false 1 (.l 0))), (.g (.l 2) false .l (.mv (.v 2))), (.g (.l 3) false .l (.bin (.int .i64) .geq (.l 1) (.l 0))), (.i .l (.pick (.l 4) (.c (.bool true)) (.l 0))), (.i .l (.call (.c (.fn 56 [] [])) [(.l 9), (.l 0), (.c (.int .i64 1))]))])] [(.ops [(.i .l (.bin (.int .i64) .eql (.v 4) (.c (.int .i64 6)))), (.i (.v 6) (.mv (.l 0)))]), (.cond (.v 6) [(.ops [(.i .l (.mv (.v 0))), (.i .l (.fad 1 (.v 3))), (.i .l (.load false 1 (.l 0))), (.i .l (.bin (.int .i64) .lss (.l 0) (.c (.int .i64 1)))), (.i .l (.mv (.l 0))), (.g (.l 0) false .l (.fad 1 (.v 3))), (.g (.l 1) false .l (.load false 1 (.l 0))), (.g (.l 2) false .l (.bin (.int .i64) .gtr (.l 0) (.c (.int .i64 5)))), (.i .l (.pick (.l 3) (.c (.bool true)) (.l 0))), (.i .l (.call (.c (.fn 56 [] [])) [(.l 8), (.l 0), (.c (.int .i64 1))]))])] [(.ops [(.i .l (.bin (.int .i64) .eql (.v 4) (.c (.int .i64 15)))), (.i (.v 7) (.mv (.l 0)))]), (.cond (.v 7) [(.ops [(.i .l (.mv (.v 0))), (.i .l (.fad 1 (.v 3))), (.i .l (.load false 1 (.l 0))), (.i .l (.call (.c (.fn 85 [] [])) [(.l 0)])), (.i .l (.un .not (.l 0))), (.i .l (.call (.c (.fn 56 [] [])) [(.l 4), (.l 0), (.c (.int .i64 1))]))])] [(.ops [(.i .l (.bin (.int .i64) .eql (.v 4) (.c (.int .i64 18)))), (.i (.v 8) (.mv (.l 0)))]), (.cond (.v 8) [(.ops [(.i .l (.mv (.v 0))), (.i .l (.fad 1 (.v 3))), (.i .l (.load false 1 (.l 0))), (.i .l (.bin (.int .i64) .lss (.l 0) (.c (.int .i64 0)))), (.i .l (.mv (.l 0))), (.g (.l 0) false .l (.fad 1 (.v 3))), (.g (.l 1) false .l (.load false 1 (.l 0))), (.g (.l 2) false .l (.mv (.v 0))), (.g (.l 3) false .l (.nilc (.l 0))), (.g (.l 4) false .l (.fad 0 (.l 0))), (.g (.l 5) false .l (.fad 0 (.l 0))), (.g (.l 6) false .l (.load false 1 (.l 0))), (.g (.l 7) false .l (.len false (some 56) (.l 0))), (.g (.l 8) false .l (.bin (.int .i64) .geq (.l 6) (.l 0))), (.i .l (.pick (.l 9) (.c (.bool true)) (.l 0))), (.i .l (.call (.c (.fn 56 [] [])) [(.l 14), (.l 0), (.c (.int .i64 1))]))])] [(.ops [(.i .l (.mv (.v 0))), (.i .l (.fad 1 (.v 3))), (.i .l (.load false 1 (.l 0))), (.i .l (.bin (.int .i64) .neq (.l 0) (.c (.int .i64 0)))), (.i .l (.call (.c (.fn 56 [] [])) [(.l 3), (.l 0), (.c (.int .i64 5))]))])])])])])])]] [.ptr b 0 0, v1, .int .i64 o, .ptr q 0 0, v4, v5, v6, v7, v8] [] h) = some (.inl (.tup []), h1) ∧
      JH b mv (orF c (nums2 nf op k o)) h h1 := by
  have hj := hb
  have j1 := JH.refl hb
  by_cases h4 : op = 4
  · subst h4
    obtain ⟨h2, r2, j2⟩ := jfail_run j1.j (decide (k < 0 ∨ o ≤ k)) 1
    refine ⟨h2, ?_, ?_⟩
    · by_cases hk : k < 0
      · have e : decide (k < 0 ∨ o ≤ k) = true := by rw [decide_eq_true_eq]; omega
        rw [e] at r2
        simp only [sim, simB, Nat.reduceAdd, Nat.reduceSub, List.replicate, reduceCtorEq, Nat.reduceLeDiff, Nat.reduceLT, clearA, Int.reduceEq,  hx, hk, r2]
      · by_cases hu : o ≤ k
        · have e : decide (k < 0 ∨ o ≤ k) = true := by rw [decide_eq_true_eq]; omega
          rw [e] at r2
          simp only [sim, simB, Nat.reduceAdd, Nat.reduceSub, List.replicate, reduceCtorEq, Nat.reduceLeDiff, Nat.reduceLT, clearA, Int.reduceEq,  hx, hj, hm, hft, hk, hu, r2]
        · have e : decide (k < 0 ∨ o ≤ k) = false := by rw [decide_eq_false_iff_not]; omega
          rw [e] at r2
          simp only [sim, simB, Nat.reduceAdd, Nat.reduceSub, List.replicate, reduceCtorEq, Nat.reduceLeDiff, Nat.reduceLT, clearA, Int.reduceEq,  hx, hj, hm, hft, hk, hu, r2]
    · have e2 : nums2 nf 4 k o = if decide (k < 0 ∨ o ≤ k) = true then 1 else 0 := by simp [nums2]
      rw [e2]
      exact j1.trans j2
  by_cases h6 : op = 6
  · subst h6
    obtain ⟨h2, r2, j2⟩ := jfail_run j1.j (decide (k < 1 ∨ 5 < k)) 1
    refine ⟨h2, ?_, ?_⟩
    · by_cases hk : k < 1
      · have e : decide (k < 1 ∨ 5 < k) = true := by rw [decide_eq_true_eq]; omega
        rw [e] at r2
        simp only [sim, simB, Nat.reduceAdd, Nat.reduceSub, List.replicate, reduceCtorEq, Nat.reduceLeDiff, Nat.reduceLT, clearA, Int.reduceEq,  hx, hk, r2]
      · by_cases hu : 5 < k
        · have e : decide (k < 1 ∨ 5 < k) = true := by rw [decide_eq_true_eq]; omega
          rw [e] at r2
          simp only [sim, simB, Nat.reduceAdd, Nat.reduceSub, List.replicate, reduceCtorEq, Nat.reduceLeDiff, Nat.reduceLT, clearA, Int.reduceEq,  hx, hj, hm, hft, hk, hu, r2]
        · have e : decide (k < 1 ∨ 5 < k) = false := by rw [decide_eq_false_iff_not]; omega
          rw [e] at r2
          simp only [sim, simB, Nat.reduceAdd, Nat.reduceSub, List.replicate, reduceCtorEq, Nat.reduceLeDiff, Nat.reduceLT, clearA, Int.reduceEq,  hx, hj, hm, hft, hk, hu, r2]
    · have e2 : nums2 nf 6 k o = if decide (k < 1 ∨ 5 < k) = true then 1 else 0 := by simp [nums2]
      rw [e2]
      exact j1.trans j2
  by_cases h15 : op = 15
  · subst h15
    obtain ⟨h2, r2, j2⟩ := jfail_run j1.j (decide (k < 0 ∨ 15 < k)) 1
    refine ⟨h2, ?_, ?_⟩
    · have w := w_rCheck (h := h) k
      simp only [sim, simB, Nat.reduceAdd, Nat.reduceSub, List.replicate, reduceCtorEq, Nat.reduceLeDiff, Nat.reduceLT, clearA, Int.reduceEq, hx, w, Bool.not_not, r2]
    · have e2 : nums2 nf 15 k o = if decide (k < 0 ∨ 15 < k) = true then 1 else 0 := by simp [nums2]
      rw [e2]
      exact j1.trans j2
  by_cases h18 : op = 18
  · subst h18
    obtain ⟨h2, r2, j2⟩ := jfail_run j1.j (decide (k < 0 ∨ (nf : Int) ≤ k)) 1
    refine ⟨h2, ?_, ?_⟩
    · by_cases hk : k < 0
      · have e : decide (k < 0 ∨ (nf : Int) ≤ k) = true := by rw [decide_eq_true_eq]; omega
        rw [e] at r2
        simp only [sim, simB, Nat.reduceAdd, Nat.reduceSub, List.replicate, reduceCtorEq, Nat.reduceLeDiff, Nat.reduceLT, clearA, Int.reduceEq,  hx, hk, r2]
      · by_cases hu : (nf : Int) ≤ k
        · have e : decide (k < 0 ∨ (nf : Int) ≤ k) = true := by rw [decide_eq_true_eq]; omega
          rw [e] at r2
          simp only [sim, simB, Nat.reduceAdd, Nat.reduceSub, List.replicate, reduceCtorEq, Nat.reduceLeDiff, Nat.reduceLT, clearA, Int.reduceEq,  hx, hj, hm, hft, hk, hu, r2]
        · have e : decide (k < 0 ∨ (nf : Int) ≤ k) = false := by rw [decide_eq_false_iff_not]; omega
          rw [e] at r2
          simp only [sim, simB, Nat.reduceAdd, Nat.reduceSub, List.replicate, reduceCtorEq, Nat.reduceLeDiff, Nat.reduceLT, clearA, Int.reduceEq,  hx, hj, hm, hft, hk, hu, r2]
    · have e2 : nums2 nf 18 k o = if decide (k < 0 ∨ (nf : Int) ≤ k) = true then 1 else 0 := by simp [nums2]
      rw [e2]
      exact j1.trans j2
  obtain ⟨h2, r2, j2⟩ := jfail_run j1.j (!decide (k = 0)) 5
  refine ⟨h2, ?_, ?_⟩
  · simp only [sim, simB, Nat.reduceAdd, Nat.reduceSub, List.replicate, reduceCtorEq, Nat.reduceLeDiff, Nat.reduceLT, clearA, hx, h4, h6, h15, h18, r2]
  · have e2 : nums2 nf op k o = if (!decide (k = 0)) = true then 5 else 0 := by simp [nums2, h4, h6, h15, h18]
    rw [e2]
    exact j1.trans j2
theorem jnumbers_run (hb : h.cell b = some [[mv, .int .i64 c]]) (hlt : b < h.n) {nf : Nat} (hm : lenA mv = some nf) (hft : ∀ s, fitsR s (some tE) mv = true) (op k n o : Int) (v : AV) (hv : v.one = true) :
    ∃ h', runF Tryd.prog po 72 [.ptr b 0 0, .agg [.int .i64 op, .int .i64 k, .int .i64 n, v], .int .i64 o] h = some (.inl (.tup []), h') ∧ JH b mv (orF c (numsX nf op k n o)) h h' := by
  have p := JH.push (c := c) hb hlt [[.int .i64 op, .int .i64 k, .int .i64 n, v]]
  obtain ⟨h1, r1, j1⟩ := jn_first p.j op k n v h.n push_same (.agg [.int .i64 op, .int .i64 k, .int .i64 n, v]) (.int .i64 o) .junk .junk .junk .junk .junk [(.ops [(.i .l (.fad 0 (.v 3))), (.i (.v 4) (.load false 1 (.l 0)))]), (.block 0 [(.ops [(.i .l (.bin (.int .i64) .eql (.v 4) (.c (.int .i64 4)))), (.i (.v 5) (.mv (.l 0)))]), (.cond (.v 5) [(.ops [(.i .l (.mv (.v 0))), (.i .l (.fad 1 (.v 3))), (.i .l (.load false 1 (.l 0))), (.i .l (.bin (.int .i64) .lss (.l 0) (.c (.int .i64 0)))), (.i .l (.mv (.l 0))), (.g (.l 0) false .l (.fad 1 (.v 3))), (.g (.l 1) false .l (.load false 1 (.l 0))), (.g (.l 2) false .l (.mv (.v 2))), (.g (.l 3) false .l (.bin (.int .i64) .geq (.l 1) (.l 0))), (.i .l (.pick (.l 4) (.c (.bool true)) (.l 0))), (.i .l (.call (.c (.fn 56 [] [])) [(.l 9), (.l 0), (.c (.int .i64 1))]))])] [(.ops [(.i .l (.bin (.int .i64) .eql (.v 4) (.c (.int .i64 6)))), (.i (.v 6) (.mv (.l 0)))]), (.cond (.v 6) [(.ops [(.i .l (.mv (.v 0))), (.i .l (.fad 1 (.v 3))), (.i .l (.load false 1 (.l 0))), (.i .l (.bin (.int .i64) .lss (.l 0) (.c (.int .i64 1)))), (.i .l (.mv (.l 0))), (.g (.l 0) false .l (.fad 1 (.v 3))), (.g (.l 1) false .l (.load false 1 (.l 0))), (.g (.l 2) false .l (.bin (.int .i64) .gtr (.l 0) (.c (.int .i64 5)))), (.i .l (.pick (.l 3) (.c (.bool true)) (.l 0))), (.i .l (.call (.c (.fn 56 [] [])) [(.l 8), (.l 0), (.c (.int .i64 1))]))])] [(.ops [(.i .l (.bin (.int .i64) .eql (.v 4) (.c (.int .i64 15)))), (.i (.v 7) (.mv (.l 0)))]), (.cond (.v 7) [(.ops [(.i .l (.mv (.v 0))), (.i .l (.fad 1 (.v 3))), (.i .l (.load false 1 (.l 0))), (.i .l (.call (.c (.fn 85 [] [])) [(.l 0)])), (.i .l (.un .not (.l 0))), (.i .l (.call (.c (.fn 56 [] [])) [(.l 4), (.l 0), (.c (.int .i64 1))]))])] [(.ops [(.i .l (.bin (.int .i64) .eql (.v 4) (.c (.int .i64 18)))), (.i (.v 8) (.mv (.l 0)))]), (.cond (.v 8) [(.ops [(.i .l (.mv (.v 0))), (.i .l (.fad 1 (.v 3))), (.i .l (.load false 1 (.l 0))), (.i .l (.bin (.int .i64) .lss (.l 0) (.c (.int .i64 0)))), (.i .l (.mv (.l 0))), (.g (.l 0) false .l (.fad 1 (.v 3))), (.g (.l 1) false .l (.load false 1 (.l 0))), (.g (.l 2) false .l (.mv (.v 0))), (.g (.l 3) false .l (.nilc (.l 0))), (.g (.l 4) false .l (.fad 0 (.l 0))), (.g (.l 5) false .l (.fad 0 (.l 0))), (.g (.l 6) false .l (.load false 1 (.l 0))), (.g (.l 7) false .l (.len false (some 56) (.l 0))), (.g (.l 8) false .l (.bin (.int .i64) .geq (.l 6) (.l 0))), (.i .l (.pick (.l 9) (.c (.bool true)) (.l 0))), (.i .l (.call (.c (.fn 56 [] [])) [(.l 14), (.l 0), (.c (.int .i64 1))]))])] [(.ops [(.i .l (.mv (.v 0))), (.i .l (.fad 1 (.v 3))), (.i .l (.load false 1 (.l 0))), (.i .l (.bin (.int .i64) .neq (.l 0) (.c (.int .i64 0)))), (.i .l (.call (.c (.fn 56 [] [])) [(.l 3), (.l 0), (.c (.int .i64 5))]))])])])])])])] []
  obtain ⟨h2, r2, j2⟩ := jn_second j1.j hm hft op k n o v h.n (by rw [j1.old h.n (by simp [AH.push]) (by omega)]; exact push_same) h (.agg [.int .i64 op, .int .i64 k, .int .i64 n, v]) .junk .junk .junk .junk .junk
  refine ⟨h2, ?_, ?_⟩
  · refine runF_R fn_jnumbers rfl ?_; unfold rc_jnumbers
    rw [r_ops, r_box (by simp only [sim, simB, Nat.reduceAdd, Nat.reduceSub, List.replicate, reduceCtorEq, Nat.reduceLeDiff, Nat.reduceLT, clearA, hv]) (by simp only [sim, simB, Nat.reduceAdd, Nat.reduceSub, List.replicate, reduceCtorEq, Nat.reduceLeDiff, Nat.reduceLT, clearA]), r_ops_nil]
    exact (congrArg (cFR false [] h) r1).trans r2
  · rw [nums_eq, ← orF_assoc]
    exact (p.trans j1).trans j2
end
end Go.Proofs.YtngphebjmmencaaDoor
namespace Go.Proofs.YtngphebjmmencaaDoor
set_option linter.unusedSimpArgs false
set_option linter.unusedVariables false
open Go

theorem XD.fault_eq (nf : Int) (x : XD) (o : Int) : x.fault nf o = orF (headX nf x.op x.k x.n x.l.length o) (faultsX nf x.op 0 x.l o) := by
  cases x with
  | mk op k n l =>
    simp only [XD.fault, XD.op, XD.k, XD.n, XD.l, orF]
    by_cases hh : headX nf op k n l.length o = 0 <;> simp [hh]
theorem head_ne (nf k n : Int) (len : Nat) : headX nf 5 k n len 12 ≠ 0 := by
  unfold headX
  split
  · decide
  · split
    · decide
    · split
      · assumption
      · simp
theorem faultsX_cons (nf op : Int) (i : Nat) (x : XD) (l : List XD) (o : Int) : faultsX nf op i (x :: l) o = orF (x.fault nf (if op = 5 ∧ i = 1 then o + 1 else o)) (faultsX nf op (i + 1) l o) := by
  simp only [faultsX, orF]
  by_cases hh : x.fault nf (if op = 5 ∧ i = 1 then o + 1 else o) = 0 <;> simp [hh]
theorem head_eq (nf op k n : Int) (len : Nat) (o : Int) : headX nf op k n len o =
    orF (orF (orF (if decide (partsX op < 0) = true then 2 else 0) (if (!decide ((len : Int) = partsX op)) = true then 5 else 0)) (numsX nf op k n o)) (if (decide (op = 5) && decide (o = 12)) = true then 3 else 0) := by
  unfold headX orF
  by_cases h1 : partsX op < 0
  · simp [h1]
  · by_cases h2 : (len : Int) = partsX op
    · by_cases h3 : numsX nf op k n o = 0 <;> simp [h1, h2, h3]
    · simp [h1, h2]

section
variable {h : AH} {b : Nat} {mv : AV}
theorem jexpr_loop (hbn : b < h.n) (nf : Int) (x : XD) (v : AV) (m : ∀ h, ModV h v x.l) (hL : x.l.length ≤ 100000) (o : Int) (ho : 0 ≤ o) (ho2 : o ≤ 12) (H : AH)
    (hf : ∀ y ∈ x.l, ∀ (q : List AV) (h : AH) (o : Int), ExA y q → 0 ≤ o → o ≤ 12 → h.cell b = some [[mv, .int .i64 0]] → b < h.n → ∃ h', runF Tryd.prog po 59 [.ptr b 0 0, .agg q, .int .i64 o] h = some (.inl (.tup []), h') ∧ JH b mv (y.fault nf o) h h')
    (v1 v4 : AV) : ∀ (l pre : List XD) (h' : AH) (c : Int) (v5 v6 v10 v11 v12 : AV), x.l = pre ++ l → JH b mv c h h' → h.n < h'.n → h'.cell h.n = some [[.int .i64 x.op, .int .i64 x.k, .int .i64 x.n, v]] → (x.op = 5 → o = 12 → c ≠ 0) →
    ∃ h'', cFR false [] H (runR (runF Tryd.prog po) 13 [.lp rc_jexpr_b1, .ss [], .blk 0, .ss []] [.ptr b 0 0, v1, .int .i64 o, .ptr h.n 0 0, v4, v5, v6, v, .int .i64 x.l.length, .int .i64 pre.length, v10, v11, v12] [] h') = some (.inl (.tup []), h'') ∧
      JH b mv (orF c (faultsX nf x.op pre.length l o)) h h'' := by
  intro l
  induction l with
  | nil =>
    intro pre h' c v5 v6 v10 v11 v12 e j hn hx ht
    have e' : x.l = pre := by simpa using e
    have hlt : ¬ ((pre.length : Int) < (x.l.length : Int)) := by rw [e']; omega
    refine ⟨h', ?_, by simp only [faultsX, orF_z]; exact j⟩
    rw [r_lpb rc_jexpr_b1.eq_1]
    simp only [sim, simB, Nat.reduceAdd, Nat.reduceSub, List.replicate, reduceCtorEq, Nat.reduceLeDiff, Nat.reduceLT, clearA, hlt]
  | cons y l ih =>
    intro pre h' c v5 v6 v10 v11 v12 e j hn hx ht
    have hlt : (pre.length : Int) < (x.l.length : Int) := by rw [e]; simp; omega
    obtain ⟨a, q, i1, i2, i3⟩ := (m h').ix pre.length y (by rw [e]; simp)
    have i2' := i2 _ (GrewA.refl h')
    obtain ⟨o1, o2⟩ := i3.one
    have p := JH.push j.j (Nat.lt_trans hbn hn) [q]
    have hj := p.j
    have hx2 : (h'.push [q]).cell h.n = some [[.int .i64 x.op, .int .i64 x.k, .int .i64 x.n, v]] := (push_lt hn).trans hx
    have hw := w64 (n := (pre.length : Int) + 1) (by rw [e] at hL; simp at hL; omega) (by rw [e] at hL; simp at hL; omega)
    by_cases hc : c = 0
    · subst hc
      have hb0 : h'.n + 1 = (h'.push [q]).n := rfl
      have ht2 : ∀ {c' : Int}, x.op = 5 → o = 12 → c' ≠ 0 := fun h1 h2 => absurd rfl (ht h1 h2)
      have e3 : ((pre ++ [y]).length : Int) = (pre.length : Int) + 1 := by simp
      have e4 : (pre ++ [y]).length = pre.length + 1 := by simp
      have hk : ∀ (h1 : AH) (c' : Int), JH b mv c' (h'.push [q]) h1 → h1.cell h.n = some [[.int .i64 x.op, .int .i64 x.k, .int .i64 x.n, v]] ∧ h.n < h1.n := fun h1 c' j1 =>
        ⟨(j1.old h.n (by simp only [push_n]; omega) (by omega)).trans hx2, Nat.lt_of_lt_of_le (by simp only [push_n]; omega) j1.n⟩
      by_cases hin : x.op = 5 ∧ pre.length = 1
      · obtain ⟨hop, hp1⟩ := hin
        have ho12 : o ≤ 11 := by
          rcases Int.lt_or_eq_of_le ho2 with h1 | h1
          · omega
          · exact absurd rfl (ht hop h1)
        have hp1' : (pre.length : Int) = 1 := by omega
        have hwo := w64 (n := o + 1) (by omega) (by omega)
        obtain ⟨h1, r1, j1⟩ := hf y (by rw [e]; simp) q (h'.push [q]) (o + 1) i3 (by omega) (by omega) hj (by simp only [push_n]; omega)
        obtain ⟨h2, r2, j2⟩ := ih (pre ++ [y]) h1 (y.fault nf (o + 1)) (.int .i64 pre.length) (.ptr h'.n 0 0) (.bool true) (.bool false) (.bool true) (by simp [e]) ((j.trans p).trans j1) (hk h1 _ j1).2 (hk h1 _ j1).1 ht2
        rw [e3] at r2
        refine ⟨h2, ?_, ?_⟩
        · rw [hop] at hx2
          have hd5 : decide ((pre.length : Int) = 1) = true := by simp [hp1']
          rw [r_lpb rc_jexpr_b1.eq_1]
          simp only [sim, simB, Nat.reduceAdd, Nat.reduceSub, List.replicate, reduceCtorEq, Nat.reduceLeDiff, Nat.reduceLT, clearA, hlt, i1, i2', o1, o2, hj, hx2, Int.reduceEq, hd5, hwo, r1, hw]
          exact r2
        · rw [faultsX_cons, if_pos ⟨hop, hp1⟩, orF_0]
          rw [e4] at j2
          exact j2
      · obtain ⟨h1, r1, j1⟩ := hf y (by rw [e]; simp) q (h'.push [q]) o i3 (by omega) (by omega) hj (by simp only [push_n]; omega)
        have hd : (decide (x.op = 5) && decide ((pre.length : Int) = 1)) = false := by
          rw [Bool.and_eq_false_iff, decide_eq_false_iff_not, decide_eq_false_iff_not]
          by_cases h5 : x.op = 5
          · exact .inr (fun hp => hin ⟨h5, by omega⟩)
          · exact .inl h5
        obtain ⟨h2, r2, j2⟩ := ih (pre ++ [y]) h1 (y.fault nf o) (.int .i64 pre.length) (.ptr h'.n 0 0) (.bool true) (.bool false) (.bool false) (by simp [e]) ((j.trans p).trans j1) (hk h1 _ j1).2 (hk h1 _ j1).1 ht2
        rw [e3] at r2
        refine ⟨h2, ?_, ?_⟩
        · rw [r_lpb rc_jexpr_b1.eq_1]
          cases h5 : decide (x.op = 5)
          · simp only [sim, simB, Nat.reduceAdd, Nat.reduceSub, List.replicate, reduceCtorEq, Nat.reduceLeDiff, Nat.reduceLT, clearA, hlt, i1, i2', o1, o2, hj, hx2, Int.reduceEq, h5, r1, hw]
            exact r2
          · rw [h5, Bool.true_and] at hd
            simp only [sim, simB, Nat.reduceAdd, Nat.reduceSub, List.replicate, reduceCtorEq, Nat.reduceLeDiff, Nat.reduceLT, clearA, hlt, i1, i2', o1, o2, hj, hx2, Int.reduceEq, h5, hd, r1, hw]
            exact r2
        · rw [faultsX_cons, if_neg hin, orF_0]
          rw [e4] at j2
          exact j2
    · refine ⟨h'.push [q], ?_, by rw [orF_ne hc]; exact j.trans p⟩
      rw [r_lpb rc_jexpr_b1.eq_1]
      simp only [sim, simB, Nat.reduceAdd, Nat.reduceSub, List.replicate, reduceCtorEq, Nat.reduceLeDiff, Nat.reduceLT, clearA, hlt, i1, i2', o1, o2, hj, hc]

theorem jexpr_run (nf : Nat) (hm : lenA mv = some nf) (hft : ∀ s, fitsR s (some tE) mv = true) : ∀ (N : Nat) (x : XD), SizeOf.sizeOf x ≤ N → x.size ≤ 100000 → ∀ (r : List AV) (h : AH) (o : Int), ExA x r → 0 ≤ o → o ≤ 12 → h.cell b = some [[mv, .int .i64 0]] → b < h.n →
    ∃ h', runF Tryd.prog po 59 [.ptr b 0 0, .agg r, .int .i64 o] h = some (.inl (.tup []), h') ∧ JH b mv (x.fault nf o) h h' := by
  intro N
  induction N with
  | zero => intro x hx; have := x.so_pos; omega
  | succ N ih =>
    intro x hx hsz r h o he ho ho2 hb hlt
    obtain ⟨v, es, e, hv, hl⟩ := he.row
    have m : ∀ h, ModV h v x.l := fun h => ModV.of hv hl
    have o1 := (m h).one
    have l1 := (m h).len
    have f1 := (m h).fits
    have hlen := x.len_size
    subst e
    have p := JH.push hb hlt [[.int .i64 x.op, .int .i64 x.k, .int .i64 x.n, v]]
    have w0 : (h.push [[.int .i64 x.op, .int .i64 x.k, .int .i64 x.n, v]]).cell h.n = some [[.int .i64 x.op, .int .i64 x.k, .int .i64 x.n, v]] := push_same
    have hbn : h.n ≠ b := by omega
    obtain ⟨h1, r1, j1⟩ := jfail_run p.j (decide (partsX x.op < 0)) 2
    have w1 := (j1.old h.n (by simp only [push_n]; omega) hbn).trans w0
    have n1 : h.n < h1.n := Nat.lt_of_lt_of_le (by simp only [push_n]; omega) j1.n
    obtain ⟨h2, r2, j2⟩ := jfail_run j1.j (!decide ((x.l.length : Int) = partsX x.op)) 5
    have w2 := (j2.old h.n n1 hbn).trans w1
    have n2 : h.n < h2.n := Nat.lt_of_lt_of_le n1 j2.n
    obtain ⟨h3, r3, j3⟩ := jnumbers_run j2.j (by omega) hm hft x.op x.k x.n o v o1
    have w3 := (j3.old h.n n2 hbn).trans w2
    have n3 : h.n < h3.n := Nat.lt_of_lt_of_le n2 j3.n
    obtain ⟨h4, r4, j4⟩ := jfail_run j3.j (decide (x.op = 5) && decide (o = 12)) 3
    have w4 := (j4.old h.n n3 hbn).trans w3
    have n4 : h.n < h4.n := Nat.lt_of_lt_of_le n3 j4.n
    rw [orF_0, ← head_eq] at j4
    have jj := (((p.trans j1).trans j2).trans j3).trans j4
    obtain ⟨h5, r5, j5⟩ := jexpr_loop (h := h) hlt nf x v m (by omega) o ho ho2 h (fun y hy q h o hq => ih y (by have := XD.lt_mem hy; omega) (by have := XD.size_mem hy; omega) q h o hq) (.agg [.int .i64 x.op, .int .i64 x.k, .int .i64 x.n, v]) (.int .i64 (partsX x.op)) x.l [] h4 _ .junk .junk .junk .junk .junk rfl jj n4 w4 (fun h5 h12 => by
      rw [h5, h12]
      exact head_ne _ _ _ _)
    simp only [List.length_nil, Int.natCast_zero] at r5
    rw [List.length_nil, ← XD.fault_eq] at j5
    refine ⟨h5, ?_, j5⟩
    have cp := c_Parts (h := h.push [[.int .i64 x.op, .int .i64 x.k, .int .i64 x.n, v]]) x.op
    refine runF_R fn_jexpr rfl ?_; unfold rc_jexpr
    cases e5 : decide (x.op = 5) <;> cases e12 : decide (o = 12) <;> simp only [e5, e12, Bool.and_true, Bool.and_false] at r4 <;>
      (simp only [sim, simB, Nat.reduceAdd, Nat.reduceSub, List.replicate, reduceCtorEq, Nat.reduceLeDiff, Nat.reduceLT, clearA, o1, cp, r1, w1, l1, f1, r2, w2, r3, w3, e5, e12, r4, w4]; exact r5)
end
end Go.Proofs.YtngphebjmmencaaDoor
namespace Go.Proofs.YtngphebjmmencaaDoor
set_option linter.unusedSimpArgs false
set_option linter.unusedVariables false
open Go

section
variable {h : AH} {mv : AV}
theorem ef_range {nf : Nat} (hnf : nf ≤ 100000) (hm : lenA mv = some nf) (hft : ∀ s, fitsR s (some tE) mv = true) (op k n o : Int) (ho : 0 ≤ o) (ho2 : o ≤ 12) (v : AV) (rest : List RS) (v0 v1 v6 v7 v8 v9 v10 v11 v12 v13 v14 v15 v16 v17 v18 v19 v20 v21 v22 v23 v24 : AV) :
    (nums2 nf op k o = 0 ∧ ∃ w7 w8 w14 w15 w16 w17 w18 w19 w20, runR (runF Tryd.prog po) 25 [.ss ((.ops [(.i (.v 7) (.mv (.c (.int .i64 0)))), (.i (.v 8) (.mv (.c (.int .i64 0))))]) :: (.ops [(.i .l (.fad 0 (.v 4))), (.i (.v 14) (.load false 1 (.l 0)))]) :: (.block 0 [(.ops [(.i .l (.bin (.int .i64) .eql (.v 14) (.c (.int .i64 4)))), (.i (.v 16) (.mv (.l 0)))]), (.cond (.v 16) [(.ops [(.i .l (.mv (.v 2))), (.i .l (.bin (.int .i64) .sub (.l 0) (.c (.int .i64 1)))), (.i (.v 8) (.mv (.l 0)))])] [(.ops [(.i .l (.bin (.int .i64) .eql (.v 14) (.c (.int .i64 6)))), (.i (.v 17) (.mv (.l 0)))]), (.cond (.v 17) [(.ops [(.i (.v 7) (.mv (.c (.int .i64 1)))), (.i (.v 8) (.mv (.c (.int .i64 5))))])] [(.ops [(.i .l (.bin (.int .i64) .eql (.v 14) (.c (.int .i64 15)))), (.i (.v 18) (.mv (.l 0)))]), (.cond (.v 18) [(.ops [(.i (.v 8) (.mv (.c (.int .i64 15))))])] [(.ops [(.i .l (.bin (.int .i64) .eql (.v 14) (.c (.int .i64 18)))), (.i (.v 19) (.mv (.l 0)))]), (.cond (.v 19) [(.ops [(.i .l (.fad 0 (.v 3))), (.i .l (.load false 1 (.l 0))), (.i .l (.len false (some 56) (.l 0))), (.i .l (.bin (.int .i64) .sub (.l 0) (.c (.int .i64 1)))), (.i (.v 8) (.mv (.l 0)))])] [(.ops [(.i .l (.fad 1 (.v 4))), (.i .l (.load false 1 (.l 0))), (.i (.v 15) (.bin (.int .i64) .neq (.l 0) (.c (.int .i64 0))))]), (.cond (.v 15) [(.ops [(.i (.v 5) (.mv (.c (.int .i64 5))))]), .ret] [])])])])])]) :: (.ops [(.i .l (.fad 1 (.v 4))), (.i .l (.load false 1 (.l 0))), (.i .l (.mv (.v 7))), (.i .l (.bin (.int .i64) .lss (.l 1) (.l 0))), (.i .l (.mv (.l 0))), (.g (.l 0) false .l (.fad 1 (.v 4))), (.g (.l 1) false .l (.load false 1 (.l 0))), (.g (.l 2) false .l (.mv (.v 8))), (.g (.l 3) false .l (.bin (.int .i64) .gtr (.l 1) (.l 0))), (.i (.v 20) (.pick (.l 4) (.c (.bool true)) (.l 0)))]) :: (.cond (.v 20) [(.ops [(.i (.v 5) (.mv (.c (.int .i64 1))))]), .ret] []) :: rest)] [v0, v1, .int .i64 o, .ptr h.n 0 0, .ptr (h.n + 1) 0 0, .int .i64 0, v6, v7, v8, v9, v10, v11, v12, v13, v14, v15, v16, v17, v18, v19, v20, v21, v22, v23, v24] [] ((h.push [[mv]]).push [[.int .i64 op, .int .i64 k, .int .i64 n, v]]) = runR (runF Tryd.prog po) 25 [.ss rest] [v0, v1, .int .i64 o, .ptr h.n 0 0, .ptr (h.n + 1) 0 0, .int .i64 0, v6, w7, w8, v9, v10, v11, v12, v13, w14, w15, w16, w17, w18, w19, w20, v21, v22, v23, v24] [] ((h.push [[mv]]).push [[.int .i64 op, .int .i64 k, .int .i64 n, v]])) ∨
    (nums2 nf op k o ≠ 0 ∧ cFR true [.v 5] h (runR (runF Tryd.prog po) 25 [.ss ((.ops [(.i (.v 7) (.mv (.c (.int .i64 0)))), (.i (.v 8) (.mv (.c (.int .i64 0))))]) :: (.ops [(.i .l (.fad 0 (.v 4))), (.i (.v 14) (.load false 1 (.l 0)))]) :: (.block 0 [(.ops [(.i .l (.bin (.int .i64) .eql (.v 14) (.c (.int .i64 4)))), (.i (.v 16) (.mv (.l 0)))]), (.cond (.v 16) [(.ops [(.i .l (.mv (.v 2))), (.i .l (.bin (.int .i64) .sub (.l 0) (.c (.int .i64 1)))), (.i (.v 8) (.mv (.l 0)))])] [(.ops [(.i .l (.bin (.int .i64) .eql (.v 14) (.c (.int .i64 6)))), (.i (.v 17) (.mv (.l 0)))]), (.cond (.v 17) [(.ops [(.i (.v 7) (.mv (.c (.int .i64 1)))), (.i (.v 8) (.mv (.c (.int .i64 5))))])] [(.ops [(.i .l (.bin (.int .i64) .eql (.v 14) (.c (.int .i64 15)))), (.i (.v 18) (.mv (.l 0)))]), (.cond (.v 18) [(.ops [(.i (.v 8) (.mv (.c (.int .i64 15))))])] [(.ops [(.i .l (.bin (.int .i64) .eql (.v 14) (.c (.int .i64 18)))), (.i (.v 19) (.mv (.l 0)))]), (.cond (.v 19) [(.ops [(.i .l (.fad 0 (.v 3))), (.i .l (.load false 1 (.l 0))), (.i .l (.len false (some 56) (.l 0))), (.i .l (.bin (.int .i64) .sub (.l 0) (.c (.int .i64 1)))), (.i (.v 8) (.mv (.l 0)))])] [(.ops [(.i .l (.fad 1 (.v 4))), (.i .l (.load false 1 (.l 0))), (.i (.v 15) (.bin (.int .i64) .neq (.l 0) (.c (.int .i64 0))))]), (.cond (.v 15) [(.ops [(.i (.v 5) (.mv (.c (.int .i64 5))))]), .ret] [])])])])])]) :: (.ops [(.i .l (.fad 1 (.v 4))), (.i .l (.load false 1 (.l 0))), (.i .l (.mv (.v 7))), (.i .l (.bin (.int .i64) .lss (.l 1) (.l 0))), (.i .l (.mv (.l 0))), (.g (.l 0) false .l (.fad 1 (.v 4))), (.g (.l 1) false .l (.load false 1 (.l 0))), (.g (.l 2) false .l (.mv (.v 8))), (.g (.l 3) false .l (.bin (.int .i64) .gtr (.l 1) (.l 0))), (.i (.v 20) (.pick (.l 4) (.c (.bool true)) (.l 0)))]) :: (.cond (.v 20) [(.ops [(.i (.v 5) (.mv (.c (.int .i64 1))))]), .ret] []) :: rest)] [v0, v1, .int .i64 o, .ptr h.n 0 0, .ptr (h.n + 1) 0 0, .int .i64 0, v6, v7, v8, v9, v10, v11, v12, v13, v14, v15, v16, v17, v18, v19, v20, v21, v22, v23, v24] [] ((h.push [[mv]]).push [[.int .i64 op, .int .i64 k, .int .i64 n, v]])) = some (.inl (.int .i64 (nums2 nf op k o)), h)) := by
  have g2 : GrewA h ((h.push [[mv]]).push [[.int .i64 op, .int .i64 k, .int .i64 n, v]]) := (GrewA.push h _).trans (GrewA.push _ _)
  have hw := w64 (n := o - 1) (by omega) (by omega)
  by_cases h4 : op = 4
  · subst h4
    
    by_cases hk : k < 0
    · refine .inr ⟨by simp [nums2, hk], ?_⟩
      have e2 : nums2 nf 4 k o = 1 := by simp [nums2, hk]
      rw [e2]
      simp only [sim, simB, Nat.reduceAdd, Nat.reduceSub, List.replicate, reduceCtorEq, Nat.reduceLeDiff, Nat.reduceLT, clearA, Int.reduceEq, hm, hft, hw, hk, fg_yes g2 (rfl : wkA (.int .i64 1) = _)]
    · by_cases hu : o ≤ k
      · refine .inr ⟨by simp [nums2, hu], ?_⟩
        have e2 : nums2 nf 4 k o = 1 := by simp [nums2, hu]
        have hu' : (o - 1) < k := by omega
        rw [e2]
        simp only [sim, simB, Nat.reduceAdd, Nat.reduceSub, List.replicate, reduceCtorEq, Nat.reduceLeDiff, Nat.reduceLT, clearA, Int.reduceEq, hm, hft, hw, hk, hu', fg_yes g2 (rfl : wkA (.int .i64 1) = _)]
      · refine .inl ⟨by simp [nums2, hk, hu], .int .i64 0, .int .i64 (o - 1), .int .i64 4, v15, .bool true, v17, v18, v19, .bool false, ?_⟩
        have hu' : ¬ (o - 1) < k := by omega
        simp only [sim, simB, Nat.reduceAdd, Nat.reduceSub, List.replicate, reduceCtorEq, Nat.reduceLeDiff, Nat.reduceLT, clearA, Int.reduceEq, hm, hft, hw, hk, hu']
  by_cases h6 : op = 6
  · subst h6
    
    by_cases hk : k < 1
    · refine .inr ⟨by simp [nums2, hk], ?_⟩
      have e2 : nums2 nf 6 k o = 1 := by simp [nums2, hk]
      rw [e2]
      simp only [sim, simB, Nat.reduceAdd, Nat.reduceSub, List.replicate, reduceCtorEq, Nat.reduceLeDiff, Nat.reduceLT, clearA, Int.reduceEq, hm, hft, hw, hk, fg_yes g2 (rfl : wkA (.int .i64 1) = _)]
    · by_cases hu : 5 < k
      · refine .inr ⟨by simp [nums2, hu], ?_⟩
        have e2 : nums2 nf 6 k o = 1 := by simp [nums2, hu]
        have hu' : 5 < k := by omega
        rw [e2]
        simp only [sim, simB, Nat.reduceAdd, Nat.reduceSub, List.replicate, reduceCtorEq, Nat.reduceLeDiff, Nat.reduceLT, clearA, Int.reduceEq, hm, hft, hw, hk, hu', fg_yes g2 (rfl : wkA (.int .i64 1) = _)]
      · refine .inl ⟨by simp [nums2, hk, hu], .int .i64 1, .int .i64 5, .int .i64 6, v15, .bool false, .bool true, v18, v19, .bool false, ?_⟩
        have hu' : ¬ 5 < k := by omega
        simp only [sim, simB, Nat.reduceAdd, Nat.reduceSub, List.replicate, reduceCtorEq, Nat.reduceLeDiff, Nat.reduceLT, clearA, Int.reduceEq, hm, hft, hw, hk, hu']
  by_cases h15 : op = 15
  · subst h15
    
    by_cases hk : k < 0
    · refine .inr ⟨by simp [nums2, hk], ?_⟩
      have e2 : nums2 nf 15 k o = 1 := by simp [nums2, hk]
      rw [e2]
      simp only [sim, simB, Nat.reduceAdd, Nat.reduceSub, List.replicate, reduceCtorEq, Nat.reduceLeDiff, Nat.reduceLT, clearA, Int.reduceEq, hm, hft, hw, hk, fg_yes g2 (rfl : wkA (.int .i64 1) = _)]
    · by_cases hu : 15 < k
      · refine .inr ⟨by simp [nums2, hu], ?_⟩
        have e2 : nums2 nf 15 k o = 1 := by simp [nums2, hu]
        have hu' : 15 < k := by omega
        rw [e2]
        simp only [sim, simB, Nat.reduceAdd, Nat.reduceSub, List.replicate, reduceCtorEq, Nat.reduceLeDiff, Nat.reduceLT, clearA, Int.reduceEq, hm, hft, hw, hk, hu', fg_yes g2 (rfl : wkA (.int .i64 1) = _)]
      · refine .inl ⟨by simp [nums2, hk, hu], .int .i64 0, .int .i64 15, .int .i64 15, v15, .bool false, .bool false, .bool true, v19, .bool false, ?_⟩
        have hu' : ¬ 15 < k := by omega
        simp only [sim, simB, Nat.reduceAdd, Nat.reduceSub, List.replicate, reduceCtorEq, Nat.reduceLeDiff, Nat.reduceLT, clearA, Int.reduceEq, hm, hft, hw, hk, hu']
  by_cases h18 : op = 18
  · subst h18
    have hw := w64 (n := (nf : Int) - 1) (by omega) (by omega)
    by_cases hk : k < 0
    · refine .inr ⟨by simp [nums2, hk], ?_⟩
      have e2 : nums2 nf 18 k o = 1 := by simp [nums2, hk]
      rw [e2]
      simp only [sim, simB, Nat.reduceAdd, Nat.reduceSub, List.replicate, reduceCtorEq, Nat.reduceLeDiff, Nat.reduceLT, clearA, Int.reduceEq, hm, hft, hw, hk, fg_yes g2 (rfl : wkA (.int .i64 1) = _)]
    · by_cases hu : (nf : Int) ≤ k
      · refine .inr ⟨by simp [nums2, hu], ?_⟩
        have e2 : nums2 nf 18 k o = 1 := by simp [nums2, hu]
        have hu' : ((nf : Int) - 1) < k := by omega
        rw [e2]
        simp only [sim, simB, Nat.reduceAdd, Nat.reduceSub, List.replicate, reduceCtorEq, Nat.reduceLeDiff, Nat.reduceLT, clearA, Int.reduceEq, hm, hft, hw, hk, hu', fg_yes g2 (rfl : wkA (.int .i64 1) = _)]
      · refine .inl ⟨by simp [nums2, hk, hu], .int .i64 0, .int .i64 ((nf : Int) - 1), .int .i64 18, v15, .bool false, .bool false, .bool false, .bool true, .bool false, ?_⟩
        have hu' : ¬ ((nf : Int) - 1) < k := by omega
        simp only [sim, simB, Nat.reduceAdd, Nat.reduceSub, List.replicate, reduceCtorEq, Nat.reduceLeDiff, Nat.reduceLT, clearA, Int.reduceEq, hm, hft, hw, hk, hu']
  by_cases hk : k = 0
  · subst hk
    refine .inl ⟨by simp [nums2, h4, h6, h15, h18], .int .i64 0, .int .i64 0, .int .i64 op, .bool false, .bool false, .bool false, .bool false, .bool false, .bool false, ?_⟩
    simp only [sim, simB, Nat.reduceAdd, Nat.reduceSub, List.replicate, reduceCtorEq, Nat.reduceLeDiff, Nat.reduceLT, clearA, Int.lt_irrefl, eq_self, h4, h6, h15, h18]
  · have e2 : nums2 nf op k o = 5 := by simp [nums2, h4, h6, h15, h18, hk]
    refine .inr ⟨by rw [e2]; decide, ?_⟩
    rw [e2]
    simp only [sim, simB, Nat.reduceAdd, Nat.reduceSub, List.replicate, reduceCtorEq, Nat.reduceLeDiff, Nat.reduceLT, clearA, h4, h6, h15, h18, hk, fg_yes g2 (rfl : wkA (.int .i64 5) = _)]

theorem ef_loop (nf : Int) (x : XD) (v : AV) (m : ∀ h, ModV h v x.l) (hL : x.l.length ≤ 100000) (o : Int) (ho : 0 ≤ o) (ho2 : o ≤ 12) (ht : x.op = 5 → o ≠ 12)
    (hf : ∀ y ∈ x.l, ∀ (q : List AV) (h : AH) (o : Int), ExA y q → 0 ≤ o → o ≤ 12 → runF Tryd.prog po 42 [.agg [mv], .agg q, .int .i64 o] h = some (.inl (.int .i64 (y.fault nf o)), h))
    (v0 v1 v7 v8 v12 v13 v14 v15 v16 v17 v18 v19 v20 v21 : AV) : ∀ (l pre : List XD) (v10 v11 v22 v23 v24 : AV), x.l = pre ++ l →
    cFR true [.v 5] h (runR (runF Tryd.prog po) 25 [.lp rc_exprFault_b1, .ss [], .blk 1, .ss [(.ops [(.i (.v 5) (.mv (.c (.int .i64 0))))]), .ret]] [v0, v1, .int .i64 o, .ptr h.n 0 0, .ptr (h.n + 1) 0 0, .int .i64 0, .int .i64 (x.l.length : Int), v7, v8, .int .i64 pre.length, v10, v11, v12, v13, v14, v15, v16, v17, v18, v19, v20, v21, v22, v23, v24] [] ((h.push [[mv]]).push [[.int .i64 x.op, .int .i64 x.k, .int .i64 x.n, v]])) = some (.inl (.int .i64 (faultsX nf x.op pre.length l o)), h) := by
  have g2 : GrewA h ((h.push [[mv]]).push [[.int .i64 x.op, .int .i64 x.k, .int .i64 x.n, v]]) := (GrewA.push h _).trans (GrewA.push _ _)
  intro l
  induction l with
  | nil =>
    intro pre v10 v11 v22 v23 v24 e
    have e' : x.l = pre := by simpa using e
    have hlt : ¬ ((pre.length : Int) < (x.l.length : Int)) := by rw [e']; omega
    rw [r_lpb rc_exprFault_b1.eq_1]
    simp only [sim, simB, Nat.reduceAdd, Nat.reduceSub, List.replicate, reduceCtorEq, Nat.reduceLeDiff, Nat.reduceLT, clearA, hlt, faultsX, fg_yes g2 (rfl : wkA (.int .i64 0) = _)]
  | cons y l ih =>
    intro pre v10 v11 v22 v23 v24 e
    have hlt : (pre.length : Int) < (x.l.length : Int) := by rw [e]; simp; omega
    obtain ⟨a, q, i1, i2, i3⟩ := (m ((h.push [[mv]]).push [[.int .i64 x.op, .int .i64 x.k, .int .i64 x.n, v]])).ix pre.length y (by rw [e]; simp)
    have i2' := i2 _ (GrewA.refl _)
    have hw := w64 (n := (pre.length : Int) + 1) (by rw [e] at hL; simp at hL; omega) (by rw [e] at hL; simp at hL; omega)
    have e3 : ((pre ++ [y]).length : Int) = (pre.length : Int) + 1 := by simp
    have e4 : (pre ++ [y]).length = pre.length + 1 := by simp
    by_cases hin : x.op = 5 ∧ pre.length = 1
    · obtain ⟨hop, hp1⟩ := hin
      have ho12 := ht hop
      have hd5 : decide ((pre.length : Int) = 1) = true := by simp [hp1]
      have hd6 : decide (x.op = 5) = true := by simp [hop]
      have hwo := w64 (n := o + 1) (by omega) (by omega)
      have cy := hf y (by rw [e]; simp) q ((h.push [[mv]]).push [[.int .i64 x.op, .int .i64 x.k, .int .i64 x.n, v]]) (o + 1) i3 (by omega) (by omega)
      rw [faultsX_cons, if_pos ⟨hop, hp1⟩]
      by_cases hc : y.fault nf (o + 1) = 0
      · have r1 := ih (pre ++ [y]) (.int .i64 (o + 1)) (.int .i64 0) (.bool true) (.bool true) (.bool false) (by simp [e])
        rw [e3, e4] at r1
        rw [hc] at cy
        rw [hc, orF_0]
        rw [r_lpb rc_exprFault_b1.eq_1]
        simp only [sim, simB, Nat.reduceAdd, Nat.reduceSub, List.replicate, reduceCtorEq, Nat.reduceLeDiff, Nat.reduceLT, clearA, hlt, i1, i2', hd5, hd6, hwo, cy, eq_self, hw]
        exact r1
      · rw [orF_ne hc]
        rw [r_lpb rc_exprFault_b1.eq_1]
        simp only [sim, simB, Nat.reduceAdd, Nat.reduceSub, List.replicate, reduceCtorEq, Nat.reduceLeDiff, Nat.reduceLT, clearA, hlt, i1, i2', hd5, hd6, hwo, cy, hc, fg_yes g2 (rfl : wkA (.int .i64 (y.fault nf (o + 1))) = _)]
    · have hd : (decide (x.op = 5) && decide ((pre.length : Int) = 1)) = false := by
        rw [Bool.and_eq_false_iff, decide_eq_false_iff_not, decide_eq_false_iff_not]
        by_cases h5 : x.op = 5
        · exact .inr (fun hp => hin ⟨h5, by omega⟩)
        · exact .inl h5
      have cy := hf y (by rw [e]; simp) q ((h.push [[mv]]).push [[.int .i64 x.op, .int .i64 x.k, .int .i64 x.n, v]]) o i3 (by omega) (by omega)
      rw [faultsX_cons, if_neg hin]
      by_cases hc : y.fault nf o = 0
      · have r1 := ih (pre ++ [y]) (.int .i64 o) (.int .i64 0) (.bool true) (.bool false) (.bool false) (by simp [e])
        rw [e3, e4] at r1
        rw [hc] at cy
        rw [hc, orF_0]
        rw [r_lpb rc_exprFault_b1.eq_1]
        cases h5 : decide (x.op = 5)
        · simp only [sim, simB, Nat.reduceAdd, Nat.reduceSub, List.replicate, reduceCtorEq, Nat.reduceLeDiff, Nat.reduceLT, clearA, hlt, i1, i2', h5, cy, eq_self, hw]
          exact r1
        · rw [h5, Bool.true_and] at hd
          simp only [sim, simB, Nat.reduceAdd, Nat.reduceSub, List.replicate, reduceCtorEq, Nat.reduceLeDiff, Nat.reduceLT, clearA, hlt, i1, i2', h5, hd, cy, eq_self, hw]
          exact r1
      · rw [orF_ne hc]
        rw [r_lpb rc_exprFault_b1.eq_1]
        cases h5 : decide (x.op = 5)
        · simp only [sim, simB, Nat.reduceAdd, Nat.reduceSub, List.replicate, reduceCtorEq, Nat.reduceLeDiff, Nat.reduceLT, clearA, hlt, i1, i2', h5, cy, hc, fg_yes g2 (rfl : wkA (.int .i64 (y.fault nf o)) = _)]
        · rw [h5, Bool.true_and] at hd
          simp only [sim, simB, Nat.reduceAdd, Nat.reduceSub, List.replicate, reduceCtorEq, Nat.reduceLeDiff, Nat.reduceLT, clearA, hlt, i1, i2', h5, hd, cy, hc, fg_yes g2 (rfl : wkA (.int .i64 (y.fault nf o)) = _)]

theorem exprFault_run {nf : Nat} (hnf : nf ≤ 100000) (hm : lenA mv = some nf) (hft : ∀ s, fitsR s (some tE) mv = true) (hmo : mv.one = true) : ∀ (N : Nat) (x : XD), SizeOf.sizeOf x ≤ N → x.size ≤ 100000 → ∀ (r : List AV) (h : AH) (o : Int), ExA x r → 0 ≤ o → o ≤ 12 →
    runF Tryd.prog po 42 [.agg [mv], .agg r, .int .i64 o] h = some (.inl (.int .i64 (x.fault nf o)), h) := by
  intro N
  induction N with
  | zero => intro x hx; have := x.so_pos; omega
  | succ N ih =>
    intro x hx hsz r h o he ho ho2
    obtain ⟨v, es, e, hv, hl⟩ := he.row
    have m : ∀ h, ModV h v x.l := fun h => ModV.of hv hl
    have o1 := (m h).one
    have l1 := (m h).len
    have f1 := (m h).fits
    have hlen := x.len_size
    subst e
    have g2 : GrewA h ((h.push [[mv]]).push [[.int .i64 x.op, .int .i64 x.k, .int .i64 x.n, v]]) := (GrewA.push h _).trans (GrewA.push _ _)
    have cp := r_PartsOf (h := ((h.push [[mv]]).push [[.int .i64 x.op, .int .i64 x.k, .int .i64 x.n, v]])) x.op
    rw [XD.fault_eq]
    refine runF_R fn_exprFault rfl ?_; unfold rc_exprFault
    by_cases h1 : partsX x.op < 0
    · have e2 : headX nf x.op x.k x.n x.l.length o = 2 := by simp [headX, h1]
      rw [e2, orF_ne (by decide)]
      simp only [sim, simB, Nat.reduceAdd, Nat.reduceSub, List.replicate, reduceCtorEq, Nat.reduceLeDiff, Nat.reduceLT, clearA, hmo, o1, cp, h1, fg_yes g2 (rfl : wkA (.int .i64 2) = _)]
    cases h2 : decide ((x.l.length : Int) = partsX x.op)
    · have h2' : ¬ (x.l.length : Int) = partsX x.op := by simpa using h2
      have e2 : headX nf x.op x.k x.n x.l.length o = 5 := by simp [headX, h1, h2']
      rw [e2, orF_ne (by decide)]
      simp only [sim, simB, Nat.reduceAdd, Nat.reduceSub, List.replicate, reduceCtorEq, Nat.reduceLeDiff, Nat.reduceLT, clearA, hmo, o1, cp, h1, l1, f1, h2, fg_yes g2 (rfl : wkA (.int .i64 5) = _)]
    have h2' : (x.l.length : Int) = partsX x.op := by simpa using h2
    by_cases h3 : x.n ≠ 0 ∧ x.op ≠ 2
    · have e2 : headX nf x.op x.k x.n x.l.length o = 5 := by simp [headX, h1, h2', numsX, h3]
      rw [e2, orF_ne (by decide)]
      obtain ⟨h31, h32⟩ := h3
      simp only [sim, simB, Nat.reduceAdd, Nat.reduceSub, List.replicate, reduceCtorEq, Nat.reduceLeDiff, Nat.reduceLT, clearA, hmo, o1, cp, h1, l1, f1, h2, h31, h32, fg_yes g2 (rfl : wkA (.int .i64 5) = _)]
    have e3 : numsX nf x.op x.k x.n o = nums2 nf x.op x.k o := by rw [nums_eq, if_neg h3, orF_0]
    have begin_ : ∀ K : List RS, runR (runF Tryd.prog po) 25 [.ss ((.ops [(.i (.v 3) (.box 1 (.v 0))), (.i (.v 4) (.box 4 (.v 1))), (.i (.v 5) (.mv (.c (.int .i64 0))))]) :: (.ops [(.i .l (.fad 0 (.v 4))), (.i .l (.load false 1 (.l 0))), (.i .l (.call (.c (.fn 64 [] [])) [(.l 0)])), (.i (.v 6) (.mv (.l 0)))]) :: (.ops [(.i .l (.mv (.v 6))), (.i (.v 12) (.bin (.int .i64) .lss (.l 0) (.c (.int .i64 0))))]) :: (.cond (.v 12) [(.ops [(.i (.v 5) (.mv (.c (.int .i64 2))))]), .ret] []) :: K)] [.agg [mv], .agg [.int .i64 x.op, .int .i64 x.k, .int .i64 x.n, v], .int .i64 o, .junk, .junk, .junk, .junk, .junk, .junk, .junk, .junk, .junk, .junk, .junk, .junk, .junk, .junk, .junk, .junk, .junk, .junk, .junk, .junk, .junk, .junk] [] h = runR (runF Tryd.prog po) 25 [.ss K] [.agg [mv], .agg [.int .i64 x.op, .int .i64 x.k, .int .i64 x.n, v], .int .i64 o, .ptr h.n 0 0, .ptr (h.n + 1) 0 0, .int .i64 0, .int .i64 (partsX x.op), .junk, .junk, .junk, .junk, .junk, .bool false, .junk, .junk, .junk, .junk, .junk, .junk, .junk, .junk, .junk, .junk, .junk, .junk] [] ((h.push [[mv]]).push [[.int .i64 x.op, .int .i64 x.k, .int .i64 x.n, v]]) := by
      intro K
      simp only [sim, simB, Nat.reduceAdd, Nat.reduceSub, List.replicate, reduceCtorEq, Nat.reduceLeDiff, Nat.reduceLT, clearA, hmo, o1, cp, h1]
    have first : ∀ K : List RS, runR (runF Tryd.prog po) 25 [.ss ((.ops [(.i .l (.fad 3 (.v 4))), (.i .l (.load false 1 (.l 0))), (.i .l (.len false (some 56) (.l 0))), (.i .l (.mv (.v 6))), (.i .l (.bin (.int .i64) .neq (.l 1) (.l 0))), (.i .l (.mv (.l 0))), (.g (.l 0) false .l (.fad 2 (.v 4))), (.g (.l 1) false .l (.load false 1 (.l 0))), (.g (.l 2) false .l (.bin (.int .i64) .neq (.l 0) (.c (.int .i64 0)))), (.g (.l 3) false .l (.mv (.l 0))), (.g (.l 0) true .l (.fad 0 (.v 4))), (.g (.l 1) true .l (.load false 1 (.l 0))), (.g (.l 2) true .l (.bin (.int .i64) .neq (.l 0) (.c (.int .i64 2)))), (.g (.l 7) false .l (.pick (.l 3) (.l 0) (.c (.bool false)))), (.i (.v 13) (.pick (.l 8) (.c (.bool true)) (.l 0)))]) :: (.cond (.v 13) [(.ops [(.i (.v 5) (.mv (.c (.int .i64 5))))]), .ret] []) :: K)] [.agg [mv], .agg [.int .i64 x.op, .int .i64 x.k, .int .i64 x.n, v], .int .i64 o, .ptr h.n 0 0, .ptr (h.n + 1) 0 0, .int .i64 0, .int .i64 (partsX x.op), .junk, .junk, .junk, .junk, .junk, .bool false, .junk, .junk, .junk, .junk, .junk, .junk, .junk, .junk, .junk, .junk, .junk, .junk] [] ((h.push [[mv]]).push [[.int .i64 x.op, .int .i64 x.k, .int .i64 x.n, v]]) = runR (runF Tryd.prog po) 25 [.ss K] [.agg [mv], .agg [.int .i64 x.op, .int .i64 x.k, .int .i64 x.n, v], .int .i64 o, .ptr h.n 0 0, .ptr (h.n + 1) 0 0, .int .i64 0, .int .i64 (partsX x.op), .junk, .junk, .junk, .junk, .junk, .bool false, .bool false, .junk, .junk, .junk, .junk, .junk, .junk, .junk, .junk, .junk, .junk, .junk] [] ((h.push [[mv]]).push [[.int .i64 x.op, .int .i64 x.k, .int .i64 x.n, v]]) := by
      intro K
      cases hn0 : decide (x.n = 0)
      · have hop : decide (x.op = 2) = true := by
          have hn0' : x.n ≠ 0 := by simpa using hn0
          simp only [decide_eq_true_eq]
          exact Classical.byContradiction fun hh => h3 ⟨hn0', hh⟩
        simp only [sim, simB, Nat.reduceAdd, Nat.reduceSub, List.replicate, reduceCtorEq, Nat.reduceLeDiff, Nat.reduceLT, clearA, l1, f1, h2, hn0, hop]
      · simp only [sim, simB, Nat.reduceAdd, Nat.reduceSub, List.replicate, reduceCtorEq, Nat.reduceLeDiff, Nat.reduceLT, clearA, l1, f1, h2, hn0]
    rcases ef_range (h := h) hnf hm hft x.op x.k x.n o ho ho2 v [(.ops [(.i .l (.fad 0 (.v 4))), (.i .l (.load false 1 (.l 0))), (.i .l (.bin (.int .i64) .eql (.l 0) (.c (.int .i64 5)))), (.i .l (.mv (.l 0))), (.g (.l 0) true .l (.mv (.v 2))), (.g (.l 1) true .l (.bin (.int .i64) .eql (.l 0) (.c (.int .i64 12)))), (.i (.v 21) (.pick (.l 2) (.l 0) (.c (.bool false))))]), (.cond (.v 21) [(.ops [(.i (.v 5) (.mv (.c (.int .i64 3))))]), .ret] []), (.ops [(.i (.v 9) (.mv (.c (.int .i64 0))))]), (.block 1 [(.loop rc_exprFault_b1)]), (.ops [(.i (.v 5) (.mv (.c (.int .i64 0))))]), .ret] (.agg [mv]) (.agg [.int .i64 x.op, .int .i64 x.k, .int .i64 x.n, v]) (.int .i64 (partsX x.op)) (.junk) (.junk) (.junk) (.junk) (.junk) (.bool false) (.bool false) (.junk) (.junk) (.junk) (.junk) (.junk) (.junk) (.junk) (.junk) (.junk) (.junk) (.junk) with ⟨h4, w7, w8, w14, w15, w16, w17, w18, w19, w20, r1⟩ | ⟨h4, r1⟩
    · cases h5 : (decide (x.op = 5) && decide (o = 12))
      · have e2 : headX nf x.op x.k x.n x.l.length o = 0 := by
          simp only [Bool.and_eq_false_iff, decide_eq_false_iff_not] at h5
          simp only [headX, h1, if_false, h2', ne_eq, not_true, e3, h4]
          rw [if_neg]
          rintro ⟨a, b⟩
          rcases h5 with h5 | h5
          · exact h5 a
          · exact h5 b
        rw [e2, orF_0]
        have r2 := ef_loop (h := h) (mv := mv) nf x v m (by omega) o ho ho2 (fun a b => by simp [a, b] at h5) (fun y hy q h o hq => ih y (by have := XD.lt_mem hy; omega) (by have := XD.size_mem hy; omega) q h o hq) (.agg [mv]) (.agg [.int .i64 x.op, .int .i64 x.k, .int .i64 x.n, v]) w7 w8 (.bool false) (.bool false) w14 w15 w16 w17 w18 w19 w20 (.bool false) x.l [] .junk .junk .junk .junk .junk rfl
        simp only [List.length_nil, Int.natCast_zero] at r2
        rw [h2'] at r2
        refine (congrArg (cFR true [.v 5] h) ((begin_ _).trans ((first _).trans r1))).trans ?_
        cases e5 : decide (x.op = 5)
        · simp only [sim, simB, Nat.reduceAdd, Nat.reduceSub, List.replicate, reduceCtorEq, Nat.reduceLeDiff, Nat.reduceLT, clearA, e5]
          exact r2
        · rw [e5, Bool.true_and] at h5
          simp only [sim, simB, Nat.reduceAdd, Nat.reduceSub, List.replicate, reduceCtorEq, Nat.reduceLeDiff, Nat.reduceLT, clearA, e5, h5]
          exact r2
      · have h5' := h5
        simp only [Bool.and_eq_true] at h5
        have e2 : headX nf x.op x.k x.n x.l.length o = 3 := by
          simp only [headX, h1, if_false, h2', ne_eq, not_true, e3, h4]
          simp only [decide_eq_true_eq] at h5
          rw [if_pos h5]
        rw [e2, orF_ne (by decide)]
        refine (congrArg (cFR true [.v 5] h) ((begin_ _).trans ((first _).trans r1))).trans ?_
        simp only [sim, simB, Nat.reduceAdd, Nat.reduceSub, List.replicate, reduceCtorEq, Nat.reduceLeDiff, Nat.reduceLT, clearA, h5, fg_yes g2 (rfl : wkA (.int .i64 3) = _)]
    · have e2 : headX nf x.op x.k x.n x.l.length o = nums2 nf x.op x.k o := by
        simp only [headX, h1, if_false, h2', ne_eq, not_true, e3, h4, not_false_eq_true, if_true]
      rw [e2, orF_ne h4]
      exact (congrArg (cFR true [.v 5] h) ((begin_ _).trans (first _))).trans r1
end
end Go.Proofs.YtngphebjmmencaaDoor
namespace Go.Proofs.YtngphebjmmencaaDoor
set_option linter.unusedSimpArgs false
set_option linter.unusedVariables false
open Go

theorem firstX_cons (nf : Int) (i : Nat) (x : XD) (l : List XD) : firstX nf i (x :: l) = if funcX nf x ≠ 0 then (funcX nf x, (i : Int)) else firstX nf (i + 1) l := rfl

section
variable {h : AH}
theorem CodeFault_loop (v : AV) (L : List XD) (m : ∀ h, ModV h v L) (hL : L.length ≤ 100000) (hs : ∀ x ∈ L, x.size ≤ 100000) (v0 v6 : AV) : ∀ (l pre : List XD) (h' : AH) (v4 v5 v7 v8 v9 v10 : AV), L = pre ++ l →
    GrewA h h' → h.n + 1 < h'.n → h'.cell h.n = some [[v]] → h'.cell (h.n + 1) = some [[.int .i64 0, .int .i64 0]] →
    cFR true [.cell true 2 2] h (runR (runF Tryd.prog po) 11 [.lp rc_CodeFault_b1, .ss [], .blk 0, .ss [(.ops [(.i .l (.build [(.int .i64 0), (.int .i64 0)] [(0, 1), (1, 1)] [])), (.i .n (.store 2 (.v 2) (.l 0)))]), .ret]] [v0, .ptr h.n 0 0, .ptr (h.n + 1) 0 0, .int .i64 pre.length, v4, v5, v6, v7, v8, v9, v10] [] h') =
      some (.inl (.agg [.int .i64 (firstX L.length pre.length l).1, .int .i64 (firstX L.length pre.length l).2]), h) := by
  intro l
  induction l with
  | nil =>
    intro pre h' v4 v5 v7 v8 v9 v10 e g hn c1 c2
    have e' : L = pre := by simpa using e
    have hlt : ¬ ((pre.length : Int) < (L.length : Int)) := by rw [e']; omega
    rw [r_lpb rc_CodeFault_b1.eq_1]
    simp only [sim, simB, Nat.reduceAdd, Nat.reduceSub, List.replicate, reduceCtorEq, Nat.reduceLeDiff, Nat.reduceLT, clearA, c1, c2, (m h').len, (m h').fits, hlt, firstX, fg_yes (g.set (show h.n ≤ h.n + 1 by omega)) (rfl : wkA (.agg [.int .i64 0, .int .i64 0]) = _)]
  | cons y l ih =>
    intro pre h' v4 v5 v7 v8 v9 v10 e g hn c1 c2
    have hlt : (pre.length : Int) < (L.length : Int) := by rw [e]; simp; omega
    obtain ⟨a, q, i1, i2, i3⟩ := (m h').ix pre.length y (by rw [e]; simp)
    have i2' := i2 _ (GrewA.refl h')
    obtain ⟨o1, o2⟩ := i3.one
    have hys := hs y (by rw [e]; simp)
    have d1 : (h'.push [q]).cell h.n = some [[v]] := (push_lt (by omega)).trans c1
    have d2 : (h'.push [q]).cell (h.n + 1) = some [[.int .i64 0, .int .i64 0]] := (push_lt hn).trans c2
    have g1 := g.trans (GrewA.push h' [q])
    have hw := w64 (n := (pre.length : Int) + 1) (by rw [e] at hL; simp at hL; omega) (by rw [e] at hL; simp at hL; omega)
    have e3 : ((pre ++ [y]).length : Int) = (pre.length : Int) + 1 := by simp
    have e4 : (pre ++ [y]).length = pre.length + 1 := by simp
    have cd := DeepOf_run _ y (Nat.le_refl _) hys q (h'.push [q]) 30 i3 (by omega) (by omega)
    have cc := CountOf_run _ y (Nat.le_refl _) q (h'.push [q]) 120 i3 (by omega) (by omega)
    have ce := exprFault_run hL (m h').len (m h').fits (m h').one _ y (Nat.le_refl _) hys q (h'.push [q]) 0 i3 (by omega) (by omega)
    have g2 : ∀ es, GrewA h ((h'.push [q]).set (h.n + 1) es) := fun es => g1.set (by omega)
    have hwk : ∀ a b : Int, wkA (.agg [.int .i64 a, .int .i64 b]) = some (.agg [.int .i64 a, .int .i64 b]) := fun a b => rfl
    rw [firstX_cons]
    rw [r_lpb rc_CodeFault_b1.eq_1]
    by_cases hd : 30 < y.depth
    · have hd2 : (30 : Int) < min (y.depth : Int) (30 + 1) := by omega
      have ef : funcX L.length y = 4 := by simp [funcX, hd]
      rw [ef, if_pos (by decide)]
      simp only [sim, simB, Nat.reduceAdd, Nat.reduceSub, List.replicate, reduceCtorEq, Nat.reduceLeDiff, Nat.reduceLT, clearA, c1, (m h').len, (m h').fits, hlt, i1, i2', o1, o2, d1, d2, cd, hd2, rF_run, fg_yes (g2 _) (hwk _ _)]
    · have hd2 : ¬ (30 : Int) < min (y.depth : Int) (30 + 1) := by omega
      by_cases hc : 120 < y.size
      · have hc2 : (120 : Int) < min (y.size : Int) (120 + 1) := by omega
        have ef : funcX L.length y = 3 := by simp [funcX, hd, hc]
        rw [ef, if_pos (by decide)]
        simp only [sim, simB, Nat.reduceAdd, Nat.reduceSub, List.replicate, reduceCtorEq, Nat.reduceLeDiff, Nat.reduceLT, clearA, c1, (m h').len, (m h').fits, hlt, i1, i2', o1, o2, d1, d2, cd, hd2, cc, hc2, rF_run, fg_yes (g2 _) (hwk _ _)]
      · have hc2 : ¬ (120 : Int) < min (y.size : Int) (120 + 1) := by omega
        have ef : funcX L.length y = y.fault L.length 0 := by simp [funcX, hd, hc]
        rw [ef]
        by_cases hf : y.fault L.length 0 = 0
        · rw [if_neg (by simp [hf])]
          have r1 := ih (pre ++ [y]) (h'.push [q]) (.ptr h'.n 0 0) (.int .i64 0) (.bool true) (.bool false) (.bool false) (.bool false) (by simp [e]) g1 (by simp only [push_n]; omega) d1 d2
          rw [e3, e4] at r1
          rw [hf] at ce
          simp only [sim, simB, Nat.reduceAdd, Nat.reduceSub, List.replicate, reduceCtorEq, Nat.reduceLeDiff, Nat.reduceLT, clearA, c1, (m h').len, (m h').fits, hlt, i1, i2', o1, o2, d1, d2, cd, hd2, cc, hc2, ce, eq_self, hw]
          exact r1
        · rw [if_pos hf]
          simp only [sim, simB, Nat.reduceAdd, Nat.reduceSub, List.replicate, reduceCtorEq, Nat.reduceLeDiff, Nat.reduceLT, clearA, c1, (m h').len, (m h').fits, hlt, i1, i2', o1, o2, d1, d2, cd, hd2, cc, hc2, ce, hf, rF_run, fg_yes (g2 _) (hwk _ _)]
theorem CodeFault_run (v : AV) (L : List XD) (m : ∀ h, ModV h v L) (hL : L.length ≤ 100000) (hs : ∀ x ∈ L, x.size ≤ 100000) :
    runF Tryd.prog po 20 [.agg [v]] h = some (.inl (.agg [.int .i64 (checkX L).1, .int .i64 (checkX L).2]), h) := by
  have o1 := (m h).one
  have l1 := (m h).len
  have f1 := (m h).fits
  have g2 : GrewA h ((h.push [[v]]).push [[.int .i64 3, .int .i64 (-1)]]) := (GrewA.push h _).trans (GrewA.push _ _)
  have hwk : ∀ a b : Int, wkA (.agg [.int .i64 a, .int .i64 b]) = some (.agg [.int .i64 a, .int .i64 b]) := fun a b => rfl
  refine runF_R fn_CodeFault rfl ?_; unfold rc_CodeFault
  by_cases h0 : L.length = 0
  · have h0' : (L.length : Int) < 1 := by omega
    have e : checkX L = (3, -1) := by simp [checkX, h0]
    rw [e]
    simp only [sim, simB, Nat.reduceAdd, Nat.reduceSub, List.replicate, reduceCtorEq, Nat.reduceLeDiff, Nat.reduceLT, clearA, o1, l1, f1, h0', rF_run, fg_yes g2 (hwk _ _)]
  · have h0' : ¬ (L.length : Int) < 1 := by omega
    by_cases h6 : 6 < L.length
    · have h6' : (6 : Int) < (L.length : Int) := by omega
      have e : checkX L = (3, -1) := by simp [checkX, h6]
      rw [e]
      simp only [sim, simB, Nat.reduceAdd, Nat.reduceSub, List.replicate, reduceCtorEq, Nat.reduceLeDiff, Nat.reduceLT, clearA, o1, l1, f1, h0', h6', rF_run, fg_yes g2 (hwk _ _)]
    · have h6' : ¬ (6 : Int) < (L.length : Int) := by omega
      have e : checkX L = firstX L.length 0 L := by simp only [checkX, h0, h6, or_self, if_false]
      rw [e]
      have r1 := CodeFault_loop (h := h) v L m hL hs (.agg [v]) (.bool false) L [] ((h.push [[v]]).push [[.int .i64 0, .int .i64 0]]) .junk .junk .junk .junk .junk .junk rfl ((GrewA.push h _).trans (GrewA.push _ _)) (by simp only [push_n]; omega) push2_old push2_same
      simp only [List.length_nil, Int.natCast_zero] at r1
      simp only [sim, simB, Nat.reduceAdd, Nat.reduceSub, List.replicate, reduceCtorEq, Nat.reduceLeDiff, Nat.reduceLT, clearA, o1, l1, f1, h0', h6']
      exact r1

theorem Check_loop (v : AV) (L : List XD) (m : ModV h v L) (hL : L.length ≤ 100000) (hs : ∀ x ∈ L, x.size ≤ 100000) (v0 v6 : AV) : ∀ (l pre : List XD) (h' : AH) (v3 v4 v5 v10 v11 v12 : AV), L = pre ++ l →
    GrewA h h' → h.n + 1 < h'.n → h'.cell h.n = some [[v]] → h'.cell (h.n + 1) = some [[.int .i64 0, .int .i64 0]] →
    cFR true [.cell true 2 2] h (runR (runF Tryd.prog po) 13 [.lp rc_cCheck_b1, .ss [], .blk 0, .ss [(.ops [(.i .l (.build [(.int .i64 0), (.int .i64 0)] [(0, 1), (1, 1)] [])), (.i .n (.store 2 (.v 2) (.l 0)))]), .ret]] [v0, .ptr h.n 0 0, .ptr (h.n + 1) 0 0, v3, v4, v5, v6, v, .int .i64 L.length, .int .i64 pre.length, v10, v11, v12] [] h') =
      some (.inl (.agg [.int .i64 (firstX L.length pre.length l).1, .int .i64 (firstX L.length pre.length l).2]), h) := by
  intro l
  induction l with
  | nil =>
    intro pre h' v3 v4 v5 v10 v11 v12 e g hn c1 c2
    have e' : L = pre := by simpa using e
    have hlt : ¬ ((pre.length : Int) < (L.length : Int)) := by rw [e']; omega
    rw [r_lpb rc_cCheck_b1.eq_1]
    simp only [sim, simB, Nat.reduceAdd, Nat.reduceSub, List.replicate, reduceCtorEq, Nat.reduceLeDiff, Nat.reduceLT, clearA, c2, hlt, firstX, fg_yes (g.set (show h.n ≤ h.n + 1 by omega)) (rfl : wkA (.agg [.int .i64 0, .int .i64 0]) = _)]
  | cons y l ih =>
    intro pre h' v3 v4 v5 v10 v11 v12 e g hn c1 c2
    have hlt : (pre.length : Int) < (L.length : Int) := by rw [e]; simp; omega
    obtain ⟨a, q, i1, i2, i3⟩ := m.ix pre.length y (by rw [e]; simp)
    have i2' := i2 _ g
    obtain ⟨o1, o2⟩ := i3.one
    have hys := hs y (by rw [e]; simp)
    have ov := m.one
    have d1 : (h'.push [q]).cell h.n = some [[v]] := (push_lt (by omega)).trans c1
    have hw := w64 (n := (pre.length : Int) + 1) (by rw [e] at hL; simp at hL; omega) (by rw [e] at hL; simp at hL; omega)
    have e3 : ((pre ++ [y]).length : Int) = (pre.length : Int) + 1 := by simp
    have e4 : (pre ++ [y]).length = pre.length + 1 := by simp
    have hwk : ∀ a b : Int, wkA (.agg [.int .i64 a, .int .i64 b]) = some (.agg [.int .i64 a, .int .i64 b]) := fun a b => rfl
    -- the judge
    have gj : GrewA h ((h'.push [q]).push [[v, .int .i64 0]]) := (g.trans (GrewA.push h' [q])).trans (GrewA.push _ _)
    have jb : ((h'.push [q]).push [[v, .int .i64 0]]).cell (h'.n + 1) = some [[v, .int .i64 0]] := push2_same
    have cd := cdeep_run _ y (Nat.le_refl _) hys q ((h'.push [q]).push [[v, .int .i64 0]]) 30 i3 (by omega) (by omega)
    have keep : ∀ {h1 h2 : AH} {c : Int}, JH (h'.n + 1) v c h1 h2 → h'.n + 1 < h1.n → h1.cell h'.n = some [q] → h1.cell h.n = some [[v]] → h1.cell (h.n + 1) = some [[.int .i64 0, .int .i64 0]] →
        h2.cell h'.n = some [q] ∧ h2.cell h.n = some [[v]] ∧ h2.cell (h.n + 1) = some [[.int .i64 0, .int .i64 0]] ∧ h'.n + 1 < h2.n := fun {h1 h2 c} j n1 k1 k2 k3 =>
      ⟨(j.old _ (by omega) (by omega)).trans k1, (j.old _ (by omega) (by omega)).trans k2, (j.old _ (by omega) (by omega)).trans k3, Nat.lt_of_lt_of_le n1 j.n⟩
    have k0 : ((h'.push [q]).push [[v, .int .i64 0]]).cell h'.n = some [q] := push2_old
    have k1 : ((h'.push [q]).push [[v, .int .i64 0]]).cell h.n = some [[v]] := (push_lt (by simp only [push_n]; omega)).trans d1
    have k2 : ((h'.push [q]).push [[v, .int .i64 0]]).cell (h.n + 1) = some [[.int .i64 0, .int .i64 0]] := (push_lt (by simp only [push_n]; omega)).trans ((push_lt hn).trans c2)
    have kn : h'.n + 1 < ((h'.push [q]).push [[v, .int .i64 0]]).n := by simp only [push_n]; omega
    obtain ⟨h1, r1, j1⟩ := jfail_run jb (!decide ((y.depth : Int) ≤ 30)) 4
    obtain ⟨p0, p1, p2, pn⟩ := keep j1 kn k0 k1 k2
    have g1 := JH.grew gj (by omega) j1
    have cc := ccount_run _ y (Nat.le_refl _) q h1 120 i3 (by omega) (by omega)
    rw [firstX_cons]
    rw [r_lpb rc_cCheck_b1.eq_1]
    by_cases hd : 30 < y.depth
    · have hd2 : ¬ (y.depth : Int) ≤ 30 := by omega
      have ef : funcX L.length y = 4 := by simp [funcX, hd]
      rw [ef, if_pos (by decide)]
      have e1 : orF 0 (if (!decide ((y.depth : Int) ≤ 30)) = true then 4 else 0) = 4 := by simp [orF, hd2]
      rw [e1] at j1
      obtain ⟨h2, r2, j2⟩ := jfail_run j1.j false 3
      rw [if_neg (by simp), orF_z] at j2
      obtain ⟨s0, s1, s2, sn⟩ := keep j2 pn p0 p1 p2
      have g3 := (JH.grew g1 (by have := g.n; omega) j2).set (b := h.n + 1) (es := some [[.int .i64 4, .int .i64 pre.length]]) (by omega)
      have q1 := j1.j
      have q2 := j2.j
      simp only [hd2, decide_false, Bool.not_false] at r1
      simp only [sim, simB, Nat.reduceAdd, Nat.reduceSub, List.replicate, reduceCtorEq, Nat.reduceLeDiff, Nat.reduceLT, clearA, c1, hlt, i1, i2', o1, o2, ov, d1, cd, hd2, jb, k0, r1, p0, q1, Int.reduceEq, r2, q2, s0, s2, fg_yes g3 (hwk _ _)]
    · have hd2 : (y.depth : Int) ≤ 30 := by omega
      have e1 : orF 0 (if (!decide ((y.depth : Int) ≤ 30)) = true then 4 else 0) = 0 := by simp [orF, hd2]
      rw [e1] at j1
      have q1 := j1.j
      obtain ⟨h2, r2, j2⟩ := jfail_run j1.j (decide (max (120 - (y.size : Int)) (-1) < 0)) 3
      rw [orF_0] at j2
      obtain ⟨s0, s1, s2, sn⟩ := keep j2 pn p0 p1 p2
      have g2 := JH.grew g1 (by have := g.n; omega) j2
      simp only [hd2, decide_true, Bool.not_true] at r1
      by_cases hc : 120 < y.size
      · have hc2 : max (120 - (y.size : Int)) (-1) < 0 := by omega
        have ef : funcX L.length y = 3 := by simp [funcX, hd, hc]
        rw [ef, if_pos (by decide)]
        rw [if_pos (by simpa using hc2)] at j2
        have q2 := j2.j
        have g3 := g2.set (b := h.n + 1) (es := some [[.int .i64 3, .int .i64 pre.length]]) (by omega)
        simp only [hc2, decide_true] at r2
        simp only [sim, simB, Nat.reduceAdd, Nat.reduceSub, List.replicate, reduceCtorEq, Nat.reduceLeDiff, Nat.reduceLT, clearA, c1, hlt, i1, i2', o1, o2, ov, d1, cd, hd2, jb, k0, r1, p0, q1, eq_self, cc, hc2, Int.reduceEq, r2, q2, s0, s2, fg_yes g3 (hwk _ _)]
      · have hc2 : ¬ max (120 - (y.size : Int)) (-1) < 0 := by omega
        have ef : funcX L.length y = y.fault L.length 0 := by simp [funcX, hd, hc]
        rw [ef]
        rw [if_neg (by simpa using hc2)] at j2
        have q2 := j2.j
        simp only [hc2, decide_false] at r2
        obtain ⟨h3, r3, j3⟩ := jexpr_run (b := h'.n + 1) L.length m.len m.fits _ y (Nat.le_refl _) hys q h2 0 i3 (by omega) (by omega) j2.j sn
        obtain ⟨t0, t1, t2, tn⟩ := keep j3 sn s0 s1 s2
        have q3 := j3.j
        have g3 := JH.grew g2 (by have := g.n; omega) j3
        by_cases hf : y.fault L.length 0 = 0
        · rw [if_neg (by simp [hf])]
          have rr := ih (pre ++ [y]) h3 (.int .i64 pre.length) (.ptr h'.n 0 0) (.ptr (h'.n + 1) 0 0) (.bool true) (.bool true) (.bool false) (by simp [e]) g3 (by have := g.n; omega) t1 t2
          rw [e3, e4] at rr
          rw [hf] at q3
          simp only [sim, simB, Nat.reduceAdd, Nat.reduceSub, List.replicate, reduceCtorEq, Nat.reduceLeDiff, Nat.reduceLT, clearA, c1, hlt, i1, i2', o1, o2, ov, d1, cd, hd2, jb, k0, r1, p0, q1, eq_self, cc, hc2, Int.reduceEq, r2, q2, s0, r3, q3, hw]
          exact rr
        · rw [if_pos hf]
          have g4 := g3.set (b := h.n + 1) (es := some [[.int .i64 (y.fault L.length 0), .int .i64 pre.length]]) (by omega)
          simp only [sim, simB, Nat.reduceAdd, Nat.reduceSub, List.replicate, reduceCtorEq, Nat.reduceLeDiff, Nat.reduceLT, clearA, c1, hlt, i1, i2', o1, o2, ov, d1, cd, hd2, jb, k0, r1, p0, q1, eq_self, cc, hc2, Int.reduceEq, r2, q2, s0, r3, q3, hf, t2, fg_yes g4 (hwk _ _)]
theorem Check_run (v : AV) (L : List XD) (m : ModV h v L) (hL : L.length ≤ 100000) (hs : ∀ x ∈ L, x.size ≤ 100000) :
    runF Tryd.prog po 34 [.agg [v]] h = some (.inl (.agg [.int .i64 (checkX L).1, .int .i64 (checkX L).2]), h) := by
  have o1 := m.one
  have l1 := m.len
  have f1 := m.fits
  have g2 : GrewA h ((h.push [[v]]).push [[.int .i64 3, .int .i64 (-1)]]) := (GrewA.push h _).trans (GrewA.push _ _)
  have hwk : ∀ a b : Int, wkA (.agg [.int .i64 a, .int .i64 b]) = some (.agg [.int .i64 a, .int .i64 b]) := fun a b => rfl
  refine runF_R fn_cCheck rfl ?_; unfold rc_cCheck
  by_cases h0 : L.length = 0
  · have h0' : decide ((L.length : Int) = 0) = true := by simp [h0]
    have e : checkX L = (3, -1) := by simp [checkX, h0]
    rw [e]
    simp only [sim, simB, Nat.reduceAdd, Nat.reduceSub, List.replicate, reduceCtorEq, Nat.reduceLeDiff, Nat.reduceLT, clearA, o1, l1, f1, h0', fg_yes g2 (hwk _ _)]
  · have h0' : decide ((L.length : Int) = 0) = false := by rw [decide_eq_false_iff_not]; omega
    by_cases h6 : 6 < L.length
    · have h6' : (6 : Int) < (L.length : Int) := by omega
      have e : checkX L = (3, -1) := by simp [checkX, h6]
      rw [e]
      simp only [sim, simB, Nat.reduceAdd, Nat.reduceSub, List.replicate, reduceCtorEq, Nat.reduceLeDiff, Nat.reduceLT, clearA, o1, l1, f1, h0', h6', fg_yes g2 (hwk _ _)]
    · have h6' : ¬ (6 : Int) < (L.length : Int) := by omega
      have e : checkX L = firstX L.length 0 L := by simp only [checkX, h0, h6, or_self, if_false]
      rw [e]
      have r1 := Check_loop (h := h) v L m hL hs (.agg [v]) (.bool false) L [] ((h.push [[v]]).push [[.int .i64 0, .int .i64 0]]) .junk .junk .junk .junk .junk .junk rfl ((GrewA.push h _).trans (GrewA.push _ _)) (by simp only [push_n]; omega) push2_old push2_same
      simp only [List.length_nil, Int.natCast_zero] at r1
      simp only [sim, simB, Nat.reduceAdd, Nat.reduceSub, List.replicate, reduceCtorEq, Nat.reduceLeDiff, Nat.reduceLT, clearA, o1, l1, f1, h0', h6']
      exact r1

theorem fresh_push {m : Nat} {es : List (List AV)} : (h.fresh m).push es = (h.push es).fresh m := rfl
theorem fresh_set {m b : Nat} {es : Option (List (List AV))} : (h.fresh m).set b es = (h.set b es).fresh m := rfl
theorem grow_push {i m : Nat} {es : List (List AV)} : (h.grow i m).push es = (h.push es).grow i m := rfl
theorem grow_set {i m b : Nat} {es : Option (List (List AV))} : (h.grow i m).set b es = (h.set b es).grow i m := rfl
theorem f_agg {agg : Bool} {n off : Nat} {cs : List AV} : fldR agg n off (.agg cs) = ldA agg n cs off := rfl
theorem turns : (type_of% @f_agg) ∧ (type_of% @fresh_push) ∧ (type_of% @fresh_set) ∧ (type_of% @grow_push) ∧ (type_of% @grow_set) := ⟨@f_agg, @fresh_push, @fresh_set, @grow_push, @grow_set⟩
theorem fault_eql {a b c d : Int} : binR .agg (some [.int .i64, .int .i64]) false .eql (.agg [.int .i64 a, .int .i64 b]) (.agg [.int .i64 c, .int .i64 d]) = some (.bool (decide (a = c) && decide (b = d))) := by
  simp [binR, eqCells]
  rfl
theorem great_no {L : List XD} (hg : greatX L = false) : L.length ≤ 20 ∧ ∀ x ∈ L, x.size ≤ 600 := by
  simp only [greatX, Bool.or_eq_false_iff, decide_eq_false_iff_not, List.any_eq_false] at hg
  exact ⟨by omega, fun x hx => by have := hg.2 x hx; simpa using this⟩

end
end Go.Proofs.YtngphebjmmencaaDoor
