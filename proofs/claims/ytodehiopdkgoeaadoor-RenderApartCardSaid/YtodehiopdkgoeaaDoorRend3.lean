/- render and the document's texts of modules, in the plain model: the document's expressions; modules. -/
import Derived.Test.YtodehiopdkgoeaaDoorRend2
namespace Go.Proofs.YtodehiopdkgoeaaDoor
set_option linter.unusedSimpArgs false
set_option linter.unusedVariables false
open Go

/-- what Print tells -/
def printX (L : List XD) : List UInt8 × (Int × Int) := if (checkX L).1 ≠ 0 then ([], checkX L) else if 6000 < (modText L).length then ([], (3, -1)) else (modText L, (0, 0))
abbrev fltA (q : Int × Int) : AV := .agg [.int .i64 q.1, .int .i64 q.2]

section
variable {h : AH}
set_option maxHeartbeats 2000000 in
theorem ExprText_run : ∀ (N : Nat) (x : XD), SizeOf.sizeOf x ≤ N → x.wf → x.size ≤ 1000000 → ∀ (r : List AV) (h : AH), ExA x r →
    runF Tryd.prog po 51 [.agg r] h = some (.inl (.str x.text), h) := by
  intro N
  induction N with
  | zero => intro x hx; have := x.so_pos; omega
  | succ N ih =>
    intro x hx hw hsz r h he
    obtain ⟨v, es, rfl, hsl, hv, hn, hix⟩ := he.xrow
    obtain ⟨wk, wn, wl⟩ := XD.wf_parts hw
    have hxs := x.size_eq
    have hwl := word_len x.op
    have hbl := bin_len x.k
    have il1 := Lib.itoa_length_le _ wk.1 wk.2
    have il2 := Lib.itoa_length_le _ wn.1 wn.2
    have cw := fun h => WordOf_run (h := h) x.op
    have cb := fun h => BinOf_run (h := h) x.k
    have cf := fun h => fmt_run wn h
    have ci := fun h => itoa_run wk h
    have hle := hsl.len
    have hfi := hsl.fits
    have hal : (argX x.op x.k x.n).length ≤ 22 := argX_len wk wn
    have g0 : GrewA h (h.push [[.int .i64 x.op, .int .i64 x.k, .int .i64 x.n, v]]) := GrewA.push _ _
    have rest_ : ∀ (Q : RRun → Prop) (w6 w7 w8 : AV),
        (∀ V h' v, (resR V h' [.v 2]).map oneA = some v → GrewA h h' → wkA v = some (.str x.text) → Q (some (.ret, V, h'))) →
        Q (runR (runF Tryd.prog po) 10 (.lp rc_ExprText_b1 :: .ss [] :: .blk 1 :: [.ss [(.ops [(.i .l (.mv (.v 3))), (.i .l (.bin .str .add (.l 0) (.c (.str [41])))), (.i (.v 2) (.mv (.l 0)))]), .ret]])
          [.agg [.int .i64 x.op, .int .i64 x.k, .int .i64 x.n, v], .ptr h.n 0 0, .str [], .str (40 :: (wordX x.op ++ argX x.op x.k x.n)), .int .i64 0, .int .i64 x.op, w6, w7, w8, .junk] [] (h.push [[.int .i64 x.op, .int .i64 x.k, .int .i64 x.n, v]])) := by
      intro Q w6 w7 w8 hQ
      refine loop_Q (fun i V h' => ∃ w9, V = [.agg [.int .i64 x.op, .int .i64 x.k, .int .i64 x.n, v], .ptr h.n 0 0, .str [], .str (40 :: (wordX x.op ++ (argX x.op x.k x.n ++ textsX (x.l.take i)))), .int .i64 (i : Nat), .int .i64 x.op, w6, w7, w8, w9] ∧
        h' = h.push [[.int .i64 x.op, .int .i64 x.k, .int .i64 x.n, v]]) x.l.length ⟨_, by simp [textsX]; rfl, rfl⟩ ?_ ?_
      · rintro i V h' hi ⟨w9, rfl, rfl⟩ next
        have hlt : (i : Int) < (es.length : Int) := by rw [hn]; omega
        obtain ⟨y, hy⟩ := get_at hi
        obtain ⟨q, i1, d1, x1⟩ := hix i y hy
        obtain ⟨p1, p2⟩ := x1.one
        have hwi := w64 (n := (i : Int) + 1) (by have := x.len_size; omega) (by have := x.len_size; omega)
        have tl := textsX_le hw i
        have ys := sizesX_take x.l (i + 1)
        rw [take_get hy, sizesX_append, sizesX_one] at ys
        have yl := xtext_len _ y (Nat.le_refl _) (wl y (mem_at hy))
        have e1 := ih y (by have := XD.lt_mem (mem_at hy); omega) (wl y (mem_at hy)) (by omega) q (h.push [[.int .i64 x.op, .int .i64 x.k, .int .i64 x.n, v]]) x1
        have s1 : binA .str .add (.str [32]) (.str y.text) = some (.str (32 :: y.text)) := s_add rfl (by simp; omega)
        have s2 : binA .str .add (.str (40 :: (wordX x.op ++ (argX x.op x.k x.n ++ textsX (x.l.take i))))) (.str (32 :: y.text)) = some (.str (40 :: (wordX x.op ++ (argX x.op x.k x.n ++ textsX (x.l.take (i + 1)))))) := s_add (by rw [textsX_take hy]; simp) (by simp; omega)
        rw [r_lpb rc_ExprText_b1.eq_1]
        simp only [sim, List.length_cons, List.length_nil, Nat.reduceAdd, Nat.reduceSub, List.replicate, List.cons_append, List.nil_append, List.map_cons, List.map_nil, Option.bind_some, Option.map_some, Option.bind_none, Option.map_none, if_true, if_false, decide_true, decide_false, Bool.false_eq_true, Bool.true_eq_false, Bool.not_true, Bool.not_false, reduceCtorEq, Bool.and_true, Bool.true_and, Bool.and_false, Bool.false_and, Bool.or_true, Bool.true_or, Bool.or_false, Bool.false_or, true_and, and_true, false_and, and_false, List.take_zero, List.take_succ_cons, List.drop_zero, List.drop_succ_cons, List.take_nil, List.drop_nil, List.set_cons_zero, List.set_cons_succ, Nat.reduceLeDiff, Nat.reduceLT, Nat.zero_add, Nat.lt_add_one, Nat.le_refl, clearA, Int.toNat_natCast, hle, hfi, hlt, i1, d1, p1, p2, ld_all p2, e1, s1, s2, hwi]
        exact next _ _ ⟨_, rfl, rfl⟩
      · rintro V h' ⟨w9, rfl, rfl⟩
        have hlt : ¬ ((x.l.length : Int) < (es.length : Int)) := by rw [hn]; omega
        have tl := textsX_le hw x.l.length
        rw [List.take_length] at tl ⊢
        have s1 : binA .str .add (.str (40 :: (wordX x.op ++ (argX x.op x.k x.n ++ textsX x.l)))) (.str [41]) = some (.str x.text) := s_add (by rw [x.text_eq]; simp) (by simp; omega)
        rw [r_lpb rc_ExprText_b1.eq_1]
        simp only [sim, List.length_cons, List.length_nil, Nat.reduceAdd, Nat.reduceSub, List.replicate, List.cons_append, List.nil_append, List.map_cons, List.map_nil, Option.bind_some, Option.map_some, Option.bind_none, Option.map_none, if_true, if_false, decide_true, decide_false, Bool.false_eq_true, Bool.true_eq_false, Bool.not_true, Bool.not_false, reduceCtorEq, Bool.and_true, Bool.true_and, Bool.and_false, Bool.false_and, Bool.or_true, Bool.true_or, Bool.or_false, Bool.false_or, true_and, and_true, false_and, and_false, List.take_zero, List.take_succ_cons, List.drop_zero, List.drop_succ_cons, List.take_nil, List.drop_nil, List.set_cons_zero, List.set_cons_succ, Nat.reduceLeDiff, Nat.reduceLT, Nat.zero_add, Nat.lt_add_one, Nat.le_refl, clearA, Int.toNat_natCast, hle, hfi, hlt, s1]
        exact hQ _ _ _ rfl g0 rfl
    have s1 : binA .str .add (.str [40]) (.str (wordX x.op)) = some (.str (40 :: wordX x.op)) := s_add rfl (by simp; omega)
    have s2 : binA .str .add (.str [32]) (.str (Lib.itoa x.n)) = some (.str (32 :: Lib.itoa x.n)) := s_add rfl (by simp; omega)
    have s3 : binA .str .add (.str [32]) (.str (Lib.itoa x.k)) = some (.str (32 :: Lib.itoa x.k)) := s_add rfl (by simp; omega)
    have s4 : binA .str .add (.str [32]) (.str (binX x.k)) = some (.str (32 :: binX x.k)) := s_add rfl (by simp; omega)
    have s5 : binA .str .add (.str (40 :: wordX x.op)) (.str (32 :: Lib.itoa x.n)) = some (.str (40 :: (wordX x.op ++ 32 :: Lib.itoa x.n))) := s_add (by simp) (by simp; omega)
    have s6 : binA .str .add (.str (40 :: wordX x.op)) (.str (32 :: Lib.itoa x.k)) = some (.str (40 :: (wordX x.op ++ 32 :: Lib.itoa x.k))) := s_add (by simp) (by simp; omega)
    have s7 : binA .str .add (.str (40 :: wordX x.op)) (.str (32 :: binX x.k)) = some (.str (40 :: (wordX x.op ++ 32 :: binX x.k))) := s_add (by simp) (by simp; omega)
    have R2 := rest_
    refine runF_E fn_ExprText rfl fun Q hQ => ?_; unfold rc_ExprText
    by_cases o2 : x.op = 2
    · have ea : argX x.op x.k x.n = 32 :: Lib.itoa x.n := if_pos o2
      have d2 : decide (x.op = 2) = true := decide_eq_true o2
      rw [ea] at R2
      simp only [sim, List.length_cons, List.length_nil, Nat.reduceAdd, Nat.reduceSub, List.replicate, List.cons_append, List.nil_append, List.map_cons, List.map_nil, Option.bind_some, Option.map_some, Option.bind_none, Option.map_none, if_true, if_false, decide_true, decide_false, Bool.false_eq_true, Bool.true_eq_false, Bool.not_true, Bool.not_false, reduceCtorEq, Bool.and_true, Bool.true_and, Bool.and_false, Bool.false_and, Bool.or_true, Bool.true_or, Bool.or_false, Bool.false_or, true_and, and_true, false_and, and_false, List.take_zero, List.take_succ_cons, List.drop_zero, List.drop_succ_cons, List.take_nil, List.drop_nil, List.set_cons_zero, List.set_cons_succ, Nat.reduceLeDiff, Nat.reduceLT, Nat.zero_add, Nat.lt_add_one, Nat.le_refl, clearA, Int.toNat_natCast, hv, cw, s1, d2, cf, s2, s5, hle, hfi]
      exact R2 Q _ _ _ hQ
    · have d2 : decide (x.op = 2) = false := decide_eq_false o2
      by_cases o4 : x.op = 4 ∨ x.op = 18 ∨ x.op = 15
      · have ea : argX x.op x.k x.n = 32 :: Lib.itoa x.k := by rw [argX, if_neg o2, if_pos o4]
        rw [ea] at R2
        rcases o4 with o | o | o
        · have d4 : decide (x.op = 4) = true := decide_eq_true o
          simp only [sim, List.length_cons, List.length_nil, Nat.reduceAdd, Nat.reduceSub, List.replicate, List.cons_append, List.nil_append, List.map_cons, List.map_nil, Option.bind_some, Option.map_some, Option.bind_none, Option.map_none, if_true, if_false, decide_true, decide_false, Bool.false_eq_true, Bool.true_eq_false, Bool.not_true, Bool.not_false, reduceCtorEq, Bool.and_true, Bool.true_and, Bool.and_false, Bool.false_and, Bool.or_true, Bool.true_or, Bool.or_false, Bool.false_or, true_and, and_true, false_and, and_false, List.take_zero, List.take_succ_cons, List.drop_zero, List.drop_succ_cons, List.take_nil, List.drop_nil, List.set_cons_zero, List.set_cons_succ, Nat.reduceLeDiff, Nat.reduceLT, Nat.zero_add, Nat.lt_add_one, Nat.le_refl, clearA, Int.toNat_natCast, hv, cw, s1, d2, d4, ci, s3, s6, hle, hfi]
          exact R2 Q _ _ _ hQ
        · have d4 : decide (x.op = 4) = false := decide_eq_false (by omega)
          have d18 : decide (x.op = 18) = true := decide_eq_true o
          simp only [sim, List.length_cons, List.length_nil, Nat.reduceAdd, Nat.reduceSub, List.replicate, List.cons_append, List.nil_append, List.map_cons, List.map_nil, Option.bind_some, Option.map_some, Option.bind_none, Option.map_none, if_true, if_false, decide_true, decide_false, Bool.false_eq_true, Bool.true_eq_false, Bool.not_true, Bool.not_false, reduceCtorEq, Bool.and_true, Bool.true_and, Bool.and_false, Bool.false_and, Bool.or_true, Bool.true_or, Bool.or_false, Bool.false_or, true_and, and_true, false_and, and_false, List.take_zero, List.take_succ_cons, List.drop_zero, List.drop_succ_cons, List.take_nil, List.drop_nil, List.set_cons_zero, List.set_cons_succ, Nat.reduceLeDiff, Nat.reduceLT, Nat.zero_add, Nat.lt_add_one, Nat.le_refl, clearA, Int.toNat_natCast, hv, cw, s1, d2, d4, d18, ci, s3, s6, hle, hfi]
          exact R2 Q _ _ _ hQ
        · have d4 : decide (x.op = 4) = false := decide_eq_false (by omega)
          have d18 : decide (x.op = 18) = false := decide_eq_false (by omega)
          have d15 : decide (x.op = 15) = true := decide_eq_true o
          simp only [sim, List.length_cons, List.length_nil, Nat.reduceAdd, Nat.reduceSub, List.replicate, List.cons_append, List.nil_append, List.map_cons, List.map_nil, Option.bind_some, Option.map_some, Option.bind_none, Option.map_none, if_true, if_false, decide_true, decide_false, Bool.false_eq_true, Bool.true_eq_false, Bool.not_true, Bool.not_false, reduceCtorEq, Bool.and_true, Bool.true_and, Bool.and_false, Bool.false_and, Bool.or_true, Bool.true_or, Bool.or_false, Bool.false_or, true_and, and_true, false_and, and_false, List.take_zero, List.take_succ_cons, List.drop_zero, List.drop_succ_cons, List.take_nil, List.drop_nil, List.set_cons_zero, List.set_cons_succ, Nat.reduceLeDiff, Nat.reduceLT, Nat.zero_add, Nat.lt_add_one, Nat.le_refl, clearA, Int.toNat_natCast, hv, cw, s1, d2, d4, d18, d15, ci, s3, s6, hle, hfi]
          exact R2 Q _ _ _ hQ
      · have d4 : decide (x.op = 4) = false := decide_eq_false (by omega)
        have d18 : decide (x.op = 18) = false := decide_eq_false (by omega)
        have d15 : decide (x.op = 15) = false := decide_eq_false (by omega)
        by_cases o6 : x.op = 6
        · have ea : argX x.op x.k x.n = 32 :: binX x.k := by rw [argX, if_neg o2, if_neg o4, if_pos o6]
          have d6 : decide (x.op = 6) = true := decide_eq_true o6
          rw [ea] at R2
          simp only [sim, List.length_cons, List.length_nil, Nat.reduceAdd, Nat.reduceSub, List.replicate, List.cons_append, List.nil_append, List.map_cons, List.map_nil, Option.bind_some, Option.map_some, Option.bind_none, Option.map_none, if_true, if_false, decide_true, decide_false, Bool.false_eq_true, Bool.true_eq_false, Bool.not_true, Bool.not_false, reduceCtorEq, Bool.and_true, Bool.true_and, Bool.and_false, Bool.false_and, Bool.or_true, Bool.true_or, Bool.or_false, Bool.false_or, true_and, and_true, false_and, and_false, List.take_zero, List.take_succ_cons, List.drop_zero, List.drop_succ_cons, List.take_nil, List.drop_nil, List.set_cons_zero, List.set_cons_succ, Nat.reduceLeDiff, Nat.reduceLT, Nat.zero_add, Nat.lt_add_one, Nat.le_refl, clearA, Int.toNat_natCast, hv, cw, s1, d2, d4, d18, d15, d6, cb, s4, s7, hle, hfi]
          exact R2 Q _ _ _ hQ
        · have ea : argX x.op x.k x.n = [] := by rw [argX, if_neg o2, if_neg o4, if_neg o6]
          have d6 : decide (x.op = 6) = false := decide_eq_false o6
          rw [ea, List.append_nil] at R2
          simp only [sim, List.length_cons, List.length_nil, Nat.reduceAdd, Nat.reduceSub, List.replicate, List.cons_append, List.nil_append, List.map_cons, List.map_nil, Option.bind_some, Option.map_some, Option.bind_none, Option.map_none, if_true, if_false, decide_true, decide_false, Bool.false_eq_true, Bool.true_eq_false, Bool.not_true, Bool.not_false, reduceCtorEq, Bool.and_true, Bool.true_and, Bool.and_false, Bool.false_and, Bool.or_true, Bool.true_or, Bool.or_false, Bool.false_or, true_and, and_true, false_and, and_false, List.take_zero, List.take_succ_cons, List.drop_zero, List.drop_succ_cons, List.take_nil, List.drop_nil, List.set_cons_zero, List.set_cons_succ, Nat.reduceLeDiff, Nat.reduceLT, Nat.zero_add, Nat.lt_add_one, Nat.le_refl, clearA, Int.toNat_natCast, hv, cw, s1, d2, d4, d18, d15, d6, hle, hfi]
          exact R2 Q _ _ _ hQ

theorem modText_take {L : List XD} {i : Nat} {y : XD} (hy : L[i]? = some y) : modText (L.take (i + 1)) = modText (L.take i) ++ 102 :: 117 :: 110 :: 32 :: (y.text ++ [10]) := by
  rw [take_get hy, modText_append]
  simp [modText]
theorem wk_flt (s : List UInt8) (q : Int × Int) : wkA (.tup [.str s, fltA q]) = some (.tup [.str s, fltA q]) := rfl

set_option maxHeartbeats 2000000 in
theorem Printed_run (v : AV) (L : List XD) (m : ∀ h, ModV h v L) (hL : L.length ≤ 20) (hs : ∀ x ∈ L, x.size ≤ 600) (hw : ∀ x ∈ L, x.wf) :
    runF Tryd.prog po 29 [.agg [v]] h = some (.inl (.tup [.str (printX L).1, fltA (printX L).2]), h) := by
  have o1 := (m h).one
  have l1 := (m h).len
  have f1 := (m h).fits
  have cf := fun h => CodeFault_run (h := h) v L m (by omega) (fun x hx => by have := hs x hx; omega)
  by_cases hc : (checkX L).1 = 0
  · have h2 := check_two hc
    obtain ⟨a1, a2, a3⟩ := check_ok hc
    rw [h2] at cf
    have hml := modText_len (l := L) fun x hx => ⟨hw x hx, (a3 x hx).2.1⟩
    have tl : ∀ i, (modText (L.take i)).length ≤ (modText L).length := by
      intro i
      have := modText_append (L.take i) (L.drop i)
      rw [List.take_append_drop] at this
      rw [this, List.length_append]
      omega
    refine runF_E fn_Printed rfl fun Q hQ => ?_; unfold rc_Printed
    simp only [sim, List.length_cons, List.length_nil, Nat.reduceAdd, Nat.reduceSub, List.replicate, List.cons_append, List.nil_append, List.map_cons, List.map_nil, Option.bind_some, Option.map_some, Option.bind_none, Option.map_none, if_true, if_false, decide_true, decide_false, Bool.false_eq_true, Bool.true_eq_false, Bool.not_true, Bool.not_false, reduceCtorEq, Bool.and_true, Bool.true_and, Bool.and_false, Bool.false_and, Bool.or_true, Bool.true_or, Bool.or_false, Bool.false_or, true_and, and_true, false_and, and_false, List.take_zero, List.take_succ_cons, List.drop_zero, List.drop_succ_cons, List.take_nil, List.drop_nil, List.set_cons_zero, List.set_cons_succ, Nat.reduceLeDiff, Nat.reduceLT, Nat.zero_add, Nat.lt_add_one, Nat.le_refl, clearA, Int.toNat_natCast, o1, cf, Int.reduceEq]
    refine loop_Q (fun i V h' => ∃ w8, V = [.agg [v], .ptr h.n 0 0, .str [], .ptr (h.n + 1) 0 0, .ptr (h.n + 1 + 1) 0 0, .str (modText (L.take i)), .int .i64 (i : Nat), .bool false, w8, .junk] ∧
      h' = ((h.push [[v]]).push [[.int .i64 0, .int .i64 0]]).push [[.int .i64 0, .int .i64 0]]) L.length ⟨_, rfl, rfl⟩ ?_ ?_
    · rintro i V h' hi ⟨w8, rfl, rfl⟩ next
      have hlt : (i : Int) < (L.length : Int) := by omega
      obtain ⟨y, hy⟩ := get_at hi
      obtain ⟨a, q, i1, i2, x1⟩ := (m (((h.push [[v]]).push [[.int .i64 0, .int .i64 0]]).push [[.int .i64 0, .int .i64 0]])).ix i y hy
      have i2' := i2 _ (GrewA.refl _)
      obtain ⟨p1, p2⟩ := x1.one
      have hwi := w64 (n := (i : Int) + 1) (by omega) (by omega)
      have ym := mem_at hy
      have yl := xtext_len _ y (Nat.le_refl _) (hw y ym)
      have ys := hs y ym
      have t1 := tl i
      have e1 := ExprText_run _ y (Nat.le_refl _) (hw y ym) (by omega) q (((h.push [[v]]).push [[.int .i64 0, .int .i64 0]]).push [[.int .i64 0, .int .i64 0]]) x1
      have s1 : binA .str .add (.str [102, 117, 110, 32]) (.str y.text) = some (.str (102 :: 117 :: 110 :: 32 :: y.text)) := s_add rfl (by simp; omega)
      have s2 : binA .str .add (.str (102 :: 117 :: 110 :: 32 :: y.text)) (.str [10]) = some (.str (102 :: 117 :: 110 :: 32 :: (y.text ++ [10]))) := s_add (by simp) (by simp; omega)
      have s3 : binA .str .add (.str (modText (L.take i))) (.str (102 :: 117 :: 110 :: 32 :: (y.text ++ [10]))) = some (.str (modText (L.take (i + 1)))) := s_add (by rw [modText_take hy]) (by simp; omega)
      rw [r_lpb rc_Printed_b1.eq_1]
      simp only [sim, List.length_cons, List.length_nil, Nat.reduceAdd, Nat.reduceSub, List.replicate, List.cons_append, List.nil_append, List.map_cons, List.map_nil, Option.bind_some, Option.map_some, Option.bind_none, Option.map_none, if_true, if_false, decide_true, decide_false, Bool.false_eq_true, Bool.true_eq_false, Bool.not_true, Bool.not_false, reduceCtorEq, Bool.and_true, Bool.true_and, Bool.and_false, Bool.false_and, Bool.or_true, Bool.true_or, Bool.or_false, Bool.false_or, true_and, and_true, false_and, and_false, List.take_zero, List.take_succ_cons, List.drop_zero, List.drop_succ_cons, List.take_nil, List.drop_nil, List.set_cons_zero, List.set_cons_succ, Nat.reduceLeDiff, Nat.reduceLT, Nat.zero_add, Nat.lt_add_one, Nat.le_refl, clearA, Int.toNat_natCast, l1, f1, hlt, i1, i2', p1, p2, ld_all p2, e1, s1, s2, s3, hwi]
      exact next _ _ ⟨_, rfl, rfl⟩
    · rintro V h' ⟨w8, rfl, rfl⟩
      have hlt : ¬ ((L.length : Int) < (L.length : Int)) := by omega
      rw [List.take_length]
      by_cases h6 : 6000 < (modText L).length
      · have e : printX L = ([], (3, -1)) := by rw [printX, if_neg (by simp [hc]), if_pos h6]
        rw [e] at hQ
        have h6' : (6000 : Int) < ((modText L).length : Int) := by omega
        rw [r_lpb rc_Printed_b1.eq_1]
        simp only [sim, List.length_cons, List.length_nil, Nat.reduceAdd, Nat.reduceSub, List.replicate, List.cons_append, List.nil_append, List.map_cons, List.map_nil, Option.bind_some, Option.map_some, Option.bind_none, Option.map_none, if_true, if_false, decide_true, decide_false, Bool.false_eq_true, Bool.true_eq_false, Bool.not_true, Bool.not_false, reduceCtorEq, Bool.and_true, Bool.true_and, Bool.and_false, Bool.false_and, Bool.or_true, Bool.true_or, Bool.or_false, Bool.false_or, true_and, and_true, false_and, and_false, List.take_zero, List.take_succ_cons, List.drop_zero, List.drop_succ_cons, List.take_nil, List.drop_nil, List.set_cons_zero, List.set_cons_succ, Nat.reduceLeDiff, Nat.reduceLT, Nat.zero_add, Nat.lt_add_one, Nat.le_refl, clearA, Int.toNat_natCast, l1, f1, hlt, h6', rF_run]
        exact hQ _ _ (.tup [.str [], fltA (3, -1)]) (by simp only [sim, List.length_cons, List.length_nil, Nat.reduceAdd, Nat.reduceSub, List.replicate, List.cons_append, List.nil_append, List.map_cons, List.map_nil, Option.bind_some, Option.map_some, Option.bind_none, Option.map_none, if_true, if_false, decide_true, decide_false, Bool.false_eq_true, Bool.true_eq_false, Bool.not_true, Bool.not_false, reduceCtorEq, Bool.and_true, Bool.true_and, Bool.and_false, Bool.false_and, Bool.or_true, Bool.true_or, Bool.or_false, Bool.false_or, true_and, and_true, false_and, and_false, List.take_zero, List.take_succ_cons, List.drop_zero, List.drop_succ_cons, List.take_nil, List.drop_nil, List.set_cons_zero, List.set_cons_succ, Nat.reduceLeDiff, Nat.reduceLT, Nat.zero_add, Nat.lt_add_one, Nat.le_refl, clearA, Int.toNat_natCast]) ((GrewA.trans (GrewA.push _ _) (GrewA.trans (GrewA.push _ _) (GrewA.push _ _))).set (by omega)) rfl
      · have e : printX L = (modText L, (0, 0)) := by rw [printX, if_neg (by simp [hc]), if_neg h6]
        rw [e] at hQ
        have h6' : ¬ (6000 : Int) < ((modText L).length : Int) := by omega
        rw [r_lpb rc_Printed_b1.eq_1]
        simp only [sim, List.length_cons, List.length_nil, Nat.reduceAdd, Nat.reduceSub, List.replicate, List.cons_append, List.nil_append, List.map_cons, List.map_nil, Option.bind_some, Option.map_some, Option.bind_none, Option.map_none, if_true, if_false, decide_true, decide_false, Bool.false_eq_true, Bool.true_eq_false, Bool.not_true, Bool.not_false, reduceCtorEq, Bool.and_true, Bool.true_and, Bool.and_false, Bool.false_and, Bool.or_true, Bool.true_or, Bool.or_false, Bool.false_or, true_and, and_true, false_and, and_false, List.take_zero, List.take_succ_cons, List.drop_zero, List.drop_succ_cons, List.take_nil, List.drop_nil, List.set_cons_zero, List.set_cons_succ, Nat.reduceLeDiff, Nat.reduceLT, Nat.zero_add, Nat.lt_add_one, Nat.le_refl, clearA, Int.toNat_natCast, l1, f1, hlt, h6']
        exact hQ _ _ (.tup [.str (modText L), fltA (0, 0)]) (by simp only [sim, List.length_cons, List.length_nil, Nat.reduceAdd, Nat.reduceSub, List.replicate, List.cons_append, List.nil_append, List.map_cons, List.map_nil, Option.bind_some, Option.map_some, Option.bind_none, Option.map_none, if_true, if_false, decide_true, decide_false, Bool.false_eq_true, Bool.true_eq_false, Bool.not_true, Bool.not_false, reduceCtorEq, Bool.and_true, Bool.true_and, Bool.and_false, Bool.false_and, Bool.or_true, Bool.true_or, Bool.or_false, Bool.false_or, true_and, and_true, false_and, and_false, List.take_zero, List.take_succ_cons, List.drop_zero, List.drop_succ_cons, List.take_nil, List.drop_nil, List.set_cons_zero, List.set_cons_succ, Nat.reduceLeDiff, Nat.reduceLT, Nat.zero_add, Nat.lt_add_one, Nat.le_refl, clearA, Int.toNat_natCast]) ((GrewA.trans (GrewA.push _ _) (GrewA.trans (GrewA.push _ _) (GrewA.push _ _))).set (by omega)) rfl
  · have e : printX L = ([], checkX L) := by rw [printX, if_pos hc]
    rw [e]
    refine runF_E fn_Printed rfl fun Q hQ => ?_; unfold rc_Printed
    simp only [sim, List.length_cons, List.length_nil, Nat.reduceAdd, Nat.reduceSub, List.replicate, List.cons_append, List.nil_append, List.map_cons, List.map_nil, Option.bind_some, Option.map_some, Option.bind_none, Option.map_none, if_true, if_false, decide_true, decide_false, Bool.false_eq_true, Bool.true_eq_false, Bool.not_true, Bool.not_false, reduceCtorEq, Bool.and_true, Bool.true_and, Bool.and_false, Bool.false_and, Bool.or_true, Bool.true_or, Bool.or_false, Bool.false_or, true_and, and_true, false_and, and_false, List.take_zero, List.take_succ_cons, List.drop_zero, List.drop_succ_cons, List.take_nil, List.drop_nil, List.set_cons_zero, List.set_cons_succ, Nat.reduceLeDiff, Nat.reduceLT, Nat.zero_add, Nat.lt_add_one, Nat.le_refl, clearA, Int.toNat_natCast, o1, cf, hc]
    exact hQ _ _ (.tup [.str [], fltA (checkX L)]) (by simp only [sim, List.length_cons, List.length_nil, Nat.reduceAdd, Nat.reduceSub, List.replicate, List.cons_append, List.nil_append, List.map_cons, List.map_nil, Option.bind_some, Option.map_some, Option.bind_none, Option.map_none, if_true, if_false, decide_true, decide_false, Bool.false_eq_true, Bool.true_eq_false, Bool.not_true, Bool.not_false, reduceCtorEq, Bool.and_true, Bool.true_and, Bool.and_false, Bool.false_and, Bool.or_true, Bool.true_or, Bool.or_false, Bool.false_or, true_and, and_true, false_and, and_false, List.take_zero, List.take_succ_cons, List.drop_zero, List.drop_succ_cons, List.take_nil, List.drop_nil, List.set_cons_zero, List.set_cons_succ, Nat.reduceLeDiff, Nat.reduceLT, Nat.zero_add, Nat.lt_add_one, Nat.le_refl, clearA, Int.toNat_natCast]) ((GrewA.trans (GrewA.push _ _) (GrewA.trans (GrewA.push _ _) (GrewA.push _ _))).set (by omega)) rfl
end
end Go.Proofs.YtodehiopdkgoeaaDoor
