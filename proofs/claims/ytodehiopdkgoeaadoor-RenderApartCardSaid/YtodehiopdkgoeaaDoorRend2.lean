/- render and the document's texts of modules, in the plain model: expressions. -/
import Derived.Test.YtodehiopdkgoeaaDoorRend
namespace Go.Proofs.YtodehiopdkgoeaaDoor
set_option linter.unusedSimpArgs false
set_option linter.unusedVariables false
open Go

theorem get_at {α : Type} {l : List α} {i : Nat} (h : i < l.length) : ∃ y, l[i]? = some y := ⟨_, List.getElem?_eq_getElem h⟩
theorem mem_at {α : Type} {l : List α} {i : Nat} {y : α} (h : l[i]? = some y) : y ∈ l := List.mem_of_getElem? h
theorem ExA.xrow {x : XD} {r : List AV} (h : ExA x r) : ∃ v es, r = [.int .i64 x.op, .int .i64 x.k, .int .i64 x.n, v] ∧ IsL tE v es ∧ v.one = true ∧ es.length = x.l.length ∧ ∀ (i : Nat) (y : XD), x.l[i]? = some y → ∃ q, ixaR (some tE) none v (.int .i64 (i : Int)) = some (.ip q 0) ∧ ldA true 4 q 0 = some (.agg q) ∧ ExA y q := by
  obtain ⟨v, es, rfl, hv, hl⟩ := h.row
  refine ⟨v, es, rfl, hv.isL, ?_, hl.len, fun i y hy => ?_⟩
  · rcases hv with ⟨_, rfl⟩ | ⟨id, rfl⟩ <;> rfl
  · obtain ⟨q, h1, h2⟩ := hl.get hy
    exact ⟨q, hv.isL.ix .i64 i q h1, ld_all h2.one.2, h2⟩
theorem textsX_take {l : List XD} {i : Nat} {y : XD} (h : l[i]? = some y) : textsX (l.take (i + 1)) = textsX (l.take i) ++ 32 :: y.text := by
  rw [take_get h, textsX_append]
  simp [textsX]
theorem sizesX_take (l : List XD) (i : Nat) : sizesX (l.take i) ≤ sizesX l := by
  have := sizesX_append (l.take i) (l.drop i)
  rw [List.take_append_drop] at this
  omega
theorem textsX_le {x : XD} (hw : x.wf) (i : Nat) : (textsX (x.l.take i)).length ≤ 32 * sizesX (x.l.take i) := by
  have key : ∀ l : List XD, (∀ z ∈ l, z.wf) → (textsX l).length ≤ 32 * sizesX l := by
    intro l
    induction l with
    | nil => intro _; simp [textsX]
    | cons z l ihl =>
      intro hm
      have a := xtext_len _ z (Nat.le_refl _) (hm z (by simp))
      have b := ihl fun q hq => hm q (by simp [hq])
      simp only [textsX, List.length_cons, List.length_append, sizesX]
      omega
  exact key (x.l.take i) fun z hz => (XD.wf_parts hw).2.2 z (List.mem_of_mem_take hz)

section
variable {h : AH}
set_option maxHeartbeats 2000000 in
theorem wexpr_run {T b : Nat} {rest : List AV} : ∀ (N : Nat) (x : XD), SizeOf.sizeOf x ≤ N → x.wf → ∀ (r : List AV) (h : AH) (bb : Option Nat) (l : List UInt8), ExA x r → Buf h T b bb rest l → l.length + 40 * x.size ≤ 100000000 →
    ∃ h' bb', runF Tryd.prog po 47 [.tptr T b, .agg r] h = some (.inl (.tup []), h') ∧ Buf h' T b bb' rest (l ++ x.text) ∧ Wr h bb h' bb' b := by
  intro N
  induction N with
  | zero => intro x hx; have := x.so_pos; omega
  | succ N ih =>
    intro x hx hw r h bb l he B hsz
    obtain ⟨v, es, rfl, hsl, hv, hn, hix⟩ := he.xrow
    obtain ⟨wk, wn, wl⟩ := XD.wf_parts hw
    have hxs := x.size_eq
    have hwl := word_len x.op
    have hbl := bin_len x.k
    have il1 := Lib.itoa_length_le _ wk.1 wk.2
    have il2 := Lib.itoa_length_le _ wn.1 wn.2
    have cw := fun h => pWord_run (h := h) x.op
    have cb := fun h => pBin_run (h := h) x.k
    have cf := fun h => fmt_run wn h
    have ci := fun h => itoa_run wk h
    have hb0 : b ≠ h.n := by have := B.lt; omega
    -- the box
    have W0 : Wr h bb (h.push [[.int .i64 x.op, .int .i64 x.k, .int .i64 x.n, v]]) bb b := Wr.grew (GrewA.push _ _) B.bb_lt
    have B0 := B.grew (GrewA.push h [[.int .i64 x.op, .int .i64 x.k, .int .i64 x.n, v]])
    have c0 : (h.push [[.int .i64 x.op, .int .i64 x.k, .int .i64 x.n, v]]).cell h.n = some [[.int .i64 x.op, .int .i64 x.k, .int .i64 x.n, v]] := push_same
    have n0 : bb ≠ some h.n := fun e => by have := B.bb_lt _ e; omega
    have hlt0 : h.n < (h.push [[.int .i64 x.op, .int .i64 x.k, .int .i64 x.n, v]]).n := by simp only [push_n]; omega
    have keep : ∀ {h1 h2 : AH} {b1 b2 : Option Nat}, Wr h1 b1 h2 b2 b → h.n < h1.n → h1.cell h.n = some [[.int .i64 x.op, .int .i64 x.k, .int .i64 x.n, v]] → b1 ≠ some h.n → h.n < h2.n ∧ h2.cell h.n = some [[.int .i64 x.op, .int .i64 x.k, .int .i64 x.n, v]] ∧ b2 ≠ some h.n := by
      intro h1 h2 b1 b2 w q1 q2 q3
      exact ⟨Nat.lt_of_lt_of_le q1 w.n, (w.cell _ q1 (fun e => hb0 e.symm) q3).trans q2, w.buf _ q1 q3⟩
    suffices key : ∃ h', runF Tryd.prog po 47 [.tptr T b, .agg [.int .i64 x.op, .int .i64 x.k, .int .i64 x.n, v]] h = some (.inl (.tup []), h') ∧ ∃ bb', Buf h' T b bb' rest (l ++ x.text) ∧ Wr h bb h' bb' b by
      obtain ⟨h', e, bb', q⟩ := key
      exact ⟨h', bb', e, q⟩
    -- what is in it
    have rest_ : ∀ (Q : RRun → Prop) (h2 : AH) (bb2 : Option Nat) (w5 w6 w7 : AV), Buf h2 T b bb2 rest (l ++ 40 :: (wordX x.op ++ argX x.op x.k x.n)) → Wr h bb h2 bb2 b → h.n < h2.n → h2.cell h.n = some [[.int .i64 x.op, .int .i64 x.k, .int .i64 x.n, v]] → bb2 ≠ some h.n →
        (∀ V h', (resR V h' []).map oneA = some (.tup []) → (∃ bb', Buf h' T b bb' rest (l ++ x.text) ∧ Wr h bb h' bb' b) → Q (some (.ret, V, h'))) →
        Q (runR (runF Tryd.prog po) 12 (.lp rc_wexpr_b1 :: .ss [] :: .blk 1 :: [.ss [(.ops [(.i .l (.mv (.v 0))), (.i .l (.nilc (.l 0))), (.i .l (.fad 0 (.l 0))), (.i .l (.call (.c (.fn 46 [] [])) [(.l 0), (.c (.str [41]))]))])]])
          [.tptr T b, .agg [.int .i64 x.op, .int .i64 x.k, .int .i64 x.n, v], .ptr h.n 0 0, .junk, .int .i64 x.op, w5, w6, w7, v, .int .i64 es.length, .int .i64 0, .junk] [] h2) := by
      intro Q h2 bb2 w5 w6 w7 B2 W2 q1 q2 q3 hQ
      have hal : (argX x.op x.k x.n).length ≤ 22 := argX_len wk wn
      refine loop_Q (fun i V h' => ∃ w3 w11 bb', V = [.tptr T b, .agg [.int .i64 x.op, .int .i64 x.k, .int .i64 x.n, v], .ptr h.n 0 0, w3, .int .i64 x.op, w5, w6, w7, v, .int .i64 es.length, .int .i64 (i : Nat), w11] ∧
        Buf h' T b bb' rest (l ++ 40 :: (wordX x.op ++ (argX x.op x.k x.n ++ textsX (x.l.take i)))) ∧ Wr h bb h' bb' b) x.l.length ⟨_, _, bb2, rfl, by simpa [textsX] using B2, W2⟩ ?_ ?_
      · rintro i V h' hi ⟨w3, w11, bb', rfl, B', W'⟩ next
        have hlt : (i : Int) < (es.length : Int) := by rw [hn]; omega
        obtain ⟨y, hy⟩ := get_at hi
        obtain ⟨q, i1, d1, x1⟩ := hix i y hy
        obtain ⟨p1, p2⟩ := x1.one
        have hwi := w64 (n := (i : Int) + 1) (by have := x.len_size; omega) (by have := x.len_size; omega)
        have tl := textsX_le hw i
        have ys := sizesX_take x.l (i + 1)
        rw [take_get hy, sizesX_append, sizesX_one] at ys
        have B3 := B'.grew (GrewA.push h' [q])
        have W3 : Wr h' bb' (h'.push [q]) bb' b := Wr.grew (GrewA.push _ _) B'.bb_lt
        have hbn : b ≠ h'.n := by have := B'.lt; omega
        have n3 : bb' ≠ some h'.n := fun e => by have := B'.bb_lt _ e; omega
        obtain ⟨h4, bb4, e4, B4, W4⟩ := bWrite_run B3 (s := [32]) (by simp; omega) (by simp)
        have c4 : h4.cell h'.n = some [q] := (W4.cell _ (by simp only [push_n]; omega) (fun e => hbn e.symm) n3).trans push_same
        obtain ⟨h5, bb5, e5, B5, W5⟩ := ih y (by have := XD.lt_mem (mem_at hy); omega) (wl y (mem_at hy)) q h4 bb4 _ x1 B4 (by simp; omega)
        simp only [List.length_cons, List.length_nil, Nat.zero_add, Int.natCast_one] at e4
        rw [r_lpb rc_wexpr_b1.eq_1]
        simp only [sim, List.length_cons, List.length_nil, Nat.reduceAdd, Nat.reduceSub, List.replicate, List.cons_append, List.nil_append, List.map_cons, List.map_nil, Option.bind_some, Option.map_some, Option.bind_none, Option.map_none, if_true, if_false, decide_true, decide_false, Bool.false_eq_true, Bool.true_eq_false, Bool.not_true, Bool.not_false, reduceCtorEq, Bool.and_true, Bool.true_and, Bool.and_false, Bool.false_and, Bool.or_true, Bool.true_or, Bool.or_false, Bool.false_or, true_and, and_true, false_and, and_false, List.take_zero, List.take_succ_cons, List.drop_zero, List.drop_succ_cons, List.take_nil, List.drop_nil, List.set_cons_zero, List.set_cons_succ, Nat.reduceLeDiff, Nat.reduceLT, Nat.zero_add, Nat.lt_add_one, Nat.le_refl, clearA, Int.toNat_natCast, hlt, i1, d1, p1, p2, ld_all p2, e4, c4, e5, hwi]
        refine next _ _ ⟨_, _, bb5, rfl, ?_, ((W'.trans W3).trans W4).trans W5⟩
        rw [textsX_take hy]
        simpa using B5
      · rintro V h' ⟨w3, w11, bb', rfl, B', W'⟩
        have hlt : ¬ ((x.l.length : Int) < (es.length : Int)) := by rw [hn]; omega
        have tl := textsX_le hw x.l.length
        rw [List.take_length] at B' tl
        obtain ⟨h4, bb4, e4, B4, W4⟩ := bWrite_run B' (s := [41]) (by simp; omega) (by simp)
        simp only [List.length_cons, List.length_nil, Nat.zero_add, Int.natCast_one] at e4
        rw [r_lpb rc_wexpr_b1.eq_1]
        simp only [sim, List.length_cons, List.length_nil, Nat.reduceAdd, Nat.reduceSub, List.replicate, List.cons_append, List.nil_append, List.map_cons, List.map_nil, Option.bind_some, Option.map_some, Option.bind_none, Option.map_none, if_true, if_false, decide_true, decide_false, Bool.false_eq_true, Bool.true_eq_false, Bool.not_true, Bool.not_false, reduceCtorEq, Bool.and_true, Bool.true_and, Bool.and_false, Bool.false_and, Bool.or_true, Bool.true_or, Bool.or_false, Bool.false_or, true_and, and_true, false_and, and_false, List.take_zero, List.take_succ_cons, List.drop_zero, List.drop_succ_cons, List.take_nil, List.drop_nil, List.set_cons_zero, List.set_cons_succ, Nat.reduceLeDiff, Nat.reduceLT, Nat.zero_add, Nat.lt_add_one, Nat.le_refl, clearA, Int.toNat_natCast, hlt, e4]
        refine hQ _ _ rfl ⟨bb4, ?_, W'.trans W4⟩
        rw [x.text_eq]
        simpa using B4
    -- the word
    have s1 : binA .str .add (.str [40]) (.str (wordX x.op)) = some (.str (40 :: wordX x.op)) := s_add rfl (by simp; omega)
    obtain ⟨h1, bb1, e1, B1, W1⟩ := bWrite_run B0 (s := 40 :: wordX x.op) (by omega) (by simp; omega)
    obtain ⟨m1, k1, u1⟩ := keep W1 hlt0 c0 n0
    have W01 := W0.trans W1
    have s2 : binA .str .add (.str [32]) (.str (Lib.itoa x.n)) = some (.str (32 :: Lib.itoa x.n)) := s_add rfl (by simp; omega)
    have s3 : binA .str .add (.str [32]) (.str (Lib.itoa x.k)) = some (.str (32 :: Lib.itoa x.k)) := s_add rfl (by simp; omega)
    have s4 : binA .str .add (.str [32]) (.str (binX x.k)) = some (.str (32 :: binX x.k)) := s_add rfl (by simp; omega)
    have hle := hsl.len
    have hfi := hsl.fits
    by_cases o2 : x.op = 2
    · obtain ⟨h2, bb2, e2, B2, W2⟩ := bWrite_run B1 (s := 32 :: Lib.itoa x.n) (by simp; omega) (by simp; omega)
      obtain ⟨m2, k2, u2⟩ := keep W2 m1 k1 u1
      have R2 := rest_
      have ea : argX x.op x.k x.n = 32 :: Lib.itoa x.n := if_pos o2
      have d2 : decide (x.op = 2) = true := decide_eq_true o2
      rw [ea] at R2
      refine runF_I fn_wexpr rfl fun Q hQ => ?_; unfold rc_wexpr
      simp only [sim, List.length_cons, List.length_nil, Nat.reduceAdd, Nat.reduceSub, List.replicate, List.cons_append, List.nil_append, List.map_cons, List.map_nil, Option.bind_some, Option.map_some, Option.bind_none, Option.map_none, if_true, if_false, decide_true, decide_false, Bool.false_eq_true, Bool.true_eq_false, Bool.not_true, Bool.not_false, reduceCtorEq, Bool.and_true, Bool.true_and, Bool.and_false, Bool.false_and, Bool.or_true, Bool.true_or, Bool.or_false, Bool.false_or, true_and, and_true, false_and, and_false, List.take_zero, List.take_succ_cons, List.drop_zero, List.drop_succ_cons, List.take_nil, List.drop_nil, List.set_cons_zero, List.set_cons_succ, Nat.reduceLeDiff, Nat.reduceLT, Nat.zero_add, Nat.lt_add_one, Nat.le_refl, clearA, Int.toNat_natCast, hv, cw, s1, e1, k1, d2, cf, s2, e2, k2, hle, hfi]
      exact R2 Q h2 bb2 _ _ _ (by simpa using B2) (W01.trans W2) m2 k2 u2 hQ
    · have d2 : decide (x.op = 2) = false := decide_eq_false o2
      by_cases o4 : x.op = 4 ∨ x.op = 18 ∨ x.op = 15
      · obtain ⟨h2, bb2, e2, B2, W2⟩ := bWrite_run B1 (s := 32 :: Lib.itoa x.k) (by simp; omega) (by simp; omega)
        obtain ⟨m2, k2, u2⟩ := keep W2 m1 k1 u1
        have R2 := rest_
        have ea : argX x.op x.k x.n = 32 :: Lib.itoa x.k := by rw [argX, if_neg o2, if_pos o4]
        rw [ea] at R2
        refine runF_I fn_wexpr rfl fun Q hQ => ?_; unfold rc_wexpr
        rcases o4 with o | o | o
        · have d4 : decide (x.op = 4) = true := decide_eq_true o
          simp only [sim, List.length_cons, List.length_nil, Nat.reduceAdd, Nat.reduceSub, List.replicate, List.cons_append, List.nil_append, List.map_cons, List.map_nil, Option.bind_some, Option.map_some, Option.bind_none, Option.map_none, if_true, if_false, decide_true, decide_false, Bool.false_eq_true, Bool.true_eq_false, Bool.not_true, Bool.not_false, reduceCtorEq, Bool.and_true, Bool.true_and, Bool.and_false, Bool.false_and, Bool.or_true, Bool.true_or, Bool.or_false, Bool.false_or, true_and, and_true, false_and, and_false, List.take_zero, List.take_succ_cons, List.drop_zero, List.drop_succ_cons, List.take_nil, List.drop_nil, List.set_cons_zero, List.set_cons_succ, Nat.reduceLeDiff, Nat.reduceLT, Nat.zero_add, Nat.lt_add_one, Nat.le_refl, clearA, Int.toNat_natCast, hv, cw, s1, e1, k1, d2, d4, ci, s3, e2, k2, hle, hfi]
          exact R2 Q h2 bb2 _ _ _ (by simpa using B2) (W01.trans W2) m2 k2 u2 hQ
        · have d4 : decide (x.op = 4) = false := decide_eq_false (by omega)
          have d18 : decide (x.op = 18) = true := decide_eq_true o
          simp only [sim, List.length_cons, List.length_nil, Nat.reduceAdd, Nat.reduceSub, List.replicate, List.cons_append, List.nil_append, List.map_cons, List.map_nil, Option.bind_some, Option.map_some, Option.bind_none, Option.map_none, if_true, if_false, decide_true, decide_false, Bool.false_eq_true, Bool.true_eq_false, Bool.not_true, Bool.not_false, reduceCtorEq, Bool.and_true, Bool.true_and, Bool.and_false, Bool.false_and, Bool.or_true, Bool.true_or, Bool.or_false, Bool.false_or, true_and, and_true, false_and, and_false, List.take_zero, List.take_succ_cons, List.drop_zero, List.drop_succ_cons, List.take_nil, List.drop_nil, List.set_cons_zero, List.set_cons_succ, Nat.reduceLeDiff, Nat.reduceLT, Nat.zero_add, Nat.lt_add_one, Nat.le_refl, clearA, Int.toNat_natCast, hv, cw, s1, e1, k1, d2, d4, d18, ci, s3, e2, k2, hle, hfi]
          exact R2 Q h2 bb2 _ _ _ (by simpa using B2) (W01.trans W2) m2 k2 u2 hQ
        · have d4 : decide (x.op = 4) = false := decide_eq_false (by omega)
          have d18 : decide (x.op = 18) = false := decide_eq_false (by omega)
          have d15 : decide (x.op = 15) = true := decide_eq_true o
          simp only [sim, List.length_cons, List.length_nil, Nat.reduceAdd, Nat.reduceSub, List.replicate, List.cons_append, List.nil_append, List.map_cons, List.map_nil, Option.bind_some, Option.map_some, Option.bind_none, Option.map_none, if_true, if_false, decide_true, decide_false, Bool.false_eq_true, Bool.true_eq_false, Bool.not_true, Bool.not_false, reduceCtorEq, Bool.and_true, Bool.true_and, Bool.and_false, Bool.false_and, Bool.or_true, Bool.true_or, Bool.or_false, Bool.false_or, true_and, and_true, false_and, and_false, List.take_zero, List.take_succ_cons, List.drop_zero, List.drop_succ_cons, List.take_nil, List.drop_nil, List.set_cons_zero, List.set_cons_succ, Nat.reduceLeDiff, Nat.reduceLT, Nat.zero_add, Nat.lt_add_one, Nat.le_refl, clearA, Int.toNat_natCast, hv, cw, s1, e1, k1, d2, d4, d18, d15, ci, s3, e2, k2, hle, hfi]
          exact R2 Q h2 bb2 _ _ _ (by simpa using B2) (W01.trans W2) m2 k2 u2 hQ
      · have d4 : decide (x.op = 4) = false := decide_eq_false (by omega)
        have d18 : decide (x.op = 18) = false := decide_eq_false (by omega)
        have d15 : decide (x.op = 15) = false := decide_eq_false (by omega)
        by_cases o6 : x.op = 6
        · obtain ⟨h2, bb2, e2, B2, W2⟩ := bWrite_run B1 (s := 32 :: binX x.k) (by simp; omega) (by simp; omega)
          obtain ⟨m2, k2, u2⟩ := keep W2 m1 k1 u1
          have R2 := rest_
          have ea : argX x.op x.k x.n = 32 :: binX x.k := by rw [argX, if_neg o2, if_neg o4, if_pos o6]
          have d6 : decide (x.op = 6) = true := decide_eq_true o6
          rw [ea] at R2
          refine runF_I fn_wexpr rfl fun Q hQ => ?_; unfold rc_wexpr
          simp only [sim, List.length_cons, List.length_nil, Nat.reduceAdd, Nat.reduceSub, List.replicate, List.cons_append, List.nil_append, List.map_cons, List.map_nil, Option.bind_some, Option.map_some, Option.bind_none, Option.map_none, if_true, if_false, decide_true, decide_false, Bool.false_eq_true, Bool.true_eq_false, Bool.not_true, Bool.not_false, reduceCtorEq, Bool.and_true, Bool.true_and, Bool.and_false, Bool.false_and, Bool.or_true, Bool.true_or, Bool.or_false, Bool.false_or, true_and, and_true, false_and, and_false, List.take_zero, List.take_succ_cons, List.drop_zero, List.drop_succ_cons, List.take_nil, List.drop_nil, List.set_cons_zero, List.set_cons_succ, Nat.reduceLeDiff, Nat.reduceLT, Nat.zero_add, Nat.lt_add_one, Nat.le_refl, clearA, Int.toNat_natCast, hv, cw, s1, e1, k1, d2, d4, d18, d15, d6, cb, s4, e2, k2, hle, hfi]
          exact R2 Q h2 bb2 _ _ _ (by simpa using B2) (W01.trans W2) m2 k2 u2 hQ
        · have R2 := rest_
          have ea : argX x.op x.k x.n = [] := by rw [argX, if_neg o2, if_neg o4, if_neg o6]
          have d6 : decide (x.op = 6) = false := decide_eq_false o6
          rw [ea] at R2
          refine runF_I fn_wexpr rfl fun Q hQ => ?_; unfold rc_wexpr
          simp only [sim, List.length_cons, List.length_nil, Nat.reduceAdd, Nat.reduceSub, List.replicate, List.cons_append, List.nil_append, List.map_cons, List.map_nil, Option.bind_some, Option.map_some, Option.bind_none, Option.map_none, if_true, if_false, decide_true, decide_false, Bool.false_eq_true, Bool.true_eq_false, Bool.not_true, Bool.not_false, reduceCtorEq, Bool.and_true, Bool.true_and, Bool.and_false, Bool.false_and, Bool.or_true, Bool.true_or, Bool.or_false, Bool.false_or, true_and, and_true, false_and, and_false, List.take_zero, List.take_succ_cons, List.drop_zero, List.drop_succ_cons, List.take_nil, List.drop_nil, List.set_cons_zero, List.set_cons_succ, Nat.reduceLeDiff, Nat.reduceLT, Nat.zero_add, Nat.lt_add_one, Nat.le_refl, clearA, Int.toNat_natCast, hv, cw, s1, e1, k1, d2, d4, d18, d15, d6, hle, hfi]
          exact R2 Q h1 bb1 _ _ _ (by simpa using B1) W01 m1 k1 u1 hQ
end
end Go.Proofs.YtodehiopdkgoeaaDoor
