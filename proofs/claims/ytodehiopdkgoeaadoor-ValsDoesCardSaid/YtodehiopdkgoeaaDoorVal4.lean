/- vals and the document's values in the plain model: the document's texts; the same; what the laws begin with. -/
import Derived.Test.YtodehiopdkgoeaaDoorVal3
import Derived.Test.YtodehiopdkgoeaaDoorSameI
namespace Go.Proofs.YtodehiopdkgoeaaDoor
set_option linter.unusedSimpArgs false
set_option linter.unusedVariables false
open Go

section
variable {h : AH}
set_option maxHeartbeats 1000000 in
theorem ValText_run : ∀ (N : Nat) (x : VD), SizeOf.sizeOf x ≤ N → x.fault = 0 → x.wf → x.size ≤ 10000 → ∀ (r : List AV) (h : AH), VaA x r →
    runF Tryd.prog po 24 [.agg r] h = some (.inl (.str x.text), h) := by
  intro N
  induction N with
  | zero => intro x hx; have := x.so_pos; omega
  | succ N ih =>
    intro x hx hf hwf hsz r h he
    obtain ⟨v, es, rfl, hsl, hv, hn, hix⟩ := he.facts
    obtain ⟨hn64, hwp⟩ := wf_parts hwf
    obtain ⟨hl2, hfp⟩ := val_parts hf
    have ef := fmt_run hn64
    have hB : ∀ y ∈ x.l, y.text.length ≤ 300000 := fun y hy => by
      have := text_len _ y (Nat.le_refl _) (hfp y hy) (hwp y hy)
      have := VD.size_mem hy
      omega
    refine runF_E fn_ValText rfl fun Q hQ => ?_; unfold rc_ValText
    simp only [sim, List.length_cons, List.length_nil, Nat.reduceAdd, Nat.reduceSub, List.replicate, List.cons_append, List.nil_append, List.map_cons, List.map_nil, Option.bind_some, Option.map_some, Option.bind_none, Option.map_none, if_true, if_false, decide_true, decide_false, Bool.false_eq_true, Bool.true_eq_false, Bool.not_true, Bool.not_false, reduceCtorEq, Bool.and_true, Bool.true_and, Bool.and_false, Bool.false_and, Bool.or_true, Bool.true_or, Bool.or_false, Bool.false_or, true_and, and_true, false_and, and_false, List.take_zero, List.take_succ_cons, List.drop_zero, List.drop_succ_cons, List.take_nil, List.drop_nil, List.set_cons_zero, List.set_cons_succ, Nat.reduceLeDiff, Nat.reduceLT, Nat.zero_add, Nat.lt_add_one, Nat.le_refl, clearA, Int.toNat_natCast, hv, hsl.len, hsl.fits, ef]
    refine loop_Q (fun i V h' => ∃ v6 v7, V = [.agg [.int .i64 x.kind, .int .i64 x.n, v], .ptr h.n 0 0, .str [], .str (Lib.itoa x.n), .str (Lib.join ((x.l.take i).map VD.text) [32]), .int .i64 (i : Nat), v6, v7, .junk, .junk, .junk, .junk, .junk, .junk] ∧
      GrewA h h' ∧ h'.cell h.n = some [[.int .i64 x.kind, .int .i64 x.n, v]]) x.l.length ⟨_, _, rfl, (by repeat (first | exact GrewA.refl _ | refine GrewA.trans ?_ (GrewA.push _ _) | refine GrewA.trans ?_ (GrewA.fresh _ _))), push_same⟩ ?_ ?_
    · rintro i V h' hi ⟨v6, v7, rfl, g, c1⟩ next
      have hlt : (i : Int) < (es.length : Int) := by rw [hn]; omega
      obtain ⟨y, hy⟩ := at_get hi
      obtain ⟨q, i1, d1, x1⟩ := hix i y hy
      obtain ⟨p1, p2⟩ := x1.one
      have hw := w64 (n := (i : Int) + 1) (by omega) (by omega)
      have e1 := ih y (by have := VD.lt_mem (at_mem hy); omega) (hfp y (at_mem hy)) (hwp y (at_mem hy)) (by have := VD.size_mem (at_mem hy); omega) q h' x1
      have b1 := hB y (at_mem hy)
      by_cases hz : i = 0
      · subst hz
        have e3 : Lib.join ((x.l.take 0).map VD.text) [32] = [] := rfl
        have e4 : Lib.join ((x.l.take (0 + 1)).map VD.text) [32] = y.text := by
          rw [take_get hy]
          simp [Lib.join_one]
        have q1 : binA .str .add (.str []) (.str y.text) = some (.str y.text) := s_add rfl (by simp; omega)
        rw [e3]
        rw [e4] at next
        simp only [Int.natCast_zero] at i1 hlt hw
        rw [r_lpb rc_ValText_b1.eq_1]
        simp only [sim, List.length_cons, List.length_nil, Nat.reduceAdd, Nat.reduceSub, List.replicate, List.cons_append, List.nil_append, List.map_cons, List.map_nil, Option.bind_some, Option.map_some, Option.bind_none, Option.map_none, if_true, if_false, decide_true, decide_false, Bool.false_eq_true, Bool.true_eq_false, Bool.not_true, Bool.not_false, reduceCtorEq, Bool.and_true, Bool.true_and, Bool.and_false, Bool.false_and, Bool.or_true, Bool.true_or, Bool.or_false, Bool.false_or, true_and, and_true, false_and, and_false, List.take_zero, List.take_succ_cons, List.drop_zero, List.drop_succ_cons, List.take_nil, List.drop_nil, List.set_cons_zero, List.set_cons_succ, Nat.reduceLeDiff, Nat.reduceLT, Nat.zero_add, Nat.lt_add_one, Nat.le_refl, clearA, Int.toNat_natCast, c1, hsl.len, hsl.fits, hlt, i1, d1, p1, p2, e1, q1, hw, Int.lt_irrefl, Int.natCast_zero]
        exact next _ _ ⟨_, _, rfl, g, c1⟩
      · have hp : (0 : Int) < (i : Int) := by omega
        have e3 : Lib.join ((x.l.take (i + 1)).map VD.text) [32] = Lib.join ((x.l.take i).map VD.text) [32] ++ [32] ++ y.text := by
          rw [take_get hy, List.map_append]
          exact join_snoc (by simp; omega) (by simp; omega)
        have b2 := join_le (xs := (x.l.take i).map VD.text) (B := 300000) (by simp; omega) (fun t ht => by
          obtain ⟨z, hz, rfl⟩ := List.mem_map.1 ht
          exact hB z (List.mem_of_mem_take hz))
        rw [e3] at next
        generalize Lib.join ((x.l.take i).map VD.text) [32] = J at *
        have q1 : binA .str .add (.str J) (.str [32]) = some (.str (J ++ [32])) := s_add rfl (by simp; omega)
        have q2 : binA .str .add (.str (J ++ [32])) (.str y.text) = some (.str (J ++ [32] ++ y.text)) := s_add rfl (by simp; omega)
        rw [r_lpb rc_ValText_b1.eq_1]
        simp only [sim, List.length_cons, List.length_nil, Nat.reduceAdd, Nat.reduceSub, List.replicate, List.cons_append, List.nil_append, List.map_cons, List.map_nil, Option.bind_some, Option.map_some, Option.bind_none, Option.map_none, if_true, if_false, decide_true, decide_false, Bool.false_eq_true, Bool.true_eq_false, Bool.not_true, Bool.not_false, reduceCtorEq, Bool.and_true, Bool.true_and, Bool.and_false, Bool.false_and, Bool.or_true, Bool.true_or, Bool.or_false, Bool.false_or, true_and, and_true, false_and, and_false, List.take_zero, List.take_succ_cons, List.drop_zero, List.drop_succ_cons, List.take_nil, List.drop_nil, List.set_cons_zero, List.set_cons_succ, Nat.reduceLeDiff, Nat.reduceLT, Nat.zero_add, Nat.lt_add_one, Nat.le_refl, clearA, Int.toNat_natCast, c1, hsl.len, hsl.fits, hlt, i1, d1, p1, p2, e1, q1, q2, hw, hp]
        exact next _ _ ⟨_, _, rfl, g, c1⟩
    · rintro V h' ⟨v6, v7, rfl, g, c1⟩
      have hlt : ¬ ((x.l.length : Int) < (es.length : Int)) := by rw [hn]; omega
      rw [List.take_length]
      have hJ := join_le (xs := x.l.map VD.text) (B := 300000) (by simpa using hl2) (fun t ht => by
        obtain ⟨y, hy, rfl⟩ := List.mem_map.1 ht
        exact hB y hy)
      have hN : (Lib.itoa x.n).length ≤ 21 := Lib.itoa_length_le _ hn64.1 hn64.2
      have te := x.text_eq
      generalize Lib.join (x.l.map VD.text) [32] = J at *
      generalize Lib.itoa x.n = n at *
      have q1 : binA .str .add (.str [40]) (.str J) = some (.str (40 :: J)) := s_add rfl (by simp; omega)
      have q2 : binA .str .add (.str (40 :: J)) (.str [41]) = some (.str (40 :: (J ++ [41]))) := s_add rfl (by simp; omega)
      have q3 : binA .str .add (.str [91]) (.str n) = some (.str (91 :: n)) := s_add rfl (by simp; omega)
      have q4 : binA .str .add (.str (91 :: n)) (.str [32]) = some (.str (91 :: (n ++ [32]))) := s_add rfl (by simp; omega)
      have q5 : binA .str .add (.str (91 :: (n ++ [32]))) (.str J) = some (.str (91 :: (n ++ 32 :: J))) := s_add (by simp) (by simp; omega)
      have q6 : binA .str .add (.str (91 :: (n ++ 32 :: J))) (.str [93]) = some (.str (91 :: (n ++ (32 :: (J ++ [93]))))) := s_add (by simp) (by simp; omega)
      have q7 : binA .str .add (.str [35]) (.str n) = some (.str (35 :: n)) := s_add rfl (by simp; omega)
      have q8 : binA .str .add (.str [33]) (.str n) = some (.str (33 :: n)) := s_add rfl (by simp; omega)
      rw [r_lpb rc_ValText_b1.eq_1]
      simp only [sim, List.length_cons, List.length_nil, Nat.reduceAdd, Nat.reduceSub, List.replicate, List.cons_append, List.nil_append, List.map_cons, List.map_nil, Option.bind_some, Option.map_some, Option.bind_none, Option.map_none, if_true, if_false, decide_true, decide_false, Bool.false_eq_true, Bool.true_eq_false, Bool.not_true, Bool.not_false, reduceCtorEq, Bool.and_true, Bool.true_and, Bool.and_false, Bool.false_and, Bool.or_true, Bool.true_or, Bool.or_false, Bool.false_or, true_and, and_true, false_and, and_false, List.take_zero, List.take_succ_cons, List.drop_zero, List.drop_succ_cons, List.take_nil, List.drop_nil, List.set_cons_zero, List.set_cons_succ, Nat.reduceLeDiff, Nat.reduceLT, Nat.zero_add, Nat.lt_add_one, Nat.le_refl, clearA, Int.toNat_natCast, c1, hsl.len, hsl.fits, hlt]
      rcases val_shape hf with ⟨k, _, _⟩ | ⟨k, _⟩ | ⟨k, _⟩ | ⟨k, _⟩ | ⟨k, _⟩ | ⟨k, _⟩
      all_goals
        simp only [sim, List.length_cons, List.length_nil, Nat.reduceAdd, Nat.reduceSub, List.replicate, List.cons_append, List.nil_append, List.map_cons, List.map_nil, Option.bind_some, Option.map_some, Option.bind_none, Option.map_none, if_true, if_false, decide_true, decide_false, Bool.false_eq_true, Bool.true_eq_false, Bool.not_true, Bool.not_false, reduceCtorEq, Bool.and_true, Bool.true_and, Bool.and_false, Bool.false_and, Bool.or_true, Bool.true_or, Bool.or_false, Bool.false_or, true_and, and_true, false_and, and_false, List.take_zero, List.take_succ_cons, List.drop_zero, List.drop_succ_cons, List.take_nil, List.drop_nil, List.set_cons_zero, List.set_cons_succ, Nat.reduceLeDiff, Nat.reduceLT, Nat.zero_add, Nat.lt_add_one, Nat.le_refl, clearA, Int.toNat_natCast, k, Int.reduceEq, q1, q2, q3, q4, q5, q6, q7, q8]
        refine hQ _ _ _ rfl g ?_
        rw [te]
        simp [k, wkA, oneA]

theorem equalV_run (g : FuncId) (l l' : List VD) (v w : AV) (hv : ∀ h, ValV h v l) (hw : ∀ h, ValV h w l') (hl : l.length ≤ 100000)
    (hc : ∀ x ∈ l, ∀ (y : VD) (q q' : List AV) (h : AH), VaA x q → VaA y q' → runF Tryd.prog po g [.agg q, .agg q'] h = some (.inl (.bool (sameV x y)), h)) :
    runF Tryd.prog po 38 [v, w, .fn g [] []] h = some (.inl (.bool (sameVs l l')), h) := by
  have vl := (hv h).len
  have vf := (hv h).fits
  have wl := (hw h).len
  have wf := (hw h).fits
  cases hd : decide ((l.length : Int) = (l'.length : Int))
  · rw [sameVs_ne hd]
    refine runF_E fn_equalV rfl fun Q hQ => ?_; unfold rc_equalV
    simp only [sim, List.length_cons, List.length_nil, Nat.reduceAdd, Nat.reduceSub, List.replicate, List.cons_append, List.nil_append, List.map_cons, List.map_nil, Option.bind_some, Option.map_some, Option.bind_none, Option.map_none, if_true, if_false, decide_true, decide_false, Bool.false_eq_true, Bool.true_eq_false, Bool.not_true, Bool.not_false, reduceCtorEq, Bool.and_true, Bool.true_and, Bool.and_false, Bool.false_and, Bool.or_true, Bool.true_or, Bool.or_false, Bool.false_or, true_and, and_true, false_and, and_false, List.take_zero, List.take_succ_cons, List.drop_zero, List.drop_succ_cons, List.take_nil, List.drop_nil, List.set_cons_zero, List.set_cons_succ, Nat.reduceLeDiff, Nat.reduceLT, Nat.zero_add, Nat.lt_add_one, Nat.le_refl, clearA, Int.toNat_natCast, vl, vf, wl, wf, hd]
    exact hQ _ _ _ rfl (by repeat (first | exact GrewA.refl _ | refine GrewA.trans ?_ (GrewA.push _ _) | refine GrewA.trans ?_ (GrewA.fresh _ _))) rfl
  · have hll : l.length = l'.length := by have := of_decide_eq_true hd; omega
    refine runF_E fn_equalV rfl fun Q hQ => ?_; unfold rc_equalV
    simp only [sim, List.length_cons, List.length_nil, Nat.reduceAdd, Nat.reduceSub, List.replicate, List.cons_append, List.nil_append, List.map_cons, List.map_nil, Option.bind_some, Option.map_some, Option.bind_none, Option.map_none, if_true, if_false, decide_true, decide_false, Bool.false_eq_true, Bool.true_eq_false, Bool.not_true, Bool.not_false, reduceCtorEq, Bool.and_true, Bool.true_and, Bool.and_false, Bool.false_and, Bool.or_true, Bool.true_or, Bool.or_false, Bool.false_or, true_and, and_true, false_and, and_false, List.take_zero, List.take_succ_cons, List.drop_zero, List.drop_succ_cons, List.take_nil, List.drop_nil, List.set_cons_zero, List.set_cons_succ, Nat.reduceLeDiff, Nat.reduceLT, Nat.zero_add, Nat.lt_add_one, Nat.le_refl, clearA, Int.toNat_natCast, vl, vf, wl, wf, hd]
    refine loop_Q (fun i V h' => ∃ v4 v5 v6 v11 v12, V = [v, w, .fn g [] [], .bool false, v4, v5, v6, .bool false, v, .int .i64 l.length, .int .i64 (i : Nat), v11, v12] ∧ GrewA h h' ∧ sameVs (l.drop i) (l'.drop i) = sameVs l l') l.length ⟨_, _, _, _, _, rfl, GrewA.refl _, rfl⟩ ?_ ?_
    · rintro i V h' hi ⟨v4, v5, v6, v11, v12, rfl, gg, hs⟩ next
      have hlt : (i : Int) < (l.length : Int) := by omega
      have hwi := w64 (n := (i : Int) + 1) (by omega) (by omega)
      obtain ⟨x, hx⟩ := at_get hi
      obtain ⟨y, hy⟩ := at_get (l := l') (i := i) (by omega)
      obtain ⟨a, q, i1, i2, x1⟩ := (hv h').ix i x hx
      obtain ⟨o1, o2⟩ := x1.one
      obtain ⟨b, q', j1, j2, y1⟩ := (hw (h'.push [q])).ix i y hy
      obtain ⟨p1, p2⟩ := y1.one
      have e1 := hc x (at_mem hx) y q q' ((h'.push [q]).push [q']) x1 y1
      have g2 : GrewA h ((h'.push [q]).push [q']) := gg.trans (by repeat (first | exact GrewA.refl _ | refine GrewA.trans ?_ (GrewA.push _ _) | refine GrewA.trans ?_ (GrewA.fresh _ _)))
      rw [sameVs_drop hx hy] at hs
      cases hb : sameV x y
      · rw [hb] at e1 hs
        rw [Bool.false_and] at hs
        rw [r_lpb rc_equalV_b1.eq_1]
        simp only [sim, List.length_cons, List.length_nil, Nat.reduceAdd, Nat.reduceSub, List.replicate, List.cons_append, List.nil_append, List.map_cons, List.map_nil, Option.bind_some, Option.map_some, Option.bind_none, Option.map_none, if_true, if_false, decide_true, decide_false, Bool.false_eq_true, Bool.true_eq_false, Bool.not_true, Bool.not_false, reduceCtorEq, Bool.and_true, Bool.true_and, Bool.and_false, Bool.false_and, Bool.or_true, Bool.true_or, Bool.or_false, Bool.false_or, true_and, and_true, false_and, and_false, List.take_zero, List.take_succ_cons, List.drop_zero, List.drop_succ_cons, List.take_nil, List.drop_nil, List.set_cons_zero, List.set_cons_succ, Nat.reduceLeDiff, Nat.reduceLT, Nat.zero_add, Nat.lt_add_one, Nat.le_refl, clearA, Int.toNat_natCast, calls, List.append_nil, hlt, i1, i2 _ (GrewA.refl h'), j1, j2 _ (GrewA.refl _), o1, o2, p1, p2, ld_all o2, ld_all p2, e1]
        exact hQ _ _ _ rfl g2 (by rw [← hs]; rfl)
      · rw [hb] at e1 hs
        rw [Bool.true_and] at hs
        rw [r_lpb rc_equalV_b1.eq_1]
        simp only [sim, List.length_cons, List.length_nil, Nat.reduceAdd, Nat.reduceSub, List.replicate, List.cons_append, List.nil_append, List.map_cons, List.map_nil, Option.bind_some, Option.map_some, Option.bind_none, Option.map_none, if_true, if_false, decide_true, decide_false, Bool.false_eq_true, Bool.true_eq_false, Bool.not_true, Bool.not_false, reduceCtorEq, Bool.and_true, Bool.true_and, Bool.and_false, Bool.false_and, Bool.or_true, Bool.true_or, Bool.or_false, Bool.false_or, true_and, and_true, false_and, and_false, List.take_zero, List.take_succ_cons, List.drop_zero, List.drop_succ_cons, List.take_nil, List.drop_nil, List.set_cons_zero, List.set_cons_succ, Nat.reduceLeDiff, Nat.reduceLT, Nat.zero_add, Nat.lt_add_one, Nat.le_refl, clearA, Int.toNat_natCast, calls, List.append_nil, hlt, i1, i2 _ (GrewA.refl h'), j1, j2 _ (GrewA.refl _), o1, o2, p1, p2, ld_all o2, ld_all p2, e1, hwi]
        exact next _ _ ⟨_, _, _, _, _, rfl, g2, hs⟩
    · rintro V h' ⟨v4, v5, v6, v11, v12, rfl, gg, hs⟩
      have hlt : ¬ ((l.length : Int) < (l.length : Int)) := by omega
      rw [List.drop_length, hll, List.drop_length] at hs
      rw [r_lpb rc_equalV_b1.eq_1]
      simp only [sim, List.length_cons, List.length_nil, Nat.reduceAdd, Nat.reduceSub, List.replicate, List.cons_append, List.nil_append, List.map_cons, List.map_nil, Option.bind_some, Option.map_some, Option.bind_none, Option.map_none, if_true, if_false, decide_true, decide_false, Bool.false_eq_true, Bool.true_eq_false, Bool.not_true, Bool.not_false, reduceCtorEq, Bool.and_true, Bool.true_and, Bool.and_false, Bool.false_and, Bool.or_true, Bool.true_or, Bool.or_false, Bool.false_or, true_and, and_true, false_and, and_false, List.take_zero, List.take_succ_cons, List.drop_zero, List.drop_succ_cons, List.take_nil, List.drop_nil, List.set_cons_zero, List.set_cons_succ, Nat.reduceLeDiff, Nat.reduceLT, Nat.zero_add, Nat.lt_add_one, Nat.le_refl, clearA, Int.toNat_natCast, hlt]
      exact hQ _ _ _ rfl gg (by rw [← hs]; rfl)
theorem vSame_run : ∀ (N : Nat) (x : VD), SizeOf.sizeOf x ≤ N → x.size ≤ 100000 → ∀ (y : VD) (q q' : List AV) (h : AH), VaA x q → VaA y q' →
    runF Tryd.prog po 15 [.agg q, .agg q'] h = some (.inl (.bool (sameV x y)), h) := by
  intro N
  induction N with
  | zero => intro x hx; have := x.so_pos; omega
  | succ N ih =>
    intro x hx hsz y q q' h hq hq'
    obtain ⟨v, es, rfl, hs, hl⟩ := hq.row
    obtain ⟨w, es', rfl, hs', hl'⟩ := hq'.row
    have mv : ∀ h, ValV h v x.l := fun h => ValV.of hs hl
    have mw : ∀ h, ValV h w y.l := fun h => ValV.of hs' hl'
    have hlen := x.len_size
    have e1 := fun h => equalV_run (h := h) 15 x.l y.l v w mv mw (by omega) (fun z hz y q q' h => ih z (by have := VD.lt_mem hz; omega) (by have := VD.size_mem hz; omega) y q q' h)
    have o1 := (mv h).one
    have o2 := (mw h).one
    rw [sameV_eq]
    refine runF_E fn_vSame rfl fun Q hQ => ?_; unfold rc_vSame
    cases hk : decide (x.kind = y.kind)
    · simp only [sim, List.length_cons, List.length_nil, Nat.reduceAdd, Nat.reduceSub, List.replicate, List.cons_append, List.nil_append, List.map_cons, List.map_nil, Option.bind_some, Option.map_some, Option.bind_none, Option.map_none, if_true, if_false, decide_true, decide_false, Bool.false_eq_true, Bool.true_eq_false, Bool.not_true, Bool.not_false, reduceCtorEq, Bool.and_true, Bool.true_and, Bool.and_false, Bool.false_and, Bool.or_true, Bool.true_or, Bool.or_false, Bool.false_or, true_and, and_true, false_and, and_false, List.take_zero, List.take_succ_cons, List.drop_zero, List.drop_succ_cons, List.take_nil, List.drop_nil, List.set_cons_zero, List.set_cons_succ, Nat.reduceLeDiff, Nat.reduceLT, Nat.zero_add, Nat.lt_add_one, Nat.le_refl, clearA, Int.toNat_natCast, o1, o2, hk]
      exact hQ _ _ _ rfl (by repeat (first | exact GrewA.refl _ | refine GrewA.trans ?_ (GrewA.push _ _) | refine GrewA.trans ?_ (GrewA.fresh _ _))) (by rw [hk]; rfl)
    · cases hn : decide (x.n = y.n)
      · simp only [sim, List.length_cons, List.length_nil, Nat.reduceAdd, Nat.reduceSub, List.replicate, List.cons_append, List.nil_append, List.map_cons, List.map_nil, Option.bind_some, Option.map_some, Option.bind_none, Option.map_none, if_true, if_false, decide_true, decide_false, Bool.false_eq_true, Bool.true_eq_false, Bool.not_true, Bool.not_false, reduceCtorEq, Bool.and_true, Bool.true_and, Bool.and_false, Bool.false_and, Bool.or_true, Bool.true_or, Bool.or_false, Bool.false_or, true_and, and_true, false_and, and_false, List.take_zero, List.take_succ_cons, List.drop_zero, List.drop_succ_cons, List.take_nil, List.drop_nil, List.set_cons_zero, List.set_cons_succ, Nat.reduceLeDiff, Nat.reduceLT, Nat.zero_add, Nat.lt_add_one, Nat.le_refl, clearA, Int.toNat_natCast, o1, o2, hk, hn]
        exact hQ _ _ _ rfl (by repeat (first | exact GrewA.refl _ | refine GrewA.trans ?_ (GrewA.push _ _) | refine GrewA.trans ?_ (GrewA.fresh _ _))) (by rw [hk, hn]; rfl)
      · simp only [sim, List.length_cons, List.length_nil, Nat.reduceAdd, Nat.reduceSub, List.replicate, List.cons_append, List.nil_append, List.map_cons, List.map_nil, Option.bind_some, Option.map_some, Option.bind_none, Option.map_none, if_true, if_false, decide_true, decide_false, Bool.false_eq_true, Bool.true_eq_false, Bool.not_true, Bool.not_false, reduceCtorEq, Bool.and_true, Bool.true_and, Bool.and_false, Bool.false_and, Bool.or_true, Bool.true_or, Bool.or_false, Bool.false_or, true_and, and_true, false_and, and_false, List.take_zero, List.take_succ_cons, List.drop_zero, List.drop_succ_cons, List.take_nil, List.drop_nil, List.set_cons_zero, List.set_cons_succ, Nat.reduceLeDiff, Nat.reduceLT, Nat.zero_add, Nat.lt_add_one, Nat.le_refl, clearA, Int.toNat_natCast, o1, o2, hk, hn, e1]
        exact hQ _ _ _ rfl (by repeat (first | exact GrewA.refl _ | refine GrewA.trans ?_ (GrewA.push _ _) | refine GrewA.trans ?_ (GrewA.fresh _ _))) (by rw [hk, hn]; rfl)
end
end Go.Proofs.YtodehiopdkgoeaaDoor
