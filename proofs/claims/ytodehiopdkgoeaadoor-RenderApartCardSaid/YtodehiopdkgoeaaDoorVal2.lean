/- vals and the document's values in the plain model: first faults, the same, what is in them, copies. -/
import Derived.Test.YtodehiopdkgoeaaDoorValS
import Derived.Test.YtodehiopdkgoeaaDoorCVals2
namespace Go.Proofs.YtodehiopdkgoeaaDoor
set_option linter.unusedSimpArgs false
set_option linter.unusedVariables false
open Go

theorem id_k (x : VD) : (id x).kind = x.kind := rfl
theorem id_l (x : VD) : (id x).l = x.l.map id := by simp

section
variable {h : AH}
theorem want_ix (i : Option Nat) : ∀ (k : Int), (k = 0 ∨ k = 1 ∨ k = 2 ∨ k = 3 ∨ k = 4 ∨ k = 5) → ixaR (some 3) none (.isl i 3 [[.int .i64 0], [.int .i64 0], [.int .i64 2], [.int .i64 1], [.int .i64 0], [.int .i64 0]]) (.int .i64 k) = some (.ip [.int .i64 (wantV k : Nat)] 0) := by
  rintro k (rfl | rfl | rfl | rfl | rfl | rfl) <;> rfl

set_option maxHeartbeats 1000000 in
theorem vcheck_run : ∀ (N : Nat) (x : VD), SizeOf.sizeOf x ≤ N → ∀ (r : List AV) (h : AH), VaA x r →
    runF Tryd.prog po 36 [.agg r] h = some (.inl (.int .i64 x.fault), h) := by
  intro N
  induction N with
  | zero => intro x hx; have := x.so_pos; omega
  | succ N ih =>
    intro x hx r h he
    obtain ⟨v, es, rfl, hsl, hv, hn, hix⟩ := he.facts
    have hfe := x.fault_eq
    rw [hfe]
    have loop : headV x.kind x.n x.l.length = 0 → ∀ (Q : RRun → Prop) (v3 v6 v7 v8 : AV), (∀ V h', (resR V h' [.v 2]).map oneA = some (.int .i64 (faultsV x.l)) → GrewA h h' → Q (some (.ret, V, h'))) →
        Q (runR (runF Tryd.prog po) 14 (.lp rc_vcheck_b1 :: .ss [] :: .blk 1 :: [.ss [.ops [(.i (.v 2) (.mv (.c (.int .i64 0))))], .ret]])
          [.agg [.int .i64 x.kind, .int .i64 x.n, v], .ptr h.n 0 0, .int .i64 0, v3, .junk, .junk, v6, v7, v8, v, .int .i64 es.length, .int .i64 0, .junk, .junk] [] ((h.push [[.int .i64 x.kind, .int .i64 x.n, v]]).fresh 6)) := by
      intro hd Q v3 v6 v7 v8 hQ
      obtain ⟨hlen, -⟩ := head_cases hd
      have hwf := want_few x.kind
      refine loop_Q (fun i V h' => ∃ v4 v5 v12 v13, V = [.agg [.int .i64 x.kind, .int .i64 x.n, v], .ptr h.n 0 0, .int .i64 0, v3, v4, v5, v6, v7, v8, v, .int .i64 es.length, .int .i64 (i : Nat), v12, v13] ∧ GrewA h h' ∧ faultsV (x.l.drop i) = faultsV x.l) x.l.length ⟨_, _, _, _, rfl, (by repeat (first | exact GrewA.refl _ | refine GrewA.trans ?_ (GrewA.push _ _) | refine GrewA.trans ?_ (GrewA.fresh _ _))), rfl⟩ ?_ ?_
      · rintro i V h' hi ⟨v4, v5, v12, v13, rfl, g, hc⟩ next
        have hlt : (i : Int) < (es.length : Int) := by rw [hn]; omega
        obtain ⟨y, hy⟩ := at_get hi
        obtain ⟨q, i1, d1, x1⟩ := hix i y hy
        obtain ⟨o1, o2⟩ := x1.one
        have hw := w64 (n := (i : Int) + 1) (by omega) (by omega)
        have e1 := ih y (by have := VD.lt_mem (at_mem hy); omega) q (h'.push [q]) x1
        rw [faults_from hy] at hc
        by_cases hf : y.fault = 0
        · rw [if_neg (by simp [hf])] at hc
          rw [hf] at e1
          rw [r_lpb rc_vcheck_b1.eq_1]
          simp only [sim, List.length_cons, List.length_nil, Nat.reduceAdd, Nat.reduceSub, List.replicate, List.cons_append, List.nil_append, List.map_cons, List.map_nil, Option.bind_some, Option.map_some, Option.bind_none, Option.map_none, if_true, if_false, decide_true, decide_false, Bool.false_eq_true, Bool.true_eq_false, Bool.not_true, Bool.not_false, reduceCtorEq, Bool.and_true, Bool.true_and, Bool.and_false, Bool.false_and, Bool.or_true, Bool.true_or, Bool.or_false, Bool.false_or, true_and, and_true, false_and, and_false, List.take_zero, List.take_succ_cons, List.drop_zero, List.drop_succ_cons, List.take_nil, List.drop_nil, List.set_cons_zero, List.set_cons_succ, Nat.reduceLeDiff, Nat.reduceLT, Nat.zero_add, Nat.lt_add_one, Nat.le_refl, clearA, Int.toNat_natCast, hlt, i1, d1, o1, o2, ld_all o2, e1, hw]
          exact next _ _ ⟨_, _, _, _, rfl, g.trans (by repeat (first | exact GrewA.refl _ | refine GrewA.trans ?_ (GrewA.push _ _) | refine GrewA.trans ?_ (GrewA.fresh _ _))), hc⟩
        · rw [if_pos hf] at hc
          rw [r_lpb rc_vcheck_b1.eq_1]
          simp only [sim, List.length_cons, List.length_nil, Nat.reduceAdd, Nat.reduceSub, List.replicate, List.cons_append, List.nil_append, List.map_cons, List.map_nil, Option.bind_some, Option.map_some, Option.bind_none, Option.map_none, if_true, if_false, decide_true, decide_false, Bool.false_eq_true, Bool.true_eq_false, Bool.not_true, Bool.not_false, reduceCtorEq, Bool.and_true, Bool.true_and, Bool.and_false, Bool.false_and, Bool.or_true, Bool.true_or, Bool.or_false, Bool.false_or, true_and, and_true, false_and, and_false, List.take_zero, List.take_succ_cons, List.drop_zero, List.drop_succ_cons, List.take_nil, List.drop_nil, List.set_cons_zero, List.set_cons_succ, Nat.reduceLeDiff, Nat.reduceLT, Nat.zero_add, Nat.lt_add_one, Nat.le_refl, clearA, Int.toNat_natCast, hlt, i1, d1, o1, o2, ld_all o2, e1, hf]
          exact hQ _ _ (by rw [← hc]; rfl) (g.trans (by repeat (first | exact GrewA.refl _ | refine GrewA.trans ?_ (GrewA.push _ _) | refine GrewA.trans ?_ (GrewA.fresh _ _))))
      · rintro V h' ⟨v4, v5, v12, v13, rfl, g, hc⟩
        have hlt : ¬ ((x.l.length : Int) < (es.length : Int)) := by rw [hn]; omega
        rw [List.drop_length] at hc
        rw [r_lpb rc_vcheck_b1.eq_1]
        simp only [sim, List.length_cons, List.length_nil, Nat.reduceAdd, Nat.reduceSub, List.replicate, List.cons_append, List.nil_append, List.map_cons, List.map_nil, Option.bind_some, Option.map_some, Option.bind_none, Option.map_none, if_true, if_false, decide_true, decide_false, Bool.false_eq_true, Bool.true_eq_false, Bool.not_true, Bool.not_false, reduceCtorEq, Bool.and_true, Bool.true_and, Bool.and_false, Bool.false_and, Bool.or_true, Bool.true_or, Bool.or_false, Bool.false_or, true_and, and_true, false_and, and_false, List.take_zero, List.take_succ_cons, List.drop_zero, List.drop_succ_cons, List.take_nil, List.drop_nil, List.set_cons_zero, List.set_cons_succ, Nat.reduceLeDiff, Nat.reduceLT, Nat.zero_add, Nat.lt_add_one, Nat.le_refl, clearA, Int.toNat_natCast, hlt]
        exact hQ _ _ (by rw [← hc]; rfl) g
    refine runF_E fn_vcheck rfl fun Q hQ => ?_; unfold rc_vcheck
    by_cases hk : x.kind = 0 ∨ x.kind = 1 ∨ x.kind = 2 ∨ x.kind = 3 ∨ x.kind = 4 ∨ x.kind = 5
    · have wi := fun i => want_ix i x.kind hk
      have k0 : ¬ x.kind < 0 := by omega
      have k5 : ¬ 5 < x.kind := by omega
      by_cases hl : (x.l.length : Nat) = wantV x.kind
      · have hl' : (es.length : Int) = (wantV x.kind : Int) := by rw [hn, hl]
        have hh0 : headV x.kind x.n x.l.length = if (x.kind = 0 ∨ x.kind = 2) ∧ x.n ≠ 0 then 5 else if 3 ≤ x.kind ∧ x.n < 0 then 1 else 0 := by
          unfold headV
          rw [if_neg (by omega), if_neg (by omega)]
        have L := loop
        rw [hh0] at L hQ
        rw [hl'] at L
        by_cases hz : x.n = 0
        · rcases hk with hk | hk | hk | hk | hk | hk
          all_goals
            rw [hk] at hl' L hQ wi
            simp only [wantV, Int.reduceEq, if_false, if_true, Int.cast_ofNat_Int, Int.natCast_zero, Int.natCast_one, hz, not_true, ne_eq, and_false, Int.lt_irrefl] at hl' L hQ wi
            simp only [sim, List.length_cons, List.length_nil, Nat.reduceAdd, Nat.reduceSub, List.replicate, List.cons_append, List.nil_append, List.map_cons, List.map_nil, Option.bind_some, Option.map_some, Option.bind_none, Option.map_none, if_true, if_false, decide_true, decide_false, Bool.false_eq_true, Bool.true_eq_false, Bool.not_true, Bool.not_false, reduceCtorEq, Bool.and_true, Bool.true_and, Bool.and_false, Bool.false_and, Bool.or_true, Bool.true_or, Bool.or_false, Bool.false_or, true_and, and_true, false_and, and_false, List.take_zero, List.take_succ_cons, List.drop_zero, List.drop_succ_cons, List.take_nil, List.drop_nil, List.set_cons_zero, List.set_cons_succ, Nat.reduceLeDiff, Nat.reduceLT, Nat.zero_add, Nat.lt_add_one, Nat.le_refl, clearA, Int.toNat_natCast, hv, hk, hz, Int.reduceEq, Int.reduceLT, Int.reduceLE, hsl.len, hsl.fits, hl', wi, Int.lt_irrefl]
            exact L trivial _ _ _ _ _ fun V h' e g => hQ _ _ _ e g rfl
        · by_cases hng : x.n < 0
          all_goals
            rcases hk with hk | hk | hk | hk | hk | hk
            all_goals
              rw [hk] at hl' L hQ wi
              simp only [wantV, Int.reduceEq, Int.reduceLE, if_false, if_true, Int.cast_ofNat_Int, Int.natCast_zero, Int.natCast_one, hz, hng, not_true, not_false_eq_true, ne_eq, and_false, and_true, true_or, or_true, false_or, or_false, or_self] at hl' L hQ wi
              simp only [sim, List.length_cons, List.length_nil, Nat.reduceAdd, Nat.reduceSub, List.replicate, List.cons_append, List.nil_append, List.map_cons, List.map_nil, Option.bind_some, Option.map_some, Option.bind_none, Option.map_none, if_true, if_false, decide_true, decide_false, Bool.false_eq_true, Bool.true_eq_false, Bool.not_true, Bool.not_false, reduceCtorEq, Bool.and_true, Bool.true_and, Bool.and_false, Bool.false_and, Bool.or_true, Bool.true_or, Bool.or_false, Bool.false_or, true_and, and_true, false_and, and_false, List.take_zero, List.take_succ_cons, List.drop_zero, List.drop_succ_cons, List.take_nil, List.drop_nil, List.set_cons_zero, List.set_cons_succ, Nat.reduceLeDiff, Nat.reduceLT, Nat.zero_add, Nat.lt_add_one, Nat.le_refl, clearA, Int.toNat_natCast, hv, hk, hz, hng, Int.reduceEq, Int.reduceLT, Int.reduceLE, hsl.len, hsl.fits, hl', wi]
              first
                | exact hQ _ _ _ rfl (by repeat (first | exact GrewA.refl _ | refine GrewA.trans ?_ (GrewA.push _ _) | refine GrewA.trans ?_ (GrewA.fresh _ _))) rfl
                | exact L trivial _ _ _ _ _ fun V h' e g => hQ _ _ _ e g rfl
      · have hh : headV x.kind x.n x.l.length = 5 := by
          unfold headV
          rw [if_neg (by omega), if_pos hl]
        have hl' : ¬ (es.length : Int) = (wantV x.kind : Int) := by rw [hn]; omega
        rw [hh] at hQ
        simp only [sim, List.length_cons, List.length_nil, Nat.reduceAdd, Nat.reduceSub, List.replicate, List.cons_append, List.nil_append, List.map_cons, List.map_nil, Option.bind_some, Option.map_some, Option.bind_none, Option.map_none, if_true, if_false, decide_true, decide_false, Bool.false_eq_true, Bool.true_eq_false, Bool.not_true, Bool.not_false, reduceCtorEq, Bool.and_true, Bool.true_and, Bool.and_false, Bool.false_and, Bool.or_true, Bool.true_or, Bool.or_false, Bool.false_or, true_and, and_true, false_and, and_false, List.take_zero, List.take_succ_cons, List.drop_zero, List.drop_succ_cons, List.take_nil, List.drop_nil, List.set_cons_zero, List.set_cons_succ, Nat.reduceLeDiff, Nat.reduceLT, Nat.zero_add, Nat.lt_add_one, Nat.le_refl, clearA, Int.toNat_natCast, hv, k0, k5, hsl.len, hsl.fits, wi, hl']
        exact hQ _ _ _ rfl (by repeat (first | exact GrewA.refl _ | refine GrewA.trans ?_ (GrewA.push _ _) | refine GrewA.trans ?_ (GrewA.fresh _ _))) rfl
    · have hh : headV x.kind x.n x.l.length = 2 := by
        unfold headV
        rw [if_pos (by omega)]
      rw [hh] at hQ
      by_cases k0 : x.kind < 0
      · simp only [sim, List.length_cons, List.length_nil, Nat.reduceAdd, Nat.reduceSub, List.replicate, List.cons_append, List.nil_append, List.map_cons, List.map_nil, Option.bind_some, Option.map_some, Option.bind_none, Option.map_none, if_true, if_false, decide_true, decide_false, Bool.false_eq_true, Bool.true_eq_false, Bool.not_true, Bool.not_false, reduceCtorEq, Bool.and_true, Bool.true_and, Bool.and_false, Bool.false_and, Bool.or_true, Bool.true_or, Bool.or_false, Bool.false_or, true_and, and_true, false_and, and_false, List.take_zero, List.take_succ_cons, List.drop_zero, List.drop_succ_cons, List.take_nil, List.drop_nil, List.set_cons_zero, List.set_cons_succ, Nat.reduceLeDiff, Nat.reduceLT, Nat.zero_add, Nat.lt_add_one, Nat.le_refl, clearA, Int.toNat_natCast, hv, k0]
        exact hQ _ _ _ rfl (by repeat (first | exact GrewA.refl _ | refine GrewA.trans ?_ (GrewA.push _ _) | refine GrewA.trans ?_ (GrewA.fresh _ _))) rfl
      · have k5 : 5 < x.kind := by omega
        simp only [sim, List.length_cons, List.length_nil, Nat.reduceAdd, Nat.reduceSub, List.replicate, List.cons_append, List.nil_append, List.map_cons, List.map_nil, Option.bind_some, Option.map_some, Option.bind_none, Option.map_none, if_true, if_false, decide_true, decide_false, Bool.false_eq_true, Bool.true_eq_false, Bool.not_true, Bool.not_false, reduceCtorEq, Bool.and_true, Bool.true_and, Bool.and_false, Bool.false_and, Bool.or_true, Bool.true_or, Bool.or_false, Bool.false_or, true_and, and_true, false_and, and_false, List.take_zero, List.take_succ_cons, List.drop_zero, List.drop_succ_cons, List.take_nil, List.drop_nil, List.set_cons_zero, List.set_cons_succ, Nat.reduceLeDiff, Nat.reduceLT, Nat.zero_add, Nat.lt_add_one, Nat.le_refl, clearA, Int.toNat_natCast, hv, k0, k5]
        exact hQ _ _ _ rfl (by repeat (first | exact GrewA.refl _ | refine GrewA.trans ?_ (GrewA.push _ _) | refine GrewA.trans ?_ (GrewA.fresh _ _))) rfl
theorem vCheck_run {x : VD} {r : List AV} (he : VaA x r) : runF Tryd.prog po 13 [.agg r] h = some (.inl (.int .i64 x.code), h) := by
  obtain ⟨o1, o2⟩ := he.one
  have e1 := fun h => vsize_run _ x (Nat.le_refl _) r h 40 he (by omega) (by omega)
  have e2 := fun h => vcheck_run _ x (Nat.le_refl _) r h he
  by_cases hs : 40 < x.size
  · have e3 : leftV 40 x.size = -1 := by rw [leftV, if_neg (by omega)]
    have e4 : x.code = 3 := by rw [VD.code, if_pos hs]
    rw [e4]
    simp only [e3] at e1
    refine runF_E fn_vCheck rfl fun Q hQ => ?_; unfold rc_vCheck
    simp only [sim, List.length_cons, List.length_nil, Nat.reduceAdd, Nat.reduceSub, List.replicate, List.cons_append, List.nil_append, List.map_cons, List.map_nil, Option.bind_some, Option.map_some, Option.bind_none, Option.map_none, if_true, if_false, decide_true, decide_false, Bool.false_eq_true, Bool.true_eq_false, Bool.not_true, Bool.not_false, reduceCtorEq, Bool.and_true, Bool.true_and, Bool.and_false, Bool.false_and, Bool.or_true, Bool.true_or, Bool.or_false, Bool.false_or, true_and, and_true, false_and, and_false, List.take_zero, List.take_succ_cons, List.drop_zero, List.drop_succ_cons, List.take_nil, List.drop_nil, List.set_cons_zero, List.set_cons_succ, Nat.reduceLeDiff, Nat.reduceLT, Nat.zero_add, Nat.lt_add_one, Nat.le_refl, clearA, Int.toNat_natCast, o1, o2, ld_all o2, e1, Int.reduceLT]
    exact hQ _ _ _ rfl (by repeat (first | exact GrewA.refl _ | refine GrewA.trans ?_ (GrewA.push _ _) | refine GrewA.trans ?_ (GrewA.fresh _ _))) rfl
  · have e3 : ¬ leftV 40 x.size < 0 := by rw [leftV, if_pos (by omega)]; omega
    have e4 : x.code = x.fault := by rw [VD.code, if_neg hs]
    rw [e4]
    refine runF_E fn_vCheck rfl fun Q hQ => ?_; unfold rc_vCheck
    simp only [sim, List.length_cons, List.length_nil, Nat.reduceAdd, Nat.reduceSub, List.replicate, List.cons_append, List.nil_append, List.map_cons, List.map_nil, Option.bind_some, Option.map_some, Option.bind_none, Option.map_none, if_true, if_false, decide_true, decide_false, Bool.false_eq_true, Bool.true_eq_false, Bool.not_true, Bool.not_false, reduceCtorEq, Bool.and_true, Bool.true_and, Bool.and_false, Bool.false_and, Bool.or_true, Bool.true_or, Bool.or_false, Bool.false_or, true_and, and_true, false_and, and_false, List.take_zero, List.take_succ_cons, List.drop_zero, List.drop_succ_cons, List.take_nil, List.drop_nil, List.set_cons_zero, List.set_cons_succ, Nat.reduceLeDiff, Nat.reduceLT, Nat.zero_add, Nat.lt_add_one, Nat.le_refl, clearA, Int.toNat_natCast, o1, o2, ld_all o2, e1, e3, e2]
    exact hQ _ _ _ rfl (by repeat (first | exact GrewA.refl _ | refine GrewA.trans ?_ (GrewA.push _ _) | refine GrewA.trans ?_ (GrewA.fresh _ _))) rfl
theorem ValFault_run {x : VD} {r : List AV} (he : VaA x r) : runF Tryd.prog po 14 [.agg r] h = some (.inl (.int .i64 x.code), h) := by
  obtain ⟨o1, o2⟩ := he.one
  have e1 := fun h => ValSize_run _ x (Nat.le_refl _) r h 40 he (by omega) (by omega)
  have e2 := fun h => rvalFault_run _ x (Nat.le_refl _) r h he
  by_cases hs : 40 < x.size
  · have e3 : 40 < min (x.size : Int) (40 + 1) := by omega
    have e4 : x.code = 3 := by rw [VD.code, if_pos hs]
    rw [e4]
    refine runF_E fn_ValFault rfl fun Q hQ => ?_; unfold rc_ValFault
    simp only [sim, List.length_cons, List.length_nil, Nat.reduceAdd, Nat.reduceSub, List.replicate, List.cons_append, List.nil_append, List.map_cons, List.map_nil, Option.bind_some, Option.map_some, Option.bind_none, Option.map_none, if_true, if_false, decide_true, decide_false, Bool.false_eq_true, Bool.true_eq_false, Bool.not_true, Bool.not_false, reduceCtorEq, Bool.and_true, Bool.true_and, Bool.and_false, Bool.false_and, Bool.or_true, Bool.true_or, Bool.or_false, Bool.false_or, true_and, and_true, false_and, and_false, List.take_zero, List.take_succ_cons, List.drop_zero, List.drop_succ_cons, List.take_nil, List.drop_nil, List.set_cons_zero, List.set_cons_succ, Nat.reduceLeDiff, Nat.reduceLT, Nat.zero_add, Nat.lt_add_one, Nat.le_refl, clearA, Int.toNat_natCast, o1, o2, ld_all o2, e1, e3]
    exact hQ _ _ _ rfl (by repeat (first | exact GrewA.refl _ | refine GrewA.trans ?_ (GrewA.push _ _) | refine GrewA.trans ?_ (GrewA.fresh _ _))) rfl
  · have e3 : ¬ 40 < min (x.size : Int) (40 + 1) := by omega
    have e4 : x.code = x.fault := by rw [VD.code, if_neg hs]
    rw [e4]
    refine runF_E fn_ValFault rfl fun Q hQ => ?_; unfold rc_ValFault
    simp only [sim, List.length_cons, List.length_nil, Nat.reduceAdd, Nat.reduceSub, List.replicate, List.cons_append, List.nil_append, List.map_cons, List.map_nil, Option.bind_some, Option.map_some, Option.bind_none, Option.map_none, if_true, if_false, decide_true, decide_false, Bool.false_eq_true, Bool.true_eq_false, Bool.not_true, Bool.not_false, reduceCtorEq, Bool.and_true, Bool.true_and, Bool.and_false, Bool.false_and, Bool.or_true, Bool.true_or, Bool.or_false, Bool.false_or, true_and, and_true, false_and, and_false, List.take_zero, List.take_succ_cons, List.drop_zero, List.drop_succ_cons, List.take_nil, List.drop_nil, List.set_cons_zero, List.set_cons_succ, Nat.reduceLeDiff, Nat.reduceLT, Nat.zero_add, Nat.lt_add_one, Nat.le_refl, clearA, Int.toNat_natCast, o1, o2, ld_all o2, e1, e3, e2]
    exact hQ _ _ _ rfl (by repeat (first | exact GrewA.refl _ | refine GrewA.trans ?_ (GrewA.push _ _) | refine GrewA.trans ?_ (GrewA.fresh _ _))) rfl

theorem sameVs_drop {l l' : List VD} {i : Nat} {x y : VD} (h1 : l[i]? = some x) (h2 : l'[i]? = some y) : sameVs (l.drop i) (l'.drop i) = (sameV x y && sameVs (l.drop (i + 1)) (l'.drop (i + 1))) := by
  obtain ⟨k1, rfl⟩ := List.getElem?_eq_some_iff.1 h1
  obtain ⟨k2, rfl⟩ := List.getElem?_eq_some_iff.1 h2
  rw [List.drop_eq_getElem_cons k1, List.drop_eq_getElem_cons k2]
  rfl
theorem SameVals_run (l l' : List VD) (v w : AV) (hv : ∀ h, ValV h v l) (hw : ∀ h, ValV h w l') (hl : l.length ≤ 100000)
    (hc : ∀ x ∈ l, ∀ (y : VD) (q q' : List AV) (h : AH), VaA x q → VaA y q' → runF Tryd.prog po 16 [.agg q, .agg q'] h = some (.inl (.bool (sameV x y)), h)) :
    runF Tryd.prog po 39 [v, w] h = some (.inl (.bool (sameVs l l')), h) := by
  have vl := (hv h).len
  have vf := (hv h).fits
  have wl := (hw h).len
  have wf := (hw h).fits
  cases hd : decide ((l.length : Int) = (l'.length : Int))
  · rw [sameVs_ne hd]
    refine runF_E fn_SameVals rfl fun Q hQ => ?_; unfold rc_SameVals
    simp only [sim, List.length_cons, List.length_nil, Nat.reduceAdd, Nat.reduceSub, List.replicate, List.cons_append, List.nil_append, List.map_cons, List.map_nil, Option.bind_some, Option.map_some, Option.bind_none, Option.map_none, if_true, if_false, decide_true, decide_false, Bool.false_eq_true, Bool.true_eq_false, Bool.not_true, Bool.not_false, reduceCtorEq, Bool.and_true, Bool.true_and, Bool.and_false, Bool.false_and, Bool.or_true, Bool.true_or, Bool.or_false, Bool.false_or, true_and, and_true, false_and, and_false, List.take_zero, List.take_succ_cons, List.drop_zero, List.drop_succ_cons, List.take_nil, List.drop_nil, List.set_cons_zero, List.set_cons_succ, Nat.reduceLeDiff, Nat.reduceLT, Nat.zero_add, Nat.lt_add_one, Nat.le_refl, clearA, Int.toNat_natCast, vl, vf, wl, wf, hd]
    exact hQ _ _ _ rfl (by repeat (first | exact GrewA.refl _ | refine GrewA.trans ?_ (GrewA.push _ _) | refine GrewA.trans ?_ (GrewA.fresh _ _))) rfl
  · have hll : l.length = l'.length := by have := of_decide_eq_true hd; omega
    refine runF_E fn_SameVals rfl fun Q hQ => ?_; unfold rc_SameVals
    simp only [sim, List.length_cons, List.length_nil, Nat.reduceAdd, Nat.reduceSub, List.replicate, List.cons_append, List.nil_append, List.map_cons, List.map_nil, Option.bind_some, Option.map_some, Option.bind_none, Option.map_none, if_true, if_false, decide_true, decide_false, Bool.false_eq_true, Bool.true_eq_false, Bool.not_true, Bool.not_false, reduceCtorEq, Bool.and_true, Bool.true_and, Bool.and_false, Bool.false_and, Bool.or_true, Bool.true_or, Bool.or_false, Bool.false_or, true_and, and_true, false_and, and_false, List.take_zero, List.take_succ_cons, List.drop_zero, List.drop_succ_cons, List.take_nil, List.drop_nil, List.set_cons_zero, List.set_cons_succ, Nat.reduceLeDiff, Nat.reduceLT, Nat.zero_add, Nat.lt_add_one, Nat.le_refl, clearA, Int.toNat_natCast, vl, vf, wl, wf, hd]
    refine loop_Q (fun i V h' => ∃ v4 v5 v6, V = [v, w, .bool false, .int .i64 (i : Nat), v4, v5, v6] ∧ GrewA h h' ∧ sameVs (l.drop i) (l'.drop i) = sameVs l l') l.length ⟨_, _, _, rfl, GrewA.refl _, rfl⟩ ?_ ?_
    · rintro i V h' hi ⟨v4, v5, v6, rfl, g, hs⟩ next
      have hlt : (i : Int) < (l.length : Int) := by omega
      have hwi := w64 (n := (i : Int) + 1) (by omega) (by omega)
      obtain ⟨x, hx⟩ := at_get hi
      obtain ⟨y, hy⟩ := at_get (l := l') (i := i) (by omega)
      obtain ⟨a, q, i1, i2, x1⟩ := (hv h').ix i x hx
      obtain ⟨b, q', j1, j2, y1⟩ := (hw h').ix i y hy
      have e1 := hc x (at_mem hx) y q q' h' x1 y1
      rw [sameVs_drop hx hy] at hs
      cases hb : sameV x y
      · rw [hb] at e1 hs
        rw [Bool.false_and] at hs
        rw [r_lpb rc_SameVals_b1.eq_1]
        simp only [sim, List.length_cons, List.length_nil, Nat.reduceAdd, Nat.reduceSub, List.replicate, List.cons_append, List.nil_append, List.map_cons, List.map_nil, Option.bind_some, Option.map_some, Option.bind_none, Option.map_none, if_true, if_false, decide_true, decide_false, Bool.false_eq_true, Bool.true_eq_false, Bool.not_true, Bool.not_false, reduceCtorEq, Bool.and_true, Bool.true_and, Bool.and_false, Bool.false_and, Bool.or_true, Bool.true_or, Bool.or_false, Bool.false_or, true_and, and_true, false_and, and_false, List.take_zero, List.take_succ_cons, List.drop_zero, List.drop_succ_cons, List.take_nil, List.drop_nil, List.set_cons_zero, List.set_cons_succ, Nat.reduceLeDiff, Nat.reduceLT, Nat.zero_add, Nat.lt_add_one, Nat.le_refl, clearA, Int.toNat_natCast, vl, vf, hlt, i1, i2 _ (GrewA.refl h'), j1, j2 _ (GrewA.refl h'), e1]
        exact hQ _ _ _ rfl g (by rw [← hs]; rfl)
      · rw [hb] at e1 hs
        rw [Bool.true_and] at hs
        rw [r_lpb rc_SameVals_b1.eq_1]
        simp only [sim, List.length_cons, List.length_nil, Nat.reduceAdd, Nat.reduceSub, List.replicate, List.cons_append, List.nil_append, List.map_cons, List.map_nil, Option.bind_some, Option.map_some, Option.bind_none, Option.map_none, if_true, if_false, decide_true, decide_false, Bool.false_eq_true, Bool.true_eq_false, Bool.not_true, Bool.not_false, reduceCtorEq, Bool.and_true, Bool.true_and, Bool.and_false, Bool.false_and, Bool.or_true, Bool.true_or, Bool.or_false, Bool.false_or, true_and, and_true, false_and, and_false, List.take_zero, List.take_succ_cons, List.drop_zero, List.drop_succ_cons, List.take_nil, List.drop_nil, List.set_cons_zero, List.set_cons_succ, Nat.reduceLeDiff, Nat.reduceLT, Nat.zero_add, Nat.lt_add_one, Nat.le_refl, clearA, Int.toNat_natCast, vl, vf, hlt, i1, i2 _ (GrewA.refl h'), j1, j2 _ (GrewA.refl h'), e1, hwi]
        exact next _ _ ⟨_, _, _, rfl, g, hs⟩
    · rintro V h' ⟨v4, v5, v6, rfl, g, hs⟩
      have hlt : ¬ ((l.length : Int) < (l.length : Int)) := by omega
      rw [List.drop_length, hll, List.drop_length] at hs
      rw [r_lpb rc_SameVals_b1.eq_1]
      simp only [sim, List.length_cons, List.length_nil, Nat.reduceAdd, Nat.reduceSub, List.replicate, List.cons_append, List.nil_append, List.map_cons, List.map_nil, Option.bind_some, Option.map_some, Option.bind_none, Option.map_none, if_true, if_false, decide_true, decide_false, Bool.false_eq_true, Bool.true_eq_false, Bool.not_true, Bool.not_false, reduceCtorEq, Bool.and_true, Bool.true_and, Bool.and_false, Bool.false_and, Bool.or_true, Bool.true_or, Bool.or_false, Bool.false_or, true_and, and_true, false_and, and_false, List.take_zero, List.take_succ_cons, List.drop_zero, List.drop_succ_cons, List.take_nil, List.drop_nil, List.set_cons_zero, List.set_cons_succ, Nat.reduceLeDiff, Nat.reduceLT, Nat.zero_add, Nat.lt_add_one, Nat.le_refl, clearA, Int.toNat_natCast, vl, vf, hlt]
      exact hQ _ _ _ rfl g (by rw [← hs]; rfl)
theorem SameVal_run : ∀ (N : Nat) (x : VD), SizeOf.sizeOf x ≤ N → x.size ≤ 100000 → ∀ (y : VD) (q q' : List AV) (h : AH), VaA x q → VaA y q' →
    runF Tryd.prog po 16 [.agg q, .agg q'] h = some (.inl (.bool (sameV x y)), h) := by
  intro N
  induction N with
  | zero => intro x hx; have := x.so_pos; omega
  | succ N ih =>
    intro x hx hsz y q q' h hq hq'
    obtain ⟨v, es, rfl, hs, hl⟩ := hq.row
    obtain ⟨w, es', rfl, hs', hl'⟩ := hq'.row
    have mv : ∀ h, ValV h v x.l := fun h => ValV.of hs hl
    have mw : ∀ h, ValV h w y.l := fun h => ValV.of hs' hl'
    have hlen := x.len_size
    have e1 := fun h => SameVals_run (h := h) x.l y.l v w mv mw (by omega) (fun z hz y q q' h => ih z (by have := VD.lt_mem hz; omega) (by have := VD.size_mem hz; omega) y q q' h)
    have o1 := (mv h).one
    have o2 := (mw h).one
    rw [sameV_eq]
    refine runF_E fn_SameVal rfl fun Q hQ => ?_; unfold rc_SameVal
    cases hk : decide (x.kind = y.kind)
    · simp only [sim, List.length_cons, List.length_nil, Nat.reduceAdd, Nat.reduceSub, List.replicate, List.cons_append, List.nil_append, List.map_cons, List.map_nil, Option.bind_some, Option.map_some, Option.bind_none, Option.map_none, if_true, if_false, decide_true, decide_false, Bool.false_eq_true, Bool.true_eq_false, Bool.not_true, Bool.not_false, reduceCtorEq, Bool.and_true, Bool.true_and, Bool.and_false, Bool.false_and, Bool.or_true, Bool.true_or, Bool.or_false, Bool.false_or, true_and, and_true, false_and, and_false, List.take_zero, List.take_succ_cons, List.drop_zero, List.drop_succ_cons, List.take_nil, List.drop_nil, List.set_cons_zero, List.set_cons_succ, Nat.reduceLeDiff, Nat.reduceLT, Nat.zero_add, Nat.lt_add_one, Nat.le_refl, clearA, Int.toNat_natCast, o1, o2, hk]
      exact hQ _ _ _ rfl (by repeat (first | exact GrewA.refl _ | refine GrewA.trans ?_ (GrewA.push _ _) | refine GrewA.trans ?_ (GrewA.fresh _ _))) (by rw [hk]; rfl)
    · cases hn : decide (x.n = y.n)
      · simp only [sim, List.length_cons, List.length_nil, Nat.reduceAdd, Nat.reduceSub, List.replicate, List.cons_append, List.nil_append, List.map_cons, List.map_nil, Option.bind_some, Option.map_some, Option.bind_none, Option.map_none, if_true, if_false, decide_true, decide_false, Bool.false_eq_true, Bool.true_eq_false, Bool.not_true, Bool.not_false, reduceCtorEq, Bool.and_true, Bool.true_and, Bool.and_false, Bool.false_and, Bool.or_true, Bool.true_or, Bool.or_false, Bool.false_or, true_and, and_true, false_and, and_false, List.take_zero, List.take_succ_cons, List.drop_zero, List.drop_succ_cons, List.take_nil, List.drop_nil, List.set_cons_zero, List.set_cons_succ, Nat.reduceLeDiff, Nat.reduceLT, Nat.zero_add, Nat.lt_add_one, Nat.le_refl, clearA, Int.toNat_natCast, o1, o2, hk, hn]
        exact hQ _ _ _ rfl (by repeat (first | exact GrewA.refl _ | refine GrewA.trans ?_ (GrewA.push _ _) | refine GrewA.trans ?_ (GrewA.fresh _ _))) (by rw [hk, hn]; rfl)
      · simp only [sim, List.length_cons, List.length_nil, Nat.reduceAdd, Nat.reduceSub, List.replicate, List.cons_append, List.nil_append, List.map_cons, List.map_nil, Option.bind_some, Option.map_some, Option.bind_none, Option.map_none, if_true, if_false, decide_true, decide_false, Bool.false_eq_true, Bool.true_eq_false, Bool.not_true, Bool.not_false, reduceCtorEq, Bool.and_true, Bool.true_and, Bool.and_false, Bool.false_and, Bool.or_true, Bool.true_or, Bool.or_false, Bool.false_or, true_and, and_true, false_and, and_false, List.take_zero, List.take_succ_cons, List.drop_zero, List.drop_succ_cons, List.take_nil, List.drop_nil, List.set_cons_zero, List.set_cons_succ, Nat.reduceLeDiff, Nat.reduceLT, Nat.zero_add, Nat.lt_add_one, Nat.le_refl, clearA, Int.toNat_natCast, o1, o2, hk, hn, e1]
        exact hQ _ _ _ rfl (by repeat (first | exact GrewA.refl _ | refine GrewA.trans ?_ (GrewA.push _ _) | refine GrewA.trans ?_ (GrewA.fresh _ _))) (by rw [hk, hn]; rfl)

set_option maxHeartbeats 1000000 in
theorem OwnVal_run : ∀ (N : Nat) (x : VD), SizeOf.sizeOf x ≤ N → x.size ≤ 100000 → ∀ (r : List AV) (h : AH), VaA x r →
    ∃ r', runF Tryd.prog po 12 [.agg r] h = some (.inl (.agg r'), h) ∧ VaA (id x) r' := by
  intro N
  induction N with
  | zero => intro x hx; have := x.so_pos; omega
  | succ N ih =>
    intro x hx hsz r h he
    obtain ⟨v, es, rfl, hsl, hv, hn, hix⟩ := he.facts
    have hlen := x.len_size
    suffices key : ∃ v', runF Tryd.prog po 12 [.agg [.int .i64 x.kind, .int .i64 x.n, v]] h = some (.inl v', h) ∧ ∃ r', v' = .agg r' ∧ VaA (id x) r' by
      obtain ⟨_, e, r', rfl, h2⟩ := key
      exact ⟨r', e, h2⟩
    have rest : ∀ (Q : RRun → Prop) (h0 : AH) (w5 : AV) (z : Int), h0 = ((h.push [[.int .i64 x.kind, .int .i64 x.n, v]]).push [[.int .i64 0, .int .i64 0, .nils]]).push [[.int .i64 x.kind, .int .i64 z, .nils]] →
        z = (id x).n →
        (∀ V h' v v', (resR V h' [.cell true 3 2]).map oneA = some v → GrewA h h' → wkA v = some v' → (∃ r', v' = .agg r' ∧ VaA (id x) r') → Q (some (.ret, V, h'))) →
        Q (runR (runF Tryd.prog po) 6 (.lp rc_OwnVal_b1 :: .ss [] :: .blk 0 :: [.ss [.ops [(.i .l (.load true 3 (.v 3))), (.i .n (.store 3 (.v 2) (.l 0)))], .ret]])
          [.agg [.int .i64 x.kind, .int .i64 x.n, v], .ptr h.n 0 0, .ptr (h.n + 1) 0 0, .ptr (h.n + 1 + 1) 0 0, .int .i64 0, w5] [] h0) := by
      intro Q h0 w5 z hh0 hz hQ
      subst hh0
      refine loop_Q (fun i V h' => ∃ w5 acc rows, V = [.agg [.int .i64 x.kind, .int .i64 x.n, v], .ptr h.n 0 0, .ptr (h.n + 1) 0 0, .ptr (h.n + 1 + 1) 0 0, .int .i64 (i : Nat), w5] ∧
        GrewA h h' ∧ h.n + 1 + 1 < h'.n ∧ h'.cell h.n = some [[.int .i64 x.kind, .int .i64 x.n, v]] ∧ h'.cell (h.n + 1) = some [[.int .i64 0, .int .i64 0, .nils]] ∧ h'.cell (h.n + 1 + 1) = some [[.int .i64 x.kind, .int .i64 z, acc]] ∧
        Acc h h' tV acc rows ∧ VaL ((x.l.take i).map id) rows) x.l.length ⟨_, _, [], rfl, (by repeat (first | exact GrewA.refl _ | refine GrewA.trans ?_ (GrewA.push _ _) | refine GrewA.trans ?_ (GrewA.fresh _ _))), by simp only [push_n]; omega, push3_0, push3_1, push3_same, acc_nil _ _ _, rfl⟩ ?_ ?_
      · rintro i V h' hi ⟨w5, acc, rows, rfl, g, hm, c1, c2, c3, ha, hr⟩ next
        have hlt : (i : Int) < (es.length : Int) := by rw [hn]; omega
        obtain ⟨y, hy⟩ := at_get hi
        obtain ⟨q, i1, d1, x1⟩ := hix i y hy
        have hw := w64 (n := (i : Int) + 1) (by omega) (by omega)
        obtain ⟨q', e1, x2⟩ := ih y (by have := VD.lt_mem (at_mem hy); omega) (by have := VD.size_mem (at_mem hy); omega) q h' x1
        obtain ⟨o1, o2⟩ := x2.one
        have hrl : rows.length ≤ 1000000 := by rw [hr.len, List.length_map, List.length_take]; omega
        obtain ⟨acc2, h2, e2, a1, a2, a3, a4⟩ := acc_app ha g (row := q') o1 hrl
        have b1 : (h2.set (h.n + 1 + 1) (some [[.int .i64 x.kind, .int .i64 z, acc2]])).cell h.n = some [[.int .i64 x.kind, .int .i64 x.n, v]] := by rw [set_ne (by omega), a3]; exact c1
        have b2 : (h2.set (h.n + 1 + 1) (some [[.int .i64 x.kind, .int .i64 z, acc2]])).cell (h.n + 1) = some [[.int .i64 0, .int .i64 0, .nils]] := by rw [set_ne (by omega), a3]; exact c2
        have oA : acc2.one = true := by
          rcases a1 with ⟨_, rfl⟩ | ⟨id, _, _, _, _, rfl⟩ <;> rfl
        have cA : acc2.cells = [acc2] := by
          rcases a1 with ⟨_, rfl⟩ | ⟨id, _, _, _, _, rfl⟩ <;> rfl
        rw [r_lpb rc_OwnVal_b1.eq_1]
        simp only [sim, List.length_cons, List.length_nil, Nat.reduceAdd, Nat.reduceSub, List.replicate, List.cons_append, List.nil_append, List.map_cons, List.map_nil, Option.bind_some, Option.map_some, Option.bind_none, Option.map_none, if_true, if_false, decide_true, decide_false, Bool.false_eq_true, Bool.true_eq_false, Bool.not_true, Bool.not_false, reduceCtorEq, Bool.and_true, Bool.true_and, Bool.and_false, Bool.false_and, Bool.or_true, Bool.true_or, Bool.or_false, Bool.false_or, true_and, and_true, false_and, and_false, List.take_zero, List.take_succ_cons, List.drop_zero, List.drop_succ_cons, List.take_nil, List.drop_nil, List.set_cons_zero, List.set_cons_succ, Nat.reduceLeDiff, Nat.reduceLT, Nat.zero_add, Nat.lt_add_one, Nat.le_refl, clearA, Int.toNat_natCast, c1, c2, c3, hsl.len, hsl.fits, hlt, i1, d1, e1, o1, o2, e2, a3, oA, cA, hw]
        refine next _ _ ⟨_, _, _, rfl, a2.set (by omega), by rw [set_n, a4]; exact hm, b1, b2, set_same, a1, ?_⟩
        rw [take_get hy, List.map_append]
        exact hr.append x2
      · rintro V h' ⟨w5, acc, rows, rfl, g, hm, c1, c2, c3, ha, hr⟩
        have hlt : ¬ ((x.l.length : Int) < (es.length : Int)) := by rw [hn]; omega
        rw [List.take_length] at hr
        have oA : acc.one = true := by
          rcases ha with ⟨_, rfl⟩ | ⟨id, _, _, _, _, rfl⟩ <;> rfl
        have hsl' : SlA tV acc rows := by
          rcases ha with ⟨q1, q2⟩ | ⟨id, _, _, _, _, q2⟩
          · exact .inl ⟨q1, q2⟩
          · exact .inr ⟨_, q2⟩
        have hx' : VaA (id x) [.int .i64 x.kind, .int .i64 z, acc] := by
          rw [hz]
          have := VaA.mk (x := id x) hsl' (by rw [id_l]; exact hr)
          rw [id_k] at this
          exact this
        obtain ⟨r', hw, hr'⟩ := va_wk hx'
        have hwA : wkA (.agg [.int .i64 x.kind, .int .i64 z, acc]) = some (.agg r') := by simp only [wkA, hw, Option.map_some]
        rw [r_lpb rc_OwnVal_b1.eq_1]
        simp only [sim, List.length_cons, List.length_nil, Nat.reduceAdd, Nat.reduceSub, List.replicate, List.cons_append, List.nil_append, List.map_cons, List.map_nil, Option.bind_some, Option.map_some, Option.bind_none, Option.map_none, if_true, if_false, decide_true, decide_false, Bool.false_eq_true, Bool.true_eq_false, Bool.not_true, Bool.not_false, reduceCtorEq, Bool.and_true, Bool.true_and, Bool.and_false, Bool.false_and, Bool.or_true, Bool.true_or, Bool.or_false, Bool.false_or, true_and, and_true, false_and, and_false, List.take_zero, List.take_succ_cons, List.drop_zero, List.drop_succ_cons, List.take_nil, List.drop_nil, List.set_cons_zero, List.set_cons_succ, Nat.reduceLeDiff, Nat.reduceLT, Nat.zero_add, Nat.lt_add_one, Nat.le_refl, clearA, Int.toNat_natCast, c1, c2, c3, hsl.len, hsl.fits, hlt, oA]
        exact hQ _ _ _ _ (by simp only [sim, oA, List.all_cons, List.all_nil, List.length_cons, List.length_nil, Option.map_some, Option.bind_some, List.getD_cons_zero, List.getD_cons_succ, List.take_succ_cons, List.take_zero, List.drop_zero]) (g.set (by omega)) hwA ⟨r', rfl, hr'⟩
    refine runF_V fn_OwnVal rfl fun Q hQ => ?_; unfold rc_OwnVal
    simp only [sim, List.length_cons, List.length_nil, Nat.reduceAdd, Nat.reduceSub, List.replicate, List.cons_append, List.nil_append, List.map_cons, List.map_nil, Option.bind_some, Option.map_some, Option.bind_none, Option.map_none, if_true, if_false, decide_true, decide_false, Bool.false_eq_true, Bool.true_eq_false, Bool.not_true, Bool.not_false, reduceCtorEq, Bool.and_true, Bool.true_and, Bool.and_false, Bool.false_and, Bool.or_true, Bool.true_or, Bool.or_false, Bool.false_or, true_and, and_true, false_and, and_false, List.take_zero, List.take_succ_cons, List.drop_zero, List.drop_succ_cons, List.take_nil, List.drop_nil, List.set_cons_zero, List.set_cons_succ, Nat.reduceLeDiff, Nat.reduceLT, Nat.zero_add, Nat.lt_add_one, Nat.le_refl, clearA, Int.toNat_natCast, hv]
    exact rest _ _ _ x.n rfl rfl hQ

set_option maxHeartbeats 1000000 in
theorem vOwn_run : ∀ (N : Nat) (x : VD), SizeOf.sizeOf x ≤ N → x.size ≤ 100000 → ∀ (r : List AV) (h : AH), VaA x r →
    ∃ r', runF Tryd.prog po 17 [.agg r] h = some (.inl (.agg r'), h) ∧ VaA (id x) r' := by
  intro N
  induction N with
  | zero => intro x hx; have := x.so_pos; omega
  | succ N ih =>
    intro x hx hsz r h he
    obtain ⟨v, es, rfl, hsl, hv, hn, hix⟩ := he.facts
    have hlen := x.len_size
    suffices key : ∃ v', runF Tryd.prog po 17 [.agg [.int .i64 x.kind, .int .i64 x.n, v]] h = some (.inl v', h) ∧ ∃ r', v' = .agg r' ∧ VaA (id x) r' by
      obtain ⟨_, e, r', rfl, h2⟩ := key
      exact ⟨r', e, h2⟩
    have rest : ∀ (Q : RRun → Prop) (h0 : AH) (w4 w8 : AV) (z : Int), h0 = ((h.push [[.int .i64 x.kind, .int .i64 x.n, v]]).push [[.int .i64 0, .int .i64 0, .nils]]).push [[.int .i64 x.kind, .int .i64 z, .nils]] →
        z = (id x).n →
        (∀ V h' v v', (resR V h' [.cell true 3 2]).map oneA = some v → GrewA h h' → wkA v = some v' → (∃ r', v' = .agg r' ∧ VaA (id x) r') → Q (some (.ret, V, h'))) →
        Q (runR (runF Tryd.prog po) 9 (.lp rc_vOwn_b1 :: .ss [] :: .blk 0 :: [.ss [.ops [(.i .l (.load true 3 (.v 3))), (.i .n (.store 3 (.v 2) (.l 0)))], .ret]])
          [.agg [.int .i64 x.kind, .int .i64 x.n, v], .ptr h.n 0 0, .ptr (h.n + 1) 0 0, .ptr (h.n + 1 + 1) 0 0, w4, v, .int .i64 es.length, .int .i64 0, w8] [] h0) := by
      intro Q h0 w4 w8 z hh0 hz hQ
      subst hh0
      refine loop_Q (fun i V h' => ∃ w4 w8 acc rows, V = [.agg [.int .i64 x.kind, .int .i64 x.n, v], .ptr h.n 0 0, .ptr (h.n + 1) 0 0, .ptr (h.n + 1 + 1) 0 0, w4, v, .int .i64 es.length, .int .i64 (i : Nat), w8] ∧
        GrewA h h' ∧ h.n + 1 + 1 < h'.n ∧ h'.cell h.n = some [[.int .i64 x.kind, .int .i64 x.n, v]] ∧ h'.cell (h.n + 1) = some [[.int .i64 0, .int .i64 0, .nils]] ∧ h'.cell (h.n + 1 + 1) = some [[.int .i64 x.kind, .int .i64 z, acc]] ∧
        Acc h h' tV acc rows ∧ VaL ((x.l.take i).map id) rows) x.l.length ⟨_, _, _, [], rfl, (by repeat (first | exact GrewA.refl _ | refine GrewA.trans ?_ (GrewA.push _ _) | refine GrewA.trans ?_ (GrewA.fresh _ _))), by simp only [push_n]; omega, push3_0, push3_1, push3_same, acc_nil _ _ _, rfl⟩ ?_ ?_
      · rintro i V h' hi ⟨w4, w8, acc, rows, rfl, g, hm, c1, c2, c3, ha, hr⟩ next
        have hlt : (i : Int) < (es.length : Int) := by rw [hn]; omega
        obtain ⟨y, hy⟩ := at_get hi
        obtain ⟨q, i1, d1, x1⟩ := hix i y hy
        have hw := w64 (n := (i : Int) + 1) (by omega) (by omega)
        obtain ⟨q', e1, x2⟩ := ih y (by have := VD.lt_mem (at_mem hy); omega) (by have := VD.size_mem (at_mem hy); omega) q (h'.push [q]) x1
        obtain ⟨p1, p2⟩ := x1.one
        replace c1 := (push_lt (es := [q]) (show h.n < h'.n by omega)).trans c1
        replace c2 := (push_lt (es := [q]) (show h.n + 1 < h'.n by omega)).trans c2
        replace c3 := (push_lt (es := [q]) hm).trans c3
        obtain ⟨o1, o2⟩ := x2.one
        have hrl : rows.length ≤ 1000000 := by rw [hr.len, List.length_map, List.length_take]; omega
        obtain ⟨acc2, h2, e2, a1, a2, a3, a4⟩ := acc_app (show Acc h (h'.push [q]) tV acc rows from ha) (g.trans (GrewA.push _ _)) (row := q') o1 hrl
        simp only [push_ids] at e2
        have b1 : (h2.set (h.n + 1 + 1) (some [[.int .i64 x.kind, .int .i64 z, acc2]])).cell h.n = some [[.int .i64 x.kind, .int .i64 x.n, v]] := by rw [set_ne (by omega), a3]; exact c1
        have b2 : (h2.set (h.n + 1 + 1) (some [[.int .i64 x.kind, .int .i64 z, acc2]])).cell (h.n + 1) = some [[.int .i64 0, .int .i64 0, .nils]] := by rw [set_ne (by omega), a3]; exact c2
        have oA : acc2.one = true := by
          rcases a1 with ⟨_, rfl⟩ | ⟨id, _, _, _, _, rfl⟩ <;> rfl
        have cA : acc2.cells = [acc2] := by
          rcases a1 with ⟨_, rfl⟩ | ⟨id, _, _, _, _, rfl⟩ <;> rfl
        rw [r_lpb rc_vOwn_b1.eq_1]
        simp only [sim, List.length_cons, List.length_nil, Nat.reduceAdd, Nat.reduceSub, List.replicate, List.cons_append, List.nil_append, List.map_cons, List.map_nil, Option.bind_some, Option.map_some, Option.bind_none, Option.map_none, if_true, if_false, decide_true, decide_false, Bool.false_eq_true, Bool.true_eq_false, Bool.not_true, Bool.not_false, reduceCtorEq, Bool.and_true, Bool.true_and, Bool.and_false, Bool.false_and, Bool.or_true, Bool.true_or, Bool.or_false, Bool.false_or, true_and, and_true, false_and, and_false, List.take_zero, List.take_succ_cons, List.drop_zero, List.drop_succ_cons, List.take_nil, List.drop_nil, List.set_cons_zero, List.set_cons_succ, Nat.reduceLeDiff, Nat.reduceLT, Nat.zero_add, Nat.lt_add_one, Nat.le_refl, clearA, Int.toNat_natCast, c1, c2, c3, hsl.len, hsl.fits, hlt, i1, d1, e1, p1, p2, ld_all p2, o1, o2, e2, hsl.len, a3, oA, cA, hw]
        refine next _ _ ⟨_, _, _, _, rfl, a2.set (by omega), by rw [set_n, a4]; show _ < h'.n + 1; omega, b1, b2, set_same, a1, ?_⟩
        rw [take_get hy, List.map_append]
        exact hr.append x2
      · rintro V h' ⟨w4, w8, acc, rows, rfl, g, hm, c1, c2, c3, ha, hr⟩
        have hlt : ¬ ((x.l.length : Int) < (es.length : Int)) := by rw [hn]; omega
        rw [List.take_length] at hr
        have oA : acc.one = true := by
          rcases ha with ⟨_, rfl⟩ | ⟨id, _, _, _, _, rfl⟩ <;> rfl
        have hsl' : SlA tV acc rows := by
          rcases ha with ⟨q1, q2⟩ | ⟨id, _, _, _, _, q2⟩
          · exact .inl ⟨q1, q2⟩
          · exact .inr ⟨_, q2⟩
        have hx' : VaA (id x) [.int .i64 x.kind, .int .i64 z, acc] := by
          rw [hz]
          have := VaA.mk (x := id x) hsl' (by rw [id_l]; exact hr)
          rw [id_k] at this
          exact this
        obtain ⟨r', hw, hr'⟩ := va_wk hx'
        have hwA : wkA (.agg [.int .i64 x.kind, .int .i64 z, acc]) = some (.agg r') := by simp only [wkA, hw, Option.map_some]
        rw [r_lpb rc_vOwn_b1.eq_1]
        simp only [sim, List.length_cons, List.length_nil, Nat.reduceAdd, Nat.reduceSub, List.replicate, List.cons_append, List.nil_append, List.map_cons, List.map_nil, Option.bind_some, Option.map_some, Option.bind_none, Option.map_none, if_true, if_false, decide_true, decide_false, Bool.false_eq_true, Bool.true_eq_false, Bool.not_true, Bool.not_false, reduceCtorEq, Bool.and_true, Bool.true_and, Bool.and_false, Bool.false_and, Bool.or_true, Bool.true_or, Bool.or_false, Bool.false_or, true_and, and_true, false_and, and_false, List.take_zero, List.take_succ_cons, List.drop_zero, List.drop_succ_cons, List.take_nil, List.drop_nil, List.set_cons_zero, List.set_cons_succ, Nat.reduceLeDiff, Nat.reduceLT, Nat.zero_add, Nat.lt_add_one, Nat.le_refl, clearA, Int.toNat_natCast, c1, c2, c3, hsl.len, hsl.fits, hlt, oA]
        exact hQ _ _ _ _ (by simp only [sim, oA, List.all_cons, List.all_nil, List.length_cons, List.length_nil, Option.map_some, Option.bind_some, List.getD_cons_zero, List.getD_cons_succ, List.take_succ_cons, List.take_zero, List.drop_zero]) (g.set (by omega)) hwA ⟨r', rfl, hr'⟩
    refine runF_V fn_vOwn rfl fun Q hQ => ?_; unfold rc_vOwn
    simp only [sim, List.length_cons, List.length_nil, Nat.reduceAdd, Nat.reduceSub, List.replicate, List.cons_append, List.nil_append, List.map_cons, List.map_nil, Option.bind_some, Option.map_some, Option.bind_none, Option.map_none, if_true, if_false, decide_true, decide_false, Bool.false_eq_true, Bool.true_eq_false, Bool.not_true, Bool.not_false, reduceCtorEq, Bool.and_true, Bool.true_and, Bool.and_false, Bool.false_and, Bool.or_true, Bool.true_or, Bool.or_false, Bool.false_or, true_and, and_true, false_and, and_false, List.take_zero, List.take_succ_cons, List.drop_zero, List.drop_succ_cons, List.take_nil, List.drop_nil, List.set_cons_zero, List.set_cons_succ, Nat.reduceLeDiff, Nat.reduceLT, Nat.zero_add, Nat.lt_add_one, Nat.le_refl, clearA, Int.toNat_natCast, hv, hsl.len, hsl.fits]
    exact rest _ _ _ _ x.n rfl rfl hQ
def lstAcc (V : List AV) : AV := V.getD 2 .junk

set_option maxHeartbeats 1000000 in
theorem CapsOf_run : ∀ (N : Nat) (x : VD), SizeOf.sizeOf x ≤ N → x.size ≤ 100000 → ∀ (r : List AV) (h : AH), VaA x r →
    runF Tryd.prog po 20 [.agg r] h = some (.inl (lstA 3 (intsA x.caps)), h) := by
  intro N
  induction N with
  | zero => intro x hx; have := x.so_pos; omega
  | succ N ih =>
    intro x hx hsz r h he
    obtain ⟨v, es, rfl, hsl, hv, hn, hix⟩ := he.facts
    have hlen := x.len_size
    have hs := x.size_eq
    have rest : ∀ (Q : RRun → Prop) (h0 : AH) (acc0 : AV) (c0 : List Int) (v5 v6 : AV), Acc h h0 3 acc0 (intsA c0) → GrewA h h0 → h.n < h0.n → h0.cell h.n = some [[.int .i64 x.kind, .int .i64 x.n, v]] → c0.length ≤ 1 →
        (∀ V h', (resR V h' [.v 2]).map oneA = some (lstAcc V) → GrewA h h' → wkA (lstAcc V) = some (lstA 3 (intsA (c0 ++ capsVs x.l))) → Q (some (.ret, V, h'))) →
        Q (runR (runF Tryd.prog po) 7 (.lp rc_CapsOf_b1 :: .ss [] :: .blk 0 :: [.ss [.ops [(.i .l (.mv (.v 3))), (.i (.v 2) (.mv (.l 0)))], .ret]])
          [.agg [.int .i64 x.kind, .int .i64 x.n, v], .ptr h.n 0 0, .nils, acc0, .int .i64 0, v5, v6] [] h0) := by
      intro Q h0 acc0 c0 v5 v6 ha0 g0 hn0 k0 hc0 hQ
      refine loop_Q (fun i V h' => ∃ acc w6, V = [.agg [.int .i64 x.kind, .int .i64 x.n, v], .ptr h.n 0 0, .nils, acc, .int .i64 (i : Nat), v5, w6] ∧
        GrewA h h' ∧ h.n < h'.n ∧ h'.cell h.n = some [[.int .i64 x.kind, .int .i64 x.n, v]] ∧ Acc h h' 3 acc (intsA (c0 ++ capsVs (x.l.take i)))) x.l.length ⟨_, _, rfl, g0, hn0, k0, by simpa [capsVs] using ha0⟩ ?_ ?_
      · rintro i V h' hi ⟨acc, w6, rfl, g, hm, c1, ha⟩ next
        have hlt : (i : Int) < (es.length : Int) := by rw [hn]; omega
        obtain ⟨y, hy⟩ := at_get hi
        obtain ⟨q, i1, d1, x1⟩ := hix i y hy
        obtain ⟨o1, o2⟩ := x1.one
        have hw := w64 (n := (i : Int) + 1) (by omega) (by omega)
        have e1 := ih y (by have := VD.lt_mem (at_mem hy); omega) (by have := VD.size_mem (at_mem hy); omega) q h' x1
        have cf := capsVs_few (x.l.take i)
        have sl := sizesV_le x.l i
        have cy := y.caps_few
        have sy := VD.size_mem (at_mem hy)
        obtain ⟨acc2, h2, e2, a1, a2, a3, a4⟩ := acc_apps (h := h') ha g (lst_app 3 (intsA y.caps)) (ints_one _) (by simp only [List.length_map, List.length_append]; omega) (by simp only [List.length_map]; omega)
        have a1' : Acc h h2 3 acc2 (intsA (c0 ++ capsVs (x.l.take (i + 1)))) := by
          rw [take_get hy, capsVs_append, ← List.append_assoc]
          simpa [capsVs] using a1
        rw [r_lpb rc_CapsOf_b1.eq_1]
        simp only [sim, List.length_cons, List.length_nil, Nat.reduceAdd, Nat.reduceSub, List.replicate, List.cons_append, List.nil_append, List.map_cons, List.map_nil, Option.bind_some, Option.map_some, Option.bind_none, Option.map_none, if_true, if_false, decide_true, decide_false, Bool.false_eq_true, Bool.true_eq_false, Bool.not_true, Bool.not_false, reduceCtorEq, Bool.and_true, Bool.true_and, Bool.and_false, Bool.false_and, Bool.or_true, Bool.true_or, Bool.or_false, Bool.false_or, true_and, and_true, false_and, and_false, List.take_zero, List.take_succ_cons, List.drop_zero, List.drop_succ_cons, List.take_nil, List.drop_nil, List.set_cons_zero, List.set_cons_succ, Nat.reduceLeDiff, Nat.reduceLT, Nat.zero_add, Nat.lt_add_one, Nat.le_refl, clearA, Int.toNat_natCast, c1, hsl.len, hsl.fits, hlt, i1, d1, o1, o2, ld_all o2, e1, e2, hw]
        exact next _ _ ⟨_, _, rfl, a2, by rw [a4]; exact hm, by rw [a3]; exact c1, a1'⟩
      · rintro V h' ⟨acc, w6, rfl, g, hm, c1, ha⟩
        have hlt : ¬ ((x.l.length : Int) < (es.length : Int)) := by rw [hn]; omega
        rw [List.take_length] at ha
        have hwA := acc_wk ha (fun r hr => by obtain ⟨n, _, rfl⟩ := List.mem_map.1 hr; rfl)
        rw [r_lpb rc_CapsOf_b1.eq_1]
        simp only [sim, List.length_cons, List.length_nil, Nat.reduceAdd, Nat.reduceSub, List.replicate, List.cons_append, List.nil_append, List.map_cons, List.map_nil, Option.bind_some, Option.map_some, Option.bind_none, Option.map_none, if_true, if_false, decide_true, decide_false, Bool.false_eq_true, Bool.true_eq_false, Bool.not_true, Bool.not_false, reduceCtorEq, Bool.and_true, Bool.true_and, Bool.and_false, Bool.false_and, Bool.or_true, Bool.true_or, Bool.or_false, Bool.false_or, true_and, and_true, false_and, and_false, List.take_zero, List.take_succ_cons, List.drop_zero, List.drop_succ_cons, List.take_nil, List.drop_nil, List.set_cons_zero, List.set_cons_succ, Nat.reduceLeDiff, Nat.reduceLT, Nat.zero_add, Nat.lt_add_one, Nat.le_refl, clearA, Int.toNat_natCast, c1, hsl.len, hsl.fits, hlt]
        exact hQ _ _ rfl g hwA
    rw [x.caps_eq]
    refine runF_E fn_CapsOf rfl fun Q hQ => ?_; unfold rc_CapsOf
    by_cases h4 : x.kind = 4
    · rw [h4] at rest
      have L := rest
      have a1 : Acc h ((h.push [[.int .i64 4, .int .i64 x.n, v]]).fresh 1) 3 (.isl (some h.ids) 3 [[.int .i64 x.n]]) (intsA [x.n]) := .inr ⟨h.ids, by simp, Nat.le_refl _, by simp [AH.fresh, AH.push], by simp [AH.fresh, AH.push], rfl⟩
      have a2 : GrewA h ((h.push [[.int .i64 4, .int .i64 x.n, v]]).fresh 1) := (by repeat (first | exact GrewA.refl _ | refine GrewA.trans ?_ (GrewA.push _ _) | refine GrewA.trans ?_ (GrewA.fresh _ _)))
      have a3 : ((h.push [[.int .i64 4, .int .i64 x.n, v]]).fresh 1).cell = (h.push [[.int .i64 4, .int .i64 x.n, v]]).cell := rfl
      have a4 : ((h.push [[.int .i64 4, .int .i64 x.n, v]]).fresh 1).n = (h.push [[.int .i64 4, .int .i64 x.n, v]]).n := rfl
      have e1 : True := trivial
      simp only [sim, List.length_cons, List.length_nil, Nat.reduceAdd, Nat.reduceSub, List.replicate, List.cons_append, List.nil_append, List.map_cons, List.map_nil, Option.bind_some, Option.map_some, Option.bind_none, Option.map_none, if_true, if_false, decide_true, decide_false, Bool.false_eq_true, Bool.true_eq_false, Bool.not_true, Bool.not_false, reduceCtorEq, Bool.and_true, Bool.true_and, Bool.and_false, Bool.false_and, Bool.or_true, Bool.true_or, Bool.or_false, Bool.false_or, true_and, and_true, false_and, and_false, List.take_zero, List.take_succ_cons, List.drop_zero, List.drop_succ_cons, List.take_nil, List.drop_nil, List.set_cons_zero, List.set_cons_succ, Nat.reduceLeDiff, Nat.reduceLT, Nat.zero_add, Nat.lt_add_one, Nat.le_refl, clearA, Int.toNat_natCast, hv, h4, hsl.len, hsl.fits, e1, a3]
      refine L _ _ _ [x.n] _ _ a1 a2 (by rw [a4]; simp only [push_n, fresh_n]; omega) (by rw [a3]; exact push_same) (by simp) fun V h' e g w => hQ _ _ _ e g ?_
      rw [w]
      simp [h4]
    · simp only [sim, List.length_cons, List.length_nil, Nat.reduceAdd, Nat.reduceSub, List.replicate, List.cons_append, List.nil_append, List.map_cons, List.map_nil, Option.bind_some, Option.map_some, Option.bind_none, Option.map_none, if_true, if_false, decide_true, decide_false, Bool.false_eq_true, Bool.true_eq_false, Bool.not_true, Bool.not_false, reduceCtorEq, Bool.and_true, Bool.true_and, Bool.and_false, Bool.false_and, Bool.or_true, Bool.true_or, Bool.or_false, Bool.false_or, true_and, and_true, false_and, and_false, List.take_zero, List.take_succ_cons, List.drop_zero, List.drop_succ_cons, List.take_nil, List.drop_nil, List.set_cons_zero, List.set_cons_succ, Nat.reduceLeDiff, Nat.reduceLT, Nat.zero_add, Nat.lt_add_one, Nat.le_refl, clearA, Int.toNat_natCast, hv, h4, hsl.len, hsl.fits]
      refine rest _ _ _ [] _ _ (acc_nil _ _ _) (by repeat (first | exact GrewA.refl _ | refine GrewA.trans ?_ (GrewA.push _ _) | refine GrewA.trans ?_ (GrewA.fresh _ _))) (by simp only [push_n]; omega) push_same (by simp) fun V h' e g w => hQ _ _ _ e g ?_
      rw [w]
      simp [h4]

set_option maxHeartbeats 1000000 in
theorem vCaps_run : ∀ (N : Nat) (x : VD), SizeOf.sizeOf x ≤ N → x.size ≤ 100000 → ∀ (r : List AV) (h : AH), VaA x r →
    runF Tryd.prog po 19 [.agg r] h = some (.inl (lstA 3 (intsA x.caps)), h) := by
  intro N
  induction N with
  | zero => intro x hx; have := x.so_pos; omega
  | succ N ih =>
    intro x hx hsz r h he
    obtain ⟨v, es, rfl, hsl, hv, hn, hix⟩ := he.facts
    have hlen := x.len_size
    have hs := x.size_eq
    have rest : ∀ (Q : RRun → Prop) (h0 : AH) (acc0 : AV) (c0 : List Int) (v5 : AV), Acc h h0 3 acc0 (intsA c0) → GrewA h h0 → h.n < h0.n → h0.cell h.n = some [[.int .i64 x.kind, .int .i64 x.n, v]] → c0.length ≤ 1 →
        (∀ V h', (resR V h' [.v 2]).map oneA = some (lstAcc V) → GrewA h h' → wkA (lstAcc V) = some (lstA 3 (intsA (c0 ++ capsVs x.l))) → Q (some (.ret, V, h'))) →
        Q (runR (runF Tryd.prog po) 10 (.lp rc_vCaps_b1 :: .ss [] :: .blk 0 :: [.ss [.ops [(.i .l (.mv (.v 3))), (.i (.v 2) (.mv (.l 0)))], .ret]])
          [.agg [.int .i64 x.kind, .int .i64 x.n, v], .ptr h.n 0 0, .nils, acc0, .junk, v5, v, .int .i64 es.length, .int .i64 0, .junk] [] h0) := by
      intro Q h0 acc0 c0 v5 ha0 g0 hn0 k0 hc0 hQ
      refine loop_Q (fun i V h' => ∃ acc w4 w9, V = [.agg [.int .i64 x.kind, .int .i64 x.n, v], .ptr h.n 0 0, .nils, acc, w4, v5, v, .int .i64 es.length, .int .i64 (i : Nat), w9] ∧
        GrewA h h' ∧ h.n < h'.n ∧ h'.cell h.n = some [[.int .i64 x.kind, .int .i64 x.n, v]] ∧ Acc h h' 3 acc (intsA (c0 ++ capsVs (x.l.take i)))) x.l.length ⟨_, _, _, rfl, g0, hn0, k0, by simpa [capsVs] using ha0⟩ ?_ ?_
      · rintro i V h' hi ⟨acc, w4, w9, rfl, g, hm, c1, ha⟩ next
        have hlt : (i : Int) < (es.length : Int) := by rw [hn]; omega
        obtain ⟨y, hy⟩ := at_get hi
        obtain ⟨q, i1, d1, x1⟩ := hix i y hy
        obtain ⟨o1, o2⟩ := x1.one
        have hw := w64 (n := (i : Int) + 1) (by omega) (by omega)
        have e1 := ih y (by have := VD.lt_mem (at_mem hy); omega) (by have := VD.size_mem (at_mem hy); omega) q (h'.push [q]) x1
        have cf := capsVs_few (x.l.take i)
        have sl := sizesV_le x.l i
        have cy := y.caps_few
        have sy := VD.size_mem (at_mem hy)
        obtain ⟨acc2, h2, e2, a1, a2, a3, a4⟩ := acc_apps (h := (h'.push [q])) (show Acc h (h'.push [q]) _ acc _ from ha) (g.trans (GrewA.push _ _)) (lst_app 3 (intsA y.caps)) (ints_one _) (by simp only [List.length_map, List.length_append]; omega) (by simp only [List.length_map]; omega)
        have a1' : Acc h h2 3 acc2 (intsA (c0 ++ capsVs (x.l.take (i + 1)))) := by
          rw [take_get hy, capsVs_append, ← List.append_assoc]
          simpa [capsVs] using a1
        rw [r_lpb rc_vCaps_b1.eq_1]
        simp only [sim, List.length_cons, List.length_nil, Nat.reduceAdd, Nat.reduceSub, List.replicate, List.cons_append, List.nil_append, List.map_cons, List.map_nil, Option.bind_some, Option.map_some, Option.bind_none, Option.map_none, if_true, if_false, decide_true, decide_false, Bool.false_eq_true, Bool.true_eq_false, Bool.not_true, Bool.not_false, reduceCtorEq, Bool.and_true, Bool.true_and, Bool.and_false, Bool.false_and, Bool.or_true, Bool.true_or, Bool.or_false, Bool.false_or, true_and, and_true, false_and, and_false, List.take_zero, List.take_succ_cons, List.drop_zero, List.drop_succ_cons, List.take_nil, List.drop_nil, List.set_cons_zero, List.set_cons_succ, Nat.reduceLeDiff, Nat.reduceLT, Nat.zero_add, Nat.lt_add_one, Nat.le_refl, clearA, Int.toNat_natCast, c1, hsl.len, hsl.fits, hlt, i1, d1, o1, o2, ld_all o2, e1, e2, hw]
        exact next _ _ ⟨_, _, _, rfl, a2, by rw [a4]; (show _ < h'.n + 1; omega), by rw [a3]; (exact (push_lt hm).trans c1), a1'⟩
      · rintro V h' ⟨acc, w4, w9, rfl, g, hm, c1, ha⟩
        have hlt : ¬ ((x.l.length : Int) < (es.length : Int)) := by rw [hn]; omega
        rw [List.take_length] at ha
        have hwA := acc_wk ha (fun r hr => by obtain ⟨n, _, rfl⟩ := List.mem_map.1 hr; rfl)
        rw [r_lpb rc_vCaps_b1.eq_1]
        simp only [sim, List.length_cons, List.length_nil, Nat.reduceAdd, Nat.reduceSub, List.replicate, List.cons_append, List.nil_append, List.map_cons, List.map_nil, Option.bind_some, Option.map_some, Option.bind_none, Option.map_none, if_true, if_false, decide_true, decide_false, Bool.false_eq_true, Bool.true_eq_false, Bool.not_true, Bool.not_false, reduceCtorEq, Bool.and_true, Bool.true_and, Bool.and_false, Bool.false_and, Bool.or_true, Bool.true_or, Bool.or_false, Bool.false_or, true_and, and_true, false_and, and_false, List.take_zero, List.take_succ_cons, List.drop_zero, List.drop_succ_cons, List.take_nil, List.drop_nil, List.set_cons_zero, List.set_cons_succ, Nat.reduceLeDiff, Nat.reduceLT, Nat.zero_add, Nat.lt_add_one, Nat.le_refl, clearA, Int.toNat_natCast, c1, hsl.len, hsl.fits, hlt]
        exact hQ _ _ rfl g hwA
    rw [x.caps_eq]
    refine runF_E fn_vCaps rfl fun Q hQ => ?_; unfold rc_vCaps
    by_cases h4 : x.kind = 4
    · rw [h4] at rest
      have L := rest
      obtain ⟨acc1, h1, e1, a1, a2, a3, a4⟩ := acc_app (h0 := h) (h := h.push [[.int .i64 4, .int .i64 x.n, v]]) (acc_nil h _ 3) (by repeat (first | exact GrewA.refl _ | refine GrewA.trans ?_ (GrewA.push _ _) | refine GrewA.trans ?_ (GrewA.fresh _ _))) (row := [.int .i64 x.n]) rfl (by simp)
      simp only [push_ids] at e1
      simp only [sim, List.length_cons, List.length_nil, Nat.reduceAdd, Nat.reduceSub, List.replicate, List.cons_append, List.nil_append, List.map_cons, List.map_nil, Option.bind_some, Option.map_some, Option.bind_none, Option.map_none, if_true, if_false, decide_true, decide_false, Bool.false_eq_true, Bool.true_eq_false, Bool.not_true, Bool.not_false, reduceCtorEq, Bool.and_true, Bool.true_and, Bool.and_false, Bool.false_and, Bool.or_true, Bool.true_or, Bool.or_false, Bool.false_or, true_and, and_true, false_and, and_false, List.take_zero, List.take_succ_cons, List.drop_zero, List.drop_succ_cons, List.take_nil, List.drop_nil, List.set_cons_zero, List.set_cons_succ, Nat.reduceLeDiff, Nat.reduceLT, Nat.zero_add, Nat.lt_add_one, Nat.le_refl, clearA, Int.toNat_natCast, hv, h4, hsl.len, hsl.fits, e1, a3]
      refine L _ _ _ [x.n] _ a1 a2 (by rw [a4]; simp only [push_n]; omega) (by rw [a3]; exact push_same) (by simp) fun V h' e g w => hQ _ _ _ e g ?_
      rw [w]
      simp [h4]
    · simp only [sim, List.length_cons, List.length_nil, Nat.reduceAdd, Nat.reduceSub, List.replicate, List.cons_append, List.nil_append, List.map_cons, List.map_nil, Option.bind_some, Option.map_some, Option.bind_none, Option.map_none, if_true, if_false, decide_true, decide_false, Bool.false_eq_true, Bool.true_eq_false, Bool.not_true, Bool.not_false, reduceCtorEq, Bool.and_true, Bool.true_and, Bool.and_false, Bool.false_and, Bool.or_true, Bool.true_or, Bool.or_false, Bool.false_or, true_and, and_true, false_and, and_false, List.take_zero, List.take_succ_cons, List.drop_zero, List.drop_succ_cons, List.take_nil, List.drop_nil, List.set_cons_zero, List.set_cons_succ, Nat.reduceLeDiff, Nat.reduceLT, Nat.zero_add, Nat.lt_add_one, Nat.le_refl, clearA, Int.toNat_natCast, hv, h4, hsl.len, hsl.fits]
      refine rest _ _ _ [] _ (acc_nil _ _ _) (by repeat (first | exact GrewA.refl _ | refine GrewA.trans ?_ (GrewA.push _ _) | refine GrewA.trans ?_ (GrewA.fresh _ _))) (by simp only [push_n]; omega) push_same (by simp) fun V h' e g w => hQ _ _ _ e g ?_
      rw [w]
      simp [h4]

theorem gatesVs_drop {l : List VD} {i : Nat} {y : VD} (h : l[i]? = some y) : gatesVs (l.drop i) = (y.gate || gatesVs (l.drop (i + 1))) := by
  obtain ⟨hi, rfl⟩ := List.getElem?_eq_some_iff.1 h
  rw [List.drop_eq_getElem_cons hi]
  rfl
theorem GateIn_run : ∀ (N : Nat) (x : VD), SizeOf.sizeOf x ≤ N → x.size ≤ 100000 → ∀ (r : List AV) (h : AH), VaA x r →
    runF Tryd.prog po 22 [.agg r] h = some (.inl (.bool x.gate), h) := by
  intro N
  induction N with
  | zero => intro x hx; have := x.so_pos; omega
  | succ N ih =>
    intro x hx hsz r h he
    obtain ⟨v, es, rfl, hsl, hv, hn, hix⟩ := he.facts
    have hlen := x.len_size
    rw [x.gate_eq]
    refine runF_E fn_GateIn rfl fun Q hQ => ?_; unfold rc_GateIn
    simp only [sim, List.length_cons, List.length_nil, Nat.reduceAdd, Nat.reduceSub, List.replicate, List.cons_append, List.nil_append, List.map_cons, List.map_nil, Option.bind_some, Option.map_some, Option.bind_none, Option.map_none, if_true, if_false, decide_true, decide_false, Bool.false_eq_true, Bool.true_eq_false, Bool.not_true, Bool.not_false, reduceCtorEq, Bool.and_true, Bool.true_and, Bool.and_false, Bool.false_and, Bool.or_true, Bool.true_or, Bool.or_false, Bool.false_or, true_and, and_true, false_and, and_false, List.take_zero, List.take_succ_cons, List.drop_zero, List.drop_succ_cons, List.take_nil, List.drop_nil, List.set_cons_zero, List.set_cons_succ, Nat.reduceLeDiff, Nat.reduceLT, Nat.zero_add, Nat.lt_add_one, Nat.le_refl, clearA, Int.toNat_natCast, hv]
    refine loop_Q (fun i V h' => ∃ v4 v5, V = [.agg [.int .i64 x.kind, .int .i64 x.n, v], .ptr h.n 0 0, .bool false, .int .i64 (i : Nat), v4, v5] ∧ h' = h.push [[.int .i64 x.kind, .int .i64 x.n, v]] ∧ gatesVs (x.l.drop i) = gatesVs x.l) x.l.length ⟨_, _, rfl, rfl, rfl⟩ ?_ ?_
    · rintro i V h' hi ⟨v4, v5, rfl, rfl, hc⟩ next
      have hlt : (i : Int) < (es.length : Int) := by rw [hn]; omega
      obtain ⟨y, hy⟩ := at_get hi
      obtain ⟨q, i1, d1, x1⟩ := hix i y hy
      have hw := w64 (n := (i : Int) + 1) (by omega) (by omega)
      have e1 := ih y (by have := VD.lt_mem (at_mem hy); omega) (by have := VD.size_mem (at_mem hy); omega) q (h.push [[.int .i64 x.kind, .int .i64 x.n, v]]) x1
      rw [gatesVs_drop hy] at hc
      cases hb : y.gate
      · rw [hb] at e1 hc
        rw [Bool.false_or] at hc
        rw [r_lpb rc_GateIn_b1.eq_1]
        simp only [sim, List.length_cons, List.length_nil, Nat.reduceAdd, Nat.reduceSub, List.replicate, List.cons_append, List.nil_append, List.map_cons, List.map_nil, Option.bind_some, Option.map_some, Option.bind_none, Option.map_none, if_true, if_false, decide_true, decide_false, Bool.false_eq_true, Bool.true_eq_false, Bool.not_true, Bool.not_false, reduceCtorEq, Bool.and_true, Bool.true_and, Bool.and_false, Bool.false_and, Bool.or_true, Bool.true_or, Bool.or_false, Bool.false_or, true_and, and_true, false_and, and_false, List.take_zero, List.take_succ_cons, List.drop_zero, List.drop_succ_cons, List.take_nil, List.drop_nil, List.set_cons_zero, List.set_cons_succ, Nat.reduceLeDiff, Nat.reduceLT, Nat.zero_add, Nat.lt_add_one, Nat.le_refl, clearA, Int.toNat_natCast, hsl.len, hsl.fits, hlt, i1, d1, e1, hw]
        exact next _ _ ⟨_, _, rfl, rfl, hc⟩
      · rw [hb] at e1 hc
        rw [Bool.true_or] at hc
        rw [r_lpb rc_GateIn_b1.eq_1]
        simp only [sim, List.length_cons, List.length_nil, Nat.reduceAdd, Nat.reduceSub, List.replicate, List.cons_append, List.nil_append, List.map_cons, List.map_nil, Option.bind_some, Option.map_some, Option.bind_none, Option.map_none, if_true, if_false, decide_true, decide_false, Bool.false_eq_true, Bool.true_eq_false, Bool.not_true, Bool.not_false, reduceCtorEq, Bool.and_true, Bool.true_and, Bool.and_false, Bool.false_and, Bool.or_true, Bool.true_or, Bool.or_false, Bool.false_or, true_and, and_true, false_and, and_false, List.take_zero, List.take_succ_cons, List.drop_zero, List.drop_succ_cons, List.take_nil, List.drop_nil, List.set_cons_zero, List.set_cons_succ, Nat.reduceLeDiff, Nat.reduceLT, Nat.zero_add, Nat.lt_add_one, Nat.le_refl, clearA, Int.toNat_natCast, hsl.len, hsl.fits, hlt, i1, d1, e1]
        exact hQ _ _ _ rfl (by repeat (first | exact GrewA.refl _ | refine GrewA.trans ?_ (GrewA.push _ _) | refine GrewA.trans ?_ (GrewA.fresh _ _))) (by rw [← hc, Bool.or_true]; rfl)
    · rintro V h' ⟨v4, v5, rfl, rfl, hc⟩
      have hlt : ¬ ((x.l.length : Int) < (es.length : Int)) := by rw [hn]; omega
      rw [List.drop_length] at hc
      rw [r_lpb rc_GateIn_b1.eq_1]
      simp only [sim, List.length_cons, List.length_nil, Nat.reduceAdd, Nat.reduceSub, List.replicate, List.cons_append, List.nil_append, List.map_cons, List.map_nil, Option.bind_some, Option.map_some, Option.bind_none, Option.map_none, if_true, if_false, decide_true, decide_false, Bool.false_eq_true, Bool.true_eq_false, Bool.not_true, Bool.not_false, reduceCtorEq, Bool.and_true, Bool.true_and, Bool.and_false, Bool.false_and, Bool.or_true, Bool.true_or, Bool.or_false, Bool.false_or, true_and, and_true, false_and, and_false, List.take_zero, List.take_succ_cons, List.drop_zero, List.drop_succ_cons, List.take_nil, List.drop_nil, List.set_cons_zero, List.set_cons_succ, Nat.reduceLeDiff, Nat.reduceLT, Nat.zero_add, Nat.lt_add_one, Nat.le_refl, clearA, Int.toNat_natCast, hsl.len, hsl.fits, hlt]
      exact hQ _ _ _ rfl (by repeat (first | exact GrewA.refl _ | refine GrewA.trans ?_ (GrewA.push _ _) | refine GrewA.trans ?_ (GrewA.fresh _ _))) (by rw [← hc]; show _ = some (AV.bool (decide _ || false)); rw [Bool.or_false]; rfl)
theorem indexV_run (v : AV) (l : List VD) (hv : ∀ h, ValV h v l) (hl : l.length ≤ 100000) (g : FuncId) (p : VD → Bool) (hf : ∀ y ∈ l, ∀ q h, VaA y q → runF Tryd.prog po g [.agg q] h = some (.inl (.bool (p y)), h)) :
    ∃ n : Int, runF Tryd.prog po 60 [v, .fn g [] []] h = some (.inl (.int .i64 n), h) ∧ decide (0 ≤ n) = l.any p := by
  suffices key : ∃ v', runF Tryd.prog po 60 [v, .fn g [] []] h = some (.inl v', h) ∧ ∃ n : Int, v' = .int .i64 n ∧ decide (0 ≤ n) = l.any p by
    obtain ⟨_, e, n, rfl, h2⟩ := key
    exact ⟨n, e, h2⟩
  have vl := (hv h).len
  have vf := (hv h).fits
  refine runF_V fn_indexV rfl fun Q hQ => ?_; unfold rc_indexV
  simp only [sim, List.length_cons, List.length_nil, Nat.reduceAdd, Nat.reduceSub, List.replicate, List.cons_append, List.nil_append, List.map_cons, List.map_nil, Option.bind_some, Option.map_some, Option.bind_none, Option.map_none, if_true, if_false, decide_true, decide_false, Bool.false_eq_true, Bool.true_eq_false, Bool.not_true, Bool.not_false, reduceCtorEq, Bool.and_true, Bool.true_and, Bool.and_false, Bool.false_and, Bool.or_true, Bool.true_or, Bool.or_false, Bool.false_or, true_and, and_true, false_and, and_false, List.take_zero, List.take_succ_cons, List.drop_zero, List.drop_succ_cons, List.take_nil, List.drop_nil, List.set_cons_zero, List.set_cons_succ, Nat.reduceLeDiff, Nat.reduceLT, Nat.zero_add, Nat.lt_add_one, Nat.le_refl, clearA, Int.toNat_natCast, vl, vf]
  refine loop_Q (fun i V h' => ∃ v2 v3 v6 v7, V = [v, .fn g [] [], v2, v3, .int .i64 l.length, .int .i64 (i : Nat), v6, v7] ∧ GrewA h h' ∧ (l.drop i).any p = l.any p) l.length ⟨_, _, _, _, rfl, GrewA.refl _, rfl⟩ ?_ ?_
  · rintro i V h' hi ⟨v2, v3, v6, v7, rfl, g, hc⟩ next
    have hlt : (i : Int) < (l.length : Int) := by omega
    obtain ⟨y, hy⟩ := at_get hi
    obtain ⟨a, q, i1, i2, x1⟩ := (hv h').ix i y hy
    have hw := w64 (n := (i : Int) + 1) (by omega) (by omega)
    have e1 := hf y (at_mem hy) q h' x1
    have hd : (l.drop i).any p = (p y || (l.drop (i + 1)).any p) := by
      obtain ⟨hi', rfl⟩ := List.getElem?_eq_some_iff.1 hy
      rw [List.drop_eq_getElem_cons hi', List.any_cons]
    rw [hd] at hc
    cases hb : p y
    · rw [hb] at e1 hc
      rw [Bool.false_or] at hc
      rw [r_lpb rc_indexV_b1.eq_1]
      simp only [sim, List.length_cons, List.length_nil, Nat.reduceAdd, Nat.reduceSub, List.replicate, List.cons_append, List.nil_append, List.map_cons, List.map_nil, Option.bind_some, Option.map_some, Option.bind_none, Option.map_none, if_true, if_false, decide_true, decide_false, Bool.false_eq_true, Bool.true_eq_false, Bool.not_true, Bool.not_false, reduceCtorEq, Bool.and_true, Bool.true_and, Bool.and_false, Bool.false_and, Bool.or_true, Bool.true_or, Bool.or_false, Bool.false_or, true_and, and_true, false_and, and_false, List.take_zero, List.take_succ_cons, List.drop_zero, List.drop_succ_cons, List.take_nil, List.drop_nil, List.set_cons_zero, List.set_cons_succ, Nat.reduceLeDiff, Nat.reduceLT, Nat.zero_add, Nat.lt_add_one, Nat.le_refl, clearA, Int.toNat_natCast, calls, List.append_nil, hlt, i1, i2 _ (GrewA.refl h'), e1, hw]
      exact next _ _ ⟨_, _, _, _, rfl, g, hc⟩
    · rw [hb] at e1 hc
      rw [Bool.true_or] at hc
      rw [r_lpb rc_indexV_b1.eq_1]
      simp only [sim, List.length_cons, List.length_nil, Nat.reduceAdd, Nat.reduceSub, List.replicate, List.cons_append, List.nil_append, List.map_cons, List.map_nil, Option.bind_some, Option.map_some, Option.bind_none, Option.map_none, if_true, if_false, decide_true, decide_false, Bool.false_eq_true, Bool.true_eq_false, Bool.not_true, Bool.not_false, reduceCtorEq, Bool.and_true, Bool.true_and, Bool.and_false, Bool.false_and, Bool.or_true, Bool.true_or, Bool.or_false, Bool.false_or, true_and, and_true, false_and, and_false, List.take_zero, List.take_succ_cons, List.drop_zero, List.drop_succ_cons, List.take_nil, List.drop_nil, List.set_cons_zero, List.set_cons_succ, Nat.reduceLeDiff, Nat.reduceLT, Nat.zero_add, Nat.lt_add_one, Nat.le_refl, clearA, Int.toNat_natCast, calls, List.append_nil, hlt, i1, i2 _ (GrewA.refl h'), e1]
      exact hQ _ _ _ _ rfl g rfl ⟨i, rfl, by rw [← hc]; simp⟩
  · rintro V h' ⟨v2, v3, v6, v7, rfl, g, hc⟩
    have hlt : ¬ ((l.length : Int) < (l.length : Int)) := by omega
    rw [List.drop_length] at hc
    rw [r_lpb rc_indexV_b1.eq_1]
    simp only [sim, List.length_cons, List.length_nil, Nat.reduceAdd, Nat.reduceSub, List.replicate, List.cons_append, List.nil_append, List.map_cons, List.map_nil, Option.bind_some, Option.map_some, Option.bind_none, Option.map_none, if_true, if_false, decide_true, decide_false, Bool.false_eq_true, Bool.true_eq_false, Bool.not_true, Bool.not_false, reduceCtorEq, Bool.and_true, Bool.true_and, Bool.and_false, Bool.false_and, Bool.or_true, Bool.true_or, Bool.or_false, Bool.false_or, true_and, and_true, false_and, and_false, List.take_zero, List.take_succ_cons, List.drop_zero, List.drop_succ_cons, List.take_nil, List.drop_nil, List.set_cons_zero, List.set_cons_succ, Nat.reduceLeDiff, Nat.reduceLT, Nat.zero_add, Nat.lt_add_one, Nat.le_refl, clearA, Int.toNat_natCast, hlt]
    exact hQ _ _ _ _ rfl g rfl ⟨-1, rfl, by rw [← hc]; rfl⟩
theorem vGates_run : ∀ (N : Nat) (x : VD), SizeOf.sizeOf x ≤ N → x.size ≤ 100000 → ∀ (r : List AV) (h : AH), VaA x r →
    runF Tryd.prog po 21 [.agg r] h = some (.inl (.bool x.gate), h) := by
  intro N
  induction N with
  | zero => intro x hx; have := x.so_pos; omega
  | succ N ih =>
    intro x hx hsz r h he
    obtain ⟨v, es, rfl, hs, hl⟩ := he.row
    have mv : ∀ h, ValV h v x.l := fun h => ValV.of hs hl
    have hlen := x.len_size
    have o1 := (mv h).one
    have e1 : ∀ h, runF Tryd.prog po 40 [v, .fn 21 [] []] h = some (.inl (.bool (gatesVs x.l)), h) := by
      intro h
      obtain ⟨n, e0, e2⟩ := indexV_run (h := h) v x.l mv (by omega) 21 VD.gate (fun y hy q h hq => ih y (by have := VD.lt_mem hy; omega) (by have := VD.size_mem hy; omega) q h hq)
      rw [gatesVs_any, ← e2]
      refine runF_E fn_containsV rfl fun Q hQ => ?_; unfold rc_containsV
      simp only [sim, List.length_cons, List.length_nil, Nat.reduceAdd, Nat.reduceSub, List.replicate, List.cons_append, List.nil_append, List.map_cons, List.map_nil, Option.bind_some, Option.map_some, Option.bind_none, Option.map_none, if_true, if_false, decide_true, decide_false, Bool.false_eq_true, Bool.true_eq_false, Bool.not_true, Bool.not_false, reduceCtorEq, Bool.and_true, Bool.true_and, Bool.and_false, Bool.false_and, Bool.or_true, Bool.true_or, Bool.or_false, Bool.false_or, true_and, and_true, false_and, and_false, List.take_zero, List.take_succ_cons, List.drop_zero, List.drop_succ_cons, List.take_nil, List.drop_nil, List.set_cons_zero, List.set_cons_succ, Nat.reduceLeDiff, Nat.reduceLT, Nat.zero_add, Nat.lt_add_one, Nat.le_refl, clearA, Int.toNat_natCast, e0]
      exact hQ _ _ _ rfl (by repeat (first | exact GrewA.refl _ | refine GrewA.trans ?_ (GrewA.push _ _) | refine GrewA.trans ?_ (GrewA.fresh _ _))) rfl
    rw [x.gate_eq]
    refine runF_E fn_vGates rfl fun Q hQ => ?_; unfold rc_vGates
    cases hk : decide (x.kind = 5)
    · simp only [sim, List.length_cons, List.length_nil, Nat.reduceAdd, Nat.reduceSub, List.replicate, List.cons_append, List.nil_append, List.map_cons, List.map_nil, Option.bind_some, Option.map_some, Option.bind_none, Option.map_none, if_true, if_false, decide_true, decide_false, Bool.false_eq_true, Bool.true_eq_false, Bool.not_true, Bool.not_false, reduceCtorEq, Bool.and_true, Bool.true_and, Bool.and_false, Bool.false_and, Bool.or_true, Bool.true_or, Bool.or_false, Bool.false_or, true_and, and_true, false_and, and_false, List.take_zero, List.take_succ_cons, List.drop_zero, List.drop_succ_cons, List.take_nil, List.drop_nil, List.set_cons_zero, List.set_cons_succ, Nat.reduceLeDiff, Nat.reduceLT, Nat.zero_add, Nat.lt_add_one, Nat.le_refl, clearA, Int.toNat_natCast, o1, hk, e1]
      exact hQ _ _ _ rfl (by repeat (first | exact GrewA.refl _ | refine GrewA.trans ?_ (GrewA.push _ _) | refine GrewA.trans ?_ (GrewA.fresh _ _))) (by rw [hk]; rfl)
    · simp only [sim, List.length_cons, List.length_nil, Nat.reduceAdd, Nat.reduceSub, List.replicate, List.cons_append, List.nil_append, List.map_cons, List.map_nil, Option.bind_some, Option.map_some, Option.bind_none, Option.map_none, if_true, if_false, decide_true, decide_false, Bool.false_eq_true, Bool.true_eq_false, Bool.not_true, Bool.not_false, reduceCtorEq, Bool.and_true, Bool.true_and, Bool.and_false, Bool.false_and, Bool.or_true, Bool.true_or, Bool.or_false, Bool.false_or, true_and, and_true, false_and, and_false, List.take_zero, List.take_succ_cons, List.drop_zero, List.drop_succ_cons, List.take_nil, List.drop_nil, List.set_cons_zero, List.set_cons_succ, Nat.reduceLeDiff, Nat.reduceLT, Nat.zero_add, Nat.lt_add_one, Nat.le_refl, clearA, Int.toNat_natCast, o1, hk, e1]
      exact hQ _ _ _ rfl (by repeat (first | exact GrewA.refl _ | refine GrewA.trans ?_ (GrewA.push _ _) | refine GrewA.trans ?_ (GrewA.fresh _ _))) (by rw [hk]; rfl)
end
end Go.Proofs.YtodehiopdkgoeaaDoor
