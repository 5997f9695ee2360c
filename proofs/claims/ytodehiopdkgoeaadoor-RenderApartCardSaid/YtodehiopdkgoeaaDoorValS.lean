/- vals and the document's values in the plain model: how many parts, the first fault, the same, copies. -/
import Derived.Test.YtodehiopdkgoeaaDoorCVals
import Derived.Test.YtodehiopdkgoeaaDoorVal
import Derived.Test.YtodehiopdkgoeaaDoorAid
namespace Go.Proofs.YtodehiopdkgoeaaDoor
set_option linter.unusedSimpArgs false
set_option linter.unusedVariables false
open Go

theorem sizesV_take {x y : VD} {i : Nat} (h : x.l[i]? = some y) : sizesV (x.l.take (i + 1)) = sizesV (x.l.take i) + y.size ∧ sizesV (x.l.take (i + 1)) ≤ sizesV x.l := by
  have e := take_get h
  constructor
  · rw [e, sizesV_append, sizesV_one]
  · have := sizesV_append (x.l.take (i + 1)) (x.l.drop (i + 1))
    rw [List.take_append_drop] at this
    omega
theorem sizesV_le (l : List VD) (i : Nat) : sizesV (l.take i) ≤ sizesV l := by
  have := sizesV_append (l.take i) (l.drop i)
  rw [List.take_append_drop] at this
  omega
theorem take_len (l : List VD) {i : Nat} (hi : i < l.length) : i ≤ sizesV (l.take i) := by
  have := sizesV_len (l.take i)
  rw [List.length_take] at this
  omega
theorem at_mem {l : List VD} {i : Nat} {y : VD} (h : l[i]? = some y) : y ∈ l := List.mem_of_getElem? h
theorem at_get {l : List VD} {i : Nat} (h : i < l.length) : ∃ y, l[i]? = some y := ⟨_, List.getElem?_eq_getElem h⟩

section
variable {h : AH}
/-- what is left behind a value's parts, as far as there is -/
def leftV (left : Int) (n : Nat) : Int := if (n : Int) ≤ left then left - n else -1
theorem vsize_run : ∀ (N : Nat) (x : VD), SizeOf.sizeOf x ≤ N → ∀ (r : List AV) (h : AH) (left : Int), VaA x r → 0 ≤ left → left ≤ 100000 →
    runF Tryd.prog po 35 [.agg r, .int .i64 left] h = some (.inl (.int .i64 (leftV left x.size)), h) := by
  intro N
  induction N with
  | zero => intro x hx; have := x.so_pos; omega
  | succ N ih =>
    intro x hx r h left he h0 h1
    obtain ⟨v, es, rfl, hsl, hv, hn, hix⟩ := he.facts
    have hs := x.size_eq
    have w1 := w64 (n := left - 1) (by omega) (by omega)
    refine runF_E fn_vsize rfl fun Q hQ => ?_; unfold rc_vsize
    simp only [sim, List.length_cons, List.length_nil, Nat.reduceAdd, Nat.reduceSub, List.replicate, List.cons_append, List.nil_append, List.map_cons, List.map_nil, Option.bind_some, Option.map_some, Option.bind_none, Option.map_none, if_true, if_false, decide_true, decide_false, Bool.false_eq_true, Bool.true_eq_false, Bool.not_true, Bool.not_false, reduceCtorEq, Bool.and_true, Bool.true_and, Bool.and_false, Bool.false_and, Bool.or_true, Bool.true_or, Bool.or_false, Bool.false_or, true_and, and_true, false_and, and_false, List.take_zero, List.take_succ_cons, List.drop_zero, List.drop_succ_cons, List.take_nil, List.drop_nil, List.set_cons_zero, List.set_cons_succ, Nat.reduceLeDiff, Nat.reduceLT, Nat.zero_add, Nat.lt_add_one, Nat.le_refl, clearA, Int.toNat_natCast, hv, w1]
    refine loop_Q (fun i V h' => ∃ v5 cur, V = [.agg [.int .i64 x.kind, .int .i64 x.n, v], .int .i64 cur, .ptr h.n 0 0, .int .i64 0, .int .i64 (i : Nat), v5] ∧ h' = h.push [[.int .i64 x.kind, .int .i64 x.n, v]] ∧ cur = leftV left (1 + sizesV (x.l.take i))) x.l.length ⟨_, _, rfl, rfl, ?_⟩ ?_ ?_
    · simp only [leftV, List.take_zero, sizesV]
      split <;> omega
    · rintro i V h' hi ⟨v5, cur, rfl, rfl, hc⟩ next
      have hlt : (i : Int) < (es.length : Int) := by rw [hn]; omega
      by_cases hp : 0 ≤ cur
      · obtain ⟨y, hy⟩ := at_get hi
        obtain ⟨q, i1, d1, x1⟩ := hix i y hy
        obtain ⟨z1, z2⟩ := sizesV_take hy
        have hil := take_len x.l hi
        have hcl : cur ≤ 100000 ∧ (i : Int) < 100000 := by
          rw [hc, leftV] at hp ⊢
          split at hp
          · rename_i hh
            rw [if_pos hh]
            omega
          · omega
        have hw := w64 (n := (i : Int) + 1) (by omega) (by omega)
        have e1 := ih y (by have := VD.lt_mem (at_mem hy); omega) q (h.push [[.int .i64 x.kind, .int .i64 x.n, v]]) cur x1 hp (by omega)
        rw [r_lpb rc_vsize_b1.eq_1]
        simp only [sim, List.length_cons, List.length_nil, Nat.reduceAdd, Nat.reduceSub, List.replicate, List.cons_append, List.nil_append, List.map_cons, List.map_nil, Option.bind_some, Option.map_some, Option.bind_none, Option.map_none, if_true, if_false, decide_true, decide_false, Bool.false_eq_true, Bool.true_eq_false, Bool.not_true, Bool.not_false, reduceCtorEq, Bool.and_true, Bool.true_and, Bool.and_false, Bool.false_and, Bool.or_true, Bool.true_or, Bool.or_false, Bool.false_or, true_and, and_true, false_and, and_false, List.take_zero, List.take_succ_cons, List.drop_zero, List.drop_succ_cons, List.take_nil, List.drop_nil, List.set_cons_zero, List.set_cons_succ, Nat.reduceLeDiff, Nat.reduceLT, Nat.zero_add, Nat.lt_add_one, Nat.le_refl, clearA, Int.toNat_natCast, hsl.len, hsl.fits, hlt, hp, i1, d1, e1, hw]
        refine next _ _ ⟨_, _, rfl, rfl, ?_⟩
        rw [z1, hc]
        rw [hc] at hp
        simp only [leftV] at hp ⊢
        repeat' split <;> omega
      · rw [r_lpb rc_vsize_b1.eq_1]
        simp only [sim, List.length_cons, List.length_nil, Nat.reduceAdd, Nat.reduceSub, List.replicate, List.cons_append, List.nil_append, List.map_cons, List.map_nil, Option.bind_some, Option.map_some, Option.bind_none, Option.map_none, if_true, if_false, decide_true, decide_false, Bool.false_eq_true, Bool.true_eq_false, Bool.not_true, Bool.not_false, reduceCtorEq, Bool.and_true, Bool.true_and, Bool.and_false, Bool.false_and, Bool.or_true, Bool.true_or, Bool.or_false, Bool.false_or, true_and, and_true, false_and, and_false, List.take_zero, List.take_succ_cons, List.drop_zero, List.drop_succ_cons, List.take_nil, List.drop_nil, List.set_cons_zero, List.set_cons_succ, Nat.reduceLeDiff, Nat.reduceLT, Nat.zero_add, Nat.lt_add_one, Nat.le_refl, clearA, Int.toNat_natCast, hsl.len, hsl.fits, hlt, hp]
        refine hQ _ _ _ rfl (by repeat (first | exact GrewA.refl _ | refine GrewA.trans ?_ (GrewA.push _ _) | refine GrewA.trans ?_ (GrewA.fresh _ _))) ?_
        have e : cur = leftV left x.size := by
          rw [hc, leftV] at hp
          rw [hc, leftV, leftV, hs]
          have := sizesV_le x.l i
          split at hp
          · omega
          · rename_i hh
            rw [if_neg hh, if_neg (by omega)]
        rw [← e]
        rfl
    · rintro V h' ⟨v5, cur, rfl, rfl, hc⟩
      have hlt : ¬ ((x.l.length : Int) < (es.length : Int)) := by rw [hn]; omega
      rw [List.take_length, ← hs] at hc
      rw [r_lpb rc_vsize_b1.eq_1]
      simp only [sim, List.length_cons, List.length_nil, Nat.reduceAdd, Nat.reduceSub, List.replicate, List.cons_append, List.nil_append, List.map_cons, List.map_nil, Option.bind_some, Option.map_some, Option.bind_none, Option.map_none, if_true, if_false, decide_true, decide_false, Bool.false_eq_true, Bool.true_eq_false, Bool.not_true, Bool.not_false, reduceCtorEq, Bool.and_true, Bool.true_and, Bool.and_false, Bool.false_and, Bool.or_true, Bool.true_or, Bool.or_false, Bool.false_or, true_and, and_true, false_and, and_false, List.take_zero, List.take_succ_cons, List.drop_zero, List.drop_succ_cons, List.take_nil, List.drop_nil, List.set_cons_zero, List.set_cons_succ, Nat.reduceLeDiff, Nat.reduceLT, Nat.zero_add, Nat.lt_add_one, Nat.le_refl, clearA, Int.toNat_natCast, hsl.len, hsl.fits, hlt]
      exact hQ _ _ _ rfl (by repeat (first | exact GrewA.refl _ | refine GrewA.trans ?_ (GrewA.push _ _) | refine GrewA.trans ?_ (GrewA.fresh _ _))) (by rw [← hc]; rfl)

theorem ValSize_run : ∀ (N : Nat) (x : VD), SizeOf.sizeOf x ≤ N → ∀ (r : List AV) (h : AH) (most : Int), VaA x r → 0 ≤ most → most ≤ 100000 →
    runF Tryd.prog po 34 [.agg r, .int .i64 most] h = some (.inl (.int .i64 (min (x.size : Int) (most + 1))), h) := by
  intro N
  induction N with
  | zero => intro x hx; have := x.so_pos; omega
  | succ N ih =>
    intro x hx r h most he h0 h1
    obtain ⟨v, es, rfl, hsl, hv, hn, hix⟩ := he.facts
    have hs := x.size_eq
    refine runF_E fn_ValSize rfl fun Q hQ => ?_; unfold rc_ValSize
    simp only [sim, List.length_cons, List.length_nil, Nat.reduceAdd, Nat.reduceSub, List.replicate, List.cons_append, List.nil_append, List.map_cons, List.map_nil, Option.bind_some, Option.map_some, Option.bind_none, Option.map_none, if_true, if_false, decide_true, decide_false, Bool.false_eq_true, Bool.true_eq_false, Bool.not_true, Bool.not_false, reduceCtorEq, Bool.and_true, Bool.true_and, Bool.and_false, Bool.false_and, Bool.or_true, Bool.true_or, Bool.or_false, Bool.false_or, true_and, and_true, false_and, and_false, List.take_zero, List.take_succ_cons, List.drop_zero, List.drop_succ_cons, List.take_nil, List.drop_nil, List.set_cons_zero, List.set_cons_succ, Nat.reduceLeDiff, Nat.reduceLT, Nat.zero_add, Nat.lt_add_one, Nat.le_refl, clearA, Int.toNat_natCast, hv]
    refine loop_Q (fun i V h' => ∃ v6 cur, V = [.agg [.int .i64 x.kind, .int .i64 x.n, v], .int .i64 most, .ptr h.n 0 0, .int .i64 0, .int .i64 cur, .int .i64 (i : Nat), v6] ∧ h' = h.push [[.int .i64 x.kind, .int .i64 x.n, v]] ∧ cur = min ((1 + sizesV (x.l.take i) : Nat) : Int) (most + 1)) x.l.length ⟨_, _, rfl, rfl, ?_⟩ ?_ ?_
    · simp only [List.take_zero, sizesV]
      omega
    · rintro i V h' hi ⟨v6, cur, rfl, rfl, hc⟩ next
      have hlt : (i : Int) < (es.length : Int) := by rw [hn]; omega
      by_cases hp : cur ≤ most
      · obtain ⟨y, hy⟩ := at_get hi
        obtain ⟨q, i1, d1, x1⟩ := hix i y hy
        obtain ⟨z1, z2⟩ := sizesV_take hy
        have hil := take_len x.l hi
        have hw := w64 (n := (i : Int) + 1) (by omega) (by omega)
        have hw1 := w64 (n := most - cur) (by omega) (by omega)
        have e1 := ih y (by have := VD.lt_mem (at_mem hy); omega) q (h.push [[.int .i64 x.kind, .int .i64 x.n, v]]) (most - cur) x1 (by omega) (by omega)
        have hw2 := w64 (n := cur + min (y.size : Int) (most - cur + 1)) (by omega) (by omega)
        rw [r_lpb rc_ValSize_b1.eq_1]
        simp only [sim, List.length_cons, List.length_nil, Nat.reduceAdd, Nat.reduceSub, List.replicate, List.cons_append, List.nil_append, List.map_cons, List.map_nil, Option.bind_some, Option.map_some, Option.bind_none, Option.map_none, if_true, if_false, decide_true, decide_false, Bool.false_eq_true, Bool.true_eq_false, Bool.not_true, Bool.not_false, reduceCtorEq, Bool.and_true, Bool.true_and, Bool.and_false, Bool.false_and, Bool.or_true, Bool.true_or, Bool.or_false, Bool.false_or, true_and, and_true, false_and, and_false, List.take_zero, List.take_succ_cons, List.drop_zero, List.drop_succ_cons, List.take_nil, List.drop_nil, List.set_cons_zero, List.set_cons_succ, Nat.reduceLeDiff, Nat.reduceLT, Nat.zero_add, Nat.lt_add_one, Nat.le_refl, clearA, Int.toNat_natCast, hsl.len, hsl.fits, hlt, hp, i1, d1, hw1, e1, hw2, hw]
        refine next _ _ ⟨_, _, rfl, rfl, ?_⟩
        rw [z1]
        omega
      · rw [r_lpb rc_ValSize_b1.eq_1]
        simp only [sim, List.length_cons, List.length_nil, Nat.reduceAdd, Nat.reduceSub, List.replicate, List.cons_append, List.nil_append, List.map_cons, List.map_nil, Option.bind_some, Option.map_some, Option.bind_none, Option.map_none, if_true, if_false, decide_true, decide_false, Bool.false_eq_true, Bool.true_eq_false, Bool.not_true, Bool.not_false, reduceCtorEq, Bool.and_true, Bool.true_and, Bool.and_false, Bool.false_and, Bool.or_true, Bool.true_or, Bool.or_false, Bool.false_or, true_and, and_true, false_and, and_false, List.take_zero, List.take_succ_cons, List.drop_zero, List.drop_succ_cons, List.take_nil, List.drop_nil, List.set_cons_zero, List.set_cons_succ, Nat.reduceLeDiff, Nat.reduceLT, Nat.zero_add, Nat.lt_add_one, Nat.le_refl, clearA, Int.toNat_natCast, hsl.len, hsl.fits, hlt, hp]
        refine hQ _ _ _ rfl (by repeat (first | exact GrewA.refl _ | refine GrewA.trans ?_ (GrewA.push _ _) | refine GrewA.trans ?_ (GrewA.fresh _ _))) ?_
        have e : cur = min (x.size : Int) (most + 1) := by
          have := sizesV_le x.l i
          omega
        rw [← e]
        rfl
    · rintro V h' ⟨v6, cur, rfl, rfl, hc⟩
      have hlt : ¬ ((x.l.length : Int) < (es.length : Int)) := by rw [hn]; omega
      rw [List.take_length, ← hs] at hc
      rw [r_lpb rc_ValSize_b1.eq_1]
      simp only [sim, List.length_cons, List.length_nil, Nat.reduceAdd, Nat.reduceSub, List.replicate, List.cons_append, List.nil_append, List.map_cons, List.map_nil, Option.bind_some, Option.map_some, Option.bind_none, Option.map_none, if_true, if_false, decide_true, decide_false, Bool.false_eq_true, Bool.true_eq_false, Bool.not_true, Bool.not_false, reduceCtorEq, Bool.and_true, Bool.true_and, Bool.and_false, Bool.false_and, Bool.or_true, Bool.true_or, Bool.or_false, Bool.false_or, true_and, and_true, false_and, and_false, List.take_zero, List.take_succ_cons, List.drop_zero, List.drop_succ_cons, List.take_nil, List.drop_nil, List.set_cons_zero, List.set_cons_succ, Nat.reduceLeDiff, Nat.reduceLT, Nat.zero_add, Nat.lt_add_one, Nat.le_refl, clearA, Int.toNat_natCast, hsl.len, hsl.fits, hlt]
      exact hQ _ _ _ rfl (by repeat (first | exact GrewA.refl _ | refine GrewA.trans ?_ (GrewA.push _ _) | refine GrewA.trans ?_ (GrewA.fresh _ _))) (by rw [← hc]; rfl)
theorem GreatVal_run {x : VD} {r : List AV} (he : VaA x r) : runF Tryd.prog po 11 [.agg r] h = some (.inl (.bool x.great), h) := by
  obtain ⟨o1, o2⟩ := he.one
  have e1 := fun h => ValSize_run _ x (Nat.le_refl _) r h 500 he (by omega) (by omega)
  have e2 : (500 < min (x.size : Int) (500 + 1)) = (500 < x.size) := propext (by omega)
  refine runF_E fn_GreatVal rfl fun Q hQ => ?_; unfold rc_GreatVal
  simp only [sim, List.length_cons, List.length_nil, Nat.reduceAdd, Nat.reduceSub, List.replicate, List.cons_append, List.nil_append, List.map_cons, List.map_nil, Option.bind_some, Option.map_some, Option.bind_none, Option.map_none, if_true, if_false, decide_true, decide_false, Bool.false_eq_true, Bool.true_eq_false, Bool.not_true, Bool.not_false, reduceCtorEq, Bool.and_true, Bool.true_and, Bool.and_false, Bool.false_and, Bool.or_true, Bool.true_or, Bool.or_false, Bool.false_or, true_and, and_true, false_and, and_false, List.take_zero, List.take_succ_cons, List.drop_zero, List.drop_succ_cons, List.take_nil, List.drop_nil, List.set_cons_zero, List.set_cons_succ, Nat.reduceLeDiff, Nat.reduceLT, Nat.zero_add, Nat.lt_add_one, Nat.le_refl, clearA, Int.toNat_natCast, o1, o2, ld_all o2, e1, e2]
  exact hQ _ _ _ rfl (by repeat (first | exact GrewA.refl _ | refine GrewA.trans ?_ (GrewA.push _ _) | refine GrewA.trans ?_ (GrewA.fresh _ _))) rfl

theorem head_cases {kind n : Int} {len : Nat} (h : headV kind n len = 0) : len = wantV kind ∧ (kind = 0 ∨ kind = 1 ∨ kind = 2 ∨ kind = 3 ∨ kind = 4 ∨ kind = 5) := by
  unfold headV at h
  split at h
  · cases h
  · split at h
    · cases h
    · exact ⟨by omega, by omega⟩
theorem want_few (kind : Int) : wantV kind ≤ 2 := by unfold wantV; split; omega; split <;> omega
theorem faults_from {l : List VD} {i : Nat} {y : VD} (h : l[i]? = some y) : faultsV (l.drop i) = if y.fault ≠ 0 then y.fault else faultsV (l.drop (i + 1)) := by
  obtain ⟨hi, rfl⟩ := List.getElem?_eq_some_iff.1 h
  rw [List.drop_eq_getElem_cons hi, faultsV_cons]

set_option maxHeartbeats 1000000 in
theorem rvalFault_run : ∀ (N : Nat) (x : VD), SizeOf.sizeOf x ≤ N → ∀ (r : List AV) (h : AH), VaA x r →
    runF Tryd.prog po 37 [.agg r] h = some (.inl (.int .i64 x.fault), h) := by
  intro N
  induction N with
  | zero => intro x hx; have := x.so_pos; omega
  | succ N ih =>
    intro x hx r h he
    obtain ⟨v, es, rfl, hsl, hv, hn, hix⟩ := he.facts
    have hfe := x.fault_eq
    rw [hfe]
    have loop : headV x.kind x.n x.l.length = 0 → ∀ (Q : RRun → Prop) (v6 v7 v8 v9 v10 v11 v12 v13 v14 : AV), (∀ V h', (resR V h' [.v 2]).map oneA = some (.int .i64 (faultsV x.l)) → GrewA h h' → Q (some (.ret, V, h'))) →
        Q (runR (runF Tryd.prog po) 15 (.lp rc_rvalFault_b1 :: .ss [] :: .blk 1 :: [.ss [.ops [(.i (.v 2) (.mv (.c (.int .i64 0))))], .ret]])
          [.agg [.int .i64 x.kind, .int .i64 x.n, v], .ptr h.n 0 0, .int .i64 0, .int .i64 (wantV x.kind : Nat), .int .i64 0, .junk, v6, v7, v8, v9, v10, v11, v12, v13, v14] [] (h.push [[.int .i64 x.kind, .int .i64 x.n, v]])) := by
      intro hd Q v6 v7 v8 v9 v10 v11 v12 v13 v14 hQ
      obtain ⟨hlen, -⟩ := head_cases hd
      have hwf := want_few x.kind
      refine loop_Q (fun i V h' => ∃ v5 v13 v14, V = [.agg [.int .i64 x.kind, .int .i64 x.n, v], .ptr h.n 0 0, .int .i64 0, .int .i64 (wantV x.kind : Nat), .int .i64 (i : Nat), v5, v6, v7, v8, v9, v10, v11, v12, v13, v14] ∧ h' = h.push [[.int .i64 x.kind, .int .i64 x.n, v]] ∧ faultsV (x.l.drop i) = faultsV x.l) x.l.length ⟨_, _, _, rfl, rfl, rfl⟩ ?_ ?_
      · rintro i V h' hi ⟨v5, v13, v14, rfl, rfl, hc⟩ next
        have hlt : (i : Int) < (wantV x.kind : Int) := by omega
        obtain ⟨y, hy⟩ := at_get hi
        obtain ⟨q, i1, d1, x1⟩ := hix i y hy
        have hw := w64 (n := (i : Int) + 1) (by omega) (by omega)
        have e1 := ih y (by have := VD.lt_mem (at_mem hy); omega) q (h.push [[.int .i64 x.kind, .int .i64 x.n, v]]) x1
        rw [faults_from hy] at hc
        by_cases hf : y.fault = 0
        · rw [if_neg (by simp [hf])] at hc
          rw [hf] at e1
          rw [r_lpb rc_rvalFault_b1.eq_1]
          simp only [sim, List.length_cons, List.length_nil, Nat.reduceAdd, Nat.reduceSub, List.replicate, List.cons_append, List.nil_append, List.map_cons, List.map_nil, Option.bind_some, Option.map_some, Option.bind_none, Option.map_none, if_true, if_false, decide_true, decide_false, Bool.false_eq_true, Bool.true_eq_false, Bool.not_true, Bool.not_false, reduceCtorEq, Bool.and_true, Bool.true_and, Bool.and_false, Bool.false_and, Bool.or_true, Bool.true_or, Bool.or_false, Bool.false_or, true_and, and_true, false_and, and_false, List.take_zero, List.take_succ_cons, List.drop_zero, List.drop_succ_cons, List.take_nil, List.drop_nil, List.set_cons_zero, List.set_cons_succ, Nat.reduceLeDiff, Nat.reduceLT, Nat.zero_add, Nat.lt_add_one, Nat.le_refl, clearA, Int.toNat_natCast, hlt, i1, d1, e1, hw]
          exact next _ _ ⟨_, _, _, rfl, rfl, hc⟩
        · rw [if_pos hf] at hc
          rw [r_lpb rc_rvalFault_b1.eq_1]
          simp only [sim, List.length_cons, List.length_nil, Nat.reduceAdd, Nat.reduceSub, List.replicate, List.cons_append, List.nil_append, List.map_cons, List.map_nil, Option.bind_some, Option.map_some, Option.bind_none, Option.map_none, if_true, if_false, decide_true, decide_false, Bool.false_eq_true, Bool.true_eq_false, Bool.not_true, Bool.not_false, reduceCtorEq, Bool.and_true, Bool.true_and, Bool.and_false, Bool.false_and, Bool.or_true, Bool.true_or, Bool.or_false, Bool.false_or, true_and, and_true, false_and, and_false, List.take_zero, List.take_succ_cons, List.drop_zero, List.drop_succ_cons, List.take_nil, List.drop_nil, List.set_cons_zero, List.set_cons_succ, Nat.reduceLeDiff, Nat.reduceLT, Nat.zero_add, Nat.lt_add_one, Nat.le_refl, clearA, Int.toNat_natCast, hlt, i1, d1, e1, hf]
          exact hQ _ _ (by rw [← hc]; rfl) (by repeat (first | exact GrewA.refl _ | refine GrewA.trans ?_ (GrewA.push _ _) | refine GrewA.trans ?_ (GrewA.fresh _ _)))
      · rintro V h' ⟨v5, v13, v14, rfl, rfl, hc⟩
        have hlt : ¬ ((x.l.length : Int) < (wantV x.kind : Int)) := by omega
        rw [List.drop_length] at hc
        rw [r_lpb rc_rvalFault_b1.eq_1]
        simp only [sim, List.length_cons, List.length_nil, Nat.reduceAdd, Nat.reduceSub, List.replicate, List.cons_append, List.nil_append, List.map_cons, List.map_nil, Option.bind_some, Option.map_some, Option.bind_none, Option.map_none, if_true, if_false, decide_true, decide_false, Bool.false_eq_true, Bool.true_eq_false, Bool.not_true, Bool.not_false, reduceCtorEq, Bool.and_true, Bool.true_and, Bool.and_false, Bool.false_and, Bool.or_true, Bool.true_or, Bool.or_false, Bool.false_or, true_and, and_true, false_and, and_false, List.take_zero, List.take_succ_cons, List.drop_zero, List.drop_succ_cons, List.take_nil, List.drop_nil, List.set_cons_zero, List.set_cons_succ, Nat.reduceLeDiff, Nat.reduceLT, Nat.zero_add, Nat.lt_add_one, Nat.le_refl, clearA, Int.toNat_natCast, hlt]
        exact hQ _ _ (by rw [← hc]; rfl) (by repeat (first | exact GrewA.refl _ | refine GrewA.trans ?_ (GrewA.push _ _) | refine GrewA.trans ?_ (GrewA.fresh _ _)))
    refine runF_E fn_rvalFault rfl fun Q hQ => ?_; unfold rc_rvalFault
    by_cases hk : x.kind = 0 ∨ x.kind = 1 ∨ x.kind = 2 ∨ x.kind = 3 ∨ x.kind = 4 ∨ x.kind = 5
    · by_cases hl : (x.l.length : Nat) = wantV x.kind
      · have hl' : (es.length : Int) = (wantV x.kind : Int) := by rw [hn, hl]
        by_cases hz : x.n = 0
        · have hh : headV x.kind x.n x.l.length = 0 := by
            unfold headV
            rw [if_neg (by omega), if_neg (by omega), if_neg (by omega), if_neg (by omega)]
          have L := loop hh
          rw [hh] at hQ
          rcases hk with hk | hk | hk | hk | hk | hk
          all_goals
            rw [hk] at hl' L
            simp only [wantV, Int.reduceEq, if_false, if_true, Int.cast_ofNat_Int, Int.natCast_zero, Int.natCast_one, hz] at hl' L
            simp only [sim, List.length_cons, List.length_nil, Nat.reduceAdd, Nat.reduceSub, List.replicate, List.cons_append, List.nil_append, List.map_cons, List.map_nil, Option.bind_some, Option.map_some, Option.bind_none, Option.map_none, if_true, if_false, decide_true, decide_false, Bool.false_eq_true, Bool.true_eq_false, Bool.not_true, Bool.not_false, reduceCtorEq, Bool.and_true, Bool.true_and, Bool.and_false, Bool.false_and, Bool.or_true, Bool.true_or, Bool.or_false, Bool.false_or, true_and, and_true, false_and, and_false, List.take_zero, List.take_succ_cons, List.drop_zero, List.drop_succ_cons, List.take_nil, List.drop_nil, List.set_cons_zero, List.set_cons_succ, Nat.reduceLeDiff, Nat.reduceLT, Nat.zero_add, Nat.lt_add_one, Nat.le_refl, clearA, Int.toNat_natCast, hv, hk, hz, Int.reduceEq, Int.reduceLT, hsl.len, hsl.fits, hl']
            exact L _ _ _ _ _ _ _ _ _ _ fun V h' e g => hQ _ _ _ e g rfl
        · have hh0 : headV x.kind x.n x.l.length = if x.kind = 0 ∨ x.kind = 2 then 5 else if 3 ≤ x.kind ∧ x.n < 0 then 1 else 0 := by
            unfold headV
            rw [if_neg (by omega), if_neg (by omega)]
            simp only [hz, not_false_eq_true, ne_eq, and_true]
          by_cases hng : x.n < 0
          · rcases hk with hk | hk | hk | hk | hk | hk
            all_goals
              have hh := hh0
              simp only [hk, hng, Int.reduceEq, Int.reduceLE, true_or, or_true, and_true, and_false, false_or, or_false, or_self, if_true, if_false] at hh
              rw [← hk] at hh
              have L := loop
              rw [hh] at L hQ
              rw [hk] at hl' L
              simp only [wantV, Int.reduceEq, if_false, if_true, Int.cast_ofNat_Int, Int.natCast_zero, Int.natCast_one] at hl' L
              simp only [sim, List.length_cons, List.length_nil, Nat.reduceAdd, Nat.reduceSub, List.replicate, List.cons_append, List.nil_append, List.map_cons, List.map_nil, Option.bind_some, Option.map_some, Option.bind_none, Option.map_none, if_true, if_false, decide_true, decide_false, Bool.false_eq_true, Bool.true_eq_false, Bool.not_true, Bool.not_false, reduceCtorEq, Bool.and_true, Bool.true_and, Bool.and_false, Bool.false_and, Bool.or_true, Bool.true_or, Bool.or_false, Bool.false_or, true_and, and_true, false_and, and_false, List.take_zero, List.take_succ_cons, List.drop_zero, List.drop_succ_cons, List.take_nil, List.drop_nil, List.set_cons_zero, List.set_cons_succ, Nat.reduceLeDiff, Nat.reduceLT, Nat.zero_add, Nat.lt_add_one, Nat.le_refl, clearA, Int.toNat_natCast, hv, hk, hz, hng, Int.reduceEq, Int.reduceLT, hsl.len, hsl.fits, hl']
              first
                | exact hQ _ _ _ rfl (by repeat (first | exact GrewA.refl _ | refine GrewA.trans ?_ (GrewA.push _ _) | refine GrewA.trans ?_ (GrewA.fresh _ _))) rfl
                | exact L trivial _ _ _ _ _ _ _ _ _ _ fun V h' e g => hQ _ _ _ e g rfl
          · rcases hk with hk | hk | hk | hk | hk | hk
            all_goals
              have hh := hh0
              simp only [hk, hng, Int.reduceEq, Int.reduceLE, true_or, or_true, and_true, and_false, false_or, or_false, or_self, if_true, if_false] at hh
              rw [← hk] at hh
              have L := loop
              rw [hh] at L hQ
              rw [hk] at hl' L
              simp only [wantV, Int.reduceEq, if_false, if_true, Int.cast_ofNat_Int, Int.natCast_zero, Int.natCast_one] at hl' L
              simp only [sim, List.length_cons, List.length_nil, Nat.reduceAdd, Nat.reduceSub, List.replicate, List.cons_append, List.nil_append, List.map_cons, List.map_nil, Option.bind_some, Option.map_some, Option.bind_none, Option.map_none, if_true, if_false, decide_true, decide_false, Bool.false_eq_true, Bool.true_eq_false, Bool.not_true, Bool.not_false, reduceCtorEq, Bool.and_true, Bool.true_and, Bool.and_false, Bool.false_and, Bool.or_true, Bool.true_or, Bool.or_false, Bool.false_or, true_and, and_true, false_and, and_false, List.take_zero, List.take_succ_cons, List.drop_zero, List.drop_succ_cons, List.take_nil, List.drop_nil, List.set_cons_zero, List.set_cons_succ, Nat.reduceLeDiff, Nat.reduceLT, Nat.zero_add, Nat.lt_add_one, Nat.le_refl, clearA, Int.toNat_natCast, hv, hk, hz, hng, Int.reduceEq, Int.reduceLT, hsl.len, hsl.fits, hl']
              first
                | exact hQ _ _ _ rfl (by repeat (first | exact GrewA.refl _ | refine GrewA.trans ?_ (GrewA.push _ _) | refine GrewA.trans ?_ (GrewA.fresh _ _))) rfl
                | exact L trivial _ _ _ _ _ _ _ _ _ _ fun V h' e g => hQ _ _ _ e g rfl
      · have hh : headV x.kind x.n x.l.length = 5 := by
          unfold headV
          rw [if_neg (by omega), if_pos hl]
        have hl' : ¬ (es.length : Int) = (wantV x.kind : Int) := by rw [hn]; omega
        rw [hh] at hQ
        rcases hk with hk | hk | hk | hk | hk | hk
        all_goals
          rw [hk] at hl'
          simp only [wantV, Int.reduceEq, if_false, if_true, Int.cast_ofNat_Int, Int.natCast_zero, Int.natCast_one] at hl'
          simp only [sim, List.length_cons, List.length_nil, Nat.reduceAdd, Nat.reduceSub, List.replicate, List.cons_append, List.nil_append, List.map_cons, List.map_nil, Option.bind_some, Option.map_some, Option.bind_none, Option.map_none, if_true, if_false, decide_true, decide_false, Bool.false_eq_true, Bool.true_eq_false, Bool.not_true, Bool.not_false, reduceCtorEq, Bool.and_true, Bool.true_and, Bool.and_false, Bool.false_and, Bool.or_true, Bool.true_or, Bool.or_false, Bool.false_or, true_and, and_true, false_and, and_false, List.take_zero, List.take_succ_cons, List.drop_zero, List.drop_succ_cons, List.take_nil, List.drop_nil, List.set_cons_zero, List.set_cons_succ, Nat.reduceLeDiff, Nat.reduceLT, Nat.zero_add, Nat.lt_add_one, Nat.le_refl, clearA, Int.toNat_natCast, hv, hk, Int.reduceEq, hsl.len, hsl.fits, hl']
          exact hQ _ _ _ rfl (by repeat (first | exact GrewA.refl _ | refine GrewA.trans ?_ (GrewA.push _ _) | refine GrewA.trans ?_ (GrewA.fresh _ _))) rfl
    · have hh : headV x.kind x.n x.l.length = 2 := by
        unfold headV
        rw [if_pos (by omega)]
      obtain ⟨k0, k1, k2, k3, k4, k5⟩ : ¬ x.kind = 0 ∧ ¬ x.kind = 1 ∧ ¬ x.kind = 2 ∧ ¬ x.kind = 3 ∧ ¬ x.kind = 4 ∧ ¬ x.kind = 5 := by omega
      rw [hh] at hQ
      simp only [sim, List.length_cons, List.length_nil, Nat.reduceAdd, Nat.reduceSub, List.replicate, List.cons_append, List.nil_append, List.map_cons, List.map_nil, Option.bind_some, Option.map_some, Option.bind_none, Option.map_none, if_true, if_false, decide_true, decide_false, Bool.false_eq_true, Bool.true_eq_false, Bool.not_true, Bool.not_false, reduceCtorEq, Bool.and_true, Bool.true_and, Bool.and_false, Bool.false_and, Bool.or_true, Bool.true_or, Bool.or_false, Bool.false_or, true_and, and_true, false_and, and_false, List.take_zero, List.take_succ_cons, List.drop_zero, List.drop_succ_cons, List.take_nil, List.drop_nil, List.set_cons_zero, List.set_cons_succ, Nat.reduceLeDiff, Nat.reduceLT, Nat.zero_add, Nat.lt_add_one, Nat.le_refl, clearA, Int.toNat_natCast, hv, k0, k1, k2, k3, k4, k5]
      exact hQ _ _ _ rfl (by repeat (first | exact GrewA.refl _ | refine GrewA.trans ?_ (GrewA.push _ _) | refine GrewA.trans ?_ (GrewA.fresh _ _))) rfl
end
end Go.Proofs.YtodehiopdkgoeaaDoor
