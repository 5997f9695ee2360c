/- token in the plain model: Scan. -/
import Derived.Test.YtngphebjmmencaaDoorTokS
namespace Go.Proofs.YtngphebjmmencaaDoor
set_option linter.unusedSimpArgs false
set_option linter.unusedVariables false
open Go

/-- a loop, by what grows less -/
theorem loop_W {C : CallR} {nv : Nat} {b : List RS} {K : List RK} {Q : RRun → Prop} {α : Type} (μ : α → Nat) (I : α → List AV → AH → Prop)
    (step : ∀ x V h, I x V h → (∀ y V' h', μ y < μ x → I y V' h' → Q (runR C nv (.lp b :: K) V' [] h')) → Q (runR C nv (.lp b :: K) V [] h)) (x : α) {V : List AV} {h : AH} (h0 : I x V h) : Q (runR C nv (.lp b :: K) V [] h) := by
  have key : ∀ (N : Nat) (x : α) (V : List AV) (h : AH), μ x < N → I x V h → Q (runR C nv (.lp b :: K) V [] h) := by
    intro N
    induction N with
    | zero => intro x V h hx; omega
    | succ N ih => intro x V h hx hI; exact step x V h hI fun y V' h' hy hI' => ih y V' h' (by omega) hI'
  exact key _ x V h (Nat.lt_succ_self _) h0

abbrev fltT (q : Int × Int) : AV := .agg [.int .i64 q.1, .int .i64 q.2]
/-- what Scan comes to -/
def scanR (s : List UInt8) : List TD × (Int × Int) := if 6000 < s.length then ([], (3, 6000)) else match scanD 0 0 s with
  | .inl l => (l, (0, 0))
  | .inr e => ([], (7, (e : Int)))
abbrev rowsT (l : List TD) : List (List AV) := l.map TD.row
theorem rows_flat (l : List TD) : ∀ r ∈ rowsT l, r.all flatA = true := by
  intro r hr
  obtain ⟨t, _, rfl⟩ := List.mem_map.1 hr
  rfl
theorem scan_out {s : List UInt8} {l : List TD} (hs : ¬ 6000 < s.length) (h : scanD 0 0 s = .inl l) : scanR s = (l, (0, 0)) := by rw [scanR, if_neg hs, h]
theorem scan_err {s : List UInt8} {e : Nat} (hs : ¬ 6000 < s.length) (h : scanD 0 0 s = .inr e) : scanR s = ([], (7, (e : Int))) := by rw [scanR, if_neg hs, h]
/-- so far -/
def soFar (s : List UInt8) (q : Nat × List TD) : Prop := q.1 ≤ s.length ∧ q.2.length ≤ q.1 ∧ scanD 0 0 s = match scanD 0 q.1 (s.drop q.1) with
  | .inl l => .inl (q.2 ++ l)
  | .inr e => .inr e
theorem soFar_one {s : List UInt8} {a : Nat} {acc : List TD} (h : soFar s (a, acc)) {c : UInt8} {r : List UInt8} (hd : s.drop a = c :: r) (hb : blankB c = false) {t : TD} (ho : oneD a (c :: r) = some t) :
    soFar s (a + t.text.length, acc ++ [t]) := by
  obtain ⟨h1, h2, h3⟩ := h
  simp only at h1 h2 h3
  obtain ⟨o1, o2, o3⟩ := one_text ho
  have hl : (s.drop a).length = s.length - a := List.length_drop
  have htl : t.text.length ≤ (c :: r).length := by
    rw [o3, List.length_take]
    omega
  rw [← hd, hl] at htl
  refine ⟨by simp only; omega, by simp only [List.length_append, List.length_singleton]; omega, ?_⟩
  simp only
  rw [h3, hd, scanD_one hb ho, ← hd, List.drop_drop]
  cases scanD 0 (a + t.text.length) (s.drop (a + t.text.length)) with
  | inl l => simp
  | inr e => rfl
theorem soFar_skip {s : List UInt8} {a : Nat} {acc : List TD} (h : soFar s (a, acc)) : soFar s (a + blanks (s.drop a), acc) := by
  obtain ⟨h1, h2, h3⟩ := h
  simp only at h1 h2 h3
  have hl : (s.drop a).length = s.length - a := List.length_drop
  have hb := blanks_le (s.drop a)
  refine ⟨by simp only; omega, by simp only; omega, ?_⟩
  simp only
  rw [h3, scanD_blanks (s.drop a) a, List.drop_drop]
theorem soFar_end {s : List UInt8} {a : Nat} {acc : List TD} (h : soFar s (a, acc)) (ha : s.drop a = []) : scanD 0 0 s = .inl acc := by
  obtain ⟨h1, h2, h3⟩ := h
  simp only at h3
  rw [h3, ha, scanD_nil]
  simp
theorem soFar_none {s : List UInt8} {a : Nat} {acc : List TD} (h : soFar s (a, acc)) {c : UInt8} {r : List UInt8} (hd : s.drop a = c :: r) (hb : blankB c = false) (ho : oneD a (c :: r) = none) : scanD 0 0 s = .inr a := by
  obtain ⟨h1, h2, h3⟩ := h
  simp only at h3
  rw [h3, hd, scanD_none hb ho]
theorem soFar_zero (s : List UInt8) : soFar s (0, []) := by
  refine ⟨Nat.zero_le _, Nat.le_refl _, ?_⟩
  simp only [List.drop_zero, List.nil_append]
  cases scanD 0 0 s <;> rfl

section
variable {h : AH}
theorem wk_scan {h0 h1 : AH} {e : TypeId} {v : AV} {l : List TD} (ha : Acc h0 h1 e v (rowsT l)) (q : Int × Int) : wkA (.tup [v, fltT q]) = some (.tup [lstA e (rowsT l), fltT q]) := by
  have := acc_wk ha (rows_flat l)
  simp only [wkA, wkL, this, Option.map_some]
set_option maxHeartbeats 2000000 in
theorem tScan_run (s : List UInt8) (hs : s.length ≤ 1000000) : runF Tryd.prog po 10 [.str s] h = some (.inl (.tup [lstA tTk (rowsT (scanR s).1), fltT (scanR s).2]), h) := by
  by_cases h6 : 6000 < s.length
  · have e : scanR s = ([], (3, 6000)) := if_pos h6
    rw [e]
    have h6' : (6000 : Int) < (s.length : Int) := by omega
    refine runF_E fn_tScan rfl fun Q hQ => ?_; unfold rc_tScan
    simp only [sim, List.length_cons, List.length_nil, Nat.reduceAdd, Nat.reduceSub, List.replicate, List.cons_append, List.nil_append, List.map_cons, List.map_nil, Option.bind_some, Option.map_some, Option.bind_none, Option.map_none, if_true, if_false, decide_true, decide_false, Bool.false_eq_true, Bool.true_eq_false, Bool.not_true, Bool.not_false, reduceCtorEq, Bool.and_true, Bool.true_and, Bool.and_false, Bool.false_and, Bool.or_true, Bool.true_or, Bool.or_false, Bool.false_or, true_and, and_true, false_and, and_false, List.take_zero, List.take_succ_cons, List.drop_zero, List.drop_succ_cons, List.take_nil, List.drop_nil, List.set_cons_zero, List.set_cons_succ, Nat.reduceLeDiff, Nat.reduceLT, Nat.zero_add, Nat.lt_add_one, Nat.le_refl, clearA, Int.toNat_natCast, h6']
    exact hQ _ _ (.tup [.nils, fltT (3, 6000)]) (by simp only [sim, List.length_cons, List.length_nil, Nat.reduceAdd, Nat.reduceSub, List.replicate, List.cons_append, List.nil_append, List.map_cons, List.map_nil, Option.bind_some, Option.map_some, Option.bind_none, Option.map_none, if_true, if_false, decide_true, decide_false, Bool.false_eq_true, Bool.true_eq_false, Bool.not_true, Bool.not_false, reduceCtorEq, Bool.and_true, Bool.true_and, Bool.and_false, Bool.false_and, Bool.or_true, Bool.true_or, Bool.or_false, Bool.false_or, true_and, and_true, false_and, and_false, List.take_zero, List.take_succ_cons, List.drop_zero, List.drop_succ_cons, List.take_nil, List.drop_nil, List.set_cons_zero, List.set_cons_succ, Nat.reduceLeDiff, Nat.reduceLT, Nat.zero_add, Nat.lt_add_one, Nat.le_refl, clearA, Int.toNat_natCast]) (GrewA.push _ _) rfl
  · have h6' : ¬ (6000 : Int) < (s.length : Int) := by omega
    have ru0 : ∀ h, runF Tryd.prog po 24 [.str s, .int .i64 0, .fn 25 [] []] h = some (.inl (.int .i64 ((blanks s : Nat) : Int)), h) := fun h => trun_run (h := h) (fun c h => tblank_run (h := h) c) s 0 (by omega) hs
    refine runF_E fn_tScan rfl fun Q hQ => ?_; unfold rc_tScan
    simp only [sim, List.length_cons, List.length_nil, Nat.reduceAdd, Nat.reduceSub, List.replicate, List.cons_append, List.nil_append, List.map_cons, List.map_nil, Option.bind_some, Option.map_some, Option.bind_none, Option.map_none, if_true, if_false, decide_true, decide_false, Bool.false_eq_true, Bool.true_eq_false, Bool.not_true, Bool.not_false, reduceCtorEq, Bool.and_true, Bool.true_and, Bool.and_false, Bool.false_and, Bool.or_true, Bool.true_or, Bool.or_false, Bool.false_or, true_and, and_true, false_and, and_false, List.take_zero, List.take_succ_cons, List.drop_zero, List.drop_succ_cons, List.take_nil, List.drop_nil, List.set_cons_zero, List.set_cons_succ, Nat.reduceLeDiff, Nat.reduceLT, Nat.zero_add, Nat.lt_add_one, Nat.le_refl, clearA, Int.toNat_natCast, h6', ru0]
    generalize hh1 : h.push [[AV.int .i64 0, .int .i64 0]] = h1
    have c1 : h1.cell h.n = some [[.int .i64 0, .int .i64 0]] := by rw [← hh1]; exact push_same
    have g1 : GrewA h h1 := by rw [← hh1]; exact GrewA.push _ _
    have n1 : h1.n = h.n + 1 := by rw [← hh1]; rfl
    refine loop_W (fun q : Nat × List TD => s.length - q.1) (fun q V h' => ∃ v w5 w6 w8 w9, V = [.str s, .nils, .ptr h.n 0 0, v, .int .i64 ((q.1 : Nat) : Int), w5, w6, .bool false, w8, w9] ∧ Acc h1 h' tTk v (rowsT q.2) ∧ GrewA h1 h' ∧ soFar s q ∧ ∀ c r, s.drop q.1 = c :: r → blankB c = false) ?_ (blanks s, []) ⟨_, _, _, _, _, rfl, acc_nil _ _ _, GrewA.refl _, by have := soFar_skip (soFar_zero s); rw [List.drop_zero, Nat.zero_add] at this; exact this, fun c r e => drop_blanks s e⟩
    rintro ⟨a, acc⟩ V h' ⟨v, w5, w6, w8, w9, rfl, ha, gg, so, nb⟩ next
    simp only at so nb next ⊢
    have so' := so
    obtain ⟨b1, b2, b3⟩ := so'
    simp only at b1 b2
    have cf : h'.cell h.n = some [[.int .i64 0, .int .i64 0]] := (gg.cell _ (by omega)).trans c1
    cases hd : s.drop a with
    | nil =>
      have hl : (s.drop a).length = s.length - a := List.length_drop
      rw [hd] at hl
      have hlt : ¬ (a : Int) < (s.length : Int) := by simp only [List.length_nil] at hl; omega
      have e := scan_out h6 (soFar_end so hd)
      rw [e] at hQ
      rw [r_lpb rc_tScan_b1.eq_1]
      simp only [sim, List.length_cons, List.length_nil, Nat.reduceAdd, Nat.reduceSub, List.replicate, List.cons_append, List.nil_append, List.map_cons, List.map_nil, Option.bind_some, Option.map_some, Option.bind_none, Option.map_none, if_true, if_false, decide_true, decide_false, Bool.false_eq_true, Bool.true_eq_false, Bool.not_true, Bool.not_false, reduceCtorEq, Bool.and_true, Bool.true_and, Bool.and_false, Bool.false_and, Bool.or_true, Bool.true_or, Bool.or_false, Bool.false_or, true_and, and_true, false_and, and_false, List.take_zero, List.take_succ_cons, List.drop_zero, List.drop_succ_cons, List.take_nil, List.drop_nil, List.set_cons_zero, List.set_cons_succ, Nat.reduceLeDiff, Nat.reduceLT, Nat.zero_add, Nat.lt_add_one, Nat.le_refl, clearA, Int.toNat_natCast, hlt, cf]
      exact hQ _ _ (.tup [v, fltT (0, 0)]) (by simp only [sim, List.length_cons, List.length_nil, Nat.reduceAdd, Nat.reduceSub, List.replicate, List.cons_append, List.nil_append, List.map_cons, List.map_nil, Option.bind_some, Option.map_some, Option.bind_none, Option.map_none, if_true, if_false, decide_true, decide_false, Bool.false_eq_true, Bool.true_eq_false, Bool.not_true, Bool.not_false, reduceCtorEq, Bool.and_true, Bool.true_and, Bool.and_false, Bool.false_and, Bool.or_true, Bool.true_or, Bool.or_false, Bool.false_or, true_and, and_true, false_and, and_false, List.take_zero, List.take_succ_cons, List.drop_zero, List.drop_succ_cons, List.take_nil, List.drop_nil, List.set_cons_zero, List.set_cons_succ, Nat.reduceLeDiff, Nat.reduceLT, Nat.zero_add, Nat.lt_add_one, Nat.le_refl, clearA, Int.toNat_natCast]) ((g1.trans gg).set (by omega)) (wk_scan ha _)
    | cons c r =>
      obtain ⟨d1, d2, d3, d4⟩ := drop_at hd
      have hb := nb c r hd
      have hlt : (a : Int) < (s.length : Int) := by omega
      have e1 := fun h => tone_run (h := h) s a c r hd hs
      have n0 : h.n ≠ h'.n := by have := gg.n; omega
      have kf : ∀ x, (h'.push [x]).cell h.n = some [[.int .i64 0, .int .i64 0]] := fun x => (push_lt (by have := gg.n; omega)).trans cf
      rw [hd] at e1
      cases ho : oneD a (c :: r) with
      | none =>
        have e := scan_err h6 (soFar_none so hd hb ho)
        rw [e] at hQ
        rw [ho] at e1
        simp only [oneA'] at e1
        rw [r_lpb rc_tScan_b1.eq_1]
        simp only [sim, List.length_cons, List.length_nil, Nat.reduceAdd, Nat.reduceSub, List.replicate, List.cons_append, List.nil_append, List.map_cons, List.map_nil, Option.bind_some, Option.map_some, Option.bind_none, Option.map_none, if_true, if_false, decide_true, decide_false, Bool.false_eq_true, Bool.true_eq_false, Bool.not_true, Bool.not_false, reduceCtorEq, Bool.and_true, Bool.true_and, Bool.and_false, Bool.false_and, Bool.or_true, Bool.true_or, Bool.or_false, Bool.false_or, true_and, and_true, false_and, and_false, List.take_zero, List.take_succ_cons, List.drop_zero, List.drop_succ_cons, List.take_nil, List.drop_nil, List.set_cons_zero, List.set_cons_succ, Nat.reduceLeDiff, Nat.reduceLT, Nat.zero_add, Nat.lt_add_one, Nat.le_refl, clearA, Int.toNat_natCast, hlt, e1, kf, Int.reduceEq]
        exact hQ _ _ (.tup [.nils, fltT (7, a)]) (by simp only [sim, List.length_cons, List.length_nil, Nat.reduceAdd, Nat.reduceSub, List.replicate, List.cons_append, List.nil_append, List.map_cons, List.map_nil, Option.bind_some, Option.map_some, Option.bind_none, Option.map_none, if_true, if_false, decide_true, decide_false, Bool.false_eq_true, Bool.true_eq_false, Bool.not_true, Bool.not_false, reduceCtorEq, Bool.and_true, Bool.true_and, Bool.and_false, Bool.false_and, Bool.or_true, Bool.true_or, Bool.or_false, Bool.false_or, true_and, and_true, false_and, and_false, List.take_zero, List.take_succ_cons, List.drop_zero, List.drop_succ_cons, List.take_nil, List.drop_nil, List.set_cons_zero, List.set_cons_succ, Nat.reduceLeDiff, Nat.reduceLT, Nat.zero_add, Nat.lt_add_one, Nat.le_refl, clearA, Int.toNat_natCast]) (((g1.trans gg).trans (GrewA.push _ _)).set (by omega)) rfl
      | some t =>
        rw [ho] at e1
        simp only [oneA', TD.row] at e1
        have so2 := soFar_one so hd hb ho
        have so2' := so2
        obtain ⟨b4, b5, _⟩ := so2'
        simp only at b4 b5
        obtain ⟨o1, o2, o3⟩ := one_text ho
        have so3 := soFar_skip so2
        have bl := blanks_le (s.drop (a + t.text.length))
        have hl2 : (s.drop (a + t.text.length)).length = s.length - (a + t.text.length) := List.length_drop
        have w1 : IntKind.wrap .i64 ((a : Int) + (t.text.length : Int)) = ((a + t.text.length : Nat) : Int) := w64' (by omega) (by omega) (by omega)
        have w2 : IntKind.wrap .i64 (((a + t.text.length : Nat) : Int) + ((blanks (s.drop (a + t.text.length)) : Nat) : Int)) = ((a + t.text.length + blanks (s.drop (a + t.text.length)) : Nat) : Int) := w64' (by omega) (by omega) (by omega)
        have ru : ∀ h, runF Tryd.prog po 24 [.str s, .int .i64 ((a + t.text.length : Nat) : Int), .fn 25 [] []] h = some (.inl (.int .i64 ((blanks (s.drop (a + t.text.length)) : Nat) : Int)), h) := fun h => trun_run (h := h) (fun c h => tblank_run (h := h) c) s (a + t.text.length) (by omega) hs
        have ha' : Acc h1 (h'.push [TD.row t]) tTk v (rowsT acc) := ha
        obtain ⟨v2, h2, e2, a2, g2, k2, m2⟩ := acc_app ha' (gg.trans (GrewA.push _ _)) (row := TD.row t) rfl (by rw [List.length_map]; omega)
        have kt : h2.cell h'.n = some [TD.row t] := by rw [k2]; exact push_same
        simp only [TD.row, push_ids] at e2 kt
        rw [r_lpb rc_tScan_b1.eq_1]
        simp only [sim, List.length_cons, List.length_nil, Nat.reduceAdd, Nat.reduceSub, List.replicate, List.cons_append, List.nil_append, List.map_cons, List.map_nil, Option.bind_some, Option.map_some, Option.bind_none, Option.map_none, if_true, if_false, decide_true, decide_false, Bool.false_eq_true, Bool.true_eq_false, Bool.not_true, Bool.not_false, reduceCtorEq, Bool.and_true, Bool.true_and, Bool.and_false, Bool.false_and, Bool.or_true, Bool.true_or, Bool.or_false, Bool.false_or, true_and, and_true, false_and, and_false, List.take_zero, List.take_succ_cons, List.drop_zero, List.drop_succ_cons, List.take_nil, List.drop_nil, List.set_cons_zero, List.set_cons_succ, Nat.reduceLeDiff, Nat.reduceLT, Nat.zero_add, Nat.lt_add_one, Nat.le_refl, clearA, Int.toNat_natCast, hlt, e1, e2, kt, w1, ru, w2, Int.reduceEq]
        refine next (a + t.text.length + blanks (s.drop (a + t.text.length)), acc ++ [t]) _ _ (by simp only; omega) ⟨_, _, _, _, _, rfl, ?_, g2, so3, fun c r e => ?_⟩
        · simp only [rowsT, List.map_append, List.map_cons, List.map_nil] at a2 ⊢
          exact a2
        · simp only at e
          rw [← List.drop_drop] at e
          exact drop_blanks _ e
end
end Go.Proofs.YtngphebjmmencaaDoor
