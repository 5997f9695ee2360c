/- code in the plain model: the judge. code in the plain model: what the judge says of an expression. code in the plain model: the judge and the document go through an expression. -/
import Derived.Test.YtodehiopdkgoeaaDoorCodeS6
import Derived.Test.YtodehiopdkgoeaaDoorCRights
namespace Go.Proofs.YtodehiopdkgoeaaDoor
set_option linter.unusedSimpArgs false
set_option linter.unusedVariables false
open Go

/-- the first fault stays -/
def orF (c d : Int) : Int := if c = 0 then d else c
theorem orF_0 (d : Int) : orF 0 d = d := rfl
theorem orF_z (c : Int) : orF c 0 = c := by unfold orF; split <;> simp_all
theorem orF_ne {c : Int} (h : c ≠ 0) (d : Int) : orF c d = c := if_neg h
theorem orF_assoc (a b c : Int) : orF (orF a b) c = orF a (orF b c) := by
  unfold orF
  by_cases h : a = 0 <;> simp [h]

/-- only what a judge holds has turned: the fault is c -/
structure JH (b : Nat) (mv : AV) (c : Int) (h h' : AH) : Prop where
  n : h.n ≤ h'.n
  ids : h.ids ≤ h'.ids
  old : ∀ k, k < h.n → k ≠ b → h'.cell k = h.cell k
  hw : ∀ k, k < h.ids → h'.hw k = h.hw k
  j : h'.cell b = some [[mv, .int .i64 c]]
theorem JH.refl {b : Nat} {mv : AV} {c : Int} {h : AH} (hb : h.cell b = some [[mv, .int .i64 c]]) : JH b mv c h h := ⟨Nat.le_refl _, Nat.le_refl _, fun _ _ _ => rfl, fun _ _ => rfl, hb⟩
theorem JH.trans {b : Nat} {mv : AV} {c c' : Int} {h h' h'' : AH} (x : JH b mv c h h') (y : JH b mv c' h' h'') : JH b mv c' h h'' :=
  ⟨Nat.le_trans x.n y.n, Nat.le_trans x.ids y.ids, fun k hk hn => (y.old k (Nat.lt_of_lt_of_le hk x.n) hn).trans (x.old k hk hn), fun k hk => (y.hw k (Nat.lt_of_lt_of_le hk x.ids)).trans (x.hw k hk), y.j⟩
theorem JH.push {b : Nat} {mv : AV} {c : Int} {h : AH} (hb : h.cell b = some [[mv, .int .i64 c]]) (hlt : b < h.n) (es : List (List AV)) : JH b mv c h (h.push es) :=
  ⟨by simp [AH.push], by simp [AH.push], fun k hk _ => push_lt hk, fun _ _ => rfl, (push_lt hlt).trans hb⟩
theorem JH.grew {b : Nat} {mv : AV} {c : Int} {h0 h h' : AH} (g : GrewA h0 h) (hb : h0.n ≤ b) (x : JH b mv c h h') : GrewA h0 h' :=
  ⟨Nat.le_trans g.n x.n, Nat.le_trans g.ids x.ids, fun k hk => (x.old k (Nat.lt_of_lt_of_le hk g.n) (by omega)).trans (g.cell k hk), fun k hk => (x.hw k (Nat.lt_of_lt_of_le hk g.ids)).trans (g.hw k hk)⟩

section
variable {h : AH} {b : Nat} {mv : AV} {c : Int}
theorem jfail_run (hb : h.cell b = some [[mv, .int .i64 c]]) (is : Bool) (d : Int) :
    ∃ h', runF Tryd.prog po 63 [.ptr b 0 0, .bool is, .int .i64 d] h = some (.inl (.tup []), h') ∧ JH b mv (orF c (if is then d else 0)) h h' := by
  cases is
  · refine ⟨h, ?_, by rw [if_neg (by simp), orF_z]; exact JH.refl hb⟩
    refine runF_R fn_jfail rfl ?_; unfold rc_jfail
    simp only [sim, List.length_cons, List.length_nil, Nat.reduceAdd, Nat.reduceSub, List.replicate, List.cons_append, List.nil_append, List.map_cons, List.map_nil, Option.bind_some, Option.map_some, Option.bind_none, Option.map_none, if_true, if_false, decide_true, decide_false, Bool.false_eq_true, Bool.true_eq_false, Bool.not_true, Bool.not_false, reduceCtorEq, Bool.and_true, Bool.true_and, Bool.and_false, Bool.false_and, Bool.or_true, Bool.true_or, Bool.or_false, Bool.false_or, true_and, and_true, false_and, and_false, List.take_zero, List.take_succ_cons, List.drop_zero, List.drop_succ_cons, List.take_nil, List.drop_nil, List.set_cons_zero, List.set_cons_succ, Nat.reduceLeDiff, Nat.reduceLT, Nat.zero_add, Nat.lt_add_one, Nat.le_refl, clearA, Int.toNat_natCast]
  · by_cases hc : c = 0
    · subst hc
      refine ⟨h.set b (some [[mv, .int .i64 d]]), ?_, ⟨Nat.le_refl _, Nat.le_refl _, fun k _ hn => set_ne hn, fun _ _ => rfl, by rw [set_same]; rfl⟩⟩
      refine runF_R fn_jfail rfl ?_; unfold rc_jfail
      simp only [sim, List.length_cons, List.length_nil, Nat.reduceAdd, Nat.reduceSub, List.replicate, List.cons_append, List.nil_append, List.map_cons, List.map_nil, Option.bind_some, Option.map_some, Option.bind_none, Option.map_none, if_true, if_false, decide_true, decide_false, Bool.false_eq_true, Bool.true_eq_false, Bool.not_true, Bool.not_false, reduceCtorEq, Bool.and_true, Bool.true_and, Bool.and_false, Bool.false_and, Bool.or_true, Bool.true_or, Bool.or_false, Bool.false_or, true_and, and_true, false_and, and_false, List.take_zero, List.take_succ_cons, List.drop_zero, List.drop_succ_cons, List.take_nil, List.drop_nil, List.set_cons_zero, List.set_cons_succ, Nat.reduceLeDiff, Nat.reduceLT, Nat.zero_add, Nat.lt_add_one, Nat.le_refl, clearA, Int.toNat_natCast, hb, eq_self]
    · refine ⟨h, ?_, by rw [orF_ne hc]; exact JH.refl hb⟩
      refine runF_R fn_jfail rfl ?_; unfold rc_jfail
      simp only [sim, List.length_cons, List.length_nil, Nat.reduceAdd, Nat.reduceSub, List.replicate, List.cons_append, List.nil_append, List.map_cons, List.map_nil, Option.bind_some, Option.map_some, Option.bind_none, Option.map_none, if_true, if_false, decide_true, decide_false, Bool.false_eq_true, Bool.true_eq_false, Bool.not_true, Bool.not_false, reduceCtorEq, Bool.and_true, Bool.true_and, Bool.and_false, Bool.false_and, Bool.or_true, Bool.true_or, Bool.or_false, Bool.false_or, true_and, and_true, false_and, and_false, List.take_zero, List.take_succ_cons, List.drop_zero, List.drop_succ_cons, List.take_nil, List.drop_nil, List.set_cons_zero, List.set_cons_succ, Nat.reduceLeDiff, Nat.reduceLT, Nat.zero_add, Nat.lt_add_one, Nat.le_refl, clearA, Int.toNat_natCast, hb, hc]

/-- the numbers, looked at as the judge does -/
def nums2 (nf op k o : Int) : Int :=
  if op = 4 then (if k < 0 ∨ o ≤ k then 1 else 0)
  else if op = 6 then (if k < 1 ∨ 5 < k then 1 else 0)
  else if op = 15 then (if k < 0 ∨ 15 < k then 1 else 0)
  else if op = 18 then (if k < 0 ∨ nf ≤ k then 1 else 0)
  else if k ≠ 0 then 5 else 0
theorem nums_eq (nf op k n o : Int) : numsX nf op k n o = orF (if n ≠ 0 ∧ op ≠ 2 then 5 else 0) (nums2 nf op k o) := by
  unfold numsX
  by_cases h1 : n ≠ 0 ∧ op ≠ 2
  · rw [if_pos h1, if_pos h1]; rfl
  · rw [if_neg h1, if_neg h1]; rfl
theorem w_rCheck (k : Int) : runF Tryd.prog po 99 [.int .i64 k] h = some (.inl (.bool (!decide (k < 0 ∨ 15 < k))), h) := by
  refine runF_R fn_rCheck rfl ?_; unfold rc_rCheck
  by_cases h0 : 0 ≤ k
  · by_cases h1 : k ≤ 15
    · have e : decide (k < 0 ∨ 15 < k) = false := by rw [decide_eq_false_iff_not]; omega
      simp only [sim, List.length_cons, List.length_nil, Nat.reduceAdd, Nat.reduceSub, List.replicate, List.cons_append, List.nil_append, List.map_cons, List.map_nil, Option.bind_some, Option.map_some, Option.bind_none, Option.map_none, if_true, if_false, decide_true, decide_false, Bool.false_eq_true, Bool.true_eq_false, Bool.not_true, Bool.not_false, reduceCtorEq, Bool.and_true, Bool.true_and, Bool.and_false, Bool.false_and, Bool.or_true, Bool.true_or, Bool.or_false, Bool.false_or, true_and, and_true, false_and, and_false, List.take_zero, List.take_succ_cons, List.drop_zero, List.drop_succ_cons, List.take_nil, List.drop_nil, List.set_cons_zero, List.set_cons_succ, Nat.reduceLeDiff, Nat.reduceLT, Nat.zero_add, Nat.lt_add_one, Nat.le_refl, clearA, Int.toNat_natCast, h0, h1, e]
    · have e : decide (k < 0 ∨ 15 < k) = true := by rw [decide_eq_true_eq]; omega
      simp only [sim, List.length_cons, List.length_nil, Nat.reduceAdd, Nat.reduceSub, List.replicate, List.cons_append, List.nil_append, List.map_cons, List.map_nil, Option.bind_some, Option.map_some, Option.bind_none, Option.map_none, if_true, if_false, decide_true, decide_false, Bool.false_eq_true, Bool.true_eq_false, Bool.not_true, Bool.not_false, reduceCtorEq, Bool.and_true, Bool.true_and, Bool.and_false, Bool.false_and, Bool.or_true, Bool.true_or, Bool.or_false, Bool.false_or, true_and, and_true, false_and, and_false, List.take_zero, List.take_succ_cons, List.drop_zero, List.drop_succ_cons, List.take_nil, List.drop_nil, List.set_cons_zero, List.set_cons_succ, Nat.reduceLeDiff, Nat.reduceLT, Nat.zero_add, Nat.lt_add_one, Nat.le_refl, clearA, Int.toNat_natCast, h0, h1, e]
  · have e : decide (k < 0 ∨ 15 < k) = true := by rw [decide_eq_true_eq]; omega
    simp only [sim, List.length_cons, List.length_nil, Nat.reduceAdd, Nat.reduceSub, List.replicate, List.cons_append, List.nil_append, List.map_cons, List.map_nil, Option.bind_some, Option.map_some, Option.bind_none, Option.map_none, if_true, if_false, decide_true, decide_false, Bool.false_eq_true, Bool.true_eq_false, Bool.not_true, Bool.not_false, reduceCtorEq, Bool.and_true, Bool.true_and, Bool.and_false, Bool.false_and, Bool.or_true, Bool.true_or, Bool.or_false, Bool.false_or, true_and, and_true, false_and, and_false, List.take_zero, List.take_succ_cons, List.drop_zero, List.drop_succ_cons, List.take_nil, List.drop_nil, List.set_cons_zero, List.set_cons_succ, Nat.reduceLeDiff, Nat.reduceLT, Nat.zero_add, Nat.lt_add_one, Nat.le_refl, clearA, Int.toNat_natCast, h0, e]
end
end Go.Proofs.YtodehiopdkgoeaaDoor
namespace Go.Proofs.YtodehiopdkgoeaaDoor
set_option linter.unusedSimpArgs false
set_option linter.unusedVariables false
open Go

section
variable {h : AH} {b : Nat} {mv : AV} {c : Int}
theorem jn_first (hb : h.cell b = some [[mv, .int .i64 c]]) (op k n : Int) (v : AV) (q : Nat) (hq : h.cell q = some [[.int .i64 op, .int .i64 k, .int .i64 n, v]]) (v1 v2 v4 v5 v6 v7 v8 : AV) (rest : List RS) (K : List RK) :
    ∃ h1, runR (runF Tryd.prog po) 9 (.ss ((.ops [(.i .l (.mv (.v 0))), (.i .l (.fad 2 (.v 3))), (.i .l (.load false 1 (.l 0))), (.i .l (.bin (.int .i64) .neq (.l 0) (.c (.int .i64 0)))), (.i .l (.mv (.l 0))), (.g (.l 0) true .l (.fad 0 (.v 3))), (.g (.l 1) true .l (.load false 1 (.l 0))), (.g (.l 2) true .l (.bin (.int .i64) .neq (.l 0) (.c (.int .i64 2)))), (.i .l (.pick (.l 3) (.l 0) (.c (.bool false)))), (.i .l (.call (.c (.fn 63 [] [])) [(.l 8), (.l 0), (.c (.int .i64 5))]))]) :: rest) :: K) [.ptr b 0 0, v1, v2, .ptr q 0 0, v4, v5, v6, v7, v8] [] h = runR (runF Tryd.prog po) 9 (.ss rest :: K) [.ptr b 0 0, v1, v2, .ptr q 0 0, v4, v5, v6, v7, v8] [] h1 ∧
      JH b mv (orF c (if n ≠ 0 ∧ op ≠ 2 then 5 else 0)) h h1 := by
  obtain ⟨h1, r1, j1⟩ := jfail_run hb (!decide (n = 0) && !decide (op = 2)) 5
  refine ⟨h1, ?_, ?_⟩
  · cases e1 : decide (n = 0) <;> cases e2 : decide (op = 2) <;> simp only [e1, e2, Bool.not_true, Bool.not_false, Bool.and_true, Bool.and_false] at r1 <;> simp only [sim, List.length_cons, List.length_nil, Nat.reduceAdd, Nat.reduceSub, List.replicate, List.cons_append, List.nil_append, List.map_cons, List.map_nil, Option.bind_some, Option.map_some, Option.bind_none, Option.map_none, if_true, if_false, decide_true, decide_false, Bool.false_eq_true, Bool.true_eq_false, Bool.not_true, Bool.not_false, reduceCtorEq, Bool.and_true, Bool.true_and, Bool.and_false, Bool.false_and, Bool.or_true, Bool.true_or, Bool.or_false, Bool.false_or, true_and, and_true, false_and, and_false, List.take_zero, List.take_succ_cons, List.drop_zero, List.drop_succ_cons, List.take_nil, List.drop_nil, List.set_cons_zero, List.set_cons_succ, Nat.reduceLeDiff, Nat.reduceLT, Nat.zero_add, Nat.lt_add_one, Nat.le_refl, clearA, Int.toNat_natCast, hq, e1, e2, r1]
  · have e : (if (!decide (n = 0) && !decide (op = 2)) = true then (5 : Int) else 0) = if n ≠ 0 ∧ op ≠ 2 then 5 else 0 := by simp
    rw [e] at j1
    exact j1
theorem jn_second (hb : h.cell b = some [[mv, .int .i64 c]]) {nf : Nat} (hm : lenA mv = some nf) (hft : ∀ s, fitsR s (some tE) mv = true) (op k n o : Int) (v : AV) (q : Nat) (hx : h.cell q = some [[.int .i64 op, .int .i64 k, .int .i64 n, v]]) (H : AH) (v1 v4 v5 v6 v7 v8 : AV) :
    ∃ h1, cFR false [] H (runR (runF Tryd.prog po) 9 [.ss [(.ops [(.i .l (.fad 0 (.v 3))), (.i (.v 4) (.load false 1 (.l 0)))]), (.block 0 [(.ops [(.i .l (.bin (.int .i64) .eql (.v 4) (.c (.int .i64 4)))), (.i (.v 5) (.mv (.l 0)))]), (.cond (.v 5) [(.ops [(.i .l (.mv (.v 0))), (.i .l (.fad 1 (.v 3))), (.i .l (.load false 1 (.l 0))), (.i .l (.bin (.int .i64) .lss (.l 0) (.c (.int .i64 0)))), (.i .l (.mv (.l 0))), (.g (.l 0) false .l (.fad 1 (.v 3))), (.g (.l 1) false .l (.load false 1 (.l 0))), (.g (.l 2) false .l (.mv (.v 2))), (.g (.l 3) false .l (.bin (.int .i64) .geq (.l 1) (.l 0))), (.i .l (.pick (.l 4) (.c (.bool true)) (.l 0))), (.i .l (.call (.c (.fn 63 [] [])) [(.l 9), (.l 0), (.c (.int .i64 1))]))])] [(.ops [(.i .l (.bin (.int .i64) .eql (.v 4) (.c (.int .i64 6)))), (.i (.v 6) (.mv (.l 0)))]), (.cond (.v 6) [(.ops [(.i .l (.mv (.v 0))), (.i .l (.fad 1 (.v 3))), (.i .l (.load false 1 (.l 0))), (.i .l (.bin (.int .i64) .lss (.l 0) (.c (.int .i64 1)))), (.i .l (.mv (.l 0))), (.g (.l 0) false .l (.fad 1 (.v 3))), (.g (.l 1) false .l (.load false 1 (.l 0))), (.g (.l 2) false .l (.bin (.int .i64) .gtr (.l 0) (.c (.int .i64 5)))), (.i .l (.pick (.l 3) (.c (.bool true)) (.l 0))), (.i .l (.call (.c (.fn 63 [] [])) [(.l 8), (.l 0), (.c (.int .i64 1))]))])] [(.ops [(.i .l (.bin (.int .i64) .eql (.v 4) (.c (.int .i64 15)))), (.i (.v 7) (.mv (.l 0)))]), (.cond (.v 7) [(.ops [(.i .l (.mv (.v 0))), (.i .l (.fad 1 (.v 3))), (.i .l (.load false 1 (.l 0))), (.i .l (.call (.c (.fn 99 [] [])) [(.l 0)])), (.i .l (.un .not (.l 0))), (.i .l (.call (.c (.fn 63 [] [])) [(.l 4), (.l 0), (.c (.int .i64 1))]))])] [(.ops [(.i .l (.bin (.int .i64) .eql (.v 4) (.c (.int .i64 18)))), (.i (.v 8) (.mv (.l 0)))]), (.cond (.v 8) [(.ops [(.i .l (.mv (.v 0))), (.i .l (.fad 1 (.v 3))), (.i .l (.load false 1 (.l 0))), (.i .l (.bin (.int .i64) .lss (.l 0) (.c (.int .i64 0)))), (.i .l (.mv (.l 0))), (.g (.l 0) false .l (.fad 1 (.v 3))), (.g (.l 1) false .l (.load false 1 (.l 0))), (.g (.l 2) false .l (.mv (.v 0))), (.g (.l 3) false .l (.nilc (.l 0))), (.g (.l 4) false .l (.fad 0 (.l 0))), (.g (.l 5) false .l (.fad 0 (.l 0))), (.g (.l 6) false .l (.load false 1 (.l 0))), (.g (.l 7) false .l (.len false (some 62) (.l 0))), (.g (.l 8) false .l (.bin (.int .i64) .geq (.l 6) (.l 0))), (.i .l (.pick (.l 9) (.c (.bool true)) (.l 0))), (.i .l (.call (.c (.fn 63 [] [])) [(.l 14), (.l 0), (.c (.int .i64 1))]))])] [(.ops [(.i .l (.mv (.v 0))), (.i .l (.fad 1 (.v 3))), (.i .l (.load false 1 (.l 0))), (.i .l (.bin (.int .i64) .neq (.l 0) (.c (.int .i64 0)))), (.i .l (.call (.c (.fn 63 [] [])) [(.l 3), (.l 0), (.c (.int .i64 5))]))])])])])])])]] [.ptr b 0 0, v1, .int .i64 o, .ptr q 0 0, v4, v5, v6, v7, v8] [] h) = some (.inl (.tup []), h1) ∧
      JH b mv (orF c (nums2 nf op k o)) h h1 := by
  have hj := hb
  have j1 := JH.refl hb
  by_cases h4 : op = 4
  · subst h4
    obtain ⟨h2, r2, j2⟩ := jfail_run j1.j (decide (k < 0 ∨ o ≤ k)) 1
    refine ⟨h2, ?_, ?_⟩
    · by_cases hk : k < 0
      · have e : decide (k < 0 ∨ o ≤ k) = true := by rw [decide_eq_true_eq]; omega
        rw [e] at r2
        simp only [sim, List.length_cons, List.length_nil, Nat.reduceAdd, Nat.reduceSub, List.replicate, List.cons_append, List.nil_append, List.map_cons, List.map_nil, Option.bind_some, Option.map_some, Option.bind_none, Option.map_none, if_true, if_false, decide_true, decide_false, Bool.false_eq_true, Bool.true_eq_false, Bool.not_true, Bool.not_false, reduceCtorEq, Bool.and_true, Bool.true_and, Bool.and_false, Bool.false_and, Bool.or_true, Bool.true_or, Bool.or_false, Bool.false_or, true_and, and_true, false_and, and_false, List.take_zero, List.take_succ_cons, List.drop_zero, List.drop_succ_cons, List.take_nil, List.drop_nil, List.set_cons_zero, List.set_cons_succ, Nat.reduceLeDiff, Nat.reduceLT, Nat.zero_add, Nat.lt_add_one, Nat.le_refl, clearA, Int.toNat_natCast, Int.reduceEq,  hx, hk, r2]
      · by_cases hu : o ≤ k
        · have e : decide (k < 0 ∨ o ≤ k) = true := by rw [decide_eq_true_eq]; omega
          rw [e] at r2
          simp only [sim, List.length_cons, List.length_nil, Nat.reduceAdd, Nat.reduceSub, List.replicate, List.cons_append, List.nil_append, List.map_cons, List.map_nil, Option.bind_some, Option.map_some, Option.bind_none, Option.map_none, if_true, if_false, decide_true, decide_false, Bool.false_eq_true, Bool.true_eq_false, Bool.not_true, Bool.not_false, reduceCtorEq, Bool.and_true, Bool.true_and, Bool.and_false, Bool.false_and, Bool.or_true, Bool.true_or, Bool.or_false, Bool.false_or, true_and, and_true, false_and, and_false, List.take_zero, List.take_succ_cons, List.drop_zero, List.drop_succ_cons, List.take_nil, List.drop_nil, List.set_cons_zero, List.set_cons_succ, Nat.reduceLeDiff, Nat.reduceLT, Nat.zero_add, Nat.lt_add_one, Nat.le_refl, clearA, Int.toNat_natCast, Int.reduceEq,  hx, hj, hm, hft, hk, hu, r2]
        · have e : decide (k < 0 ∨ o ≤ k) = false := by rw [decide_eq_false_iff_not]; omega
          rw [e] at r2
          simp only [sim, List.length_cons, List.length_nil, Nat.reduceAdd, Nat.reduceSub, List.replicate, List.cons_append, List.nil_append, List.map_cons, List.map_nil, Option.bind_some, Option.map_some, Option.bind_none, Option.map_none, if_true, if_false, decide_true, decide_false, Bool.false_eq_true, Bool.true_eq_false, Bool.not_true, Bool.not_false, reduceCtorEq, Bool.and_true, Bool.true_and, Bool.and_false, Bool.false_and, Bool.or_true, Bool.true_or, Bool.or_false, Bool.false_or, true_and, and_true, false_and, and_false, List.take_zero, List.take_succ_cons, List.drop_zero, List.drop_succ_cons, List.take_nil, List.drop_nil, List.set_cons_zero, List.set_cons_succ, Nat.reduceLeDiff, Nat.reduceLT, Nat.zero_add, Nat.lt_add_one, Nat.le_refl, clearA, Int.toNat_natCast, Int.reduceEq,  hx, hj, hm, hft, hk, hu, r2]
    · have e2 : nums2 nf 4 k o = if decide (k < 0 ∨ o ≤ k) = true then 1 else 0 := by simp [nums2]
      rw [e2]
      exact j1.trans j2
  by_cases h6 : op = 6
  · subst h6
    obtain ⟨h2, r2, j2⟩ := jfail_run j1.j (decide (k < 1 ∨ 5 < k)) 1
    refine ⟨h2, ?_, ?_⟩
    · by_cases hk : k < 1
      · have e : decide (k < 1 ∨ 5 < k) = true := by rw [decide_eq_true_eq]; omega
        rw [e] at r2
        simp only [sim, List.length_cons, List.length_nil, Nat.reduceAdd, Nat.reduceSub, List.replicate, List.cons_append, List.nil_append, List.map_cons, List.map_nil, Option.bind_some, Option.map_some, Option.bind_none, Option.map_none, if_true, if_false, decide_true, decide_false, Bool.false_eq_true, Bool.true_eq_false, Bool.not_true, Bool.not_false, reduceCtorEq, Bool.and_true, Bool.true_and, Bool.and_false, Bool.false_and, Bool.or_true, Bool.true_or, Bool.or_false, Bool.false_or, true_and, and_true, false_and, and_false, List.take_zero, List.take_succ_cons, List.drop_zero, List.drop_succ_cons, List.take_nil, List.drop_nil, List.set_cons_zero, List.set_cons_succ, Nat.reduceLeDiff, Nat.reduceLT, Nat.zero_add, Nat.lt_add_one, Nat.le_refl, clearA, Int.toNat_natCast, Int.reduceEq,  hx, hk, r2]
      · by_cases hu : 5 < k
        · have e : decide (k < 1 ∨ 5 < k) = true := by rw [decide_eq_true_eq]; omega
          rw [e] at r2
          simp only [sim, List.length_cons, List.length_nil, Nat.reduceAdd, Nat.reduceSub, List.replicate, List.cons_append, List.nil_append, List.map_cons, List.map_nil, Option.bind_some, Option.map_some, Option.bind_none, Option.map_none, if_true, if_false, decide_true, decide_false, Bool.false_eq_true, Bool.true_eq_false, Bool.not_true, Bool.not_false, reduceCtorEq, Bool.and_true, Bool.true_and, Bool.and_false, Bool.false_and, Bool.or_true, Bool.true_or, Bool.or_false, Bool.false_or, true_and, and_true, false_and, and_false, List.take_zero, List.take_succ_cons, List.drop_zero, List.drop_succ_cons, List.take_nil, List.drop_nil, List.set_cons_zero, List.set_cons_succ, Nat.reduceLeDiff, Nat.reduceLT, Nat.zero_add, Nat.lt_add_one, Nat.le_refl, clearA, Int.toNat_natCast, Int.reduceEq,  hx, hj, hm, hft, hk, hu, r2]
        · have e : decide (k < 1 ∨ 5 < k) = false := by rw [decide_eq_false_iff_not]; omega
          rw [e] at r2
          simp only [sim, List.length_cons, List.length_nil, Nat.reduceAdd, Nat.reduceSub, List.replicate, List.cons_append, List.nil_append, List.map_cons, List.map_nil, Option.bind_some, Option.map_some, Option.bind_none, Option.map_none, if_true, if_false, decide_true, decide_false, Bool.false_eq_true, Bool.true_eq_false, Bool.not_true, Bool.not_false, reduceCtorEq, Bool.and_true, Bool.true_and, Bool.and_false, Bool.false_and, Bool.or_true, Bool.true_or, Bool.or_false, Bool.false_or, true_and, and_true, false_and, and_false, List.take_zero, List.take_succ_cons, List.drop_zero, List.drop_succ_cons, List.take_nil, List.drop_nil, List.set_cons_zero, List.set_cons_succ, Nat.reduceLeDiff, Nat.reduceLT, Nat.zero_add, Nat.lt_add_one, Nat.le_refl, clearA, Int.toNat_natCast, Int.reduceEq,  hx, hj, hm, hft, hk, hu, r2]
    · have e2 : nums2 nf 6 k o = if decide (k < 1 ∨ 5 < k) = true then 1 else 0 := by simp [nums2]
      rw [e2]
      exact j1.trans j2
  by_cases h15 : op = 15
  · subst h15
    obtain ⟨h2, r2, j2⟩ := jfail_run j1.j (decide (k < 0 ∨ 15 < k)) 1
    refine ⟨h2, ?_, ?_⟩
    · have w := w_rCheck (h := h) k
      simp only [sim, List.length_cons, List.length_nil, Nat.reduceAdd, Nat.reduceSub, List.replicate, List.cons_append, List.nil_append, List.map_cons, List.map_nil, Option.bind_some, Option.map_some, Option.bind_none, Option.map_none, if_true, if_false, decide_true, decide_false, Bool.false_eq_true, Bool.true_eq_false, Bool.not_true, Bool.not_false, reduceCtorEq, Bool.and_true, Bool.true_and, Bool.and_false, Bool.false_and, Bool.or_true, Bool.true_or, Bool.or_false, Bool.false_or, true_and, and_true, false_and, and_false, List.take_zero, List.take_succ_cons, List.drop_zero, List.drop_succ_cons, List.take_nil, List.drop_nil, List.set_cons_zero, List.set_cons_succ, Nat.reduceLeDiff, Nat.reduceLT, Nat.zero_add, Nat.lt_add_one, Nat.le_refl, clearA, Int.toNat_natCast, Int.reduceEq, hx, w, Bool.not_not, r2]
    · have e2 : nums2 nf 15 k o = if decide (k < 0 ∨ 15 < k) = true then 1 else 0 := by simp [nums2]
      rw [e2]
      exact j1.trans j2
  by_cases h18 : op = 18
  · subst h18
    obtain ⟨h2, r2, j2⟩ := jfail_run j1.j (decide (k < 0 ∨ (nf : Int) ≤ k)) 1
    refine ⟨h2, ?_, ?_⟩
    · by_cases hk : k < 0
      · have e : decide (k < 0 ∨ (nf : Int) ≤ k) = true := by rw [decide_eq_true_eq]; omega
        rw [e] at r2
        simp only [sim, List.length_cons, List.length_nil, Nat.reduceAdd, Nat.reduceSub, List.replicate, List.cons_append, List.nil_append, List.map_cons, List.map_nil, Option.bind_some, Option.map_some, Option.bind_none, Option.map_none, if_true, if_false, decide_true, decide_false, Bool.false_eq_true, Bool.true_eq_false, Bool.not_true, Bool.not_false, reduceCtorEq, Bool.and_true, Bool.true_and, Bool.and_false, Bool.false_and, Bool.or_true, Bool.true_or, Bool.or_false, Bool.false_or, true_and, and_true, false_and, and_false, List.take_zero, List.take_succ_cons, List.drop_zero, List.drop_succ_cons, List.take_nil, List.drop_nil, List.set_cons_zero, List.set_cons_succ, Nat.reduceLeDiff, Nat.reduceLT, Nat.zero_add, Nat.lt_add_one, Nat.le_refl, clearA, Int.toNat_natCast, Int.reduceEq,  hx, hk, r2]
      · by_cases hu : (nf : Int) ≤ k
        · have e : decide (k < 0 ∨ (nf : Int) ≤ k) = true := by rw [decide_eq_true_eq]; omega
          rw [e] at r2
          simp only [sim, List.length_cons, List.length_nil, Nat.reduceAdd, Nat.reduceSub, List.replicate, List.cons_append, List.nil_append, List.map_cons, List.map_nil, Option.bind_some, Option.map_some, Option.bind_none, Option.map_none, if_true, if_false, decide_true, decide_false, Bool.false_eq_true, Bool.true_eq_false, Bool.not_true, Bool.not_false, reduceCtorEq, Bool.and_true, Bool.true_and, Bool.and_false, Bool.false_and, Bool.or_true, Bool.true_or, Bool.or_false, Bool.false_or, true_and, and_true, false_and, and_false, List.take_zero, List.take_succ_cons, List.drop_zero, List.drop_succ_cons, List.take_nil, List.drop_nil, List.set_cons_zero, List.set_cons_succ, Nat.reduceLeDiff, Nat.reduceLT, Nat.zero_add, Nat.lt_add_one, Nat.le_refl, clearA, Int.toNat_natCast, Int.reduceEq,  hx, hj, hm, hft, hk, hu, r2]
        · have e : decide (k < 0 ∨ (nf : Int) ≤ k) = false := by rw [decide_eq_false_iff_not]; omega
          rw [e] at r2
          simp only [sim, List.length_cons, List.length_nil, Nat.reduceAdd, Nat.reduceSub, List.replicate, List.cons_append, List.nil_append, List.map_cons, List.map_nil, Option.bind_some, Option.map_some, Option.bind_none, Option.map_none, if_true, if_false, decide_true, decide_false, Bool.false_eq_true, Bool.true_eq_false, Bool.not_true, Bool.not_false, reduceCtorEq, Bool.and_true, Bool.true_and, Bool.and_false, Bool.false_and, Bool.or_true, Bool.true_or, Bool.or_false, Bool.false_or, true_and, and_true, false_and, and_false, List.take_zero, List.take_succ_cons, List.drop_zero, List.drop_succ_cons, List.take_nil, List.drop_nil, List.set_cons_zero, List.set_cons_succ, Nat.reduceLeDiff, Nat.reduceLT, Nat.zero_add, Nat.lt_add_one, Nat.le_refl, clearA, Int.toNat_natCast, Int.reduceEq,  hx, hj, hm, hft, hk, hu, r2]
    · have e2 : nums2 nf 18 k o = if decide (k < 0 ∨ (nf : Int) ≤ k) = true then 1 else 0 := by simp [nums2]
      rw [e2]
      exact j1.trans j2
  obtain ⟨h2, r2, j2⟩ := jfail_run j1.j (!decide (k = 0)) 5
  refine ⟨h2, ?_, ?_⟩
  · simp only [sim, List.length_cons, List.length_nil, Nat.reduceAdd, Nat.reduceSub, List.replicate, List.cons_append, List.nil_append, List.map_cons, List.map_nil, Option.bind_some, Option.map_some, Option.bind_none, Option.map_none, if_true, if_false, decide_true, decide_false, Bool.false_eq_true, Bool.true_eq_false, Bool.not_true, Bool.not_false, reduceCtorEq, Bool.and_true, Bool.true_and, Bool.and_false, Bool.false_and, Bool.or_true, Bool.true_or, Bool.or_false, Bool.false_or, true_and, and_true, false_and, and_false, List.take_zero, List.take_succ_cons, List.drop_zero, List.drop_succ_cons, List.take_nil, List.drop_nil, List.set_cons_zero, List.set_cons_succ, Nat.reduceLeDiff, Nat.reduceLT, Nat.zero_add, Nat.lt_add_one, Nat.le_refl, clearA, Int.toNat_natCast, hx, h4, h6, h15, h18, r2]
  · have e2 : nums2 nf op k o = if (!decide (k = 0)) = true then 5 else 0 := by simp [nums2, h4, h6, h15, h18]
    rw [e2]
    exact j1.trans j2
theorem jnumbers_run (hb : h.cell b = some [[mv, .int .i64 c]]) (hlt : b < h.n) {nf : Nat} (hm : lenA mv = some nf) (hft : ∀ s, fitsR s (some tE) mv = true) (op k n o : Int) (v : AV) (hv : v.one = true) :
    ∃ h', runF Tryd.prog po 86 [.ptr b 0 0, .agg [.int .i64 op, .int .i64 k, .int .i64 n, v], .int .i64 o] h = some (.inl (.tup []), h') ∧ JH b mv (orF c (numsX nf op k n o)) h h' := by
  have p := JH.push (c := c) hb hlt [[.int .i64 op, .int .i64 k, .int .i64 n, v]]
  obtain ⟨h1, r1, j1⟩ := jn_first p.j op k n v h.n push_same (.agg [.int .i64 op, .int .i64 k, .int .i64 n, v]) (.int .i64 o) .junk .junk .junk .junk .junk [(.ops [(.i .l (.fad 0 (.v 3))), (.i (.v 4) (.load false 1 (.l 0)))]), (.block 0 [(.ops [(.i .l (.bin (.int .i64) .eql (.v 4) (.c (.int .i64 4)))), (.i (.v 5) (.mv (.l 0)))]), (.cond (.v 5) [(.ops [(.i .l (.mv (.v 0))), (.i .l (.fad 1 (.v 3))), (.i .l (.load false 1 (.l 0))), (.i .l (.bin (.int .i64) .lss (.l 0) (.c (.int .i64 0)))), (.i .l (.mv (.l 0))), (.g (.l 0) false .l (.fad 1 (.v 3))), (.g (.l 1) false .l (.load false 1 (.l 0))), (.g (.l 2) false .l (.mv (.v 2))), (.g (.l 3) false .l (.bin (.int .i64) .geq (.l 1) (.l 0))), (.i .l (.pick (.l 4) (.c (.bool true)) (.l 0))), (.i .l (.call (.c (.fn 63 [] [])) [(.l 9), (.l 0), (.c (.int .i64 1))]))])] [(.ops [(.i .l (.bin (.int .i64) .eql (.v 4) (.c (.int .i64 6)))), (.i (.v 6) (.mv (.l 0)))]), (.cond (.v 6) [(.ops [(.i .l (.mv (.v 0))), (.i .l (.fad 1 (.v 3))), (.i .l (.load false 1 (.l 0))), (.i .l (.bin (.int .i64) .lss (.l 0) (.c (.int .i64 1)))), (.i .l (.mv (.l 0))), (.g (.l 0) false .l (.fad 1 (.v 3))), (.g (.l 1) false .l (.load false 1 (.l 0))), (.g (.l 2) false .l (.bin (.int .i64) .gtr (.l 0) (.c (.int .i64 5)))), (.i .l (.pick (.l 3) (.c (.bool true)) (.l 0))), (.i .l (.call (.c (.fn 63 [] [])) [(.l 8), (.l 0), (.c (.int .i64 1))]))])] [(.ops [(.i .l (.bin (.int .i64) .eql (.v 4) (.c (.int .i64 15)))), (.i (.v 7) (.mv (.l 0)))]), (.cond (.v 7) [(.ops [(.i .l (.mv (.v 0))), (.i .l (.fad 1 (.v 3))), (.i .l (.load false 1 (.l 0))), (.i .l (.call (.c (.fn 99 [] [])) [(.l 0)])), (.i .l (.un .not (.l 0))), (.i .l (.call (.c (.fn 63 [] [])) [(.l 4), (.l 0), (.c (.int .i64 1))]))])] [(.ops [(.i .l (.bin (.int .i64) .eql (.v 4) (.c (.int .i64 18)))), (.i (.v 8) (.mv (.l 0)))]), (.cond (.v 8) [(.ops [(.i .l (.mv (.v 0))), (.i .l (.fad 1 (.v 3))), (.i .l (.load false 1 (.l 0))), (.i .l (.bin (.int .i64) .lss (.l 0) (.c (.int .i64 0)))), (.i .l (.mv (.l 0))), (.g (.l 0) false .l (.fad 1 (.v 3))), (.g (.l 1) false .l (.load false 1 (.l 0))), (.g (.l 2) false .l (.mv (.v 0))), (.g (.l 3) false .l (.nilc (.l 0))), (.g (.l 4) false .l (.fad 0 (.l 0))), (.g (.l 5) false .l (.fad 0 (.l 0))), (.g (.l 6) false .l (.load false 1 (.l 0))), (.g (.l 7) false .l (.len false (some 62) (.l 0))), (.g (.l 8) false .l (.bin (.int .i64) .geq (.l 6) (.l 0))), (.i .l (.pick (.l 9) (.c (.bool true)) (.l 0))), (.i .l (.call (.c (.fn 63 [] [])) [(.l 14), (.l 0), (.c (.int .i64 1))]))])] [(.ops [(.i .l (.mv (.v 0))), (.i .l (.fad 1 (.v 3))), (.i .l (.load false 1 (.l 0))), (.i .l (.bin (.int .i64) .neq (.l 0) (.c (.int .i64 0)))), (.i .l (.call (.c (.fn 63 [] [])) [(.l 3), (.l 0), (.c (.int .i64 5))]))])])])])])])] []
  obtain ⟨h2, r2, j2⟩ := jn_second j1.j hm hft op k n o v h.n (by rw [j1.old h.n (by simp [AH.push]) (by omega)]; exact push_same) h (.agg [.int .i64 op, .int .i64 k, .int .i64 n, v]) .junk .junk .junk .junk .junk
  refine ⟨h2, ?_, ?_⟩
  · refine runF_R fn_jnumbers rfl ?_; unfold rc_jnumbers
    rw [r_ops, r_box (by simp only [sim, List.length_cons, List.length_nil, Nat.reduceAdd, Nat.reduceSub, List.replicate, List.cons_append, List.nil_append, List.map_cons, List.map_nil, Option.bind_some, Option.map_some, Option.bind_none, Option.map_none, if_true, if_false, decide_true, decide_false, Bool.false_eq_true, Bool.true_eq_false, Bool.not_true, Bool.not_false, reduceCtorEq, Bool.and_true, Bool.true_and, Bool.and_false, Bool.false_and, Bool.or_true, Bool.true_or, Bool.or_false, Bool.false_or, true_and, and_true, false_and, and_false, List.take_zero, List.take_succ_cons, List.drop_zero, List.drop_succ_cons, List.take_nil, List.drop_nil, List.set_cons_zero, List.set_cons_succ, Nat.reduceLeDiff, Nat.reduceLT, Nat.zero_add, Nat.lt_add_one, Nat.le_refl, clearA, Int.toNat_natCast, hv]) (by simp only [sim, List.length_cons, List.length_nil, Nat.reduceAdd, Nat.reduceSub, List.replicate, List.cons_append, List.nil_append, List.map_cons, List.map_nil, Option.bind_some, Option.map_some, Option.bind_none, Option.map_none, if_true, if_false, decide_true, decide_false, Bool.false_eq_true, Bool.true_eq_false, Bool.not_true, Bool.not_false, reduceCtorEq, Bool.and_true, Bool.true_and, Bool.and_false, Bool.false_and, Bool.or_true, Bool.true_or, Bool.or_false, Bool.false_or, true_and, and_true, false_and, and_false, List.take_zero, List.take_succ_cons, List.drop_zero, List.drop_succ_cons, List.take_nil, List.drop_nil, List.set_cons_zero, List.set_cons_succ, Nat.reduceLeDiff, Nat.reduceLT, Nat.zero_add, Nat.lt_add_one, Nat.le_refl, clearA, Int.toNat_natCast]), r_ops_nil]
    exact (congrArg (cFR false [] h) r1).trans r2
  · rw [nums_eq, ← orF_assoc]
    exact (p.trans j1).trans j2
end
end Go.Proofs.YtodehiopdkgoeaaDoor
namespace Go.Proofs.YtodehiopdkgoeaaDoor
set_option linter.unusedSimpArgs false
set_option linter.unusedVariables false
open Go

theorem XD.fault_eq (nf : Int) (x : XD) (o : Int) : x.fault nf o = orF (headX nf x.op x.k x.n x.l.length o) (faultsX nf x.op 0 x.l o) := by
  cases x with
  | mk op k n l =>
    simp only [XD.fault, XD.op, XD.k, XD.n, XD.l, orF]
    by_cases hh : headX nf op k n l.length o = 0 <;> simp [hh]
theorem head_ne (nf k n : Int) (len : Nat) : headX nf 5 k n len 12 ≠ 0 := by
  unfold headX
  split
  · decide
  · split
    · decide
    · split
      · assumption
      · simp
theorem faultsX_cons (nf op : Int) (i : Nat) (x : XD) (l : List XD) (o : Int) : faultsX nf op i (x :: l) o = orF (x.fault nf (if op = 5 ∧ i = 1 then o + 1 else o)) (faultsX nf op (i + 1) l o) := by
  simp only [faultsX, orF]
  by_cases hh : x.fault nf (if op = 5 ∧ i = 1 then o + 1 else o) = 0 <;> simp [hh]
theorem head_eq (nf op k n : Int) (len : Nat) (o : Int) : headX nf op k n len o =
    orF (orF (orF (if decide (partsX op < 0) = true then 2 else 0) (if (!decide ((len : Int) = partsX op)) = true then 5 else 0)) (numsX nf op k n o)) (if (decide (op = 5) && decide (o = 12)) = true then 3 else 0) := by
  unfold headX orF
  by_cases h1 : partsX op < 0
  · simp [h1]
  · by_cases h2 : (len : Int) = partsX op
    · by_cases h3 : numsX nf op k n o = 0 <;> simp [h1, h2, h3]
    · simp [h1, h2]

section
variable {h : AH} {b : Nat} {mv : AV}
theorem jexpr_loop (hbn : b < h.n) (nf : Int) (x : XD) (v : AV) (m : ∀ h, ModV h v x.l) (hL : x.l.length ≤ 100000) (o : Int) (ho : 0 ≤ o) (ho2 : o ≤ 12) (H : AH)
    (hf : ∀ y ∈ x.l, ∀ (q : List AV) (h : AH) (o : Int), ExA y q → 0 ≤ o → o ≤ 12 → h.cell b = some [[mv, .int .i64 0]] → b < h.n → ∃ h', runF Tryd.prog po 66 [.ptr b 0 0, .agg q, .int .i64 o] h = some (.inl (.tup []), h') ∧ JH b mv (y.fault nf o) h h')
    (v1 v4 : AV) : ∀ (l pre : List XD) (h' : AH) (c : Int) (v5 v6 v10 v11 v12 : AV), x.l = pre ++ l → JH b mv c h h' → h.n < h'.n → h'.cell h.n = some [[.int .i64 x.op, .int .i64 x.k, .int .i64 x.n, v]] → (x.op = 5 → o = 12 → c ≠ 0) →
    ∃ h'', cFR false [] H (runR (runF Tryd.prog po) 13 [.lp rc_jexpr_b1, .ss [], .blk 0, .ss []] [.ptr b 0 0, v1, .int .i64 o, .ptr h.n 0 0, v4, v5, v6, v, .int .i64 x.l.length, .int .i64 pre.length, v10, v11, v12] [] h') = some (.inl (.tup []), h'') ∧
      JH b mv (orF c (faultsX nf x.op pre.length l o)) h h'' := by
  intro l
  induction l with
  | nil =>
    intro pre h' c v5 v6 v10 v11 v12 e j hn hx ht
    have e' : x.l = pre := by simpa using e
    have hlt : ¬ ((pre.length : Int) < (x.l.length : Int)) := by rw [e']; omega
    refine ⟨h', ?_, by simp only [faultsX, orF_z]; exact j⟩
    rw [r_lpb rc_jexpr_b1.eq_1]
    simp only [sim, List.length_cons, List.length_nil, Nat.reduceAdd, Nat.reduceSub, List.replicate, List.cons_append, List.nil_append, List.map_cons, List.map_nil, Option.bind_some, Option.map_some, Option.bind_none, Option.map_none, if_true, if_false, decide_true, decide_false, Bool.false_eq_true, Bool.true_eq_false, Bool.not_true, Bool.not_false, reduceCtorEq, Bool.and_true, Bool.true_and, Bool.and_false, Bool.false_and, Bool.or_true, Bool.true_or, Bool.or_false, Bool.false_or, true_and, and_true, false_and, and_false, List.take_zero, List.take_succ_cons, List.drop_zero, List.drop_succ_cons, List.take_nil, List.drop_nil, List.set_cons_zero, List.set_cons_succ, Nat.reduceLeDiff, Nat.reduceLT, Nat.zero_add, Nat.lt_add_one, Nat.le_refl, clearA, Int.toNat_natCast, hlt]
  | cons y l ih =>
    intro pre h' c v5 v6 v10 v11 v12 e j hn hx ht
    have hlt : (pre.length : Int) < (x.l.length : Int) := by rw [e]; simp; omega
    obtain ⟨a, q, i1, i2, i3⟩ := (m h').ix pre.length y (by rw [e]; simp)
    have i2' := i2 _ (GrewA.refl h')
    obtain ⟨o1, o2⟩ := i3.one
    have p := JH.push j.j (Nat.lt_trans hbn hn) [q]
    have hj := p.j
    have hx2 : (h'.push [q]).cell h.n = some [[.int .i64 x.op, .int .i64 x.k, .int .i64 x.n, v]] := (push_lt hn).trans hx
    have hw := w64 (n := (pre.length : Int) + 1) (by rw [e] at hL; simp at hL; omega) (by rw [e] at hL; simp at hL; omega)
    by_cases hc : c = 0
    · subst hc
      have hb0 : h'.n + 1 = (h'.push [q]).n := rfl
      have ht2 : ∀ {c' : Int}, x.op = 5 → o = 12 → c' ≠ 0 := fun h1 h2 => absurd rfl (ht h1 h2)
      have e3 : ((pre ++ [y]).length : Int) = (pre.length : Int) + 1 := by simp
      have e4 : (pre ++ [y]).length = pre.length + 1 := by simp
      have hk : ∀ (h1 : AH) (c' : Int), JH b mv c' (h'.push [q]) h1 → h1.cell h.n = some [[.int .i64 x.op, .int .i64 x.k, .int .i64 x.n, v]] ∧ h.n < h1.n := fun h1 c' j1 =>
        ⟨(j1.old h.n (by simp only [push_n]; omega) (by omega)).trans hx2, Nat.lt_of_lt_of_le (by simp only [push_n]; omega) j1.n⟩
      by_cases hin : x.op = 5 ∧ pre.length = 1
      · obtain ⟨hop, hp1⟩ := hin
        have ho12 : o ≤ 11 := by
          rcases Int.lt_or_eq_of_le ho2 with h1 | h1
          · omega
          · exact absurd rfl (ht hop h1)
        have hp1' : (pre.length : Int) = 1 := by omega
        have hwo := w64 (n := o + 1) (by omega) (by omega)
        obtain ⟨h1, r1, j1⟩ := hf y (by rw [e]; simp) q (h'.push [q]) (o + 1) i3 (by omega) (by omega) hj (by simp only [push_n]; omega)
        obtain ⟨h2, r2, j2⟩ := ih (pre ++ [y]) h1 (y.fault nf (o + 1)) (.int .i64 pre.length) (.ptr h'.n 0 0) (.bool true) (.bool false) (.bool true) (by simp [e]) ((j.trans p).trans j1) (hk h1 _ j1).2 (hk h1 _ j1).1 ht2
        rw [e3] at r2
        refine ⟨h2, ?_, ?_⟩
        · rw [hop] at hx2
          have hd5 : decide ((pre.length : Int) = 1) = true := by simp [hp1']
          rw [r_lpb rc_jexpr_b1.eq_1]
          simp only [sim, List.length_cons, List.length_nil, Nat.reduceAdd, Nat.reduceSub, List.replicate, List.cons_append, List.nil_append, List.map_cons, List.map_nil, Option.bind_some, Option.map_some, Option.bind_none, Option.map_none, if_true, if_false, decide_true, decide_false, Bool.false_eq_true, Bool.true_eq_false, Bool.not_true, Bool.not_false, reduceCtorEq, Bool.and_true, Bool.true_and, Bool.and_false, Bool.false_and, Bool.or_true, Bool.true_or, Bool.or_false, Bool.false_or, true_and, and_true, false_and, and_false, List.take_zero, List.take_succ_cons, List.drop_zero, List.drop_succ_cons, List.take_nil, List.drop_nil, List.set_cons_zero, List.set_cons_succ, Nat.reduceLeDiff, Nat.reduceLT, Nat.zero_add, Nat.lt_add_one, Nat.le_refl, clearA, Int.toNat_natCast, hlt, i1, i2', o1, o2, hj, hx2, Int.reduceEq, hd5, hwo, r1, hw]
          exact r2
        · rw [faultsX_cons, if_pos ⟨hop, hp1⟩, orF_0]
          rw [e4] at j2
          exact j2
      · obtain ⟨h1, r1, j1⟩ := hf y (by rw [e]; simp) q (h'.push [q]) o i3 (by omega) (by omega) hj (by simp only [push_n]; omega)
        have hd : (decide (x.op = 5) && decide ((pre.length : Int) = 1)) = false := by
          rw [Bool.and_eq_false_iff, decide_eq_false_iff_not, decide_eq_false_iff_not]
          by_cases h5 : x.op = 5
          · exact .inr (fun hp => hin ⟨h5, by omega⟩)
          · exact .inl h5
        obtain ⟨h2, r2, j2⟩ := ih (pre ++ [y]) h1 (y.fault nf o) (.int .i64 pre.length) (.ptr h'.n 0 0) (.bool true) (.bool false) (.bool false) (by simp [e]) ((j.trans p).trans j1) (hk h1 _ j1).2 (hk h1 _ j1).1 ht2
        rw [e3] at r2
        refine ⟨h2, ?_, ?_⟩
        · rw [r_lpb rc_jexpr_b1.eq_1]
          cases h5 : decide (x.op = 5)
          · simp only [sim, List.length_cons, List.length_nil, Nat.reduceAdd, Nat.reduceSub, List.replicate, List.cons_append, List.nil_append, List.map_cons, List.map_nil, Option.bind_some, Option.map_some, Option.bind_none, Option.map_none, if_true, if_false, decide_true, decide_false, Bool.false_eq_true, Bool.true_eq_false, Bool.not_true, Bool.not_false, reduceCtorEq, Bool.and_true, Bool.true_and, Bool.and_false, Bool.false_and, Bool.or_true, Bool.true_or, Bool.or_false, Bool.false_or, true_and, and_true, false_and, and_false, List.take_zero, List.take_succ_cons, List.drop_zero, List.drop_succ_cons, List.take_nil, List.drop_nil, List.set_cons_zero, List.set_cons_succ, Nat.reduceLeDiff, Nat.reduceLT, Nat.zero_add, Nat.lt_add_one, Nat.le_refl, clearA, Int.toNat_natCast, hlt, i1, i2', o1, o2, hj, hx2, Int.reduceEq, h5, r1, hw]
            exact r2
          · rw [h5, Bool.true_and] at hd
            simp only [sim, List.length_cons, List.length_nil, Nat.reduceAdd, Nat.reduceSub, List.replicate, List.cons_append, List.nil_append, List.map_cons, List.map_nil, Option.bind_some, Option.map_some, Option.bind_none, Option.map_none, if_true, if_false, decide_true, decide_false, Bool.false_eq_true, Bool.true_eq_false, Bool.not_true, Bool.not_false, reduceCtorEq, Bool.and_true, Bool.true_and, Bool.and_false, Bool.false_and, Bool.or_true, Bool.true_or, Bool.or_false, Bool.false_or, true_and, and_true, false_and, and_false, List.take_zero, List.take_succ_cons, List.drop_zero, List.drop_succ_cons, List.take_nil, List.drop_nil, List.set_cons_zero, List.set_cons_succ, Nat.reduceLeDiff, Nat.reduceLT, Nat.zero_add, Nat.lt_add_one, Nat.le_refl, clearA, Int.toNat_natCast, hlt, i1, i2', o1, o2, hj, hx2, Int.reduceEq, h5, hd, r1, hw]
            exact r2
        · rw [faultsX_cons, if_neg hin, orF_0]
          rw [e4] at j2
          exact j2
    · refine ⟨h'.push [q], ?_, by rw [orF_ne hc]; exact j.trans p⟩
      rw [r_lpb rc_jexpr_b1.eq_1]
      simp only [sim, List.length_cons, List.length_nil, Nat.reduceAdd, Nat.reduceSub, List.replicate, List.cons_append, List.nil_append, List.map_cons, List.map_nil, Option.bind_some, Option.map_some, Option.bind_none, Option.map_none, if_true, if_false, decide_true, decide_false, Bool.false_eq_true, Bool.true_eq_false, Bool.not_true, Bool.not_false, reduceCtorEq, Bool.and_true, Bool.true_and, Bool.and_false, Bool.false_and, Bool.or_true, Bool.true_or, Bool.or_false, Bool.false_or, true_and, and_true, false_and, and_false, List.take_zero, List.take_succ_cons, List.drop_zero, List.drop_succ_cons, List.take_nil, List.drop_nil, List.set_cons_zero, List.set_cons_succ, Nat.reduceLeDiff, Nat.reduceLT, Nat.zero_add, Nat.lt_add_one, Nat.le_refl, clearA, Int.toNat_natCast, hlt, i1, i2', o1, o2, hj, hc]

theorem jexpr_run (nf : Nat) (hm : lenA mv = some nf) (hft : ∀ s, fitsR s (some tE) mv = true) : ∀ (N : Nat) (x : XD), SizeOf.sizeOf x ≤ N → x.size ≤ 100000 → ∀ (r : List AV) (h : AH) (o : Int), ExA x r → 0 ≤ o → o ≤ 12 → h.cell b = some [[mv, .int .i64 0]] → b < h.n →
    ∃ h', runF Tryd.prog po 66 [.ptr b 0 0, .agg r, .int .i64 o] h = some (.inl (.tup []), h') ∧ JH b mv (x.fault nf o) h h' := by
  intro N
  induction N with
  | zero => intro x hx; have := x.so_pos; omega
  | succ N ih =>
    intro x hx hsz r h o he ho ho2 hb hlt
    obtain ⟨v, es, e, hv, hl⟩ := he.row
    have m : ∀ h, ModV h v x.l := fun h => ModV.of hv hl
    have o1 := (m h).one
    have l1 := (m h).len
    have f1 := (m h).fits
    have hlen := x.len_size
    subst e
    have p := JH.push hb hlt [[.int .i64 x.op, .int .i64 x.k, .int .i64 x.n, v]]
    have w0 : (h.push [[.int .i64 x.op, .int .i64 x.k, .int .i64 x.n, v]]).cell h.n = some [[.int .i64 x.op, .int .i64 x.k, .int .i64 x.n, v]] := push_same
    have hbn : h.n ≠ b := by omega
    obtain ⟨h1, r1, j1⟩ := jfail_run p.j (decide (partsX x.op < 0)) 2
    have w1 := (j1.old h.n (by simp only [push_n]; omega) hbn).trans w0
    have n1 : h.n < h1.n := Nat.lt_of_lt_of_le (by simp only [push_n]; omega) j1.n
    obtain ⟨h2, r2, j2⟩ := jfail_run j1.j (!decide ((x.l.length : Int) = partsX x.op)) 5
    have w2 := (j2.old h.n n1 hbn).trans w1
    have n2 : h.n < h2.n := Nat.lt_of_lt_of_le n1 j2.n
    obtain ⟨h3, r3, j3⟩ := jnumbers_run j2.j (by omega) hm hft x.op x.k x.n o v o1
    have w3 := (j3.old h.n n2 hbn).trans w2
    have n3 : h.n < h3.n := Nat.lt_of_lt_of_le n2 j3.n
    obtain ⟨h4, r4, j4⟩ := jfail_run j3.j (decide (x.op = 5) && decide (o = 12)) 3
    have w4 := (j4.old h.n n3 hbn).trans w3
    have n4 : h.n < h4.n := Nat.lt_of_lt_of_le n3 j4.n
    rw [orF_0, ← head_eq] at j4
    have jj := (((p.trans j1).trans j2).trans j3).trans j4
    obtain ⟨h5, r5, j5⟩ := jexpr_loop (h := h) hlt nf x v m (by omega) o ho ho2 h (fun y hy q h o hq => ih y (by have := XD.lt_mem hy; omega) (by have := XD.size_mem hy; omega) q h o hq) (.agg [.int .i64 x.op, .int .i64 x.k, .int .i64 x.n, v]) (.int .i64 (partsX x.op)) x.l [] h4 _ .junk .junk .junk .junk .junk rfl jj n4 w4 (fun h5 h12 => by
      rw [h5, h12]
      exact head_ne _ _ _ _)
    simp only [List.length_nil, Int.natCast_zero] at r5
    rw [List.length_nil, ← XD.fault_eq] at j5
    refine ⟨h5, ?_, j5⟩
    have cp := c_Parts (h := h.push [[.int .i64 x.op, .int .i64 x.k, .int .i64 x.n, v]]) x.op
    refine runF_R fn_jexpr rfl ?_; unfold rc_jexpr
    cases e5 : decide (x.op = 5) <;> cases e12 : decide (o = 12) <;> simp only [e5, e12, Bool.and_true, Bool.and_false] at r4 <;>
      (simp only [sim, List.length_cons, List.length_nil, Nat.reduceAdd, Nat.reduceSub, List.replicate, List.cons_append, List.nil_append, List.map_cons, List.map_nil, Option.bind_some, Option.map_some, Option.bind_none, Option.map_none, if_true, if_false, decide_true, decide_false, Bool.false_eq_true, Bool.true_eq_false, Bool.not_true, Bool.not_false, reduceCtorEq, Bool.and_true, Bool.true_and, Bool.and_false, Bool.false_and, Bool.or_true, Bool.true_or, Bool.or_false, Bool.false_or, true_and, and_true, false_and, and_false, List.take_zero, List.take_succ_cons, List.drop_zero, List.drop_succ_cons, List.take_nil, List.drop_nil, List.set_cons_zero, List.set_cons_succ, Nat.reduceLeDiff, Nat.reduceLT, Nat.zero_add, Nat.lt_add_one, Nat.le_refl, clearA, Int.toNat_natCast, o1, cp, r1, w1, l1, f1, r2, w2, r3, w3, e5, e12, r4, w4]; exact r5)
end
end Go.Proofs.YtodehiopdkgoeaaDoor
