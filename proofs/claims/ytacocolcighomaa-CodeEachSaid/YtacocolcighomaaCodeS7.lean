/- code in the plain model: the judge. -/
import Derived.Test.YtacocolcighomaaCodeS6
namespace Go.Proofs.Ytacocolcighomaa
set_option linter.unusedSimpArgs false
set_option linter.unusedVariables false
open Go

/-- the first fault stays -/
def orF (c d : Int) : Int := if c = 0 then d else c
theorem orF_0 (d : Int) : orF 0 d = d := rfl
theorem orF_z (c : Int) : orF c 0 = c := by unfold orF; split <;> simp_all
theorem orF_ne {c : Int} (h : c ≠ 0) (d : Int) : orF c d = c := if_neg h
theorem orF_assoc (a b c : Int) : orF (orF a b) c = orF a (orF b c) := by
  unfold orF
  by_cases h : a = 0 <;> simp [h]

/-- only what a judge holds has turned: the fault is c -/
structure JH (b : Nat) (mv : AV) (c : Int) (h h' : AH) : Prop where
  n : h.n ≤ h'.n
  ids : h.ids ≤ h'.ids
  old : ∀ k, k < h.n → k ≠ b → h'.cell k = h.cell k
  hw : ∀ k, k < h.ids → h'.hw k = h.hw k
  j : h'.cell b = some [[mv, .int .i64 c]]
theorem JH.refl {b : Nat} {mv : AV} {c : Int} {h : AH} (hb : h.cell b = some [[mv, .int .i64 c]]) : JH b mv c h h := ⟨Nat.le_refl _, Nat.le_refl _, fun _ _ _ => rfl, fun _ _ => rfl, hb⟩
theorem JH.trans {b : Nat} {mv : AV} {c c' : Int} {h h' h'' : AH} (x : JH b mv c h h') (y : JH b mv c' h' h'') : JH b mv c' h h'' :=
  ⟨Nat.le_trans x.n y.n, Nat.le_trans x.ids y.ids, fun k hk hn => (y.old k (Nat.lt_of_lt_of_le hk x.n) hn).trans (x.old k hk hn), fun k hk => (y.hw k (Nat.lt_of_lt_of_le hk x.ids)).trans (x.hw k hk), y.j⟩
theorem JH.push {b : Nat} {mv : AV} {c : Int} {h : AH} (hb : h.cell b = some [[mv, .int .i64 c]]) (hlt : b < h.n) (es : List (List AV)) : JH b mv c h (h.push es) :=
  ⟨by simp [AH.push], by simp [AH.push], fun k hk _ => push_lt hk, fun _ _ => rfl, (push_lt hlt).trans hb⟩
theorem JH.grew {b : Nat} {mv : AV} {c : Int} {h0 h h' : AH} (g : GrewA h0 h) (hb : h0.n ≤ b) (x : JH b mv c h h') : GrewA h0 h' :=
  ⟨Nat.le_trans g.n x.n, Nat.le_trans g.ids x.ids, fun k hk => (x.old k (Nat.lt_of_lt_of_le hk g.n) (by omega)).trans (g.cell k hk), fun k hk => (x.hw k (Nat.lt_of_lt_of_le hk g.ids)).trans (g.hw k hk)⟩

section
variable {h : AH} {b : Nat} {mv : AV} {c : Int}
theorem jfail_run (hb : h.cell b = some [[mv, .int .i64 c]]) (is : Bool) (d : Int) :
    ∃ h', runF Try.prog po 77 [.ptr b 0 0, .bool is, .int .i64 d] h = some (.inl (.tup []), h') ∧ JH b mv (orF c (if is then d else 0)) h h' := by
  cases is
  · refine ⟨h, ?_, by rw [if_neg (by simp), orF_z]; exact JH.refl hb⟩
    refine runF_R fn_jfail rfl ?_; unfold rc_jfail
    simp only [sim, List.length_cons, List.length_nil, Nat.reduceAdd, Nat.reduceSub, List.replicate, List.cons_append, List.nil_append, List.map_cons, List.map_nil, Option.bind_some, Option.map_some, Option.bind_none, Option.map_none, if_true, if_false, decide_true, decide_false, Bool.false_eq_true, Bool.true_eq_false, Bool.not_true, Bool.not_false, reduceCtorEq, Bool.and_true, Bool.true_and, Bool.and_false, Bool.false_and, Bool.or_true, Bool.true_or, Bool.or_false, Bool.false_or, true_and, and_true, false_and, and_false, List.take_zero, List.take_succ_cons, List.drop_zero, List.drop_succ_cons, List.take_nil, List.drop_nil, List.set_cons_zero, List.set_cons_succ, Nat.reduceLeDiff, Nat.reduceLT, Nat.zero_add, Nat.lt_add_one, Nat.le_refl, clearA, Int.toNat_natCast]
  · by_cases hc : c = 0
    · subst hc
      refine ⟨h.set b (some [[mv, .int .i64 d]]), ?_, ⟨Nat.le_refl _, Nat.le_refl _, fun k _ hn => set_ne hn, fun _ _ => rfl, by rw [set_same]; rfl⟩⟩
      refine runF_R fn_jfail rfl ?_; unfold rc_jfail
      simp only [sim, List.length_cons, List.length_nil, Nat.reduceAdd, Nat.reduceSub, List.replicate, List.cons_append, List.nil_append, List.map_cons, List.map_nil, Option.bind_some, Option.map_some, Option.bind_none, Option.map_none, if_true, if_false, decide_true, decide_false, Bool.false_eq_true, Bool.true_eq_false, Bool.not_true, Bool.not_false, reduceCtorEq, Bool.and_true, Bool.true_and, Bool.and_false, Bool.false_and, Bool.or_true, Bool.true_or, Bool.or_false, Bool.false_or, true_and, and_true, false_and, and_false, List.take_zero, List.take_succ_cons, List.drop_zero, List.drop_succ_cons, List.take_nil, List.drop_nil, List.set_cons_zero, List.set_cons_succ, Nat.reduceLeDiff, Nat.reduceLT, Nat.zero_add, Nat.lt_add_one, Nat.le_refl, clearA, Int.toNat_natCast, hb, eq_self]
    · refine ⟨h, ?_, by rw [orF_ne hc]; exact JH.refl hb⟩
      refine runF_R fn_jfail rfl ?_; unfold rc_jfail
      simp only [sim, List.length_cons, List.length_nil, Nat.reduceAdd, Nat.reduceSub, List.replicate, List.cons_append, List.nil_append, List.map_cons, List.map_nil, Option.bind_some, Option.map_some, Option.bind_none, Option.map_none, if_true, if_false, decide_true, decide_false, Bool.false_eq_true, Bool.true_eq_false, Bool.not_true, Bool.not_false, reduceCtorEq, Bool.and_true, Bool.true_and, Bool.and_false, Bool.false_and, Bool.or_true, Bool.true_or, Bool.or_false, Bool.false_or, true_and, and_true, false_and, and_false, List.take_zero, List.take_succ_cons, List.drop_zero, List.drop_succ_cons, List.take_nil, List.drop_nil, List.set_cons_zero, List.set_cons_succ, Nat.reduceLeDiff, Nat.reduceLT, Nat.zero_add, Nat.lt_add_one, Nat.le_refl, clearA, Int.toNat_natCast, hb, hc]

/-- the numbers, looked at as the judge does -/
def nums2 (nf op k o : Int) : Int :=
  if op = 4 then (if k < 0 ∨ o ≤ k then 1 else 0)
  else if op = 6 then (if k < 1 ∨ 5 < k then 1 else 0)
  else if op = 15 then (if k < 0 ∨ 15 < k then 1 else 0)
  else if op = 18 then (if k < 0 ∨ nf ≤ k then 1 else 0)
  else if k ≠ 0 then 5 else 0
theorem nums_eq (nf op k n o : Int) : numsX nf op k n o = orF (if n ≠ 0 ∧ op ≠ 2 then 5 else 0) (nums2 nf op k o) := by
  unfold numsX
  by_cases h1 : n ≠ 0 ∧ op ≠ 2
  · rw [if_pos h1, if_pos h1]; rfl
  · rw [if_neg h1, if_neg h1]; rfl
theorem w_rCheck (k : Int) : runF Try.prog po 29 [.int .i64 k] h = some (.inl (.bool (!decide (k < 0 ∨ 15 < k))), h) := by
  refine runF_R fn_rCheck rfl ?_; unfold rc_rCheck
  by_cases h0 : 0 ≤ k
  · by_cases h1 : k ≤ 15
    · have e : decide (k < 0 ∨ 15 < k) = false := by rw [decide_eq_false_iff_not]; omega
      simp only [sim, List.length_cons, List.length_nil, Nat.reduceAdd, Nat.reduceSub, List.replicate, List.cons_append, List.nil_append, List.map_cons, List.map_nil, Option.bind_some, Option.map_some, Option.bind_none, Option.map_none, if_true, if_false, decide_true, decide_false, Bool.false_eq_true, Bool.true_eq_false, Bool.not_true, Bool.not_false, reduceCtorEq, Bool.and_true, Bool.true_and, Bool.and_false, Bool.false_and, Bool.or_true, Bool.true_or, Bool.or_false, Bool.false_or, true_and, and_true, false_and, and_false, List.take_zero, List.take_succ_cons, List.drop_zero, List.drop_succ_cons, List.take_nil, List.drop_nil, List.set_cons_zero, List.set_cons_succ, Nat.reduceLeDiff, Nat.reduceLT, Nat.zero_add, Nat.lt_add_one, Nat.le_refl, clearA, Int.toNat_natCast, h0, h1, e]
    · have e : decide (k < 0 ∨ 15 < k) = true := by rw [decide_eq_true_eq]; omega
      simp only [sim, List.length_cons, List.length_nil, Nat.reduceAdd, Nat.reduceSub, List.replicate, List.cons_append, List.nil_append, List.map_cons, List.map_nil, Option.bind_some, Option.map_some, Option.bind_none, Option.map_none, if_true, if_false, decide_true, decide_false, Bool.false_eq_true, Bool.true_eq_false, Bool.not_true, Bool.not_false, reduceCtorEq, Bool.and_true, Bool.true_and, Bool.and_false, Bool.false_and, Bool.or_true, Bool.true_or, Bool.or_false, Bool.false_or, true_and, and_true, false_and, and_false, List.take_zero, List.take_succ_cons, List.drop_zero, List.drop_succ_cons, List.take_nil, List.drop_nil, List.set_cons_zero, List.set_cons_succ, Nat.reduceLeDiff, Nat.reduceLT, Nat.zero_add, Nat.lt_add_one, Nat.le_refl, clearA, Int.toNat_natCast, h0, h1, e]
  · have e : decide (k < 0 ∨ 15 < k) = true := by rw [decide_eq_true_eq]; omega
    simp only [sim, List.length_cons, List.length_nil, Nat.reduceAdd, Nat.reduceSub, List.replicate, List.cons_append, List.nil_append, List.map_cons, List.map_nil, Option.bind_some, Option.map_some, Option.bind_none, Option.map_none, if_true, if_false, decide_true, decide_false, Bool.false_eq_true, Bool.true_eq_false, Bool.not_true, Bool.not_false, reduceCtorEq, Bool.and_true, Bool.true_and, Bool.and_false, Bool.false_and, Bool.or_true, Bool.true_or, Bool.or_false, Bool.false_or, true_and, and_true, false_and, and_false, List.take_zero, List.take_succ_cons, List.drop_zero, List.drop_succ_cons, List.take_nil, List.drop_nil, List.set_cons_zero, List.set_cons_succ, Nat.reduceLeDiff, Nat.reduceLT, Nat.zero_add, Nat.lt_add_one, Nat.le_refl, clearA, Int.toNat_natCast, h0, e]
end
end Go.Proofs.Ytacocolcighomaa
