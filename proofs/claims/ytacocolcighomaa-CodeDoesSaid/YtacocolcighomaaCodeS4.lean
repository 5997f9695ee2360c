/- code in the plain model: what is asked of each in a list; the same. -/
import Derived.Test.YtacocolcighomaaCodeS3
namespace Go.Proofs.Ytacocolcighomaa
set_option linter.unusedSimpArgs false
set_option linter.unusedVariables false
open Go

/-- a function that is a value -/
def calF (f : AV) (xs : List AV) : Option (FuncId × List AV) := match f with
  | .fn g a c => some (g, a ++ xs ++ c)
  | _ => none
section
variable {C : CallR} {nv : Nat} {k : List RK} {V L : List AV} {h : AH} {d : RD} {is : List RI}
theorem callee_eq {f : Arg} {args : List Arg} : calleeR V L (.call f args) = calF (arg V L f) (args.map (arg V L)) := by
  simp only [calleeR]
  cases arg V L f <;> rfl
theorem calF_fn {g : FuncId} {a c xs : List AV} : calF (.fn g a c) xs = some (g, a ++ xs ++ c) := rfl
theorem rF_some {g : FuncId} {xs : List AV} : rF C nv d is k V L h (some (g, xs)) = rC C nv d is k V L (C g xs h) := rfl
theorem calls : (type_of% @r_call) ∧ (type_of% @callee_eq) ∧ (type_of% @calF_fn) ∧ (type_of% @rF_some) := ⟨@r_call, @callee_eq, @calF_fn, @rF_some⟩
end

section
variable {h : AH}
theorem indexE_loop (v : AV) (L : List XD) (hv : ModV h v L) (hL : L.length ≤ 100000) (g : FuncId) (a c : List AV) (p : XD → Bool)
    (hf : ∀ y ∈ L, ∀ q, ExA y q → runF Try.prog po g (a ++ [.agg q] ++ c) h = some (.inl (.bool (p y)), h)) : ∀ (l pre : List XD) (v2 v3 v6 v7 : AV), L = pre ++ l →
    ∃ n : Int, cFR true [.v 2] h (runR (runF Try.prog po) 8 [.lp rc_indexE_b1, .ss [], .blk 0, .ss [.ops [(.i (.v 2) (.mv (.c (.int .i64 (-1)))))], .ret]] [v, .fn g a c, v2, v3, .int .i64 L.length, .int .i64 pre.length, v6, v7] [] h) =
      some (.inl (.int .i64 n), h) ∧ decide (0 ≤ n) = l.any p := by
  intro l
  induction l with
  | nil =>
    intro pre v2 v3 v6 v7 e
    have e' : L = pre := by simpa using e
    have hlt : ¬ ((pre.length : Int) < (L.length : Int)) := by rw [e']; omega
    refine ⟨-1, ?_, rfl⟩
    rw [r_lpb rc_indexE_b1.eq_1]
    simp only [sim, List.length_cons, List.length_nil, Nat.reduceAdd, Nat.reduceSub, List.replicate, List.cons_append, List.nil_append, List.map_cons, List.map_nil, Option.bind_some, Option.map_some, Option.bind_none, Option.map_none, if_true, if_false, decide_true, decide_false, Bool.false_eq_true, Bool.true_eq_false, Bool.not_true, Bool.not_false, reduceCtorEq, Bool.and_true, Bool.true_and, Bool.and_false, Bool.false_and, Bool.or_true, Bool.true_or, Bool.or_false, Bool.false_or, true_and, and_true, false_and, and_false, List.take_zero, List.take_succ_cons, List.drop_zero, List.drop_succ_cons, List.take_nil, List.drop_nil, List.set_cons_zero, List.set_cons_succ, Nat.reduceLeDiff, Nat.reduceLT, Nat.zero_add, Nat.lt_add_one, Nat.le_refl, clearA, Int.toNat_natCast, hlt]
  | cons y l ih =>
    intro pre v2 v3 v6 v7 e
    have hlt : (pre.length : Int) < (L.length : Int) := by rw [e]; simp; omega
    obtain ⟨ad, q, i1, i2, i3⟩ := hv.ix pre.length y (by rw [e]; simp)
    have i2' := i2 _ (GrewA.refl h)
    have cy := hf y (by rw [e]; simp) q i3
    simp only [List.append_assoc, List.cons_append, List.nil_append] at cy
    have hw := w64 (n := (pre.length : Int) + 1) (by rw [e] at hL; simp at hL; omega) (by rw [e] at hL; simp at hL; omega)
    cases hb : p y
    · obtain ⟨n, r1, r2⟩ := ih (pre ++ [y]) v2 (.int .i64 pre.length) (.bool true) (.bool false) (by simp [e])
      have e2 : ((pre ++ [y]).length : Int) = (pre.length : Int) + 1 := by simp
      rw [e2] at r1
      refine ⟨n, ?_, by rw [r2]; simp [hb]⟩
      rw [hb] at cy
      rw [r_lpb rc_indexE_b1.eq_1]
      simp only [sim, List.length_cons, List.length_nil, Nat.reduceAdd, Nat.reduceSub, List.replicate, List.cons_append, List.nil_append, List.map_cons, List.map_nil, Option.bind_some, Option.map_some, Option.bind_none, Option.map_none, if_true, if_false, decide_true, decide_false, Bool.false_eq_true, Bool.true_eq_false, Bool.not_true, Bool.not_false, reduceCtorEq, Bool.and_true, Bool.true_and, Bool.and_false, Bool.false_and, Bool.or_true, Bool.true_or, Bool.or_false, Bool.false_or, true_and, and_true, false_and, and_false, List.take_zero, List.take_succ_cons, List.drop_zero, List.drop_succ_cons, List.take_nil, List.drop_nil, List.set_cons_zero, List.set_cons_succ, Nat.reduceLeDiff, Nat.reduceLT, Nat.zero_add, Nat.lt_add_one, Nat.le_refl, clearA, Int.toNat_natCast, calls, List.append_assoc, hlt, i1, i2', cy, hw]
      exact r1
    · refine ⟨pre.length, ?_, ?_⟩
      · rw [hb] at cy
        rw [r_lpb rc_indexE_b1.eq_1]
        simp only [sim, List.length_cons, List.length_nil, Nat.reduceAdd, Nat.reduceSub, List.replicate, List.cons_append, List.nil_append, List.map_cons, List.map_nil, Option.bind_some, Option.map_some, Option.bind_none, Option.map_none, if_true, if_false, decide_true, decide_false, Bool.false_eq_true, Bool.true_eq_false, Bool.not_true, Bool.not_false, reduceCtorEq, Bool.and_true, Bool.true_and, Bool.and_false, Bool.false_and, Bool.or_true, Bool.true_or, Bool.or_false, Bool.false_or, true_and, and_true, false_and, and_false, List.take_zero, List.take_succ_cons, List.drop_zero, List.drop_succ_cons, List.take_nil, List.drop_nil, List.set_cons_zero, List.set_cons_succ, Nat.reduceLeDiff, Nat.reduceLT, Nat.zero_add, Nat.lt_add_one, Nat.le_refl, clearA, Int.toNat_natCast, calls, List.append_assoc, hlt, i1, i2', cy]
      · simp [hb]
theorem containsE_run (v : AV) (L : List XD) (hv : ModV h v L) (hL : L.length ≤ 100000) (g : FuncId) (a c : List AV) (p : XD → Bool)
    (hf : ∀ y ∈ L, ∀ q, ExA y q → runF Try.prog po g (a ++ [.agg q] ++ c) h = some (.inl (.bool (p y)), h)) :
    runF Try.prog po 93 [v, .fn g a c] h = some (.inl (.bool (L.any p)), h) := by
  obtain ⟨n, r1, r2⟩ := indexE_loop v L hv hL g a c p hf L [] (.int .i64 0) .junk .junk .junk rfl
  simp only [List.length_nil, Int.natCast_zero] at r1
  have r0 : runF Try.prog po 97 [v, .fn g a c] h = some (.inl (.int .i64 n), h) := by
    refine runF_R fn_indexE rfl ?_; unfold rc_indexE
    simp only [sim, List.length_cons, List.length_nil, Nat.reduceAdd, Nat.reduceSub, List.replicate, List.cons_append, List.nil_append, List.map_cons, List.map_nil, Option.bind_some, Option.map_some, Option.bind_none, Option.map_none, if_true, if_false, decide_true, decide_false, Bool.false_eq_true, Bool.true_eq_false, Bool.not_true, Bool.not_false, reduceCtorEq, Bool.and_true, Bool.true_and, Bool.and_false, Bool.false_and, Bool.or_true, Bool.true_or, Bool.or_false, Bool.false_or, true_and, and_true, false_and, and_false, List.take_zero, List.take_succ_cons, List.drop_zero, List.drop_succ_cons, List.take_nil, List.drop_nil, List.set_cons_zero, List.set_cons_succ, Nat.reduceLeDiff, Nat.reduceLT, Nat.zero_add, Nat.lt_add_one, Nat.le_refl, clearA, Int.toNat_natCast, hv.len, hv.fits]
    exact r1
  refine runF_R fn_containsE rfl ?_; unfold rc_containsE
  simp only [sim, List.length_cons, List.length_nil, Nat.reduceAdd, Nat.reduceSub, List.replicate, List.cons_append, List.nil_append, List.map_cons, List.map_nil, Option.bind_some, Option.map_some, Option.bind_none, Option.map_none, if_true, if_false, decide_true, decide_false, Bool.false_eq_true, Bool.true_eq_false, Bool.not_true, Bool.not_false, reduceCtorEq, Bool.and_true, Bool.true_and, Bool.and_false, Bool.false_and, Bool.or_true, Bool.true_or, Bool.or_false, Bool.false_or, true_and, and_true, false_and, and_false, List.take_zero, List.take_succ_cons, List.drop_zero, List.drop_succ_cons, List.take_nil, List.drop_nil, List.set_cons_zero, List.set_cons_succ, Nat.reduceLeDiff, Nat.reduceLT, Nat.zero_add, Nat.lt_add_one, Nat.le_refl, clearA, Int.toNat_natCast, r0, r2]

theorem cdeep_run : ∀ (N : Nat) (x : XD), SizeOf.sizeOf x ≤ N → x.size ≤ 100000 → ∀ (r : List AV) (h : AH) (left : Int), ExA x r → -1 ≤ left → left ≤ 100000 →
    runF Try.prog po 78 [.agg r, .int .i64 left] h = some (.inl (.bool (decide ((x.depth : Int) ≤ left))), h) := by
  intro N
  induction N with
  | zero => intro x hx; have := x.so_pos; omega
  | succ N ih =>
    intro x hx hsz r h left he h0 hm
    obtain ⟨v, es, e, hv, hl⟩ := he.row
    have mv : ∀ h', ModV h' v x.l := fun h' => ModV.of hv hl
    have hv1 := (mv h).one
    subst e
    refine runF_R fn_cdeep rfl ?_; unfold rc_cdeep
    by_cases hp : 0 ≤ left
    · have hlen := x.len_size
      have ck := containsE_run (h := (h.push [[.int .i64 x.op, .int .i64 x.k, .int .i64 x.n, v]]).push [[.int .i64 left]]) v x.l (mv _) (by omega) 94 [] [.ptr (h.n + 1) 0 0] (fun y => !decide ((y.depth : Int) ≤ left - 1)) (fun y hy q hq => by
        have hw := w64 (n := left - 1) (by omega) (by omega)
        have dy := ih y (by have := XD.lt_mem hy; omega) (by have := XD.size_mem hy; omega) q (((h.push [[.int .i64 x.op, .int .i64 x.k, .int .i64 x.n, v]]).push [[.int .i64 left]]).push [q]) (left - 1) hq (by omega) (by omega)
        obtain ⟨q1, q2⟩ := hq.one
        refine runF_R fn_cdeep1 rfl ?_; unfold rc_cdeep1
        simp only [sim, List.length_cons, List.length_nil, Nat.reduceAdd, Nat.reduceSub, List.replicate, List.cons_append, List.nil_append, List.map_cons, List.map_nil, Option.bind_some, Option.map_some, Option.bind_none, Option.map_none, if_true, if_false, decide_true, decide_false, Bool.false_eq_true, Bool.true_eq_false, Bool.not_true, Bool.not_false, reduceCtorEq, Bool.and_true, Bool.true_and, Bool.and_false, Bool.false_and, Bool.or_true, Bool.true_or, Bool.or_false, Bool.false_or, true_and, and_true, false_and, and_false, List.take_zero, List.take_succ_cons, List.drop_zero, List.drop_succ_cons, List.take_nil, List.drop_nil, List.set_cons_zero, List.set_cons_succ, Nat.reduceLeDiff, Nat.reduceLT, Nat.zero_add, Nat.lt_add_one, Nat.le_refl, clearA, Int.toNat_natCast, q1, q2, hw, dy, fg_yes (GrewA.push _ _) (rfl : wkA (.bool (!decide ((y.depth : Int) ≤ left - 1))) = _)])
      simp only [sim, List.length_cons, List.length_nil, Nat.reduceAdd, Nat.reduceSub, List.replicate, List.cons_append, List.nil_append, List.map_cons, List.map_nil, Option.bind_some, Option.map_some, Option.bind_none, Option.map_none, if_true, if_false, decide_true, decide_false, Bool.false_eq_true, Bool.true_eq_false, Bool.not_true, Bool.not_false, reduceCtorEq, Bool.and_true, Bool.true_and, Bool.and_false, Bool.false_and, Bool.or_true, Bool.true_or, Bool.or_false, Bool.false_or, true_and, and_true, false_and, and_false, List.take_zero, List.take_succ_cons, List.drop_zero, List.drop_succ_cons, List.take_nil, List.drop_nil, List.set_cons_zero, List.set_cons_succ, Nat.reduceLeDiff, Nat.reduceLT, Nat.zero_add, Nat.lt_add_one, Nat.le_refl, clearA, Int.toNat_natCast, hv1, hp, ck, deep_any x hp, fg_yes ((GrewA.push h _).trans (GrewA.push _ _)) (rfl : wkA (.bool (decide ((x.depth : Int) ≤ left))) = _)]
    · have hd : decide ((x.depth : Int) ≤ left) = false := by rw [decide_eq_false_iff_not]; omega
      rw [hd]
      simp only [sim, List.length_cons, List.length_nil, Nat.reduceAdd, Nat.reduceSub, List.replicate, List.cons_append, List.nil_append, List.map_cons, List.map_nil, Option.bind_some, Option.map_some, Option.bind_none, Option.map_none, if_true, if_false, decide_true, decide_false, Bool.false_eq_true, Bool.true_eq_false, Bool.not_true, Bool.not_false, reduceCtorEq, Bool.and_true, Bool.true_and, Bool.and_false, Bool.false_and, Bool.or_true, Bool.true_or, Bool.or_false, Bool.false_or, true_and, and_true, false_and, and_false, List.take_zero, List.take_succ_cons, List.drop_zero, List.drop_succ_cons, List.take_nil, List.drop_nil, List.set_cons_zero, List.set_cons_succ, Nat.reduceLeDiff, Nat.reduceLT, Nat.zero_add, Nat.lt_add_one, Nat.le_refl, clearA, Int.toNat_natCast, hv1, hp, fg_yes ((GrewA.push h _).trans (GrewA.push _ _)) (rfl : wkA (.bool false) = _)]
end
end Go.Proofs.Ytacocolcighomaa
