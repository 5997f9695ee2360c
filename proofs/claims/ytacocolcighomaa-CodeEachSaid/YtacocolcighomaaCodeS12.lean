/- code in the plain model: the laws. -/
import Derived.Test.YtacocolcighomaaCodeS11
namespace Go.Proofs.Ytacocolcighomaa
set_option linter.unusedSimpArgs false
set_option linter.unusedVariables false
open Go

def begM : List XD := [.mk 5 0 0 [.mk 2 0 1 [], .mk 4 0 0 []]]
def begN : List XD := [.mk 5 0 0 [.mk 4 0 0 [], .mk 2 0 1 []]]
theorem begM_ok : checkX begM = (0, 0) := by decide +kernel
theorem begN_ok : checkX begN = (1, 0) := by decide +kernel
theorem begMN : sameXs begM begN = false := by decide +kernel
theorem beg_sizes : (∀ x ∈ begM, x.size ≤ 100000) ∧ (∀ x ∈ begN, x.size ≤ 100000) := by
  constructor <;> (intro x hx; rw [List.mem_singleton.1 hx]; decide +kernel)

section
variable {h : AH}
theorem fresh_push {m : Nat} {es : List (List AV)} : (h.fresh m).push es = (h.push es).fresh m := rfl
theorem fresh_set {m b : Nat} {es : Option (List (List AV))} : (h.fresh m).set b es = (h.set b es).fresh m := rfl
theorem grow_push {i m : Nat} {es : List (List AV)} : (h.grow i m).push es = (h.push es).grow i m := rfl
theorem grow_set {i m b : Nat} {es : Option (List (List AV))} : (h.grow i m).set b es = (h.set b es).grow i m := rfl
theorem f_agg {agg : Bool} {n off : Nat} {cs : List AV} : fldR agg n off (.agg cs) = ldA agg n cs off := rfl
theorem turns : (type_of% @f_agg) ∧ (type_of% @fresh_push) ∧ (type_of% @fresh_set) ∧ (type_of% @grow_push) ∧ (type_of% @grow_set) := ⟨@f_agg, @fresh_push, @fresh_set, @grow_push, @grow_set⟩
theorem fault_eql {a b c d : Int} : binR .agg (some [.int .i64, .int .i64]) false .eql (.agg [.int .i64 a, .int .i64 b]) (.agg [.int .i64 c, .int .i64 d]) = some (.bool (decide (a = c) && decide (b = d))) := by
  simp [binR, eqCells]
  rfl
theorem begM_mod (i j : Nat) : ModV h (.isl (some i) tE [[.int .i64 5, .int .i64 0, .int .i64 0, .isl (some j) tE [[.int .i64 2, .int .i64 0, .int .i64 1, .nils], [.int .i64 4, .int .i64 0, .int .i64 0, .nils]]]]) begM := by
  refine ModV.of (.inr ⟨_, rfl⟩) ?_
  simp only [begM, ExL, ExA]
  refine ⟨_, _, rfl, ⟨_, _, rfl, .inr ⟨_, rfl⟩, _, _, rfl, ⟨_, _, rfl, .inl ⟨rfl, rfl⟩, rfl⟩, _, _, rfl, ⟨_, _, rfl, .inl ⟨rfl, rfl⟩, rfl⟩, rfl⟩, rfl⟩
theorem begN_mod (i j : Nat) : ModV h (.isl (some i) tE [[.int .i64 5, .int .i64 0, .int .i64 0, .isl (some j) tE [[.int .i64 4, .int .i64 0, .int .i64 0, .nils], [.int .i64 2, .int .i64 0, .int .i64 1, .nils]]]]) begN := by
  refine ModV.of (.inr ⟨_, rfl⟩) ?_
  simp only [begN, ExL, ExA]
  refine ⟨_, _, rfl, ⟨_, _, rfl, .inr ⟨_, rfl⟩, _, _, rfl, ⟨_, _, rfl, .inl ⟨rfl, rfl⟩, rfl⟩, _, _, rfl, ⟨_, _, rfl, .inl ⟨rfl, rfl⟩, rfl⟩, rfl⟩, rfl⟩
theorem codeBegun_run : runF Try.prog po 50 [] h = some (.inl (.bool true), h) := by
  have c1 : ∀ (h : AH) (i j : Nat), runF Try.prog po 52 [.agg [.isl (some i) tE [[.int .i64 5, .int .i64 0, .int .i64 0, .isl (some j) tE [[.int .i64 2, .int .i64 0, .int .i64 1, .nils], [.int .i64 4, .int .i64 0, .int .i64 0, .nils]]]]]] h = some (.inl (.agg [.int .i64 0, .int .i64 0]), h) := fun h i j => by
    have := Check_run (h := h) _ begM (begM_mod i j) (by decide) beg_sizes.1
    rw [begM_ok] at this
    exact this
  have c2 : ∀ (h : AH) (i j : Nat), runF Try.prog po 52 [.agg [.isl (some i) tE [[.int .i64 5, .int .i64 0, .int .i64 0, .isl (some j) tE [[.int .i64 4, .int .i64 0, .int .i64 0, .nils], [.int .i64 2, .int .i64 0, .int .i64 1, .nils]]]]]] h = some (.inl (.agg [.int .i64 1, .int .i64 0]), h) := fun h i j => by
    have := Check_run (h := h) _ begN (begN_mod i j) (by decide) beg_sizes.2
    rw [begN_ok] at this
    exact this
  have c3 : ∀ (h : AH) (i j i' j' : Nat), runF Try.prog po 60 [.agg [.isl (some i) tE [[.int .i64 5, .int .i64 0, .int .i64 0, .isl (some j) tE [[.int .i64 2, .int .i64 0, .int .i64 1, .nils], [.int .i64 4, .int .i64 0, .int .i64 0, .nils]]]]],
      .agg [.isl (some i') tE [[.int .i64 5, .int .i64 0, .int .i64 0, .isl (some j') tE [[.int .i64 4, .int .i64 0, .int .i64 0, .nils], [.int .i64 2, .int .i64 0, .int .i64 1, .nils]]]]]] h = some (.inl (.bool false), h) := fun h i j i' j' => by
    have := cSame_run (h := h) _ _ begM begN (fun h => begM_mod i j) (fun h => begN_mod i' j') (by decide) beg_sizes.1
    rw [begMN] at this
    exact this
  have c4 : ∀ h : AH, runF Try.prog po 56 [.int .i64 7] h = some (.inl (.int .i64 3), h) := fun h => c_Parts 7
  refine runF_R fn_codeBegun rfl ?_; unfold rc_codeBegun
  simp only [sim, List.length_cons, List.length_nil, Nat.reduceAdd, Nat.reduceSub, List.replicate, List.cons_append, List.nil_append, List.map_cons, List.map_nil, Option.bind_some, Option.map_some, Option.bind_none, Option.map_none, if_true, if_false, decide_true, decide_false, Bool.false_eq_true, Bool.true_eq_false, Bool.not_true, Bool.not_false, reduceCtorEq, Bool.and_true, Bool.true_and, Bool.and_false, Bool.false_and, Bool.or_true, Bool.true_or, Bool.or_false, Bool.false_or, true_and, and_true, false_and, and_false, List.take_zero, List.take_succ_cons, List.drop_zero, List.drop_succ_cons, List.take_nil, List.drop_nil, List.set_cons_zero, List.set_cons_succ, Nat.reduceLeDiff, Nat.reduceLT, Nat.zero_add, Nat.lt_add_one, Nat.le_refl, clearA, Int.toNat_natCast, turns, lnum_run, c1, c2, c3, c4, fault_eql, eq_self, Int.reduceEq]
  exact fg_yes (by repeat (first | exact GrewA.refl _ | refine GrewA.trans ?_ (GrewA.push _ _) | refine GrewA.trans ?_ (GrewA.fresh _ _))) rfl

theorem great_no {L : List XD} (hg : greatX L = false) : L.length ≤ 20 ∧ ∀ x ∈ L, x.size ≤ 600 := by
  simp only [greatX, Bool.or_eq_false_iff, decide_eq_false_iff_not, List.any_eq_false] at hg
  exact ⟨by omega, fun x hx => by have := hg.2 x hx; simpa using this⟩

theorem CodeDoes_run (v1 v2 : AV) (L1 L2 : List XD) (m1 : ∀ h, ModV h v1 L1) (m2 : ∀ h, ModV h v2 L2) (op : Int) :
    runF Try.prog po 13 [.agg [v1], .agg [v2], .int .i64 op] h = some (.inl (.bool true), h) := by
  have o1 := (m1 h).one
  have o2 := (m2 h).one
  have q1 := fun h => Great_run (h := h) v1 L1 (m1 h)
  have q2 := fun h => Great_run (h := h) v2 L2 (m2 h)
  have g2 : GrewA h ((h.push [[v1]]).push [[v2]]) := (by repeat (first | exact GrewA.refl _ | refine GrewA.trans ?_ (GrewA.push _ _) | refine GrewA.trans ?_ (GrewA.fresh _ _)))
  cases g1 : greatX L1
  · cases gg : greatX L2
    · obtain ⟨hl1, hs1⟩ := great_no g1
      have hL1 : L1.length ≤ 100000 := by omega
      have hS1 : ∀ x ∈ L1, x.size ≤ 100000 := fun x hx => by have := hs1 x hx; omega
      obtain ⟨r', ro, ⟨v3, es3, e3, hv3, hl3⟩⟩ := OwnModule_run (h := (h.push [[v1]]).push [[v2]]) v1 L1 m1 hL1 hS1
      subst e3
      have m3 : ∀ h, ModV h v3 L1 := fun h => ModV.of hv3 hl3
      have o3 := (m3 h).one
      obtain ⟨r4, rc, ⟨v4, es4, e4, hv4, hl4⟩⟩ := cOwn_run (h := ((h.push [[v1]]).push [[v2]]).push [[v3]]) v3 L1 m3 hL1 hS1
      subst e4
      have m4 : ∀ h, ModV h v4 L1 := fun h => ModV.of hv4 hl4
      have c1 := fun h => Check_run (h := h) v3 L1 (m3 h) hL1 hS1
      have c2 := fun h => CodeFault_run (h := h) v1 L1 m1 hL1 hS1
      have c3 := fun h => SameModule_run (h := h) v4 v1 L1 L1 m4 m1 hL1 hS1
      have c4 := fun h => cSame_run (h := h) v3 v2 L1 L2 m3 m2 hL1 hS1
      have c5 := fun h => SameModule_run (h := h) v1 v2 L1 L2 m1 m2 hL1 hS1
      have c6 := fun h => SameModule_run (h := h) v3 v1 L1 L1 m3 m1 hL1 hS1
      refine runF_R fn_CodeDoes rfl ?_; unfold rc_CodeDoes
      simp only [sim, List.length_cons, List.length_nil, Nat.reduceAdd, Nat.reduceSub, List.replicate, List.cons_append, List.nil_append, List.map_cons, List.map_nil, Option.bind_some, Option.map_some, Option.bind_none, Option.map_none, if_true, if_false, decide_true, decide_false, Bool.false_eq_true, Bool.true_eq_false, Bool.not_true, Bool.not_false, reduceCtorEq, Bool.and_true, Bool.true_and, Bool.and_false, Bool.false_and, Bool.or_true, Bool.true_or, Bool.or_false, Bool.false_or, true_and, and_true, false_and, and_false, List.take_zero, List.take_succ_cons, List.drop_zero, List.drop_succ_cons, List.take_nil, List.drop_nil, List.set_cons_zero, List.set_cons_succ, Nat.reduceLeDiff, Nat.reduceLT, Nat.zero_add, Nat.lt_add_one, Nat.le_refl, clearA, Int.toNat_natCast, turns, codeBegun_run, o1, o2, q1, q2, g1, gg, ro, o3, c1, c2, fault_eql, eq_self, c_Parts, r_PartsOf, rc, c3, sameXs_refl, c4, c5, c6, beq_self_eq_true]
      exact fg_yes (by repeat (first | exact GrewA.refl _ | refine GrewA.trans ?_ (GrewA.push _ _) | refine GrewA.trans ?_ (GrewA.fresh _ _))) rfl
    · refine runF_R fn_CodeDoes rfl ?_; unfold rc_CodeDoes
      simp only [sim, List.length_cons, List.length_nil, Nat.reduceAdd, Nat.reduceSub, List.replicate, List.cons_append, List.nil_append, List.map_cons, List.map_nil, Option.bind_some, Option.map_some, Option.bind_none, Option.map_none, if_true, if_false, decide_true, decide_false, Bool.false_eq_true, Bool.true_eq_false, Bool.not_true, Bool.not_false, reduceCtorEq, Bool.and_true, Bool.true_and, Bool.and_false, Bool.false_and, Bool.or_true, Bool.true_or, Bool.or_false, Bool.false_or, true_and, and_true, false_and, and_false, List.take_zero, List.take_succ_cons, List.drop_zero, List.drop_succ_cons, List.take_nil, List.drop_nil, List.set_cons_zero, List.set_cons_succ, Nat.reduceLeDiff, Nat.reduceLT, Nat.zero_add, Nat.lt_add_one, Nat.le_refl, clearA, Int.toNat_natCast, turns, codeBegun_run, o1, o2, q1, q2, g1, gg, fg_yes g2 (rfl : wkA (.bool true) = _)]
  · refine runF_R fn_CodeDoes rfl ?_; unfold rc_CodeDoes
    simp only [sim, List.length_cons, List.length_nil, Nat.reduceAdd, Nat.reduceSub, List.replicate, List.cons_append, List.nil_append, List.map_cons, List.map_nil, Option.bind_some, Option.map_some, Option.bind_none, Option.map_none, if_true, if_false, decide_true, decide_false, Bool.false_eq_true, Bool.true_eq_false, Bool.not_true, Bool.not_false, reduceCtorEq, Bool.and_true, Bool.true_and, Bool.and_false, Bool.false_and, Bool.or_true, Bool.true_or, Bool.or_false, Bool.false_or, true_and, and_true, false_and, and_false, List.take_zero, List.take_succ_cons, List.drop_zero, List.drop_succ_cons, List.take_nil, List.drop_nil, List.set_cons_zero, List.set_cons_succ, Nat.reduceLeDiff, Nat.reduceLT, Nat.zero_add, Nat.lt_add_one, Nat.le_refl, clearA, Int.toNat_natCast, turns, codeBegun_run, o1, o2, q1, g1, fg_yes g2 (rfl : wkA (.bool true) = _)]

/-! ### CodeEach -/
def num0 : XD := .mk 2 0 0 []
abbrev num0R : List AV := [.int .i64 2, .int .i64 0, .int .i64 0, .nils]
abbrev zeroR : List AV := [.int .i64 0, .int .i64 0, .int .i64 0, .nils]
theorem num0_ex : ExA num0 num0R := by
  simp only [num0, ExA, ExL]
  exact ⟨_, _, rfl, .inl ⟨rfl, rfl⟩, rfl⟩
theorem num0_ok (nf : Int) : funcX nf num0 = 0 := by
  have h1 : num0.depth = 0 := by decide +kernel
  have h2 : num0.size = 1 := by decide +kernel
  have h3 : num0.fault nf 0 = 0 := by
    rw [XD.fault_eq]
    have : headX nf num0.op num0.k num0.n num0.l.length 0 = 0 := by
      simp [headX, numsX, partsX, num0, XD.op, XD.k, XD.n, XD.l]
    rw [this, orF_0]
    rfl
  simp [funcX, h1, h2, h3]
theorem first_ones (nf : Int) (y : XD) : ∀ (a : Nat) (i b : Nat), firstX nf i (List.replicate a num0 ++ y :: List.replicate b num0) = if funcX nf y ≠ 0 then (funcX nf y, ((i + a : Nat) : Int)) else (0, 0)
  | 0, i, b => by
    have hz : ∀ (b i : Nat), firstX nf i (List.replicate b num0) = (0, 0) := by
      intro b
      induction b with
      | zero => intro i; rfl
      | succ b ih => intro i; rw [List.replicate_succ, firstX_cons, num0_ok, if_neg (by simp), ih]
    rw [List.replicate_zero, List.nil_append, firstX_cons, hz]
    rfl
  | a + 1, i, b => by
    rw [List.replicate_succ, List.cons_append, firstX_cons, num0_ok, if_neg (by simp), first_ones nf y a (i + 1) b]
    simp only [Nat.add_assoc, Nat.add_comm 1 a]
/-- rows that may turn -/
theorem ModV.msl {h : AH} {b n : Nat} {rows : List (List AV)} {l : List XD} (hb : b < h.n) (hc : h.cell b = some rows) (hn : rows.length = n) (hl : ExL l rows) : ModV h (.msl b 0 n tE) l := by
  refine ⟨?_, fun s => fits_msl, rfl, fun i y hy => ?_⟩
  · rw [← hl.len, hn]; rfl
  · obtain ⟨q, h1, h2⟩ := hl.get hy
    have hi : i < n := by rw [← hn]; exact (List.getElem?_eq_some_iff.1 h1).1
    refine ⟨.ptr b (0 + i) 0, q, ix_msl rfl hi, fun h' g => ?_, h2⟩
    rw [l_ptr, g.cell b hb, hc, Nat.zero_add, Option.bind_some, h1, Option.bind_some]
    exact ld_all h2.one.2

theorem each_fill (n : Nat) (hn : n ≤ 1000) (v0 v1 v2 v3 v4 v7 v8 v9 v10 v12 : AV) (K : List RK) : ∀ (d k : Nat) (v11 : AV), k + d = n →
    ∃ w6 w11, runR (runF Try.prog po) 13 (.lp rc_CodeEach_b1 :: .ss [] :: .blk 2 :: K) [v0, v1, v2, v3, v4, .msl h.n 0 n tE, .int .i64 (k : Int), v7, v8, v9, v10, v11, v12] [] (h.push (List.replicate k num0R ++ List.replicate d zeroR)) =
      runR (runF Try.prog po) 13 K [v0, v1, v2, v3, v4, .msl h.n 0 n tE, w6, v7, v8, v9, v10, w11, v12] [] (h.push (List.replicate n num0R)) := by
  intro d
  induction d with
  | zero =>
    intro k v11 hk
    have hkn : k = n := by omega
    subst hkn
    refine ⟨.int .i64 (k : Int), .bool false, ?_⟩
    rw [r_lpb rc_CodeEach_b1.eq_1]
    simp only [sim, List.length_cons, List.length_nil, Nat.reduceAdd, Nat.reduceSub, List.replicate, List.cons_append, List.nil_append, List.map_cons, List.map_nil, Option.bind_some, Option.map_some, Option.bind_none, Option.map_none, if_true, if_false, decide_true, decide_false, Bool.false_eq_true, Bool.true_eq_false, Bool.not_true, Bool.not_false, reduceCtorEq, Bool.and_true, Bool.true_and, Bool.and_false, Bool.false_and, Bool.or_true, Bool.true_or, Bool.or_false, Bool.false_or, true_and, and_true, false_and, and_false, List.take_zero, List.take_succ_cons, List.drop_zero, List.drop_succ_cons, List.take_nil, List.drop_nil, List.set_cons_zero, List.set_cons_succ, Nat.reduceLeDiff, Nat.reduceLT, Nat.zero_add, Nat.lt_add_one, Nat.le_refl, clearA, Int.toNat_natCast, Int.lt_irrefl, List.append_nil]
  | succ d ih =>
    intro k v11 hk
    have hlt : (k : Int) < (n : Int) := by omega
    have hkl : k < n := by omega
    have hwr := w64 (n := (k : Int) + 1) (by omega) (by omega)
    have e1 : ((k + 1 : Nat) : Int) = (k : Int) + 1 := by omega
    have hrow : (List.replicate k num0R ++ zeroR :: List.replicate d zeroR)[k]? = some zeroR := by
      rw [List.getElem?_append_right (by simp)]
      simp
    have hset : (List.replicate k num0R ++ zeroR :: List.replicate d zeroR).set k num0R = List.replicate (k + 1) num0R ++ List.replicate d zeroR := by
      rw [List.set_append_right _ _ (by simp), List.replicate_succ']
      simp
    have hix : ixaR (some tE) none (.msl h.n 0 n tE) (.int .i64 (k : Int)) = some (.ptr h.n k 0) := by
      rw [ix_msl rfl hkl, Nat.zero_add]
    obtain ⟨w6, w11, r1⟩ := ih (k + 1) (.bool true) (by omega)
    refine ⟨w6, w11, ?_⟩
    rw [e1] at r1
    rw [r_lpb rc_CodeEach_b1.eq_1]
    rw [List.replicate_succ (n := d)]
    simp only [sim, List.length_cons, List.length_nil, Nat.reduceAdd, Nat.reduceSub, List.replicate, List.cons_append, List.nil_append, List.map_cons, List.map_nil, Option.bind_some, Option.map_some, Option.bind_none, Option.map_none, if_true, if_false, decide_true, decide_false, Bool.false_eq_true, Bool.true_eq_false, Bool.not_true, Bool.not_false, reduceCtorEq, Bool.and_true, Bool.true_and, Bool.and_false, Bool.false_and, Bool.or_true, Bool.true_or, Bool.or_false, Bool.false_or, true_and, and_true, false_and, and_false, List.take_zero, List.take_succ_cons, List.drop_zero, List.drop_succ_cons, List.take_nil, List.drop_nil, List.set_cons_zero, List.set_cons_succ, Nat.reduceLeDiff, Nat.reduceLT, Nat.zero_add, Nat.lt_add_one, Nat.le_refl, clearA, Int.toNat_natCast, hlt, lnum_run, hix, hrow, hset, hwr]
    exact r1
end
end Go.Proofs.Ytacocolcighomaa
