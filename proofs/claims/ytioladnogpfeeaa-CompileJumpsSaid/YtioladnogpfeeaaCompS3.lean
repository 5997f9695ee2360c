/- compile in the plain model: the maker; the instructions of an expression. compile in the plain model: the instructions of an expression, as the maker puts them. compile in the plain model: the document's instructions. -/
import Derived.Test.YtioladnogpfeeaaCCompile
import Derived.Test.YtioladnogpfeeaaCompLaw
import Derived.Test.YtioladnogpfeeaaCodeS11
import Derived.Test.YtioladnogpfeeaaAid
namespace Go.Proofs.Ytioladnogpfeeaa
set_option linter.unusedSimpArgs false
set_option linter.unusedVariables false
open Go

abbrev tI : TypeId := 42
abbrev tIs : TypeId := 41
abbrev insR (x : InsD) : List AV := [.int .i64 x.op, .int .i64 x.k, .int .i64 x.n]

/-- instructions that lie in memory -/
def MkS (v : AV) (l : List InsD) (h : AH) : Prop := (l = [] ∧ v = .nils) ∨ ∃ q, l ≠ [] ∧ q < h.n ∧ v = .msl q 0 l.length tI ∧ h.cell q = some (l.map insR)
structure MkH (b : Nat) (l : List InsD) (h : AH) : Prop where
  lt : b < h.n
  s : ∃ v, h.cell b = some [[v]] ∧ MkS v l h
/-- only what a maker holds has turned -/
structure MkT (b : Nat) (h h' : AH) : Prop where
  n : h.n ≤ h'.n
  ids : h.ids ≤ h'.ids
  hw : ∀ k, k < h.ids → h'.hw k = h.hw k
  old : ∀ k, k < h.n → k ≠ b → (∀ m, h.cell b ≠ some [[.msl k 0 m tI]]) → h'.cell k = h.cell k
  cur : ∀ k, k < h.n → ∀ m, h'.cell b = some [[.msl k 0 m tI]] → ∃ m', h.cell b = some [[.msl k 0 m' tI]]
theorem MkT.refl (b : Nat) (h : AH) : MkT b h h := ⟨Nat.le_refl _, Nat.le_refl _, fun _ _ => rfl, fun _ _ _ _ => rfl, fun _ _ m e => ⟨m, e⟩⟩
theorem MkT.trans {b : Nat} {h h' h'' : AH} (x : MkT b h h') (y : MkT b h' h'') : MkT b h h'' := by
  refine ⟨Nat.le_trans x.n y.n, Nat.le_trans x.ids y.ids, fun k hk => (y.hw k (Nat.lt_of_lt_of_le hk x.ids)).trans (x.hw k hk), fun k hk hb hc => ?_, fun k hk m e => ?_⟩
  · refine (y.old k (Nat.lt_of_lt_of_le hk x.n) hb fun m e => ?_).trans (x.old k hk hb hc)
    obtain ⟨m', e'⟩ := x.cur k hk m e
    exact hc m' e'
  · obtain ⟨m', e'⟩ := y.cur k (Nat.lt_of_lt_of_le hk x.n) m e
    exact x.cur k hk m' e'
theorem MkT.push {b : Nat} {h : AH} (hb : b < h.n) (es : List (List AV)) : MkT b h (h.push es) :=
  ⟨by simp [AH.push], by simp [AH.push], fun _ _ => rfl, fun k hk _ _ => push_lt hk, fun k hk m e => ⟨m, (push_lt hb).symm.trans e⟩⟩
theorem MkH.push {b : Nat} {l : List InsD} {h : AH} (m : MkH b l h) (es : List (List AV)) : MkH b l (h.push es) := by
  obtain ⟨hb, v, hv, hs⟩ := m
  refine ⟨by simp only [push_n]; omega, v, (push_lt hb).trans hv, ?_⟩
  rcases hs with hs | ⟨q, h1, h2, h3, h4⟩
  · exact .inl hs
  · exact .inr ⟨q, h1, by simp only [push_n]; omega, h3, (push_lt h2).trans h4⟩
theorem MkT.set {b c : Nat} {h h' : AH} (x : MkT b h h') (hc : h.n ≤ c) (hb : b < h.n) (es : Option (List (List AV))) : MkT b h (h'.set c es) :=
  ⟨x.n, x.ids, x.hw, fun k hk h1 h2 => (set_ne (by omega)).trans (x.old k hk h1 h2), fun k hk m e => x.cur k hk m ((set_ne (by omega)).symm.trans e)⟩
theorem MkH.set {b c : Nat} {l : List InsD} {h : AH} (m : MkH b l h) (hb : c ≠ b) (hc : ∀ j, h.cell b ≠ some [[.msl c 0 j tI]]) (es : Option (List (List AV))) : MkH b l (h.set c es) := by
  obtain ⟨hb', v, hv, hs⟩ := m
  refine ⟨hb', v, (set_ne (Ne.symm hb)).trans hv, ?_⟩
  rcases hs with hs | ⟨q, h1, h2, h3, h4⟩
  · exact .inl hs
  · exact .inr ⟨q, h1, h2, h3, (set_ne (fun e => hc l.length (by rw [hv, h3, e]))).trans h4⟩
/-- a cell of another one's -/
structure Own (b c : Nat) (r : List (List AV)) (h : AH) : Prop where
  lt : c < h.n
  ne : c ≠ b
  nc : ∀ m, h.cell b ≠ some [[.msl c 0 m tI]]
  c : h.cell c = some r
theorem Own.on {b c : Nat} {r : List (List AV)} {h h' : AH} (o : Own b c r h) (x : MkT b h h') : Own b c r h' :=
  ⟨Nat.lt_of_lt_of_le o.lt x.n, o.ne, fun m e => (x.cur c o.lt m e).elim fun m' e' => o.nc m' e', (x.old c o.lt o.ne o.nc).trans o.c⟩
theorem Own.new {b : Nat} {l : List InsD} {h : AH} (m : MkH b l h) (r : List (List AV)) : Own b h.n r (h.push r) := by
  obtain ⟨hb, v, hv, hs⟩ := m
  refine ⟨by simp [AH.push], by omega, fun j e => ?_, push_same⟩
  rw [push_lt hb, hv] at e
  rcases hs with ⟨_, rfl⟩ | ⟨q, h1, h2, rfl, h4⟩
  · simp at e
  · simp only [Option.some.injEq, List.cons.injEq, AV.msl.injEq, and_true] at e
    omega

section
variable {h : AH}
theorem mk_app {b : Nat} {l : List InsD} {v : AV} (hb : b < h.n) (hv : h.cell b = some [[v]]) (hs : MkS v l h) (hl : l.length ≤ 1000000) (x : InsD) :
    ∃ h', appendA true tI v (.msl h.n 0 1 tI) (h.push [insR x]) = some (.msl (h.n + 1) 0 (l.length + 1) tI, h') ∧ h'.cell b = some [[v]] ∧ MkH b (l ++ [x]) (h'.set b (some [[.msl (h.n + 1) 0 (l.length + 1) tI]])) ∧ MkT b h (h'.set b (some [[.msl (h.n + 1) 0 (l.length + 1) tI]])) := by
  rcases hs with ⟨rfl, rfl⟩ | ⟨q, h1, h2, rfl, h4⟩
  · have c1 : ((h.push [insR x]).push [insR x]).cell b = some [[.nils]] := (push_lt (by simp only [push_n]; omega)).trans ((push_lt hb).trans hv)
    refine ⟨(h.push [insR x]).push [insR x], ?_, c1, ⟨by simp only [set_n, push_n]; omega, _, set_same, .inr ⟨h.n + 1, by simp, by simp only [set_n, push_n]; omega, rfl, ?_⟩⟩, ?_⟩
    · simp [appendA, elemsA, moreA, push_same, push_n, AV.one]
    · rw [set_ne (by omega)]
      exact push2_same
    · refine ⟨by simp only [set_n, push_n]; omega, Nat.le_refl _, fun _ _ => rfl, fun k hk hn _ => (set_ne hn).trans ((push_lt (by simp only [push_n]; omega)).trans (push_lt hk)), fun k hk m e => ?_⟩
      rw [set_same] at e
      simp at e
      omega
  · have hqb : q ≠ b := by
      intro e
      rw [e, hv] at h4
      cases l with
      | nil => exact h1 rfl
      | cons y l => simp at h4
    have hlen : (l.map insR).length = l.length := by simp
    have c0 : ((h.push [insR x]).cell q) = some (l.map insR) := (push_lt h2).trans h4
    refine ⟨((h.push [insR x]).set q none).push (l.map insR ++ [insR x]), ?_, ?_, ⟨by simp only [set_n, push_n]; omega, _, set_same, .inr ⟨h.n + 1, by simp, by simp only [set_n, push_n]; omega, by simp, ?_⟩⟩, ?_⟩
    · simp only [appendA, elemsA, if_true, push_same, Option.bind_some, List.length_singleton, Nat.zero_add, Nat.le_refl, List.drop_zero, List.take_succ_cons, List.take_zero, Nat.one_ne_zero, if_false, moreA]
      rw [if_pos ⟨by omega, by omega, by simp [AV.one]⟩, if_pos ⟨trivial, trivial, hl⟩, c0]
      have ht : List.take l.length (l.map insR) = l.map insR := by rw [← hlen, List.take_length]
      simp [push_n, ht]
    · rw [push_lt (by simp only [set_n, push_n]; omega), set_ne (Ne.symm hqb), push_lt hb]
      exact hv
    · rw [set_ne (by omega)]
      have := push_same (h := (h.push [insR x]).set q none) (es := l.map insR ++ [insR x])
      simpa [set_n, push_n] using this
    · refine ⟨by simp only [set_n, push_n]; omega, Nat.le_refl _, fun _ _ => rfl, fun k hk hn hc => ?_, fun k hk m e => ?_⟩
      · have : k ≠ q := by
          rintro rfl
          exact hc l.length hv
        rw [set_ne hn, push_lt (by simp only [set_n, push_n]; omega), set_ne this, push_lt hk]
      · rw [set_same] at e
        simp at e
        omega

theorem kput_run {b : Nat} {l : List InsD} (m : MkH b l h) (hl : l.length ≤ 1000000) (op k n : Int) :
    ∃ h', runF Try.prog po 38 [.ptr b 0 0, .int .i64 op, .int .i64 k, .int .i64 n] h = some (.inl (.int .i64 l.length), h') ∧ MkH b (l ++ [⟨op, k, n⟩]) h' ∧ MkT b h h' := by
  obtain ⟨hb, v, hv, hs⟩ := m
  obtain ⟨h', e1, c1, m1, t1⟩ := mk_app hb hv hs hl ⟨op, k, n⟩
  refine ⟨_, ?_, m1, t1⟩
  have hw := w64 (n := ((l.length + 1 : Nat) : Int) - 1) (by omega) (by omega)
  have e2 : ((l.length + 1 : Nat) : Int) - 1 = (l.length : Int) := by omega
  rw [e2] at hw
  refine runF_R fn_kput rfl ?_; unfold rc_kput
  simp only [sim, List.length_cons, List.length_nil, Nat.reduceAdd, Nat.reduceSub, List.replicate, List.cons_append, List.nil_append, List.map_cons, List.map_nil, Option.bind_some, Option.map_some, Option.bind_none, Option.map_none, if_true, if_false, decide_true, decide_false, Bool.false_eq_true, Bool.true_eq_false, Bool.not_true, Bool.not_false, reduceCtorEq, Bool.and_true, Bool.true_and, Bool.and_false, Bool.false_and, Bool.or_true, Bool.true_or, Bool.or_false, Bool.false_or, true_and, and_true, false_and, and_false, List.take_zero, List.take_succ_cons, List.drop_zero, List.drop_succ_cons, List.take_nil, List.drop_nil, List.set_cons_zero, List.set_cons_succ, Nat.reduceLeDiff, Nat.reduceLT, Nat.zero_add, Nat.lt_add_one, Nat.le_refl, clearA, Int.toNat_natCast, hv, e1, c1, e2, hw]
theorem khere_run {b : Nat} {A B : List InsD} {x : InsD} (m : MkH b (A ++ x :: B) h) (hl : (A ++ x :: B).length ≤ 1000000) :
    ∃ h', runF Try.prog po 67 [.ptr b 0 0, .int .i64 A.length] h = some (.inl (.tup []), h') ∧ MkH b (A ++ ⟨x.op, ((A ++ x :: B).length : Nat), x.n⟩ :: B) h' ∧ MkT b h h' := by
  obtain ⟨hb, v, hv, hs⟩ := m
  rcases hs with ⟨e, rfl⟩ | ⟨q, h1, h2, rfl, h4⟩
  · simp at e
  · have hqb : q ≠ b := by
      intro e
      rw [e, hv] at h4
      cases A <;> simp at h4
    have hix : ixaR (some tI) none (.msl q 0 (A ++ x :: B).length tI) (.int .i64 (A.length : Int)) = some (.ptr q A.length 0) := by
      rw [ix_msl rfl (by simp), Nat.zero_add]
    have hg : ((A ++ x :: B).map insR)[A.length]? = some (insR x) := by simp
    have hset : ((A ++ x :: B).map insR).set A.length [.int .i64 x.op, .int .i64 ((A ++ x :: B).length : Int), .int .i64 x.n] = (A ++ ⟨x.op, ((A ++ x :: B).length : Nat), x.n⟩ :: B).map insR := by
      simp
    refine ⟨h.set q (some ((A ++ ⟨x.op, ((A ++ x :: B).length : Nat), x.n⟩ :: B).map insR)), ?_, ⟨hb, _, (set_ne (Ne.symm hqb)).trans hv, .inr ⟨q, by simp, h2, by simp, set_same⟩⟩, ?_⟩
    · refine runF_R fn_khere rfl ?_; unfold rc_khere
      simp only [sim, List.length_cons, List.length_nil, Nat.reduceAdd, Nat.reduceSub, List.replicate, List.cons_append, List.nil_append, List.map_cons, List.map_nil, Option.bind_some, Option.map_some, Option.bind_none, Option.map_none, if_true, if_false, decide_true, decide_false, Bool.false_eq_true, Bool.true_eq_false, Bool.not_true, Bool.not_false, reduceCtorEq, Bool.and_true, Bool.true_and, Bool.and_false, Bool.false_and, Bool.or_true, Bool.true_or, Bool.or_false, Bool.false_or, true_and, and_true, false_and, and_false, List.take_zero, List.take_succ_cons, List.drop_zero, List.drop_succ_cons, List.take_nil, List.drop_nil, List.set_cons_zero, List.set_cons_succ, Nat.reduceLeDiff, Nat.reduceLT, Nat.zero_add, Nat.lt_add_one, Nat.le_refl, clearA, Int.toNat_natCast, hv, hix, h4, hg, hset]
    · refine ⟨Nat.le_refl _, Nat.le_refl _, fun _ _ => rfl, fun k hk hn hc => set_ne (by rintro rfl; exact hc _ hv), fun k hk m e => ?_⟩
      rw [set_ne (Ne.symm hqb)] at e
      exact ⟨m, e⟩
end
end Go.Proofs.Ytioladnogpfeeaa
namespace Go.Proofs.Ytioladnogpfeeaa
set_option linter.unusedSimpArgs false
set_option linter.unusedVariables false
open Go

theorem seqI_snoc (f : Nat → List InsD) : ∀ (fs : List (Nat → List InsD)) (p : Nat), seqI (fs ++ [f]) p = seqI fs p ++ f (p + (seqI fs p).length)
  | [], p => by simp [seqI]
  | g :: fs, p => by
    simp only [List.cons_append, seqI, seqI_snoc f fs, List.length_append, List.append_assoc]
    rw [show p + (g p).length + (seqI fs (p + (g p).length)).length = p + ((g p).length + (seqI fs (p + (g p).length)).length) by omega]
theorem take_get {α : Type} {l : List α} {i : Nat} {y : α} (h : l[i]? = some y) : l.take (i + 1) = l.take i ++ [y] := by
  rw [List.take_add_one, h]
  rfl
theorem sizes_take {l : List XD} : ∀ {i : Nat} {y : XD}, l[i]? = some y → sizesX (l.take i) + y.size ≤ sizesX l := by
  induction l with
  | nil => intro i y h; simp at h
  | cons x l ih =>
    intro i y h
    cases i with
    | zero =>
      obtain rfl : x = y := by simpa using h
      simp [sizesX]
    | succ i =>
      have := ih (i := i) (y := y) (by simpa using h)
      simp only [List.take_succ_cons, sizesX]
      omega
theorem seqI_len' (l : List XD) (p : Nat) : (seqI (l.map codeI) p).length ≤ 3 * sizesX l := seqI_len l p fun y _ p => codeI_len _ y (Nat.le_refl _) p

section
variable {h : AH}
set_option maxHeartbeats 1000000 in
set_option maxRecDepth 20000 in
theorem kexpr_run (nf : Int) : ∀ (N : Nat) (x : XD), SizeOf.sizeOf x ≤ N → ∀ (o : Int), x.fault nf o = 0 → ∀ (r : List AV) (h : AH) (b : Nat) (l : List InsD), ExA x r → MkH b l h → l.length + 3 * x.size ≤ 100000 →
    ∃ h', runF Try.prog po 37 [.ptr b 0 0, .agg r] h = some (.inl (.tup []), h') ∧ (MkH b (l ++ codeI x l.length) h' ∧ MkT b h h') := by
  intro N
  induction N with
  | zero => intro x hx; have := x.so_pos; omega
  | succ N ih =>
    intro x hx o hf r h b l he m hl
    obtain ⟨v, es, rfl, hsl, hv, hn, hix⟩ := he.facts
    obtain ⟨f1, f2, f3, f4, f5⟩ := fault_parts hf
    have hs := x.size_eq
    obtain ⟨h2, e2, m2, t2⟩ := kput_run (m.push [[.int .i64 x.op, .int .i64 x.k, .int .i64 x.n, v]]) (by omega) 100 0 0
    have o2 := (Own.new m [[.int .i64 x.op, .int .i64 x.k, .int .i64 x.n, v]]).on t2
    have t2 := (MkT.push m.lt [[.int .i64 x.op, .int .i64 x.k, .int .i64 x.n, v]]).trans t2
    have ih' : ∀ y ∈ x.l, ∀ (o : Int), y.fault nf o = 0 → ∀ (r : List AV) (h : AH) (l : List InsD), ExA y r → MkH b l h → l.length + 3 * y.size ≤ 100000 →
      ∃ h', runF Try.prog po 37 [.ptr b 0 0, .agg r] h = some (.inl (.tup []), h') ∧ (MkH b (l ++ codeI y l.length) h' ∧ MkT b h h') := fun y hy o hf r h l => ih y (by have := XD.lt_mem hy; omega) o hf r h b l
    rw [codeI_mix]
    have lp : ∀ (i : Nat) (y : XD), x.l[i]? = some y → y ∈ x.l := fun i y hy => List.mem_of_getElem? hy
    by_cases h5 : x.op = 5
    · rw [h5] at f2 f5 e2 o2
      have hl2 : x.l.length = 2 := by simp [partsX] at f2; omega
      obtain ⟨a, c, hac⟩ := list2 hl2
      rw [hac] at f5 hs
      obtain ⟨g1, g2⟩ := faults_cons f5
      obtain ⟨g3, _⟩ := faults_cons g2
      simp only [Nat.zero_ne_one, and_false, if_false, and_self, if_true, Nat.zero_add] at g1 g3
      simp only [sizesX] at hs
      obtain ⟨q1, i1, d1, x1⟩ := hix 0 a (by rw [hac]; rfl)
      obtain ⟨q2, i2, d2, x2⟩ := hix 1 c (by rw [hac]; rfl)
      have i1 : ixaR (some tE) none v (.int .i64 0) = some (.ip q1 0) := i1
      have i2 : ixaR (some tE) none v (.int .i64 1) = some (.ip q2 0) := i2
      obtain ⟨h3, e3, m3, t3⟩ := ih' a (by rw [hac]; simp) o (by simpa using g1) q1 h2 _ x1 m2 (by simp only [List.length_append, List.length_singleton]; omega)
      have n1 := codeI_len _ a (Nat.le_refl _) (l ++ [(⟨100, 0, 0⟩ : InsD)]).length
      have o3 := o2.on t3
      obtain ⟨h4, e4, m4, t4⟩ := kput_run m3 (by simp only [List.length_append, List.length_singleton] at n1 ⊢; omega) 101 0 0
      have o4 := o3.on t4
      obtain ⟨h5', e5, m5, t5⟩ := ih' c (by rw [hac]; simp) (o + 1) g3 q2 h4 _ x2 m4 (by simp only [List.length_append, List.length_singleton] at n1 ⊢; omega)
      have n2 := codeI_len _ c (Nat.le_refl _) (l ++ [(⟨100, 0, 0⟩ : InsD)] ++ codeI a (l ++ [(⟨100, 0, 0⟩ : InsD)]).length ++ [(⟨101, 0, 0⟩ : InsD)]).length
      obtain ⟨h6, e6, m6, t6⟩ := kput_run m5 (by simp only [List.length_append, List.length_singleton] at n1 n2 ⊢; omega) 102 0 0
      refine runF_I fn_kexpr rfl fun Q hQ => ?_; unfold rc_kexpr
      simp only [sim, List.length_cons, List.length_nil, Nat.reduceAdd, Nat.reduceSub, List.replicate, List.cons_append, List.nil_append, List.map_cons, List.map_nil, Option.bind_some, Option.map_some, Option.bind_none, Option.map_none, if_true, if_false, decide_true, decide_false, Bool.false_eq_true, Bool.true_eq_false, Bool.not_true, Bool.not_false, reduceCtorEq, Bool.and_true, Bool.true_and, Bool.and_false, Bool.false_and, Bool.or_true, Bool.true_or, Bool.or_false, Bool.false_or, true_and, and_true, false_and, and_false, List.take_zero, List.take_succ_cons, List.drop_zero, List.drop_succ_cons, List.take_nil, List.drop_nil, List.set_cons_zero, List.set_cons_succ, Nat.reduceLeDiff, Nat.reduceLT, Nat.zero_add, Nat.lt_add_one, Nat.le_refl, clearA, Int.toNat_natCast, hv, e2, o2.c, h5, Int.reduceEq, i1, d1, e3, e4, o4.c, i2, d2, e5, e6]
      refine hQ _ _ rfl ⟨?_, (((t2.trans t3).trans t4).trans t5).trans t6⟩
      have e1 : (l ++ [(⟨100, 0, 0⟩ : InsD)]).length = l.length + 1 := by simp
      rw [e1] at m6
      have e4 : (l ++ [(⟨100, 0, 0⟩ : InsD)] ++ codeI a (l.length + 1) ++ [(⟨101, 0, 0⟩ : InsD)]).length = l.length + 1 + (codeI a (l.length + 1)).length + 1 := by simp; omega
      rw [e4] at m6
      rw [hac, h5]
      simpa only [mixI, letC, if_true, List.map_cons, List.map_nil, List.append_assoc, List.cons_append, List.nil_append] using m6
    · have hall := faults_all h5 f5
      by_cases h7 : x.op = 7
      · rw [h7] at f2 e2 o2
        have hl2 : x.l.length = 3 := by simp [partsX] at f2; omega
        obtain ⟨a, c, d, hac⟩ := list3 hl2
        rw [hac] at hs hall
        simp only [sizesX] at hs
        obtain ⟨q1, i1, d1, x1⟩ := hix 0 a (by rw [hac]; rfl)
        obtain ⟨q2, i2, d2, x2⟩ := hix 1 c (by rw [hac]; rfl)
        obtain ⟨q3, i3, d3, x3⟩ := hix 2 d (by rw [hac]; rfl)
        have i1 : ixaR (some tE) none v (.int .i64 0) = some (.ip q1 0) := i1
        have i2 : ixaR (some tE) none v (.int .i64 1) = some (.ip q2 0) := i2
        have i3 : ixaR (some tE) none v (.int .i64 2) = some (.ip q3 0) := i3
        obtain ⟨h3, e3, m3, t3⟩ := ih' a (by rw [hac]; simp) o (hall a (by simp)) q1 h2 _ x1 m2 (by simp only [List.length_append, List.length_singleton]; omega)
        have n1 := codeI_len _ a (Nat.le_refl _) (l ++ [(⟨100, 0, 0⟩ : InsD)]).length
        generalize hA : l ++ [(⟨100, 0, 0⟩ : InsD)] ++ codeI a (l ++ [(⟨100, 0, 0⟩ : InsD)]).length = A at m3
        have lA : A.length ≤ l.length + 1 + 3 * a.size := by rw [← hA]; simp only [List.length_append, List.length_singleton] at n1 ⊢; omega
        have o3 := o2.on t3
        obtain ⟨h4, e4, m4, t4⟩ := kput_run m3 (by omega) 103 0 0
        have o4 := o3.on t4
        obtain ⟨h5', e5, m5, t5⟩ := ih' c (by rw [hac]; simp) o (hall c (by simp)) q2 h4 _ x2 m4 (by simp only [List.length_append, List.length_singleton]; omega)
        have n2 := codeI_len _ c (Nat.le_refl _) (A ++ [(⟨103, 0, 0⟩ : InsD)]).length
        generalize hB : codeI c (A ++ [(⟨103, 0, 0⟩ : InsD)]).length = B at m5 n2
        have o5 := o4.on t5
        obtain ⟨h6, e6, m6, t6⟩ := kput_run m5 (by simp only [List.length_append, List.length_singleton]; omega) 104 0 0
        have o6 := o5.on t6
        obtain ⟨h7', e7, m7, t7⟩ := khere_run (A := A) (x := (⟨103, 0, 0⟩ : InsD)) (B := B ++ [(⟨104, 0, 0⟩ : InsD)]) (by simpa using m6) (by simp only [List.length_append, List.length_cons, List.length_nil]; omega)
        have o7 := o6.on t7
        obtain ⟨h8, e8, m8, t8⟩ := ih' d (by rw [hac]; simp) o (hall d (by simp)) q3 h7' _ x3 m7 (by simp only [List.length_append, List.length_cons, List.length_nil]; omega)
        obtain ⟨h9, e9, m9, t9⟩ := khere_run (A := A ++ ⟨103, ((A ++ (⟨103, 0, 0⟩ : InsD) :: (B ++ [(⟨104, 0, 0⟩ : InsD)])).length : Nat), 0⟩ :: B) (x := (⟨104, 0, 0⟩ : InsD)) (B := codeI d (A ++ ⟨103, ((A ++ (⟨103, 0, 0⟩ : InsD) :: (B ++ [(⟨104, 0, 0⟩ : InsD)])).length : Nat), 0⟩ :: (B ++ [(⟨104, 0, 0⟩ : InsD)])).length) (by simpa using m8) (by
          have := codeI_len _ d (Nat.le_refl _) (A ++ ⟨103, ((A ++ (⟨103, 0, 0⟩ : InsD) :: (B ++ [(⟨104, 0, 0⟩ : InsD)])).length : Nat), 0⟩ :: (B ++ [(⟨104, 0, 0⟩ : InsD)])).length
          simp only [List.length_append, List.length_cons, List.length_nil] at this ⊢
          omega)
        have lb : ((A ++ ⟨103, ((A ++ (⟨103, 0, 0⟩ : InsD) :: (B ++ [(⟨104, 0, 0⟩ : InsD)])).length : Nat), 0⟩ :: B).length : Int) = ((A ++ [(⟨103, 0, 0⟩ : InsD)] ++ B).length : Int) := by simp
        rw [lb] at e9
        refine runF_I fn_kexpr rfl fun Q hQ => ?_; unfold rc_kexpr
        simp only [sim, List.length_cons, List.length_nil, Nat.reduceAdd, Nat.reduceSub, List.replicate, List.cons_append, List.nil_append, List.map_cons, List.map_nil, Option.bind_some, Option.map_some, Option.bind_none, Option.map_none, if_true, if_false, decide_true, decide_false, Bool.false_eq_true, Bool.true_eq_false, Bool.not_true, Bool.not_false, reduceCtorEq, Bool.and_true, Bool.true_and, Bool.and_false, Bool.false_and, Bool.or_true, Bool.true_or, Bool.or_false, Bool.false_or, true_and, and_true, false_and, and_false, List.take_zero, List.take_succ_cons, List.drop_zero, List.drop_succ_cons, List.take_nil, List.drop_nil, List.set_cons_zero, List.set_cons_succ, Nat.reduceLeDiff, Nat.reduceLT, Nat.zero_add, Nat.lt_add_one, Nat.le_refl, clearA, Int.toNat_natCast, hv, e2, o2.c, h7, Int.reduceEq, i1, d1, e3, e4, o4.c, i2, d2, e5, e6, e7, o7.c, i3, d3, e8, e9]
        refine hQ _ _ rfl ⟨?_, (((((((t2.trans t3).trans t4).trans t5).trans t6).trans t7).trans t8).trans t9)⟩
        rw [hac]
        have hAl : A.length = l.length + 1 + (codeI a (l.length + 1)).length := by rw [← hA]; simp; omega
        have hB' : codeI c (l.length + 1 + (codeI a (l.length + 1)).length + 1) = B := by
          rw [← hB]
          congr 1
          simp only [List.length_append, List.length_singleton, hAl]
        have ea : elseC (codeI a) (codeI c) l.length = A.length + 1 + B.length + 1 := by
          unfold elseC
          rw [hB', hAl]
        have hA' : ∀ X : List InsD, A ++ X = l ++ (⟨100, 0, 0⟩ : InsD) :: (codeI a (l.length + 1) ++ X) := fun X => by rw [← hA]; simp
        have e103 : (A ++ (⟨103, 0, 0⟩ : InsD) :: (B ++ [(⟨104, 0, 0⟩ : InsD)])).length = A.length + 1 + B.length + 1 := by simp; omega
        rw [h7]
        simp only [mixI, show ¬ ((7 : Int) = 5) by decide, if_false, if_true, List.map_cons, List.map_nil, ifC, ea, hB']
        rw [e103] at m9
        have e8' : (A ++ ⟨103, ((A.length + 1 + B.length + 1 : Nat) : Int), 0⟩ :: (B ++ [(⟨104, 0, 0⟩ : InsD)])).length = A.length + 1 + B.length + 1 := by simp; omega
        rw [e8'] at m9
        have fin : l ++ (⟨100, 0, 0⟩ : InsD) :: (codeI a (l.length + 1) ++ ⟨103, ((A.length + 1 + B.length + 1 : Nat) : Int), 0⟩ :: (B ++ ⟨104, ((A.length + 1 + B.length + 1 + (codeI d (A.length + 1 + B.length + 1)).length : Nat) : Int), 0⟩ :: codeI d (A.length + 1 + B.length + 1))) =
            A ++ ⟨103, ((A.length + 1 + B.length + 1 : Nat) : Int), 0⟩ :: B ++ ⟨104, ((A ++ ⟨103, ((A.length + 1 + B.length + 1 : Nat) : Int), 0⟩ :: B ++ (⟨104, 0, 0⟩ : InsD) :: codeI d (A.length + 1 + B.length + 1)).length : Nat), 0⟩ :: codeI d (A.length + 1 + B.length + 1) := by
          rw [List.append_assoc, List.cons_append, hA']
          have : A.length + 1 + B.length + 1 + (codeI d (A.length + 1 + B.length + 1)).length = (A ++ ⟨103, ((A.length + 1 + B.length + 1 : Nat) : Int), 0⟩ :: B ++ (⟨104, 0, 0⟩ : InsD) :: codeI d (A.length + 1 + B.length + 1)).length := by simp; omega
          rw [this]
        rw [fin]
        exact m9
      · have hL : x.l.length ≤ 100000 := by have := x.len_size; omega
        refine runF_I fn_kexpr rfl fun Q hQ => ?_; unfold rc_kexpr
        simp only [sim, List.length_cons, List.length_nil, Nat.reduceAdd, Nat.reduceSub, List.replicate, List.cons_append, List.nil_append, List.map_cons, List.map_nil, Option.bind_some, Option.map_some, Option.bind_none, Option.map_none, if_true, if_false, decide_true, decide_false, Bool.false_eq_true, Bool.true_eq_false, Bool.not_true, Bool.not_false, reduceCtorEq, Bool.and_true, Bool.true_and, Bool.and_false, Bool.false_and, Bool.or_true, Bool.true_or, Bool.or_false, Bool.false_or, true_and, and_true, false_and, and_false, List.take_zero, List.take_succ_cons, List.drop_zero, List.drop_succ_cons, List.take_nil, List.drop_nil, List.set_cons_zero, List.set_cons_succ, Nat.reduceLeDiff, Nat.reduceLT, Nat.zero_add, Nat.lt_add_one, Nat.le_refl, clearA, Int.toNat_natCast, hv, e2, o2.c, h5, h7, Int.reduceEq, hsl.len, hsl.fits]
        refine loop_Q (fun i V h' => ∃ v5 v10, V = [.ptr b 0 0, .agg [.int .i64 x.op, .int .i64 x.k, .int .i64 x.n, v], .ptr h.n 0 0, .junk, .junk, v5, .int .i64 x.op, v, .int .i64 es.length, .int .i64 (i : Nat), v10, .bool false, .bool false] ∧
          MkH b (l ++ (⟨100, 0, 0⟩ : InsD) :: seqI ((x.l.take i).map codeI) (l.length + 1)) h' ∧ MkT b h h' ∧ Own b h.n [[.int .i64 x.op, .int .i64 x.k, .int .i64 x.n, v]] h') x.l.length ⟨_, _, rfl, by simpa [seqI] using m2, t2, o2⟩ ?_ ?_
        · rintro i V h' hi ⟨v5, v10, rfl, m3, t3, o3⟩ next
          obtain ⟨y, hy⟩ : ∃ y, x.l[i]? = some y := ⟨_, List.getElem?_eq_getElem hi⟩
          obtain ⟨q, i1, d1, x1⟩ := hix i y hy
          have hlt : (i : Int) < (es.length : Int) := by rw [hn]; omega
          have hw := w64 (n := (i : Int) + 1) (by omega) (by omega)
          have hsz := sizes_take hy
          have hsl' := seqI_len' (x.l.take i) (l.length + 1)
          obtain ⟨c1, c2⟩ := x1.one
          obtain ⟨h4, e4, m4, t4⟩ := ih' y (lp i y hy) o (by have := hall y (lp i y hy); simpa using this) q (h'.push [q]) _ x1 (m3.push [q]) (by simp only [List.length_append, List.length_cons]; omega)
          have o4 := (o3.on (MkT.push m3.lt [q])).on t4
          rw [r_lpb rc_kexpr_b1.eq_1]
          simp only [sim, List.length_cons, List.length_nil, Nat.reduceAdd, Nat.reduceSub, List.replicate, List.cons_append, List.nil_append, List.map_cons, List.map_nil, Option.bind_some, Option.map_some, Option.bind_none, Option.map_none, if_true, if_false, decide_true, decide_false, Bool.false_eq_true, Bool.true_eq_false, Bool.not_true, Bool.not_false, reduceCtorEq, Bool.and_true, Bool.true_and, Bool.and_false, Bool.false_and, Bool.or_true, Bool.true_or, Bool.or_false, Bool.false_or, true_and, and_true, false_and, and_false, List.take_zero, List.take_succ_cons, List.drop_zero, List.drop_succ_cons, List.take_nil, List.drop_nil, List.set_cons_zero, List.set_cons_succ, Nat.reduceLeDiff, Nat.reduceLT, Nat.zero_add, Nat.lt_add_one, Nat.le_refl, clearA, Int.toNat_natCast, hlt, i1, d1, c1, c2, e4, hw]
          refine next _ _ ⟨_, _, rfl, ?_, (t3.trans (MkT.push m3.lt [q])).trans t4, o4⟩
          rw [take_get hy, List.map_append, List.map_cons, List.map_nil, seqI_snoc]
          have e : l.length + 1 + (seqI ((x.l.take i).map codeI) (l.length + 1)).length = (l ++ (⟨100, 0, 0⟩ : InsD) :: seqI ((x.l.take i).map codeI) (l.length + 1)).length := by simp; omega
          rw [e]
          simpa using m4
        · rintro V h' ⟨v5, v10, rfl, m3, t3, o3⟩
          have hlt : ¬ ((x.l.length : Int) < (es.length : Int)) := by rw [hn]; omega
          rw [List.take_length] at m3
          have hsl' := seqI_len' x.l (l.length + 1)
          obtain ⟨h4, e4, m4, t4⟩ := kput_run m3 (by simp only [List.length_append, List.length_cons]; omega) x.op x.k x.n
          rw [r_lpb rc_kexpr_b1.eq_1]
          simp only [sim, List.length_cons, List.length_nil, Nat.reduceAdd, Nat.reduceSub, List.replicate, List.cons_append, List.nil_append, List.map_cons, List.map_nil, Option.bind_some, Option.map_some, Option.bind_none, Option.map_none, if_true, if_false, decide_true, decide_false, Bool.false_eq_true, Bool.true_eq_false, Bool.not_true, Bool.not_false, reduceCtorEq, Bool.and_true, Bool.true_and, Bool.and_false, Bool.false_and, Bool.or_true, Bool.true_or, Bool.or_false, Bool.false_or, true_and, and_true, false_and, and_false, List.take_zero, List.take_succ_cons, List.drop_zero, List.drop_succ_cons, List.take_nil, List.drop_nil, List.set_cons_zero, List.set_cons_succ, Nat.reduceLeDiff, Nat.reduceLT, Nat.zero_add, Nat.lt_add_one, Nat.le_refl, clearA, Int.toNat_natCast, hlt, o3.c, e4]
          refine hQ _ _ rfl ⟨?_, t3.trans t4⟩
          simpa [mixI, h5, h7] using m4
end
end Go.Proofs.Ytioladnogpfeeaa
namespace Go.Proofs.Ytioladnogpfeeaa
set_option linter.unusedSimpArgs false
set_option linter.unusedVariables false
open Go

abbrev tR : TypeId := 40
theorem w64' {n m : Int} (e : n = m) (h1 : -9223372036854775808 ≤ n) (h2 : n ≤ 9223372036854775807) : IntKind.wrap .i64 n = m := by rw [← e]; exact w64 h1 h2
theorem acc_start (h : AH) (e : TypeId) (row : List AV) : Acc h (h.fresh 1) e (.isl (some h.ids) e [row]) [row] := .inr ⟨h.ids, by simp, Nat.le_refl _, by simp [AH.fresh], by simp [AH.fresh], rfl⟩
theorem acc_many {h0 h : AH} {e : TypeId} {v : AV} {acc new : List (List AV)} (ha : Acc h0 h e v acc) (g : GrewA h0 h) {w : AV} (hw : elemsA h e w = some new) (hnn : w ≠ .nils) (h1 : ∀ r ∈ new, r.all AV.one = true) (hn : new ≠ []) (hl : acc.length ≤ 1000000) (hl2 : new.length ≤ 1000000) :
    ∃ v' h', appendA false e v w h = some (v', h') ∧ Acc h0 h' e v' (acc ++ new) ∧ GrewA h0 h' ∧ h'.cell = h.cell ∧ h'.n = h.n := by
  have hpos : 0 < new.length := List.length_pos_iff.2 hn
  have hz : ¬ new.length = 0 := by omega
  have hc : 0 < new.length ∧ new.length ≤ 1000000 ∧ (new.all fun x => x.all AV.one) = true := ⟨hpos, hl2, by rw [List.all_eq_true]; exact h1⟩
  have e0 : appendA false e v w h = moreA false e v new h := by
    cases w <;> first | exact absurd rfl hnn | simp only [appendA, hw, Option.bind_some, hz, if_false]
  rw [e0]
  rcases ha with ⟨rfl, rfl⟩ | ⟨id, a0, a1, a2, a3, rfl⟩
  · refine ⟨_, h.fresh new.length, ?_, .inr ⟨h.ids, by simpa using hn, g.ids, by simp [AH.fresh], ?_, by rw [List.nil_append]⟩, g.trans (GrewA.fresh h new.length), rfl, rfl⟩
    · simp only [moreA, hc, and_self, if_true, Bool.false_eq_true, if_false]
    · simp [AH.fresh]
  · refine ⟨_, h.grow id (acc.length + new.length), ?_, .inr ⟨id, by simp [hn], a1, ?_, ?_, rfl⟩, g.grow a1, rfl, rfl⟩
    · simp only [moreA, hc, and_self, if_true, a3, hl]
    · simpa [AH.grow] using a2
    · simp [AH.grow]
theorem acc_wk' {h0 h : AH} {e : TypeId} {v : AV} {acc : List (List AV)} (ha : Acc h0 h e v acc) (hf : ∀ r ∈ acc, r.all flatA = true) (hn : acc ≠ []) : wkA v = some (.isl none e acc) := by
  rw [acc_wk ha hf, lstA, if_neg hn]
theorem insR_flat (l : List InsD) : ∀ r ∈ l.map insR, r.all flatA = true := by
  intro r hr
  obtain ⟨x, _, rfl⟩ := List.mem_map.1 hr
  rfl
theorem insR_one (l : List InsD) : ∀ r ∈ l.map insR, r.all AV.one = true := by
  intro r hr
  obtain ⟨x, _, rfl⟩ := List.mem_map.1 hr
  rfl
theorem codeI_ne {nf o : Int} {x : XD} (hf : x.fault nf o = 0) (p : Nat) : codeI x p ≠ [] := by
  obtain ⟨f1, f2, f3, f4, f5⟩ := fault_parts hf
  rw [codeI_mix]
  unfold mixI
  split
  · rename_i h5
    have hl2 : x.l.length = 2 := by rw [h5] at f2; simp [partsX] at f2; omega
    obtain ⟨a, c, hac⟩ := list2 hl2
    simp [hac, letC]
  · split
    · rename_i h7
      have hl2 : x.l.length = 3 := by rw [h7] at f2; simp [partsX] at f2; omega
      obtain ⟨a, c, d, hac⟩ := list3 hl2
      simp [hac, ifC]
    · simp

/-- instructions that a call puts one behind the other -/
def AccI (h0 h : AH) (v : AV) (l : List InsD) : Prop := Acc h0 h tR v (l.map insR) ∧ GrewA h0 h
theorem AccI.one {h0 h : AH} {v : AV} {l : List InsD} (a : AccI h0 h v l) (hl : l.length ≤ 1000000) (op k n : Int) :
    ∃ v' h', appendA false tR v (.isl (some h.ids) tR [[.int .i64 op, .int .i64 k, .int .i64 n]]) (h.fresh 1) = some (v', h') ∧ AccI h0 h' v' (l ++ [⟨op, k, n⟩]) ∧ h'.cell = h.cell ∧ h'.n = h.n := by
  obtain ⟨v', h', e1, a1, a2, a3, a4⟩ := acc_app a.1 a.2 (row := insR ⟨op, k, n⟩) rfl (by simpa using hl)
  exact ⟨v', h', e1, ⟨by simpa using a1, a2⟩, a3, a4⟩
theorem AccI.len {h0 h : AH} {v : AV} {l : List InsD} (a : AccI h0 h v l) : lenA v = some l.length := by simpa using (acc_len a.1).1
theorem AccI.fits {h0 h : AH} {v : AV} {l : List InsD} (a : AccI h0 h v l) (s : Bool) : fitsR s (some tR) v = true := (acc_len a.1).2 s
theorem AccI.wk {h0 h : AH} {v : AV} {l : List InsD} (a : AccI h0 h v l) (hn : l ≠ []) : wkA v = some (.isl none tR (l.map insR)) := acc_wk' a.1 (insR_flat l) (by simpa using hn)

theorem AccI.on {h0 h h' : AH} {v : AV} {l : List InsD} (a : AccI h0 h v l) (g : GrewA h h') : AccI h0 h' v l := by
  refine ⟨?_, a.2.trans g⟩
  rcases a.1 with b | ⟨id, b0, b1, b2, b3, b4⟩
  · exact .inl b
  · exact .inr ⟨id, b0, b1, Nat.lt_of_lt_of_le b2 g.ids, (g.hw id b2).trans b3, b4⟩
/-- a cell of the call's own -/
def Cel (h : AH) (c : Nat) (r : List (List AV)) : Prop := c < h.n ∧ h.cell c = some r
theorem Cel.on {h h' : AH} {c : Nat} {r : List (List AV)} (a : Cel h c r) (g : GrewA h h') : Cel h' c r := ⟨Nat.lt_of_lt_of_le a.1 g.n, (g.cell c a.1).trans a.2⟩
theorem AccI.shape {h0 h : AH} {v : AV} {l : List InsD} (a : AccI h0 h v l) (hn : l ≠ []) : ∃ id, v = .isl id tR (l.map insR) := by
  rcases a.1 with ⟨e, _⟩ | ⟨id, _, _, _, _, e⟩
  · simp at e
    exact absurd e hn
  · exact ⟨_, e⟩
/-- what another call answered is put behind -/
theorem AccI.put {h0 h : AH} {v w : AV} {l new : List InsD} (a : AccI h0 h v l) (hw : ∃ id, w = .isl id tR (new.map insR)) (hl : l.length ≤ 1000000) (hn : new ≠ []) (hl2 : new.length ≤ 1000000) :
    ∃ v' h', appendA false tR v w h = some (v', h') ∧ AccI h0 h' v' (l ++ new) ∧ h'.cell = h.cell ∧ h'.n = h.n := by
  obtain ⟨id, rfl⟩ := hw
  obtain ⟨v', h', e1, a1, a2, a3, a4⟩ := acc_many a.1 a.2 (w := .isl id tR (new.map insR)) (new := new.map insR) (by simp [elemsA]) (by simp) (insR_one new) (by simpa using hn) (by simpa using hl) (by simpa using hl2)
  exact ⟨v', h', e1, ⟨by simpa using a1, a2⟩, a3, a4⟩
theorem cel_eq {h h' : AH} {c : Nat} {r : List (List AV)} (a : Cel h c r) (h1 : h'.cell = h.cell) (h2 : h'.n = h.n) : Cel h' c r := ⟨by rw [h2]; exact a.1, by rw [h1]; exact a.2⟩

section
variable {h : AH}
set_option maxHeartbeats 1000000 in
theorem refCode_run (nf : Int) : ∀ (N : Nat) (x : XD), SizeOf.sizeOf x ≤ N → ∀ (o : Int), x.fault nf o = 0 → ∀ (r : List AV) (h : AH) (p : Nat), ExA x r → p + 3 * x.size ≤ 100000 →
    ∃ v h', runF Try.prog po 14 [.agg r, .int .i64 (p : Int)] h = some (.inl v, h') ∧ AccI h h' v (codeI x p) := by
  intro N
  induction N with
  | zero => intro x hx; have := x.so_pos; omega
  | succ N ih =>
    intro x hx o hf r h p he hl
    obtain ⟨v, es, rfl, hsl, hv, hn, hix⟩ := he.facts
    obtain ⟨f1, f2, f3, f4, f5⟩ := fault_parts hf
    have hs := x.size_eq
    have g1 := GrewA.push h [[.int .i64 x.op, .int .i64 x.k, .int .i64 x.n, v]]
    have a0 : AccI h ((h.push [[.int .i64 x.op, .int .i64 x.k, .int .i64 x.n, v]]).fresh 1) (.isl (some h.ids) tR [[.int .i64 100, .int .i64 0, .int .i64 0]]) [(⟨100, 0, 0⟩ : InsD)] :=
      ⟨.inr ⟨h.ids, by simp, Nat.le_refl _, by simp [AH.fresh, AH.push], by simp [AH.fresh, AH.push], rfl⟩, g1.trans (GrewA.fresh _ 1)⟩
    have c0 : Cel ((h.push [[.int .i64 x.op, .int .i64 x.k, .int .i64 x.n, v]]).fresh 1) h.n [[.int .i64 x.op, .int .i64 x.k, .int .i64 x.n, v]] := ⟨by simp [AH.push, AH.fresh], push_same⟩
    have ih' : ∀ y ∈ x.l, ∀ (o : Int), y.fault nf o = 0 → ∀ (r : List AV) (h : AH) (p : Nat), ExA y r → p + 3 * y.size ≤ 100000 →
      ∃ v h', runF Try.prog po 14 [.agg r, .int .i64 (p : Int)] h = some (.inl v, h') ∧ AccI h h' v (codeI y p) := fun y hy o hf r h p => ih y (by have := XD.lt_mem hy; omega) o hf r h p
    have lp : ∀ (i : Nat) (y : XD), x.l[i]? = some y → y ∈ x.l := fun i y hy => List.mem_of_getElem? hy
    rw [codeI_mix]
    by_cases h5 : x.op = 5
    · rw [h5] at f2 f5 c0 a0
      have hl2 : x.l.length = 2 := by simp [partsX] at f2; omega
      obtain ⟨a, c, hac⟩ := list2 hl2
      rw [hac] at f5 hs ⊢
      simp only [List.map_cons, List.map_nil]
      obtain ⟨g1, g2⟩ := faults_cons f5
      obtain ⟨g3, _⟩ := faults_cons g2
      simp only [Nat.zero_ne_one, and_false, if_false, and_self, if_true, Nat.zero_add] at g1 g3
      simp only [sizesX] at hs
      obtain ⟨q1, i1, d1, x1⟩ := hix 0 a (by rw [hac]; rfl)
      obtain ⟨q2, i2, d2, x2⟩ := hix 1 c (by rw [hac]; rfl)
      have i1 : ixaR (some tE) none v (.int .i64 0) = some (.ip q1 0) := i1
      have i2 : ixaR (some tE) none v (.int .i64 1) = some (.ip q2 0) := i2
      have fa : a.fault nf o = 0 := by simpa using g1
      have n1 := codeI_len _ a (Nat.le_refl _) (p + 1)
      obtain ⟨r1, h1, e1, b1⟩ := ih' a (by rw [hac]; simp) o fa q1 _ (p + 1) x1 (by omega)
      have w1 := w64' (n := (p : Int) + 1) (m := ((p + 1 : Nat) : Int)) (by omega) (by omega) (by omega)
      obtain ⟨v2, h2, e2, a2, k2, n2⟩ := (a0.on b1.2).put (b1.shape (codeI_ne fa _)) (by simp) (codeI_ne fa _) (by omega)
      obtain ⟨v3, h3, e3, a3, k3, n3⟩ := a2.one (by simp; omega) 101 0 0
      have c3 := cel_eq (cel_eq (c0.on b1.2) k2 n2) k3 n3
      have l3 := a3.len
      have w3 := w64' (n := (p : Int) + (([(⟨100, 0, 0⟩ : InsD)] ++ codeI a (p + 1) ++ [(⟨101, 0, 0⟩ : InsD)]).length : Int)) (m := ((p + 1 + (codeI a (p + 1)).length + 1 : Nat) : Int)) (by simp; omega) (by omega) (by simp; omega)
      generalize ([(⟨100, 0, 0⟩ : InsD)] ++ codeI a (p + 1) ++ [(⟨101, 0, 0⟩ : InsD)]).length = nn at l3 w3
      obtain ⟨r4, h4, e4, b4⟩ := ih' c (by rw [hac]; simp) (o + 1) g3 q2 h3 (p + 1 + (codeI a (p + 1)).length + 1) x2 (by omega)
      have n4 := codeI_len _ c (Nat.le_refl _) (p + 1 + (codeI a (p + 1)).length + 1)
      obtain ⟨v5, h5', e5, a5, k5, n5⟩ := (a3.on b4.2).put (b4.shape (codeI_ne g3 _)) (by simp; omega) (codeI_ne g3 _) (by omega)
      obtain ⟨v6, h6, e6, a6, k6, n6⟩ := a5.one (by simp; omega) 102 0 0
      have e : [(⟨100, 0, 0⟩ : InsD)] ++ codeI a (p + 1) ++ [(⟨101, 0, 0⟩ : InsD)] ++ codeI c (p + 1 + (codeI a (p + 1)).length + 1) ++ [(⟨102, 0, 0⟩ : InsD)] = mixI x.op x.k x.n [codeI a, codeI c] p := by
        rw [h5]
        simp [mixI, letC]
      rw [e] at a6
      refine runF_J fn_refCode rfl fun Q hQ => ?_; unfold rc_refCode
      simp only [sim, List.length_cons, List.length_nil, Nat.reduceAdd, Nat.reduceSub, List.replicate, List.cons_append, List.nil_append, List.map_cons, List.map_nil, Option.bind_some, Option.map_some, Option.bind_none, Option.map_none, if_true, if_false, decide_true, decide_false, Bool.false_eq_true, Bool.true_eq_false, Bool.not_true, Bool.not_false, reduceCtorEq, Bool.and_true, Bool.true_and, Bool.and_false, Bool.false_and, Bool.or_true, Bool.true_or, Bool.or_false, Bool.false_or, true_and, and_true, false_and, and_false, List.take_zero, List.take_succ_cons, List.drop_zero, List.drop_succ_cons, List.take_nil, List.drop_nil, List.set_cons_zero, List.set_cons_succ, Nat.reduceLeDiff, Nat.reduceLT, Nat.zero_add, Nat.lt_add_one, Nat.le_refl, clearA, Int.toNat_natCast, hv, c0.2, h5, Int.reduceEq, i1, d1, w1, e1, e2, e3, l3, a3.fits, c3.2, i2, d2, w3, e4, e5, e6]
      exact hQ _ _ _ rfl a6
    · have hall := faults_all h5 f5
      by_cases h7 : x.op = 7
      · rw [h7] at f2 c0 a0
        have hl2 : x.l.length = 3 := by simp [partsX] at f2; omega
        obtain ⟨a, c, d, hac⟩ := list3 hl2
        rw [hac] at hs hall ⊢
        simp only [List.map_cons, List.map_nil]
        simp only [sizesX] at hs
        obtain ⟨q1, i1, d1, x1⟩ := hix 0 a (by rw [hac]; rfl)
        obtain ⟨q2, i2, d2, x2⟩ := hix 1 c (by rw [hac]; rfl)
        obtain ⟨q3, i3, d3, x3⟩ := hix 2 d (by rw [hac]; rfl)
        have i1 : ixaR (some tE) none v (.int .i64 0) = some (.ip q1 0) := i1
        have i2 : ixaR (some tE) none v (.int .i64 1) = some (.ip q2 0) := i2
        have i3 : ixaR (some tE) none v (.int .i64 2) = some (.ip q3 0) := i3
        have fa := hall a (by simp)
        have fc := hall c (by simp)
        have fd := hall d (by simp)
        obtain ⟨r1, h1, e1, b1⟩ := ih' a (by rw [hac]; simp) o fa q1 _ (p + 1) x1 (by omega)
        have n1 := codeI_len _ a (Nat.le_refl _) (p + 1)
        have w1 := w64' (n := (p : Int) + 1) (m := ((p + 1 : Nat) : Int)) (by omega) (by omega) (by omega)
        obtain ⟨v2, h2, e2, a2, k2, m2⟩ := (a0.on b1.2).put (b1.shape (codeI_ne fa _)) (by simp) (codeI_ne fa _) (by omega)
        have c2 := cel_eq (c0.on b1.2) k2 m2
        have l2 := a2.len
        have w2 := w64' (n := (p : Int) + (([(⟨100, 0, 0⟩ : InsD)] ++ codeI a (p + 1)).length : Int)) (m := ((p + 1 + (codeI a (p + 1)).length : Nat) : Int)) (by simp; omega) (by omega) (by simp; omega)
        generalize ([(⟨100, 0, 0⟩ : InsD)] ++ codeI a (p + 1)).length = nn at l2 w2
        have w3 := w64' (n := ((p + 1 + (codeI a (p + 1)).length : Nat) : Int) + 1) (m := ((p + 1 + (codeI a (p + 1)).length + 1 : Nat) : Int)) (by omega) (by omega) (by omega)
        obtain ⟨r3, h3, e3, b3⟩ := ih' c (by rw [hac]; simp) o fc q2 h2 (p + 1 + (codeI a (p + 1)).length + 1) x2 (by omega)
        have n3 := codeI_len _ c (Nat.le_refl _) (p + 1 + (codeI a (p + 1)).length + 1)
        have c3 := c2.on b3.2
        generalize hC : codeI c (p + 1 + (codeI a (p + 1)).length + 1) = C at b3 n3
        have hCn : C ≠ [] := by rw [← hC]; exact codeI_ne fc _
        have l3 := b3.len
        have w4 := w64' (n := ((p + 1 + (codeI a (p + 1)).length + 1 : Nat) : Int) + (C.length : Int)) (m := ((p + 1 + (codeI a (p + 1)).length + 1 + C.length : Nat) : Int)) (by omega) (by omega) (by omega)
        have eo : elseC (codeI a) (codeI c) p = p + 1 + (codeI a (p + 1)).length + 1 + C.length + 1 := by rw [elseC, hC]
        have w5 := w64' (n := ((p + 1 + (codeI a (p + 1)).length + 1 + C.length : Nat) : Int) + 1) (m := ((elseC (codeI a) (codeI c) p : Nat) : Int)) (by rw [eo]; omega) (by omega) (by omega)
        obtain ⟨r6, h6, e6, b6⟩ := ih' d (by rw [hac]; simp) o fd q3 h3 (elseC (codeI a) (codeI c) p) x3 (by omega)
        have n6 := codeI_len _ d (Nat.le_refl _) (elseC (codeI a) (codeI c) p)
        have fdn := codeI_ne fd (elseC (codeI a) (codeI c) p)
        generalize hD : codeI d (elseC (codeI a) (codeI c) p) = D at b6 n6 fdn
        have l6 := b6.len
        have a3 := a2.on (b3.2.trans b6.2)
        obtain ⟨v7, h7', e7, a7, k7, m7⟩ := a3.one (by simp; omega) 103 (elseC (codeI a) (codeI c) p : Nat) 0
        obtain ⟨v8, h8, e8, a8, k8, m8⟩ := a7.put (b3.shape hCn) (by simp; omega) hCn (by omega)
        have w8 := w64' (n := ((elseC (codeI a) (codeI c) p : Nat) : Int) + (D.length : Int)) (m := ((elseC (codeI a) (codeI c) p + D.length : Nat) : Int)) (by omega) (by omega) (by omega)
        obtain ⟨v9, h9, e9, a9, k9, m9⟩ := a8.one (by simp; omega) 104 (elseC (codeI a) (codeI c) p + D.length : Nat) 0
        obtain ⟨vA, hA, eA, aA, kA, mA⟩ := a9.put (b6.shape fdn) (by simp; omega) fdn (by omega)
        have e : [(⟨100, 0, 0⟩ : InsD)] ++ codeI a (p + 1) ++ [⟨103, (elseC (codeI a) (codeI c) p : Nat), 0⟩] ++ C ++ [⟨104, (elseC (codeI a) (codeI c) p + D.length : Nat), 0⟩] ++ D = mixI x.op x.k x.n [codeI a, codeI c, codeI d] p := by
          rw [h7]
          simp [mixI, ifC, hC, hD]
        rw [e] at aA
        refine runF_J fn_refCode rfl fun Q hQ => ?_; unfold rc_refCode
        simp only [sim, List.length_cons, List.length_nil, Nat.reduceAdd, Nat.reduceSub, List.replicate, List.cons_append, List.nil_append, List.map_cons, List.map_nil, Option.bind_some, Option.map_some, Option.bind_none, Option.map_none, if_true, if_false, decide_true, decide_false, Bool.false_eq_true, Bool.true_eq_false, Bool.not_true, Bool.not_false, reduceCtorEq, Bool.and_true, Bool.true_and, Bool.and_false, Bool.false_and, Bool.or_true, Bool.true_or, Bool.or_false, Bool.false_or, true_and, and_true, false_and, and_false, List.take_zero, List.take_succ_cons, List.drop_zero, List.drop_succ_cons, List.take_nil, List.drop_nil, List.set_cons_zero, List.set_cons_succ, Nat.reduceLeDiff, Nat.reduceLT, Nat.zero_add, Nat.lt_add_one, Nat.le_refl, clearA, Int.toNat_natCast, hv, c0.2, h7, Int.reduceEq, i1, d1, w1, e1, e2, c2.2, l2, a2.fits, i2, d2, w2, w3, e3, l3, b3.fits, w4, w5, c3.2, i3, d3, e6, e7, e8, l6, b6.fits, w8, e9, eA]
        exact hQ _ _ _ rfl aA
      · have hL : x.l.length ≤ 100000 := by have := x.len_size; omega
        refine runF_J fn_refCode rfl fun Q hQ => ?_; unfold rc_refCode
        simp only [sim, List.length_cons, List.length_nil, Nat.reduceAdd, Nat.reduceSub, List.replicate, List.cons_append, List.nil_append, List.map_cons, List.map_nil, Option.bind_some, Option.map_some, Option.bind_none, Option.map_none, if_true, if_false, decide_true, decide_false, Bool.false_eq_true, Bool.true_eq_false, Bool.not_true, Bool.not_false, reduceCtorEq, Bool.and_true, Bool.true_and, Bool.and_false, Bool.false_and, Bool.or_true, Bool.true_or, Bool.or_false, Bool.false_or, true_and, and_true, false_and, and_false, List.take_zero, List.take_succ_cons, List.drop_zero, List.drop_succ_cons, List.take_nil, List.drop_nil, List.set_cons_zero, List.set_cons_succ, Nat.reduceLeDiff, Nat.reduceLT, Nat.zero_add, Nat.lt_add_one, Nat.le_refl, clearA, Int.toNat_natCast, hv, c0.2, h5, h7, Int.reduceEq]
        refine loop_Q (fun i V h' => ∃ v4 v12, V = [.agg [.int .i64 x.op, .int .i64 x.k, .int .i64 x.n, v], .int .i64 (p : Int), .ptr h.n 0 0, .nils, v4, .junk, .junk, .junk, .int .i64 (i : Nat), .int .i64 x.op, .bool false, .bool false, v12] ∧
          AccI h h' v4 (⟨100, 0, 0⟩ :: seqI ((x.l.take i).map codeI) (p + 1)) ∧ Cel h' h.n [[.int .i64 x.op, .int .i64 x.k, .int .i64 x.n, v]]) x.l.length ⟨_, _, rfl, a0, c0⟩ ?_ ?_
        · rintro i V h' hi ⟨v4, v12, rfl, a2, c2⟩ next
          obtain ⟨y, hy⟩ : ∃ y, x.l[i]? = some y := ⟨_, List.getElem?_eq_getElem hi⟩
          obtain ⟨q, i1, d1, x1⟩ := hix i y hy
          have hlt : (i : Int) < (es.length : Int) := by rw [hn]; omega
          have hw := w64 (n := (i : Int) + 1) (by omega) (by omega)
          have hsz := sizes_take hy
          have hsl' := seqI_len' (x.l.take i) (p + 1)
          have fy : y.fault nf o = 0 := by have := hall y (lp i y hy); simpa using this
          have l2 := a2.len
          have w2 := w64' (n := (p : Int) + (((⟨100, 0, 0⟩ : InsD) :: seqI ((x.l.take i).map codeI) (p + 1)).length : Int)) (m := ((p + 1 + (seqI ((x.l.take i).map codeI) (p + 1)).length : Nat) : Int)) (by simp only [List.length_cons]; omega) (by omega) (by simp only [List.length_cons]; omega)
          generalize ((⟨100, 0, 0⟩ : InsD) :: seqI ((x.l.take i).map codeI) (p + 1)).length = nn at l2 w2
          have n3 := codeI_len _ y (Nat.le_refl _) (p + 1 + (seqI ((x.l.take i).map codeI) (p + 1)).length)
          obtain ⟨r3, h3, e3, b3⟩ := ih' y (lp i y hy) o fy q h' (p + 1 + (seqI ((x.l.take i).map codeI) (p + 1)).length) x1 (by omega)
          obtain ⟨v5, h5', e5, a5, k5, m5⟩ := (a2.on b3.2).put (b3.shape (codeI_ne fy _)) (by simp only [List.length_cons]; omega) (codeI_ne fy _) (by omega)
          rw [r_lpb rc_refCode_b1.eq_1]
          simp only [sim, List.length_cons, List.length_nil, Nat.reduceAdd, Nat.reduceSub, List.replicate, List.cons_append, List.nil_append, List.map_cons, List.map_nil, Option.bind_some, Option.map_some, Option.bind_none, Option.map_none, if_true, if_false, decide_true, decide_false, Bool.false_eq_true, Bool.true_eq_false, Bool.not_true, Bool.not_false, reduceCtorEq, Bool.and_true, Bool.true_and, Bool.and_false, Bool.false_and, Bool.or_true, Bool.true_or, Bool.or_false, Bool.false_or, true_and, and_true, false_and, and_false, List.take_zero, List.take_succ_cons, List.drop_zero, List.drop_succ_cons, List.take_nil, List.drop_nil, List.set_cons_zero, List.set_cons_succ, Nat.reduceLeDiff, Nat.reduceLT, Nat.zero_add, Nat.lt_add_one, Nat.le_refl, clearA, Int.toNat_natCast, c2.2, hsl.len, hsl.fits, hlt, i1, d1, l2, a2.fits, w2, e3, e5, hw]
          refine next _ _ ⟨_, _, rfl, ?_, cel_eq (c2.on b3.2) k5 m5⟩
          rw [take_get hy, List.map_append, List.map_cons, List.map_nil, seqI_snoc]
          exact a5
        · rintro V h' ⟨v4, v12, rfl, a2, c2⟩
          have hlt : ¬ ((x.l.length : Int) < (es.length : Int)) := by rw [hn]; omega
          rw [List.take_length] at a2
          have hsl' := seqI_len' x.l (p + 1)
          obtain ⟨v5, h5', e5, a5, k5, m5⟩ := a2.one (by simp; omega) x.op x.k x.n
          have e : (⟨100, 0, 0⟩ :: seqI (x.l.map codeI) (p + 1)) ++ [⟨x.op, x.k, x.n⟩] = mixI x.op x.k x.n (x.l.map codeI) p := by simp [mixI, h5, h7]
          rw [e] at a5
          rw [r_lpb rc_refCode_b1.eq_1]
          simp only [sim, List.length_cons, List.length_nil, Nat.reduceAdd, Nat.reduceSub, List.replicate, List.cons_append, List.nil_append, List.map_cons, List.map_nil, Option.bind_some, Option.map_some, Option.bind_none, Option.map_none, if_true, if_false, decide_true, decide_false, Bool.false_eq_true, Bool.true_eq_false, Bool.not_true, Bool.not_false, reduceCtorEq, Bool.and_true, Bool.true_and, Bool.and_false, Bool.false_and, Bool.or_true, Bool.true_or, Bool.or_false, Bool.false_or, true_and, and_true, false_and, and_false, List.take_zero, List.take_succ_cons, List.drop_zero, List.drop_succ_cons, List.take_nil, List.drop_nil, List.set_cons_zero, List.set_cons_succ, Nat.reduceLeDiff, Nat.reduceLT, Nat.zero_add, Nat.lt_add_one, Nat.le_refl, clearA, Int.toNat_natCast, hsl.len, hsl.fits, hlt, c2.2, e5]
          exact hQ _ _ _ rfl a5
end
end Go.Proofs.Ytioladnogpfeeaa
