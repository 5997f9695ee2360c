/- A strings.Builder at the beginning of a block, in the plain model. -/
import Derived.Test.YtodehiopdkgoeaaDoorCBuild
import Derived.Test.YtodehiopdkgoeaaDoorAid
import Derived.Test.YtodehiopdkgoeaaDoorExtB
namespace Go.Proofs.YtodehiopdkgoeaaDoor
set_option linter.unusedSimpArgs false
set_option linter.unusedVariables false
open Go

abbrev tU8 : TypeId := 5
/-- the block b begins with a Builder that holds the text l; its buffer is the block bb -/
structure Buf (h : AH) (T b : Nat) (bb : Option Nat) (rest : List AV) (l : List UInt8) : Prop where
  ty : buildT.contains T = true
  lt : b < h.n
  mem : ∃ a0 v, h.cell b = some [a0 :: v :: rest] ∧ (a0 = .nilp ∨ a0 = .tptr T b) ∧
    ((bb = none ∧ l = [] ∧ v = .nils) ∨ ∃ b', bb = some b' ∧ v = .msl b' 0 l.length tU8 ∧ h.cell b' = some (bytesA l) ∧ b' ≠ b ∧ b' < h.n ∧ l ≠ [])
/-- what writing does to memory: that block, and its buffer, turn -/
structure Wr (h : AH) (bb : Option Nat) (h' : AH) (bb' : Option Nat) (b : Nat) : Prop where
  n : h.n ≤ h'.n
  ids : h.ids ≤ h'.ids
  cell : ∀ q, q < h.n → q ≠ b → bb ≠ some q → h'.cell q = h.cell q
  buf : ∀ q, q < h.n → bb ≠ some q → bb' ≠ some q
  hw : ∀ k, k < h.ids → h'.hw k = h.hw k
theorem Wr.refl (h : AH) (bb : Option Nat) (b : Nat) : Wr h bb h bb b := ⟨Nat.le_refl _, Nat.le_refl _, fun _ _ _ _ => rfl, fun _ _ h => h, fun _ _ => rfl⟩
theorem Wr.trans {h1 h2 h3 : AH} {b1 b2 b3 : Option Nat} {b : Nat} (x : Wr h1 b1 h2 b2 b) (y : Wr h2 b2 h3 b3 b) : Wr h1 b1 h3 b3 b :=
  ⟨Nat.le_trans x.n y.n, Nat.le_trans x.ids y.ids, fun q hq hb hn => (y.cell q (Nat.lt_of_lt_of_le hq x.n) hb (x.buf q hq hn)).trans (x.cell q hq hb hn), fun q hq hn => y.buf q (Nat.lt_of_lt_of_le hq x.n) (x.buf q hq hn),
    fun k hk => (y.hw k (Nat.lt_of_lt_of_le hk x.ids)).trans (x.hw k hk)⟩
/-- new memory of another's -/
theorem Wr.grew {h1 h2 : AH} {bb : Option Nat} {b : Nat} (g : GrewA h1 h2) (hb : ∀ q, bb = some q → q < h1.n) : Wr h1 bb h2 bb b := ⟨g.n, g.ids, fun q hq _ _ => g.cell q hq, fun _ _ h => h, g.hw⟩
theorem Wr.to {h0 h h' : AH} {bb bb' : Option Nat} {b : Nat} (x : Wr h bb h' bb' b) (g : GrewA h0 h) (h1 : h0.n ≤ b) (h2 : ∀ q, bb = some q → h0.n ≤ q) : GrewA h0 h' ∧ ∀ q, bb' = some q → h0.n ≤ q := by
  refine ⟨⟨Nat.le_trans g.n x.n, Nat.le_trans g.ids x.ids, fun q hq => ?_, fun k hk => ?_⟩, fun q hq => ?_⟩
  · rw [x.cell q (Nat.lt_of_lt_of_le hq g.n) (by omega) (fun e => by have := h2 q e; omega)]
    exact g.cell q hq
  · rw [x.hw k (Nat.lt_of_lt_of_le hk g.ids)]
    exact g.hw k hk
  · by_cases hl : q < h0.n
    · have := x.buf q (Nat.lt_of_lt_of_le hl g.n) (fun e => by have := h2 q e; omega)
      exact absurd hq this
    · omega
theorem Buf.bb_lt {h : AH} {T b : Nat} {bb : Option Nat} {rest : List AV} {l : List UInt8} (B : Buf h T b bb rest l) : ∀ q, bb = some q → q < h.n := by
  intro q hq
  obtain ⟨_, _, _, _, c⟩ := B.mem
  rcases c with ⟨rfl, _⟩ | ⟨b', rfl, _, _, _, h5, _⟩
  · cases hq
  · injection hq with hq
    omega
/-- others' memory grows -/
theorem Buf.grew {h h' : AH} {T b : Nat} {bb : Option Nat} {rest : List AV} {l : List UInt8} (B : Buf h T b bb rest l) (g : GrewA h h') : Buf h' T b bb rest l := by
  obtain ⟨a0, v, c1, c2, c3⟩ := B.mem
  refine ⟨B.ty, Nat.lt_of_lt_of_le B.lt g.n, a0, v, (g.cell b B.lt).trans c1, c2, ?_⟩
  rcases c3 with c3 | ⟨b', d1, d2, d3, d4, d5, d6⟩
  · exact .inl c3
  · exact .inr ⟨b', d1, d2, (g.cell b' d5).trans d3, d4, Nat.lt_of_lt_of_le d5 g.n, d6⟩

theorem ext_itoa : po.ext 69 = some itoaF := by
  show extF 69 = _
  unfold extF
  rw [if_neg (by decide), if_neg (by decide), if_pos rfl]
theorem ext_cc : po.ext 67 = some ccF := by
  show extF 67 = _
  unfold extF
  rw [if_neg (by decide), if_neg (by decide), if_neg (by decide), if_pos rfl]
theorem ext_bstr : po.ext 49 = some bstrF := by
  show extF 49 = _
  unfold extF
  rw [if_neg (by decide), if_neg (by decide), if_neg (by decide), if_neg (by decide), if_pos rfl]
theorem itoa_run {n : Int} (hn : -9223372036854775808 ≤ n ∧ n ≤ 9223372036854775807) (h : AH) : runF Tryd.prog po 69 [.int .i64 n] h = some (.inl (.str (Lib.itoa n)), h) := by
  unfold runF
  rw [ext_itoa]
  show itoaF _ _ = _
  unfold itoaF
  exact if_pos hn
theorem cc_run {h : AH} {T b : Nat} {a0 : AV} {row : List AV} (hT : buildT.contains T = true) (hc : h.cell b = some [a0 :: row]) (ha : a0 = .nilp ∨ a0 = .tptr T b) :
    ∃ h', runF Tryd.prog po 67 [.tptr T b] h = some (.inl (.tup []), h') ∧ h'.cell b = some [.tptr T b :: row] ∧ (∀ q, q ≠ b → h'.cell q = h.cell q) ∧ h'.n = h.n ∧ h'.ids = h.ids ∧ h'.hw = h.hw := by
  unfold runF
  rw [ext_cc]
  show ∃ h', ccF _ _ = _ ∧ _
  unfold ccF
  simp only [hT, if_true, hc]
  rcases ha with rfl | rfl
  · exact ⟨_, rfl, set_same, fun q hq => set_ne hq, rfl, rfl, rfl⟩
  · exact ⟨h, by simp, hc, fun _ _ => rfl, rfl, rfl, rfl⟩

section
variable {h : AH}
theorem bytesA_app (l s : List UInt8) : bytesA l ++ bytesA s = bytesA (l ++ s) := by simp [bytesA]
theorem bWrite_run {T b : Nat} {bb : Option Nat} {rest : List AV} {l s : List UInt8} (B : Buf h T b bb rest l) (hl : l.length ≤ 1000000000) (hs : s.length ≤ 1000000000) :
    ∃ h' bb', runF Tryd.prog po 46 [.tptr T b, .str s] h = some (.inl (.tup [.int .i64 s.length, .nili]), h') ∧ Buf h' T b bb' rest (l ++ s) ∧ Wr h bb h' bb' b := by
  obtain ⟨a0, v, c1, c2, c3⟩ := B.mem
  obtain ⟨h1, e1, k1, k2, k3, k4, k5⟩ := cc_run B.ty c1 c2
  -- what is appended
  have key : ∃ v2 h2 bb', appendS true tU8 v (.str s) h1 = some (v2, h2) ∧ h2.cell b = some [.tptr T b :: v :: rest] ∧ v2.one = true ∧ v2.cells = [v2] ∧ h.n ≤ h2.n ∧ h2.ids = h.ids ∧ h2.hw = h.hw ∧
      (∀ q, q < h.n → q ≠ b → bb ≠ some q → h2.cell q = h.cell q) ∧ (∀ q, q < h.n → bb ≠ some q → bb' ≠ some q) ∧
      ((bb' = none ∧ l ++ s = [] ∧ v2 = .nils) ∨ ∃ b', bb' = some b' ∧ v2 = .msl b' 0 (l ++ s).length tU8 ∧ h2.cell b' = some (bytesA (l ++ s)) ∧ b' ≠ b ∧ b' < h2.n ∧ l ++ s ≠ []) := by
    have hbn : b < h1.n := by rw [k3]; exact B.lt
    by_cases hz : s.length = 0
    · have hs0 := List.length_eq_zero_iff.1 hz
      subst hs0
      rcases c3 with ⟨rfl, rfl, rfl⟩ | ⟨b', rfl, rfl, d3, d4, d5, d6⟩
      · exact ⟨.nils, h1, none, rfl, k1, rfl, rfl, by omega, k4, k5, fun q _ hq _ => k2 q hq, fun _ _ h => h, .inl ⟨rfl, rfl, rfl⟩⟩
      · refine ⟨_, h1, some b', ?_, k1, rfl, rfl, by omega, k4, k5, fun q _ hq _ => k2 q hq, fun _ _ h => h, .inr ⟨b', rfl, rfl, ?_, d4, by omega, ?_⟩⟩
        · simp [appendS, sameA]
        · rw [k2 b' d4, List.append_nil]
          exact d3
        · simpa using d6
    · have hne : ∀ l' : List UInt8, l' ++ s ≠ [] := fun l' e => hz (by have := congrArg List.length e; simp at this; exact List.length_eq_zero_iff.2 this.2)
      rcases c3 with ⟨rfl, rfl, rfl⟩ | ⟨b', rfl, rfl, d3, d4, d5, d6⟩
      · refine ⟨.msl h1.n 0 s.length tU8, h1.push (bytesA s), some h1.n, ?_, ?_, rfl, rfl, by simp only [push_n]; omega, k4, k5, fun q hq hb _ => ?_, fun q hq _ e => by injection e with e; omega, .inr ⟨h1.n, rfl, by simp, push_same, by omega, by simp only [push_n]; omega, hne []⟩⟩
        · simp only [appendS]
          rw [if_neg hz, if_pos hs]
          rfl
        · exact (push_lt hbn).trans k1
        · exact (push_lt (by omega)).trans (k2 q hb)
      · refine ⟨.msl h1.n 0 (l.length + s.length) tU8, (h1.set b' none).push (bytesA l ++ bytesA s), some h1.n, ?_, ?_, rfl, rfl, by simp only [push_n, set_n]; omega, k4, k5, fun q hq hb hn => ?_, fun q hq _ e => by injection e with e; omega, .inr ⟨h1.n, rfl, by simp, ?_, by omega, by simp only [push_n, set_n]; omega, hne l⟩⟩
        · simp only [appendS]
          rw [if_neg hz, if_pos hs]
          have hc : h1.cell b' = some (bytesA l) := by rw [k2 b' d4]; exact d3
          have hll : l.length ≤ (bytesA l).length := by simp
          simp only [hl, and_self, if_true, hc, Option.bind_some, hll]
          rw [List.take_of_length_le (by simp)]
        · rw [push_ne (by rw [set_n]; omega), set_ne (fun e => d4 e.symm)]
          exact k1
        · rw [push_ne (by rw [set_n]; omega), set_ne (fun e => hn (by rw [e]))]
          exact k2 q hb
        · rw [bytesA_app]
          exact push_same (h := h1.set b' none)
  obtain ⟨v2, h2, bb', ap, p1, p2, p3, p4, p5, p6, p7, p8, p9⟩ := key
  have hbn : b < h2.n := Nat.lt_of_lt_of_le B.lt p4
  have hrun : runF Tryd.prog po 46 [.tptr T b, .str s] h = some (.inl (.tup [.int .i64 s.length, .nili]), h2.set b (some [.tptr T b :: v2 :: rest])) := by
    refine runF_R fn_bWrite rfl ?_; unfold rc_bWrite
    simp only [sim, List.length_cons, List.length_nil, Nat.reduceAdd, Nat.reduceSub, List.replicate, List.cons_append, List.nil_append, List.map_cons, List.map_nil, Option.bind_some, Option.map_some, Option.bind_none, Option.map_none, if_true, if_false, decide_true, decide_false, Bool.false_eq_true, Bool.true_eq_false, Bool.not_true, Bool.not_false, reduceCtorEq, Bool.and_true, Bool.true_and, Bool.and_false, Bool.false_and, Bool.or_true, Bool.true_or, Bool.or_false, Bool.false_or, true_and, and_true, false_and, and_false, List.take_zero, List.take_succ_cons, List.drop_zero, List.drop_succ_cons, List.take_nil, List.drop_nil, List.set_cons_zero, List.set_cons_succ, Nat.reduceLeDiff, Nat.reduceLT, Nat.zero_add, Nat.lt_add_one, Nat.le_refl, clearA, Int.toNat_natCast, e1, k1, ap, p1, p2, p3]
  refine ⟨_, bb', hrun, ⟨B.ty, hbn, _, _, set_same, .inr rfl, ?_⟩, ⟨p4, by rw [set_ids, p5]; exact Nat.le_refl _, fun q hq hb hn => by rw [set_ne hb]; exact p7 q hq hb hn, p8, fun k hk => by rw [set_hw, p6]⟩⟩
  rcases p9 with q | ⟨b', q1, q2, q3, q4, q5, q6⟩
  · exact .inl q
  · exact .inr ⟨b', q1, q2, by rw [set_ne q4]; exact q3, q4, q5, q6⟩
theorem bLen_run {T b : Nat} {bb : Option Nat} {rest : List AV} {l : List UInt8} (B : Buf h T b bb rest l) : runF Tryd.prog po 48 [.tptr T b] h = some (.inl (.int .i64 l.length), h) := by
  obtain ⟨a0, v, c1, c2, c3⟩ := B.mem
  refine runF_R fn_bLen rfl ?_; unfold rc_bLen
  rcases c3 with ⟨rfl, rfl, rfl⟩ | ⟨b', rfl, rfl, d3, d4, d5, d6⟩
  · simp only [sim, List.length_cons, List.length_nil, Nat.reduceAdd, Nat.reduceSub, List.replicate, List.cons_append, List.nil_append, List.map_cons, List.map_nil, Option.bind_some, Option.map_some, Option.bind_none, Option.map_none, if_true, if_false, decide_true, decide_false, Bool.false_eq_true, Bool.true_eq_false, Bool.not_true, Bool.not_false, reduceCtorEq, Bool.and_true, Bool.true_and, Bool.and_false, Bool.false_and, Bool.or_true, Bool.true_or, Bool.or_false, Bool.false_or, true_and, and_true, false_and, and_false, List.take_zero, List.take_succ_cons, List.drop_zero, List.drop_succ_cons, List.take_nil, List.drop_nil, List.set_cons_zero, List.set_cons_succ, Nat.reduceLeDiff, Nat.reduceLT, Nat.zero_add, Nat.lt_add_one, Nat.le_refl, clearA, Int.toNat_natCast, c1]
  · simp only [sim, List.length_cons, List.length_nil, Nat.reduceAdd, Nat.reduceSub, List.replicate, List.cons_append, List.nil_append, List.map_cons, List.map_nil, Option.bind_some, Option.map_some, Option.bind_none, Option.map_none, if_true, if_false, decide_true, decide_false, Bool.false_eq_true, Bool.true_eq_false, Bool.not_true, Bool.not_false, reduceCtorEq, Bool.and_true, Bool.true_and, Bool.and_false, Bool.false_and, Bool.or_true, Bool.true_or, Bool.or_false, Bool.false_or, true_and, and_true, false_and, and_false, List.take_zero, List.take_succ_cons, List.drop_zero, List.drop_succ_cons, List.take_nil, List.drop_nil, List.set_cons_zero, List.set_cons_succ, Nat.reduceLeDiff, Nat.reduceLT, Nat.zero_add, Nat.lt_add_one, Nat.le_refl, clearA, Int.toNat_natCast, c1]
theorem bStr_run {T b : Nat} {bb : Option Nat} {rest : List AV} {l : List UInt8} (B : Buf h T b bb rest l) :
    ∃ h', runF Tryd.prog po 49 [.tptr T b] h = some (.inl (.str l), h') ∧ (∀ q, bb ≠ some q → h'.cell q = h.cell q) ∧ h'.n = h.n ∧ h'.ids = h.ids ∧ h'.hw = h.hw := by
  obtain ⟨a0, v, c1, c2, c3⟩ := B.mem
  unfold runF
  rw [ext_bstr]
  show ∃ h', bstrF _ _ = _ ∧ _
  unfold bstrF
  simp only [c1]
  rcases c3 with ⟨rfl, rfl, rfl⟩ | ⟨b', rfl, rfl, d3, d4, d5, d6⟩
  · exact ⟨h, rfl, fun _ _ => rfl, rfl, rfl, rfl⟩
  · refine ⟨h.set b' none, ?_, fun q hq => set_ne (fun e => hq (by rw [e])), rfl, rfl, rfl⟩
    have hn : l.length ≠ 0 := by simpa using d6
    have hb : (bytesA l).length = l.length := by simp
    simp only [hn, ne_eq, not_false_eq_true, and_self, if_true, d3, Option.bind_some, hb, u8of_bytes, Option.map_some]
end
end Go.Proofs.YtodehiopdkgoeaaDoor
