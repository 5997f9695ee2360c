/- token in the plain model: letters, digits, blanks; runs of them; a number's text; one token. -/
import Derived.Test.YtngphebjmmencaaDoorCToken
import Derived.Test.YtngphebjmmencaaDoorTokLaw
import Derived.Test.YtngphebjmmencaaDoorStrS
import Derived.Test.YtngphebjmmencaaDoorAid
import Derived.Lib.ParseIntBTie
namespace Go.Proofs.YtngphebjmmencaaDoor
set_option linter.unusedSimpArgs false
set_option linter.unusedVariables false
open Go

abbrev tTk : TypeId := 32
abbrev tRk : TypeId := 33
def TD.row (t : TD) : List AV := [.int .i64 (t.at' : Nat), .str t.text, .bool t.num, .int .i64 t.n]
theorem ix_str {s : List UInt8} {i : Nat} {c : UInt8} {q : IntKind} {ar : Option (Nat × Nat × Bool)} (h : s[i]? = some c) : ixR true ar (.str s) (.int q (i : Int)) = some (.int .u8 c.toNat) := by simp [ixR, h]
theorem slc_str {s : List UInt8} {l r : Nat} {q q' : IntKind} (h1 : l ≤ r) (h2 : r ≤ s.length) : sliceA (.str s) (some (.int q (l : Int))) (some (.int q' (r : Int))) = some (.str ((s.drop l).take (r - l))) := by
  simp only [sliceA, loA, hiA, lenA, cutA, Option.bind_some, Int.toNat_natCast]
  rw [if_pos ⟨by omega, by omega, by omega⟩]
theorem u8_eq (c : UInt8) (k : Nat) (hk : k < 256) : decide ((c.toNat : Int) = (k : Int)) = decide (c = UInt8.ofNat k) := by
  refine decide_eq_decide.2 ⟨fun h => ?_, fun h => ?_⟩
  · have : c.toNat = k := by omega
    rw [← this]
    simp
  · rw [h, UInt8.toNat_ofNat']
    omega
theorem u8_ge (c : UInt8) (k : Nat) (hk : k < 256) : decide ((k : Int) ≤ (c.toNat : Int)) = decide (UInt8.ofNat k ≤ c) := by
  refine decide_eq_decide.2 ?_
  rw [UInt8.le_iff_toNat_le, UInt8.toNat_ofNat']
  omega
theorem u8_le (c : UInt8) (k : Nat) (hk : k < 256) : decide ((c.toNat : Int) ≤ (k : Int)) = decide (c ≤ UInt8.ofNat k) := by
  refine decide_eq_decide.2 ?_
  rw [UInt8.le_iff_toNat_le, UInt8.toNat_ofNat']
  omega

section
variable {h : AH}
theorem tletter_run (c : UInt8) : runF Tryd.prog po 47 [.int .u8 c.toNat] h = some (.inl (.bool (letB c)), h) := by
  have e1 : decide ((97 : Int) ≤ (c.toNat : Int)) = decide (97 ≤ c) := u8_ge c 97 (by decide)
  have e2 : decide ((c.toNat : Int) ≤ 122) = decide (c ≤ 122) := u8_le c 122 (by decide)
  have e : letB c = (decide (97 ≤ c) && decide (c ≤ 122)) := rfl
  rw [e]
  refine runF_E fn_tletter rfl fun Q hQ => ?_; unfold rc_tletter
  cases h1 : decide (97 ≤ c) <;> cases h2 : decide (c ≤ 122) <;> (rw [h1, h2] at hQ; simp only [sim, List.length_cons, List.length_nil, Nat.reduceAdd, Nat.reduceSub, List.replicate, List.cons_append, List.nil_append, List.map_cons, List.map_nil, Option.bind_some, Option.map_some, Option.bind_none, Option.map_none, if_true, if_false, decide_true, decide_false, Bool.false_eq_true, Bool.true_eq_false, Bool.not_true, Bool.not_false, reduceCtorEq, Bool.and_true, Bool.true_and, Bool.and_false, Bool.false_and, Bool.or_true, Bool.true_or, Bool.or_false, Bool.false_or, true_and, and_true, false_and, and_false, List.take_zero, List.take_succ_cons, List.drop_zero, List.drop_succ_cons, List.take_nil, List.drop_nil, List.set_cons_zero, List.set_cons_succ, Nat.reduceLeDiff, Nat.reduceLT, Nat.zero_add, Nat.lt_add_one, Nat.le_refl, clearA, Int.toNat_natCast, e1, e2, h1, h2]; exact hQ _ _ _ rfl (GrewA.refl _) rfl)
theorem tdigit_run (c : UInt8) : runF Tryd.prog po 48 [.int .u8 c.toNat] h = some (.inl (.bool (digB c)), h) := by
  have e1 : decide ((48 : Int) ≤ (c.toNat : Int)) = decide (48 ≤ c) := u8_ge c 48 (by decide)
  have e2 : decide ((c.toNat : Int) ≤ 57) = decide (c ≤ 57) := u8_le c 57 (by decide)
  have e : digB c = (decide (48 ≤ c) && decide (c ≤ 57)) := rfl
  rw [e]
  refine runF_E fn_tdigit rfl fun Q hQ => ?_; unfold rc_tdigit
  cases h1 : decide (48 ≤ c) <;> cases h2 : decide (c ≤ 57) <;> (rw [h1, h2] at hQ; simp only [sim, List.length_cons, List.length_nil, Nat.reduceAdd, Nat.reduceSub, List.replicate, List.cons_append, List.nil_append, List.map_cons, List.map_nil, Option.bind_some, Option.map_some, Option.bind_none, Option.map_none, if_true, if_false, decide_true, decide_false, Bool.false_eq_true, Bool.true_eq_false, Bool.not_true, Bool.not_false, reduceCtorEq, Bool.and_true, Bool.true_and, Bool.and_false, Bool.false_and, Bool.or_true, Bool.true_or, Bool.or_false, Bool.false_or, true_and, and_true, false_and, and_false, List.take_zero, List.take_succ_cons, List.drop_zero, List.drop_succ_cons, List.take_nil, List.drop_nil, List.set_cons_zero, List.set_cons_succ, Nat.reduceLeDiff, Nat.reduceLT, Nat.zero_add, Nat.lt_add_one, Nat.le_refl, clearA, Int.toNat_natCast, e1, e2, h1, h2]; exact hQ _ _ _ rfl (GrewA.refl _) rfl)
theorem isLetter_run (c : UInt8) : runF Tryd.prog po 28 [.int .u8 c.toNat] h = some (.inl (.bool (letB c)), h) := by
  have e1 : decide ((97 : Int) ≤ (c.toNat : Int)) = decide (97 ≤ c) := u8_ge c 97 (by decide)
  have e2 : decide ((c.toNat : Int) ≤ 122) = decide (c ≤ 122) := u8_le c 122 (by decide)
  have e : letB c = (decide (97 ≤ c) && decide (c ≤ 122)) := rfl
  rw [e]
  refine runF_E fn_isLetter rfl fun Q hQ => ?_; unfold rc_isLetter
  cases h1 : decide (97 ≤ c) <;> cases h2 : decide (c ≤ 122) <;> (rw [h1, h2] at hQ; simp only [sim, List.length_cons, List.length_nil, Nat.reduceAdd, Nat.reduceSub, List.replicate, List.cons_append, List.nil_append, List.map_cons, List.map_nil, Option.bind_some, Option.map_some, Option.bind_none, Option.map_none, if_true, if_false, decide_true, decide_false, Bool.false_eq_true, Bool.true_eq_false, Bool.not_true, Bool.not_false, reduceCtorEq, Bool.and_true, Bool.true_and, Bool.and_false, Bool.false_and, Bool.or_true, Bool.true_or, Bool.or_false, Bool.false_or, true_and, and_true, false_and, and_false, List.take_zero, List.take_succ_cons, List.drop_zero, List.drop_succ_cons, List.take_nil, List.drop_nil, List.set_cons_zero, List.set_cons_succ, Nat.reduceLeDiff, Nat.reduceLT, Nat.zero_add, Nat.lt_add_one, Nat.le_refl, clearA, Int.toNat_natCast, e1, e2, h1, h2]; exact hQ _ _ _ rfl (GrewA.refl _) rfl)
theorem isDigit_run (c : UInt8) : runF Tryd.prog po 29 [.int .u8 c.toNat] h = some (.inl (.bool (digB c)), h) := by
  have e1 : decide ((48 : Int) ≤ (c.toNat : Int)) = decide (48 ≤ c) := u8_ge c 48 (by decide)
  have e2 : decide ((c.toNat : Int) ≤ 57) = decide (c ≤ 57) := u8_le c 57 (by decide)
  have e : digB c = (decide (48 ≤ c) && decide (c ≤ 57)) := rfl
  rw [e]
  refine runF_E fn_isDigit rfl fun Q hQ => ?_; unfold rc_isDigit
  cases h1 : decide (48 ≤ c) <;> cases h2 : decide (c ≤ 57) <;> (rw [h1, h2] at hQ; simp only [sim, List.length_cons, List.length_nil, Nat.reduceAdd, Nat.reduceSub, List.replicate, List.cons_append, List.nil_append, List.map_cons, List.map_nil, Option.bind_some, Option.map_some, Option.bind_none, Option.map_none, if_true, if_false, decide_true, decide_false, Bool.false_eq_true, Bool.true_eq_false, Bool.not_true, Bool.not_false, reduceCtorEq, Bool.and_true, Bool.true_and, Bool.and_false, Bool.false_and, Bool.or_true, Bool.true_or, Bool.or_false, Bool.false_or, true_and, and_true, false_and, and_false, List.take_zero, List.take_succ_cons, List.drop_zero, List.drop_succ_cons, List.take_nil, List.drop_nil, List.set_cons_zero, List.set_cons_succ, Nat.reduceLeDiff, Nat.reduceLT, Nat.zero_add, Nat.lt_add_one, Nat.le_refl, clearA, Int.toNat_natCast, e1, e2, h1, h2]; exact hQ _ _ _ rfl (GrewA.refl _) rfl)
/-- a blank, as its four signs -/
theorem blank_eq (c : UInt8) : blankB c = (decide (c = 32) || (decide (c = 9) || (decide (c = 10) || decide (c = 13)))) := rfl
theorem tblank_run (c : UInt8) : runF Tryd.prog po 25 [.int .u8 c.toNat] h = some (.inl (.bool (blankB c)), h) := by
  have e1 : decide ((c.toNat : Int) = 32) = decide (c = 32) := u8_eq c 32 (by decide)
  have e2 : decide ((c.toNat : Int) = 9) = decide (c = 9) := u8_eq c 9 (by decide)
  have e3 : decide ((c.toNat : Int) = 10) = decide (c = 10) := u8_eq c 10 (by decide)
  have e4 : decide ((c.toNat : Int) = 13) = decide (c = 13) := u8_eq c 13 (by decide)
  rw [blank_eq]
  refine runF_E fn_tblank rfl fun Q hQ => ?_; unfold rc_tblank
  cases h1 : decide (c = 32) <;> cases h2 : decide (c = 9) <;> cases h3 : decide (c = 10) <;> cases h4 : decide (c = 13) <;> (rw [h1, h2, h3, h4] at hQ; simp only [sim, List.length_cons, List.length_nil, Nat.reduceAdd, Nat.reduceSub, List.replicate, List.cons_append, List.nil_append, List.map_cons, List.map_nil, Option.bind_some, Option.map_some, Option.bind_none, Option.map_none, if_true, if_false, decide_true, decide_false, Bool.false_eq_true, Bool.true_eq_false, Bool.not_true, Bool.not_false, reduceCtorEq, Bool.and_true, Bool.true_and, Bool.and_false, Bool.false_and, Bool.or_true, Bool.true_or, Bool.or_false, Bool.false_or, true_and, and_true, false_and, and_false, List.take_zero, List.take_succ_cons, List.drop_zero, List.drop_succ_cons, List.take_nil, List.drop_nil, List.set_cons_zero, List.set_cons_succ, Nat.reduceLeDiff, Nat.reduceLT, Nat.zero_add, Nat.lt_add_one, Nat.le_refl, clearA, Int.toNat_natCast, e1, e2, e3, e4, h1, h2, h3, h4]; exact hQ _ _ _ rfl (GrewA.refl _) rfl)

/-- how far such bytes go on -/
theorem tw_at {f : UInt8 → Bool} : ∀ (l : List UInt8) (i : Nat), i < (l.takeWhile f).length → ∃ c, l[i]? = some c ∧ f c = true
  | [], i, h => by simp at h
  | c :: l, i, h => by
    rw [List.takeWhile_cons] at h
    split at h
    · rename_i hc
      cases i with
      | zero => exact ⟨c, rfl, hc⟩
      | succ i => exact tw_at l i (by simpa using h)
    · simp at h
theorem tw_end {f : UInt8 → Bool} : ∀ (l : List UInt8), (l.takeWhile f).length = l.length ∨ ∃ c, l[(l.takeWhile f).length]? = some c ∧ f c = false
  | [] => .inl rfl
  | c :: l => by
    rw [List.takeWhile_cons]
    split
    · rcases tw_end (f := f) l with h | ⟨d, h1, h2⟩
      · exact .inl (by simp [h])
      · exact .inr ⟨d, by simpa using h1, h2⟩
    · rename_i hc
      exact .inr ⟨c, rfl, by simpa using hc⟩
theorem trun_run {g : FuncId} {f : UInt8 → Bool} (hg : ∀ (c : UInt8) (h : AH), runF Tryd.prog po g [.int .u8 c.toNat] h = some (.inl (.bool (f c)), h)) (s : List UInt8) (a : Nat) (ha : a ≤ s.length) (hs : s.length ≤ 1000000) :
    runF Tryd.prog po 24 [.str s, .int .i64 (a : Int), .fn g [] []] h = some (.inl (.int .i64 (((s.drop a).takeWhile f).length : Nat)), h) := by
  have hin := tw_at (f := f) (s.drop a)
  have hend := tw_end (f := f) (s.drop a)
  have hle : ((s.drop a).takeWhile f).length ≤ (s.drop a).length := (List.takeWhile_sublist _).length_le
  have hdl : (s.drop a).length = s.length - a := List.length_drop
  generalize ((s.drop a).takeWhile f).length = n at hin hend hle ⊢
  refine runF_E fn_trun rfl fun Q hQ => ?_; unfold rc_trun
  simp only [sim, List.length_cons, List.length_nil, Nat.reduceAdd, Nat.reduceSub, List.replicate, List.cons_append, List.nil_append, List.map_cons, List.map_nil, Option.bind_some, Option.map_some, Option.bind_none, Option.map_none, if_true, if_false, decide_true, decide_false, Bool.false_eq_true, Bool.true_eq_false, Bool.not_true, Bool.not_false, reduceCtorEq, Bool.and_true, Bool.true_and, Bool.and_false, Bool.false_and, Bool.or_true, Bool.true_or, Bool.or_false, Bool.false_or, true_and, and_true, false_and, and_false, List.take_zero, List.take_succ_cons, List.drop_zero, List.drop_succ_cons, List.take_nil, List.drop_nil, List.set_cons_zero, List.set_cons_succ, Nat.reduceLeDiff, Nat.reduceLT, Nat.zero_add, Nat.lt_add_one, Nat.le_refl, clearA, Int.toNat_natCast]
  refine loop_Q (fun i V h' => ∃ w5, V = [.str s, .int .i64 (a : Int), .fn g [] [], .int .i64 0, .int .i64 (i : Nat), w5] ∧ h' = h) n ⟨_, rfl, rfl⟩ ?_ ?_
  · rintro i V h' hi ⟨w5, rfl, rfl⟩ next
    obtain ⟨c, hc, hfc⟩ := hin i hi
    rw [List.getElem?_drop] at hc
    have w1 : IntKind.wrap .i64 ((a : Int) + (i : Int)) = ((a + i : Nat) : Int) := w64' (by omega) (by omega) (by omega)
    have w2 : IntKind.wrap .i64 ((i : Int) + 1) = ((i + 1 : Nat) : Int) := w64' (by omega) (by omega) (by omega)
    have hlt : ((a + i : Nat) : Int) < (s.length : Int) := by omega
    rw [r_lpb rc_trun_b1.eq_1]
    simp only [sim, List.length_cons, List.length_nil, Nat.reduceAdd, Nat.reduceSub, List.replicate, List.cons_append, List.nil_append, List.map_cons, List.map_nil, Option.bind_some, Option.map_some, Option.bind_none, Option.map_none, if_true, if_false, decide_true, decide_false, Bool.false_eq_true, Bool.true_eq_false, Bool.not_true, Bool.not_false, reduceCtorEq, Bool.and_true, Bool.true_and, Bool.and_false, Bool.false_and, Bool.or_true, Bool.true_or, Bool.or_false, Bool.false_or, true_and, and_true, false_and, and_false, List.take_zero, List.take_succ_cons, List.drop_zero, List.drop_succ_cons, List.take_nil, List.drop_nil, List.set_cons_zero, List.set_cons_succ, Nat.reduceLeDiff, Nat.reduceLT, Nat.zero_add, Nat.lt_add_one, Nat.le_refl, clearA, Int.toNat_natCast, calls, w1, w2, hlt, ix_str hc, hg, hfc]
    exact next _ _ ⟨_, rfl, rfl⟩
  · rintro V h' ⟨w5, rfl, rfl⟩
    have w1 : IntKind.wrap .i64 ((a : Int) + (n : Int)) = ((a + n : Nat) : Int) := w64' (by omega) (by omega) (by omega)
    rcases hend with he | ⟨c, hc, hfc⟩
    · have hlt : ¬ ((a + n : Nat) : Int) < (s.length : Int) := by omega
      rw [r_lpb rc_trun_b1.eq_1]
      simp only [sim, List.length_cons, List.length_nil, Nat.reduceAdd, Nat.reduceSub, List.replicate, List.cons_append, List.nil_append, List.map_cons, List.map_nil, Option.bind_some, Option.map_some, Option.bind_none, Option.map_none, if_true, if_false, decide_true, decide_false, Bool.false_eq_true, Bool.true_eq_false, Bool.not_true, Bool.not_false, reduceCtorEq, Bool.and_true, Bool.true_and, Bool.and_false, Bool.false_and, Bool.or_true, Bool.true_or, Bool.or_false, Bool.false_or, true_and, and_true, false_and, and_false, List.take_zero, List.take_succ_cons, List.drop_zero, List.drop_succ_cons, List.take_nil, List.drop_nil, List.set_cons_zero, List.set_cons_succ, Nat.reduceLeDiff, Nat.reduceLT, Nat.zero_add, Nat.lt_add_one, Nat.le_refl, clearA, Int.toNat_natCast, calls, w1, hlt]
      exact hQ _ _ _ rfl (GrewA.refl _) rfl
    · rw [List.getElem?_drop] at hc
      have hlt : ((a + n : Nat) : Int) < (s.length : Int) := by
        have := (List.getElem?_eq_some_iff.1 hc).1
        omega
      rw [r_lpb rc_trun_b1.eq_1]
      simp only [sim, List.length_cons, List.length_nil, Nat.reduceAdd, Nat.reduceSub, List.replicate, List.cons_append, List.nil_append, List.map_cons, List.map_nil, Option.bind_some, Option.map_some, Option.bind_none, Option.map_none, if_true, if_false, decide_true, decide_false, Bool.false_eq_true, Bool.true_eq_false, Bool.not_true, Bool.not_false, reduceCtorEq, Bool.and_true, Bool.true_and, Bool.and_false, Bool.false_and, Bool.or_true, Bool.true_or, Bool.or_false, Bool.false_or, true_and, and_true, false_and, and_false, List.take_zero, List.take_succ_cons, List.drop_zero, List.drop_succ_cons, List.take_nil, List.drop_nil, List.set_cons_zero, List.set_cons_succ, Nat.reduceLeDiff, Nat.reduceLT, Nat.zero_add, Nat.lt_add_one, Nat.le_refl, clearA, Int.toNat_natCast, calls, w1, hlt, ix_str hc, hg, hfc]
      exact hQ _ _ _ rfl (GrewA.refl _) rfl

/-! ### a number's text -/
theorem pint_run {t : List UInt8} (ht : t.length ≤ 1000000000) : runF Tryd.prog po 49 [.str t, .int .i64 10, .int .i64 64] h = some (.inl (match Lib.parseIntB 64 t with
    | .ok n => .tup [.int .i64 n, .nili]
    | _ => .tup [.junk, .iface 112 .junk]), h) := by
  unfold runF
  rw [ext_pint]
  show pintF _ _ = _
  unfold pintF
  exact if_pos ⟨rfl, rfl, ht⟩
theorem long_cases (t : List UInt8) (ht : t.length ≤ 1000000000) :
    (∃ n, isI64 n ∧ (∀ h, runF Tryd.prog po 49 [.str t, .int .i64 10, .int .i64 64] h = some (.inl (.tup [.int .i64 n, .nili]), h)) ∧ longD t = if Lib.itoa n = t then some n else none) ∨
    ((∀ h, runF Tryd.prog po 49 [.str t, .int .i64 10, .int .i64 64] h = some (.inl (.tup [.junk, .iface 112 .junk]), h)) ∧ longD t = none) := by
  have hp := fun h => pint_run (h := h) ht
  unfold longD
  rcases hq : Lib.parseIntB 64 t with n | _ | _
  · rw [hq] at hp
    have hb := Lib.parseIntB_bounds hq
    have e : (((2 ^ (64 - 1) : Nat)) : Int) = 9223372036854775808 := by decide
    rw [e] at hb
    exact .inl ⟨n, ⟨hb.1, by omega⟩, hp, rfl⟩
  · rw [hq] at hp
    exact .inr ⟨hp, rfl⟩
  · rw [hq] at hp
    exact .inr ⟨hp, rfl⟩
theorem LongOf_run (t : List UInt8) (ht : t.length ≤ 1000000) : runF Tryd.prog po 30 [.str t] h = some (.inl (match longD t with
    | some n => .tup [.int .i64 n, .bool true]
    | none => .tup [.int .i64 0, .bool false]), h) := by
  rcases long_cases t (by omega) with ⟨n, hn, hp, hl⟩ | ⟨hp, hl⟩
  · have cf := fun h => fmt_run hn h
    by_cases he : Lib.itoa n = t
    · rw [hl, if_pos he]
      refine runF_E fn_LongOf rfl fun Q hQ => ?_; unfold rc_LongOf
      simp only [sim, List.length_cons, List.length_nil, Nat.reduceAdd, Nat.reduceSub, List.replicate, List.cons_append, List.nil_append, List.map_cons, List.map_nil, Option.bind_some, Option.map_some, Option.bind_none, Option.map_none, if_true, if_false, decide_true, decide_false, Bool.false_eq_true, Bool.true_eq_false, Bool.not_true, Bool.not_false, reduceCtorEq, Bool.and_true, Bool.true_and, Bool.and_false, Bool.false_and, Bool.or_true, Bool.true_or, Bool.or_false, Bool.false_or, true_and, and_true, false_and, and_false, List.take_zero, List.take_succ_cons, List.drop_zero, List.drop_succ_cons, List.take_nil, List.drop_nil, List.set_cons_zero, List.set_cons_succ, Nat.reduceLeDiff, Nat.reduceLT, Nat.zero_add, Nat.lt_add_one, Nat.le_refl, clearA, Int.toNat_natCast, hp, cf, he]
      exact hQ _ _ _ rfl (GrewA.refl _) rfl
    · rw [hl, if_neg he]
      refine runF_E fn_LongOf rfl fun Q hQ => ?_; unfold rc_LongOf
      simp only [sim, List.length_cons, List.length_nil, Nat.reduceAdd, Nat.reduceSub, List.replicate, List.cons_append, List.nil_append, List.map_cons, List.map_nil, Option.bind_some, Option.map_some, Option.bind_none, Option.map_none, if_true, if_false, decide_true, decide_false, Bool.false_eq_true, Bool.true_eq_false, Bool.not_true, Bool.not_false, reduceCtorEq, Bool.and_true, Bool.true_and, Bool.and_false, Bool.false_and, Bool.or_true, Bool.true_or, Bool.or_false, Bool.false_or, true_and, and_true, false_and, and_false, List.take_zero, List.take_succ_cons, List.drop_zero, List.drop_succ_cons, List.take_nil, List.drop_nil, List.set_cons_zero, List.set_cons_succ, Nat.reduceLeDiff, Nat.reduceLT, Nat.zero_add, Nat.lt_add_one, Nat.le_refl, clearA, Int.toNat_natCast, hp, cf, he]
      exact hQ _ _ _ rfl (GrewA.refl _) rfl
  · rw [hl]
    refine runF_E fn_LongOf rfl fun Q hQ => ?_; unfold rc_LongOf
    simp only [sim, List.length_cons, List.length_nil, Nat.reduceAdd, Nat.reduceSub, List.replicate, List.cons_append, List.nil_append, List.map_cons, List.map_nil, Option.bind_some, Option.map_some, Option.bind_none, Option.map_none, if_true, if_false, decide_true, decide_false, Bool.false_eq_true, Bool.true_eq_false, Bool.not_true, Bool.not_false, reduceCtorEq, Bool.and_true, Bool.true_and, Bool.and_false, Bool.false_and, Bool.or_true, Bool.true_or, Bool.or_false, Bool.false_or, true_and, and_true, false_and, and_false, List.take_zero, List.take_succ_cons, List.drop_zero, List.drop_succ_cons, List.take_nil, List.drop_nil, List.set_cons_zero, List.set_cons_succ, Nat.reduceLeDiff, Nat.reduceLT, Nat.zero_add, Nat.lt_add_one, Nat.le_refl, clearA, Int.toNat_natCast, hp]
    exact hQ _ _ _ rfl (GrewA.refl _) rfl

/-! ### one token -/
abbrev zRow : List AV := [.int .i64 0, .str [], .bool false, .int .i64 0]
def oneA' (o : Option TD) : AV := match o with
  | some t => .tup [.agg t.row, .int .i64 0]
  | none => .tup [.agg zRow, .int .i64 7]
theorem drop_at {s : List UInt8} {a : Nat} {c : UInt8} {r : List UInt8} (h : s.drop a = c :: r) : s[a]? = some c ∧ a < s.length ∧ s.drop (a + 1) = r ∧ r.length = s.length - a - 1 := by
  have h1 : s[a]? = some c := by
    have := List.getElem?_drop (xs := s) (i := a) (j := 0)
    rw [h] at this
    simpa using this.symm
  have h2 := (List.getElem?_eq_some_iff.1 h1).1
  have h3 : s.drop (a + 1) = r := by
    have := List.tail_drop (l := s) (i := a)
    rw [h] at this
    simpa using this.symm
  have h4 : (s.drop a).length = s.length - a := List.length_drop
  rw [h, List.length_cons] at h4
  exact ⟨h1, h2, h3, by omega⟩
theorem take_tw {f : UInt8 → Bool} : ∀ l : List UInt8, l.take (l.takeWhile f).length = l.takeWhile f
  | [] => rfl
  | c :: l => by
    rw [List.takeWhile_cons]
    split
    · rw [List.length_cons, List.take_succ_cons, take_tw l]
    · rfl
set_option maxHeartbeats 1000000 in
theorem tone_run (s : List UInt8) (a : Nat) (c : UInt8) (r : List UInt8) (hd : s.drop a = c :: r) (hs : s.length ≤ 1000000) :
    runF Tryd.prog po 26 [.str s, .int .i64 (a : Int)] h = some (.inl (oneA' (oneD a (s.drop a))), h) := by
  obtain ⟨hc, hlt, hd1, hrl⟩ := drop_at hd
  have e40 : decide ((c.toNat : Int) = 40) = decide (c = 40) := u8_eq c 40 (by decide)
  have e41 : decide ((c.toNat : Int) = 41) = decide (c = 41) := u8_eq c 41 (by decide)
  have e45 : decide ((c.toNat : Int) = 45) = decide (c = 45) := u8_eq c 45 (by decide)
  have w1 : IntKind.wrap .i64 ((a : Int) + 1) = ((a + 1 : Nat) : Int) := w64' (by omega) (by omega) (by omega)
  have rl := fun h => tletter_run (h := h) c
  have rd := fun h => tdigit_run (h := h) c
  have kz : ∀ x : List AV, (h.push [x]).cell h.n = some [x] := fun x => push_same
  have g1 : ∀ x : List AV, GrewA h (h.push [x]) := fun x => GrewA.push _ _
  rw [hd]
  by_cases hbr : c = 40 ∨ c = 41
  · have eo : oneD a (c :: r) = some ⟨a, [c], false, 0⟩ := if_pos hbr
    rw [eo]
    have sl : sliceA (.str s) (some (.int .i64 (a : Int))) (some (.int .i64 ((a + 1 : Nat) : Int))) = some (.str [c]) := by
      rw [slc_str (by omega) (by omega), hd, Nat.add_sub_cancel_left]
      rfl
    rcases hbr with hb | hb
    · have d40 : decide (c = 40) = true := decide_eq_true hb
      refine runF_E fn_tone rfl fun Q hQ => ?_; unfold rc_tone
      simp only [sim, List.length_cons, List.length_nil, Nat.reduceAdd, Nat.reduceSub, List.replicate, List.cons_append, List.nil_append, List.map_cons, List.map_nil, Option.bind_some, Option.map_some, Option.bind_none, Option.map_none, if_true, if_false, decide_true, decide_false, Bool.false_eq_true, Bool.true_eq_false, Bool.not_true, Bool.not_false, reduceCtorEq, Bool.and_true, Bool.true_and, Bool.and_false, Bool.false_and, Bool.or_true, Bool.true_or, Bool.or_false, Bool.false_or, true_and, and_true, false_and, and_false, List.take_zero, List.take_succ_cons, List.drop_zero, List.drop_succ_cons, List.take_nil, List.drop_nil, List.set_cons_zero, List.set_cons_succ, Nat.reduceLeDiff, Nat.reduceLT, Nat.zero_add, Nat.lt_add_one, Nat.le_refl, clearA, Int.toNat_natCast, ix_str hc, e40, d40, w1, sl]
      exact hQ _ _ _ (by simp only [sim, List.length_cons, List.length_nil, Nat.reduceAdd, Nat.reduceSub, List.replicate, List.cons_append, List.nil_append, List.map_cons, List.map_nil, Option.bind_some, Option.map_some, Option.bind_none, Option.map_none, if_true, if_false, decide_true, decide_false, Bool.false_eq_true, Bool.true_eq_false, Bool.not_true, Bool.not_false, reduceCtorEq, Bool.and_true, Bool.true_and, Bool.and_false, Bool.false_and, Bool.or_true, Bool.true_or, Bool.or_false, Bool.false_or, true_and, and_true, false_and, and_false, List.take_zero, List.take_succ_cons, List.drop_zero, List.drop_succ_cons, List.take_nil, List.drop_nil, List.set_cons_zero, List.set_cons_succ, Nat.reduceLeDiff, Nat.reduceLT, Nat.zero_add, Nat.lt_add_one, Nat.le_refl, clearA, Int.toNat_natCast]; rfl) (g1 _) rfl
    · have d40 : decide (c = 40) = false := decide_eq_false (by rw [hb]; decide)
      have d41 : decide (c = 41) = true := decide_eq_true hb
      refine runF_E fn_tone rfl fun Q hQ => ?_; unfold rc_tone
      simp only [sim, List.length_cons, List.length_nil, Nat.reduceAdd, Nat.reduceSub, List.replicate, List.cons_append, List.nil_append, List.map_cons, List.map_nil, Option.bind_some, Option.map_some, Option.bind_none, Option.map_none, if_true, if_false, decide_true, decide_false, Bool.false_eq_true, Bool.true_eq_false, Bool.not_true, Bool.not_false, reduceCtorEq, Bool.and_true, Bool.true_and, Bool.and_false, Bool.false_and, Bool.or_true, Bool.true_or, Bool.or_false, Bool.false_or, true_and, and_true, false_and, and_false, List.take_zero, List.take_succ_cons, List.drop_zero, List.drop_succ_cons, List.take_nil, List.drop_nil, List.set_cons_zero, List.set_cons_succ, Nat.reduceLeDiff, Nat.reduceLT, Nat.zero_add, Nat.lt_add_one, Nat.le_refl, clearA, Int.toNat_natCast, ix_str hc, e40, e41, d40, d41, w1, sl]
      exact hQ _ _ _ (by simp only [sim, List.length_cons, List.length_nil, Nat.reduceAdd, Nat.reduceSub, List.replicate, List.cons_append, List.nil_append, List.map_cons, List.map_nil, Option.bind_some, Option.map_some, Option.bind_none, Option.map_none, if_true, if_false, decide_true, decide_false, Bool.false_eq_true, Bool.true_eq_false, Bool.not_true, Bool.not_false, reduceCtorEq, Bool.and_true, Bool.true_and, Bool.and_false, Bool.false_and, Bool.or_true, Bool.true_or, Bool.or_false, Bool.false_or, true_and, and_true, false_and, and_false, List.take_zero, List.take_succ_cons, List.drop_zero, List.drop_succ_cons, List.take_nil, List.drop_nil, List.set_cons_zero, List.set_cons_succ, Nat.reduceLeDiff, Nat.reduceLT, Nat.zero_add, Nat.lt_add_one, Nat.le_refl, clearA, Int.toNat_natCast]; rfl) (g1 _) rfl
  · have d40 : decide (c = 40) = false := decide_eq_false fun e => hbr (.inl e)
    have d41 : decide (c = 41) = false := decide_eq_false fun e => hbr (.inr e)
    cases hl : letB c with
    | true =>
      have eo : oneD a (c :: r) = some ⟨a, c :: r.takeWhile letB, false, 0⟩ := by rw [oneD, if_neg hbr, if_pos hl]
      rw [eo]
      have hk : (s.drop a).takeWhile letB = c :: r.takeWhile letB := by rw [hd, List.takeWhile_cons, if_pos hl]
      have ru := fun h => trun_run (h := h) (fun c h => tletter_run (h := h) c) s a (by omega) hs
      have hkl : (c :: r.takeWhile letB).length ≤ s.length - a := by
        have := (List.takeWhile_sublist letB (l := r)).length_le
        simp only [List.length_cons]
        omega
      rw [hk] at ru
      have w2 : IntKind.wrap .i64 ((a : Int) + ((c :: r.takeWhile letB).length : Nat)) = ((a + (c :: r.takeWhile letB).length : Nat) : Int) := w64' (by omega) (by omega) (by omega)
      have sl : sliceA (.str s) (some (.int .i64 (a : Int))) (some (.int .i64 ((a + (c :: r.takeWhile letB).length : Nat) : Int))) = some (.str (c :: r.takeWhile letB)) := by
        rw [slc_str (by omega) (by omega), Nat.add_sub_cancel_left, ← hk, take_tw]
      generalize (c :: r.takeWhile letB) = tx at ru w2 sl ⊢
      refine runF_E fn_tone rfl fun Q hQ => ?_; unfold rc_tone
      simp only [sim, List.length_cons, List.length_nil, Nat.reduceAdd, Nat.reduceSub, List.replicate, List.cons_append, List.nil_append, List.map_cons, List.map_nil, Option.bind_some, Option.map_some, Option.bind_none, Option.map_none, if_true, if_false, decide_true, decide_false, Bool.false_eq_true, Bool.true_eq_false, Bool.not_true, Bool.not_false, reduceCtorEq, Bool.and_true, Bool.true_and, Bool.and_false, Bool.false_and, Bool.or_true, Bool.true_or, Bool.or_false, Bool.false_or, true_and, and_true, false_and, and_false, List.take_zero, List.take_succ_cons, List.drop_zero, List.drop_succ_cons, List.take_nil, List.drop_nil, List.set_cons_zero, List.set_cons_succ, Nat.reduceLeDiff, Nat.reduceLT, Nat.zero_add, Nat.lt_add_one, Nat.le_refl, clearA, Int.toNat_natCast, ix_str hc, e40, e41, d40, d41, rl, hl, ru, w2, sl]
      exact hQ _ _ _ (by simp only [sim, List.length_cons, List.length_nil, Nat.reduceAdd, Nat.reduceSub, List.replicate, List.cons_append, List.nil_append, List.map_cons, List.map_nil, Option.bind_some, Option.map_some, Option.bind_none, Option.map_none, if_true, if_false, decide_true, decide_false, Bool.false_eq_true, Bool.true_eq_false, Bool.not_true, Bool.not_false, reduceCtorEq, Bool.and_true, Bool.true_and, Bool.and_false, Bool.false_and, Bool.or_true, Bool.true_or, Bool.or_false, Bool.false_or, true_and, and_true, false_and, and_false, List.take_zero, List.take_succ_cons, List.drop_zero, List.drop_succ_cons, List.take_nil, List.drop_nil, List.set_cons_zero, List.set_cons_succ, Nat.reduceLeDiff, Nat.reduceLT, Nat.zero_add, Nat.lt_add_one, Nat.le_refl, clearA, Int.toNat_natCast]; rfl) (g1 _) rfl
    | false =>
      by_cases hdg : digB c = true ∨ c = 45
      · have eo : oneD a (c :: r) = (longD (c :: r.takeWhile digB)).map fun n => ⟨a, c :: r.takeWhile digB, true, n⟩ := by rw [oneD, if_neg hbr, hl, if_neg (by simp), if_pos hdg]
        rw [eo]
        have ru := fun h => trun_run (h := h) (fun c h => tdigit_run (h := h) c) s (a + 1) (by omega) hs
        rw [hd1] at ru
        have hkl := (List.takeWhile_sublist digB (l := r)).length_le
        have w2 : IntKind.wrap .i64 (((a + 1 : Nat) : Int) + ((r.takeWhile digB).length : Nat)) = ((a + 1 + (r.takeWhile digB).length : Nat) : Int) := w64' (by omega) (by omega) (by omega)
        have sl : sliceA (.str s) (some (.int .i64 (a : Int))) (some (.int .i64 ((a + 1 + (r.takeWhile digB).length : Nat) : Int))) = some (.str (c :: r.takeWhile digB)) := by
          rw [slc_str (by omega) (by omega), hd, show a + 1 + (r.takeWhile digB).length - a = (r.takeWhile digB).length + 1 by omega, List.take_succ_cons, take_tw]
        have htl : (c :: r.takeWhile digB).length ≤ 1000000 := by
          simp only [List.length_cons]
          omega
        have dd : (digB c = true ∧ True) ∨ (digB c = false ∧ decide (c = 45) = true) := by
          cases h9 : digB c with
          | true => exact .inl ⟨rfl, trivial⟩
          | false => exact .inr ⟨rfl, decide_eq_true (hdg.resolve_left (by simp [h9]))⟩
        generalize (c :: r.takeWhile digB) = tx at sl htl ⊢
        generalize (r.takeWhile digB).length = k at ru w2 sl
        have cases_ : ∀ (v : Option Int), longD tx = v → runF Tryd.prog po 26 [.str s, .int .i64 (a : Int)] h = some (.inl (oneA' (v.map fun n => ⟨a, tx, true, n⟩)), h) := by
          intro v hv
          rcases long_cases tx (by omega) with ⟨n, hn, hp, hln⟩ | ⟨hp, hln⟩
          · have cf := fun h => fmt_run hn h
            by_cases he : Lib.itoa n = tx
            · rw [hv, if_pos he] at hln
              subst hln
              rcases dd with ⟨d1, _⟩ | ⟨d1, d2⟩
              · refine runF_E fn_tone rfl fun Q hQ => ?_; unfold rc_tone
                simp only [sim, List.length_cons, List.length_nil, Nat.reduceAdd, Nat.reduceSub, List.replicate, List.cons_append, List.nil_append, List.map_cons, List.map_nil, Option.bind_some, Option.map_some, Option.bind_none, Option.map_none, if_true, if_false, decide_true, decide_false, Bool.false_eq_true, Bool.true_eq_false, Bool.not_true, Bool.not_false, reduceCtorEq, Bool.and_true, Bool.true_and, Bool.and_false, Bool.false_and, Bool.or_true, Bool.true_or, Bool.or_false, Bool.false_or, true_and, and_true, false_and, and_false, List.take_zero, List.take_succ_cons, List.drop_zero, List.drop_succ_cons, List.take_nil, List.drop_nil, List.set_cons_zero, List.set_cons_succ, Nat.reduceLeDiff, Nat.reduceLT, Nat.zero_add, Nat.lt_add_one, Nat.le_refl, clearA, Int.toNat_natCast, ix_str hc, e40, e41, d40, d41, rl, hl, rd, d1, w1, ru, w2, sl, hp, cf, he]
                exact hQ _ _ _ (by simp only [sim, List.length_cons, List.length_nil, Nat.reduceAdd, Nat.reduceSub, List.replicate, List.cons_append, List.nil_append, List.map_cons, List.map_nil, Option.bind_some, Option.map_some, Option.bind_none, Option.map_none, if_true, if_false, decide_true, decide_false, Bool.false_eq_true, Bool.true_eq_false, Bool.not_true, Bool.not_false, reduceCtorEq, Bool.and_true, Bool.true_and, Bool.and_false, Bool.false_and, Bool.or_true, Bool.true_or, Bool.or_false, Bool.false_or, true_and, and_true, false_and, and_false, List.take_zero, List.take_succ_cons, List.drop_zero, List.drop_succ_cons, List.take_nil, List.drop_nil, List.set_cons_zero, List.set_cons_succ, Nat.reduceLeDiff, Nat.reduceLT, Nat.zero_add, Nat.lt_add_one, Nat.le_refl, clearA, Int.toNat_natCast]; rfl) (g1 _) rfl
              · refine runF_E fn_tone rfl fun Q hQ => ?_; unfold rc_tone
                simp only [sim, List.length_cons, List.length_nil, Nat.reduceAdd, Nat.reduceSub, List.replicate, List.cons_append, List.nil_append, List.map_cons, List.map_nil, Option.bind_some, Option.map_some, Option.bind_none, Option.map_none, if_true, if_false, decide_true, decide_false, Bool.false_eq_true, Bool.true_eq_false, Bool.not_true, Bool.not_false, reduceCtorEq, Bool.and_true, Bool.true_and, Bool.and_false, Bool.false_and, Bool.or_true, Bool.true_or, Bool.or_false, Bool.false_or, true_and, and_true, false_and, and_false, List.take_zero, List.take_succ_cons, List.drop_zero, List.drop_succ_cons, List.take_nil, List.drop_nil, List.set_cons_zero, List.set_cons_succ, Nat.reduceLeDiff, Nat.reduceLT, Nat.zero_add, Nat.lt_add_one, Nat.le_refl, clearA, Int.toNat_natCast, ix_str hc, e40, e41, e45, d40, d41, rl, hl, rd, d1, d2, w1, ru, w2, sl, hp, cf, he]
                exact hQ _ _ _ (by simp only [sim, List.length_cons, List.length_nil, Nat.reduceAdd, Nat.reduceSub, List.replicate, List.cons_append, List.nil_append, List.map_cons, List.map_nil, Option.bind_some, Option.map_some, Option.bind_none, Option.map_none, if_true, if_false, decide_true, decide_false, Bool.false_eq_true, Bool.true_eq_false, Bool.not_true, Bool.not_false, reduceCtorEq, Bool.and_true, Bool.true_and, Bool.and_false, Bool.false_and, Bool.or_true, Bool.true_or, Bool.or_false, Bool.false_or, true_and, and_true, false_and, and_false, List.take_zero, List.take_succ_cons, List.drop_zero, List.drop_succ_cons, List.take_nil, List.drop_nil, List.set_cons_zero, List.set_cons_succ, Nat.reduceLeDiff, Nat.reduceLT, Nat.zero_add, Nat.lt_add_one, Nat.le_refl, clearA, Int.toNat_natCast]; rfl) (g1 _) rfl
            · rw [hv, if_neg he] at hln
              subst hln
              rcases dd with ⟨d1, _⟩ | ⟨d1, d2⟩
              · refine runF_E fn_tone rfl fun Q hQ => ?_; unfold rc_tone
                simp only [sim, List.length_cons, List.length_nil, Nat.reduceAdd, Nat.reduceSub, List.replicate, List.cons_append, List.nil_append, List.map_cons, List.map_nil, Option.bind_some, Option.map_some, Option.bind_none, Option.map_none, if_true, if_false, decide_true, decide_false, Bool.false_eq_true, Bool.true_eq_false, Bool.not_true, Bool.not_false, reduceCtorEq, Bool.and_true, Bool.true_and, Bool.and_false, Bool.false_and, Bool.or_true, Bool.true_or, Bool.or_false, Bool.false_or, true_and, and_true, false_and, and_false, List.take_zero, List.take_succ_cons, List.drop_zero, List.drop_succ_cons, List.take_nil, List.drop_nil, List.set_cons_zero, List.set_cons_succ, Nat.reduceLeDiff, Nat.reduceLT, Nat.zero_add, Nat.lt_add_one, Nat.le_refl, clearA, Int.toNat_natCast, ix_str hc, e40, e41, d40, d41, rl, hl, rd, d1, w1, ru, w2, sl, hp, cf, he]
                exact hQ _ _ _ (by simp only [sim, List.length_cons, List.length_nil, Nat.reduceAdd, Nat.reduceSub, List.replicate, List.cons_append, List.nil_append, List.map_cons, List.map_nil, Option.bind_some, Option.map_some, Option.bind_none, Option.map_none, if_true, if_false, decide_true, decide_false, Bool.false_eq_true, Bool.true_eq_false, Bool.not_true, Bool.not_false, reduceCtorEq, Bool.and_true, Bool.true_and, Bool.and_false, Bool.false_and, Bool.or_true, Bool.true_or, Bool.or_false, Bool.false_or, true_and, and_true, false_and, and_false, List.take_zero, List.take_succ_cons, List.drop_zero, List.drop_succ_cons, List.take_nil, List.drop_nil, List.set_cons_zero, List.set_cons_succ, Nat.reduceLeDiff, Nat.reduceLT, Nat.zero_add, Nat.lt_add_one, Nat.le_refl, clearA, Int.toNat_natCast]; rfl) (g1 _) rfl
              · refine runF_E fn_tone rfl fun Q hQ => ?_; unfold rc_tone
                simp only [sim, List.length_cons, List.length_nil, Nat.reduceAdd, Nat.reduceSub, List.replicate, List.cons_append, List.nil_append, List.map_cons, List.map_nil, Option.bind_some, Option.map_some, Option.bind_none, Option.map_none, if_true, if_false, decide_true, decide_false, Bool.false_eq_true, Bool.true_eq_false, Bool.not_true, Bool.not_false, reduceCtorEq, Bool.and_true, Bool.true_and, Bool.and_false, Bool.false_and, Bool.or_true, Bool.true_or, Bool.or_false, Bool.false_or, true_and, and_true, false_and, and_false, List.take_zero, List.take_succ_cons, List.drop_zero, List.drop_succ_cons, List.take_nil, List.drop_nil, List.set_cons_zero, List.set_cons_succ, Nat.reduceLeDiff, Nat.reduceLT, Nat.zero_add, Nat.lt_add_one, Nat.le_refl, clearA, Int.toNat_natCast, ix_str hc, e40, e41, e45, d40, d41, rl, hl, rd, d1, d2, w1, ru, w2, sl, hp, cf, he]
                exact hQ _ _ _ (by simp only [sim, List.length_cons, List.length_nil, Nat.reduceAdd, Nat.reduceSub, List.replicate, List.cons_append, List.nil_append, List.map_cons, List.map_nil, Option.bind_some, Option.map_some, Option.bind_none, Option.map_none, if_true, if_false, decide_true, decide_false, Bool.false_eq_true, Bool.true_eq_false, Bool.not_true, Bool.not_false, reduceCtorEq, Bool.and_true, Bool.true_and, Bool.and_false, Bool.false_and, Bool.or_true, Bool.true_or, Bool.or_false, Bool.false_or, true_and, and_true, false_and, and_false, List.take_zero, List.take_succ_cons, List.drop_zero, List.drop_succ_cons, List.take_nil, List.drop_nil, List.set_cons_zero, List.set_cons_succ, Nat.reduceLeDiff, Nat.reduceLT, Nat.zero_add, Nat.lt_add_one, Nat.le_refl, clearA, Int.toNat_natCast]; rfl) (g1 _) rfl
          · rw [hv] at hln
            subst hln
            rcases dd with ⟨d1, _⟩ | ⟨d1, d2⟩
            · refine runF_E fn_tone rfl fun Q hQ => ?_; unfold rc_tone
              simp only [sim, List.length_cons, List.length_nil, Nat.reduceAdd, Nat.reduceSub, List.replicate, List.cons_append, List.nil_append, List.map_cons, List.map_nil, Option.bind_some, Option.map_some, Option.bind_none, Option.map_none, if_true, if_false, decide_true, decide_false, Bool.false_eq_true, Bool.true_eq_false, Bool.not_true, Bool.not_false, reduceCtorEq, Bool.and_true, Bool.true_and, Bool.and_false, Bool.false_and, Bool.or_true, Bool.true_or, Bool.or_false, Bool.false_or, true_and, and_true, false_and, and_false, List.take_zero, List.take_succ_cons, List.drop_zero, List.drop_succ_cons, List.take_nil, List.drop_nil, List.set_cons_zero, List.set_cons_succ, Nat.reduceLeDiff, Nat.reduceLT, Nat.zero_add, Nat.lt_add_one, Nat.le_refl, clearA, Int.toNat_natCast, ix_str hc, e40, e41, d40, d41, rl, hl, rd, d1, w1, ru, w2, sl, hp]
              exact hQ _ _ _ (by simp only [sim, List.length_cons, List.length_nil, Nat.reduceAdd, Nat.reduceSub, List.replicate, List.cons_append, List.nil_append, List.map_cons, List.map_nil, Option.bind_some, Option.map_some, Option.bind_none, Option.map_none, if_true, if_false, decide_true, decide_false, Bool.false_eq_true, Bool.true_eq_false, Bool.not_true, Bool.not_false, reduceCtorEq, Bool.and_true, Bool.true_and, Bool.and_false, Bool.false_and, Bool.or_true, Bool.true_or, Bool.or_false, Bool.false_or, true_and, and_true, false_and, and_false, List.take_zero, List.take_succ_cons, List.drop_zero, List.drop_succ_cons, List.take_nil, List.drop_nil, List.set_cons_zero, List.set_cons_succ, Nat.reduceLeDiff, Nat.reduceLT, Nat.zero_add, Nat.lt_add_one, Nat.le_refl, clearA, Int.toNat_natCast]; rfl) (g1 _) rfl
            · refine runF_E fn_tone rfl fun Q hQ => ?_; unfold rc_tone
              simp only [sim, List.length_cons, List.length_nil, Nat.reduceAdd, Nat.reduceSub, List.replicate, List.cons_append, List.nil_append, List.map_cons, List.map_nil, Option.bind_some, Option.map_some, Option.bind_none, Option.map_none, if_true, if_false, decide_true, decide_false, Bool.false_eq_true, Bool.true_eq_false, Bool.not_true, Bool.not_false, reduceCtorEq, Bool.and_true, Bool.true_and, Bool.and_false, Bool.false_and, Bool.or_true, Bool.true_or, Bool.or_false, Bool.false_or, true_and, and_true, false_and, and_false, List.take_zero, List.take_succ_cons, List.drop_zero, List.drop_succ_cons, List.take_nil, List.drop_nil, List.set_cons_zero, List.set_cons_succ, Nat.reduceLeDiff, Nat.reduceLT, Nat.zero_add, Nat.lt_add_one, Nat.le_refl, clearA, Int.toNat_natCast, ix_str hc, e40, e41, e45, d40, d41, rl, hl, rd, d1, d2, w1, ru, w2, sl, hp]
              exact hQ _ _ _ (by simp only [sim, List.length_cons, List.length_nil, Nat.reduceAdd, Nat.reduceSub, List.replicate, List.cons_append, List.nil_append, List.map_cons, List.map_nil, Option.bind_some, Option.map_some, Option.bind_none, Option.map_none, if_true, if_false, decide_true, decide_false, Bool.false_eq_true, Bool.true_eq_false, Bool.not_true, Bool.not_false, reduceCtorEq, Bool.and_true, Bool.true_and, Bool.and_false, Bool.false_and, Bool.or_true, Bool.true_or, Bool.or_false, Bool.false_or, true_and, and_true, false_and, and_false, List.take_zero, List.take_succ_cons, List.drop_zero, List.drop_succ_cons, List.take_nil, List.drop_nil, List.set_cons_zero, List.set_cons_succ, Nat.reduceLeDiff, Nat.reduceLT, Nat.zero_add, Nat.lt_add_one, Nat.le_refl, clearA, Int.toNat_natCast]; rfl) (g1 _) rfl
        exact cases_ _ rfl
      · have eo : oneD a (c :: r) = none := by rw [oneD, if_neg hbr, hl, if_neg (by simp), if_neg hdg]
        rw [eo]
        have d1 : digB c = false := by
          cases h9 : digB c with
          | true => exact absurd (.inl h9) hdg
          | false => rfl
        have d2 : decide (c = 45) = false := decide_eq_false fun e => hdg (.inr e)
        refine runF_E fn_tone rfl fun Q hQ => ?_; unfold rc_tone
        simp only [sim, List.length_cons, List.length_nil, Nat.reduceAdd, Nat.reduceSub, List.replicate, List.cons_append, List.nil_append, List.map_cons, List.map_nil, Option.bind_some, Option.map_some, Option.bind_none, Option.map_none, if_true, if_false, decide_true, decide_false, Bool.false_eq_true, Bool.true_eq_false, Bool.not_true, Bool.not_false, reduceCtorEq, Bool.and_true, Bool.true_and, Bool.and_false, Bool.false_and, Bool.or_true, Bool.true_or, Bool.or_false, Bool.false_or, true_and, and_true, false_and, and_false, List.take_zero, List.take_succ_cons, List.drop_zero, List.drop_succ_cons, List.take_nil, List.drop_nil, List.set_cons_zero, List.set_cons_succ, Nat.reduceLeDiff, Nat.reduceLT, Nat.zero_add, Nat.lt_add_one, Nat.le_refl, clearA, Int.toNat_natCast, ix_str hc, e40, e41, e45, d40, d41, rl, hl, rd, d1, d2]
        exact hQ _ _ _ (by simp only [sim, List.length_cons, List.length_nil, Nat.reduceAdd, Nat.reduceSub, List.replicate, List.cons_append, List.nil_append, List.map_cons, List.map_nil, Option.bind_some, Option.map_some, Option.bind_none, Option.map_none, if_true, if_false, decide_true, decide_false, Bool.false_eq_true, Bool.true_eq_false, Bool.not_true, Bool.not_false, reduceCtorEq, Bool.and_true, Bool.true_and, Bool.and_false, Bool.false_and, Bool.or_true, Bool.true_or, Bool.or_false, Bool.false_or, true_and, and_true, false_and, and_false, List.take_zero, List.take_succ_cons, List.drop_zero, List.drop_succ_cons, List.take_nil, List.drop_nil, List.set_cons_zero, List.set_cons_succ, Nat.reduceLeDiff, Nat.reduceLT, Nat.zero_add, Nat.lt_add_one, Nat.le_refl, clearA, Int.toNat_natCast]; rfl) (g1 _) rfl
end
end Go.Proofs.YtngphebjmmencaaDoor
