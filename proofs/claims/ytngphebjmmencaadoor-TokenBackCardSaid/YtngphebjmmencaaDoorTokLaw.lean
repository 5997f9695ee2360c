/- The tokens of a text in plain Lean: what scanning comes to; the texts of tokens, with blanks between, are the same tokens. No program here. -/
import Derived.Test.YtngphebjmmencaaDoorItoaLaw
import Derived.Lib.ParseIntB
namespace Go.Proofs.YtngphebjmmencaaDoor
set_option linter.unusedSimpArgs false
set_option linter.unusedVariables false
open Go Go.Lib

structure TD where
  at' : Nat
  text : List UInt8
  num : Bool
  n : Int
  deriving Inhabited, DecidableEq

def blankB (c : UInt8) : Bool := c == 32 || (c == 9 || (c == 10 || c == 13))
/-- a number of 64 bits, as short as can be -/
def longD (t : List UInt8) : Option Int := match parseIntB 64 t with
  | .ok n => if itoa n = t then some n else none
  | _ => none
/-- the token at a place -/
def oneD (at' : Nat) : List UInt8 → Option TD
  | [] => none
  | c :: r =>
    if c = 40 ∨ c = 41 then some ⟨at', [c], false, 0⟩
    else if letB c then some ⟨at', c :: r.takeWhile letB, false, 0⟩
    else if digB c ∨ c = 45 then (longD (c :: r.takeWhile digB)).map fun n => ⟨at', c :: r.takeWhile digB, true, n⟩
    else none
/-- the tokens from a place on, behind so many bytes; or the place of the first fault -/
def scanD : Nat → Nat → List UInt8 → List TD ⊕ Nat
  | _, _, [] => .inl []
  | 0, a, c :: r => if blankB c then scanD 0 (a + 1) r else match oneD a (c :: r) with
    | none => .inr a
    | some t => match scanD (t.text.length - 1) (a + 1) r with
      | .inl l => .inl (t :: l)
      | .inr e => .inr e
  | k + 1, a, _ :: r => scanD k (a + 1) r

theorem scanD_skip : ∀ (k a : Nat) (l : List UInt8), scanD k a l = scanD 0 (a + k) (l.drop k)
  | 0, a, l => by simp
  | k + 1, a, [] => by simp [scanD]
  | k + 1, a, c :: r => by
    rw [scanD, scanD_skip k (a + 1) r, List.drop_succ_cons, show a + 1 + k = a + (k + 1) by omega]
theorem scanD_nil (a : Nat) : scanD 0 a [] = .inl [] := by simp [scanD]
theorem scanD_blank {c : UInt8} (h : blankB c = true) (a : Nat) (r : List UInt8) : scanD 0 a (c :: r) = scanD 0 (a + 1) r := by rw [scanD, if_pos h]
theorem one_text {a : Nat} {l : List UInt8} {t : TD} (h : oneD a l = some t) : t.at' = a ∧ 0 < t.text.length ∧ t.text = l.take t.text.length := by
  have key : ∀ (f : UInt8 → Bool) (r : List UInt8), r.takeWhile f = r.take (r.takeWhile f).length := fun f r => by
    induction r with
    | nil => rfl
    | cons c r ih =>
      rw [List.takeWhile_cons]
      split
      · rw [List.length_cons, List.take_succ_cons, ← ih]
      · rfl
  unfold oneD at h
  split at h
  · cases h
  · rename_i c r
    split at h
    · injection h with h
      subst h
      exact ⟨rfl, by simp, by simp⟩
    · split at h
      · injection h with h
        subst h
        exact ⟨rfl, by simp, by simp only [List.length_cons, List.take_succ_cons]; rw [← key]⟩
      · split at h
        · obtain ⟨n, _, rfl⟩ := Option.map_eq_some_iff.1 h
          exact ⟨rfl, by simp, by simp only [List.length_cons, List.take_succ_cons]; rw [← key]⟩
        · cases h
theorem scanD_one {a : Nat} {c : UInt8} {r : List UInt8} {t : TD} (hb : blankB c = false) (h : oneD a (c :: r) = some t) : scanD 0 a (c :: r) = match scanD 0 (a + t.text.length) ((c :: r).drop t.text.length) with
      | .inl l => .inl (t :: l)
      | .inr e => .inr e := by
  have h1 := (one_text h).2.1
  rw [scanD, hb, if_neg (by simp), h]
  simp only
  rw [scanD_skip, show a + 1 + (t.text.length - 1) = a + t.text.length by omega]
  obtain ⟨k, hk⟩ : ∃ k, t.text.length = k + 1 := ⟨t.text.length - 1, by omega⟩
  rw [hk, List.drop_succ_cons, Nat.add_sub_cancel]
theorem scanD_none {a : Nat} {c : UInt8} {r : List UInt8} (hb : blankB c = false) (h : oneD a (c :: r) = none) : scanD 0 a (c :: r) = .inr a := by
  rw [scanD, hb, if_neg (by simp), h]

/-! ### blanks -/
def blanks (l : List UInt8) : Nat := (l.takeWhile blankB).length
theorem blanks_cons {c : UInt8} (h : blankB c = true) (r : List UInt8) : blanks (c :: r) = blanks r + 1 := by simp [blanks, List.takeWhile_cons, h]
theorem blanks_zero {c : UInt8} (h : blankB c = false) (r : List UInt8) : blanks (c :: r) = 0 := by simp [blanks, List.takeWhile_cons, h]
theorem blanks_le (l : List UInt8) : blanks l ≤ l.length := (List.takeWhile_sublist _).length_le
theorem scanD_blanks : ∀ (l : List UInt8) (a : Nat), scanD 0 a l = scanD 0 (a + blanks l) (l.drop (blanks l))
  | [], a => by simp [blanks, scanD]
  | c :: r, a => by
    cases h : blankB c with
    | true => rw [blanks_cons h, List.drop_succ_cons, scanD_blank h, scanD_blanks r (a + 1), show a + 1 + blanks r = a + (blanks r + 1) by omega]
    | false => rw [blanks_zero h]; simp
/-- behind the blanks stands none -/
theorem drop_blanks : ∀ (l : List UInt8) {c : UInt8} {r : List UInt8}, l.drop (blanks l) = c :: r → blankB c = false
  | [], c, r, h => by simp [blanks] at h
  | d :: l, c, r, h => by
    cases hd : blankB d with
    | true =>
      rw [blanks_cons hd, List.drop_succ_cons] at h
      exact drop_blanks l h
    | false =>
      rw [blanks_zero hd, List.drop_zero] at h
      injection h with h1 h2
      rw [← h1]
      exact hd

/-! ### what a token is -/
def TD.ok (t : TD) : Prop :=
  (t.text = [40] ∨ t.text = [41]) ∧ t.num = false ∧ t.n = 0 ∨
  (∃ c r, t.text = c :: r ∧ letB c = true ∧ ∀ x ∈ r, letB x = true) ∧ t.num = false ∧ t.n = 0 ∨
  (∃ c r, t.text = c :: r ∧ (digB c = true ∨ c = 45) ∧ ∀ x ∈ r, digB x = true) ∧ t.num = true ∧ longD t.text = some t.n
theorem takeWhile_mem {f : UInt8 → Bool} : ∀ {l : List UInt8} {x : UInt8}, x ∈ l.takeWhile f → f x = true
  | [], x, h => by simp at h
  | c :: l, x, h => by
    rw [List.takeWhile_cons] at h
    split at h
    · rename_i hc
      rcases List.mem_cons.1 h with rfl | h
      · exact hc
      · exact takeWhile_mem h
    · simp at h
theorem one_ok {a : Nat} {l : List UInt8} {t : TD} (h : oneD a l = some t) : t.ok := by
  unfold oneD at h
  split at h
  · cases h
  · rename_i c r
    split at h
    · rename_i hc
      injection h with h
      subst h
      exact .inl ⟨by rcases hc with rfl | rfl <;> simp, rfl, rfl⟩
    · split at h
      · rename_i hc
        injection h with h
        subst h
        exact .inr (.inl ⟨⟨c, _, rfl, hc, fun x hx => takeWhile_mem hx⟩, rfl, rfl⟩)
      · split at h
        · rename_i hc
          obtain ⟨n, hn, rfl⟩ := Option.map_eq_some_iff.1 h
          exact .inr (.inr ⟨⟨c, _, rfl, hc, fun x hx => takeWhile_mem hx⟩, rfl, hn⟩)
        · cases h
/-- a text behind a token that does not go on with it -/
def sepB (r : List UInt8) : Prop := ∀ c t, r = c :: t → letB c = false ∧ digB c = false
theorem takeWhile_stop {f : UInt8 → Bool} : ∀ {l r : List UInt8}, (∀ x ∈ l, f x = true) → (∀ c t, r = c :: t → f c = false) → (l ++ r).takeWhile f = l
  | [], [], _, _ => rfl
  | [], c :: r, _, h => by simp [List.takeWhile_cons, h c r rfl]
  | c :: l, r, h1, h2 => by
    rw [List.cons_append, List.takeWhile_cons, h1 c (by simp), if_pos rfl, takeWhile_stop (fun x hx => h1 x (by simp [hx])) h2]
set_option maxRecDepth 100000 in
theorem let_not {c : UInt8} (h : letB c = true) : c ≠ 40 ∧ c ≠ 41 ∧ c ≠ 45 ∧ digB c = false ∧ blankB c = false := by
  simp only [letB, Bool.and_eq_true, decide_eq_true_eq, UInt8.le_iff_toNat_le] at h
  have e : c = UInt8.ofNat c.toNat := by simp
  have h97 : (97 : UInt8).toNat = 97 := rfl
  have h122 : (122 : UInt8).toNat = 122 := rfl
  rw [h97, h122] at h
  have key : ∀ k : Fin 256, 97 ≤ k.val ∧ k.val ≤ 122 → UInt8.ofNat k.val ≠ 40 ∧ UInt8.ofNat k.val ≠ 41 ∧ UInt8.ofNat k.val ≠ 45 ∧ digB (UInt8.ofNat k.val) = false ∧ blankB (UInt8.ofNat k.val) = false := by decide
  have := key ⟨c.toNat, c.toNat_lt⟩ h
  simpa using this
set_option maxRecDepth 100000 in
theorem dig_not {c : UInt8} (h : digB c = true ∨ c = 45) : c ≠ 40 ∧ c ≠ 41 ∧ letB c = false ∧ blankB c = false := by
  rcases h with h | rfl
  · simp only [digB, Bool.and_eq_true, decide_eq_true_eq, UInt8.le_iff_toNat_le] at h
    have h97 : (48 : UInt8).toNat = 48 := rfl
    have h122 : (57 : UInt8).toNat = 57 := rfl
    rw [h97, h122] at h
    have key : ∀ k : Fin 256, 48 ≤ k.val ∧ k.val ≤ 57 → UInt8.ofNat k.val ≠ 40 ∧ UInt8.ofNat k.val ≠ 41 ∧ letB (UInt8.ofNat k.val) = false ∧ blankB (UInt8.ofNat k.val) = false := by decide
    have := key ⟨c.toNat, c.toNat_lt⟩ h
    simpa using this
  · decide
theorem one_of {t : TD} (h : t.ok) (a : Nat) {r : List UInt8} (hr : sepB r) : oneD a (t.text ++ r) = some { t with at' := a } ∧ ∃ c s, t.text = c :: s ∧ blankB c = false := by
  obtain ⟨p, x, m, n⟩ := t
  rcases h with ⟨h1, h2, h3⟩ | ⟨⟨c, s, h1, h4, h5⟩, h2, h3⟩ | ⟨⟨c, s, h1, h4, h5⟩, h2, h3⟩
  · simp only at h1 h2 h3
    subst h2 h3
    rcases h1 with rfl | rfl
    · exact ⟨by simp [oneD], 40, [], rfl, by decide⟩
    · exact ⟨by simp [oneD], 41, [], rfl, by decide⟩
  · simp only at h1 h2 h3
    subst h1 h2 h3
    obtain ⟨n1, n2, _, _, n5⟩ := let_not h4
    refine ⟨?_, c, s, rfl, n5⟩
    simp only [List.cons_append, oneD]
    rw [if_neg (by simp [n1, n2]), if_pos h4, takeWhile_stop h5 (fun c t e => (hr c t e).1)]
  · simp only at h1 h2 h3
    subst h1 h2
    obtain ⟨n1, n2, n3, n4⟩ := dig_not h4
    refine ⟨?_, c, s, rfl, n4⟩
    simp only [List.cons_append, oneD]
    rw [if_neg (by simp [n1, n2]), n3, if_neg (by simp), if_pos h4, takeWhile_stop h5 (fun c t e => (hr c t e).2), h3]
    rfl
theorem scan_ok : ∀ (N a : Nat) (l : List UInt8), l.length ≤ N → ∀ ts, scanD 0 a l = .inl ts → (∀ t ∈ ts, t.ok) ∧ (ts.map fun t => t.text.length).sum ≤ l.length
  | _, a, [], _, ts, h => by
    rw [scanD_nil] at h
    injection h with h
    subst h
    simp
  | 0, a, c :: r, hN, ts, h => by simp at hN
  | N + 1, a, c :: r, hN, ts, h => by
    cases hb : blankB c with
    | true =>
      rw [scanD_blank hb] at h
      obtain ⟨i1, i2⟩ := scan_ok N (a + 1) r (by simp at hN; omega) ts h
      exact ⟨i1, by simp; omega⟩
    | false =>
      cases ho : oneD a (c :: r) with
      | none =>
        rw [scanD_none hb ho] at h
        cases h
      | some t =>
        rw [scanD_one hb ho] at h
        obtain ⟨o1, o2, o3⟩ := one_text ho
        have hlen : t.text.length ≤ (c :: r).length := by
          rw [o3, List.length_take]
          omega
        have hd : ((c :: r).drop t.text.length).length = (c :: r).length - t.text.length := List.length_drop
        cases hs : scanD 0 (a + t.text.length) ((c :: r).drop t.text.length) with
        | inr e =>
          rw [hs] at h
          cases h
        | inl l =>
          rw [hs] at h
          injection h with h
          subst h
          obtain ⟨i1, i2⟩ := scan_ok N _ _ (by rw [hd]; simp at hN ⊢; omega) l hs
          refine ⟨fun x hx => ?_, ?_⟩
          · rcases List.mem_cons.1 hx with rfl | hx
            · exact one_ok ho
            · exact i1 x hx
          · simp only [List.map_cons, List.sum_cons]
            omega

/-- a token, wherever it stands -/
def TD.bare (t : TD) : List UInt8 × Bool × Int := (t.text, t.num, t.n)
/-- what is told but for the places -/
def bareS : List TD ⊕ Nat → Option (List (List UInt8 × Bool × Int))
  | .inl l => some (l.map TD.bare)
  | .inr _ => none
/-- the texts of tokens, with something behind each -/
def tokT (sep : List UInt8) : List TD → List UInt8
  | [] => []
  | t :: r => t.text ++ (sep ++ tokT sep r)
theorem tokT_append (sep : List UInt8) : ∀ (l l' : List TD), tokT sep (l ++ l') = tokT sep l ++ tokT sep l'
  | [], _ => rfl
  | t :: l, l' => by simp [tokT, tokT_append sep l l']
theorem tokT_len (sep : List UInt8) : ∀ (l : List TD), (tokT sep l).length = (l.map fun t => t.text.length).sum + sep.length * l.length
  | [] => rfl
  | t :: l => by
    simp only [tokT, List.length_append, tokT_len sep l, List.map_cons, List.sum_cons, List.length_cons, Nat.mul_succ]
    omega
set_option maxRecDepth 100000 in
theorem blank_not {c : UInt8} (h : blankB c = true) : letB c = false ∧ digB c = false := by
  have key : ∀ k : Fin 256, blankB (UInt8.ofNat k.val) = true → letB (UInt8.ofNat k.val) = false ∧ digB (UInt8.ofNat k.val) = false := by decide
  have := key ⟨c.toNat, c.toNat_lt⟩ (by simpa using h)
  simpa using this
theorem sepB_blank {c : UInt8} (h : blankB c = true) (r : List UInt8) : sepB (c :: r) := fun d t e => by
  injection e with e1 e2
  rw [← e1]
  exact blank_not h
theorem scan_skip_blanks : ∀ (s : List UInt8) (a : Nat) (r : List UInt8), (∀ c ∈ s, blankB c = true) → scanD 0 a (s ++ r) = scanD 0 (a + s.length) r
  | [], a, r, _ => by simp
  | c :: s, a, r, h => by
    rw [List.cons_append, scanD_blank (h c (by simp)), scan_skip_blanks s (a + 1) r (fun x hx => h x (by simp [hx])), List.length_cons, show a + 1 + s.length = a + (s.length + 1) by omega]
/-- THERE AND BACK -/
theorem scan_back {sep : List UInt8} (hs : sep ≠ []) (hb : ∀ c ∈ sep, blankB c = true) : ∀ (ts : List TD) (a : Nat), (∀ t ∈ ts, t.ok) → ∃ us, scanD 0 a (tokT sep ts) = .inl us ∧ us.map TD.bare = ts.map TD.bare
  | [], a, _ => ⟨[], scanD_nil a, rfl⟩
  | t :: ts, a, h => by
    obtain ⟨d, s, rfl⟩ : ∃ d s, sep = d :: s := by
      cases sep with
      | nil => exact absurd rfl hs
      | cons d s => exact ⟨d, s, rfl⟩
    have hsep : sepB ((d :: s) ++ tokT (d :: s) ts) := sepB_blank (hb d (by simp)) _
    obtain ⟨o1, c, q, o2, o3⟩ := one_of (h t (by simp)) a hsep
    obtain ⟨us, e1, e2⟩ := scan_back hs hb ts (a + t.text.length + (d :: s).length) (fun x hx => h x (by simp [hx]))
    refine ⟨{ t with at' := a } :: us, ?_, by simp [e2, TD.bare]⟩
    have hd : (t.text ++ ((d :: s) ++ tokT (d :: s) ts)).drop t.text.length = (d :: s) ++ tokT (d :: s) ts := List.drop_left
    rw [tokT]
    rw [show t.text ++ ((d :: s) ++ tokT (d :: s) ts) = c :: (q ++ ((d :: s) ++ tokT (d :: s) ts)) by rw [o2]; rfl] at o1 hd ⊢
    rw [scanD_one o3 o1]
    simp only
    rw [hd, scan_skip_blanks _ _ _ hb, e1]
end Go.Proofs.YtngphebjmmencaaDoor
