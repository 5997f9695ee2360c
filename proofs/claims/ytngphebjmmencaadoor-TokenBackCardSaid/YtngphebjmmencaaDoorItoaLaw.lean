/- Numerals in plain Lean: a numeral ends where its digits end, and tells its number. No program here. -/
import Derived.Lib.ItoaMem
import Derived.WalkKit
namespace Go.Proofs.YtngphebjmmencaaDoor
set_option linter.unusedSimpArgs false
set_option linter.unusedVariables false
open Go Go.Lib

def letB (c : UInt8) : Bool := 97 ≤ c && c ≤ 122
def digB (c : UInt8) : Bool := 48 ≤ c && c ≤ 57
theorem dig_of {k : Nat} (h : k < 10) : digB (UInt8.ofNat (48 + k)) = true := by
  have : ∀ k : Fin 10, digB (UInt8.ofNat (48 + k.val)) = true := by decide
  exact this ⟨k, h⟩
theorem dec_digs (u : Nat) : ∀ c ∈ decDigits u, digB c = true := by
  induction u using Nat.strongRecOn with
  | _ u ih =>
    rw [decDigits]
    split
    · rename_i h
      intro c hc
      simp only [List.mem_singleton] at hc
      rw [hc]
      exact dig_of h
    · intro c hc
      rcases List.mem_append.1 hc with hc | hc
      · exact ih (u / 10) (by omega) c hc
      · simp only [List.mem_singleton] at hc
        rw [hc]
        exact dig_of (by omega)
theorem dec_ne (u : Nat) : decDigits u ≠ [] := by
  rw [decDigits]
  split <;> simp
/-- what digits tell -/
def valD (l : List UInt8) : Nat := l.foldl (fun n c => n * 10 + (c.toNat - 48)) 0
theorem valD_snoc (l : List UInt8) (c : UInt8) : valD (l ++ [c]) = valD l * 10 + (c.toNat - 48) := by simp [valD, List.foldl_append]
theorem ofNat_dig {k : Nat} (h : k < 10) : (UInt8.ofNat (48 + k)).toNat - 48 = k := by
  have : ∀ k : Fin 10, (UInt8.ofNat (48 + k.val)).toNat - 48 = k.val := by decide
  exact this ⟨k, h⟩
theorem valD_dec (u : Nat) : valD (decDigits u) = u := by
  induction u using Nat.strongRecOn with
  | _ u ih =>
    rw [decDigits]
    split
    · rename_i h
      have := ofNat_dig h
      show 0 * 10 + ((UInt8.ofNat (48 + u)).toNat - 48) = u
      rw [this]
      omega
    · rw [valD_snoc, ih (u / 10) (by omega), ofNat_dig (by omega)]
      omega
theorem dec_inj {u v : Nat} (h : decDigits u = decDigits v) : u = v := by rw [← valD_dec u, ← valD_dec v, h]
/-- nothing that goes on with a digit -/
def endB (r : List UInt8) : Prop := ∀ c t, r = c :: t → digB c = false
theorem digs_cut : ∀ {a b r r' : List UInt8}, (∀ c ∈ a, digB c = true) → (∀ c ∈ b, digB c = true) → endB r → endB r' → a ++ r = b ++ r' → a = b ∧ r = r'
  | [], [], _, _, _, _, _, _, h => ⟨rfl, h⟩
  | [], c :: b, r, r', _, hb, he, _, h => by
    have := he c (b ++ r') (by simpa using h)
    rw [hb c (by simp)] at this
    cases this
  | c :: a, [], r, r', ha, _, _, he, h => by
    have := he c (a ++ r) (by simpa using h.symm)
    rw [ha c (by simp)] at this
    cases this
  | c :: a, d :: b, r, r', ha, hb, he, he', h => by
    simp only [List.cons_append, List.cons.injEq] at h
    obtain ⟨rfl, h⟩ := h
    obtain ⟨rfl, h2⟩ := digs_cut (fun x hx => ha x (by simp [hx])) (fun x hx => hb x (by simp [hx])) he he' h
    exact ⟨rfl, h2⟩
theorem itoa_cut {n m : Int} {r r' : List UInt8} (he : endB r) (he' : endB r') (h : itoa n ++ r = itoa m ++ r') : n = m ∧ r = r' := by
  unfold itoa at h
  have key : ∀ {u v : Nat}, decDigits u ++ r = decDigits v ++ r' → u = v ∧ r = r' := fun {u v} h => by
    obtain ⟨h1, h2⟩ := digs_cut (dec_digs u) (dec_digs v) he he' h
    exact ⟨dec_inj h1, h2⟩
  have first : ∀ (u : Nat) (s : List UInt8), ∃ c t, decDigits u ++ s = c :: t ∧ c ≠ 45 := fun u s => by
    rcases hd : decDigits u with _ | ⟨c, t⟩
    · exact absurd hd (dec_ne u)
    · refine ⟨c, t ++ s, rfl, ?_⟩
      have := dec_digs u c (by rw [hd]; simp)
      intro e
      rw [e] at this
      exact absurd this (by decide)
  split at h <;> split at h
  · simp only [List.cons_append, List.cons.injEq, true_and] at h
    obtain ⟨h1, h2⟩ := key h
    exact ⟨by omega, h2⟩
  · obtain ⟨c, t, e, hc⟩ := first m.toNat r'
    rw [e] at h
    simp only [List.cons_append, List.cons.injEq] at h
    exact absurd h.1.symm hc
  · obtain ⟨c, t, e, hc⟩ := first n.toNat r
    rw [e] at h
    simp only [List.cons_append, List.cons.injEq] at h
    exact absurd h.1 hc
  · obtain ⟨h1, h2⟩ := key h
    exact ⟨by omega, h2⟩
theorem itoa_first (n : Int) (r : List UInt8) : ∃ c t, itoa n ++ r = c :: t ∧ (c = 45 ∨ digB c = true) := by
  unfold itoa
  split
  · exact ⟨45, _, rfl, .inl rfl⟩
  · rcases hd : decDigits n.toNat with _ | ⟨c, t⟩
    · exact absurd hd (dec_ne _)
    · exact ⟨c, t ++ r, rfl, .inr (dec_digs _ c (by rw [hd]; simp))⟩
end Go.Proofs.YtngphebjmmencaaDoor
