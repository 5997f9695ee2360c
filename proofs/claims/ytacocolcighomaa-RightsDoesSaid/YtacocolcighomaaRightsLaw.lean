/- The plain law of rights' texts: what Parse answers, is the text's; the reference finds the same. No walk. -/
import Derived.Test.YtacocolcighomaaRights2
namespace Go.Proofs.Ytacocolcighomaa

def runP (l : List UInt8) (r last : Int) : Option (Int × Int) := l.foldl pstep (some (r, last))
def letter (i : Nat) : UInt8 := [(114 : UInt8), 119, 112, 97].getD i 0
def valOf (sub : List Nat) (r : Int) : Int := sub.foldl (fun r i => bits .or .i64 r (2 ^ i)) r

theorem run_nil (r last : Int) : runP [] r last = some (r, last) := rfl
theorem run_none (l : List UInt8) : l.foldl pstep none = none := by
  induction l with
  | nil => rfl
  | cons a m ih => exact ih
theorem run_cons {c : UInt8} {t : List UInt8} {r last : Int} {p : Int × Int} (h : runP (c :: t) r last = some p) : last < idx c ∧ runP t (bits .or .i64 r (2 ^ (idx c).toNat)) (idx c) = some p := by
  unfold runP at h
  rw [List.foldl_cons] at h
  by_cases hle : idx c ≤ last
  · rw [pstep_no hle, run_none] at h
    cases h
  · rw [pstep_yes hle] at h
    exact ⟨by omega, h⟩
theorem idx_letter {c : UInt8} {i : Nat} (hi : i < 4) (h : idx c = i) : c = letter i := by
  unfold idx at h
  split at h
  · obtain rfl : i = 0 := by omega
    assumption
  · split at h
    · obtain rfl : i = 1 := by omega
      assumption
    · split at h
      · obtain rfl : i = 2 := by omega
        assumption
      · split at h
        · obtain rfl : i = 3 := by omega
          assumption
        · omega

def Is (subs : List (List Nat)) (t : List UInt8) (r : Int) (p : Int × Int) : Prop := ∃ sub ∈ subs, t = sub.map letter ∧ p.1 = valOf sub r

theorem is_step (j : Nat) (hj : j < 4) (subs : List (List Nat)) {c : UInt8} {t : List UInt8} {r : Int} {p : Int × Int} (hc : idx c = j) (h : Is subs t (bits .or .i64 r (2 ^ (idx c).toNat)) p) : Is (subs.map (j :: ·)) (c :: t) r p := by
  obtain ⟨sub, hs, rfl, hp⟩ := h
  refine ⟨j :: sub, List.mem_map.2 ⟨sub, hs, rfl⟩, ?_, ?_⟩
  · rw [List.map_cons, idx_letter hj hc]
  · rw [hp, hc]
    rfl
theorem is_more {a b : List (List Nat)} {t : List UInt8} {r : Int} {p : Int × Int} (h : Is a t r p) (hs : ∀ s ∈ a, s ∈ b) : Is b t r p := by
  obtain ⟨sub, hm, e⟩ := h
  exact ⟨sub, hs sub hm, e⟩

def subs3 : List (List Nat) := [[]]
def subs2 : List (List Nat) := [] :: subs3.map (3 :: ·)
def subs1 : List (List Nat) := [] :: (subs2.map (2 :: ·) ++ subs3.map (3 :: ·))
def subs0 : List (List Nat) := [] :: (subs1.map (1 :: ·) ++ subs2.map (2 :: ·) ++ subs3.map (3 :: ·))
def subsN : List (List Nat) := [] :: (subs0.map (0 :: ·) ++ subs1.map (1 :: ·) ++ subs2.map (2 :: ·) ++ subs3.map (3 :: ·))

theorem run3 {t : List UInt8} {r : Int} {p : Int × Int} (h : runP t r 3 = some p) : Is subs3 t r p := by
  cases t with
  | nil =>
    rw [run_nil] at h
    cases h
    exact ⟨[], by decide, rfl, rfl⟩
  | cons c t =>
    obtain ⟨hlt, _⟩ := run_cons h
    rcases idx_cases c with h' | h' | h' | h' | h' <;> omega
theorem run2 {t : List UInt8} {r : Int} {p : Int × Int} (h : runP t r 2 = some p) : Is subs2 t r p := by
  cases t with
  | nil =>
    rw [run_nil] at h
    cases h
    exact ⟨[], by decide, rfl, rfl⟩
  | cons c t =>
    obtain ⟨hlt, h2⟩ := run_cons h
    rcases idx_cases c with h' | h' | h' | h' | h' <;> first | omega | skip
    exact is_more (is_step 3 (by omega) subs3 h' (run3 (by rw [h'] at h2 ⊢; exact h2))) (by decide)
theorem run1 {t : List UInt8} {r : Int} {p : Int × Int} (h : runP t r 1 = some p) : Is subs1 t r p := by
  cases t with
  | nil =>
    rw [run_nil] at h
    cases h
    exact ⟨[], by decide, rfl, rfl⟩
  | cons c t =>
    obtain ⟨hlt, h2⟩ := run_cons h
    rcases idx_cases c with h' | h' | h' | h' | h' <;> first | omega | skip
    · exact is_more (is_step 2 (by omega) subs2 h' (run2 (by rw [h'] at h2 ⊢; exact h2))) (by decide)
    · exact is_more (is_step 3 (by omega) subs3 h' (run3 (by rw [h'] at h2 ⊢; exact h2))) (by decide)
theorem run0 {t : List UInt8} {r : Int} {p : Int × Int} (h : runP t r 0 = some p) : Is subs0 t r p := by
  cases t with
  | nil =>
    rw [run_nil] at h
    cases h
    exact ⟨[], by decide, rfl, rfl⟩
  | cons c t =>
    obtain ⟨hlt, h2⟩ := run_cons h
    rcases idx_cases c with h' | h' | h' | h' | h' <;> first | omega | skip
    · exact is_more (is_step 1 (by omega) subs1 h' (run1 (by rw [h'] at h2 ⊢; exact h2))) (by decide)
    · exact is_more (is_step 2 (by omega) subs2 h' (run2 (by rw [h'] at h2 ⊢; exact h2))) (by decide)
    · exact is_more (is_step 3 (by omega) subs3 h' (run3 (by rw [h'] at h2 ⊢; exact h2))) (by decide)
theorem runN {t : List UInt8} {r : Int} {p : Int × Int} (h : runP t r (-1) = some p) : Is subsN t r p := by
  cases t with
  | nil =>
    rw [run_nil] at h
    cases h
    exact ⟨[], by decide, rfl, rfl⟩
  | cons c t =>
    obtain ⟨hlt, h2⟩ := run_cons h
    rcases idx_cases c with h' | h' | h' | h' | h' <;> first | omega | skip
    · exact is_more (is_step 0 (by omega) subs0 h' (run0 (by rw [h'] at h2 ⊢; exact h2))) (by decide)
    · exact is_more (is_step 1 (by omega) subs1 h' (run1 (by rw [h'] at h2 ⊢; exact h2))) (by decide)
    · exact is_more (is_step 2 (by omega) subs2 h' (run2 (by rw [h'] at h2 ⊢; exact h2))) (by decide)
    · exact is_more (is_step 3 (by omega) subs3 h' (run3 (by rw [h'] at h2 ⊢; exact h2))) (by decide)

theorem all16 : ∀ sub ∈ subsN, sub ≠ [] → ∃ r ∈ List.range 16, valOf sub 0 = (r : Nat) ∧ textI (r : Nat) = sub.map letter := by decide +kernel
theorem back16 : ∀ r ∈ List.range 16, parseI (textI (r : Nat)) = (((r : Nat) : Int), true) := by decide +kernel

theorem parse_true {l : List UInt8} (h : (parseI l).2 = true) : ∃ r : Nat, r < 16 ∧ (parseI l).1 = r ∧ textI (r : Nat) = l := by
  by_cases hd : l = [45]
  · subst hd
    exact ⟨0, by omega, by decide +kernel, by decide +kernel⟩
  · unfold parseI at h ⊢
    rw [if_neg hd] at h ⊢
    rcases hp : parseSt l with _ | ⟨r, last⟩
    · rw [hp] at h
      cases h
    · rw [hp] at h
      have hne : l ≠ [] := by simpa using h
      obtain ⟨sub, hs, hl, hv⟩ := runN (show runP l 0 (-1) = some (r, last) from hp)
      have hsub : sub ≠ [] := by
        rintro rfl
        exact hne hl
      obtain ⟨q, hq, e1, e2⟩ := all16 sub hs hsub
      exact ⟨q, List.mem_range.1 hq, hv.trans e1, e2.trans hl.symm⟩
theorem parse_false {l : List UInt8} (h : (parseI l).2 = false) : (parseI l).1 = 0 := by
  by_cases hd : l = [45]
  · subst hd
    exact absurd h (by decide +kernel)
  · unfold parseI at h ⊢
    rw [if_neg hd] at h ⊢
    rcases hp : parseSt l with _ | ⟨r, last⟩
    · rfl
    · rw [hp] at h
      have hne : l = [] := by simpa using h
      subst hne
      have : parseSt [] = some (0, -1) := rfl
      rw [this] at hp
      cases hp
      rfl
theorem text_back {r : Nat} (h : r < 16) : parseI (textI (r : Nat)) = (((r : Nat) : Int), true) := back16 r (List.mem_range.2 h)
theorem parse_ref (l : List UInt8) : parseI l = rightsOf l := by
  unfold rightsOf
  rcases hf : (List.range 16).find? (fun r => textI (r : Nat) == l) with _ | r
  · rw [List.find?_range_eq_none] at hf
    rcases hb : (parseI l).2 with _ | _
    · exact Prod.ext (parse_false hb) hb
    · obtain ⟨q, hq, _, e⟩ := parse_true hb
      have := hf q hq
      simp [e] at this
  · rw [List.find?_range_eq_some] at hf
    obtain ⟨h1, h2, _⟩ := hf
    have e : textI (r : Nat) = l := by simpa using h1
    rw [← e, text_back (List.mem_range.1 h2)]

end Go.Proofs.Ytacocolcighomaa
