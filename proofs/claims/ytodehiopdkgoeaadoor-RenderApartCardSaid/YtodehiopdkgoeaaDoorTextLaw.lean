/- Texts of values, in plain Lean: what is another value has another text. No program here. -/
import Derived.Test.YtodehiopdkgoeaaDoorItoaLaw
import Derived.Test.YtodehiopdkgoeaaDoorValLaw
import Derived.Lib.Join
namespace Go.Proofs.YtodehiopdkgoeaaDoor
set_option linter.unusedSimpArgs false
set_option linter.unusedVariables false
open Go Go.Lib

mutual
def VD.text : VD → List UInt8
  | .mk kind n l => if kind = 1 then itoa n else if kind = 2 then 40 :: (join (textsV l) [32] ++ [41]) else if kind = 3 then 91 :: (itoa n ++ (32 :: (join (textsV l) [32] ++ [93]))) else
      if kind = 4 then 35 :: itoa n else if kind = 5 then 33 :: itoa n else [110, 105, 108]
def textsV : List VD → List (List UInt8)
  | [] => []
  | x :: l => x.text :: textsV l
end
theorem textsV_map : ∀ l : List VD, textsV l = l.map VD.text
  | [] => rfl
  | x :: l => by simp only [textsV, List.map_cons, textsV_map l]
theorem VD.text_eq (x : VD) : x.text = if x.kind = 1 then itoa x.n else if x.kind = 2 then 40 :: (join (x.l.map VD.text) [32] ++ [41]) else if x.kind = 3 then 91 :: (itoa x.n ++ (32 :: (join (x.l.map VD.text) [32] ++ [93]))) else
      if x.kind = 4 then 35 :: itoa x.n else if x.kind = 5 then 33 :: itoa x.n else [110, 105, 108] := by
  cases x with
  | mk kind n l =>
    rw [VD.text, textsV_map]
    rfl
theorem join_two (a b : List UInt8) : join [a, b] [32] = a ++ 32 :: b := by simp [join, List.intercalate]

theorem val_shape {x : VD} (h : x.fault = 0) : (x.kind = 0 ∧ x.n = 0 ∧ x.l = []) ∨ (x.kind = 1 ∧ x.l = []) ∨ (x.kind = 2 ∧ x.n = 0 ∧ ∃ a b, x.l = [a, b] ∧ a.fault = 0 ∧ b.fault = 0) ∨ (x.kind = 3 ∧ ∃ a, x.l = [a] ∧ a.fault = 0) ∨ (x.kind = 4 ∧ x.l = []) ∨ (x.kind = 5 ∧ x.l = []) := by
  rw [x.fault_eq] at h
  by_cases hh : headV x.kind x.n x.l.length = 0
  · rw [if_neg (by simp [hh])] at h
    unfold headV at hh
    split at hh
    · cases hh
    · rename_i h1
      split at hh
      · cases hh
      · rename_i h2
        split at hh
        · cases hh
        · rename_i h3
          have hl : x.l.length = wantV x.kind := by omega
          unfold wantV at hl
          by_cases k2 : x.kind = 2
          · rw [if_pos k2] at hl
            obtain ⟨a, b, e⟩ : ∃ a b, x.l = [a, b] := by
              match h4 : x.l, hl with
              | [a, b], _ => exact ⟨a, b, rfl⟩
            rw [e] at h
            simp only [faultsV] at h
            have ha : a.fault = 0 := by
              by_cases ha : a.fault = 0
              · exact ha
              · rw [if_pos ha] at h
                exact absurd h ha
            rw [if_neg (by simp [ha])] at h
            have hb : b.fault = 0 := by
              by_cases hb : b.fault = 0
              · exact hb
              · rw [if_pos hb] at h
                exact absurd h hb
            refine .inr (.inr (.inl ⟨k2, ?_, a, b, e, ha, hb⟩))
            by_cases hn : x.n = 0
            · exact hn
            · exact absurd ⟨.inr k2, hn⟩ h3
          · rw [if_neg k2] at hl
            by_cases k3 : x.kind = 3
            · rw [if_pos k3] at hl
              obtain ⟨a, e⟩ : ∃ a, x.l = [a] := by
                match h4 : x.l, hl with
                | [a], _ => exact ⟨a, rfl⟩
              rw [e] at h
              simp only [faultsV] at h
              have ha : a.fault = 0 := by
                by_cases ha : a.fault = 0
                · exact ha
                · rw [if_pos ha] at h
                  exact absurd h ha
              exact .inr (.inr (.inr (.inl ⟨k3, a, e, ha⟩)))
            · rw [if_neg k3] at hl
              have hn := List.length_eq_zero_iff.1 hl
              have : x.kind = 0 ∨ x.kind = 1 ∨ x.kind = 4 ∨ x.kind = 5 := by omega
              rcases this with k | k | k | k
              · refine .inl ⟨k, ?_, hn⟩
                by_cases hz : x.n = 0
                · exact hz
                · exact absurd ⟨.inl k, hz⟩ h3
              · exact .inr (.inl ⟨k, hn⟩)
              · exact .inr (.inr (.inr (.inr (.inl ⟨k, hn⟩))))
              · exact .inr (.inr (.inr (.inr (.inr ⟨k, hn⟩))))
  · rw [if_pos hh] at h
    exact absurd h hh
theorem end_cons {c : UInt8} {t : List UInt8} (h : digB c = false) : endB (c :: t) := fun c' t' e => by
  simp only [List.cons.injEq] at e
  rw [← e.1]
  exact h
/-- the text of a value begins so -/
theorem text_head {x : VD} (h : x.fault = 0) (r : List UInt8) :
    (x.kind = 0 ∧ x.text ++ r = 110 :: 105 :: 108 :: r) ∨ (x.kind = 1 ∧ x.text ++ r = itoa x.n ++ r) ∨ (x.kind = 2 ∧ ∃ a b, x.l = [a, b] ∧ a.fault = 0 ∧ b.fault = 0 ∧ x.n = 0 ∧ x.text ++ r = 40 :: (a.text ++ 32 :: (b.text ++ 41 :: r))) ∨
    (x.kind = 3 ∧ ∃ a, x.l = [a] ∧ a.fault = 0 ∧ x.text ++ r = 91 :: (itoa x.n ++ 32 :: (a.text ++ 93 :: r))) ∨ (x.kind = 4 ∧ x.text ++ r = 35 :: (itoa x.n ++ r)) ∨ (x.kind = 5 ∧ x.text ++ r = 33 :: (itoa x.n ++ r)) := by
  have e := x.text_eq
  rcases val_shape h with ⟨k, _, _⟩ | ⟨k, _⟩ | ⟨k, n0, a, b, hl, ha, hb⟩ | ⟨k, a, hl, ha⟩ | ⟨k, _⟩ | ⟨k, _⟩
  · refine .inl ⟨k, ?_⟩
    rw [e]
    simp [k]
  · refine .inr (.inl ⟨k, ?_⟩)
    rw [e]
    simp [k]
  · refine .inr (.inr (.inl ⟨k, a, b, hl, ha, hb, n0, ?_⟩))
    rw [e, hl]
    simp [k, join_two]
  · refine .inr (.inr (.inr (.inl ⟨k, a, hl, ha, ?_⟩)))
    rw [e, hl]
    simp [k, join_one]
  · refine .inr (.inr (.inr (.inr (.inl ⟨k, ?_⟩))))
    rw [e]
    simp [k]
  · refine .inr (.inr (.inr (.inr (.inr ⟨k, ?_⟩))))
    rw [e]
    simp [k]
theorem VD.ext' {x y : VD} (h1 : x.kind = y.kind) (h2 : x.n = y.n) (h3 : x.l = y.l) : x = y := by
  rw [x.eta, y.eta, h1, h2, h3]
theorem text_cut : ∀ (N : Nat) (x y : VD), SizeOf.sizeOf x ≤ N → x.fault = 0 → y.fault = 0 → ∀ (r r' : List UInt8), endB r → endB r' → x.text ++ r = y.text ++ r' → x = y ∧ r = r' := by
  intro N
  induction N with
  | zero => intro x y hx; have := x.so_pos; omega
  | succ N ih =>
    intro x y hx fx fy r r' er er' h
    have first1 := itoa_first x.n r
    have first2 := itoa_first y.n r'
    have nd : ∀ c : UInt8, (c = 110 ∨ c = 40 ∨ c = 91 ∨ c = 35 ∨ c = 33) → ¬ (c = 45 ∨ digB c = true) := by
      rintro c (rfl | rfl | rfl | rfl | rfl) <;> decide
    have e32 : ∀ t, endB (32 :: t) := fun t => end_cons (by decide)
    have e41 : ∀ t, endB (41 :: t) := fun t => end_cons (by decide)
    have e93 : ∀ t, endB (93 :: t) := fun t => end_cons (by decide)
    have sx := val_shape fx
    have sy := val_shape fy
    rcases text_head fx r with ⟨k, e⟩ | ⟨k, e⟩ | ⟨k, a, b, hl, ha, hb, n0, e⟩ | ⟨k, a, hl, ha, e⟩ | ⟨k, e⟩ | ⟨k, e⟩ <;>
      rcases text_head fy r' with ⟨k', e'⟩ | ⟨k', e'⟩ | ⟨k', a', b', hl', ha', hb', n0', e'⟩ | ⟨k', a', hl', ha', e'⟩ | ⟨k', e'⟩ | ⟨k', e'⟩ <;>
      rw [e, e'] at h
    all_goals first
      | (exfalso
         simp only [List.cons.injEq] at h
         exact absurd h.1 (by decide))
      | (exfalso
         obtain ⟨c, t, ec, hc⟩ := first2
         rw [ec] at h
         simp only [List.cons.injEq] at h
         exact nd c (by rw [← h.1]; simp) hc)
      | (exfalso
         obtain ⟨c, t, ec, hc⟩ := first1
         rw [ec] at h
         simp only [List.cons.injEq] at h
         exact nd c (by rw [h.1]; simp) hc)
      | skip
    · simp only [List.cons.injEq, true_and] at h
      refine ⟨VD.ext' (k.trans k'.symm) ?_ ?_, h⟩
      · rcases sx with ⟨_, a1, _⟩ | ⟨a0, _⟩ | ⟨a0, _⟩ | ⟨a0, _⟩ | ⟨a0, _⟩ | ⟨a0, _⟩ <;> rcases sy with ⟨_, b1, _⟩ | ⟨b0, _⟩ | ⟨b0, _⟩ | ⟨b0, _⟩ | ⟨b0, _⟩ | ⟨b0, _⟩ <;> omega
      · rcases sx with ⟨_, _, a2⟩ | ⟨a0, _⟩ | ⟨a0, _⟩ | ⟨a0, _⟩ | ⟨a0, _⟩ | ⟨a0, _⟩ <;> first | (exfalso; omega) | skip
        rcases sy with ⟨_, _, b2⟩ | ⟨b0, _⟩ | ⟨b0, _⟩ | ⟨b0, _⟩ | ⟨b0, _⟩ | ⟨b0, _⟩ <;> first | (exfalso; omega) | skip
        rw [a2, b2]
    · obtain ⟨h1, h2⟩ := itoa_cut er er' h
      refine ⟨VD.ext' (k.trans k'.symm) h1 ?_, h2⟩
      rcases sx with ⟨a0, _⟩ | ⟨_, a2⟩ | ⟨a0, _⟩ | ⟨a0, _⟩ | ⟨a0, _⟩ | ⟨a0, _⟩ <;> first | (exfalso; omega) | skip
      rcases sy with ⟨b0, _⟩ | ⟨_, b2⟩ | ⟨b0, _⟩ | ⟨b0, _⟩ | ⟨b0, _⟩ | ⟨b0, _⟩ <;> first | (exfalso; omega) | skip
      rw [a2, b2]
    · simp only [List.cons.injEq, true_and] at h
      have la := VD.lt_mem (x := x) (y := a) (by rw [hl]; simp)
      have lb := VD.lt_mem (x := x) (y := b) (by rw [hl]; simp)
      obtain ⟨rfl, h2⟩ := ih a a' (by omega) ha ha' _ _ (e32 _) (e32 _) h
      simp only [List.cons.injEq, true_and] at h2
      obtain ⟨rfl, h3⟩ := ih b b' (by omega) hb hb' _ _ (e41 _) (e41 _) h2
      simp only [List.cons.injEq, true_and] at h3
      exact ⟨VD.ext' (k.trans k'.symm) (n0.trans n0'.symm) (by rw [hl, hl']), h3⟩
    · simp only [List.cons.injEq, true_and] at h
      have la := VD.lt_mem (x := x) (y := a) (by rw [hl]; simp)
      obtain ⟨h1, h2⟩ := itoa_cut (e32 _) (e32 _) h
      simp only [List.cons.injEq, true_and] at h2
      obtain ⟨rfl, h3⟩ := ih a a' (by omega) ha ha' _ _ (e93 _) (e93 _) h2
      simp only [List.cons.injEq, true_and] at h3
      exact ⟨VD.ext' (k.trans k'.symm) h1 (by rw [hl, hl']), h3⟩
    · simp only [List.cons.injEq, true_and] at h
      obtain ⟨h1, h2⟩ := itoa_cut er er' h
      refine ⟨VD.ext' (k.trans k'.symm) h1 ?_, h2⟩
      rcases sx with ⟨a0, _⟩ | ⟨a0, _⟩ | ⟨a0, _⟩ | ⟨a0, _⟩ | ⟨_, a2⟩ | ⟨a0, _⟩ <;> first | (exfalso; omega) | skip
      rcases sy with ⟨b0, _⟩ | ⟨b0, _⟩ | ⟨b0, _⟩ | ⟨b0, _⟩ | ⟨_, b2⟩ | ⟨b0, _⟩ <;> first | (exfalso; omega) | skip
      rw [a2, b2]
    · simp only [List.cons.injEq, true_and] at h
      obtain ⟨h1, h2⟩ := itoa_cut er er' h
      refine ⟨VD.ext' (k.trans k'.symm) h1 ?_, h2⟩
      rcases sx with ⟨a0, _⟩ | ⟨a0, _⟩ | ⟨a0, _⟩ | ⟨a0, _⟩ | ⟨a0, _⟩ | ⟨_, a2⟩ <;> first | (exfalso; omega) | skip
      rcases sy with ⟨b0, _⟩ | ⟨b0, _⟩ | ⟨b0, _⟩ | ⟨b0, _⟩ | ⟨b0, _⟩ | ⟨_, b2⟩ <;> first | (exfalso; omega) | skip
      rw [a2, b2]
theorem text_same {x y : VD} (hx : x.fault = 0) (hy : y.fault = 0) : (decide (x.text = y.text)) = sameV x y := by
  by_cases h : x.text = y.text
  · have := (text_cut _ x y (Nat.le_refl _) hx hy [] [] (fun c t e => by cases e) (fun c t e => by cases e) (by simpa using h)).1
    rw [this, sameV_refl]
    simp
  · rw [decide_eq_false h]
    cases hs : sameV x y
    · rfl
    · exact absurd (by rw [sameV_iff hs]) h
end Go.Proofs.YtodehiopdkgoeaaDoor
