/- The memory that a call made may be forgotten. -/
import Derived.Test.YtacocolcighomaaSound16
namespace Go.Proofs.Ytacocolcighomaa
set_option linter.unusedSimpArgs false
set_option linter.unusedVariables false
open Go Go.RowKit

section
variable {P : Program} {m m' : Mm} {h h' : AH} {w w' : World}

theorem GrewA.refl (h : AH) : GrewA h h := ⟨Nat.le_refl _, Nat.le_refl _, fun _ _ => rfl, fun _ _ => rfl⟩
theorem GrewA.trans {h1 h2 h3 : AH} (a : GrewA h1 h2) (b : GrewA h2 h3) : GrewA h1 h3 :=
  ⟨Nat.le_trans a.n b.n, Nat.le_trans a.ids b.ids, fun k hk => (b.cell k (Nat.lt_of_lt_of_le hk a.n)).trans (a.cell k hk), fun k hk => (b.hw k (Nat.lt_of_lt_of_le hk a.ids)).trans (a.hw k hk)⟩
theorem GrewA.push (h : AH) (es : List (List AV)) : GrewA h (h.push es) := ⟨by simp [AH.push], by simp [AH.push], fun b hb => by simp [AH.push, show b ≠ h.n by omega], fun _ _ => rfl⟩
theorem GrewA.fresh (h : AH) (n : Nat) : GrewA h (h.fresh n) := ⟨by simp [AH.fresh], by simp [AH.fresh], fun b hb => rfl, fun k hk => by simp [AH.fresh, show k ≠ h.ids by omega]⟩
theorem GrewA.grow {h0 h : AH} (g : GrewA h0 h) {id n : Nat} (hi : h0.ids ≤ id) : GrewA h0 (h.grow id n) := ⟨g.n, g.ids, g.cell, fun k hk => by simpa [AH.grow, show k ≠ id by omega] using g.hw k hk⟩
theorem GrewA.set {h0 h : AH} (g : GrewA h0 h) {b : Nat} {es : Option (List (List AV))} (hb : h0.n ≤ b) : GrewA h0 (h.set b es) := ⟨g.n, g.ids, fun k hk => by simpa [AH.set, show k ≠ b by omega] using g.cell k hk, g.hw⟩

/-- what spoke of the old memory speaks of it still -/
theorem VR.back (x : Ext m h m' h') (g : GrewA h h') {v : AV} {u : Value} (r : VR P m' h' v u) : ∀ {u0 : Value}, VR P m h v u0 → VR P m' h v u := by
  induction r with
  | junk v => intro _ _; exact .junk v
  | bool b => intro _ _; exact .bool b
  | int k n => intro _ _; exact .int k n
  | str l => intro _ _; exact .str l
  | nilp => intro _ _; exact .nilp
  | ptr b i off hb =>
    intro u0 r0
    cases r0 with
    | ptr _ _ _ hb0 => exact .ptr b i off hb0
  | ip e off g o F hi hv ih =>
    intro u0 r0
    cases r0 with
    | ip _ _ g0 o0 F0 hi0 hv0 => exact .ip e off g o F hi (fun j hj => ih j hj (hv0 j hj))
  | nils => intro _ _; exact .nils
  | isl id e es gg o cap F hl hi hv hc ht ih =>
    intro u0 r0
    cases r0 with
    | isl _ _ _ g0 o0 cap0 F0 hl0 hi0 hv0 hc0 ht0 =>
      refine .isl id e es gg o cap F hl hi (fun i hi' j hj => ih i hi' j hj (hv0 i hi' j hj)) hc (fun k hk => ?_)
      obtain ⟨a1, a2, a3, a4⟩ := ht k hk
      obtain ⟨b1, b2, b3, b4⟩ := ht0 k hk
      have := g.hw k b1
      exact ⟨b1, a2, b3, fun e' => a4 (by omega)⟩
    | isl0 _ _ _ => exact .isl none e [] gg o cap F (by simp) (fun i hi => absurd hi (Nat.not_lt_zero _)) (fun i hi => absurd hi (Nat.not_lt_zero _)) hc (fun k hk => by cases hk)
  | isl0 e a cap => intro _ _; exact .isl0 e a cap
  | msl b o n e cap hb he hcap hn hmx =>
    intro u0 r0
    cases r0 with
    | msl _ _ _ _ _ hb0 _ _ _ _ => exact .msl b o n e cap hb0 he hcap hn hmx
  | fn g l c l' c' h1 h2 h3 h4 ih1 ih2 =>
    intro u0 r0
    cases r0 with
    | fn _ _ _ l0 c0 a1 a2 a3 a4 => exact .fn g l c l' c' h1 h2 (fun j hj hj' => ih1 j hj hj' (a3 j hj (by omega))) (fun j hj hj' => ih2 j hj hj' (a4 j hj (by omega)))
  | nilf => intro _ _; exact .nilf
  | nili => intro _ _; exact .nili
  | iface t v v' h1 ih =>
    intro u0 r0
    cases r0 with
    | iface _ _ _ a1 => exact .iface t v v' (ih a1)
  | agg l l' h1 h3 ih =>
    intro u0 r0
    cases r0 with
    | agg _ l0 a1 a3 => exact .agg l l' h1 (fun j hj hj' => ih j hj hj' (a3 j hj (by omega)))
  | tup l l' h1 h3 ih =>
    intro u0 r0
    cases r0 with
    | tup _ l0 a1 a3 => exact .tup l l' h1 (fun j hj hj' => ih j hj hj' (a3 j hj (by omega)))

theorem WR.back (hw : WR P m h w) (x : Ext m h m' h') (g : GrewA h h') (hw' : WR P m' h' w') : Ext m h m' h ∧ WR P m' h w' := by
  refine ⟨⟨x.base, Nat.le_refl _, Nat.le_refl _, x.blk, x.imm, fun k hk => ?_⟩, ?_⟩
  · obtain ⟨a1, a2, a3⟩ := x.te k hk
    exact ⟨a1, Nat.le_refl _, fun _ => a3 (g.hw k hk)⟩
  have up : ∀ b es, h.cell b = some es → h'.cell b = some es := fun b es hb => by rw [g.cell b (hw.lt b es hb).1]; exact hb
  refine ⟨hw'.size, fun b es hb => ⟨(hw.lt b es hb).1, (hw'.lt b es (up b es hb)).2⟩, fun b es hb => ?_, fun b b' es es' hb hb' => hw'.inj b b' es es' (up _ _ hb) (up _ _ hb'), hw'.imm, fun b es hb => hw'.sep b es (up _ _ hb), fun k hk => ?_, fun k hk => ?_, fun k hk b es hb => ?_, fun k k' hk hk' => ?_⟩
  · obtain ⟨cs, h1, h2, h3, h4, h5⟩ := hw'.live b es (up _ _ hb)
    obtain ⟨cs0, _, _, _, _, k5⟩ := hw.live b es hb
    refine ⟨cs, h1, h2, h3, h4, fun i hi j hj => ?_⟩
    obtain ⟨v, h6, h7⟩ := h5 i hi j hj
    obtain ⟨v0, _, k7⟩ := k5 i hi j hj
    exact ⟨v, h6, h7.back x g k7⟩
  · have := hw'.tip k (Nat.lt_of_lt_of_le hk g.ids)
    rwa [g.hw k hk] at this
  · have := hw'.tfree k (Nat.lt_of_lt_of_le hk g.ids)
    rwa [g.hw k hk] at this
  · exact hw'.tblk k (Nat.lt_of_lt_of_le hk g.ids) b es (up _ _ hb)
  · exact hw'.tinj k k' (Nat.lt_of_lt_of_le hk g.ids) (Nat.lt_of_lt_of_le hk' g.ids)

theorem wkL_spec : ∀ {l l2 : List AV}, wkL l = some l2 → l2.length = l.length ∧ ∀ j (hj : j < l.length) (hj2 : j < l2.length), wkA l[j] = some l2[j]
  | [], l2, he => by simp [wkL] at he; subst he; exact ⟨rfl, fun j hj => by simp at hj⟩
  | v :: l, l2, he => by
    simp only [wkL] at he
    split at he
    · rename_i v' l' h1 h2
      injection he with he
      subst he
      obtain ⟨a1, a2⟩ := wkL_spec h2
      refine ⟨by simp [a1], fun j hj hj2 => ?_⟩
      cases j with
      | zero => exact h1
      | succ j => exact a2 j (by simpa using hj) (by simpa using hj2)
    · cases he
theorem wkR_spec : ∀ {l l2 : List (List AV)}, wkR l = some l2 → l2.length = l.length ∧ ∀ j (hj : j < l.length) (hj2 : j < l2.length), wkL l[j] = some l2[j]
  | [], l2, he => by simp [wkR] at he; subst he; exact ⟨rfl, fun j hj => by simp at hj⟩
  | v :: l, l2, he => by
    simp only [wkR] at he
    split at he
    · rename_i v' l' h1 h2
      injection he with he
      subst he
      obtain ⟨a1, a2⟩ := wkR_spec h2
      refine ⟨by simp [a1], fun j hj hj2 => ?_⟩
      cases j with
      | zero => exact h1
      | succ j => exact a2 j (by simpa using hj) (by simpa using hj2)
    · cases he

theorem VR.weak {h0 : AH} {v : AV} {u : Value} (r : VR P m h v u) : ∀ {v2 : AV}, wkA v = some v2 → VR P m h0 v2 u := by
  induction r with
  | junk v => intro v2 he; simp [wkA] at he; subst he; exact .junk v
  | bool b => intro v2 he; simp [wkA] at he; subst he; exact .bool b
  | int k n => intro v2 he; simp [wkA] at he; subst he; exact .int k n
  | str l => intro v2 he; simp [wkA] at he; subst he; exact .str l
  | nilp => intro v2 he; simp [wkA] at he; subst he; exact .nilp
  | ptr b i off hb => intro v2 he; simp [wkA] at he
  | ip e off g o F hi hv ih => intro v2 he; simp [wkA] at he
  | nils => intro v2 he; simp [wkA] at he; subst he; exact .nils
  | isl id e es gg o cap F hl hi hv hc ht ih =>
    intro v2 he
    simp only [wkA] at he
    obtain ⟨es2, h1, rfl⟩ := Option.map_eq_some_iff.1 he
    obtain ⟨a1, a2⟩ := wkR_spec h1
    have hrow : ∀ i (hi : i < es.length) (hi2 : i < es2.length), es2[i].length = es[i].length := fun i hi hi2 => (wkL_spec (a2 i hi hi2)).1
    have : es2.length = es.length := a1
    rw [← this]
    refine .isl none e es2 gg o cap F (fun r hr => ?_) (fun i hi' j hj => hi i (by omega) j hj) (fun i hi' j hj => ?_) (by omega) (fun k hk => by cases hk)
    · obtain ⟨i, hi2, rfl⟩ := List.getElem_of_mem hr
      rw [hrow i (by omega) hi2]
      exact hl _ (List.getElem_mem _)
    · have hi0 : i < es.length := by omega
      have hj0 : j < es[i].length := by rw [← hrow i hi0 hi']; exact hj
      exact ih i hi0 j hj0 ((wkL_spec (a2 i hi0 hi')).2 j hj0 hj)
  | isl0 e a cap => intro v2 he; simp [wkA, wkR] at he; subst he; exact .isl0 e a cap
  | msl b o n e cap hb he hcap hn hmx => intro v2 he; simp [wkA] at he
  | fn g l c l' c' h1 h2 h3 h4 ih1 ih2 => intro v2 he; simp [wkA] at he
  | nilf => intro v2 he; simp [wkA] at he; subst he; exact .nilf
  | nili => intro v2 he; simp [wkA] at he; subst he; exact .nili
  | iface t v v' h1 ih =>
    intro v2 he
    simp only [wkA] at he
    obtain ⟨v3, h1, rfl⟩ := Option.map_eq_some_iff.1 he
    exact .iface t v3 v' (ih h1)
  | agg l l' h1 h3 ih =>
    intro v2 he
    simp only [wkA] at he
    obtain ⟨l2, h2, rfl⟩ := Option.map_eq_some_iff.1 he
    obtain ⟨a1, a2⟩ := wkL_spec h2
    exact .agg l2 l' (by omega) (fun j hj hj' => ih j (by omega) hj' (a2 j (by omega) hj))
  | tup l l' h1 h3 ih =>
    intro v2 he
    simp only [wkA] at he
    obtain ⟨l2, h2, rfl⟩ := Option.map_eq_some_iff.1 he
    obtain ⟨a1, a2⟩ := wkL_spec h2
    exact .tup l2 l' (by omega) (fun j hj hj' => ih j (by omega) hj' (a2 j (by omega) hj))

theorem AC.forget {g : FuncId} {args : List AV} {p : Bool} {q q' : (AV ⊕ AV) × AH} (hac : AC P g args h q) (hq : fgA p h q = some q') : AC P g args h q' := by
  unfold fgA at hq
  split at hq
  · split at hq
    · rename_i hg
      obtain ⟨x, h2⟩ := q
      intro m w vs hw hv
      refine (hac m w vs hw hv).mono fun e w' ⟨m', x1, x2, x3, x4⟩ => ?_
      obtain ⟨y1, y2⟩ := hw.back x1 hg x2
      cases x with
      | inl v =>
        obtain ⟨v2, e1, rfl⟩ := Option.map_eq_some_iff.1 hq
        obtain ⟨u, e2, e3⟩ := x4
        exact ⟨m', y1, y2, x3, u, e2, e3.weak e1⟩
      | inr v =>
        obtain ⟨v2, e1, rfl⟩ := Option.map_eq_some_iff.1 hq
        obtain ⟨u, e2, e3⟩ := x4
        exact ⟨m', y1, y2, x3, u, e2, e3.weak e1⟩
    · cases hq
  · injection hq with hq
    subst hq
    exact hac
end
end Go.Proofs.Ytacocolcighomaa
