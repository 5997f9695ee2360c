/- What is handed on, in plain Lean: through no gate it is itself; through gates it is of the same thing, and has no right more. No program here. -/
import Derived.Test.YtioladnogpfeeaaPassLaw
import Derived.Test.YtioladnogpfeeaaGraphLaw3
namespace Go.Proofs.Ytioladnogpfeeaa
set_option linter.unusedSimpArgs false
set_option linter.unusedVariables false
open Go

/-! ### through no gate -/
mutual
theorem valG_nil : ∀ (x : VD) (G : GraphD), valG [] x G = (G, x, 0)
  | .mk kind n l, G => by
    have h : headG [] G kind n = (G, n, 0) := by
      unfold headG
      split <;> rfl
    simp [valG, h, valsG_nil l G]
theorem valsG_nil : ∀ (l : List VD) (G : GraphD), valsG [] l G = (G, l, 0)
  | [], G => rfl
  | x :: l, G => by simp [valsG, valG_nil x G, valsG_nil l G]
end
theorem acrossG_nil (G : GraphD) (x : VD) : acrossG [] G x = (G, if mayG G x ≠ 0 then zeroV else x, mayG G x) := by
  unfold acrossG
  split
  · rename_i h
    rfl
  · rename_i h
    rw [valG_nil]
    have : mayG G x = 0 := by simpa using h
    rw [this]
theorem valG_zero {ks : List Int} {x : VD} {G : GraphD} (h : (valG ks x G).2.2 ≠ 0) : (valG ks x G).2.1 = zeroV := by
  rw [valG_eq] at h ⊢
  split
  · rfl
  · rename_i h1
    rw [if_neg h1] at h
    split
    · rfl
    · rename_i h2
      rw [if_neg h2] at h
      exact absurd rfl h
theorem acrossG_zero {ks : List Int} {x : VD} {G : GraphD} (h : (acrossG ks G x).2.2 ≠ 0) : (acrossG ks G x).2.1 = zeroV := by
  unfold acrossG at h ⊢
  split
  · rfl
  · rename_i h1
    rw [if_neg h1] at h
    exact valG_zero h

/-! ### through gates -/
structure RelC (ks : List Int) (G : GraphD) (n n' : Int) : Prop where
  has : G.has n = true
  has' : G.has n' = true
  way : ∃ C : List NodeD, G.path n' = C ++ G.path n ∧ C.map (·.gate) = ks.reverse ∧ ∀ c ∈ C, c.rights = 15
theorem RelC.later {ks : List Int} {G G' : GraphD} {n n' : Int} (r : RelC ks G n n') (l : G.Later G') (hW : G.Wf) (hW' : G'.Wf) : RelC ks G' n n' := by
  obtain ⟨C, h1, h2, h3⟩ := r.way
  refine ⟨(l.has r.has).1, (l.has r.has').1, C, ?_, h2, h3⟩
  rw [l.path hW hW' _ n' (Nat.lt_succ_self _) r.has', l.path hW hW' _ n (Nat.lt_succ_self _) r.has]
  exact h1
theorem derive_ok {G : GraphD} {n k : Int} (hn : G.has n = true) (h0 : (G.derive n 15 k).2.2 = 0) : (G.derive n 15 k).1 = ⟨G.nodes ++ [⟨n, k, 15, 0, -1, 0⟩], G.shut⟩ ∧ (G.derive n 15 k).2.1 = (G.nodes.length : Int) := by
  unfold GraphD.derive at h0 ⊢
  rw [if_pos hn] at h0 ⊢
  unfold GraphD.add at h0 ⊢
  split at h0
  · cases h0
  · rename_i h1
    rw [if_neg h1]
    split at h0
    · cases h0
    · rename_i h2
      rw [if_neg h2]
      split at h0
      · cases h0
      · rename_i h3
        rw [if_neg h3]
        exact ⟨rfl, rfl⟩
theorem capG_rel : ∀ (ks : List Int) (G : GraphD) (n : Int), G.Wf → G.has n = true → (capG ks G n).2.2 = 0 → G.Later (capG ks G n).1 ∧ RelC ks (capG ks G n).1 n (capG ks G n).2.1
  | [], G, n, hW, hn, h0 => ⟨GraphD.Later.refl G, hn, hn, [], rfl, rfl, fun c hc => by cases hc⟩
  | k :: l, G, n, hW, hn, h0 => by
    simp only [capG] at h0 ⊢
    by_cases hz : (G.derive n 15 k).2.2 = 0
    · rw [if_neg (by simp [hz])] at h0 ⊢
      obtain ⟨e1, e2⟩ := derive_ok hn hz
      have hW1 := hW.derive n 15 k
      have hl1 : G.Later (G.derive n 15 k).1 := by
        have := GraphD.step_later G ⟨4, n, 15, k, 0⟩
        have e : G.step ⟨4, n, 15, k, 0⟩ = G.derive n 15 k := by simp [GraphD.step]
        rwa [e] at this
      have hh1 : (G.derive n 15 k).1.has (G.derive n 15 k).2.1 = true := by
        rw [e1, e2]
        simp [GraphD.has]
        omega
      have hat : (G.derive n 15 k).1.nodes.getD ((G.derive n 15 k).2.1).toNat zeroN = ⟨n, k, 15, 0, -1, 0⟩ := by
        rw [e1, e2]
        simp [List.getD]
      obtain ⟨a1, a2⟩ := capG_rel l (G.derive n 15 k).1 (G.derive n 15 k).2.1 hW1 hh1 h0
      have hW2 := capG_wf l (G.derive n 15 k).1 (G.derive n 15 k).2.1 hW1
      refine ⟨hl1.trans a1, (a1.has (hl1.has hn).1).1, a2.has', ?_⟩
      obtain ⟨C, c1, c2, c3⟩ := a2.way
      have hp := GraphD.path_yes hW2 a2.has
      rw [(a1.has hh1).2, hat] at hp
      refine ⟨C ++ [⟨n, k, 15, 0, -1, 0⟩], ?_, by simp [c2], fun c hc => ?_⟩
      · rw [c1, hp]
        simp
      · rcases List.mem_append.1 hc with hc | hc
        · exact c3 c hc
        · simp at hc
          rw [hc]
    · rw [if_pos hz] at h0
      exact absurd h0 hz

def AllR (R : Int → Int → Prop) : List Int → List Int → Prop
  | [], [] => True
  | a :: l, b :: l' => R a b ∧ AllR R l l'
  | _, _ => False
theorem AllR.append {R : Int → Int → Prop} : ∀ {l1 l2 m1 m2 : List Int}, AllR R l1 m1 → AllR R l2 m2 → AllR R (l1 ++ l2) (m1 ++ m2)
  | [], _, [], _, _, h => h
  | _ :: _, _, _ :: _, _, h1, h2 => ⟨h1.1, AllR.append h1.2 h2⟩
  | [], _, _ :: _, _, h, _ => h.elim
  | _ :: _, _, [], _, h, _ => h.elim
theorem AllR.mono {R R' : Int → Int → Prop} (h : ∀ a b, R a b → R' a b) : ∀ {l m : List Int}, AllR R l m → AllR R' l m
  | [], [], _ => trivial
  | _ :: _, _ :: _, x => ⟨h _ _ x.1, AllR.mono h x.2⟩
  | [], _ :: _, x => x.elim
  | _ :: _, [], x => x.elim
theorem AllR.len {R : Int → Int → Prop} : ∀ {l m : List Int}, AllR R l m → l.length = m.length
  | [], [], _ => rfl
  | _ :: _, _ :: _, x => by simp [AllR.len x.2]
  | [], _ :: _, x => x.elim
  | _ :: _, [], x => x.elim
theorem AllR.get {R : Int → Int → Prop} : ∀ {l m : List Int} {i : Nat} {a b : Int}, AllR R l m → l[i]? = some a → m[i]? = some b → R a b
  | [], _, i, a, b, _, h, _ => by simp at h
  | _ :: _, [], i, a, b, x, _, _ => x.elim
  | _ :: _, _ :: _, 0, a, b, x, h1, h2 => by
    simp at h1 h2
    subst h1 h2
    exact x.1
  | _ :: _, _ :: _, i + 1, a, b, x, h1, h2 => AllR.get x.2 (by simpa using h1) (by simpa using h2)

/-- a value without the numbers of its capabilities -/
def shapeD : VD → VD
  | .mk kind n l => .mk kind (if kind = 4 then 0 else n) (l.map shapeD)
/-- what is kept of a value that is handed on -/
structure RelV (ks : List Int) (G : GraphD) (x y : VD) : Prop where
  shape : shapeD x = shapeD y
  size : y.size = x.size
  gate : y.gate = x.gate
  caps : AllR (RelC ks G) x.caps y.caps
structure RelVs (ks : List Int) (G : GraphD) (l l' : List VD) : Prop where
  shape : l.map shapeD = l'.map shapeD
  size : sizesV l' = sizesV l
  gate : gatesVs l' = gatesVs l
  caps : AllR (RelC ks G) (capsVs l) (capsVs l')
mutual
theorem valG_rel (ks : List Int) : ∀ (x : VD) (G : GraphD), G.Wf → (∀ n ∈ x.caps, G.has n = true) → (valG ks x G).2.2 = 0 → G.Later (valG ks x G).1 ∧ RelV ks (valG ks x G).1 x (valG ks x G).2.1
  | .mk kind n l, G, hW, hn, h0 => by
    simp only [valG] at h0 ⊢
    simp only [VD.caps] at hn
    by_cases h1 : (headG ks G kind n).2.2 = 0
    · rw [if_neg (by simp [h1])] at h0 ⊢
      by_cases h2 : (valsG ks l (headG ks G kind n).1).2.2 = 0
      · rw [if_neg (by simp [h2])] at h0 ⊢
        have hW1 := headG_wf (ks := ks) (kind := kind) (n := n) hW
        have hd : G.Later (headG ks G kind n).1 ∧ AllR (RelC ks (headG ks G kind n).1) (if kind = 4 then [n] else []) (if kind = 4 then [(headG ks G kind n).2.1] else []) ∧ (if kind = 4 then (0 : Int) else n) = (if kind = 4 then 0 else (headG ks G kind n).2.1) := by
          by_cases h4 : kind = 4
          · have e : headG ks G kind n = capG ks G n := by rw [headG, if_pos h4]
            rw [e] at h1 ⊢
            obtain ⟨a1, a2⟩ := capG_rel ks G n hW (hn n (by simp [h4])) h1
            rw [if_pos h4, if_pos h4, if_pos h4, if_pos h4]
            exact ⟨a1, ⟨a2, trivial⟩, rfl⟩
          · have e : headG ks G kind n = (G, n, 0) := by rw [headG, if_neg h4]
            rw [e]
            simp only [h4, if_false]
            exact ⟨GraphD.Later.refl G, trivial, trivial⟩
        obtain ⟨d1, d2, d3⟩ := hd
        obtain ⟨v1, v2⟩ := valsG_rel ks l (headG ks G kind n).1 hW1 (fun m hm => (d1.has (hn m (by simp [hm]))).1) h2
        have hW2 := valsG_wf ks l _ hW1
        refine ⟨d1.trans v1, ?_, ?_, ?_, ?_⟩
        · simp only [shapeD, VD.mk.injEq, true_and]
          exact ⟨d3, v2.shape⟩
        · simp only [VD.size, v2.size]
        · simp only [VD.gate, v2.gate]
        · simp only [VD.caps]
          exact (d2.mono fun a b r => r.later v1 hW1 hW2).append v2.caps
      · rw [if_pos h2] at h0
        exact absurd h0 h2
    · rw [if_pos h1] at h0
      exact absurd h0 h1
theorem valsG_rel (ks : List Int) : ∀ (l : List VD) (G : GraphD), G.Wf → (∀ n ∈ capsVs l, G.has n = true) → (valsG ks l G).2.2 = 0 → G.Later (valsG ks l G).1 ∧ RelVs ks (valsG ks l G).1 l (valsG ks l G).2.1
  | [], G, hW, hn, h0 => ⟨GraphD.Later.refl G, rfl, rfl, rfl, trivial⟩
  | x :: l, G, hW, hn, h0 => by
    simp only [valsG] at h0 ⊢
    simp only [capsVs] at hn
    by_cases h1 : (valG ks x G).2.2 = 0
    · rw [if_neg (by simp [h1])] at h0 ⊢
      obtain ⟨a1, a2⟩ := valG_rel ks x G hW (fun n hm => hn n (by simp [hm])) h1
      have hW1 := valG_wf ks x G hW
      obtain ⟨b1, b2⟩ := valsG_rel ks l (valG ks x G).1 hW1 (fun n hm => (a1.has (hn n (by simp [hm]))).1) h0
      have hW2 := valsG_wf ks l _ hW1
      refine ⟨a1.trans b1, ?_, ?_, ?_, ?_⟩
      · simp only [List.map_cons, a2.shape, b2.shape]
      · simp only [sizesV, a2.size, b2.size]
      · simp only [gatesVs, a2.gate, b2.gate]
      · simp only [capsVs]
        exact (a2.caps.mono fun a b r => r.later b1 hW1 hW2).append b2.caps
    · rw [if_pos h1] at h0
      exact absurd h0 h1
end

/-- what is told of each capability that came across -/
theorem RelC.target {ks : List Int} {G : GraphD} {n n' : Int} (r : RelC ks G n n') (hW : G.Wf) : G.target n' = G.target n ∧ (G.target n').2 = true := by
  obtain ⟨C, h1, -, -⟩ := r.way
  have hp := GraphD.path_yes hW r.has
  have e : G.target n' = G.target n := by
    unfold GraphD.target
    rw [h1, hp]
    simp [List.getLastD_eq_getLast?, List.getLast?_append, List.getLast?_cons]
  refine ⟨e, ?_⟩
  rw [e]
  exact (GraphD.target_ok hW r.has).1
theorem gatesOf_map (C : List NodeD) : gatesOf C = (C.map (·.gate)).filter fun k => decide (0 ≤ k) := by
  unfold gatesOf
  rw [List.filter_map]
  rfl
theorem RelC.gates {ks : List Int} {G : GraphD} {n n' : Int} (r : RelC ks G n n') : G.gatesC n' = (ks.reverse.filter fun k => decide (0 ≤ k)) ++ G.gatesC n := by
  obtain ⟨C, h1, h2, -⟩ := r.way
  unfold GraphD.gatesC
  rw [h1, gatesOf_map, List.map_append, List.filter_append, ← gatesOf_map (G.path n), h2]
theorem meet15 : meetI 15 15 = 15 := by decide
theorem RelC.rights {ks : List Int} {G : GraphD} {n n' : Int} (r : RelC ks G n n') (hW : G.Wf) : andNotI (G.rights n') (G.rights n) = 0 := by
  obtain ⟨C, h1, -, h3⟩ := r.way
  have hf : ∀ C : List NodeD, (∀ c ∈ C, c.rights = 15) → C.foldl (fun r n => meetI r n.rights) 15 = 15 := by
    intro C
    induction C with
    | nil => intro _; rfl
    | cons c C ih =>
      intro h
      rw [List.foldl_cons, h c (by simp), meet15]
      exact ih fun d hd => h d (by simp [hd])
  have hp := GraphD.path_yes hW r.has
  by_cases hc : (G.path n').any (closedOn G) = true
  · have : G.rights n' = 0 := by rw [GraphD.rights, if_pos (.inr hc)]
    rw [this, andNot_zero]
  · have hne : G.path n ≠ [] := by rw [hp]; simp
    have hne' : G.path n' ≠ [] := by rw [h1]; simp [hne]
    have hc2 : ¬ (G.path n).any (closedOn G) = true := by
      intro h
      apply hc
      rw [h1, List.any_append, h, Bool.or_true]
    have e1 : G.rights n' = (G.path n').foldl (fun r n => meetI r n.rights) 15 := by rw [GraphD.rights, if_neg (by simp [hne', hc])]
    have e2 : G.rights n = (G.path n).foldl (fun r n => meetI r n.rights) 15 := by rw [GraphD.rights, if_neg (by simp [hne, hc2])]
    have e : G.rights n' = G.rights n := by rw [e1, e2, h1, List.foldl_append, hf C h3]
    rw [e]
    exact andNot_self (rights_vec hW n)

theorem may_has {G : GraphD} {x : VD} (h : mayG G x = 0) : x.gate = false ∧ ∀ n ∈ x.caps, G.has n = true := by
  unfold mayG at h
  split at h
  · rename_i h1
    exact absurd h h1
  · split at h
    · cases h
    · rename_i h2
      split at h
      · cases h
      · rename_i h3
        refine ⟨by simpa using h2, fun n hn => ?_⟩
        cases hh : G.has n
        · exfalso
          apply h3
          rw [List.any_eq_true]
          refine ⟨n, hn, ?_⟩
          have : G.rights n = 0 := by rw [GraphD.rights, if_pos (.inl (GraphD.path_no hh))]
          rw [this]
          decide
        · rfl
end Go.Proofs.Ytioladnogpfeeaa
