/- A call that turns a graph that is there, and has memory of its own. -/
import Derived.Test.YtioladnogpfeeaaGraphS7
import Derived.Test.YtioladnogpfeeaaValS2
namespace Go.Proofs.Ytioladnogpfeeaa
set_option linter.unusedSimpArgs false
set_option linter.unusedVariables false
open Go

def Mv (h0 : AH) (F J : Nat → Prop) (b : Nat) (h : AH) (G : GraphD) (C I : List Nat) : Prop :=
  ∃ F' J', IsG h F' J' b G ∧ Chg F J h0 h ∧ (∀ k, F' k → F k ∨ h0.n ≤ k) ∧ (∀ j, J' j → J j ∨ h0.ids ≤ j) ∧ (∀ k ∈ C, h0.n ≤ k ∧ k < h.n ∧ ¬ F' k) ∧ (∀ j ∈ I, h0.ids ≤ j ∧ j < h.ids ∧ ¬ J' j)

section
variable {h0 h : AH} {F J : Nat → Prop} {b : Nat} {G G' : GraphD} {C I : List Nat}
theorem Mv.start (g : IsG h F J b G) : Mv h F J b h G [] [] := ⟨F, J, g, Chg.refl _ _ _, fun _ => .inl, fun _ => .inl, by simp, by simp⟩
theorem Mv.did (m : Mv h0 F J b h G C I) : DidG h0 F J b h G := by
  obtain ⟨F', J', g, c, f, j, _⟩ := m
  exact ⟨F', J', g, c, f, j⟩
theorem Mv.isG (m : Mv h0 F J b h G C I) : ∃ F' J', IsG h F' J' b G := by
  obtain ⟨F', J', g, _⟩ := m
  exact ⟨F', J', g⟩
theorem Mv.n (m : Mv h0 F J b h G C I) : h0.n ≤ h.n := by
  obtain ⟨_, _, _, c, _⟩ := m
  exact c.n
theorem Mv.lt (m : Mv h0 F J b h G C I) {k : Nat} (hk : k ∈ C) : k < h.n := by
  obtain ⟨_, _, _, _, _, _, c, _⟩ := m
  exact (c k hk).2.1
theorem Mv.old (m : Mv h0 F J b h G C I) {k : Nat} (hk : k < h0.n) (hF : ¬ F k) : h.cell k = h0.cell k := by
  obtain ⟨_, _, _, c, _⟩ := m
  exact c.cell k hk hF
theorem Mv.grew {h' : AH} (m : Mv h0 F J b h G C I) (x : GrewA h h') : Mv h0 F J b h' G C I := by
  obtain ⟨F', J', g, c, f, j, hc, hi⟩ := m
  refine ⟨F', J', g.grew x, c.trans (x.chg _ _), f, j, fun k hk => ?_, fun i hk => ?_⟩
  · obtain ⟨a1, a2, a3⟩ := hc k hk
    exact ⟨a1, Nat.lt_of_lt_of_le a2 x.n, a3⟩
  · obtain ⟨a1, a2, a3⟩ := hi i hk
    exact ⟨a1, Nat.lt_of_lt_of_le a2 x.ids, a3⟩
theorem Mv.push (m : Mv h0 F J b h G C I) (r : List (List AV)) : Mv h0 F J b (h.push r) G (h.n :: C) I := by
  have hn := m.n
  obtain ⟨F', J', g, c, f, j, hc, hi⟩ := m.grew (GrewA.push h r)
  obtain ⟨F2, J2, g2, c2, f2, j2, hc2, hi2⟩ := m
  refine ⟨F2, J2, g2.grew (GrewA.push h r), c, f2, j2, fun k hk => ?_, fun i hk => ?_⟩
  · rcases List.mem_cons.1 hk with rfl | hk
    · exact ⟨hn, by simp [AH.push], fun hF => by have := g2.lt.1 _ hF; omega⟩
    · obtain ⟨a1, a2, a3⟩ := hc2 k hk
      exact ⟨a1, by simp only [push_n]; omega, a3⟩
  · exact hi2 i hk
theorem Mv.fresh (m : Mv h0 F J b h G C I) (r : Nat) : Mv h0 F J b (h.fresh r) G C (h.ids :: I) := by
  obtain ⟨F2, J2, g2, c2, f2, j2, hc2, hi2⟩ := m
  refine ⟨F2, J2, g2.grew (GrewA.fresh h r), c2.trans ((GrewA.fresh h r).chg _ _), f2, j2, hc2, fun i hk => ?_⟩
  rcases List.mem_cons.1 hk with rfl | hk
  · exact ⟨c2.ids, by simp [AH.fresh], fun hF => by have := g2.lt.2 _ hF; omega⟩
  · obtain ⟨a1, a2, a3⟩ := hi2 i hk
    exact ⟨a1, by simp only [fresh_ids]; omega, a3⟩
theorem Mv.set (m : Mv h0 F J b h G C I) {c : Nat} (hk : c ∈ C) (es : Option (List (List AV))) : Mv h0 F J b (h.set c es) G C I := by
  obtain ⟨F2, J2, g2, c2, f2, j2, hc2, hi2⟩ := m
  obtain ⟨a1, a2, a3⟩ := hc2 c hk
  have x : Chg (fun k => k = c) (fun _ => False) h (h.set c es) := ⟨Nat.le_refl _, Nat.le_refl _, fun k _ hk => set_ne hk, fun _ _ _ => rfl⟩
  refine ⟨F2, J2, g2.keep x (fun k hk e => a3 (e ▸ hk)) (fun _ _ h => h), c2.then x (fun k e => .inr (by rw [e]; exact a1)) (fun _ h => h.elim), f2, j2, hc2, hi2⟩
theorem Mv.grow (m : Mv h0 F J b h G C I) {i : Nat} (hk : i ∈ I) (r : Nat) : Mv h0 F J b (h.grow i r) G C I := by
  obtain ⟨F2, J2, g2, c2, f2, j2, hc2, hi2⟩ := m
  obtain ⟨a1, a2, a3⟩ := hi2 i hk
  have x : Chg (fun _ => False) (fun j => j = i) h (h.grow i r) := ⟨Nat.le_refl _, Nat.le_refl _, fun _ _ _ => rfl, fun j _ hj => grow_hw_ne hj⟩
  exact ⟨F2, J2, g2.keep x (fun _ _ h => h) (fun j hj e => a3 (e ▸ hj)), c2.then x (fun _ h => h.elim) (fun j e => .inr (by rw [e]; exact a1)), f2, j2, hc2, hi2⟩
theorem Mv.callF {R : AH → Prop} (m : Mv h0 F J b h G C I) (c : ∀ F2 J2, IsG h F2 J2 b G → (∀ k, k < h0.n → ¬ F k → ¬ F2 k) → (∀ k ∈ C, ¬ F2 k) → ∃ h', R h' ∧ DidG h F2 J2 b h' G') :
    ∃ h', R h' ∧ Mv h0 F J b h' G' C I ∧ (∀ k ∈ C, h'.cell k = h.cell k) ∧ (∀ k, k < h0.n → ¬ F k → h'.cell k = h.cell k) ∧ (∀ j ∈ I, h'.hw j = h.hw j) := by
  obtain ⟨F2, J2, g2, c2, f2, j2, hc2, hi2⟩ := m
  obtain ⟨h', r, F3, J3, g3, c3, f3, j3⟩ := c F2 J2 g2 (fun k hk hF h2 => by
    rcases f2 k h2 with h | h
    · exact hF h
    · omega) (fun k hk => (hc2 k hk).2.2)
  have cc := c2.then c3 f2 j2
  refine ⟨h', r, ⟨F3, J3, g3, cc, fun k hk => ?_, fun j hj => ?_, fun k hk => ?_, fun i hk => ?_⟩, fun k hk => c3.cell k (hc2 k hk).2.1 (hc2 k hk).2.2, fun k hk hF => ?_, fun j hj => c3.hw j (hi2 j hj).2.1 (hi2 j hj).2.2⟩
  · rcases f3 k hk with h | h
    · exact f2 k h
    · exact .inr (Nat.le_trans c2.n h)
  · rcases j3 j hj with h | h
    · exact j2 j h
    · exact .inr (Nat.le_trans c2.ids h)
  · obtain ⟨a1, a2, a3⟩ := hc2 k hk
    refine ⟨a1, Nat.lt_of_lt_of_le a2 c3.n, fun hF => ?_⟩
    rcases f3 k hF with h | h
    · exact a3 h
    · omega
  · obtain ⟨a1, a2, a3⟩ := hi2 i hk
    refine ⟨a1, Nat.lt_of_lt_of_le a2 c3.ids, fun hF => ?_⟩
    rcases j3 i hF with h | h
    · exact a3 h
    · omega
  · refine c3.cell k (Nat.lt_of_lt_of_le hk c2.n) fun hF2 => ?_
    rcases f2 k hF2 with h | h
    · exact hF h
    · omega
theorem Mv.call {R : AH → Prop} (m : Mv h0 F J b h G C I) (c : ∀ F J, IsG h F J b G → ∃ h', R h' ∧ DidG h F J b h' G') :
    ∃ h', R h' ∧ Mv h0 F J b h' G' C I ∧ (∀ k ∈ C, h'.cell k = h.cell k) ∧ (∀ k, k < h0.n → ¬ F k → h'.cell k = h.cell k) ∧ (∀ j ∈ I, h'.hw j = h.hw j) := m.callF fun F2 J2 g _ _ => c F2 J2 g

/-- a slice that such a call builds -/
def AccM (e : TypeId) (I : List Nat) (h : AH) (v : AV) (acc : List (List AV)) : Prop := (acc = [] ∧ v = .nils) ∨ ∃ id, id ∈ I ∧ acc ≠ [] ∧ h.hw id = acc.length ∧ v = .isl (some id) e acc
theorem AccM.sla {e : TypeId} {v : AV} {acc : List (List AV)} (a : AccM e I h v acc) : SlA e v acc := by
  rcases a with a | ⟨id, _, _, _, rfl⟩
  · exact .inl a
  · exact .inr ⟨_, rfl⟩
theorem AccM.cell {e : TypeId} {v : AV} {acc : List (List AV)} (a : AccM e I h v acc) : v.one = true ∧ v.cells = [v] := by
  rcases a with ⟨_, rfl⟩ | ⟨id, _, _, _, rfl⟩ <;> exact ⟨rfl, rfl⟩
theorem AccM.keep {h' : AH} {e : TypeId} {v : AV} {acc : List (List AV)} (a : AccM e I h v acc) (hk : ∀ j ∈ I, h'.hw j = h.hw j) : AccM e I h' v acc := by
  rcases a with a | ⟨id, a1, a2, a3, a4⟩
  · exact .inl a
  · exact .inr ⟨id, a1, a2, (hk id a1).trans a3, a4⟩
theorem mv_app {e : TypeId} {v : AV} {acc : List (List AV)} (m : Mv h0 F J b h G C I) (ha : AccM e I h v acc) {row : List AV} (h1 : row.all AV.one = true) (hl : acc.length ≤ 1000000) :
    ∃ v' h' I', appendA false e v (.isl (some h.ids) e [row]) (h.fresh 1) = some (v', h') ∧ AccM e I' h' v' (acc ++ [row]) ∧ Mv h0 F J b h' G C I' ∧ h'.cell = h.cell ∧ h'.n = h.n := by
  have h1' : ∀ x, x ∈ row → x.one = true := by simpa using h1
  rcases ha with ⟨rfl, rfl⟩ | ⟨id, a1, a2, a3, rfl⟩
  · refine ⟨.isl (some (h.ids + 1)) e [row], (h.fresh 1).fresh 1, (h.ids + 1) :: h.ids :: I, ?_, .inr ⟨h.ids + 1, by simp, by simp, by simp [AH.fresh], by simp⟩, (m.fresh 1).fresh 1, rfl, rfl⟩
    simp only [appendA, elemsA, if_true, Option.bind_some, List.length_singleton, Nat.one_ne_zero, if_false, moreA]
    rw [if_pos ⟨by omega, by omega, by simpa using h1'⟩]
    rfl
  · have hlt : id < h.ids := by
      obtain ⟨_, _, _, _, _, _, _, hi⟩ := m
      exact (hi id a1).2.1
    have hne : id ≠ h.ids := by omega
    refine ⟨.isl (some id) e (acc ++ [row]), (h.fresh 1).grow id (acc.length + 1), h.ids :: I, ?_, .inr ⟨id, by simp [a1], by simp, by simp [AH.grow], rfl⟩, (m.fresh 1).grow (by simp [a1]) _, rfl, rfl⟩
    simp only [appendA, elemsA, if_true, Option.bind_some, List.length_singleton, Nat.one_ne_zero, if_false, moreA]
    rw [if_pos ⟨by omega, by omega, by simpa using h1'⟩, fresh_hw_ne hne, a3]
    simp only [true_and, hl, if_true]
end

section
variable {P : Program} {po : Pol} {g : FuncId} {a nv : Nat} {vm : List Nat} {ss : List RS} {rs : List RRes} {args : List AV} {h : AH}
/-- a call whose memory stays: what holds of its end, or of its panic -/
theorem runF_W {Post : (AV ⊕ AV) → AH → Prop} (hf : FnR P po g a nv vm ss rs false) (ha : args.length = a)
    (H : ∀ Q : RRun → Prop, (∀ V h' v, (resR V h' rs).map oneA = some v → Post (.inl v) h' → Q (some (.ret, V, h'))) → (∀ V h' v, Post (.inr v) h' → Q (some (.panic v, V, h'))) → Q (runR (runF P po) nv [.ss ss] (args ++ List.replicate (vm.length - args.length) .junk) [] h)) :
    ∃ q h', runF P po g args h = some (q, h') ∧ Post q h' := by
  obtain ⟨⟨q, h'⟩, e, p⟩ := runF_Q (Post := fun q => Post q.1 q.2) hf ha fun Q hQ => H Q (fun V h' v e r => hQ _ (.inl v, h') (by simp only [cFR_ret, e, cR_some, fg_not]) r) (fun V h' v r => hQ _ (.inr v, h') (by simp only [cFR_panic, fg_not]) r)
  exact ⟨q, h', e, p⟩
end
end Go.Proofs.Ytioladnogpfeeaa
