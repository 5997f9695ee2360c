/- Instructions of an expression; what each jump, name and step of them is. No program here. -/
import Derived.Test.YtioladnogpfeeaaCodeLaw
namespace Go.Proofs.Ytioladnogpfeeaa
set_option linter.unusedSimpArgs false
set_option linter.unusedVariables false
open Go

structure InsD where
  op : Int
  k : Int
  n : Int
def seqI : List (Nat → List InsD) → Nat → List InsD
  | [], _ => []
  | f :: fs, p => f p ++ seqI fs (p + (f p).length)
def letC (f0 f1 : Nat → List InsD) (p : Nat) : List InsD := ⟨100, 0, 0⟩ :: (f0 (p + 1) ++ ⟨101, 0, 0⟩ :: (f1 (p + 1 + (f0 (p + 1)).length + 1) ++ [⟨102, 0, 0⟩]))
/-- where the third one of an EIf begins -/
def elseC (f0 f1 : Nat → List InsD) (p : Nat) : Nat := p + 1 + (f0 (p + 1)).length + 1 + (f1 (p + 1 + (f0 (p + 1)).length + 1)).length + 1
def ifC (f0 f1 f2 : Nat → List InsD) (p : Nat) : List InsD :=
  ⟨100, 0, 0⟩ :: (f0 (p + 1) ++ ⟨103, (elseC f0 f1 p : Nat), 0⟩ :: (f1 (p + 1 + (f0 (p + 1)).length + 1) ++ ⟨104, ((elseC f0 f1 p + (f2 (elseC f0 f1 p)).length : Nat) : Int), 0⟩ :: f2 (elseC f0 f1 p)))
def mixI (op k n : Int) (fs : List (Nat → List InsD)) (p : Nat) : List InsD :=
  if op = 5 then (match fs with | [f0, f1] => letC f0 f1 p | _ => [])
  else if op = 7 then (match fs with | [f0, f1, f2] => ifC f0 f1 f2 p | _ => [])
  else ⟨100, 0, 0⟩ :: (seqI fs (p + 1) ++ [⟨op, k, n⟩])
mutual
def codeI : XD → Nat → List InsD
  | .mk op k n l => mixI op k n (codeFs l)
def codeFs : List XD → List (Nat → List InsD)
  | [] => []
  | x :: l => codeI x :: codeFs l
end
theorem codeI_eq (x : XD) : codeI x = mixI x.op x.k x.n (codeFs x.l) := by cases x; simp only [codeI, XD.op, XD.k, XD.n, XD.l]

def opnI (x : InsD) (o : Int) : Int := if x.op = 101 then o + 1 else if x.op = 102 then o - 1 else o
def badI (N : Nat) (x : InsD) (p : Nat) (o : Int) : Prop :=
  ((x.op = 103 ∨ x.op = 104) ∧ ¬ ((p : Int) < x.k ∧ x.k < N)) ∨ (x.op = 4 ∧ o ≤ x.k) ∨ opnI x o < 0 ∨ 12 < opnI x o ∨ ¬ (x.op = 105 ↔ p + 1 = N)
open Classical in
/-- what is told of a list of instructions at a place: open names, steps, behind them; none, if something is wrong -/
noncomputable def lookI (N : Nat) : List InsD → Nat → Int → Int → Option (Int × Int)
  | [], _, o, t => some (o, t)
  | x :: l, p, o, t => if badI N x p o then none else lookI N l (p + 1) (opnI x o) (if x.op = 100 then t + 1 else t)
theorem lookI_append (N : Nat) : ∀ (a b : List InsD) (p : Nat) (o t : Int), lookI N (a ++ b) p o t = (lookI N a p o t).bind fun q => lookI N b (p + a.length) q.1 q.2
  | [], b, p, o, t => by simp [lookI]
  | x :: a, b, p, o, t => by
    simp only [List.cons_append, lookI]
    split
    · rfl
    · rw [lookI_append N a b]
      simp only [List.length_cons]
      rw [show p + 1 + a.length = p + (a.length + 1) by omega]

theorem codeFs_map : ∀ l : List XD, codeFs l = l.map codeI
  | [] => rfl
  | x :: l => by simp only [codeFs, List.map_cons, codeFs_map l]
theorem codeI_mix (x : XD) : codeI x = mixI x.op x.k x.n (x.l.map codeI) := by rw [codeI_eq, codeFs_map]
theorem seqI_len : ∀ (l : List XD) (p : Nat), (∀ y ∈ l, ∀ p, (codeI y p).length ≤ 3 * y.size) → (seqI (l.map codeI) p).length ≤ 3 * sizesX l
  | [], p, _ => by simp [seqI]
  | x :: l, p, h => by
    have h1 := h x (by simp) p
    have h2 := seqI_len l (p + (codeI x p).length) fun y hy => h y (by simp [hy])
    simp only [List.map_cons, seqI, List.length_append, sizesX]
    omega
theorem codeI_len : ∀ (N : Nat) (x : XD), SizeOf.sizeOf x ≤ N → ∀ p : Nat, (codeI x p).length ≤ 3 * x.size := by
  intro N
  induction N with
  | zero => intro x hx; have := x.so_pos; omega
  | succ N ih =>
    intro x hx p
    have hc : ∀ y ∈ x.l, ∀ p, (codeI y p).length ≤ 3 * y.size := fun y hy => ih y (by have := XD.lt_mem hy; omega)
    have hs := x.size_eq
    rw [codeI_mix]
    generalize x.l = l at hc hs
    unfold mixI
    split
    · match l, hc, hs with
      | [], _, _ => simp
      | [a], _, _ => simp
      | [a, b], hc, hs =>
        have h1 := hc a (by simp) (p + 1)
        have h2 := hc b (by simp) (p + 1 + (codeI a (p + 1)).length + 1)
        simp only [sizesX] at hs
        simp only [List.map_cons, List.map_nil, letC, List.length_cons, List.length_append, List.length_nil]
        have := a.size_pos
        omega
      | a :: b :: c :: l, _, _ => simp
    · split
      · match l, hc, hs with
        | [], _, _ => simp
        | [a], _, _ => simp
        | [a, b], _, _ => simp
        | [a, b, c], hc, hs =>
          have h1 := hc a (by simp) (p + 1)
          have h2 := hc b (by simp) (p + 1 + (codeI a (p + 1)).length + 1)
          have h3 := hc c (by simp) (elseC (codeI a) (codeI b) p)
          simp only [sizesX] at hs
          simp only [List.map_cons, List.map_nil, ifC, List.length_cons, List.length_append]
          omega
        | a :: b :: c :: d :: l, _, _ => simp
      · have := seqI_len l (p + 1) hc
        simp only [List.length_cons, List.length_append, List.length_nil]
        omega

theorem fault_parts {nf o : Int} {x : XD} (h : x.fault nf o = 0) : 0 ≤ partsX x.op ∧ (x.l.length : Int) = partsX x.op ∧ numsX nf x.op x.k x.n o = 0 ∧ ¬ (x.op = 5 ∧ o = 12) ∧ faultsX nf x.op 0 x.l o = 0 := by
  cases x with
  | mk op k n l =>
    simp only [XD.fault] at h
    split at h
    · rename_i h1; exact absurd h h1
    · rename_i h1
      have h1 : headX nf op k n l.length o = 0 := by simpa using h1
      unfold headX at h1
      split at h1
      · cases h1
      · split at h1
        · cases h1
        · split at h1
          · rename_i h2; exact absurd h1 h2
          · split at h1
            · cases h1
            · rename_i a b c d
              simp only [XD.op, XD.k, XD.n, XD.l]
              exact ⟨by omega, by simpa using b, by simpa using c, d, h⟩
theorem faults_cons {nf op o : Int} {i : Nat} {x : XD} {l : List XD} (h : faultsX nf op i (x :: l) o = 0) : x.fault nf (if op = 5 ∧ i = 1 then o + 1 else o) = 0 ∧ faultsX nf op (i + 1) l o = 0 := by
  simp only [faultsX] at h
  generalize x.fault nf (if op = 5 ∧ i = 1 then o + 1 else o) = c at h
  by_cases hc : c = 0
  · exact ⟨hc, by simpa [hc] using h⟩
  · simp [hc] at h
theorem faults_all {nf op o : Int} (hop : op ≠ 5) : ∀ {l : List XD} {i : Nat}, faultsX nf op i l o = 0 → ∀ y ∈ l, y.fault nf o = 0
  | [], _, _, y, hy => by simp at hy
  | x :: l, i, h, y, hy => by
    obtain ⟨h1, h2⟩ := faults_cons h
    rw [if_neg (fun h => hop h.1)] at h1
    rcases List.mem_cons.1 hy with rfl | hy
    · exact h1
    · exact faults_all hop h2 y hy

theorem look_one {N : Nat} {x : InsD} {p : Nat} {o t : Int} (h1 : x.op = 103 ∨ x.op = 104 → (p : Int) < x.k ∧ x.k < N) (h2 : x.op = 4 → ¬ o ≤ x.k) {o' : Int} (ho : opnI x o = o') (h3 : 0 ≤ o' ∧ o' ≤ 12) (h4 : x.op ≠ 105) (h5 : p + 1 < N) (l : List InsD) :
    lookI N (x :: l) p o t = lookI N l (p + 1) o' (if x.op = 100 then t + 1 else t) := by
  simp only [lookI]
  rw [if_neg, ho]
  unfold badI
  rw [ho]
  rintro (h | h | h | h | h)
  · exact h.2 (h1 h.1)
  · exact h2 h.1 h.2
  · omega
  · omega
  · exact h ⟨fun h' => absurd h' h4, fun h' => by omega⟩

theorem look_seq {N : Nat} {o : Int} : ∀ (l : List XD) (p : Nat) (t : Int), (∀ y ∈ l, ∀ (p : Nat) (t : Int), p + (codeI y p).length < N → lookI N (codeI y p) p o t = some (o, t + y.size)) → p + (seqI (l.map codeI) p).length < N →
    lookI N (seqI (l.map codeI) p) p o t = some (o, t + sizesX l)
  | [], p, t, _, _ => by simp [seqI, lookI, sizesX]
  | x :: l, p, t, h, hp => by
    simp only [List.map_cons, seqI, List.length_append] at hp ⊢
    rw [lookI_append, h x (by simp) p t (by omega), Option.bind_some, look_seq l _ _ (fun y hy => h y (by simp [hy])) (by omega)]
    simp only [sizesX]
    congr 2
    omega
theorem look_code (N : Nat) (nf : Int) : ∀ (S : Nat) (x : XD), SizeOf.sizeOf x ≤ S → ∀ (p : Nat) (o t : Int), 0 ≤ o → o ≤ 12 → x.fault nf o = 0 → p + (codeI x p).length < N → lookI N (codeI x p) p o t = some (o, t + x.size) := by
  intro S
  induction S with
  | zero => intro x hx; have := x.so_pos; omega
  | succ S ih =>
    intro x hx p o t h0 h12 hf hp
    obtain ⟨f1, f2, f3, f4, f5⟩ := fault_parts hf
    have hs := x.size_eq
    have ih' : ∀ y ∈ x.l, ∀ (p : Nat) (o t : Int), 0 ≤ o → o ≤ 12 → y.fault nf o = 0 → p + (codeI y p).length < N → lookI N (codeI y p) p o t = some (o, t + y.size) := fun y hy => ih y (by have := XD.lt_mem hy; omega)
    rw [codeI_mix] at hp ⊢
    by_cases h5 : x.op = 5
    · rw [h5] at f2 f5 hp f4 ⊢
      have hl : x.l.length = 2 := by simp [partsX] at f2; omega
      generalize x.l = l at *
      match l, hl with
      | [a, b], _ =>
        obtain ⟨g1, g2⟩ := faults_cons f5
        obtain ⟨g3, _⟩ := faults_cons g2
        simp only [Nat.zero_ne_one, and_false, if_false, and_self, if_true, Nat.zero_add] at g1 g3
        have ho : o ≠ 12 := fun h => f4 ⟨rfl, h⟩
        simp only [mixI, if_true, List.map_cons, List.map_nil, letC, List.length_cons, List.length_append, List.length_nil] at hp ⊢
        rw [look_one (by simp) (by simp) (o' := o) rfl ⟨h0, h12⟩ (by simp) (by omega), lookI_append, ih' a (by simp) _ _ _ h0 h12 (by simpa using g1) (by omega)]
        simp only [Option.bind_some]
        rw [look_one (by simp) (by simp) (o' := o + 1) rfl (by omega) (by simp) (by omega), lookI_append]
        simp only [if_true]
        rw [ih' b (by simp) _ _ _ (by omega) (by omega) g3 (by omega)]
        simp only [Option.bind_some]
        rw [look_one (by simp) (by simp) (o' := o) (by simp [opnI]) (by omega) (by simp) (by omega)]
        simp only [lookI, sizesX] at hs ⊢
        simp
        omega
    by_cases h7 : x.op = 7
    · rw [h7] at f2 f5 hp f4 ⊢
      have hl : x.l.length = 3 := by simp [partsX] at f2; omega
      have hall := faults_all (by decide) f5
      generalize x.l = l at *
      match l, hl with
      | [a, b, c], _ =>
        have ea : elseC (codeI a) (codeI b) p = p + 1 + (codeI a (p + 1)).length + 1 + (codeI b (p + 1 + (codeI a (p + 1)).length + 1)).length + 1 := rfl
        simp only [mixI, show ¬ ((7 : Int) = 5) by decide, if_false, if_true, List.map_cons, List.map_nil, ifC, List.length_cons, List.length_append, List.length_nil] at hp ⊢
        rw [look_one (by simp) (by simp) (o' := o) rfl ⟨h0, h12⟩ (by simp) (by omega), lookI_append, ih' a (by simp) _ _ _ h0 h12 (hall a (by simp)) (by omega)]
        simp only [Option.bind_some]
        rw [look_one (by simp; omega) (by simp) (o' := o) rfl ⟨h0, h12⟩ (by simp) (by omega), lookI_append]
        rw [ih' b (by simp) _ _ _ h0 h12 (hall b (by simp)) (by omega)]
        simp only [Option.bind_some]
        rw [look_one (by simp; omega) (by simp) (o' := o) rfl ⟨h0, h12⟩ (by simp) (by omega)]
        have e : p + 1 + (codeI a (p + 1)).length + 1 + (codeI b (p + 1 + (codeI a (p + 1)).length + 1)).length + 1 = elseC (codeI a) (codeI b) p := rfl
        rw [e, ih' c (by simp) _ _ _ h0 h12 (hall c (by simp)) (by omega)]
        simp only [sizesX] at hs
        simp
        omega
    · have hall := faults_all h5 f5
      simp only [mixI, h5, h7, if_false, List.length_cons, List.length_append, List.length_nil] at hp ⊢
      have hr : 1 ≤ x.op ∧ x.op ≤ 21 := by
        unfold partsX at f1
        repeat (split at f1; · omega)
        omega
      rw [look_one (by simp) (by simp) (o' := o) rfl ⟨h0, h12⟩ (by simp) (by omega), lookI_append, look_seq x.l _ _ (fun y hy p t hp' => ih' y hy p o t h0 h12 (hall y hy) hp') (by omega)]
      simp only [Option.bind_some]
      have hk : x.op = 4 → ¬ o ≤ x.k := by
        intro h4
        rw [h4] at f3
        unfold numsX at f3
        split at f3
        · cases f3
        · simp at f3
          omega
      rw [look_one (by simp; omega) hk (o' := o) (by simp only [opnI]; rw [if_neg (by omega), if_neg (by omega)]) ⟨h0, h12⟩ (by simp; omega) (by omega)]
      simp only [lookI]
      rw [if_neg (by omega)]
      congr 2
      simp
      omega
end Go.Proofs.Ytioladnogpfeeaa
