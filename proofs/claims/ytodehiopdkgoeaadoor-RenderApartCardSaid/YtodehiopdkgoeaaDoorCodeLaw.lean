/- Expressions as trees: how many, how deep, their first fault, the same. No program here. -/
import Derived.WalkKit
namespace Go.Proofs.YtodehiopdkgoeaaDoor
set_option linter.unusedSimpArgs false
set_option linter.unusedVariables false
open Go

inductive XD where
  | mk (op k n : Int) (l : List XD)
def XD.op : XD → Int
  | .mk op _ _ _ => op
def XD.k : XD → Int
  | .mk _ k _ _ => k
def XD.n : XD → Int
  | .mk _ _ n _ => n
def XD.l : XD → List XD
  | .mk _ _ _ l => l
theorem XD.eta (x : XD) : x = .mk x.op x.k x.n x.l := by cases x; rfl
theorem XD.lt_mem {x y : XD} (h : y ∈ x.l) : SizeOf.sizeOf y < SizeOf.sizeOf x := by
  cases x with
  | mk op k n l =>
    have := List.sizeOf_lt_of_mem (show y ∈ l from h)
    simp only [XD.mk.sizeOf_spec]
    omega

mutual
def XD.size : XD → Nat
  | .mk _ _ _ l => 1 + sizesX l
def sizesX : List XD → Nat
  | [] => 0
  | x :: l => x.size + sizesX l
end
mutual
def XD.depth : XD → Nat
  | .mk _ _ _ l => depthsX l
/-- 0, if there are none; else one more than the deepest -/
def depthsX : List XD → Nat
  | [] => 0
  | x :: l => max (1 + x.depth) (depthsX l)
end
theorem XD.size_eq (x : XD) : x.size = 1 + sizesX x.l := by cases x; simp [XD.size, XD.l]
theorem XD.depth_eq (x : XD) : x.depth = depthsX x.l := by cases x; simp [XD.depth, XD.l]

theorem sizesX_append : ∀ (l l' : List XD), sizesX (l ++ l') = sizesX l + sizesX l'
  | [], l' => by simp [sizesX]
  | x :: l, l' => by simp [sizesX, sizesX_append l l', Nat.add_assoc]
theorem depthsX_append : ∀ (l l' : List XD), depthsX (l ++ l') = max (depthsX l) (depthsX l')
  | [], l' => by simp [depthsX]
  | x :: l, l' => by simp [depthsX, depthsX_append l l', Nat.max_assoc]
theorem sizesX_one (x : XD) : sizesX [x] = x.size := by simp [sizesX]
theorem depthsX_one (x : XD) : depthsX [x] = 1 + x.depth := by simp [depthsX]
theorem XD.size_pos (x : XD) : 1 ≤ x.size := by rw [x.size_eq]; omega
theorem XD.len_size (x : XD) : x.l.length < x.size := by
  have : ∀ l : List XD, l.length ≤ sizesX l := by
    intro l
    induction l with
    | nil => simp
    | cons y l ih =>
      have := y.size_pos
      simp only [sizesX, List.length_cons]
      omega
  have := this x.l
  rw [x.size_eq]
  omega
theorem XD.so_pos (x : XD) : 1 ≤ SizeOf.sizeOf x := by
  cases x
  simp only [XD.mk.sizeOf_spec]
  omega

theorem depthsX_le {n : Nat} : ∀ {l : List XD}, depthsX l ≤ n ↔ ∀ y ∈ l, 1 + y.depth ≤ n
  | [] => by simp [depthsX]
  | x :: l => by
    have := depthsX_le (n := n) (l := l)
    simp only [depthsX, List.mem_cons, forall_eq_or_imp, ← this]
    omega
theorem deep_any (x : XD) {left : Int} (h0 : 0 ≤ left) : (!(x.l.any fun y => !decide ((y.depth : Int) ≤ left - 1))) = decide ((x.depth : Int) ≤ left) := by
  obtain ⟨n, rfl⟩ : ∃ n : Nat, left = n := ⟨left.toNat, by omega⟩
  have h := depthsX_le (n := n) (l := x.l)
  rw [← x.depth_eq] at h
  by_cases hx : x.depth ≤ n
  · have h1 : ((x.depth : Nat) : Int) ≤ (n : Int) := by omega
    have h2 : (x.l.any fun y => !decide ((y.depth : Int) ≤ (n : Int) - 1)) = false := by
      rw [List.any_eq_false]
      intro y hy
      have := h.1 hx y hy
      have h3 : (y.depth : Int) ≤ (n : Int) - 1 := by omega
      simp [h3]
    rw [h2]
    simp [h1]
  · have h1 : ¬ ((x.depth : Nat) : Int) ≤ (n : Int) := by omega
    have h2 : (x.l.any fun y => !decide ((y.depth : Int) ≤ (n : Int) - 1)) = true := by
      cases hb : (x.l.any fun y => !decide ((y.depth : Int) ≤ (n : Int) - 1))
      · exfalso
        apply hx
        apply h.2
        intro y hy
        have := (List.any_eq_false.1 hb) y hy
        simp at this
        omega
      · rfl
    rw [h2]
    simp [h1]

def partsX (op : Int) : Int :=
  if op = 1 ∨ op = 2 ∨ op = 3 ∨ op = 4 ∨ op = 21 then 0
  else if op = 9 ∨ op = 10 ∨ op = 11 ∨ op = 12 ∨ op = 13 ∨ op = 15 ∨ op = 16 ∨ op = 17 ∨ op = 18 ∨ op = 20 then 1
  else if op = 5 ∨ op = 6 ∨ op = 8 ∨ op = 14 ∨ op = 19 then 2
  else if op = 7 then 3 else -1

/-- the numbers of an expression, beside nf functions, where so many names are open -/
def numsX (nf op k n o : Int) : Int :=
  if n ≠ 0 ∧ op ≠ 2 then 5
  else if op = 4 then (if k < 0 ∨ o ≤ k then 1 else 0)
  else if op = 6 then (if k < 1 ∨ 5 < k then 1 else 0)
  else if op = 15 then (if k < 0 ∨ 15 < k then 1 else 0)
  else if op = 18 then (if k < 0 ∨ nf ≤ k then 1 else 0)
  else if k ≠ 0 then 5 else 0
/-- the first fault of an expression, but for what is in it -/
def headX (nf op k n : Int) (len : Nat) (o : Int) : Int :=
  if partsX op < 0 then 2 else if (len : Int) ≠ partsX op then 5
  else if numsX nf op k n o ≠ 0 then numsX nf op k n o
  else if op = 5 ∧ o = 12 then 3 else 0
mutual
def XD.fault (nf : Int) : XD → Int → Int
  | .mk op k n l, o => if headX nf op k n l.length o ≠ 0 then headX nf op k n l.length o else faultsX nf op 0 l o
def faultsX (nf op : Int) : Nat → List XD → Int → Int
  | _, [], _ => 0
  | i, x :: l, o => if x.fault nf (if op = 5 ∧ i = 1 then o + 1 else o) ≠ 0 then x.fault nf (if op = 5 ∧ i = 1 then o + 1 else o) else faultsX nf op (i + 1) l o
end

mutual
def sameX : XD → XD → Bool
  | .mk op k n l, .mk op' k' n' l' => decide (op = op') && (decide (k = k') && (decide (n = n') && sameXs l l'))
def sameXs : List XD → List XD → Bool
  | [], [] => true
  | x :: l, y :: l' => sameX x y && sameXs l l'
  | _, _ => false
end
mutual
theorem sameX_refl : ∀ x : XD, sameX x x = true
  | .mk op k n l => by simp [sameX, sameXs_refl l]
theorem sameXs_refl : ∀ l : List XD, sameXs l l = true
  | [] => rfl
  | x :: l => by simp [sameXs, sameX_refl x, sameXs_refl l]
end
theorem sameXs_len : ∀ {l l' : List XD}, sameXs l l' = true → l.length = l'.length
  | [], [], _ => rfl
  | x :: l, y :: l', h => by
    simp only [sameXs, Bool.and_eq_true] at h
    simp [sameXs_len h.2]
  | [], _ :: _, h => by simp [sameXs] at h
  | _ :: _, [], h => by simp [sameXs] at h

/-- what Check tells of a function: 0 is none -/
def funcX (nf : Int) (x : XD) : Int := if 30 < x.depth then 4 else if 120 < x.size then 3 else x.fault nf 0
/-- the first one that is none: its fault, and which one it is -/
def firstX (nf : Int) : Nat → List XD → Int × Int
  | _, [] => (0, 0)
  | i, x :: l => if funcX nf x ≠ 0 then (funcX nf x, i) else firstX nf (i + 1) l
def checkX (l : List XD) : Int × Int := if l.length = 0 ∨ 6 < l.length then (3, -1) else firstX l.length 0 l
def greatX (l : List XD) : Bool := decide (20 < l.length) || l.any fun x => decide (600 < x.size)
end Go.Proofs.YtodehiopdkgoeaaDoor
