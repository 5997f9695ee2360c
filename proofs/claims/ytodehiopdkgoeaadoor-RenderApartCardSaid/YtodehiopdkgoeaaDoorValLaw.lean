/- Values as trees: of how many parts, their first fault, the same, what is in them. No program here. -/
import Derived.WalkKit
namespace Go.Proofs.YtodehiopdkgoeaaDoor
set_option linter.unusedSimpArgs false
set_option linter.unusedVariables false
open Go

inductive VD where
  | mk (kind n : Int) (l : List VD)
def VD.kind : VD → Int
  | .mk k _ _ => k
def VD.n : VD → Int
  | .mk _ n _ => n
def VD.l : VD → List VD
  | .mk _ _ l => l
theorem VD.eta (x : VD) : x = .mk x.kind x.n x.l := by cases x; rfl
theorem VD.lt_mem {x y : VD} (h : y ∈ x.l) : SizeOf.sizeOf y < SizeOf.sizeOf x := by
  cases x with
  | mk kind n l =>
    have := List.sizeOf_lt_of_mem (show y ∈ l from h)
    simp only [VD.mk.sizeOf_spec]
    omega
theorem VD.so_pos (x : VD) : 1 ≤ SizeOf.sizeOf x := by
  cases x
  simp only [VD.mk.sizeOf_spec]
  omega

mutual
def VD.size : VD → Nat
  | .mk _ _ l => 1 + sizesV l
def sizesV : List VD → Nat
  | [] => 0
  | x :: l => x.size + sizesV l
end
theorem VD.size_eq (x : VD) : x.size = 1 + sizesV x.l := by cases x; simp [VD.size, VD.l]
theorem sizesV_append : ∀ (l l' : List VD), sizesV (l ++ l') = sizesV l + sizesV l'
  | [], l' => by simp [sizesV]
  | x :: l, l' => by simp [sizesV, sizesV_append l l', Nat.add_assoc]
theorem sizesV_one (x : VD) : sizesV [x] = x.size := by simp [sizesV]
theorem VD.size_pos (x : VD) : 1 ≤ x.size := by rw [x.size_eq]; omega
theorem sizesV_len : ∀ l : List VD, l.length ≤ sizesV l
  | [] => by simp
  | y :: l => by
    have := y.size_pos
    have := sizesV_len l
    simp only [sizesV, List.length_cons]
    omega
theorem VD.len_size (x : VD) : x.l.length < x.size := by
  have := sizesV_len x.l
  rw [x.size_eq]
  omega
theorem VD.size_mem {x y : VD} (h : y ∈ x.l) : y.size < x.size := by
  have : ∀ l : List VD, y ∈ l → y.size ≤ sizesV l := by
    intro l
    induction l with
    | nil => intro hm; simp at hm
    | cons z l ih =>
      intro hm
      simp only [sizesV]
      rcases List.mem_cons.1 hm with rfl | hm
      · omega
      · have := ih hm; omega
  have := this x.l h
  rw [x.size_eq]
  omega

def wantV (kind : Int) : Nat := if kind = 2 then 2 else if kind = 3 then 1 else 0
/-- the first fault of a value, but for what is in it -/
def headV (kind n : Int) (len : Nat) : Int :=
  if kind < 0 ∨ 5 < kind then 2 else if len ≠ wantV kind then 5 else if (kind = 0 ∨ kind = 2) ∧ n ≠ 0 then 5 else if 3 ≤ kind ∧ n < 0 then 1 else 0
mutual
def VD.fault : VD → Int
  | .mk kind n l => if headV kind n l.length ≠ 0 then headV kind n l.length else faultsV l
def faultsV : List VD → Int
  | [] => 0
  | x :: l => if x.fault ≠ 0 then x.fault else faultsV l
end
def VD.code (x : VD) : Int := if 40 < x.size then 3 else x.fault
theorem VD.fault_eq (x : VD) : x.fault = if headV x.kind x.n x.l.length ≠ 0 then headV x.kind x.n x.l.length else faultsV x.l := by
  cases x
  rfl
theorem faultsV_cons (x : VD) (l : List VD) : faultsV (x :: l) = if x.fault ≠ 0 then x.fault else faultsV l := rfl

mutual
def sameV : VD → VD → Bool
  | .mk k n l, .mk k' n' l' => decide (k = k') && (decide (n = n') && sameVs l l')
def sameVs : List VD → List VD → Bool
  | [], [] => true
  | x :: l, y :: l' => sameV x y && sameVs l l'
  | _, _ => false
end
mutual
theorem sameV_refl : ∀ x : VD, sameV x x = true
  | .mk kind n l => by simp [sameV, sameVs_refl l]
theorem sameVs_refl : ∀ l : List VD, sameVs l l = true
  | [] => rfl
  | x :: l => by simp [sameVs, sameV_refl x, sameVs_refl l]
end
mutual
theorem sameV_iff : ∀ {x y : VD}, sameV x y = true → x = y
  | .mk k n l, .mk k' n' l', h => by
    simp only [sameV, Bool.and_eq_true, decide_eq_true_eq] at h
    obtain ⟨rfl, rfl, h⟩ := h
    rw [sameVs_iff h]
theorem sameVs_iff : ∀ {l l' : List VD}, sameVs l l' = true → l = l'
  | [], [], _ => rfl
  | x :: l, y :: l', h => by
    simp only [sameVs, Bool.and_eq_true] at h
    rw [sameV_iff h.1, sameVs_iff h.2]
  | [], _ :: _, h => by simp [sameVs] at h
  | _ :: _, [], h => by simp [sameVs] at h
end
theorem sameVs_ne {l l' : List VD} (h : decide ((l.length : Int) = (l'.length : Int)) = false) : sameVs l l' = false := by
  cases hs : sameVs l l'
  · rfl
  · rw [sameVs_iff hs] at h
    simp at h
theorem sameV_eq (x y : VD) : sameV x y = (decide (x.kind = y.kind) && (decide (x.n = y.n) && sameVs x.l y.l)) := by
  cases x; cases y
  rfl

mutual
/-- the capabilities in a value, from the left -/
def VD.caps : VD → List Int
  | .mk kind n l => (if kind = 4 then [n] else []) ++ capsVs l
def capsVs : List VD → List Int
  | [] => []
  | x :: l => x.caps ++ capsVs l
end
theorem VD.caps_eq (x : VD) : x.caps = (if x.kind = 4 then [x.n] else []) ++ capsVs x.l := by
  cases x
  rfl
theorem capsVs_append : ∀ (l l' : List VD), capsVs (l ++ l') = capsVs l ++ capsVs l'
  | [], l' => by simp [capsVs]
  | x :: l, l' => by simp [capsVs, capsVs_append l l', List.append_assoc]
mutual
theorem VD.caps_few : ∀ x : VD, x.caps.length ≤ x.size
  | .mk kind n l => by
    have := capsVs_few l
    simp only [VD.caps, VD.size, List.length_append]
    split <;> simp <;> omega
theorem capsVs_few : ∀ l : List VD, (capsVs l).length ≤ sizesV l
  | [] => by simp [capsVs]
  | x :: l => by
    have := VD.caps_few x
    have := capsVs_few l
    simp only [capsVs, sizesV, List.length_append]
    omega
end
mutual
/-- is a gate in it? -/
def VD.gate : VD → Bool
  | .mk kind _ l => decide (kind = 5) || gatesVs l
def gatesVs : List VD → Bool
  | [] => false
  | x :: l => x.gate || gatesVs l
end
theorem VD.gate_eq (x : VD) : x.gate = (decide (x.kind = 5) || gatesVs x.l) := by
  cases x
  rfl
theorem gatesVs_any : ∀ l : List VD, gatesVs l = l.any VD.gate
  | [] => rfl
  | x :: l => by simp only [gatesVs, List.any_cons, gatesVs_any l]
def VD.great (x : VD) : Bool := decide (500 < x.size)
end Go.Proofs.YtodehiopdkgoeaaDoor
