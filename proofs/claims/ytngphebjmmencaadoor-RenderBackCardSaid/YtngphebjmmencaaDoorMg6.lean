/- What slices lie in memory as. Expressions as trees: how many, how deep, their first fault, the same. No program here. Expressions as cells: what they are. Numerals in plain Lean: a numeral ends where its digits end, and tells its number. No program here. From what a statement says of its arguments ('they read as data') to what the walks ask; and back. No walk here. Modules as texts, in plain Lean: what is another module is printed otherwise. No program here. The tokens of a text in plain Lean: what scanning comes to; the texts of tokens, with blanks between, are the same tokens. No program here. The module that tokens tell, in plain Lean. No program here. What is chosen for the walks of this part. The contracts of the library's that this part calls, laid at this program: by their names. What the library's FormatInt and Join do, in the plain model: a numeral; two texts with one sign between them. What strings.Builder's copyCheck and String do at whatever block of cells begins with a Builder: after the shelf's own texts, which know a Builder's block alone. What the library's Itoa, and a Builder's copyCheck and String, do in the plain model. What the library's ParseInt does, in the plain model: a decimal text's number, or that there is none. What was chosen will do. -/
import Derived.Test.YtngphebjmmencaaDoorMg5
import Derived.WalkKit
import Derived.Lib.ItoaMem
import Derived.Test.YtngphebjmmencaaDoorRows
import Derived.ProofKit
import Derived.OpenShut
import Derived.ShutString
import Derived.ChangeOld
import Derived.Deep.Slices
import Derived.Deep.Fields
import Derived.Lib.SmallJoins
import Derived.Lib.ItoaLen
import Derived.Lib.ParseIntB
import Derived.Lib.Join
import Derived.Lib.ItoaNum
import Derived.Shelf.Strings.Builder1
import Derived.Shelf.Strings.Builder2
import Derived.Shelf.LaysM
import Derived.Shelf.Strconv.Itoa3
import Derived.Shelf.Strconv.ErrVarParseInt
import Derived.Test.YtngphebjmmencaaDoorProg
import Derived.Lib.Hide
import Derived.Lib.UnsafeStr
import Derived.Lib.ParseIntBTie
import Derived.Lib.AtoiErrMem
namespace Go.Proofs.YtngphebjmmencaaDoor
set_option linter.unusedSimpArgs false
set_option linter.unusedVariables false
open Go

/-- a slice that nobody turns -/
def SlA (e : TypeId) (v : AV) (es : List (List AV)) : Prop := (es = [] ∧ v = .nils) ∨ ∃ id, v = .isl id e es
abbrev intsA (l : List Int) : List (List AV) := l.map fun x => [.int .i64 x]
end Go.Proofs.YtngphebjmmencaaDoor
namespace Go.Proofs.YtngphebjmmencaaDoor
set_option linter.unusedSimpArgs false
set_option linter.unusedVariables false
open Go

inductive XD where
  | mk (op k n : Int) (l : List XD)
def XD.op : XD → Int
  | .mk op _ _ _ => op
def XD.k : XD → Int
  | .mk _ k _ _ => k
def XD.n : XD → Int
  | .mk _ _ n _ => n
def XD.l : XD → List XD
  | .mk _ _ _ l => l
theorem XD.eta (x : XD) : x = .mk x.op x.k x.n x.l := by cases x; rfl
theorem XD.lt_mem {x y : XD} (h : y ∈ x.l) : SizeOf.sizeOf y < SizeOf.sizeOf x := by
  cases x with
  | mk op k n l =>
    have := List.sizeOf_lt_of_mem (show y ∈ l from h)
    simp only [XD.mk.sizeOf_spec]
    omega

mutual
def XD.size : XD → Nat
  | .mk _ _ _ l => 1 + sizesX l
def sizesX : List XD → Nat
  | [] => 0
  | x :: l => x.size + sizesX l
end
mutual
def XD.depth : XD → Nat
  | .mk _ _ _ l => depthsX l
/-- 0, if there are none; else one more than the deepest -/
def depthsX : List XD → Nat
  | [] => 0
  | x :: l => max (1 + x.depth) (depthsX l)
end
theorem XD.size_eq (x : XD) : x.size = 1 + sizesX x.l := by cases x; simp [XD.size, XD.l]
theorem XD.depth_eq (x : XD) : x.depth = depthsX x.l := by cases x; simp [XD.depth, XD.l]

theorem sizesX_append : ∀ (l l' : List XD), sizesX (l ++ l') = sizesX l + sizesX l'
  | [], l' => by simp [sizesX]
  | x :: l, l' => by simp [sizesX, sizesX_append l l', Nat.add_assoc]
theorem depthsX_append : ∀ (l l' : List XD), depthsX (l ++ l') = max (depthsX l) (depthsX l')
  | [], l' => by simp [depthsX]
  | x :: l, l' => by simp [depthsX, depthsX_append l l', Nat.max_assoc]
theorem sizesX_one (x : XD) : sizesX [x] = x.size := by simp [sizesX]
theorem depthsX_one (x : XD) : depthsX [x] = 1 + x.depth := by simp [depthsX]
theorem XD.size_pos (x : XD) : 1 ≤ x.size := by rw [x.size_eq]; omega
theorem XD.len_size (x : XD) : x.l.length < x.size := by
  have : ∀ l : List XD, l.length ≤ sizesX l := by
    intro l
    induction l with
    | nil => simp
    | cons y l ih =>
      have := y.size_pos
      simp only [sizesX, List.length_cons]
      omega
  have := this x.l
  rw [x.size_eq]
  omega
theorem XD.so_pos (x : XD) : 1 ≤ SizeOf.sizeOf x := by
  cases x
  simp only [XD.mk.sizeOf_spec]
  omega

theorem depthsX_le {n : Nat} : ∀ {l : List XD}, depthsX l ≤ n ↔ ∀ y ∈ l, 1 + y.depth ≤ n
  | [] => by simp [depthsX]
  | x :: l => by
    have := depthsX_le (n := n) (l := l)
    simp only [depthsX, List.mem_cons, forall_eq_or_imp, ← this]
    omega
theorem deep_any (x : XD) {left : Int} (h0 : 0 ≤ left) : (!(x.l.any fun y => !decide ((y.depth : Int) ≤ left - 1))) = decide ((x.depth : Int) ≤ left) := by
  obtain ⟨n, rfl⟩ : ∃ n : Nat, left = n := ⟨left.toNat, by omega⟩
  have h := depthsX_le (n := n) (l := x.l)
  rw [← x.depth_eq] at h
  by_cases hx : x.depth ≤ n
  · have h1 : ((x.depth : Nat) : Int) ≤ (n : Int) := by omega
    have h2 : (x.l.any fun y => !decide ((y.depth : Int) ≤ (n : Int) - 1)) = false := by
      rw [List.any_eq_false]
      intro y hy
      have := h.1 hx y hy
      have h3 : (y.depth : Int) ≤ (n : Int) - 1 := by omega
      simp [h3]
    rw [h2]
    simp [h1]
  · have h1 : ¬ ((x.depth : Nat) : Int) ≤ (n : Int) := by omega
    have h2 : (x.l.any fun y => !decide ((y.depth : Int) ≤ (n : Int) - 1)) = true := by
      cases hb : (x.l.any fun y => !decide ((y.depth : Int) ≤ (n : Int) - 1))
      · exfalso
        apply hx
        apply h.2
        intro y hy
        have := (List.any_eq_false.1 hb) y hy
        simp at this
        omega
      · rfl
    rw [h2]
    simp [h1]

def partsX (op : Int) : Int :=
  if op = 1 ∨ op = 2 ∨ op = 3 ∨ op = 4 ∨ op = 21 then 0
  else if op = 9 ∨ op = 10 ∨ op = 11 ∨ op = 12 ∨ op = 13 ∨ op = 15 ∨ op = 16 ∨ op = 17 ∨ op = 18 ∨ op = 20 then 1
  else if op = 5 ∨ op = 6 ∨ op = 8 ∨ op = 14 ∨ op = 19 then 2
  else if op = 7 then 3 else -1

/-- the numbers of an expression, beside nf functions, where so many names are open -/
def numsX (nf op k n o : Int) : Int :=
  if n ≠ 0 ∧ op ≠ 2 then 5
  else if op = 4 then (if k < 0 ∨ o ≤ k then 1 else 0)
  else if op = 6 then (if k < 1 ∨ 5 < k then 1 else 0)
  else if op = 15 then (if k < 0 ∨ 15 < k then 1 else 0)
  else if op = 18 then (if k < 0 ∨ nf ≤ k then 1 else 0)
  else if k ≠ 0 then 5 else 0
/-- the first fault of an expression, but for what is in it -/
def headX (nf op k n : Int) (len : Nat) (o : Int) : Int :=
  if partsX op < 0 then 2 else if (len : Int) ≠ partsX op then 5
  else if numsX nf op k n o ≠ 0 then numsX nf op k n o
  else if op = 5 ∧ o = 12 then 3 else 0
mutual
def XD.fault (nf : Int) : XD → Int → Int
  | .mk op k n l, o => if headX nf op k n l.length o ≠ 0 then headX nf op k n l.length o else faultsX nf op 0 l o
def faultsX (nf op : Int) : Nat → List XD → Int → Int
  | _, [], _ => 0
  | i, x :: l, o => if x.fault nf (if op = 5 ∧ i = 1 then o + 1 else o) ≠ 0 then x.fault nf (if op = 5 ∧ i = 1 then o + 1 else o) else faultsX nf op (i + 1) l o
end

mutual
def sameX : XD → XD → Bool
  | .mk op k n l, .mk op' k' n' l' => decide (op = op') && (decide (k = k') && (decide (n = n') && sameXs l l'))
def sameXs : List XD → List XD → Bool
  | [], [] => true
  | x :: l, y :: l' => sameX x y && sameXs l l'
  | _, _ => false
end
mutual
theorem sameX_refl : ∀ x : XD, sameX x x = true
  | .mk op k n l => by simp [sameX, sameXs_refl l]
theorem sameXs_refl : ∀ l : List XD, sameXs l l = true
  | [] => rfl
  | x :: l => by simp [sameXs, sameX_refl x, sameXs_refl l]
end
theorem sameXs_len : ∀ {l l' : List XD}, sameXs l l' = true → l.length = l'.length
  | [], [], _ => rfl
  | x :: l, y :: l', h => by
    simp only [sameXs, Bool.and_eq_true] at h
    simp [sameXs_len h.2]
  | [], _ :: _, h => by simp [sameXs] at h
  | _ :: _, [], h => by simp [sameXs] at h

/-- what Check tells of a function: 0 is none -/
def funcX (nf : Int) (x : XD) : Int := if 30 < x.depth then 4 else if 120 < x.size then 3 else x.fault nf 0
/-- the first one that is none: its fault, and which one it is -/
def firstX (nf : Int) : Nat → List XD → Int × Int
  | _, [] => (0, 0)
  | i, x :: l => if funcX nf x ≠ 0 then (funcX nf x, i) else firstX nf (i + 1) l
def checkX (l : List XD) : Int × Int := if l.length = 0 ∨ 6 < l.length then (3, -1) else firstX l.length 0 l
def greatX (l : List XD) : Bool := decide (20 < l.length) || l.any fun x => decide (600 < x.size)
end Go.Proofs.YtngphebjmmencaaDoor
namespace Go.Proofs.YtngphebjmmencaaDoor
set_option linter.unusedSimpArgs false
set_option linter.unusedVariables false
open Go

abbrev tE : TypeId := 56
mutual
def ExA : XD → List AV → Prop
  | .mk op k n l, r => ∃ v es, r = [.int .i64 op, .int .i64 k, .int .i64 n, v] ∧ SlA tE v es ∧ ExL l es
def ExL : List XD → List (List AV) → Prop
  | [], es => es = []
  | x :: l, es => ∃ r rs, es = r :: rs ∧ ExA x r ∧ ExL l rs
end
mutual
/-- an expression's cells, of no memory that may turn: just these -/
def rowX : XD → List AV
  | .mk op k n l => [.int .i64 op, .int .i64 k, .int .i64 n, lstA tE (rowsX l)]
def rowsX : List XD → List (List AV)
  | [] => []
  | x :: l => rowX x :: rowsX l
end
end Go.Proofs.YtngphebjmmencaaDoor
namespace Go.Proofs.YtngphebjmmencaaDoor
set_option linter.unusedSimpArgs false
set_option linter.unusedVariables false
open Go Go.Lib

def letB (c : UInt8) : Bool := 97 ≤ c && c ≤ 122
def digB (c : UInt8) : Bool := 48 ≤ c && c ≤ 57
theorem dig_of {k : Nat} (h : k < 10) : digB (UInt8.ofNat (48 + k)) = true := by
  have : ∀ k : Fin 10, digB (UInt8.ofNat (48 + k.val)) = true := by decide
  exact this ⟨k, h⟩
theorem dec_digs (u : Nat) : ∀ c ∈ decDigits u, digB c = true := by
  induction u using Nat.strongRecOn with
  | _ u ih =>
    rw [decDigits]
    split
    · rename_i h
      intro c hc
      simp only [List.mem_singleton] at hc
      rw [hc]
      exact dig_of h
    · intro c hc
      rcases List.mem_append.1 hc with hc | hc
      · exact ih (u / 10) (by omega) c hc
      · simp only [List.mem_singleton] at hc
        rw [hc]
        exact dig_of (by omega)
theorem dec_ne (u : Nat) : decDigits u ≠ [] := by
  rw [decDigits]
  split <;> simp
/-- what digits tell -/
def valD (l : List UInt8) : Nat := l.foldl (fun n c => n * 10 + (c.toNat - 48)) 0
theorem valD_snoc (l : List UInt8) (c : UInt8) : valD (l ++ [c]) = valD l * 10 + (c.toNat - 48) := by simp [valD, List.foldl_append]
theorem ofNat_dig {k : Nat} (h : k < 10) : (UInt8.ofNat (48 + k)).toNat - 48 = k := by
  have : ∀ k : Fin 10, (UInt8.ofNat (48 + k.val)).toNat - 48 = k.val := by decide
  exact this ⟨k, h⟩
theorem valD_dec (u : Nat) : valD (decDigits u) = u := by
  induction u using Nat.strongRecOn with
  | _ u ih =>
    rw [decDigits]
    split
    · rename_i h
      have := ofNat_dig h
      show 0 * 10 + ((UInt8.ofNat (48 + u)).toNat - 48) = u
      rw [this]
      omega
    · rw [valD_snoc, ih (u / 10) (by omega), ofNat_dig (by omega)]
      omega
theorem dec_inj {u v : Nat} (h : decDigits u = decDigits v) : u = v := by rw [← valD_dec u, ← valD_dec v, h]
/-- nothing that goes on with a digit -/
def endB (r : List UInt8) : Prop := ∀ c t, r = c :: t → digB c = false
theorem digs_cut : ∀ {a b r r' : List UInt8}, (∀ c ∈ a, digB c = true) → (∀ c ∈ b, digB c = true) → endB r → endB r' → a ++ r = b ++ r' → a = b ∧ r = r'
  | [], [], _, _, _, _, _, _, h => ⟨rfl, h⟩
  | [], c :: b, r, r', _, hb, he, _, h => by
    have := he c (b ++ r') (by simpa using h)
    rw [hb c (by simp)] at this
    cases this
  | c :: a, [], r, r', ha, _, _, he, h => by
    have := he c (a ++ r) (by simpa using h.symm)
    rw [ha c (by simp)] at this
    cases this
  | c :: a, d :: b, r, r', ha, hb, he, he', h => by
    simp only [List.cons_append, List.cons.injEq] at h
    obtain ⟨rfl, h⟩ := h
    obtain ⟨rfl, h2⟩ := digs_cut (fun x hx => ha x (by simp [hx])) (fun x hx => hb x (by simp [hx])) he he' h
    exact ⟨rfl, h2⟩
theorem itoa_cut {n m : Int} {r r' : List UInt8} (he : endB r) (he' : endB r') (h : itoa n ++ r = itoa m ++ r') : n = m ∧ r = r' := by
  unfold itoa at h
  have key : ∀ {u v : Nat}, decDigits u ++ r = decDigits v ++ r' → u = v ∧ r = r' := fun {u v} h => by
    obtain ⟨h1, h2⟩ := digs_cut (dec_digs u) (dec_digs v) he he' h
    exact ⟨dec_inj h1, h2⟩
  have first : ∀ (u : Nat) (s : List UInt8), ∃ c t, decDigits u ++ s = c :: t ∧ c ≠ 45 := fun u s => by
    rcases hd : decDigits u with _ | ⟨c, t⟩
    · exact absurd hd (dec_ne u)
    · refine ⟨c, t ++ s, rfl, ?_⟩
      have := dec_digs u c (by rw [hd]; simp)
      intro e
      rw [e] at this
      exact absurd this (by decide)
  split at h <;> split at h
  · simp only [List.cons_append, List.cons.injEq, true_and] at h
    obtain ⟨h1, h2⟩ := key h
    exact ⟨by omega, h2⟩
  · obtain ⟨c, t, e, hc⟩ := first m.toNat r'
    rw [e] at h
    simp only [List.cons_append, List.cons.injEq] at h
    exact absurd h.1.symm hc
  · obtain ⟨c, t, e, hc⟩ := first n.toNat r
    rw [e] at h
    simp only [List.cons_append, List.cons.injEq] at h
    exact absurd h.1 hc
  · obtain ⟨h1, h2⟩ := key h
    exact ⟨by omega, h2⟩
theorem itoa_first (n : Int) (r : List UInt8) : ∃ c t, itoa n ++ r = c :: t ∧ (c = 45 ∨ digB c = true) := by
  unfold itoa
  split
  · exact ⟨45, _, rfl, .inl rfl⟩
  · rcases hd : decDigits n.toNat with _ | ⟨c, t⟩
    · exact absurd hd (dec_ne _)
    · exact ⟨c, t ++ r, rfl, .inr (dec_digs _ c (by rw [hd]; simp))⟩
end Go.Proofs.YtngphebjmmencaaDoor
namespace Go.Proofs.YtngphebjmmencaaDoor
set_option linter.unusedSimpArgs false
set_option linter.unusedVariables false
open Go.ChangeShapes Go.WideShapes Go.ChangeAt Go.RowKit Go.Deep Go.Joins
open Go.ChangeMaps (open_string shut_string)

theorem own : ownKnob Tryd.prog.godebug = none := by kernel_rfl
theorem laidOut : laidOutB Tryd.prog = true := by kernel_rfl

section
variable {H : Type} {enc : TypeId × Value → H} {P : Program} {W W' : World}

theorem trodAll_below (hl : laidOutB P = true) : ∀ {ts : List TypeId} {vs : List Value} {ds : List (DataW H)} {p : List MemPlace},
    DataW.TrodAll enc P W 0 (fun _ => true) true ts vs ds p → (∀ t ∈ ts, P.readableRec t = true ∧ t < P.types.size) → Below W.heap.size W W' → (∀ x ∈ p, x.block < W.heap.size) →
    DataW.TrodAll enc P W' 0 (fun b => decide (b < W.heap.size)) true ts vs ds p
  | [], [], [], p, h, _, _, _ => h
  | t :: ts, v :: vs, d :: ds, p, h, ht, hb, hp => by
    obtain ⟨p1, q1, h1, h2, rfl⟩ := h
    obtain ⟨hr, hs⟩ := ht t (by simp)
    exact ⟨p1, q1, Below.trod hl hr hs h1 hb (fun x hx => hp x (by simp [hx])), trodAll_below hl h2 (fun t' h' => ht t' (by simp [h'])) hb (fun x hx => hp x (by simp [hx])), rfl⟩
  | [], _ :: _, _, _, h, _, _, _ => by simp [DataW.TrodAll] at h
  | _ :: _, [], _, _, h, _, _, _ => by simp [DataW.TrodAll] at h
  | _ :: _, _ :: _, [], _, h, _, _, _ => by simp [DataW.TrodAll] at h
  | [], [], _ :: _, _, h, _, _, _ => by simp [DataW.TrodAll] at h

theorem trodAll_lt : ∀ {ts : List TypeId} {vs : List Value} {ds : List (DataW H)} {p : List MemPlace},
    DataW.TrodAll enc P W 0 (fun _ => true) true ts vs ds p → ∀ x ∈ p, x.block < W.heap.size
  | [], [], [], p, h, x, hx => by
    have : p = [] := h
    subst this
    simp at hx
  | t :: ts, v :: vs, d :: ds, p, h, x, hx => by
    obtain ⟨p1, q1, ⟨n, h1⟩, h2, rfl⟩ := h
    rcases List.mem_append.1 hx with hx | hx
    · exact DataW.trod_lt n _ _ _ h1 x hx
    · exact trodAll_lt h2 x hx
  | [], _ :: _, _, _, h, _, _ => by simp [DataW.TrodAll] at h
  | _ :: _, [], _, _, h, _, _ => by simp [DataW.TrodAll] at h
  | _ :: _, _ :: _, [], _, h, _, _ => by simp [DataW.TrodAll] at h
  | [], [], _ :: _, _, h, _, _ => by simp [DataW.TrodAll] at h

/-- what a walk must show of a law: it returns true, and nothing that was there has turned -/
def Law (P : Program) (f : FuncId) (args : Array Value) (W : World) : Prop :=
  Calls P f args W fun e W' => e = .returned (.bool true) ∧ Below W.heap.size W W'

theorem law_post {f : Func} {s : ChangeSpec} {args : Array Value} {ds gs : List (DataW H)} {before : List MemPlace} {tb : TypeId} (hl : laidOutB P = true) (htb : P.underlying tb = some .bool) (hres : f.resultTypes = #[tb])
    (hv : s.vars = []) (hparams : ∀ t ∈ f.params.toList, P.readableRec t = true ∧ t < P.types.size)
    (hs : ∀ ds : List (DataW H), ds.length = f.params.size → s.fn H ds = { results := [.lit (.bool true)], args := ds })
    (hW : DataW.Whole enc P f.params.toList s.vars false W args.toList ds gs before) (hb : Below W.heap.size W W') :
    s.post enc P f false true false false W args (.bool true) W' := by
  have hW0 := hW
  obtain ⟨p, q, hA, hV, rfl, hfz, hnd⟩ := hW
  rw [hv] at hV
  obtain ⟨rfl, rfl⟩ := trodVars_none hV
  have hlen : ds.length = f.params.size := by
    have : ∀ {ts : List TypeId} {vs : List Value} {ds : List (DataW H)} {p : List MemPlace}, DataW.TrodAll enc P W 0 (fun _ => true) true ts vs ds p → ds.length = ts.length := by
      intro ts
      induction ts with
      | nil =>
        intro vs ds p h
        cases vs <;> cases ds <;> simp [DataW.TrodAll] at h ⊢
      | cons t ts ih =>
        intro vs ds p h
        cases vs <;> cases ds <;> simp [DataW.TrodAll] at h ⊢
        obtain ⟨_, _, _, h2, _⟩ := h
        exact ih h2
    simpa using this hA
  have e := hs (ds ++ []) (by simpa using hlen)
  refine ⟨ds, [], _, [], p, [], hW0, ?_, ?_, ?_, hb.frame _, fun h => by cases h⟩
  · rw [e, hres]
    exact trodAll_mk1 (shut_bool htb _)
  · rw [e]
    simp only [List.append_nil]
    exact trodAll_below hl hA hparams hb (trodAll_lt hA)
  · rw [e, hv]
    rfl

/-- are all fields 64-bit integers? (for the kernel) -/
def allI64 (P : Program) (fs : Array Field) : Bool := fs.toList.all fun f => match P.underlying f.type with
  | some (.int .i64) => true
  | _ => false
theorem hint_of {fs : Array Field} (h : allI64 P fs = true) : ∀ (j : Nat) (f : Field), fs[j]? = some f → P.underlying f.type = some (.int .i64) := by
  intro j f hj
  have hm : f ∈ fs.toList := by
    rw [← Array.getElem?_toList] at hj
    exact List.mem_of_getElem? hj
  have := List.all_eq_true.1 h f hm
  split at this
  · assumption
  · cases this

/-- the numbers that lie at a place: rows of k -/
def rowsAt (w : World) (b o k n : Nat) : List (List Int) := (List.range n).map fun i => (List.range k).map fun j => match w.cell? ⟨b, o + (i * k + j), none⟩ with
  | some (.int _ z) => z
  | _ => 0

abbrev icells (r : List Int) : List Value := r.map (.int .i64)
def isI64 (z : Int) : Prop := -9223372036854775808 ≤ z ∧ z ≤ 9223372036854775807

theorem open_rows {t e : TypeId} {fs : Array Field} {v : Value} {d : DataW H} {p : List MemPlace} {r : Reach} {b0 : Nat} (ht : P.underlying t = some (.slice e)) (he : P.underlying e = some (.struct fs))
    (hone : oneCellFields P fs = true) (hint : ∀ (j : Nat) (f : Field), fs[j]? = some f → P.underlying f.type = some (.int .i64)) (hC : P.cellsOf e = fs.size) (hpos : 0 < fs.size)
    (hok : Value.okWide P W r b0 t v) (h : DataW.Trod enc P W 0 (fun _ => true) true t v d p) :
    ∃ (A : Option Addr) (n cap : Nat) (rows : List (List Int)), v = .slice A n cap ∧ rows.length = n ∧ n ≤ maxLen ∧ (∀ x ∈ rows, x.length = fs.size ∧ ∀ z ∈ x, isI64 z) ∧ Sl W fs.size A n cap (rows.flatMap icells) := by
  obtain ⟨A, n, cap, rfl⟩ := okWide_slice ht hok
  obtain ⟨fuel, hf⟩ := h
  rcases open_slice ht hf with ⟨hcs, _⟩ | ⟨a, len, cap', m, n', D, Pl, hcs, hb, hl, hm, hmm, hx, hi⟩
  · simp [Value.cells] at hcs
    obtain ⟨rfl, rfl, rfl⟩ := hcs
    exact ⟨_, _, _, [], rfl, rfl, by omega, by simp, Sl.none_ _ _⟩
  · simp [Value.cells] at hcs
    obtain ⟨rfl, rfl, rfl⟩ := hcs
    simp at hmm
    subst hmm
    have key : ∀ i, i < n → ∀ j, j < fs.size → a.spot = none ∧ ∃ z, W.cell? ⟨a.block, a.off + (i * fs.size + j), none⟩ = some (.int .i64 z) ∧ isI64 z := by
      intro i hin j hj
      obtain ⟨cs', hc, ht'⟩ := hi i (by omega)
      rw [hC] at hc
      obtain ⟨ys, n'', hn', hy, hlen, hyl, hff⟩ := DataW.trod_struct he ht'
      obtain ⟨_, hcl, hat⟩ := World.cells?_some hc
      have hjf : fs[j]? = some fs[j] := Array.getElem?_eq_getElem hj
      obtain ⟨ho, hk⟩ := hone_of hone j _ hjf
      have hcell := hat j hj
      have h1 := hff j _ hjf
      rw [ho, hk] at h1
      have hone' : (cs'.drop j).take 1 = [cs'[j]'(by omega)] := by
        rw [List.drop_eq_getElem_cons (by omega)]
        rfl
      rw [hone', List.getElem?_eq_getElem (by omega)] at h1
      obtain ⟨z, hz, _, hwf⟩ := DataW.trod_int (hint j _ hjf) h1
      have hz' : cs'[j]'(by omega) = .int .i64 z := by simpa using hz
      rw [List.getElem?_eq_getElem (by omega), hz', Go.Deep.add_add] at hcell
      have hsp : a.spot = none := by
        obtain ⟨b, o, sp⟩ := a
        have hc0 := (hat 0 (by omega))
        rcases hi 0 (by omega) with ⟨cs0, hc00, _⟩
        obtain ⟨_, _, hat0⟩ := World.cells?_some hc00
        have := hat0 0 (by rw [hC]; omega)
        rw [hC] at hc00
        obtain ⟨_, hl0, _⟩ := World.cells?_some hc00
        rw [List.getElem?_eq_getElem (by omega)] at this
        simpa [Addr.add] using World.cell?_spot this
      refine ⟨hsp, z, ?_, by simpa [isI64, Lit.wf, IntKind.min, IntKind.max, IntKind.signed, IntKind.bits] using hwf⟩
      obtain ⟨b, o, sp⟩ := a
      simp at hsp
      subst hsp
      rw [Addr.add_lit] at hcell
      exact hcell
    refine ⟨some a, n, m, rowsAt W a.block a.off fs.size n, rfl, by simp [rowsAt], by omega, ?_, ?_, hl, (fun h => by cases h), ?_⟩
    · intro x hx
      simp only [rowsAt, List.mem_map, List.mem_range] at hx
      obtain ⟨i, hi', rfl⟩ := hx
      refine ⟨by simp, fun z hz => ?_⟩
      simp only [List.mem_map, List.mem_range] at hz
      obtain ⟨j, hj, rfl⟩ := hz
      obtain ⟨_, z, hz, hz2⟩ := key i hi' j hj
      rw [hz]
      exact hz2
    · rw [flat_length' (s := fs.size) _ (by simp [rowsAt])]
      simp [rowsAt]
    · intro a' ha'
      obtain rfl := Option.some.inj ha'
      refine ⟨fun hn => (key 0 hn 0 hpos).1, fun q u hu => ?_⟩
      have hlen : ∀ x ∈ rowsAt W a.block a.off fs.size n, (icells x).length = fs.size := by simp [rowsAt]
      have hln : (rowsAt W a.block a.off fs.size n).length = n := by simp [rowsAt]
      have hq : q < n * fs.size := by
        have := (List.getElem?_eq_some_iff.1 hu).1
        rwa [flat_length' _ hlen, hln] at this
      have hqd : q / fs.size < n := Nat.div_lt_of_lt_mul (by rw [Nat.mul_comm]; exact hq)
      have hqm : q % fs.size < fs.size := Nat.mod_lt _ hpos
      have hqe : q / fs.size * fs.size + q % fs.size = q := by rw [Nat.mul_comm]; exact Nat.div_add_mod q fs.size
      have hg := flat_get' (rowsAt W a.block a.off fs.size n) hlen (k := q / fs.size) (by omega) hqm
      rw [hqe, hu] at hg
      obtain ⟨_, z, hz, _⟩ := key _ hqd _ hqm
      rw [hqe] at hz
      rw [hz, hg]
      simp only [rowsAt, List.getElem_map, List.getElem_range]
      simp [hqm, hqe, hz]


theorem list_of_2 {l : List Int} (h : l.length = 2) : ∃ z0 z1, l = [z0, z1] := by
  match l, h with
  | [z0, z1], _ => exact ⟨z0, z1, rfl⟩
theorem list_of_3 {l : List Int} (h : l.length = 3) : ∃ z0 z1 z2, l = [z0, z1, z2] := by
  match l, h with
  | [z0, z1, z2], _ => exact ⟨z0, z1, z2, rfl⟩
theorem list_of_4 {l : List Int} (h : l.length = 4) : ∃ z0 z1 z2 z3, l = [z0, z1, z2, z3] := by
  match l, h with
  | [z0, z1, z2, z3], _ => exact ⟨z0, z1, z2, z3, rfl⟩
theorem list_of_5 {l : List Int} (h : l.length = 5) : ∃ z0 z1 z2 z3 z4, l = [z0, z1, z2, z3, z4] := by
  match l, h with
  | [z0, z1, z2, z3, z4], _ => exact ⟨z0, z1, z2, z3, z4, rfl⟩
theorem list_of_6 {l : List Int} (h : l.length = 6) : ∃ z0 z1 z2 z3 z4 z5, l = [z0, z1, z2, z3, z4, z5] := by
  match l, h with
  | [z0, z1, z2, z3, z4, z5], _ => exact ⟨z0, z1, z2, z3, z4, z5, rfl⟩
theorem list_of_7 {l : List Int} (h : l.length = 7) : ∃ z0 z1 z2 z3 z4 z5 z6, l = [z0, z1, z2, z3, z4, z5, z6] := by
  match l, h with
  | [z0, z1, z2, z3, z4, z5, z6], _ => exact ⟨z0, z1, z2, z3, z4, z5, z6, rfl⟩
theorem list_of_8 {l : List Int} (h : l.length = 8) : ∃ z0 z1 z2 z3 z4 z5 z6 z7, l = [z0, z1, z2, z3, z4, z5, z6, z7] := by
  match l, h with
  | [z0, z1, z2, z3, z4, z5, z6, z7], _ => exact ⟨z0, z1, z2, z3, z4, z5, z6, z7, rfl⟩

/-- a struct of numbers, by value -/
theorem open_row {t : TypeId} {fs : Array Field} {v : Value} {d : DataW H} {p : List MemPlace} {r : Reach} {b0 : Nat} (hs : P.underlying t = some (.struct fs))
    (hone : oneCellFields P fs = true) (hint : ∀ (j : Nat) (f : Field), fs[j]? = some f → P.underlying f.type = some (.int .i64)) (hC : P.cellsOf t = fs.size) (k : Nat) (hk : fs.size = k)
    (hok : Value.okWide P W r b0 t v) (h : DataW.Trod enc P W 0 (fun _ => true) true t v d p) :
    ∃ row : List Int, v = .agg (icells row).toArray ∧ row.length = k ∧ ∀ z ∈ row, isI64 z := by
  subst hk
  obtain ⟨cs, rfl, hsz⟩ := okWide_struct hs hok
  obtain ⟨fuel, hf⟩ := h
  obtain ⟨xs, n, _, hx, hlen, hyl, hg⟩ := DataW.trod_struct hs hf
  have hsz' : cs.size = fs.size := hsz.trans hC
  have key : ∀ j, j < fs.size → ∃ z, cs[j]? = some (.int .i64 z) ∧ isI64 z := by
    intro j hj
    have hjf : fs[j]? = some fs[j] := Array.getElem?_eq_getElem hj
    obtain ⟨ho, hk⟩ := hone_of hone j _ hjf
    have h1 := hg j _ hjf
    rw [ho, hk] at h1
    have hl : j < cs.toList.length := by simp; omega
    have h2 : ((Value.agg cs).cells.toList.drop j).take 1 = [cs[j]'(by omega)] := by
      show (cs.toList.drop j).take 1 = _
      rw [List.drop_eq_getElem_cons hl]
      simp
    rw [h2, List.getElem?_eq_getElem (by omega)] at h1
    obtain ⟨z, hz, _, hwf⟩ := DataW.trod_int (hint j _ hjf) h1
    have hz' : cs[j]'(by omega) = .int .i64 z := by simpa using hz
    exact ⟨z, by rw [Array.getElem?_eq_getElem (by omega), hz'], by simpa [isI64, Lit.wf, IntKind.min, IntKind.max, IntKind.signed, IntKind.bits] using hwf⟩
  refine ⟨cs.toList.map fun u => match u with | .int _ z => z | _ => 0, ?_, by simpa using hsz', ?_⟩
  · congr 1
    apply Array.ext_getElem?
    intro j
    by_cases hj : j < fs.size
    · obtain ⟨z, hz, _⟩ := key j hj
      rw [hz]
      simp [hz]
    · rw [Array.getElem?_eq_none (by omega), Array.getElem?_eq_none (by simp; omega)]
  · intro z hz
    obtain ⟨u, hu, rfl⟩ := List.mem_map.1 hz
    obtain ⟨j, hj⟩ := List.mem_iff_getElem?.1 hu
    have hjl := (List.getElem?_eq_some_iff.1 hj).1
    obtain ⟨z', hz', hb⟩ := key j (by simp at hjl; omega)
    rw [Array.getElem?_toList] at hj
    rw [hz'] at hj
    cases hj
    exact hb

end
end Go.Proofs.YtngphebjmmencaaDoor
namespace Go.Proofs.YtngphebjmmencaaDoor
set_option linter.unusedSimpArgs false
set_option linter.unusedVariables false
open Go Go.Lib

/-- the words of the kinds of expressions -/
def wordsL : List (List UInt8) := [[], [110, 105, 108], [110, 117, 109], [97, 114, 103], [118, 97, 114], [108, 101, 116], [98, 105, 110], [105, 102], [112, 97, 105, 114], [102, 115, 116], [115, 110, 100], [115, 101, 97, 108], [111, 112, 101, 110],
  [114, 101, 97, 100], [119, 114, 105, 116, 101], [110, 97, 114, 114, 111, 119], [119, 114, 97, 112], [99, 117, 116], [99, 97, 108, 108], [97, 115, 107], [107, 101, 101, 112], [107, 101, 112, 116]]
def binsL : List (List UInt8) := [[], [97, 100, 100], [115, 117, 98], [109, 117, 108], [108, 101, 115, 115], [101, 113]]
def wordX (op : Int) : List UInt8 := if op < 1 ∨ 21 < op then [] else wordsL.getD op.toNat []
def binX (k : Int) : List UInt8 := if k < 1 ∨ 5 < k then [] else binsL.getD k.toNat []
/-- the number, or the word, of an expression -/
def argX (op k n : Int) : List UInt8 := if op = 2 then 32 :: itoa n else if op = 4 ∨ op = 18 ∨ op = 15 then 32 :: itoa k else if op = 6 then 32 :: binX k else []
mutual
def XD.text : XD → List UInt8
  | .mk op k n l => 40 :: (wordX op ++ (argX op k n ++ (textsX l ++ [41])))
def textsX : List XD → List UInt8
  | [] => []
  | x :: l => 32 :: (x.text ++ textsX l)
end
theorem XD.text_eq (x : XD) : x.text = 40 :: (wordX x.op ++ (argX x.op x.k x.n ++ (textsX x.l ++ [41]))) := by
  cases x
  rfl
theorem textsX_append : ∀ (l l' : List XD), textsX (l ++ l') = textsX l ++ textsX l'
  | [], l' => rfl
  | x :: l, l' => by simp [textsX, textsX_append l l']
/-- a module's text -/
def modText : List XD → List UInt8
  | [] => []
  | x :: l => 102 :: 117 :: 110 :: 32 :: (x.text ++ 10 :: modText l)
theorem modText_append : ∀ (l l' : List XD), modText (l ++ l') = modText l ++ modText l'
  | [], l' => rfl
  | x :: l, l' => by simp [modText, modText_append l l']

mutual
/-- its numbers are of 64 bits -/
def XD.wf : XD → Prop
  | .mk op k n l => isI64 op ∧ isI64 k ∧ isI64 n ∧ wfXs l
def wfXs : List XD → Prop
  | [] => True
  | x :: l => x.wf ∧ wfXs l
end
theorem wfXs_mem : ∀ {l : List XD}, wfXs l → ∀ x ∈ l, x.wf
  | [], _, x, hx => by cases hx
  | y :: l, h, x, hx => by
    rcases List.mem_cons.1 hx with rfl | hx
    · exact h.1
    · exact wfXs_mem h.2 x hx
theorem XD.wf_parts {x : XD} (h : x.wf) : isI64 x.k ∧ isI64 x.n ∧ ∀ y ∈ x.l, y.wf := by
  cases x with
  | mk op k n l => exact ⟨h.2.1, h.2.2.1, wfXs_mem h.2.2.2⟩

mutual
/-- an expression whose text tells it -/
def XD.good : XD → Prop
  | .mk op k n l => (1 ≤ op ∧ op ≤ 21) ∧ (l.length : Int) = partsX op ∧ (op ≠ 2 → n = 0) ∧ (op ≠ 4 → op ≠ 6 → op ≠ 15 → op ≠ 18 → k = 0) ∧ (op = 6 → 1 ≤ k ∧ k ≤ 5) ∧ ((op = 4 ∨ op = 15 ∨ op = 18) → 0 ≤ k) ∧ goodXs l
def goodXs : List XD → Prop
  | [] => True
  | x :: l => x.good ∧ goodXs l
end
theorem XD.good_eq (x : XD) : x.good ↔ (1 ≤ x.op ∧ x.op ≤ 21) ∧ (x.l.length : Int) = partsX x.op ∧ (x.op ≠ 2 → x.n = 0) ∧ (x.op ≠ 4 → x.op ≠ 6 → x.op ≠ 15 → x.op ≠ 18 → x.k = 0) ∧ (x.op = 6 → 1 ≤ x.k ∧ x.k ≤ 5) ∧ ((x.op = 4 ∨ x.op = 15 ∨ x.op = 18) → 0 ≤ x.k) ∧ goodXs x.l := by
  cases x
  rfl
theorem goodXs_mem : ∀ {l : List XD}, goodXs l ↔ ∀ x ∈ l, x.good
  | [] => ⟨(fun _ x hx => by cases hx), fun _ => trivial⟩
  | y :: l => by
    have := goodXs_mem (l := l)
    simp only [goodXs, List.mem_cons, forall_eq_or_imp, this]
theorem parts_op {op : Int} (h : 0 ≤ partsX op) : 1 ≤ op ∧ op ≤ 21 := by
  unfold partsX at h
  split at h
  · omega
  · split at h
    · omega
    · split at h
      · omega
      · split at h
        · omega
        · omega
theorem parts_le (op : Int) : partsX op ≤ 3 := by
  unfold partsX
  repeat' split
  all_goals omega
mutual
theorem good_of (nf : Int) : ∀ (x : XD) (o : Int), x.fault nf o = 0 → x.good
  | .mk op k n l, o, h => by
    have hf : XD.fault nf (.mk op k n l) o = if headX nf op k n l.length o ≠ 0 then headX nf op k n l.length o else faultsX nf op 0 l o := by rw [XD.fault]
    rw [hf] at h
    by_cases h1 : headX nf op k n l.length o = 0
    · rw [if_neg (by simp [h1])] at h
      unfold headX at h1
      split at h1
      · cases h1
      · rename_i hp
        split at h1
        · cases h1
        · rename_i hl
          split at h1
          · rename_i hn
            exact absurd h1 hn
          · rename_i hn
            have hop := parts_op (op := op) (by omega)
            have hn : numsX nf op k n o = 0 := by omega
            unfold numsX at hn
            split at hn
            · cases hn
            · rename_i q1
              refine ⟨hop, by omega, fun e => ?_, fun e1 e2 e3 e4 => ?_, fun e => ?_, fun e => ?_, goods_of nf op l 0 o h⟩
              · by_cases hz : n = 0
                · exact hz
                · exact absurd ⟨hz, e⟩ q1
              · rw [if_neg e1, if_neg e2, if_neg e3, if_neg e4] at hn
                by_cases hz : k = 0
                · exact hz
                · rw [if_pos hz] at hn
                  cases hn
              · rw [if_neg (by omega), if_pos e] at hn
                split at hn
                · cases hn
                · omega
              · rcases e with e | e | e
                · rw [if_pos e] at hn
                  split at hn
                  · cases hn
                  · omega
                · rw [if_neg (by omega), if_neg (by omega), if_pos e] at hn
                  split at hn
                  · cases hn
                  · omega
                · rw [if_neg (by omega), if_neg (by omega), if_neg (by omega), if_pos e] at hn
                  split at hn
                  · cases hn
                  · omega
    · rw [if_pos h1] at h
      exact absurd h h1
theorem goods_of (nf op : Int) : ∀ (l : List XD) (i : Nat) (o : Int), faultsX nf op i l o = 0 → goodXs l
  | [], _, _, _ => trivial
  | x :: l, i, o, h => by
    have hf : faultsX nf op i (x :: l) o = if x.fault nf (if op = 5 ∧ i = 1 then o + 1 else o) ≠ 0 then x.fault nf (if op = 5 ∧ i = 1 then o + 1 else o) else faultsX nf op (i + 1) l o := by rw [faultsX]
    rw [hf] at h
    by_cases h1 : x.fault nf (if op = 5 ∧ i = 1 then o + 1 else o) = 0
    · rw [if_neg (by simp [h1])] at h
      exact ⟨good_of nf x _ h1, goods_of nf op l (i + 1) o h⟩
    · rw [if_pos h1] at h
      exact absurd h h1
end
theorem first_all (nf : Int) : ∀ (l : List XD) (i : Nat), (firstX nf i l).1 = 0 → ∀ x ∈ l, funcX nf x = 0
  | [], _, _, x, hx => by cases hx
  | y :: l, i, h, x, hx => by
    simp only [firstX] at h
    by_cases h1 : funcX nf y = 0
    · rw [if_neg (by simp [h1])] at h
      rcases List.mem_cons.1 hx with rfl | hx
      · exact h1
      · exact first_all nf l (i + 1) h x hx
    · rw [if_pos h1] at h
      exact absurd h h1
theorem func_ok {nf : Int} {x : XD} (h : funcX nf x = 0) : x.depth ≤ 30 ∧ x.size ≤ 120 ∧ x.fault nf 0 = 0 := by
  unfold funcX at h
  split at h
  · cases h
  · split at h
    · cases h
    · exact ⟨by omega, by omega, h⟩
theorem check_ok {l : List XD} (h : (checkX l).1 = 0) : 1 ≤ l.length ∧ l.length ≤ 6 ∧ ∀ x ∈ l, x.depth ≤ 30 ∧ x.size ≤ 120 ∧ x.fault l.length 0 = 0 ∧ x.good := by
  unfold checkX at h
  split at h
  · cases h
  · refine ⟨by omega, by omega, fun x hx => ?_⟩
    obtain ⟨a, b, c⟩ := func_ok (first_all _ l 0 h x hx)
    exact ⟨a, b, c, good_of _ x 0 c⟩
theorem check_two {l : List XD} (h : (checkX l).1 = 0) : checkX l = (0, 0) := by
  have h2 := h
  unfold checkX at h ⊢
  split at h
  · cases h
  · rename_i hc
    rw [if_neg hc]
    have key : ∀ (l : List XD) (i : Nat) (nf : Int), (firstX nf i l).1 = 0 → firstX nf i l = (0, 0) := by
      intro l
      induction l with
      | nil => intro i nf _; rfl
      | cons y l ih =>
        intro i nf h
        simp only [firstX] at h ⊢
        by_cases h1 : funcX nf y = 0
        · rw [if_neg (by simp [h1])] at h ⊢
          exact ih _ _ h
        · rw [if_pos h1] at h
          exact absurd h h1
    exact key l 0 l.length h

/-! ### words -/
def endL (r : List UInt8) : Prop := ∀ c t, r = c :: t → letB c = false
theorem lets_cut : ∀ {a b r r' : List UInt8}, (∀ c ∈ a, letB c = true) → (∀ c ∈ b, letB c = true) → endL r → endL r' → a ++ r = b ++ r' → a = b ∧ r = r'
  | [], [], _, _, _, _, _, _, h => ⟨rfl, h⟩
  | [], c :: b, r, r', _, hb, he, _, h => by
    have := he c (b ++ r') (by simpa using h)
    rw [hb c (by simp)] at this
    cases this
  | c :: a, [], r, r', ha, _, _, he, h => by
    have := he c (a ++ r) (by simpa using h.symm)
    rw [ha c (by simp)] at this
    cases this
  | c :: a, d :: b, r, r', ha, hb, he, he', h => by
    simp only [List.cons_append, List.cons.injEq] at h
    obtain ⟨rfl, h⟩ := h
    obtain ⟨rfl, h2⟩ := lets_cut (fun x hx => ha x (by simp [hx])) (fun x hx => hb x (by simp [hx])) he he' h
    exact ⟨rfl, h2⟩
theorem endL_cons {c : UInt8} {t : List UInt8} (h : letB c = false) : endL (c :: t) := fun c' t' e => by
  simp only [List.cons.injEq] at e
  rw [← e.1]
  exact h
theorem endB_cons {c : UInt8} {t : List UInt8} (h : digB c = false) : endB (c :: t) := fun c' t' e => by
  simp only [List.cons.injEq] at e
  rw [← e.1]
  exact h
theorem op_nat {op : Int} (h : 1 ≤ op ∧ op ≤ 21) : ∃ i : Fin 22, 1 ≤ i.val ∧ op = i.val := ⟨⟨op.toNat, by omega⟩, by show 1 ≤ op.toNat; omega, by show op = op.toNat; omega⟩
theorem bin_nat {k : Int} (h : 1 ≤ k ∧ k ≤ 5) : ∃ i : Fin 6, 1 ≤ i.val ∧ k = i.val := ⟨⟨k.toNat, by omega⟩, by show 1 ≤ k.toNat; omega, by show k = k.toNat; omega⟩
theorem word_lets (op : Int) : ∀ c ∈ wordX op, letB c = true := by
  by_cases h : 1 ≤ op ∧ op ≤ 21
  · obtain ⟨i, _, rfl⟩ := op_nat h
    revert i
    decide
  · unfold wordX
    rw [if_pos (by omega)]
    intro c hc
    cases hc
theorem bin_lets (k : Int) : ∀ c ∈ binX k, letB c = true := by
  by_cases h : 1 ≤ k ∧ k ≤ 5
  · obtain ⟨i, _, rfl⟩ := bin_nat h
    revert i
    decide
  · unfold binX
    rw [if_pos (by omega)]
    intro c hc
    cases hc
theorem word_inj {op op' : Int} (h : 1 ≤ op ∧ op ≤ 21) (h' : 1 ≤ op' ∧ op' ≤ 21) (e : wordX op = wordX op') : op = op' := by
  obtain ⟨i, hi, rfl⟩ := op_nat h
  obtain ⟨j, hj, rfl⟩ := op_nat h'
  revert i j
  decide
theorem bin_inj {k k' : Int} (h : 1 ≤ k ∧ k ≤ 5) (h' : 1 ≤ k' ∧ k' ≤ 5) (e : binX k = binX k') : k = k' := by
  obtain ⟨i, hi, rfl⟩ := bin_nat h
  obtain ⟨j, hj, rfl⟩ := bin_nat h'
  revert i j
  decide
theorem word_len (op : Int) : (wordX op).length ≤ 6 := by
  by_cases h : 1 ≤ op ∧ op ≤ 21
  · obtain ⟨i, _, rfl⟩ := op_nat h
    revert i
    decide
  · unfold wordX
    rw [if_pos (by omega)]
    decide
theorem bin_len (k : Int) : (binX k).length ≤ 4 := by
  by_cases h : 1 ≤ k ∧ k ≤ 5
  · obtain ⟨i, _, rfl⟩ := bin_nat h
    revert i
    decide
  · unfold binX
    rw [if_pos (by omega)]
    decide
/-- what stands behind the word, and behind the number, begins so -/
theorem textsX_end (l : List XD) (r : List UInt8) : ∃ c t, textsX l ++ (41 :: r) = c :: t ∧ (c = 32 ∨ c = 41) := by
  cases l with
  | nil => exact ⟨41, r, rfl, .inr rfl⟩
  | cons x l => exact ⟨32, _, rfl, .inl rfl⟩
theorem argX_end (op k n : Int) (l : List XD) (r : List UInt8) : ∃ c t, argX op k n ++ (textsX l ++ (41 :: r)) = c :: t ∧ (c = 32 ∨ c = 41) := by
  unfold argX
  split
  · exact ⟨32, _, rfl, .inl rfl⟩
  · split
    · exact ⟨32, _, rfl, .inl rfl⟩
    · split
      · exact ⟨32, _, rfl, .inl rfl⟩
      · exact textsX_end l r
theorem end_of {s : List UInt8} (h : ∃ c t, s = c :: t ∧ (c = 32 ∨ c = 41)) : endL s ∧ endB s := by
  obtain ⟨c, t, rfl, rfl | rfl⟩ := h
  · exact ⟨endL_cons (by decide), endB_cons (by decide)⟩
  · exact ⟨endL_cons (by decide), endB_cons (by decide)⟩
theorem XD.ext' {x y : XD} (h1 : x.op = y.op) (h2 : x.k = y.k) (h3 : x.n = y.n) (h4 : x.l = y.l) : x = y := by
  rw [x.eta, y.eta, h1, h2, h3, h4]
theorem xtext_app (x : XD) (r : List UInt8) : x.text ++ r = 40 :: (wordX x.op ++ (argX x.op x.k x.n ++ (textsX x.l ++ (41 :: r)))) := by
  rw [x.text_eq]
  simp
theorem xtext_cut : ∀ (N : Nat) (x y : XD), SizeOf.sizeOf x ≤ N → x.good → y.good → ∀ (r r' : List UInt8), x.text ++ r = y.text ++ r' → x = y ∧ r = r' := by
  intro N
  induction N with
  | zero => intro x y hx; have := x.so_pos; omega
  | succ N ih =>
    intro x y hx gx gy r r' h
    rw [xtext_app, xtext_app] at h
    obtain ⟨a1, a2, a3, a4, a5, a6, a7⟩ := x.good_eq.1 gx
    obtain ⟨b1, b2, b3, b4, b5, b6, b7⟩ := y.good_eq.1 gy
    simp only [List.cons.injEq, true_and] at h
    obtain ⟨h1, h2⟩ := lets_cut (word_lets _) (word_lets _) (end_of (argX_end _ _ _ _ _)).1 (end_of (argX_end _ _ _ _ _)).1 h
    have hop := word_inj a1 b1 h1
    rw [hop] at h2 a2 a3 a4 a5 a6
    have lists : ∀ (l l' : List XD), (∀ z ∈ l, z ∈ x.l) → goodXs l → goodXs l' → l.length = l'.length → textsX l ++ (41 :: r) = textsX l' ++ (41 :: r') → l = l' ∧ r = r' := by
      intro l
      induction l with
      | nil =>
        intro l' _ _ _ hl h
        cases l' with
        | nil =>
          simp only [textsX, List.nil_append, List.cons.injEq, true_and] at h
          exact ⟨rfl, h⟩
        | cons z l' => simp at hl
      | cons z l ihl =>
        intro l' hm g1 g2 hl h
        cases l' with
        | nil => simp at hl
        | cons z' l' =>
          simp only [textsX, List.cons_append, List.append_assoc, List.cons.injEq, true_and] at h
          obtain ⟨e1, h3⟩ := ih z z' (by have := XD.lt_mem (hm z (by simp)); omega) g1.1 g2.1 _ _ h
          obtain ⟨e2, h4⟩ := ihl l' (fun q hq => hm q (by simp [hq])) g1.2 g2.2 (by simpa using hl) h3
          exact ⟨by rw [e1, e2], h4⟩
    have hlen : x.l.length = y.l.length := by omega
    have fin : ∀ {k k' n n' : Int}, x.k = k → y.k = k' → x.n = n → y.n = n' → k = k' → n = n' → textsX x.l ++ (41 :: r) = textsX y.l ++ (41 :: r') → x = y ∧ r = r' := by
      intro k k' n n' e1 e2 e3 e4 e5 e6 h3
      obtain ⟨q1, q2⟩ := lists x.l y.l (fun z hz => hz) a7 b7 hlen h3
      exact ⟨XD.ext' hop (by rw [e1, e2, e5]) (by rw [e3, e4, e6]) q1, q2⟩
    by_cases o2 : y.op = 2
    · rw [argX, argX, if_pos o2, if_pos o2] at h2
      simp only [List.cons_append, List.cons.injEq, true_and] at h2
      obtain ⟨e, h3⟩ := itoa_cut (end_of (textsX_end _ _)).2 (end_of (textsX_end _ _)).2 h2
      exact fin rfl rfl rfl rfl (by rw [a4 (by omega) (by omega) (by omega) (by omega), b4 (by omega) (by omega) (by omega) (by omega)]) e h3
    · have hn : x.n = y.n := by rw [a3 o2, b3 o2]
      by_cases o4 : y.op = 4 ∨ y.op = 18 ∨ y.op = 15
      · rw [argX, argX, if_neg o2, if_neg o2, if_pos o4, if_pos o4] at h2
        simp only [List.cons_append, List.cons.injEq, true_and] at h2
        obtain ⟨e, h3⟩ := itoa_cut (end_of (textsX_end _ _)).2 (end_of (textsX_end _ _)).2 h2
        exact fin rfl rfl rfl rfl e hn h3
      · by_cases o6 : y.op = 6
        · rw [argX, argX, if_neg o2, if_neg o2, if_neg o4, if_neg o4, if_pos o6, if_pos o6] at h2
          simp only [List.cons_append, List.cons.injEq, true_and] at h2
          obtain ⟨e, h3⟩ := lets_cut (bin_lets _) (bin_lets _) (end_of (textsX_end _ _)).1 (end_of (textsX_end _ _)).1 h2
          exact fin rfl rfl rfl rfl (bin_inj (a5 o6) (b5 o6) e) hn h3
        · rw [argX, argX, if_neg o2, if_neg o2, if_neg o4, if_neg o4, if_neg o6, if_neg o6] at h2
          exact fin rfl rfl rfl rfl (by rw [a4 (by omega) (by omega) (by omega) (by omega), b4 (by omega) (by omega) (by omega) (by omega)]) hn h2
theorem mod_cut : ∀ (l l' : List XD), (∀ x ∈ l, x.good) → (∀ x ∈ l', x.good) → modText l = modText l' → l = l'
  | [], [], _, _, _ => rfl
  | [], _ :: _, _, _, h => by simp [modText] at h
  | _ :: _, [], _, _, h => by simp [modText] at h
  | x :: l, y :: l', g, g', h => by
    simp only [modText, List.cons.injEq, true_and] at h
    obtain ⟨rfl, h2⟩ := xtext_cut _ x y (Nat.le_refl _) (g x (by simp)) (g' y (by simp)) _ _ h
    simp only [List.cons.injEq, true_and] at h2
    rw [mod_cut l l' (fun z hz => g z (by simp [hz])) (fun z hz => g' z (by simp [hz])) h2]
mutual
theorem sameX_iff : ∀ {x y : XD}, sameX x y = true → x = y
  | .mk op k n l, .mk op' k' n' l', h => by
    simp only [sameX, Bool.and_eq_true, decide_eq_true_eq] at h
    obtain ⟨rfl, rfl, rfl, h⟩ := h
    rw [sameXs_iff h]
theorem sameXs_iff : ∀ {l l' : List XD}, sameXs l l' = true → l = l'
  | [], [], _ => rfl
  | x :: l, y :: l', h => by
    simp only [sameXs, Bool.and_eq_true] at h
    rw [sameX_iff h.1, sameXs_iff h.2]
  | [], _ :: _, h => by simp [sameXs] at h
  | _ :: _, [], h => by simp [sameXs] at h
end
theorem mod_same {l l' : List XD} (h1 : (checkX l).1 = 0) (h2 : (checkX l').1 = 0) : decide (modText l = modText l') = sameXs l l' := by
  by_cases h : modText l = modText l'
  · rw [mod_cut l l' (fun x hx => ((check_ok h1).2.2 x hx).2.2.2) (fun x hx => ((check_ok h2).2.2 x hx).2.2.2) h, sameXs_refl]
    simp
  · rw [decide_eq_false h]
    cases hs : sameXs l l'
    · rfl
    · exact absurd (by rw [sameXs_iff hs]) h
/-- how long texts are -/
theorem argX_len {op k n : Int} (hk : isI64 k) (hn : isI64 n) : (argX op k n).length ≤ 22 := by
  have h1 := itoa_length_le _ hk.1 hk.2
  have h2 := itoa_length_le _ hn.1 hn.2
  have h3 := bin_len k
  unfold argX
  split
  · simp only [List.length_cons]; omega
  · split
    · simp only [List.length_cons]; omega
    · split
      · simp only [List.length_cons]; omega
      · simp
theorem xtext_len : ∀ (N : Nat) (x : XD), SizeOf.sizeOf x ≤ N → x.wf → x.text.length + 1 ≤ 32 * x.size := by
  intro N
  induction N with
  | zero => intro x hx; have := x.so_pos; omega
  | succ N ih =>
    intro x hx hw
    obtain ⟨wk, wn, wl⟩ := XD.wf_parts hw
    have h1 := word_len x.op
    have h2 := argX_len (op := x.op) wk wn
    have key : ∀ l : List XD, (∀ z ∈ l, z ∈ x.l) → (textsX l).length ≤ 32 * sizesX l := by
      intro l
      induction l with
      | nil => intro _; simp [textsX]
      | cons z l ihl =>
        intro hm
        have a := ih z (by have := XD.lt_mem (hm z (by simp)); omega) (wl z (hm z (by simp)))
        have b := ihl fun q hq => hm q (by simp [hq])
        simp only [textsX, List.length_cons, List.length_append, sizesX]
        omega
    have h3 := key x.l fun z hz => hz
    have h4 := x.size_eq
    rw [x.text_eq]
    simp only [List.length_cons, List.length_append, List.length_nil]
    omega
theorem modText_len {l : List XD} (h : ∀ x ∈ l, x.wf ∧ x.size ≤ 120) : (modText l).length ≤ 4000 * l.length := by
  induction l with
  | nil => simp [modText]
  | cons y l ih =>
    have a := xtext_len _ y (Nat.le_refl _) (h y (by simp)).1
    have b := ih fun x hx => h x (by simp [hx])
    have c := (h y (by simp)).2
    simp only [modText, List.length_cons, List.length_append]
    omega
end Go.Proofs.YtngphebjmmencaaDoor
namespace Go.Proofs.YtngphebjmmencaaDoor
set_option linter.unusedSimpArgs false
set_option linter.unusedVariables false
open Go Go.Lib

structure TD where
  at' : Nat
  text : List UInt8
  num : Bool
  n : Int
  deriving Inhabited, DecidableEq

def blankB (c : UInt8) : Bool := c == 32 || (c == 9 || (c == 10 || c == 13))
/-- a number of 64 bits, as short as can be -/
def longD (t : List UInt8) : Option Int := match parseIntB 64 t with
  | .ok n => if itoa n = t then some n else none
  | _ => none
/-- the token at a place -/
def oneD (at' : Nat) : List UInt8 → Option TD
  | [] => none
  | c :: r =>
    if c = 40 ∨ c = 41 then some ⟨at', [c], false, 0⟩
    else if letB c then some ⟨at', c :: r.takeWhile letB, false, 0⟩
    else if digB c ∨ c = 45 then (longD (c :: r.takeWhile digB)).map fun n => ⟨at', c :: r.takeWhile digB, true, n⟩
    else none
/-- the tokens from a place on, behind so many bytes; or the place of the first fault -/
def scanD : Nat → Nat → List UInt8 → List TD ⊕ Nat
  | _, _, [] => .inl []
  | 0, a, c :: r => if blankB c then scanD 0 (a + 1) r else match oneD a (c :: r) with
    | none => .inr a
    | some t => match scanD (t.text.length - 1) (a + 1) r with
      | .inl l => .inl (t :: l)
      | .inr e => .inr e
  | k + 1, a, _ :: r => scanD k (a + 1) r

/-- what Scan comes to -/
def scanR (s : List UInt8) : List TD × (Int × Int) := if 6000 < s.length then ([], (3, 6000)) else match scanD 0 0 s with
  | .inl l => (l, (0, 0))
  | .inr e => ([], (7, (e : Int)))
theorem scanD_skip : ∀ (k a : Nat) (l : List UInt8), scanD k a l = scanD 0 (a + k) (l.drop k)
  | 0, a, l => by simp
  | k + 1, a, [] => by simp [scanD]
  | k + 1, a, c :: r => by
    rw [scanD, scanD_skip k (a + 1) r, List.drop_succ_cons, show a + 1 + k = a + (k + 1) by omega]
theorem scanD_nil (a : Nat) : scanD 0 a [] = .inl [] := by simp [scanD]
theorem scanD_blank {c : UInt8} (h : blankB c = true) (a : Nat) (r : List UInt8) : scanD 0 a (c :: r) = scanD 0 (a + 1) r := by rw [scanD, if_pos h]
theorem one_text {a : Nat} {l : List UInt8} {t : TD} (h : oneD a l = some t) : t.at' = a ∧ 0 < t.text.length ∧ t.text = l.take t.text.length := by
  have key : ∀ (f : UInt8 → Bool) (r : List UInt8), r.takeWhile f = r.take (r.takeWhile f).length := fun f r => by
    induction r with
    | nil => rfl
    | cons c r ih =>
      rw [List.takeWhile_cons]
      split
      · rw [List.length_cons, List.take_succ_cons, ← ih]
      · rfl
  unfold oneD at h
  split at h
  · cases h
  · rename_i c r
    split at h
    · injection h with h
      subst h
      exact ⟨rfl, by simp, by simp⟩
    · split at h
      · injection h with h
        subst h
        exact ⟨rfl, by simp, by simp only [List.length_cons, List.take_succ_cons]; rw [← key]⟩
      · split at h
        · obtain ⟨n, _, rfl⟩ := Option.map_eq_some_iff.1 h
          exact ⟨rfl, by simp, by simp only [List.length_cons, List.take_succ_cons]; rw [← key]⟩
        · cases h
theorem scanD_one {a : Nat} {c : UInt8} {r : List UInt8} {t : TD} (hb : blankB c = false) (h : oneD a (c :: r) = some t) : scanD 0 a (c :: r) = match scanD 0 (a + t.text.length) ((c :: r).drop t.text.length) with
      | .inl l => .inl (t :: l)
      | .inr e => .inr e := by
  have h1 := (one_text h).2.1
  rw [scanD, hb, if_neg (by simp), h]
  simp only
  rw [scanD_skip, show a + 1 + (t.text.length - 1) = a + t.text.length by omega]
  obtain ⟨k, hk⟩ : ∃ k, t.text.length = k + 1 := ⟨t.text.length - 1, by omega⟩
  rw [hk, List.drop_succ_cons, Nat.add_sub_cancel]
theorem scanD_none {a : Nat} {c : UInt8} {r : List UInt8} (hb : blankB c = false) (h : oneD a (c :: r) = none) : scanD 0 a (c :: r) = .inr a := by
  rw [scanD, hb, if_neg (by simp), h]

/-! ### blanks -/
def blanks (l : List UInt8) : Nat := (l.takeWhile blankB).length
theorem blanks_cons {c : UInt8} (h : blankB c = true) (r : List UInt8) : blanks (c :: r) = blanks r + 1 := by simp [blanks, List.takeWhile_cons, h]
theorem blanks_zero {c : UInt8} (h : blankB c = false) (r : List UInt8) : blanks (c :: r) = 0 := by simp [blanks, List.takeWhile_cons, h]
theorem blanks_le (l : List UInt8) : blanks l ≤ l.length := (List.takeWhile_sublist _).length_le
theorem scanD_blanks : ∀ (l : List UInt8) (a : Nat), scanD 0 a l = scanD 0 (a + blanks l) (l.drop (blanks l))
  | [], a => by simp [blanks, scanD]
  | c :: r, a => by
    cases h : blankB c with
    | true => rw [blanks_cons h, List.drop_succ_cons, scanD_blank h, scanD_blanks r (a + 1), show a + 1 + blanks r = a + (blanks r + 1) by omega]
    | false => rw [blanks_zero h]; simp
/-- behind the blanks stands none -/
theorem drop_blanks : ∀ (l : List UInt8) {c : UInt8} {r : List UInt8}, l.drop (blanks l) = c :: r → blankB c = false
  | [], c, r, h => by simp [blanks] at h
  | d :: l, c, r, h => by
    cases hd : blankB d with
    | true =>
      rw [blanks_cons hd, List.drop_succ_cons] at h
      exact drop_blanks l h
    | false =>
      rw [blanks_zero hd, List.drop_zero] at h
      injection h with h1 h2
      rw [← h1]
      exact hd

/-! ### what a token is -/
def TD.ok (t : TD) : Prop :=
  (t.text = [40] ∨ t.text = [41]) ∧ t.num = false ∧ t.n = 0 ∨
  (∃ c r, t.text = c :: r ∧ letB c = true ∧ ∀ x ∈ r, letB x = true) ∧ t.num = false ∧ t.n = 0 ∨
  (∃ c r, t.text = c :: r ∧ (digB c = true ∨ c = 45) ∧ ∀ x ∈ r, digB x = true) ∧ t.num = true ∧ longD t.text = some t.n
theorem takeWhile_mem {f : UInt8 → Bool} : ∀ {l : List UInt8} {x : UInt8}, x ∈ l.takeWhile f → f x = true
  | [], x, h => by simp at h
  | c :: l, x, h => by
    rw [List.takeWhile_cons] at h
    split at h
    · rename_i hc
      rcases List.mem_cons.1 h with rfl | h
      · exact hc
      · exact takeWhile_mem h
    · simp at h
theorem one_ok {a : Nat} {l : List UInt8} {t : TD} (h : oneD a l = some t) : t.ok := by
  unfold oneD at h
  split at h
  · cases h
  · rename_i c r
    split at h
    · rename_i hc
      injection h with h
      subst h
      exact .inl ⟨by rcases hc with rfl | rfl <;> simp, rfl, rfl⟩
    · split at h
      · rename_i hc
        injection h with h
        subst h
        exact .inr (.inl ⟨⟨c, _, rfl, hc, fun x hx => takeWhile_mem hx⟩, rfl, rfl⟩)
      · split at h
        · rename_i hc
          obtain ⟨n, hn, rfl⟩ := Option.map_eq_some_iff.1 h
          exact .inr (.inr ⟨⟨c, _, rfl, hc, fun x hx => takeWhile_mem hx⟩, rfl, hn⟩)
        · cases h
/-- a text behind a token that does not go on with it -/
def sepB (r : List UInt8) : Prop := ∀ c t, r = c :: t → letB c = false ∧ digB c = false
theorem takeWhile_stop {f : UInt8 → Bool} : ∀ {l r : List UInt8}, (∀ x ∈ l, f x = true) → (∀ c t, r = c :: t → f c = false) → (l ++ r).takeWhile f = l
  | [], [], _, _ => rfl
  | [], c :: r, _, h => by simp [List.takeWhile_cons, h c r rfl]
  | c :: l, r, h1, h2 => by
    rw [List.cons_append, List.takeWhile_cons, h1 c (by simp), if_pos rfl, takeWhile_stop (fun x hx => h1 x (by simp [hx])) h2]
set_option maxRecDepth 100000 in
theorem let_not {c : UInt8} (h : letB c = true) : c ≠ 40 ∧ c ≠ 41 ∧ c ≠ 45 ∧ digB c = false ∧ blankB c = false := by
  simp only [letB, Bool.and_eq_true, decide_eq_true_eq, UInt8.le_iff_toNat_le] at h
  have e : c = UInt8.ofNat c.toNat := by simp
  have h97 : (97 : UInt8).toNat = 97 := rfl
  have h122 : (122 : UInt8).toNat = 122 := rfl
  rw [h97, h122] at h
  have key : ∀ k : Fin 256, 97 ≤ k.val ∧ k.val ≤ 122 → UInt8.ofNat k.val ≠ 40 ∧ UInt8.ofNat k.val ≠ 41 ∧ UInt8.ofNat k.val ≠ 45 ∧ digB (UInt8.ofNat k.val) = false ∧ blankB (UInt8.ofNat k.val) = false := by decide
  have := key ⟨c.toNat, c.toNat_lt⟩ h
  simpa using this
set_option maxRecDepth 100000 in
theorem dig_not {c : UInt8} (h : digB c = true ∨ c = 45) : c ≠ 40 ∧ c ≠ 41 ∧ letB c = false ∧ blankB c = false := by
  rcases h with h | rfl
  · simp only [digB, Bool.and_eq_true, decide_eq_true_eq, UInt8.le_iff_toNat_le] at h
    have h97 : (48 : UInt8).toNat = 48 := rfl
    have h122 : (57 : UInt8).toNat = 57 := rfl
    rw [h97, h122] at h
    have key : ∀ k : Fin 256, 48 ≤ k.val ∧ k.val ≤ 57 → UInt8.ofNat k.val ≠ 40 ∧ UInt8.ofNat k.val ≠ 41 ∧ letB (UInt8.ofNat k.val) = false ∧ blankB (UInt8.ofNat k.val) = false := by decide
    have := key ⟨c.toNat, c.toNat_lt⟩ h
    simpa using this
  · decide
theorem one_of {t : TD} (h : t.ok) (a : Nat) {r : List UInt8} (hr : sepB r) : oneD a (t.text ++ r) = some { t with at' := a } ∧ ∃ c s, t.text = c :: s ∧ blankB c = false := by
  obtain ⟨p, x, m, n⟩ := t
  rcases h with ⟨h1, h2, h3⟩ | ⟨⟨c, s, h1, h4, h5⟩, h2, h3⟩ | ⟨⟨c, s, h1, h4, h5⟩, h2, h3⟩
  · simp only at h1 h2 h3
    subst h2 h3
    rcases h1 with rfl | rfl
    · exact ⟨by simp [oneD], 40, [], rfl, by decide⟩
    · exact ⟨by simp [oneD], 41, [], rfl, by decide⟩
  · simp only at h1 h2 h3
    subst h1 h2 h3
    obtain ⟨n1, n2, _, _, n5⟩ := let_not h4
    refine ⟨?_, c, s, rfl, n5⟩
    simp only [List.cons_append, oneD]
    rw [if_neg (by simp [n1, n2]), if_pos h4, takeWhile_stop h5 (fun c t e => (hr c t e).1)]
  · simp only at h1 h2 h3
    subst h1 h2
    obtain ⟨n1, n2, n3, n4⟩ := dig_not h4
    refine ⟨?_, c, s, rfl, n4⟩
    simp only [List.cons_append, oneD]
    rw [if_neg (by simp [n1, n2]), n3, if_neg (by simp), if_pos h4, takeWhile_stop h5 (fun c t e => (hr c t e).2), h3]
    rfl
theorem scan_ok : ∀ (N a : Nat) (l : List UInt8), l.length ≤ N → ∀ ts, scanD 0 a l = .inl ts → (∀ t ∈ ts, t.ok) ∧ (ts.map fun t => t.text.length).sum ≤ l.length
  | _, a, [], _, ts, h => by
    rw [scanD_nil] at h
    injection h with h
    subst h
    simp
  | 0, a, c :: r, hN, ts, h => by simp at hN
  | N + 1, a, c :: r, hN, ts, h => by
    cases hb : blankB c with
    | true =>
      rw [scanD_blank hb] at h
      obtain ⟨i1, i2⟩ := scan_ok N (a + 1) r (by simp at hN; omega) ts h
      exact ⟨i1, by simp; omega⟩
    | false =>
      cases ho : oneD a (c :: r) with
      | none =>
        rw [scanD_none hb ho] at h
        cases h
      | some t =>
        rw [scanD_one hb ho] at h
        obtain ⟨o1, o2, o3⟩ := one_text ho
        have hlen : t.text.length ≤ (c :: r).length := by
          rw [o3, List.length_take]
          omega
        have hd : ((c :: r).drop t.text.length).length = (c :: r).length - t.text.length := List.length_drop
        cases hs : scanD 0 (a + t.text.length) ((c :: r).drop t.text.length) with
        | inr e =>
          rw [hs] at h
          cases h
        | inl l =>
          rw [hs] at h
          injection h with h
          subst h
          obtain ⟨i1, i2⟩ := scan_ok N _ _ (by rw [hd]; simp at hN ⊢; omega) l hs
          refine ⟨fun x hx => ?_, ?_⟩
          · rcases List.mem_cons.1 hx with rfl | hx
            · exact one_ok ho
            · exact i1 x hx
          · simp only [List.map_cons, List.sum_cons]
            omega

/-- a token, wherever it stands -/
def TD.bare (t : TD) : List UInt8 × Bool × Int := (t.text, t.num, t.n)
/-- what is told but for the places -/
def bareS : List TD ⊕ Nat → Option (List (List UInt8 × Bool × Int))
  | .inl l => some (l.map TD.bare)
  | .inr _ => none
/-- the texts of tokens, with something behind each -/
def tokT (sep : List UInt8) : List TD → List UInt8
  | [] => []
  | t :: r => t.text ++ (sep ++ tokT sep r)
theorem tokT_append (sep : List UInt8) : ∀ (l l' : List TD), tokT sep (l ++ l') = tokT sep l ++ tokT sep l'
  | [], _ => rfl
  | t :: l, l' => by simp [tokT, tokT_append sep l l']
theorem tokT_len (sep : List UInt8) : ∀ (l : List TD), (tokT sep l).length = (l.map fun t => t.text.length).sum + sep.length * l.length
  | [] => rfl
  | t :: l => by
    simp only [tokT, List.length_append, tokT_len sep l, List.map_cons, List.sum_cons, List.length_cons, Nat.mul_succ]
    omega
set_option maxRecDepth 100000 in
theorem blank_not {c : UInt8} (h : blankB c = true) : letB c = false ∧ digB c = false := by
  have key : ∀ k : Fin 256, blankB (UInt8.ofNat k.val) = true → letB (UInt8.ofNat k.val) = false ∧ digB (UInt8.ofNat k.val) = false := by decide
  have := key ⟨c.toNat, c.toNat_lt⟩ (by simpa using h)
  simpa using this
theorem sepB_blank {c : UInt8} (h : blankB c = true) (r : List UInt8) : sepB (c :: r) := fun d t e => by
  injection e with e1 e2
  rw [← e1]
  exact blank_not h
theorem scan_skip_blanks : ∀ (s : List UInt8) (a : Nat) (r : List UInt8), (∀ c ∈ s, blankB c = true) → scanD 0 a (s ++ r) = scanD 0 (a + s.length) r
  | [], a, r, _ => by simp
  | c :: s, a, r, h => by
    rw [List.cons_append, scanD_blank (h c (by simp)), scan_skip_blanks s (a + 1) r (fun x hx => h x (by simp [hx])), List.length_cons, show a + 1 + s.length = a + (s.length + 1) by omega]
/-- THERE AND BACK -/
theorem scan_back {sep : List UInt8} (hs : sep ≠ []) (hb : ∀ c ∈ sep, blankB c = true) : ∀ (ts : List TD) (a : Nat), (∀ t ∈ ts, t.ok) → ∃ us, scanD 0 a (tokT sep ts) = .inl us ∧ us.map TD.bare = ts.map TD.bare
  | [], a, _ => ⟨[], scanD_nil a, rfl⟩
  | t :: ts, a, h => by
    obtain ⟨d, s, rfl⟩ : ∃ d s, sep = d :: s := by
      cases sep with
      | nil => exact absurd rfl hs
      | cons d s => exact ⟨d, s, rfl⟩
    have hsep : sepB ((d :: s) ++ tokT (d :: s) ts) := sepB_blank (hb d (by simp)) _
    obtain ⟨o1, c, q, o2, o3⟩ := one_of (h t (by simp)) a hsep
    obtain ⟨us, e1, e2⟩ := scan_back hs hb ts (a + t.text.length + (d :: s).length) (fun x hx => h x (by simp [hx]))
    refine ⟨{ t with at' := a } :: us, ?_, by simp [e2, TD.bare]⟩
    have hd : (t.text ++ ((d :: s) ++ tokT (d :: s) ts)).drop t.text.length = (d :: s) ++ tokT (d :: s) ts := List.drop_left
    rw [tokT]
    rw [show t.text ++ ((d :: s) ++ tokT (d :: s) ts) = c :: (q ++ ((d :: s) ++ tokT (d :: s) ts)) by rw [o2]; rfl] at o1 hd ⊢
    rw [scanD_one o3 o1]
    simp only
    rw [hd, scan_skip_blanks _ _ _ hb, e1]
end Go.Proofs.YtngphebjmmencaaDoor
namespace Go.Proofs.YtngphebjmmencaaDoor
set_option linter.unusedSimpArgs false
set_option linter.unusedVariables false
open Go Go.Lib

/-- the fault at the token that comes; at the text's end -/
def pFail (e : Int) (l : List TD) (code : Int) : Int × Int := match l with
  | t :: _ => (code, (t.at' : Int))
  | [] => (if code = 5 then 6 else code, e)
/-- behind such a token -/
def pIs (s : List UInt8) : List TD → Option (List TD)
  | [] => none
  | t :: r => if t.num = false ∧ t.text = s then some r else none
def pWant (e : Int) (s : List UInt8) (l : List TD) : Except (Int × Int) (List TD) := match pIs s l with
  | some r => .ok r
  | none => .error (pFail e l 5)
def pNum (e : Int) (l : List TD) : Except (Int × Int) (Int × List TD) := match l with
  | [] => .error (pFail e [] 5)
  | t :: r => if t.num = true then .ok (t.n, r) else .error (pFail e (t :: r) 5)
def pFew (e : Int) (l : List TD) : Except (Int × Int) (Int × List TD) := match l with
  | [] => .error (pFail e [] 5)
  | t :: r => if t.num = true ∧ (t.n < 0 ∨ 999 < t.n) then .error (pFail e (t :: r) 1) else pNum e (t :: r)
def pPickFrom (e : Int) (of : Int → List UInt8) (l : List TD) : Nat → Nat → Except (Int × Int) (Int × List TD)
  | 0, _ => .error (pFail e l 5)
  | c + 1, k => match pIs (of k) l with
    | some r => .ok ((k : Int), r)
    | none => pPickFrom e of l c (k + 1)
/-- the number of the word that comes -/
def pPick (e : Int) (most : Nat) (of : Int → List UInt8) (l : List TD) : Except (Int × Int) (Int × List TD) := pPickFrom e of l most 1
/-- the number, or the word, of an expression -/
def pArg (e op : Int) (l : List TD) : Except (Int × Int) (Int × Int × List TD) :=
  if op = 2 then (match pNum e l with
    | .ok (n, r) => .ok (0, n, r)
    | .error f => .error f)
  else if op = 4 ∨ op = 18 ∨ op = 15 then (match pFew e l with
    | .ok (k, r) => .ok (k, 0, r)
    | .error f => .error f)
  else if op = 6 then (match pPick e 5 binX l with
    | .ok (k, r) => .ok (k, 0, r)
    | .error f => .error f)
  else .ok (0, 0, l)
def pParts (f : List TD → Except (Int × Int) (XD × List TD)) : Nat → List TD → Except (Int × Int) (List XD × List TD)
  | 0, l => .ok ([], l)
  | n + 1, l => match f l with
    | .error g => .error g
    | .ok (x, r) => match pParts f n r with
      | .error g => .error g
      | .ok (xs, q) => .ok (x :: xs, q)
/-- an expression, with so much room -/
def pExpr (e : Int) : Nat → List TD → Except (Int × Int) (XD × List TD)
  | 0, l => .error (pFail e l 4)
  | R + 1, l => match pWant e [40] l with
    | .error f => .error f
    | .ok l1 => match pPick e 21 wordX l1 with
      | .error f => .error f
      | .ok (op, l2) => match pArg e op l2 with
        | .error f => .error f
        | .ok (k, n, l3) => match pParts (pExpr e R) (partsX op).toNat l3 with
          | .error f => .error f
          | .ok (xs, l4) => match pWant e [41] l4 with
            | .error f => .error f
            | .ok l5 => .ok (.mk op k n xs, l5)
abbrev funB : List UInt8 := [102, 117, 110]
/-- the functions that tokens tell -/
def pMod (e : Int) : Nat → List TD → Except (Int × Int) (List XD)
  | _, [] => .ok []
  | 0, _ => .ok []
  | N + 1, t :: l => match pWant e funB (t :: l) with
    | .error f => .error f
    | .ok l1 => match pExpr e 31 l1 with
      | .error f => .error f
      | .ok (x, r) => match pMod e N r with
        | .error f => .error f
        | .ok xs => .ok (x :: xs)

/-- what Parse comes to -/
def parseR (s : List UInt8) : List XD × (Int × Int) := if (scanR s).2.1 ≠ 0 then ([], (scanR s).2) else match pMod s.length (scanR s).1.length (scanR s).1 with
  | .error f => ([], f)
  | .ok L => if (checkX L).1 ≠ 0 then ([], checkX L) else (L, (0, 0))

theorem is_some {s : List UInt8} {l r : List TD} (h : pIs s l = some r) : ∃ t, l = t :: r ∧ t.num = false ∧ t.text = s := by
  cases l with
  | nil => cases h
  | cons t l =>
    simp only [pIs] at h
    split at h
    · rename_i hh
      injection h with h
      subst h
      exact ⟨t, rfl, hh.1, hh.2⟩
    · cases h
theorem is_yes {t : TD} {r : List TD} (h1 : t.num = false) : pIs t.text (t :: r) = some r := if_pos ⟨h1, rfl⟩
theorem want_ok {e : Int} {s : List UInt8} {l r : List TD} (h : pWant e s l = .ok r) : pIs s l = some r := by
  unfold pWant at h
  split at h
  · rename_i q hq
    injection h with h
    subst h
    exact hq
  · cases h
theorem num_ok {e : Int} {l r : List TD} {n : Int} (h : pNum e l = .ok (n, r)) : ∃ t, l = t :: r ∧ t.num = true ∧ t.n = n := by
  cases l with
  | nil => cases h
  | cons t l =>
    simp only [pNum] at h
    split at h
    · rename_i hh
      injection h with h
      injection h with h1 h2
      subst h2
      exact ⟨t, rfl, hh, h1⟩
    · cases h
theorem few_ok {e : Int} {l r : List TD} {n : Int} (h : pFew e l = .ok (n, r)) : ∃ t, l = t :: r ∧ t.num = true ∧ t.n = n ∧ 0 ≤ n ∧ n ≤ 999 := by
  cases l with
  | nil => cases h
  | cons t l =>
    simp only [pFew] at h
    split at h
    · cases h
    · rename_i hh
      obtain ⟨t', e1, e2, e3⟩ := num_ok h
      injection e1 with e1 e4
      subst e1
      subst e4
      refine ⟨t, rfl, e2, e3, ?_, ?_⟩
      · rcases Int.lt_or_le n 0 with hn | hn
        · exact absurd ⟨e2, .inl (by rw [e3]; exact hn)⟩ hh
        · exact hn
      · rcases Int.lt_or_le 999 n with hn | hn
        · exact absurd ⟨e2, .inr (by rw [e3]; exact hn)⟩ hh
        · exact hn
theorem pickFrom_ok {e : Int} {of : Int → List UInt8} {l r : List TD} : ∀ {c k : Nat} {j : Int}, pPickFrom e of l c k = .ok (j, r) → ∃ i : Nat, j = (i : Int) ∧ k ≤ i ∧ i < k + c ∧ pIs (of i) l = some r
  | 0, k, j, h => by cases h
  | c + 1, k, j, h => by
    simp only [pPickFrom] at h
    split at h
    · rename_i q hq
      injection h with h
      injection h with h1 h2
      subst h2
      exact ⟨k, h1.symm, Nat.le_refl _, by omega, hq⟩
    · obtain ⟨i, h1, h2, h3, h4⟩ := pickFrom_ok h
      exact ⟨i, h1, by omega, by omega, h4⟩
theorem pick_ok {e : Int} {most : Nat} {of : Int → List UInt8} {l r : List TD} {j : Int} (h : pPick e most of l = .ok (j, r)) : 1 ≤ j ∧ j ≤ most ∧ pIs (of j) l = some r := by
  obtain ⟨i, rfl, h2, h3, h4⟩ := pickFrom_ok h
  exact ⟨by omega, by omega, h4⟩
theorem is_len {s : List UInt8} {l r : List TD} (h : pIs s l = some r) : l.length = r.length + 1 := by
  obtain ⟨t, rfl, _⟩ := is_some h
  rfl
theorem arg_len {e op k n : Int} {l r : List TD} (h : pArg e op l = .ok (k, n, r)) : r.length ≤ l.length := by
  unfold pArg at h
  split at h
  · split at h
    · rename_i n' r' hn
      obtain ⟨t, rfl, _⟩ := num_ok hn
      injection h with h
      injection h with _ h
      injection h with _ h
      subst h
      simp
    · cases h
  · split at h
    · split at h
      · rename_i n' r' hn
        obtain ⟨t, rfl, _⟩ := few_ok hn
        injection h with h
        injection h with _ h
        injection h with _ h
        subst h
        simp
      · cases h
    · split at h
      · split at h
        · rename_i n' r' hn
          have := is_len (pick_ok hn).2.2
          injection h with h
          injection h with _ h
          injection h with _ h
          subst h
          omega
        · cases h
      · injection h with h
        injection h with _ h
        injection h with _ h
        subst h
        exact Nat.le_refl _
theorem parts_len {f : List TD → Except (Int × Int) (XD × List TD)} (hf : ∀ l x r, f l = .ok (x, r) → r.length < l.length) : ∀ {n : Nat} {l r : List TD} {xs : List XD}, pParts f n l = .ok (xs, r) → r.length ≤ l.length
  | 0, l, r, xs, h => by
    injection h with h
    injection h with _ h
    subst h
    exact Nat.le_refl _
  | n + 1, l, r, xs, h => by
    simp only [pParts] at h
    split at h
    · cases h
    · rename_i x q hx
      have h1 := hf _ _ _ hx
      split at h
      · cases h
      · rename_i ys z hy
        have h2 := parts_len hf hy
        injection h with h
        injection h with _ h
        subst h
        omega
/-- what an expression is made of -/
theorem expr_ok {e : Int} {R : Nat} {l r : List TD} {x : XD} (h : pExpr e (R + 1) l = .ok (x, r)) : ∃ op k n xs l1 l2 l3 l4, x = .mk op k n xs ∧ pWant e [40] l = .ok l1 ∧ pPick e 21 wordX l1 = .ok (op, l2) ∧ pArg e op l2 = .ok (k, n, l3) ∧
    pParts (pExpr e R) (partsX op).toNat l3 = .ok (xs, l4) ∧ pWant e [41] l4 = .ok r := by
  simp only [pExpr] at h
  split at h
  · cases h
  · rename_i l1 h1
    split at h
    · cases h
    · rename_i op l2 h2
      split at h
      · cases h
      · rename_i k n l3 h3
        split at h
        · cases h
        · rename_i xs l4 h4
          split at h
          · cases h
          · rename_i l5 h5
            injection h with h
            injection h with e1 e2
            subst e1
            subst e2
            exact ⟨op, k, n, xs, l1, l2, l3, l4, rfl, h1, h2, h3, h4, h5⟩
theorem expr_len (e : Int) : ∀ (R : Nat) (l : List TD) (x : XD) (r : List TD), pExpr e R l = .ok (x, r) → r.length < l.length
  | 0, l, x, r, h => by cases h
  | R + 1, l, x, r, h => by
    obtain ⟨op, k, n, xs, l1, l2, l3, l4, _, h1, h2, h3, h4, h5⟩ := expr_ok h
    have a1 := is_len (want_ok h1)
    have a2 := is_len (pick_ok h2).2.2
    have a3 := arg_len h3
    have a4 := parts_len (expr_len e R) h4
    have a5 := is_len (want_ok h5)
    omega
end Go.Proofs.YtngphebjmmencaaDoor
namespace Go.Proofs.YtngphebjmmencaaDoor
set_option linter.unusedSimpArgs false
set_option linter.unusedVariables false
open Go

def useList : List FuncId := [85, 39, 56, 57, 71, 70, 84, 
  58, 72, 59, 34, 27, 64, 40, 41, 
  42, 20, 22, 38, 15, 43, 45, 
  112, 16, 18, 17, 19, 44, 23, 21, 
  8, 47, 48, 25, 24, 26, 10, 27, 28, 
  29, 30, 11, 9, 3, 4, 52, 
  51, 32, 54, 55, 53, 33, 35, 
  61, 60, 36, 62, 63, 37, 
  14, 12, 5, 6, 7]
def pureList : List FuncId := [85, 39, 57, 71, 70, 84, 58, 
  34, 27, 64, 40, 41, 42, 20, 
  22, 38, 15, 45, 16, 18, 17, 19, 
  23, 21, 8, 47, 48, 25, 24, 26, 
  10, 27, 28, 29, 30, 11, 9, 
  3, 4, 52, 35, 60, 14, 12, 
  5, 6, 7]
def muF : FuncId → TypeId → Bool := fun g t => t == 76 || t == 80 || (g == 13 && t == 35)

/-- a number's decimal text -/
def fmtF (args : List AV) (h : AH) : Option ((AV ⊕ AV) × AH) := match args with
  | [.int .i64 n, .int .i64 b] => if b = 10 ∧ -9223372036854775808 ≤ n ∧ n ≤ 9223372036854775807 then some (.inl (.str (Lib.itoa n)), h) else none
  | _ => none

def itoaF (args : List AV) (h : AH) : Option ((AV ⊕ AV) × AH) := match args with
  | [.int .i64 n] => if -9223372036854775808 ≤ n ∧ n ≤ 9223372036854775807 then some (.inl (.str (Lib.itoa n)), h) else none
  | _ => none

/-- what begins with a strings.Builder -/
def buildT : List TypeId := [80]
def ccF (args : List AV) (h : AH) : Option ((AV ⊕ AV) × AH) := match args with
  | [.tptr T b] => if buildT.contains T then (match h.cell b with
    | some [.nilp :: row] => some (.inl (.tup []), h.set b (some [.tptr T b :: row]))
    | some [.tptr T' b' :: row] => if T' = T ∧ b' = b then some (.inl (.tup []), h) else none
    | _ => none) else none
  | _ => none

def u8of : List (List AV) → Option (List UInt8)
  | [] => some []
  | [.int .u8 n] :: r => if 0 ≤ n ∧ n < 256 then (u8of r).map (UInt8.ofNat n.toNat :: ·) else none
  | _ => none
def bstrF (args : List AV) (h : AH) : Option ((AV ⊕ AV) × AH) := match args with
  | [.tptr _ b] => match h.cell b with
    | some [_ :: .nils :: _] => some (.inl (.str []), h)
    | some [_ :: .msl b' 0 n e :: _] => if e = 5 ∧ n ≠ 0 then (h.cell b').bind fun rs => if rs.length = n then (u8of rs).map fun l => (.inl (.str l), h.set b' none) else none else none
    | _ => none
  | _ => none

/-- a decimal text's number: it, or that there is none -/
noncomputable def pintF (args : List AV) (h : AH) : Option ((AV ⊕ AV) × AH) := match args with
  | [.str s, .int .i64 b, .int .i64 z] => if b = 10 ∧ z = 64 ∧ s.length ≤ 1000000000 then some (.inl (match Lib.parseIntB 64 s with
    | .ok n => .tup [.int .i64 n, .nili]
    | _ => .tup [.junk, .iface 112 .junk]), h) else none
  | _ => none

open Classical in
/-- what Parse comes to, where it does -/
noncomputable def parseF (args : List AV) (h : AH) : Option ((AV ⊕ AV) × AH) := match args with
  | [.str s] => if AC Tryd.prog 13 [.str s] h (.inl (.tup [.agg [lstA tE (rowsX (parseR s).1)], .agg [.int .i64 (parseR s).2.1, .int .i64 (parseR s).2.2]]), h) then some (.inl (.tup [.agg [lstA tE (rowsX (parseR s).1)], .agg [.int .i64 (parseR s).2.1, .int .i64 (parseR s).2.2]]), h) else none
  | _ => none
noncomputable def extF : FuncId → Option (List AV → AH → Option ((AV ⊕ AV) × AH)) := fun g => if g = 50 then some fmtF else if g = 66 then some itoaF else if g = 65 then some ccF else if g = 46 then some bstrF else if g = 49 then some pintF else if g = 13 then some parseF else none
noncomputable def po : Pol := stdPol Tryd.prog muF extF useList pureList
theorem ext_fmt : po.ext 50 = some fmtF := by
  show extF 50 = _
  unfold extF
  rw [if_pos rfl]
theorem ext_itoa : po.ext 66 = some itoaF := by
  show extF 66 = _
  unfold extF
  rw [if_neg (by decide), if_pos rfl]
theorem ext_cc : po.ext 65 = some ccF := by
  show extF 65 = _
  unfold extF
  rw [if_neg (by decide), if_neg (by decide), if_pos rfl]
theorem ext_bstr : po.ext 46 = some bstrF := by
  show extF 46 = _
  unfold extF
  rw [if_neg (by decide), if_neg (by decide), if_neg (by decide), if_pos rfl]
theorem ext_pint : po.ext 49 = some pintF := by
  show extF 49 = _
  unfold extF
  rw [if_neg (by decide), if_neg (by decide), if_neg (by decide), if_neg (by decide), if_pos rfl]
theorem ext_parse : po.ext 13 = some parseF := by
  show extF 13 = _
  unfold extF
  rw [if_neg (by decide), if_neg (by decide), if_neg (by decide), if_neg (by decide), if_neg (by decide), if_pos rfl]
end Go.Proofs.YtngphebjmmencaaDoor
namespace Go.Proofs.YtngphebjmmencaaDoor
set_option linter.unusedSimpArgs false
set_option linter.unusedVariables false
open Go Go.Proofs Go.Shelf
def ren : Go.Shelf.Ren := ⟨fun | 129 => 91 | 166 => 43 | 169 => 46 | 171 => 66 | 174 => 49 | 205 => 89 | 240 => 65 | 243 => 74 | 245 => 68 | 246 => 69 | 247 => 67 | 276 => 73 | 279 => 76 | 280 => 77 | 281 => 78 | 282 => 79 | 283 => 80 | 284 => 81 | 285 => 82 | 286 => 83 | 287 => 75 | 316 => 88 | 317 => 90 | 318 => 92 | 319 => 93 | 320 => 94 | 321 => 86 | 322 => 87 | 337 => 95 | 338 => 96 | n => n,
  fun | 0 => 0 | 2 => 2 | 3 => 3 | 4 => 4 | 5 => 5 | 9 => 9 | 20 => 20 | 21 => 21 | 37 => 76 | 46 => 111 | 51 => 129 | 53 => 108 | 70 => 75 | 72 => 78 | 75 => 82 | 80 => 87 | 85 => 88 | 127 => 101 | 143 => 132 | 145 => 134 | 164 => 105 | 167 => 107 | 168 => 112 | 171 => 115 | 173 => 118 | 175 => 109 | 210 => 125 | 212 => 128 | 213 => 130 | 232 => 136 | 233 => 137 | n => n,
  fun | 15 => 0 | 16 => 1 | 17 => 2 | 18 => 3 | 19 => 4 | n => n⟩
theorem lays166 : Go.Proofs.Lays.n166 Tryd.prog ren := {
  mixed := by kernel_rfl
  f166 := Tryd.func43.trans (congrArg some (by kernel_rfl))
  f240 := Tryd.func65.trans (congrArg some (by kernel_rfl))
  f276 := Tryd.func73.trans (congrArg some (by kernel_rfl))
  t0 := Tryd.underlying0
  a0 := Tryd.isAgg0
  z0 := Tryd.sizeOf0
  v0 := Tryd.zeroValue0
  t3 := Tryd.underlying3
  a3 := Tryd.isAgg3
  z3 := Tryd.sizeOf3
  v3 := Tryd.zeroValue3
  t4 := Tryd.underlying4
  a4 := Tryd.isAgg4
  z4 := Tryd.sizeOf4
  v4 := Tryd.zeroValue4
  t9 := Tryd.underlying9
  a9 := Tryd.isAgg9
  z9 := Tryd.sizeOf9
  v9 := Tryd.zeroValue9
  t20 := Tryd.underlying20
  a20 := Tryd.isAgg20
  z20 := Tryd.sizeOf20
  v20 := Tryd.zeroValue20
  t37 := Tryd.underlying76
  a37 := Tryd.isAgg76
  z37 := Tryd.sizeOf76
  v37 := Tryd.zeroValue76
  t70 := Tryd.underlying75
  a70 := Tryd.isAgg75
  z70 := Tryd.sizeOf75
  v70 := Tryd.zeroValue75
  t72 := Tryd.underlying78
  a72 := Tryd.isAgg78
  z72 := Tryd.sizeOf78
  v72 := Tryd.zeroValue78
  t75 := Tryd.underlying82
  a75 := Tryd.isAgg82
  z75 := Tryd.sizeOf82
  v75 := Tryd.zeroValue82
  t164 := Tryd.underlying105
  a164 := Tryd.isAgg105
  z164 := Tryd.sizeOf105
  v164 := Tryd.zeroValue105 }
theorem lays169 : Go.Proofs.Lays.n169 Tryd.prog ren := {
  mixed := by kernel_rfl
  f169 := Tryd.func46.trans (congrArg some (by kernel_rfl))
  t0 := Tryd.underlying0
  a0 := Tryd.isAgg0
  z0 := Tryd.sizeOf0
  v0 := Tryd.zeroValue0
  t3 := Tryd.underlying3
  a3 := Tryd.isAgg3
  z3 := Tryd.sizeOf3
  v3 := Tryd.zeroValue3
  t9 := Tryd.underlying9
  a9 := Tryd.isAgg9
  z9 := Tryd.sizeOf9
  v9 := Tryd.zeroValue9
  t37 := Tryd.underlying76
  a37 := Tryd.isAgg76
  z37 := Tryd.sizeOf76
  v37 := Tryd.zeroValue76
  t70 := Tryd.underlying75
  a70 := Tryd.isAgg75
  z70 := Tryd.sizeOf75
  v70 := Tryd.zeroValue75
  t72 := Tryd.underlying78
  a72 := Tryd.isAgg78
  z72 := Tryd.sizeOf78
  v72 := Tryd.zeroValue78
  t127 := Tryd.underlying101
  a127 := Tryd.isAgg101
  z127 := Tryd.sizeOf101
  v127 := Tryd.zeroValue101 }
theorem laysM246 : Go.Proofs.LaysM.n246 Tryd.prog ren := {
  mixed := by kernel_rfl
  f129 := Tryd.func91.trans (congrArg some (by kernel_rfl))
  f246 := Tryd.func69.trans (congrArg some (by kernel_rfl))
  f283 := Tryd.func80.trans (congrArg some (by kernel_rfl))
  f284 := Tryd.func81.trans (congrArg some (by kernel_rfl))
  f285 := Tryd.func82.trans (congrArg some (by kernel_rfl))
  f286 := Tryd.func83.trans (congrArg some (by kernel_rfl))
  f317 := Tryd.func90.trans (congrArg some (by kernel_rfl))
  f318 := Tryd.func92.trans (congrArg some (by kernel_rfl))
  f319 := Tryd.func93.trans (congrArg some (by kernel_rfl))
  f320 := Tryd.func94.trans (congrArg some (by kernel_rfl))
  f337 := Tryd.func95.trans (congrArg some (by kernel_rfl))
  f338 := Tryd.func96.trans (congrArg some (by kernel_rfl))
  t0 := Tryd.underlying0
  a0 := Tryd.isAgg0
  z0 := Tryd.sizeOf0
  v0 := Tryd.zeroValue0
  t2 := Tryd.underlying2
  a2 := Tryd.isAgg2
  z2 := Tryd.sizeOf2
  v2 := Tryd.zeroValue2
  t3 := Tryd.underlying3
  a3 := Tryd.isAgg3
  z3 := Tryd.sizeOf3
  v3 := Tryd.zeroValue3
  t4 := Tryd.underlying4
  a4 := Tryd.isAgg4
  z4 := Tryd.sizeOf4
  v4 := Tryd.zeroValue4
  t5 := Tryd.underlying5
  a5 := Tryd.isAgg5
  z5 := Tryd.sizeOf5
  v5 := Tryd.zeroValue5
  t9 := Tryd.underlying9
  a9 := Tryd.isAgg9
  z9 := Tryd.sizeOf9
  v9 := Tryd.zeroValue9
  t20 := Tryd.underlying20
  a20 := Tryd.isAgg20
  z20 := Tryd.sizeOf20
  v20 := Tryd.zeroValue20
  t37 := Tryd.underlying76
  a37 := Tryd.isAgg76
  z37 := Tryd.sizeOf76
  v37 := Tryd.zeroValue76
  t46 := Tryd.underlying111
  a46 := Tryd.isAgg111
  z46 := Tryd.sizeOf111
  v46 := Tryd.zeroValue111
  t51 := Tryd.underlying129
  a51 := Tryd.isAgg129
  z51 := Tryd.sizeOf129
  v51 := Tryd.zeroValue129
  t53 := Tryd.underlying108
  a53 := Tryd.isAgg108
  z53 := Tryd.sizeOf108
  v53 := Tryd.zeroValue108
  t171 := Tryd.underlying115
  a171 := Tryd.isAgg115
  z171 := Tryd.sizeOf115
  v171 := Tryd.zeroValue115
  t173 := Tryd.underlying118
  a173 := Tryd.isAgg118
  z173 := Tryd.sizeOf118
  v173 := Tryd.zeroValue118
  t212 := Tryd.underlying128
  a212 := Tryd.isAgg128
  z212 := Tryd.sizeOf128
  v212 := Tryd.zeroValue128
  t213 := Tryd.underlying130
  a213 := Tryd.isAgg130
  z213 := Tryd.sizeOf130
  t232 := Tryd.underlying136
  a232 := Tryd.isAgg136
  z232 := Tryd.sizeOf136
  v232 := Tryd.zeroValue136
  t233 := Tryd.underlying137
  a233 := Tryd.isAgg137
  z233 := Tryd.sizeOf137
  v233 := Tryd.zeroValue137
  g17 := by kernel_rfl
  g18 := by kernel_rfl
  g19 := by kernel_rfl
  i0 := by kernel_rfl
  i2 := by kernel_rfl
  i3 := by kernel_rfl
  i4 := by kernel_rfl
  i5 := by kernel_rfl
  i9 := by kernel_rfl
  i20 := by kernel_rfl
  i37 := by kernel_rfl
  i46 := by kernel_rfl
  i51 := by kernel_rfl
  i53 := by kernel_rfl
  i171 := by kernel_rfl
  i173 := by kernel_rfl
  i212 := by kernel_rfl
  i232 := by kernel_rfl
  i233 := by kernel_rfl
  m17 := by kernel_rfl
  m18 := by kernel_rfl
  m19 := by kernel_rfl }
theorem laysM171 : Go.Proofs.LaysM.n171 Tryd.prog ren := {
  mixed := by kernel_rfl
  f129 := Tryd.func91.trans (congrArg some (by kernel_rfl))
  f171 := Tryd.func66.trans (congrArg some (by kernel_rfl))
  f243 := Tryd.func74.trans (congrArg some (by kernel_rfl))
  f246 := Tryd.func69.trans (congrArg some (by kernel_rfl))
  f283 := Tryd.func80.trans (congrArg some (by kernel_rfl))
  f284 := Tryd.func81.trans (congrArg some (by kernel_rfl))
  f285 := Tryd.func82.trans (congrArg some (by kernel_rfl))
  f286 := Tryd.func83.trans (congrArg some (by kernel_rfl))
  f317 := Tryd.func90.trans (congrArg some (by kernel_rfl))
  f318 := Tryd.func92.trans (congrArg some (by kernel_rfl))
  f319 := Tryd.func93.trans (congrArg some (by kernel_rfl))
  f320 := Tryd.func94.trans (congrArg some (by kernel_rfl))
  f337 := Tryd.func95.trans (congrArg some (by kernel_rfl))
  f338 := Tryd.func96.trans (congrArg some (by kernel_rfl))
  t0 := Tryd.underlying0
  a0 := Tryd.isAgg0
  z0 := Tryd.sizeOf0
  v0 := Tryd.zeroValue0
  t2 := Tryd.underlying2
  a2 := Tryd.isAgg2
  z2 := Tryd.sizeOf2
  v2 := Tryd.zeroValue2
  t3 := Tryd.underlying3
  a3 := Tryd.isAgg3
  z3 := Tryd.sizeOf3
  v3 := Tryd.zeroValue3
  t4 := Tryd.underlying4
  a4 := Tryd.isAgg4
  z4 := Tryd.sizeOf4
  v4 := Tryd.zeroValue4
  t5 := Tryd.underlying5
  a5 := Tryd.isAgg5
  z5 := Tryd.sizeOf5
  v5 := Tryd.zeroValue5
  t9 := Tryd.underlying9
  a9 := Tryd.isAgg9
  z9 := Tryd.sizeOf9
  v9 := Tryd.zeroValue9
  t20 := Tryd.underlying20
  a20 := Tryd.isAgg20
  z20 := Tryd.sizeOf20
  v20 := Tryd.zeroValue20
  t37 := Tryd.underlying76
  a37 := Tryd.isAgg76
  z37 := Tryd.sizeOf76
  v37 := Tryd.zeroValue76
  t46 := Tryd.underlying111
  a46 := Tryd.isAgg111
  z46 := Tryd.sizeOf111
  v46 := Tryd.zeroValue111
  t51 := Tryd.underlying129
  a51 := Tryd.isAgg129
  z51 := Tryd.sizeOf129
  v51 := Tryd.zeroValue129
  t53 := Tryd.underlying108
  a53 := Tryd.isAgg108
  z53 := Tryd.sizeOf108
  v53 := Tryd.zeroValue108
  t171 := Tryd.underlying115
  a171 := Tryd.isAgg115
  z171 := Tryd.sizeOf115
  v171 := Tryd.zeroValue115
  t173 := Tryd.underlying118
  a173 := Tryd.isAgg118
  z173 := Tryd.sizeOf118
  v173 := Tryd.zeroValue118
  t212 := Tryd.underlying128
  a212 := Tryd.isAgg128
  z212 := Tryd.sizeOf128
  v212 := Tryd.zeroValue128
  t213 := Tryd.underlying130
  a213 := Tryd.isAgg130
  z213 := Tryd.sizeOf130
  t232 := Tryd.underlying136
  a232 := Tryd.isAgg136
  z232 := Tryd.sizeOf136
  v232 := Tryd.zeroValue136
  t233 := Tryd.underlying137
  a233 := Tryd.isAgg137
  z233 := Tryd.sizeOf137
  v233 := Tryd.zeroValue137
  g17 := by kernel_rfl
  g18 := by kernel_rfl
  g19 := by kernel_rfl
  i0 := by kernel_rfl
  i2 := by kernel_rfl
  i3 := by kernel_rfl
  i4 := by kernel_rfl
  i5 := by kernel_rfl
  i9 := by kernel_rfl
  i20 := by kernel_rfl
  i37 := by kernel_rfl
  i46 := by kernel_rfl
  i51 := by kernel_rfl
  i53 := by kernel_rfl
  i171 := by kernel_rfl
  i173 := by kernel_rfl
  i212 := by kernel_rfl
  i232 := by kernel_rfl
  i233 := by kernel_rfl
  m17 := by kernel_rfl
  m18 := by kernel_rfl
  m19 := by kernel_rfl }
theorem laysC174 : Go.Proofs.LaysC.n174 Tryd.prog ren := {
  mixed := by kernel_rfl
  f129 := Tryd.func91.trans (congrArg some (by kernel_rfl))
  f171 := Tryd.func66.trans (congrArg some (by kernel_rfl))
  f174 := Tryd.func49.trans (congrArg some (by kernel_rfl))
  f205 := Tryd.func89.trans (congrArg some (by kernel_rfl))
  f243 := Tryd.func74.trans (congrArg some (by kernel_rfl))
  f245 := Tryd.func68.trans (congrArg some (by kernel_rfl))
  f246 := Tryd.func69.trans (congrArg some (by kernel_rfl))
  f247 := Tryd.func67.trans (congrArg some (by kernel_rfl))
  f279 := Tryd.func76.trans (congrArg some (by kernel_rfl))
  f280 := Tryd.func77.trans (congrArg some (by kernel_rfl))
  f281 := Tryd.func78.trans (congrArg some (by kernel_rfl))
  f282 := Tryd.func79.trans (congrArg some (by kernel_rfl))
  f283 := Tryd.func80.trans (congrArg some (by kernel_rfl))
  f284 := Tryd.func81.trans (congrArg some (by kernel_rfl))
  f285 := Tryd.func82.trans (congrArg some (by kernel_rfl))
  f286 := Tryd.func83.trans (congrArg some (by kernel_rfl))
  f287 := Tryd.func75.trans (congrArg some (by kernel_rfl))
  f316 := Tryd.func88.trans (congrArg some (by kernel_rfl))
  f317 := Tryd.func90.trans (congrArg some (by kernel_rfl))
  f318 := Tryd.func92.trans (congrArg some (by kernel_rfl))
  f319 := Tryd.func93.trans (congrArg some (by kernel_rfl))
  f320 := Tryd.func94.trans (congrArg some (by kernel_rfl))
  f321 := Tryd.func86.trans (congrArg some (by kernel_rfl))
  f322 := Tryd.func87.trans (congrArg some (by kernel_rfl))
  f337 := Tryd.func95.trans (congrArg some (by kernel_rfl))
  f338 := Tryd.func96.trans (congrArg some (by kernel_rfl))
  t0 := Tryd.underlying0
  a0 := Tryd.isAgg0
  z0 := Tryd.sizeOf0
  v0 := Tryd.zeroValue0
  t2 := Tryd.underlying2
  a2 := Tryd.isAgg2
  z2 := Tryd.sizeOf2
  v2 := Tryd.zeroValue2
  t3 := Tryd.underlying3
  a3 := Tryd.isAgg3
  z3 := Tryd.sizeOf3
  v3 := Tryd.zeroValue3
  t4 := Tryd.underlying4
  a4 := Tryd.isAgg4
  z4 := Tryd.sizeOf4
  v4 := Tryd.zeroValue4
  t5 := Tryd.underlying5
  a5 := Tryd.isAgg5
  z5 := Tryd.sizeOf5
  v5 := Tryd.zeroValue5
  t9 := Tryd.underlying9
  a9 := Tryd.isAgg9
  z9 := Tryd.sizeOf9
  v9 := Tryd.zeroValue9
  t20 := Tryd.underlying20
  a20 := Tryd.isAgg20
  z20 := Tryd.sizeOf20
  v20 := Tryd.zeroValue20
  t21 := Tryd.underlying21
  a21 := Tryd.isAgg21
  z21 := Tryd.sizeOf21
  v21 := Tryd.zeroValue21
  t37 := Tryd.underlying76
  a37 := Tryd.isAgg76
  z37 := Tryd.sizeOf76
  v37 := Tryd.zeroValue76
  t46 := Tryd.underlying111
  a46 := Tryd.isAgg111
  z46 := Tryd.sizeOf111
  v46 := Tryd.zeroValue111
  t51 := Tryd.underlying129
  a51 := Tryd.isAgg129
  z51 := Tryd.sizeOf129
  v51 := Tryd.zeroValue129
  t53 := Tryd.underlying108
  a53 := Tryd.isAgg108
  z53 := Tryd.sizeOf108
  v53 := Tryd.zeroValue108
  t75 := Tryd.underlying82
  a75 := Tryd.isAgg82
  z75 := Tryd.sizeOf82
  v75 := Tryd.zeroValue82
  t85 := Tryd.underlying88
  a85 := Tryd.isAgg88
  z85 := Tryd.sizeOf88
  v85 := Tryd.zeroValue88
  t127 := Tryd.underlying101
  a127 := Tryd.isAgg101
  z127 := Tryd.sizeOf101
  v127 := Tryd.zeroValue101
  t143 := Tryd.underlying132
  a143 := Tryd.isAgg132
  z143 := Tryd.sizeOf132
  v143 := Tryd.zeroValue132
  t145 := Tryd.underlying134
  a145 := Tryd.isAgg134
  z145 := Tryd.sizeOf134
  v145 := Tryd.zeroValue134
  t167 := Tryd.underlying107
  a167 := Tryd.isAgg107
  z167 := Tryd.sizeOf107
  v167 := Tryd.zeroValue107
  t168 := Tryd.underlying112
  a168 := Tryd.isAgg112
  z168 := Tryd.sizeOf112
  v168 := Tryd.zeroValue112
  t171 := Tryd.underlying115
  a171 := Tryd.isAgg115
  z171 := Tryd.sizeOf115
  v171 := Tryd.zeroValue115
  t173 := Tryd.underlying118
  a173 := Tryd.isAgg118
  z173 := Tryd.sizeOf118
  v173 := Tryd.zeroValue118
  t175 := Tryd.underlying109
  a175 := Tryd.isAgg109
  z175 := Tryd.sizeOf109
  v175 := Tryd.zeroValue109
  t210 := Tryd.underlying125
  a210 := Tryd.isAgg125
  z210 := Tryd.sizeOf125
  v210 := Tryd.zeroValue125
  t212 := Tryd.underlying128
  a212 := Tryd.isAgg128
  z212 := Tryd.sizeOf128
  v212 := Tryd.zeroValue128
  t213 := Tryd.underlying130
  a213 := Tryd.isAgg130
  z213 := Tryd.sizeOf130
  t232 := Tryd.underlying136
  a232 := Tryd.isAgg136
  z232 := Tryd.sizeOf136
  v232 := Tryd.zeroValue136
  t233 := Tryd.underlying137
  a233 := Tryd.isAgg137
  z233 := Tryd.sizeOf137
  v233 := Tryd.zeroValue137
  g15 := by kernel_rfl
  g16 := by kernel_rfl
  g17 := by kernel_rfl
  g18 := by kernel_rfl
  g19 := by kernel_rfl
  t80 := Tryd.underlying87
  a80 := Tryd.isAgg87
  z80 := Tryd.sizeOf87
  v80 := Tryd.zeroValue87
  i0 := by kernel_rfl
  i2 := by kernel_rfl
  i3 := by kernel_rfl
  i4 := by kernel_rfl
  i5 := by kernel_rfl
  i9 := by kernel_rfl
  i20 := by kernel_rfl
  i21 := by kernel_rfl
  i37 := by kernel_rfl
  i46 := by kernel_rfl
  i51 := by kernel_rfl
  i53 := by kernel_rfl
  i75 := by kernel_rfl
  i80 := by kernel_rfl
  i85 := by kernel_rfl
  i127 := by kernel_rfl
  i143 := by kernel_rfl
  i145 := by kernel_rfl
  i167 := by kernel_rfl
  i168 := by kernel_rfl
  i171 := by kernel_rfl
  i173 := by kernel_rfl
  i175 := by kernel_rfl
  i210 := by kernel_rfl
  i212 := by kernel_rfl
  i232 := by kernel_rfl
  i233 := by kernel_rfl
  m15 := by kernel_rfl
  m16 := by kernel_rfl
  m17 := by kernel_rfl
  m18 := by kernel_rfl
  m19 := by kernel_rfl
  c0 := by kernel_rfl
  c2 := by kernel_rfl
  c3 := by kernel_rfl
  c4 := by kernel_rfl
  c5 := by kernel_rfl
  c9 := by kernel_rfl
  c20 := by kernel_rfl
  c21 := by kernel_rfl
  c37 := by kernel_rfl
  c46 := by kernel_rfl
  c51 := by kernel_rfl
  c53 := by kernel_rfl
  c75 := by kernel_rfl
  c80 := by kernel_rfl
  c85 := by kernel_rfl
  c127 := by kernel_rfl
  c143 := by kernel_rfl
  c145 := by kernel_rfl
  c167 := by kernel_rfl
  c168 := by kernel_rfl
  c171 := by kernel_rfl
  c173 := by kernel_rfl
  c175 := by kernel_rfl
  c210 := by kernel_rfl
  c212 := by kernel_rfl
  c213 := by kernel_rfl
  c232 := by kernel_rfl
  c233 := by kernel_rfl }
theorem extra : Builder.Extra Tryd.prog ren := {
  sizeBuilder := by kernel_rfl
  liesBuilder := by kernel_rfl
  t5 := Tryd.underlying5
  a5 := Tryd.isAgg5
  z5 := Tryd.sizeOf5
  v5 := Tryd.zeroValue5
  infoByte := by kernel_rfl
  cellsByte := by kernel_rfl
  sizeByte := by kernel_rfl
  neB5 := by decide }
end Go.Proofs.YtngphebjmmencaaDoor
namespace Go.Proofs.YtngphebjmmencaaDoor
set_option linter.unusedSimpArgs false
set_option linter.unusedVariables false
open Go Go.Proofs Go.RowKit

theorem below_growD (B : Nat) (w : World) (hB : B ≤ w.heap.size) (k : Nat) (os : Array Obj) : Below B w (Go.Sort.grow (w.drewN k) os) := by
  refine ⟨rfl, rfl, rfl, by simp [Go.Sort.grow, World.drewN], fun i hi => ?_⟩
  simp only [Go.Sort.grow, World.drewN]
  rw [Array.getElem?_append_left (by omega)]

theorem itoaC (n : Int) (h0 : -9223372036854775808 ≤ n) (h1 : n ≤ 9223372036854775807) (w : World) (htab : Lib.TabIs Tryd.prog w ("internal" ++ String.singleton (Char.ofNat 47) ++ "strconv.uint64pow10") .u64 Lib.pow10Tab) :
    Calls Tryd.prog 69 #[.int .i64 n, .int .i64 10] w fun e w' => e = .returned (.string ⟨(Lib.itoa n).toArray⟩) ∧ New w w' := by
  have := Any.internal_strconv_FormatInt_10 laysM246 n h0 h1 w htab
  refine this.mono fun e w' ⟨h1, k, os, h2⟩ => ⟨h1, ?_⟩
  subst h2
  exact New.of_below (below_growD _ _ (Nat.le_refl _) k os)

theorem fmtC (n : Int) (h0 : -9223372036854775808 ≤ n) (h1 : n ≤ 9223372036854775807) (w : World) (htab : Lib.TabIs Tryd.prog w ("internal" ++ String.singleton (Char.ofNat 47) ++ "strconv.uint64pow10") .u64 Lib.pow10Tab) :
    Calls Tryd.prog 50 #[.int .i64 n, .int .i64 10] w fun e w' => e = .returned (.string ⟨(Lib.itoa n).toArray⟩) ∧ New w w' := by
  go_enter Tryd.func50, Tryd.ntmps50
  go_wp2_with (go_at_call 69; go_must (refine (itoaC n h0 h1 _ htab).mono ?_; rintro e w' ⟨rfl, ho⟩))
  go_ret
  exact ⟨rfl, ho⟩

theorem kept_eq : keptA Tryd.prog = [("internal" ++ String.singleton (Char.ofNat 47) ++ "strconv.uint64pow10", .u64, Lib.pow10Tab)] := by
  unfold keptA
  rw [if_pos (by kernel_rfl)]
/-- a call that leaves what the model speaks of as it was, and hands back a value -/
theorem ac_new {P : Program} {g : FuncId} {args : List AV} {h : AH} {v : AV} (k : ∀ (m : Mm) (w : World) (vs : List Value), WR P m h w → VRs P m h args vs → ∃ u, VR P m h v u ∧ Calls P g vs.toArray w fun e w' => e = .returned u ∧ New w w') : AC P g args h (.inl v, h) := by
  intro m w vs hw hv
  obtain ⟨u, hu, hc⟩ := k m w vs hw hv
  refine hc.mono fun e w' ⟨he, ho⟩ => ⟨m, Ext.refl m h, hw.new ho, Only.below ho (fun _ h => h.elim) hw.size, u, he, hu⟩

theorem vrs_two {P : Program} {m : Mm} {h : AH} {a b : AV} {vs : List Value} (hv : VRs P m h [a, b] vs) : ∃ u v, vs = [u, v] ∧ VR P m h a u ∧ VR P m h b v := by
  obtain ⟨h1, h2⟩ := hv
  match vs, h1 with
  | [u, v], _ => exact ⟨u, v, rfl, h2 0 (by simp) (by simp), h2 1 (by simp) (by simp)⟩

set_option maxRecDepth 100000 in
theorem fmt_ac {args : List AV} {h : AH} {r : (AV ⊕ AV) × AH} (hr : fmtF args h = some r) : AC Tryd.prog 50 args h r := by
  unfold fmtF at hr
  split at hr
  · rename_i n b
    split at hr
    · rename_i hh
      obtain ⟨hb, h0, h1⟩ := hh
      subst hb
      injection hr with hr
      subst hr
      refine ac_new fun m w vs hw hv => ?_
      obtain ⟨u, v, rfl, hu, hz⟩ := vrs_two hv
      cases hu
      cases hz
      refine ⟨_, .str _, fmtC n h0 h1 w ?_⟩
      exact (hw.good.tabs _ (by rw [kept_eq]; exact List.mem_singleton.2 rfl)).1
    · cases hr
  · cases hr

end Go.Proofs.YtngphebjmmencaaDoor
namespace Go.Proofs.YtngphebjmmencaaDoor
set_option linter.unusedSimpArgs false
set_option linter.unusedVariables false
open Go Go.Proofs Go.RowKit Go.Shelf

section
variable {P : Program} {ρ : Ren}

theorem lies_more {e u : TypeId} {c : Nat} (hd : P.depth ≠ 0) (hc : 1 ≤ c) (h : rowAt P (sameLayout P P.depth · u) P.depth e 1 0 1 = true) : liesAt P P.depth e c 0 u 1 = true := by
  have key : rowAt P (sameLayout P P.depth · u) P.depth e c 0 1 = true := by
    revert h
    generalize sameLayout P P.depth = f
    obtain ⟨d, hd⟩ := Nat.exists_eq_succ_of_ne_zero hd
    rw [hd]
    intro h
    unfold rowAt at h ⊢
    simp only at h ⊢
    by_cases hs : P.cellsOf e = 0
    · rw [if_pos hs] at h
      cases h
    · rw [if_neg hs] at h ⊢
      simp only [Nat.zero_div, Nat.zero_mod] at h ⊢
      have h1 : decide (0 + 1 ≤ c) = true := decide_eq_true (by omega)
      have h2 : decide (0 < c) = true := decide_eq_true (by omega)
      have h3 : decide (0 + 1 ≤ 1) = true := by decide
      have h4 : decide (0 < 1) = true := by decide
      rw [h3, h4] at h
      rw [h1, h2]
      exact h
  obtain ⟨d, hd⟩ := Nat.exists_eq_succ_of_ne_zero hd
  rw [hd]
  unfold liesAt
  rw [hd] at key
  rw [hd, key]
  rfl

set_option maxHeartbeats 1000000 in
set_option maxRecDepth 100000 in
/-- copyCheck at a fresh builder at the beginning of a block: it stores its own address. -/
theorem cc_fresh (L : Lays.n240 P ρ) (X : Builder.X72 P ρ) (T : TypeId) (n b : Nat) (w : World) (h0 : w.cell? ⟨b, 0, none⟩ = some (.pointer none)) (hsh : w.shape? b = some (T, n)) (hn : 0 < n) (hlies : liesAt P P.depth T (n / P.cellsOf T) 0 (ρ.t 72) 1 = true) (hfz : w.frozen? ⟨b, 0, none⟩ = false) :
    Calls P (ρ.f 240) #[.pointer (some ⟨b, 0, none⟩)] w fun e w' => e = .returned (.tuple #[]) ∧ w' = w.setCell ⟨b, 0, none⟩ (.pointer (some ⟨b, 0, none⟩)) := by
  obtain ⟨j, hj, hjs⟩ := Option.map_eq_some_iff.1 X.sizeBuilder
  have mixed := L.mixed
  have t72 := L.t72; have a72 := L.a72; have z72 := L.z72; have v72 := L.v72; have u72 := run_underlying L.t72
  have t70 := L.t70; have a70 := L.a70; have z70 := L.z70; have v70 := L.v70; have u70 := run_underlying L.t70
  have t9 := L.t9; have a9 := L.a9; have z9 := L.z9; have v9 := L.v9; have u9 := run_underlying L.t9
  have t4 := L.t4; have a4 := L.a4; have z4 := L.z4; have v4 := L.v4; have u4 := run_underlying L.t4
  have t164 := L.t164; have a164 := L.a164; have z164 := L.z164; have v164 := L.v164; have u164 := run_underlying L.t164
  go_enter L.f240, Body.n240_ntmps ρ
  go_wp2
  rw [Lib.run_to_unsafe w ⟨b, 0, none⟩ L.t70 L.t164 hj (by rw [hjs]; decide) hsh hn]
  simp only [Result.andThen]
  rw [Oper.upon_value]
  go_wp2
  rw [run_callFunc_extern L.f276 (by kernel_rfl) (by kernel_rfl) (by kernel_rfl) (e := Extern.AbiNoEscape.same) (by kernel_rfl)]
  rw [Lib.run_noEscape]
  simp only [Result.andThen]
  rw [Oper.upon_value]
  go_wp2
  rw [Lib.run_from_unsafe w ⟨b, 0, none⟩ L.t164 L.t70 hj hsh hlies]
  simp only [Result.andThen]
  rw [Oper.upon_value]
  go_wp2
  go_end0
  exact ⟨rfl, rfl⟩

theorem only_freeze (w : World) (g n : Nat) : Only (fun k => k = g) w (w.drew.freeze ⟨g, 0, none⟩ n) := by
  unfold World.freeze
  split
  · exact (Only.refl _ w).drew
  · exact ⟨rfl, rfl, rfl, by simp, fun k hk hn => by
      simp only [Array.getElem?_modify]
      rw [if_neg (fun e => hn e.symm)]
      rfl⟩

set_option maxHeartbeats 1000000 in
set_option maxRecDepth 100000 in
/-- String of a builder that holds a byte: its buffer's head freezes. -/
theorem str_some (L : Lays.n169 P ρ) (X : Builder.Extra P ρ) (b g cap : Nat) (cur : Array Value) (l : List UInt8) (w : World) (h0 : l ≠ []) (hc : w.cell? ⟨b, 1, none⟩ = some (.slice (some ⟨g, 0, none⟩) l.length cap)) (hg : w.heap[g]? = some (.cells cur (ρ.t 5) (0, 0)))
    (hnc : l.length ≤ cap) (hcm : cap ≤ maxLen) (hcs : cur.size = cap) (htake : ∀ (j : Nat) (x : UInt8), l[j]? = some x → cur[j]? = some (Value.int .u8 x.toNat)) :
    Calls P (ρ.f 169) #[.pointer (some ⟨b, 0, none⟩)] w fun e w' => e = .returned (.string ⟨l.toArray⟩) ∧ Only (fun k => k = g) w w' := by
  have hl0 : l.length ≠ 0 := by simpa using h0
  have c1 : w.drew.cell? ⟨b, 1, none⟩ = some (.slice (some ⟨g, 0, none⟩) l.length cap) := hc
  have hSD : (Builtin.unsafeSliceData_ #[(ρ.t 37)] (ρ.t 127) #[.slice (some ⟨g, 0, none⟩) l.length cap]).run P w.drew = .ok (.pointer (some ⟨g, 0, none⟩)) w.drew :=
    Lib.run_unsafeSliceData_row _ _ _ _ _ _ (by omega)
  have hUS : (Builtin.unsafeString_ #[(ρ.t 127), (ρ.t 3)] (ρ.t 9) #[.pointer (some ⟨g, 0, none⟩), .int .i64 l.length]).run P w.drew = .ok (.string ⟨l.toArray⟩) (w.drew.freeze ⟨g, 0, none⟩ l.length) := by
    refine Lib.run_unsafeString_row w.drew (ρ.t 127) (ρ.t 3) (ρ.t 9) (ρ.t 5) L.t127 X.cellsByte g cur.size (by have hg' : w.drew.heap[g]? = some (.cells cur (ρ.t 5) (0, 0)) := hg; simp [World.shape?, hg']) l h0 (by omega) (by unfold maxLen at hcm; omega) ?_
    intro j x hx
    have hg' : w.drew.heap[g]? = some (.cells cur (ρ.t 5) (0, 0)) := hg
    rw [Addr.add_lit, Nat.zero_add]
    exact (cell_of_row w.drew g j cur _ (0, 0) hg').trans (htake j x hx)
  have ho := only_freeze w g l.length
  have mixed := L.mixed
  have t72 := L.t72; have a72 := L.a72; have z72 := L.z72; have v72 := L.v72; have u72 := run_underlying L.t72
  have t70 := L.t70; have a70 := L.a70; have z70 := L.z70; have v70 := L.v70; have u70 := run_underlying L.t70
  have t37 := L.t37; have a37 := L.a37; have z37 := L.z37; have v37 := L.v37; have u37 := run_underlying L.t37
  have t127 := L.t127; have a127 := L.a127; have z127 := L.z127; have v127 := L.v127; have u127 := run_underlying L.t127
  have t3 := L.t3; have a3 := L.a3; have z3 := L.z3; have v3 := L.v3; have u3 := run_underlying L.t3
  have t9 := L.t9; have a9 := L.a9; have z9 := L.z9; have v9 := L.v9; have u9 := run_underlying L.t9
  have t5 := X.t5; have a5 := X.a5; have z5 := X.z5; have v5 := X.v5; have u5 := run_underlying X.t5
  go_enter L.f169, Body.n169_ntmps ρ
  go_wp2
  go_region_o
  all_goals (go_wp2; go_ret; exact ⟨rfl, ho⟩)

set_option maxHeartbeats 1000000 in
set_option maxRecDepth 100000 in
theorem str_nil (L : Lays.n169 P ρ) (X : Builder.Extra P ρ) (b : Nat) (w : World) (hc : w.cell? ⟨b, 1, none⟩ = some (.slice none 0 0)) :
    Calls P (ρ.f 169) #[.pointer (some ⟨b, 0, none⟩)] w fun e w' => e = .returned (.string ⟨#[]⟩) ∧ New w w' := by
  have hUS := Any.unsafeString_none L X
  have c1 : w.drew.cell? ⟨b, 1, none⟩ = some (.slice none 0 0) := hc
  have hSD : (Builtin.unsafeSliceData_ #[(ρ.t 37)] (ρ.t 127) #[.slice none 0 0]).run P w.drew = .ok (.pointer none) w.drew := rfl
  have ho : New w w.drew := (Only.refl _ w).drew
  have mixed := L.mixed
  have t72 := L.t72; have a72 := L.a72; have z72 := L.z72; have v72 := L.v72; have u72 := run_underlying L.t72
  have t70 := L.t70; have a70 := L.a70; have z70 := L.z70; have v70 := L.v70; have u70 := run_underlying L.t70
  have t37 := L.t37; have a37 := L.a37; have z37 := L.z37; have v37 := L.v37; have u37 := run_underlying L.t37
  have t127 := L.t127; have a127 := L.a127; have z127 := L.z127; have v127 := L.v127; have u127 := run_underlying L.t127
  have t3 := L.t3; have a3 := L.a3; have z3 := L.z3; have v3 := L.v3; have u3 := run_underlying L.t3
  have t9 := L.t9; have a9 := L.a9; have z9 := L.z9; have v9 := L.v9; have u9 := run_underlying L.t9
  have t5 := X.t5; have a5 := X.a5; have z5 := X.z5; have v5 := X.v5; have u5 := run_underlying X.t5
  go_enter L.f169, Body.n169_ntmps ρ
  go_wp2
  go_region_o
  all_goals (go_wp2; go_ret; exact ⟨rfl, ho⟩)
end
end Go.Proofs.YtngphebjmmencaaDoor
namespace Go.Proofs.YtngphebjmmencaaDoor
set_option linter.unusedSimpArgs false
set_option linter.unusedVariables false
open Go Go.Proofs Go.RowKit

theorem vrs_one {P : Program} {m : Mm} {h : AH} {a : AV} {vs : List Value} (hv : VRs P m h [a] vs) : ∃ u, vs = [u] ∧ VR P m h a u := by
  obtain ⟨h1, h2⟩ := hv
  match vs, h1 with
  | [u], _ => exact ⟨u, rfl, h2 0 (by simp) (by simp)⟩
theorem itoaC2 (n : Int) (h0 : -9223372036854775808 ≤ n) (h1 : n ≤ 9223372036854775807) (w : World) (htab : Lib.TabIs Tryd.prog w ("internal" ++ String.singleton (Char.ofNat 47) ++ "strconv.uint64pow10") .u64 Lib.pow10Tab) :
    Calls Tryd.prog 66 #[.int .i64 n] w fun e w' => e = .returned (.string ⟨(Lib.itoa n).toArray⟩) ∧ New w w' := by
  have := Any.strconv_Itoa laysM171 n h0 h1 w htab
  refine this.mono fun e w' ⟨h1, k, os, h2⟩ => ⟨h1, ?_⟩
  subst h2
  exact New.of_below (below_growD _ _ (Nat.le_refl _) k os)
theorem itoa_ac {args : List AV} {h : AH} {r : (AV ⊕ AV) × AH} (hr : itoaF args h = some r) : AC Tryd.prog 66 args h r := by
  unfold itoaF at hr
  split at hr
  · rename_i n
    split at hr
    · rename_i hh
      obtain ⟨h0, h1⟩ := hh
      injection hr with hr
      subst hr
      refine ac_new fun m w vs hw hv => ?_
      obtain ⟨u, rfl, hu⟩ := vrs_one hv
      cases hu
      refine ⟨_, .str _, itoaC2 n h0 h1 w ?_⟩
      exact (hw.good.tabs _ (by rw [kept_eq]; exact List.mem_singleton.2 rfl)).1
    · cases hr
  · cases hr

section
variable {P : Program} {m : Mm} {h : AH} {w w' : World}
/-- a block's first cell is set -/
theorem WR.first (hw : WR P m h w) {b : Nat} {a a' : AV} {row : List AV} (hb : h.cell b = some [a :: row]) {v : Value} (hv : VR P m h a' v) (h1 : v.oneCell' = true) :
    Ext m h m (h.set b (some [a' :: row])) ∧ WR P m (h.set b (some [a' :: row])) (w.setCell ⟨m.blk b, 0, none⟩ v) := by
  obtain ⟨cs, c1, c2, c3, c4, c5⟩ := hw.live b _ hb
  have hl : (a :: row).length = P.cellsOf (m.bt b) := c3 _ (by simp)
  have hS : 0 < cs.size := by
    simp only [List.length_cons, List.length_nil] at c4 hl
    omega
  refine hw.turn hb (w' := w.setCell ⟨m.blk b, 0, none⟩ v) ((Only.refl (fun k => k = m.blk b) w).setCell (p := ⟨m.blk b, 0, none⟩) (.inl rfl) v) (cs.setIfInBounds 0 v) (c1.set_ 0 v) (by simp [c2]) (by simpa using hl) (by simpa using c4) (fun i hi j hj => ?_)
  have hi0 : i = 0 := by simpa using hi
  subst hi0
  cases j with
  | zero => exact ⟨v, by simp [hS], hv⟩
  | succ j =>
    obtain ⟨u, u1, u2⟩ := c5 0 (by simp) (j + 1) (by simpa using hj)
    refine ⟨u, ?_, u2⟩
    rw [Array.getElem?_setIfInBounds_ne (by omega)]
    exact u1
/-- a block is spoken of no more -/
theorem WR.drop (hw : WR P m h w) {b : Nat} {es : List (List AV)} (hb : h.cell b = some es) (ho : Only (fun k => k = m.blk b) w w') : Ext m h m (h.set b none) ∧ WR P m (h.set b none) w' := by
  have hx : Ext m h m (h.set b none) := ⟨rfl, Nat.le_refl _, Nat.le_refl _, fun _ _ => ⟨rfl, rfl, rfl⟩, fun _ _ _ h => h, fun _ _ => ⟨rfl, Nat.le_refl _, fun _ => ⟨rfl, rfl⟩⟩⟩
  refine ⟨hx, ?_⟩
  have up : ∀ q x, (h.set b none).cell q = some x → q ≠ b ∧ h.cell q = some x := by
    intro q x hq
    by_cases e : q = b
    · subst e
      simp [AH.set] at hq
    · exact ⟨e, by simpa [AH.set, e] using hq⟩
  have hw0 : WR P m (h.set b none) w := by
    refine ⟨hw.size, fun q x hq => hw.lt q x (up q x hq).2, fun q x hq => ?_, fun q q' x x' hq hq' => hw.inj q q' x x' (up q x hq).2 (up q' x' hq').2, hw.imm, fun q x hq => hw.sep q x (up q x hq).2, hw.tip, hw.tfree, fun k hk q x hq => hw.tblk k hk q x (up q x hq).2, hw.tinj, hw.good⟩
    obtain ⟨cs, c1, c2, c3, c4, c5⟩ := hw.live q x (up q x hq).2
    refine ⟨cs, c1, c2, c3, c4, fun i hi j hj => ?_⟩
    obtain ⟨v, v1, v2⟩ := c5 i hi j hj
    exact ⟨v, v1, v2.ext hx⟩
  refine hw0.only ho (fun q x hq e => (up q x hq).1 (hw.inj _ _ _ _ (up q x hq).2 hb e)) (fun g o v hi e => ?_) (fun k hk e => hw.tblk k hk b es hb e.symm) (fun g hg e => ?_)
  · subst e
    rw [hw.sep b es hb o] at hi
    cases hi
  · have := (hw.lt b es hb).2
    omega
end

theorem buildT_ok : buildT.all (fun T => rowAt Tryd.prog (sameLayout Tryd.prog (Tryd.prog).depth · (ren.t 72)) (Tryd.prog).depth T 1 0 1) = true := by kernel_rfl
theorem depth_ne : (Tryd.prog).depth ≠ 0 := by
  intro e
  have : ((Tryd.prog).depth == 0) = false := by kernel_rfl
  rw [e] at this
  cases this
theorem lays240 : Go.Proofs.Lays.n240 Tryd.prog ren := { lays166 with }

set_option maxRecDepth 100000 in
theorem cc_ac {args : List AV} {h : AH} {r : (AV ⊕ AV) × AH} (hr : ccF args h = some r) : AC Tryd.prog 65 args h r := by
  unfold ccF at hr
  split at hr
  · rename_i T b
    split at hr
    · rename_i hT
      split at hr
      · rename_i row hc
        injection hr with hr
        subst hr
        intro m w vs hw hv
        obtain ⟨u, rfl, hu⟩ := vrs_one hv
        cases hu with
        | tptr _ _ hb hbt =>
          subst hbt
          obtain ⟨cs, c1, c2, c3, c4, c5⟩ := hw.live b _ hc
          have hl := c3 (.nilp :: row) (by simp)
          obtain ⟨v, v1, v2⟩ := c5 0 (by simp) 0 (by simp)
          simp only [Nat.zero_mul, Nat.zero_add] at v1
          simp only [List.getElem_cons_zero] at v2
          cases v2
          simp only [List.length_cons, List.length_nil, Nat.zero_add, Nat.one_mul] at c4 hl
          have hpos : 0 < (Tryd.prog).cellsOf (m.bt b) := by omega
          have h0 : w.cell? ⟨m.blk b, 0, none⟩ = some (.pointer none) := by rw [c1.cell]; exact v1
          have hsh : w.shape? (m.blk b) = some (m.bt b, cs.size) := by
            have c1' : w.heap[m.blk b]? = some (.cells cs (m.bt b) (0, 0)) := c1
            simp [World.shape?, c1']
          have hlies : liesAt Tryd.prog (Tryd.prog).depth (m.bt b) (cs.size / (Tryd.prog).cellsOf (m.bt b)) 0 (ren.t 72) 1 = true := by
            refine lies_more depth_ne ((Nat.le_div_iff_mul_le hpos).2 (by omega)) ?_
            exact List.all_eq_true.1 buildT_ok (m.bt b) (List.contains_iff_mem.1 hT)
          refine (cc_fresh lays240 extra.toX72 (m.bt b) cs.size (m.blk b) w h0 hsh (by omega) hlies (c1.frozen 0)).mono fun e w' ⟨he, hw'⟩ => ?_
          subst hw'
          obtain ⟨x1, x2⟩ := hw.first hc (VR.tptr (m.bt b) b hb rfl) rfl
          have hbl : m.base ≤ m.blk b := (hw.lt b _ hc).2
          exact ⟨m, x1, x2, (Below.refl _ w).setCell (p := ⟨m.blk b, 0, none⟩) hbl _, _, he, .tup [] [] rfl (fun j hj => by simp at hj)⟩
      · rename_i T' b' row hc
        split at hr
        · rename_i hh
          obtain ⟨rfl, rfl⟩ := hh
          injection hr with hr
          subst hr
          refine ac_new fun m w vs hw hv => ?_
          obtain ⟨u, rfl, hu⟩ := vrs_one hv
          cases hu with
          | tptr _ _ hb hbt =>
            obtain ⟨cs, c1, c2, c3, c4, c5⟩ := hw.live b' _ hc
            obtain ⟨v, v1, v2⟩ := c5 0 (by simp) 0 (by simp)
            simp only [Nat.zero_mul, Nat.zero_add] at v1
            simp only [List.getElem_cons_zero] at v2
            cases v2
            have h0 : w.cell? ⟨m.blk b', 0, none⟩ = some (.pointer (some ⟨m.blk b', 0, none⟩)) := by rw [c1.cell]; exact v1
            exact ⟨_, .tup [] [] rfl (fun j hj => by simp at hj), (Any.Builder_copyCheck_used lays240 extra.toX72 (m.blk b') w h0).mono fun e w' ⟨he, hw'⟩ => ⟨he, by rw [hw']; exact Only.refl _ _⟩⟩
        · cases hr
      · cases hr
    · cases hr
  · cases hr

theorem u8of_some : ∀ {rs : List (List AV)} {l : List UInt8}, u8of rs = some l → rs = bytesA l
  | [], l, h => by
    injection h with h
    rw [← h]
    rfl
  | [.int .u8 n] :: r, l, h => by
    simp only [u8of] at h
    split at h
    · rename_i hn
      obtain ⟨q, hq, rfl⟩ := Option.map_eq_some_iff.1 h
      rw [u8of_some hq]
      have : ((UInt8.ofNat n.toNat).toNat : Int) = n := by
        rw [UInt8.toNat_ofNat']
        omega
      simp only [bytesA, List.map_cons, this]
    · cases h
theorem u8of_bytes : ∀ l : List UInt8, u8of (bytesA l) = some l
  | [] => rfl
  | c :: l => by
    have h1 : (0 : Int) ≤ (c.toNat : Int) ∧ (c.toNat : Int) < 256 := by
      have := c.toNat_lt
      omega
    simp only [bytesA, List.map_cons, u8of]
    rw [if_pos h1]
    have := u8of_bytes l
    simp only [bytesA] at this
    rw [this]
    simp

set_option maxRecDepth 100000 in
theorem bstr_ac {args : List AV} {h : AH} {r : (AV ⊕ AV) × AH} (hr : bstrF args h = some r) : AC Tryd.prog 46 args h r := by
  unfold bstrF at hr
  split at hr
  · rename_i T b
    split at hr
    · rename_i a0 row hc
      injection hr with hr
      subst hr
      refine ac_new fun m w vs hw hv => ?_
      obtain ⟨u, rfl, hu⟩ := vrs_one hv
      cases hu with
      | tptr _ _ hb hbt =>
        obtain ⟨cs, c1, c2, c3, c4, c5⟩ := hw.live b _ hc
        obtain ⟨v, v1, v2⟩ := c5 0 (by simp) 1 (by simp)
        simp only [Nat.zero_mul, Nat.zero_add] at v1
        simp only [List.getElem_cons_succ, List.getElem_cons_zero] at v2
        cases v2
        exact ⟨_, .str [], str_nil lays169 extra (m.blk b) w (by rw [c1.cell]; exact v1)⟩
    · rename_i a0 b' n e row hc
      split at hr
      · rename_i hh
        obtain ⟨rfl, hn0⟩ := hh
        obtain ⟨rs, hrs, hr⟩ := Option.bind_eq_some_iff.1 hr
        split at hr
        · rename_i hlen
          obtain ⟨l, hl, hr⟩ := Option.map_eq_some_iff.1 hr
          subst hr
          obtain rfl := u8of_some hl
          intro m w vs hw hv
          obtain ⟨u, rfl, hu⟩ := vrs_one hv
          cases hu with
          | tptr _ _ hb hbt =>
            obtain ⟨cs, c1, c2, c3, c4, c5⟩ := hw.live b _ hc
            obtain ⟨v, v1, v2⟩ := c5 0 (by simp) 1 (by simp)
            simp only [Nat.zero_mul, Nat.zero_add] at v1
            simp only [List.getElem_cons_succ, List.getElem_cons_zero] at v2
            cases v2 with
            | msl _ _ _ _ cap hb' he' hcap hnc hmx =>
              obtain ⟨ds, d1, d2, d3, d4, d5⟩ := hw.live b' _ hrs
              have hcb : (Tryd.prog).cellsOf 5 = 1 := extra.cellsByte
              rw [he', hcb] at d3 d4 d5
              rw [he'] at d1
              rw [hcb, Nat.zero_add, Nat.mul_one] at hcap
              have hll : l.length = n := by simpa using hlen
              have h0 : w.cell? ⟨m.blk b, 1, none⟩ = some (.slice (some ⟨m.blk b', 0, none⟩) l.length cap) := by
                rw [c1.cell, v1, hll]
                simp
              refine (str_some lays169 extra (m.blk b) (m.blk b') cap ds l w (fun e => hn0 (by rw [← hll, e]; rfl)) h0 d1 (by omega) hmx (by omega) (fun j x hj => ?_)).mono fun e w' ⟨he, ho⟩ => ?_
              · obtain ⟨hj', rfl⟩ := List.getElem?_eq_some_iff.1 hj
                obtain ⟨u, u1, u2⟩ := d5 j (by simpa using hj') 0 (by simp)
                have er : (bytesA l)[j]'(by simpa using hj') = [.int .u8 l[j].toNat] := by simp [bytesA]
                simp only [er, List.getElem_cons_zero] at u2
                cases u2
                simpa using u1
              · obtain ⟨x1, x2⟩ := hw.drop hrs ho
                have hbl : m.base ≤ m.blk b' := (hw.lt b' _ hrs).2
                exact ⟨m, x1, x2, Only.below ho (fun k hk => by rw [hk]; exact hbl) hw.size, _, he, .str l⟩
        · cases hr
      · cases hr
    · cases hr
  · cases hr
end Go.Proofs.YtngphebjmmencaaDoor
namespace Go.Proofs.YtngphebjmmencaaDoor
set_option linter.unusedSimpArgs false
set_option linter.unusedVariables false
open Go Go.Proofs Go.RowKit

theorem errs_eq : errsA Tryd.prog = ["strconv.ErrSyntax", "strconv.ErrRange"] := by kernel_rfl
theorem num_error : ren.t 168 = 112 := rfl
/-- a call that leaves what the model speaks of as it was, and hands back some value -/
theorem ac_some {P : Program} {g : FuncId} {args : List AV} {h : AH} {v : AV} (k : ∀ (m : Mm) (w : World) (vs : List Value), WR P m h w → VRs P m h args vs → Calls P g vs.toArray w fun e w' => ∃ u, e = .returned u ∧ VR P m h v u ∧ New w w') : AC P g args h (.inl v, h) := by
  intro m w vs hw hv
  refine (k m w vs hw hv).mono fun e w' ⟨u, he, hu, ho⟩ => ⟨m, Ext.refl m h, hw.new ho, Only.below ho (fun _ h => h.elim) hw.size, u, he, hu⟩
theorem vrs_three {P : Program} {m : Mm} {h : AH} {a b c : AV} {vs : List Value} (hv : VRs P m h [a, b, c] vs) : ∃ u v x, vs = [u, v, x] ∧ VR P m h a u ∧ VR P m h b v ∧ VR P m h c x := by
  obtain ⟨h1, h2⟩ := hv
  match vs, h1 with
  | [u, v, x], _ => exact ⟨u, v, x, rfl, h2 0 (by simp) (by simp), h2 1 (by simp) (by simp), h2 2 (by simp) (by simp)⟩
theorem vr_pair {P : Program} {m : Mm} {h : AH} {a b : AV} {u v : Value} (h1 : VR P m h a u) (h2 : VR P m h b v) : VR P m h (.tup [a, b]) (.tuple #[u, v]) := by
  refine VR.tup [a, b] [u, v] rfl fun j hj hj' => ?_
  match j, hj with
  | 0, _ => exact h1
  | 1, _ => exact h2
theorem pintOK (s : ByteArray) (hs : s.size ≤ 1000000000) (w : World) (n : Int) (hp : Lib.parseIntB 64 s.data.toList = .ok n) :
    Calls Tryd.prog 49 #[.string s, .int .i64 10, .int .i64 64] w fun e w' => e = .returned (.tuple #[.int .i64 n, .nilIface]) ∧ New w w' := by
  refine (Any.strconv_ParseInt_10_at64_ok laysC174 s (by omega) n hp w).mono fun e w' ⟨he, hw⟩ => ⟨he, ?_⟩
  rcases hw with rfl | ⟨t, rfl⟩
  · exact Only.refl _ _
  · exact New.of_below (Lib.bytesWorld_below _ _ _)
theorem pintNo (s : ByteArray) (hs : s.size ≤ 1000000000) (w : World) (he1 : ∃ tp p, w.var? Tryd.prog "strconv.ErrSyntax" = some #[.iface tp p]) (he2 : ∃ tp p, w.var? Tryd.prog "strconv.ErrRange" = some #[.iface tp p]) (hp : ∀ n, Lib.parseIntB 64 s.data.toList ≠ .ok n) :
    Calls Tryd.prog 49 #[.string s, .int .i64 10, .int .i64 64] w fun e w' => ∃ u v, e = .returned (.tuple #[u, .iface 112 v]) ∧ New w w' := by
  obtain ⟨t1, p1, e1⟩ := he1
  obtain ⟨t2, p2, e2⟩ := he2
  rcases hq : Lib.parseIntB 64 s.data.toList with n | _ | _
  · exact absurd hq (hp n)
  · refine (Any.strconv_ParseInt_10_at64_syntax_var laysC174 s (by omega) hq t1 p1 w e1).mono fun e w' ⟨N, he, _, _, hb⟩ => ?_
    exact ⟨_, _, he, New.of_below hb⟩
  · refine (Any.strconv_ParseInt_10_at64_range_var laysC174 s (by omega) hq t2 p2 w e2).mono fun e w' ⟨N, he, _, _, hb⟩ => ?_
    exact ⟨_, _, he, New.of_below hb⟩

set_option maxRecDepth 100000 in
theorem pint_ac {args : List AV} {h : AH} {r : (AV ⊕ AV) × AH} (hr : pintF args h = some r) : AC Tryd.prog 49 args h r := by
  unfold pintF at hr
  split at hr
  · rename_i s b z
    split at hr
    · rename_i hh
      obtain ⟨rfl, rfl, hl⟩ := hh
      injection hr with hr
      subst hr
      refine ac_some fun m w vs hw hv => ?_
      obtain ⟨u, v, x, rfl, hu, hb, hz⟩ := vrs_three hv
      have hg := hw.good.errs
      rw [errs_eq] at hg
      have g1 := (hg "strconv.ErrSyntax" (by simp)).1
      have g2 := (hg "strconv.ErrRange" (by simp)).1
      cases hu
      cases hb
      cases hz
      have hsz : (ByteArray.mk s.toArray).size ≤ 1000000000 := by
        show s.toArray.size ≤ _
        simpa using hl
      rcases hq : Lib.parseIntB 64 s with n | _ | _
      · refine (pintOK ⟨s.toArray⟩ hsz w n (by simpa using hq)).mono fun e w' ⟨he, ho⟩ => ⟨_, he, vr_pair (.int _ _) .nili, ho⟩
      · refine (pintNo ⟨s.toArray⟩ hsz w g1 g2 (by intro n hn; simp [hq] at hn)).mono fun e w' ⟨u, v, he, ho⟩ => ⟨_, he, vr_pair (.junk _) (.iface _ _ _ (.junk _)), ho⟩
      · refine (pintNo ⟨s.toArray⟩ hsz w g1 g2 (by intro n hn; simp [hq] at hn)).mono fun e w' ⟨u, v, he, ho⟩ => ⟨_, he, vr_pair (.junk _) (.iface _ _ _ (.junk _)), ho⟩
    · cases hr
  · cases hr
end Go.Proofs.YtngphebjmmencaaDoor
namespace Go.Proofs.YtngphebjmmencaaDoor
set_option linter.unusedSimpArgs false
set_option linter.unusedVariables false
open Go
theorem pok : POK Tryd.prog po := pok_of (tyOK_of (by kernel_rfl)) (by kernel_rfl) (by kernel_rfl) (fun g F h => by
  unfold extF at h
  split at h
  · rename_i e
    subst e
    injection h with h
    subst h
    refine ⟨_, Tryd.func50, ⟨by kernel_rfl, by kernel_rfl⟩, fun args h r hr => ?_⟩
    exact fmt_ac hr
  split at h
  · rename_i e
    subst e
    injection h with h
    subst h
    refine ⟨_, Tryd.func66, ⟨by kernel_rfl, by kernel_rfl⟩, fun args h r hr => ?_⟩
    exact itoa_ac hr
  split at h
  · rename_i e
    subst e
    injection h with h
    subst h
    refine ⟨_, Tryd.func65, ⟨by kernel_rfl, by kernel_rfl⟩, fun args h r hr => ?_⟩
    exact cc_ac hr
  split at h
  · rename_i e
    subst e
    injection h with h
    subst h
    refine ⟨_, Tryd.func46, ⟨by kernel_rfl, by kernel_rfl⟩, fun args h r hr => ?_⟩
    exact bstr_ac hr
  split at h
  · rename_i e
    subst e
    injection h with h
    subst h
    refine ⟨_, Tryd.func49, ⟨by kernel_rfl, by kernel_rfl⟩, fun args h r hr => ?_⟩
    exact pint_ac hr
  split at h
  · rename_i e
    subst e
    injection h with h
    subst h
    refine ⟨_, Tryd.func13, ⟨by kernel_rfl, by kernel_rfl⟩, fun args h r hr => ?_⟩
    unfold parseF at hr
    split at hr
    · split at hr
      · rename_i H
        injection hr with hr
        rw [← hr]
        exact H
      · cases hr
    · cases hr
  cases h)
end Go.Proofs.YtngphebjmmencaaDoor
