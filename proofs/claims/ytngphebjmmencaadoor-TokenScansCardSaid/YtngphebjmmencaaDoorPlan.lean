/- Orders for statements whose order is open, which slots are variables: computed. And what must hold of a program, checked. -/
import Derived.Test.YtngphebjmmencaaDoorRc4
namespace Go.Proofs.YtngphebjmmencaaDoor
set_option linter.unusedSimpArgs false
set_option linter.unusedVariables false
open Go

/-- one after the other: what only computes first -/
def planGo (ops : Array Oper) (M : Array Nat) : Nat → List Nat → List Nat → List (Nat × List Nat)
  | 0, _, _ => []
  | n + 1, rest, done =>
    let rdy := rest.filter fun i => rest.all fun j => j == i || !preA M j i
    match (rdy.find? fun i => stillA (ops.getD i default)).or rdy.head? with
    | none => []
    | some i => (i, if stillA (ops.getD i default) then [] else done.filter fun j => isLoad (ops.getD j default) && !preA M j i) :: planGo ops M n (rest.filter (· != i)) (done ++ [i])
def autoPlan (ops : Array Oper) : List (Nat × List Nat) := planGo ops (Region.before ops) ops.size (List.range ops.size) []

def findReg (id : Nat) : Code → Option (Array Oper)
  | .region i ops _ => if i = id then some ops else none
  | .seq a b => (findReg id a).or (findReg id b)
  | .cond _ a b => (findReg id a).or (findReg id b)
  | .block _ b => findReg id b
  | .loop b => findReg id b
  | _ => none

def nkOf (fn : Func) : Nat := fn.ntmps

def stdPol (P : Program) (mu : FuncId → TypeId → Bool) (ext : FuncId → Option (List AV → AH → Option ((AV ⊕ AV) × AH))) (use pure : List FuncId) : Pol where
  ext := ext
  mu := mu
  nv g := match P.funcs[g]? with
    | some fn => nkOf fn
    | none => 0
  plan g id := match ((P.funcs[g]?).bind (·.body)).bind (findReg id) with
    | some ops => autoPlan ops
    | none => []
  use := use.contains
  pure := pure.contains

def tyChk (P : Program) : Bool := (List.range P.types.size).all fun t => (match P.info? t with
  | some i => decide (i.bytes ≤ 100000) && (match i.zero with | some v => v.cells.size == i.size | none => true)
  | none => true) && (match P.underlying t with
  | some (.slice e) => decide (0 < P.cellsOf e)
  | _ => true)
def fnChk (P : Program) (po : Pol) (use : List FuncId) : Bool := use.all fun g => match P.funcs[g]? with
  | some fn => (match fn.body with | some c => regOK (po.plan g) c | none => true) && !(fn.name == "runtime.NumGoroutine")
  | none => true

theorem tyOK_of {P : Program} (h : tyChk P = true) : TyOK P := by
  unfold tyChk at h
  rw [List.all_eq_true] at h
  refine ⟨fun t i v hlt h1 h2 => ?_, fun t i hlt h1 => ?_, fun t e hlt he => ?_⟩
  · have := h t (List.mem_range.2 hlt)
    simp only [h1, h2, Bool.and_eq_true, beq_iff_eq] at this
    exact this.1.2
  · have := h t (List.mem_range.2 hlt)
    simp only [h1, Bool.and_eq_true, decide_eq_true_eq] at this
    exact this.1.1
  · have := h t (List.mem_range.2 hlt)
    simp only [he, Bool.and_eq_true, decide_eq_true_eq] at this
    exact this.2

theorem pok_of {P : Program} {mu : FuncId → TypeId → Bool} {ext : FuncId → Option (List AV → AH → Option ((AV ⊕ AV) × AH))} {use pure : List FuncId} (hty : TyOK P) (hm : P.follows .mixedOrders = true)
    (hf : fnChk P (stdPol P mu ext use pure) use = true) (hx : ∀ g F, ext g = some F → ∃ fn, P.funcs[g]? = some fn ∧ (fn.body.isNone = false ∧ (fn.name == "runtime.NumGoroutine") = false) ∧ ∀ args h r, F args h = some r → AC P g args h r) : POK P (stdPol P mu ext use pure) := by
  unfold fnChk at hf
  rw [List.all_eq_true] at hf
  have hmem : ∀ g, (stdPol P mu ext use pure).use g = true → g ∈ use := fun g hg => by simpa [stdPol] using hg
  refine ⟨hty, fun g fn h1 h2 => ?_, hx, fun g fn c h1 h2 h3 => ?_, hm⟩
  · have := hf g (hmem g h2)
    rw [h1] at this
    simp only [Bool.and_eq_true] at this
    simpa using this.2
  · have := hf g (hmem g h3)
    rw [h1] at this
    simp only [h2, Bool.and_eq_true] at this
    exact this.1
end Go.Proofs.YtngphebjmmencaaDoor
