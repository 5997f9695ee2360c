/- What is chosen for the walks of this part. -/
import Derived.Test.YtodehiopdkgoeaaDoorPlan
import Derived.Test.YtodehiopdkgoeaaDoorRows
import Derived.Lib.Join
import Derived.Lib.ItoaNum
namespace Go.Proofs.YtodehiopdkgoeaaDoor
set_option linter.unusedSimpArgs false
set_option linter.unusedVariables false
open Go

def useList : List FuncId := [35, 13, 36, 17, 19, 21, 40, 60, 
  16, 39, 34, 37, 14, 11, 12, 
  20, 22, 23, 24, 15, 38, 
  10, 3, 4, 5, 18, 85, 63, 
  64, 84, 83, 98, 65, 86, 
  66, 45, 52, 89, 71, 43, 72, 
  50, 26, 44, 27, 53, 30]
def pureList : List FuncId := [35, 13, 36, 17, 19, 21, 40, 60, 
  16, 39, 34, 37, 14, 11, 12, 
  20, 22, 23, 24, 15, 38, 
  10, 3, 4, 5, 18, 85, 64, 
  84, 83, 98, 65, 45, 52, 
  89, 71, 43, 72, 50, 26, 44, 
  27, 53, 30]
def muF : FuncId → TypeId → Bool := fun _ t => false

/-- a number's decimal text -/
def fmtF (args : List AV) (h : AH) : Option ((AV ⊕ AV) × AH) := match args with
  | [.int .i64 n, .int .i64 b] => if b = 10 ∧ -9223372036854775808 ≤ n ∧ n ≤ 9223372036854775807 then some (.inl (.str (Lib.itoa n)), h) else none
  | _ => none

def strsA : List (List AV) → Option (List (List UInt8))
  | [] => some []
  | [.str s] :: r => (strsA r).map (s :: ·)
  | _ => none
/-- texts, one behind the other: of two at most -/
def joinL (xs : List (List UInt8)) (s : List UInt8) : Option AV := match xs, s with
  | [x], _ => some (.str x)
  | [x, y], [c] => if x.length ≤ 1000000000000 ∧ y.length ≤ 1000000000000 then some (.str (x ++ c :: y)) else none
  | _, _ => none
noncomputable def joinF (args : List AV) (h : AH) : Option ((AV ⊕ AV) × AH) := match args with
  | [.nils, .str _] => some (.inl (.str []), h)
  | [.isl _ e rows, .str s] => if (Tryd.prog).cellsOf e = 1 then (strsA rows).bind fun xs => (joinL xs s).map fun v => (.inl v, h) else none
  | _ => none
noncomputable def extF : FuncId → Option (List AV → AH → Option ((AV ⊕ AV) × AH)) := fun g => if g = 41 then some fmtF else if g = 42 then some joinF else none
noncomputable def po : Pol := stdPol Tryd.prog muF extF useList pureList
end Go.Proofs.YtodehiopdkgoeaaDoor
