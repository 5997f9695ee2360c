/- What is chosen for the walks of this part. -/
import Derived.Test.YtodehiopdkgoeaaDoorPlan
import Derived.Test.YtodehiopdkgoeaaDoorRows
import Derived.Lib.Join
import Derived.Lib.ItoaNum
namespace Go.Proofs.YtodehiopdkgoeaaDoor
set_option linter.unusedSimpArgs false
set_option linter.unusedVariables false
open Go

def useList : List FuncId := [99, 35, 13, 36, 17, 19, 21, 40, 
  60, 16, 39, 34, 37, 14, 
  11, 12, 20, 22, 23, 24, 15, 38, 
  10, 3, 4, 5, 18, 85, 63, 
  64, 84, 83, 98, 65, 86, 
  66, 45, 52, 89, 71, 43, 72, 
  50, 26, 44, 27, 53, 30, 46, 
  48, 126, 68, 70, 73, 74, 47, 28, 
  51, 29, 25, 6, 7, 75, 76, 
  55, 54, 56, 32, 57, 58, 59, 33, 
  31, 8, 9]
def pureList : List FuncId := [99, 35, 13, 36, 17, 19, 21, 40, 
  60, 16, 39, 34, 37, 14, 
  11, 12, 20, 22, 23, 24, 15, 38, 
  10, 3, 4, 5, 18, 85, 64, 
  84, 83, 98, 65, 45, 52, 
  89, 71, 43, 72, 50, 26, 44, 
  27, 53, 30, 48, 68, 70, 73, 74, 
  28, 51, 29, 25, 6, 7, 75, 
  76, 55, 54, 56, 32, 57, 58, 59, 
  33, 31, 8, 9]
def muF : FuncId → TypeId → Bool := fun _ t => t == 68 || t == 72

/-- a number's decimal text -/
def fmtF (args : List AV) (h : AH) : Option ((AV ⊕ AV) × AH) := match args with
  | [.int .i64 n, .int .i64 b] => if b = 10 ∧ -9223372036854775808 ≤ n ∧ n ≤ 9223372036854775807 then some (.inl (.str (Lib.itoa n)), h) else none
  | _ => none

def strsA : List (List AV) → Option (List (List UInt8))
  | [] => some []
  | [.str s] :: r => (strsA r).map (s :: ·)
  | _ => none
/-- texts, one behind the other: of two at most -/
def joinL (xs : List (List UInt8)) (s : List UInt8) : Option AV := match xs, s with
  | [x], _ => some (.str x)
  | [x, y], [c] => if x.length ≤ 1000000000000 ∧ y.length ≤ 1000000000000 then some (.str (x ++ c :: y)) else none
  | _, _ => none
noncomputable def joinF (args : List AV) (h : AH) : Option ((AV ⊕ AV) × AH) := match args with
  | [.nils, .str _] => some (.inl (.str []), h)
  | [.isl _ e rows, .str s] => if (Tryd.prog).cellsOf e = 1 then (strsA rows).bind fun xs => (joinL xs s).map fun v => (.inl v, h) else none
  | _ => none

def itoaF (args : List AV) (h : AH) : Option ((AV ⊕ AV) × AH) := match args with
  | [.int .i64 n] => if -9223372036854775808 ≤ n ∧ n ≤ 9223372036854775807 then some (.inl (.str (Lib.itoa n)), h) else none
  | _ => none

/-- what begins with a strings.Builder -/
def buildT : List TypeId := [72]
def ccF (args : List AV) (h : AH) : Option ((AV ⊕ AV) × AH) := match args with
  | [.tptr T b] => if buildT.contains T then (match h.cell b with
    | some [.nilp :: row] => some (.inl (.tup []), h.set b (some [.tptr T b :: row]))
    | some [.tptr T' b' :: row] => if T' = T ∧ b' = b then some (.inl (.tup []), h) else none
    | _ => none) else none
  | _ => none

def u8of : List (List AV) → Option (List UInt8)
  | [] => some []
  | [.int .u8 n] :: r => if 0 ≤ n ∧ n < 256 then (u8of r).map (UInt8.ofNat n.toNat :: ·) else none
  | _ => none
def bstrF (args : List AV) (h : AH) : Option ((AV ⊕ AV) × AH) := match args with
  | [.tptr _ b] => match h.cell b with
    | some [_ :: .nils :: _] => some (.inl (.str []), h)
    | some [_ :: .msl b' 0 n e :: _] => if e = 5 ∧ n ≠ 0 then (h.cell b').bind fun rs => if rs.length = n then (u8of rs).map fun l => (.inl (.str l), h.set b' none) else none else none
    | _ => none
  | _ => none
noncomputable def extF : FuncId → Option (List AV → AH → Option ((AV ⊕ AV) × AH)) := fun g => if g = 41 then some fmtF else if g = 42 then some joinF else if g = 69 then some itoaF else if g = 67 then some ccF else if g = 49 then some bstrF else none
noncomputable def po : Pol := stdPol Tryd.prog muF extF useList pureList
end Go.Proofs.YtodehiopdkgoeaaDoor
