/- What is chosen for the walks of this part. -/
import Derived.Test.YtngphebjmmencaaDoorPlan
import Derived.Test.YtngphebjmmencaaDoorRows
import Derived.Lib.Join
import Derived.Lib.ItoaNum
import Derived.Lib.ParseIntB
namespace Go.Proofs.YtngphebjmmencaaDoor
set_option linter.unusedSimpArgs false
set_option linter.unusedVariables false
open Go

def useList : List FuncId := [85, 39, 56, 57, 71, 70, 84, 
  58, 72, 59, 34, 27, 64, 40, 41, 
  42, 20, 22, 38, 15, 43, 45, 
  112, 16, 18, 17, 19, 44, 23, 21, 
  8, 47, 48, 25, 24, 26, 10, 28, 
  29, 30, 11, 9, 3, 4, 52, 
  51, 32, 54, 55, 53, 33, 35, 
  61, 60, 36, 62, 63, 37, 
  14, 12, 5, 6, 7]
def pureList : List FuncId := [85, 39, 57, 71, 70, 84, 58, 
  34, 27, 64, 40, 41, 42, 20, 
  22, 38, 15, 45, 16, 18, 17, 19, 
  23, 21, 8, 47, 48, 25, 24, 26, 
  10, 28, 29, 30, 11, 9, 3, 
  4, 52, 35, 60, 14, 12, 5, 
  6, 7]
def muF : FuncId → TypeId → Bool := fun _ t => t == 76 || t == 80

/-- a number's decimal text -/
def fmtF (args : List AV) (h : AH) : Option ((AV ⊕ AV) × AH) := match args with
  | [.int .i64 n, .int .i64 b] => if b = 10 ∧ -9223372036854775808 ≤ n ∧ n ≤ 9223372036854775807 then some (.inl (.str (Lib.itoa n)), h) else none
  | _ => none

def itoaF (args : List AV) (h : AH) : Option ((AV ⊕ AV) × AH) := match args with
  | [.int .i64 n] => if -9223372036854775808 ≤ n ∧ n ≤ 9223372036854775807 then some (.inl (.str (Lib.itoa n)), h) else none
  | _ => none

/-- what begins with a strings.Builder -/
def buildT : List TypeId := [80]
def ccF (args : List AV) (h : AH) : Option ((AV ⊕ AV) × AH) := match args with
  | [.tptr T b] => if buildT.contains T then (match h.cell b with
    | some [.nilp :: row] => some (.inl (.tup []), h.set b (some [.tptr T b :: row]))
    | some [.tptr T' b' :: row] => if T' = T ∧ b' = b then some (.inl (.tup []), h) else none
    | _ => none) else none
  | _ => none

def u8of : List (List AV) → Option (List UInt8)
  | [] => some []
  | [.int .u8 n] :: r => if 0 ≤ n ∧ n < 256 then (u8of r).map (UInt8.ofNat n.toNat :: ·) else none
  | _ => none
def bstrF (args : List AV) (h : AH) : Option ((AV ⊕ AV) × AH) := match args with
  | [.tptr _ b] => match h.cell b with
    | some [_ :: .nils :: _] => some (.inl (.str []), h)
    | some [_ :: .msl b' 0 n e :: _] => if e = 5 ∧ n ≠ 0 then (h.cell b').bind fun rs => if rs.length = n then (u8of rs).map fun l => (.inl (.str l), h.set b' none) else none else none
    | _ => none
  | _ => none

/-- a decimal text's number: it, or that there is none -/
noncomputable def pintF (args : List AV) (h : AH) : Option ((AV ⊕ AV) × AH) := match args with
  | [.str s, .int .i64 b, .int .i64 z] => if b = 10 ∧ z = 64 ∧ s.length ≤ 1000000000 then some (.inl (match Lib.parseIntB 64 s with
    | .ok n => .tup [.int .i64 n, .nili]
    | _ => .tup [.junk, .iface 112 .junk]), h) else none
  | _ => none
noncomputable def extF : FuncId → Option (List AV → AH → Option ((AV ⊕ AV) × AH)) := fun g => if g = 50 then some fmtF else if g = 66 then some itoaF else if g = 65 then some ccF else if g = 46 then some bstrF else if g = 49 then some pintF else none
noncomputable def po : Pol := stdPol Tryd.prog muF extF useList pureList
theorem ext_fmt : po.ext 50 = some fmtF := by
  show extF 50 = _
  unfold extF
  rw [if_pos rfl]
theorem ext_itoa : po.ext 66 = some itoaF := by
  show extF 66 = _
  unfold extF
  rw [if_neg (by decide), if_pos rfl]
theorem ext_cc : po.ext 65 = some ccF := by
  show extF 65 = _
  unfold extF
  rw [if_neg (by decide), if_neg (by decide), if_pos rfl]
theorem ext_bstr : po.ext 46 = some bstrF := by
  show extF 46 = _
  unfold extF
  rw [if_neg (by decide), if_neg (by decide), if_neg (by decide), if_pos rfl]
theorem ext_pint : po.ext 49 = some pintF := by
  show extF 49 = _
  unfold extF
  rw [if_neg (by decide), if_neg (by decide), if_neg (by decide), if_neg (by decide), if_pos rfl]
end Go.Proofs.YtngphebjmmencaaDoor
