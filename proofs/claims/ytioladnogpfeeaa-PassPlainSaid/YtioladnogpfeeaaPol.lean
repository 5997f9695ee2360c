/- What is chosen for the walks of this part. -/
import Derived.Test.YtioladnogpfeeaaPlan
import Derived.Test.YtioladnogpfeeaaRows
import Derived.Test.YtioladnogpfeeaaHeapG
import Derived.Test.YtioladnogpfeeaaPassLaw
namespace Go.Proofs.Ytioladnogpfeeaa
set_option linter.unusedSimpArgs false
set_option linter.unusedVariables false
open Go

def useList : List FuncId := [92, 53, 44, 81, 72, 52, 80, 70, 
  45, 75, 77, 51, 26, 24, 25, 
  33, 43, 62, 69, 59, 27, 32, 
  71, 93, 73, 87, 94, 74, 
  76, 78, 86, 60, 47, 90, 63, 
  64, 89, 88, 97, 65, 91, 
  66, 36, 39, 68, 40, 15, 41, 
  12, 9, 35, 10, 42, 13, 34, 
  38, 67, 37, 11, 14, 8, 3, 
  4, 82, 54, 83, 56, 55, 84, 96, 
  20, 50, 46, 85, 58, 17, 28, 
  21, 23, 57, 95, 79, 49, 29, 30, 
  61, 31, 16, 18, 22, 5, 6, 
  7]
def pureList : List FuncId := [92, 53, 81, 52, 80, 51, 26, 24, 
  25, 33, 62, 69, 59, 27, 32, 
  93, 87, 86, 60, 90, 64, 89, 
  88, 97, 65, 36, 39, 68, 
  40, 15, 41, 12, 9, 35, 10, 
  42, 13, 34, 8, 3, 4, 82, 
  54, 83, 56, 55, 84, 96, 20, 
  50, 46, 85, 58, 17, 28, 21, 
  23, 57, 95, 29, 30, 16, 22, 5, 
  6, 7]
def muF : FuncId → TypeId → Bool := fun _ t => t == 73 || t == 41

/-- what is asked of Across: what becomes of the graph, and of the value -/
def acrossGood (args : List AV) (h : AH) (q : (AV ⊕ AV) × AH) : Prop :=
  ∀ (F J : Nat → Prop) (b : Nat) (G : GraphD) (x : VD) (r : List AV) (gv : AV) (ks : List Int), args = [.ptr b 0 0, .agg r, gv] → IsG h F J b G → G.Wf → VaA x r → SlA 3 gv (intsA ks) → ks.length ≤ 1000000 →
    ∃ r' h', q = (.inl (.tup [.agg r', .int .i64 (acrossG ks G x).2.2]), h') ∧ VaA (acrossG ks G x).2.1 r' ∧ DidG h F J b h' (acrossG ks G x).1
open Classical in
noncomputable def acrossF (args : List AV) (h : AH) : Option ((AV ⊕ AV) × AH) :=
  if H : ∃ q, AC Try.prog 19 args h q ∧ acrossGood args h q then some (Classical.choose H) else none
noncomputable def extF : FuncId → Option (List AV → AH → Option ((AV ⊕ AV) × AH)) := fun g => if g = 19 then some acrossF else none
noncomputable def po : Pol := stdPol Try.prog muF extF useList pureList
end Go.Proofs.Ytioladnogpfeeaa
