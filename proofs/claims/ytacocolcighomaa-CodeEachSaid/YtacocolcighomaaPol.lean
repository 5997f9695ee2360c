/- What is chosen for the walks of this part. -/
import Derived.Test.YtacocolcighomaaPlan
import Derived.Test.YtacocolcighomaaRows
namespace Go.Proofs.Ytacocolcighomaa
set_option linter.unusedSimpArgs false
set_option linter.unusedVariables false
open Go

def useList : List FuncId := [29, 24, 64, 44, 48, 46, 91, 90, 
  65, 71, 66, 74, 38, 37, 42, 
  34, 33, 67, 16, 26, 49, 41, 
  36, 68, 45, 69, 47, 92, 
  70, 72, 73, 75, 40, 43, 
  39, 32, 35, 9, 8, 10, 
  11, 56, 77, 78, 94, 93, 97, 
  79, 95, 80, 52, 86, 59, 88, 87, 
  60, 82, 57, 83, 76, 84, 55, 
  51, 81, 54, 85, 58, 53, 50, 
  13, 12]
def pureList : List FuncId := [29, 24, 44, 46, 91, 74, 38, 37, 
  42, 34, 67, 16, 26, 49, 41, 
  36, 45, 47, 75, 40, 43, 
  39, 32, 9, 8, 10, 11, 
  56, 78, 94, 93, 97, 79, 52, 
  86, 59, 88, 87, 60, 82, 57, 
  83, 76, 84, 55, 51, 81, 54, 
  85, 58, 53, 50, 13, 12]
def muF : FuncId → TypeId → Bool := fun _ t => t == 58
noncomputable def po : Pol := stdPol Try.prog muF (fun _ => none) useList pureList

theorem pok : POK Try.prog po := pok_of (tyOK_of (by kernel_rfl)) (by kernel_rfl) (by kernel_rfl) (fun g F h => by cases h)
end Go.Proofs.Ytacocolcighomaa
