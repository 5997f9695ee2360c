/- The functions of the part 'build' as lists of steps. -/
import Derived.Test.YtodehiopdkgoeaaDoorPol
namespace Go.Proofs.YtodehiopdkgoeaaDoor
set_option linter.unusedSimpArgs false
set_option linter.unusedVariables false
open Go

def rc_bWrite : List RS := [(.ops [(.i (.v 2) (.mv (.c (.int .i64 0)))), (.i (.v 3) (.mv (.c .nili)))]), (.ops [(.i .l (.mv (.v 0))), (.i .l (.call (.c (.fn 67 [] [])) [(.l 0)]))]), (.ops [(.i .l (.mv (.v 0))), (.i .l (.mv (.v 0))), (.i .l (.nilc (.l 0))), (.i .l (.fad 1 (.l 0))), (.i .l (.load false 1 (.l 0))), (.i .l (.mv (.v 1))), (.i .l (.apps true 5 (.l 1) (.l 0))), (.i .l (.nilc (.l 6))), (.i .l (.fad 1 (.l 0))), (.i .n (.store 1 (.l 0) (.l 2)))]), (.ops [(.i .l (.mv (.v 1))), (.i .l (.len true none (.l 0))), (.i (.v 2) (.mv (.l 0))), (.i (.v 3) (.mv (.c .nili)))]), .ret]
theorem fn_bWrite : FnR Tryd.prog po 46 2 4 [0, 1, 4, 5] rc_bWrite [(.v 2), (.v 3)] false := ⟨_, _, Tryd.func46, rfl, rfl, by kernel_rfl, by kernel_rfl, by kernel_rfl, by kernel_rfl, by kernel_rfl⟩
def rc_bLen : List RS := [(.ops [(.i (.v 1) (.mv (.c (.int .i64 0))))]), (.ops [(.i .l (.mv (.v 0))), (.i .l (.nilc (.l 0))), (.i .l (.fad 1 (.l 0))), (.i .l (.load false 1 (.l 0))), (.i .l (.len false (some 5) (.l 0))), (.i (.v 1) (.mv (.l 0)))]), .ret]
theorem fn_bLen : FnR Tryd.prog po 48 1 2 [0, 2] rc_bLen [(.v 1)] true := ⟨_, _, Tryd.func48, rfl, rfl, by kernel_rfl, by kernel_rfl, by kernel_rfl, by kernel_rfl, by kernel_rfl⟩
end Go.Proofs.YtodehiopdkgoeaaDoor
