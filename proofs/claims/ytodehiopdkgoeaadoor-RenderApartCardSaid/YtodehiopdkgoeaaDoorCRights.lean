/- The functions of the part 'rights' as lists of steps. -/
import Derived.Test.YtodehiopdkgoeaaDoorPol
namespace Go.Proofs.YtodehiopdkgoeaaDoor
set_option linter.unusedSimpArgs false
set_option linter.unusedVariables false
open Go

def rc_rCheck : List RS := [(.ops [(.i (.v 1) (.mv (.c (.bool false))))]), (.ops [(.i .l (.mv (.v 0))), (.i .l (.bin (.int .i64) .geq (.l 0) (.c (.int .i64 0)))), (.i .l (.mv (.l 0))), (.g (.l 0) true .l (.mv (.v 0))), (.g (.l 1) true .l (.bin (.int .i64) .leq (.l 0) (.c (.int .i64 15)))), (.i .l (.pick (.l 2) (.l 0) (.c (.bool false)))), (.i (.v 1) (.mv (.l 0)))]), .ret]
theorem fn_rCheck : FnR Tryd.prog po 99 1 2 [0, 2] rc_rCheck [(.v 1)] true := ⟨_, _, Tryd.func99, rfl, rfl, by kernel_rfl, by kernel_rfl, by kernel_rfl, by kernel_rfl, by kernel_rfl⟩
end Go.Proofs.YtodehiopdkgoeaaDoor
