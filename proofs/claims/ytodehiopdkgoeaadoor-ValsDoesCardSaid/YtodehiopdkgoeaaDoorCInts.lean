/- The functions of the part 'ints' as lists of steps. -/
import Derived.Test.YtodehiopdkgoeaaDoorPol
namespace Go.Proofs.YtodehiopdkgoeaaDoor
set_option linter.unusedSimpArgs false
set_option linter.unusedVariables false
open Go

def rc_SameInts_b1 : List RS := [(.ops [(.i .l (.mv (.v 3))), (.i .l (.mv (.v 0))), (.i .l (.len false (some 3) (.l 0))), (.i (.v 5) (.bin (.int .i64) .lss (.l 2) (.l 0)))]), (.cond (.v 5) [] [(.exit 0)]), (.block 1 [(.ops [(.i .l (.mv (.v 0))), (.i .l (.mv (.v 3))), (.i .l (.ixa (some 3) none (.l 1) (.l 0))), (.i .l (.load false 1 (.l 0))), (.i .l (.mv (.v 1))), (.i .l (.mv (.v 3))), (.i .l (.ixa (some 3) none (.l 1) (.l 0))), (.i .l (.load false 1 (.l 0))), (.i (.v 6) (.bin (.int .i64) .neq (.l 4) (.l 0)))]), (.cond (.v 6) [(.ops [(.i (.v 2) (.mv (.c (.bool false))))]), .ret] [])]), (.ops [(.i .l (.mv (.v 3))), (.i .l (.bin (.int .i64) .add (.l 0) (.c (.int .i64 1)))), (.i (.v 3) (.mv (.l 0)))])]
def rc_SameInts : List RS := [(.ops [(.i (.v 2) (.mv (.c (.bool false))))]), (.ops [(.i .l (.mv (.v 0))), (.i .l (.len false (some 3) (.l 0))), (.i .l (.mv (.v 1))), (.i .l (.len false (some 3) (.l 0))), (.i (.v 4) (.bin (.int .i64) .neq (.l 2) (.l 0)))]), (.cond (.v 4) [(.ops [(.i (.v 2) (.mv (.c (.bool false))))]), .ret] []), (.ops [(.i (.v 3) (.mv (.c (.int .i64 0))))]), (.block 0 [(.loop rc_SameInts_b1)]), (.ops [(.i (.v 2) (.mv (.c (.bool true))))]), .ret]
theorem fn_SameInts : FnR Tryd.prog po 18 2 7 [0, 1, 4, 5, 10, 14, 25] rc_SameInts [(.v 2)] true := ⟨_, _, Tryd.func18, rfl, rfl, by kernel_rfl, by kernel_rfl, by kernel_rfl, by kernel_rfl, by kernel_rfl⟩
end Go.Proofs.YtodehiopdkgoeaaDoor
