/- What was chosen will do. -/
import Derived.Test.YtioladnogpfeeaaPol
namespace Go.Proofs.Ytioladnogpfeeaa
set_option linter.unusedSimpArgs false
set_option linter.unusedVariables false
open Go
theorem pok : POK Try.prog po := pok_of (tyOK_of (by kernel_rfl)) (by kernel_rfl) (by kernel_rfl) (fun g F h => by cases h)
end Go.Proofs.Ytioladnogpfeeaa
