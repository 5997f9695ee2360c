/- What was chosen will do. -/
import Derived.Test.YtioladnogpfeeaaPol
namespace Go.Proofs.Ytioladnogpfeeaa
set_option linter.unusedSimpArgs false
set_option linter.unusedVariables false
open Go
theorem pok : POK Try.prog po := pok_of (tyOK_of (by kernel_rfl)) (by kernel_rfl) (by kernel_rfl) (fun g F h => by
  unfold extF at h
  split at h
  · rename_i e
    subst e
    injection h with h
    subst h
    refine ⟨_, Try.func19, ⟨by kernel_rfl, by kernel_rfl⟩, fun args h r hr => ?_⟩
    unfold acrossF at hr
    split at hr
    · rename_i H
      injection hr with hr
      rw [← hr]
      exact (Classical.choose_spec H).1
    · cases hr
  · cases h)
end Go.Proofs.Ytioladnogpfeeaa
