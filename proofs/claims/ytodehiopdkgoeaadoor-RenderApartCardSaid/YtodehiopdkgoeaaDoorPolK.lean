/- What was chosen will do. -/
import Derived.Test.YtodehiopdkgoeaaDoorPol
import Derived.Test.YtodehiopdkgoeaaDoorExtB
namespace Go.Proofs.YtodehiopdkgoeaaDoor
set_option linter.unusedSimpArgs false
set_option linter.unusedVariables false
open Go
theorem pok : POK Tryd.prog po := pok_of (tyOK_of (by kernel_rfl)) (by kernel_rfl) (by kernel_rfl) (fun g F h => by
  unfold extF at h
  split at h
  · rename_i e
    subst e
    injection h with h
    subst h
    refine ⟨_, Tryd.func41, ⟨by kernel_rfl, by kernel_rfl⟩, fun args h r hr => ?_⟩
    exact fmt_ac hr
  split at h
  · rename_i e
    subst e
    injection h with h
    subst h
    refine ⟨_, Tryd.func42, ⟨by kernel_rfl, by kernel_rfl⟩, fun args h r hr => ?_⟩
    exact join_ac hr
  split at h
  · rename_i e
    subst e
    injection h with h
    subst h
    refine ⟨_, Tryd.func69, ⟨by kernel_rfl, by kernel_rfl⟩, fun args h r hr => ?_⟩
    exact itoa_ac hr
  split at h
  · rename_i e
    subst e
    injection h with h
    subst h
    refine ⟨_, Tryd.func67, ⟨by kernel_rfl, by kernel_rfl⟩, fun args h r hr => ?_⟩
    exact cc_ac hr
  split at h
  · rename_i e
    subst e
    injection h with h
    subst h
    refine ⟨_, Tryd.func49, ⟨by kernel_rfl, by kernel_rfl⟩, fun args h r hr => ?_⟩
    exact bstr_ac hr
  cases h)
end Go.Proofs.YtodehiopdkgoeaaDoor
