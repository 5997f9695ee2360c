/- What was chosen will do. -/
import Derived.Test.YtngphebjmmencaaDoorPol
import Derived.Test.YtngphebjmmencaaDoorExtS
import Derived.Test.YtngphebjmmencaaDoorExtB
import Derived.Test.YtngphebjmmencaaDoorExtP
namespace Go.Proofs.YtngphebjmmencaaDoor
set_option linter.unusedSimpArgs false
set_option linter.unusedVariables false
open Go
theorem pok : POK Tryd.prog po := pok_of (tyOK_of (by kernel_rfl)) (by kernel_rfl) (by kernel_rfl) (fun g F h => by
  unfold extF at h
  split at h
  · rename_i e
    subst e
    injection h with h
    subst h
    refine ⟨_, Tryd.func50, ⟨by kernel_rfl, by kernel_rfl⟩, fun args h r hr => ?_⟩
    exact fmt_ac hr
  split at h
  · rename_i e
    subst e
    injection h with h
    subst h
    refine ⟨_, Tryd.func66, ⟨by kernel_rfl, by kernel_rfl⟩, fun args h r hr => ?_⟩
    exact itoa_ac hr
  split at h
  · rename_i e
    subst e
    injection h with h
    subst h
    refine ⟨_, Tryd.func65, ⟨by kernel_rfl, by kernel_rfl⟩, fun args h r hr => ?_⟩
    exact cc_ac hr
  split at h
  · rename_i e
    subst e
    injection h with h
    subst h
    refine ⟨_, Tryd.func46, ⟨by kernel_rfl, by kernel_rfl⟩, fun args h r hr => ?_⟩
    exact bstr_ac hr
  split at h
  · rename_i e
    subst e
    injection h with h
    subst h
    refine ⟨_, Tryd.func49, ⟨by kernel_rfl, by kernel_rfl⟩, fun args h r hr => ?_⟩
    exact pint_ac hr
  cases h)
end Go.Proofs.YtngphebjmmencaaDoor
