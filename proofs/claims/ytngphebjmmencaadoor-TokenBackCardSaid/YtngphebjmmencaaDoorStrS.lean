/- Texts one behind the other, and the library's FormatInt, in the plain model. -/
import Derived.Test.YtngphebjmmencaaDoorSimLib
import Derived.Test.YtngphebjmmencaaDoorPol
import Derived.Test.YtngphebjmmencaaDoorOpen
namespace Go.Proofs.YtngphebjmmencaaDoor
set_option linter.unusedSimpArgs false
set_option linter.unusedVariables false
open Go

theorem s_add {a b c : List UInt8} (e : a ++ b = c) (h : a.length + b.length ≤ 1000000000000) : binA .str .add (.str a) (.str b) = some (.str c) := by
  subst e
  exact if_pos h
theorem fmt_run {n : Int} (hn : isI64 n) (h : AH) : runF Tryd.prog po 50 [.int .i64 n, .int .i64 10] h = some (.inl (.str (Lib.itoa n)), h) := by
  unfold runF
  rw [ext_fmt]
  show fmtF _ _ = _
  unfold fmtF
  exact if_pos ⟨rfl, hn.1, hn.2⟩
end Go.Proofs.YtngphebjmmencaaDoor
