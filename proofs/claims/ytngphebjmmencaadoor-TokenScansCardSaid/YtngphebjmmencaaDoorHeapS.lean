/- What slices lie in memory as. -/
import Derived.Test.YtngphebjmmencaaDoorSimLib
namespace Go.Proofs.YtngphebjmmencaaDoor
set_option linter.unusedSimpArgs false
set_option linter.unusedVariables false
open Go

/-- a slice that nobody turns -/
def SlA (e : TypeId) (v : AV) (es : List (List AV)) : Prop := (es = [] ∧ v = .nils) ∨ ∃ id, v = .isl id e es
abbrev intsA (l : List Int) : List (List AV) := l.map fun x => [.int .i64 x]
end Go.Proofs.YtngphebjmmencaaDoor
