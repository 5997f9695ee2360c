/- What values lie in memory as. -/
import Derived.Test.YtodehiopdkgoeaaDoorSimLib
import Derived.Test.YtodehiopdkgoeaaDoorValLaw
namespace Go.Proofs.YtodehiopdkgoeaaDoor
set_option linter.unusedSimpArgs false
set_option linter.unusedVariables false
open Go

/-- a slice that nobody turns -/
def SlA (e : TypeId) (v : AV) (es : List (List AV)) : Prop := (es = [] ∧ v = .nils) ∨ ∃ id, v = .isl id e es
abbrev tV : TypeId := 24
mutual
def VaA : VD → List AV → Prop
  | .mk kind n l, r => ∃ v es, r = [.int .i64 kind, .int .i64 n, v] ∧ SlA tV v es ∧ VaL l es
def VaL : List VD → List (List AV) → Prop
  | [], es => es = []
  | x :: l, es => ∃ r rs, es = r :: rs ∧ VaA x r ∧ VaL l rs
end
abbrev intsA (l : List Int) : List (List AV) := l.map fun x => [.int .i64 x]
end Go.Proofs.YtodehiopdkgoeaaDoor
