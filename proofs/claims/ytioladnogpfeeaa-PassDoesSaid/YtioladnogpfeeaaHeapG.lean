/- What a graph lies in memory as. -/
import Derived.Test.YtioladnogpfeeaaHeapV
import Derived.Test.YtioladnogpfeeaaGraphLaw
namespace Go.Proofs.Ytioladnogpfeeaa
set_option linter.unusedSimpArgs false
set_option linter.unusedVariables false
open Go

abbrev i64s (l : List Int) : List AV := l.map (.int .i64)
def nodeA (n : NodeD) : List AV := [.int .i64 n.parent, .int .i64 n.gate, .int .i64 n.rights, .int .i64 n.cell, .int .i64 n.plugin, .int .i64 n.func]
abbrev tN : TypeId := 60
abbrev tB : TypeId := 4

/-- a slice that may grow, of ids J -/
def GrowV (h : AH) (J : Nat → Prop) (e : TypeId) (v : AV) (rows : List (List AV)) : Prop := (rows = [] ∧ v = .nils) ∨ ∃ id, J id ∧ rows ≠ [] ∧ id < h.ids ∧ h.hw id = rows.length ∧ v = .isl (some id) e rows
/-- a slice that may turn, in blocks F -/
def TurnV (h : AH) (F : Nat → Prop) (b : Nat) (e : TypeId) (v : AV) (rows : List (List AV)) : Prop := (rows = [] ∧ v = .nils) ∨ ∃ q, F q ∧ q ≠ b ∧ q < h.n ∧ h.cell q = some rows ∧ v = .msl q 0 rows.length e
/-- a graph stands in block b; it has the blocks F and the rows J -/
structure IsG (h : AH) (F J : Nat → Prop) (b : Nat) (G : GraphD) : Prop where
  hb : F b ∧ b < h.n
  lt : (∀ k, F k → k < h.n) ∧ ∀ j, J j → j < h.ids
  ex : ∃ nv sv, h.cell b = some [[nv, sv]] ∧ GrowV h J tN nv (G.nodes.map nodeA) ∧ TurnV h F b tB sv (G.shut.map fun x => [.bool x])

/-- only blocks of F, rows of J, and new ones turn -/
structure Chg (F J : Nat → Prop) (h h' : AH) : Prop where
  n : h.n ≤ h'.n
  ids : h.ids ≤ h'.ids
  cell : ∀ k, k < h.n → ¬ F k → h'.cell k = h.cell k
  hw : ∀ j, j < h.ids → ¬ J j → h'.hw j = h.hw j
/-- from a graph to a graph -/
def DidG (h : AH) (F J : Nat → Prop) (b : Nat) (h' : AH) (G' : GraphD) : Prop :=
  ∃ F' J', IsG h' F' J' b G' ∧ Chg F J h h' ∧ (∀ k, F' k → F k ∨ h.n ≤ k) ∧ (∀ j, J' j → J j ∨ h.ids ≤ j)
end Go.Proofs.Ytioladnogpfeeaa
