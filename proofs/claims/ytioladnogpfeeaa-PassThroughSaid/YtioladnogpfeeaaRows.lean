/-
  NARROWER THAN 'FOR EVERY INPUT', by the rows' own cells (each row's printed sentence says how): CompileMakes: loops · CompileJumps: loops · PassThrough: loops · PassDoes: loops · PassPlain: loops.
  DERIVED. THE GIVEN ROWS OF THIS SEAT. 5 by the template 'for every input the law returns true; each argument reads behind the call as it read before'; 0 by the template 'total and deterministic' (their statements: YtioladnogpfeeaaTotals.lean).
  GIVEN WITH THE SEED: the statements are not yours to turn. If you find one false, say at which input.
  Laid BY PROGRAM, IN A SANDBOX (cutbox-rows.mjs): the forced cells as the released guide's own fill.sh prints them over the translation eff56719e79244af… (all of the seat's roots in one cut). By AI agents, Wed Nov 11 2026. No macro, syntax, notation, axiom, sorry.
-/
import Derived.Test.YtioladnogpfeeaaChecked
import GoSem.Claim
import GoSem.ClaimJoined
import GoSem.ClaimMapViews
import Derived.JoinedTies
import Derived.KernelRfl
namespace Go.Proofs.Ytioladnogpfeeaa
/- THE CELL 'sum', in the pinned program and in every row, IS THE sha256 OF THE DUMP (.gsa) THAT YtioladnogpfeeaaProg.lean LOADS. Nothing in Lean hashes anything: it is a label: what it is worth is what the hold of that sum in a sandbox is worth. -/
noncomputable def Try.pinned : Pinned := { name := "ytioladnogpfeeaa", sum := "eff56719e79244af9b5d218a5e701883e369fb45169bfb47be2fd68895a0d3a9", checked := Try.checked }
namespace Rows
def none {H : Type} : Left H := { results := [], args := [] }

/-- 'letterlocklaw.CompileMakes': WHATEVER THE INPUT: true; the input reads as it did. -/
def compileMakesSpec : ChangeSpec := { name := "compileMakes", fn := fun _ => fun
  | [d] => { results := [.lit (.bool true)], args := [d] }
  | _ => none }
def compileMakesRow : OpenClaim := { program := "ytioladnogpfeeaa", sum := "eff56719e79244af9b5d218a5e701883e369fb45169bfb47be2fd68895a0d3a9", func := "letterlock/letterlocklaw.CompileMakes", spec := "compileMakes", unfollowed := true, recurses := true, loops := true, apart := false }
def CompileMakesSaid : Prop := compileMakesRow.holds Try.pinned (OpenSpec.ofChange compileMakesSpec)

/-- ITS FALSE NEIGHBOUR: 'it returns false'. Refute it at one input. -/
def compileMakesWrong : ChangeSpec := { name := "compileMakes", fn := fun _ => fun
  | [d] => { results := [.lit (.bool false)], args := [d] }
  | _ => none }
def CompileMakesWrongFalsely : Prop := compileMakesRow.holds Try.pinned (OpenSpec.ofChange compileMakesWrong)

/-- 'letterlocklaw.CompileJumps': WHATEVER THE INPUT: true; the input reads as it did. -/
def compileJumpsSpec : ChangeSpec := { name := "compileJumps", fn := fun _ => fun
  | [d] => { results := [.lit (.bool true)], args := [d] }
  | _ => none }
def compileJumpsRow : OpenClaim := { program := "ytioladnogpfeeaa", sum := "eff56719e79244af9b5d218a5e701883e369fb45169bfb47be2fd68895a0d3a9", func := "letterlock/letterlocklaw.CompileJumps", spec := "compileJumps", unfollowed := true, recurses := true, loops := true, apart := false }
def CompileJumpsSaid : Prop := compileJumpsRow.holds Try.pinned (OpenSpec.ofChange compileJumpsSpec)

/-- ITS FALSE NEIGHBOUR: 'it returns false'. Refute it at one input. -/
def compileJumpsWrong : ChangeSpec := { name := "compileJumps", fn := fun _ => fun
  | [d] => { results := [.lit (.bool false)], args := [d] }
  | _ => none }
def CompileJumpsWrongFalsely : Prop := compileJumpsRow.holds Try.pinned (OpenSpec.ofChange compileJumpsWrong)

/-- 'letterlocklaw.PassThrough': WHATEVER THE INPUT: true; the input reads as it did. -/
def passThroughSpec : ChangeSpec := { name := "passThrough", fn := fun _ => fun
  | [d1, d2, d3] => { results := [.lit (.bool true)], args := [d1, d2, d3] }
  | _ => none }
def passThroughRow : OpenClaim := { program := "ytioladnogpfeeaa", sum := "eff56719e79244af9b5d218a5e701883e369fb45169bfb47be2fd68895a0d3a9", func := "letterlock/letterlocklaw.PassThrough", spec := "passThrough", unfollowed := true, recurses := true, loops := true, apart := false }
def PassThroughSaid : Prop := passThroughRow.holds Try.pinned (OpenSpec.ofChange passThroughSpec)

/-- ITS FALSE NEIGHBOUR: 'it returns false'. Refute it at one input. -/
def passThroughWrong : ChangeSpec := { name := "passThrough", fn := fun _ => fun
  | [d1, d2, d3] => { results := [.lit (.bool false)], args := [d1, d2, d3] }
  | _ => none }
def PassThroughWrongFalsely : Prop := passThroughRow.holds Try.pinned (OpenSpec.ofChange passThroughWrong)

/-- 'letterlocklaw.PassDoes': WHATEVER THE INPUT: true; the input reads as it did. -/
def passDoesSpec : ChangeSpec := { name := "passDoes", fn := fun _ => fun
  | [d1, d2, d3] => { results := [.lit (.bool true)], args := [d1, d2, d3] }
  | _ => none }
def passDoesRow : OpenClaim := { program := "ytioladnogpfeeaa", sum := "eff56719e79244af9b5d218a5e701883e369fb45169bfb47be2fd68895a0d3a9", func := "letterlock/letterlocklaw.PassDoes", spec := "passDoes", unfollowed := true, recurses := true, loops := true, apart := false }
def PassDoesSaid : Prop := passDoesRow.holds Try.pinned (OpenSpec.ofChange passDoesSpec)

/-- ITS FALSE NEIGHBOUR: 'it returns false'. Refute it at one input. -/
def passDoesWrong : ChangeSpec := { name := "passDoes", fn := fun _ => fun
  | [d1, d2, d3] => { results := [.lit (.bool false)], args := [d1, d2, d3] }
  | _ => none }
def PassDoesWrongFalsely : Prop := passDoesRow.holds Try.pinned (OpenSpec.ofChange passDoesWrong)

/-- 'letterlocklaw.PassPlain': WHATEVER THE INPUT: true; the input reads as it did. -/
def passPlainSpec : ChangeSpec := { name := "passPlain", fn := fun _ => fun
  | [d1, d2, d3] => { results := [.lit (.bool true)], args := [d1, d2, d3] }
  | _ => none }
def passPlainRow : OpenClaim := { program := "ytioladnogpfeeaa", sum := "eff56719e79244af9b5d218a5e701883e369fb45169bfb47be2fd68895a0d3a9", func := "letterlock/letterlocklaw.PassPlain", spec := "passPlain", unfollowed := true, recurses := true, loops := true, apart := false }
def PassPlainSaid : Prop := passPlainRow.holds Try.pinned (OpenSpec.ofChange passPlainSpec)

/-- ITS FALSE NEIGHBOUR: 'it returns false'. Refute it at one input. -/
def passPlainWrong : ChangeSpec := { name := "passPlain", fn := fun _ => fun
  | [d1, d2, d3] => { results := [.lit (.bool false)], args := [d1, d2, d3] }
  | _ => none }
def PassPlainWrongFalsely : Prop := passPlainRow.holds Try.pinned (OpenSpec.ofChange passPlainWrong)

/- THE SECOND FORM. 'bulk': how many values and letters a reading holds, each counted each time it is reached (what is shared counts as often as it is met; a slice's spare places count too). A statement '..UptoSaid' is the law's where the arguments, and the package variables that the reading takes, are together of bulk at most 1048576: NARROWER than '..Said'. Prove '..Said' where nothing that the law and all that it calls make is longer than what came in: it says more and counts as full. Else prove '..UptoSaid'. A law counts once. -/
mutual
def uptoBulk {H : Type} : DataW H → Nat
  | .lit (.string bytes) => bytes.length + 1
  | .lit _ => 1
  | .nil => 1
  | .ptr d => uptoBulk d + 1
  | .slice elems spare => uptoBulkAll elems + uptoBulkAll spare + 1
  | .agg parts => uptoBulkAll parts + 1
  | .iface _ d => uptoBulk d + 1
  | .map entries => uptoBulkEntries entries + 1
  | .held _ => 1
def uptoBulkAll {H : Type} : List (DataW H) → Nat
  | [] => 0
  | d :: r => uptoBulk d + uptoBulkAll r
def uptoBulkEntries {H : Type} : List (Lit × DataW H) → Nat
  | [] => 0
  | x :: r => uptoBulkEntry x + uptoBulkEntries r
def uptoBulkEntry {H : Type} : Lit × DataW H → Nat
  | (.string bytes, d) => bytes.length + uptoBulk d + 1
  | (_, d) => uptoBulk d + 1
 end
def uptoSmall : (H : Type) → List (DataW H) → Bool := fun _ ds => decide (uptoBulkAll ds ≤ 1048576)
def OpenSpec.upto (s : _root_.Go.ChangeSpec) : _root_.Go.OpenSpec := { _root_.Go.OpenSpec.ofChange s with cond := some uptoSmall }

/-- 'letterlocklaw.CompileMakes', WHERE WHAT IT READS IS OF BULK AT MOST 1048576: true; the input reads as it did. -/
def compileMakesUptoRow : OpenClaim := { program := "ytioladnogpfeeaa", sum := "eff56719e79244af9b5d218a5e701883e369fb45169bfb47be2fd68895a0d3a9", func := "letterlock/letterlocklaw.CompileMakes", spec := "compileMakes", unfollowed := true, recurses := true, loops := true, apart := false, narrowed := true }
def CompileMakesUptoSaid : Prop := compileMakesUptoRow.holds Try.pinned (OpenSpec.upto compileMakesSpec)

/-- 'letterlocklaw.CompileJumps', WHERE WHAT IT READS IS OF BULK AT MOST 1048576: true; the input reads as it did. -/
def compileJumpsUptoRow : OpenClaim := { program := "ytioladnogpfeeaa", sum := "eff56719e79244af9b5d218a5e701883e369fb45169bfb47be2fd68895a0d3a9", func := "letterlock/letterlocklaw.CompileJumps", spec := "compileJumps", unfollowed := true, recurses := true, loops := true, apart := false, narrowed := true }
def CompileJumpsUptoSaid : Prop := compileJumpsUptoRow.holds Try.pinned (OpenSpec.upto compileJumpsSpec)

/-- 'letterlocklaw.PassThrough', WHERE WHAT IT READS IS OF BULK AT MOST 1048576: true; the input reads as it did. -/
def passThroughUptoRow : OpenClaim := { program := "ytioladnogpfeeaa", sum := "eff56719e79244af9b5d218a5e701883e369fb45169bfb47be2fd68895a0d3a9", func := "letterlock/letterlocklaw.PassThrough", spec := "passThrough", unfollowed := true, recurses := true, loops := true, apart := false, narrowed := true }
def PassThroughUptoSaid : Prop := passThroughUptoRow.holds Try.pinned (OpenSpec.upto passThroughSpec)

/-- 'letterlocklaw.PassDoes', WHERE WHAT IT READS IS OF BULK AT MOST 1048576: true; the input reads as it did. -/
def passDoesUptoRow : OpenClaim := { program := "ytioladnogpfeeaa", sum := "eff56719e79244af9b5d218a5e701883e369fb45169bfb47be2fd68895a0d3a9", func := "letterlock/letterlocklaw.PassDoes", spec := "passDoes", unfollowed := true, recurses := true, loops := true, apart := false, narrowed := true }
def PassDoesUptoSaid : Prop := passDoesUptoRow.holds Try.pinned (OpenSpec.upto passDoesSpec)

/-- 'letterlocklaw.PassPlain', WHERE WHAT IT READS IS OF BULK AT MOST 1048576: true; the input reads as it did. -/
def passPlainUptoRow : OpenClaim := { program := "ytioladnogpfeeaa", sum := "eff56719e79244af9b5d218a5e701883e369fb45169bfb47be2fd68895a0d3a9", func := "letterlock/letterlocklaw.PassPlain", spec := "passPlain", unfollowed := true, recurses := true, loops := true, apart := false, narrowed := true }
def PassPlainUptoSaid : Prop := passPlainUptoRow.holds Try.pinned (OpenSpec.upto passPlainSpec)

end Rows
end Go.Proofs.Ytioladnogpfeeaa
