/-
  NARROWER THAN 'FOR EVERY INPUT', by the rows' own cells (each row's printed sentence says how): CodeEach: loops · CodeDoes: loops.
  DERIVED. THE GIVEN ROWS OF THIS SEAT. 11 by the template 'for every input the law returns true; each argument reads behind the call as it read before'; 0 by the template 'total and deterministic' (their statements: YtacocolcighomaaTotals.lean).
  GIVEN WITH THE SEED: the statements are not yours to turn. If you find one false, say at which input.
  Laid BY PROGRAM, IN A SANDBOX (cutbox-rows.mjs): the forced cells as the released guide's own fill.sh prints them over the translation 295c3bff663ce609… (all of the seat's roots in one cut). By AI agents, Wed Nov 11 2026. No macro, syntax, notation, axiom, sorry.
-/
import Derived.Test.YtacocolcighomaaChecked
import GoSem.Claim
import GoSem.ClaimJoined
import GoSem.ClaimMapViews
import Derived.JoinedTies
import Derived.KernelRfl
namespace Go.Proofs.Ytacocolcighomaa
/- THE CELL 'sum', in the pinned program and in every row, IS THE sha256 OF THE DUMP (.gsa) THAT YtacocolcighomaaProg.lean LOADS. Nothing in Lean hashes anything: it is a label: what it is worth is what the hold of that sum in a sandbox is worth. -/
noncomputable def Try.pinned : Pinned := { name := "ytacocolcighomaa", sum := "295c3bff663ce609ba3a37cc79a6e87bd3f406a2d29d2fde6cb6487d2971e15d", checked := Try.checked }
namespace Rows
def none {H : Type} : Left H := { results := [], args := [] }

/-- 'letterlocklaw.WorldDoes': WHATEVER THE INPUT: true; the input reads as it did. -/
def worldDoesSpec : ChangeSpec := { name := "worldDoes", fn := fun _ => fun
  | [d] => { results := [.lit (.bool true)], args := [d] }
  | _ => none }
def worldDoesRow : OpenClaim := { program := "ytacocolcighomaa", sum := "295c3bff663ce609ba3a37cc79a6e87bd3f406a2d29d2fde6cb6487d2971e15d", func := "letterlock/letterlocklaw.WorldDoes", spec := "worldDoes", apart := false }
def WorldDoesSaid : Prop := worldDoesRow.holds Try.pinned (OpenSpec.ofChange worldDoesSpec)

/-- ITS FALSE NEIGHBOUR: 'it returns false'. Refute it at one input. -/
def worldDoesWrong : ChangeSpec := { name := "worldDoes", fn := fun _ => fun
  | [d] => { results := [.lit (.bool false)], args := [d] }
  | _ => none }
def WorldDoesWrongFalsely : Prop := worldDoesRow.holds Try.pinned (OpenSpec.ofChange worldDoesWrong)

/-- 'letterlocklaw.WorldAlone': WHATEVER THE INPUT: true; the input reads as it did. -/
def worldAloneSpec : ChangeSpec := { name := "worldAlone", fn := fun _ => fun
  | [d1, d2] => { results := [.lit (.bool true)], args := [d1, d2] }
  | _ => none }
def worldAloneRow : OpenClaim := { program := "ytacocolcighomaa", sum := "295c3bff663ce609ba3a37cc79a6e87bd3f406a2d29d2fde6cb6487d2971e15d", func := "letterlock/letterlocklaw.WorldAlone", spec := "worldAlone", apart := false }
def WorldAloneSaid : Prop := worldAloneRow.holds Try.pinned (OpenSpec.ofChange worldAloneSpec)

/-- ITS FALSE NEIGHBOUR: 'it returns false'. Refute it at one input. -/
def worldAloneWrong : ChangeSpec := { name := "worldAlone", fn := fun _ => fun
  | [d1, d2] => { results := [.lit (.bool false)], args := [d1, d2] }
  | _ => none }
def WorldAloneWrongFalsely : Prop := worldAloneRow.holds Try.pinned (OpenSpec.ofChange worldAloneWrong)

/-- 'letterlocklaw.RightsMeet': WHATEVER THE INPUT: true; the input reads as it did. -/
def rightsMeetSpec : ChangeSpec := { name := "rightsMeet", fn := fun _ => fun
  | [d1, d2, d3] => { results := [.lit (.bool true)], args := [d1, d2, d3] }
  | _ => none }
def rightsMeetRow : OpenClaim := { program := "ytacocolcighomaa", sum := "295c3bff663ce609ba3a37cc79a6e87bd3f406a2d29d2fde6cb6487d2971e15d", func := "letterlock/letterlocklaw.RightsMeet", spec := "rightsMeet", inPlace := ["internal/bytealg.IndexByteString"], apart := false }
def RightsMeetSaid : Prop := rightsMeetRow.holds Try.pinned (OpenSpec.ofChange rightsMeetSpec)

/-- ITS FALSE NEIGHBOUR: 'it returns false'. Refute it at one input. -/
def rightsMeetWrong : ChangeSpec := { name := "rightsMeet", fn := fun _ => fun
  | [d1, d2, d3] => { results := [.lit (.bool false)], args := [d1, d2, d3] }
  | _ => none }
def RightsMeetWrongFalsely : Prop := rightsMeetRow.holds Try.pinned (OpenSpec.ofChange rightsMeetWrong)

/-- 'letterlocklaw.RightsDoes': WHATEVER THE INPUT: true; the input reads as it did. -/
def rightsDoesSpec : ChangeSpec := { name := "rightsDoes", fn := fun _ => fun
  | [d1, d2, d3] => { results := [.lit (.bool true)], args := [d1, d2, d3] }
  | _ => none }
def rightsDoesRow : OpenClaim := { program := "ytacocolcighomaa", sum := "295c3bff663ce609ba3a37cc79a6e87bd3f406a2d29d2fde6cb6487d2971e15d", func := "letterlock/letterlocklaw.RightsDoes", spec := "rightsDoes", inPlace := ["internal/bytealg.IndexByteString"], apart := false }
def RightsDoesSaid : Prop := rightsDoesRow.holds Try.pinned (OpenSpec.ofChange rightsDoesSpec)

/-- ITS FALSE NEIGHBOUR: 'it returns false'. Refute it at one input. -/
def rightsDoesWrong : ChangeSpec := { name := "rightsDoes", fn := fun _ => fun
  | [d1, d2, d3] => { results := [.lit (.bool false)], args := [d1, d2, d3] }
  | _ => none }
def RightsDoesWrongFalsely : Prop := rightsDoesRow.holds Try.pinned (OpenSpec.ofChange rightsDoesWrong)

/-- 'letterlocklaw.RightsBack': WHATEVER THE INPUT: true; the input reads as it did. -/
def rightsBackSpec : ChangeSpec := { name := "rightsBack", fn := fun _ => fun
  | [d1, d2] => { results := [.lit (.bool true)], args := [d1, d2] }
  | _ => none }
def rightsBackRow : OpenClaim := { program := "ytacocolcighomaa", sum := "295c3bff663ce609ba3a37cc79a6e87bd3f406a2d29d2fde6cb6487d2971e15d", func := "letterlock/letterlocklaw.RightsBack", spec := "rightsBack", inPlace := ["internal/bytealg.IndexByteString"], apart := false }
def RightsBackSaid : Prop := rightsBackRow.holds Try.pinned (OpenSpec.ofChange rightsBackSpec)

/-- ITS FALSE NEIGHBOUR: 'it returns false'. Refute it at one input. -/
def rightsBackWrong : ChangeSpec := { name := "rightsBack", fn := fun _ => fun
  | [d1, d2] => { results := [.lit (.bool false)], args := [d1, d2] }
  | _ => none }
def RightsBackWrongFalsely : Prop := rightsBackRow.holds Try.pinned (OpenSpec.ofChange rightsBackWrong)

/-- 'letterlocklaw.GraphWays': WHATEVER THE INPUT: true; the input reads as it did. -/
def graphWaysSpec : ChangeSpec := { name := "graphWays", fn := fun _ => fun
  | [d] => { results := [.lit (.bool true)], args := [d] }
  | _ => none }
def graphWaysRow : OpenClaim := { program := "ytacocolcighomaa", sum := "295c3bff663ce609ba3a37cc79a6e87bd3f406a2d29d2fde6cb6487d2971e15d", func := "letterlock/letterlocklaw.GraphWays", spec := "graphWays", apart := false }
def GraphWaysSaid : Prop := graphWaysRow.holds Try.pinned (OpenSpec.ofChange graphWaysSpec)

/-- ITS FALSE NEIGHBOUR: 'it returns false'. Refute it at one input. -/
def graphWaysWrong : ChangeSpec := { name := "graphWays", fn := fun _ => fun
  | [d] => { results := [.lit (.bool false)], args := [d] }
  | _ => none }
def GraphWaysWrongFalsely : Prop := graphWaysRow.holds Try.pinned (OpenSpec.ofChange graphWaysWrong)

/-- 'letterlocklaw.GraphDoes': WHATEVER THE INPUT: true; the input reads as it did. -/
def graphDoesSpec : ChangeSpec := { name := "graphDoes", fn := fun _ => fun
  | [d] => { results := [.lit (.bool true)], args := [d] }
  | _ => none }
def graphDoesRow : OpenClaim := { program := "ytacocolcighomaa", sum := "295c3bff663ce609ba3a37cc79a6e87bd3f406a2d29d2fde6cb6487d2971e15d", func := "letterlock/letterlocklaw.GraphDoes", spec := "graphDoes", recurses := true, apart := false }
def GraphDoesSaid : Prop := graphDoesRow.holds Try.pinned (OpenSpec.ofChange graphDoesSpec)

/-- ITS FALSE NEIGHBOUR: 'it returns false'. Refute it at one input. -/
def graphDoesWrong : ChangeSpec := { name := "graphDoes", fn := fun _ => fun
  | [d] => { results := [.lit (.bool false)], args := [d] }
  | _ => none }
def GraphDoesWrongFalsely : Prop := graphDoesRow.holds Try.pinned (OpenSpec.ofChange graphDoesWrong)

/-- 'letterlocklaw.GraphNarrows': WHATEVER THE INPUT: true; the input reads as it did. -/
def graphNarrowsSpec : ChangeSpec := { name := "graphNarrows", fn := fun _ => fun
  | [d] => { results := [.lit (.bool true)], args := [d] }
  | _ => none }
def graphNarrowsRow : OpenClaim := { program := "ytacocolcighomaa", sum := "295c3bff663ce609ba3a37cc79a6e87bd3f406a2d29d2fde6cb6487d2971e15d", func := "letterlock/letterlocklaw.GraphNarrows", spec := "graphNarrows", apart := false }
def GraphNarrowsSaid : Prop := graphNarrowsRow.holds Try.pinned (OpenSpec.ofChange graphNarrowsSpec)

/-- ITS FALSE NEIGHBOUR: 'it returns false'. Refute it at one input. -/
def graphNarrowsWrong : ChangeSpec := { name := "graphNarrows", fn := fun _ => fun
  | [d] => { results := [.lit (.bool false)], args := [d] }
  | _ => none }
def GraphNarrowsWrongFalsely : Prop := graphNarrowsRow.holds Try.pinned (OpenSpec.ofChange graphNarrowsWrong)

/-- 'letterlocklaw.GraphCuts': WHATEVER THE INPUT: true; the input reads as it did. -/
def graphCutsSpec : ChangeSpec := { name := "graphCuts", fn := fun _ => fun
  | [d1, d2, d3] => { results := [.lit (.bool true)], args := [d1, d2, d3] }
  | _ => none }
def graphCutsRow : OpenClaim := { program := "ytacocolcighomaa", sum := "295c3bff663ce609ba3a37cc79a6e87bd3f406a2d29d2fde6cb6487d2971e15d", func := "letterlock/letterlocklaw.GraphCuts", spec := "graphCuts", apart := false }
def GraphCutsSaid : Prop := graphCutsRow.holds Try.pinned (OpenSpec.ofChange graphCutsSpec)

/-- ITS FALSE NEIGHBOUR: 'it returns false'. Refute it at one input. -/
def graphCutsWrong : ChangeSpec := { name := "graphCuts", fn := fun _ => fun
  | [d1, d2, d3] => { results := [.lit (.bool false)], args := [d1, d2, d3] }
  | _ => none }
def GraphCutsWrongFalsely : Prop := graphCutsRow.holds Try.pinned (OpenSpec.ofChange graphCutsWrong)

/-- 'letterlocklaw.CodeEach': WHATEVER THE INPUT: true; the input reads as it did. -/
def codeEachSpec : ChangeSpec := { name := "codeEach", fn := fun _ => fun
  | [d] => { results := [.lit (.bool true)], args := [d] }
  | _ => none }
def codeEachRow : OpenClaim := { program := "ytacocolcighomaa", sum := "295c3bff663ce609ba3a37cc79a6e87bd3f406a2d29d2fde6cb6487d2971e15d", func := "letterlock/letterlocklaw.CodeEach", spec := "codeEach", unfollowed := true, recurses := true, loops := true, apart := false }
def CodeEachSaid : Prop := codeEachRow.holds Try.pinned (OpenSpec.ofChange codeEachSpec)

/-- ITS FALSE NEIGHBOUR: 'it returns false'. Refute it at one input. -/
def codeEachWrong : ChangeSpec := { name := "codeEach", fn := fun _ => fun
  | [d] => { results := [.lit (.bool false)], args := [d] }
  | _ => none }
def CodeEachWrongFalsely : Prop := codeEachRow.holds Try.pinned (OpenSpec.ofChange codeEachWrong)

/-- 'letterlocklaw.CodeDoes': WHATEVER THE INPUT: true; the input reads as it did. -/
def codeDoesSpec : ChangeSpec := { name := "codeDoes", fn := fun _ => fun
  | [d1, d2, d3] => { results := [.lit (.bool true)], args := [d1, d2, d3] }
  | _ => none }
def codeDoesRow : OpenClaim := { program := "ytacocolcighomaa", sum := "295c3bff663ce609ba3a37cc79a6e87bd3f406a2d29d2fde6cb6487d2971e15d", func := "letterlock/letterlocklaw.CodeDoes", spec := "codeDoes", unfollowed := true, recurses := true, loops := true, apart := false }
def CodeDoesSaid : Prop := codeDoesRow.holds Try.pinned (OpenSpec.ofChange codeDoesSpec)

/-- ITS FALSE NEIGHBOUR: 'it returns false'. Refute it at one input. -/
def codeDoesWrong : ChangeSpec := { name := "codeDoes", fn := fun _ => fun
  | [d1, d2, d3] => { results := [.lit (.bool false)], args := [d1, d2, d3] }
  | _ => none }
def CodeDoesWrongFalsely : Prop := codeDoesRow.holds Try.pinned (OpenSpec.ofChange codeDoesWrong)

/- THE SECOND FORM. 'bulk': how many values and letters a reading holds, each counted each time it is reached (what is shared counts as often as it is met; a slice's spare places count too). A statement '..UptoSaid' is the law's where the arguments, and the package variables that the reading takes, are together of bulk at most 1048576: NARROWER than '..Said'. Prove '..Said' where nothing that the law and all that it calls make is longer than what came in: it says more and counts as full. Else prove '..UptoSaid'. A law counts once. -/
mutual
def uptoBulk {H : Type} : DataW H → Nat
  | .lit (.string bytes) => bytes.length + 1
  | .lit _ => 1
  | .nil => 1
  | .ptr d => uptoBulk d + 1
  | .slice elems spare => uptoBulkAll elems + uptoBulkAll spare + 1
  | .agg parts => uptoBulkAll parts + 1
  | .iface _ d => uptoBulk d + 1
  | .map entries => uptoBulkEntries entries + 1
  | .held _ => 1
def uptoBulkAll {H : Type} : List (DataW H) → Nat
  | [] => 0
  | d :: r => uptoBulk d + uptoBulkAll r
def uptoBulkEntries {H : Type} : List (Lit × DataW H) → Nat
  | [] => 0
  | x :: r => uptoBulkEntry x + uptoBulkEntries r
def uptoBulkEntry {H : Type} : Lit × DataW H → Nat
  | (.string bytes, d) => bytes.length + uptoBulk d + 1
  | (_, d) => uptoBulk d + 1
 end
def uptoSmall : (H : Type) → List (DataW H) → Bool := fun _ ds => decide (uptoBulkAll ds ≤ 1048576)
def OpenSpec.upto (s : _root_.Go.ChangeSpec) : _root_.Go.OpenSpec := { _root_.Go.OpenSpec.ofChange s with cond := some uptoSmall }

/-- 'letterlocklaw.WorldDoes', WHERE WHAT IT READS IS OF BULK AT MOST 1048576: true; the input reads as it did. -/
def worldDoesUptoRow : OpenClaim := { program := "ytacocolcighomaa", sum := "295c3bff663ce609ba3a37cc79a6e87bd3f406a2d29d2fde6cb6487d2971e15d", func := "letterlock/letterlocklaw.WorldDoes", spec := "worldDoes", apart := false, narrowed := true }
def WorldDoesUptoSaid : Prop := worldDoesUptoRow.holds Try.pinned (OpenSpec.upto worldDoesSpec)

/-- 'letterlocklaw.WorldAlone', WHERE WHAT IT READS IS OF BULK AT MOST 1048576: true; the input reads as it did. -/
def worldAloneUptoRow : OpenClaim := { program := "ytacocolcighomaa", sum := "295c3bff663ce609ba3a37cc79a6e87bd3f406a2d29d2fde6cb6487d2971e15d", func := "letterlock/letterlocklaw.WorldAlone", spec := "worldAlone", apart := false, narrowed := true }
def WorldAloneUptoSaid : Prop := worldAloneUptoRow.holds Try.pinned (OpenSpec.upto worldAloneSpec)

/-- 'letterlocklaw.RightsMeet', WHERE WHAT IT READS IS OF BULK AT MOST 1048576: true; the input reads as it did. -/
def rightsMeetUptoRow : OpenClaim := { program := "ytacocolcighomaa", sum := "295c3bff663ce609ba3a37cc79a6e87bd3f406a2d29d2fde6cb6487d2971e15d", func := "letterlock/letterlocklaw.RightsMeet", spec := "rightsMeet", inPlace := ["internal/bytealg.IndexByteString"], apart := false, narrowed := true }
def RightsMeetUptoSaid : Prop := rightsMeetUptoRow.holds Try.pinned (OpenSpec.upto rightsMeetSpec)

/-- 'letterlocklaw.RightsDoes', WHERE WHAT IT READS IS OF BULK AT MOST 1048576: true; the input reads as it did. -/
def rightsDoesUptoRow : OpenClaim := { program := "ytacocolcighomaa", sum := "295c3bff663ce609ba3a37cc79a6e87bd3f406a2d29d2fde6cb6487d2971e15d", func := "letterlock/letterlocklaw.RightsDoes", spec := "rightsDoes", inPlace := ["internal/bytealg.IndexByteString"], apart := false, narrowed := true }
def RightsDoesUptoSaid : Prop := rightsDoesUptoRow.holds Try.pinned (OpenSpec.upto rightsDoesSpec)

/-- 'letterlocklaw.RightsBack', WHERE WHAT IT READS IS OF BULK AT MOST 1048576: true; the input reads as it did. -/
def rightsBackUptoRow : OpenClaim := { program := "ytacocolcighomaa", sum := "295c3bff663ce609ba3a37cc79a6e87bd3f406a2d29d2fde6cb6487d2971e15d", func := "letterlock/letterlocklaw.RightsBack", spec := "rightsBack", inPlace := ["internal/bytealg.IndexByteString"], apart := false, narrowed := true }
def RightsBackUptoSaid : Prop := rightsBackUptoRow.holds Try.pinned (OpenSpec.upto rightsBackSpec)

/-- 'letterlocklaw.GraphWays', WHERE WHAT IT READS IS OF BULK AT MOST 1048576: true; the input reads as it did. -/
def graphWaysUptoRow : OpenClaim := { program := "ytacocolcighomaa", sum := "295c3bff663ce609ba3a37cc79a6e87bd3f406a2d29d2fde6cb6487d2971e15d", func := "letterlock/letterlocklaw.GraphWays", spec := "graphWays", apart := false, narrowed := true }
def GraphWaysUptoSaid : Prop := graphWaysUptoRow.holds Try.pinned (OpenSpec.upto graphWaysSpec)

/-- 'letterlocklaw.GraphDoes', WHERE WHAT IT READS IS OF BULK AT MOST 1048576: true; the input reads as it did. -/
def graphDoesUptoRow : OpenClaim := { program := "ytacocolcighomaa", sum := "295c3bff663ce609ba3a37cc79a6e87bd3f406a2d29d2fde6cb6487d2971e15d", func := "letterlock/letterlocklaw.GraphDoes", spec := "graphDoes", recurses := true, apart := false, narrowed := true }
def GraphDoesUptoSaid : Prop := graphDoesUptoRow.holds Try.pinned (OpenSpec.upto graphDoesSpec)

/-- 'letterlocklaw.GraphNarrows', WHERE WHAT IT READS IS OF BULK AT MOST 1048576: true; the input reads as it did. -/
def graphNarrowsUptoRow : OpenClaim := { program := "ytacocolcighomaa", sum := "295c3bff663ce609ba3a37cc79a6e87bd3f406a2d29d2fde6cb6487d2971e15d", func := "letterlock/letterlocklaw.GraphNarrows", spec := "graphNarrows", apart := false, narrowed := true }
def GraphNarrowsUptoSaid : Prop := graphNarrowsUptoRow.holds Try.pinned (OpenSpec.upto graphNarrowsSpec)

/-- 'letterlocklaw.GraphCuts', WHERE WHAT IT READS IS OF BULK AT MOST 1048576: true; the input reads as it did. -/
def graphCutsUptoRow : OpenClaim := { program := "ytacocolcighomaa", sum := "295c3bff663ce609ba3a37cc79a6e87bd3f406a2d29d2fde6cb6487d2971e15d", func := "letterlock/letterlocklaw.GraphCuts", spec := "graphCuts", apart := false, narrowed := true }
def GraphCutsUptoSaid : Prop := graphCutsUptoRow.holds Try.pinned (OpenSpec.upto graphCutsSpec)

/-- 'letterlocklaw.CodeEach', WHERE WHAT IT READS IS OF BULK AT MOST 1048576: true; the input reads as it did. -/
def codeEachUptoRow : OpenClaim := { program := "ytacocolcighomaa", sum := "295c3bff663ce609ba3a37cc79a6e87bd3f406a2d29d2fde6cb6487d2971e15d", func := "letterlock/letterlocklaw.CodeEach", spec := "codeEach", unfollowed := true, recurses := true, loops := true, apart := false, narrowed := true }
def CodeEachUptoSaid : Prop := codeEachUptoRow.holds Try.pinned (OpenSpec.upto codeEachSpec)

/-- 'letterlocklaw.CodeDoes', WHERE WHAT IT READS IS OF BULK AT MOST 1048576: true; the input reads as it did. -/
def codeDoesUptoRow : OpenClaim := { program := "ytacocolcighomaa", sum := "295c3bff663ce609ba3a37cc79a6e87bd3f406a2d29d2fde6cb6487d2971e15d", func := "letterlock/letterlocklaw.CodeDoes", spec := "codeDoes", unfollowed := true, recurses := true, loops := true, apart := false, narrowed := true }
def CodeDoesUptoSaid : Prop := codeDoesUptoRow.holds Try.pinned (OpenSpec.upto codeDoesSpec)

end Rows
end Go.Proofs.Ytacocolcighomaa
