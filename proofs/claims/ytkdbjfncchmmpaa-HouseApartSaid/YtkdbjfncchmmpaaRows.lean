/-
  NARROWER THAN 'FOR EVERY INPUT', by the rows' own cells (each row's printed sentence says how): VmFuel: loops · VmSeals: loops · HouseApart: loops · HouseFresh: loops · HouseRefuses: loops · WatchCut: loops · WatchGiven: loops.
  DERIVED. THE GIVEN ROWS OF THIS SEAT. 8 by the template 'for every input the law returns true; each argument reads behind the call as it read before'; 0 by the template 'total and deterministic' (their statements: YtkdbjfncchmmpaaTotals.lean).
  GIVEN WITH THE SEED: the statements are not yours to turn. If you find one false, say at which input.
  Laid BY PROGRAM, IN A SANDBOX (cutbox-rows.mjs): the forced cells as the released guide's own fill.sh prints them over the translation 1f464c8148aa4563… (all of the seat's roots in one cut). By AI agents, Wed Nov 11 2026. No macro, syntax, notation, axiom, sorry.
-/
import Derived.Test.YtkdbjfncchmmpaaChecked
import GoSem.Claim
import GoSem.ClaimJoined
import GoSem.ClaimMapViews
import Derived.JoinedTies
import Derived.KernelRfl
namespace Go.Proofs.Ytkdbjfncchmmpaa
/- THE CELL 'sum', in the pinned program and in every row, IS THE sha256 OF THE DUMP (.gsa) THAT YtkdbjfncchmmpaaProg.lean LOADS. Nothing in Lean hashes anything: it is a label: what it is worth is what the hold of that sum in a sandbox is worth. -/
noncomputable def Try.pinned : Pinned := { name := "ytkdbjfncchmmpaa", sum := "1f464c8148aa4563ba9f77b9ac4b3a2e2be36b0d2b136dd0d94dd20781e9265f", checked := Try.checked }
namespace Rows
def none {H : Type} : Left H := { results := [], args := [] }

/-- 'letterlocklaw.VmArith': WHATEVER THE INPUT: true; the input reads as it did. -/
def vmArithSpec : ChangeSpec := { name := "vmArith", fn := fun _ => fun
  | [d1, d2, d3] => { results := [.lit (.bool true)], args := [d1, d2, d3] }
  | _ => none }
def vmArithRow : OpenClaim := { program := "ytkdbjfncchmmpaa", sum := "1f464c8148aa4563ba9f77b9ac4b3a2e2be36b0d2b136dd0d94dd20781e9265f", func := "letterlock/letterlocklaw.VmArith", spec := "vmArith", unfollowed := true, recurses := true, apart := false }
def VmArithSaid : Prop := vmArithRow.holds Try.pinned (OpenSpec.ofChange vmArithSpec)

/-- ITS FALSE NEIGHBOUR: 'it returns false'. Refute it at one input. -/
def vmArithWrong : ChangeSpec := { name := "vmArith", fn := fun _ => fun
  | [d1, d2, d3] => { results := [.lit (.bool false)], args := [d1, d2, d3] }
  | _ => none }
def VmArithWrongFalsely : Prop := vmArithRow.holds Try.pinned (OpenSpec.ofChange vmArithWrong)

/-- 'letterlocklaw.VmFuel': WHATEVER THE INPUT: true; the input reads as it did. -/
def vmFuelSpec : ChangeSpec := { name := "vmFuel", fn := fun _ => fun
  | [d1, d2, d3, d4] => { results := [.lit (.bool true)], args := [d1, d2, d3, d4] }
  | _ => none }
def vmFuelRow : OpenClaim := { program := "ytkdbjfncchmmpaa", sum := "1f464c8148aa4563ba9f77b9ac4b3a2e2be36b0d2b136dd0d94dd20781e9265f", func := "letterlock/letterlocklaw.VmFuel", spec := "vmFuel", unfollowed := true, recurses := true, loops := true, apart := false }
def VmFuelSaid : Prop := vmFuelRow.holds Try.pinned (OpenSpec.ofChange vmFuelSpec)

/-- ITS FALSE NEIGHBOUR: 'it returns false'. Refute it at one input. -/
def vmFuelWrong : ChangeSpec := { name := "vmFuel", fn := fun _ => fun
  | [d1, d2, d3, d4] => { results := [.lit (.bool false)], args := [d1, d2, d3, d4] }
  | _ => none }
def VmFuelWrongFalsely : Prop := vmFuelRow.holds Try.pinned (OpenSpec.ofChange vmFuelWrong)

/-- 'letterlocklaw.VmSeals': WHATEVER THE INPUT: true; the input reads as it did. -/
def vmSealsSpec : ChangeSpec := { name := "vmSeals", fn := fun _ => fun
  | [d1, d2, d3] => { results := [.lit (.bool true)], args := [d1, d2, d3] }
  | _ => none }
def vmSealsRow : OpenClaim := { program := "ytkdbjfncchmmpaa", sum := "1f464c8148aa4563ba9f77b9ac4b3a2e2be36b0d2b136dd0d94dd20781e9265f", func := "letterlock/letterlocklaw.VmSeals", spec := "vmSeals", unfollowed := true, recurses := true, loops := true, apart := false }
def VmSealsSaid : Prop := vmSealsRow.holds Try.pinned (OpenSpec.ofChange vmSealsSpec)

/-- ITS FALSE NEIGHBOUR: 'it returns false'. Refute it at one input. -/
def vmSealsWrong : ChangeSpec := { name := "vmSeals", fn := fun _ => fun
  | [d1, d2, d3] => { results := [.lit (.bool false)], args := [d1, d2, d3] }
  | _ => none }
def VmSealsWrongFalsely : Prop := vmSealsRow.holds Try.pinned (OpenSpec.ofChange vmSealsWrong)

/-- 'letterlocklaw.HouseApart': WHATEVER THE INPUT: true; the input reads as it did. -/
def houseApartSpec : ChangeSpec := { name := "houseApart", fn := fun _ => fun
  | [d1, d2] => { results := [.lit (.bool true)], args := [d1, d2] }
  | _ => none }
def houseApartRow : OpenClaim := { program := "ytkdbjfncchmmpaa", sum := "1f464c8148aa4563ba9f77b9ac4b3a2e2be36b0d2b136dd0d94dd20781e9265f", func := "letterlock/letterlocklaw.HouseApart", spec := "houseApart", unfollowed := true, recurses := true, loops := true, apart := false }
def HouseApartSaid : Prop := houseApartRow.holds Try.pinned (OpenSpec.ofChange houseApartSpec)

/-- ITS FALSE NEIGHBOUR: 'it returns false'. Refute it at one input. -/
def houseApartWrong : ChangeSpec := { name := "houseApart", fn := fun _ => fun
  | [d1, d2] => { results := [.lit (.bool false)], args := [d1, d2] }
  | _ => none }
def HouseApartWrongFalsely : Prop := houseApartRow.holds Try.pinned (OpenSpec.ofChange houseApartWrong)

/-- 'letterlocklaw.HouseFresh': WHATEVER THE INPUT: true; the input reads as it did. -/
def houseFreshSpec : ChangeSpec := { name := "houseFresh", fn := fun _ => fun
  | [d1, d2] => { results := [.lit (.bool true)], args := [d1, d2] }
  | _ => none }
def houseFreshRow : OpenClaim := { program := "ytkdbjfncchmmpaa", sum := "1f464c8148aa4563ba9f77b9ac4b3a2e2be36b0d2b136dd0d94dd20781e9265f", func := "letterlock/letterlocklaw.HouseFresh", spec := "houseFresh", unfollowed := true, recurses := true, loops := true, apart := false }
def HouseFreshSaid : Prop := houseFreshRow.holds Try.pinned (OpenSpec.ofChange houseFreshSpec)

/-- ITS FALSE NEIGHBOUR: 'it returns false'. Refute it at one input. -/
def houseFreshWrong : ChangeSpec := { name := "houseFresh", fn := fun _ => fun
  | [d1, d2] => { results := [.lit (.bool false)], args := [d1, d2] }
  | _ => none }
def HouseFreshWrongFalsely : Prop := houseFreshRow.holds Try.pinned (OpenSpec.ofChange houseFreshWrong)

/-- 'letterlocklaw.HouseRefuses': WHATEVER THE INPUT: true; the input reads as it did. -/
def houseRefusesSpec : ChangeSpec := { name := "houseRefuses", fn := fun _ => fun
  | [d] => { results := [.lit (.bool true)], args := [d] }
  | _ => none }
def houseRefusesRow : OpenClaim := { program := "ytkdbjfncchmmpaa", sum := "1f464c8148aa4563ba9f77b9ac4b3a2e2be36b0d2b136dd0d94dd20781e9265f", func := "letterlock/letterlocklaw.HouseRefuses", spec := "houseRefuses", unfollowed := true, recurses := true, loops := true, apart := false }
def HouseRefusesSaid : Prop := houseRefusesRow.holds Try.pinned (OpenSpec.ofChange houseRefusesSpec)

/-- ITS FALSE NEIGHBOUR: 'it returns false'. Refute it at one input. -/
def houseRefusesWrong : ChangeSpec := { name := "houseRefuses", fn := fun _ => fun
  | [d] => { results := [.lit (.bool false)], args := [d] }
  | _ => none }
def HouseRefusesWrongFalsely : Prop := houseRefusesRow.holds Try.pinned (OpenSpec.ofChange houseRefusesWrong)

/-- 'letterlocklaw.WatchCut': WHATEVER THE INPUT: true; the input reads as it did. -/
def watchCutSpec : ChangeSpec := { name := "watchCut", fn := fun _ => fun
  | [d1, d2, d3] => { results := [.lit (.bool true)], args := [d1, d2, d3] }
  | _ => none }
def watchCutRow : OpenClaim := { program := "ytkdbjfncchmmpaa", sum := "1f464c8148aa4563ba9f77b9ac4b3a2e2be36b0d2b136dd0d94dd20781e9265f", func := "letterlock/letterlocklaw.WatchCut", spec := "watchCut", unfollowed := true, recurses := true, loops := true, apart := false }
def WatchCutSaid : Prop := watchCutRow.holds Try.pinned (OpenSpec.ofChange watchCutSpec)

/-- ITS FALSE NEIGHBOUR: 'it returns false'. Refute it at one input. -/
def watchCutWrong : ChangeSpec := { name := "watchCut", fn := fun _ => fun
  | [d1, d2, d3] => { results := [.lit (.bool false)], args := [d1, d2, d3] }
  | _ => none }
def WatchCutWrongFalsely : Prop := watchCutRow.holds Try.pinned (OpenSpec.ofChange watchCutWrong)

/-- 'letterlocklaw.WatchGiven': WHATEVER THE INPUT: true; the input reads as it did. -/
def watchGivenSpec : ChangeSpec := { name := "watchGiven", fn := fun _ => fun
  | [d] => { results := [.lit (.bool true)], args := [d] }
  | _ => none }
def watchGivenRow : OpenClaim := { program := "ytkdbjfncchmmpaa", sum := "1f464c8148aa4563ba9f77b9ac4b3a2e2be36b0d2b136dd0d94dd20781e9265f", func := "letterlock/letterlocklaw.WatchGiven", spec := "watchGiven", unfollowed := true, recurses := true, loops := true, apart := false }
def WatchGivenSaid : Prop := watchGivenRow.holds Try.pinned (OpenSpec.ofChange watchGivenSpec)

/-- ITS FALSE NEIGHBOUR: 'it returns false'. Refute it at one input. -/
def watchGivenWrong : ChangeSpec := { name := "watchGiven", fn := fun _ => fun
  | [d] => { results := [.lit (.bool false)], args := [d] }
  | _ => none }
def WatchGivenWrongFalsely : Prop := watchGivenRow.holds Try.pinned (OpenSpec.ofChange watchGivenWrong)

/- THE SECOND FORM. 'bulk': how many values and letters a reading holds, each counted each time it is reached (what is shared counts as often as it is met; a slice's spare places count too). A statement '..UptoSaid' is the law's where the arguments, and the package variables that the reading takes, are together of bulk at most 1048576: NARROWER than '..Said'. Prove '..Said' where nothing that the law and all that it calls make is longer than what came in: it says more and counts as full. Else prove '..UptoSaid'. A law counts once. -/
mutual
def uptoBulk {H : Type} : DataW H → Nat
  | .lit (.string bytes) => bytes.length + 1
  | .lit _ => 1
  | .nil => 1
  | .ptr d => uptoBulk d + 1
  | .slice elems spare => uptoBulkAll elems + uptoBulkAll spare + 1
  | .agg parts => uptoBulkAll parts + 1
  | .iface _ d => uptoBulk d + 1
  | .map entries => uptoBulkEntries entries + 1
  | .held _ => 1
def uptoBulkAll {H : Type} : List (DataW H) → Nat
  | [] => 0
  | d :: r => uptoBulk d + uptoBulkAll r
def uptoBulkEntries {H : Type} : List (Lit × DataW H) → Nat
  | [] => 0
  | x :: r => uptoBulkEntry x + uptoBulkEntries r
def uptoBulkEntry {H : Type} : Lit × DataW H → Nat
  | (.string bytes, d) => bytes.length + uptoBulk d + 1
  | (_, d) => uptoBulk d + 1
 end
def uptoSmall : (H : Type) → List (DataW H) → Bool := fun _ ds => decide (uptoBulkAll ds ≤ 1048576)
def OpenSpec.upto (s : _root_.Go.ChangeSpec) : _root_.Go.OpenSpec := { _root_.Go.OpenSpec.ofChange s with cond := some uptoSmall }

/-- 'letterlocklaw.VmArith', WHERE WHAT IT READS IS OF BULK AT MOST 1048576: true; the input reads as it did. -/
def vmArithUptoRow : OpenClaim := { program := "ytkdbjfncchmmpaa", sum := "1f464c8148aa4563ba9f77b9ac4b3a2e2be36b0d2b136dd0d94dd20781e9265f", func := "letterlock/letterlocklaw.VmArith", spec := "vmArith", unfollowed := true, recurses := true, apart := false, narrowed := true }
def VmArithUptoSaid : Prop := vmArithUptoRow.holds Try.pinned (OpenSpec.upto vmArithSpec)

/-- 'letterlocklaw.VmFuel', WHERE WHAT IT READS IS OF BULK AT MOST 1048576: true; the input reads as it did. -/
def vmFuelUptoRow : OpenClaim := { program := "ytkdbjfncchmmpaa", sum := "1f464c8148aa4563ba9f77b9ac4b3a2e2be36b0d2b136dd0d94dd20781e9265f", func := "letterlock/letterlocklaw.VmFuel", spec := "vmFuel", unfollowed := true, recurses := true, loops := true, apart := false, narrowed := true }
def VmFuelUptoSaid : Prop := vmFuelUptoRow.holds Try.pinned (OpenSpec.upto vmFuelSpec)

/-- 'letterlocklaw.VmSeals', WHERE WHAT IT READS IS OF BULK AT MOST 1048576: true; the input reads as it did. -/
def vmSealsUptoRow : OpenClaim := { program := "ytkdbjfncchmmpaa", sum := "1f464c8148aa4563ba9f77b9ac4b3a2e2be36b0d2b136dd0d94dd20781e9265f", func := "letterlock/letterlocklaw.VmSeals", spec := "vmSeals", unfollowed := true, recurses := true, loops := true, apart := false, narrowed := true }
def VmSealsUptoSaid : Prop := vmSealsUptoRow.holds Try.pinned (OpenSpec.upto vmSealsSpec)

/-- 'letterlocklaw.HouseApart', WHERE WHAT IT READS IS OF BULK AT MOST 1048576: true; the input reads as it did. -/
def houseApartUptoRow : OpenClaim := { program := "ytkdbjfncchmmpaa", sum := "1f464c8148aa4563ba9f77b9ac4b3a2e2be36b0d2b136dd0d94dd20781e9265f", func := "letterlock/letterlocklaw.HouseApart", spec := "houseApart", unfollowed := true, recurses := true, loops := true, apart := false, narrowed := true }
def HouseApartUptoSaid : Prop := houseApartUptoRow.holds Try.pinned (OpenSpec.upto houseApartSpec)

/-- 'letterlocklaw.HouseFresh', WHERE WHAT IT READS IS OF BULK AT MOST 1048576: true; the input reads as it did. -/
def houseFreshUptoRow : OpenClaim := { program := "ytkdbjfncchmmpaa", sum := "1f464c8148aa4563ba9f77b9ac4b3a2e2be36b0d2b136dd0d94dd20781e9265f", func := "letterlock/letterlocklaw.HouseFresh", spec := "houseFresh", unfollowed := true, recurses := true, loops := true, apart := false, narrowed := true }
def HouseFreshUptoSaid : Prop := houseFreshUptoRow.holds Try.pinned (OpenSpec.upto houseFreshSpec)

/-- 'letterlocklaw.HouseRefuses', WHERE WHAT IT READS IS OF BULK AT MOST 1048576: true; the input reads as it did. -/
def houseRefusesUptoRow : OpenClaim := { program := "ytkdbjfncchmmpaa", sum := "1f464c8148aa4563ba9f77b9ac4b3a2e2be36b0d2b136dd0d94dd20781e9265f", func := "letterlock/letterlocklaw.HouseRefuses", spec := "houseRefuses", unfollowed := true, recurses := true, loops := true, apart := false, narrowed := true }
def HouseRefusesUptoSaid : Prop := houseRefusesUptoRow.holds Try.pinned (OpenSpec.upto houseRefusesSpec)

/-- 'letterlocklaw.WatchCut', WHERE WHAT IT READS IS OF BULK AT MOST 1048576: true; the input reads as it did. -/
def watchCutUptoRow : OpenClaim := { program := "ytkdbjfncchmmpaa", sum := "1f464c8148aa4563ba9f77b9ac4b3a2e2be36b0d2b136dd0d94dd20781e9265f", func := "letterlock/letterlocklaw.WatchCut", spec := "watchCut", unfollowed := true, recurses := true, loops := true, apart := false, narrowed := true }
def WatchCutUptoSaid : Prop := watchCutUptoRow.holds Try.pinned (OpenSpec.upto watchCutSpec)

/-- 'letterlocklaw.WatchGiven', WHERE WHAT IT READS IS OF BULK AT MOST 1048576: true; the input reads as it did. -/
def watchGivenUptoRow : OpenClaim := { program := "ytkdbjfncchmmpaa", sum := "1f464c8148aa4563ba9f77b9ac4b3a2e2be36b0d2b136dd0d94dd20781e9265f", func := "letterlock/letterlocklaw.WatchGiven", spec := "watchGiven", unfollowed := true, recurses := true, loops := true, apart := false, narrowed := true }
def WatchGivenUptoSaid : Prop := watchGivenUptoRow.holds Try.pinned (OpenSpec.upto watchGivenSpec)

end Rows
end Go.Proofs.Ytkdbjfncchmmpaa
