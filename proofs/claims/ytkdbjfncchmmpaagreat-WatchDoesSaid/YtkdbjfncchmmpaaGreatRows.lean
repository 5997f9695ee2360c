/-
  NARROWER THAN 'FOR EVERY INPUT', by the rows' own cells (each row's printed sentence says how): VmSame: loops · VmRuns: loops · HouseDoes: loops · WatchDoes: loops · WatchStays: loops.
  DERIVED. THE GIVEN ROWS OF THIS SEAT. 5 by the template 'for every input the law returns true; each argument reads behind the call as it read before'; 0 by the template 'total and deterministic' (their statements: YtkdbjfncchmmpaaGreatTotals.lean).
  GIVEN WITH THE SEED: the statements are not yours to turn. If you find one false, say at which input.
  Laid BY PROGRAM, IN A SANDBOX (cutbox-rows.mjs): the forced cells as the released guide's own fill.sh prints them over the translation d022bff37fc27fb8… (all of the seat's roots in one cut). By AI agents, Wed Nov 11 2026. No macro, syntax, notation, axiom, sorry.
-/
import Derived.Test.YtkdbjfncchmmpaaGreatChecked
import GoSem.Claim
import GoSem.ClaimJoined
import GoSem.ClaimMapViews
import Derived.JoinedTies
import Derived.KernelRfl
namespace Go.Proofs.YtkdbjfncchmmpaaGreat
/- THE CELL 'sum', in the pinned program and in every row, IS THE sha256 OF THE DUMP (.gsa) THAT YtkdbjfncchmmpaaGreatProg.lean LOADS. Nothing in Lean hashes anything: it is a label: what it is worth is what the hold of that sum in a sandbox is worth. -/
noncomputable def Tryz.pinned : Pinned := { name := "ytkdbjfncchmmpaagreat", sum := "d022bff37fc27fb8670b7cb3ee171c1716445bc7fa722b9192b55808bd45ffb4", checked := Tryz.checked }
namespace Rows
def none {H : Type} : Left H := { results := [], args := [] }

/-- 'letterlocklaw.VmSame': WHATEVER THE INPUT: true; the input reads as it did. -/
def vmSameSpec : ChangeSpec := { name := "vmSame", fn := fun _ => fun
  | [d1, d2, d3] => { results := [.lit (.bool true)], args := [d1, d2, d3] }
  | _ => none }
def vmSameRow : OpenClaim := { program := "ytkdbjfncchmmpaagreat", sum := "d022bff37fc27fb8670b7cb3ee171c1716445bc7fa722b9192b55808bd45ffb4", func := "letterlock/letterlocklaw.VmSame", spec := "vmSame", unfollowed := true, recurses := true, loops := true, apart := false }
def VmSameSaid : Prop := vmSameRow.holds Tryz.pinned (OpenSpec.ofChange vmSameSpec)

/-- ITS FALSE NEIGHBOUR: 'it returns false'. Refute it at one input. -/
def vmSameWrong : ChangeSpec := { name := "vmSame", fn := fun _ => fun
  | [d1, d2, d3] => { results := [.lit (.bool false)], args := [d1, d2, d3] }
  | _ => none }
def VmSameWrongFalsely : Prop := vmSameRow.holds Tryz.pinned (OpenSpec.ofChange vmSameWrong)

/-- 'letterlocklaw.VmRuns': WHATEVER THE INPUT: true; the input reads as it did. -/
def vmRunsSpec : ChangeSpec := { name := "vmRuns", fn := fun _ => fun
  | [d1, d2, d3] => { results := [.lit (.bool true)], args := [d1, d2, d3] }
  | _ => none }
def vmRunsRow : OpenClaim := { program := "ytkdbjfncchmmpaagreat", sum := "d022bff37fc27fb8670b7cb3ee171c1716445bc7fa722b9192b55808bd45ffb4", func := "letterlock/letterlocklaw.VmRuns", spec := "vmRuns", unfollowed := true, recurses := true, loops := true, apart := false }
def VmRunsSaid : Prop := vmRunsRow.holds Tryz.pinned (OpenSpec.ofChange vmRunsSpec)

/-- ITS FALSE NEIGHBOUR: 'it returns false'. Refute it at one input. -/
def vmRunsWrong : ChangeSpec := { name := "vmRuns", fn := fun _ => fun
  | [d1, d2, d3] => { results := [.lit (.bool false)], args := [d1, d2, d3] }
  | _ => none }
def VmRunsWrongFalsely : Prop := vmRunsRow.holds Tryz.pinned (OpenSpec.ofChange vmRunsWrong)

/-- 'letterlocklaw.HouseDoes': WHATEVER THE INPUT: true; the input reads as it did. -/
def houseDoesSpec : ChangeSpec := { name := "houseDoes", fn := fun _ => fun
  | [d] => { results := [.lit (.bool true)], args := [d] }
  | _ => none }
def houseDoesRow : OpenClaim := { program := "ytkdbjfncchmmpaagreat", sum := "d022bff37fc27fb8670b7cb3ee171c1716445bc7fa722b9192b55808bd45ffb4", func := "letterlock/letterlocklaw.HouseDoes", spec := "houseDoes", unfollowed := true, recurses := true, loops := true, apart := false }
def HouseDoesSaid : Prop := houseDoesRow.holds Tryz.pinned (OpenSpec.ofChange houseDoesSpec)

/-- ITS FALSE NEIGHBOUR: 'it returns false'. Refute it at one input. -/
def houseDoesWrong : ChangeSpec := { name := "houseDoes", fn := fun _ => fun
  | [d] => { results := [.lit (.bool false)], args := [d] }
  | _ => none }
def HouseDoesWrongFalsely : Prop := houseDoesRow.holds Tryz.pinned (OpenSpec.ofChange houseDoesWrong)

/-- 'letterlocklaw.WatchDoes': WHATEVER THE INPUT: true; the input reads as it did. -/
def watchDoesSpec : ChangeSpec := { name := "watchDoes", fn := fun _ => fun
  | [d1, d2, d3, d4] => { results := [.lit (.bool true)], args := [d1, d2, d3, d4] }
  | _ => none }
def watchDoesRow : OpenClaim := { program := "ytkdbjfncchmmpaagreat", sum := "d022bff37fc27fb8670b7cb3ee171c1716445bc7fa722b9192b55808bd45ffb4", func := "letterlock/letterlocklaw.WatchDoes", spec := "watchDoes", unfollowed := true, recurses := true, loops := true, apart := false }
def WatchDoesSaid : Prop := watchDoesRow.holds Tryz.pinned (OpenSpec.ofChange watchDoesSpec)

/-- ITS FALSE NEIGHBOUR: 'it returns false'. Refute it at one input. -/
def watchDoesWrong : ChangeSpec := { name := "watchDoes", fn := fun _ => fun
  | [d1, d2, d3, d4] => { results := [.lit (.bool false)], args := [d1, d2, d3, d4] }
  | _ => none }
def WatchDoesWrongFalsely : Prop := watchDoesRow.holds Tryz.pinned (OpenSpec.ofChange watchDoesWrong)

/-- 'letterlocklaw.WatchStays': WHATEVER THE INPUT: true; the input reads as it did. -/
def watchStaysSpec : ChangeSpec := { name := "watchStays", fn := fun _ => fun
  | [d1, d2, d3, d4, d5] => { results := [.lit (.bool true)], args := [d1, d2, d3, d4, d5] }
  | _ => none }
def watchStaysRow : OpenClaim := { program := "ytkdbjfncchmmpaagreat", sum := "d022bff37fc27fb8670b7cb3ee171c1716445bc7fa722b9192b55808bd45ffb4", func := "letterlock/letterlocklaw.WatchStays", spec := "watchStays", unfollowed := true, recurses := true, loops := true, apart := false }
def WatchStaysSaid : Prop := watchStaysRow.holds Tryz.pinned (OpenSpec.ofChange watchStaysSpec)

/-- ITS FALSE NEIGHBOUR: 'it returns false'. Refute it at one input. -/
def watchStaysWrong : ChangeSpec := { name := "watchStays", fn := fun _ => fun
  | [d1, d2, d3, d4, d5] => { results := [.lit (.bool false)], args := [d1, d2, d3, d4, d5] }
  | _ => none }
def WatchStaysWrongFalsely : Prop := watchStaysRow.holds Tryz.pinned (OpenSpec.ofChange watchStaysWrong)

/- THE SECOND FORM. 'bulk': how many values and letters a reading holds, each counted each time it is reached (what is shared counts as often as it is met; a slice's spare places count too). A statement '..UptoSaid' is the law's where the arguments, and the package variables that the reading takes, are together of bulk at most 1048576: NARROWER than '..Said'. Prove '..Said' where nothing that the law and all that it calls make is longer than what came in: it says more and counts as full. Else prove '..UptoSaid'. A law counts once. -/
mutual
def uptoBulk {H : Type} : DataW H → Nat
  | .lit (.string bytes) => bytes.length + 1
  | .lit _ => 1
  | .nil => 1
  | .ptr d => uptoBulk d + 1
  | .slice elems spare => uptoBulkAll elems + uptoBulkAll spare + 1
  | .agg parts => uptoBulkAll parts + 1
  | .iface _ d => uptoBulk d + 1
  | .map entries => uptoBulkEntries entries + 1
  | .held _ => 1
def uptoBulkAll {H : Type} : List (DataW H) → Nat
  | [] => 0
  | d :: r => uptoBulk d + uptoBulkAll r
def uptoBulkEntries {H : Type} : List (Lit × DataW H) → Nat
  | [] => 0
  | x :: r => uptoBulkEntry x + uptoBulkEntries r
def uptoBulkEntry {H : Type} : Lit × DataW H → Nat
  | (.string bytes, d) => bytes.length + uptoBulk d + 1
  | (_, d) => uptoBulk d + 1
 end
def uptoSmall : (H : Type) → List (DataW H) → Bool := fun _ ds => decide (uptoBulkAll ds ≤ 1048576)
def OpenSpec.upto (s : _root_.Go.ChangeSpec) : _root_.Go.OpenSpec := { _root_.Go.OpenSpec.ofChange s with cond := some uptoSmall }

/-- 'letterlocklaw.VmSame', WHERE WHAT IT READS IS OF BULK AT MOST 1048576: true; the input reads as it did. -/
def vmSameUptoRow : OpenClaim := { program := "ytkdbjfncchmmpaagreat", sum := "d022bff37fc27fb8670b7cb3ee171c1716445bc7fa722b9192b55808bd45ffb4", func := "letterlock/letterlocklaw.VmSame", spec := "vmSame", unfollowed := true, recurses := true, loops := true, apart := false, narrowed := true }
def VmSameUptoSaid : Prop := vmSameUptoRow.holds Tryz.pinned (OpenSpec.upto vmSameSpec)

/-- 'letterlocklaw.VmRuns', WHERE WHAT IT READS IS OF BULK AT MOST 1048576: true; the input reads as it did. -/
def vmRunsUptoRow : OpenClaim := { program := "ytkdbjfncchmmpaagreat", sum := "d022bff37fc27fb8670b7cb3ee171c1716445bc7fa722b9192b55808bd45ffb4", func := "letterlock/letterlocklaw.VmRuns", spec := "vmRuns", unfollowed := true, recurses := true, loops := true, apart := false, narrowed := true }
def VmRunsUptoSaid : Prop := vmRunsUptoRow.holds Tryz.pinned (OpenSpec.upto vmRunsSpec)

/-- 'letterlocklaw.HouseDoes', WHERE WHAT IT READS IS OF BULK AT MOST 1048576: true; the input reads as it did. -/
def houseDoesUptoRow : OpenClaim := { program := "ytkdbjfncchmmpaagreat", sum := "d022bff37fc27fb8670b7cb3ee171c1716445bc7fa722b9192b55808bd45ffb4", func := "letterlock/letterlocklaw.HouseDoes", spec := "houseDoes", unfollowed := true, recurses := true, loops := true, apart := false, narrowed := true }
def HouseDoesUptoSaid : Prop := houseDoesUptoRow.holds Tryz.pinned (OpenSpec.upto houseDoesSpec)

/-- 'letterlocklaw.WatchDoes', WHERE WHAT IT READS IS OF BULK AT MOST 1048576: true; the input reads as it did. -/
def watchDoesUptoRow : OpenClaim := { program := "ytkdbjfncchmmpaagreat", sum := "d022bff37fc27fb8670b7cb3ee171c1716445bc7fa722b9192b55808bd45ffb4", func := "letterlock/letterlocklaw.WatchDoes", spec := "watchDoes", unfollowed := true, recurses := true, loops := true, apart := false, narrowed := true }
def WatchDoesUptoSaid : Prop := watchDoesUptoRow.holds Tryz.pinned (OpenSpec.upto watchDoesSpec)

/-- 'letterlocklaw.WatchStays', WHERE WHAT IT READS IS OF BULK AT MOST 1048576: true; the input reads as it did. -/
def watchStaysUptoRow : OpenClaim := { program := "ytkdbjfncchmmpaagreat", sum := "d022bff37fc27fb8670b7cb3ee171c1716445bc7fa722b9192b55808bd45ffb4", func := "letterlock/letterlocklaw.WatchStays", spec := "watchStays", unfollowed := true, recurses := true, loops := true, apart := false, narrowed := true }
def WatchStaysUptoSaid : Prop := watchStaysUptoRow.holds Tryz.pinned (OpenSpec.upto watchStaysSpec)

end Rows
end Go.Proofs.YtkdbjfncchmmpaaGreat
