/-
  DERIVED. GIVEN WITH THE SEED: THE CARDS: each row of YtodehiopdkgoeaaDoorRows.lean that lists a variable, with what it lists TIED to the program's text (the seventh form; the later family's looks); each row that meets fmt, with fmt's text TOLD by the authors' own Lean function (tested against real Go, not proved from fmt's source: count such statements apart). THE CARD IS WHAT COUNTS. Prove the row's statement (the work); the ties are given (YtodehiopdkgoeaaDoorTie.lean); close each card by the builder's one call (the guide's Derived/Test/ToyasCard.lean, 'card_holds'). Laid BY PROGRAM, IN A SANDBOX (cutbox-door.mjs). By AI agents, Wed Nov 11 2026. No macro, syntax, notation, axiom, sorry.
-/
import Derived.Test.YtodehiopdkgoeaaDoorRows
import GoSem.ClaimSeven
namespace Go.Proofs.YtodehiopdkgoeaaDoor
namespace Rows

/-- THE TIED CARD OF 'letterlocklaw.ValsDoes'. -/
def valsDoesCard : Claim7 := { stood := { row := valsDoesRow, standIns := [], harness := (true, "dce46f9612a078acc67b0838e82ff7eda4c3012a731a119ef0f0e3a247210e60"), looks := true }, kinds := [], alts := [], laidByText := true, laidKinds := [.data, .data, .data], laidTests := true, laidLooks := .later }
def ValsDoesCardSaid : Prop := Claim7.holds Tryd.pinned (.plain (OpenSpec.ofChange valsDoesSpec)) valsDoesCard

/-- THE TIED CARD OF 'letterlocklaw.ValsApart'. -/
def valsApartCard : Claim7 := { stood := { row := valsApartRow, standIns := [], harness := (true, "dce46f9612a078acc67b0838e82ff7eda4c3012a731a119ef0f0e3a247210e60"), looks := true }, kinds := [], alts := [], laidByText := true, laidKinds := [.data, .data, .data], laidTests := true, laidLooks := .later }
def ValsApartCardSaid : Prop := Claim7.holds Tryd.pinned (.plain (OpenSpec.ofChange valsApartSpec)) valsApartCard

/-- THE TIED CARD OF 'letterlocklaw.ValsParts'. -/
def valsPartsCard : Claim7 := { stood := { row := valsPartsRow, standIns := [], harness := (true, "dce46f9612a078acc67b0838e82ff7eda4c3012a731a119ef0f0e3a247210e60"), looks := true }, kinds := [], alts := [], laidByText := true, laidKinds := [.data, .data, .data], laidTests := true, laidLooks := .later }
def ValsPartsCardSaid : Prop := Claim7.holds Tryd.pinned (.plain (OpenSpec.ofChange valsPartsSpec)) valsPartsCard

/-- THE TIED CARD OF 'letterlocklaw.RenderPrints'. -/
def renderPrintsCard : Claim7 := { stood := { row := renderPrintsRow, standIns := [], harness := (true, "dce46f9612a078acc67b0838e82ff7eda4c3012a731a119ef0f0e3a247210e60"), looks := true }, kinds := [], alts := [], laidByText := true, laidKinds := [.data, .data, .data], laidTests := true, laidLooks := .later }
def RenderPrintsCardSaid : Prop := Claim7.holds Tryd.pinned (.plain (OpenSpec.ofChange renderPrintsSpec)) renderPrintsCard

/-- THE TIED CARD OF 'letterlocklaw.RenderApart'. -/
def renderApartCard : Claim7 := { stood := { row := renderApartRow, standIns := [], harness := (true, "dce46f9612a078acc67b0838e82ff7eda4c3012a731a119ef0f0e3a247210e60"), looks := true }, kinds := [], alts := [], laidByText := true, laidKinds := [.data, .data, .data], laidTests := true, laidLooks := .later }
def RenderApartCardSaid : Prop := Claim7.holds Tryd.pinned (.plain (OpenSpec.ofChange renderApartSpec)) renderApartCard

/-- THE TIED CARD OF 'letterlocklaw.TokenScans'. -/
def tokenScansCard : Claim7 := { stood := { row := tokenScansRow, standIns := [], harness := (true, "dce46f9612a078acc67b0838e82ff7eda4c3012a731a119ef0f0e3a247210e60"), looks := true }, kinds := [], alts := [], laidByText := true, laidKinds := [.data, .data, .data, .sentinel, .sentinel], laidTests := true, laidLooks := .later }
def TokenScansCardSaid : Prop := Claim7.holds Tryd.pinned (.plain (OpenSpec.ofChange tokenScansSpec)) tokenScansCard

/-- THE TIED CARD OF 'letterlocklaw.TokenBack'. -/
def tokenBackCard : Claim7 := { stood := { row := tokenBackRow, standIns := [], harness := (true, "dce46f9612a078acc67b0838e82ff7eda4c3012a731a119ef0f0e3a247210e60"), looks := true }, kinds := [], alts := [], laidByText := true, laidKinds := [.data, .data, .data, .sentinel, .sentinel], laidTests := true, laidLooks := .later }
def TokenBackCardSaid : Prop := Claim7.holds Tryd.pinned (.plain (OpenSpec.ofChange tokenBackSpec)) tokenBackCard

/-- THE SECOND FORM's CARD OF 'letterlocklaw.ValsDoes'. -/
def valsDoesUptoCard : Claim7 := { stood := { row := valsDoesUptoRow, standIns := [], harness := (true, "dce46f9612a078acc67b0838e82ff7eda4c3012a731a119ef0f0e3a247210e60"), looks := true }, kinds := [], alts := [], laidByText := true, laidKinds := [.data, .data, .data], laidTests := true, laidLooks := .later }
def ValsDoesUptoCardSaid : Prop := Claim7.holds Tryd.pinned (.plain (OpenSpec.upto valsDoesSpec)) valsDoesUptoCard

/-- THE SECOND FORM's CARD OF 'letterlocklaw.ValsApart'. -/
def valsApartUptoCard : Claim7 := { stood := { row := valsApartUptoRow, standIns := [], harness := (true, "dce46f9612a078acc67b0838e82ff7eda4c3012a731a119ef0f0e3a247210e60"), looks := true }, kinds := [], alts := [], laidByText := true, laidKinds := [.data, .data, .data], laidTests := true, laidLooks := .later }
def ValsApartUptoCardSaid : Prop := Claim7.holds Tryd.pinned (.plain (OpenSpec.upto valsApartSpec)) valsApartUptoCard

/-- THE SECOND FORM's CARD OF 'letterlocklaw.ValsParts'. -/
def valsPartsUptoCard : Claim7 := { stood := { row := valsPartsUptoRow, standIns := [], harness := (true, "dce46f9612a078acc67b0838e82ff7eda4c3012a731a119ef0f0e3a247210e60"), looks := true }, kinds := [], alts := [], laidByText := true, laidKinds := [.data, .data, .data], laidTests := true, laidLooks := .later }
def ValsPartsUptoCardSaid : Prop := Claim7.holds Tryd.pinned (.plain (OpenSpec.upto valsPartsSpec)) valsPartsUptoCard

/-- THE SECOND FORM's CARD OF 'letterlocklaw.RenderPrints'. -/
def renderPrintsUptoCard : Claim7 := { stood := { row := renderPrintsUptoRow, standIns := [], harness := (true, "dce46f9612a078acc67b0838e82ff7eda4c3012a731a119ef0f0e3a247210e60"), looks := true }, kinds := [], alts := [], laidByText := true, laidKinds := [.data, .data, .data], laidTests := true, laidLooks := .later }
def RenderPrintsUptoCardSaid : Prop := Claim7.holds Tryd.pinned (.plain (OpenSpec.upto renderPrintsSpec)) renderPrintsUptoCard

/-- THE SECOND FORM's CARD OF 'letterlocklaw.RenderApart'. -/
def renderApartUptoCard : Claim7 := { stood := { row := renderApartUptoRow, standIns := [], harness := (true, "dce46f9612a078acc67b0838e82ff7eda4c3012a731a119ef0f0e3a247210e60"), looks := true }, kinds := [], alts := [], laidByText := true, laidKinds := [.data, .data, .data], laidTests := true, laidLooks := .later }
def RenderApartUptoCardSaid : Prop := Claim7.holds Tryd.pinned (.plain (OpenSpec.upto renderApartSpec)) renderApartUptoCard

/-- THE SECOND FORM's CARD OF 'letterlocklaw.TokenScans'. -/
def tokenScansUptoCard : Claim7 := { stood := { row := tokenScansUptoRow, standIns := [], harness := (true, "dce46f9612a078acc67b0838e82ff7eda4c3012a731a119ef0f0e3a247210e60"), looks := true }, kinds := [], alts := [], laidByText := true, laidKinds := [.data, .data, .data, .sentinel, .sentinel], laidTests := true, laidLooks := .later }
def TokenScansUptoCardSaid : Prop := Claim7.holds Tryd.pinned (.plain (OpenSpec.upto tokenScansSpec)) tokenScansUptoCard

/-- THE SECOND FORM's CARD OF 'letterlocklaw.TokenBack'. -/
def tokenBackUptoCard : Claim7 := { stood := { row := tokenBackUptoRow, standIns := [], harness := (true, "dce46f9612a078acc67b0838e82ff7eda4c3012a731a119ef0f0e3a247210e60"), looks := true }, kinds := [], alts := [], laidByText := true, laidKinds := [.data, .data, .data, .sentinel, .sentinel], laidTests := true, laidLooks := .later }
def TokenBackUptoCardSaid : Prop := Claim7.holds Tryd.pinned (.plain (OpenSpec.upto tokenBackSpec)) tokenBackUptoCard
end Rows
end Go.Proofs.YtodehiopdkgoeaaDoor
