/-
  DERIVED. GIVEN WITH THE SEED: THE CARDS: each row of YtkjnbfjbdlcehaaGreatDoorRows.lean that lists a variable, with what it lists TIED to the program's text (the seventh form; the later family's looks); each row that meets fmt, with fmt's text TOLD by the authors' own Lean function (tested against real Go, not proved from fmt's source: count such statements apart). THE CARD IS WHAT COUNTS. Prove the row's statement (the work); the ties are given (YtkjnbfjbdlcehaaGreatDoorTie.lean); close each card by the builder's one call (the guide's Derived/Test/ToyasCard.lean, 'card_holds'). Laid BY PROGRAM, IN A SANDBOX (cutbox-door.mjs). By AI agents, Wed Nov 11 2026. No macro, syntax, notation, axiom, sorry.
-/
import Derived.Test.YtkjnbfjbdlcehaaGreatDoorRows
import GoSem.ClaimSeven
namespace Go.Proofs.YtkjnbfjbdlcehaaGreatDoor
namespace Rows

/-- THE TIED CARD OF 'armisticelaw12.GrammarPrints'. -/
def grammarPrintsCard : Claim7 := { stood := { row := grammarPrintsRow, standIns := [], harness := (true, "b0e473e67079e05f0b2ca6599996df9def9d420e4e2d0dc646275403fee8d5ad"), looks := true }, kinds := [], alts := [], laidByText := true, laidKinds := [.data, .data, .data, .data, .sentinel, .sentinel, .pinned], laidTests := true, laidLooks := .later }
def GrammarPrintsCardSaid : Prop := Claim7.holds Tryz.pinned (.plain (OpenSpec.ofChange grammarPrintsSpec)) grammarPrintsCard

/-- THE TIED CARD OF 'armisticelaw12.GrammarParses'. -/
def grammarParsesCard : Claim7 := { stood := { row := grammarParsesRow, standIns := [], harness := (true, "b0e473e67079e05f0b2ca6599996df9def9d420e4e2d0dc646275403fee8d5ad"), looks := true }, kinds := [], alts := [], laidByText := true, laidKinds := [.data, .data, .data, .data, .sentinel, .sentinel, .pinned], laidTests := true, laidLooks := .later }
def GrammarParsesCardSaid : Prop := Claim7.holds Tryz.pinned (.plain (OpenSpec.ofChange grammarParsesSpec)) grammarParsesCard

/-- THE TIED CARD OF 'armisticelaw12.GrammarLong'. -/
def grammarLongCard : Claim7 := { stood := { row := grammarLongRow, standIns := [], harness := (true, "b0e473e67079e05f0b2ca6599996df9def9d420e4e2d0dc646275403fee8d5ad"), looks := true }, kinds := [], alts := [], laidByText := true, laidKinds := [.data, .data, .data, .data, .sentinel, .sentinel, .pinned], laidTests := true, laidLooks := .later }
def GrammarLongCardSaid : Prop := Claim7.holds Tryz.pinned (.plain (OpenSpec.ofChange grammarLongSpec)) grammarLongCard

/-- THE TIED CARD OF 'armisticelaw12.GrammarKnown'. -/
def grammarKnownCard : Claim7 := { stood := { row := grammarKnownRow, standIns := [], harness := (true, "b0e473e67079e05f0b2ca6599996df9def9d420e4e2d0dc646275403fee8d5ad"), looks := true }, kinds := [], alts := [], laidByText := true, laidKinds := [.data, .data, .data, .data, .sentinel, .sentinel, .pinned], laidTests := true, laidLooks := .later }
def GrammarKnownCardSaid : Prop := Claim7.holds Tryz.pinned (.plain (OpenSpec.ofChange grammarKnownSpec)) grammarKnownCard

/-- THE TIED CARD OF 'armisticelaw12.GrammarBack'. -/
def grammarBackCard : Claim7 := { stood := { row := grammarBackRow, standIns := [], harness := (true, "b0e473e67079e05f0b2ca6599996df9def9d420e4e2d0dc646275403fee8d5ad"), looks := true }, kinds := [], alts := [], laidByText := true, laidKinds := [.data, .data, .data, .data, .sentinel, .sentinel, .pinned], laidTests := true, laidLooks := .later }
def GrammarBackCardSaid : Prop := Claim7.holds Tryz.pinned (.plain (OpenSpec.ofChange grammarBackSpec)) grammarBackCard

/-- THE TIED CARD OF 'armisticelaw12.GrammarOne'. -/
def grammarOneCard : Claim7 := { stood := { row := grammarOneRow, standIns := [], harness := (true, "b0e473e67079e05f0b2ca6599996df9def9d420e4e2d0dc646275403fee8d5ad"), looks := true }, kinds := [], alts := [], laidByText := true, laidKinds := [.data, .data, .data, .data, .sentinel, .sentinel, .pinned], laidTests := true, laidLooks := .later }
def GrammarOneCardSaid : Prop := Claim7.holds Tryz.pinned (.plain (OpenSpec.ofChange grammarOneSpec)) grammarOneCard

/-- THE TIED CARD OF 'armisticelaw12.GrammarTwo'. -/
def grammarTwoCard : Claim7 := { stood := { row := grammarTwoRow, standIns := [], harness := (true, "b0e473e67079e05f0b2ca6599996df9def9d420e4e2d0dc646275403fee8d5ad"), looks := true }, kinds := [], alts := [], laidByText := true, laidKinds := [.data, .data, .data, .data, .sentinel, .sentinel, .pinned], laidTests := true, laidLooks := .later }
def GrammarTwoCardSaid : Prop := Claim7.holds Tryz.pinned (.plain (OpenSpec.ofChange grammarTwoSpec)) grammarTwoCard

/-- THE SECOND FORM's CARD OF 'armisticelaw12.GrammarPrints'. -/
def grammarPrintsUptoCard : Claim7 := { stood := { row := grammarPrintsUptoRow, standIns := [], harness := (true, "b0e473e67079e05f0b2ca6599996df9def9d420e4e2d0dc646275403fee8d5ad"), looks := true }, kinds := [], alts := [], laidByText := true, laidKinds := [.data, .data, .data, .data, .sentinel, .sentinel, .pinned], laidTests := true, laidLooks := .later }
def GrammarPrintsUptoCardSaid : Prop := Claim7.holds Tryz.pinned (.plain (OpenSpec.upto grammarPrintsSpec)) grammarPrintsUptoCard

/-- THE SECOND FORM's CARD OF 'armisticelaw12.GrammarParses'. -/
def grammarParsesUptoCard : Claim7 := { stood := { row := grammarParsesUptoRow, standIns := [], harness := (true, "b0e473e67079e05f0b2ca6599996df9def9d420e4e2d0dc646275403fee8d5ad"), looks := true }, kinds := [], alts := [], laidByText := true, laidKinds := [.data, .data, .data, .data, .sentinel, .sentinel, .pinned], laidTests := true, laidLooks := .later }
def GrammarParsesUptoCardSaid : Prop := Claim7.holds Tryz.pinned (.plain (OpenSpec.upto grammarParsesSpec)) grammarParsesUptoCard

/-- THE SECOND FORM's CARD OF 'armisticelaw12.GrammarLong'. -/
def grammarLongUptoCard : Claim7 := { stood := { row := grammarLongUptoRow, standIns := [], harness := (true, "b0e473e67079e05f0b2ca6599996df9def9d420e4e2d0dc646275403fee8d5ad"), looks := true }, kinds := [], alts := [], laidByText := true, laidKinds := [.data, .data, .data, .data, .sentinel, .sentinel, .pinned], laidTests := true, laidLooks := .later }
def GrammarLongUptoCardSaid : Prop := Claim7.holds Tryz.pinned (.plain (OpenSpec.upto grammarLongSpec)) grammarLongUptoCard

/-- THE SECOND FORM's CARD OF 'armisticelaw12.GrammarKnown'. -/
def grammarKnownUptoCard : Claim7 := { stood := { row := grammarKnownUptoRow, standIns := [], harness := (true, "b0e473e67079e05f0b2ca6599996df9def9d420e4e2d0dc646275403fee8d5ad"), looks := true }, kinds := [], alts := [], laidByText := true, laidKinds := [.data, .data, .data, .data, .sentinel, .sentinel, .pinned], laidTests := true, laidLooks := .later }
def GrammarKnownUptoCardSaid : Prop := Claim7.holds Tryz.pinned (.plain (OpenSpec.upto grammarKnownSpec)) grammarKnownUptoCard

/-- THE SECOND FORM's CARD OF 'armisticelaw12.GrammarBack'. -/
def grammarBackUptoCard : Claim7 := { stood := { row := grammarBackUptoRow, standIns := [], harness := (true, "b0e473e67079e05f0b2ca6599996df9def9d420e4e2d0dc646275403fee8d5ad"), looks := true }, kinds := [], alts := [], laidByText := true, laidKinds := [.data, .data, .data, .data, .sentinel, .sentinel, .pinned], laidTests := true, laidLooks := .later }
def GrammarBackUptoCardSaid : Prop := Claim7.holds Tryz.pinned (.plain (OpenSpec.upto grammarBackSpec)) grammarBackUptoCard

/-- THE SECOND FORM's CARD OF 'armisticelaw12.GrammarOne'. -/
def grammarOneUptoCard : Claim7 := { stood := { row := grammarOneUptoRow, standIns := [], harness := (true, "b0e473e67079e05f0b2ca6599996df9def9d420e4e2d0dc646275403fee8d5ad"), looks := true }, kinds := [], alts := [], laidByText := true, laidKinds := [.data, .data, .data, .data, .sentinel, .sentinel, .pinned], laidTests := true, laidLooks := .later }
def GrammarOneUptoCardSaid : Prop := Claim7.holds Tryz.pinned (.plain (OpenSpec.upto grammarOneSpec)) grammarOneUptoCard

/-- THE SECOND FORM's CARD OF 'armisticelaw12.GrammarTwo'. -/
def grammarTwoUptoCard : Claim7 := { stood := { row := grammarTwoUptoRow, standIns := [], harness := (true, "b0e473e67079e05f0b2ca6599996df9def9d420e4e2d0dc646275403fee8d5ad"), looks := true }, kinds := [], alts := [], laidByText := true, laidKinds := [.data, .data, .data, .data, .sentinel, .sentinel, .pinned], laidTests := true, laidLooks := .later }
def GrammarTwoUptoCardSaid : Prop := Claim7.holds Tryz.pinned (.plain (OpenSpec.upto grammarTwoSpec)) grammarTwoUptoCard
end Rows
end Go.Proofs.YtkjnbfjbdlcehaaGreatDoor
