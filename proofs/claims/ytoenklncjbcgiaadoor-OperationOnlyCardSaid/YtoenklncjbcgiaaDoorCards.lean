/-
  DERIVED. GIVEN WITH THE SEED: THE CARDS: each row of YtoenklncjbcgiaaDoorRows.lean that lists a variable, with what it lists TIED to the program's text (the seventh form; the later family's looks); each row that meets fmt, with fmt's text TOLD by the authors' own Lean function (tested against real Go, not proved from fmt's source: count such statements apart). THE CARD IS WHAT COUNTS. Prove the row's statement (the work); the ties are given (YtoenklncjbcgiaaDoorTie.lean); close each card by the builder's one call (the guide's Derived/Test/ToyasCard.lean, 'card_holds'). Laid BY PROGRAM, IN A SANDBOX (cutbox-door.mjs). By AI agents, Wed Nov 11 2026. No macro, syntax, notation, axiom, sorry.
-/
import Derived.Test.YtoenklncjbcgiaaDoorRows
import GoSem.ClaimSeven
namespace Go.Proofs.YtoenklncjbcgiaaDoor
namespace Rows

/-- THE TIED CARD OF 'armisticelaw04.OperationReads'. -/
def operationReadsCard : Claim7 := { stood := { row := operationReadsRow, standIns := [], harness := (true, "d90e6719b6fd5a5598ddafbf428351304fff1f178792615efc4029d66d502b85"), looks := true }, kinds := [], alts := [], laidByText := true, laidKinds := [.data, .data, .data, .sentinel, .sentinel], laidTests := true, laidLooks := .later }
def OperationReadsCardSaid : Prop := Claim7.holds Tryd.pinned (.plain (OpenSpec.ofChange operationReadsSpec)) operationReadsCard

/-- THE TIED CARD OF 'armisticelaw04.OperationKnown'. -/
def operationKnownCard : Claim7 := { stood := { row := operationKnownRow, standIns := [], harness := (true, "d90e6719b6fd5a5598ddafbf428351304fff1f178792615efc4029d66d502b85"), looks := true }, kinds := [], alts := [], laidByText := true, laidKinds := [.data, .data, .data, .sentinel, .sentinel], laidTests := true, laidLooks := .later }
def OperationKnownCardSaid : Prop := Claim7.holds Tryd.pinned (.plain (OpenSpec.ofChange operationKnownSpec)) operationKnownCard

/-- THE TIED CARD OF 'armisticelaw04.OperationTells'. -/
def operationTellsCard : Claim7 := { stood := { row := operationTellsRow, standIns := [], harness := (true, "d90e6719b6fd5a5598ddafbf428351304fff1f178792615efc4029d66d502b85"), looks := true }, kinds := [], alts := [], laidByText := true, laidKinds := [.data, .data, .data, .sentinel, .sentinel], laidTests := true, laidLooks := .later }
def OperationTellsCardSaid : Prop := Claim7.holds Tryd.pinned (.plain (OpenSpec.ofChange operationTellsSpec)) operationTellsCard

/-- THE TIED CARD OF 'armisticelaw04.OperationKinds'. -/
def operationKindsCard : Claim7 := { stood := { row := operationKindsRow, standIns := [], harness := (true, "d90e6719b6fd5a5598ddafbf428351304fff1f178792615efc4029d66d502b85"), looks := true }, kinds := [], alts := [], laidByText := true, laidKinds := [.data, .data, .data, .sentinel, .sentinel], laidTests := true, laidLooks := .later }
def OperationKindsCardSaid : Prop := Claim7.holds Tryd.pinned (.plain (OpenSpec.ofChange operationKindsSpec)) operationKindsCard

/-- THE TIED CARD OF 'armisticelaw04.OperationOnly'. -/
def operationOnlyCard : Claim7 := { stood := { row := operationOnlyRow, standIns := [], harness := (true, "d90e6719b6fd5a5598ddafbf428351304fff1f178792615efc4029d66d502b85"), looks := true }, kinds := [], alts := [], laidByText := true, laidKinds := [.data, .data, .data, .sentinel, .sentinel], laidTests := true, laidLooks := .later }
def OperationOnlyCardSaid : Prop := Claim7.holds Tryd.pinned (.plain (OpenSpec.ofChange operationOnlySpec)) operationOnlyCard

/-- THE SECOND FORM's CARD OF 'armisticelaw04.OperationReads'. -/
def operationReadsUptoCard : Claim7 := { stood := { row := operationReadsUptoRow, standIns := [], harness := (true, "d90e6719b6fd5a5598ddafbf428351304fff1f178792615efc4029d66d502b85"), looks := true }, kinds := [], alts := [], laidByText := true, laidKinds := [.data, .data, .data, .sentinel, .sentinel], laidTests := true, laidLooks := .later }
def OperationReadsUptoCardSaid : Prop := Claim7.holds Tryd.pinned (.plain (OpenSpec.upto operationReadsSpec)) operationReadsUptoCard

/-- THE SECOND FORM's CARD OF 'armisticelaw04.OperationKnown'. -/
def operationKnownUptoCard : Claim7 := { stood := { row := operationKnownUptoRow, standIns := [], harness := (true, "d90e6719b6fd5a5598ddafbf428351304fff1f178792615efc4029d66d502b85"), looks := true }, kinds := [], alts := [], laidByText := true, laidKinds := [.data, .data, .data, .sentinel, .sentinel], laidTests := true, laidLooks := .later }
def OperationKnownUptoCardSaid : Prop := Claim7.holds Tryd.pinned (.plain (OpenSpec.upto operationKnownSpec)) operationKnownUptoCard

/-- THE SECOND FORM's CARD OF 'armisticelaw04.OperationTells'. -/
def operationTellsUptoCard : Claim7 := { stood := { row := operationTellsUptoRow, standIns := [], harness := (true, "d90e6719b6fd5a5598ddafbf428351304fff1f178792615efc4029d66d502b85"), looks := true }, kinds := [], alts := [], laidByText := true, laidKinds := [.data, .data, .data, .sentinel, .sentinel], laidTests := true, laidLooks := .later }
def OperationTellsUptoCardSaid : Prop := Claim7.holds Tryd.pinned (.plain (OpenSpec.upto operationTellsSpec)) operationTellsUptoCard

/-- THE SECOND FORM's CARD OF 'armisticelaw04.OperationKinds'. -/
def operationKindsUptoCard : Claim7 := { stood := { row := operationKindsUptoRow, standIns := [], harness := (true, "d90e6719b6fd5a5598ddafbf428351304fff1f178792615efc4029d66d502b85"), looks := true }, kinds := [], alts := [], laidByText := true, laidKinds := [.data, .data, .data, .sentinel, .sentinel], laidTests := true, laidLooks := .later }
def OperationKindsUptoCardSaid : Prop := Claim7.holds Tryd.pinned (.plain (OpenSpec.upto operationKindsSpec)) operationKindsUptoCard

/-- THE SECOND FORM's CARD OF 'armisticelaw04.OperationOnly'. -/
def operationOnlyUptoCard : Claim7 := { stood := { row := operationOnlyUptoRow, standIns := [], harness := (true, "d90e6719b6fd5a5598ddafbf428351304fff1f178792615efc4029d66d502b85"), looks := true }, kinds := [], alts := [], laidByText := true, laidKinds := [.data, .data, .data, .sentinel, .sentinel], laidTests := true, laidLooks := .later }
def OperationOnlyUptoCardSaid : Prop := Claim7.holds Tryd.pinned (.plain (OpenSpec.upto operationOnlySpec)) operationOnlyUptoCard
end Rows
end Go.Proofs.YtoenklncjbcgiaaDoor
