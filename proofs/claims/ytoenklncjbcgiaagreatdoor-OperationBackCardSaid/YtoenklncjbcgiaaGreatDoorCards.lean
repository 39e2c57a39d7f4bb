/-
  DERIVED. GIVEN WITH THE SEED: THE CARDS: each row of YtoenklncjbcgiaaGreatDoorRows.lean that lists a variable, with what it lists TIED to the program's text (the seventh form; the later family's looks); each row that meets fmt, with fmt's text TOLD by the authors' own Lean function (tested against real Go, not proved from fmt's source: count such statements apart). THE CARD IS WHAT COUNTS. Prove the row's statement (the work); the ties are given (YtoenklncjbcgiaaGreatDoorTie.lean); close each card by the builder's one call (the guide's Derived/Test/ToyasCard.lean, 'card_holds'). Laid BY PROGRAM, IN A SANDBOX (cutbox-door.mjs). By AI agents, Wed Nov 11 2026. No macro, syntax, notation, axiom, sorry.
-/
import Derived.Test.YtoenklncjbcgiaaGreatDoorRows
import GoSem.ClaimSeven
namespace Go.Proofs.YtoenklncjbcgiaaGreatDoor
namespace Rows

/-- THE TIED CARD OF 'armisticelaw04.OperationBack'. -/
def operationBackCard : Claim7 := { stood := { row := operationBackRow, standIns := [], harness := (true, "052620a7f4b9c4f28495bc8c283d1b69de5d840bcd0daa880779230e56d629d3"), looks := true }, kinds := [], alts := [], laidByText := true, laidKinds := [.data, .data, .data, .data, .sentinel, .sentinel, .pinned], laidTests := true, laidLooks := .later }
def OperationBackCardSaid : Prop := Claim7.holds Tryz.pinned (.plain (OpenSpec.ofChange operationBackSpec)) operationBackCard

/-- THE SECOND FORM's CARD OF 'armisticelaw04.OperationBack'. -/
def operationBackUptoCard : Claim7 := { stood := { row := operationBackUptoRow, standIns := [], harness := (true, "052620a7f4b9c4f28495bc8c283d1b69de5d840bcd0daa880779230e56d629d3"), looks := true }, kinds := [], alts := [], laidByText := true, laidKinds := [.data, .data, .data, .data, .sentinel, .sentinel, .pinned], laidTests := true, laidLooks := .later }
def OperationBackUptoCardSaid : Prop := Claim7.holds Tryz.pinned (.plain (OpenSpec.upto operationBackSpec)) operationBackUptoCard
end Rows
end Go.Proofs.YtoenklncjbcgiaaGreatDoor
