/-
  DERIVED. GIVEN WITH THE SEED: THE CARDS: each row of YtdimbcabkikcoaaDoorRows.lean that lists a variable, with what it lists TIED to the program's text (the seventh form; the later family's looks); each row that meets fmt, with fmt's text TOLD by the authors' own Lean function (tested against real Go, not proved from fmt's source: count such statements apart). THE CARD IS WHAT COUNTS. Prove the row's statement (the work); the ties are given (YtdimbcabkikcoaaDoorTie.lean); close each card by the builder's one call (the guide's Derived/Test/ToyasCard.lean, 'card_holds'). Laid BY PROGRAM, IN A SANDBOX (cutbox-door.mjs). By AI agents, Wed Nov 11 2026. No macro, syntax, notation, axiom, sorry.
-/
import Derived.Test.YtdimbcabkikcoaaDoorRows
import GoSem.ClaimSeven
namespace Go.Proofs.YtdimbcabkikcoaaDoor
namespace Rows

/-- THE TIED CARD OF 'armisticelaw05.StateReads'. -/
def stateReadsCard : Claim7 := { stood := { row := stateReadsRow, standIns := [], harness := (true, "9aa16a4390411461cff2be9ce6d32ab4c548b397c70d592787e3762b8d8018bb"), looks := true }, kinds := [], alts := [], laidByText := true, laidKinds := [.data, .data, .data, .data, .sentinel, .sentinel, .pinned], laidTests := true, laidLooks := .later }
def StateReadsCardSaid : Prop := Claim7.holds Tryd.pinned (.plain (OpenSpec.ofChange stateReadsSpec)) stateReadsCard

/-- THE TIED CARD OF 'armisticelaw05.StateKnown'. -/
def stateKnownCard : Claim7 := { stood := { row := stateKnownRow, standIns := [], harness := (true, "9aa16a4390411461cff2be9ce6d32ab4c548b397c70d592787e3762b8d8018bb"), looks := true }, kinds := [], alts := [], laidByText := true, laidKinds := [.data, .data, .data, .data, .sentinel, .sentinel, .pinned], laidTests := true, laidLooks := .later }
def StateKnownCardSaid : Prop := Claim7.holds Tryd.pinned (.plain (OpenSpec.ofChange stateKnownSpec)) stateKnownCard

/-- THE TIED CARD OF 'armisticelaw05.StateBack'. -/
def stateBackCard : Claim7 := { stood := { row := stateBackRow, standIns := [], harness := (true, "9aa16a4390411461cff2be9ce6d32ab4c548b397c70d592787e3762b8d8018bb"), looks := true }, kinds := [], alts := [], laidByText := true, laidKinds := [.data, .data, .data, .data, .sentinel, .sentinel, .pinned], laidTests := true, laidLooks := .later }
def StateBackCardSaid : Prop := Claim7.holds Tryd.pinned (.plain (OpenSpec.ofChange stateBackSpec)) stateBackCard

/-- THE TIED CARD OF 'armisticelaw05.StateOne'. -/
def stateOneCard : Claim7 := { stood := { row := stateOneRow, standIns := [], harness := (true, "9aa16a4390411461cff2be9ce6d32ab4c548b397c70d592787e3762b8d8018bb"), looks := true }, kinds := [], alts := [], laidByText := true, laidKinds := [.data, .data, .data, .data, .sentinel, .sentinel, .pinned], laidTests := true, laidLooks := .later }
def StateOneCardSaid : Prop := Claim7.holds Tryd.pinned (.plain (OpenSpec.ofChange stateOneSpec)) stateOneCard

/-- THE TIED CARD OF 'armisticelaw05.StateAgain'. -/
def stateAgainCard : Claim7 := { stood := { row := stateAgainRow, standIns := [], harness := (true, "9aa16a4390411461cff2be9ce6d32ab4c548b397c70d592787e3762b8d8018bb"), looks := true }, kinds := [], alts := [], laidByText := true, laidKinds := [.data, .data, .data, .data, .sentinel, .sentinel, .pinned], laidTests := true, laidLooks := .later }
def StateAgainCardSaid : Prop := Claim7.holds Tryd.pinned (.plain (OpenSpec.ofChange stateAgainSpec)) stateAgainCard

/-- THE SECOND FORM's CARD OF 'armisticelaw05.StateReads'. -/
def stateReadsUptoCard : Claim7 := { stood := { row := stateReadsUptoRow, standIns := [], harness := (true, "9aa16a4390411461cff2be9ce6d32ab4c548b397c70d592787e3762b8d8018bb"), looks := true }, kinds := [], alts := [], laidByText := true, laidKinds := [.data, .data, .data, .data, .sentinel, .sentinel, .pinned], laidTests := true, laidLooks := .later }
def StateReadsUptoCardSaid : Prop := Claim7.holds Tryd.pinned (.plain (OpenSpec.upto stateReadsSpec)) stateReadsUptoCard

/-- THE SECOND FORM's CARD OF 'armisticelaw05.StateKnown'. -/
def stateKnownUptoCard : Claim7 := { stood := { row := stateKnownUptoRow, standIns := [], harness := (true, "9aa16a4390411461cff2be9ce6d32ab4c548b397c70d592787e3762b8d8018bb"), looks := true }, kinds := [], alts := [], laidByText := true, laidKinds := [.data, .data, .data, .data, .sentinel, .sentinel, .pinned], laidTests := true, laidLooks := .later }
def StateKnownUptoCardSaid : Prop := Claim7.holds Tryd.pinned (.plain (OpenSpec.upto stateKnownSpec)) stateKnownUptoCard

/-- THE SECOND FORM's CARD OF 'armisticelaw05.StateBack'. -/
def stateBackUptoCard : Claim7 := { stood := { row := stateBackUptoRow, standIns := [], harness := (true, "9aa16a4390411461cff2be9ce6d32ab4c548b397c70d592787e3762b8d8018bb"), looks := true }, kinds := [], alts := [], laidByText := true, laidKinds := [.data, .data, .data, .data, .sentinel, .sentinel, .pinned], laidTests := true, laidLooks := .later }
def StateBackUptoCardSaid : Prop := Claim7.holds Tryd.pinned (.plain (OpenSpec.upto stateBackSpec)) stateBackUptoCard

/-- THE SECOND FORM's CARD OF 'armisticelaw05.StateOne'. -/
def stateOneUptoCard : Claim7 := { stood := { row := stateOneUptoRow, standIns := [], harness := (true, "9aa16a4390411461cff2be9ce6d32ab4c548b397c70d592787e3762b8d8018bb"), looks := true }, kinds := [], alts := [], laidByText := true, laidKinds := [.data, .data, .data, .data, .sentinel, .sentinel, .pinned], laidTests := true, laidLooks := .later }
def StateOneUptoCardSaid : Prop := Claim7.holds Tryd.pinned (.plain (OpenSpec.upto stateOneSpec)) stateOneUptoCard

/-- THE SECOND FORM's CARD OF 'armisticelaw05.StateAgain'. -/
def stateAgainUptoCard : Claim7 := { stood := { row := stateAgainUptoRow, standIns := [], harness := (true, "9aa16a4390411461cff2be9ce6d32ab4c548b397c70d592787e3762b8d8018bb"), looks := true }, kinds := [], alts := [], laidByText := true, laidKinds := [.data, .data, .data, .data, .sentinel, .sentinel, .pinned], laidTests := true, laidLooks := .later }
def StateAgainUptoCardSaid : Prop := Claim7.holds Tryd.pinned (.plain (OpenSpec.upto stateAgainSpec)) stateAgainUptoCard
end Rows
end Go.Proofs.YtdimbcabkikcoaaDoor
