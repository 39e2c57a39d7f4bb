/-
  No cell of these rows narrows 'for every input' (looked for: loops, veiled, ifaces, maps, wideKeys, modest, calm, conditions, laid).
  DERIVED. THE GIVEN ROWS OF THIS SEAT. 5 by the template 'for every input the law returns true; each argument reads behind the call as it read before'; 0 by the template 'total and deterministic' (their statements: YtfpllpgfdanhnaaTotals.lean).
  GIVEN WITH THE SEED: the statements are not yours to turn. If you find one false, say at which input.
  Laid BY PROGRAM, IN A SANDBOX (cutbox-rows.mjs): the forced cells as the released guide's own fill.sh prints them over the translation 12f8903eeeb3c1f8… (all of the seat's roots in one cut). By AI agents, Wed Nov 11 2026. No macro, syntax, notation, axiom, sorry.
-/
import Derived.Test.YtfpllpgfdanhnaaChecked
import GoSem.Claim
import GoSem.ClaimJoined
import GoSem.ClaimMapViews
import Derived.JoinedTies
import Derived.KernelRfl
namespace Go.Proofs.Ytfpllpgfdanhnaa
/- THE CELL 'sum', in the pinned program and in every row, IS THE sha256 OF THE DUMP (.gsa) THAT YtfpllpgfdanhnaaProg.lean LOADS. Nothing in Lean hashes anything: it is a label: what it is worth is what the hold of that sum in a sandbox is worth. -/
noncomputable def Try.pinned : Pinned := { name := "ytfpllpgfdanhnaa", sum := "12f8903eeeb3c1f8dadadb6a4d637eb24086acd1c16663825aa31a33ddf23c36", checked := Try.checked }
namespace Rows
def none {H : Type} : Left H := { results := [], args := [] }

/-- 'armisticelaw26.BoundTells': WHATEVER THE INPUT: true; the input reads as it did. -/
def boundTellsSpec : ChangeSpec := { name := "boundTells", fn := fun _ => fun
  | [d1, d2] => { results := [.lit (.bool true)], args := [d1, d2] }
  | _ => none }
def boundTellsRow : OpenClaim := { program := "ytfpllpgfdanhnaa", sum := "12f8903eeeb3c1f8dadadb6a4d637eb24086acd1c16663825aa31a33ddf23c36", func := "armistice/armisticelaw26.BoundTells", spec := "boundTells", unfollowed := true, recurses := true, apart := false }
def BoundTellsSaid : Prop := boundTellsRow.holds Try.pinned (OpenSpec.ofChange boundTellsSpec)

/-- ITS FALSE NEIGHBOUR: 'it returns false'. Refute it at one input. -/
def boundTellsWrong : ChangeSpec := { name := "boundTells", fn := fun _ => fun
  | [d1, d2] => { results := [.lit (.bool false)], args := [d1, d2] }
  | _ => none }
def BoundTellsWrongFalsely : Prop := boundTellsRow.holds Try.pinned (OpenSpec.ofChange boundTellsWrong)

/-- 'armisticelaw26.BoundEnough': WHATEVER THE INPUT: true; the input reads as it did. -/
def boundEnoughSpec : ChangeSpec := { name := "boundEnough", fn := fun _ => fun
  | [d1, d2, d3] => { results := [.lit (.bool true)], args := [d1, d2, d3] }
  | _ => none }
def boundEnoughRow : OpenClaim := { program := "ytfpllpgfdanhnaa", sum := "12f8903eeeb3c1f8dadadb6a4d637eb24086acd1c16663825aa31a33ddf23c36", func := "armistice/armisticelaw26.BoundEnough", spec := "boundEnough", unfollowed := true, recurses := true, apart := false }
def BoundEnoughSaid : Prop := boundEnoughRow.holds Try.pinned (OpenSpec.ofChange boundEnoughSpec)

/-- ITS FALSE NEIGHBOUR: 'it returns false'. Refute it at one input. -/
def boundEnoughWrong : ChangeSpec := { name := "boundEnough", fn := fun _ => fun
  | [d1, d2, d3] => { results := [.lit (.bool false)], args := [d1, d2, d3] }
  | _ => none }
def BoundEnoughWrongFalsely : Prop := boundEnoughRow.holds Try.pinned (OpenSpec.ofChange boundEnoughWrong)

/-- 'armisticelaw26.BoundKnown': WHATEVER THE INPUT: true; the input reads as it did. -/
def boundKnownSpec : ChangeSpec := { name := "boundKnown", fn := fun _ => fun
  | [] => { results := [.lit (.bool true)], args := [] }
  | _ => none }
def boundKnownRow : OpenClaim := { program := "ytfpllpgfdanhnaa", sum := "12f8903eeeb3c1f8dadadb6a4d637eb24086acd1c16663825aa31a33ddf23c36", func := "armistice/armisticelaw26.BoundKnown", spec := "boundKnown", unfollowed := true, recurses := true, apart := false }
def BoundKnownSaid : Prop := boundKnownRow.holds Try.pinned (OpenSpec.ofChange boundKnownSpec)

/-- ITS FALSE NEIGHBOUR: 'it returns false'. Refute it at one input. -/
def boundKnownWrong : ChangeSpec := { name := "boundKnown", fn := fun _ => fun
  | [] => { results := [.lit (.bool false)], args := [] }
  | _ => none }
def BoundKnownWrongFalsely : Prop := boundKnownRow.holds Try.pinned (OpenSpec.ofChange boundKnownWrong)

/-- 'armisticelaw26.BoundTries': WHATEVER THE INPUT: true; the input reads as it did. -/
def boundTriesSpec : ChangeSpec := { name := "boundTries", fn := fun _ => fun
  | [d1, d2] => { results := [.lit (.bool true)], args := [d1, d2] }
  | _ => none }
def boundTriesRow : OpenClaim := { program := "ytfpllpgfdanhnaa", sum := "12f8903eeeb3c1f8dadadb6a4d637eb24086acd1c16663825aa31a33ddf23c36", func := "armistice/armisticelaw26.BoundTries", spec := "boundTries", unfollowed := true, recurses := true, apart := false }
def BoundTriesSaid : Prop := boundTriesRow.holds Try.pinned (OpenSpec.ofChange boundTriesSpec)

/-- ITS FALSE NEIGHBOUR: 'it returns false'. Refute it at one input. -/
def boundTriesWrong : ChangeSpec := { name := "boundTries", fn := fun _ => fun
  | [d1, d2] => { results := [.lit (.bool false)], args := [d1, d2] }
  | _ => none }
def BoundTriesWrongFalsely : Prop := boundTriesRow.holds Try.pinned (OpenSpec.ofChange boundTriesWrong)

/-- 'armisticelaw26.BoundRises': WHATEVER THE INPUT: true; the input reads as it did. -/
def boundRisesSpec : ChangeSpec := { name := "boundRises", fn := fun _ => fun
  | [d1, d2, d3] => { results := [.lit (.bool true)], args := [d1, d2, d3] }
  | _ => none }
def boundRisesRow : OpenClaim := { program := "ytfpllpgfdanhnaa", sum := "12f8903eeeb3c1f8dadadb6a4d637eb24086acd1c16663825aa31a33ddf23c36", func := "armistice/armisticelaw26.BoundRises", spec := "boundRises", unfollowed := true, recurses := true, apart := false }
def BoundRisesSaid : Prop := boundRisesRow.holds Try.pinned (OpenSpec.ofChange boundRisesSpec)

/-- ITS FALSE NEIGHBOUR: 'it returns false'. Refute it at one input. -/
def boundRisesWrong : ChangeSpec := { name := "boundRises", fn := fun _ => fun
  | [d1, d2, d3] => { results := [.lit (.bool false)], args := [d1, d2, d3] }
  | _ => none }
def BoundRisesWrongFalsely : Prop := boundRisesRow.holds Try.pinned (OpenSpec.ofChange boundRisesWrong)

/- THE SECOND FORM. 'bulk': how many values and letters a reading holds, each counted each time it is reached (what is shared counts as often as it is met; a slice's spare places count too). A statement '..UptoSaid' is the law's where the arguments, and the package variables that the reading takes, are together of bulk at most 1048576: NARROWER than '..Said'. Prove '..Said' where nothing that the law and all that it calls make is longer than what came in: it says more and counts as full. Else prove '..UptoSaid'. A law counts once. -/
mutual
def uptoBulk {H : Type} : DataW H → Nat
  | .lit (.string bytes) => bytes.length + 1
  | .lit _ => 1
  | .nil => 1
  | .ptr d => uptoBulk d + 1
  | .slice elems spare => uptoBulkAll elems + uptoBulkAll spare + 1
  | .agg parts => uptoBulkAll parts + 1
  | .iface _ d => uptoBulk d + 1
  | .map entries => uptoBulkEntries entries + 1
  | .held _ => 1
def uptoBulkAll {H : Type} : List (DataW H) → Nat
  | [] => 0
  | d :: r => uptoBulk d + uptoBulkAll r
def uptoBulkEntries {H : Type} : List (Lit × DataW H) → Nat
  | [] => 0
  | x :: r => uptoBulkEntry x + uptoBulkEntries r
def uptoBulkEntry {H : Type} : Lit × DataW H → Nat
  | (.string bytes, d) => bytes.length + uptoBulk d + 1
  | (_, d) => uptoBulk d + 1
 end
def uptoSmall : (H : Type) → List (DataW H) → Bool := fun _ ds => decide (uptoBulkAll ds ≤ 1048576)
def OpenSpec.upto (s : _root_.Go.ChangeSpec) : _root_.Go.OpenSpec := { _root_.Go.OpenSpec.ofChange s with cond := some uptoSmall }

/-- 'armisticelaw26.BoundTells', WHERE WHAT IT READS IS OF BULK AT MOST 1048576: true; the input reads as it did. -/
def boundTellsUptoRow : OpenClaim := { program := "ytfpllpgfdanhnaa", sum := "12f8903eeeb3c1f8dadadb6a4d637eb24086acd1c16663825aa31a33ddf23c36", func := "armistice/armisticelaw26.BoundTells", spec := "boundTells", unfollowed := true, recurses := true, apart := false, narrowed := true }
def BoundTellsUptoSaid : Prop := boundTellsUptoRow.holds Try.pinned (OpenSpec.upto boundTellsSpec)

/-- 'armisticelaw26.BoundEnough', WHERE WHAT IT READS IS OF BULK AT MOST 1048576: true; the input reads as it did. -/
def boundEnoughUptoRow : OpenClaim := { program := "ytfpllpgfdanhnaa", sum := "12f8903eeeb3c1f8dadadb6a4d637eb24086acd1c16663825aa31a33ddf23c36", func := "armistice/armisticelaw26.BoundEnough", spec := "boundEnough", unfollowed := true, recurses := true, apart := false, narrowed := true }
def BoundEnoughUptoSaid : Prop := boundEnoughUptoRow.holds Try.pinned (OpenSpec.upto boundEnoughSpec)

/-- 'armisticelaw26.BoundKnown', WHERE WHAT IT READS IS OF BULK AT MOST 1048576: true; the input reads as it did. -/
def boundKnownUptoRow : OpenClaim := { program := "ytfpllpgfdanhnaa", sum := "12f8903eeeb3c1f8dadadb6a4d637eb24086acd1c16663825aa31a33ddf23c36", func := "armistice/armisticelaw26.BoundKnown", spec := "boundKnown", unfollowed := true, recurses := true, apart := false, narrowed := true }
def BoundKnownUptoSaid : Prop := boundKnownUptoRow.holds Try.pinned (OpenSpec.upto boundKnownSpec)

/-- 'armisticelaw26.BoundTries', WHERE WHAT IT READS IS OF BULK AT MOST 1048576: true; the input reads as it did. -/
def boundTriesUptoRow : OpenClaim := { program := "ytfpllpgfdanhnaa", sum := "12f8903eeeb3c1f8dadadb6a4d637eb24086acd1c16663825aa31a33ddf23c36", func := "armistice/armisticelaw26.BoundTries", spec := "boundTries", unfollowed := true, recurses := true, apart := false, narrowed := true }
def BoundTriesUptoSaid : Prop := boundTriesUptoRow.holds Try.pinned (OpenSpec.upto boundTriesSpec)

/-- 'armisticelaw26.BoundRises', WHERE WHAT IT READS IS OF BULK AT MOST 1048576: true; the input reads as it did. -/
def boundRisesUptoRow : OpenClaim := { program := "ytfpllpgfdanhnaa", sum := "12f8903eeeb3c1f8dadadb6a4d637eb24086acd1c16663825aa31a33ddf23c36", func := "armistice/armisticelaw26.BoundRises", spec := "boundRises", unfollowed := true, recurses := true, apart := false, narrowed := true }
def BoundRisesUptoSaid : Prop := boundRisesUptoRow.holds Try.pinned (OpenSpec.upto boundRisesSpec)

end Rows
end Go.Proofs.Ytfpllpgfdanhnaa
