/- What the walks ask of the package-level variables when a call begins: strconv.ErrRange holds an interface value. -/
import Derived.Test.YtkjnbfjbdlcehaaGreatDoorProg
import Derived.Below
namespace Go.Proofs.YtkjnbfjbdlcehaaGreatDoor.P

open Go.RowKit
def GOk (w : World) : Prop := ∃ ev : Value, w.cell? ⟨4, 0, none⟩ = some ev ∧ (ev = .nilIface ∨ ∃ te pe, ev = .iface te pe)
theorem GOk.below {w w' : World} (h : GOk w) (hb : Below w.heap.size w w') : GOk w' := by
  obtain ⟨ev, hc, he⟩ := h
  exact ⟨ev, (hb.cell (World.block_lt_of_cell? w _ hc)).trans hc, he⟩
end Go.Proofs.YtkjnbfjbdlcehaaGreatDoor.P
