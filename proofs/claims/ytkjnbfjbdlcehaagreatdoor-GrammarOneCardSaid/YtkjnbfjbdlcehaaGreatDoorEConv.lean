/- '[]byte(s)': a row of the string's bytes. Over the seat's program. -/
import Derived.Test.YtkjnbfjbdlcehaaGreatDoorKW
import Derived.Test.YtkjnbfjbdlcehaaGreatDoorProg
import Derived.Laws.IdiomStrings
namespace Go.Proofs.YtkjnbfjbdlcehaaGreatDoor.P
open Go.RowKit Go.Proofs.YtkjnbfjbdlcehaaGreatDoorW.PrintWords Go.Proofs.YtkjnbfjbdlcehaaGreatDoorW.PrintLast
/-- The world behind '[]byte(s)'. -/
def convW (w : World) (s : ByteArray) : World := w.drew.alloc (.cells (bytesRow s (grownCap w s.size 0 5)) 5 ((bytesRow s (grownCap w s.size 0 5)).size, (bytesRow s (grownCap w s.size 0 5)).size + 1))
theorem conv_run (w : World) (s : ByteArray) : (convert 9 41 (.string s)).run Tryz.prog w = .ok (.slice (some ⟨w.heap.size, 0, none⟩) s.size (grownCap w s.size 0 5)) (convW w s) :=
  run_bytes_of_string w 9 41 5 s Tryz.underlying9 Tryz.underlying41 Tryz.underlying5
theorem convW_below (w : World) (s : ByteArray) : Below w.heap.size w (convW w s) := (Below.refl _ w).drew.alloc (Nat.le_refl _) _
theorem convW_size (w : World) (s : ByteArray) : (convW w s).heap.size = w.heap.size + 1 := World.size_alloc _ _
theorem bytesOf_len (s : ByteArray) : (bytesOf s).length = s.size := by
  unfold bytesOf
  rw [List.length_map]
  rfl
theorem convW_reads (w : World) (s : ByteArray) (hs : s.size ≤ 9223372036854775807) : Kd.C (Kd.int .u8) (convW w s) (some ⟨w.heap.size, 0, none⟩) (bytesOf s).length (bytesOf s) := by
  refine Kd.C_of_reads (enc := Value.int .u8) (d := (0 : Int)) ⟨rfl, by rw [bytesOf_len]; exact hs, fun _ => ⟨_, rfl, fun j hj => ?_⟩⟩
  have e' : (⟨w.heap.size, 0, none⟩ : Addr).add j = ⟨w.heap.size, j, none⟩ := by
    unfold Addr.add
    split <;> simp_all
  rw [e']
  have hb : (convW w s).heap[w.heap.size]? = some (.cells (bytesRow s (grownCap w s.size 0 5)) 5 ((bytesRow s (grownCap w s.size 0 5)).size, (bytesRow s (grownCap w s.size 0 5)).size + 1)) := blk_new w.drew _
  rw [bytesOf_len] at hj
  have hjl : j < s.data.toList.length := hj
  have : (convW w s).cell? ⟨w.heap.size, j, none⟩ = (bytesRow s (grownCap w s.size 0 5))[j]? := by
    simp [World.cell?, hb]
  rw [this]
  unfold bytesRow
  rw [Array.getElem?_append_left (by simpa using hj)]
  simp [bytesOf, List.getD, hj]
theorem convW_cap (w : World) (s : ByteArray) : (bytesOf s).length ≤ grownCap w s.size 0 5 := by
  rw [bytesOf_len]
  exact grownCap_ge _ _ _ _
end Go.Proofs.YtkjnbfjbdlcehaaGreatDoor.P
