/- '[]byte(s)': a row of the string's bytes. Over the seat's program. -/
import Derived.Test.YtkjnbfjbdlcehaaGreatDoorKW
import Derived.Test.YtkjnbfjbdlcehaaGreatDoorProg
import Derived.Laws.IdiomStrings
namespace Go.Proofs.YtkjnbfjbdlcehaaGreatDoor.P
open Go.RowKit Go.Proofs.YtkjnbfjbdlcehaaGreatDoorW.PrintWords Go.Proofs.YtkjnbfjbdlcehaaGreatDoorW.PrintLast
/-- The world behind '[]byte(s)'. -/
def convW (w : World) (s : ByteArray) : World := w.drew.alloc (.cells (bytesRow s (grownCap w s.size 0 5)) 5 ((bytesRow s (grownCap w s.size 0 5)).size, (bytesRow s (grownCap w s.size 0 5)).size + 1))
theorem conv_run (w : World) (s : ByteArray) : (convert 9 41 (.string s)).run Tryz.prog w = .ok (.slice (some ⟨w.heap.size, 0, none⟩) s.size (grownCap w s.size 0 5)) (convW w s) :=
  run_bytes_of_string w 9 41 5 s Tryz.underlying9 Tryz.underlying41 Tryz.underlying5
theorem convW_below (w : World) (s : ByteArray) : Below w.heap.size w (convW w s) := (Below.refl _ w).drew.alloc (Nat.le_refl _) _
theorem convW_size (w : World) (s : ByteArray) : (convW w s).heap.size = w.heap.size + 1 := World.size_alloc _ _
theorem bytesOf_len (s : ByteArray) : (bytesOf s).length = s.size := by
  unfold bytesOf
  rw [List.length_map]
  rfl
theorem convW_reads (w : World) (s : ByteArray) (hs : s.size ≤ 9223372036854775807) : Kd.C (Kd.int .u8) (convW w s) (some ⟨w.heap.size, 0, none⟩) (bytesOf s).length (bytesOf s) := by
  refine Kd.C_of_reads (enc := Value.int .u8) (d := (0 : Int)) ⟨rfl, by rw [bytesOf_len]; exact hs, fun _ => ⟨_, rfl, fun j hj => ?_⟩⟩
  have e' : (⟨w.heap.size, 0, none⟩ : Addr).add j = ⟨w.heap.size, j, none⟩ := by
    unfold Addr.add
    split <;> simp_all
  rw [e']
  have hb : (convW w s).heap[w.heap.size]? = some (.cells (bytesRow s (grownCap w s.size 0 5)) 5 ((bytesRow s (grownCap w s.size 0 5)).size, (bytesRow s (grownCap w s.size 0 5)).size + 1)) := blk_new w.drew _
  rw [bytesOf_len] at hj
  have hjl : j < s.data.toList.length := hj
  have : (convW w s).cell? ⟨w.heap.size, j, none⟩ = (bytesRow s (grownCap w s.size 0 5))[j]? := by
    simp [World.cell?, hb]
  rw [this]
  unfold bytesRow
  rw [Array.getElem?_append_left (by simpa using hj)]
  simp [bytesOf, List.getD, hj]
theorem convW_cap (w : World) (s : ByteArray) : (bytesOf s).length ≤ grownCap w s.size 0 5 := by
  rw [bytesOf_len]
  exact grownCap_ge _ _ _ _
theorem flatten_get {α : Type} (sz : Nat) : ∀ (css : List (List α)), (∀ c ∈ css, c.length = sz) → ∀ (j i : Nat) (c : List α), css[j]? = some c → i < sz → css.flatten[j * sz + i]? = c[i]?
  | [], _, j, i, c, h, _ => by simp at h
  | d :: css, hl, j, i, c, h, hi => by
    have hd : d.length = sz := hl d List.mem_cons_self
    rw [List.flatten_cons]
    cases j with
    | zero =>
      simp at h
      subst h
      rw [Nat.zero_mul, Nat.zero_add, List.getElem?_append_left (by omega)]
    | succ j =>
      have h' : css[j]? = some c := by simpa using h
      have e : (j + 1) * sz + i = d.length + (j * sz + i) := by rw [hd, Nat.succ_mul]; omega
      rw [e, List.getElem?_append_right (by omega), show d.length + (j * sz + i) - d.length = j * sz + i by omega]
      exact flatten_get sz css (fun c hc => hl c (List.mem_cons_of_mem _ hc)) j i c h' hi
/-- A block whose cells are the elements' cells, in line, reads as the elements. -/
theorem rowC {α : Type} (d : Kd α) (W : World) (g t : Nat) (fr : Nat × Nat) (xs : List α) (css : List (List Value)) (h : W.heap[g]? = some (.cells css.flatten.toArray t fr)) (hl : css.length = xs.length) (hb : xs.length ≤ 9223372036854775807)
    (hk : ∀ (j : Nat) (x : α) (c : List Value), xs[j]? = some x → css[j]? = some c → d.K W x c) : d.C W (some ⟨g, 0, none⟩) xs.length xs := by
  have hall : ∀ c ∈ css, c.length = d.sz := by
    intro c hc
    obtain ⟨j, hj, rfl⟩ := List.getElem_of_mem hc
    exact d.K_len (hk j _ _ (List.getElem?_eq_getElem (by omega)) (List.getElem?_eq_getElem hj))
  refine ⟨rfl, hb, fun _ => ⟨_, rfl, fun j p hj => ?_⟩⟩
  have hjl : j < css.length := by rw [hl]; exact (List.getElem?_eq_some_iff.1 hj).1
  refine ⟨css[j], hall _ (List.getElem_mem hjl), hk j p _ hj (List.getElem?_eq_getElem hjl), fun i u hu => ?_⟩
  have hi : i < d.sz := by rw [← hall _ (List.getElem_mem hjl)]; exact (List.getElem?_eq_some_iff.1 hu).1
  have e' : (⟨g, 0, none⟩ : Addr).add (j * d.sz + i) = ⟨g, j * d.sz + i, none⟩ := by
    unfold Addr.add
    split <;> simp_all
  rw [e']
  have : W.cell? ⟨g, j * d.sz + i, none⟩ = css.flatten[j * d.sz + i]? := by
    simp [World.cell?, h]
  rw [this, flatten_get d.sz css hall j i css[j] (List.getElem?_eq_getElem hjl) hi]
  exact hu
end Go.Proofs.YtkjnbfjbdlcehaaGreatDoor.P
