/- Numbers that are bytes: rows of them, texts of them. -/
import Derived.Test.YtfnonbbakkcoaaaWMore
import Derived.ChangeKeysEq
namespace Go.Proofs.Ytfnonbbakkcoaaa.P
open Go.RowKit Go.Proofs.YtfnonbbakkcoaaaW.PrintWords
def isU8 (l : List Int) : Bool := l.all fun x => decide (0 ≤ x) && decide (x < 256)
theorem isU8_mem {l : List Int} (h : isU8 l = true) {x : Int} (hx : x ∈ l) : 0 ≤ x ∧ x < 256 := by
  have := List.all_eq_true.1 h x hx
  simpa using this
theorem bytes_strOf (L : List Int) (h : isU8 L = true) : bytesOf (strOfNums L) = L := by
  unfold bytesOf strOfNums
  simp only [List.map_map]
  refine (List.map_congr_left (g := id) (fun x hx => ?_)).trans (List.map_id _)
  have := isU8_mem h hx
  simp
  omega
theorem eq_str {a b : List Int} (ha : isU8 a = true) (hb : isU8 b = true) : ((strOfNums a).toList == (strOfNums b).toList) = (a == b) := by
  rw [Bool.eq_iff_iff, beq_iff_eq, beq_iff_eq]
  constructor
  · intro h
    have e : strOfNums a = strOfNums b := by
      cases hx : strOfNums a
      cases hy : strOfNums b
      rw [hx, hy] at h
      congr 1
      exact Array.toList_inj.1 (by simpa [ByteArray.toList_eq] using h)
    rw [← bytes_strOf a ha, ← bytes_strOf b hb, e]
  · rintro rfl
    rfl
theorem u8_of (l : List Int) (h : ∀ x ∈ l, (Lit.int .u8 x).wf = true) : isU8 l = true := by
  refine List.all_eq_true.2 fun x hx => ?_
  have := h x hx
  simp [Lit.wf, IntKind.min, IntKind.max, IntKind.signed, IntKind.bits] at this
  simp
  omega
end Go.Proofs.Ytfnonbbakkcoaaa.P
