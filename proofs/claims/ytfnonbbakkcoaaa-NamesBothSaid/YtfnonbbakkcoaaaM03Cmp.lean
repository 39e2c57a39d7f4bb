/- The order of names is one (a strict weak order). Plain. -/
import Derived.Lib.Bytealg
import Derived.Sort.Statements
namespace Go.Proofs.Ytfnonbbakkcoaaa.P
open Go.Sort
theorem cb_anti : ∀ a b : List UInt8, Lib.compareBytes b a = - Lib.compareBytes a b
  | [], [] => rfl
  | [], _ :: _ => rfl
  | _ :: _, [] => rfl
  | x :: a, y :: b => by
    have ih := cb_anti a b
    simp only [Lib.compareBytes, UInt8.lt_iff_toNat_lt]
    by_cases h1 : x.toNat < y.toNat
    · rw [if_neg (by omega), if_pos h1, if_pos h1]; rfl
    · by_cases h2 : y.toNat < x.toNat
      · rw [if_pos h2, if_neg h1, if_pos h2]
      · rw [if_neg h1, if_neg h2, if_neg h1, if_neg h2, ih]
theorem cb_ge : ∀ a b c : List UInt8, 0 ≤ Lib.compareBytes a b → 0 ≤ Lib.compareBytes b c → 0 ≤ Lib.compareBytes a c
  | [], [], _ => fun _ h => h
  | [], _ :: _, _ => fun h _ => absurd h (by simp [Lib.compareBytes])
  | _ :: _, _, [] => fun _ _ => by simp [Lib.compareBytes]
  | _ :: _, [], _ :: _ => fun _ h => absurd h (by simp [Lib.compareBytes])
  | x :: a, y :: b, z :: c => by
    have ih := cb_ge a b c
    simp only [Lib.compareBytes, UInt8.lt_iff_toNat_lt]
    intro h1 h2
    split at h1
    · omega
    · split at h2
      · omega
      · rw [if_neg (by omega)]
        split
        · omega
        · rw [if_neg (by omega)] at h1 h2
          exact ih h1 h2
/-- Names compared: a strict weak order. -/
theorem cb_swo {α : Type} (key : α → List UInt8) (cf : α → α → Int) (h : ∀ x y, cf x y = Lib.compareBytes (key x) (key y)) : SWO (fun x y => decide (cf x y < 0)) where
  irrefl x := by
    have := cb_anti (key x) (key x)
    simp only [h, decide_eq_false_iff_not]
    omega
  trans x y z h1 h2 := by
    simp only [h, decide_eq_true_eq] at h1 h2 ⊢
    have a1 := cb_anti (key x) (key y)
    have a2 := cb_anti (key y) (key z)
    have a3 := cb_anti (key x) (key z)
    have g1 := cb_ge (key z) (key y) (key x)
    have g2 := cb_ge (key x) (key z) (key y)
    have g3 := cb_ge (key y) (key x) (key z)
    omega
  ntrans x y z h1 h2 := by
    simp only [h, decide_eq_false_iff_not] at h1 h2 ⊢
    have := cb_ge (key x) (key y) (key z) (by omega) (by omega)
    omega
end Go.Proofs.Ytfnonbbakkcoaaa.P
