/- Plain laws of number.Put: the document's text and this one are one. -/
import Derived.Test.YtdimbcabkikcoaaGreatDoorMPutD
import Derived.Test.YtdimbcabkikcoaaGreatDoorPx4
import Derived.Test.YtdimbcabkikcoaaGreatDoorPx4
namespace Go.Proofs.YtdimbcabkikcoaaGreatDoor.P
open Go.RowKit Go.Proofs.YtdimbcabkikcoaaGreatDoorW.PrintWords Go.Proofs.YtdimbcabkikcoaaGreatDoorW.PrintLast
set_option linter.unusedVariables false
set_option linter.unusedSimpArgs false

/-- The document's digits. -/
theorem refdigits (f : Nat) : ∀ (n : Nat), n < 10 ^ f → 0 < f → f ≤ 20 → n ≤ 18446744073709551615 → ∀ g, f ≤ g → armisticeref01_digits.f (g + 1) (n : Int) = some (strOfNums (digs f n).reverse) := by
  induction f with
  | zero => intro n _ h; omega
  | succ f ih =>
    intro n hn _ hf hmax g hg
    rw [armisticeref01_digits.f, digs_step]
    have hone : ∀ (m : Nat), m ≤ 9 → strOfNums ([(IntKind.u64.wrap (48 + (m : Int))) % 256] : List Int) = strOfNums ([48 + (m : Int) % 10] : List Int) := by
      intro m hm
      have : (IntKind.u64.wrap (48 + (m : Int))) % 256 = 48 + (m : Int) % 10 := by
        simp only [IntKind.wrap_u64]
        omega
      rw [this]
    by_cases c : n / 10 = 0
    · rw [if_pos c, if_neg (show ¬ (n : Int) > 9 by omega), hone n (by omega)]
      rfl
    · rw [if_neg c, if_pos (show (n : Int) > 9 by omega)]
      have h10 : n / 10 < 10 ^ f := by
        rw [Nat.pow_succ] at hn
        exact Nat.div_lt_of_lt_mul (by rw [Nat.mul_comm]; exact hn)
      have hf0 : 0 < f := by
        cases f with
        | zero => simp at h10; omega
        | succ f => omega
      obtain ⟨g, rfl⟩ : ∃ g', g = g' + 1 := ⟨g - 1, by omega⟩
      have e1 : IntKind.u64.wrap (Int.tdiv (n : Int) 10) = ((n / 10 : Nat) : Int) := by
        rw [show Int.tdiv (n : Int) 10 = ((n / 10 : Nat) : Int) from rfl]
        simp only [IntKind.wrap_u64]
        omega
      have e2 : Int.tmod (n : Int) 10 = ((n % 10 : Nat) : Int) := rfl
      rw [e1, e2, ih (n / 10) h10 hf0 (by omega) (by omega) g (by omega), Option.bind_some, armisticeref01_digits.f, if_neg (show ¬ ((n % 10 : Nat) : Int) > 9 by omega), hone (n % 10) (by omega), Option.bind_some]
      have hsz : (strOfNums (digs f (n / 10)).reverse).size + (strOfNums ([48 + ((n % 10 : Nat) : Int) % 10] : List Int)).size ≤ 9223372036854775807 := by
        rw [strOfNums_size, strOfNums_size]
        have := digs_length f (n / 10)
        simp only [List.length_reverse, List.length_cons, List.length_nil]
        omega
      rw [if_pos hsz]
      congr 1
      rw [show ((n % 10 : Nat) : Int) % 10 = (n : Int) % 10 by omega]
      unfold strOfNums
      apply ByteArray.ext
      rw [ByteArray.data_append]
      simp
theorem putRev_strOf (a : Int) (ha : isI64 a) (g : Nat) (hg : 20 ≤ g) : armisticeref01_Put.f (g + 1) a = some (strOfNums (putRev a).reverse) := by
  unfold armisticeref01_Put.f
  unfold isI64 at ha
  have hmax : a.natAbs < 10 ^ 20 := by
    rw [show (10 : Nat) ^ 20 = 100000000000000000000 from rfl]
    omega
  by_cases c : a < 0
  · have e1 : IntKind.u64.wrap (-(IntKind.u64.wrap a)) = ((a.natAbs : Nat) : Int) := by
      simp only [IntKind.wrap_u64]
      omega
    rw [if_pos c, e1, refdigits 20 a.natAbs hmax (by omega) (by omega) (by omega) g hg, Option.bind_some]
    have hsz : 1 + (strOfNums (digs 20 a.natAbs).reverse).size ≤ 9223372036854775807 := by
      rw [strOfNums_size]
      have := digs_length 20 a.natAbs
      simp only [List.length_reverse]
      omega
    rw [if_pos hsz, putRev_neg a c]
    congr 1
    unfold strOfNums
    apply ByteArray.ext
    rw [ByteArray.data_append]
    simp
  · have e1 : IntKind.u64.wrap a = ((a.natAbs : Nat) : Int) := by
      simp only [IntKind.wrap_u64]
      omega
    rw [if_neg c, e1, refdigits 20 a.natAbs hmax (by omega) (by omega) (by omega) g hg, Option.bind_some, putRev_nonneg a (by omega)]
end Go.Proofs.YtdimbcabkikcoaaGreatDoor.P
