/- Plain laws of number.Sum, number.All, number.Wrap. -/
import Derived.Test.YtnefpmgaklegnaaDoorMGet
import Derived.Test.YtnefpmgaklegnaaDoorPx3
import Derived.Test.YtnefpmgaklegnaaDoorPx5
import Derived.Laws.BitsAllLaws
namespace Go.Proofs.YtnefpmgaklegnaaDoor.P
open Go.RowKit Go.Proofs.YtnefpmgaklegnaaDoorW.PrintWords Go.Proofs.YtnefpmgaklegnaaDoorW.PrintLast
set_option linter.unusedVariables false
set_option linter.unusedSimpArgs false

/-! ### two halves of 32 bits -/
theorem wrap_i64_nat (n : Nat) (h : n < 9223372036854775808) : IntKind.i64.wrap (n : Int) = (n : Int) := by
  have e : (n : Int) % 2 ^ 64 = n := Int.emod_eq_of_lt (by omega) (by omega)
  simp only [IntKind.wrap, IntKind.bits, IntKind.signed, e]
  rw [if_neg]
  simp
  omega
theorem ofInt64_toNat (x : Int) : (BitVec.ofInt 64 x).toNat = (x % 18446744073709551616).toNat := by
  rw [BitVec.toNat_ofInt]
  rfl
theorem low_bits (x : Int) : Go.bits .and .i64 x 4294967295 = x % 4294967296 := by
  show IntKind.i64.wrap ((BitVec.ofInt 64 x &&& BitVec.ofInt 64 4294967295).toNat : Int) = _
  rw [BitVec.toNat_and, ofInt64_toNat, ofInt64_toNat]
  have e : ((4294967295 : Int) % 18446744073709551616).toNat = 2 ^ 32 - 1 := by decide
  rw [e, Nat.and_two_pow_sub_one_eq_mod, wrap_i64_nat _ (by omega)]
  omega
theorem join_bits (h l : Int) (hh : -2147483648 ≤ h ∧ h < 2147483648) (hl : 0 ≤ l ∧ l < 4294967296) : Go.bits .or .i64 (h * 4294967296) l = h * 4294967296 + l := by
  show IntKind.i64.wrap ((BitVec.ofInt 64 (h * 4294967296) ||| BitVec.ofInt 64 l).toNat : Int) = _
  rw [BitVec.toNat_or, ofInt64_toNat, ofInt64_toNat]
  obtain ⟨m, hm⟩ : ∃ m : Nat, m = (h % 4294967296).toNat := ⟨_, rfl⟩
  have e1 : ((h * 4294967296) % 18446744073709551616).toNat = 2 ^ 32 * m := by
    rw [show (2 : Nat) ^ 32 = 4294967296 from rfl]
    omega
  have e2 : (l % 18446744073709551616).toNat = l.toNat := by omega
  rw [e1, e2, ← Nat.two_pow_add_eq_or_of_lt (by rw [show (2 : Nat) ^ 32 = 4294967296 from rfl]; omega)]
  rw [show (2 : Nat) ^ 32 = 4294967296 from rfl]
  rw [IntKind.wrap_i64]
  omega

/-! ### sums -/
theorem sum_cons (x : Int) (l : List Int) : sumL (x :: l) = x + sumL l := by
  show l.foldl (· + ·) (0 + x) = _
  rw [sum_from]
  omega
/-- The upper halves' sum, the lower halves' sum. -/
def hiSum (l : List Int) : Int := sumL (l.map (· / 4294967296))
def loSum (l : List Int) : Int := sumL (l.map (· % 4294967296))
theorem parts_sum (l : List Int) : sumL l = hiSum l * 4294967296 + loSum l := by
  unfold hiSum loSum
  induction l with
  | nil => rfl
  | cons x l ih =>
    rw [List.map_cons, List.map_cons, sum_cons, sum_cons, sum_cons, ih]
    omega
theorem parts_range (l : List Int) (h : ∀ x ∈ l, isI64 x) : -(2147483648 * (l.length : Int)) ≤ hiSum l ∧ hiSum l ≤ 2147483648 * (l.length : Int) ∧ 0 ≤ loSum l ∧ loSum l ≤ 4294967296 * (l.length : Int) := by
  unfold hiSum loSum
  induction l with
  | nil => simp [sumL]
  | cons x l ih =>
    have h1 := ih (fun y hy => h y (List.mem_cons_of_mem _ hy))
    have h2 := h x List.mem_cons_self
    unfold isI64 at h2
    rw [List.map_cons, List.map_cons, sum_cons, sum_cons]
    simp only [List.length_cons]
    omega
theorem take_succ_sum (f : Int → Int) (l : List Int) (k : Nat) (hk : k < l.length) : sumL ((l.take (k + 1)).map f) = sumL ((l.take k).map f) + f (rd l k) := by
  rw [List.take_succ_eq_append_getElem hk, List.map_append]
  unfold sumL rd
  rw [List.foldl_append]
  simp [List.getD, hk]
theorem refAll_l0 (l : List Int) (hall : ∀ x ∈ l, isI64 x) (hlen : l.length ≤ 100) : ∀ (g k : Nat), k ≤ l.length → l.length < k + g →
    armisticeref01_All.l0 g l (hiSum (l.take k)) (loSum (l.take k)) (k : Int) = some (if isI64 (sumL l) then (sumL l, 0) else (0, 3))
  | 0, k, h1, h2 => by omega
  | g + 1, k, h1, h2 => by
    rw [armisticeref01_All.l0]
    by_cases c : k < l.length
    · have hA : k + 1 ≤ l.length := by omega
      have hB : l.length < k + 1 + g := by omega
      have ih := refAll_l0 l hall hlen g (k + 1) hA hB
      have hr := parts_range (l.take (k + 1)) (fun x hx => hall x (List.mem_of_mem_take hx))
      have e1 : hiSum (l.take (k + 1)) = hiSum (l.take k) + rd l k / 4294967296 := take_succ_sum (· / 4294967296) l k c
      have e2 : loSum (l.take (k + 1)) = loSum (l.take k) + rd l k % 4294967296 := take_succ_sum (· % 4294967296) l k c
      rw [if_pos (show (k : Int) < (l.length : Int) by omega), if_pos (show 0 ≤ (k : Int) by omega), low_bits, ← e1, ← e2]
      rw [List.length_take] at hr
      have w1 : wrap64 (hiSum (l.take (k + 1))) = hiSum (l.take (k + 1)) := by unfold wrap64; omega
      have w2 : wrap64 (loSum (l.take (k + 1))) = loSum (l.take (k + 1)) := by unfold wrap64; omega
      have w3 : wrap64 ((k : Int) + 1) = ((k + 1 : Nat) : Int) := by unfold wrap64; omega
      rw [w1, w2, w3]
      exact ih
    · have ek : l.take k = l := List.take_of_length_le (by omega)
      rw [if_neg (show ¬ (k : Int) < (l.length : Int) by omega), ek, low_bits]
      have hr := parts_range l hall
      have hs := parts_sum l
      have w1 : wrap64 (hiSum l + loSum l / 4294967296) = hiSum l + loSum l / 4294967296 := by unfold wrap64; omega
      rw [w1]
      by_cases c1 : isI64 (sumL l)
      · have c1' := c1
        unfold isI64 at c1'
        rw [if_pos c1, if_neg (by omega), if_neg (by omega)]
        have w2 : wrap64 ((hiSum l + loSum l / 4294967296) * 4294967296) = (hiSum l + loSum l / 4294967296) * 4294967296 := by unfold wrap64; omega
        rw [w2, join_bits _ _ (by omega) (by omega)]
        congr 2
        omega
      · have c1' := c1
        unfold isI64 at c1'
        rw [if_neg c1]
        by_cases c2 : hiSum l + loSum l / 4294967296 < -2147483648
        · rw [if_pos c2]
        · rw [if_neg c2, if_pos (by omega)]
theorem refAll_eq (l : List Int) (hall : ∀ x ∈ l, isI64 x) (hlen : l.length ≤ 100) (g : Nat) (hg : 101 ≤ g) : ∃ r, armisticeref01_All.f g l = some r ∧ number_All.f l = some r := by
  refine ⟨if isI64 (sumL l) then (sumL l, 0) else (0, 3), ?_, ?_⟩
  · exact refAll_l0 l hall hlen g 0 (by omega) (by omega)
  · unfold number_All.f
    rw [if_pos ⟨hall, by omega⟩]
theorem wrap_f (a b : Int) : number_Wrap.f a b = some (wrap64 (a + b)) := by
  unfold number_Wrap.f
  congr 1
  simp only [IntKind.wrap_u64]
  unfold wrap64
  omega
theorem sum_f (a b : Int) (ha : isI64 a) (hb : isI64 b) : number_Sum.f a b = some (if isI64 (a + b) then (a + b, 0) else (0, 3)) := by
  unfold number_Sum.f number_All.f
  rw [if_pos ⟨by intro x hx; simp at hx; rcases hx with rfl | rfl <;> assumption, by simp⟩]
  have e : sumL [a, b] = a + b := by simp [sumL]
  rw [e]
  rfl
theorem refSum_eq (a b : Int) (ha : isI64 a) (hb : isI64 b) : armisticeref01_Sum.f a b = some (if isI64 (a + b) then (a + b, 0) else (0, 3)) := by
  unfold armisticeref01_Sum.f armisticeref01_Wrap.f
  unfold isI64 at ha hb
  have e : wrap64 (IntKind.u64.wrap (IntKind.u64.wrap a + IntKind.u64.wrap b)) = wrap64 (a + b) := by
    simp only [IntKind.wrap_u64]
    unfold wrap64
    omega
  rw [e, Option.bind_some]
  have hw : (wrap64 (a + b) = a + b ∧ isI64 (a + b)) ∨ (¬ isI64 (a + b) ∧ 0 ≤ a ∧ 0 ≤ b ∧ wrap64 (a + b) < 0) ∨ (¬ isI64 (a + b) ∧ a < 0 ∧ b < 0 ∧ 0 ≤ wrap64 (a + b)) := by
    unfold isI64 wrap64
    omega
  rcases hw with ⟨h1, h2⟩ | ⟨h1, h2, h3, h4⟩ | ⟨h1, h2, h3, h4⟩
  · rw [h1, if_pos h2]
    by_cases c1 : a ≥ 0
    · have c2 : ¬ a < 0 := by omega
      rw [if_pos c1]
      by_cases c3 : b ≥ 0
      · rw [if_pos c3, if_neg (show ¬ a + b < 0 by omega), if_neg c2]
      · rw [if_neg c3, if_neg c2]
    · have c2 : a < 0 := by omega
      rw [if_neg c1, if_pos c2]
      by_cases c3 : b < 0
      · rw [if_pos c3, if_neg (show ¬ a + b ≥ 0 by omega)]
      · rw [if_neg c3]
  · rw [if_neg h1, if_pos (show a ≥ 0 by omega), if_pos (show b ≥ 0 by omega), if_pos h4]
  · rw [if_neg h1, if_neg (show ¬ a ≥ 0 by omega), if_pos h2, if_pos h3, if_pos (show wrap64 (a + b) ≥ 0 by omega)]
theorem same_l0 (l : List Int) (hlen : l.length < 1000000) : ∀ (g k : Nat), k ≤ l.length → l.length < k + g → armisticekit_SameInts.l0 g l l (k : Int) = some true
  | 0, k, h1, h2 => by omega
  | g + 1, k, h1, h2 => by
    rw [armisticekit_SameInts.l0]
    by_cases c : k < l.length
    · rw [if_pos (by omega), if_pos (by omega), if_pos (by omega), if_pos rfl, show wrap64 ((k : Int) + 1) = ((k + 1 : Nat) : Int) by unfold wrap64; omega]
      exact same_l0 l hlen g (k + 1) (by omega) (by omega)
    · rw [if_neg (by omega)]
theorem copy_f (l : List Int) (hlen : l.length < 17592186044416) : armisticekit_CopyInts.f l = some l := by
  unfold armisticekit_CopyInts.f
  rw [Option.bind_some, if_pos (by simpa using hlen)]
  rfl
end Go.Proofs.YtnefpmgaklegnaaDoor.P
