/- Digits of a number, the last one first. -/
import Derived.Test.YtdimbcabkikcoaaGreatDoorEPut
namespace Go.Proofs.YtdimbcabkikcoaaGreatDoor.P
open Go.RowKit Go.Proofs.YtdimbcabkikcoaaGreatDoorW.PrintWords Go.Proofs.YtdimbcabkikcoaaGreatDoorW.PrintLast
set_option linter.unusedVariables false
set_option linter.unusedSimpArgs false

/-! ### digits, the last one first -/
theorem digs_step (f n : Nat) : digs (f + 1) n = (48 + (n : Int) % 10) :: (if n / 10 = 0 then [] else digs f (n / 10)) := rfl
theorem digs_fuel : ∀ (f g n : Nat), n < 10 ^ f → f ≤ g → 0 < f → digs g n = digs f n
  | 0, _, _, _, _, h => by omega
  | f + 1, 0, _, _, h, _ => by omega
  | f + 1, g + 1, n, hn, hg, _ => by
    rw [digs_step, digs_step]
    by_cases c : n / 10 = 0
    · rw [if_pos c, if_pos c]
    · rw [if_neg c, if_neg c]
      have h10 : n / 10 < 10 ^ f := by
        rw [Nat.pow_succ] at hn
        exact Nat.div_lt_of_lt_mul (by rw [Nat.mul_comm]; exact hn)
      cases f with
      | zero => simp at h10; omega
      | succ f => rw [digs_fuel (f + 1) g (n / 10) h10 (by omega) (by omega)]
end Go.Proofs.YtdimbcabkikcoaaGreatDoor.P
