/- Whatever words: the law OperationOnly tells true. -/
import Derived.Test.YtoenklncjbcgiaaDoorMOnly
import Derived.Test.YtoenklncjbcgiaaDoorPx4
namespace Go.Proofs.YtoenklncjbcgiaaDoor.Pure
open Go.RowKit Go.Proofs.YtoenklncjbcgiaaDoor.P Go.Proofs.YtoenklncjbcgiaaDoorW.PrintWords Go.Proofs.YtoenklncjbcgiaaDoorW.PrintLast

theorem known40 : armisticelaw04_OperationKnown.f 40 = some true := by kernel_rfl
theorem whole_total (s : ByteArray) : ∃ r, wholeF s = some r := by
  unfold wholeF
  rcases get_cases s with ⟨_, h1⟩ | ⟨_, i', _, _, h1⟩ | ⟨_, _, _, h1⟩
  all_goals
    rw [h1]
    exact ⟨_, rfl⟩
theorem step_total (st : StepK) (s : ByteArray) (x : Int × Int × Int × Int) : ∃ r, stepF st s x = some r := by
  obtain ⟨r, h⟩ := whole_total s
  cases st with
  | first =>
    unfold stepF
    rw [h]
    exact ⟨_, rfl⟩
  | second =>
    unfold stepF
    rw [h]
    exact ⟨_, rfl⟩
  | arrow => exact ⟨_, rfl⟩
  | result =>
    unfold stepF
    rw [h]
    simp only
    split
    · exact ⟨_, rfl⟩
    · split
      · exact ⟨_, rfl⟩
      · exact ⟨_, rfl⟩
/-- Where reading stops is among the words. -/
theorem run_total (l : List ByteArray) : ∀ (ss : List StepK) (i : Nat) (x : Int × Int × Int × Int), i < l.length → ∃ r, runSteps l ss i x = some r ∧ r.2.1 ≤ l.length ∧ (r.2.2 = 0 → i + ss.length < l.length)
  | [], i, x, h => ⟨_, rfl, by show i ≤ l.length; omega, fun _ => by simpa using h⟩
  | s :: ss, i, x, h => by
    unfold runSteps
    by_cases c : i + 1 = l.length
    · rw [if_pos c]
      exact ⟨_, rfl, by show i + 1 ≤ l.length; omega, fun h => by cases h⟩
    · rw [if_neg c]
      obtain ⟨r, h'⟩ := step_total s (rdOf ByteArray.empty l ((i : Int) + 1)) x
      rw [h', Option.bind_some]
      by_cases d : r.2 = 0
      · rw [if_pos d]
        obtain ⟨q, h1, h2, h3⟩ := run_total l ss (i + 1) r.1 (by omega)
        exact ⟨q, h1, h2, fun h => by have := h3 h; simp only [List.length_cons]; omega⟩
      · rw [if_neg d]
        exact ⟨_, rfl, by show i + 1 ≤ l.length; omega, fun h => absurd h d⟩
/-- What Read tells of any words: an operation; or none, and a place among them. -/
theorem read_told (l : List ByteArray) : ∃ k a b rk rn at_ e : Int, operation_Read.f l = some (k, a, b, rk, rn, at_, e) ∧ (e = 0 ∨ (¬ e = 0 ∧ k = 0 ∧ a = 0 ∧ b = 0 ∧ rk = 0 ∧ rn = 0 ∧ 0 ≤ at_ ∧ at_ ≤ (l.length : Int))) := by
  unfold operation_Read.f
  by_cases hl : l.length = 0
  · rw [if_pos hl]
    exact ⟨_, _, _, _, _, _, _, rfl, .inr ⟨by decide, rfl, rfl, rfl, rfl, rfl, by omega, by omega⟩⟩
  · rw [if_neg hl]
    obtain ⟨ke, hk⟩ : ∃ t, operation_Kind.f (rdOf ByteArray.empty l 0) = some t := by
      unfold operation_Kind.f
      exact ⟨_, rfl⟩
    rw [hk, Option.bind_some]
    by_cases he : ke.2 ≠ 0
    · rw [if_pos he]
      exact ⟨_, _, _, _, _, _, _, rfl, .inr ⟨he, rfl, rfl, rfl, rfl, rfl, by omega, by omega⟩⟩
    · rw [if_neg he]
      obtain ⟨R, hR, h1, h2⟩ := run_total l (stepsOf (kdOf ke.1).args) 0 (0, 0, 0, 0) (by omega)
      rw [hR, Option.bind_some]
      unfold endRead
      by_cases c0 : R.2.2 ≠ 0
      · rw [if_pos c0]
        exact ⟨_, _, _, _, _, _, _, rfl, .inr ⟨c0, rfl, rfl, rfl, rfl, rfl, by omega, by omega⟩⟩
      · rw [if_neg c0]
        have h3 := h2 (by omega)
        have h4 : 2 ≤ (stepsOf (kdOf ke.1).args).length := by
          unfold stepsOf
          split
          · decide
          · split <;> decide
        by_cases c1 : (stepsOf (kdOf ke.1).args).length + 1 < l.length
        · rw [if_pos c1]
          exact ⟨_, _, _, _, _, _, _, rfl, .inr ⟨by decide, rfl, rfl, rfl, rfl, rfl, by omega, by omega⟩⟩
        · rw [if_neg c1]
          obtain ⟨c, hc⟩ : ∃ e, operation_Check.f ke.1 R.1.1 R.1.2.1 R.1.2.2.1 R.1.2.2.2 = some e := by
            unfold operation_Check.f
            exact ⟨_, rfl⟩
          rw [hc, Option.bind_some]
          by_cases d0 : c = 0
          · rw [if_pos d0]
            exact ⟨_, _, _, _, _, _, _, rfl, .inl rfl⟩
          · rw [if_neg d0]
            split
            · exact ⟨_, _, _, _, _, _, _, rfl, .inr ⟨d0, rfl, rfl, rfl, rfl, rfl, by omega, by omega⟩⟩
            · split
              · exact ⟨_, _, _, _, _, _, _, rfl, .inr ⟨d0, rfl, rfl, rfl, rfl, rfl, by omega, by omega⟩⟩
              · exact ⟨_, _, _, _, _, _, _, rfl, .inr ⟨d0, rfl, rfl, rfl, rfl, rfl, by omega, by omega⟩⟩
theorem only_end (l : List ByteArray) (x : Int) (k : Nat) : armisticelaw04_OperationOnly.j1 (k + 1) l true x false = some true := by
  rw [armisticelaw04_OperationOnly.j1, if_neg (by decide)]
  by_cases c : (l.length : Int) > 10
  · rw [if_pos c]
  · rw [if_neg c]
    obtain ⟨n, a, b, rk, rn, at_, e, hr, he⟩ := read_told l
    rw [hr, Option.bind_some]
    rcases he with rfl | ⟨he, rfl, rfl, rfl, rfl, rfl, h1, h2⟩
    · obtain ⟨rfl, hc, ha, hb, hn, hl⟩ := read_back hr
      have hj : token_Join.f l = some (joinB l, 0) := by
        rw [hl]
        exact join_words n a b rk rn hc ha hb hn
      have ht : armisticelaw04_tells.f n a b rk rn (joinB l) = some true := by
        unfold armisticelaw04_tells.f operation_Text.f
        rw [if_pos ⟨ha, hb, hn⟩, hc, Option.bind_some, if_pos rfl, Option.bind_some, ← hl, if_pos rfl]
        rfl
      rw [if_pos rfl, hj, Option.bind_some, if_pos rfl, if_pos rfl, if_pos rfl, hc, Option.bind_some, if_pos rfl, ht]
      rfl
    · dsimp only
      rw [if_neg he, if_pos rfl, if_pos (show ((0 : Int) == 0 && ((0 : Int) == 0 && ((0 : Int) == 0 && ((0 : Int) == 0 && (0 : Int) == 0)))) = true from rfl), if_pos (show at_ ≥ 0 from h1), decide_eq_true h2]
theorem only_loop (l : List ByteArray) : ∀ (d i k : Nat), i + d = 11 → i ≤ l.length → 2 * d + 4 ≤ k → armisticelaw04_OperationOnly.l0 k l true i = some true := by
  intro d
  induction d with
  | zero =>
    intro i k h1 h2 h3
    obtain ⟨k, rfl⟩ : ∃ k', k = k' + 1 + 1 := ⟨k - 2, by omega⟩
    rw [armisticelaw04_OperationOnly.l0, show decide ((i : Int) < 11) = false from decide_eq_false (by omega), only_end l i k]
    split <;> rfl
  | succ d ih =>
    intro i k h1 h2 h3
    obtain ⟨k, rfl⟩ : ∃ k', k = k' + 1 + 1 := ⟨k - 2, by omega⟩
    rw [armisticelaw04_OperationOnly.l0]
    by_cases c : (i : Int) < (l.length : Int)
    · rw [if_pos c, show decide ((i : Int) < 11) = true from decide_eq_true (by omega), armisticelaw04_OperationOnly.j1, if_pos rfl, if_pos (by omega), if_pos c]
      split
      · rfl
      · rw [show wrap64 ((i : Int) + 1) = ((i + 1 : Nat) : Int) by unfold wrap64; omega]
        exact ih (i + 1) k (by omega) (by omega) (by omega)
    · rw [if_neg c]
      exact only_end l i k
theorem OperationOnly (l : List ByteArray) : armisticelaw04_OperationOnly.f 40 l = some true := by
  unfold armisticelaw04_OperationOnly.f
  rw [known40, Option.bind_some]
  exact only_loop l 11 0 40 rfl (by omega) (by omega)

end Go.Proofs.YtoenklncjbcgiaaDoor.Pure
