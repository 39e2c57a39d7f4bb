/- Whatever words: the law OperationReads tells true. -/
import Derived.Test.YtoenklncjbcgiaaDoorPx7
namespace Go.Proofs.YtoenklncjbcgiaaDoor.Pure
open Go.RowKit Go.Proofs.YtoenklncjbcgiaaDoor.P Go.Proofs.YtoenklncjbcgiaaDoorW.PrintWords Go.Proofs.YtoenklncjbcgiaaDoorW.PrintLast

theorem awake_true : armisticelaw04_awake.f = some true := by kernel_rfl
theorem whole_total (s : ByteArray) : ∃ r, wholeF s = some r := by
  obtain ⟨r, _, h⟩ := refGet_eq s 22 rfl
  unfold wholeF
  rw [h]
  exact ⟨_, rfl⟩
theorem step_total (st : StepK) (s : ByteArray) (x : Int × Int × Int × Int) : ∃ r, stepF st s x = some r := by
  obtain ⟨r, h⟩ := whole_total s
  cases st with
  | first =>
    unfold stepF
    rw [h]
    exact ⟨_, rfl⟩
  | second =>
    unfold stepF
    rw [h]
    exact ⟨_, rfl⟩
  | arrow => exact ⟨_, rfl⟩
  | result =>
    unfold stepF
    rw [h]
    simp only
    split
    · exact ⟨_, rfl⟩
    · split
      · exact ⟨_, rfl⟩
      · exact ⟨_, rfl⟩
theorem run_total (l : List ByteArray) : ∀ (ss : List StepK) (i : Nat) (x : Int × Int × Int × Int), ∃ r, runSteps l ss i x = some r
  | [], i, x => ⟨_, rfl⟩
  | s :: ss, i, x => by
    unfold runSteps
    split
    · exact ⟨_, rfl⟩
    · obtain ⟨r, h⟩ := step_total s (rdOf ByteArray.empty l ((i : Int) + 1)) x
      rw [h, Option.bind_some]
      split
      · exact run_total l ss (i + 1) r.1
      · exact ⟨_, rfl⟩
theorem read_total (l : List ByteArray) : ∃ r, operation_Read.f l = some r := by
  unfold operation_Read.f
  split
  · exact ⟨_, rfl⟩
  · obtain ⟨ke, hk⟩ : ∃ t, operation_Kind.f (rdOf ByteArray.empty l 0) = some t := by
      unfold operation_Kind.f
      exact ⟨_, rfl⟩
    rw [hk, Option.bind_some]
    split
    · exact ⟨_, rfl⟩
    · obtain ⟨r, hr⟩ := run_total l (stepsOf (kdOf ke.1).args) 0 (0, 0, 0, 0)
      rw [hr, Option.bind_some]
      unfold endRead
      split
      · exact ⟨_, rfl⟩
      · split
        · exact ⟨_, rfl⟩
        · obtain ⟨c, hc⟩ : ∃ e, operation_Check.f ke.1 r.1.1 r.1.2.1 r.1.2.2.1 r.1.2.2.2 = some e := by
            unfold operation_Check.f
            exact ⟨_, rfl⟩
          rw [hc, Option.bind_some]
          split
          · exact ⟨_, rfl⟩
          · split
            · exact ⟨_, rfl⟩
            · split
              · exact ⟨_, rfl⟩
              · exact ⟨_, rfl⟩
theorem same_texts (l : List ByteArray) (hl : l.length ≤ 1000) : ∀ (k i : Nat), l.length < i + k → i ≤ l.length → armisticekit_SameTexts.l0 k l l i = some true
  | 0, i, h1, h2 => by omega
  | k + 1, i, h1, h2 => by
    unfold armisticekit_SameTexts.l0
    by_cases c : (i : Int) < (l.length : Int)
    · rw [if_pos c, if_pos (by omega), if_pos c, if_pos rfl, show wrap64 ((i : Int) + 1) = ((i + 1 : Nat) : Int) by unfold wrap64; omega]
      exact same_texts l hl k (i + 1) (by omega) (by omega)
    · rw [if_neg c]
theorem reads_end (l : List ByteArray) (x : Int) (k : Nat) (hk : 12 ≤ k) : armisticelaw04_OperationReads.j1 (k + 1) l x false = some true := by
  rw [armisticelaw04_OperationReads.j1, if_neg (by decide), awake_true]
  by_cases c : (l.length : Int) > 10
  · rw [if_pos c]
    rfl
  · rw [if_neg c, Option.bind_some, if_pos (by simp; omega), Option.bind_some]
    obtain ⟨r, hr⟩ := read_total l
    have hf : armisticeref04_Read.f l = some r := hr
    have hs : armisticekit_SameTexts.f k l l = some true := by
      unfold armisticekit_SameTexts.f
      rw [if_pos rfl]
      exact same_texts l (by omega) k 0 (by omega) (by omega)
    rw [List.nil_append, hr, hf, hs]
    simp
theorem reads_loop (l : List ByteArray) : ∀ (d i k : Nat), i + d = 11 → i ≤ l.length → 2 * d + 14 ≤ k → armisticelaw04_OperationReads.l0 k l i = some true := by
  intro d
  induction d with
  | zero =>
    intro i k h1 h2 h3
    obtain ⟨k, rfl⟩ : ∃ k', k = k' + 1 + 1 := ⟨k - 2, by omega⟩
    rw [armisticelaw04_OperationReads.l0, show decide ((i : Int) < 11) = false from decide_eq_false (by omega), reads_end l i k (by omega)]
    split <;> rfl
  | succ d ih =>
    intro i k h1 h2 h3
    obtain ⟨k, rfl⟩ : ∃ k', k = k' + 1 + 1 := ⟨k - 2, by omega⟩
    rw [armisticelaw04_OperationReads.l0]
    by_cases c : (i : Int) < (l.length : Int)
    · rw [if_pos c, show decide ((i : Int) < 11) = true from decide_eq_true (by omega), armisticelaw04_OperationReads.j1, if_pos rfl, if_pos (by omega), if_pos c, awake_true]
      split
      · rfl
      · rw [show wrap64 ((i : Int) + 1) = ((i + 1 : Nat) : Int) by unfold wrap64; omega]
        exact ih (i + 1) k (by omega) (by omega) (by omega)
    · rw [if_neg c]
      exact reads_end l i k (by omega)
theorem OperationReads (l : List ByteArray) : armisticelaw04_OperationReads.f 40 l = some true := reads_loop l 11 0 40 rfl (by omega) (by omega)

end Go.Proofs.YtoenklncjbcgiaaDoor.Pure
