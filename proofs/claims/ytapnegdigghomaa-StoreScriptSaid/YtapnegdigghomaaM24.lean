/- What the statements of layer 24 ask of numbers and lists. -/
import Derived.Test.YtapnegdigghomaaEPuts24
import Derived.Test.YtapnegdigghomaaPx1
namespace Go.Proofs.Ytapnegdigghomaa.P
open Go.RowKit Go.Proofs.YtapnegdigghomaaW.PrintWords
set_option linter.unusedVariables false
theorem long_from (l : List (List Int)) (hl : l.length ≤ 140737488355328) (d : Nat) : ∀ (k i : Nat), 61 - i = d → i ≤ 61 → i ≤ l.length → 2 * d + 2 ≤ k → (∀ x ∈ l.take i, x.length ≤ 40) → ∃ r, armisticelaw24_long.l0 k l (i : Int) = some r ∧ (r = false → l.length ≤ 60 ∧ ∀ x ∈ l, x.length ≤ 40) := by
  have hend : ∀ (i : Nat), (i = l.length ∨ i = 61) → (∀ x ∈ l.take i, x.length ≤ 40) → (decide ((l.length : Int) > 60) = false → l.length ≤ 60 ∧ ∀ x ∈ l, x.length ≤ 40) := by
    intro i hi ht h
    have hle : l.length ≤ 60 := by
      have := of_decide_eq_false h
      omega
    refine ⟨hle, fun x hx => ht x ?_⟩
    rw [List.take_of_length_le (by omega)]
    exact hx
  induction d with
  | zero =>
    intro k i hd h61 hi hk ht
    obtain rfl : i = 61 := by omega
    obtain ⟨k, rfl⟩ : ∃ m, k = m + 1 + 1 := ⟨k - 2, by omega⟩
    by_cases c : (61 : Int) < (l.length : Int)
    · refine ⟨decide ((l.length : Int) > 60), ?_, hend 61 (.inr rfl) ht⟩
      show armisticelaw24_long.l0 (k + 1 + 1) l 61 = _
      rw [armisticelaw24_long.l0, if_pos c, armisticelaw24_long.j1]
      simp
    · refine ⟨decide ((l.length : Int) > 60), ?_, hend 61 (.inr rfl) ht⟩
      show armisticelaw24_long.l0 (k + 1 + 1) l 61 = _
      rw [armisticelaw24_long.l0, if_neg c, armisticelaw24_long.j1]
      simp
  | succ d ih =>
    intro k i hd h61 hi hk ht
    obtain ⟨k, rfl⟩ : ∃ m, k = m + 1 + 1 := ⟨k - 2, by omega⟩
    by_cases c : i < l.length
    · have e1 : decide ((i : Int) < 61) = true := decide_eq_true (by omega)
      have ex : rd_L2 l (i : Int) = l[i] := by simp [rd_L2, List.getD, c]
      have e2 : wrap64 ((i : Int) + 1) = ((i + 1 : Nat) : Int) := by unfold wrap64; omega
      by_cases c2 : ((l[i]).length : Int) > 40
      · refine ⟨true, ?_, fun h => by cases h⟩
        rw [armisticelaw24_long.l0, if_pos (by omega), armisticelaw24_long.j1, e1, if_pos rfl, if_pos (by omega), if_pos (by omega), ex, if_pos c2]
      · obtain ⟨r, hr, hr2⟩ := ih k (i + 1) (by omega) (by omega) (by omega) (by omega) (fun x hx => by
          rw [List.take_succ_eq_append_getElem c] at hx
          rcases List.mem_append.1 hx with hx | hx
          · exact ht x hx
          · rw [List.mem_singleton.1 hx]
            omega)
        refine ⟨r, ?_, hr2⟩
        rw [armisticelaw24_long.l0, if_pos (by omega), armisticelaw24_long.j1, e1, if_pos rfl, if_pos (by omega), if_pos (by omega), ex, if_neg c2, e2]
        exact hr
    · refine ⟨decide ((l.length : Int) > 60), ?_, hend i (.inl (by omega)) ht⟩
      rw [armisticelaw24_long.l0, if_neg (by omega), armisticelaw24_long.j1]
      simp
theorem long_f (l : List (List Int)) (hl : l.length ≤ 140737488355328) : ∃ r, armisticelaw24_long.f 200 l = some r ∧ (r = false → l.length ≤ 60 ∧ ∀ x ∈ l, x.length ≤ 40) :=
  long_from l hl 61 200 0 rfl (by omega) (Nat.zero_le _) (by omega) (fun x hx => by simp at hx)
theorem pick_f (a n : Int) (h0 : 0 < n) (h1 : n ≤ 1000000) : ∃ r, armisticekit_Pick.f a n = some r ∧ 0 ≤ r ∧ r < n := by
  unfold armisticekit_Pick.f
  rw [if_neg (by omega), if_neg (by omega)]
  have h2 := Int.tmod_lt_of_pos a h0
  have h3 : -n < Int.tmod a n := by
    rcases Int.le_total 0 a with ha | ha
    · have := Int.tmod_nonneg n ha
      omega
    · have h4 := Int.tmod_lt_of_pos (-a) h0
      rw [Int.neg_tmod] at h4
      omega
  by_cases c : Int.tmod a n < 0
  · rw [if_pos c]
    refine ⟨_, rfl, ?_⟩
    rw [show wrap64 (Int.tmod a n + n) = Int.tmod a n + n by unfold wrap64; omega]
    omega
  · rw [if_neg c]
    exact ⟨_, rfl, by omega, h2⟩
theorem hasB_put (l : List (List Int)) (b : List Int) : hasB (putL l b) b = true := by
  unfold putL
  split
  · assumption
  · unfold hasB
    simp
theorem putL_len (l : List (List Int)) (b : List Int) : (putL l b).length ≤ l.length + 1 := by
  unfold putL
  split
  · omega
  · simp
theorem rows_one (sd : Int) (l : List (List Int)) : rowsOf sd 1 l 0 = l := by
  unfold rowsOf bkt
  refine List.filter_eq_self.2 (fun x _ => ?_)
  simp [Int.emod_one]
end Go.Proofs.Ytapnegdigghomaa.P
