/- What the printed functions of layer 3 answer. -/
import Derived.Test.YtfnonbbakkcoaaaM03Names
import Derived.Test.YtfnonbbakkcoaaaPx1
import Derived.Test.YtfnonbbakkcoaaaPx2
namespace Go.Proofs.Ytfnonbbakkcoaaa.P
open Go.RowKit Go.Proofs.YtfnonbbakkcoaaaW.PrintWords
set_option linter.unusedVariables false
set_option linter.unusedSimpArgs false
theorem w64n (i : Nat) (h : i ≤ 140737488355328) : wrap64 ((i : Int) + 1) = ((i + 1 : Nat) : Int) := by unfold wrap64; omega
theorem long_from (l : List ByteArray) (hl : l.length ≤ 140737488355328) (d : Nat) : ∀ (k i : Nat), 81 - i = d → i ≤ 81 → i ≤ l.length → 2 * d + 2 ≤ k → (∀ x ∈ l.take i, x.size ≤ 60) → ∃ r, armisticelaw03_long.l0 k l (i : Int) = some r ∧ (r = false → l.length ≤ 80 ∧ ∀ x ∈ l, x.size ≤ 60) := by
  have hend : ∀ (i : Nat), (i = l.length ∨ i = 81) → (∀ x ∈ l.take i, x.size ≤ 60) → (decide ((l.length : Int) > 80) = false → l.length ≤ 80 ∧ ∀ x ∈ l, x.size ≤ 60) := by
    intro i hi ht h
    have hle : l.length ≤ 80 := by
      have := of_decide_eq_false h
      omega
    refine ⟨hle, fun x hx => ht x ?_⟩
    rw [List.take_of_length_le (by omega)]
    exact hx
  induction d with
  | zero =>
    intro k i hd h81 hi hk ht
    obtain rfl : i = 81 := by omega
    obtain ⟨k, rfl⟩ : ∃ m, k = m + 1 + 1 := ⟨k - 2, by omega⟩
    by_cases c : (81 : Int) < (l.length : Int)
    · refine ⟨decide ((l.length : Int) > 80), ?_, hend 81 (.inr rfl) ht⟩
      show armisticelaw03_long.l0 (k + 1 + 1) l 81 = _
      rw [armisticelaw03_long.l0, if_pos c, armisticelaw03_long.j1]
      simp
    · refine ⟨decide ((l.length : Int) > 80), ?_, hend 81 (.inr rfl) ht⟩
      show armisticelaw03_long.l0 (k + 1 + 1) l 81 = _
      rw [armisticelaw03_long.l0, if_neg c, armisticelaw03_long.j1]
      simp
  | succ d ih =>
    intro k i hd h81 hi hk ht
    obtain ⟨k, rfl⟩ : ∃ m, k = m + 1 + 1 := ⟨k - 2, by omega⟩
    by_cases c : i < l.length
    · have e1 : decide ((i : Int) < 81) = true := decide_eq_true (by omega)
      have ex : rdOf ByteArray.empty l (i : Int) = l[i] := by simp [rdOf, List.getD, c]
      have e2 : wrap64 ((i : Int) + 1) = ((i + 1 : Nat) : Int) := by unfold wrap64; omega
      by_cases c2 : ((l[i]).size : Int) > 60
      · refine ⟨true, ?_, fun h => by cases h⟩
        rw [armisticelaw03_long.l0, if_pos (by omega), armisticelaw03_long.j1, e1, if_pos rfl, if_pos (by omega), if_pos (by omega), ex, if_pos c2]
      · obtain ⟨r, hr, hr2⟩ := ih k (i + 1) (by omega) (by omega) (by omega) (by omega) (fun x hx => by
          rw [List.take_succ_eq_append_getElem c] at hx
          rcases List.mem_append.1 hx with hx | hx
          · exact ht x hx
          · rw [List.mem_singleton.1 hx]
            omega)
        refine ⟨r, ?_, hr2⟩
        rw [armisticelaw03_long.l0, if_pos (by omega), armisticelaw03_long.j1, e1, if_pos rfl, if_pos (by omega), if_pos (by omega), ex, if_neg c2, e2]
        exact hr
    · refine ⟨decide ((l.length : Int) > 80), ?_, hend i (.inl (by omega)) ht⟩
      rw [armisticelaw03_long.l0, if_neg (by omega), armisticelaw03_long.j1]
      simp
theorem long_f (l : List ByteArray) (hl : l.length ≤ 140737488355328) : ∃ r, armisticelaw03_long.f 200 l = some r ∧ (r = false → l.length ≤ 80 ∧ ∀ x ∈ l, x.size ≤ 60) :=
  long_from l hl 81 200 0 rfl (by omega) (Nat.zero_le _) (by omega) (fun x hx => by simp at hx)
theorem same_from (l : List Int) (hl : l.length ≤ 140737488355328) (d : Nat) : ∀ (k i : Nat), l.length - i = d → i ≤ l.length → d + 1 ≤ k → armisticekit_SameInts.l0 k l l (i : Int) = some true := by
  induction d with
  | zero =>
    intro k i hd hi hk
    obtain ⟨k, rfl⟩ : ∃ m, k = m + 1 := ⟨k - 1, by omega⟩
    rw [armisticekit_SameInts.l0, if_neg (by omega)]
  | succ d ih =>
    intro k i hd hi hk
    obtain ⟨k, rfl⟩ : ∃ m, k = m + 1 := ⟨k - 1, by omega⟩
    rw [armisticekit_SameInts.l0, if_pos (by omega), if_pos (by omega), if_pos (by omega), if_pos rfl, w64n i (by omega)]
    exact ih k (i + 1) (by omega) (by omega) (by omega)
theorem same_f (l : List Int) (hl : l.length ≤ 140737488355328) : armisticekit_SameInts.f (l.length + 1) l l = some true := by
  unfold armisticekit_SameInts.f
  rw [if_pos rfl]
  exact same_from l hl l.length _ 0 (by omega) (by omega) (by omega)
theorem over_from (n : Nat) (hn : n ≤ 140737488355328) (d : Nat) : ∀ (k i : Nat) (l : List Int), l.length = n → n - i = d → i ≤ n → d + 1 ≤ k → ∃ r, armisticekit_OverInts.l0 k l (i : Int) = some r := by
  induction d with
  | zero =>
    intro k i l hl hd hi hk
    obtain ⟨k, rfl⟩ : ∃ m, k = m + 1 := ⟨k - 1, by omega⟩
    exact ⟨l, by rw [armisticekit_OverInts.l0, if_neg (by omega)]⟩
  | succ d ih =>
    intro k i l hl hd hi hk
    obtain ⟨k, rfl⟩ : ∃ m, k = m + 1 := ⟨k - 1, by omega⟩
    rw [armisticekit_OverInts.l0, if_pos (by omega), if_pos (by omega), w64n i (by omega)]
    exact ih k (i + 1) _ (by rw [List.length_set]; exact hl) (by omega) (by omega) (by omega)
theorem over_f (l : List Int) (hl : l.length ≤ 140737488355328) : ∃ r, armisticekit_OverInts.f (l.length + 1) l = some r := over_from l.length hl l.length _ 0 l rfl (by omega) (by omega) (by omega)
/-- What place answers. -/
def placeN (l : List ByteArray) (s : ByteArray) : Int := match nidx l s with | some i => (i : Int) | none => -1
theorem place_from (l : List ByteArray) (s : ByteArray) (hl : l.length ≤ 140737488355328) (d : Nat) : ∀ (k i : Nat), l.length - i = d → i ≤ l.length → d + 1 ≤ k → (∀ j (hj : j < l.length), j < i → l[j] ≠ s) → armisticelaw03_place.l0 k l s (i : Int) = some (placeN l s) := by
  induction d with
  | zero =>
    intro k i hd hi hk hn
    obtain ⟨k, rfl⟩ : ∃ m, k = m + 1 := ⟨k - 1, by omega⟩
    have : nidx l s = none := nidx_none.2 (fun hm => by
      obtain ⟨j, hj, e⟩ := List.getElem_of_mem hm
      exact hn j hj (by omega) e)
    rw [armisticelaw03_place.l0, if_neg (by omega), placeN, this]
  | succ d ih =>
    intro k i hd hi hk hn
    obtain ⟨k, rfl⟩ : ∃ m, k = m + 1 := ⟨k - 1, by omega⟩
    have c1 : i < l.length := by omega
    have ex : rdOf ByteArray.empty l (i : Int) = l[i] := by simp [rdOf, List.getD, c1]
    rw [armisticelaw03_place.l0, if_pos (by omega), if_pos (by omega), ex]
    by_cases c : l[i] = s
    · rw [if_pos (ba_toList.2 c)]
      have : nidx l s = some i := nidx_some.2 ⟨c1, c, fun j hj => hn j (by omega) hj⟩
      rw [placeN, this]
    · rw [if_neg (fun h => c (ba_toList.1 h)), w64n i (by omega)]
      refine ih k (i + 1) (by omega) (by omega) (by omega) (fun j hj h => ?_)
      rcases Nat.lt_or_ge j i with h1 | h1
      · exact hn j hj h1
      · have : j = i := by omega
        subst this
        exact c
theorem place_f (l : List ByteArray) (s : ByteArray) (hl : l.length ≤ 140737488355328) : armisticelaw03_place.f (l.length + 1) l s = some (placeN l s) :=
  place_from l s hl l.length _ 0 (by omega) (by omega) (by omega) (fun j hj h => absurd h (by omega))
theorem rcheck_from (s : ByteArray) (hs : s.size ≤ 140737488355328) (d : Nat) : ∀ (k i : Nat), s.size - i = d → i ≤ s.size → d + 1 ≤ k → (∀ j : Nat, j < i → partB (bt s (j : Int)) = true) → armisticeref03_Check.l0 k s (i : Int) = some (errN (allB s)) := by
  induction d with
  | zero =>
    intro k i hd hi hk hn
    obtain ⟨k, rfl⟩ : ∃ m, k = m + 1 := ⟨k - 1, by omega⟩
    rw [armisticeref03_Check.l0, if_neg (by omega), allB_yes (fun j hj => hn j (by omega))]
    rfl
  | succ d ih =>
    intro k i hd hi hk hn
    obtain ⟨k, rfl⟩ : ∃ m, k = m + 1 := ⟨k - 1, by omega⟩
    rw [armisticeref03_Check.l0, if_pos (by omega), if_pos (by omega), w64n i (by omega)]
    cases hb : partB (bt s (i : Int)) with
    | true =>
      have e := ih k (i + 1) (by omega) (by omega) (by omega) (fun j hj => by
        rcases Nat.lt_or_ge j i with h1 | h1
        · exact hn j h1
        · have : j = i := by omega
          subst this
          exact hb)
      rw [e]
      unfold partB at hb
      simp only [Bool.or_eq_true, decide_eq_true_eq] at hb
      repeat (first | rfl | omega | split)
    | false =>
      rw [allB_no (by omega) hb]
      unfold partB at hb
      simp only [Bool.or_eq_false_iff, decide_eq_false_iff_not] at hb
      repeat (first | rfl | omega | split)
theorem rcheck_f (s : ByteArray) (hs : s.size ≤ 140737488355328) : armisticeref03_Check.f 100 s = some (errN (nameB s)) := by
  unfold armisticeref03_Check.f nameB
  by_cases c1 : (s.size : Int) < 1
  · rw [if_pos c1, decide_eq_false (by omega)]
    rfl
  · by_cases c2 : (s.size : Int) > 32
    · rw [if_neg c1, if_pos c2, decide_eq_false (by omega)]
      rfl
    · have e1 : decide (1 ≤ s.size ∧ s.size ≤ 32) = true := decide_eq_true ⟨by omega, by omega⟩
      rw [if_neg c1, if_neg c2, if_pos (by omega), e1]
      by_cases c3 : bt s 0 < 97
      · have e2 : decide (97 ≤ bt s 0 ∧ bt s 0 ≤ 122) = false := decide_eq_false (by omega)
        rw [if_pos c3, e2]
        rfl
      · rw [if_neg c3]
        by_cases c4 : bt s 0 > 122
        · have e2 : decide (97 ≤ bt s 0 ∧ bt s 0 ≤ 122) = false := decide_eq_false (by omega)
          have e3 : decide (bt s 0 > 122) = true := decide_eq_true c4
          rw [e2, e3]
          rfl
        · have e2 : decide (97 ≤ bt s 0 ∧ bt s 0 ≤ 122) = true := decide_eq_true (by omega)
          have e3 : decide (bt s 0 > 122) = false := decide_eq_false c4
          rw [e2, e3, armisticeref03_Check.j0, if_neg (by decide)]
          simpa using rcheck_from s hs s.size 99 0 (by omega) (by omega) (by omega) (fun j hj => absurd hj (by omega))
theorem rname_f (l : List ByteArray) (n : Int) : armisticeref03_Table_Name.f l n = some (if 0 ≤ n ∧ n < (l.length : Int) then (rdOf ByteArray.empty l n, 0) else (⟨#[]⟩, 3)) := by
  unfold armisticeref03_Table_Name.f
  by_cases c : 0 ≤ n ∧ n < (l.length : Int)
  · rw [if_neg (by omega), if_neg (by omega), if_pos c.1, if_pos c.2, if_pos c]
  · rw [if_neg c]
    by_cases c1 : n < 0
    · rw [if_pos c1]
    · rw [if_neg c1, if_pos (by omega)]
end Go.Proofs.Ytfnonbbakkcoaaa.P
