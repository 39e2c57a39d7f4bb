/- Plain laws of decimal texts: number.Get's answer and the document's are one; what is put is got, what is got is put. -/
import Derived.Test.YtoenklncjbcgiaaGreatDoorEGet
import Derived.Test.YtoenklncjbcgiaaGreatDoorEDig
import Derived.Test.YtoenklncjbcgiaaGreatDoorPx0
namespace Go.Proofs.YtoenklncjbcgiaaGreatDoor.P
open Go.RowKit Go.Proofs.YtoenklncjbcgiaaGreatDoorW.PrintWords Go.Proofs.YtoenklncjbcgiaaGreatDoorW.PrintLast
set_option linter.unusedVariables false
set_option linter.unusedSimpArgs false

theorem isI64_of_wf {x : Int} (h : (Lit.int .i64 x).wf = true) : isI64 x := by
  unfold isI64
  unfold Lit.wf at h
  simp only [Bool.and_eq_true, decide_eq_true_eq] at h
  have e1 : IntKind.i64.min = -9223372036854775808 := by decide +kernel
  have e2 : IntKind.i64.max = 9223372036854775807 := by decide +kernel
  rw [e1, e2] at h
  exact h
/-! ### bytes -/
theorem bt_data (s : ByteArray) (k : Nat) (h : k < s.data.toList.length) : bt s (k : Int) = ((s.data.toList[k]).toNat : Int) := by
  have h' : (k : Int).toNat < s.size := h
  rw [← bt_at s (k : Int) h']
  simp
  rfl
theorem data_len (s : ByteArray) : s.data.toList.length = s.size := Array.length_toList

/-! ### the value of a row of digits -/
def val : List UInt8 → Nat → Nat
  | [], a => a
  | c :: r, a => val r (10 * a + (c.toNat - 48))
def isDig (c : UInt8) : Prop := 48 ≤ c.toNat ∧ c.toNat ≤ 57
theorem val_ge : ∀ (l : List UInt8) (a : Nat), a ≤ val l a
  | [], a => Nat.le_refl _
  | c :: r, a => by
    have := val_ge r (10 * a + (c.toNat - 48))
    unfold val
    omega
theorem parseUintM_val : ∀ (l : List UInt8) (a : Nat), (∀ c ∈ l, isDig c) → a ≤ 18446744073709551615 →
    Lib.parseUintM 18446744073709551615 a l = if val l a ≤ 18446744073709551615 then .ok (val l a) else .range
  | [], a, _, ha => by
    unfold Lib.parseUintM val
    rw [if_pos ha]
  | c :: r, a, h, ha => by
    have hc := h c List.mem_cons_self
    have hr := val_ge r (10 * a + (c.toNat - 48))
    unfold Lib.parseUintM val
    unfold isDig at hc
    rw [if_pos hc]
    by_cases c1 : 1844674407370955162 ≤ a
    · rw [if_pos c1, if_neg (by omega)]
    · rw [if_neg c1]
      by_cases c2 : 18446744073709551615 < a * 10 + (c.toNat - 48)
      · rw [if_pos c2, if_neg (by omega)]
      · rw [if_neg c2, show a * 10 + (c.toNat - 48) = 10 * a + (c.toNat - 48) by omega]
        exact parseUintM_val r _ (fun d hd => h d (List.mem_cons_of_mem _ hd)) (by omega)

/-- What a text of the form comes to: its sign, its digits' value. -/
def told (neg : Bool) (v : Nat) : Int × Int × Int := if neg then (if v ≤ 9223372036854775808 then (-(v : Int), 0, 0) else (0, 3, 0)) else (if v ≤ 9223372036854775807 then ((v : Int), 0, 0) else (0, 3, 0))

theorem parse_told (l : List UInt8) (hne : l ≠ []) (hd : ∀ c ∈ l, isDig c) : getParse (Lib.parseIntB 64 l) = some (told false (val l 0)) ∧ getParse (Lib.parseIntB 64 (45 :: l)) = some (told true (val l 0)) := by
  obtain ⟨c, r, rfl⟩ : ∃ c r, l = c :: r := by
    cases l with
    | nil => exact absurd rfl hne
    | cons c r => exact ⟨c, r, rfl⟩
  have hc := hd c List.mem_cons_self
  unfold isDig at hc
  have hv := parseUintM_val (c :: r) 0 hd (by omega)
  have e1 : Lib.parseUintB 64 (c :: r) = if val (c :: r) 0 ≤ 18446744073709551615 then .ok (val (c :: r) 0) else .range := by
    unfold Lib.parseUintB
    rw [if_neg (by simp)]
    exact hv
  generalize hV : val (c :: r) 0 = v at *
  constructor
  · unfold Lib.parseIntB
    simp only []
    rw [if_neg (by omega), e1]
    have hn : ¬ c.toNat = 45 := by omega
    by_cases c1 : v ≤ 18446744073709551615
    · rw [if_pos c1]
      simp only [hn, not_false_eq_true, true_and, false_and, if_false]
      by_cases c2 : 2 ^ (64 - 1) ≤ v
      · rw [if_pos c2]
        unfold told getParse
        have c2' : 9223372036854775808 ≤ v := c2
        simp only [Bool.false_eq_true, if_false]
        rw [if_neg (by omega)]
      · rw [if_neg c2]
        have c2' : ¬ 9223372036854775808 ≤ v := c2
        unfold told getParse
        simp only [Bool.false_eq_true, if_false]
        rw [if_pos (by omega)]
    · rw [if_neg c1]
      unfold told getParse
      simp only [Bool.false_eq_true, if_false]
      rw [if_neg (by omega)]
  · unfold Lib.parseIntB
    simp only [show (45 : UInt8).toNat = 45 from rfl, or_true, if_true]
    rw [e1]
    by_cases c1 : v ≤ 18446744073709551615
    · rw [if_pos c1]
      simp only [not_true_eq_false, true_and, false_and, if_false, if_true]
      by_cases c2 : 2 ^ (64 - 1) < v
      · rw [if_pos c2]
        have c2' : 9223372036854775808 < v := c2
        unfold told getParse
        simp only [if_true]
        rw [if_neg (by omega)]
      · rw [if_neg c2]
        have c2' : ¬ 9223372036854775808 < v := c2
        unfold told getParse
        simp only [if_true]
        rw [if_pos (by omega)]
    · rw [if_neg c1]
      unfold told getParse
      simp only [if_true]
      rw [if_neg (by omega)]

/-! ### the form -/
theorem scan_none {s : ByteArray} {f : Nat} : ∀ (g i : Nat), scan s f g i = none → ∀ k, i ≤ k → k < i + g → k < s.size → badAt s f k = false
  | 0, i, _, k, h1, h2, _ => by omega
  | g + 1, i, h, k, h1, h2, h3 => by
    unfold scan at h
    rw [if_pos (by omega)] at h
    by_cases c : badAt s f i = true
    · rw [if_pos c] at h
      cases h
    · rw [if_neg c] at h
      by_cases e : k = i
      · subst e
        simpa using c
      · exact scan_none g (i + 1) h k (by omega) (by omega) h3
theorem scan_of_good {s : ByteArray} {f : Nat} : ∀ (g i : Nat), (∀ k, i ≤ k → k < s.size → badAt s f k = false) → scan s f g i = none
  | 0, i, _ => rfl
  | g + 1, i, h => by
    unfold scan
    by_cases c : i < s.size
    · rw [if_pos c, if_neg (by simp [h i (Nat.le_refl _) c])]
      exact scan_of_good g (i + 1) (fun k h1 h2 => h k (by omega) h2)
    · rw [if_neg c]
theorem scan_lt {s : ByteArray} {f : Nat} : ∀ (g i j : Nat), scan s f g i = some j → i ≤ j ∧ j < s.size
  | 0, i, j, h => by cases h
  | g + 1, i, j, h => by
    unfold scan at h
    by_cases c : i < s.size
    · rw [if_pos c] at h
      by_cases c2 : badAt s f i = true
      · rw [if_pos c2] at h
        cases h
        exact ⟨Nat.le_refl _, c⟩
      · rw [if_neg c2] at h
        have := scan_lt g (i + 1) j h
        exact ⟨by omega, this.2⟩
    · rw [if_neg c] at h
      cases h
theorem not_bad {s : ByteArray} {f k : Nat} (h : badAt s f k = false) : 48 ≤ bt s k ∧ bt s k ≤ 57 := by
  unfold badAt at h
  simp only [Bool.or_eq_false_iff, decide_eq_false_iff_not] at h
  omega
theorem firstOf_le (s : ByteArray) : firstOf s ≤ 1 ∧ firstOf s ≤ s.size := by
  unfold firstOf
  split <;> omega
def isNeg (s : ByteArray) : Bool := firstOf s == 1
/-- The digits of a text of the form. -/
theorem digits_of (s : ByteArray) (h : ∀ k, firstOf s ≤ k → k < s.size → badAt s (firstOf s) k = false) : ∀ c ∈ s.data.toList.drop (firstOf s), isDig c := by
  intro c hc
  obtain ⟨i, hi, rfl⟩ := List.getElem_of_mem hc
  simp only [List.length_drop] at hi
  rw [List.getElem_drop]
  have hl := data_len s
  have hk : firstOf s + i < s.data.toList.length := by omega
  have := not_bad (h (firstOf s + i) (by omega) (by omega))
  rw [bt_data s _ hk] at this
  unfold isDig
  omega
theorem split_first (s : ByteArray) (hne : s.size ≠ firstOf s) : s.data.toList.drop (firstOf s) ≠ [] ∧ (firstOf s = 1 → s.data.toList = 45 :: s.data.toList.drop 1) := by
  have hl := data_len s
  have hf := firstOf_le s
  constructor
  · intro e
    have := congrArg List.length e
    simp only [List.length_drop, List.length_nil] at this
    omega
  · intro e
    have hp : 0 < s.size ∧ bt s 0 = 45 := by
      unfold firstOf at e
      split at e
      · assumption
      · omega
    cases hL : s.data.toList with
    | nil => rw [hL] at hl; simp at hl; omega
    | cons c r =>
      have h0 := bt_data s 0 (by rw [hL]; simp)
      simp only [hL, List.getElem_cons_zero] at h0
      have h1 : bt s ((0 : Nat) : Int) = 45 := hp.2
      rw [h1] at h0
      have : c = 45 := by
        have h2 : c.toNat = 45 := by omega
        exact UInt8.toNat_inj.1 (by rw [h2]; rfl)
      subst this
      rfl
/-- What Get tells of a text of the form. -/
theorem get_good (s : ByteArray) (h20 : ¬ 20 < s.size) (hne : s.size ≠ firstOf s) (h : ∀ k, firstOf s ≤ k → k < s.size → badAt s (firstOf s) k = false) :
    number_Get.f s = some (told (isNeg s) (val (s.data.toList.drop (firstOf s)) 0)) := by
  unfold number_Get.f
  rw [if_neg h20, scan_of_good 21 _ h]
  unfold getRest
  rw [if_neg hne]
  obtain ⟨h1, h2⟩ := split_first s hne
  have hd := digits_of s h
  have hf := (firstOf_le s).1
  unfold isNeg
  by_cases c : firstOf s = 1
  · rw [c] at h1 hd ⊢
    rw [h2 c]
    exact (parse_told _ h1 hd).2
  · have c0 : firstOf s = 0 := by omega
    rw [c0] at h1 hd ⊢
    exact (parse_told _ h1 hd).1
/-- All that Get tells. -/
theorem get_cases (s : ByteArray) : (20 < s.size ∧ number_Get.f s = some (0, 4, 20)) ∨
    (¬ 20 < s.size ∧ ∃ i : Nat, (scan s (firstOf s) 21 (firstOf s) = some i ∨ (scan s (firstOf s) 21 (firstOf s) = none ∧ s.size = firstOf s ∧ i = s.size)) ∧ i ≤ s.size ∧ number_Get.f s = some (0, 5, (i : Int))) ∨
    (¬ 20 < s.size ∧ s.size ≠ firstOf s ∧ (∀ k, firstOf s ≤ k → k < s.size → badAt s (firstOf s) k = false) ∧ number_Get.f s = some (told (isNeg s) (val (s.data.toList.drop (firstOf s)) 0))) := by
  by_cases h20 : 20 < s.size
  · exact .inl ⟨h20, by unfold number_Get.f; rw [if_pos h20]⟩
  · refine .inr ?_
    cases hs : scan s (firstOf s) 21 (firstOf s) with
    | some i =>
      refine .inl ⟨h20, i, .inl rfl, by have := scan_lt _ _ _ hs; omega, ?_⟩
      unfold number_Get.f
      rw [if_neg h20, hs]
      rfl
    | none =>
      by_cases hne : s.size = firstOf s
      · refine .inl ⟨h20, s.size, .inr ⟨rfl, hne, rfl⟩, Nat.le_refl _, ?_⟩
        unfold number_Get.f
        rw [if_neg h20, hs]
        unfold getRest
        rw [if_pos hne, ← hne]
      · have hg : ∀ k, firstOf s ≤ k → k < s.size → badAt s (firstOf s) k = false := fun k h1 h2 => scan_none 21 _ hs k h1 (by omega) h2
        exact .inr ⟨h20, hne, hg, get_good s h20 hne hg⟩
end Go.Proofs.YtoenklncjbcgiaaGreatDoor.P
