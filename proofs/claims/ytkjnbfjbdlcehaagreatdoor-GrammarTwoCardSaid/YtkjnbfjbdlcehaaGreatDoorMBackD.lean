/- Plain laws of decimal texts: number.Get's answer and the document's are one; what is put is got, what is got is put. -/
import Derived.Test.YtkjnbfjbdlcehaaGreatDoorEGet
import Derived.Test.YtkjnbfjbdlcehaaGreatDoorEDig
import Derived.Test.YtkjnbfjbdlcehaaGreatDoorPx0
import Derived.Test.YtkjnbfjbdlcehaaGreatDoorEPut
namespace Go.Proofs.YtkjnbfjbdlcehaaGreatDoor.P
open Go.RowKit Go.Proofs.YtkjnbfjbdlcehaaGreatDoorW.PrintWords Go.Proofs.YtkjnbfjbdlcehaaGreatDoorW.PrintLast
set_option linter.unusedVariables false
set_option linter.unusedSimpArgs false

theorem isI64_of_wf {x : Int} (h : (Lit.int .i64 x).wf = true) : isI64 x := by
  unfold isI64
  unfold Lit.wf at h
  simp only [Bool.and_eq_true, decide_eq_true_eq] at h
  have e1 : IntKind.i64.min = -9223372036854775808 := by decide +kernel
  have e2 : IntKind.i64.max = 9223372036854775807 := by decide +kernel
  rw [e1, e2] at h
  exact h
/-! ### bytes -/
theorem bt_data (s : ByteArray) (k : Nat) (h : k < s.data.toList.length) : bt s (k : Int) = ((s.data.toList[k]).toNat : Int) := by
  have h' : (k : Int).toNat < s.size := h
  rw [← bt_at s (k : Int) h']
  simp
  rfl
theorem data_len (s : ByteArray) : s.data.toList.length = s.size := Array.length_toList

/-! ### the value of a row of digits -/
def val : List UInt8 → Nat → Nat
  | [], a => a
  | c :: r, a => val r (10 * a + (c.toNat - 48))
def isDig (c : UInt8) : Prop := 48 ≤ c.toNat ∧ c.toNat ≤ 57
theorem val_ge : ∀ (l : List UInt8) (a : Nat), a ≤ val l a
  | [], a => Nat.le_refl _
  | c :: r, a => by
    have := val_ge r (10 * a + (c.toNat - 48))
    unfold val
    omega
theorem parseUintM_val : ∀ (l : List UInt8) (a : Nat), (∀ c ∈ l, isDig c) → a ≤ 18446744073709551615 →
    Lib.parseUintM 18446744073709551615 a l = if val l a ≤ 18446744073709551615 then .ok (val l a) else .range
  | [], a, _, ha => by
    unfold Lib.parseUintM val
    rw [if_pos ha]
  | c :: r, a, h, ha => by
    have hc := h c List.mem_cons_self
    have hr := val_ge r (10 * a + (c.toNat - 48))
    unfold Lib.parseUintM val
    unfold isDig at hc
    rw [if_pos hc]
    by_cases c1 : 1844674407370955162 ≤ a
    · rw [if_pos c1, if_neg (by omega)]
    · rw [if_neg c1]
      by_cases c2 : 18446744073709551615 < a * 10 + (c.toNat - 48)
      · rw [if_pos c2, if_neg (by omega)]
      · rw [if_neg c2, show a * 10 + (c.toNat - 48) = 10 * a + (c.toNat - 48) by omega]
        exact parseUintM_val r _ (fun d hd => h d (List.mem_cons_of_mem _ hd)) (by omega)

/-- What a text of the form comes to: its sign, its digits' value. -/
def told (neg : Bool) (v : Nat) : Int × Int × Int := if neg then (if v ≤ 9223372036854775808 then (-(v : Int), 0, 0) else (0, 3, 0)) else (if v ≤ 9223372036854775807 then ((v : Int), 0, 0) else (0, 3, 0))

theorem parse_told (l : List UInt8) (hne : l ≠ []) (hd : ∀ c ∈ l, isDig c) : getParse (Lib.parseIntB 64 l) = some (told false (val l 0)) ∧ getParse (Lib.parseIntB 64 (45 :: l)) = some (told true (val l 0)) := by
  obtain ⟨c, r, rfl⟩ : ∃ c r, l = c :: r := by
    cases l with
    | nil => exact absurd rfl hne
    | cons c r => exact ⟨c, r, rfl⟩
  have hc := hd c List.mem_cons_self
  unfold isDig at hc
  have hv := parseUintM_val (c :: r) 0 hd (by omega)
  have e1 : Lib.parseUintB 64 (c :: r) = if val (c :: r) 0 ≤ 18446744073709551615 then .ok (val (c :: r) 0) else .range := by
    unfold Lib.parseUintB
    rw [if_neg (by simp)]
    exact hv
  generalize hV : val (c :: r) 0 = v at *
  constructor
  · unfold Lib.parseIntB
    simp only []
    rw [if_neg (by omega), e1]
    have hn : ¬ c.toNat = 45 := by omega
    by_cases c1 : v ≤ 18446744073709551615
    · rw [if_pos c1]
      simp only [hn, not_false_eq_true, true_and, false_and, if_false]
      by_cases c2 : 2 ^ (64 - 1) ≤ v
      · rw [if_pos c2]
        unfold told getParse
        have c2' : 9223372036854775808 ≤ v := c2
        simp only [Bool.false_eq_true, if_false]
        rw [if_neg (by omega)]
      · rw [if_neg c2]
        have c2' : ¬ 9223372036854775808 ≤ v := c2
        unfold told getParse
        simp only [Bool.false_eq_true, if_false]
        rw [if_pos (by omega)]
    · rw [if_neg c1]
      unfold told getParse
      simp only [Bool.false_eq_true, if_false]
      rw [if_neg (by omega)]
  · unfold Lib.parseIntB
    simp only [show (45 : UInt8).toNat = 45 from rfl, or_true, if_true]
    rw [e1]
    by_cases c1 : v ≤ 18446744073709551615
    · rw [if_pos c1]
      simp only [not_true_eq_false, true_and, false_and, if_false, if_true]
      by_cases c2 : 2 ^ (64 - 1) < v
      · rw [if_pos c2]
        have c2' : 9223372036854775808 < v := c2
        unfold told getParse
        simp only [if_true]
        rw [if_neg (by omega)]
      · rw [if_neg c2]
        have c2' : ¬ 9223372036854775808 < v := c2
        unfold told getParse
        simp only [if_true]
        rw [if_pos (by omega)]
    · rw [if_neg c1]
      unfold told getParse
      simp only [if_true]
      rw [if_neg (by omega)]

/-! ### the form -/
theorem scan_none {s : ByteArray} {f : Nat} : ∀ (g i : Nat), scan s f g i = none → ∀ k, i ≤ k → k < i + g → k < s.size → badAt s f k = false
  | 0, i, _, k, h1, h2, _ => by omega
  | g + 1, i, h, k, h1, h2, h3 => by
    unfold scan at h
    rw [if_pos (by omega)] at h
    by_cases c : badAt s f i = true
    · rw [if_pos c] at h
      cases h
    · rw [if_neg c] at h
      by_cases e : k = i
      · subst e
        simpa using c
      · exact scan_none g (i + 1) h k (by omega) (by omega) h3
theorem scan_of_good {s : ByteArray} {f : Nat} : ∀ (g i : Nat), (∀ k, i ≤ k → k < s.size → badAt s f k = false) → scan s f g i = none
  | 0, i, _ => rfl
  | g + 1, i, h => by
    unfold scan
    by_cases c : i < s.size
    · rw [if_pos c, if_neg (by simp [h i (Nat.le_refl _) c])]
      exact scan_of_good g (i + 1) (fun k h1 h2 => h k (by omega) h2)
    · rw [if_neg c]
theorem scan_lt {s : ByteArray} {f : Nat} : ∀ (g i j : Nat), scan s f g i = some j → i ≤ j ∧ j < s.size
  | 0, i, j, h => by cases h
  | g + 1, i, j, h => by
    unfold scan at h
    by_cases c : i < s.size
    · rw [if_pos c] at h
      by_cases c2 : badAt s f i = true
      · rw [if_pos c2] at h
        cases h
        exact ⟨Nat.le_refl _, c⟩
      · rw [if_neg c2] at h
        have := scan_lt g (i + 1) j h
        exact ⟨by omega, this.2⟩
    · rw [if_neg c] at h
      cases h
theorem not_bad {s : ByteArray} {f k : Nat} (h : badAt s f k = false) : 48 ≤ bt s k ∧ bt s k ≤ 57 := by
  unfold badAt at h
  simp only [Bool.or_eq_false_iff, decide_eq_false_iff_not] at h
  omega
theorem firstOf_le (s : ByteArray) : firstOf s ≤ 1 ∧ firstOf s ≤ s.size := by
  unfold firstOf
  split <;> omega
def isNeg (s : ByteArray) : Bool := firstOf s == 1
/-- The digits of a text of the form. -/
theorem digits_of (s : ByteArray) (h : ∀ k, firstOf s ≤ k → k < s.size → badAt s (firstOf s) k = false) : ∀ c ∈ s.data.toList.drop (firstOf s), isDig c := by
  intro c hc
  obtain ⟨i, hi, rfl⟩ := List.getElem_of_mem hc
  simp only [List.length_drop] at hi
  rw [List.getElem_drop]
  have hl := data_len s
  have hk : firstOf s + i < s.data.toList.length := by omega
  have := not_bad (h (firstOf s + i) (by omega) (by omega))
  rw [bt_data s _ hk] at this
  unfold isDig
  omega
theorem split_first (s : ByteArray) (hne : s.size ≠ firstOf s) : s.data.toList.drop (firstOf s) ≠ [] ∧ (firstOf s = 1 → s.data.toList = 45 :: s.data.toList.drop 1) := by
  have hl := data_len s
  have hf := firstOf_le s
  constructor
  · intro e
    have := congrArg List.length e
    simp only [List.length_drop, List.length_nil] at this
    omega
  · intro e
    have hp : 0 < s.size ∧ bt s 0 = 45 := by
      unfold firstOf at e
      split at e
      · assumption
      · omega
    cases hL : s.data.toList with
    | nil => rw [hL] at hl; simp at hl; omega
    | cons c r =>
      have h0 := bt_data s 0 (by rw [hL]; simp)
      simp only [hL, List.getElem_cons_zero] at h0
      have h1 : bt s ((0 : Nat) : Int) = 45 := hp.2
      rw [h1] at h0
      have : c = 45 := by
        have h2 : c.toNat = 45 := by omega
        exact UInt8.toNat_inj.1 (by rw [h2]; rfl)
      subst this
      rfl
/-- What Get tells of a text of the form. -/
theorem get_good (s : ByteArray) (h20 : ¬ 20 < s.size) (hne : s.size ≠ firstOf s) (h : ∀ k, firstOf s ≤ k → k < s.size → badAt s (firstOf s) k = false) :
    number_Get.f s = some (told (isNeg s) (val (s.data.toList.drop (firstOf s)) 0)) := by
  unfold number_Get.f
  rw [if_neg h20, scan_of_good 21 _ h]
  unfold getRest
  rw [if_neg hne]
  obtain ⟨h1, h2⟩ := split_first s hne
  have hd := digits_of s h
  have hf := (firstOf_le s).1
  unfold isNeg
  by_cases c : firstOf s = 1
  · rw [c] at h1 hd ⊢
    rw [h2 c]
    exact (parse_told _ h1 hd).2
  · have c0 : firstOf s = 0 := by omega
    rw [c0] at h1 hd ⊢
    exact (parse_told _ h1 hd).1
/-- All that Get tells. -/
theorem get_cases (s : ByteArray) : (20 < s.size ∧ number_Get.f s = some (0, 4, 20)) ∨
    (¬ 20 < s.size ∧ ∃ i : Nat, (scan s (firstOf s) 21 (firstOf s) = some i ∨ (scan s (firstOf s) 21 (firstOf s) = none ∧ s.size = firstOf s ∧ i = s.size)) ∧ i ≤ s.size ∧ number_Get.f s = some (0, 5, (i : Int))) ∨
    (¬ 20 < s.size ∧ s.size ≠ firstOf s ∧ (∀ k, firstOf s ≤ k → k < s.size → badAt s (firstOf s) k = false) ∧ number_Get.f s = some (told (isNeg s) (val (s.data.toList.drop (firstOf s)) 0))) := by
  by_cases h20 : 20 < s.size
  · exact .inl ⟨h20, by unfold number_Get.f; rw [if_pos h20]⟩
  · refine .inr ?_
    cases hs : scan s (firstOf s) 21 (firstOf s) with
    | some i =>
      refine .inl ⟨h20, i, .inl rfl, by have := scan_lt _ _ _ hs; omega, ?_⟩
      unfold number_Get.f
      rw [if_neg h20, hs]
      rfl
    | none =>
      by_cases hne : s.size = firstOf s
      · refine .inl ⟨h20, s.size, .inr ⟨rfl, hne, rfl⟩, Nat.le_refl _, ?_⟩
        unfold number_Get.f
        rw [if_neg h20, hs]
        unfold getRest
        rw [if_pos hne, ← hne]
      · have hg : ∀ k, firstOf s ≤ k → k < s.size → badAt s (firstOf s) k = false := fun k h1 h2 => scan_none 21 _ hs k h1 (by omega) h2
        exact .inr ⟨h20, hne, hg, get_good s h20 hne hg⟩
end Go.Proofs.YtkjnbfjbdlcehaaGreatDoor.P

/- Plain laws of decimal texts: what is put is got, what is got is put. -/
namespace Go.Proofs.YtkjnbfjbdlcehaaGreatDoor.P
open Go.RowKit Go.Proofs.YtkjnbfjbdlcehaaGreatDoorW.PrintWords Go.Proofs.YtkjnbfjbdlcehaaGreatDoorW.PrintLast
set_option linter.unusedVariables false
set_option linter.unusedSimpArgs false

/-! ### digits, the last one first -/
theorem digs_step (f n : Nat) : digs (f + 1) n = (48 + (n : Int) % 10) :: (if n / 10 = 0 then [] else digs f (n / 10)) := rfl
theorem digs_fuel : ∀ (f g n : Nat), n < 10 ^ f → f ≤ g → 0 < f → digs g n = digs f n
  | 0, _, _, _, _, h => by omega
  | f + 1, 0, _, _, h, _ => by omega
  | f + 1, g + 1, n, hn, hg, _ => by
    rw [digs_step, digs_step]
    by_cases c : n / 10 = 0
    · rw [if_pos c, if_pos c]
    · rw [if_neg c, if_neg c]
      have h10 : n / 10 < 10 ^ f := by
        rw [Nat.pow_succ] at hn
        exact Nat.div_lt_of_lt_mul (by rw [Nat.mul_comm]; exact hn)
      cases f with
      | zero => simp at h10; omega
      | succ f => rw [digs_fuel (f + 1) g (n / 10) h10 (by omega) (by omega)]
end Go.Proofs.YtkjnbfjbdlcehaaGreatDoor.P
namespace Go.Proofs.YtkjnbfjbdlcehaaGreatDoor.P
open Go.RowKit Go.Proofs.YtkjnbfjbdlcehaaGreatDoorW.PrintWords Go.Proofs.YtkjnbfjbdlcehaaGreatDoorW.PrintLast
set_option linter.unusedVariables false
set_option linter.unusedSimpArgs false

/-- a row of digits without a nought ahead of others -/
def plain (l : List UInt8) : Prop := l ≠ [] ∧ (∀ c ∈ l, isDig c) ∧ (1 < l.length → l.head? ≠ some 48)
theorem val_snoc (l : List UInt8) (c : UInt8) : ∀ a, val (l ++ [c]) a = 10 * val l a + (c.toNat - 48) := by
  induction l with
  | nil => intro a; rfl
  | cons d l ih => intro a; exact ih _
theorem val_zero (l : List UInt8) (h : plain l) : val l 0 = 0 → l = [48] := by
  intro hv
  obtain ⟨hne, hd, hh⟩ := h
  cases l with
  | nil => exact absurd rfl hne
  | cons c r =>
    have hc := hd c List.mem_cons_self
    unfold isDig at hc
    have h1 : val r (10 * 0 + (c.toNat - 48)) = 0 := hv
    have h2 := val_ge r (10 * 0 + (c.toNat - 48))
    have h3 : c = 48 := UInt8.toNat_inj.1 (by rw [show (48 : UInt8).toNat = 48 from rfl]; omega)
    subst h3
    cases r with
    | nil => rfl
    | cons d r => exact absurd rfl (hh (by simp))
/-- The digits of a plain row's value are the row, turned round. -/
theorem digs_val : ∀ (n : Nat) (l : List UInt8), l.length = n → n ≤ 20 → plain l → ∀ f, n ≤ f → digs f (val l 0) = (l.reverse).map (fun c => (c.toNat : Int)) := by
  intro n
  induction n with
  | zero =>
    intro l hl _ hp
    exact absurd (List.eq_nil_of_length_eq_zero hl) hp.1
  | succ n ih =>
    intro l hl hn hp f hf
    obtain ⟨l', c, rfl⟩ : ∃ l' c, l = l' ++ [c] := ⟨l.dropLast, l.getLast hp.1, (List.dropLast_concat_getLast hp.1).symm⟩
    obtain ⟨f, rfl⟩ : ∃ f', f = f' + 1 := ⟨f - 1, by omega⟩
    have hlen : l'.length = n := by simpa using hl
    have hc := hp.2.1 c (by simp)
    unfold isDig at hc
    rw [val_snoc, digs_step, List.reverse_append, List.reverse_singleton, List.singleton_append, List.map_cons]
    generalize hV : val l' 0 = v
    have e1 : 48 + ((10 * v + (c.toNat - 48) : Nat) : Int) % 10 = (c.toNat : Int) := by omega
    have e2 : (10 * v + (c.toNat - 48)) / 10 = v := by omega
    rw [e1, e2]
    cases l' with
    | nil =>
      have : v = 0 := by rw [← hV]; rfl
      rw [if_pos this]
      rfl
    | cons d r =>
      have hp' : plain (d :: r) := by
        refine ⟨by simp, fun x hx => hp.2.1 x (List.mem_append_left _ hx), fun _ => ?_⟩
        have := hp.2.2 (by simp)
        simpa using this
      have hv0 : v ≠ 0 := by
        intro h0
        have h48 := val_zero _ hp' (by rw [hV]; exact h0)
        have hh := hp.2.2 (by simp)
        rw [h48] at hh
        simp at hh
      rw [if_neg hv0, ← hV, ih (d :: r) hlen (by omega) hp' f (by omega)]
/-- The digits make a plain row of that value. -/
theorem plain_digs : ∀ (f n : Nat), n < 10 ^ f → 0 < f → plain ((digs f n).reverse.map fun x => UInt8.ofNat x.toNat) ∧ val ((digs f n).reverse.map fun x => UInt8.ofNat x.toNat) 0 = n ∧
    (n ≠ 0 → ((digs f n).reverse.map fun x => UInt8.ofNat x.toNat).head? ≠ some 48) := by
  intro f
  induction f with
  | zero => intro n _ h; omega
  | succ f ih =>
    intro n hn _
    rw [digs_step]
    obtain ⟨c, hc⟩ : ∃ c : UInt8, c = UInt8.ofNat (48 + (n : Int) % 10).toNat := ⟨_, rfl⟩
    have hcn : c.toNat = 48 + n % 10 := by
      rw [hc, show (48 + (n : Int) % 10).toNat = 48 + n % 10 by omega, UInt8.toNat_ofNat']
      omega
    by_cases z : n / 10 = 0
    · rw [if_pos z]
      have e : (([48 + (n : Int) % 10] : List Int).reverse.map fun x => UInt8.ofNat x.toNat) = [c] := by rw [hc]; rfl
      rw [e]
      refine ⟨⟨by simp, fun d hd => ?_, fun h => by simp at h⟩, ?_, ?_⟩
      · simp only [List.mem_singleton] at hd
        subst hd
        unfold isDig
        omega
      · show 10 * 0 + (c.toNat - 48) = n
        omega
      · intro h0 h1
        simp only [List.head?_cons, Option.some.injEq] at h1
        rw [h1] at hcn
        have : (48 : UInt8).toNat = 48 := rfl
        omega
    · rw [if_neg z]
      have h10 : n / 10 < 10 ^ f := by
        rw [Nat.pow_succ] at hn
        exact Nat.div_lt_of_lt_mul (by rw [Nat.mul_comm]; exact hn)
      have hf0 : 0 < f := by
        cases f with
        | zero => simp at h10; omega
        | succ f => omega
      obtain ⟨h1, h2, h3⟩ := ih (n / 10) h10 hf0
      have e : (((48 + (n : Int) % 10) :: digs f (n / 10)).reverse.map fun x => UInt8.ofNat x.toNat) = ((digs f (n / 10)).reverse.map fun x => UInt8.ofNat x.toNat) ++ [c] := by
        rw [List.reverse_cons, List.map_append, hc]
        rfl
      rw [e]
      generalize (digs f (n / 10)).reverse.map (fun x => UInt8.ofNat x.toNat) = L at h1 h2 h3
      have hh : (L ++ [c]).head? = L.head? := by
        cases L with
        | nil => exact absurd rfl h1.1
        | cons d r => rfl
      refine ⟨⟨by simp, fun d hd => ?_, fun _ => by rw [hh]; exact h3 z⟩, ?_, fun _ => by rw [hh]; exact h3 z⟩
      · rcases List.mem_append.1 hd with hd | hd
        · exact h1.2.1 d hd
        · simp only [List.mem_singleton] at hd
          subst hd
          unfold isDig
          omega
      · rw [val_snoc, h2]
        omega
/-- A text's digits are plain, so no place is bad. -/
theorem good_of (s : ByteArray) (f : Nat) (hf : f ≤ 1) (hp : plain (s.data.toList.drop f)) (h1 : f = 1 → (s.data.toList.drop f).head? ≠ some 48) : ∀ k, f ≤ k → k < s.size → badAt s f k = false := by
  intro k hk hks
  have hl := data_len s
  have hkl : k < s.data.toList.length := by omega
  have hfl : f < s.data.toList.length := by omega
  have hdk : isDig s.data.toList[k] := by
    refine hp.2.1 _ ?_
    have : (s.data.toList.drop f)[k - f]'(by rw [List.length_drop]; omega) = s.data.toList[k] := by
      rw [List.getElem_drop]
      congr 1
      omega
    rw [← this]
    exact List.getElem_mem _
  have hdrop : s.data.toList.drop f = s.data.toList[f] :: s.data.toList.drop (f + 1) := List.drop_eq_getElem_cons hfl
  have h48 : s.data.toList[f] = 48 → ¬ 1 < (s.data.toList.drop f).length ∧ f ≠ 1 := by
    intro e
    have hh : (s.data.toList.drop f).head? = some 48 := by rw [hdrop, e]; rfl
    exact ⟨fun h => hp.2.2 h hh, fun h => h1 h hh⟩
  have hbk := bt_data s k hkl
  have hbf := bt_data s f hfl
  unfold isDig at hdk
  have hne : (bt s k = 48 ∧ k = f) ∨ bt s f = 48 → s.data.toList[f] = 48 := by
    intro h
    refine UInt8.toNat_inj.1 ?_
    rw [show (48 : UInt8).toNat = 48 from rfl]
    rcases h with ⟨h, rfl⟩ | h <;> omega
  cases hb : badAt s f k with
  | false => rfl
  | true =>
    have hx : (bt s k < 48 ∨ 57 < bt s k ∨ (f < k ∧ bt s f = 48) ∨ (k = f ∧ f = 1 ∧ bt s k = 48)) := by
      unfold badAt at hb
      simp only [Bool.or_eq_true, Bool.and_eq_true, decide_eq_true_eq, beq_iff_eq] at hb
      omega
    rcases hx with h | h | ⟨h, h'⟩ | ⟨h, h', h''⟩
    · omega
    · omega
    · have := (h48 (hne (.inr h'))).1
      rw [List.length_drop] at this
      omega
    · exact absurd h' (h48 (hne (.inl ⟨h'', h⟩))).2
/-- And the other way about. -/
theorem plain_of (s : ByteArray) (hne : s.size ≠ firstOf s) (h : ∀ k, firstOf s ≤ k → k < s.size → badAt s (firstOf s) k = false) :
    plain (s.data.toList.drop (firstOf s)) ∧ (firstOf s = 1 → (s.data.toList.drop (firstOf s)).head? ≠ some 48) := by
  have hl := data_len s
  have hf := firstOf_le s
  have hfl : firstOf s < s.data.toList.length := by omega
  have hdrop : s.data.toList.drop (firstOf s) = s.data.toList[firstOf s] :: s.data.toList.drop (firstOf s + 1) := List.drop_eq_getElem_cons hfl
  have hbf := bt_data s (firstOf s) hfl
  have h48 : (s.data.toList.drop (firstOf s)).head? = some 48 → bt s (firstOf s) = 48 := by
    intro e
    rw [hdrop] at e
    simp only [List.head?_cons, Option.some.injEq] at e
    rw [hbf, e]
    rfl
  refine ⟨⟨(split_first s hne).1, digits_of s h, fun h1 e => ?_⟩, fun h1 e => ?_⟩
  · have hb := h (firstOf s + 1) (by omega) (by rw [List.length_drop] at h1; omega)
    have := h48 e
    unfold badAt at hb
    simp only [Bool.or_eq_false_iff, Bool.and_eq_false_iff, decide_eq_false_iff_not, beq_eq_false_iff_ne] at hb
    omega
  · have hb := h (firstOf s) (Nat.le_refl _) (by omega)
    have := h48 e
    unfold badAt at hb
    simp only [Bool.or_eq_false_iff, Bool.and_eq_false_iff, decide_eq_false_iff_not, beq_eq_false_iff_ne] at hb
    omega
/-- The text's bytes. -/
theorem put_data (a : Int) : (strOfNums (putRev a).reverse).data.toList = (if a < 0 then [45] else []) ++ (digs 20 a.natAbs).reverse.map fun x => UInt8.ofNat x.toNat := by
  rw [strOfNums_data]
  by_cases c : a < 0
  · rw [putRev_neg a c, if_pos c, List.reverse_append, List.map_append]
    rfl
  · rw [putRev_nonneg a (by omega), if_neg c]
    rfl
theorem get_put (a : Int) (ha : isI64 a) : number_Get.f (strOfNums (putRev a).reverse) = some (a, 0, 0) := by
  obtain ⟨s, hs⟩ : ∃ s, s = strOfNums (putRev a).reverse := ⟨_, rfl⟩
  rw [← hs]
  have hdata := put_data a
  rw [← hs] at hdata
  have ha' := ha
  unfold isI64 at ha'
  have hm19 : a.natAbs < 10 ^ 19 := by
    rw [show (10 : Nat) ^ 19 = 10000000000000000000 from rfl]
    omega
  obtain ⟨h1, h2, h3⟩ := plain_digs 19 a.natAbs hm19 (by omega)
  rw [digs_fuel 19 20 a.natAbs hm19 (by omega) (by omega)] at hdata
  have hlen : ((digs 19 a.natAbs).reverse.map fun x => UInt8.ofNat x.toNat).length ≤ 19 := by
    rw [List.length_map, List.length_reverse]
    exact digs_length 19 _
  generalize (digs 19 a.natAbs).reverse.map (fun x => UInt8.ofNat x.toNat) = D at h1 h2 h3 hdata hlen
  have hl := data_len s
  obtain ⟨d, r, rfl⟩ : ∃ d r, D = d :: r := by
    cases D with
    | nil => exact absurd rfl h1.1
    | cons d r => exact ⟨d, r, rfl⟩
  by_cases c : a < 0
  · rw [if_pos c] at hdata
    have hf : firstOf s = 1 := by
      have hp : 0 < s.data.toList.length := by rw [hdata]; simp
      have hb := bt_data s 0 hp
      simp only [hdata, List.singleton_append, List.getElem_cons_zero] at hb
      unfold firstOf
      exact if_pos ⟨by omega, hb⟩
    have hdr : s.data.toList.drop (firstOf s) = d :: r := by rw [hf, hdata]; rfl
    have hsz : s.size = r.length + 2 := by rw [← hl, hdata]; simp
    have hg := get_good s (by simp at hlen; omega) (by omega) (by
      refine good_of s (firstOf s) (by omega) (by rw [hdr]; exact h1) (fun _ => ?_)
      rw [hdr]
      exact h3 (by omega))
    rw [hg, hdr, h2]
    have hn : isNeg s = true := by unfold isNeg; rw [hf]; rfl
    rw [hn]
    show some (if a.natAbs ≤ 9223372036854775808 then (-(a.natAbs : Int), 0, 0) else (0, 3, 0)) = _
    rw [if_pos (by omega), show -(a.natAbs : Int) = a by omega]
  · rw [if_neg c] at hdata
    have hf : firstOf s = 0 := by
      have hp : 0 < s.data.toList.length := by rw [hdata]; simp
      have hb := bt_data s 0 hp
      simp only [hdata, List.nil_append, List.getElem_cons_zero] at hb
      have hd := h1.2.1 d List.mem_cons_self
      unfold isDig at hd
      unfold firstOf
      refine if_neg (fun h => ?_)
      have h' : bt s ((0 : Nat) : Int) = 45 := h.2
      omega
    have hdr : s.data.toList.drop (firstOf s) = d :: r := by rw [hf, hdata]; rfl
    have hsz : s.size = r.length + 1 := by rw [← hl, hdata]; simp
    have hg := get_good s (by simp at hlen; omega) (by omega) (by
      refine good_of s (firstOf s) (by omega) (by rw [hdr]; exact h1) (fun h => ?_)
      omega)
    rw [hg, hdr, h2]
    have hn : isNeg s = false := by unfold isNeg; rw [hf]; rfl
    rw [hn]
    show some (if a.natAbs ≤ 9223372036854775807 then ((a.natAbs : Int), 0, 0) else (0, 3, 0)) = _
    rw [if_pos (by omega), show (a.natAbs : Int) = a by omega]
theorem ofNat_toNat_map (l : List UInt8) : ((l.map fun c => (c.toNat : Int)).map fun x => UInt8.ofNat x.toNat) = l := by
  rw [List.map_map]
  conv => rhs; rw [← List.map_id l]
  refine List.map_congr_left fun c _ => ?_
  simp
/-- What is got is put as it was. -/
theorem put_get (s : ByteArray) (h20 : ¬ 20 < s.size) (hne : s.size ≠ firstOf s) (h : ∀ k, firstOf s ≤ k → k < s.size → badAt s (firstOf s) k = false) (x e i : Int)
    (hx : told (isNeg s) (val (s.data.toList.drop (firstOf s)) 0) = (x, e, i)) (he : e = 0) : isI64 x ∧ strOfNums (putRev x).reverse = s := by
  subst he
  obtain ⟨hp, hp1⟩ := plain_of s hne h
  obtain ⟨_, h45⟩ := split_first s hne
  have hl := data_len s
  have hfl := firstOf_le s
  have hdig := digs_val _ _ rfl (by rw [List.length_drop]; omega) hp 20 (by rw [List.length_drop]; omega)
  by_cases c : firstOf s = 1
  · have hn : isNeg s = true := by unfold isNeg; rw [c]; rfl
    rw [hn] at hx
    have hx' : (if val (s.data.toList.drop (firstOf s)) 0 ≤ 9223372036854775808 then (-(val (s.data.toList.drop (firstOf s)) 0 : Int), 0, 0) else (0, 3, 0)) = (x, (0 : Int), i) := hx
    have hv0 : val (s.data.toList.drop (firstOf s)) 0 ≠ 0 := by
      intro h0
      have := val_zero _ hp h0
      exact hp1 c (by rw [this]; rfl)
    have h45' := h45 c
    rw [c] at hdig hx' hv0
    generalize val (s.data.toList.drop 1) 0 = v at hdig hx' hv0
    by_cases cv : v ≤ 9223372036854775808
    · rw [if_pos cv] at hx'
      simp only [Prod.mk.injEq] at hx'
      obtain ⟨rfl, _, _⟩ := hx'
      refine ⟨by unfold isI64; omega, ?_⟩
      apply ByteArray.ext
      apply Array.toList_inj.1
      rw [put_data, if_pos (by omega), show (-(v : Int)).natAbs = v by omega, hdig, ← List.map_reverse, List.reverse_reverse, ofNat_toNat_map]
      exact h45'.symm
    · rw [if_neg cv] at hx'
      simp at hx'
  · have c0 : firstOf s = 0 := by omega
    have hn : isNeg s = false := by unfold isNeg; rw [c0]; rfl
    rw [hn] at hx
    have hx' : (if val (s.data.toList.drop (firstOf s)) 0 ≤ 9223372036854775807 then ((val (s.data.toList.drop (firstOf s)) 0 : Int), 0, 0) else (0, 3, 0)) = (x, (0 : Int), i) := hx
    rw [c0, List.drop_zero] at hdig hx'
    generalize val s.data.toList 0 = v at hdig hx'
    by_cases cv : v ≤ 9223372036854775807
    · rw [if_pos cv] at hx'
      simp only [Prod.mk.injEq] at hx'
      obtain ⟨rfl, _, _⟩ := hx'
      refine ⟨by unfold isI64; omega, ?_⟩
      apply ByteArray.ext
      apply Array.toList_inj.1
      rw [put_data, if_neg (by omega), show ((v : Int)).natAbs = v by omega, hdig, ← List.map_reverse, List.reverse_reverse, ofNat_toNat_map]
      rfl
    · rw [if_neg cv] at hx'
      simp at hx'
end Go.Proofs.YtkjnbfjbdlcehaaGreatDoor.P
