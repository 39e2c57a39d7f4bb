/- Plain laws of decimal texts: what is put is got, what is got is put. -/
import Derived.Test.YtdimbcabkikcoaaDoorEPut
import Derived.Test.YtdimbcabkikcoaaDoorMGet
namespace Go.Proofs.YtdimbcabkikcoaaDoor.P
open Go.RowKit Go.Proofs.YtdimbcabkikcoaaDoorW.PrintWords Go.Proofs.YtdimbcabkikcoaaDoorW.PrintLast
set_option linter.unusedVariables false
set_option linter.unusedSimpArgs false

/-! ### digits, the last one first -/
theorem digs_step (f n : Nat) : digs (f + 1) n = (48 + (n : Int) % 10) :: (if n / 10 = 0 then [] else digs f (n / 10)) := rfl
end Go.Proofs.YtdimbcabkikcoaaDoor.P
namespace Go.Proofs.YtdimbcabkikcoaaDoor.P
open Go.RowKit Go.Proofs.YtdimbcabkikcoaaDoorW.PrintWords Go.Proofs.YtdimbcabkikcoaaDoorW.PrintLast
set_option linter.unusedVariables false
set_option linter.unusedSimpArgs false

/-- a row of digits without a nought ahead of others -/
def plain (l : List UInt8) : Prop := l ≠ [] ∧ (∀ c ∈ l, isDig c) ∧ (1 < l.length → l.head? ≠ some 48)
theorem val_snoc (l : List UInt8) (c : UInt8) : ∀ a, val (l ++ [c]) a = 10 * val l a + (c.toNat - 48) := by
  induction l with
  | nil => intro a; rfl
  | cons d l ih => intro a; exact ih _
theorem val_zero (l : List UInt8) (h : plain l) : val l 0 = 0 → l = [48] := by
  intro hv
  obtain ⟨hne, hd, hh⟩ := h
  cases l with
  | nil => exact absurd rfl hne
  | cons c r =>
    have hc := hd c List.mem_cons_self
    unfold isDig at hc
    have h1 : val r (10 * 0 + (c.toNat - 48)) = 0 := hv
    have h2 := val_ge r (10 * 0 + (c.toNat - 48))
    have h3 : c = 48 := UInt8.toNat_inj.1 (by rw [show (48 : UInt8).toNat = 48 from rfl]; omega)
    subst h3
    cases r with
    | nil => rfl
    | cons d r => exact absurd rfl (hh (by simp))
/-- The digits of a plain row's value are the row, turned round. -/
theorem digs_val : ∀ (n : Nat) (l : List UInt8), l.length = n → n ≤ 20 → plain l → ∀ f, n ≤ f → digs f (val l 0) = (l.reverse).map (fun c => (c.toNat : Int)) := by
  intro n
  induction n with
  | zero =>
    intro l hl _ hp
    exact absurd (List.eq_nil_of_length_eq_zero hl) hp.1
  | succ n ih =>
    intro l hl hn hp f hf
    obtain ⟨l', c, rfl⟩ : ∃ l' c, l = l' ++ [c] := ⟨l.dropLast, l.getLast hp.1, (List.dropLast_concat_getLast hp.1).symm⟩
    obtain ⟨f, rfl⟩ : ∃ f', f = f' + 1 := ⟨f - 1, by omega⟩
    have hlen : l'.length = n := by simpa using hl
    have hc := hp.2.1 c (by simp)
    unfold isDig at hc
    rw [val_snoc, digs_step, List.reverse_append, List.reverse_singleton, List.singleton_append, List.map_cons]
    generalize hV : val l' 0 = v
    have e1 : 48 + ((10 * v + (c.toNat - 48) : Nat) : Int) % 10 = (c.toNat : Int) := by omega
    have e2 : (10 * v + (c.toNat - 48)) / 10 = v := by omega
    rw [e1, e2]
    cases l' with
    | nil =>
      have : v = 0 := by rw [← hV]; rfl
      rw [if_pos this]
      rfl
    | cons d r =>
      have hp' : plain (d :: r) := by
        refine ⟨by simp, fun x hx => hp.2.1 x (List.mem_append_left _ hx), fun _ => ?_⟩
        have := hp.2.2 (by simp)
        simpa using this
      have hv0 : v ≠ 0 := by
        intro h0
        have h48 := val_zero _ hp' (by rw [hV]; exact h0)
        have hh := hp.2.2 (by simp)
        rw [h48] at hh
        simp at hh
      rw [if_neg hv0, ← hV, ih (d :: r) hlen (by omega) hp' f (by omega)]
/-- And the other way about. -/
theorem plain_of (s : ByteArray) (hne : s.size ≠ firstOf s) (h : ∀ k, firstOf s ≤ k → k < s.size → badAt s (firstOf s) k = false) :
    plain (s.data.toList.drop (firstOf s)) ∧ (firstOf s = 1 → (s.data.toList.drop (firstOf s)).head? ≠ some 48) := by
  have hl := data_len s
  have hf := firstOf_le s
  have hfl : firstOf s < s.data.toList.length := by omega
  have hdrop : s.data.toList.drop (firstOf s) = s.data.toList[firstOf s] :: s.data.toList.drop (firstOf s + 1) := List.drop_eq_getElem_cons hfl
  have hbf := bt_data s (firstOf s) hfl
  have h48 : (s.data.toList.drop (firstOf s)).head? = some 48 → bt s (firstOf s) = 48 := by
    intro e
    rw [hdrop] at e
    simp only [List.head?_cons, Option.some.injEq] at e
    rw [hbf, e]
    rfl
  refine ⟨⟨(split_first s hne).1, digits_of s h, fun h1 e => ?_⟩, fun h1 e => ?_⟩
  · have hb := h (firstOf s + 1) (by omega) (by rw [List.length_drop] at h1; omega)
    have := h48 e
    unfold badAt at hb
    simp only [Bool.or_eq_false_iff, Bool.and_eq_false_iff, decide_eq_false_iff_not, beq_eq_false_iff_ne] at hb
    omega
  · have hb := h (firstOf s) (Nat.le_refl _) (by omega)
    have := h48 e
    unfold badAt at hb
    simp only [Bool.or_eq_false_iff, Bool.and_eq_false_iff, decide_eq_false_iff_not, beq_eq_false_iff_ne] at hb
    omega
/-- The text's bytes. -/
theorem put_data (a : Int) : (strOfNums (putRev a).reverse).data.toList = (if a < 0 then [45] else []) ++ (digs 20 a.natAbs).reverse.map fun x => UInt8.ofNat x.toNat := by
  rw [strOfNums_data]
  by_cases c : a < 0
  · rw [putRev_neg a c, if_pos c, List.reverse_append, List.map_append]
    rfl
  · rw [putRev_nonneg a (by omega), if_neg c]
    rfl
theorem ofNat_toNat_map (l : List UInt8) : ((l.map fun c => (c.toNat : Int)).map fun x => UInt8.ofNat x.toNat) = l := by
  rw [List.map_map]
  conv => rhs; rw [← List.map_id l]
  refine List.map_congr_left fun c _ => ?_
  simp
/-- What is got is put as it was. -/
theorem put_get (s : ByteArray) (h20 : ¬ 20 < s.size) (hne : s.size ≠ firstOf s) (h : ∀ k, firstOf s ≤ k → k < s.size → badAt s (firstOf s) k = false) (x e i : Int)
    (hx : told (isNeg s) (val (s.data.toList.drop (firstOf s)) 0) = (x, e, i)) (he : e = 0) : isI64 x ∧ strOfNums (putRev x).reverse = s := by
  subst he
  obtain ⟨hp, hp1⟩ := plain_of s hne h
  obtain ⟨_, h45⟩ := split_first s hne
  have hl := data_len s
  have hfl := firstOf_le s
  have hdig := digs_val _ _ rfl (by rw [List.length_drop]; omega) hp 20 (by rw [List.length_drop]; omega)
  by_cases c : firstOf s = 1
  · have hn : isNeg s = true := by unfold isNeg; rw [c]; rfl
    rw [hn] at hx
    have hx' : (if val (s.data.toList.drop (firstOf s)) 0 ≤ 9223372036854775808 then (-(val (s.data.toList.drop (firstOf s)) 0 : Int), 0, 0) else (0, 3, 0)) = (x, (0 : Int), i) := hx
    have hv0 : val (s.data.toList.drop (firstOf s)) 0 ≠ 0 := by
      intro h0
      have := val_zero _ hp h0
      exact hp1 c (by rw [this]; rfl)
    have h45' := h45 c
    rw [c] at hdig hx' hv0
    generalize val (s.data.toList.drop 1) 0 = v at hdig hx' hv0
    by_cases cv : v ≤ 9223372036854775808
    · rw [if_pos cv] at hx'
      simp only [Prod.mk.injEq] at hx'
      obtain ⟨rfl, _, _⟩ := hx'
      refine ⟨by unfold isI64; omega, ?_⟩
      apply ByteArray.ext
      apply Array.toList_inj.1
      rw [put_data, if_pos (by omega), show (-(v : Int)).natAbs = v by omega, hdig, ← List.map_reverse, List.reverse_reverse, ofNat_toNat_map]
      exact h45'.symm
    · rw [if_neg cv] at hx'
      simp at hx'
  · have c0 : firstOf s = 0 := by omega
    have hn : isNeg s = false := by unfold isNeg; rw [c0]; rfl
    rw [hn] at hx
    have hx' : (if val (s.data.toList.drop (firstOf s)) 0 ≤ 9223372036854775807 then ((val (s.data.toList.drop (firstOf s)) 0 : Int), 0, 0) else (0, 3, 0)) = (x, (0 : Int), i) := hx
    rw [c0, List.drop_zero] at hdig hx'
    generalize val s.data.toList 0 = v at hdig hx'
    by_cases cv : v ≤ 9223372036854775807
    · rw [if_pos cv] at hx'
      simp only [Prod.mk.injEq] at hx'
      obtain ⟨rfl, _, _⟩ := hx'
      refine ⟨by unfold isI64; omega, ?_⟩
      apply ByteArray.ext
      apply Array.toList_inj.1
      rw [put_data, if_neg (by omega), show ((v : Int)).natAbs = v by omega, hdig, ← List.map_reverse, List.reverse_reverse, ofNat_toNat_map]
      rfl
    · rw [if_neg cv] at hx'
      simp at hx'
end Go.Proofs.YtdimbcabkikcoaaDoor.P
