/- The document's Get and number.Get tell the same of every text. -/
import Derived.Test.YtdimbcabkikcoaaDoorMGet
import Derived.Test.YtdimbcabkikcoaaDoorPx6
namespace Go.Proofs.YtdimbcabkikcoaaDoor.P
open Go.RowKit Go.Proofs.YtdimbcabkikcoaaDoorW.PrintWords Go.Proofs.YtdimbcabkikcoaaDoorW.PrintLast
set_option linter.unusedVariables false
set_option linter.unusedSimpArgs false

theorem w64 (x : Int) (h1 : -9223372036854775808 ≤ x) (h2 : x ≤ 9223372036854775807) : wrap64 x = x := by
  unfold wrap64
  omega
theorem scan_more {s : ByteArray} {f : Nat} : ∀ (g i j : Nat), scan s f g i = some j → scan s f (g + 1) i = some j
  | 0, i, j, h => by cases h
  | g + 1, i, j, h => by
    unfold scan at h ⊢
    by_cases c : i < s.size
    · rw [if_pos c] at h ⊢
      by_cases c2 : badAt s f i = true
      · rw [if_pos c2] at h ⊢
        exact h
      · rw [if_neg c2] at h ⊢
        exact scan_more g (i + 1) j h
    · rw [if_neg c] at h
      cases h
theorem bad_eq (s : ByteArray) (f i : Nat) : badAt s f i = true ↔ (bt s i < 48 ∨ 57 < bt s i ∨ (f < i ∧ bt s f = 48) ∨ (i = f ∧ f = 1 ∧ bt s i = 48)) := by
  unfold badAt
  simp only [Bool.or_eq_true, Bool.and_eq_true, decide_eq_true_eq, beq_iff_eq]
  omega
theorem step64 (i n : Nat) (h : i < n) (hn : n ≤ 20) : wrap64 ((i : Int) + 1) = ((i + 1 : Nat) : Int) := by
  rw [w64 _ (by omega) (by omega)]
  rfl
theorem told_big (b : Bool) (v : Nat) (h : 18446744073709551615 < v) : told b v = (0, 3, 0) := by
  unfold told
  cases b
  · rw [if_neg (by simp), if_neg (by omega)]
  · rw [if_pos rfl, if_neg (by omega)]
/-- form's loop: the first bad place, or the end. -/
def formTold (s : ByteArray) (f : Nat) : Option Nat → Int × Bool
  | some j => ((j : Int), false)
  | none => ((s.size : Int), decide ((s.size : Int) > (f : Int)))
theorem form_l0 (s : ByteArray) (f : Nat) (hf : f ≤ 1) (h20 : s.size ≤ 20) : ∀ (g i : Nat), f ≤ i → i ≤ s.size → s.size < i + g →
    armisticeref01_form.l0 g s (i : Int) (f : Int) = some (formTold s f (scan s f g i))
  | 0, i, h1, h2, h3 => by omega
  | g + 1, i, h1, h2, h3 => by
    unfold armisticeref01_form.l0 scan
    by_cases c : i < s.size
    · rw [if_pos c, if_pos (show (i : Int) < (s.size : Int) by omega), if_pos (show 0 ≤ (i : Int) by omega)]
      have hb := bad_eq s f i
      have ew : wrap64 ((i : Int) + 1) = ((i + 1 : Nat) : Int) := by rw [w64 _ (by omega) (by omega)]; rfl
      have hn := form_l0 s f hf h20 g (i + 1) (by omega) (by omega) (by omega)
      rw [ew]
      by_cases b : badAt s f i = true
      · rw [if_pos b]
        have hb' := hb.1 b
        unfold formTold
        by_cases c1 : bt s i < 48
        · rw [if_pos c1]
        · rw [if_neg c1]
          by_cases c2 : bt s i > 57
          · rw [if_pos c2]
          · rw [if_neg c2]
            by_cases c3 : (i : Int) > (f : Int)
            · have c4 : bt s f = 48 := by omega
              rw [if_pos c3, if_pos (by omega), if_pos (by omega), if_pos c4]
            · have c4 : (i : Int) = (f : Int) := by omega
              have c5 : (f : Int) = 1 := by omega
              have c6 : bt s i = 48 := by omega
              rw [if_neg c3, if_pos c4, if_pos c5, if_pos c6]
      · rw [if_neg b]
        have hb' : ¬ (bt s i < 48 ∨ 57 < bt s i ∨ (f < i ∧ bt s f = 48) ∨ (i = f ∧ f = 1 ∧ bt s i = 48)) := fun h => b (hb.2 h)
        rw [if_neg (show ¬ bt s i < 48 by omega), if_neg (show ¬ bt s i > 57 by omega)]
        by_cases c3 : (i : Int) > (f : Int)
        · rw [if_pos c3, if_pos (by omega), if_pos (by omega), if_neg (show ¬ bt s f = 48 by omega), if_neg (show ¬ (i : Int) = (f : Int) by omega)]
          exact hn
        · have c4 : (i : Int) = (f : Int) := by omega
          rw [if_neg c3, if_pos c4]
          by_cases c5 : (f : Int) = 1
          · rw [if_pos c5, if_neg (show ¬ bt s i = 48 by omega)]
            exact hn
          · rw [if_neg c5]
            exact hn
    · rw [if_neg c, if_neg (show ¬ (i : Int) < (s.size : Int) by omega)]
      have : i = s.size := by omega
      subst this
      rfl
theorem form_f (s : ByteArray) (h20 : s.size ≤ 20) (g : Nat) (hg : 22 ≤ g) : armisticeref01_form.f (g + 1 + 1) s = some (formTold s (firstOf s) (scan s (firstOf s) g (firstOf s))) := by
  unfold armisticeref01_form.f
  have hl := form_l0 s (firstOf s) (firstOf_le s).1 h20 g (firstOf s) (Nat.le_refl _) (firstOf_le s).2 (by omega)
  by_cases c : (s.size : Int) > 0
  · rw [if_pos c, if_pos c]
    rw [armisticeref01_form.j0]
    by_cases c1 : bt s 0 = 45
    · rw [if_pos (beq_iff_eq.2 c1)]
      rw [armisticeref01_form.j1]
      have e : firstOf s = 1 := by unfold firstOf; rw [if_pos ⟨by omega, c1⟩]
      rw [e] at hl ⊢
      exact hl
    · rw [if_neg (fun h => c1 (beq_iff_eq.1 h))]
      rw [armisticeref01_form.j1]
      have e : firstOf s = 0 := by unfold firstOf; rw [if_neg (fun h => c1 h.2)]
      rw [e] at hl ⊢
      exact hl
  · rw [if_neg c]
    rw [armisticeref01_form.j0]
    rw [if_neg (by simp)]
    rw [armisticeref01_form.j1]
    have e : firstOf s = 0 := by unfold firstOf; rw [if_neg (fun h => c (by omega))]
    rw [e] at hl ⊢
    exact hl
/-- the document's loop over the digits. -/
theorem refGet_l0 (s : ByteArray) (h20 : s.size ≤ 20) (hp : 0 < s.size) : ∀ (g i a : Nat), i ≤ s.size → s.size < i + g → (∀ c ∈ s.data.toList.drop i, isDig c) → a ≤ 18446744073709551615 →
    armisticeref01_Get.l0 g s (a : Int) (i : Int) = some (told (bt s 0 == 45) (val (s.data.toList.drop i) a))
  | 0, i, a, h1, h2, _, _ => by omega
  | g + 1, i, a, h1, h2, hd, ha => by
    unfold armisticeref01_Get.l0
    have hl := data_len s
    by_cases c : i < s.size
    · have hA : i + 1 ≤ s.size := by omega
      have hB : s.size < i + 1 + g := by omega
      rw [if_pos (show (i : Int) < (s.size : Int) by omega), if_pos (show 0 ≤ (i : Int) by omega)]
      have hi : i < s.data.toList.length := by omega
      have hbt := bt_data s i hi
      have hdrop : s.data.toList.drop i = s.data.toList[i] :: s.data.toList.drop (i + 1) := List.drop_eq_getElem_cons hi
      have hc := hd _ (by rw [hdrop]; exact List.mem_cons_self)
      unfold isDig at hc
      have hval : val (s.data.toList.drop i) a = val (s.data.toList.drop (i + 1)) (10 * a + (s.data.toList[i].toNat - 48)) := by rw [hdrop]; rfl
      have hge := val_ge (s.data.toList.drop (i + 1)) (10 * a + (s.data.toList[i].toNat - 48))
      rw [hval]
      generalize hN : s.data.toList[i].toNat = n at *
      rw [hbt, if_neg (show ¬ (n : Int) = 45 by omega)]
      have e1 : ((n : Int) - 48) % 256 = ((n - 48 : Nat) : Int) := by omega
      rw [e1]
      by_cases c1 : (a : Int) > (18446744073709551615 - ((n - 48 : Nat) : Int)) / 10
      · rw [if_pos c1]
        have hbig : 18446744073709551615 < val (s.data.toList.drop (i + 1)) (10 * a + (n - 48)) := by omega
        exact congrArg some (told_big _ _ hbig).symm
      · rw [if_neg c1]
        have e2 : IntKind.u64.wrap (IntKind.u64.wrap (10 * (a : Int)) + ((n - 48 : Nat) : Int)) = ((10 * a + (n - 48) : Nat) : Int) := by
          simp only [IntKind.wrap_u64]
          omega
        have e3 := step64 i s.size c h20
        rw [e2, e3]
        exact refGet_l0 s h20 hp g (i + 1) _ hA hB (fun d hd' => hd d (by rw [hdrop]; exact List.mem_cons_of_mem _ hd')) (by omega)
    · have : i = s.size := by omega
      subst this
      rw [if_neg (show ¬ ((s.size : Nat) : Int) < (s.size : Int) by omega), if_pos (show 0 < (s.size : Int) by omega)]
      have e0 : s.data.toList.drop s.size = [] := List.drop_of_length_le (by omega)
      rw [e0]
      show _ = some (told (bt s 0 == 45) a)
      by_cases c1 : bt s 0 = 45
      · rw [if_pos c1, show (bt s 0 == 45) = true from beq_iff_eq.2 c1]
        show _ = some (if a ≤ 9223372036854775808 then (-(a : Int), 0, 0) else (0, 3, 0))
        by_cases c2 : a ≤ 9223372036854775808
        · have c3 : ¬ (a : Int) > 9223372036854775808 := by omega
          have e4 : wrap64 (IntKind.u64.wrap (-(a : Int))) = -(a : Int) := by
            simp only [IntKind.wrap_u64]
            unfold wrap64
            omega
          rw [if_pos c2, if_neg c3, e4]
        · have c3 : (a : Int) > 9223372036854775808 := by omega
          rw [if_neg c2, if_pos c3]
      · rw [if_neg c1, show (bt s 0 == 45) = false from beq_eq_false_iff_ne.2 c1]
        show _ = some (if a ≤ 9223372036854775807 then ((a : Int), 0, 0) else (0, 3, 0))
        by_cases c2 : a ≤ 9223372036854775807
        · have c3 : ¬ (a : Int) > 9223372036854775807 := by omega
          rw [if_pos c2, if_neg c3, w64 _ (by omega) (by omega)]
        · have c3 : (a : Int) > 9223372036854775807 := by omega
          rw [if_neg c2, if_pos c3]
theorem neg_bt (s : ByteArray) (hp : 0 < s.size) : isNeg s = (bt s 0 == 45) := by
  unfold isNeg firstOf
  by_cases c : bt s 0 = 45
  · rw [if_pos ⟨hp, c⟩, c]; rfl
  · rw [if_neg (fun h => c h.2)]
    simp [c]
theorem refGet_eq (s : ByteArray) (g : Nat) (hg0 : g = 22) : ∃ r, armisticeref01_Get.f (g + 1 + 1) s = some r ∧ number_Get.f s = some r := by
  unfold armisticeref01_Get.f
  rcases get_cases s with ⟨h20, hg⟩ | ⟨h20, i, hi, his, hg⟩ | ⟨h20, hne, hgood, hg⟩
  · rw [if_pos (show (s.size : Int) > 20 by omega)]
    exact ⟨_, rfl, hg⟩
  · rw [if_neg (show ¬ (s.size : Int) > 20 by omega), form_f s (by omega) g (by omega)]
    have hs : ∃ b, formTold s (firstOf s) (scan s (firstOf s) g (firstOf s)) = ((i : Int), b) ∧ b = false := by
      rcases hi with hi | ⟨hi, e1, e2⟩
      · have h22 : scan s (firstOf s) g (firstOf s) = some i := by
          rw [hg0]
          exact scan_more 21 _ _ hi
        rw [h22]
        exact ⟨_, rfl, rfl⟩
      · have h22 : scan s (firstOf s) g (firstOf s) = none := scan_of_good g _ (fun k h1 h2 => by omega)
        rw [h22]
        subst e2
        exact ⟨_, rfl, decide_eq_false (by omega)⟩
    obtain ⟨b, hb, rfl⟩ := hs
    rw [hb]
    refine ⟨_, ?_, hg⟩
    simp
  · rw [if_neg (show ¬ (s.size : Int) > 20 by omega), form_f s (by omega) g (by omega), scan_of_good g _ hgood]
    have hf := firstOf_le s
    have e1 : (formTold s (firstOf s) none).2 = true := decide_eq_true (by omega)
    refine ⟨_, ?_, hg⟩
    simp only [Option.bind_some]
    rw [if_pos e1]
    have hd := digits_of s hgood
    rw [neg_bt s (by omega)]
    by_cases c : firstOf s = 1
    · rw [c] at hd ⊢
      have hbt : bt s 0 = 45 := by
        unfold firstOf at c
        split at c
        · rename_i h; exact h.2
        · omega
      unfold armisticeref01_Get.l0
      rw [if_pos (show 0 < (s.size : Int) by omega), if_pos (by omega), if_pos hbt, show wrap64 (0 + 1) = ((1 : Nat) : Int) from by unfold wrap64; omega]
      exact refGet_l0 s (by omega) (by omega) (g + 1) 1 0 (by omega) (by omega) hd (by omega)
    · have c0 : firstOf s = 0 := by omega
      rw [c0] at hd ⊢
      exact refGet_l0 s (by omega) (by omega) (g + 1 + 1) 0 0 (by omega) (by omega) hd (by omega)
end Go.Proofs.YtdimbcabkikcoaaDoor.P
