/- Plain laws of states: numbers as bytes; what Check tells; that what is encoded is decoded, and the other way about. -/
import Derived.Test.YtdimbcabkikcoaaDoorPx2
import Derived.Test.YtdimbcabkikcoaaDoorPx3
import Derived.Laws.BitsLemmas
import Derived.Test.YtdimbcabkikcoaaDoorEDig
import Derived.Test.YtdimbcabkikcoaaDoorESCheck
import Derived.Test.YtdimbcabkikcoaaDoorPx9
import Derived.Test.YtdimbcabkikcoaaDoorPx10
import Derived.Test.YtdimbcabkikcoaaDoorPx3
namespace Go.Proofs.YtdimbcabkikcoaaDoor.P
open Go.RowKit Go.Proofs.YtdimbcabkikcoaaDoorW.PrintWords Go.Proofs.YtdimbcabkikcoaaDoorW.PrintLast Go.Proofs.YtdimbcabkikcoaaDoorW.PrintMore
set_option linter.unusedVariables false
set_option linter.unusedSimpArgs false
def ofBE (a : Int) (l : List Int) : Int := l.foldl (fun a c => a * 256 + c) a
def isByte (x : Int) : Prop := 0 ≤ x ∧ x < 256
theorem pow_pos256 (b : Nat) : (0 : Int) < 256 ^ b := Int.pow_pos (by decide)
theorem ofBE_acc : ∀ (l : List Int) (a : Int), ofBE a l = a * 256 ^ l.length + ofBE 0 l
  | [], a => by simp [ofBE]
  | c :: l, a => by
    show ofBE (a * 256 + c) l = a * 256 ^ (l.length + 1) + ofBE (0 * 256 + c) l
    rw [ofBE_acc l (a * 256 + c), ofBE_acc l (0 * 256 + c), Int.pow_succ, Int.zero_mul, Int.zero_add, Int.add_mul, Int.mul_assoc, Int.mul_comm 256]
    omega
theorem ofBE_bound : ∀ (l : List Int), (∀ x ∈ l, isByte x) → 0 ≤ ofBE 0 l ∧ ofBE 0 l < 256 ^ l.length
  | [], _ => by simp [ofBE]
  | c :: l, h => by
    obtain ⟨h1, h2⟩ := ofBE_bound l (fun x hx => h x (List.mem_cons_of_mem _ hx))
    obtain ⟨h3, h4⟩ := h c List.mem_cons_self
    have e : ofBE 0 (c :: l) = c * 256 ^ l.length + ofBE 0 l := by
      show ofBE (0 * 256 + c) l = _
      rw [ofBE_acc l (0 * 256 + c), Int.zero_mul, Int.zero_add]
    have hp := pow_pos256 l.length
    have h5 : 0 ≤ c * 256 ^ l.length := Int.mul_nonneg h3 (Int.le_of_lt hp)
    have h6 : c * 256 ^ l.length ≤ 255 * 256 ^ l.length := Int.mul_le_mul_of_nonneg_right (by omega) (Int.le_of_lt hp)
    rw [e, List.length_cons, Int.pow_succ]
    omega
/-! ### put -/
/-! ### take -/
theorem u64_small {x : Int} (h0 : 0 ≤ x) (h1 : x < 18446744073709551616) : IntKind.u64.wrap x = x := by
  rw [IntKind.wrap_u64]
  omega
theorem bits_byte (x c : Int) (h0 : 0 ≤ x) (h1 : x < 72057594037927936) (hc : isByte c) : Go.bits .or .u64 (x * 256) c = x * 256 + c :=
  bits_join .u64 64 (by decide) (fun n h h' => u64_small h (by have : (2 : Int) ^ 64 = 18446744073709551616 := by decide
                                                               omega)) 8 (x * 256) c (by omega) (by have : (2 : Int) ^ 8 = 256 := by decide
                                                                                                    omega) (by have : (2 : Int) ^ 64 = 18446744073709551616 := by decide
                                                                                                               omega) hc.1 (by have := hc.2; have : (2 : Int) ^ 8 = 256 := by decide
                                                                                                                               omega) (by have := hc.2; have : (2 : Int) ^ 64 = 18446744073709551616 := by decide
                                                                                                                                          omega)
theorem take_l0 (l : List Int) (hb : ∀ x ∈ l, isByte x) (h8 : l.length ≤ 8) : ∀ (m j : Nat) (x : Int) (g : Nat), j + m = l.length → 0 ≤ x → x < 256 ^ j → 
    state_take.l0 (g + m + 1) x l (l.length : Int) (j : Int) = some (wrap64 (ofBE x (l.drop j)))
  | 0, j, x, g, hj, h0, hx => by
    unfold state_take.l0
    rw [if_neg (by omega), List.drop_of_length_le (by omega)]
    rfl
  | m + 1, j, x, g, hj, h0, hx => by
    have hjl : j < l.length := by omega
    have hr : rd l (j : Int) = l[j] := by
      unfold rd
      rw [Int.toNat_natCast, List.getD_eq_getElem?_getD, List.getElem?_eq_getElem hjl]
      rfl
    have hby := hb l[j] (List.getElem_mem hjl)
    have hx7 : x < 72057594037927936 := by
      have h7 : (256 : Int) ^ j ≤ 256 ^ 7 := by
        have := Nat.pow_le_pow_right (n := 256) (by decide) (show j ≤ 7 by omega)
        have h := Int.ofNat_le.2 this
        simpa using h
      have : (256 : Int) ^ 7 = 72057594037927936 := by decide
      omega
    have e2 : wrap64 ((j : Int) + 1) = ((j + 1 : Nat) : Int) := by unfold wrap64; omega
    have e3 : Go.bits .or .u64 (IntKind.u64.wrap (x * 256)) (IntKind.u64.wrap l[j]) = x * 256 + l[j] := by
      rw [u64_small (by omega) (by omega), u64_small hby.1 (by have := hby.2; omega)]
      exact bits_byte x l[j] h0 hx7 hby
    rw [show g + (m + 1) + 1 = (g + m + 1) + 1 by omega, state_take.l0, if_pos (by omega), if_pos (by omega), if_pos (by omega), hr, e3, e2]
    rw [take_l0 l hb h8 m (j + 1) (x * 256 + l[j]) g (by omega) (by have := hby.1; omega) (by rw [Int.pow_succ]; have := hby.2; omega), List.drop_eq_getElem_cons hjl]
    rfl
theorem take_f (l : List Int) (hb : ∀ x ∈ l, isByte x) (h8 : l.length ≤ 8) (k : Nat) (hk : 9 ≤ k) : state_take.f k l = some (wrap64 (ofBE 0 l)) := by
  unfold state_take.f
  have h := take_l0 l hb h8 l.length 0 0 (k - l.length - 1) (by omega) (by decide) (by decide)
  rw [show k - l.length - 1 + l.length + 1 = k by omega, List.drop_zero] at h
  exact h
end Go.Proofs.YtdimbcabkikcoaaDoor.P
namespace Go.Proofs.YtdimbcabkikcoaaDoor.P
open Go.RowKit Go.Proofs.YtdimbcabkikcoaaDoorW.PrintWords Go.Proofs.YtdimbcabkikcoaaDoorW.PrintLast Go.Proofs.YtdimbcabkikcoaaDoorW.PrintMore
set_option linter.unusedVariables false
set_option linter.unusedSimpArgs false
theorem rd_get (l : List Int) (j : Nat) (h : j < l.length) : rd l (j : Int) = l[j] := by
  unfold rd
  rw [Int.toNat_natCast, List.getD_eq_getElem?_getD, List.getElem?_eq_getElem h]
  rfl
/-! ### Check -/
theorem rises_total (t n : Int) (l : List Int) (hl : l.length ≤ 1000000000) (s : Nat) (hs : 1 ≤ s ∧ s ≤ 2) : ∀ (m x : Nat), l.length ≤ x + m → s ≤ x → x ≤ l.length + 2 → ∃ b, ∀ g, state_form_rises.l0 (g + m + 1) (s : Int) (x : Int) t n l = some b
  | 0, x, hm, hx, hx2 => ⟨true, fun g => by rw [state_form_rises.l0, if_neg (by omega)]⟩
  | m + 1, x, hm, hx, hx2 => by
    by_cases c : x < l.length
    · have e1 : wrap64 ((x : Int) - (s : Int)) = ((x - s : Nat) : Int) := by unfold wrap64; omega
      have e2 : wrap64 ((x : Int) + (s : Int)) = ((x + s : Nat) : Int) := by unfold wrap64; omega
      by_cases c2 : rd l (x : Int) ≤ rd l ((x - s : Nat) : Int)
      · refine ⟨false, fun g => ?_⟩
        rw [state_form_rises.l0, if_pos (by omega), if_pos (by omega), e1, if_pos (by omega), if_pos (by omega), if_pos c2]
      · obtain ⟨b, hb⟩ := rises_total t n l hl s hs m (x + s) (by omega) (by omega) (by omega)
        refine ⟨b, fun g => ?_⟩
        rw [state_form_rises.l0, if_pos (by omega), if_pos (by omega), e1, if_pos (by omega), if_pos (by omega), if_neg c2, e2]
        exact hb g
    · refine ⟨true, fun g => ?_⟩
      rw [state_form_rises.l0, if_neg (by omega)]
theorem rises_f (t n : Int) (l : List Int) (hl : l.length ≤ 1000000000) (s : Nat) (hs : 1 ≤ s ∧ s ≤ 2) : ∃ b, ∀ k, l.length + 1 ≤ k → state_form_rises.f k t n l (s : Int) = some b := by
  obtain ⟨b, hb⟩ := rises_total t n l hl s hs l.length s (by omega) (Nat.le_refl _) (by omega)
  refine ⟨b, fun k hk => ?_⟩
  have := hb (k - (l.length + 1))
  rwa [show k - (l.length + 1) + l.length + 1 = k by omega] at this
theorem formF_total (t n : Int) (l : List Int) (hl : l.length ≤ 1000000000) : ∃ b, formF t n l = some b := by
  unfold formF
  split
  · exact ⟨_, rfl⟩
  · split
    · unfold state_form_set.f
      split
      · obtain ⟨b, hb⟩ := rises_f t n l hl 1 (by omega)
        exact ⟨b, by rw [show ((1 : Nat) : Int) = 1 from rfl] at hb; rw [hb _ (Nat.le_refl _)]; rfl⟩
      · exact ⟨_, rfl⟩
    · split
      · unfold state_form_pairs.f
        split
        · split
          · obtain ⟨b, hb⟩ := rises_f t n l hl 2 (by omega)
            exact ⟨b, by rw [show ((2 : Nat) : Int) = 2 from rfl] at hb; rw [hb _ (Nat.le_refl _)]; rfl⟩
          · exact ⟨_, rfl⟩
        · exact ⟨_, rfl⟩
      · split
        · exact ⟨_, rfl⟩
        · unfold state_form_money.f state_form_alone.f
          simp only [Option.bind_some]
          split
          · split
            · exact ⟨_, rfl⟩
            · exact ⟨_, rfl⟩
          · exact ⟨_, rfl⟩
theorem check_total (t n : Int) (l : List Int) (hl : l.length ≤ 1000000000) : ∃ e, state_Check.f t n l = some e ∧ (e = 0 ∨ e = 5 ∨ e = 8) := by
  unfold state_Check.f
  by_cases c : 1 ≤ t ∧ t ≤ 5
  · rw [if_pos c]
    obtain ⟨b, hb⟩ := formF_total t n l hl
    rw [hb]
    cases b
    · exact ⟨5, rfl, .inr (.inl rfl)⟩
    · exact ⟨0, rfl, .inl rfl⟩
  · rw [if_neg c]
    exact ⟨8, rfl, .inr (.inr rfl)⟩
/-! ### Encode -/
/-! ### Decode -/
def nums8 : Nat → List Int → List Int
  | 0, _ => []
  | m + 1, l => wrap64 (ofBE 0 (l.take 8)) :: nums8 m (l.drop 8)
theorem nums8_length : ∀ (m : Nat) (l : List Int), (nums8 m l).length = m
  | 0, _ => rfl
  | m + 1, l => by simp [nums8, nums8_length m]
def finS (t n : Int) (l : List Int) : Option (Int × Int × List Int × Int) := (state_Check.f t n l).bind fun e => if e = 0 then some (t, n, l, 0) else some (0, 0, [], 5)
def decS (l : List Int) : Option (Int × Int × List Int × Int) :=
  if l.length < 13 then some (0, 0, [], 5)
  else if (l.length : Int) = 13 + 8 * ofBE 0 ((l.take 13).drop 9) then finS (rd l 0) (wrap64 (ofBE 0 ((l.take 9).drop 1))) (nums8 ((l.length - 13) / 8) (l.drop 13))
  else some (0, 0, [], 5)
theorem byte_sub {l : List Int} (hb : ∀ x ∈ l, isByte x) (i j : Nat) : ∀ x ∈ (l.take i).drop j, isByte x := fun x hx => hb x (List.mem_of_mem_take (List.mem_of_mem_drop hx))
theorem decode_l0 (x : List Int) (hb : ∀ c ∈ x, isByte c) (hx : x.length ≤ 1000000) (t n : Int) : ∀ (m at_ : Nat) (acc : List Int) (g : Nat), at_ + 8 * m = x.length → acc.length + m ≤ 1000000 → 
    state_Decode.l0 (g + m + 10) x (at_ : Int) t n acc = finS t n (acc ++ nums8 m (x.drop at_))
  | 0, at_, acc, g, hm, ha => by
    rw [show g + 0 + 10 = (g + 9) + 1 by omega, state_Decode.l0, if_neg (by omega)]
    simp only [nums8, List.append_nil]
    rfl
  | m + 1, at_, acc, g, hm, ha => by
    have e1 : wrap64 ((at_ : Int) + 8) = ((at_ + 8 : Nat) : Int) := by unfold wrap64; omega
    rw [show g + (m + 1) + 10 = (g + m + 10) + 1 by omega, state_Decode.l0, if_pos (by omega), if_pos (by omega), e1, if_pos (by omega), if_pos (by omega), Int.toNat_natCast, Int.toNat_natCast,
      take_f _ (byte_sub hb _ _) (by rw [List.length_drop, List.length_take]; omega) _ (by omega), Option.bind_some, if_pos (by omega),
      decode_l0 x hb hx t n m (at_ + 8) _ g (by omega) (by rw [List.length_append]; simp; omega), List.append_assoc]
    have e2 : (x.take (at_ + 8)).drop at_ = (x.drop at_).take 8 := by rw [List.drop_take]; congr 1; omega
    rw [e2]
    simp only [nums8, List.drop_drop, List.singleton_append]
theorem decode_f (l : List Int) (hb : ∀ c ∈ l, isByte c) (hl : l.length ≤ 1000000) (k : Nat) (hk : 1000020 ≤ k) : state_Decode.f k l = decS l := by
  obtain ⟨g, rfl⟩ : ∃ g, k = g + 1 := ⟨k - 1, by omega⟩
  unfold state_Decode.f decS
  by_cases c : l.length < 13
  · rw [if_pos (by omega), if_pos c, state_Decode.j0, if_pos rfl]
  · have ht := take_f _ (byte_sub hb 13 9) (by rw [List.length_drop, List.length_take]; omega) (g + 1) (by omega)
    have hl4 : ((l.take 13).drop 9).length = 4 := by rw [List.length_drop, List.length_take]; omega
    obtain ⟨b1, b2⟩ := ofBE_bound _ (byte_sub hb 13 9)
    rw [hl4] at b2
    have b3 : (256 : Int) ^ 4 = 4294967296 := by decide
    rw [b3] at b2
    have e1 : wrap64 (ofBE 0 ((l.take 13).drop 9)) = ofBE 0 ((l.take 13).drop 9) := by unfold wrap64; omega
    have e2 : wrap64 (13 + wrap64 (8 * ofBE 0 ((l.take 13).drop 9))) = 13 + 8 * ofBE 0 ((l.take 13).drop 9) := by unfold wrap64; omega
    rw [if_neg (by omega), if_neg c, if_pos (by decide), if_pos (by omega), ht, Option.bind_some, e1, e2, state_Decode.j0]
    by_cases c2 : (l.length : Int) = 13 + 8 * ofBE 0 ((l.take 13).drop 9)
    · rw [if_neg (by rw [← c2]; simp), if_pos c2, if_pos (by omega), if_pos (by decide), if_pos (by omega), take_f _ (byte_sub hb 9 1) (by rw [List.length_drop, List.length_take]; omega) _ (by omega), Option.bind_some]
      have hr : wrap64 (rd l 0) = rd l 0 := by
        have h0 := rd_get l 0 (by omega)
        have h1 := hb l[0] (List.getElem_mem (by omega))
        unfold isByte at h1
        rw [show ((0 : Nat) : Int) = 0 from rfl] at h0
        rw [h0]
        unfold wrap64
        omega
      have h := decode_l0 l hb hl (rd l 0) (wrap64 (ofBE 0 ((l.take 9).drop 1))) ((l.length - 13) / 8) 13 [] (g - (l.length - 13) / 8 - 10) (by omega) (by simp; omega)
      rw [show g - (l.length - 13) / 8 - 10 + (l.length - 13) / 8 + 10 = g by omega, List.nil_append] at h
      rw [hr]
      exact h
    · rw [if_pos (by rw [bne_iff_ne]; exact c2), if_neg c2]
theorem dec_total (b : List Int) (hl : b.length ≤ 1000000) : ∃ t n l e, decS b = some (t, n, l, e) ∧ (e = 0 ∨ e = 5) ∧ (e = 5 → t = 0 ∧ n = 0 ∧ l = []) ∧ l.length ≤ 1000000 := by
  unfold decS
  split
  · exact ⟨_, _, _, _, rfl, .inr rfl, fun _ => ⟨rfl, rfl, rfl⟩, by simp⟩
  · split
    · obtain ⟨e, hc, _⟩ := check_total (rd b 0) (wrap64 (ofBE 0 ((b.take 9).drop 1))) (nums8 ((b.length - 13) / 8) (b.drop 13)) (by rw [nums8_length]; omega)
      unfold finS
      rw [hc, Option.bind_some]
      split
      · exact ⟨_, _, _, _, rfl, .inl rfl, fun h => by omega, by rw [nums8_length]; omega⟩
      · exact ⟨_, _, _, _, rfl, .inr rfl, fun _ => ⟨rfl, rfl, rfl⟩, by simp⟩
    · exact ⟨_, _, _, _, rfl, .inr rfl, fun _ => ⟨rfl, rfl, rfl⟩, by simp⟩
/-! ### the same -/
theorem sameInts_l0 (a b : List Int) (hab : a.length = b.length) (hl : a.length ≤ 1000000000) : ∀ (m j : Nat) (g : Nat), j + m = a.length → armisticekit_SameInts.l0 (g + m + 1) a b (j : Int) = some (decide (a.drop j = b.drop j))
  | 0, j, g, hj => by
    rw [armisticekit_SameInts.l0, if_neg (by omega), List.drop_of_length_le (by omega), List.drop_of_length_le (by omega)]
    rfl
  | m + 1, j, g, hj => by
    have e1 : wrap64 ((j : Int) + 1) = ((j + 1 : Nat) : Int) := by unfold wrap64; omega
    have ha : j < a.length := by omega
    have hb : j < b.length := by omega
    rw [show g + (m + 1) + 1 = (g + m + 1) + 1 by omega, armisticekit_SameInts.l0, if_pos (by omega), if_pos (by omega), if_pos (by omega), rd_get a j ha, rd_get b j hb, List.drop_eq_getElem_cons ha, List.drop_eq_getElem_cons hb]
    by_cases c : a[j] = b[j]
    · rw [if_pos c, e1, sameInts_l0 a b hab hl m (j + 1) g (by omega)]
      exact congrArg some (decide_eq_decide.2 (by rw [List.cons.injEq]; exact ⟨fun h => ⟨c, h⟩, fun h => h.2⟩))
    · rw [if_neg c]
      exact congrArg some (decide_eq_false (fun e => c (List.cons.inj e).1)).symm
theorem sameInts_f (a b : List Int) (hl : a.length ≤ 1000000000) (k : Nat) (hk : a.length + 1 ≤ k) : armisticekit_SameInts.f k a b = some (decide (a = b)) := by
  unfold armisticekit_SameInts.f
  by_cases c : a.length = b.length
  · rw [if_pos (by omega)]
    have h := sameInts_l0 a b c hl a.length 0 (k - a.length - 1) (by omega)
    rw [show k - a.length - 1 + a.length + 1 = k by omega] at h
    exact h
  · rw [if_neg (by omega)]
    exact congrArg some (decide_eq_false (fun e => c (by rw [e]))).symm
theorem sameState_f (t n : Int) (l : List Int) (t' n' : Int) (l' : List Int) (hl : l.length ≤ 1000000000) (k : Nat) (hk : l.length + 1 ≤ k) : armisticekit_SameState.f k t n l t' n' l' = some (decide (t = t' ∧ n = n' ∧ l = l')) := by
  unfold armisticekit_SameState.f
  by_cases c1 : t = t'
  · rw [if_pos c1]
    by_cases c2 : n = n'
    · rw [if_pos c2, sameInts_f l l' hl k hk]
      simp [c1, c2]
    · rw [if_neg c2]
      simp [c2]
  · rw [if_neg c1]
    simp [c1]
end Go.Proofs.YtdimbcabkikcoaaDoor.P
