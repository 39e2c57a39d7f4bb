/- Plain laws of states: numbers as bytes; what Check tells; that what is encoded is decoded, and the other way about. -/
import Derived.Test.YtdimbcabkikcoaaDoorPx2
import Derived.Test.YtdimbcabkikcoaaDoorPx3
import Derived.Laws.BitsLemmas
import Derived.Test.YtdimbcabkikcoaaDoorEDig
import Derived.Test.YtdimbcabkikcoaaDoorESCheck
import Derived.Test.YtdimbcabkikcoaaDoorPx4
import Derived.Test.YtdimbcabkikcoaaDoorPx5
import Derived.Test.YtdimbcabkikcoaaDoorPx3
import Derived.Test.YtdimbcabkikcoaaDoorPx3
namespace Go.Proofs.YtdimbcabkikcoaaDoor.P
open Go.RowKit Go.Proofs.YtdimbcabkikcoaaDoorW.PrintWords Go.Proofs.YtdimbcabkikcoaaDoorW.PrintLast Go.Proofs.YtdimbcabkikcoaaDoorW.PrintMore
set_option linter.unusedVariables false
set_option linter.unusedSimpArgs false
def bytesBE : Nat → Int → List Int
  | 0, _ => []
  | b + 1, n => (n / 256 ^ b) % 256 :: bytesBE b n
def ofBE (a : Int) (l : List Int) : Int := l.foldl (fun a c => a * 256 + c) a
def isByte (x : Int) : Prop := 0 ≤ x ∧ x < 256
theorem bytesBE_length : ∀ (b : Nat) (n : Int), (bytesBE b n).length = b
  | 0, _ => rfl
  | b + 1, n => by simp [bytesBE, bytesBE_length b n]
theorem bytesBE_byte : ∀ (b : Nat) (n : Int), ∀ x ∈ bytesBE b n, isByte x
  | 0, _ => by intro x hx; simp [bytesBE] at hx
  | b + 1, n => by
    intro x hx
    rcases List.mem_cons.1 hx with rfl | hx
    · unfold isByte
      omega
    · exact bytesBE_byte b n x hx
theorem pow_pos256 (b : Nat) : (0 : Int) < 256 ^ b := Int.pow_pos (by decide)
theorem mod_step (n m : Int) (hm : 0 < m) : (n / m % 256) * m + n % m = n % (m * 256) := by
  have h1 := Int.emod_add_mul_ediv n m
  have h2 := Int.emod_add_mul_ediv (n / m) 256
  have h3 := Int.emod_nonneg n (Int.ne_of_gt hm)
  have h4 := Int.emod_lt_of_pos n hm
  have h5 : 0 ≤ n / m % 256 ∧ n / m % 256 < 256 := by omega
  have e : n = (n / m % 256) * m + n % m + (m * 256) * (n / m / 256) := by
    have : m * (n / m) = m * (n / m % 256) + m * (256 * (n / m / 256)) := by rw [← Int.mul_add, h2]
    have e1 : m * (256 * (n / m / 256)) = (m * 256) * (n / m / 256) := by rw [Int.mul_assoc]
    have e2 : m * (n / m % 256) = (n / m % 256) * m := Int.mul_comm _ _
    omega
  have hlo : 0 ≤ (n / m % 256) * m + n % m := Int.add_nonneg (Int.mul_nonneg h5.1 (Int.le_of_lt hm)) h3
  have hhi : (n / m % 256) * m + n % m < m * 256 := by
    have : (n / m % 256) * m ≤ 255 * m := Int.mul_le_mul_of_nonneg_right (by omega) (Int.le_of_lt hm)
    omega
  have : n % (m * 256) = ((n / m % 256) * m + n % m) % (m * 256) := by
    have h := congrArg (· % (m * 256)) e
    simp only [Int.add_mul_emod_self_left] at h
    exact h
  rw [this, Int.emod_eq_of_lt hlo hhi]
theorem ofBE_bytes : ∀ (b : Nat) (a n : Int), ofBE a (bytesBE b n) = a * 256 ^ b + n % 256 ^ b
  | 0, a, n => by simp [ofBE, bytesBE, Int.emod_one]
  | b + 1, a, n => by
    have ih := ofBE_bytes b (a * 256 + (n / 256 ^ b) % 256) n
    have hs := mod_step n (256 ^ b) (pow_pos256 b)
    show ofBE (a * 256 + (n / 256 ^ b) % 256) (bytesBE b n) = _
    rw [ih, Int.pow_succ, ← hs, Int.add_mul, Int.mul_assoc, Int.mul_comm 256 (256 ^ b)]
    omega
theorem ofBE_acc : ∀ (l : List Int) (a : Int), ofBE a l = a * 256 ^ l.length + ofBE 0 l
  | [], a => by simp [ofBE]
  | c :: l, a => by
    show ofBE (a * 256 + c) l = a * 256 ^ (l.length + 1) + ofBE (0 * 256 + c) l
    rw [ofBE_acc l (a * 256 + c), ofBE_acc l (0 * 256 + c), Int.pow_succ, Int.zero_mul, Int.zero_add, Int.add_mul, Int.mul_assoc, Int.mul_comm 256]
    omega
theorem ofBE_bound : ∀ (l : List Int), (∀ x ∈ l, isByte x) → 0 ≤ ofBE 0 l ∧ ofBE 0 l < 256 ^ l.length
  | [], _ => by simp [ofBE]
  | c :: l, h => by
    obtain ⟨h1, h2⟩ := ofBE_bound l (fun x hx => h x (List.mem_cons_of_mem _ hx))
    obtain ⟨h3, h4⟩ := h c List.mem_cons_self
    have e : ofBE 0 (c :: l) = c * 256 ^ l.length + ofBE 0 l := by
      show ofBE (0 * 256 + c) l = _
      rw [ofBE_acc l (0 * 256 + c), Int.zero_mul, Int.zero_add]
    have hp := pow_pos256 l.length
    have h5 : 0 ≤ c * 256 ^ l.length := Int.mul_nonneg h3 (Int.le_of_lt hp)
    have h6 : c * 256 ^ l.length ≤ 255 * 256 ^ l.length := Int.mul_le_mul_of_nonneg_right (by omega) (Int.le_of_lt hp)
    rw [e, List.length_cons, Int.pow_succ]
    omega
theorem bytes_ofBE : ∀ (l : List Int) (a : Int), (∀ x ∈ l, isByte x) → bytesBE l.length (ofBE a l) = l
  | [], _, _ => rfl
  | c :: l, a, h => by
    obtain ⟨h3, h4⟩ := h c List.mem_cons_self
    have hl := fun x hx => h x (List.mem_cons_of_mem c hx)
    obtain ⟨h1, h2⟩ := ofBE_bound l hl
    have ih := bytes_ofBE l (a * 256 + c) hl
    show ((ofBE (a * 256 + c) l) / 256 ^ l.length) % 256 :: bytesBE l.length (ofBE (a * 256 + c) l) = c :: l
    rw [ih]
    congr 1
    rw [ofBE_acc l (a * 256 + c), Int.add_comm, Int.add_mul_ediv_right _ _ (Int.ne_of_gt (pow_pos256 _)), Int.ediv_eq_zero_of_lt h1 h2]
    omega
theorem bytesBE_mod : ∀ (b : Nat) (n m : Int), n % 256 ^ b = m % 256 ^ b → bytesBE b n = bytesBE b m := by
  intro b n m h
  have h1 := bytes_ofBE (bytesBE b n) 0 (bytesBE_byte b n)
  have h2 := bytes_ofBE (bytesBE b m) 0 (bytesBE_byte b m)
  rw [bytesBE_length, ofBE_bytes] at h1 h2
  rw [← h1, ← h2, h]
theorem wrap_mod (x : Int) : (wrap64 x) % 256 ^ 8 = x % 256 ^ 8 := by
  unfold wrap64
  have : (256 : Int) ^ 8 = 18446744073709551616 := by decide
  rw [this]
  omega
theorem wrap_bytes (n : Int) (h : isI64 n) : wrap64 (ofBE 0 (bytesBE 8 n)) = n := by
  rw [ofBE_bytes]
  have : (256 : Int) ^ 8 = 18446744073709551616 := by decide
  rw [this]
  unfold isI64 at h
  unfold wrap64
  omega
theorem len_bytes (n : Nat) (h : n < 4294967296) : ofBE 0 (bytesBE 4 (n : Int)) = (n : Int) := by
  rw [ofBE_bytes]
  have : (256 : Int) ^ 4 = 4294967296 := by decide
  rw [this]
  omega
theorem bytes_wrap (l : List Int) (h8 : l.length = 8) (h : ∀ x ∈ l, isByte x) : bytesBE 8 (wrap64 (ofBE 0 l)) = l := by
  rw [bytesBE_mod 8 _ _ (wrap_mod _), ← h8]
  exact bytes_ofBE l 0 h
/-! ### put -/
theorem shr_byte (n : Int) (i : Nat) (h : i < 8) : (shr .i64 n (wrap64 (8 * (i : Int)))) % 256 = (n / 256 ^ i) % 256 := by
  have e : wrap64 (8 * (i : Int)) = ((8 * i : Nat) : Int) := by unfold wrap64; omega
  rw [e]
  unfold shr
  rw [Int.toNat_natCast, Nat.min_eq_left (by show 8 * i ≤ 64; omega), Int.pow_mul]
  rfl
theorem put_l1 (x1 n : Int) (x10 : List Int) (x11 x12 : Int) : ∀ (i : Nat) (acc : List Int) (g : Nat), i < 8 → acc.length + i < 140737488355328 →
    state_put.l1 (g + i + 2) acc x1 n (i : Int) x10 x11 x12 = state_put.l0 g (acc ++ bytesBE (i + 1) n) x1 x10 x11 (wrap64 (x12 + 1))
  | 0, acc, g, hi, hl => by
    unfold state_put.l1
    have e8 : 0 ≤ wrap64 (8 * ((0 : Nat) : Int)) := by unfold wrap64; omega
    rw [if_pos (by omega), if_pos e8, if_pos (by omega)]
    have e : wrap64 (((0 : Nat) : Int) - 1) = -1 := by unfold wrap64; omega
    rw [e, shr_byte n 0 hi]
    unfold state_put.l1
    rw [if_neg (by decide)]
    rfl
  | i + 1, acc, g, hi, hl => by
    have e : wrap64 (((i + 1 : Nat) : Int) - 1) = (i : Int) := by unfold wrap64; omega
    have e8 : 0 ≤ wrap64 (8 * ((i + 1 : Nat) : Int)) := by unfold wrap64; omega
    rw [show g + (i + 1) + 2 = (g + i + 2) + 1 by omega]
    rw [state_put.l1, if_pos (by omega), if_pos e8, if_pos (by omega), e, shr_byte n (i + 1) hi, put_l1 x1 n x10 x11 x12 i _ g (by omega) (by rw [List.length_append]; simp; omega), List.append_assoc]
    rfl
theorem put_l0 (b : Nat) (hb : 1 ≤ b ∧ b ≤ 8) (l : List Int) (hl : l.length ≤ 1000000000) : ∀ (m j : Nat) (acc : List Int) (g : Nat), j + m = l.length → acc.length + m * 8 ≤ 10000000000 →
    state_put.l0 (g + m * (b + 2) + 1) acc (b : Int) l (l.length : Int) (j : Int) = some (acc ++ (l.drop j).flatMap (bytesBE b))
  | 0, j, acc, g, hj, ha => by
    unfold state_put.l0
    rw [if_neg (by omega), List.drop_of_length_le (by omega)]
    simp
  | m + 1, j, acc, g, hj, ha => by
    obtain ⟨i, rfl⟩ : ∃ i, b = i + 1 := ⟨b - 1, by omega⟩
    have hjl : j < l.length := by omega
    have hr : rd l (j : Int) = l[j] := by
      unfold rd
      rw [Int.toNat_natCast, List.getD_eq_getElem?_getD, List.getElem?_eq_getElem hjl]
      rfl
    have e1 : wrap64 (((i + 1 : Nat) : Int) - 1) = (i : Int) := by unfold wrap64; omega
    have e2 : wrap64 ((j : Int) + 1) = ((j + 1 : Nat) : Int) := by unfold wrap64; omega
    rw [show g + (m + 1) * (i + 1 + 2) + 1 = ((g + m * (i + 1 + 2) + 1) + i + 2) + 1 by rw [Nat.add_mul]; omega]
    rw [state_put.l0, if_pos (by omega), if_pos (by omega), if_pos (by omega), e1, hr, put_l1 _ _ _ _ _ i acc _ (by omega) (by omega), e2,
      put_l0 (i + 1) hb l hl m (j + 1) _ g (by omega) (by rw [List.length_append, bytesBE_length]; omega), List.append_assoc, List.drop_eq_getElem_cons hjl, List.flatMap_cons]
theorem put_f (b : Nat) (hb : 1 ≤ b ∧ b ≤ 8) (acc l : List Int) (hl : l.length ≤ 1000000000) (ha : acc.length ≤ 1000000000) (k : Nat) (hk : l.length * (b + 2) + 1 ≤ k) :
    state_put.f k acc (b : Int) l = some (acc ++ l.flatMap (bytesBE b)) := by
  unfold state_put.f
  have h := put_l0 b hb l hl l.length 0 acc (k - (l.length * (b + 2) + 1)) (by omega) (by omega)
  rw [show k - (l.length * (b + 2) + 1) + l.length * (b + 2) + 1 = k by omega, List.drop_zero] at h
  exact h
/-! ### take -/
theorem u64_small {x : Int} (h0 : 0 ≤ x) (h1 : x < 18446744073709551616) : IntKind.u64.wrap x = x := by
  rw [IntKind.wrap_u64]
  omega
theorem bits_byte (x c : Int) (h0 : 0 ≤ x) (h1 : x < 72057594037927936) (hc : isByte c) : Go.bits .or .u64 (x * 256) c = x * 256 + c :=
  bits_join .u64 64 (by decide) (fun n h h' => u64_small h (by have : (2 : Int) ^ 64 = 18446744073709551616 := by decide
                                                               omega)) 8 (x * 256) c (by omega) (by have : (2 : Int) ^ 8 = 256 := by decide
                                                                                                    omega) (by have : (2 : Int) ^ 64 = 18446744073709551616 := by decide
                                                                                                               omega) hc.1 (by have := hc.2; have : (2 : Int) ^ 8 = 256 := by decide
                                                                                                                               omega) (by have := hc.2; have : (2 : Int) ^ 64 = 18446744073709551616 := by decide
                                                                                                                                          omega)
theorem take_l0 (l : List Int) (hb : ∀ x ∈ l, isByte x) (h8 : l.length ≤ 8) : ∀ (m j : Nat) (x : Int) (g : Nat), j + m = l.length → 0 ≤ x → x < 256 ^ j → 
    state_take.l0 (g + m + 1) x l (l.length : Int) (j : Int) = some (wrap64 (ofBE x (l.drop j)))
  | 0, j, x, g, hj, h0, hx => by
    unfold state_take.l0
    rw [if_neg (by omega), List.drop_of_length_le (by omega)]
    rfl
  | m + 1, j, x, g, hj, h0, hx => by
    have hjl : j < l.length := by omega
    have hr : rd l (j : Int) = l[j] := by
      unfold rd
      rw [Int.toNat_natCast, List.getD_eq_getElem?_getD, List.getElem?_eq_getElem hjl]
      rfl
    have hby := hb l[j] (List.getElem_mem hjl)
    have hx7 : x < 72057594037927936 := by
      have h7 : (256 : Int) ^ j ≤ 256 ^ 7 := by
        have := Nat.pow_le_pow_right (n := 256) (by decide) (show j ≤ 7 by omega)
        have h := Int.ofNat_le.2 this
        simpa using h
      have : (256 : Int) ^ 7 = 72057594037927936 := by decide
      omega
    have e2 : wrap64 ((j : Int) + 1) = ((j + 1 : Nat) : Int) := by unfold wrap64; omega
    have e3 : Go.bits .or .u64 (IntKind.u64.wrap (x * 256)) (IntKind.u64.wrap l[j]) = x * 256 + l[j] := by
      rw [u64_small (by omega) (by omega), u64_small hby.1 (by have := hby.2; omega)]
      exact bits_byte x l[j] h0 hx7 hby
    rw [show g + (m + 1) + 1 = (g + m + 1) + 1 by omega, state_take.l0, if_pos (by omega), if_pos (by omega), if_pos (by omega), hr, e3, e2]
    rw [take_l0 l hb h8 m (j + 1) (x * 256 + l[j]) g (by omega) (by have := hby.1; omega) (by rw [Int.pow_succ]; have := hby.2; omega), List.drop_eq_getElem_cons hjl]
    rfl
theorem take_f (l : List Int) (hb : ∀ x ∈ l, isByte x) (h8 : l.length ≤ 8) (k : Nat) (hk : 9 ≤ k) : state_take.f k l = some (wrap64 (ofBE 0 l)) := by
  unfold state_take.f
  have h := take_l0 l hb h8 l.length 0 0 (k - l.length - 1) (by omega) (by decide) (by decide)
  rw [show k - l.length - 1 + l.length + 1 = k by omega, List.drop_zero] at h
  exact h
end Go.Proofs.YtdimbcabkikcoaaDoor.P
namespace Go.Proofs.YtdimbcabkikcoaaDoor.P
open Go.RowKit Go.Proofs.YtdimbcabkikcoaaDoorW.PrintWords Go.Proofs.YtdimbcabkikcoaaDoorW.PrintLast Go.Proofs.YtdimbcabkikcoaaDoorW.PrintMore
set_option linter.unusedVariables false
set_option linter.unusedSimpArgs false
theorem rd_get (l : List Int) (j : Nat) (h : j < l.length) : rd l (j : Int) = l[j] := by
  unfold rd
  rw [Int.toNat_natCast, List.getD_eq_getElem?_getD, List.getElem?_eq_getElem h]
  rfl
/-! ### Check -/
theorem rises_total (t n : Int) (l : List Int) (hl : l.length ≤ 1000000000) (s : Nat) (hs : 1 ≤ s ∧ s ≤ 2) : ∀ (m x : Nat), l.length ≤ x + m → s ≤ x → x ≤ l.length + 2 → ∃ b, ∀ g, state_form_rises.l0 (g + m + 1) (s : Int) (x : Int) t n l = some b
  | 0, x, hm, hx, hx2 => ⟨true, fun g => by rw [state_form_rises.l0, if_neg (by omega)]⟩
  | m + 1, x, hm, hx, hx2 => by
    by_cases c : x < l.length
    · have e1 : wrap64 ((x : Int) - (s : Int)) = ((x - s : Nat) : Int) := by unfold wrap64; omega
      have e2 : wrap64 ((x : Int) + (s : Int)) = ((x + s : Nat) : Int) := by unfold wrap64; omega
      by_cases c2 : rd l (x : Int) ≤ rd l ((x - s : Nat) : Int)
      · refine ⟨false, fun g => ?_⟩
        rw [state_form_rises.l0, if_pos (by omega), if_pos (by omega), e1, if_pos (by omega), if_pos (by omega), if_pos c2]
      · obtain ⟨b, hb⟩ := rises_total t n l hl s hs m (x + s) (by omega) (by omega) (by omega)
        refine ⟨b, fun g => ?_⟩
        rw [state_form_rises.l0, if_pos (by omega), if_pos (by omega), e1, if_pos (by omega), if_pos (by omega), if_neg c2, e2]
        exact hb g
    · refine ⟨true, fun g => ?_⟩
      rw [state_form_rises.l0, if_neg (by omega)]
theorem rises_f (t n : Int) (l : List Int) (hl : l.length ≤ 1000000000) (s : Nat) (hs : 1 ≤ s ∧ s ≤ 2) : ∃ b, ∀ k, l.length + 1 ≤ k → state_form_rises.f k t n l (s : Int) = some b := by
  obtain ⟨b, hb⟩ := rises_total t n l hl s hs l.length s (by omega) (Nat.le_refl _) (by omega)
  refine ⟨b, fun k hk => ?_⟩
  have := hb (k - (l.length + 1))
  rwa [show k - (l.length + 1) + l.length + 1 = k by omega] at this
theorem formF_total (t n : Int) (l : List Int) (hl : l.length ≤ 1000000000) : ∃ b, formF t n l = some b := by
  unfold formF
  split
  · exact ⟨_, rfl⟩
  · split
    · unfold state_form_set.f
      split
      · obtain ⟨b, hb⟩ := rises_f t n l hl 1 (by omega)
        exact ⟨b, by rw [show ((1 : Nat) : Int) = 1 from rfl] at hb; rw [hb _ (Nat.le_refl _)]; rfl⟩
      · exact ⟨_, rfl⟩
    · split
      · unfold state_form_pairs.f
        split
        · split
          · obtain ⟨b, hb⟩ := rises_f t n l hl 2 (by omega)
            exact ⟨b, by rw [show ((2 : Nat) : Int) = 2 from rfl] at hb; rw [hb _ (Nat.le_refl _)]; rfl⟩
          · exact ⟨_, rfl⟩
        · exact ⟨_, rfl⟩
      · split
        · exact ⟨_, rfl⟩
        · unfold state_form_money.f state_form_alone.f
          simp only [Option.bind_some]
          split
          · split
            · exact ⟨_, rfl⟩
            · exact ⟨_, rfl⟩
          · exact ⟨_, rfl⟩
theorem check_total (t n : Int) (l : List Int) (hl : l.length ≤ 1000000000) : ∃ e, state_Check.f t n l = some e ∧ (e = 0 ∨ e = 5 ∨ e = 8) := by
  unfold state_Check.f
  by_cases c : 1 ≤ t ∧ t ≤ 5
  · rw [if_pos c]
    obtain ⟨b, hb⟩ := formF_total t n l hl
    rw [hb]
    cases b
    · exact ⟨5, rfl, .inr (.inl rfl)⟩
    · exact ⟨0, rfl, .inl rfl⟩
  · rw [if_neg c]
    exact ⟨8, rfl, .inr (.inr rfl)⟩
/-- What a state in its form has: its type; no numbers besides, where there is one number; none besides, where there are numbers. -/
theorem check_ok {t n : Int} {l : List Int} (h : state_Check.f t n l = some 0) : (1 ≤ t ∧ t ≤ 5) ∧ ((t = 1 ∨ t = 5) → l = []) ∧ (¬ (t = 1 ∨ t = 5) → n = 0) := by
  unfold state_Check.f at h
  by_cases c : 1 ≤ t ∧ t ≤ 5
  · rw [if_pos c] at h
    obtain ⟨b, hb, h⟩ := Option.bind_eq_some_iff.1 h
    have hbt : b = true := by
      by_cases hb' : b = true
      · exact hb'
      · rw [if_neg hb'] at h
        have := Option.some.inj h
        omega
    subst hbt
    refine ⟨c, fun h1 => ?_, fun h1 => ?_⟩
    · unfold formF at hb
      rcases h1 with rfl | rfl
      · rw [if_pos rfl] at hb
        unfold state_form_alone.f at hb
        have := Option.some.inj hb
        rw [beq_iff_eq] at this
        exact List.eq_nil_of_length_eq_zero (by omega)
      · rw [if_neg (by omega), if_neg (by omega), if_neg (by omega), if_neg (by omega)] at hb
        unfold state_form_money.f state_form_alone.f at hb
        simp only [Option.bind_some] at hb
        split at hb
        · rename_i h0
          rw [beq_iff_eq] at h0
          exact List.eq_nil_of_length_eq_zero (by omega)
        · cases Option.some.inj hb
    · unfold formF at hb
      rw [if_neg (fun e => h1 (.inl e))] at hb
      split at hb
      · unfold state_form_set.f at hb
        split at hb
        · assumption
        · cases Option.some.inj hb
      · split at hb
        · unfold state_form_pairs.f at hb
          split at hb
          · assumption
          · cases Option.some.inj hb
        · split at hb
          · unfold state_form_list.f at hb
            have := Option.some.inj hb
            rwa [beq_iff_eq] at this
          · omega
  · rw [if_neg c] at h
    have := Option.some.inj h
    omega
/-! ### Encode -/
def encB (t n : Int) (l : List Int) : List Int := (t % 256) :: bytesBE 8 n ++ bytesBE 4 (l.length : Int) ++ l.flatMap (bytesBE 8)
theorem encode_f (t n : Int) (l : List Int) (hl : l.length ≤ 100000) (e : Int) (hc : state_Check.f t n l = some e) (k : Nat) (hk : 1000011 ≤ k) :
    state_Encode.f k t n l = some (if e = 0 then encB t n l else [], e) := by
  unfold state_Encode.f
  rw [hc, Option.bind_some]
  by_cases he : e = 0
  · rw [if_pos he, if_pos he]
    have h1 := put_f 8 (by omega) [t % 256] [n] (by simp) (by simp) k (by simp; omega)
    rw [show ((8 : Nat) : Int) = 8 from rfl] at h1
    rw [h1, Option.bind_some]
    have h2 := put_f 4 (by omega) ([t % 256] ++ [n].flatMap (bytesBE 8)) [(l.length : Int)] (by simp) (by simp [bytesBE_length]) k (by simp; omega)
    rw [show ((4 : Nat) : Int) = 4 from rfl] at h2
    rw [h2, Option.bind_some]
    have h3 := put_f 8 (by omega) ([t % 256] ++ [n].flatMap (bytesBE 8) ++ [(l.length : Int)].flatMap (bytesBE 4)) l (by omega) (by simp [bytesBE_length]) k (by omega)
    rw [show ((8 : Nat) : Int) = 8 from rfl] at h3
    rw [h3, Option.bind_some, he]
    simp [encB]
  · rw [if_neg he, if_neg he]
/-! ### Decode -/
def nums8 : Nat → List Int → List Int
  | 0, _ => []
  | m + 1, l => wrap64 (ofBE 0 (l.take 8)) :: nums8 m (l.drop 8)
theorem nums8_length : ∀ (m : Nat) (l : List Int), (nums8 m l).length = m
  | 0, _ => rfl
  | m + 1, l => by simp [nums8, nums8_length m]
def finS (t n : Int) (l : List Int) : Option (Int × Int × List Int × Int) := (state_Check.f t n l).bind fun e => if e = 0 then some (t, n, l, 0) else some (0, 0, [], 5)
def decS (l : List Int) : Option (Int × Int × List Int × Int) :=
  if l.length < 13 then some (0, 0, [], 5)
  else if (l.length : Int) = 13 + 8 * ofBE 0 ((l.take 13).drop 9) then finS (rd l 0) (wrap64 (ofBE 0 ((l.take 9).drop 1))) (nums8 ((l.length - 13) / 8) (l.drop 13))
  else some (0, 0, [], 5)
theorem byte_sub {l : List Int} (hb : ∀ x ∈ l, isByte x) (i j : Nat) : ∀ x ∈ (l.take i).drop j, isByte x := fun x hx => hb x (List.mem_of_mem_take (List.mem_of_mem_drop hx))
theorem decode_l0 (x : List Int) (hb : ∀ c ∈ x, isByte c) (hx : x.length ≤ 1000000) (t n : Int) : ∀ (m at_ : Nat) (acc : List Int) (g : Nat), at_ + 8 * m = x.length → acc.length + m ≤ 1000000 → 
    state_Decode.l0 (g + m + 10) x (at_ : Int) t n acc = finS t n (acc ++ nums8 m (x.drop at_))
  | 0, at_, acc, g, hm, ha => by
    rw [show g + 0 + 10 = (g + 9) + 1 by omega, state_Decode.l0, if_neg (by omega)]
    simp only [nums8, List.append_nil]
    rfl
  | m + 1, at_, acc, g, hm, ha => by
    have e1 : wrap64 ((at_ : Int) + 8) = ((at_ + 8 : Nat) : Int) := by unfold wrap64; omega
    rw [show g + (m + 1) + 10 = (g + m + 10) + 1 by omega, state_Decode.l0, if_pos (by omega), if_pos (by omega), e1, if_pos (by omega), if_pos (by omega), Int.toNat_natCast, Int.toNat_natCast,
      take_f _ (byte_sub hb _ _) (by rw [List.length_drop, List.length_take]; omega) _ (by omega), Option.bind_some, if_pos (by omega),
      decode_l0 x hb hx t n m (at_ + 8) _ g (by omega) (by rw [List.length_append]; simp; omega), List.append_assoc]
    have e2 : (x.take (at_ + 8)).drop at_ = (x.drop at_).take 8 := by rw [List.drop_take]; congr 1; omega
    rw [e2]
    simp only [nums8, List.drop_drop, List.singleton_append]
theorem decode_f (l : List Int) (hb : ∀ c ∈ l, isByte c) (hl : l.length ≤ 1000000) (k : Nat) (hk : 1000020 ≤ k) : state_Decode.f k l = decS l := by
  obtain ⟨g, rfl⟩ : ∃ g, k = g + 1 := ⟨k - 1, by omega⟩
  unfold state_Decode.f decS
  by_cases c : l.length < 13
  · rw [if_pos (by omega), if_pos c, state_Decode.j0, if_pos rfl]
  · have ht := take_f _ (byte_sub hb 13 9) (by rw [List.length_drop, List.length_take]; omega) (g + 1) (by omega)
    have hl4 : ((l.take 13).drop 9).length = 4 := by rw [List.length_drop, List.length_take]; omega
    obtain ⟨b1, b2⟩ := ofBE_bound _ (byte_sub hb 13 9)
    rw [hl4] at b2
    have b3 : (256 : Int) ^ 4 = 4294967296 := by decide
    rw [b3] at b2
    have e1 : wrap64 (ofBE 0 ((l.take 13).drop 9)) = ofBE 0 ((l.take 13).drop 9) := by unfold wrap64; omega
    have e2 : wrap64 (13 + wrap64 (8 * ofBE 0 ((l.take 13).drop 9))) = 13 + 8 * ofBE 0 ((l.take 13).drop 9) := by unfold wrap64; omega
    rw [if_neg (by omega), if_neg c, if_pos (by decide), if_pos (by omega), ht, Option.bind_some, e1, e2, state_Decode.j0]
    by_cases c2 : (l.length : Int) = 13 + 8 * ofBE 0 ((l.take 13).drop 9)
    · rw [if_neg (by rw [← c2]; simp), if_pos c2, if_pos (by omega), if_pos (by decide), if_pos (by omega), take_f _ (byte_sub hb 9 1) (by rw [List.length_drop, List.length_take]; omega) _ (by omega), Option.bind_some]
      have hr : wrap64 (rd l 0) = rd l 0 := by
        have h0 := rd_get l 0 (by omega)
        have h1 := hb l[0] (List.getElem_mem (by omega))
        unfold isByte at h1
        rw [show ((0 : Nat) : Int) = 0 from rfl] at h0
        rw [h0]
        unfold wrap64
        omega
      have h := decode_l0 l hb hl (rd l 0) (wrap64 (ofBE 0 ((l.take 9).drop 1))) ((l.length - 13) / 8) 13 [] (g - (l.length - 13) / 8 - 10) (by omega) (by simp; omega)
      rw [show g - (l.length - 13) / 8 - 10 + (l.length - 13) / 8 + 10 = g by omega, List.nil_append] at h
      rw [hr]
      exact h
    · rw [if_pos (by rw [bne_iff_ne]; exact c2), if_neg c2]
theorem nums8_flat : ∀ (l : List Int), (∀ x ∈ l, isI64 x) → nums8 l.length (l.flatMap (bytesBE 8)) = l
  | [], _ => rfl
  | n :: l, h => by
    have e1 : ((n :: l).flatMap (bytesBE 8)).take 8 = bytesBE 8 n := by rw [List.flatMap_cons, List.take_append_of_le_length (by rw [bytesBE_length]; exact Nat.le_refl _), List.take_of_length_le (by rw [bytesBE_length]; exact Nat.le_refl _)]
    have e2 : ((n :: l).flatMap (bytesBE 8)).drop 8 = l.flatMap (bytesBE 8) := by rw [List.flatMap_cons]; exact List.drop_left' (bytesBE_length 8 n)
    show wrap64 (ofBE 0 (((n :: l).flatMap (bytesBE 8)).take 8)) :: nums8 l.length (((n :: l).flatMap (bytesBE 8)).drop 8) = n :: l
    rw [e1, e2, wrap_bytes n (h n List.mem_cons_self), nums8_flat l (fun x hx => h x (List.mem_cons_of_mem _ hx))]
theorem flat8_length : ∀ (l : List Int), (l.flatMap (bytesBE 8)).length = 8 * l.length
  | [] => rfl
  | n :: l => by rw [List.flatMap_cons, List.length_append, bytesBE_length, flat8_length l]; simp; omega
theorem enc_byte (t n : Int) (l : List Int) : ∀ x ∈ encB t n l, isByte x := by
  intro x hx
  unfold encB at hx
  simp only [List.mem_append, List.mem_cons, List.mem_flatMap] at hx
  rcases hx with ((rfl | h) | h) | ⟨y, _, h⟩
  · unfold isByte; omega
  · exact bytesBE_byte _ _ x h
  · exact bytesBE_byte _ _ x h
  · exact bytesBE_byte _ _ x h
theorem enc_length (t n : Int) (l : List Int) : (encB t n l).length = 13 + 8 * l.length := by
  unfold encB
  rw [List.length_append, List.length_append, List.length_cons, bytesBE_length, bytesBE_length, flat8_length]
/-- What is encoded is decoded as it was. -/
theorem dec_enc (t n : Int) (l : List Int) (hl : l.length ≤ 100000) (hn : isI64 n) (hli : ∀ x ∈ l, isI64 x) (hc : state_Check.f t n l = some 0) : decS (encB t n l) = some (t, n, l, 0) := by
  have hlen := enc_length t n l
  have ht := (check_ok hc).1
  have e13 : ((encB t n l).take 13).drop 9 = bytesBE 4 (l.length : Int) := by
    unfold encB
    rw [List.take_append_of_le_length (by simp [bytesBE_length]), List.take_of_length_le (by simp [bytesBE_length])]
    exact List.drop_left' (by simp [bytesBE_length])
  have e9 : ((encB t n l).take 9).drop 1 = bytesBE 8 n := by
    unfold encB
    rw [List.append_assoc, List.take_append_of_le_length (by simp [bytesBE_length]), List.take_of_length_le (by simp [bytesBE_length])]
    rfl
  have ed : (encB t n l).drop 13 = l.flatMap (bytesBE 8) := by
    unfold encB
    exact List.drop_left' (by simp [bytesBE_length])
  have e0 : rd (encB t n l) 0 = t := by
    show t % 256 = t
    omega
  unfold decS
  rw [if_neg (by omega), e13, len_bytes l.length (by omega), if_pos (by omega), e0, e9, wrap_bytes n hn, ed, show ((encB t n l).length - 13) / 8 = l.length by omega, nums8_flat l hli]
  unfold finS
  rw [hc]
  rfl
theorem flat_nums8 : ∀ (m : Nat) (l : List Int), l.length = 8 * m → (∀ x ∈ l, isByte x) → (nums8 m l).flatMap (bytesBE 8) = l
  | 0, l, h, _ => (List.eq_nil_of_length_eq_zero (by omega)).symm ▸ rfl
  | m + 1, l, h, hb => by
    show (wrap64 (ofBE 0 (l.take 8)) :: nums8 m (l.drop 8)).flatMap (bytesBE 8) = l
    rw [List.flatMap_cons, bytes_wrap _ (by rw [List.length_take]; omega) (fun x hx => hb x (List.mem_of_mem_take hx)), flat_nums8 m (l.drop 8) (by rw [List.length_drop]; omega) (fun x hx => hb x (List.mem_of_mem_drop hx)), List.take_append_drop]
/-- What is decoded is encoded as it was. -/
theorem enc_dec (b : List Int) (hb : ∀ x ∈ b, isByte x) (hl : b.length ≤ 100000) (t n : Int) (l : List Int) (h : decS b = some (t, n, l, 0)) : state_Check.f t n l = some 0 ∧ encB t n l = b ∧ l.length ≤ 100000 := by
  unfold decS at h
  split at h
  · simp at h
  · rename_i c
    split at h
    · rename_i c2
      unfold finS at h
      obtain ⟨e, hc, h⟩ := Option.bind_eq_some_iff.1 h
      by_cases he : e = 0
      · rw [if_pos he] at h
        simp only [Option.some.injEq, Prod.mk.injEq, and_true] at h
        obtain ⟨rfl, rfl, rfl⟩ := h
        subst he
        refine ⟨hc, ?_, by rw [nums8_length]; omega⟩
        have h0 := rd_get b 0 (by omega)
        rw [show ((0 : Nat) : Int) = 0 from rfl] at h0
        have hb0 := hb b[0] (List.getElem_mem (by omega))
        unfold isByte at hb0
        unfold encB
        rw [nums8_length, h0, bytes_wrap _ (by rw [List.length_drop, List.length_take]; omega) (byte_sub hb 9 1), flat_nums8 _ (b.drop 13) (by rw [List.length_drop]; omega) (fun x hx => hb x (List.mem_of_mem_drop hx))]
        have e4 : bytesBE 4 (((b.length - 13) / 8 : Nat) : Int) = (b.take 13).drop 9 := by
          have h4 : ((b.take 13).drop 9).length = 4 := by rw [List.length_drop, List.length_take]; omega
          have hbb := bytes_ofBE ((b.take 13).drop 9) 0 (byte_sub hb 13 9)
          rw [h4] at hbb
          rw [show (((b.length - 13) / 8 : Nat) : Int) = ofBE 0 ((b.take 13).drop 9) by omega]
          exact hbb
        have e5 : b[0] % (256 : Int) = b[0] := by omega
        rw [e4, e5]
        have s1 : b[0] :: (b.take 9).drop 1 = b.take 9 := by
          have := List.drop_eq_getElem_cons (l := b.take 9) (i := 0) (by rw [List.length_take]; omega)
          rw [List.drop_zero] at this
          rw [this]
          simp
        have s2 : b.take 9 ++ (b.take 13).drop 9 = b.take 13 := by
          have := List.take_append_drop 9 (b.take 13)
          rw [List.take_take] at this
          exact this
        rw [show b[0] :: (b.take 9).drop 1 ++ (b.take 13).drop 9 = b.take 13 by rw [s1, s2], List.take_append_drop]
      · rw [if_neg he] at h
        simp at h
    · simp at h
theorem dec_total (b : List Int) (hl : b.length ≤ 1000000) : ∃ t n l e, decS b = some (t, n, l, e) ∧ (e = 0 ∨ e = 5) ∧ (e = 5 → t = 0 ∧ n = 0 ∧ l = []) ∧ l.length ≤ 1000000 := by
  unfold decS
  split
  · exact ⟨_, _, _, _, rfl, .inr rfl, fun _ => ⟨rfl, rfl, rfl⟩, by simp⟩
  · split
    · obtain ⟨e, hc, _⟩ := check_total (rd b 0) (wrap64 (ofBE 0 ((b.take 9).drop 1))) (nums8 ((b.length - 13) / 8) (b.drop 13)) (by rw [nums8_length]; omega)
      unfold finS
      rw [hc, Option.bind_some]
      split
      · exact ⟨_, _, _, _, rfl, .inl rfl, fun h => by omega, by rw [nums8_length]; omega⟩
      · exact ⟨_, _, _, _, rfl, .inr rfl, fun _ => ⟨rfl, rfl, rfl⟩, by simp⟩
    · exact ⟨_, _, _, _, rfl, .inr rfl, fun _ => ⟨rfl, rfl, rfl⟩, by simp⟩
/-! ### the same -/
theorem sameInts_l0 (a b : List Int) (hab : a.length = b.length) (hl : a.length ≤ 1000000000) : ∀ (m j : Nat) (g : Nat), j + m = a.length → armisticekit_SameInts.l0 (g + m + 1) a b (j : Int) = some (decide (a.drop j = b.drop j))
  | 0, j, g, hj => by
    rw [armisticekit_SameInts.l0, if_neg (by omega), List.drop_of_length_le (by omega), List.drop_of_length_le (by omega)]
    rfl
  | m + 1, j, g, hj => by
    have e1 : wrap64 ((j : Int) + 1) = ((j + 1 : Nat) : Int) := by unfold wrap64; omega
    have ha : j < a.length := by omega
    have hb : j < b.length := by omega
    rw [show g + (m + 1) + 1 = (g + m + 1) + 1 by omega, armisticekit_SameInts.l0, if_pos (by omega), if_pos (by omega), if_pos (by omega), rd_get a j ha, rd_get b j hb, List.drop_eq_getElem_cons ha, List.drop_eq_getElem_cons hb]
    by_cases c : a[j] = b[j]
    · rw [if_pos c, e1, sameInts_l0 a b hab hl m (j + 1) g (by omega)]
      exact congrArg some (decide_eq_decide.2 (by rw [List.cons.injEq]; exact ⟨fun h => ⟨c, h⟩, fun h => h.2⟩))
    · rw [if_neg c]
      exact congrArg some (decide_eq_false (fun e => c (List.cons.inj e).1)).symm
theorem sameInts_f (a b : List Int) (hl : a.length ≤ 1000000000) (k : Nat) (hk : a.length + 1 ≤ k) : armisticekit_SameInts.f k a b = some (decide (a = b)) := by
  unfold armisticekit_SameInts.f
  by_cases c : a.length = b.length
  · rw [if_pos (by omega)]
    have h := sameInts_l0 a b c hl a.length 0 (k - a.length - 1) (by omega)
    rw [show k - a.length - 1 + a.length + 1 = k by omega] at h
    exact h
  · rw [if_neg (by omega)]
    exact congrArg some (decide_eq_false (fun e => c (by rw [e]))).symm
theorem sameState_f (t n : Int) (l : List Int) (t' n' : Int) (l' : List Int) (hl : l.length ≤ 1000000000) (k : Nat) (hk : l.length + 1 ≤ k) : armisticekit_SameState.f k t n l t' n' l' = some (decide (t = t' ∧ n = n' ∧ l = l')) := by
  unfold armisticekit_SameState.f
  by_cases c1 : t = t'
  · rw [if_pos c1]
    by_cases c2 : n = n'
    · rw [if_pos c2, sameInts_f l l' hl k hk]
      simp [c1, c2]
    · rw [if_neg c2]
      simp [c2]
  · rw [if_neg c1]
    simp [c1]
theorem equal_l0 (a b : List Int) (hab : a.length = b.length) (hl : a.length ≤ 1000000000) : ∀ (m j : Nat) (g : Nat), j + m = a.length → slices_Equal_int_int.l0 (g + m + 1) a b (a.length : Int) (j : Int) = some (decide (a.drop j = b.drop j))
  | 0, j, g, hj => by
    rw [slices_Equal_int_int.l0, if_neg (by omega), List.drop_of_length_le (by omega), List.drop_of_length_le (by omega)]
    rfl
  | m + 1, j, g, hj => by
    have e1 : wrap64 ((j : Int) + 1) = ((j + 1 : Nat) : Int) := by unfold wrap64; omega
    have ha : j < a.length := by omega
    have hb : j < b.length := by omega
    rw [show g + (m + 1) + 1 = (g + m + 1) + 1 by omega, slices_Equal_int_int.l0, if_pos (by omega), if_pos (by omega), if_pos (by omega), if_pos (by omega), rd_get a j ha, rd_get b j hb, List.drop_eq_getElem_cons ha, List.drop_eq_getElem_cons hb]
    by_cases c : a[j] = b[j]
    · rw [if_pos c, e1, equal_l0 a b hab hl m (j + 1) g (by omega)]
      exact congrArg some (decide_eq_decide.2 (by rw [List.cons.injEq]; exact ⟨fun h => ⟨c, h⟩, fun h => h.2⟩))
    · rw [if_neg c]
      exact congrArg some (decide_eq_false (fun e => c (List.cons.inj e).1)).symm
theorem same_f (t n : Int) (l : List Int) (t' n' : Int) (l' : List Int) (hl : l.length ≤ 1000000000) (k : Nat) (hk : l.length + 1 ≤ k) : state_Same.f k t n l t' n' l' = some (decide (t = t' ∧ n = n' ∧ l = l')) := by
  unfold state_Same.f slices_Equal_int_int.f
  by_cases c1 : t = t'
  · rw [if_pos c1]
    by_cases c2 : n = n'
    · rw [if_pos c2]
      by_cases c : l.length = l'.length
      · rw [if_pos (by omega)]
        have h := equal_l0 l l' c hl l.length 0 (k - l.length - 1) (by omega)
        rw [show k - l.length - 1 + l.length + 1 = k by omega] at h
        rw [show ((0 : Nat) : Int) = 0 from rfl] at h
        rw [h]
        simp [c1, c2]
      · rw [if_neg (by omega)]
        have : l ≠ l' := fun e => c (by rw [e])
        simp [this]
    · rw [if_neg c2]
      simp [c2]
  · rw [if_neg c1]
    simp [c1]
end Go.Proofs.YtdimbcabkikcoaaDoor.P
