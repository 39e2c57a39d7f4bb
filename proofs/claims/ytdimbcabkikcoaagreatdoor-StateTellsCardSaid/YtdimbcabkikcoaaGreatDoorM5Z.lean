/- Plain laws of states where nothing is decoded: bytes, Check, Encode, Text; the document's tell the same. -/
import Derived.Test.YtdimbcabkikcoaaGreatDoorPx2
import Derived.Laws.BitsLemmas
import Derived.Test.YtdimbcabkikcoaaGreatDoorEDig
import Derived.Test.YtdimbcabkikcoaaGreatDoorESCheck
import Derived.Test.YtdimbcabkikcoaaGreatDoorPx7
import Derived.Test.YtdimbcabkikcoaaGreatDoorPx3
import Derived.Test.YtdimbcabkikcoaaGreatDoorPx6
import Derived.Test.YtdimbcabkikcoaaGreatDoorMPutR
import Derived.Test.YtdimbcabkikcoaaGreatDoorESText
import Derived.Test.YtdimbcabkikcoaaGreatDoorESWord
import Derived.Test.YtdimbcabkikcoaaGreatDoorPx3
import Derived.Test.YtdimbcabkikcoaaGreatDoorPx4
import Derived.Test.YtdimbcabkikcoaaGreatDoorPx5
import Derived.Test.YtdimbcabkikcoaaGreatDoorPx6
import Derived.Test.YtdimbcabkikcoaaGreatDoorPx3
namespace Go.Proofs.YtdimbcabkikcoaaGreatDoor.P
open Go.RowKit Go.Proofs.YtdimbcabkikcoaaGreatDoorW.PrintWords Go.Proofs.YtdimbcabkikcoaaGreatDoorW.PrintLast Go.Proofs.YtdimbcabkikcoaaGreatDoorW.PrintMore
set_option linter.unusedVariables false
set_option linter.unusedSimpArgs false
def bytesBE : Nat → Int → List Int
  | 0, _ => []
  | b + 1, n => (n / 256 ^ b) % 256 :: bytesBE b n
def ofBE (a : Int) (l : List Int) : Int := l.foldl (fun a c => a * 256 + c) a
def isByte (x : Int) : Prop := 0 ≤ x ∧ x < 256
theorem bytesBE_length : ∀ (b : Nat) (n : Int), (bytesBE b n).length = b
  | 0, _ => rfl
  | b + 1, n => by simp [bytesBE, bytesBE_length b n]
theorem bytesBE_byte : ∀ (b : Nat) (n : Int), ∀ x ∈ bytesBE b n, isByte x
  | 0, _ => by intro x hx; simp [bytesBE] at hx
  | b + 1, n => by
    intro x hx
    rcases List.mem_cons.1 hx with rfl | hx
    · unfold isByte
      omega
    · exact bytesBE_byte b n x hx
theorem pow_pos256 (b : Nat) : (0 : Int) < 256 ^ b := Int.pow_pos (by decide)
theorem mod_step (n m : Int) (hm : 0 < m) : (n / m % 256) * m + n % m = n % (m * 256) := by
  have h1 := Int.emod_add_mul_ediv n m
  have h2 := Int.emod_add_mul_ediv (n / m) 256
  have h3 := Int.emod_nonneg n (Int.ne_of_gt hm)
  have h4 := Int.emod_lt_of_pos n hm
  have h5 : 0 ≤ n / m % 256 ∧ n / m % 256 < 256 := by omega
  have e : n = (n / m % 256) * m + n % m + (m * 256) * (n / m / 256) := by
    have : m * (n / m) = m * (n / m % 256) + m * (256 * (n / m / 256)) := by rw [← Int.mul_add, h2]
    have e1 : m * (256 * (n / m / 256)) = (m * 256) * (n / m / 256) := by rw [Int.mul_assoc]
    have e2 : m * (n / m % 256) = (n / m % 256) * m := Int.mul_comm _ _
    omega
  have hlo : 0 ≤ (n / m % 256) * m + n % m := Int.add_nonneg (Int.mul_nonneg h5.1 (Int.le_of_lt hm)) h3
  have hhi : (n / m % 256) * m + n % m < m * 256 := by
    have : (n / m % 256) * m ≤ 255 * m := Int.mul_le_mul_of_nonneg_right (by omega) (Int.le_of_lt hm)
    omega
  have : n % (m * 256) = ((n / m % 256) * m + n % m) % (m * 256) := by
    have h := congrArg (· % (m * 256)) e
    simp only [Int.add_mul_emod_self_left] at h
    exact h
  rw [this, Int.emod_eq_of_lt hlo hhi]
theorem ofBE_bytes : ∀ (b : Nat) (a n : Int), ofBE a (bytesBE b n) = a * 256 ^ b + n % 256 ^ b
  | 0, a, n => by simp [ofBE, bytesBE, Int.emod_one]
  | b + 1, a, n => by
    have ih := ofBE_bytes b (a * 256 + (n / 256 ^ b) % 256) n
    have hs := mod_step n (256 ^ b) (pow_pos256 b)
    show ofBE (a * 256 + (n / 256 ^ b) % 256) (bytesBE b n) = _
    rw [ih, Int.pow_succ, ← hs, Int.add_mul, Int.mul_assoc, Int.mul_comm 256 (256 ^ b)]
    omega
theorem ofBE_acc : ∀ (l : List Int) (a : Int), ofBE a l = a * 256 ^ l.length + ofBE 0 l
  | [], a => by simp [ofBE]
  | c :: l, a => by
    show ofBE (a * 256 + c) l = a * 256 ^ (l.length + 1) + ofBE (0 * 256 + c) l
    rw [ofBE_acc l (a * 256 + c), ofBE_acc l (0 * 256 + c), Int.pow_succ, Int.zero_mul, Int.zero_add, Int.add_mul, Int.mul_assoc, Int.mul_comm 256]
    omega
theorem ofBE_bound : ∀ (l : List Int), (∀ x ∈ l, isByte x) → 0 ≤ ofBE 0 l ∧ ofBE 0 l < 256 ^ l.length
  | [], _ => by simp [ofBE]
  | c :: l, h => by
    obtain ⟨h1, h2⟩ := ofBE_bound l (fun x hx => h x (List.mem_cons_of_mem _ hx))
    obtain ⟨h3, h4⟩ := h c List.mem_cons_self
    have e : ofBE 0 (c :: l) = c * 256 ^ l.length + ofBE 0 l := by
      show ofBE (0 * 256 + c) l = _
      rw [ofBE_acc l (0 * 256 + c), Int.zero_mul, Int.zero_add]
    have hp := pow_pos256 l.length
    have h5 : 0 ≤ c * 256 ^ l.length := Int.mul_nonneg h3 (Int.le_of_lt hp)
    have h6 : c * 256 ^ l.length ≤ 255 * 256 ^ l.length := Int.mul_le_mul_of_nonneg_right (by omega) (Int.le_of_lt hp)
    rw [e, List.length_cons, Int.pow_succ]
    omega
theorem bytes_ofBE : ∀ (l : List Int) (a : Int), (∀ x ∈ l, isByte x) → bytesBE l.length (ofBE a l) = l
  | [], _, _ => rfl
  | c :: l, a, h => by
    obtain ⟨h3, h4⟩ := h c List.mem_cons_self
    have hl := fun x hx => h x (List.mem_cons_of_mem c hx)
    obtain ⟨h1, h2⟩ := ofBE_bound l hl
    have ih := bytes_ofBE l (a * 256 + c) hl
    show ((ofBE (a * 256 + c) l) / 256 ^ l.length) % 256 :: bytesBE l.length (ofBE (a * 256 + c) l) = c :: l
    rw [ih]
    congr 1
    rw [ofBE_acc l (a * 256 + c), Int.add_comm, Int.add_mul_ediv_right _ _ (Int.ne_of_gt (pow_pos256 _)), Int.ediv_eq_zero_of_lt h1 h2]
    omega
theorem bytesBE_mod : ∀ (b : Nat) (n m : Int), n % 256 ^ b = m % 256 ^ b → bytesBE b n = bytesBE b m := by
  intro b n m h
  have h1 := bytes_ofBE (bytesBE b n) 0 (bytesBE_byte b n)
  have h2 := bytes_ofBE (bytesBE b m) 0 (bytesBE_byte b m)
  rw [bytesBE_length, ofBE_bytes] at h1 h2
  rw [← h1, ← h2, h]
theorem wrap_mod (x : Int) : (wrap64 x) % 256 ^ 8 = x % 256 ^ 8 := by
  unfold wrap64
  have : (256 : Int) ^ 8 = 18446744073709551616 := by decide
  rw [this]
  omega
theorem wrap_bytes (n : Int) (h : isI64 n) : wrap64 (ofBE 0 (bytesBE 8 n)) = n := by
  rw [ofBE_bytes]
  have : (256 : Int) ^ 8 = 18446744073709551616 := by decide
  rw [this]
  unfold isI64 at h
  unfold wrap64
  omega
theorem len_bytes (n : Nat) (h : n < 4294967296) : ofBE 0 (bytesBE 4 (n : Int)) = (n : Int) := by
  rw [ofBE_bytes]
  have : (256 : Int) ^ 4 = 4294967296 := by decide
  rw [this]
  omega
theorem bytes_wrap (l : List Int) (h8 : l.length = 8) (h : ∀ x ∈ l, isByte x) : bytesBE 8 (wrap64 (ofBE 0 l)) = l := by
  rw [bytesBE_mod 8 _ _ (wrap_mod _), ← h8]
  exact bytes_ofBE l 0 h
/-! ### put -/
theorem shr_byte (n : Int) (i : Nat) (h : i < 8) : (shr .i64 n (wrap64 (8 * (i : Int)))) % 256 = (n / 256 ^ i) % 256 := by
  have e : wrap64 (8 * (i : Int)) = ((8 * i : Nat) : Int) := by unfold wrap64; omega
  rw [e]
  unfold shr
  rw [Int.toNat_natCast, Nat.min_eq_left (by show 8 * i ≤ 64; omega), Int.pow_mul]
  rfl
theorem put_l1 (x1 n : Int) (x10 : List Int) (x11 x12 : Int) : ∀ (i : Nat) (acc : List Int) (g : Nat), i < 8 → acc.length + i < 140737488355328 →
    state_put.l1 (g + i + 2) acc x1 n (i : Int) x10 x11 x12 = state_put.l0 g (acc ++ bytesBE (i + 1) n) x1 x10 x11 (wrap64 (x12 + 1))
  | 0, acc, g, hi, hl => by
    unfold state_put.l1
    have e8 : 0 ≤ wrap64 (8 * ((0 : Nat) : Int)) := by unfold wrap64; omega
    rw [if_pos (by omega), if_pos e8, if_pos (by omega)]
    have e : wrap64 (((0 : Nat) : Int) - 1) = -1 := by unfold wrap64; omega
    rw [e, shr_byte n 0 hi]
    unfold state_put.l1
    rw [if_neg (by decide)]
    rfl
  | i + 1, acc, g, hi, hl => by
    have e : wrap64 (((i + 1 : Nat) : Int) - 1) = (i : Int) := by unfold wrap64; omega
    have e8 : 0 ≤ wrap64 (8 * ((i + 1 : Nat) : Int)) := by unfold wrap64; omega
    rw [show g + (i + 1) + 2 = (g + i + 2) + 1 by omega]
    rw [state_put.l1, if_pos (by omega), if_pos e8, if_pos (by omega), e, shr_byte n (i + 1) hi, put_l1 x1 n x10 x11 x12 i _ g (by omega) (by rw [List.length_append]; simp; omega), List.append_assoc]
    rfl
theorem put_l0 (b : Nat) (hb : 1 ≤ b ∧ b ≤ 8) (l : List Int) (hl : l.length ≤ 1000000000) : ∀ (m j : Nat) (acc : List Int) (g : Nat), j + m = l.length → acc.length + m * 8 ≤ 10000000000 →
    state_put.l0 (g + m * (b + 2) + 1) acc (b : Int) l (l.length : Int) (j : Int) = some (acc ++ (l.drop j).flatMap (bytesBE b))
  | 0, j, acc, g, hj, ha => by
    unfold state_put.l0
    rw [if_neg (by omega), List.drop_of_length_le (by omega)]
    simp
  | m + 1, j, acc, g, hj, ha => by
    obtain ⟨i, rfl⟩ : ∃ i, b = i + 1 := ⟨b - 1, by omega⟩
    have hjl : j < l.length := by omega
    have hr : rd l (j : Int) = l[j] := by
      unfold rd
      rw [Int.toNat_natCast, List.getD_eq_getElem?_getD, List.getElem?_eq_getElem hjl]
      rfl
    have e1 : wrap64 (((i + 1 : Nat) : Int) - 1) = (i : Int) := by unfold wrap64; omega
    have e2 : wrap64 ((j : Int) + 1) = ((j + 1 : Nat) : Int) := by unfold wrap64; omega
    rw [show g + (m + 1) * (i + 1 + 2) + 1 = ((g + m * (i + 1 + 2) + 1) + i + 2) + 1 by rw [Nat.add_mul]; omega]
    rw [state_put.l0, if_pos (by omega), if_pos (by omega), if_pos (by omega), e1, hr, put_l1 _ _ _ _ _ i acc _ (by omega) (by omega), e2,
      put_l0 (i + 1) hb l hl m (j + 1) _ g (by omega) (by rw [List.length_append, bytesBE_length]; omega), List.append_assoc, List.drop_eq_getElem_cons hjl, List.flatMap_cons]
theorem put_f (b : Nat) (hb : 1 ≤ b ∧ b ≤ 8) (acc l : List Int) (hl : l.length ≤ 1000000000) (ha : acc.length ≤ 1000000000) (k : Nat) (hk : l.length * (b + 2) + 1 ≤ k) :
    state_put.f k acc (b : Int) l = some (acc ++ l.flatMap (bytesBE b)) := by
  unfold state_put.f
  have h := put_l0 b hb l hl l.length 0 acc (k - (l.length * (b + 2) + 1)) (by omega) (by omega)
  rw [show k - (l.length * (b + 2) + 1) + l.length * (b + 2) + 1 = k by omega, List.drop_zero] at h
  exact h
theorem u64_small {x : Int} (h0 : 0 ≤ x) (h1 : x < 18446744073709551616) : IntKind.u64.wrap x = x := by
  rw [IntKind.wrap_u64]
  omega
theorem rd_get (l : List Int) (j : Nat) (h : j < l.length) : rd l (j : Int) = l[j] := by
  unfold rd
  rw [Int.toNat_natCast, List.getD_eq_getElem?_getD, List.getElem?_eq_getElem h]
  rfl
/-! ### Check -/
theorem rises_total (t n : Int) (l : List Int) (hl : l.length ≤ 1000000000) (s : Nat) (hs : 1 ≤ s ∧ s ≤ 2) : ∀ (m x : Nat), l.length ≤ x + m → s ≤ x → x ≤ l.length + 2 → ∃ b, ∀ g, state_form_rises.l0 (g + m + 1) (s : Int) (x : Int) t n l = some b
  | 0, x, hm, hx, hx2 => ⟨true, fun g => by rw [state_form_rises.l0, if_neg (by omega)]⟩
  | m + 1, x, hm, hx, hx2 => by
    by_cases c : x < l.length
    · have e1 : wrap64 ((x : Int) - (s : Int)) = ((x - s : Nat) : Int) := by unfold wrap64; omega
      have e2 : wrap64 ((x : Int) + (s : Int)) = ((x + s : Nat) : Int) := by unfold wrap64; omega
      by_cases c2 : rd l (x : Int) ≤ rd l ((x - s : Nat) : Int)
      · refine ⟨false, fun g => ?_⟩
        rw [state_form_rises.l0, if_pos (by omega), if_pos (by omega), e1, if_pos (by omega), if_pos (by omega), if_pos c2]
      · obtain ⟨b, hb⟩ := rises_total t n l hl s hs m (x + s) (by omega) (by omega) (by omega)
        refine ⟨b, fun g => ?_⟩
        rw [state_form_rises.l0, if_pos (by omega), if_pos (by omega), e1, if_pos (by omega), if_pos (by omega), if_neg c2, e2]
        exact hb g
    · refine ⟨true, fun g => ?_⟩
      rw [state_form_rises.l0, if_neg (by omega)]
theorem rises_f (t n : Int) (l : List Int) (hl : l.length ≤ 1000000000) (s : Nat) (hs : 1 ≤ s ∧ s ≤ 2) : ∃ b, ∀ k, l.length + 1 ≤ k → state_form_rises.f k t n l (s : Int) = some b := by
  obtain ⟨b, hb⟩ := rises_total t n l hl s hs l.length s (by omega) (Nat.le_refl _) (by omega)
  refine ⟨b, fun k hk => ?_⟩
  have := hb (k - (l.length + 1))
  rwa [show k - (l.length + 1) + l.length + 1 = k by omega] at this
theorem formF_total (t n : Int) (l : List Int) (hl : l.length ≤ 1000000000) : ∃ b, formF t n l = some b := by
  unfold formF
  split
  · exact ⟨_, rfl⟩
  · split
    · unfold state_form_set.f
      split
      · obtain ⟨b, hb⟩ := rises_f t n l hl 1 (by omega)
        exact ⟨b, by rw [show ((1 : Nat) : Int) = 1 from rfl] at hb; rw [hb _ (Nat.le_refl _)]; rfl⟩
      · exact ⟨_, rfl⟩
    · split
      · unfold state_form_pairs.f
        split
        · split
          · obtain ⟨b, hb⟩ := rises_f t n l hl 2 (by omega)
            exact ⟨b, by rw [show ((2 : Nat) : Int) = 2 from rfl] at hb; rw [hb _ (Nat.le_refl _)]; rfl⟩
          · exact ⟨_, rfl⟩
        · exact ⟨_, rfl⟩
      · split
        · exact ⟨_, rfl⟩
        · unfold state_form_money.f state_form_alone.f
          simp only [Option.bind_some]
          split
          · split
            · exact ⟨_, rfl⟩
            · exact ⟨_, rfl⟩
          · exact ⟨_, rfl⟩
theorem check_total (t n : Int) (l : List Int) (hl : l.length ≤ 1000000000) : ∃ e, state_Check.f t n l = some e ∧ (e = 0 ∨ e = 5 ∨ e = 8) := by
  unfold state_Check.f
  by_cases c : 1 ≤ t ∧ t ≤ 5
  · rw [if_pos c]
    obtain ⟨b, hb⟩ := formF_total t n l hl
    rw [hb]
    cases b
    · exact ⟨5, rfl, .inr (.inl rfl)⟩
    · exact ⟨0, rfl, .inl rfl⟩
  · rw [if_neg c]
    exact ⟨8, rfl, .inr (.inr rfl)⟩
/-- What a state in its form has: its type; no numbers besides, where there is one number; none besides, where there are numbers. -/
theorem check_ok {t n : Int} {l : List Int} (h : state_Check.f t n l = some 0) : (1 ≤ t ∧ t ≤ 5) ∧ ((t = 1 ∨ t = 5) → l = []) ∧ (¬ (t = 1 ∨ t = 5) → n = 0) := by
  unfold state_Check.f at h
  by_cases c : 1 ≤ t ∧ t ≤ 5
  · rw [if_pos c] at h
    obtain ⟨b, hb, h⟩ := Option.bind_eq_some_iff.1 h
    have hbt : b = true := by
      by_cases hb' : b = true
      · exact hb'
      · rw [if_neg hb'] at h
        have := Option.some.inj h
        omega
    subst hbt
    refine ⟨c, fun h1 => ?_, fun h1 => ?_⟩
    · unfold formF at hb
      rcases h1 with rfl | rfl
      · rw [if_pos rfl] at hb
        unfold state_form_alone.f at hb
        have := Option.some.inj hb
        rw [beq_iff_eq] at this
        exact List.eq_nil_of_length_eq_zero (by omega)
      · rw [if_neg (by omega), if_neg (by omega), if_neg (by omega), if_neg (by omega)] at hb
        unfold state_form_money.f state_form_alone.f at hb
        simp only [Option.bind_some] at hb
        split at hb
        · rename_i h0
          rw [beq_iff_eq] at h0
          exact List.eq_nil_of_length_eq_zero (by omega)
        · cases Option.some.inj hb
    · unfold formF at hb
      rw [if_neg (fun e => h1 (.inl e))] at hb
      split at hb
      · unfold state_form_set.f at hb
        split at hb
        · assumption
        · cases Option.some.inj hb
      · split at hb
        · unfold state_form_pairs.f at hb
          split at hb
          · assumption
          · cases Option.some.inj hb
        · split at hb
          · unfold state_form_list.f at hb
            have := Option.some.inj hb
            rwa [beq_iff_eq] at this
          · omega
  · rw [if_neg c] at h
    have := Option.some.inj h
    omega
/-! ### Encode -/
def encB (t n : Int) (l : List Int) : List Int := (t % 256) :: bytesBE 8 n ++ bytesBE 4 (l.length : Int) ++ l.flatMap (bytesBE 8)
theorem encode_f (t n : Int) (l : List Int) (hl : l.length ≤ 100000) (e : Int) (hc : state_Check.f t n l = some e) (k : Nat) (hk : 1000011 ≤ k) :
    state_Encode.f k t n l = some (if e = 0 then encB t n l else [], e) := by
  unfold state_Encode.f
  rw [hc, Option.bind_some]
  by_cases he : e = 0
  · rw [if_pos he, if_pos he]
    have h1 := put_f 8 (by omega) [t % 256] [n] (by simp) (by simp) k (by simp; omega)
    rw [show ((8 : Nat) : Int) = 8 from rfl] at h1
    rw [h1, Option.bind_some]
    have h2 := put_f 4 (by omega) ([t % 256] ++ [n].flatMap (bytesBE 8)) [(l.length : Int)] (by simp) (by simp [bytesBE_length]) k (by simp; omega)
    rw [show ((4 : Nat) : Int) = 4 from rfl] at h2
    rw [h2, Option.bind_some]
    have h3 := put_f 8 (by omega) ([t % 256] ++ [n].flatMap (bytesBE 8) ++ [(l.length : Int)].flatMap (bytesBE 4)) l (by omega) (by simp [bytesBE_length]) k (by omega)
    rw [show ((8 : Nat) : Int) = 8 from rfl] at h3
    rw [h3, Option.bind_some, he]
    simp [encB]
  · rw [if_neg he, if_neg he]
theorem flat8_length : ∀ (l : List Int), (l.flatMap (bytesBE 8)).length = 8 * l.length
  | [] => rfl
  | n :: l => by rw [List.flatMap_cons, List.length_append, bytesBE_length, flat8_length l]; simp; omega
theorem enc_length (t n : Int) (l : List Int) : (encB t n l).length = 13 + 8 * l.length := by
  unfold encB
  rw [List.length_append, List.length_append, List.length_cons, bytesBE_length, bytesBE_length, flat8_length]
/-! ### the same -/
theorem sameInts_l0 (a b : List Int) (hab : a.length = b.length) (hl : a.length ≤ 1000000000) : ∀ (m j : Nat) (g : Nat), j + m = a.length → armisticekit_SameInts.l0 (g + m + 1) a b (j : Int) = some (decide (a.drop j = b.drop j))
  | 0, j, g, hj => by
    rw [armisticekit_SameInts.l0, if_neg (by omega), List.drop_of_length_le (by omega), List.drop_of_length_le (by omega)]
    rfl
  | m + 1, j, g, hj => by
    have e1 : wrap64 ((j : Int) + 1) = ((j + 1 : Nat) : Int) := by unfold wrap64; omega
    have ha : j < a.length := by omega
    have hb : j < b.length := by omega
    rw [show g + (m + 1) + 1 = (g + m + 1) + 1 by omega, armisticekit_SameInts.l0, if_pos (by omega), if_pos (by omega), if_pos (by omega), rd_get a j ha, rd_get b j hb, List.drop_eq_getElem_cons ha, List.drop_eq_getElem_cons hb]
    by_cases c : a[j] = b[j]
    · rw [if_pos c, e1, sameInts_l0 a b hab hl m (j + 1) g (by omega)]
      exact congrArg some (decide_eq_decide.2 (by rw [List.cons.injEq]; exact ⟨fun h => ⟨c, h⟩, fun h => h.2⟩))
    · rw [if_neg c]
      exact congrArg some (decide_eq_false (fun e => c (List.cons.inj e).1)).symm
theorem sameInts_f (a b : List Int) (hl : a.length ≤ 1000000000) (k : Nat) (hk : a.length + 1 ≤ k) : armisticekit_SameInts.f k a b = some (decide (a = b)) := by
  unfold armisticekit_SameInts.f
  by_cases c : a.length = b.length
  · rw [if_pos (by omega)]
    have h := sameInts_l0 a b c hl a.length 0 (k - a.length - 1) (by omega)
    rw [show k - a.length - 1 + a.length + 1 = k by omega] at h
    exact h
  · rw [if_neg (by omega)]
    exact congrArg some (decide_eq_false (fun e => c (by rw [e]))).symm
theorem sameState_f (t n : Int) (l : List Int) (t' n' : Int) (l' : List Int) (hl : l.length ≤ 1000000000) (k : Nat) (hk : l.length + 1 ≤ k) : armisticekit_SameState.f k t n l t' n' l' = some (decide (t = t' ∧ n = n' ∧ l = l')) := by
  unfold armisticekit_SameState.f
  by_cases c1 : t = t'
  · rw [if_pos c1]
    by_cases c2 : n = n'
    · rw [if_pos c2, sameInts_f l l' hl k hk]
      simp [c1, c2]
    · rw [if_neg c2]
      simp [c2]
  · rw [if_neg c1]
    simp [c1]
theorem equal_l0 (a b : List Int) (hab : a.length = b.length) (hl : a.length ≤ 1000000000) : ∀ (m j : Nat) (g : Nat), j + m = a.length → slices_Equal_int_int.l0 (g + m + 1) a b (a.length : Int) (j : Int) = some (decide (a.drop j = b.drop j))
  | 0, j, g, hj => by
    rw [slices_Equal_int_int.l0, if_neg (by omega), List.drop_of_length_le (by omega), List.drop_of_length_le (by omega)]
    rfl
  | m + 1, j, g, hj => by
    have e1 : wrap64 ((j : Int) + 1) = ((j + 1 : Nat) : Int) := by unfold wrap64; omega
    have ha : j < a.length := by omega
    have hb : j < b.length := by omega
    rw [show g + (m + 1) + 1 = (g + m + 1) + 1 by omega, slices_Equal_int_int.l0, if_pos (by omega), if_pos (by omega), if_pos (by omega), if_pos (by omega), rd_get a j ha, rd_get b j hb, List.drop_eq_getElem_cons ha, List.drop_eq_getElem_cons hb]
    by_cases c : a[j] = b[j]
    · rw [if_pos c, e1, equal_l0 a b hab hl m (j + 1) g (by omega)]
      exact congrArg some (decide_eq_decide.2 (by rw [List.cons.injEq]; exact ⟨fun h => ⟨c, h⟩, fun h => h.2⟩))
    · rw [if_neg c]
      exact congrArg some (decide_eq_false (fun e => c (List.cons.inj e).1)).symm
theorem same_f (t n : Int) (l : List Int) (t' n' : Int) (l' : List Int) (hl : l.length ≤ 1000000000) (k : Nat) (hk : l.length + 1 ≤ k) : state_Same.f k t n l t' n' l' = some (decide (t = t' ∧ n = n' ∧ l = l')) := by
  unfold state_Same.f slices_Equal_int_int.f
  by_cases c1 : t = t'
  · rw [if_pos c1]
    by_cases c2 : n = n'
    · rw [if_pos c2]
      by_cases c : l.length = l'.length
      · rw [if_pos (by omega)]
        have h := equal_l0 l l' c hl l.length 0 (k - l.length - 1) (by omega)
        rw [show k - l.length - 1 + l.length + 1 = k by omega] at h
        rw [show ((0 : Nat) : Int) = 0 from rfl] at h
        rw [h]
        simp [c1, c2]
      · rw [if_neg (by omega)]
        have : l ≠ l' := fun e => c (by rw [e])
        simp [this]
    · rw [if_neg c2]
      simp [c2]
  · rw [if_neg c1]
    simp [c1]
theorem upk {α : Type} {f : Nat → Option α} (h : ∀ k, LeO (f k) (f (k + 1))) {r : α} {a : Nat} (ha : f a = some r) (k : Nat) (hk : a ≤ k) : f k = some r := by
  obtain ⟨d, rfl⟩ : ∃ d, k = a + d := ⟨k - a, by omega⟩
  clear hk
  induction d with
  | zero => exact ha
  | succ d ih => exact h _ r ih
/-! ### Check -/
theorem ref_rises (t n : Int) (l : List Int) : ∀ (k : Nat) (s x : Int), armisticeref05_rises.l0 k l s x = state_form_rises.l0 k s x t n l
  | 0, _, _ => rfl
  | k + 1, s, x => by
    rw [armisticeref05_rises.l0, state_form_rises.l0, ref_rises t n l k]
theorem ref_check (t n : Int) (l : List Int) (hl : l.length ≤ 1000000000) : ∃ e, state_Check.f t n l = some e ∧ ∀ k, l.length + 3 ≤ k → armisticeref05_Check.f k t n l = some e := by
  unfold state_Check.f
  by_cases c : 1 ≤ t ∧ t ≤ 5
  · rw [if_pos c]
    have hj : ∀ k, armisticeref05_Check.f k t n l = armisticeref05_Check.j0 k false t n l := fun k => by
      unfold armisticeref05_Check.f
      rw [if_neg (by omega), decide_eq_false (by omega)]
    have hz : ∀ k, l.length + 3 ≤ k → ∃ g, k = g + 1 ∧ l.length + 1 ≤ g := fun k hk => ⟨k - 1, by omega, by omega⟩
    unfold formF
    by_cases c1 : t = 1
    · rw [if_pos c1]
      unfold state_form_alone.f
      refine ⟨if (l.length : Int) = 0 then 0 else 5, by by_cases c0 : (l.length : Int) = 0 <;> simp [c0], fun k hk => ?_⟩
      obtain ⟨g, rfl, hg⟩ := hz k hk
      rw [hj, armisticeref05_Check.j0, if_neg (by decide), if_pos c1]
      by_cases c0 : (l.length : Int) = 0
      · rw [if_pos c0, if_pos c0]
      · rw [if_neg c0, if_neg c0]
    · rw [if_neg c1]
      by_cases c2 : t = 2
      · rw [if_pos c2]
        unfold state_form_set.f
        by_cases cn : n = 0
        · rw [if_pos cn]
          obtain ⟨b, hb⟩ := rises_f t n l hl 1 (by omega)
          rw [show ((1 : Nat) : Int) = 1 from rfl] at hb
          rw [hb _ (Nat.le_refl _)]
          refine ⟨if b = true then 0 else 5, rfl, fun k hk => ?_⟩
          obtain ⟨g, rfl, hg⟩ := hz k hk
          rw [hj, armisticeref05_Check.j0, if_neg (by decide), if_neg c1, if_pos c2, if_pos cn]
          unfold armisticeref05_rises.f
          rw [ref_rises t n l]
          have := hb g hg
          unfold state_form_rises.f at this
          rw [this, Option.bind_some]
          cases b <;> rfl
        · rw [if_neg cn]
          refine ⟨5, rfl, fun k hk => ?_⟩
          obtain ⟨g, rfl, hg⟩ := hz k hk
          rw [hj, armisticeref05_Check.j0, if_neg (by decide), if_neg c1, if_pos c2, if_neg cn]
      · rw [if_neg c2]
        by_cases c3 : t = 3
        · rw [if_pos c3]
          unfold state_form_pairs.f
          by_cases cn : n = 0
          · rw [if_pos cn]
            by_cases cm : ((l.length : Int) % 2) = 0
            · rw [if_pos cm]
              obtain ⟨b, hb⟩ := rises_f t n l hl 2 (by omega)
              rw [show ((2 : Nat) : Int) = 2 from rfl] at hb
              rw [hb _ (Nat.le_refl _)]
              refine ⟨if b = true then 0 else 5, rfl, fun k hk => ?_⟩
              obtain ⟨g, rfl, hg⟩ := hz k hk
              rw [hj, armisticeref05_Check.j0, if_neg (by decide), if_neg c1, if_neg c2, if_pos c3, if_pos cn, if_pos cm]
              unfold armisticeref05_rises.f
              rw [ref_rises t n l]
              have := hb g hg
              unfold state_form_rises.f at this
              rw [this, Option.bind_some]
              cases b <;> rfl
            · rw [if_neg cm]
              refine ⟨5, rfl, fun k hk => ?_⟩
              obtain ⟨g, rfl, hg⟩ := hz k hk
              rw [hj, armisticeref05_Check.j0, if_neg (by decide), if_neg c1, if_neg c2, if_pos c3, if_pos cn, if_neg cm]
          · rw [if_neg cn]
            refine ⟨5, rfl, fun k hk => ?_⟩
            obtain ⟨g, rfl, hg⟩ := hz k hk
            rw [hj, armisticeref05_Check.j0, if_neg (by decide), if_neg c1, if_neg c2, if_pos c3, if_neg cn]
        · rw [if_neg c3]
          by_cases c4 : t = 4
          · rw [if_pos c4]
            unfold state_form_list.f
            by_cases cn : n = 0
            · refine ⟨0, by simp [cn], fun k hk => ?_⟩
              obtain ⟨g, rfl, hg⟩ := hz k hk
              rw [hj, armisticeref05_Check.j0, if_neg (by decide), if_neg c1, if_neg c2, if_neg c3, if_pos c4, if_pos cn]
            · refine ⟨5, by simp [cn], fun k hk => ?_⟩
              obtain ⟨g, rfl, hg⟩ := hz k hk
              rw [hj, armisticeref05_Check.j0, if_neg (by decide), if_neg c1, if_neg c2, if_neg c3, if_pos c4, if_neg cn]
          · rw [if_neg c4]
            unfold state_form_money.f state_form_alone.f
            simp only [Option.bind_some]
            have hr : ∀ k, l.length + 3 ≤ k → armisticeref05_Check.f k t n l = (if (l.length : Int) = 0 then (if n ≥ 0 then (if n ≤ 4611686018427387904 then some 0 else some 5) else some 5) else some 5) := fun k hk => by
              obtain ⟨g, rfl, hg⟩ := hz k hk
              rw [hj, armisticeref05_Check.j0, if_neg (by decide), if_neg c1, if_neg c2, if_neg c3, if_neg c4]
            by_cases cl : (l.length : Int) = 0
            · rw [if_pos (by rw [beq_iff_eq]; exact cl)]
              by_cases cn : n ≥ 0
              · rw [if_pos cn]
                by_cases cm : n ≤ 4611686018427387904
                · exact ⟨0, by simp [cm], fun k hk => by rw [hr k hk, if_pos cl, if_pos cn, if_pos cm]⟩
                · exact ⟨5, by simp [cm], fun k hk => by rw [hr k hk, if_pos cl, if_pos cn, if_neg cm]⟩
              · rw [if_neg cn]
                exact ⟨5, by simp, fun k hk => by rw [hr k hk, if_pos cl, if_neg cn]⟩
            · rw [if_neg (by rw [beq_iff_eq]; exact cl)]
              exact ⟨5, by simp, fun k hk => by rw [hr k hk, if_neg cl]⟩
  · rw [if_neg c]
    refine ⟨8, rfl, fun k hk => ?_⟩
    unfold armisticeref05_Check.f
    obtain ⟨g, rfl⟩ : ∃ g, k = g + 1 := ⟨k - 1, by omega⟩
    by_cases c1 : t < 1
    · rw [if_pos c1, armisticeref05_Check.j0, if_pos rfl]
    · rw [if_neg c1, decide_eq_true (by omega), armisticeref05_Check.j0, if_pos rfl]
theorem ba_ext {a b : ByteArray} (h : a.data.toList = b.data.toList) : a = b := ByteArray.ext (Array.toList_inj.1 h)
theorem joined_size (t : Int) (L : List Int) (hL : L.length ≤ 1000) : (joinB (wordB t :: L.map putStr)).size ≤ 100000 := by
  have h := join_len ((wordB t :: L.map putStr).map (·.data.toList))
  have h2 := sum_le (wordB t :: L.map putStr) 21 (by
    intro y hy
    rcases List.mem_cons.1 hy with rfl | hy
    · exact Nat.le_trans (word_size t) (by decide)
    · obtain ⟨z, _, rfl⟩ := List.mem_map.1 hy
      exact putStr_size z)
  have h3 : (joinB (wordB t :: L.map putStr)).size = (Lib.join ((wordB t :: L.map putStr).map (·.data.toList)) [32]).length := by
    rw [← toList_len']
    rfl
  rw [h3]
  simp only [List.length_cons, List.length_map] at h2
  omega
theorem text_f (t n : Int) (l : List Int) (hl : l.length ≤ 1000) (hn : isI64 n) (hli : ∀ x ∈ l, isI64 x) (e : Int) (hc : state_Check.f t n l = some e) :
    state_Text.f t n l = some (if e = 0 then joinB (wordB t :: (numsOf t n l).map putStr) else ⟨#[]⟩, e) := by
  unfold state_Text.f
  have hok : okText n l = true := by
    unfold okText
    simp only [Bool.and_eq_true, decide_eq_true_eq, List.all_eq_true]
    exact ⟨⟨hn, hli⟩, by omega⟩
  rw [if_pos hok, hc, Option.bind_some]
  by_cases he : e = 0
  · rw [if_pos he, if_pos he, he]
  · rw [if_neg he, if_neg he]
/-! ### the document's bytes -/
theorem refp_l0 (n : Int) : ∀ (i : Nat) (acc : List Int) (g : Nat), i ≤ 8 → acc.length + i < 140737488355328 → armisticeref05_put.l0 (g + i + 1) acc n ((i : Int) - 1) = some (acc ++ bytesBE i n)
  | 0, acc, g, hi, hl => by
    rw [armisticeref05_put.l0, if_neg (by omega)]
    simp [bytesBE]
  | i + 1, acc, g, hi, hl => by
    have e : wrap64 (((i + 1 : Nat) : Int) - 1 - 1) = (i : Int) - 1 := by unfold wrap64; omega
    have e0 : (((i + 1 : Nat) : Int) - 1) = (i : Int) := by omega
    have e8 : wrap64 (8 * (i : Int)) = ((8 * i : Nat) : Int) := by unfold wrap64; omega
    have e9 : IntKind.u64.wrap (wrap64 (8 * (i : Int))) = wrap64 (8 * (i : Int)) := by rw [e8]; exact u64_small (by omega) (by omega)
    rw [show g + (i + 1) + 1 = (g + i + 1) + 1 by omega, armisticeref05_put.l0, e, e0, e9, if_pos (by omega), if_pos (by rw [e8]; omega), if_pos (by omega), shr_byte n i (by omega),
      refp_l0 n i _ g (by omega) (by rw [List.length_append]; simp; omega), List.append_assoc]
    rfl
theorem refp_f (b : Nat) (hb : 1 ≤ b ∧ b ≤ 8) (acc : List Int) (ha : acc.length ≤ 1000000000) (n : Int) (k : Nat) (hk : 9 ≤ k) : armisticeref05_put.f k acc n (b : Int) = some (acc ++ bytesBE b n) := by
  unfold armisticeref05_put.f
  have e : wrap64 ((b : Int) - 1) = (b : Int) - 1 := by unfold wrap64; omega
  have h := refp_l0 n b acc (k - b - 1) (by omega) (by omega)
  rw [show k - b - 1 + b + 1 = k by omega] at h
  rw [e, h]
theorem refenc_l0 (t n : Int) (l : List Int) (hl : l.length ≤ 100000) : ∀ (m j : Nat) (acc : List Int) (g : Nat), j + m = l.length → acc.length + m * 8 ≤ 1000000000 →
    armisticeref05_Encode.l0 (g + m + 10) acc (j : Int) t n l = some (acc ++ (l.drop j).flatMap (bytesBE 8), 0)
  | 0, j, acc, g, hj, ha => by
    rw [show g + 0 + 10 = (g + 9) + 1 by omega, armisticeref05_Encode.l0, if_neg (by omega), List.drop_of_length_le (by omega)]
    simp
  | m + 1, j, acc, g, hj, ha => by
    have hjl : j < l.length := by omega
    have e2 : wrap64 ((j : Int) + 1) = ((j + 1 : Nat) : Int) := by unfold wrap64; omega
    have h := refp_f 8 (by omega) acc (by omega) l[j] (g + m + 10) (by omega)
    rw [show ((8 : Nat) : Int) = 8 from rfl] at h
    rw [show g + (m + 1) + 10 = (g + m + 10) + 1 by omega, armisticeref05_Encode.l0, if_pos (by omega), if_pos (by omega), rd_get l j hjl, h, Option.bind_some, e2,
      refenc_l0 t n l hl m (j + 1) _ g (by omega) (by rw [List.length_append, bytesBE_length]; omega), List.append_assoc, List.drop_eq_getElem_cons hjl, List.flatMap_cons]
theorem refenc_f (t n : Int) (l : List Int) (hl : l.length ≤ 100000) (e : Int) (hc : state_Check.f t n l = some e) (k : Nat) (hk : 1000011 ≤ k) :
    armisticeref05_Encode.f k t n l = some (if e = 0 then encB t n l else [], e) := by
  obtain ⟨e', h1, h2⟩ := ref_check t n l (by omega)
  obtain rfl : e' = e := by rw [hc] at h1; exact (Option.some.inj h1).symm
  unfold armisticeref05_Encode.f
  rw [h2 k (by omega), Option.bind_some]
  by_cases he : e' = 0
  · have h8 := refp_f 8 (by omega) [t % 256] (by simp) n k (by omega)
    have h4 := refp_f 4 (by omega) ([t % 256] ++ bytesBE 8 n) (by simp [bytesBE_length]) (l.length : Int) k (by omega)
    rw [show ((8 : Nat) : Int) = 8 from rfl] at h8
    rw [show ((4 : Nat) : Int) = 4 from rfl] at h4
    have hE := refenc_l0 t n l hl l.length 0 ([t % 256] ++ bytesBE 8 n ++ bytesBE 4 (l.length : Int)) (k - l.length - 10) (by omega) (by simp [bytesBE_length]; omega)
    rw [show k - l.length - 10 + l.length + 10 = k by omega, show ((0 : Nat) : Int) = 0 from rfl] at hE
    rw [if_pos he, if_pos he, h8, Option.bind_some, h4, Option.bind_some, hE, he]
    simp [encB]
  · rw [if_neg he, if_neg he]
/-! ### the document's text -/
theorem refput5 (a : Int) (ha : isI64 a) (g : Nat) (hg : 21 ≤ g) : armisticeref01_Put.f g a = some (putStr a) := by
  obtain ⟨f, rfl⟩ : ∃ f, g = f + 1 := ⟨g - 1, by omega⟩
  exact putRev_strOf a ha f (by omega)
def onB (out : ByteArray) (a : Int) : ByteArray := (out ++ (⟨#[32]⟩ : ByteArray)) ++ putStr a
theorem onB_size (out : ByteArray) (a : Int) : (onB out a).size ≤ out.size + 22 := by
  have := putStr_size a
  unfold onB
  rw [ByteArray.size_append, ByteArray.size_append]
  have : (⟨#[32]⟩ : ByteArray).size = 1 := rfl
  omega
theorem on_tail : ∀ (L : List Int) (out : ByteArray), (L.foldl onB out).data.toList = out.data.toList ++ Lib.joinTail [32] ((L.map putStr).map (·.data.toList))
  | [], out => by simp [Lib.joinTail]
  | a :: L, out => by
    rw [List.foldl_cons, on_tail L]
    unfold onB
    simp [Lib.joinTail]
theorem on_join (w : ByteArray) (L : List Int) : L.foldl onB w = joinB (w :: L.map putStr) := by
  apply ba_ext
  rw [on_tail]
  unfold joinB
  rw [List.map_cons, Lib.join_cons]
theorem rt_l0 (t n : Int) (l : List Int) (hl : l.length ≤ 1000) (hli : ∀ x ∈ l, isI64 x) : ∀ (m j : Nat) (out : ByteArray) (g : Nat), j + m = l.length → out.size + m * 22 ≤ 1000000 →
    armisticeref05_Text.l0 (g + m + 22) out (j : Int) t n l = some ((l.drop j).foldl onB out, 0)
  | 0, j, out, g, hj, ha => by
    rw [show g + 0 + 22 = (g + 21) + 1 by omega, armisticeref05_Text.l0, if_neg (by omega), List.drop_of_length_le (by omega)]
    rfl
  | m + 1, j, out, g, hj, ha => by
    have hjl : j < l.length := by omega
    have e2 : wrap64 ((j : Int) + 1) = ((j + 1 : Nat) : Int) := by unfold wrap64; omega
    have hz := onB_size out l[j]
    have h1 : (out ++ (⟨#[32]⟩ : ByteArray)).size = out.size + 1 := by rw [ByteArray.size_append]; rfl
    have hp := putStr_size l[j]
    rw [show g + (m + 1) + 22 = (g + m + 22) + 1 by omega, armisticeref05_Text.l0, if_pos (by omega), if_pos (by omega), if_pos (by omega), rd_get l j hjl, refput5 _ (hli _ (List.getElem_mem hjl)) _ (by omega), Option.bind_some, if_pos (by omega), e2,
      show (out ++ (⟨#[32]⟩ : ByteArray)) ++ putStr l[j] = onB out l[j] from rfl, rt_l0 t n l hl hli m (j + 1) _ g (by omega) (by omega), List.drop_eq_getElem_cons hjl, List.foldl_cons]
theorem word_rd (t : Int) (h : 1 ≤ t ∧ t ≤ 5) : ∃ ws, armisticeref05_words.f = some ws ∧ ws.length = 5 ∧ rdOf ByteArray.empty ws (wrap64 (t - 1)) = wordB t := by
  have h5 : t = 1 ∨ t = 2 ∨ t = 3 ∨ t = 4 ∨ t = 5 := by omega
  refine ⟨_, rfl, rfl, ?_⟩
  rcases h5 with rfl | rfl | rfl | rfl | rfl <;> kernel_rfl
theorem check_zero {t n : Int} {l : List Int} (h : state_Check.f t n l = some 0) : 1 ≤ t ∧ t ≤ 5 := (check_ok h).1
theorem reftext_f (t n : Int) (l : List Int) (hl : l.length ≤ 1000) (hn : isI64 n) (hli : ∀ x ∈ l, isI64 x) (e : Int) (hc : state_Check.f t n l = some e) (k : Nat) (hk : 100000 ≤ k) :
    armisticeref05_Text.f k t n l = some (if e = 0 then joinB (wordB t :: (numsOf t n l).map putStr) else ⟨#[]⟩, e) := by
  obtain ⟨e', h1, h2⟩ := ref_check t n l (by omega)
  obtain rfl : e' = e := by rw [hc] at h1; exact (Option.some.inj h1).symm
  unfold armisticeref05_Text.f
  rw [h2 k (by omega), Option.bind_some]
  by_cases he : e' = 0
  · subst he
    have ht := check_zero hc
    obtain ⟨ws, hw1, hw2, hw3⟩ := word_rd t ht
    have e1 : wrap64 (t - 1) = t - 1 := by unfold wrap64; omega
    have hws := word_size t
    rw [if_pos rfl, if_pos rfl, hw1, Option.bind_some, hw3, e1, if_pos (by omega), if_pos (by omega)]
    obtain ⟨g, rfl⟩ : ∃ g, k = g + 1 := ⟨k - 1, by omega⟩
    have hs : ∀ b, (b = true ↔ (t = 1 ∨ t = 5)) → armisticeref05_Text.j0 (g + 1) (wordB t) b t n l = some (joinB (wordB t :: (numsOf t n l).map putStr), 0) := by
      intro b hb
      rw [armisticeref05_Text.j0]
      have hz1 : (wordB t ++ (⟨#[32]⟩ : ByteArray)).size = (wordB t).size + 1 := by rw [ByteArray.size_append]; rfl
      by_cases h5 : t = 1 ∨ t = 5
      · have hp := putStr_size n
        rw [if_pos (hb.2 h5), if_pos (by omega), refput5 n hn g (by omega), Option.bind_some, if_pos (by omega)]
        unfold numsOf
        rw [if_pos h5, ← on_join]
        rfl
      · have h := rt_l0 t n l hl hli l.length 0 (wordB t) (g - l.length - 22) (by omega) (by omega)
        rw [show g - l.length - 22 + l.length + 22 = g by omega, show ((0 : Nat) : Int) = 0 from rfl] at h
        rw [if_neg (fun e => h5 (hb.1 e)), h]
        unfold numsOf
        rw [if_neg h5, ← on_join]
        rfl
    by_cases c1 : t = 1
    · rw [if_pos c1]
      exact hs true ⟨fun _ => .inl c1, fun _ => rfl⟩
    · rw [if_neg c1]
      exact hs (t == 5) (by rw [beq_iff_eq]; exact ⟨.inr, fun h => h.resolve_left c1⟩)
  · rw [if_neg he, if_neg he]
theorem refword_f (t : Int) : armisticeref05_Word.f t = state_Word.f t := by
  unfold armisticeref05_Word.f state_Word.f
  by_cases c : 1 ≤ t ∧ t ≤ 5
  · obtain ⟨ws, hw1, hw2, hw3⟩ := word_rd t c
    have e1 : wrap64 (t - 1) = t - 1 := by unfold wrap64; omega
    rw [if_neg (by omega), if_neg (by omega), if_pos c, hw1, Option.bind_some, hw3, e1, if_pos (by omega), if_pos (by omega)]
  · rw [if_neg c]
    by_cases c1 : t < 1
    · rw [if_pos c1]
    · rw [if_neg c1, if_pos (by omega)]
theorem refempty_f (t : Int) : armisticeref05_Empty.f t = state_Empty.f t := by
  unfold armisticeref05_Empty.f state_Empty.f state_typed.f
  rw [Option.bind_some]
  by_cases c : 1 ≤ t ∧ t ≤ 5
  · rw [if_neg (by omega), if_neg (by omega), if_pos (by simp [c])]
  · have : ¬ ((decide (1 ≤ t) && decide (t ≤ 5)) = true) := by simpa using c
    rw [if_neg this]
    by_cases c1 : t < 1
    · rw [if_pos c1]
    · rw [if_neg c1, if_pos (by omega)]
theorem refsame_l0 (t n : Int) (a : List Int) (t' n' : Int) (b : List Int) (hab : a.length = b.length) (hl : a.length ≤ 1000000000) : ∀ (m j : Nat) (g : Nat), j + m = a.length → armisticeref05_Same.l0 (g + m + 1) (j : Int) t n a t' n' b = some (decide (a.drop j = b.drop j))
  | 0, j, g, hj => by
    rw [armisticeref05_Same.l0, if_neg (by omega), List.drop_of_length_le (by omega), List.drop_of_length_le (by omega)]
    rfl
  | m + 1, j, g, hj => by
    have e1 : wrap64 ((j : Int) + 1) = ((j + 1 : Nat) : Int) := by unfold wrap64; omega
    have ha : j < a.length := by omega
    have hb : j < b.length := by omega
    rw [show g + (m + 1) + 1 = (g + m + 1) + 1 by omega, armisticeref05_Same.l0, if_pos (by omega), if_pos (by omega), if_pos (by omega), rd_get a j ha, rd_get b j hb, List.drop_eq_getElem_cons ha, List.drop_eq_getElem_cons hb]
    by_cases c : a[j] = b[j]
    · rw [if_pos c, e1, refsame_l0 t n a t' n' b hab hl m (j + 1) g (by omega)]
      exact congrArg some (decide_eq_decide.2 (by rw [List.cons.injEq]; exact ⟨fun h => ⟨c, h⟩, fun h => h.2⟩))
    · rw [if_neg c]
      exact congrArg some (decide_eq_false (fun e => c (List.cons.inj e).1)).symm
theorem refsame_f (t n : Int) (l : List Int) (t' n' : Int) (l' : List Int) (hl : l.length ≤ 1000000000) (k : Nat) (hk : l.length + 2 ≤ k) : armisticeref05_Same.f k t n l t' n' l' = some (decide (t = t' ∧ n = n' ∧ l = l')) := by
  obtain ⟨g, rfl⟩ : ∃ g, k = g + 1 := ⟨k - 1, by omega⟩
  unfold armisticeref05_Same.f
  have hT : armisticeref05_Same.j0 (g + 1) true t n l t' n' l' = some false := by rw [armisticeref05_Same.j0, if_pos rfl]
  rw [hT]
  by_cases c1 : t = t'
  · rw [if_pos c1]
    by_cases c2 : n = n'
    · rw [if_pos c2]
      by_cases c : l.length = l'.length
      · have hb : ((l.length : Int) != (l'.length : Int)) = false := by rw [bne_eq_false_iff_eq]; omega
        have h := refsame_l0 t n l t' n' l' c hl l.length 0 (g - l.length - 1) (by omega)
        rw [show g - l.length - 1 + l.length + 1 = g by omega, show ((0 : Nat) : Int) = 0 from rfl] at h
        rw [hb, armisticeref05_Same.j0, if_neg (by decide), h]
        simp [c1, c2]
      · have hb : ((l.length : Int) != (l'.length : Int)) = true := bne_iff_ne.2 (by omega)
        have : l ≠ l' := fun e => c (by rw [e])
        rw [hb, hT]
        simp [this]
    · rw [if_neg c2]
      simp [c2]
  · rw [if_neg c1]
    simp [c1]
theorem copy_f (t n : Int) (l : List Int) (hl : l.length ≤ 1000000) : armisticekit_CopyState.f t n l = some (t, n, l) := by
  unfold armisticekit_CopyState.f armisticekit_CopyInts.f
  rw [Option.bind_some, if_pos (by simp; omega)]
  rfl
theorem over_bytes (l : List Int) (hl : l.length ≤ 1000000) (k : Nat) (hk : 1000001 ≤ k) : ∃ r, armisticekit_OverBytes.f k l = some r := by
  have hgo : ∀ (m j g : Nat) (x : List Int), x.length = l.length → j + m = l.length → ∃ r, armisticekit_OverBytes.l0 (g + m + 1) x (j : Int) = some r := by
    intro m
    induction m with
    | zero =>
      intro j g x hx hj
      rw [armisticekit_OverBytes.l0, if_neg (by omega)]
      exact ⟨_, rfl⟩
    | succ m ih =>
      intro j g x hx hj
      have e2 : wrap64 ((j : Int) + 1) = ((j + 1 : Nat) : Int) := by unfold wrap64; omega
      rw [show g + (m + 1) + 1 = (g + m + 1) + 1 by omega, armisticekit_OverBytes.l0, if_pos (by omega), if_pos (by omega), e2]
      exact ih (j + 1) g _ (by simp [hx]) (by omega)
  obtain ⟨r, hr⟩ := hgo l.length 0 (k - l.length - 1) l rfl (by omega)
  rw [show k - l.length - 1 + l.length + 1 = k by omega, show ((0 : Nat) : Int) = 0 from rfl] at hr
  exact ⟨r, hr⟩
end Go.Proofs.YtdimbcabkikcoaaGreatDoor.P
