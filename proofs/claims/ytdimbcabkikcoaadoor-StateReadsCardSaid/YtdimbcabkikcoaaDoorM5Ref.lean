/- The document's Check, Decode and Read of states tell the same as the program's. -/
import Derived.Test.YtdimbcabkikcoaaDoorM5Txt
import Derived.Test.YtdimbcabkikcoaaDoorMRef
import Derived.Test.YtdimbcabkikcoaaDoorPx4
import Derived.Test.YtdimbcabkikcoaaDoorPx5
import Derived.Test.YtdimbcabkikcoaaDoorPx5
import Derived.Test.YtdimbcabkikcoaaDoorPx7
namespace Go.Proofs.YtdimbcabkikcoaaDoor.P
open Go.RowKit Go.Proofs.YtdimbcabkikcoaaDoorW.PrintWords Go.Proofs.YtdimbcabkikcoaaDoorW.PrintLast Go.Proofs.YtdimbcabkikcoaaDoorW.PrintMore
set_option linter.unusedVariables false
set_option linter.unusedSimpArgs false
theorem upk {α : Type} {f : Nat → Option α} (h : ∀ k, LeO (f k) (f (k + 1))) {r : α} {a : Nat} (ha : f a = some r) (k : Nat) (hk : a ≤ k) : f k = some r := by
  obtain ⟨d, rfl⟩ : ∃ d, k = a + d := ⟨k - a, by omega⟩
  clear hk
  induction d with
  | zero => exact ha
  | succ d ih => exact h _ r ih
/-! ### Check -/
theorem ref_rises (t n : Int) (l : List Int) : ∀ (k : Nat) (s x : Int), armisticeref05_rises.l0 k l s x = state_form_rises.l0 k s x t n l
  | 0, _, _ => rfl
  | k + 1, s, x => by
    rw [armisticeref05_rises.l0, state_form_rises.l0, ref_rises t n l k]
theorem ref_check (t n : Int) (l : List Int) (hl : l.length ≤ 1000000000) : ∃ e, state_Check.f t n l = some e ∧ ∀ k, l.length + 3 ≤ k → armisticeref05_Check.f k t n l = some e := by
  unfold state_Check.f
  by_cases c : 1 ≤ t ∧ t ≤ 5
  · rw [if_pos c]
    have hj : ∀ k, armisticeref05_Check.f k t n l = armisticeref05_Check.j0 k false t n l := fun k => by
      unfold armisticeref05_Check.f
      rw [if_neg (by omega), decide_eq_false (by omega)]
    have hz : ∀ k, l.length + 3 ≤ k → ∃ g, k = g + 1 ∧ l.length + 1 ≤ g := fun k hk => ⟨k - 1, by omega, by omega⟩
    unfold formF
    by_cases c1 : t = 1
    · rw [if_pos c1]
      unfold state_form_alone.f
      refine ⟨if (l.length : Int) = 0 then 0 else 5, by by_cases c0 : (l.length : Int) = 0 <;> simp [c0], fun k hk => ?_⟩
      obtain ⟨g, rfl, hg⟩ := hz k hk
      rw [hj, armisticeref05_Check.j0, if_neg (by decide), if_pos c1]
      by_cases c0 : (l.length : Int) = 0
      · rw [if_pos c0, if_pos c0]
      · rw [if_neg c0, if_neg c0]
    · rw [if_neg c1]
      by_cases c2 : t = 2
      · rw [if_pos c2]
        unfold state_form_set.f
        by_cases cn : n = 0
        · rw [if_pos cn]
          obtain ⟨b, hb⟩ := rises_f t n l hl 1 (by omega)
          rw [show ((1 : Nat) : Int) = 1 from rfl] at hb
          rw [hb _ (Nat.le_refl _)]
          refine ⟨if b = true then 0 else 5, rfl, fun k hk => ?_⟩
          obtain ⟨g, rfl, hg⟩ := hz k hk
          rw [hj, armisticeref05_Check.j0, if_neg (by decide), if_neg c1, if_pos c2, if_pos cn]
          unfold armisticeref05_rises.f
          rw [ref_rises t n l]
          have := hb g hg
          unfold state_form_rises.f at this
          rw [this, Option.bind_some]
          cases b <;> rfl
        · rw [if_neg cn]
          refine ⟨5, rfl, fun k hk => ?_⟩
          obtain ⟨g, rfl, hg⟩ := hz k hk
          rw [hj, armisticeref05_Check.j0, if_neg (by decide), if_neg c1, if_pos c2, if_neg cn]
      · rw [if_neg c2]
        by_cases c3 : t = 3
        · rw [if_pos c3]
          unfold state_form_pairs.f
          by_cases cn : n = 0
          · rw [if_pos cn]
            by_cases cm : ((l.length : Int) % 2) = 0
            · rw [if_pos cm]
              obtain ⟨b, hb⟩ := rises_f t n l hl 2 (by omega)
              rw [show ((2 : Nat) : Int) = 2 from rfl] at hb
              rw [hb _ (Nat.le_refl _)]
              refine ⟨if b = true then 0 else 5, rfl, fun k hk => ?_⟩
              obtain ⟨g, rfl, hg⟩ := hz k hk
              rw [hj, armisticeref05_Check.j0, if_neg (by decide), if_neg c1, if_neg c2, if_pos c3, if_pos cn, if_pos cm]
              unfold armisticeref05_rises.f
              rw [ref_rises t n l]
              have := hb g hg
              unfold state_form_rises.f at this
              rw [this, Option.bind_some]
              cases b <;> rfl
            · rw [if_neg cm]
              refine ⟨5, rfl, fun k hk => ?_⟩
              obtain ⟨g, rfl, hg⟩ := hz k hk
              rw [hj, armisticeref05_Check.j0, if_neg (by decide), if_neg c1, if_neg c2, if_pos c3, if_pos cn, if_neg cm]
          · rw [if_neg cn]
            refine ⟨5, rfl, fun k hk => ?_⟩
            obtain ⟨g, rfl, hg⟩ := hz k hk
            rw [hj, armisticeref05_Check.j0, if_neg (by decide), if_neg c1, if_neg c2, if_pos c3, if_neg cn]
        · rw [if_neg c3]
          by_cases c4 : t = 4
          · rw [if_pos c4]
            unfold state_form_list.f
            by_cases cn : n = 0
            · refine ⟨0, by simp [cn], fun k hk => ?_⟩
              obtain ⟨g, rfl, hg⟩ := hz k hk
              rw [hj, armisticeref05_Check.j0, if_neg (by decide), if_neg c1, if_neg c2, if_neg c3, if_pos c4, if_pos cn]
            · refine ⟨5, by simp [cn], fun k hk => ?_⟩
              obtain ⟨g, rfl, hg⟩ := hz k hk
              rw [hj, armisticeref05_Check.j0, if_neg (by decide), if_neg c1, if_neg c2, if_neg c3, if_pos c4, if_neg cn]
          · rw [if_neg c4]
            unfold state_form_money.f state_form_alone.f
            simp only [Option.bind_some]
            have hr : ∀ k, l.length + 3 ≤ k → armisticeref05_Check.f k t n l = (if (l.length : Int) = 0 then (if n ≥ 0 then (if n ≤ 4611686018427387904 then some 0 else some 5) else some 5) else some 5) := fun k hk => by
              obtain ⟨g, rfl, hg⟩ := hz k hk
              rw [hj, armisticeref05_Check.j0, if_neg (by decide), if_neg c1, if_neg c2, if_neg c3, if_neg c4]
            by_cases cl : (l.length : Int) = 0
            · rw [if_pos (by rw [beq_iff_eq]; exact cl)]
              by_cases cn : n ≥ 0
              · rw [if_pos cn]
                by_cases cm : n ≤ 4611686018427387904
                · exact ⟨0, by simp [cm], fun k hk => by rw [hr k hk, if_pos cl, if_pos cn, if_pos cm]⟩
                · exact ⟨5, by simp [cm], fun k hk => by rw [hr k hk, if_pos cl, if_pos cn, if_neg cm]⟩
              · rw [if_neg cn]
                exact ⟨5, by simp, fun k hk => by rw [hr k hk, if_pos cl, if_neg cn]⟩
            · rw [if_neg (by rw [beq_iff_eq]; exact cl)]
              exact ⟨5, by simp, fun k hk => by rw [hr k hk, if_neg cl]⟩
  · rw [if_neg c]
    refine ⟨8, rfl, fun k hk => ?_⟩
    unfold armisticeref05_Check.f
    obtain ⟨g, rfl⟩ : ∃ g, k = g + 1 := ⟨k - 1, by omega⟩
    by_cases c1 : t < 1
    · rw [if_pos c1, armisticeref05_Check.j0, if_pos rfl]
    · rw [if_neg c1, decide_eq_true (by omega), armisticeref05_Check.j0, if_pos rfl]
theorem ref_fin (t n : Int) (l : List Int) (hl : l.length ≤ 1000000000) (k : Nat) (hk : l.length + 3 ≤ k) : ((armisticeref05_Check.f k t n l).bind fun e => if e = 0 then some (t, n, l, (0 : Int)) else some (0, 0, [], 5)) = finS t n l := by
  obtain ⟨e, h1, h2⟩ := ref_check t n l hl
  unfold finS
  rw [h1, h2 k hk]
/-! ### Decode -/
theorem refget_l0 (l : List Int) (hb : ∀ x ∈ l, isByte x) (hl : l.length ≤ 1000000) (at_ c : Nat) (hc : c ≤ 8) (ha : at_ + c ≤ l.length) : ∀ (m j : Nat) (x : Int) (g : Nat), j + m = c → 0 ≤ x → x < 256 ^ j →
    armisticeref05_get.l0 (g + m + 1) l (at_ : Int) (c : Int) x (j : Int) = some (wrap64 (ofBE x ((l.drop (at_ + j)).take m)))
  | 0, j, x, g, hj, h0, hx => by
    rw [armisticeref05_get.l0, if_neg (by omega)]
    rfl
  | m + 1, j, x, g, hj, h0, hx => by
    have hjl : at_ + j < l.length := by omega
    have e1 : wrap64 ((at_ : Int) + (j : Int)) = ((at_ + j : Nat) : Int) := by unfold wrap64; omega
    have e2 : wrap64 ((j : Int) + 1) = ((j + 1 : Nat) : Int) := by unfold wrap64; omega
    have hby := hb l[at_ + j] (List.getElem_mem hjl)
    have hx7 : x < 72057594037927936 := by
      have h7 : (256 : Int) ^ j ≤ 256 ^ 7 := by
        have := Nat.pow_le_pow_right (n := 256) (by decide) (show j ≤ 7 by omega)
        have h := Int.ofNat_le.2 this
        simpa using h
      have : (256 : Int) ^ 7 = 72057594037927936 := by decide
      omega
    have hb2 := hby.1
    have hb3 := hby.2
    have e3 : IntKind.u64.wrap (IntKind.u64.wrap (x * 256) + IntKind.u64.wrap l[at_ + j]) = x * 256 + l[at_ + j] := by
      rw [u64_small (x := x * 256) (by omega) (by omega), u64_small (x := l[at_ + j]) (by omega) (by omega), u64_small (by omega) (by omega)]
    rw [show g + (m + 1) + 1 = (g + m + 1) + 1 by omega, armisticeref05_get.l0, if_pos (by omega), e1, if_pos (by omega), if_pos (by omega), rd_get l _ hjl, e3, e2]
    rw [refget_l0 l hb hl at_ c hc ha m (j + 1) (x * 256 + l[at_ + j]) g (by omega) (by omega) (by rw [Int.pow_succ]; omega), List.drop_eq_getElem_cons hjl]
    rfl
theorem refget_f (l : List Int) (hb : ∀ x ∈ l, isByte x) (hl : l.length ≤ 1000000) (at_ c : Nat) (hc : c ≤ 8) (ha : at_ + c ≤ l.length) (k : Nat) (hk : 9 ≤ k) :
    armisticeref05_get.f k l (at_ : Int) (c : Int) = some (wrap64 (ofBE 0 ((l.drop at_).take c))) := by
  unfold armisticeref05_get.f
  have h := refget_l0 l hb hl at_ c hc ha c 0 0 (k - c - 1) (by omega) (by decide) (by decide)
  rw [show k - c - 1 + c + 1 = k by omega, Nat.add_zero] at h
  exact h
theorem refdec_l0 (x : List Int) (hb : ∀ c ∈ x, isByte c) (hx : x.length ≤ 1000000) (t n : Int) (c : Nat) (hc : x.length = 13 + 8 * c) : ∀ (m j : Nat) (acc : List Int) (g : Nat), j + m = c → acc.length = j →
    armisticeref05_Decode.l0 (g + m + 1000010) x (c : Int) (j : Int) t n acc = finS t n (acc ++ nums8 m (x.drop (13 + 8 * j)))
  | 0, j, acc, g, hm, ha => by
    rw [show g + 0 + 1000010 = (g + 1000009) + 1 by omega, armisticeref05_Decode.l0, if_neg (by omega)]
    simp only [nums8, List.append_nil]
    exact ref_fin t n acc (by omega) _ (by omega)
  | m + 1, j, acc, g, hm, ha => by
    have e1 : wrap64 (13 + wrap64 (8 * (j : Int))) = ((13 + 8 * j : Nat) : Int) := by unfold wrap64; omega
    have e2 : wrap64 ((j : Int) + 1) = ((j + 1 : Nat) : Int) := by unfold wrap64; omega
    have h8 := refget_f x hb hx (13 + 8 * j) 8 (by omega) (by omega) (g + m + 1000010) (by omega)
    rw [show ((8 : Nat) : Int) = 8 from rfl] at h8
    rw [show g + (m + 1) + 1000010 = (g + m + 1000010) + 1 by omega, armisticeref05_Decode.l0, if_pos (by omega), e1, h8, Option.bind_some, if_pos (by omega), e2,
      refdec_l0 x hb hx t n c hc m (j + 1) _ g (by omega) (by rw [List.length_append, ha]; rfl), List.append_assoc]
    simp only [nums8, List.drop_drop, List.singleton_append]
    rw [show 13 + 8 * j + 8 = 13 + 8 * (j + 1) by omega]
theorem ref_decode (l : List Int) (hb : ∀ c ∈ l, isByte c) (hl : l.length ≤ 1000000) (k : Nat) (hk : 2000020 ≤ k) : armisticeref05_Decode.f k l = decS l := by
  unfold armisticeref05_Decode.f decS
  by_cases c : l.length < 13
  · rw [if_pos (by omega), if_pos c]
  · have h8 := refget_f l hb hl 1 8 (by omega) (by omega) k (by omega)
    have h4 := refget_f l hb hl 9 4 (by omega) (by omega) k (by omega)
    rw [show ((8 : Nat) : Int) = 8 from rfl, show ((1 : Nat) : Int) = 1 from rfl] at h8
    rw [show ((4 : Nat) : Int) = 4 from rfl, show ((9 : Nat) : Int) = 9 from rfl] at h4
    have d4 : (l.drop 9).take 4 = (l.take 13).drop 9 := by rw [List.drop_take]
    have d8 : (l.drop 1).take 8 = (l.take 9).drop 1 := by rw [List.drop_take]
    have hl4 : ((l.take 13).drop 9).length = 4 := by rw [List.length_drop, List.length_take]; omega
    obtain ⟨b1, b2⟩ := ofBE_bound _ (byte_sub hb 13 9)
    rw [hl4] at b2
    have b3 : (256 : Int) ^ 4 = 4294967296 := by decide
    rw [b3] at b2
    have e1 : wrap64 (ofBE 0 ((l.take 13).drop 9)) = ofBE 0 ((l.take 13).drop 9) := by unfold wrap64; omega
    have e2 : wrap64 (13 + wrap64 (8 * ofBE 0 ((l.take 13).drop 9))) = 13 + 8 * ofBE 0 ((l.take 13).drop 9) := by unfold wrap64; omega
    rw [if_neg (by omega), if_neg c, if_pos (by omega), h8, Option.bind_some, h4, Option.bind_some, d4, d8, e1, e2]
    by_cases c2 : (l.length : Int) = 13 + 8 * ofBE 0 ((l.take 13).drop 9)
    · rw [if_pos c2, if_pos c2]
      have hr : wrap64 (rd l 0) = rd l 0 := by
        have h0 := rd_get l 0 (by omega)
        have h1 := hb l[0] (List.getElem_mem (by omega))
        unfold isByte at h1
        rw [show ((0 : Nat) : Int) = 0 from rfl] at h0
        rw [h0]
        unfold wrap64
        omega
      obtain ⟨m, hm⟩ : ∃ m : Nat, ofBE 0 ((l.take 13).drop 9) = (m : Int) := ⟨(ofBE 0 ((l.take 13).drop 9)).toNat, by omega⟩
      rw [hm] at c2 ⊢
      have h := refdec_l0 l hb hl (rd l 0) (wrap64 (ofBE 0 ((l.take 9).drop 1))) m (by omega) m 0 [] (k - m - 1000010) (by omega) rfl
      rw [show k - m - 1000010 + m + 1000010 = k by omega, List.nil_append] at h
      rw [hr, show (l.length - 13) / 8 = m by omega]
      exact h
    · rw [if_neg c2, if_neg c2]
/-! ### Read -/
def notSp (c : UInt8) : Bool := c != 32
theorem sp_step : ∀ (r : List UInt8), sp r = r.takeWhile notSp :: (match r.dropWhile notSp with | [] => [] | _ :: r' => sp r')
  | [] => rfl
  | c :: r => by
    by_cases h : c = 32
    · subst h
      rfl
    · have hc : notSp c = true := bne_iff_ne.2 h
      rw [List.takeWhile_cons_of_pos hc, List.dropWhile_cons_of_pos hc]
      show (if c = 32 then [] :: sp r else (match sp r with | [] => [[c]] | x :: y => (c :: x) :: y)) = _
      rw [if_neg h, sp_step r]
theorem drop_sp : ∀ (r : List UInt8), r.dropWhile notSp = r.drop (r.takeWhile notSp).length
  | [] => rfl
  | c :: r => by
    by_cases h : notSp c = true
    · rw [List.takeWhile_cons_of_pos h, List.dropWhile_cons_of_pos h, drop_sp r]
      rfl
    · rw [List.takeWhile_cons_of_neg h, List.dropWhile_cons_of_neg h]
      rfl
theorem take_sp : ∀ (r : List UInt8), r.takeWhile notSp = r.take (r.takeWhile notSp).length
  | [] => rfl
  | c :: r => by
    by_cases h : notSp c = true
    · rw [List.takeWhile_cons_of_pos h]
      simp only [List.length_cons, List.take_succ_cons, List.cons.injEq, true_and]
      exact take_sp r
    · rw [List.takeWhile_cons_of_neg h]
      rfl
theorem part_l0 (s : ByteArray) (hs : s.size ≤ 1000000) : ∀ (m i : Nat) (g : Nat), i + m = s.size → armisticeref05_part.l0 (g + m + 1) s (i : Int) = some ((i + ((s.data.toList.drop i).takeWhile notSp).length : Nat) : Int)
  | 0, i, g, h => by
    rw [armisticeref05_part.l0, if_neg (by omega), List.drop_of_length_le (by rw [toList_len']; omega)]
    rfl
  | m + 1, i, g, h => by
    have hi : i < s.data.toList.length := by rw [toList_len']; omega
    have e2 : wrap64 ((i : Int) + 1) = ((i + 1 : Nat) : Int) := by unfold wrap64; omega
    rw [show g + (m + 1) + 1 = (g + m + 1) + 1 by omega, armisticeref05_part.l0, if_pos (by omega), if_pos (by omega), bt_data s i hi, List.drop_eq_getElem_cons hi, e2]
    by_cases c : s.data.toList[i] = 32
    · have hc : notSp s.data.toList[i] = false := by rw [c]; rfl
      rw [if_pos (by rw [c]; rfl), List.takeWhile_cons_of_neg (by rw [hc]; decide)]
      rfl
    · have hc : notSp s.data.toList[i] = true := bne_iff_ne.2 c
      have hn : ¬ ((s.data.toList[i].toNat : Int) = 32) := fun e => c (by
        apply UInt8.toNat.inj
        show s.data.toList[i].toNat = 32
        omega)
      rw [if_neg hn, part_l0 s hs m (i + 1) g (by omega), List.takeWhile_cons_of_pos hc]
      simp only [List.length_cons]
      congr 2
      omega
theorem part_f (s : ByteArray) (hs : s.size ≤ 1000000) (i : Nat) (hi : i ≤ s.size) (k : Nat) (hk : 1000001 ≤ k) : armisticeref05_part.f k s (i : Int) = some ((i + ((s.data.toList.drop i).takeWhile notSp).length : Nat) : Int) := by
  unfold armisticeref05_part.f
  have h := part_l0 s hs (s.size - i) i (k - (s.size - i) - 1) (by omega)
  rwa [show k - (s.size - i) - 1 + (s.size - i) + 1 = k by omega] at h
theorem ref_get01 (p : ByteArray) (k : Nat) (hk : 24 ≤ k) : armisticeref01_Get.f k p = number_Get.f p := by
  obtain ⟨r, h1, h2⟩ := refGet_eq p 22 rfl
  rw [h2]
  exact upk (armisticeref01_Get.mono p) h1 k hk
theorem ref_finR (t n : Int) (l : List Int) (hl : l.length ≤ 1000000000) (k : Nat) (hk : l.length + 3 ≤ k) : ((armisticeref05_Check.f k t n l).bind fun e => if e = 0 then some (t, n, l, (0 : Int), (0 : Int)) else some (0, 0, [], 5, 0)) = readFin t n l := by
  obtain ⟨e, h1, h2⟩ := ref_check t n l hl
  unfold readFin
  rw [h1, h2 k hk]
theorem ref_j2 (g : Nat) (acc : List Int) (t : Int) (hacc : acc.length ≤ 1000000) (hg : 1000010 ≤ g) : armisticeref05_Read.j2 (g + 1) acc (decide (t = 1 ∨ t = 5)) t 0 acc = readEnd t (.inr acc) := by
  rw [armisticeref05_Read.j2]
  unfold readEnd
  simp only
  by_cases c : t = 1 ∨ t = 5
  · rw [decide_eq_true c, if_pos rfl, if_pos c]
    match acc, hacc with
    | [], _ => rfl
    | [n], _ =>
      rw [if_pos (show (([n] : List Int).length : Int) = 1 from rfl), if_pos (show (0 : Int) < (([n] : List Int).length : Int) from Int.one_pos)]
      exact ref_finR t n [] (by simp) _ (by simp; omega)
    | a :: b :: r, _ =>
      rw [if_neg (by simp only [List.length_cons]; omega)]
  · rw [decide_eq_false c, if_neg (by decide), if_neg c]
    exact ref_finR t 0 acc (by omega) _ (by omega)
def partsAt : List UInt8 → List (List UInt8)
  | [] => []
  | _ :: r => sp r
theorem ext_data (s : ByteArray) (i j : Nat) (hij : i ≤ j) (hj : j ≤ s.size) : (s.extract i j).data.toList = (s.data.toList.drop i).take (j - i) := by
  rw [ByteArray.data_extract, Array.toList_extract]
theorem ref_l1 (s : ByteArray) (hs : s.size ≤ 1000000) (t : Int) : ∀ (m : Nat) (x : Nat) (acc : List Int) (ps : List ByteArray) (g : Nat), s.size - x ≤ m → x ≤ s.size → ps.map (·.data.toList) = partsAt (s.data.toList.drop x) → (∀ c r, s.data.toList.drop x = c :: r → c = 32) → acc.length ≤ x → 
    armisticeref05_Read.l1 (g + m + 2000020) s (x : Int) acc t 0 = (readGo ps ((x : Int) + 1) acc).bind (readEnd t)
  | m, x, acc, ps, g, hm, hx, hps, h32, hacc => by
    rw [show g + m + 2000020 = (g + m + 2000019) + 1 by omega, armisticeref05_Read.l1]
    by_cases c : x < s.size
    · have hxl : x < s.data.toList.length := c
      have hd := List.drop_eq_getElem_cons hxl
      have e1 : wrap64 ((x : Int) + 1) = ((x + 1 : Nat) : Int) := by unfold wrap64; omega
      obtain ⟨r, hr⟩ : ∃ r, r = s.data.toList.drop (x + 1) := ⟨_, rfl⟩
      rw [hd, ← hr] at hps
      have hps' : ps.map (·.data.toList) = sp r := hps
      rw [sp_step] at hps'
      cases ps with
      | nil => simp at hps'
      | cons p ps =>
        simp only [List.map_cons, List.cons.injEq] at hps'
        obtain ⟨hp1, hp2⟩ := hps'
        have hrl : r.length = s.size - (x + 1) := by rw [hr, List.length_drop, toList_len']
        have htw : (r.takeWhile notSp).length ≤ r.length := by
          have := congrArg List.length (take_sp r)
          rw [List.length_take] at this
          omega
        have hpz : p.size = (r.takeWhile notSp).length := by rw [← toList_len', hp1]
        have hpart := part_f s hs (x + 1) (by omega) (g + m + 2000019) (by omega)
        rw [← hr, ← hpz] at hpart
        have hext : s.extract (x + 1) (x + 1 + p.size) = p := by
          apply ba_ext
          rw [ext_data s _ _ (by omega) (by omega), ← hr, show x + 1 + p.size - (x + 1) = p.size by omega, hp1, hpz]
          exact (take_sp r).symm
        rw [if_pos (by omega), e1, hpart, Option.bind_some, if_pos (by omega), if_pos (by omega), if_pos (by omega), Int.toNat_natCast, Int.toNat_natCast, hext, ref_get01 p _ (by omega), readGo]
        obtain ⟨y, e, i, hg, hi0, hi⟩ := get_total p
        have hge := get_err hg
        rw [hg, Option.bind_some, Option.bind_some]
        by_cases ce : e = 0
        · obtain rfl := hge.1 ce
          subst ce
          rw [if_pos rfl, if_pos (by omega)]
          show _ = ((readGo ps ((x : Int) + 1 + ((p.size : Int) + 1)) (acc ++ [y])).bind (readEnd t))
          have hdr : s.data.toList.drop (x + 1 + p.size) = r.dropWhile notSp := by
            rw [drop_sp, hr, List.drop_drop, ← hr, ← hpz]
          have hlt : m ≠ 0 := by omega
          obtain ⟨m', rfl⟩ : ∃ m', m = m' + 1 := ⟨m - 1, by omega⟩
          have ih := ref_l1 s hs t m' (x + 1 + p.size) (acc ++ [y]) ps g (by omega) (by omega) (by
            rw [hp2, hdr]
            cases r.dropWhile notSp with
            | nil => rfl
            | cons a b => rfl) (by
            intro c' r' hc'
            rw [hdr] at hc'
            have : ∀ (l : List UInt8) c' r', l.dropWhile notSp = c' :: r' → c' = 32 := by
              intro l
              induction l with
              | nil => intro c' r' h; simp at h
              | cons a l ih =>
                intro c' r' h
                by_cases ha : notSp a = true
                · rw [List.dropWhile_cons_of_pos ha] at h
                  exact ih c' r' h
                · rw [List.dropWhile_cons_of_neg ha] at h
                  simp only [List.cons.injEq] at h
                  rw [← h.1]
                  have : notSp a = false := by simpa using ha
                  unfold notSp at this
                  simpa using this
            exact this r c' r' hc') (by rw [List.length_append]; simp; omega)
          rw [show g + (m' + 1) + 2000019 = g + m' + 2000020 by omega]
          rw [ih]
          congr 2
        · have e0 : (e == 0 && i == 0) = false := by simp [ce]
          rw [if_neg ce]
          simp only [e0]
          rw [if_neg (by decide), Option.bind_some]
          unfold readEnd
          have e3 : wrap64 (((x + 1 : Nat) : Int) + i) = (x : Int) + 1 + i := by unfold wrap64; omega
          rw [e3]
    · have hxe : s.data.toList.drop x = [] := List.drop_of_length_le (by rw [toList_len']; omega)
      rw [hxe] at hps
      have hpe : ps = [] := by simpa [partsAt] using hps
      subst hpe
      rw [if_neg (by omega), readGo, Option.bind_some]
      rw [show g + m + 2000019 = (g + m + 2000018) + 1 by omega]
      have hj := ref_j2 (g + m + 2000018) acc t (by omega) (by omega)
      by_cases c1 : t = 1
      · rw [if_pos c1]
        rw [decide_eq_true (.inl c1)] at hj
        exact hj
      · rw [if_neg c1]
        have : (t == 5) = decide (t = 1 ∨ t = 5) := by
          by_cases c5 : t = 5
          · subst c5
            rfl
          · simp [c1, c5]
        rw [this]
        exact hj
def words5 : List ByteArray := [⟨#[99, 111, 117, 110, 116, 101, 114]⟩, ⟨#[115, 101, 116]⟩, ⟨#[109, 97, 112]⟩, ⟨#[113, 117, 101, 117, 101]⟩, ⟨#[101, 115, 99, 114, 111, 119]⟩]
/-- Which word it is, gone through to the end. -/
def lastIdx (p : ByteArray) : List ByteArray → Int → Int → Int
  | [], _, t => t
  | y :: r, i, t => lastIdx p r (i + 1) (if y = p then i + 1 else t)
theorem ref_l0 (s : ByteArray) (x : Nat) (hx : x ≤ s.size) (p : ByteArray) (hp : s.extract 0 x = p) : ∀ (r : List ByteArray) (i : Nat) (t : Int) (g : Nat), words5.drop i = r → i ≤ 5 →
    armisticeref05_Read.l0 (g + r.length + 1) s (x : Int) words5 (i : Int) t 0 = if lastIdx p r i t = 0 then some (0, 0, [], 6, 0) else armisticeref05_Read.l1 g s (x : Int) [] (lastIdx p r i t) 0
  | [], i, t, g, h, hi => by
    have h5 : i = 5 := by
      have := congrArg List.length h
      simp [words5] at this
      omega
    subst h5
    rw [armisticeref05_Read.l0, if_neg (by decide)]
    rfl
  | y :: r, i, t, g, h, hi => by
    have hil : i < words5.length := by
      have := congrArg List.length h
      simp [words5] at this ⊢
      omega
    have hi5 : i < 5 := hil
    rw [List.drop_eq_getElem_cons hil] at h
    simp only [List.cons.injEq] at h
    obtain ⟨hy, hr⟩ := h
    have hrd : rdOf ByteArray.empty words5 (i : Int) = y := by
      unfold rdOf
      rw [Int.toNat_natCast, List.getD_eq_getElem?_getD, List.getElem?_eq_getElem hil]
      exact hy
    have e1 : wrap64 ((i : Int) + 1) = ((i + 1 : Nat) : Int) := by unfold wrap64; omega
    rw [List.length_cons, show g + (r.length + 1) + 1 = (g + r.length + 1) + 1 by omega, armisticeref05_Read.l0, if_pos (by omega), if_pos (by omega), if_pos (by have : words5.length = 5 := rfl; omega), if_pos (by omega), if_pos (by omega), hrd, Int.toNat_natCast, hp, e1]
    by_cases c : y = p
    · rw [if_pos (by rw [c]), ref_l0 s x hx p hp r (i + 1) _ g hr (by omega)]
      rw [show lastIdx p (y :: r) (i : Int) t = lastIdx p r ((i : Int) + 1) ((i : Int) + 1) by unfold lastIdx; rw [if_pos c]; cases r <;> rfl]
      rfl
    · rw [if_neg (fun e => c (by
        rw [ByteArray.toList_eq, ByteArray.toList_eq] at e
        exact ba_ext e)), ref_l0 s x hx p hp r (i + 1) _ g hr (by omega)]
      rw [show lastIdx p (y :: r) (i : Int) t = lastIdx p r ((i : Int) + 1) t by unfold lastIdx; rw [if_neg c]; cases r <;> rfl]
      rfl
theorem lastIdx_wIdx (p : ByteArray) : lastIdx p words5 0 0 = 1 + wIdx p := by
  by_cases h : wIdx p = -1
  · have hne : ∀ y ∈ kinds5, y.word ≠ p := by
      intro y hy e
      have hgen : ∀ (l : List KD) (k : Nat), y ∈ l → Lib.idxByFrom (fun _ y => decide (y.word = p)) default l k ≠ -1 := by
        intro l
        induction l with
        | nil => intro k h; simp at h
        | cons z l ih =>
          intro k hz
          unfold Lib.idxByFrom
          by_cases cz : z.word = p
          · rw [if_pos (decide_eq_true cz)]
            omega
          · rw [if_neg (by rw [decide_eq_true_iff]; exact cz)]
            rcases List.mem_cons.1 hz with rfl | hz
            · exact absurd e cz
            · exact ih (k + 1) hz
      exact hgen (kinds5.take 5) 0 hy h
    have h1 := hne ⟨⟨#[99, 111, 117, 110, 116, 101, 114]⟩, _⟩ (List.mem_cons_self)
    have h2 := hne ⟨⟨#[115, 101, 116]⟩, _⟩ (List.mem_cons_of_mem _ List.mem_cons_self)
    have h3 := hne ⟨⟨#[109, 97, 112]⟩, _⟩ (List.mem_cons_of_mem _ (List.mem_cons_of_mem _ List.mem_cons_self))
    have h4 := hne ⟨⟨#[113, 117, 101, 117, 101]⟩, _⟩ (List.mem_cons_of_mem _ (List.mem_cons_of_mem _ (List.mem_cons_of_mem _ List.mem_cons_self)))
    have h5 := hne ⟨⟨#[101, 115, 99, 114, 111, 119]⟩, _⟩ (List.mem_cons_of_mem _ (List.mem_cons_of_mem _ (List.mem_cons_of_mem _ (List.mem_cons_of_mem _ List.mem_cons_self))))
    rw [h]
    simp only [words5, lastIdx, if_neg h1, if_neg h2, if_neg h3, if_neg h4, if_neg h5]
    rfl
  · have hw := word_wIdx p h
    have hc := wIdx_cases p
    have h5 : wIdx p = 0 ∨ wIdx p = 1 ∨ wIdx p = 2 ∨ wIdx p = 3 ∨ wIdx p = 4 := by omega
    rcases h5 with h5 | h5 | h5 | h5 | h5 <;> (rw [h5] at hw ⊢; rw [hw]; rfl)
theorem ref_read (s : ByteArray) (hs : s.size ≤ 1000000) (k : Nat) (hk : 4000040 ≤ k) : armisticeref05_Read.f k s = state_Read.f s := by
  unfold armisticeref05_Read.f
  have hp0 := part_f s hs 0 (by omega) k (by omega)
  rw [show ((0 : Nat) : Int) = 0 from rfl, List.drop_zero, Nat.zero_add] at hp0
  rw [hp0, Option.bind_some, show armisticeref05_words.f = some words5 from rfl, Option.bind_some]
  unfold state_Read.f
  rw [if_pos hs]
  have hd := spl_data s
  rw [sp_step] at hd
  cases hsp : spl s with
  | nil => rw [hsp] at hd; simp at hd
  | cons p ps =>
    rw [hsp] at hd
    simp only [List.map_cons, List.cons.injEq] at hd
    obtain ⟨h1, h2⟩ := hd
    have hsz : p.size = (s.data.toList.takeWhile notSp).length := by rw [← toList_len', h1]
    have hple : p.size ≤ s.size := by
      have := congrArg List.length (take_sp s.data.toList)
      rw [List.length_take, toList_len'] at this
      omega
    have hext : s.extract 0 p.size = p := by
      apply ba_ext
      rw [ext_data s _ _ (by omega) hple, List.drop_zero, Nat.sub_zero, h1, hsz]
      exact (take_sp _).symm
    rw [← hsz]
    have h0 := ref_l0 s p.size hple p hext words5 0 0 (k - 6) rfl (by omega)
    rw [show k - 6 + words5.length + 1 = k by show k - 6 + 5 + 1 = k; omega] at h0
    rw [show ((0 : Nat) : Int) = 0 from rfl] at h0
    rw [h0, lastIdx_wIdx]
    simp only
    unfold readAll
    by_cases c : 1 + wIdx p = 0
    · rw [if_pos c, if_pos c]
    · rw [if_neg c, if_neg c]
      have hdr : s.data.toList.drop p.size = s.data.toList.dropWhile notSp := by rw [drop_sp, hsz]
      have h := ref_l1 s hs (1 + wIdx p) (s.size - p.size) p.size [] ps (k - 6 - (s.size - p.size) - 2000020) (Nat.le_refl _) hple (by
        rw [h2, hdr]
        cases s.data.toList.dropWhile notSp with
        | nil => rfl
        | cons a b => rfl) (by
        intro c' r' hc'
        rw [hdr] at hc'
        have : ∀ (l : List UInt8) c' r', l.dropWhile notSp = c' :: r' → c' = 32 := by
          intro l
          induction l with
          | nil => intro c' r' h; simp at h
          | cons a l ih =>
            intro c' r' h
            by_cases ha : notSp a = true
            · rw [List.dropWhile_cons_of_pos ha] at h
              exact ih c' r' h
            · rw [List.dropWhile_cons_of_neg ha] at h
              simp only [List.cons.injEq] at h
              rw [← h.1]
              have : notSp a = false := by simpa using ha
              unfold notSp at this
              simpa using this
        exact this _ c' r' hc') (by simp)
      rw [show k - 6 - (s.size - p.size) - 2000020 + (s.size - p.size) + 2000020 = k - 6 by omega] at h
      exact h
end Go.Proofs.YtdimbcabkikcoaaDoor.P
