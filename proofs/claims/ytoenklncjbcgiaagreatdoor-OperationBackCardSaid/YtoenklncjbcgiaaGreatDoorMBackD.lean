/- Plain laws of decimal texts: what is put is got, what is got is put. -/
import Derived.Test.YtoenklncjbcgiaaGreatDoorEPut
import Derived.Test.YtoenklncjbcgiaaGreatDoorMGet
namespace Go.Proofs.YtoenklncjbcgiaaGreatDoor.P
open Go.RowKit Go.Proofs.YtoenklncjbcgiaaGreatDoorW.PrintWords Go.Proofs.YtoenklncjbcgiaaGreatDoorW.PrintLast
set_option linter.unusedVariables false
set_option linter.unusedSimpArgs false

/-! ### digits, the last one first -/
theorem digs_step (f n : Nat) : digs (f + 1) n = (48 + (n : Int) % 10) :: (if n / 10 = 0 then [] else digs f (n / 10)) := rfl
theorem digs_fuel : ∀ (f g n : Nat), n < 10 ^ f → f ≤ g → 0 < f → digs g n = digs f n
  | 0, _, _, _, _, h => by omega
  | f + 1, 0, _, _, h, _ => by omega
  | f + 1, g + 1, n, hn, hg, _ => by
    rw [digs_step, digs_step]
    by_cases c : n / 10 = 0
    · rw [if_pos c, if_pos c]
    · rw [if_neg c, if_neg c]
      have h10 : n / 10 < 10 ^ f := by
        rw [Nat.pow_succ] at hn
        exact Nat.div_lt_of_lt_mul (by rw [Nat.mul_comm]; exact hn)
      cases f with
      | zero => simp at h10; omega
      | succ f => rw [digs_fuel (f + 1) g (n / 10) h10 (by omega) (by omega)]
end Go.Proofs.YtoenklncjbcgiaaGreatDoor.P
namespace Go.Proofs.YtoenklncjbcgiaaGreatDoor.P
open Go.RowKit Go.Proofs.YtoenklncjbcgiaaGreatDoorW.PrintWords Go.Proofs.YtoenklncjbcgiaaGreatDoorW.PrintLast
set_option linter.unusedVariables false
set_option linter.unusedSimpArgs false

/-- a row of digits without a nought ahead of others -/
def plain (l : List UInt8) : Prop := l ≠ [] ∧ (∀ c ∈ l, isDig c) ∧ (1 < l.length → l.head? ≠ some 48)
theorem val_snoc (l : List UInt8) (c : UInt8) : ∀ a, val (l ++ [c]) a = 10 * val l a + (c.toNat - 48) := by
  induction l with
  | nil => intro a; rfl
  | cons d l ih => intro a; exact ih _
theorem val_zero (l : List UInt8) (h : plain l) : val l 0 = 0 → l = [48] := by
  intro hv
  obtain ⟨hne, hd, hh⟩ := h
  cases l with
  | nil => exact absurd rfl hne
  | cons c r =>
    have hc := hd c List.mem_cons_self
    unfold isDig at hc
    have h1 : val r (10 * 0 + (c.toNat - 48)) = 0 := hv
    have h2 := val_ge r (10 * 0 + (c.toNat - 48))
    have h3 : c = 48 := UInt8.toNat_inj.1 (by rw [show (48 : UInt8).toNat = 48 from rfl]; omega)
    subst h3
    cases r with
    | nil => rfl
    | cons d r => exact absurd rfl (hh (by simp))
/-- The digits of a plain row's value are the row, turned round. -/
theorem digs_val : ∀ (n : Nat) (l : List UInt8), l.length = n → n ≤ 20 → plain l → ∀ f, n ≤ f → digs f (val l 0) = (l.reverse).map (fun c => (c.toNat : Int)) := by
  intro n
  induction n with
  | zero =>
    intro l hl _ hp
    exact absurd (List.eq_nil_of_length_eq_zero hl) hp.1
  | succ n ih =>
    intro l hl hn hp f hf
    obtain ⟨l', c, rfl⟩ : ∃ l' c, l = l' ++ [c] := ⟨l.dropLast, l.getLast hp.1, (List.dropLast_concat_getLast hp.1).symm⟩
    obtain ⟨f, rfl⟩ : ∃ f', f = f' + 1 := ⟨f - 1, by omega⟩
    have hlen : l'.length = n := by simpa using hl
    have hc := hp.2.1 c (by simp)
    unfold isDig at hc
    rw [val_snoc, digs_step, List.reverse_append, List.reverse_singleton, List.singleton_append, List.map_cons]
    generalize hV : val l' 0 = v
    have e1 : 48 + ((10 * v + (c.toNat - 48) : Nat) : Int) % 10 = (c.toNat : Int) := by omega
    have e2 : (10 * v + (c.toNat - 48)) / 10 = v := by omega
    rw [e1, e2]
    cases l' with
    | nil =>
      have : v = 0 := by rw [← hV]; rfl
      rw [if_pos this]
      rfl
    | cons d r =>
      have hp' : plain (d :: r) := by
        refine ⟨by simp, fun x hx => hp.2.1 x (List.mem_append_left _ hx), fun _ => ?_⟩
        have := hp.2.2 (by simp)
        simpa using this
      have hv0 : v ≠ 0 := by
        intro h0
        have h48 := val_zero _ hp' (by rw [hV]; exact h0)
        have hh := hp.2.2 (by simp)
        rw [h48] at hh
        simp at hh
      rw [if_neg hv0, ← hV, ih (d :: r) hlen (by omega) hp' f (by omega)]
/-- The digits make a plain row of that value. -/
theorem plain_digs : ∀ (f n : Nat), n < 10 ^ f → 0 < f → plain ((digs f n).reverse.map fun x => UInt8.ofNat x.toNat) ∧ val ((digs f n).reverse.map fun x => UInt8.ofNat x.toNat) 0 = n ∧
    (n ≠ 0 → ((digs f n).reverse.map fun x => UInt8.ofNat x.toNat).head? ≠ some 48) := by
  intro f
  induction f with
  | zero => intro n _ h; omega
  | succ f ih =>
    intro n hn _
    rw [digs_step]
    obtain ⟨c, hc⟩ : ∃ c : UInt8, c = UInt8.ofNat (48 + (n : Int) % 10).toNat := ⟨_, rfl⟩
    have hcn : c.toNat = 48 + n % 10 := by
      rw [hc, show (48 + (n : Int) % 10).toNat = 48 + n % 10 by omega, UInt8.toNat_ofNat']
      omega
    by_cases z : n / 10 = 0
    · rw [if_pos z]
      have e : (([48 + (n : Int) % 10] : List Int).reverse.map fun x => UInt8.ofNat x.toNat) = [c] := by rw [hc]; rfl
      rw [e]
      refine ⟨⟨by simp, fun d hd => ?_, fun h => by simp at h⟩, ?_, ?_⟩
      · simp only [List.mem_singleton] at hd
        subst hd
        unfold isDig
        omega
      · show 10 * 0 + (c.toNat - 48) = n
        omega
      · intro h0 h1
        simp only [List.head?_cons, Option.some.injEq] at h1
        rw [h1] at hcn
        have : (48 : UInt8).toNat = 48 := rfl
        omega
    · rw [if_neg z]
      have h10 : n / 10 < 10 ^ f := by
        rw [Nat.pow_succ] at hn
        exact Nat.div_lt_of_lt_mul (by rw [Nat.mul_comm]; exact hn)
      have hf0 : 0 < f := by
        cases f with
        | zero => simp at h10; omega
        | succ f => omega
      obtain ⟨h1, h2, h3⟩ := ih (n / 10) h10 hf0
      have e : (((48 + (n : Int) % 10) :: digs f (n / 10)).reverse.map fun x => UInt8.ofNat x.toNat) = ((digs f (n / 10)).reverse.map fun x => UInt8.ofNat x.toNat) ++ [c] := by
        rw [List.reverse_cons, List.map_append, hc]
        rfl
      rw [e]
      generalize (digs f (n / 10)).reverse.map (fun x => UInt8.ofNat x.toNat) = L at h1 h2 h3
      have hh : (L ++ [c]).head? = L.head? := by
        cases L with
        | nil => exact absurd rfl h1.1
        | cons d r => rfl
      refine ⟨⟨by simp, fun d hd => ?_, fun _ => by rw [hh]; exact h3 z⟩, ?_, fun _ => by rw [hh]; exact h3 z⟩
      · rcases List.mem_append.1 hd with hd | hd
        · exact h1.2.1 d hd
        · simp only [List.mem_singleton] at hd
          subst hd
          unfold isDig
          omega
      · rw [val_snoc, h2]
        omega
/-- A text's digits are plain, so no place is bad. -/
theorem good_of (s : ByteArray) (f : Nat) (hf : f ≤ 1) (hp : plain (s.data.toList.drop f)) (h1 : f = 1 → (s.data.toList.drop f).head? ≠ some 48) : ∀ k, f ≤ k → k < s.size → badAt s f k = false := by
  intro k hk hks
  have hl := data_len s
  have hkl : k < s.data.toList.length := by omega
  have hfl : f < s.data.toList.length := by omega
  have hdk : isDig s.data.toList[k] := by
    refine hp.2.1 _ ?_
    have : (s.data.toList.drop f)[k - f]'(by rw [List.length_drop]; omega) = s.data.toList[k] := by
      rw [List.getElem_drop]
      congr 1
      omega
    rw [← this]
    exact List.getElem_mem _
  have hdrop : s.data.toList.drop f = s.data.toList[f] :: s.data.toList.drop (f + 1) := List.drop_eq_getElem_cons hfl
  have h48 : s.data.toList[f] = 48 → ¬ 1 < (s.data.toList.drop f).length ∧ f ≠ 1 := by
    intro e
    have hh : (s.data.toList.drop f).head? = some 48 := by rw [hdrop, e]; rfl
    exact ⟨fun h => hp.2.2 h hh, fun h => h1 h hh⟩
  have hbk := bt_data s k hkl
  have hbf := bt_data s f hfl
  unfold isDig at hdk
  have hne : (bt s k = 48 ∧ k = f) ∨ bt s f = 48 → s.data.toList[f] = 48 := by
    intro h
    refine UInt8.toNat_inj.1 ?_
    rw [show (48 : UInt8).toNat = 48 from rfl]
    rcases h with ⟨h, rfl⟩ | h <;> omega
  cases hb : badAt s f k with
  | false => rfl
  | true =>
    have hx : (bt s k < 48 ∨ 57 < bt s k ∨ (f < k ∧ bt s f = 48) ∨ (k = f ∧ f = 1 ∧ bt s k = 48)) := by
      unfold badAt at hb
      simp only [Bool.or_eq_true, Bool.and_eq_true, decide_eq_true_eq, beq_iff_eq] at hb
      omega
    rcases hx with h | h | ⟨h, h'⟩ | ⟨h, h', h''⟩
    · omega
    · omega
    · have := (h48 (hne (.inr h'))).1
      rw [List.length_drop] at this
      omega
    · exact absurd h' (h48 (hne (.inl ⟨h'', h⟩))).2
/-- And the other way about. -/
theorem plain_of (s : ByteArray) (hne : s.size ≠ firstOf s) (h : ∀ k, firstOf s ≤ k → k < s.size → badAt s (firstOf s) k = false) :
    plain (s.data.toList.drop (firstOf s)) ∧ (firstOf s = 1 → (s.data.toList.drop (firstOf s)).head? ≠ some 48) := by
  have hl := data_len s
  have hf := firstOf_le s
  have hfl : firstOf s < s.data.toList.length := by omega
  have hdrop : s.data.toList.drop (firstOf s) = s.data.toList[firstOf s] :: s.data.toList.drop (firstOf s + 1) := List.drop_eq_getElem_cons hfl
  have hbf := bt_data s (firstOf s) hfl
  have h48 : (s.data.toList.drop (firstOf s)).head? = some 48 → bt s (firstOf s) = 48 := by
    intro e
    rw [hdrop] at e
    simp only [List.head?_cons, Option.some.injEq] at e
    rw [hbf, e]
    rfl
  refine ⟨⟨(split_first s hne).1, digits_of s h, fun h1 e => ?_⟩, fun h1 e => ?_⟩
  · have hb := h (firstOf s + 1) (by omega) (by rw [List.length_drop] at h1; omega)
    have := h48 e
    unfold badAt at hb
    simp only [Bool.or_eq_false_iff, Bool.and_eq_false_iff, decide_eq_false_iff_not, beq_eq_false_iff_ne] at hb
    omega
  · have hb := h (firstOf s) (Nat.le_refl _) (by omega)
    have := h48 e
    unfold badAt at hb
    simp only [Bool.or_eq_false_iff, Bool.and_eq_false_iff, decide_eq_false_iff_not, beq_eq_false_iff_ne] at hb
    omega
/-- The text's bytes. -/
theorem put_data (a : Int) : (strOfNums (putRev a).reverse).data.toList = (if a < 0 then [45] else []) ++ (digs 20 a.natAbs).reverse.map fun x => UInt8.ofNat x.toNat := by
  rw [strOfNums_data]
  by_cases c : a < 0
  · rw [putRev_neg a c, if_pos c, List.reverse_append, List.map_append]
    rfl
  · rw [putRev_nonneg a (by omega), if_neg c]
    rfl
theorem get_put (a : Int) (ha : isI64 a) : number_Get.f (strOfNums (putRev a).reverse) = some (a, 0, 0) := by
  obtain ⟨s, hs⟩ : ∃ s, s = strOfNums (putRev a).reverse := ⟨_, rfl⟩
  rw [← hs]
  have hdata := put_data a
  rw [← hs] at hdata
  have ha' := ha
  unfold isI64 at ha'
  have hm19 : a.natAbs < 10 ^ 19 := by
    rw [show (10 : Nat) ^ 19 = 10000000000000000000 from rfl]
    omega
  obtain ⟨h1, h2, h3⟩ := plain_digs 19 a.natAbs hm19 (by omega)
  rw [digs_fuel 19 20 a.natAbs hm19 (by omega) (by omega)] at hdata
  have hlen : ((digs 19 a.natAbs).reverse.map fun x => UInt8.ofNat x.toNat).length ≤ 19 := by
    rw [List.length_map, List.length_reverse]
    exact digs_length 19 _
  generalize (digs 19 a.natAbs).reverse.map (fun x => UInt8.ofNat x.toNat) = D at h1 h2 h3 hdata hlen
  have hl := data_len s
  obtain ⟨d, r, rfl⟩ : ∃ d r, D = d :: r := by
    cases D with
    | nil => exact absurd rfl h1.1
    | cons d r => exact ⟨d, r, rfl⟩
  by_cases c : a < 0
  · rw [if_pos c] at hdata
    have hf : firstOf s = 1 := by
      have hp : 0 < s.data.toList.length := by rw [hdata]; simp
      have hb := bt_data s 0 hp
      simp only [hdata, List.singleton_append, List.getElem_cons_zero] at hb
      unfold firstOf
      exact if_pos ⟨by omega, hb⟩
    have hdr : s.data.toList.drop (firstOf s) = d :: r := by rw [hf, hdata]; rfl
    have hsz : s.size = r.length + 2 := by rw [← hl, hdata]; simp
    have hg := get_good s (by simp at hlen; omega) (by omega) (by
      refine good_of s (firstOf s) (by omega) (by rw [hdr]; exact h1) (fun _ => ?_)
      rw [hdr]
      exact h3 (by omega))
    rw [hg, hdr, h2]
    have hn : isNeg s = true := by unfold isNeg; rw [hf]; rfl
    rw [hn]
    show some (if a.natAbs ≤ 9223372036854775808 then (-(a.natAbs : Int), 0, 0) else (0, 3, 0)) = _
    rw [if_pos (by omega), show -(a.natAbs : Int) = a by omega]
  · rw [if_neg c] at hdata
    have hf : firstOf s = 0 := by
      have hp : 0 < s.data.toList.length := by rw [hdata]; simp
      have hb := bt_data s 0 hp
      simp only [hdata, List.nil_append, List.getElem_cons_zero] at hb
      have hd := h1.2.1 d List.mem_cons_self
      unfold isDig at hd
      unfold firstOf
      refine if_neg (fun h => ?_)
      have h' : bt s ((0 : Nat) : Int) = 45 := h.2
      omega
    have hdr : s.data.toList.drop (firstOf s) = d :: r := by rw [hf, hdata]; rfl
    have hsz : s.size = r.length + 1 := by rw [← hl, hdata]; simp
    have hg := get_good s (by simp at hlen; omega) (by omega) (by
      refine good_of s (firstOf s) (by omega) (by rw [hdr]; exact h1) (fun h => ?_)
      omega)
    rw [hg, hdr, h2]
    have hn : isNeg s = false := by unfold isNeg; rw [hf]; rfl
    rw [hn]
    show some (if a.natAbs ≤ 9223372036854775807 then ((a.natAbs : Int), 0, 0) else (0, 3, 0)) = _
    rw [if_pos (by omega), show (a.natAbs : Int) = a by omega]
theorem ofNat_toNat_map (l : List UInt8) : ((l.map fun c => (c.toNat : Int)).map fun x => UInt8.ofNat x.toNat) = l := by
  rw [List.map_map]
  conv => rhs; rw [← List.map_id l]
  refine List.map_congr_left fun c _ => ?_
  simp
/-- What is got is put as it was. -/
theorem put_get (s : ByteArray) (h20 : ¬ 20 < s.size) (hne : s.size ≠ firstOf s) (h : ∀ k, firstOf s ≤ k → k < s.size → badAt s (firstOf s) k = false) (x e i : Int)
    (hx : told (isNeg s) (val (s.data.toList.drop (firstOf s)) 0) = (x, e, i)) (he : e = 0) : isI64 x ∧ strOfNums (putRev x).reverse = s := by
  subst he
  obtain ⟨hp, hp1⟩ := plain_of s hne h
  obtain ⟨_, h45⟩ := split_first s hne
  have hl := data_len s
  have hfl := firstOf_le s
  have hdig := digs_val _ _ rfl (by rw [List.length_drop]; omega) hp 20 (by rw [List.length_drop]; omega)
  by_cases c : firstOf s = 1
  · have hn : isNeg s = true := by unfold isNeg; rw [c]; rfl
    rw [hn] at hx
    have hx' : (if val (s.data.toList.drop (firstOf s)) 0 ≤ 9223372036854775808 then (-(val (s.data.toList.drop (firstOf s)) 0 : Int), 0, 0) else (0, 3, 0)) = (x, (0 : Int), i) := hx
    have hv0 : val (s.data.toList.drop (firstOf s)) 0 ≠ 0 := by
      intro h0
      have := val_zero _ hp h0
      exact hp1 c (by rw [this]; rfl)
    have h45' := h45 c
    rw [c] at hdig hx' hv0
    generalize val (s.data.toList.drop 1) 0 = v at hdig hx' hv0
    by_cases cv : v ≤ 9223372036854775808
    · rw [if_pos cv] at hx'
      simp only [Prod.mk.injEq] at hx'
      obtain ⟨rfl, _, _⟩ := hx'
      refine ⟨by unfold isI64; omega, ?_⟩
      apply ByteArray.ext
      apply Array.toList_inj.1
      rw [put_data, if_pos (by omega), show (-(v : Int)).natAbs = v by omega, hdig, ← List.map_reverse, List.reverse_reverse, ofNat_toNat_map]
      exact h45'.symm
    · rw [if_neg cv] at hx'
      simp at hx'
  · have c0 : firstOf s = 0 := by omega
    have hn : isNeg s = false := by unfold isNeg; rw [c0]; rfl
    rw [hn] at hx
    have hx' : (if val (s.data.toList.drop (firstOf s)) 0 ≤ 9223372036854775807 then ((val (s.data.toList.drop (firstOf s)) 0 : Int), 0, 0) else (0, 3, 0)) = (x, (0 : Int), i) := hx
    rw [c0, List.drop_zero] at hdig hx'
    generalize val s.data.toList 0 = v at hdig hx'
    by_cases cv : v ≤ 9223372036854775807
    · rw [if_pos cv] at hx'
      simp only [Prod.mk.injEq] at hx'
      obtain ⟨rfl, _, _⟩ := hx'
      refine ⟨by unfold isI64; omega, ?_⟩
      apply ByteArray.ext
      apply Array.toList_inj.1
      rw [put_data, if_neg (by omega), show ((v : Int)).natAbs = v by omega, hdig, ← List.map_reverse, List.reverse_reverse, ofNat_toNat_map]
      rfl
    · rw [if_neg cv] at hx'
      simp at hx'
end Go.Proofs.YtoenklncjbcgiaaGreatDoor.P
