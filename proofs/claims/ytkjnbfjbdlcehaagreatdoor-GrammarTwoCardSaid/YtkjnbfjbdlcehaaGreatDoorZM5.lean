/- Plain facts of states' texts: what is told is read as it was, what is read is told as it was. -/
import Derived.Laws.BitsLemmas
import Derived.Test.YtkjnbfjbdlcehaaGreatDoorEDig
import Derived.Test.YtkjnbfjbdlcehaaGreatDoorZESCheck
import Derived.Test.YtkjnbfjbdlcehaaGreatDoorZESText
import Derived.Test.YtkjnbfjbdlcehaaGreatDoorZESRead
import Derived.Test.YtkjnbfjbdlcehaaGreatDoorMBackD
namespace Go.Proofs.YtkjnbfjbdlcehaaGreatDoor.P.Z5
open Go.RowKit Go.Proofs.YtkjnbfjbdlcehaaGreatDoor.P Go.Proofs.YtkjnbfjbdlcehaaGreatDoorW.PrintWords Go.Proofs.YtkjnbfjbdlcehaaGreatDoorW.PrintLast Go.Proofs.YtkjnbfjbdlcehaaGreatDoorW.PrintMore
set_option linter.unusedVariables false
set_option linter.unusedSimpArgs false
/-! ### put -/
/-! ### take -/
/-! ### Check -/
theorem rises_total (t n : Int) (l : List Int) (hl : l.length ≤ 1000000000) (s : Nat) (hs : 1 ≤ s ∧ s ≤ 2) : ∀ (m x : Nat), l.length ≤ x + m → s ≤ x → x ≤ l.length + 2 → ∃ b, ∀ g, state_form_rises.l0 (g + m + 1) (s : Int) (x : Int) t n l = some b
  | 0, x, hm, hx, hx2 => ⟨true, fun g => by rw [state_form_rises.l0, if_neg (by omega)]⟩
  | m + 1, x, hm, hx, hx2 => by
    by_cases c : x < l.length
    · have e1 : wrap64 ((x : Int) - (s : Int)) = ((x - s : Nat) : Int) := by unfold wrap64; omega
      have e2 : wrap64 ((x : Int) + (s : Int)) = ((x + s : Nat) : Int) := by unfold wrap64; omega
      by_cases c2 : rd l (x : Int) ≤ rd l ((x - s : Nat) : Int)
      · refine ⟨false, fun g => ?_⟩
        rw [state_form_rises.l0, if_pos (by omega), if_pos (by omega), e1, if_pos (by omega), if_pos (by omega), if_pos c2]
      · obtain ⟨b, hb⟩ := rises_total t n l hl s hs m (x + s) (by omega) (by omega) (by omega)
        refine ⟨b, fun g => ?_⟩
        rw [state_form_rises.l0, if_pos (by omega), if_pos (by omega), e1, if_pos (by omega), if_pos (by omega), if_neg c2, e2]
        exact hb g
    · refine ⟨true, fun g => ?_⟩
      rw [state_form_rises.l0, if_neg (by omega)]
theorem rises_f (t n : Int) (l : List Int) (hl : l.length ≤ 1000000000) (s : Nat) (hs : 1 ≤ s ∧ s ≤ 2) : ∃ b, ∀ k, l.length + 1 ≤ k → state_form_rises.f k t n l (s : Int) = some b := by
  obtain ⟨b, hb⟩ := rises_total t n l hl s hs l.length s (by omega) (Nat.le_refl _) (by omega)
  refine ⟨b, fun k hk => ?_⟩
  have := hb (k - (l.length + 1))
  rwa [show k - (l.length + 1) + l.length + 1 = k by omega] at this
theorem formF_total (t n : Int) (l : List Int) (hl : l.length ≤ 1000000000) : ∃ b, formF t n l = some b := by
  unfold formF
  split
  · exact ⟨_, rfl⟩
  · split
    · unfold state_form_set.f
      split
      · obtain ⟨b, hb⟩ := rises_f t n l hl 1 (by omega)
        exact ⟨b, by rw [show ((1 : Nat) : Int) = 1 from rfl] at hb; rw [hb _ (Nat.le_refl _)]; rfl⟩
      · exact ⟨_, rfl⟩
    · split
      · unfold state_form_pairs.f
        split
        · split
          · obtain ⟨b, hb⟩ := rises_f t n l hl 2 (by omega)
            exact ⟨b, by rw [show ((2 : Nat) : Int) = 2 from rfl] at hb; rw [hb _ (Nat.le_refl _)]; rfl⟩
          · exact ⟨_, rfl⟩
        · exact ⟨_, rfl⟩
      · split
        · exact ⟨_, rfl⟩
        · unfold state_form_money.f state_form_alone.f
          simp only [Option.bind_some]
          split
          · split
            · exact ⟨_, rfl⟩
            · exact ⟨_, rfl⟩
          · exact ⟨_, rfl⟩
theorem check_total (t n : Int) (l : List Int) (hl : l.length ≤ 1000000000) : ∃ e, state_Check.f t n l = some e ∧ (e = 0 ∨ e = 5 ∨ e = 8) := by
  unfold state_Check.f
  by_cases c : 1 ≤ t ∧ t ≤ 5
  · rw [if_pos c]
    obtain ⟨b, hb⟩ := formF_total t n l hl
    rw [hb]
    cases b
    · exact ⟨5, rfl, .inr (.inl rfl)⟩
    · exact ⟨0, rfl, .inl rfl⟩
  · rw [if_neg c]
    exact ⟨8, rfl, .inr (.inr rfl)⟩
/-- What a state in its form has: its type; no numbers besides, where there is one number; none besides, where there are numbers. -/
theorem check_ok {t n : Int} {l : List Int} (h : state_Check.f t n l = some 0) : (1 ≤ t ∧ t ≤ 5) ∧ ((t = 1 ∨ t = 5) → l = []) ∧ (¬ (t = 1 ∨ t = 5) → n = 0) := by
  unfold state_Check.f at h
  by_cases c : 1 ≤ t ∧ t ≤ 5
  · rw [if_pos c] at h
    obtain ⟨b, hb, h⟩ := Option.bind_eq_some_iff.1 h
    have hbt : b = true := by
      by_cases hb' : b = true
      · exact hb'
      · rw [if_neg hb'] at h
        have := Option.some.inj h
        omega
    subst hbt
    refine ⟨c, fun h1 => ?_, fun h1 => ?_⟩
    · unfold formF at hb
      rcases h1 with rfl | rfl
      · rw [if_pos rfl] at hb
        unfold state_form_alone.f at hb
        have := Option.some.inj hb
        rw [beq_iff_eq] at this
        exact List.eq_nil_of_length_eq_zero (by omega)
      · rw [if_neg (by omega), if_neg (by omega), if_neg (by omega), if_neg (by omega)] at hb
        unfold state_form_money.f state_form_alone.f at hb
        simp only [Option.bind_some] at hb
        split at hb
        · rename_i h0
          rw [beq_iff_eq] at h0
          exact List.eq_nil_of_length_eq_zero (by omega)
        · cases Option.some.inj hb
    · unfold formF at hb
      rw [if_neg (fun e => h1 (.inl e))] at hb
      split at hb
      · unfold state_form_set.f at hb
        split at hb
        · assumption
        · cases Option.some.inj hb
      · split at hb
        · unfold state_form_pairs.f at hb
          split at hb
          · assumption
          · cases Option.some.inj hb
        · split at hb
          · unfold state_form_list.f at hb
            have := Option.some.inj hb
            rwa [beq_iff_eq] at this
          · omega
  · rw [if_neg c] at h
    have := Option.some.inj h
    omega
/-! ### Encode -/
/-! ### Decode -/
/-! ### the same -/

/-! ### parts between spaces -/
def sp : List UInt8 → List (List UInt8)
  | [] => [[]]
  | c :: l => if c = 32 then [] :: sp l else (match sp l with | [] => [[c]] | x :: r => (c :: x) :: r)
theorem sp_ne : ∀ l, sp l ≠ []
  | [] => by simp [sp]
  | c :: l => by
    unfold sp
    split
    · simp
    · split <;> simp
theorem splitK_sp : ∀ (l : List UInt8), Lib.splitK [32] 0 (l.count 32) l = sp l
  | [] => rfl
  | c :: l => by
    have ih := splitK_sp l
    unfold sp
    by_cases h : c = 32
    · subst h
      rw [if_pos rfl, ← ih, List.count_cons_self]
      have hi : Lib.index (32 :: l) [32] = 0 := by rw [Lib.index_one]; rfl
      rw [Lib.splitK, hi]
      rfl
    · rw [if_neg h, ← ih, List.count_cons_of_ne h]
      cases hk : l.count 32 with
      | zero => rfl
      | succ m =>
        have hi : Lib.index (c :: l) [32] = if Lib.index l [32] == -1 then -1 else Lib.index l [32] + 1 := by
          rw [Lib.index_one, Lib.index_one]
          have hc : (c == 32) = false := beq_eq_false_iff_ne.2 h
          rw [Lib.indexByte, hc]
          rfl
        by_cases c1 : Lib.index l [32] = -1
        · have e1 : Lib.index (c :: l) [32] = -1 := by rw [hi, c1]; rfl
          rw [Lib.splitK, Lib.splitK, c1, e1]
          rfl
        · have h0 : -1 ≤ Lib.index l [32] := by rw [Lib.index_one]; exact Lib.indexByte_ge l 32
          obtain ⟨i, hi'⟩ : ∃ i : Nat, Lib.index l [32] = (i : Int) := ⟨(Lib.index l [32]).toNat, by omega⟩
          have e1 : Lib.index (c :: l) [32] = ((i + 1 : Nat) : Int) := by
            rw [hi, hi']
            have : ((i : Int) == -1) = false := beq_eq_false_iff_ne.2 (by omega)
            rw [this]
            rfl
          have b1 : ((i : Int) == -1) = false := beq_eq_false_iff_ne.2 (by omega)
          have b2 : (((i + 1 : Nat) : Int) == -1) = false := beq_eq_false_iff_ne.2 (by omega)
          rw [Lib.splitK, Lib.splitK, hi', e1, b1, b2]
          simp
theorem spl_data (s : ByteArray) : (spl s).map (·.data.toList) = sp s.data.toList := by
  unfold spl
  rw [Lib.splitB_data, ← splitK_sp]
  congr 1
  show Lib.count s.data.toList [32] = _
  rw [Lib.count_one]
theorem join_sp : ∀ (l : List UInt8), Lib.join (sp l) [32] = l
  | [] => rfl
  | c :: l => by
    have ih := join_sp l
    unfold sp
    by_cases h : c = 32
    · rw [if_pos h]
      cases hs : sp l with
      | nil => exact absurd hs (sp_ne l)
      | cons x r =>
        rw [hs] at ih
        have e : Lib.join ([] :: x :: r) [32] = [] ++ [32] ++ Lib.join (x :: r) [32] := by simp [Lib.join, List.intercalate, List.intersperse]
        rw [e, ih, h]
        rfl
    · rw [if_neg h]
      cases hs : sp l with
      | nil => exact absurd hs (sp_ne l)
      | cons x r =>
        rw [hs] at ih
        simp only
        cases r with
        | nil =>
          simp [Lib.join, List.intercalate, List.intersperse] at ih ⊢
          exact ih
        | cons y r =>
          have e : ∀ z : List UInt8, Lib.join (z :: y :: r) [32] = z ++ [32] ++ Lib.join (y :: r) [32] := fun z => by simp [Lib.join, List.intercalate, List.intersperse]
          rw [e] at ih ⊢
          rw [← ih]
          simp
theorem sp_plain : ∀ (x : List UInt8), (∀ c ∈ x, c ≠ 32) → sp x = [x]
  | [], _ => rfl
  | c :: x, h => by
    unfold sp
    rw [if_neg (h c List.mem_cons_self), sp_plain x (fun d hd => h d (List.mem_cons_of_mem _ hd))]
theorem sp_append : ∀ (x l : List UInt8), (∀ c ∈ x, c ≠ 32) → sp (x ++ 32 :: l) = x :: sp l
  | [], l, _ => by simp [sp]
  | c :: x, l, h => by
    rw [List.cons_append]
    show (if c = 32 then [] :: sp (x ++ 32 :: l) else (match sp (x ++ 32 :: l) with | [] => [[c]] | y :: r => (c :: y) :: r)) = _
    rw [if_neg (h c List.mem_cons_self), sp_append x l (fun d hd => h d (List.mem_cons_of_mem _ hd))]
theorem sp_join : ∀ (xs : List (List UInt8)), xs ≠ [] → (∀ x ∈ xs, ∀ c ∈ x, c ≠ 32) → sp (Lib.join xs [32]) = xs
  | [], h, _ => absurd rfl h
  | [x], _, h => by
    rw [Lib.join_one]
    exact sp_plain x (h x List.mem_cons_self)
  | x :: y :: r, _, h => by
    have e : Lib.join (x :: y :: r) [32] = x ++ 32 :: Lib.join (y :: r) [32] := by simp [Lib.join, List.intercalate, List.intersperse]
    rw [e, sp_append x _ (h x List.mem_cons_self), sp_join (y :: r) (by simp) (fun z hz => h z (List.mem_cons_of_mem _ hz))]
theorem sp_len : ∀ (l : List UInt8), ((sp l).map (fun x => x.length + 1)).sum = l.length + 1
  | [] => rfl
  | c :: l => by
    have ih := sp_len l
    unfold sp
    split
    · simp [ih]; omega
    · cases hs : sp l with
      | nil => exact absurd hs (sp_ne l)
      | cons x r =>
        rw [hs] at ih
        simp at ih ⊢
        omega
theorem ba_ext {a b : ByteArray} (h : a.data.toList = b.data.toList) : a = b := ByteArray.ext (Array.toList_inj.1 h)
theorem map_data_inj : ∀ {a b : List ByteArray}, a.map (·.data.toList) = b.map (·.data.toList) → a = b
  | [], [], _ => rfl
  | [], _ :: _, h => by simp at h
  | _ :: _, [], h => by simp at h
  | x :: a, y :: b, h => by
    simp only [List.map_cons, List.cons.injEq] at h
    rw [ba_ext h.1, map_data_inj h.2]
theorem spl_join (ws : List ByteArray) (hne : ws ≠ []) (h : ∀ x ∈ ws, ∀ c ∈ x.data.toList, c ≠ 32) : spl (joinB5 ws) = ws := by
  apply map_data_inj
  rw [spl_data]
  show sp (Lib.join (ws.map (·.data.toList)) [32]) = _
  refine sp_join _ (by simpa using hne) (fun x hx => ?_)
  obtain ⟨y, hy, rfl⟩ := List.mem_map.1 hx
  exact h y hy
theorem join_spl (s : ByteArray) : joinB5 (spl s) = s := by
  apply ba_ext
  show Lib.join ((spl s).map (·.data.toList)) [32] = _
  rw [spl_data, join_sp]
/-! ### words -/
theorem wIdx_word (t : Int) (h : 1 ≤ t ∧ t ≤ 5) : wIdx (wordB t) = t - 1 := by
  have h5 : t = 1 ∨ t = 2 ∨ t = 3 ∨ t = 4 ∨ t = 5 := by omega
  rcases h5 with rfl | rfl | rfl | rfl | rfl <;> rfl
theorem word_wIdx (p : ByteArray) (h : wIdx p ≠ -1) : p = wordB (1 + wIdx p) := by
  have hall : ∀ k : KD, k ∈ kinds5 → ∀ i : Nat, kinds5[i]? = some k → k.word = wordB (1 + (i : Int)) := by
    intro k _ i hi
    match i, hi with
    | 0, hi => cases hi; rfl
    | 1, hi => cases hi; rfl
    | 2, hi => cases hi; rfl
    | 3, hi => cases hi; rfl
    | 4, hi => cases hi; rfl
    | i + 5, hi => simp [kinds5] at hi
  have hgen : ∀ (l : List KD) (k : Nat), (∃ i y, l[i]? = some y ∧ y.word = p ∧ Lib.idxByFrom (fun _ y => decide (y.word = p)) default l k = ((k + i : Nat) : Int)) ∨ Lib.idxByFrom (fun _ y => decide (y.word = p)) default l k = -1 := by
    intro l
    induction l with
    | nil => intro k; exact .inr rfl
    | cons y l ih =>
      intro k
      unfold Lib.idxByFrom
      by_cases c : y.word = p
      · rw [if_pos (decide_eq_true c)]
        exact .inl ⟨0, y, rfl, c, rfl⟩
      · rw [if_neg (by rw [decide_eq_true_iff]; exact c)]
        rcases ih (k + 1) with ⟨i, z, h1, h2, h3⟩ | h'
        · exact .inl ⟨i + 1, z, h1, h2, by rw [h3]; congr 1; omega⟩
        · exact .inr h'
  rcases hgen (kinds5.take 5) 0 with ⟨i, y, h1, h2, h3⟩ | h'
  · have e : wIdx p = (i : Int) := by
      have : wIdx p = ((0 + i : Nat) : Int) := h3
      rw [this, Nat.zero_add]
    have h1' : kinds5[i]? = some y := h1
    rw [e, ← h2]
    exact hall y (List.mem_of_getElem? h1') i h1'
  · exact absurd h' h
theorem word_plain (t : Int) : ∀ c ∈ (wordB t).data.toList, c ≠ 32 := by
  unfold wordB
  split
  · decide
  · split
    · decide
    · split
      · decide
      · split
        · decide
        · decide
theorem putStr_plain (a : Int) (ha : isI64 a) : ∀ c ∈ (putStr5 a).data.toList, c ≠ 32 := by
  intro c hc
  unfold putStr5 at hc
  rw [put_data] at hc
  rcases List.mem_append.1 hc with h | h
  · split at h
    · simp at h
      rw [h]
      decide
    · simp at h
  · have hp := (plain_digs 20 a.natAbs (by unfold isI64 at ha; omega) (by decide)).1.2.1 c h
    rintro rfl
    have := hp.1
    simp at this
theorem getS_put (a : Int) (ha : isI64 a) : number_Get.f (putStr5 a) = some (a, 0, 0) := get_put a ha
theorem putS_get (s : ByteArray) (x i : Int) (h : number_Get.f s = some (x, 0, i)) : isI64 x ∧ putStr5 x = s := by
  rcases get_cases s with ⟨_, hg⟩ | ⟨_, _, _, _, hg⟩ | ⟨h20, hne, hgood, hg⟩
  · rw [hg] at h
    simp at h
  · rw [hg] at h
    simp at h
  · rw [hg] at h
    exact put_get s h20 hne hgood x 0 i (Option.some.inj h) rfl
theorem told_at (b : Bool) (v : Nat) : (told b v).2.2 = 0 := by
  unfold told
  cases b <;> simp only [Bool.false_eq_true, if_true, if_false] <;> split <;> rfl
theorem get_total (s : ByteArray) : ∃ x e i, number_Get.f s = some (x, e, i) ∧ 0 ≤ i ∧ i ≤ s.size := by
  rcases get_cases s with ⟨h20, hg⟩ | ⟨_, i, _, hi, hg⟩ | ⟨h20, hne, hgood, hg⟩
  · exact ⟨_, _, _, hg, by omega, by omega⟩
  · exact ⟨_, _, _, hg, by omega, by omega⟩
  · rcases ht : told (isNeg s) (val (s.data.toList.drop (firstOf s)) 0) with ⟨x, e, i⟩
    have : i = 0 := by
      have h := told_at (isNeg s) (val (s.data.toList.drop (firstOf s)) 0)
      rw [ht] at h
      exact h
    exact ⟨x, e, i, by rw [hg, ht], by omega, by omega⟩
/-! ### Read -/
theorem readGo_put : ∀ (L : List Int) (at_ : Int) (acc : List Int), (∀ x ∈ L, isI64 x) → readGo (L.map putStr5) at_ acc = some (.inr (acc ++ L))
  | [], at_, acc, _ => by simp [readGo]
  | a :: L, at_, acc, h => by
    rw [List.map_cons, readGo, getS_put a (h a List.mem_cons_self), Option.bind_some]
    show readGo (L.map putStr5) _ (acc ++ [a]) = _
    rw [readGo_put L _ _ (fun x hx => h x (List.mem_cons_of_mem _ hx)), List.append_assoc]
    rfl
theorem readGo_inv : ∀ (ps : List ByteArray) (at_ : Int) (acc R : List Int), readGo ps at_ acc = some (.inr R) → ∃ L, R = acc ++ L ∧ ps = L.map putStr5 ∧ ∀ x ∈ L, isI64 x
  | [], at_, acc, R, h => by
    rw [readGo] at h
    have := Sum.inr.inj (Option.some.inj h)
    exact ⟨[], by simp [this], rfl, by simp⟩
  | p :: ps, at_, acc, R, h => by
    rw [readGo] at h
    obtain ⟨⟨x, e, i⟩, hg, h⟩ := Option.bind_eq_some_iff.1 h
    by_cases c : (e == 0 && i == 0) = true
    · rw [if_pos c] at h
      simp only [Bool.and_eq_true, beq_iff_eq] at c
      obtain ⟨rfl, rfl⟩ := c
      obtain ⟨h1, h2⟩ := putS_get p x 0 hg
      obtain ⟨L, e1, e2, e3⟩ := readGo_inv ps _ _ R h
      exact ⟨x :: L, by rw [e1, List.append_assoc]; rfl, by rw [List.map_cons, h2, e2], by intro y hy; rcases List.mem_cons.1 hy with rfl | hy; exact h1; exact e3 y hy⟩
    · rw [if_neg c] at h
      cases Option.some.inj h
theorem readGo_total : ∀ (ps : List ByteArray) (at_ : Int) (acc : List Int) (N : Int), at_ + ((ps.map (fun x => x.size + 1)).sum : Nat) = N + 1 → 0 ≤ at_ →
    (∃ R, readGo ps at_ acc = some (.inr R) ∧ R.length = acc.length + ps.length) ∨ ∃ e a, readGo ps at_ acc = some (.inl (e, a)) ∧ e ≠ 0 ∧ 0 ≤ a ∧ a ≤ N
  | [], at_, acc, N, hN, h0 => .inl ⟨acc, rfl, by simp⟩
  | p :: ps, at_, acc, N, hN, h0 => by
    obtain ⟨x, e, i, hg, hi0, hi⟩ := get_total p
    have hge := get_err hg
    rw [readGo, hg, Option.bind_some]
    simp only [List.map_cons, List.sum_cons] at hN
    by_cases c : (e == 0 && i == 0) = true
    · rw [if_pos c]
      rcases readGo_total ps (at_ + ((p.size : Int) + 1)) (acc ++ [x]) N (by omega) (by omega) with ⟨R, h1, h2⟩ | h
      · exact .inl ⟨R, h1, by rw [h2]; simp; omega⟩
      · exact .inr h
    · rw [if_neg c]
      refine .inr ⟨e, at_ + i, rfl, ?_, by omega, by omega⟩
      rintro rfl
      have := hge.1 rfl
      subst this
      simp at c
theorem joined_size (t : Int) (L : List Int) (hL : L.length ≤ 1000) : (joinB5 (wordB t :: L.map putStr5)).size ≤ 100000 := by
  have h := join_len ((wordB t :: L.map putStr5).map (·.data.toList))
  have h2 := sum_le (wordB t :: L.map putStr5) 21 (by
    intro y hy
    rcases List.mem_cons.1 hy with rfl | hy
    · exact Nat.le_trans (word_size t) (by decide)
    · obtain ⟨z, _, rfl⟩ := List.mem_map.1 hy
      exact putStr5_size z)
  have h3 : (joinB5 (wordB t :: L.map putStr5)).size = (Lib.join ((wordB t :: L.map putStr5).map (·.data.toList)) [32]).length := by
    rw [← toList5_len']
    rfl
  rw [h3]
  simp only [List.length_cons, List.length_map] at h2
  omega
/-- What is told as text is read as it was. -/
theorem read_text (t n : Int) (l : List Int) (hl : l.length ≤ 1000) (hn : isI64 n) (hli : ∀ x ∈ l, isI64 x) (hc : state_Check.f t n l = some 0) :
    state_Read.f (joinB5 (wordB t :: (numsOf t n l).map putStr5)) = some (t, n, l, 0, 0) := by
  obtain ⟨ht, h1, h2⟩ := check_ok hc
  have hL : ∀ x ∈ numsOf t n l, isI64 x := by
    unfold numsOf
    split
    · intro x hx
      rw [List.mem_singleton] at hx
      rw [hx]
      exact hn
    · exact hli
  have hLl : (numsOf t n l).length ≤ 1000 := by
    unfold numsOf
    split
    · simp
    · exact hl
  have hsz := joined_size t (numsOf t n l) hLl
  unfold state_Read.f
  rw [if_pos (by omega), spl_join _ (by simp) (by
    intro x hx
    rcases List.mem_cons.1 hx with rfl | hx
    · exact word_plain t
    · obtain ⟨z, hz, rfl⟩ := List.mem_map.1 hx
      exact putStr_plain z (hL z hz))]
  simp only
  rw [wIdx_word t ht, show 1 + (t - 1) = t by omega]
  unfold readAll
  rw [if_neg (by omega), readGo_put _ _ _ hL, Option.bind_some, List.nil_append]
  unfold readEnd
  simp only
  by_cases c : t = 1 ∨ t = 5
  · rw [if_pos c]
    have e : numsOf t n l = [n] := by unfold numsOf; rw [if_pos c]
    rw [e]
    have hl0 := h1 c
    subst hl0
    show readFin t n [] = _
    unfold readFin
    rw [hc]
    rfl
  · rw [if_neg c]
    have e : numsOf t n l = l := by unfold numsOf; rw [if_neg c]
    have hn0 := h2 c
    subst hn0
    rw [e]
    unfold readFin
    rw [hc]
    rfl
theorem read_fin {t n : Int} {l : List Int} {r1 r2 : Int} {r3 : List Int} {r4 r5 : Int} (h : readFin t n l = some (r1, r2, r3, r4, r5)) : (r4 = 0 ∧ r1 = t ∧ r2 = n ∧ r3 = l ∧ r5 = 0 ∧ state_Check.f t n l = some 0) ∨ (r4 = 5 ∧ r1 = 0 ∧ r2 = 0 ∧ r3 = [] ∧ r5 = 0) := by
  unfold readFin at h
  obtain ⟨e, hc, h⟩ := Option.bind_eq_some_iff.1 h
  by_cases he : e = 0
  · rw [if_pos he] at h
    simp only [Option.some.injEq, Prod.mk.injEq] at h
    subst he
    exact .inl ⟨h.2.2.2.1.symm, h.1.symm, h.2.1.symm, h.2.2.1.symm, h.2.2.2.2.symm, hc⟩
  · rw [if_neg he] at h
    simp only [Option.some.injEq, Prod.mk.injEq] at h
    exact .inr ⟨h.2.2.2.1.symm, h.1.symm, h.2.1.symm, h.2.2.1.symm, h.2.2.2.2.symm⟩
theorem readFin_total (t n : Int) (l : List Int) (hl : l.length ≤ 1000000000) : ∃ r, readFin t n l = some r := by
  unfold readFin
  obtain ⟨e, hc, _⟩ := check_total t n l hl
  rw [hc, Option.bind_some]
  split
  · exact ⟨_, rfl⟩
  · exact ⟨_, rfl⟩
theorem parts_sum (s : ByteArray) : ((spl s).map (fun x => x.size + 1)).sum = s.size + 1 := by
  have h := sp_len s.data.toList
  rw [← spl_data, List.map_map] at h
  exact h
/-- What Read tells of any text. -/
theorem read_all (s : ByteArray) (hs : s.size ≤ 1000000) : ∃ t n l e a, state_Read.f s = some (t, n, l, e, a) ∧ 0 ≤ a ∧ a ≤ s.size ∧
    ((e = 0 ∧ a = 0 ∧ state_Check.f t n l = some 0 ∧ isI64 n ∧ (∀ x ∈ l, isI64 x) ∧ l.length ≤ s.size ∧ joinB5 (wordB t :: (numsOf t n l).map putStr5) = s) ∨ (e ≠ 0 ∧ t = 0 ∧ n = 0 ∧ l = [])) := by
  have hsum := parts_sum s
  have hjoin := join_spl s
  have hplen := parts_len s
  unfold state_Read.f
  rw [if_pos hs]
  cases hp : spl s with
  | nil => rw [hp] at hsum; simp at hsum
  | cons p0 ps =>
    rw [hp] at hsum hjoin hplen
    simp only [List.map_cons, List.sum_cons, List.length_cons] at hsum hplen
    simp only
    unfold readAll
    by_cases ct : 1 + wIdx p0 = 0
    · rw [if_pos ct]
      exact ⟨_, _, _, _, _, rfl, by omega, by omega, .inr ⟨by omega, rfl, rfl, rfl⟩⟩
    · rw [if_neg ct]
      have hw := word_wIdx p0 (by omega)
      have hcs := wIdx_cases p0
      rcases readGo_total ps ((p0.size : Int) + 1) [] (s.size : Int) (by omega) (by omega) with ⟨R, hR, hRl⟩ | ⟨e, a, hR, he, ha0, ha⟩
      · obtain ⟨L, hRL, hps, hL⟩ := readGo_inv ps _ _ R hR
        rw [List.nil_append] at hRL
        subst hRL
        rw [hR, Option.bind_some]
        rw [hw, hps] at hjoin
        simp only [List.length_nil] at hRl
        generalize ht : 1 + wIdx p0 = t at ct hw hjoin ⊢
        unfold readEnd
        simp only
        by_cases c : t = 1 ∨ t = 5
        · rw [if_pos c]
          match R, hL, hjoin with
          | [], _, _ => exact ⟨_, _, _, _, _, rfl, by omega, by omega, .inr ⟨by omega, rfl, rfl, rfl⟩⟩
          | [n], hL, hjoin =>
            obtain ⟨⟨r1, r2, r3, r4, r5⟩, hr⟩ := readFin_total t n [] (by simp)
            simp only
            rw [hr]
            rcases read_fin hr with ⟨rfl, rfl, rfl, rfl, rfl, hc⟩ | ⟨rfl, rfl, rfl, rfl, rfl⟩
            · refine ⟨_, _, _, _, _, rfl, by omega, by omega, .inl ⟨rfl, rfl, hc, hL _ List.mem_cons_self, by simp, by simp, ?_⟩⟩
              unfold numsOf
              rw [if_pos c]
              exact hjoin
            · exact ⟨_, _, _, _, _, rfl, by omega, by omega, .inr ⟨by omega, rfl, rfl, rfl⟩⟩
          | a :: b :: r, _, _ => exact ⟨_, _, _, _, _, rfl, by omega, by omega, .inr ⟨by omega, rfl, rfl, rfl⟩⟩
        · rw [if_neg c]
          obtain ⟨⟨r1, r2, r3, r4, r5⟩, hr⟩ := readFin_total t 0 R (by omega)
          rw [hr]
          rcases read_fin hr with ⟨rfl, rfl, rfl, rfl, rfl, hc⟩ | ⟨rfl, rfl, rfl, rfl, rfl⟩
          · refine ⟨_, _, _, _, _, rfl, by omega, by omega, .inl ⟨rfl, rfl, hc, by unfold isI64; omega, hL, by omega, ?_⟩⟩
            unfold numsOf
            rw [if_neg c]
            exact hjoin
          · exact ⟨_, _, _, _, _, rfl, by omega, by omega, .inr ⟨by omega, rfl, rfl, rfl⟩⟩
      · rw [hR, Option.bind_some]
        exact ⟨_, _, _, _, _, rfl, ha0, ha, .inr ⟨he, rfl, rfl, rfl⟩⟩
theorem text_f (t n : Int) (l : List Int) (hl : l.length ≤ 1000) (hn : isI64 n) (hli : ∀ x ∈ l, isI64 x) (e : Int) (hc : state_Check.f t n l = some e) :
    state_Text.f t n l = some (if e = 0 then joinB5 (wordB t :: (numsOf t n l).map putStr5) else ⟨#[]⟩, e) := by
  unfold state_Text.f
  have hok : okText n l = true := by
    unfold okText
    simp only [Bool.and_eq_true, decide_eq_true_eq, List.all_eq_true]
    exact ⟨⟨hn, hli⟩, by omega⟩
  rw [if_pos hok, hc, Option.bind_some]
  by_cases he : e = 0
  · rw [if_pos he, if_pos he, he]
  · rw [if_neg he, if_neg he]

end Go.Proofs.YtkjnbfjbdlcehaaGreatDoor.P.Z5
