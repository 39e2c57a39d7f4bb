/- Tables of names, in plain Lean: their orders, what the document's Order makes, what adds make. -/
import Derived.Test.YtfnonbbakkcoaaaECheck03
import Derived.Test.YtfnonbbakkcoaaaM03Cmp
import Derived.Test.YtfnonbbakkcoaaaEOrd0
namespace Go.Proofs.Ytfnonbbakkcoaaa.P
open Go.RowKit Go.Proofs.YtfnonbbakkcoaaaW.PrintWords Go.Proofs.YtfnonbbakkcoaaaW.PrintLast Go.Proofs.YtfnonbbakkcoaaaW.PrintMore
set_option linter.unusedVariables false
set_option linter.unusedSimpArgs false
theorem ba_eq {a b : ByteArray} : a.data.toList = b.data.toList ↔ a = b := by
  constructor
  · intro h
    cases a; cases b
    simp only [ByteArray.mk.injEq]
    exact Array.toList_inj.1 h
  · rintro rfl; rfl
theorem nidx_none {l : List ByteArray} {s : ByteArray} : nidx l s = none ↔ s ∉ l := by
  unfold nidx
  rw [List.findIdx?_eq_none_iff]
  constructor
  · intro h hm
    have := h s hm
    simp at this
  · intro h x hx
    rw [beq_eq_false_iff_ne]
    intro e
    exact h (ba_eq.1 e ▸ hx)
theorem nidx_some {l : List ByteArray} {s : ByteArray} {i : Nat} : nidx l s = some i ↔ ∃ h : i < l.length, l[i] = s ∧ ∀ j (hj : j < i), l[j] ≠ s := by
  unfold nidx
  rw [List.findIdx?_eq_some_iff_getElem]
  constructor
  · rintro ⟨h, h1, h2⟩
    refine ⟨h, ba_eq.1 (eq_of_beq h1), fun j hj e => ?_⟩
    have := h2 j hj
    rw [e] at this
    simp at this
  · rintro ⟨h, h1, h2⟩
    refine ⟨h, by rw [h1]; simp, fun j hj => ?_⟩
    simp only [beq_iff_eq]
    exact fun e => h2 j hj (ba_eq.1 e)
theorem nidx_at {l : List ByteArray} (hd : l.Nodup) {i : Nat} (h : i < l.length) : nidx l l[i] = some i := by
  rw [nidx_some]
  refine ⟨h, rfl, fun j hj e => ?_⟩
  exact absurd (List.getElem_inj hd |>.1 e) (by omega)
theorem cb_zero : ∀ {a b : List UInt8}, Lib.compareBytes a b = 0 → a = b
  | [], [], _ => rfl
  | [], _ :: _, h => absurd h (by simp [Lib.compareBytes])
  | _ :: _, [], h => absurd h (by simp [Lib.compareBytes])
  | x :: a, y :: b, h => by
    simp only [Lib.compareBytes] at h
    split at h
    · omega
    · split at h
      · omega
      · rename_i h1 h2
        rw [UInt8.lt_iff_toNat_lt] at h1 h2
        have : x = y := UInt8.toNat_inj.1 (by omega)
        rw [this, cb_zero h]
/-- An order as Order gives it. -/
def IsOrd (l : List ByteArray) (o : List Int) : Prop := o.Perm (iotaL l.length) ∧ o.Pairwise (fun a b => 0 ≤ cmpN l b a)
/-- a name before another -/
def ltN (l : List ByteArray) (i j : Int) : Bool := decide (cmpN l i j < 0)
theorem iota_nodup (n : Nat) : (iotaL n).Nodup := by
  unfold iotaL
  exact List.Pairwise.map _ (fun a b h e => h (Int.ofNat.inj e)) List.nodup_range
theorem mem_iota {n : Nat} {i : Int} : i ∈ iotaL n ↔ 0 ≤ i ∧ i < n := by
  unfold iotaL
  rw [List.mem_map]
  constructor
  · rintro ⟨k, hk, rfl⟩
    have := List.mem_range.1 hk
    exact ⟨Int.natCast_nonneg k, by show (k : Int) < n; omega⟩
  · intro h
    exact ⟨i.toNat, List.mem_range.2 (by omega), by show ((i.toNat : Nat) : Int) = i; omega⟩
theorem rd_inj {l : List ByteArray} (hd : l.Nodup) {i j : Int} (hi : 0 ≤ i ∧ i < l.length) (hj : 0 ≤ j ∧ j < l.length) (h : rdOf ByteArray.empty l i = rdOf ByteArray.empty l j) : i = j := by
  have e1 : rdOf ByteArray.empty l i = l[i.toNat] := by simp [rdOf, List.getD, show i.toNat < l.length by omega]
  have e2 : rdOf ByteArray.empty l j = l[j.toNat] := by simp [rdOf, List.getD, show j.toNat < l.length by omega]
  rw [e1, e2] at h
  have := (List.getElem_inj hd).1 h
  omega
theorem IsOrd.strict {l : List ByteArray} (hd : l.Nodup) {o : List Int} (h : IsOrd l o) : o.Pairwise (fun a b => cmpN l a b < 0) := by
  obtain ⟨hp, hs⟩ := h
  have hn : o.Nodup := hp.nodup_iff.2 (iota_nodup _)
  refine (List.Pairwise.and_mem.1 (hs.and hn)).imp ?_
  rintro a b ⟨ha, hb, h1, h2⟩
  have ha2 := mem_iota.1 (hp.mem_iff.1 ha)
  have hb2 := mem_iota.1 (hp.mem_iff.1 hb)
  have e := cb_anti (rdOf ByteArray.empty l b).data.toList (rdOf ByteArray.empty l a).data.toList
  unfold cmpN at h1 ⊢
  rcases Int.lt_or_le 0 (Lib.compareBytes (rdOf ByteArray.empty l b).data.toList (rdOf ByteArray.empty l a).data.toList) with c | c
  · omega
  · have z := cb_zero (show Lib.compareBytes (rdOf ByteArray.empty l b).data.toList (rdOf ByteArray.empty l a).data.toList = 0 by omega)
    exact absurd (rd_inj hd hb2 ha2 (ba_eq.1 z)).symm h2
/-- how many names are before the i-th -/
def rankN (l : List ByteArray) (i : Int) : Nat := (iotaL l.length).countP (fun k => ltN l k i)
theorem cmp_irrefl (l : List ByteArray) (i : Int) : ¬ cmpN l i i < 0 := by
  have := cb_anti (rdOf ByteArray.empty l i).data.toList (rdOf ByteArray.empty l i).data.toList
  unfold cmpN
  omega
theorem IsOrd.rank {l : List ByteArray} (hd : l.Nodup) {o : List Int} (h : IsOrd l o) {p : Nat} (hp : p < o.length) : rankN l o[p] = p := by
  have hs := h.strict hd
  unfold rankN
  rw [← h.1.countP_eq]
  generalize hx : o[p] = x
  conv => lhs; rw [← List.take_append_drop p o, List.countP_append]
  subst hx
  have e1 : (o.take p).countP (fun k => ltN l k o[p]) = p := by
    have : (o.take p).countP (fun k => ltN l k o[p]) = (o.take p).length := by
      rw [List.countP_eq_length]
      intro a ha
      obtain ⟨j, hj, rfl⟩ := List.mem_take_iff_getElem.1 ha
      have := List.pairwise_iff_getElem.1 hs j p (by omega) hp (by omega)
      simpa [ltN] using this
    rw [this, List.length_take]; omega
  have e2 : (o.drop p).countP (fun k => ltN l k o[p]) = 0 := by
    rw [List.countP_eq_zero]
    intro a ha
    obtain ⟨j, hj, rfl⟩ := List.mem_drop_iff_getElem.1 ha
    rcases Nat.eq_zero_or_pos j with rfl | hj0
    · simpa [ltN] using cmp_irrefl l o[p]
    · have h3 := List.pairwise_iff_getElem.1 hs p (p + j) hp (by omega) (by omega)
      have h4 := cb_anti (rdOf ByteArray.empty l o[p]).data.toList (rdOf ByteArray.empty l o[p + j]).data.toList
      simp only [ltN, decide_eq_true_eq, List.take_append_drop]
      unfold cmpN at h3 ⊢
      have e : o[p + j] = o[j + p] := by congr 1; omega
      omega
  omega
/-- The document's Order, k rounds in. -/
def refOrd (l : List ByteArray) (k : Nat) : List Int := (List.range k).foldl (fun out (i : Nat) => out.set (rankN l i) i) (List.replicate l.length 0)
theorem refOrd_succ (l : List ByteArray) (k : Nat) : refOrd l (k + 1) = (refOrd l k).set (rankN l k) k := by
  simp [refOrd, List.range_succ]
theorem refOrd_len (l : List ByteArray) : ∀ k, (refOrd l k).length = l.length
  | 0 => by simp [refOrd]
  | k + 1 => by rw [refOrd_succ, List.length_set, refOrd_len l k]
theorem IsOrd.len {l : List ByteArray} {o : List Int} (h : IsOrd l o) : o.length = l.length := by
  rw [h.1.length_eq]; simp [iotaL]
theorem IsOrd.ref_upto {l : List ByteArray} (hd : l.Nodup) {o : List Int} (h : IsOrd l o) : ∀ k, k ≤ l.length → ∀ j (hj : j < o.length), (refOrd l k)[j]? = some (if o[j] < (k : Int) then o[j] else 0)
  | 0, _, j, hj => by
    have := mem_iota.1 (h.1.mem_iff.1 (List.getElem_mem hj))
    rw [if_neg (by omega)]
    simp [refOrd, show j < l.length by have := h.len; omega]
  | k + 1, hk, j, hj => by
    have ih := h.ref_upto hd k (by omega) j hj
    rw [refOrd_succ]
    have hm : (k : Int) ∈ o := h.1.mem_iff.2 (mem_iota.2 ⟨by omega, by omega⟩)
    obtain ⟨p, hp, hpk⟩ := List.getElem_of_mem hm
    have hr := h.rank hd hp
    rw [hpk] at hr
    rw [hr]
    have hn : o.Nodup := h.1.nodup_iff.2 (iota_nodup _)
    by_cases c : p = j
    · subst c
      rw [List.getElem?_set_self (by rw [refOrd_len]; have := h.len; omega), hpk, if_pos (by omega)]
    · rw [List.getElem?_set_ne c, ih]
      have : o[j] ≠ (k : Int) := fun e => c ((List.getElem_inj hn).1 (hpk.trans e.symm))
      by_cases c2 : o[j] < (k : Int)
      · rw [if_pos c2, if_pos (by omega)]
      · rw [if_neg c2, if_neg (by omega)]
theorem IsOrd.ref {l : List ByteArray} (hd : l.Nodup) {o : List Int} (h : IsOrd l o) : refOrd l l.length = o := by
  apply List.ext_getElem (by rw [refOrd_len, h.len])
  intro j h1 h2
  have e := h.ref_upto hd l.length (Nat.le_refl _) j h2
  have := mem_iota.1 (h.1.mem_iff.1 (List.getElem_mem h2))
  rw [if_pos (by omega), List.getElem?_eq_getElem h1] at e
  exact Option.some.inj e
/-- What one Add makes of the names. -/
def addN (l : List ByteArray) (s : ByteArray) : List ByteArray := if nameB s = true ∧ nidx l s = none then l ++ [s] else l
def addsN (l : List ByteArray) : List ByteArray := l.foldl addN []
theorem adds_snoc (l : List ByteArray) (s : ByteArray) : addsN (l ++ [s]) = addN (addsN l) s := by simp [addsN]
theorem adds_take {l : List ByteArray} {k : Nat} (h : k < l.length) : addsN (l.take (k + 1)) = addN (addsN (l.take k)) l[k] := by
  rw [List.take_succ_eq_append_getElem h, adds_snoc]
structure Nms (l : List ByteArray) : Prop where
  nd : l.Nodup
  ok : ∀ x ∈ l, nameB x = true
theorem Nms.nil : Nms [] := ⟨List.nodup_nil, by simp⟩
theorem Nms.add {l : List ByteArray} (h : Nms l) (s : ByteArray) : Nms (addN l s) := by
  unfold addN
  split
  · rename_i c
    refine ⟨List.nodup_append.2 ⟨h.nd, List.pairwise_singleton _ _, ?_⟩, ?_⟩
    · intro a ha b hb e
      rw [List.mem_singleton.1 hb] at e
      exact nidx_none.1 c.2 (e ▸ ha)
    · intro x hx
      rcases List.mem_append.1 hx with hx | hx
      · exact h.ok x hx
      · rw [List.mem_singleton.1 hx]; exact c.1
  · exact h
theorem add_len (l : List ByteArray) (s : ByteArray) : (addN l s).length ≤ l.length + 1 := by
  unfold addN; split <;> simp
theorem adds_take_facts (l : List ByteArray) : ∀ k, k ≤ l.length → Nms (addsN (l.take k)) ∧ (addsN (l.take k)).length ≤ k ∧ ∀ x, x ∈ addsN (l.take k) ↔ x ∈ l.take k ∧ nameB x = true
  | 0, _ => by simp [addsN, Nms.nil]
  | k + 1, hk => by
    obtain ⟨h1, h2, h3⟩ := adds_take_facts l k (by omega)
    rw [adds_take (by omega)]
    refine ⟨h1.add _, by have := add_len (addsN (l.take k)) l[k]; omega, fun x => ?_⟩
    rw [List.take_succ_eq_append_getElem (by omega : k < l.length)]
    unfold addN
    split
    · rename_i c
      simp only [List.mem_append, List.mem_singleton, h3]
      constructor
      · rintro (h | rfl)
        · exact ⟨.inl h.1, h.2⟩
        · exact ⟨.inr rfl, c.1⟩
      · rintro ⟨h | rfl, hn⟩
        · exact .inl ⟨h, hn⟩
        · exact .inr rfl
    · rename_i c
      simp only [List.mem_append, List.mem_singleton]
      constructor
      · intro h
        exact ⟨.inl ((h3 x).1 h).1, ((h3 x).1 h).2⟩
      · rintro ⟨h | rfl, hn⟩
        · exact (h3 x).2 ⟨h, hn⟩
        · exact Classical.byContradiction fun hne => c ⟨hn, nidx_none.2 hne⟩
theorem mem_adds {l : List ByteArray} {x : ByteArray} : x ∈ addsN l ↔ x ∈ l ∧ nameB x = true := by
  have := (adds_take_facts l l.length (Nat.le_refl _)).2.2 x
  rwa [List.take_length] at this
theorem adds_nms (l : List ByteArray) : Nms (addsN l) := by
  have := (adds_take_facts l l.length (Nat.le_refl _)).1
  rwa [List.take_length] at this
/-- The names in their order. -/
def namesOf (l : List ByteArray) (o : List Int) : List ByteArray := o.map (rdOf ByteArray.empty l)
theorem IsOrd.names_perm {l : List ByteArray} {o : List Int} (h : IsOrd l o) : (namesOf l o).Perm l := by
  have h1 : (namesOf l o).Perm (namesOf l (iotaL l.length)) := h.1.map _
  have e : namesOf l (iotaL l.length) = l := by
    apply List.ext_getElem (by simp [namesOf, iotaL])
    intro i h1 h2
    simp [namesOf, iotaL, rdOf, List.getD, h2]
  rwa [e] at h1
theorem IsOrd.names_sorted {l : List ByteArray} (hd : l.Nodup) {o : List Int} (h : IsOrd l o) : (namesOf l o).Pairwise (fun a b => Lib.compareBytes a.data.toList b.data.toList < 0) := by
  unfold namesOf
  rw [List.pairwise_map]
  exact h.strict hd
theorem sorted_unique : ∀ {a b : List ByteArray}, a.Perm b → a.Pairwise (fun a b => Lib.compareBytes a.data.toList b.data.toList < 0) → b.Pairwise (fun a b => Lib.compareBytes a.data.toList b.data.toList < 0) → a = b
  | [], b, hp, _, _ => (List.nil_perm.1 hp).symm
  | x :: a, [], hp, _, _ => absurd hp.length_eq (by simp)
  | x :: a, y :: b, hp, ha, hb => by
    have hxy : x = y := by
      have h1 : x ∈ y :: b := hp.mem_iff.1 List.mem_cons_self
      have h2 : y ∈ x :: a := hp.mem_iff.2 List.mem_cons_self
      rcases List.mem_cons.1 h1 with e | h1
      · exact e
      rcases List.mem_cons.1 h2 with e | h2
      · exact e.symm
      have c1 := List.rel_of_pairwise_cons hb h1
      have c2 := List.rel_of_pairwise_cons ha h2
      have := cb_anti x.data.toList y.data.toList
      omega
    subst hxy
    rw [sorted_unique (List.Perm.cons_inv hp) ha.of_cons hb.of_cons]
theorem perm_of_nodup : ∀ {a b : List ByteArray}, a.Nodup → b.Nodup → (∀ x, x ∈ a ↔ x ∈ b) → a.Perm b := fun ha hb h => (List.perm_ext_iff_of_nodup ha hb).2 h
theorem orders_agree {l1 l2 : List ByteArray} (h1 : l1.Nodup) (h2 : l2.Nodup) (hm : ∀ x, x ∈ l1 ↔ x ∈ l2) {o1 o2 : List Int} (ho1 : IsOrd l1 o1) (ho2 : IsOrd l2 o2) : namesOf l1 o1 = namesOf l2 o2 :=
  sorted_unique (ho1.names_perm.trans ((perm_of_nodup h1 h2 hm).trans ho2.names_perm.symm)) (ho1.names_sorted h1) (ho2.names_sorted h2)
theorem ba_toList {a b : ByteArray} : a.toList = b.toList ↔ a = b := by rw [ByteArray.toList_eq, ByteArray.toList_eq]; exact ba_eq
theorem beq_ba_true {a b : ByteArray} (h : a = b) : (a.toList == b.toList) = true := beq_iff_eq.2 (ba_toList.2 h)
theorem beq_ba_false {a b : ByteArray} (h : a ≠ b) : (a.toList == b.toList) = false := beq_eq_false_iff_ne.2 (fun e => h (ba_toList.1 e))
theorem bl_cb : ∀ a b : List UInt8, Op.bytesLess a b = decide (Lib.compareBytes a b < 0)
  | [], [] => by simp [Op.bytesLess, Lib.compareBytes]
  | _ :: _, [] => by simp [Op.bytesLess, Lib.compareBytes]
  | [], _ :: _ => by simp [Op.bytesLess, Lib.compareBytes]
  | x :: a, y :: b => by
    rw [Op.bytesLess, bl_cb a b]
    simp only [Lib.compareBytes]
    by_cases h1 : x < y
    · simp [h1]
    · by_cases h2 : y < x
      · have : x ≠ y := by rintro rfl; exact h1 h2
        simp [h1, h2, this]
      · have : x = y := by
          rw [UInt8.lt_iff_toNat_lt] at h1 h2
          exact UInt8.toNat_inj.1 (by omega)
        subst this
        simp [h1]
theorem bl_ba (a b : ByteArray) : Op.bytesLess a.toList b.toList = decide (Lib.compareBytes a.data.toList b.data.toList < 0) := by
  rw [ByteArray.toList_eq, ByteArray.toList_eq, bl_cb]
end Go.Proofs.Ytfnonbbakkcoaaa.P
