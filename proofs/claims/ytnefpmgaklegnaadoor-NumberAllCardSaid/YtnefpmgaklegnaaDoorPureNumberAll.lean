import Derived.Test.YtnefpmgaklegnaaDoorMSums
import Derived.Test.YtnefpmgaklegnaaDoorPureNumberKnown
import Derived.Test.YtnefpmgaklegnaaDoorPx8
namespace Go.Proofs.YtnefpmgaklegnaaDoor.Pure
open Go.RowKit Go.Proofs.YtnefpmgaklegnaaDoor.P Go.Proofs.YtnefpmgaklegnaaDoorW.PrintWords Go.Proofs.YtnefpmgaklegnaaDoorW.PrintLast

def allOf (l : List Int) : Int × Int := if isI64 (sumL l) then (sumL l, 0) else (0, 3)
theorem all_f (l : List Int) (h : ∀ x ∈ l, isI64 x) (hlen : l.length ≤ 60) : number_All.f l = some (allOf l) := by
  unfold number_All.f allOf
  rw [if_pos ⟨h, by omega⟩]
theorem pick_f (i n : Int) (hn : 0 < n) (hn2 : n ≤ 60) : ∃ t, armisticekit_Pick.f i n = some t ∧ 0 ≤ t ∧ t < n := by
  unfold armisticekit_Pick.f
  rw [if_neg (by omega), if_neg (by omega)]
  have h1 := Int.tmod_lt_of_pos i hn
  have h2 : -n < Int.tmod i n := by
    have := Int.lt_tmod_of_pos i hn
    omega
  by_cases c : Int.tmod i n < 0
  · rw [if_pos c]
    refine ⟨_, rfl, ?_, ?_⟩ <;> (unfold wrap64; omega)
  · rw [if_neg c]
    exact ⟨_, rfl, by omega, h1⟩
theorem sum_perm {l m : List Int} (h : l.Perm m) : sumL l = sumL m := by
  induction h with
  | nil => rfl
  | cons x _ ih => rw [sum_cons, sum_cons, ih]
  | swap x y l => rw [sum_cons, sum_cons, sum_cons, sum_cons]; omega
  | trans _ _ ih1 ih2 => rw [ih1, ih2]
theorem sum_set (l : List Int) (i : Nat) (x : Int) (hi : i < l.length) : sumL (l.set i x) = sumL l - l.getD i 0 + x := by
  induction l generalizing i with
  | nil => simp at hi
  | cons y l ih =>
    cases i with
    | zero =>
      rw [List.set_cons_zero, sum_cons, sum_cons]
      simp
      omega
    | succ i =>
      rw [List.set_cons_succ, sum_cons, sum_cons, ih i (by simpa using hi)]
      simp
      omega
/-- What an exchange keeps. -/
structure Alike (l m : List Int) : Prop where
  len : m.length = l.length
  sum : sumL m = sumL l
  all : ∀ x ∈ m, isI64 x
theorem alike_swap {l m : List Int} (h : Alike l m) (a b : Nat) (ha : a < m.length) (hb : b < m.length) : Alike l ((m.set a (m.getD b 0)).set b (m.getD a 0)) := by
  refine ⟨by simp [h.len], ?_, ?_⟩
  · rw [sum_set _ _ _ (by simpa using hb), sum_set _ _ _ ha, ← h.sum]
    by_cases c : a = b
    · subst c
      simp [List.getD, ha]
    · simp [List.getD, c]
  · intro x hx
    have hg : ∀ i, i < m.length → isI64 (m.getD i 0) := fun i hi => h.all _ (by simp [List.getD, hi])
    rcases List.mem_or_eq_of_mem_set hx with hx | rfl
    · rcases List.mem_or_eq_of_mem_set hx with hx | rfl
      · exact h.all x hx
      · exact hg b hb
    · exact hg a ha
theorem alike_swap' {l m : List Int} (h : Alike l m) (a b : Int) (ha0 : 0 ≤ a) (hb0 : 0 ≤ b) (ha : a < m.length) (hb : b < m.length) : Alike l ((m.set a.toNat (rd m b)).set b.toNat (rd m a)) :=
  alike_swap h a.toNat b.toNat (by omega) (by omega)
/-- What is asked of the sums at the end. -/
def fin (n e s f W : Int) : Option Bool := if f = 0 then (if e = 0 then (if s = n then some (n == W) else some false) else some false) else (if e = 0 then some (n == W) else some true)
theorem wrap_step (x y : Int) : wrap64 (wrap64 x + y) = wrap64 (x + y) := by
  unfold wrap64
  omega
theorem l2_ok (l : List Int) (hlen : l.length ≤ 60) (n e s f : Int) (hfin : fin n e s f (wrap64 (sumL l)) = some true) : ∀ (g i : Nat), i ≤ l.length → l.length < i + g →
    armisticelaw01_NumberAll.l2 g l true n e s f (wrap64 (sumL (l.take i))) (i : Int) = some true
  | 0, i, h1, h2 => by omega
  | g + 1, i, h1, h2 => by
    rw [armisticelaw01_NumberAll.l2]
    by_cases c : i < l.length
    · rw [if_pos (by omega), if_pos (by omega), wrap_f, Option.bind_some, wrap_step, ← sum_take l i c, show wrap64 ((i : Int) + 1) = ((i + 1 : Nat) : Int) by unfold wrap64; omega]
      exact l2_ok l hlen n e s f hfin g (i + 1) (by omega) (by omega)
    · rw [if_neg (by omega), if_pos rfl, List.take_of_length_le (by omega)]
      have h' := hfin
      unfold fin at h'
      by_cases c1 : f = 0
      · rw [if_pos c1] at h' ⊢
        exact h'
      · rw [if_neg c1] at h' ⊢
        exact h'
theorem allOf_fin (l : List Int) (f : Int) (hf : f ≠ 0) (s : Int) : fin (allOf l).1 (allOf l).2 s f (wrap64 (sumL l)) = some true := by
  unfold fin allOf
  rw [if_neg hf]
  by_cases c : isI64 (sumL l)
  · rw [if_pos c, if_pos rfl]
    unfold isI64 at c
    have : wrap64 (sumL l) = sumL l := by unfold wrap64; omega
    rw [this]
    simp
  · rw [if_neg c]
    rfl
theorem allOf_fin0 (l : List Int) (c : isI64 (sumL l)) : fin (allOf l).1 (allOf l).2 (sumL l) 0 (wrap64 (sumL l)) = some true := by
  unfold fin allOf
  rw [if_pos c, if_pos rfl, if_pos rfl, if_pos rfl]
  unfold isI64 at c
  have : wrap64 (sumL l) = sumL l := by unfold wrap64; omega
  rw [this]
  simp
theorem j4_ok (l : List Int) (hlen : l.length ≤ 60) (n e s f : Int) (hfin : fin n e s f (wrap64 (sumL l)) = some true) (g : Nat) (hg : 62 ≤ g) : armisticelaw01_NumberAll.j4 g l true n e s f = some true := by
  obtain ⟨g, rfl⟩ : ∃ g', g = g' + 1 := ⟨g - 1, by omega⟩
  rw [armisticelaw01_NumberAll.j4]
  have h0 := l2_ok l hlen n e s f hfin g 0 (by omega) (by omega)
  have e0 : wrap64 (sumL (l.take 0)) = 0 := by
    rw [List.take_zero, show sumL [] = 0 from rfl]
    unfold wrap64
    omega
  rw [e0] at h0
  exact h0
theorem l1_ok (l : List Int) (hlen : l.length ≤ 60) (hall : ∀ x ∈ l, isI64 x) : ∀ (g i : Nat) (s f : Int), i ≤ l.length → l.length + 62 < i + g → ((f = 0 ∧ s = sumL (l.take i) ∧ isI64 s) ∨ f ≠ 0) →
    armisticelaw01_NumberAll.l1 g l true (allOf l).1 (allOf l).2 s f (i : Int) = some true
  | 0, i, s, f, h1, h2, _ => by omega
  | g + 1, i, s, f, h1, h2, h3 => by
    rw [armisticelaw01_NumberAll.l1]
    by_cases c : i < l.length
    · rw [if_pos (by omega)]
      by_cases cf : f = 0
      · rw [if_pos cf, if_pos (by omega)]
        rcases h3 with ⟨_, hs, h64⟩ | h3
        · have hx : isI64 (rd l i) := hall _ (by unfold rd; simp [List.getD, c])
          rw [sum_f s (rd l i) h64 hx, Option.bind_some, show wrap64 ((i : Int) + 1) = ((i + 1 : Nat) : Int) by unfold wrap64; omega]
          have hst := sum_take l i c
          by_cases c2 : isI64 (s + rd l i)
          · rw [if_pos c2]
            exact l1_ok l hlen hall g (i + 1) _ _ (by omega) (by omega) (.inl ⟨rfl, by rw [hst, ← hs], c2⟩)
          · rw [if_neg c2]
            exact l1_ok l hlen hall g (i + 1) _ _ (by omega) (by omega) (.inr (by decide))
        · exact absurd cf h3
      · rw [if_neg cf]
        exact j4_ok l hlen _ _ s f (allOf_fin l f cf s) g (by omega)
    · rw [if_neg (by omega)]
      refine j4_ok l hlen _ _ s f ?_ g (by omega)
      rcases h3 with ⟨rfl, hs, h64⟩ | h3
      · rw [List.take_of_length_le (by omega)] at hs
        subst hs
        exact allOf_fin0 l h64
      · exact allOf_fin l f h3 s
theorem j2_ok (l m : List Int) (hlen : l.length ≤ 60) (hall : ∀ x ∈ l, isI64 x) (hm : Alike l m) (g : Nat) (hg : 130 ≤ g) : armisticelaw01_NumberAll.j2 g l true (allOf l).1 (allOf l).2 m = some true := by
  obtain ⟨g, rfl⟩ : ∃ g', g = g' + 1 := ⟨g - 1, by omega⟩
  have hml := hm.len
  have e1 : armisticelaw01_all.f (allOf l).1 (allOf l).2 m = some true := by
    unfold armisticelaw01_all.f
    rw [all_f m hm.all (by omega), Option.bind_some]
    have : allOf m = allOf l := by unfold allOf; rw [hm.sum]
    rw [this, if_pos rfl]
    simp
  rw [armisticelaw01_NumberAll.j2, e1, Option.bind_some, if_pos rfl]
  exact l1_ok l hlen hall g 0 0 0 (by omega) (by omega) (.inl ⟨rfl, rfl, by decide⟩)
theorem l0_ok (l q : List Int) (hlen : l.length ≤ 60) (hq : q.length ≤ 60) (hall : ∀ x ∈ l, isI64 x) : ∀ (g i : Nat) (m : List Int), Alike l m → i ≤ q.length → q.length + 131 < i + g →
    armisticelaw01_NumberAll.l0 g l q true (allOf l).1 (allOf l).2 m (i : Int) = some true
  | 0, i, m, _, h1, h2 => by omega
  | g + 1, i, m, hm, h1, h2 => by
    have hml := hm.len
    rw [armisticelaw01_NumberAll.l0]
    by_cases c : i < q.length
    · rw [if_pos (show (i : Int) < (q.length : Int) by omega)]
      by_cases c1 : (m.length : Int) > 0
      · rw [if_pos c1, if_neg (by omega), if_pos (by omega)]
        obtain ⟨t, ht, ht0, ht1⟩ := pick_f (rd q i) (m.length : Int) c1 (by omega)
        have h3 : Int.tmod (i : Int) (m.length : Int) = ((i % m.length : Nat) : Int) := rfl
        have h4 : i % m.length < m.length := Nat.mod_lt _ (by omega)
        rw [ht, Option.bind_some, if_pos ht0, if_pos ht1, h3, if_pos (by omega), if_pos (by omega), show wrap64 ((i : Int) + 1) = ((i + 1 : Nat) : Int) by unfold wrap64; omega]
        exact l0_ok l q hlen hq hall g (i + 1) _ (alike_swap' hm _ _ (by omega) ht0 (by omega) ht1) (by omega) (by omega)
      · rw [if_neg c1]
        exact j2_ok l m hlen hall hm g (by omega)
    · rw [if_neg (show ¬ (i : Int) < (q.length : Int) by omega)]
      exact j2_ok l m hlen hall hm g (by omega)
theorem NumberAll : armisticelaw01_NumberAll.Pure := by
  intro l0 l1 _ _ h0 _ _ _
  have hall : ∀ x ∈ l0, isI64 x := fun x hx => isI64_of_wf (h0 x hx)
  refine ⟨300, ?_⟩
  unfold armisticelaw01_NumberAll.f
  rw [show armisticelaw01_NumberKnown.f 300 = some true by kernel_rfl, Option.bind_some]
  have ht : armisticelaw01_NumberAll.j0 300 l0 l1 true true = some true := by
    rw [armisticelaw01_NumberAll.j0, if_pos rfl]
  by_cases c : (l0.length : Int) > 60
  · rw [if_pos c]
    exact ht
  · rw [if_neg c]
    by_cases c1 : (l1.length : Int) > 60
    · rw [decide_eq_true c1]
      exact ht
    · rw [decide_eq_false c1, armisticelaw01_NumberAll.j0, if_neg (by simp), all_f l0 hall (by omega), Option.bind_some, copy_f l0 (by omega), Option.bind_some]
      exact l0_ok l0 l1 (by omega) (by omega) hall 299 0 l0 ⟨rfl, rfl, hall⟩ (by omega) (by omega)

end Go.Proofs.YtnefpmgaklegnaaDoor.Pure
