/- Plain facts on the functions of layer 26, as they are printed: what each comes to, from some number of rounds on. -/
import Derived.Test.YtfpllpgfdanhnaaPx2
import Derived.Test.YtfpllpgfdanhnaaPx3
import Derived.KernelRfl
import Derived.OpenShut
namespace Go.Proofs.Ytfpllpgfdanhnaa.P
open Go.RowKit Go.Proofs.YtfpllpgfdanhnaaW.PrintWords Go.Proofs.YtfpllpgfdanhnaaW.PrintLast

set_option linter.unusedVariables false
set_option linter.unusedSimpArgs false

def CAP : Int := 4611686018427387904
theorem cap_eq : CAP = 4611686018427387904 := rfl
def prodS (x y : Int) (b : Bool) : Int × Bool := if b = true then if x * y ≤ CAP then (x * y, true) else (0, false) else (0, false)
def factS (a : Int) : Int × Bool := if 0 ≤ a ∧ a ≤ 20 then (fac a.toNat, true) else (0, false)
def triesS (a : Int) : Int × Bool := if 0 ≤ a ∧ a ≤ 19 then (tr a.toNat, true) else (0, false)
/-- Whether k and p are in the range in which the bound may be told. -/
def ofS (k p : Int) : Int × Bool := if 0 ≤ k ∧ k ≤ 20 ∧ 0 ≤ p ∧ p < CAP ∧ fac k.toNat * (k + 1) * (p + 1) ≤ CAP then (fac k.toNat * (k + 1) * (p + 1), true) else (0, false)
def enoughS (b k p : Int) : Bool := (ofS k p).2 && decide (b ≥ (ofS k p).1)

theorem w64 {x : Int} (h : -9223372036854775808 ≤ x) (h2 : x ≤ 9223372036854775807) : wrap64 x = x := by unfold wrap64; omega

theorem times_eq (x y : Int) (b : Bool) (hx : 0 ≤ x) (hx2 : x ≤ CAP) (hy : 0 < y) (hy2 : y ≤ CAP) : armisticeref26_times.f x y b = some (prodS x y b) := by
  unfold armisticeref26_times.f prodS
  cases b with
  | false => rfl
  | true =>
    simp only [if_true]
    rw [if_pos (by omega), if_neg (by omega)]
    simp only [over_cap x y hy]
    rw [cap_eq]
    rw [cap_eq] at hx2 hy2
    have hp : 0 ≤ x * y := Int.mul_nonneg hx (by omega)
    generalize x * y = p at hp ⊢
    by_cases e : 4611686018427387904 < p
    · rw [if_pos e, if_neg (by omega)]
    · rw [if_neg e, if_pos (by omega), w64 (by omega) (by omega)]
theorem prodS_range (x y : Int) (b : Bool) (hx : 0 ≤ x) (hy : 0 < y) : 0 ≤ (prodS x y b).1 ∧ (prodS x y b).1 ≤ CAP := by
  unfold prodS
  rw [cap_eq]
  have hp : 0 ≤ x * y := Int.mul_nonneg hx (by omega)
  generalize x * y = p at hp ⊢
  cases b <;> simp
  split <;> simp <;> omega

theorem prod_step (k : Nat) (o : Int) (l : List Int) (n i : Int) : bound_product.l0 (k + 1) o l n i = if i < n then (if 0 ≤ i then (if i < (l.length : Int) then (if (rd l i) = 0 then (bound_product.l0 k (wrap64 (o * (rd l i))) l n (wrap64 (i + 1))) else (if o > (wrap64 (Int.tdiv (4611686018427387904 : Int) (rd l i))) then (some (0, false)) else (bound_product.l0 k (wrap64 (o * (rd l i))) l n (wrap64 (i + 1))))) else (none)) else (none)) else (some (o, true)) := rfl
theorem product_three (x y z : Int) (hx : 0 ≤ x) (hx2 : x ≤ CAP) (hy : 0 < y) (hy2 : y ≤ CAP) (hz : 0 < z) (hz2 : z ≤ CAP) :
    bound_product.f 4 [x, y, z] = some (prodS (prodS x y true).1 z (prodS x y true).2) := by
  have hx3 := hx2
  have hy3 := hy2
  rw [cap_eq] at hx2 hy2 hz2
  have w1 : wrap64 x = x := w64 (by omega) (by omega)
  have s0 : rd [x, y, z] 0 = x := rfl
  have s1 : rd [x, y, z] 1 = y := rfl
  have s2 : rd [x, y, z] 2 = z := rfl
  have r1 : bound_product.f 4 [x, y, z] = bound_product.l0 3 x [x, y, z] 3 1 := by
    simp only [bound_product.f, bound_product.l0, List.length_cons, List.length_nil]
    rw [if_pos (by omega), if_pos (by omega), if_pos (by omega), s0, Int.one_mul, w1, show wrap64 (0 + 1) = 1 by unfold wrap64; omega]
    by_cases e : x = 0
    · rw [if_pos e]; rfl
    · rw [if_neg e, if_neg (by rw [over_cap _ _ (by omega)]; omega)]; rfl
  rw [r1, show bound_product.l0 3 x [x, y, z] 3 1 = (if x * y ≤ CAP then bound_product.l0 2 (x * y) [x, y, z] 3 2 else some (0, false)) by
    rw [prod_step, if_pos (by omega), if_pos (by omega), if_pos (by simp), s1, if_neg (by omega)]
    simp only [over_cap x y hy]
    rw [show wrap64 (1 + 1) = 2 by unfold wrap64; omega, cap_eq]
    have hp : 0 ≤ x * y := Int.mul_nonneg hx (by omega)
    generalize x * y = p at hp ⊢
    by_cases e : 4611686018427387904 < p
    · rw [if_pos e, if_neg (by omega)]
    · rw [if_neg e, if_pos (by omega), w64 (by omega) (by omega)]]
  have hp : 0 ≤ x * y := Int.mul_nonneg hx (by omega)
  unfold prodS
  rw [cap_eq]
  generalize x * y = p at hp ⊢
  by_cases e : p ≤ 4611686018427387904
  · simp only [if_pos e, if_true]
    rw [prod_step, if_pos (by omega), if_pos (by omega), if_pos (by simp), s2, if_neg (by omega)]
    simp only [over_cap p z hz]
    rw [show wrap64 (2 + 1) = 3 by unfold wrap64; omega]
    have hq : 0 ≤ p * z := Int.mul_nonneg hp (by omega)
    generalize p * z = q at hq ⊢
    by_cases e : 4611686018427387904 < q
    · rw [if_pos e, if_neg (by omega)]
    · rw [if_neg e, prod_step, if_neg (by omega), if_pos (by omega), w64 (by omega) (by omega)]
  · simp [e]

theorem ref_fact_l (a : Int) (d : Nat) : ∀ j : Nat, j + d = 20 → 1 ≤ j → (j : Int) ≤ max a 1 → 0 ≤ a → Ev (fun k => armisticeref26_Fact.l0 k a (fac j) true ((j : Int) + 1)) (factS a) := by
  induction d with
  | zero =>
    intro j hj h1 h2 h0
    obtain rfl : j = 20 := by omega
    refine Ev.step (f := fun k => if (20 : Int) + 1 ≤ a then (armisticeref26_times.f (fac 20) (20 + 1) true).bind fun bt => armisticeref26_Fact.l0 k a bt.1 bt.2 (wrap64 (20 + 1 + 1)) else some (fac 20, true)) (fun k => rfl) ?_
    by_cases c : (20 : Int) + 1 ≤ a
    · simp only [if_pos c]
      rw [times_eq _ _ _ (by decide) (by decide) (by omega) (by decide)]
      simp only [Option.bind_some]
      have e : prodS (fac 20) (20 + 1) true = (0, false) := by decide
      rw [e]
      refine Ev.step (f := fun _ => some (0, false)) (fun k => ?_) ?_
      · simp only [armisticeref26_Fact.l0]
        split <;> rfl
      · unfold factS
        rw [if_neg (by omega)]
        exact Ev.now _
    · simp only [if_neg c]
      have : a = 20 := by omega
      subst this
      exact Ev.now _
  | succ d ih =>
    intro j hj h1 h2 h0
    refine Ev.step (f := fun k => if (j : Int) + 1 ≤ a then (armisticeref26_times.f (fac j) (j + 1) true).bind fun bt => armisticeref26_Fact.l0 k a bt.1 bt.2 (wrap64 (j + 1 + 1)) else some (fac j, true)) (fun k => rfl) ?_
    by_cases c : (j : Int) + 1 ≤ a
    · simp only [if_pos c]
      have hb := fac_bound j (by omega)
      have hb2 := fac_bound (j + 1) (by omega)
      rw [times_eq _ _ _ (by omega) (by rw [cap_eq]; omega) (by omega) (by rw [cap_eq]; omega)]
      simp only [Option.bind_some]
      have e : prodS (fac j) (j + 1) true = (fac (j + 1), true) := by
        unfold prodS
        rw [show fac j * ((j : Int) + 1) = fac (j + 1) from rfl, if_pos rfl, if_pos (by rw [cap_eq]; omega)]
      rw [e, w64 (by omega) (by omega)]
      have := ih (j + 1) (by omega) (by omega) (by omega) h0
      exact this
    · simp only [if_neg c]
      unfold factS
      rw [if_pos (by omega)]
      by_cases e : a = 0
      · subst e
        obtain rfl : j = 1 := by omega
        exact Ev.now _
      · have : a.toNat = j := by omega
        rw [this]
        exact Ev.now _
theorem ref_fact (a : Int) : Ev (fun k => armisticeref26_Fact.f k a) (factS a) := by
  unfold armisticeref26_Fact.f
  by_cases c : 0 ≤ a
  · have e : decide (a ≥ 0) = true := decide_eq_true c
    rw [e]
    exact ref_fact_l a 19 1 rfl (by omega) (by omega) c
  · have e : decide (a ≥ 0) = false := decide_eq_false c
    rw [e]
    refine Ev.step (f := fun _ => some (0, false)) (fun k => ?_) ?_
    · simp only [armisticeref26_Fact.l0]
      split <;> rfl
    · unfold factS
      rw [if_neg (by omega)]
      exact Ev.now _

theorem ref_tries_l (a : Int) (d : Nat) : ∀ j : Nat, j + d = 19 → (j : Int) ≤ a → Ev (fun k => armisticeref26_Tries.l0 k a (tr j) true ((j : Int) + 1)) (triesS a) := by
  induction d with
  | zero =>
    intro j hj h2
    obtain rfl : j = 19 := by omega
    refine Ev.step (f := fun k => if (19 : Int) + 1 ≤ a then (armisticeref26_times.f (wrap64 (tr 19 + 1)) (19 + 1) true).bind fun bt => armisticeref26_Tries.l0 k a bt.1 bt.2 (wrap64 (19 + 1 + 1)) else some (tr 19, true)) (fun k => rfl) ?_
    by_cases c : (19 : Int) + 1 ≤ a
    · simp only [if_pos c]
      rw [w64 (by decide) (by decide), times_eq _ _ _ (by decide) (by decide) (by omega) (by decide)]
      simp only [Option.bind_some]
      have e : prodS (tr 19 + 1) (19 + 1) true = (0, false) := by decide
      rw [e]
      refine Ev.step (f := fun _ => some (0, false)) (fun k => ?_) ?_
      · simp only [armisticeref26_Tries.l0]
        split <;> rfl
      · unfold triesS
        rw [if_neg (by omega)]
        exact Ev.now _
    · simp only [if_neg c]
      have : a = 19 := by omega
      subst this
      exact Ev.now _
  | succ d ih =>
    intro j hj h2
    refine Ev.step (f := fun k => if (j : Int) + 1 ≤ a then (armisticeref26_times.f (wrap64 (tr j + 1)) (j + 1) true).bind fun bt => armisticeref26_Tries.l0 k a bt.1 bt.2 (wrap64 (j + 1 + 1)) else some (tr j, true)) (fun k => rfl) ?_
    by_cases c : (j : Int) + 1 ≤ a
    · simp only [if_pos c]
      have hb := tr_bound j (by omega)
      have hb2 := tr_bound (j + 1) (by omega)
      rw [w64 (by omega) (by omega), times_eq _ _ _ (by omega) (by rw [cap_eq]; omega) (by omega) (by rw [cap_eq]; omega)]
      simp only [Option.bind_some]
      have e : prodS (tr j + 1) (j + 1) true = (tr (j + 1), true) := by
        unfold prodS
        rw [show (tr j + 1) * ((j : Int) + 1) = tr (j + 1) from rfl, if_pos rfl, if_pos (by rw [cap_eq]; omega)]
      rw [e, w64 (by omega) (by omega)]
      have := ih (j + 1) (by omega) (by omega)
      exact this
    · simp only [if_neg c]
      unfold triesS
      rw [if_pos (by omega)]
      have : a.toNat = j := by omega
      rw [this]
      exact Ev.now _
theorem ref_tries (a : Int) : Ev (fun k => armisticeref26_Tries.f k a) (triesS a) := by
  unfold armisticeref26_Tries.f
  by_cases c : 0 ≤ a
  · have e : decide (a ≥ 0) = true := decide_eq_true c
    rw [e]
    exact ref_tries_l a 19 0 rfl (by omega)
  · have e : decide (a ≥ 0) = false := decide_eq_false c
    rw [e]
    refine Ev.step (f := fun _ => some (0, false)) (fun k => ?_) ?_
    · simp only [armisticeref26_Tries.l0]
      split <;> rfl
    · unfold triesS
      rw [if_neg (by omega)]
      exact Ev.now _

/-- The two products, told by one condition. -/
theorem two_products (k p : Int) (h0 : 0 ≤ k) (h1 : k ≤ 20) (h2 : 0 ≤ p) (h3 : p < CAP) : prodS (prodS (fac k.toNat) (k + 1) true).1 (p + 1) (prodS (fac k.toNat) (k + 1) true).2 = ofS k p := by
  have hb := fac_bound k.toNat (by omega)
  unfold ofS
  have hq : 0 ≤ fac k.toNat * (k + 1) := Int.mul_nonneg (by omega) (by omega)
  unfold prodS
  simp only [if_true]
  generalize fac k.toNat * (k + 1) = q at hq ⊢
  by_cases c : q ≤ CAP
  · simp only [if_pos c, if_true]
    by_cases d : q * (p + 1) ≤ CAP
    · rw [if_pos d, if_pos ⟨h0, h1, h2, h3, d⟩]
    · rw [if_neg d, if_neg (fun z => d z.2.2.2.2)]
  · simp only [if_neg c, Bool.false_eq_true, if_false]
    have : q * 1 ≤ q * (p + 1) := Int.mul_le_mul_of_nonneg_left (by omega) hq
    rw [if_neg (fun z => c (by have := z.2.2.2.2; omega))]

theorem of_eq (k p : Int) : Ev (fun n => bound_Of.f n k p) (ofS k p) := by
  have no : (p < 0 ∨ p ≥ CAP) → ofS k p = (0, false) := fun h => by
    unfold ofS
    rw [if_neg (by omega)]
  have out : Ev (fun n => bound_Of.j0 n k p true) (0, false) := Ev.step (f := fun _ => some (0, false)) (fun n => rfl) (Ev.now _)
  unfold bound_Of.f
  by_cases c : p < 0
  · simp only [if_pos c]
    rw [no (.inl c)]
    exact out
  · simp only [if_neg c]
    by_cases d : p ≥ CAP
    · rw [decide_eq_true (show p ≥ 4611686018427387904 from d), no (.inr d)]
      exact out
    · rw [decide_eq_false (show ¬ p ≥ 4611686018427387904 from d)]
      refine Ev.step (f := fun n => (bound_Fact.f k).bind fun bt => if bt.2 = true then (bound_product.f n [bt.1, wrap64 (k + 1), wrap64 (p + 1)]).bind fun b => some (b.1, b.2) else some (0, false)) (fun n => rfl) ?_
      unfold bound_Fact.f
      simp only [Option.bind_some]
      by_cases e : 0 ≤ k ∧ k ≤ 20
      · have hb := fac_bound k.toNat (by omega)
        simp only [if_pos e, if_true]
        rw [cap_eq] at d
        rw [w64 (by omega) (by omega), w64 (by omega) (by omega)]
        have hp := product_three (fac k.toNat) (k + 1) (p + 1) (by omega) (by rw [cap_eq]; omega) (by omega) (by rw [cap_eq]; omega) (by omega) (by rw [cap_eq]; omega)
        rw [two_products k p e.1 e.2 (by omega) (by rw [cap_eq]; omega)] at hp
        exact Ev.bind (f := fun _ b => some (b.1, b.2)) (Ev.of (fun n => bound_product.mono _ n) hp) (Ev.now _)
      · have : ofS k p = (0, false) := by
          unfold ofS
          rw [if_neg (by omega)]
        rw [this]
        simp only [if_neg e]
        exact Ev.now _
theorem ref_of (k p : Int) : Ev (fun n => armisticeref26_Of.f n k p) (ofS k p) := by
  have no : (k < 0 ∨ p < 0 ∨ p ≥ CAP) → ofS k p = (0, false) := fun h => by
    unfold ofS
    rw [if_neg (by omega)]
  have out : Ev (fun n => armisticeref26_Of.j0 n k p true) (0, false) := Ev.step (f := fun _ => some (0, false)) (fun n => rfl) (Ev.now _)
  unfold armisticeref26_Of.f
  by_cases c0 : k < 0
  · simp only [if_pos c0]
    rw [no (.inl c0)]
    exact out
  simp only [if_neg c0]
  by_cases c : p < 0
  · simp only [if_pos c]
    rw [no (.inr (.inl c))]
    exact out
  · simp only [if_neg c]
    by_cases d : p ≥ CAP
    · rw [decide_eq_true (show p ≥ 4611686018427387904 from d), no (.inr (.inr d))]
      exact out
    · rw [decide_eq_false (show ¬ p ≥ 4611686018427387904 from d)]
      refine Ev.step (f := fun n => (armisticeref26_Fact.f n k).bind fun bt113 => if bt113.2 = true then (armisticeref26_times.f bt113.1 (wrap64 (k + 1)) bt113.2).bind fun bt115 => (armisticeref26_times.f bt115.1 (wrap64 (p + 1)) bt115.2).bind fun bt117 => some (bt117.1, bt117.2) else some (0, false)) (fun n => rfl) ?_
      refine Ev.bind (ref_fact k) ?_
      rw [cap_eq] at d
      by_cases e : k ≤ 20
      · have hb := fac_bound k.toNat (by omega)
        have hf : factS k = (fac k.toNat, true) := by unfold factS; rw [if_pos (by omega)]
        rw [hf]
        simp only [if_true]
        rw [w64 (by omega) (by omega), w64 (by omega) (by omega), times_eq _ _ _ (by omega) (by rw [cap_eq]; omega) (by omega) (by rw [cap_eq]; omega)]
        simp only [Option.bind_some]
        have hr := prodS_range (fac k.toNat) (k + 1) true (by omega) (by omega)
        rw [times_eq _ _ _ hr.1 hr.2 (by omega) (by rw [cap_eq]; omega)]
        simp only [Option.bind_some]
        rw [two_products k p (by omega) e (by omega) (by rw [cap_eq]; omega)]
        exact Ev.now _
      · have : ofS k p = (0, false) := by
          unfold ofS
          rw [if_neg (by omega)]
        have hf : factS k = (0, false) := by unfold factS; rw [if_neg (by omega)]
        rw [this, hf]
        exact Ev.now _

theorem enough_eq (b k p : Int) : Ev (fun n => bound_Enough.f n b k p) (enoughS b k p) := by
  unfold bound_Enough.f
  refine Ev.bind (of_eq k p) ?_
  unfold enoughS
  cases (ofS k p).2 <;> exact Ev.now _
theorem ref_enough (b k p : Int) : Ev (fun n => armisticeref26_Enough.f n b k p) (enoughS b k p) := by
  unfold armisticeref26_Enough.f
  refine Ev.bind (ref_of k p) ?_
  unfold enoughS
  cases (ofS k p).2 <;> exact Ev.now _

theorem enough_far (b k p : Int) (h : 21 ≤ k) : enoughS b k p = false := by
  unfold enoughS ofS
  rw [if_neg (by omega)]
  rfl
/-- The first number from j on for which the budget is not enough. -/
theorem first_not (b p : Int) (d : Nat) : ∀ j : Nat, j + d = 21 → ∃ m : Nat, j ≤ m ∧ m ≤ 21 ∧ enoughS b m p = false ∧ ∀ i : Nat, j ≤ i → i < m → enoughS b i p = true := by
  induction d with
  | zero => intro j hj; exact ⟨j, by omega, by omega, enough_far _ _ _ (by omega), fun i h1 h2 => by omega⟩
  | succ d ih =>
    intro j hj
    cases e : enoughS b j p with
    | false => exact ⟨j, by omega, by omega, e, fun i h1 h2 => by omega⟩
    | true =>
      obtain ⟨m, h1, h2, h3, h4⟩ := ih (j + 1) (by omega)
      refine ⟨m, by omega, h2, h3, fun i hi hm => ?_⟩
      by_cases c : i = j
      · subst c; exact e
      · exact h4 i (by omega) hm
theorem most_l (b p : Int) (m : Nat) (hm : m ≤ 21) (h : enoughS b m p = false) (d : Nat) : ∀ j : Nat, j + d = m → (∀ i : Nat, j ≤ i → i < m → enoughS b i p = true) → Ev (fun n => bound_Most.l0 n b p j) ((m : Int) - 1) := by
  induction d with
  | zero =>
    intro j hj _
    obtain rfl : j = m := by omega
    refine Ev.step (f := fun n => (bound_Enough.f n b j p).bind fun t => if t = true then bound_Most.l0 n b p (wrap64 ((j : Int) + 1)) else some (wrap64 ((j : Int) - 1))) (fun n => rfl) ?_
    refine Ev.bind (enough_eq b j p) ?_
    rw [h, w64 (x := (j : Int) - 1) (by omega) (by omega)]
    exact Ev.now _
  | succ d ih =>
    intro j hj ha
    refine Ev.step (f := fun n => (bound_Enough.f n b j p).bind fun t => if t = true then bound_Most.l0 n b p (wrap64 ((j : Int) + 1)) else some (wrap64 ((j : Int) - 1))) (fun n => rfl) ?_
    refine Ev.bind (enough_eq b j p) ?_
    rw [ha j (Nat.le_refl _) (by omega), w64 (x := (j : Int) + 1) (by omega) (by omega)]
    exact ih (j + 1) (by omega) (fun i h1 h2 => ha i (by omega) h2)
theorem ref_most_l (b p : Int) (m : Nat) (hm : m ≤ 21) (h : enoughS b m p = false) (d : Nat) : ∀ j : Nat, j + d = m → (∀ i : Nat, j ≤ i → i < m → enoughS b i p = true) → Ev (fun n => armisticeref26_Most.l0 n b p ((j : Int) - 1)) ((m : Int) - 1) := by
  induction d with
  | zero =>
    intro j hj _
    obtain rfl : j = m := by omega
    refine Ev.step (f := fun n => (armisticeref26_Enough.f n b (wrap64 ((j : Int) - 1 + 1)) p).bind fun t => if t = true then armisticeref26_Most.l0 n b p (wrap64 ((j : Int) - 1 + 1)) else some ((j : Int) - 1)) (fun n => rfl) ?_
    rw [w64 (by omega) (by omega), show (j : Int) - 1 + 1 = j by omega]
    refine Ev.bind (ref_enough b j p) ?_
    rw [h]
    exact Ev.now _
  | succ d ih =>
    intro j hj ha
    refine Ev.step (f := fun n => (armisticeref26_Enough.f n b (wrap64 ((j : Int) - 1 + 1)) p).bind fun t => if t = true then armisticeref26_Most.l0 n b p (wrap64 ((j : Int) - 1 + 1)) else some ((j : Int) - 1)) (fun n => rfl) ?_
    rw [w64 (by omega) (by omega), show (j : Int) - 1 + 1 = j by omega]
    refine Ev.bind (ref_enough b j p) ?_
    rw [ha j (Nat.le_refl _) (by omega)]
    have := ih (j + 1) (by omega) (fun i h1 h2 => ha i (by omega) h2)
    rw [show ((j + 1 : Nat) : Int) - 1 = j by omega] at this
    exact this
/-- Most, both ways: one less than the first that is not enough. -/
theorem most_eq (b p : Int) : ∃ m : Nat, m ≤ 21 ∧ enoughS b m p = false ∧ (∀ i : Nat, i < m → enoughS b i p = true) ∧ Ev (fun n => bound_Most.f n b p) ((m : Int) - 1) ∧ Ev (fun n => armisticeref26_Most.f n b p) ((m : Int) - 1) := by
  obtain ⟨m, h1, h2, h3, h4⟩ := first_not b p 21 0 rfl
  exact ⟨m, h2, h3, fun i hi => h4 i (Nat.zero_le _) hi, most_l b p m h2 h3 m 0 (by omega) h4, ref_most_l b p m h2 h3 m 0 (by omega) h4⟩
theorem awake_eq : Ev (fun n => armisticelaw26_awake.f n) true := Ev.of (fun n => armisticelaw26_awake.mono n) (k := 40) (by kernel_rfl)
theorem known_eq : Ev (fun n => armisticelaw26_BoundKnown.f n) true := Ev.of (fun n => armisticelaw26_BoundKnown.mono n) (k := 40) (by kernel_rfl)
end Go.Proofs.Ytfpllpgfdanhnaa.P
