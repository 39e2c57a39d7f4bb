/- The bound rises with k and with p, and is told of less if it is of more; Enough is whether a budget is not less; Most is the greatest k (k from 0 to 25, any p and budget). -/
import Derived.Test.YtfpllpgfdanhnaaM26
import Derived.Test.YtfpllpgfdanhnaaPureBoundTries
import Derived.Test.YtfpllpgfdanhnaaPx4
namespace Go.Proofs.Ytfpllpgfdanhnaa.Pure
open Go.RowKit Go.Proofs.Ytfpllpgfdanhnaa.P Go.Proofs.YtfpllpgfdanhnaaW.PrintWords Go.Proofs.YtfpllpgfdanhnaaW.PrintLast
set_option linter.unusedVariables false
set_option linter.unusedSimpArgs false

theorem of_cases (n : Nat) (p : Int) : (ofS n p = (fac n * ((n : Int) + 1) * (p + 1), true) ∧ n ≤ 20 ∧ 0 ≤ p ∧ p < CAP ∧ fac n * ((n : Int) + 1) * (p + 1) ≤ CAP ∧ 1 ≤ fac n * ((n : Int) + 1)) ∨ ofS n p = (0, false) ∧ ¬ (n ≤ 20 ∧ 0 ≤ p ∧ p < CAP ∧ fac n * ((n : Int) + 1) * (p + 1) ≤ CAP) := by
  unfold ofS
  rw [show (Int.toNat (n : Int)) = n from rfl]
  by_cases c : 0 ≤ (n : Int) ∧ (n : Int) ≤ 20 ∧ 0 ≤ p ∧ p < CAP ∧ fac n * ((n : Int) + 1) * (p + 1) ≤ CAP
  · rw [if_pos c]
    have hf := fac_bound n (by omega)
    have : (1 : Int) * 1 ≤ fac n * ((n : Int) + 1) := Int.mul_le_mul hf.1 (by omega) (by omega) (by omega)
    exact .inl ⟨rfl, by omega, c.2.2.1, c.2.2.2.1, c.2.2.2.2, by omega⟩
  · rw [if_neg c]
    exact .inr ⟨rfl, fun z => c ⟨by omega, by omega, z.2.1, z.2.2.1, z.2.2.2⟩⟩
/-- One more transaction: the bound rises, and is told of less if it is of more. -/
theorem of_up (n : Nat) (p : Int) (h : (ofS (n + 1 : Nat) p).2 = true) : (ofS n p).2 = true ∧ (ofS n p).1 < (ofS (n + 1 : Nat) p).1 := by
  rcases of_cases (n + 1) p with ⟨e, h1, h2, h3, h4, h5⟩ | ⟨e, _⟩
  · have hf := fac_bound n (by omega)
    have hq : (1 : Int) * 1 ≤ fac n * ((n : Int) + 1) := Int.mul_le_mul hf.1 (by omega) (by omega) (by omega)
    have e2 : fac (n + 1) * (((n + 1 : Nat) : Int) + 1) * (p + 1) = fac n * ((n : Int) + 1) * (p + 1) * ((n : Int) + 2) := by
      show fac n * ((n : Int) + 1) * (((n + 1 : Nat) : Int) + 1) * (p + 1) = _
      rw [show ((n + 1 : Nat) : Int) + 1 = (n : Int) + 2 by omega, Int.mul_assoc (fac n * ((n : Int) + 1)), Int.mul_comm ((n : Int) + 2), ← Int.mul_assoc]
    have hb : (1 : Int) * 1 ≤ fac n * ((n : Int) + 1) * (p + 1) := Int.mul_le_mul (by omega) (by omega) (by omega) (by omega)
    rw [e2] at h4 e
    have hB : fac n * ((n : Int) + 1) * (p + 1) * 2 ≤ fac n * ((n : Int) + 1) * (p + 1) * ((n : Int) + 2) := Int.mul_le_mul_of_nonneg_left (by omega) (by omega)
    rcases of_cases n p with ⟨e3, _⟩ | ⟨e3, hn⟩
    · rw [e3, e]
      exact ⟨rfl, by show fac n * ((n : Int) + 1) * (p + 1) < fac n * ((n : Int) + 1) * (p + 1) * ((n : Int) + 2); omega⟩
    · exact absurd ⟨by omega, h2, h3, by omega⟩ hn
  · rw [e] at h
    cases h
theorem of_up_p (n : Nat) (p : Int) (hp : 0 ≤ p) (h : (ofS n (p + 1)).2 = true) : (ofS n p).2 = true ∧ (ofS n p).1 < (ofS n (p + 1)).1 := by
  rcases of_cases n (p + 1) with ⟨e, h1, h2, h3, h4, h5⟩ | ⟨e, _⟩
  · have e2 : fac n * ((n : Int) + 1) * (p + 1 + 1) = fac n * ((n : Int) + 1) * (p + 1) + fac n * ((n : Int) + 1) := by rw [Int.mul_add, Int.mul_one]
    rw [e2] at h4 e
    rcases of_cases n p with ⟨e3, _⟩ | ⟨e3, hn⟩
    · rw [e3, e]
      exact ⟨rfl, by show fac n * ((n : Int) + 1) * (p + 1) < fac n * ((n : Int) + 1) * (p + 1) + fac n * ((n : Int) + 1); omega⟩
    · exact absurd ⟨by omega, hp, by omega, by omega⟩ hn
  · rw [e] at h
    cases h
theorem of_range (n : Nat) (p : Int) (h : (ofS n p).2 = true) : 1 ≤ (ofS n p).1 ∧ (ofS n p).1 ≤ CAP := by
  rcases of_cases n p with ⟨e, h1, h2, h3, h4, h5⟩ | ⟨e, _⟩
  · rw [e]
    have : (1 : Int) * 1 ≤ fac n * ((n : Int) + 1) * (p + 1) := Int.mul_le_mul h5 (by omega) (by omega) (by omega)
    exact ⟨by show 1 ≤ fac n * ((n : Int) + 1) * (p + 1); omega, h4⟩
  · rw [e] at h
    cases h
theorem enough_down (b p : Int) (n : Nat) (h : enoughS b (n + 1 : Nat) p = true) : enoughS b n p = true := by
  unfold enoughS at h ⊢
  simp only [Bool.and_eq_true, decide_eq_true_eq] at h ⊢
  have := of_up n p h.1
  exact ⟨this.1, by omega⟩
theorem enough_not (b p : Int) (m : Nat) (h : enoughS b m p = false) (d : Nat) : enoughS b (m + d : Nat) p = false := by
  induction d with
  | zero => exact h
  | succ d ih =>
    cases e : enoughS b (m + (d + 1) : Nat) p with
    | false => rfl
    | true =>
      have := enough_down b p (m + d) e
      rw [ih] at this
      cases this
theorem BoundRises : armisticelaw26_BoundRises.Pure := by
  intro a0 a1 a2 h0 h1 h2
  have h0 := bounds_i64 h0
  have h1 := bounds_i64 h1
  have h2 := bounds_i64 h2
  obtain ⟨k, hk, k0, k1⟩ := pick_ok a0 26 (by omega) (by omega) h0.1 h0.2
  refine Ev.rounds (g := fun n => armisticelaw26_BoundRises.f n a0 a1 a2) ?_
  unfold armisticelaw26_BoundRises.f
  refine Ev.bind known_eq ?_
  rw [hk]
  simp only [Option.bind_some]
  obtain ⟨n, rfl⟩ := Int.eq_ofNat_of_zero_le k0
  obtain ⟨m, m1, m2, m3, m4, _⟩ := most_eq a2 a1
  refine Ev.bind (of_eq n a1) ?_
  by_cases c : a1 < 0
  · have hno : ∀ i : Nat, ofS i a1 = (0, false) := fun i => by
      unfold ofS
      rw [if_neg (by omega)]
    have hm : m = 0 := by
      cases m with
      | zero => rfl
      | succ m =>
        have := m3 m (by omega)
        unfold enoughS at this
        rw [hno] at this
        cases this
    subst hm
    simp only [if_pos c, if_true]
    rw [hno]
    simp only [Bool.false_eq_true, if_false]
    exact Ev.bind (f := fun _ t => some (t == -1)) m4 (Ev.now _)
  simp only [if_neg c]
  rw [w64 (x := (n : Int) + 1) (by omega) (by omega), show (n : Int) + 1 = ((n + 1 : Nat) : Int) by omega]
  refine Ev.bind (of_eq (n + 1 : Nat) a1) ?_
  have j1 : Ev (fun j => armisticelaw26_BoundRises.j1 j n a1 a2 true) true := by
    refine Ev.step (f := fun j => (bound_Most.f j a2 a1).bind fun t => if t ≥ (-1) then if t < 0 then (bound_Enough.f j a2 (wrap64 (t + 1)) a1).bind fun u => if u = true then some false else (bound_Enough.f j a2 n a1).bind fun v => some (v == decide ((n : Int) ≤ t)) else (bound_Enough.f j a2 t a1).bind fun s => if s = true then (bound_Enough.f j a2 (wrap64 (t + 1)) a1).bind fun u => if u = true then some false else (bound_Enough.f j a2 n a1).bind fun v => some (v == decide ((n : Int) ≤ t)) else some false else some false) (fun j => by simp only [armisticelaw26_BoundRises.j1, if_true]) ?_
    refine Ev.bind m4 ?_
    simp only [if_pos (show (m : Int) - 1 ≥ -1 by omega)]
    rw [w64 (by omega) (by omega), show (m : Int) - 1 + 1 = m by omega]
    have hle : (enoughS a2 n a1 == decide ((n : Int) ≤ (m : Int) - 1)) = true := by
      by_cases d : n < m
      · rw [m3 n d, decide_eq_true (by omega)]; rfl
      · have := enough_not a2 a1 m m2 (n - m)
        rw [show m + (n - m) = n by omega] at this
        rw [this, decide_eq_false (by omega)]; rfl
    have tail : Ev (fun j => (bound_Enough.f j a2 m a1).bind fun u => if u = true then some false else (bound_Enough.f j a2 n a1).bind fun v => some (v == decide ((n : Int) ≤ (m : Int) - 1))) true := by
      refine Ev.bind (enough_eq a2 m a1) ?_
      rw [m2]
      simp only [Bool.false_eq_true, if_false]
      refine Ev.bind (enough_eq a2 n a1) ?_
      rw [hle]
      exact Ev.now _
    by_cases d : (m : Int) - 1 < 0
    · simp only [if_pos d]
      exact tail
    · simp only [if_neg d]
      refine Ev.bind (enough_eq a2 _ a1) ?_
      have e : (m : Int) - 1 = ((m - 1 : Nat) : Int) := by omega
      rw [e, m3 (m - 1) (by omega), ← e]
      simp only [if_true]
      exact tail
  have j0 : Ev (fun j => armisticelaw26_BoundRises.j0 j n a1 a2 true (ofS n a1).1 (ofS n a1).2 false) true := by
    refine Ev.step (f := fun j => if a1 < 4611686018427387904 then (bound_Of.f j n (wrap64 (a1 + 1))).bind fun bt => if bt.2 = true then if (ofS n a1).2 = true then if bt.1 ≤ (ofS n a1).1 then some false else armisticelaw26_BoundRises.j1 j n a1 a2 true else some false else armisticelaw26_BoundRises.j1 j n a1 a2 true else armisticelaw26_BoundRises.j1 j n a1 a2 true) (fun j => by simp only [armisticelaw26_BoundRises.j0, Bool.false_eq_true, if_false]) ?_
    by_cases d : a1 < 4611686018427387904
    · simp only [if_pos d]
      rw [w64 (by omega) (by omega)]
      refine Ev.bind (of_eq n (a1 + 1)) ?_
      cases e : (ofS n (a1 + 1)).2 with
      | false =>
        simp only [Bool.false_eq_true, if_false]
        exact j1
      | true =>
        have := of_up_p n a1 (by omega) e
        simp only [this.1, if_true]
        simp only [if_neg (show ¬ (ofS n (a1 + 1)).1 ≤ (ofS n a1).1 by omega)]
        exact j1
    · simp only [if_neg d]
      exact j1
  have hen : ∀ b : Bool, b = (enoughS a2 n a1 != ((ofS n a1).2 && decide (a2 ≥ (ofS n a1).1))) → b = false := fun b hb => by
    rw [hb]
    unfold enoughS
    simp
  cases e : (ofS (n + 1 : Nat) a1).2 with
  | true =>
    have hu := of_up n a1 e
    have hr := of_range n a1 hu.1
    rw [cap_eq] at hr
    simp only [hu.1, if_true]
    simp only [if_neg (show ¬ (ofS (n + 1 : Nat) a1).1 ≤ (ofS n a1).1 by omega), if_neg (show ¬ (ofS n a1).1 < 1 by omega), if_neg (show ¬ (ofS n a1).1 > 4611686018427387904 by omega)]
    refine Ev.bind (enough_eq a2 n a1) ?_
    rw [hen (enoughS a2 n a1 != decide (a2 ≥ (ofS n a1).1)) (by rw [hu.1]; rfl)]
    rw [hu.1] at j0
    exact j0
  | false =>
    simp only [Bool.false_eq_true, if_false]
    cases e2 : (ofS n a1).2 with
    | true =>
      have hr := of_range n a1 e2
      rw [cap_eq] at hr
      simp only [if_true]
      simp only [if_neg (show ¬ (ofS n a1).1 < 1 by omega), if_neg (show ¬ (ofS n a1).1 > 4611686018427387904 by omega)]
      refine Ev.bind (enough_eq a2 n a1) ?_
      rw [hen (enoughS a2 n a1 != decide (a2 ≥ (ofS n a1).1)) (by rw [e2]; rfl)]
      rw [e2] at j0
      exact j0
    | false =>
      simp only [Bool.false_eq_true, if_false]
      refine Ev.bind (enough_eq a2 n a1) ?_
      rw [hen (enoughS a2 n a1 != false) (by rw [e2]; rfl)]
      rw [e2] at j0
      exact j0

end Go.Proofs.Ytfpllpgfdanhnaa.Pure
