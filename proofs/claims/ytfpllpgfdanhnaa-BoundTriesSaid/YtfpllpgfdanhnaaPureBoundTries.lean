/- Tries, counted one by one, are what is told, behind one try each those of one less, and never more than the bound (k from 0 to 19, p from 0 to 1,000). -/
import Derived.Test.YtfpllpgfdanhnaaM26
import Derived.Test.YtfpllpgfdanhnaaPx3
namespace Go.Proofs.Ytfpllpgfdanhnaa.Pure
open Go.RowKit Go.Proofs.Ytfpllpgfdanhnaa.P Go.Proofs.YtfpllpgfdanhnaaW.PrintWords Go.Proofs.YtfpllpgfdanhnaaW.PrintLast
set_option linter.unusedVariables false
set_option linter.unusedSimpArgs false

theorem pick_ok (x n : Int) (hn : 0 < n) (hn2 : n ≤ 1000000) (hx : -9223372036854775808 ≤ x) (hx2 : x ≤ 9223372036854775807) : ∃ r, armisticekit_Pick.f x n = some r ∧ 0 ≤ r ∧ r < n := by
  unfold armisticekit_Pick.f
  rw [if_neg (by omega), if_neg (by omega)]
  have h1 := Int.tmod_lt_of_pos x hn
  have h2 : -n < Int.tmod x n := by
    have := Int.lt_tmod_of_pos x hn
    omega
  by_cases c : Int.tmod x n < 0
  · rw [if_pos c]
    refine ⟨_, rfl, ?_⟩
    rw [w64 (by omega) (by omega)]
    omega
  · rw [if_neg c]
    exact ⟨_, rfl, by omega, h1⟩
theorem counted_loop (n : Nat) (hn : n + 1 ≤ 8) (ih : Ev (fun j => armisticelaw26_counted.f j n) (tr n)) (d : Nat) : ∀ i : Nat, i + d = n + 1 → Ev (fun j => armisticelaw26_counted.l0 j ((n + 1 : Nat) : Int) ((tr n + 1) * i) i) (tr (n + 1)) := by
  have hb := tr_bound n (by omega)
  have hb2 := tr_bound (n + 1) (by omega)
  have ht : tr (n + 1) = (tr n + 1) * ((n : Int) + 1) := rfl
  induction d with
  | zero =>
    intro i hi
    obtain rfl : i = n + 1 := by omega
    refine Ev.step (f := fun _ => some ((tr n + 1) * ((n + 1 : Nat) : Int))) (fun j => ?_) ?_
    · simp only [armisticelaw26_counted.l0]
      rw [if_neg (by omega)]
    · exact Ev.now _
  | succ d ihd =>
    intro i hi
    refine Ev.step (f := fun j => (armisticelaw26_counted.f j n).bind fun t => armisticelaw26_counted.l0 j ((n + 1 : Nat) : Int) (wrap64 (wrap64 ((tr n + 1) * i + 1) + t)) (wrap64 ((i : Int) + 1))) (fun j => ?_) ?_
    · simp only [armisticelaw26_counted.l0]
      rw [if_pos (by omega), w64 (x := ((n + 1 : Nat) : Int) - 1) (by omega) (by omega), show ((n + 1 : Nat) : Int) - 1 = n by omega]
    · refine Ev.bind ih ?_
      have hm : (tr n + 1) * (i : Int) ≤ (tr n + 1) * ((n : Int) + 1) := Int.mul_le_mul_of_nonneg_left (by omega) (by omega)
      have hm0 : 0 ≤ (tr n + 1) * (i : Int) := Int.mul_nonneg (by omega) (by omega)
      rw [w64 (x := (tr n + 1) * i + 1) (by omega) (by omega), w64 (x := (tr n + 1) * i + 1 + tr n) (by omega) (by omega), w64 (x := (i : Int) + 1) (by omega) (by omega)]
      have := ihd (i + 1) (by omega)
      rw [show (tr n + 1) * ((i + 1 : Nat) : Int) = (tr n + 1) * i + 1 + tr n by rw [show ((i + 1 : Nat) : Int) = (i : Int) + 1 by omega, Int.mul_add]; omega] at this
      exact this
theorem counted_eq (k : Nat) : k ≤ 8 → Ev (fun n => armisticelaw26_counted.f n k) (tr k) := by
  induction k with
  | zero =>
    intro _
    exact Ev.of (fun n => armisticelaw26_counted.mono _ n) (k := 3) (by kernel_rfl)
  | succ n ih =>
    intro h
    refine Ev.step (f := fun j => armisticelaw26_counted.l0 j ((n + 1 : Nat) : Int) 0 0) (fun j => by simp only [armisticelaw26_counted.f]) ?_
    have := counted_loop n h (ih (by omega)) (n + 1) 0 (by omega)
    rw [show (tr n + 1) * ((0 : Nat) : Int) = 0 by simp] at this
    exact this
theorem tr_fac (n : Nat) (h : n ≤ 19) : tr n ≤ fac n * ((n : Int) + 1) := by
  have : n = 0 ∨ n = 1 ∨ n = 2 ∨ n = 3 ∨ n = 4 ∨ n = 5 ∨ n = 6 ∨ n = 7 ∨ n = 8 ∨ n = 9 ∨ n = 10 ∨ n = 11 ∨ n = 12 ∨ n = 13 ∨ n = 14 ∨ n = 15 ∨ n = 16 ∨ n = 17 ∨ n = 18 ∨ n = 19 := by omega
  rcases this with rfl | rfl | rfl | rfl | rfl | rfl | rfl | rfl | rfl | rfl | rfl | rfl | rfl | rfl | rfl | rfl | rfl | rfl | rfl | rfl <;> decide
theorem BoundTries : armisticelaw26_BoundTries.Pure := by
  intro a0 a1 h0 h1
  have h0 := bounds_i64 h0
  have h1 := bounds_i64 h1
  obtain ⟨k, hk, k0, k1⟩ := pick_ok a0 20 (by omega) (by omega) h0.1 h0.2
  obtain ⟨p, hp, p0, p1⟩ := pick_ok a1 1001 (by omega) (by omega) h1.1 h1.2
  refine Ev.rounds (g := fun n => armisticelaw26_BoundTries.f n a0 a1) ?_
  unfold armisticelaw26_BoundTries.f
  refine Ev.bind known_eq ?_
  rw [hk, hp]
  simp only [Option.bind_some]
  obtain ⟨n, rfl⟩ := Int.eq_ofNat_of_zero_le k0
  have ht : ∀ m : Nat, m ≤ 19 → bound_Tries.f m = some (tr m, true) := fun m hm => by
    unfold bound_Tries.f
    rw [if_pos (by omega)]
    rfl
  rw [ht n (by omega)]
  simp only [Option.bind_some, if_true]
  -- what is asked last: the bound
  have last : Ev (fun j => (bound_Of.f j n p).bind fun bt => if bt.2 = true then if wrap64 (p + 1) = 0 then none else some (decide (tr n ≤ wrap64 (Int.tdiv bt.1 (wrap64 (p + 1))))) else some true) true := by
    refine Ev.bind (of_eq n p) ?_
    have hf := fac_bound n (by omega)
    have htb := tr_bound n (by omega)
    have htf := tr_fac n (by omega)
    unfold ofS
    rw [show (Int.toNat (n : Int)) = n from rfl, w64 (x := p + 1) (by omega) (by omega)]
    by_cases c : 0 ≤ (n : Int) ∧ (n : Int) ≤ 20 ∧ 0 ≤ p ∧ p < CAP ∧ fac n * ((n : Int) + 1) * (p + 1) ≤ CAP
    · simp only [if_pos c, if_true]
      rw [if_neg (by omega)]
      have hq : 0 ≤ fac n * ((n : Int) + 1) := Int.mul_nonneg (by omega) (by omega)
      have e : Int.tdiv (fac n * ((n : Int) + 1) * (p + 1)) (p + 1) = fac n * ((n : Int) + 1) := Int.mul_tdiv_cancel _ (by omega)
      have hle : fac n * ((n : Int) + 1) * 1 ≤ fac n * ((n : Int) + 1) * (p + 1) := Int.mul_le_mul_of_nonneg_left (by omega) hq
      have hc := c.2.2.2.2
      rw [cap_eq] at hc
      rw [e, w64 (by omega) (by omega), decide_eq_true htf]
      exact Ev.now _
    · simp only [if_neg c]
      exact Ev.now _
  have j1 : Ev (fun j => armisticelaw26_BoundTries.j1 j n p true (tr n) true false) true := by
    refine Ev.step (f := fun j => (bound_Of.f j n p).bind fun bt => if bt.2 = true then if wrap64 (p + 1) = 0 then none else some (decide (tr n ≤ wrap64 (Int.tdiv bt.1 (wrap64 (p + 1))))) else some true) (fun j => ?_) last
    simp only [armisticelaw26_BoundTries.j1, if_true, Bool.false_eq_true, if_false]
  have j1' : 0 < n → Ev (fun j => armisticelaw26_BoundTries.j1 j n p true (tr n) true true) true := fun hn => by
    obtain ⟨m, rfl⟩ : ∃ m, n = m + 1 := ⟨n - 1, by omega⟩
    refine Ev.step (f := fun j => (bound_Of.f j (m + 1 : Nat) p).bind fun bt => if bt.2 = true then if wrap64 (p + 1) = 0 then none else some (decide (tr (m + 1) ≤ wrap64 (Int.tdiv bt.1 (wrap64 (p + 1))))) else some true) (fun j => ?_) last
    have hb := tr_bound m (by omega)
    have hb2 := tr_bound (m + 1) (by omega)
    have e : ((m + 1 : Nat) : Int) * (tr m + 1) = tr (m + 1) := by
      rw [Int.mul_comm]
      show (tr m + 1) * ((m + 1 : Nat) : Int) = (tr m + 1) * ((m : Int) + 1)
      rfl
    simp only [armisticelaw26_BoundTries.j1, if_true]
    rw [w64 (x := ((m + 1 : Nat) : Int) - 1) (by omega) (by omega), show ((m + 1 : Nat) : Int) - 1 = m by omega, ht m (by omega)]
    simp only [Option.bind_some, if_true]
    rw [w64 (x := tr m + 1) (by omega) (by omega), e, w64 (x := tr (m + 1)) (by omega) (by omega), if_pos rfl]
  have j0 : Ev (fun j => armisticelaw26_BoundTries.j0 j n p true (tr n) true false) true := by
    refine Ev.step (f := fun j => if (n : Int) > 0 then armisticelaw26_BoundTries.j1 j n p true (tr n) true true else armisticelaw26_BoundTries.j1 j n p true (tr n) true false) (fun j => by simp only [armisticelaw26_BoundTries.j0, Bool.false_eq_true, if_false]) ?_
    by_cases c : (n : Int) > 0
    · simp only [if_pos c]
      exact j1' (by omega)
    · simp only [if_neg c]
      exact j1
  by_cases c : (n : Int) ≤ 8
  · simp only [if_pos c]
    refine Ev.bind (counted_eq n (by omega)) ?_
    simp only [bne_self_eq_false]
    exact j0
  · simp only [if_neg c]
    exact j0

end Go.Proofs.Ytfpllpgfdanhnaa.Pure
