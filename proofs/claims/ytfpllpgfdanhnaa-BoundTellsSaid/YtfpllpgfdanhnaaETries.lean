/- What bound.Tries comes to: from 0 to 19 how many beginnings of orders there are, nothing else. Every input. -/
import Derived.Test.YtfpllpgfdanhnaaEFact
namespace Go.Proofs.Ytfpllpgfdanhnaa.P
open Go.RowKit Go.Proofs.YtfpllpgfdanhnaaW.PrintWords Go.Proofs.YtfpllpgfdanhnaaW.PrintLast Go.Proofs.YtfpllpgfdanhnaaW.PrintMore
set_option linter.unusedVariables false
set_option linter.unusedSimpArgs false

def tr : Nat → Int
  | 0 => 0
  | n + 1 => (tr n + 1) * (n + 1)
def triesB (n : Nat) : Int × Bool := if n ≤ 19 then (tr n, true) else (0, false)
def bound_Tries.f (a0 : Int) : Option (Int × Bool) := some (if 0 ≤ a0 ∧ a0 ≤ 19 then (tr a0.toNat, true) else (0, false))

theorem tr_bound (n : Nat) (h : n ≤ 19) : 0 ≤ tr n ∧ tr n ≤ 1000000000000000000 := by
  have : n = 0 ∨ n = 1 ∨ n = 2 ∨ n = 3 ∨ n = 4 ∨ n = 5 ∨ n = 6 ∨ n = 7 ∨ n = 8 ∨ n = 9 ∨ n = 10 ∨ n = 11 ∨ n = 12 ∨ n = 13 ∨ n = 14 ∨ n = 15 ∨ n = 16 ∨ n = 17 ∨ n = 18 ∨ n = 19 := by omega
  rcases this with rfl | rfl | rfl | rfl | rfl | rfl | rfl | rfl | rfl | rfl | rfl | rfl | rfl | rfl | rfl | rfl | rfl | rfl | rfl | rfl <;> decide
theorem product_tr (n : Nat) (h : n ≤ 19) : bound_product.f 3 [tr n + 1, ((n + 1 : Nat) : Int)] = some (triesB (n + 1)) := by
  have hb := tr_bound n h
  rw [show ((n + 1 : Nat) : Int) = (n : Int) + 1 by omega]
  rw [product_two _ _ (by omega) (by omega) (by omega) (by omega)]
  unfold triesB
  by_cases c : n + 1 ≤ 19
  · have hb2 := tr_bound (n + 1) c
    rw [if_pos c]
    show some (if tr (n + 1) ≤ _ then (tr (n + 1), true) else _) = _
    rw [if_pos (by omega)]
  · have e : n = 19 := by omega
    subst e
    rw [if_neg c, if_neg (by decide)]

theorem assert_again (v : Value) (W : World) : (Instr.typeAssert (.iface 35 v) 20 35 false).run Try.prog W = .ok v W := by rfl

set_option maxHeartbeats 1000000 in
set_option maxRecDepth 100000 in
theorem tries_self (n : Nat) : n ≤ 64 → ∀ (r1 : Int) (r2 : Bool) (w : World) (h : triesB n = (r1, r2)),
    Calls Try.prog 26 #[.iface 35 (.func (.func 26) #[] #[]), .int .i64 n] w fun e w' => e = .returned (.tuple #[.int .i64 r1, .bool r2]) ∧ Below w.heap.size w w' := by
  induction n with
  | zero =>
    intro _ r1 r2 w h
    have e : triesB 0 = (0, true) := rfl
    rw [e] at h
    simp only [Prod.mk.injEq] at h
    obtain ⟨rfl, rfl⟩ := h
    clear e
    go_enter Try.func26, Try.ntmps26
    go_wp2
    go_ret2
    exact ⟨rfl, Below.refl _ _⟩
  | succ n ih =>
    intro hn r1 r2 w h
    have IH := Aside0.mk (ih (by omega))
    clear ih
    have H := Aside0.mk h
    clear h
    have c0 : (((n + 1 : Nat) : Int) == 0) = false := beq_eq_false_iff_ne.2 (by omega)
    have c1 : ((n : Int) + 1 == 0) = false := beq_eq_false_iff_ne.2 (by omega)
    have hta := assert_again
    by_cases c : n ≤ 19
    · have hp := product_tr n c
      rw [H.out] at hp
      have HP := Aside0.mk hp
      clear hp
      have ht : triesB n = (tr n, true) := by unfold triesB; rw [if_pos c]
      have HT := Aside0.mk ht
      clear ht
      have hb := tr_bound n c
      go_enter Try.func26, Try.ntmps26
      go_wp2_with fail
      refine (IH.out _ _ _ HT.out).mono ?_
      rintro e w1 ⟨rfl, hb1⟩
      have HB := Aside0.mk hb1
      clear hb1
      go_wp2_with fail
      refine (product_call _ _ _ _ _ _ ?c0 ?c1 HP.out).mono ?_
      case c0 => go_simp
      case c1 => go_simp
      rintro e w2 ⟨rfl, ⟨nd, rfl⟩⟩
      go_wp2
      go_ret2
      exact ⟨rfl, pw_below_drewN (HB.out.alloc HB.out.size _) _⟩
    · have ht : triesB n = (0, false) := by unfold triesB; rw [if_neg c]
      have HT := Aside0.mk ht
      clear ht
      have h2 := H.out
      unfold triesB at h2
      rw [if_neg (by omega)] at h2
      simp only [Prod.mk.injEq] at h2
      obtain ⟨rfl, rfl⟩ := h2
      go_enter Try.func26, Try.ntmps26
      go_wp2_with fail
      refine (IH.out _ _ _ HT.out).mono ?_
      rintro e w1 ⟨rfl, hb1⟩
      have HB := Aside0.mk hb1
      clear hb1
      go_wp2
      go_ret2
      exact ⟨rfl, HB.out⟩

set_option maxHeartbeats 1000000 in
set_option maxRecDepth 100000 in
theorem bound_Tries.calls (a0 : Int) (r1 : Int) (r2 : Bool) (w : World) (h : bound_Tries.f a0 = some (r1, r2)) :
    Calls Try.prog 10 #[.int .i64 a0] w fun e w' => e = .returned (.tuple #[.int .i64 r1, .bool r2]) ∧ Below w.heap.size w w' := by
  unfold bound_Tries.f at h
  replace h := Option.some.inj h
  by_cases c0 : a0 < 0
  · rw [if_neg (by omega)] at h
    simp only [Prod.mk.injEq] at h
    obtain ⟨rfl, rfl⟩ := h
    go_enter Try.func10, Try.ntmps10
    go_wp2
    go_ret2
    exact ⟨rfl, Below.refl _ _⟩
  · by_cases c1 : 64 < a0
    · rw [if_neg (by omega)] at h
      simp only [Prod.mk.injEq] at h
      obtain ⟨rfl, rfl⟩ := h
      go_enter Try.func10, Try.ntmps10
      go_wp2
      go_ret2
      exact ⟨rfl, Below.refl _ _⟩
    · obtain ⟨n, rfl⟩ := Int.eq_ofNat_of_zero_le (show 0 ≤ a0 by omega)
      have ht : triesB n = (r1, r2) := by
        rw [← h]
        unfold triesB
        by_cases c : n ≤ 19
        · rw [if_pos c, if_pos (by omega)]; rfl
        · rw [if_neg c, if_neg (by omega)]
      have IH := Aside0.mk (tries_self n (by omega) r1 r2 w ht)
      clear h ht
      go_enter Try.func10, Try.ntmps10
      go_wp2_with fail
      refine IH.out.mono ?_
      rintro e w1 ⟨rfl, hb1⟩
      have HB := Aside0.mk hb1
      clear hb1
      go_wp2
      go_ret2
      exact ⟨rfl, HB.out⟩
end Go.Proofs.Ytfpllpgfdanhnaa.P
