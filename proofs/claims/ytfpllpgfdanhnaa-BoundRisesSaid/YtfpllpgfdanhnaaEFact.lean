/- What bound.Fact comes to: k! from 0 to 20, nothing else. Every input. -/
import Derived.Test.YtfpllpgfdanhnaaPx1
import Derived.WalkMore
namespace Go.Proofs.Ytfpllpgfdanhnaa.P
open Go.RowKit Go.Proofs.YtfpllpgfdanhnaaW.PrintWords Go.Proofs.YtfpllpgfdanhnaaW.PrintLast Go.Proofs.YtfpllpgfdanhnaaW.PrintMore
set_option linter.unusedVariables false
set_option linter.unusedSimpArgs false

def fac : Nat → Int
  | 0 => 1
  | n + 1 => fac n * (n + 1)
def bound_Fact.f (a0 : Int) : Option (Int × Bool) := some (if 0 ≤ a0 ∧ a0 ≤ 20 then (fac a0.toNat, true) else (0, false))

theorem over_cap (x y : Int) (hy : 0 < y) : (x > wrap64 (Int.tdiv (4611686018427387904 : Int) y)) ↔ 4611686018427387904 < x * y := by
  have e : Int.tdiv (4611686018427387904 : Int) y = 4611686018427387904 / y := Int.tdiv_eq_ediv_of_nonneg (by omega)
  have h0 : 0 ≤ (4611686018427387904 : Int) / y := Int.ediv_nonneg (by omega) (by omega)
  have h1 : (4611686018427387904 : Int) / y ≤ 4611686018427387904 := Int.ediv_le_self _ (by omega)
  have w : wrap64 ((4611686018427387904 : Int) / y) = 4611686018427387904 / y := by unfold wrap64; omega
  rw [e, w]
  exact Int.ediv_lt_iff_lt_mul hy
/-- The product of two numbers, as product tells it. -/
theorem product_two (x y : Int) (hx : 0 ≤ x) (hx2 : x ≤ 4611686018427387904) (hy : 0 < y) (hy2 : y ≤ 4611686018427387904) :
    bound_product.f 3 [x, y] = some (if x * y ≤ 4611686018427387904 then (x * y, true) else (0, false)) := by
  have w1 : wrap64 x = x := by unfold wrap64; omega
  have s0 : rd [x, y] 0 = x := rfl
  have s1 : rd [x, y] 1 = y := rfl
  have r1 : bound_product.f 3 [x, y] = bound_product.l0 2 x [x, y] 2 1 := by
    simp only [bound_product.f, bound_product.l0, List.length_cons, List.length_nil]
    rw [if_pos (by omega), if_pos (by omega), if_pos (by omega), s0, Int.one_mul, w1, show wrap64 (0 + 1) = 1 by unfold wrap64; omega]
    by_cases e : x = 0
    · rw [if_pos e]; rfl
    · rw [if_neg e, if_neg (by rw [over_cap _ _ (by omega)]; omega)]; rfl
  rw [r1]
  simp only [bound_product.l0, List.length_cons, List.length_nil]
  rw [if_pos (by omega), if_pos (by omega), if_pos (by omega), s1, if_neg (by omega)]
  simp only [over_cap x y hy]
  rw [show wrap64 (1 + 1) = 2 by unfold wrap64; omega]
  have hp : 0 ≤ x * y := Int.mul_nonneg hx (by omega)
  generalize x * y = p at hp ⊢
  by_cases e : 4611686018427387904 < p
  · rw [if_pos e, if_neg (by omega)]
  · have w2 : wrap64 p = p := by unfold wrap64; omega
    rw [if_neg e, if_neg (by omega), if_pos (by omega), w2]
theorem fac_bound (n : Nat) (h : n ≤ 20) : 1 ≤ fac n ∧ fac n ≤ 2432902008176640000 := by
  have : n = 0 ∨ n = 1 ∨ n = 2 ∨ n = 3 ∨ n = 4 ∨ n = 5 ∨ n = 6 ∨ n = 7 ∨ n = 8 ∨ n = 9 ∨ n = 10 ∨ n = 11 ∨ n = 12 ∨ n = 13 ∨ n = 14 ∨ n = 15 ∨ n = 16 ∨ n = 17 ∨ n = 18 ∨ n = 19 ∨ n = 20 := by omega
  rcases this with rfl | rfl | rfl | rfl | rfl | rfl | rfl | rfl | rfl | rfl | rfl | rfl | rfl | rfl | rfl | rfl | rfl | rfl | rfl | rfl | rfl <;> decide

/-- product's contract at two numbers in one place. -/
theorem product_call (x y r1 : Int) (r2 : Bool) (a : Addr) (w : World) (h0 : w.cell? (a.add 0) = some (.int .i64 x)) (h1 : w.cell? (a.add 1) = some (.int .i64 y)) (h : bound_product.f 3 [x, y] = some (r1, r2)) :
    Calls Try.prog 24 #[.slice (some a) 2 2] w fun e w' => e = .returned (.tuple #[.int .i64 r1, .bool r2]) ∧ Drawn0 w w' := by
  refine bound_product.calls 3 (some a) 2 [x, y] r1 r2 w ?_ (by simp) h
  refine Kd.C_of_reads (d := (0 : Int)) (h1 := fun _ => rfl) ⟨rfl, by simp, fun _ => ⟨a, rfl, fun j hj => ?_⟩⟩
  have : j = 0 ∨ j = 1 := by simp at hj; omega
  rcases this with rfl | rfl
  · exact h0
  · exact h1

set_option maxHeartbeats 1000000 in
set_option maxRecDepth 100000 in
theorem bound_Fact.calls (a0 : Int) (r1 : Int) (r2 : Bool) (w : World) (h : bound_Fact.f a0 = some (r1, r2)) :
    Calls Try.prog 8 #[.int .i64 a0] w fun e w' => e = .returned (.tuple #[.int .i64 r1, .bool r2]) ∧ Below w.heap.size w w' := by
  unfold bound_Fact.f at h
  replace h := Option.some.inj h
  by_cases c0 : a0 < 0
  · rw [if_neg (by omega)] at h
    simp only [Prod.mk.injEq] at h
    obtain ⟨rfl, rfl⟩ := h
    go_enter Try.func8, Try.ntmps8
    go_wp2
    go_step3
    go_wp2
    rw [Exit.noGoto_ret]
    go_ret2
    exact ⟨rfl, Below.refl _ _⟩
  · have H := Aside0.mk h
    clear h
    go_enter Try.func8, Try.ntmps8
    go_wp2
    go_step3
    go_wp2
    go_step3
    go_wp2
    go_loopg [2, 3, 8] 22 (fun g v2 v3 v8 wr => ∃ i : Nat, i ≤ 20 ∧ (i : Int) ≤ a0 ∧ Aside0 (i + g = 22) ∧ v2 = .int .i64 (fac i) ∧ v3 = .bool true ∧ v8 = .int .i64 i ∧ Aside0 (Below w.heap.size w wr))
    case atStart => exact ⟨0, by omega, by omega, ⟨rfl⟩, rfl, rfl, rfl, ⟨Below.refl _ _⟩⟩
    case round =>
      obtain ⟨i, hi, hi2, hg, rfl, rfl, rfl, HB⟩ := hrel
      have hf := fac_bound i hi
      by_cases c1 : (i : Int) < a0
      · by_cases c2 : i < 20
        · have hf2 := fac_bound (i + 1) (by omega)
          have hp : bound_product.f 3 [fac i, (i : Int) + 1] = some (fac (i + 1), true) := by
            rw [product_two _ _ (by omega) (by omega) (by omega) (by omega)]
            show some (if fac (i + 1) ≤ _ then (fac (i + 1), true) else _) = _
            rw [if_pos (by omega)]
          have HP := Aside0.mk hp
          clear hp
          go_wp2_with fail
          refine (product_call _ _ _ _ _ _ ?c0 ?c1 HP.out).mono ?_
          case c0 => go_simp
          case c1 => go_simp
          rintro e w2 ⟨rfl, ⟨nd, rfl⟩⟩
          go_wp2
          go_roundg (gk - 1)
          case measure => have := hg.out; omega
          case rel => exact ⟨i + 1, by omega, by omega, ⟨by have := hg.out; omega⟩, rfl, rfl, by go_num, ⟨pw_below_drewN (HB.out.alloc HB.out.size _) _⟩⟩
        · have e20 : i = 20 := by omega
          subst e20
          have hp : bound_product.f 3 [fac 20, 21] = some (0, false) := by
            rw [product_two _ _ (by omega) (by omega) (by omega) (by omega), if_neg (by decide)]
          have HP := Aside0.mk hp
          clear hp
          go_wp2_with fail
          refine (product_call _ _ _ _ _ _ ?c2 ?c3 HP.out).mono ?_
          case c2 => go_simp
          case c3 => go_simp
          rintro e w2 ⟨rfl, ⟨nd, rfl⟩⟩
          go_wp2
          have hh := H.out
          rw [if_neg (by omega)] at hh
          simp only [Prod.mk.injEq] at hh
          obtain ⟨rfl, rfl⟩ := hh
          rw [Exit.noGoto_ret]
          go_ret2
          exact ⟨rfl, pw_below_drewN (HB.out.alloc HB.out.size _) _⟩
      · have hh := H.out
        have e1 : a0.toNat = i := by omega
        rw [if_pos (by omega), e1] at hh
        simp only [Prod.mk.injEq] at hh
        obtain ⟨rfl, rfl⟩ := hh
        go_wp2
        go_ret2
        exact ⟨rfl, HB.out⟩
end Go.Proofs.Ytfpllpgfdanhnaa.P
