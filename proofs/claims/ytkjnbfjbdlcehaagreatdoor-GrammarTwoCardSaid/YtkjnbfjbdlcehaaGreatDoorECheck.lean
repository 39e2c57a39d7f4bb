/- operation.Check: which operations may be. -/
import Derived.Test.YtkjnbfjbdlcehaaGreatDoorEBy2
namespace Go.Proofs.YtkjnbfjbdlcehaaGreatDoor.P
open Go.RowKit Go.Proofs.YtkjnbfjbdlcehaaGreatDoorW.PrintWords Go.Proofs.YtkjnbfjbdlcehaaGreatDoorW.PrintLast Go.Proofs.YtkjnbfjbdlcehaaGreatDoorW.PrintMore
set_option linter.unusedVariables false
set_option linter.unusedSimpArgs false

/-- What the five functions tell. -/
def fnP (f : Nat) (n : Int) : Bool :=
  if f = 130 then true
  else if f = 133 then decide (n = 0 ∨ n = 1)
  else if f = 131 then false
  else decide (0 ≤ n ∧ n ≤ 4611686018427387904)
theorem fnP_any1 (n : Int) : fnP 130 n = true := rfl
theorem fnP_no (n : Int) : fnP 131 n = false := rfl
theorem fnP_truth (n : Int) : fnP 133 n = decide (n = 0 ∨ n = 1) := rfl
theorem fnP_above (n : Int) : fnP 134 n = decide (0 ≤ n ∧ n ≤ 4611686018427387904) := rfl
theorem fnP_money (n : Int) : fnP 137 n = decide (0 ≤ n ∧ n ≤ 4611686018427387904) := rfl
set_option maxRecDepth 100000 in
theorem any1_calls (n : Int) (w : World) : Calls Tryz.prog 130 #[.int .i64 n] w fun e w' => e = .returned (.bool (fnP 130 n)) ∧ w' = w := by
  go_enter Tryz.func130, Tryz.ntmps130
  go_wp2
  refine bodyPost_ret (results_tmp rfl _ _ _) rfl ?_
  exact ⟨rfl, rfl⟩
set_option maxRecDepth 100000 in
theorem no_calls (n : Int) (w : World) : Calls Tryz.prog 131 #[.int .i64 n] w fun e w' => e = .returned (.bool (fnP 131 n)) ∧ w' = w := by
  go_enter Tryz.func131, Tryz.ntmps131
  go_wp2
  refine bodyPost_ret (results_tmp rfl _ _ _) rfl ?_
  exact ⟨rfl, rfl⟩
set_option maxRecDepth 100000 in
theorem truth_calls (n : Int) (w : World) : Calls Tryz.prog 133 #[.int .i64 n] w fun e w' => e = .returned (.bool (fnP 133 n)) ∧ w' = w := by
  go_enter Tryz.func133, Tryz.ntmps133
  go_wp2
  all_goals refine bodyPost_ret (results_tmp rfl _ _ _) rfl ?_
  all_goals refine ⟨?_, rfl⟩
  all_goals (refine congrArg (fun b => Ending.returned (Value.bool b)) (Bool.eq_iff_iff.2 ?_); try simp only [fnP_any1, fnP_no, fnP_truth, fnP_above, fnP_money, Bool.and_true, Bool.and_false, Bool.and_eq_true, Bool.or_eq_true, Bool.or_eq_false_iff, Bool.and_eq_false_iff, decide_eq_true_eq, decide_eq_false_iff_not, beq_iff_eq, beq_eq_false_iff_ne, ne_eq, Bool.false_eq_true, Bool.true_eq_false, false_and, and_false, true_and, and_true, iff_true, true_iff, iff_false, false_iff] at * <;> omega)
set_option maxRecDepth 100000 in
theorem above_calls (n : Int) (w : World) : Calls Tryz.prog 134 #[.int .i64 n] w fun e w' => e = .returned (.bool (fnP 134 n)) ∧ w' = w := by
  go_enter Tryz.func134, Tryz.ntmps134
  go_wp2
  all_goals refine bodyPost_ret (results_tmp rfl _ _ _) rfl ?_
  all_goals refine ⟨?_, rfl⟩
  all_goals (refine congrArg (fun b => Ending.returned (Value.bool b)) (Bool.eq_iff_iff.2 ?_); try simp only [fnP_any1, fnP_no, fnP_truth, fnP_above, fnP_money, Bool.and_true, Bool.and_false, Bool.and_eq_true, Bool.or_eq_true, Bool.or_eq_false_iff, Bool.and_eq_false_iff, decide_eq_true_eq, decide_eq_false_iff_not, beq_iff_eq, beq_eq_false_iff_ne, ne_eq, Bool.false_eq_true, Bool.true_eq_false, false_and, and_false, true_and, and_true, iff_true, true_iff, iff_false, false_iff] at * <;> omega)
set_option maxRecDepth 100000 in
theorem money_calls (n : Int) (w : World) : Calls Tryz.prog 137 #[.int .i64 n] w fun e w' => e = .returned (.bool (fnP 137 n)) ∧ w' = w := by
  go_enter Tryz.func137, Tryz.ntmps137
  go_wp2
  all_goals refine bodyPost_ret (results_tmp rfl _ _ _) rfl ?_
  all_goals refine ⟨?_, rfl⟩
  all_goals (refine congrArg (fun b => Ending.returned (Value.bool b)) (Bool.eq_iff_iff.2 ?_); try simp only [fnP_any1, fnP_no, fnP_truth, fnP_above, fnP_money, Bool.and_true, Bool.and_false, Bool.and_eq_true, Bool.or_eq_true, Bool.or_eq_false_iff, Bool.and_eq_false_iff, decide_eq_true_eq, decide_eq_false_iff_not, beq_iff_eq, beq_eq_false_iff_ne, ne_eq, Bool.false_eq_true, Bool.true_eq_false, false_and, and_false, true_and, and_true, iff_true, true_iff, iff_false, false_iff] at * <;> omega)
def argsP (x : Kd1) (a b : Int) : Bool := (decide (0 < x.args) || a == 0) && (decide (1 < x.args) || b == 0) && fnP x.arg a
set_option maxHeartbeats 1000000 in
set_option maxRecDepth 100000 in
theorem arguments_calls (x : Kd1) (hx : x.arg = 130 ∨ x.arg = 137) (a b : Int) (w : World) :
    Calls Tryz.prog 67 #[aggK x, .int .i64 a, .int .i64 b] w fun e w' => e = .returned (.bool (argsP x a b)) ∧ Below w.heap.size w w' := by
  obtain ⟨n, typ, word, args, ret, arg, done, nothing⟩ := x
  unfold argsP
  simp only at hx ⊢
  rcases hx with rfl | rfl
  · unfold aggK encK
    go_enter Tryz.func67, Tryz.ntmps67
    go_wp2
    all_goals refine bodyPost_ret (results_tmp rfl _ _ _) rfl ?_
    all_goals refine ⟨?_, (Below.refl _ w).alloc (Nat.le_refl _) _⟩
    all_goals (refine congrArg (fun b => Ending.returned (Value.bool b)) (Bool.eq_iff_iff.2 ?_); try simp only [fnP_any1, fnP_no, fnP_truth, fnP_above, fnP_money, Bool.and_true, Bool.and_false, Bool.and_eq_true, Bool.or_eq_true, Bool.or_eq_false_iff, Bool.and_eq_false_iff, decide_eq_true_eq, decide_eq_false_iff_not, beq_iff_eq, beq_eq_false_iff_ne, ne_eq, Bool.false_eq_true, Bool.true_eq_false, false_and, and_false, true_and, and_true, iff_true, true_iff, iff_false, false_iff] at * <;> omega)
  · unfold aggK encK
    go_enter Tryz.func67, Tryz.ntmps67
    go_wp2
    all_goals refine bodyPost_ret (results_tmp rfl _ _ _) rfl ?_
    all_goals refine ⟨?_, (Below.refl _ w).alloc (Nat.le_refl _) _⟩
    all_goals (refine congrArg (fun b => Ending.returned (Value.bool b)) (Bool.eq_iff_iff.2 ?_); try simp only [fnP_any1, fnP_no, fnP_truth, fnP_above, fnP_money, Bool.and_true, Bool.and_false, Bool.and_eq_true, Bool.or_eq_true, Bool.or_eq_false_iff, Bool.and_eq_false_iff, decide_eq_true_eq, decide_eq_false_iff_not, beq_iff_eq, beq_eq_false_iff_ne, ne_eq, Bool.false_eq_true, Bool.true_eq_false, false_and, and_false, true_and, and_true, iff_true, true_iff, iff_false, false_iff] at * <;> omega)
def retP (x : Kd1) (rk rn : Int) : Bool := if rk = 0 ∧ rn = 0 then x.done else if rk = 1 ∧ rn = 0 then x.nothing else (rk == 2 && fnP x.ret rn)
set_option maxHeartbeats 1000000 in
set_option maxRecDepth 100000 in
theorem returned_calls (x : Kd1) (hx : x.ret = 130 ∨ x.ret = 133 ∨ x.ret = 131 ∨ x.ret = 134 ∨ x.ret = 137) (rk rn : Int) (w : World) :
    Calls Tryz.prog 68 #[aggK x, .agg #[.int .i64 rk, .int .i64 rn]] w fun e w' => e = .returned (.bool (retP x rk rn)) ∧ Below w.heap.size w w' := by
  obtain ⟨n, typ, word, args, ret, arg, done, nothing⟩ := x
  have hu25 := Tryz.underlying31
  unfold retP
  simp only at hx ⊢
  by_cases c0 : rk = 0 ∧ rn = 0
  · rw [if_pos c0]
    obtain ⟨rfl, rfl⟩ := c0
    clear hx
    unfold aggK encK
    go_enter Tryz.func68, Tryz.ntmps68
    go_wp2
    all_goals refine bodyPost_ret (results_tmp rfl _ _ _) rfl ?_
    all_goals exact ⟨rfl, ((Below.refl _ w).alloc (Nat.le_refl _) _).alloc (by simp) _⟩
  · rw [if_neg c0]
    by_cases c1 : rk = 1 ∧ rn = 0
    · rw [if_pos c1]
      obtain ⟨rfl, rfl⟩ := c1
      clear hx c0
      unfold aggK encK
      go_enter Tryz.func68, Tryz.ntmps68
      go_wp2
      all_goals refine bodyPost_ret (results_tmp rfl _ _ _) rfl ?_
      all_goals exact ⟨rfl, ((Below.refl _ w).alloc (Nat.le_refl _) _).alloc (by simp) _⟩
    · rw [if_neg c1]
      rcases hx with rfl | rfl | rfl | rfl | rfl
      all_goals unfold aggK encK
      all_goals go_enter Tryz.func68, Tryz.ntmps68
      all_goals go_wp2
      all_goals refine bodyPost_ret (results_tmp rfl _ _ _) rfl ?_
      all_goals refine ⟨?_, ((Below.refl _ w).alloc (Nat.le_refl _) _).alloc (by simp) _⟩
      all_goals (refine congrArg (fun b => Ending.returned (Value.bool b)) (Bool.eq_iff_iff.2 ?_); try simp only [fnP_any1, fnP_no, fnP_truth, fnP_above, fnP_money, Bool.and_true, Bool.and_false, Bool.and_eq_true, Bool.or_eq_true, Bool.or_eq_false_iff, Bool.and_eq_false_iff, decide_eq_true_eq, decide_eq_false_iff_not, beq_iff_eq, beq_eq_false_iff_ne, ne_eq, Bool.false_eq_true, Bool.true_eq_false, false_and, and_false, true_and, and_true, iff_true, true_iff, iff_false, false_iff] at * <;> omega)
theorem kinds_args : ∀ x ∈ kinds15, x.arg = 130 ∨ x.arg = 137 := by decide
theorem kinds_rets : ∀ x ∈ kinds15, x.ret = 130 ∨ x.ret = 133 ∨ x.ret = 131 ∨ x.ret = 134 ∨ x.ret = 137 := by decide
theorem kdOf_mem (N : Int) (h : 1 ≤ N ∧ N ≤ 15) : kinds15[(N - 1).toNat]! ∈ kinds15 := by
  have hl : (N - 1).toNat < kinds15.length := by simp [kinds15]; omega
  rw [getElem!_pos kinds15 _ hl]
  exact List.getElem_mem hl
def operation_Check.f (k a b rk rn : Int) : Option Int :=
  some (if 1 ≤ k ∧ k ≤ 15 then (if argsP (kdOf k) a b = true then (if retP (kdOf k) rk rn = true then 0 else 9) else 2) else 6)
set_option maxHeartbeats 2000000 in
set_option maxRecDepth 100000 in
theorem operation_Check.calls (k a b rk rn r : Int) (w : World) (h : operation_Check.f k a b rk rn = some r) :
    Calls Tryz.prog 42 #[.agg #[.int .i64 k, .int .i64 a, .int .i64 b, .int .i64 rk, .int .i64 rn]] w fun e w' => e = .returned (.int .i64 r) ∧ Below w.heap.size w w' := by
  unfold operation_Check.f at h
  simp only [Option.some.injEq] at h
  subst h
  have HF := fun W => by_calls k W
  unfold byK byE at HF
  unfold kdOf
  by_cases h : 1 ≤ k ∧ k ≤ 15
  · simp only [if_pos h] at HF ⊢
    have hm := kdOf_mem k h
    obtain ⟨x, hx⟩ : ∃ x, Aside0 (kinds15[(k - 1).toNat]! = x) := ⟨_, ⟨rfl⟩⟩
    rw [hx.out] at HF hm ⊢
    have HA := Aside0.mk (fun W => arguments_calls x (kinds_args x hm) a b W)
    have HR := Aside0.mk (fun W => returned_calls x (kinds_rets x hm) rk rn W)
    have HH := Aside0.mk HF
    clear HF h hm
    unfold aggK encK at HH HA HR
    go_enter Tryz.func42, Tryz.ntmps42
    go_wp2_with fail
    refine (HH.out _).mono ?_
    rintro e w2 ⟨rfl, hb2⟩
    have hz := blk_below (blk_new w _) hb2
    have c0 := (blk_cell hz 0).trans rfl
    have c1 := (blk_cell hz 1).trans rfl
    have c2 := (blk_cell hz 2).trans rfl
    have c3 := (blk_cell hz 3).trans rfl
    have c4 := (blk_cell hz 4).trans rfl
    have HZ2 := Aside0.mk hz
    have HB2 := Aside0.mk hb2
    have hBW : w.heap.size < w2.heap.size := Nat.lt_of_lt_of_le (by simp) hb2.size
    clear hz hb2
    by_cases ca : argsP x a b = true
    · simp only [if_pos ca]
      go_wp2_with fail
      refine (HA.out _).mono ?_
      rintro e w3 ⟨rfl, hb3⟩
      have hy := blk_below (blk_new w2 _) hb3
      have hz3 := blk_below HZ2.out (((Below.refl _ w2).alloc (Nat.le_refl _) _).trans (hb3.mono (by simp)))
      have d0 := (blk_cell hz3 0).trans rfl
      have d1 := (blk_cell hz3 1).trans rfl
      have d2 := (blk_cell hz3 2).trans rfl
      have d3 := (blk_cell hz3 3).trans rfl
      have d4 := (blk_cell hz3 4).trans rfl
      have e0 := (blk_cell hy 0).trans rfl
      have e1 := (blk_cell hy 1).trans rfl
      have e2 := (blk_cell hy 2).trans rfl
      have e3 := (blk_cell hy 3).trans rfl
      have e4 := (blk_cell hy 4).trans rfl
      have e5 := (blk_cell hy 5).trans rfl
      have e6 := (blk_cell hy 6).trans rfl
      have e7 := (blk_cell hy 7).trans rfl
      have HB3 := Aside0.mk ((((Below.refl _ w).alloc (Nat.le_refl _) _).trans (HB2.out.mono (by simp))).trans ((((Below.refl _ w2).alloc (Nat.le_refl _) _).trans (hb3.mono (by simp))).mono (by have := HB2.out.size; simp at this; omega)))
      clear hz3 hy hb3
      simp only [ca]
      go_wp2_with fail
      refine (HR.out _).mono ?_
      rintro e w4 ⟨rfl, hb4⟩
      have HB4 := Aside0.mk (HB3.out.trans (hb4.mono HB3.out.size))
      clear hb4
      by_cases cr : retP x rk rn = true
      · simp only [if_pos cr, cr]
        go_wp2
        refine bodyPost_ret (results_tmp rfl _ _ _) rfl ?_
        exact ⟨rfl, HB4.out⟩
      · have cr' := Bool.eq_false_iff.2 cr
        simp only [if_neg cr, cr']
        go_wp2
        refine bodyPost_ret (results_tmp rfl _ _ _) rfl ?_
        exact ⟨rfl, HB4.out⟩
    · have ca' := Bool.eq_false_iff.2 ca
      simp only [if_neg ca]
      go_wp2_with fail
      refine (HA.out _).mono ?_
      rintro e w3 ⟨rfl, hb3⟩
      have hy := blk_below (blk_new w2 _) hb3
      have hz3 := blk_below HZ2.out (((Below.refl _ w2).alloc (Nat.le_refl _) _).trans (hb3.mono (by simp)))
      have d0 := (blk_cell hz3 0).trans rfl
      have d1 := (blk_cell hz3 1).trans rfl
      have d2 := (blk_cell hz3 2).trans rfl
      have d3 := (blk_cell hz3 3).trans rfl
      have d4 := (blk_cell hz3 4).trans rfl
      have e0 := (blk_cell hy 0).trans rfl
      have e1 := (blk_cell hy 1).trans rfl
      have e2 := (blk_cell hy 2).trans rfl
      have e3 := (blk_cell hy 3).trans rfl
      have e4 := (blk_cell hy 4).trans rfl
      have e5 := (blk_cell hy 5).trans rfl
      have e6 := (blk_cell hy 6).trans rfl
      have e7 := (blk_cell hy 7).trans rfl
      have HB3 := Aside0.mk ((((Below.refl _ w).alloc (Nat.le_refl _) _).trans (HB2.out.mono (by simp))).trans ((((Below.refl _ w2).alloc (Nat.le_refl _) _).trans (hb3.mono (by simp))).mono (by have := HB2.out.size; simp at this; omega)))
      clear hz3 hy hb3
      simp only [ca']
      go_wp2
      refine bodyPost_ret (results_tmp rfl _ _ _) rfl ?_
      exact ⟨rfl, HB3.out⟩
  · simp only [if_neg h] at HF ⊢
    have HH := Aside0.mk HF
    clear HF h
    unfold zeroK at HH
    go_enter Tryz.func42, Tryz.ntmps42
    go_wp2_with fail
    refine (HH.out _).mono ?_
    rintro e w2 ⟨rfl, hb2⟩
    have HB2 := Aside0.mk hb2
    clear hb2
    go_wp2
    refine bodyPost_ret (results_tmp rfl _ _ _) rfl ?_
    exact ⟨rfl, (((Below.refl _ w).alloc (Nat.le_refl _) _).trans (HB2.out.mono (by simp))).alloc (by have := HB2.out.size; simp at this; omega) _⟩
end Go.Proofs.YtkjnbfjbdlcehaaGreatDoor.P
