/- Laid by a program of this session (wip/tools/xprint.py) after the kit's printer: functions of the translation as plain Lean functions, each with the proof that its call comes to just that. -/
import Derived.Test.YtfpllpgfdanhnaaPx0
import Derived.Test.YtfpllpgfdanhnaaPx1
import Derived.Test.YtfpllpgfdanhnaaPx2
import Derived.Test.YtfpllpgfdanhnaaETries
namespace Go.Proofs.Ytfpllpgfdanhnaa.P
open Go.RowKit Go.Proofs.YtfpllpgfdanhnaaW.PrintWords Go.Proofs.YtfpllpgfdanhnaaW.PrintLast Go.Proofs.YtfpllpgfdanhnaaW.PrintMore
attribute [local go_sem] max2_int min2_int max_two min_two max_three min_three max_four min_four   -- for this text's walks alone
set_option linter.unusedVariables false
set_option linter.unusedSimpArgs false

/-! ### armisticelaw26_BoundKnown: function 5 -/
def armisticelaw26_BoundKnown.j0 : Nat → Bool → Option (Bool)
  | 0, _ => none
  | k + 1, x1 => (armisticelaw26_awake.f k).bind fun t162 => (if t162 = true then (if x1 = true then ((armisticelaw26_of.f k 0 0 1 true).bind fun t163 => (if t163 = true then ((armisticelaw26_of.f k 19 0 2432902008176640000 true).bind fun t164 => (if t164 = true then ((armisticelaw26_of.f k 20 0 0 false).bind fun t165 => (if t165 = true then ((armisticelaw26_of.f k 2 (-1) 0 false).bind fun t166 => (if t166 = true then ((bound_Most.f k 0 0).bind fun t167 => (if t167 = (-1) then ((bound_Most.f k 1 0).bind fun t168 => (some (t168 == 0))) else (some false))) else (some false))) else (some false))) else (some false))) else (some false))) else (some false)) else (some false))
def armisticelaw26_BoundKnown.f (k : Nat)  : Option (Bool) := (armisticelaw26_fact.f 0 1 true).bind fun t155 => (if t155 = true then ((armisticelaw26_fact.f 20 2432902008176640000 true).bind fun t156 => (if t156 = true then ((armisticelaw26_fact.f 21 0 false).bind fun t157 => (if t157 = true then ((armisticelaw26_fact.f (-1) 0 false).bind fun t158 => (if t158 = true then ((armisticelaw26_tries.f 0 0).bind fun t159 => (if t159 = true then ((armisticelaw26_tries.f 1 1).bind fun t160 => (if t160 = true then ((armisticelaw26_tries.f 2 4).bind fun t161 => (armisticelaw26_BoundKnown.j0 k t161)) else (armisticelaw26_BoundKnown.j0 k false))) else (armisticelaw26_BoundKnown.j0 k false))) else (armisticelaw26_BoundKnown.j0 k false))) else (armisticelaw26_BoundKnown.j0 k false))) else (armisticelaw26_BoundKnown.j0 k false))) else (armisticelaw26_BoundKnown.j0 k false))
theorem armisticelaw26_BoundKnown.mono_l : ∀ k, (∀ y0, LeO (armisticelaw26_BoundKnown.j0 k y0) (armisticelaw26_BoundKnown.j0 (k + 1) y0))
  | 0 => fun _ r h => by simp [armisticelaw26_BoundKnown.j0] at h
  | k + 1 => by
    have ih0 := armisticelaw26_BoundKnown.mono_l k
    · intro y0
      unfold armisticelaw26_BoundKnown.j0
      repeat' first
      | (with_reducible exact ih0 _)
      | (with_reducible exact armisticelaw26_awake.mono _)
      | (with_reducible exact armisticelaw26_of.mono _ _ _ _ _)
      | (with_reducible exact bound_Most.mono _ _ _)
      | (with_reducible exact LeO.refl _)
      | (with_reducible exact LeO.none _)
      | (with_reducible refine LeO.ite ?_ ?_)
      | (with_reducible refine LeO.bind ?_ (fun _ => ?_))
      | exact ih0 _
      | exact armisticelaw26_awake.mono _
      | exact armisticelaw26_of.mono _ _ _ _ _
      | exact bound_Most.mono _ _ _
      | exact LeO.none _
      | refine LeO.ite ?_ ?_
      | refine LeO.bind ?_ (fun _ => ?_)
theorem armisticelaw26_BoundKnown.mono : ∀ k, LeO (armisticelaw26_BoundKnown.f k ) (armisticelaw26_BoundKnown.f (k + 1) ) := by
  intro  k
  have ih0 := armisticelaw26_BoundKnown.mono_l k
  unfold armisticelaw26_BoundKnown.f
  repeat' first
      | (with_reducible exact ih0 _)
      | (with_reducible exact armisticelaw26_awake.mono _)
      | (with_reducible exact armisticelaw26_of.mono _ _ _ _ _)
      | (with_reducible exact bound_Most.mono _ _ _)
      | (with_reducible exact LeO.refl _)
      | (with_reducible exact LeO.none _)
      | (with_reducible refine LeO.ite ?_ ?_)
      | (with_reducible refine LeO.bind ?_ (fun _ => ?_))
      | exact ih0 _
      | exact armisticelaw26_awake.mono _
      | exact armisticelaw26_of.mono _ _ _ _ _
      | exact bound_Most.mono _ _ _
      | exact LeO.none _
      | refine LeO.ite ?_ ?_
      | refine LeO.bind ?_ (fun _ => ?_)
set_option maxHeartbeats 8000000 in
set_option maxRecDepth 100000 in
theorem armisticelaw26_BoundKnown.calls (k : Nat)  (r : Bool) (w : World) (h : armisticelaw26_BoundKnown.f k  = some r) :
    Calls Try.prog 5 #[] w fun e w' => e = .returned (.bool r) ∧ Below w.heap.size w w' := by
  have HB := Aside0.mk (Below.refl w.heap.size w)
  have H : ((armisticelaw26_fact.f 0 1 true).bind fun t155 => (if t155 = true then ((armisticelaw26_fact.f 20 2432902008176640000 true).bind fun t156 => (if t156 = true then ((armisticelaw26_fact.f 21 0 false).bind fun t157 => (if t157 = true then ((armisticelaw26_fact.f (-1) 0 false).bind fun t158 => (if t158 = true then ((armisticelaw26_tries.f 0 0).bind fun t159 => (if t159 = true then ((armisticelaw26_tries.f 1 1).bind fun t160 => (if t160 = true then ((armisticelaw26_tries.f 2 4).bind fun t161 => (armisticelaw26_BoundKnown.j0 k t161)) else (armisticelaw26_BoundKnown.j0 k false))) else (armisticelaw26_BoundKnown.j0 k false))) else (armisticelaw26_BoundKnown.j0 k false))) else (armisticelaw26_BoundKnown.j0 k false))) else (armisticelaw26_BoundKnown.j0 k false))) else (armisticelaw26_BoundKnown.j0 k false))) = some r := h
  clear h
  have HC1 := Aside0.mk H
  clear H
  go_enter Try.func5, Try.ntmps5
  go_upto_region 1 with (fail)
  go_cut [1] (fun v1 wc => ∃ (kq : Nat) (x1_0 : Bool), v1 = .bool x1_0 ∧ Aside0 (armisticelaw26_BoundKnown.j0 kq x1_0 = some r) ∧ Aside0 (kq ≤ k) ∧ Aside0 (Below w.heap.size w wc))
  case first =>
    have H := HC1.out
    clear HC1
    replace H := Option.bind_eq_some_iff.mp H
    obtain ⟨t155, A20, H⟩ := H
    replace H : (if t155 = true then ((armisticelaw26_fact.f 20 2432902008176640000 true).bind fun t156 => (if t156 = true then ((armisticelaw26_fact.f 21 0 false).bind fun t157 => (if t157 = true then ((armisticelaw26_fact.f (-1) 0 false).bind fun t158 => (if t158 = true then ((armisticelaw26_tries.f 0 0).bind fun t159 => (if t159 = true then ((armisticelaw26_tries.f 1 1).bind fun t160 => (if t160 = true then ((armisticelaw26_tries.f 2 4).bind fun t161 => (armisticelaw26_BoundKnown.j0 k t161)) else (armisticelaw26_BoundKnown.j0 k false))) else (armisticelaw26_BoundKnown.j0 k false))) else (armisticelaw26_BoundKnown.j0 k false))) else (armisticelaw26_BoundKnown.j0 k false))) else (armisticelaw26_BoundKnown.j0 k false))) else (armisticelaw26_BoundKnown.j0 k false)) = some r := H
    have A2 := Aside0.mk A20
    clear A20
    by_cases c3 : t155 = true
    · subst c3
      have H1 : ((armisticelaw26_fact.f 20 2432902008176640000 true).bind fun t156 => (if t156 = true then ((armisticelaw26_fact.f 21 0 false).bind fun t157 => (if t157 = true then ((armisticelaw26_fact.f (-1) 0 false).bind fun t158 => (if t158 = true then ((armisticelaw26_tries.f 0 0).bind fun t159 => (if t159 = true then ((armisticelaw26_tries.f 1 1).bind fun t160 => (if t160 = true then ((armisticelaw26_tries.f 2 4).bind fun t161 => (armisticelaw26_BoundKnown.j0 k t161)) else (armisticelaw26_BoundKnown.j0 k false))) else (armisticelaw26_BoundKnown.j0 k false))) else (armisticelaw26_BoundKnown.j0 k false))) else (armisticelaw26_BoundKnown.j0 k false))) else (armisticelaw26_BoundKnown.j0 k false))) = some r := by rw [if_pos rfl] at H; exact H
      clear H
      have H := H1
      clear H1
      replace H := Option.bind_eq_some_iff.mp H
      obtain ⟨t156, A40, H⟩ := H
      replace H : (if t156 = true then ((armisticelaw26_fact.f 21 0 false).bind fun t157 => (if t157 = true then ((armisticelaw26_fact.f (-1) 0 false).bind fun t158 => (if t158 = true then ((armisticelaw26_tries.f 0 0).bind fun t159 => (if t159 = true then ((armisticelaw26_tries.f 1 1).bind fun t160 => (if t160 = true then ((armisticelaw26_tries.f 2 4).bind fun t161 => (armisticelaw26_BoundKnown.j0 k t161)) else (armisticelaw26_BoundKnown.j0 k false))) else (armisticelaw26_BoundKnown.j0 k false))) else (armisticelaw26_BoundKnown.j0 k false))) else (armisticelaw26_BoundKnown.j0 k false))) else (armisticelaw26_BoundKnown.j0 k false)) = some r := H
      have A4 := Aside0.mk A40
      clear A40
      by_cases c5 : t156 = true
      · subst c5
        have H1 : ((armisticelaw26_fact.f 21 0 false).bind fun t157 => (if t157 = true then ((armisticelaw26_fact.f (-1) 0 false).bind fun t158 => (if t158 = true then ((armisticelaw26_tries.f 0 0).bind fun t159 => (if t159 = true then ((armisticelaw26_tries.f 1 1).bind fun t160 => (if t160 = true then ((armisticelaw26_tries.f 2 4).bind fun t161 => (armisticelaw26_BoundKnown.j0 k t161)) else (armisticelaw26_BoundKnown.j0 k false))) else (armisticelaw26_BoundKnown.j0 k false))) else (armisticelaw26_BoundKnown.j0 k false))) else (armisticelaw26_BoundKnown.j0 k false))) = some r := by rw [if_pos rfl] at H; exact H
        clear H
        have H := H1
        clear H1
        replace H := Option.bind_eq_some_iff.mp H
        obtain ⟨t157, A60, H⟩ := H
        replace H : (if t157 = true then ((armisticelaw26_fact.f (-1) 0 false).bind fun t158 => (if t158 = true then ((armisticelaw26_tries.f 0 0).bind fun t159 => (if t159 = true then ((armisticelaw26_tries.f 1 1).bind fun t160 => (if t160 = true then ((armisticelaw26_tries.f 2 4).bind fun t161 => (armisticelaw26_BoundKnown.j0 k t161)) else (armisticelaw26_BoundKnown.j0 k false))) else (armisticelaw26_BoundKnown.j0 k false))) else (armisticelaw26_BoundKnown.j0 k false))) else (armisticelaw26_BoundKnown.j0 k false)) = some r := H
        have A6 := Aside0.mk A60
        clear A60
        by_cases c7 : t157 = true
        · subst c7
          have H1 : ((armisticelaw26_fact.f (-1) 0 false).bind fun t158 => (if t158 = true then ((armisticelaw26_tries.f 0 0).bind fun t159 => (if t159 = true then ((armisticelaw26_tries.f 1 1).bind fun t160 => (if t160 = true then ((armisticelaw26_tries.f 2 4).bind fun t161 => (armisticelaw26_BoundKnown.j0 k t161)) else (armisticelaw26_BoundKnown.j0 k false))) else (armisticelaw26_BoundKnown.j0 k false))) else (armisticelaw26_BoundKnown.j0 k false))) = some r := by rw [if_pos rfl] at H; exact H
          clear H
          have H := H1
          clear H1
          replace H := Option.bind_eq_some_iff.mp H
          obtain ⟨t158, A80, H⟩ := H
          replace H : (if t158 = true then ((armisticelaw26_tries.f 0 0).bind fun t159 => (if t159 = true then ((armisticelaw26_tries.f 1 1).bind fun t160 => (if t160 = true then ((armisticelaw26_tries.f 2 4).bind fun t161 => (armisticelaw26_BoundKnown.j0 k t161)) else (armisticelaw26_BoundKnown.j0 k false))) else (armisticelaw26_BoundKnown.j0 k false))) else (armisticelaw26_BoundKnown.j0 k false)) = some r := H
          have A8 := Aside0.mk A80
          clear A80
          by_cases c9 : t158 = true
          · subst c9
            have H1 : ((armisticelaw26_tries.f 0 0).bind fun t159 => (if t159 = true then ((armisticelaw26_tries.f 1 1).bind fun t160 => (if t160 = true then ((armisticelaw26_tries.f 2 4).bind fun t161 => (armisticelaw26_BoundKnown.j0 k t161)) else (armisticelaw26_BoundKnown.j0 k false))) else (armisticelaw26_BoundKnown.j0 k false))) = some r := by rw [if_pos rfl] at H; exact H
            clear H
            have H := H1
            clear H1
            replace H := Option.bind_eq_some_iff.mp H
            obtain ⟨t159, A100, H⟩ := H
            replace H : (if t159 = true then ((armisticelaw26_tries.f 1 1).bind fun t160 => (if t160 = true then ((armisticelaw26_tries.f 2 4).bind fun t161 => (armisticelaw26_BoundKnown.j0 k t161)) else (armisticelaw26_BoundKnown.j0 k false))) else (armisticelaw26_BoundKnown.j0 k false)) = some r := H
            have A10 := Aside0.mk A100
            clear A100
            by_cases c11 : t159 = true
            · subst c11
              have H1 : ((armisticelaw26_tries.f 1 1).bind fun t160 => (if t160 = true then ((armisticelaw26_tries.f 2 4).bind fun t161 => (armisticelaw26_BoundKnown.j0 k t161)) else (armisticelaw26_BoundKnown.j0 k false))) = some r := by rw [if_pos rfl] at H; exact H
              clear H
              have H := H1
              clear H1
              replace H := Option.bind_eq_some_iff.mp H
              obtain ⟨t160, A120, H⟩ := H
              replace H : (if t160 = true then ((armisticelaw26_tries.f 2 4).bind fun t161 => (armisticelaw26_BoundKnown.j0 k t161)) else (armisticelaw26_BoundKnown.j0 k false)) = some r := H
              have A12 := Aside0.mk A120
              clear A120
              by_cases c13 : t160 = true
              · subst c13
                have H1 : ((armisticelaw26_tries.f 2 4).bind fun t161 => (armisticelaw26_BoundKnown.j0 k t161)) = some r := by rw [if_pos rfl] at H; exact H
                clear H
                have H := H1
                clear H1
                replace H := Option.bind_eq_some_iff.mp H
                obtain ⟨t161, A140, H⟩ := H
                replace H : (armisticelaw26_BoundKnown.j0 k t161) = some r := H
                have A14 := Aside0.mk A140
                clear A140
                have H' := Aside0.mk H
                clear H
                go_wp2_with (first | ((with_reducible refine gate_callee (f := 19) rfl ?_); refine goesL_ (some 2) rfl rfl Try.func19 (by kernel_rfl) rfl #[.int .i64 0, .int .i64 1, .bool true] rfl (by (try simp only [List.map_toArray, List.map_cons, List.map_nil]); first | done | rfl | (simp only [List.length_drop, List.length_take]; rfl)) ?_; (with_reducible refine (armisticelaw26_fact.calls 0 1 true true _ A2.out).mono ?_); rintro e w15 ⟨rfl, hb⟩; refine ⟨_, rfl, ?_⟩; have n0_ := Aside0.mk (below_step (by repeat (first | (with_reducible first | exact HB.out | apply below_alloc | apply pw_below_drewN | apply below_drew1) | exact HB.out)) hb); clear HB; have HB := n0_; clear n0_; (try clear hb); (try clear hb2); (try clear hk); (try clear hi)) | (go_at_call 19; (with_reducible refine (armisticelaw26_fact.calls 20 2432902008176640000 true true _ A4.out).mono ?_); rintro e w16 ⟨rfl, hb⟩; have n0_ := Aside0.mk (below_step (by repeat (first | (with_reducible first | exact HB.out | apply below_alloc | apply pw_below_drewN | apply below_drew1) | exact HB.out)) hb); clear HB; have HB := n0_; clear n0_; (try clear hb); (try clear hb2); (try clear hk); (try clear hi)) | (go_at_call 19; (with_reducible refine (armisticelaw26_fact.calls 21 0 false true _ A6.out).mono ?_); rintro e w17 ⟨rfl, hb⟩; have n0_ := Aside0.mk (below_step (by repeat (first | (with_reducible first | exact HB.out | apply below_alloc | apply pw_below_drewN | apply below_drew1) | exact HB.out)) hb); clear HB; have HB := n0_; clear n0_; (try clear hb); (try clear hb2); (try clear hk); (try clear hi)) | (go_at_call 19; (with_reducible refine (armisticelaw26_fact.calls (-1) 0 false true _ A8.out).mono ?_); rintro e w18 ⟨rfl, hb⟩; have n0_ := Aside0.mk (below_step (by repeat (first | (with_reducible first | exact HB.out | apply below_alloc | apply pw_below_drewN | apply below_drew1) | exact HB.out)) hb); clear HB; have HB := n0_; clear n0_; (try clear hb); (try clear hb2); (try clear hk); (try clear hi)) | (go_at_call 20; (with_reducible refine (armisticelaw26_tries.calls 0 0 true _ A10.out).mono ?_); rintro e w19 ⟨rfl, hb⟩; have n0_ := Aside0.mk (below_step (by repeat (first | (with_reducible first | exact HB.out | apply below_alloc | apply pw_below_drewN | apply below_drew1) | exact HB.out)) hb); clear HB; have HB := n0_; clear n0_; (try clear hb); (try clear hb2); (try clear hk); (try clear hi)) | (go_at_call 20; (with_reducible refine (armisticelaw26_tries.calls 1 1 true _ A12.out).mono ?_); rintro e w20 ⟨rfl, hb⟩; have n0_ := Aside0.mk (below_step (by repeat (first | (with_reducible first | exact HB.out | apply below_alloc | apply pw_below_drewN | apply below_drew1) | exact HB.out)) hb); clear HB; have HB := n0_; clear n0_; (try clear hb); (try clear hb2); (try clear hk); (try clear hi)) | (go_at_call 20; (with_reducible refine (armisticelaw26_tries.calls 2 4 t161 _ A14.out).mono ?_); rintro e w21 ⟨rfl, hb⟩; have n0_ := Aside0.mk (below_step (by repeat (first | (with_reducible first | exact HB.out | apply below_alloc | apply pw_below_drewN | apply below_drew1) | exact HB.out)) hb); clear HB; have HB := n0_; clear n0_; (try clear hb); (try clear hb2); (try clear hk); (try clear hi)))
                go_meet
                case rel => exact ⟨_, (t161), (by first | rfl | (simp; done) | (simp [*]; done)), H', ⟨by first | omega | exact Nat.le_refl _⟩, ⟨by repeat (first | (with_reducible first | exact HB.out | apply below_alloc | apply pw_below_drewN | apply below_drew1) | exact HB.out)⟩⟩
              · replace c13 := Bool.eq_false_iff.mpr c13
                subst c13
                have H1 : (armisticelaw26_BoundKnown.j0 k false) = some r := by rw [if_neg (show ¬ (false = true) by decide)] at H; exact H
                clear H
                have H := H1
                clear H1
                have H' := Aside0.mk H
                clear H
                go_wp2_with (first | ((with_reducible refine gate_callee (f := 19) rfl ?_); refine goesL_ (some 2) rfl rfl Try.func19 (by kernel_rfl) rfl #[.int .i64 0, .int .i64 1, .bool true] rfl (by (try simp only [List.map_toArray, List.map_cons, List.map_nil]); first | done | rfl | (simp only [List.length_drop, List.length_take]; rfl)) ?_; (with_reducible refine (armisticelaw26_fact.calls 0 1 true true _ A2.out).mono ?_); rintro e w22 ⟨rfl, hb⟩; refine ⟨_, rfl, ?_⟩; have n0_ := Aside0.mk (below_step (by repeat (first | (with_reducible first | exact HB.out | apply below_alloc | apply pw_below_drewN | apply below_drew1) | exact HB.out)) hb); clear HB; have HB := n0_; clear n0_; (try clear hb); (try clear hb2); (try clear hk); (try clear hi)) | (go_at_call 19; (with_reducible refine (armisticelaw26_fact.calls 20 2432902008176640000 true true _ A4.out).mono ?_); rintro e w23 ⟨rfl, hb⟩; have n0_ := Aside0.mk (below_step (by repeat (first | (with_reducible first | exact HB.out | apply below_alloc | apply pw_below_drewN | apply below_drew1) | exact HB.out)) hb); clear HB; have HB := n0_; clear n0_; (try clear hb); (try clear hb2); (try clear hk); (try clear hi)) | (go_at_call 19; (with_reducible refine (armisticelaw26_fact.calls 21 0 false true _ A6.out).mono ?_); rintro e w24 ⟨rfl, hb⟩; have n0_ := Aside0.mk (below_step (by repeat (first | (with_reducible first | exact HB.out | apply below_alloc | apply pw_below_drewN | apply below_drew1) | exact HB.out)) hb); clear HB; have HB := n0_; clear n0_; (try clear hb); (try clear hb2); (try clear hk); (try clear hi)) | (go_at_call 19; (with_reducible refine (armisticelaw26_fact.calls (-1) 0 false true _ A8.out).mono ?_); rintro e w25 ⟨rfl, hb⟩; have n0_ := Aside0.mk (below_step (by repeat (first | (with_reducible first | exact HB.out | apply below_alloc | apply pw_below_drewN | apply below_drew1) | exact HB.out)) hb); clear HB; have HB := n0_; clear n0_; (try clear hb); (try clear hb2); (try clear hk); (try clear hi)) | (go_at_call 20; (with_reducible refine (armisticelaw26_tries.calls 0 0 true _ A10.out).mono ?_); rintro e w26 ⟨rfl, hb⟩; have n0_ := Aside0.mk (below_step (by repeat (first | (with_reducible first | exact HB.out | apply below_alloc | apply pw_below_drewN | apply below_drew1) | exact HB.out)) hb); clear HB; have HB := n0_; clear n0_; (try clear hb); (try clear hb2); (try clear hk); (try clear hi)) | (go_at_call 20; (with_reducible refine (armisticelaw26_tries.calls 1 1 false _ A12.out).mono ?_); rintro e w27 ⟨rfl, hb⟩; have n0_ := Aside0.mk (below_step (by repeat (first | (with_reducible first | exact HB.out | apply below_alloc | apply pw_below_drewN | apply below_drew1) | exact HB.out)) hb); clear HB; have HB := n0_; clear n0_; (try clear hb); (try clear hb2); (try clear hk); (try clear hi)))
                go_meet
                case rel => exact ⟨_, (false), (by first | rfl | (simp; done) | (simp [*]; done)), H', ⟨by first | omega | exact Nat.le_refl _⟩, ⟨by repeat (first | (with_reducible first | exact HB.out | apply below_alloc | apply pw_below_drewN | apply below_drew1) | exact HB.out)⟩⟩
            · replace c11 := Bool.eq_false_iff.mpr c11
              subst c11
              have H1 : (armisticelaw26_BoundKnown.j0 k false) = some r := by rw [if_neg (show ¬ (false = true) by decide)] at H; exact H
              clear H
              have H := H1
              clear H1
              have H' := Aside0.mk H
              clear H
              go_wp2_with (first | ((with_reducible refine gate_callee (f := 19) rfl ?_); refine goesL_ (some 2) rfl rfl Try.func19 (by kernel_rfl) rfl #[.int .i64 0, .int .i64 1, .bool true] rfl (by (try simp only [List.map_toArray, List.map_cons, List.map_nil]); first | done | rfl | (simp only [List.length_drop, List.length_take]; rfl)) ?_; (with_reducible refine (armisticelaw26_fact.calls 0 1 true true _ A2.out).mono ?_); rintro e w28 ⟨rfl, hb⟩; refine ⟨_, rfl, ?_⟩; have n0_ := Aside0.mk (below_step (by repeat (first | (with_reducible first | exact HB.out | apply below_alloc | apply pw_below_drewN | apply below_drew1) | exact HB.out)) hb); clear HB; have HB := n0_; clear n0_; (try clear hb); (try clear hb2); (try clear hk); (try clear hi)) | (go_at_call 19; (with_reducible refine (armisticelaw26_fact.calls 20 2432902008176640000 true true _ A4.out).mono ?_); rintro e w29 ⟨rfl, hb⟩; have n0_ := Aside0.mk (below_step (by repeat (first | (with_reducible first | exact HB.out | apply below_alloc | apply pw_below_drewN | apply below_drew1) | exact HB.out)) hb); clear HB; have HB := n0_; clear n0_; (try clear hb); (try clear hb2); (try clear hk); (try clear hi)) | (go_at_call 19; (with_reducible refine (armisticelaw26_fact.calls 21 0 false true _ A6.out).mono ?_); rintro e w30 ⟨rfl, hb⟩; have n0_ := Aside0.mk (below_step (by repeat (first | (with_reducible first | exact HB.out | apply below_alloc | apply pw_below_drewN | apply below_drew1) | exact HB.out)) hb); clear HB; have HB := n0_; clear n0_; (try clear hb); (try clear hb2); (try clear hk); (try clear hi)) | (go_at_call 19; (with_reducible refine (armisticelaw26_fact.calls (-1) 0 false true _ A8.out).mono ?_); rintro e w31 ⟨rfl, hb⟩; have n0_ := Aside0.mk (below_step (by repeat (first | (with_reducible first | exact HB.out | apply below_alloc | apply pw_below_drewN | apply below_drew1) | exact HB.out)) hb); clear HB; have HB := n0_; clear n0_; (try clear hb); (try clear hb2); (try clear hk); (try clear hi)) | (go_at_call 20; (with_reducible refine (armisticelaw26_tries.calls 0 0 false _ A10.out).mono ?_); rintro e w32 ⟨rfl, hb⟩; have n0_ := Aside0.mk (below_step (by repeat (first | (with_reducible first | exact HB.out | apply below_alloc | apply pw_below_drewN | apply below_drew1) | exact HB.out)) hb); clear HB; have HB := n0_; clear n0_; (try clear hb); (try clear hb2); (try clear hk); (try clear hi)))
              go_meet
              case rel => exact ⟨_, (false), (by first | rfl | (simp; done) | (simp [*]; done)), H', ⟨by first | omega | exact Nat.le_refl _⟩, ⟨by repeat (first | (with_reducible first | exact HB.out | apply below_alloc | apply pw_below_drewN | apply below_drew1) | exact HB.out)⟩⟩
          · replace c9 := Bool.eq_false_iff.mpr c9
            subst c9
            have H1 : (armisticelaw26_BoundKnown.j0 k false) = some r := by rw [if_neg (show ¬ (false = true) by decide)] at H; exact H
            clear H
            have H := H1
            clear H1
            have H' := Aside0.mk H
            clear H
            go_wp2_with (first | ((with_reducible refine gate_callee (f := 19) rfl ?_); refine goesL_ (some 2) rfl rfl Try.func19 (by kernel_rfl) rfl #[.int .i64 0, .int .i64 1, .bool true] rfl (by (try simp only [List.map_toArray, List.map_cons, List.map_nil]); first | done | rfl | (simp only [List.length_drop, List.length_take]; rfl)) ?_; (with_reducible refine (armisticelaw26_fact.calls 0 1 true true _ A2.out).mono ?_); rintro e w33 ⟨rfl, hb⟩; refine ⟨_, rfl, ?_⟩; have n0_ := Aside0.mk (below_step (by repeat (first | (with_reducible first | exact HB.out | apply below_alloc | apply pw_below_drewN | apply below_drew1) | exact HB.out)) hb); clear HB; have HB := n0_; clear n0_; (try clear hb); (try clear hb2); (try clear hk); (try clear hi)) | (go_at_call 19; (with_reducible refine (armisticelaw26_fact.calls 20 2432902008176640000 true true _ A4.out).mono ?_); rintro e w34 ⟨rfl, hb⟩; have n0_ := Aside0.mk (below_step (by repeat (first | (with_reducible first | exact HB.out | apply below_alloc | apply pw_below_drewN | apply below_drew1) | exact HB.out)) hb); clear HB; have HB := n0_; clear n0_; (try clear hb); (try clear hb2); (try clear hk); (try clear hi)) | (go_at_call 19; (with_reducible refine (armisticelaw26_fact.calls 21 0 false true _ A6.out).mono ?_); rintro e w35 ⟨rfl, hb⟩; have n0_ := Aside0.mk (below_step (by repeat (first | (with_reducible first | exact HB.out | apply below_alloc | apply pw_below_drewN | apply below_drew1) | exact HB.out)) hb); clear HB; have HB := n0_; clear n0_; (try clear hb); (try clear hb2); (try clear hk); (try clear hi)) | (go_at_call 19; (with_reducible refine (armisticelaw26_fact.calls (-1) 0 false false _ A8.out).mono ?_); rintro e w36 ⟨rfl, hb⟩; have n0_ := Aside0.mk (below_step (by repeat (first | (with_reducible first | exact HB.out | apply below_alloc | apply pw_below_drewN | apply below_drew1) | exact HB.out)) hb); clear HB; have HB := n0_; clear n0_; (try clear hb); (try clear hb2); (try clear hk); (try clear hi)))
            go_meet
            case rel => exact ⟨_, (false), (by first | rfl | (simp; done) | (simp [*]; done)), H', ⟨by first | omega | exact Nat.le_refl _⟩, ⟨by repeat (first | (with_reducible first | exact HB.out | apply below_alloc | apply pw_below_drewN | apply below_drew1) | exact HB.out)⟩⟩
        · replace c7 := Bool.eq_false_iff.mpr c7
          subst c7
          have H1 : (armisticelaw26_BoundKnown.j0 k false) = some r := by rw [if_neg (show ¬ (false = true) by decide)] at H; exact H
          clear H
          have H := H1
          clear H1
          have H' := Aside0.mk H
          clear H
          go_wp2_with (first | ((with_reducible refine gate_callee (f := 19) rfl ?_); refine goesL_ (some 2) rfl rfl Try.func19 (by kernel_rfl) rfl #[.int .i64 0, .int .i64 1, .bool true] rfl (by (try simp only [List.map_toArray, List.map_cons, List.map_nil]); first | done | rfl | (simp only [List.length_drop, List.length_take]; rfl)) ?_; (with_reducible refine (armisticelaw26_fact.calls 0 1 true true _ A2.out).mono ?_); rintro e w37 ⟨rfl, hb⟩; refine ⟨_, rfl, ?_⟩; have n0_ := Aside0.mk (below_step (by repeat (first | (with_reducible first | exact HB.out | apply below_alloc | apply pw_below_drewN | apply below_drew1) | exact HB.out)) hb); clear HB; have HB := n0_; clear n0_; (try clear hb); (try clear hb2); (try clear hk); (try clear hi)) | (go_at_call 19; (with_reducible refine (armisticelaw26_fact.calls 20 2432902008176640000 true true _ A4.out).mono ?_); rintro e w38 ⟨rfl, hb⟩; have n0_ := Aside0.mk (below_step (by repeat (first | (with_reducible first | exact HB.out | apply below_alloc | apply pw_below_drewN | apply below_drew1) | exact HB.out)) hb); clear HB; have HB := n0_; clear n0_; (try clear hb); (try clear hb2); (try clear hk); (try clear hi)) | (go_at_call 19; (with_reducible refine (armisticelaw26_fact.calls 21 0 false false _ A6.out).mono ?_); rintro e w39 ⟨rfl, hb⟩; have n0_ := Aside0.mk (below_step (by repeat (first | (with_reducible first | exact HB.out | apply below_alloc | apply pw_below_drewN | apply below_drew1) | exact HB.out)) hb); clear HB; have HB := n0_; clear n0_; (try clear hb); (try clear hb2); (try clear hk); (try clear hi)))
          go_meet
          case rel => exact ⟨_, (false), (by first | rfl | (simp; done) | (simp [*]; done)), H', ⟨by first | omega | exact Nat.le_refl _⟩, ⟨by repeat (first | (with_reducible first | exact HB.out | apply below_alloc | apply pw_below_drewN | apply below_drew1) | exact HB.out)⟩⟩
      · replace c5 := Bool.eq_false_iff.mpr c5
        subst c5
        have H1 : (armisticelaw26_BoundKnown.j0 k false) = some r := by rw [if_neg (show ¬ (false = true) by decide)] at H; exact H
        clear H
        have H := H1
        clear H1
        have H' := Aside0.mk H
        clear H
        go_wp2_with (first | ((with_reducible refine gate_callee (f := 19) rfl ?_); refine goesL_ (some 2) rfl rfl Try.func19 (by kernel_rfl) rfl #[.int .i64 0, .int .i64 1, .bool true] rfl (by (try simp only [List.map_toArray, List.map_cons, List.map_nil]); first | done | rfl | (simp only [List.length_drop, List.length_take]; rfl)) ?_; (with_reducible refine (armisticelaw26_fact.calls 0 1 true true _ A2.out).mono ?_); rintro e w40 ⟨rfl, hb⟩; refine ⟨_, rfl, ?_⟩; have n0_ := Aside0.mk (below_step (by repeat (first | (with_reducible first | exact HB.out | apply below_alloc | apply pw_below_drewN | apply below_drew1) | exact HB.out)) hb); clear HB; have HB := n0_; clear n0_; (try clear hb); (try clear hb2); (try clear hk); (try clear hi)) | (go_at_call 19; (with_reducible refine (armisticelaw26_fact.calls 20 2432902008176640000 true false _ A4.out).mono ?_); rintro e w41 ⟨rfl, hb⟩; have n0_ := Aside0.mk (below_step (by repeat (first | (with_reducible first | exact HB.out | apply below_alloc | apply pw_below_drewN | apply below_drew1) | exact HB.out)) hb); clear HB; have HB := n0_; clear n0_; (try clear hb); (try clear hb2); (try clear hk); (try clear hi)))
        go_meet
        case rel => exact ⟨_, (false), (by first | rfl | (simp; done) | (simp [*]; done)), H', ⟨by first | omega | exact Nat.le_refl _⟩, ⟨by repeat (first | (with_reducible first | exact HB.out | apply below_alloc | apply pw_below_drewN | apply below_drew1) | exact HB.out)⟩⟩
    · replace c3 := Bool.eq_false_iff.mpr c3
      subst c3
      have H1 : (armisticelaw26_BoundKnown.j0 k false) = some r := by rw [if_neg (show ¬ (false = true) by decide)] at H; exact H
      clear H
      have H := H1
      clear H1
      have H' := Aside0.mk H
      clear H
      go_wp2_with (first | ((with_reducible refine gate_callee (f := 19) rfl ?_); refine goesL_ (some 2) rfl rfl Try.func19 (by kernel_rfl) rfl #[.int .i64 0, .int .i64 1, .bool true] rfl (by (try simp only [List.map_toArray, List.map_cons, List.map_nil]); first | done | rfl | (simp only [List.length_drop, List.length_take]; rfl)) ?_; (with_reducible refine (armisticelaw26_fact.calls 0 1 true false _ A2.out).mono ?_); rintro e w42 ⟨rfl, hb⟩; refine ⟨_, rfl, ?_⟩; have n0_ := Aside0.mk (below_step (by repeat (first | (with_reducible first | exact HB.out | apply below_alloc | apply pw_below_drewN | apply below_drew1) | exact HB.out)) hb); clear HB; have HB := n0_; clear n0_; (try clear hb); (try clear hb2); (try clear hk); (try clear hi)))
      go_meet
      case rel => exact ⟨_, (false), (by first | rfl | (simp; done) | (simp [*]; done)), H', ⟨by first | omega | exact Nat.le_refl _⟩, ⟨by repeat (first | (with_reducible first | exact HB.out | apply below_alloc | apply pw_below_drewN | apply below_drew1) | exact HB.out)⟩⟩
  case rest =>
    clear HC1
    try clear c1
    try clear p2
    try clear c3
    try clear c5
    try clear c7
    try clear c9
    try clear c11
    try clear c13
    try clear c19
    obtain ⟨kq, x1_0, rfl, HA, HJ0, HB⟩ := hcut
    cases kq with
    | zero => exact absurd HA.out (by simp [armisticelaw26_BoundKnown.j0])
    | succ kj0 =>
      have H := HA.out
      clear HA
      simp only [armisticelaw26_BoundKnown.j0] at H
      replace H := Option.bind_eq_some_iff.mp H
      obtain ⟨t162, A430, H⟩ := H
      replace H : (if t162 = true then (if x1_0 = true then ((armisticelaw26_of.f kj0 0 0 1 true).bind fun t163 => (if t163 = true then ((armisticelaw26_of.f kj0 19 0 2432902008176640000 true).bind fun t164 => (if t164 = true then ((armisticelaw26_of.f kj0 20 0 0 false).bind fun t165 => (if t165 = true then ((armisticelaw26_of.f kj0 2 (-1) 0 false).bind fun t166 => (if t166 = true then ((bound_Most.f kj0 0 0).bind fun t167 => (if t167 = (-1) then ((bound_Most.f kj0 1 0).bind fun t168 => (some (t168 == 0))) else (some false))) else (some false))) else (some false))) else (some false))) else (some false))) else (some false)) else (some false)) = some r := H
      have A43 := Aside0.mk A430
      clear A430
      by_cases c44 : t162 = true
      · subst c44
        have H1 : (if x1_0 = true then ((armisticelaw26_of.f kj0 0 0 1 true).bind fun t163 => (if t163 = true then ((armisticelaw26_of.f kj0 19 0 2432902008176640000 true).bind fun t164 => (if t164 = true then ((armisticelaw26_of.f kj0 20 0 0 false).bind fun t165 => (if t165 = true then ((armisticelaw26_of.f kj0 2 (-1) 0 false).bind fun t166 => (if t166 = true then ((bound_Most.f kj0 0 0).bind fun t167 => (if t167 = (-1) then ((bound_Most.f kj0 1 0).bind fun t168 => (some (t168 == 0))) else (some false))) else (some false))) else (some false))) else (some false))) else (some false))) else (some false)) = some r := by rw [if_pos rfl] at H; exact H
        clear H
        have H := H1
        clear H1
        by_cases c45 : x1_0 = true
        · subst c45
          have H1 : ((armisticelaw26_of.f kj0 0 0 1 true).bind fun t163 => (if t163 = true then ((armisticelaw26_of.f kj0 19 0 2432902008176640000 true).bind fun t164 => (if t164 = true then ((armisticelaw26_of.f kj0 20 0 0 false).bind fun t165 => (if t165 = true then ((armisticelaw26_of.f kj0 2 (-1) 0 false).bind fun t166 => (if t166 = true then ((bound_Most.f kj0 0 0).bind fun t167 => (if t167 = (-1) then ((bound_Most.f kj0 1 0).bind fun t168 => (some (t168 == 0))) else (some false))) else (some false))) else (some false))) else (some false))) else (some false))) = some r := by rw [if_pos rfl] at H; exact H
          clear H
          have H := H1
          clear H1
          replace H := Option.bind_eq_some_iff.mp H
          obtain ⟨t163, A460, H⟩ := H
          replace H : (if t163 = true then ((armisticelaw26_of.f kj0 19 0 2432902008176640000 true).bind fun t164 => (if t164 = true then ((armisticelaw26_of.f kj0 20 0 0 false).bind fun t165 => (if t165 = true then ((armisticelaw26_of.f kj0 2 (-1) 0 false).bind fun t166 => (if t166 = true then ((bound_Most.f kj0 0 0).bind fun t167 => (if t167 = (-1) then ((bound_Most.f kj0 1 0).bind fun t168 => (some (t168 == 0))) else (some false))) else (some false))) else (some false))) else (some false))) else (some false)) = some r := H
          have A46 := Aside0.mk A460
          clear A460
          by_cases c47 : t163 = true
          · subst c47
            have H1 : ((armisticelaw26_of.f kj0 19 0 2432902008176640000 true).bind fun t164 => (if t164 = true then ((armisticelaw26_of.f kj0 20 0 0 false).bind fun t165 => (if t165 = true then ((armisticelaw26_of.f kj0 2 (-1) 0 false).bind fun t166 => (if t166 = true then ((bound_Most.f kj0 0 0).bind fun t167 => (if t167 = (-1) then ((bound_Most.f kj0 1 0).bind fun t168 => (some (t168 == 0))) else (some false))) else (some false))) else (some false))) else (some false))) = some r := by rw [if_pos rfl] at H; exact H
            clear H
            have H := H1
            clear H1
            replace H := Option.bind_eq_some_iff.mp H
            obtain ⟨t164, A480, H⟩ := H
            replace H : (if t164 = true then ((armisticelaw26_of.f kj0 20 0 0 false).bind fun t165 => (if t165 = true then ((armisticelaw26_of.f kj0 2 (-1) 0 false).bind fun t166 => (if t166 = true then ((bound_Most.f kj0 0 0).bind fun t167 => (if t167 = (-1) then ((bound_Most.f kj0 1 0).bind fun t168 => (some (t168 == 0))) else (some false))) else (some false))) else (some false))) else (some false)) = some r := H
            have A48 := Aside0.mk A480
            clear A480
            by_cases c49 : t164 = true
            · subst c49
              have H1 : ((armisticelaw26_of.f kj0 20 0 0 false).bind fun t165 => (if t165 = true then ((armisticelaw26_of.f kj0 2 (-1) 0 false).bind fun t166 => (if t166 = true then ((bound_Most.f kj0 0 0).bind fun t167 => (if t167 = (-1) then ((bound_Most.f kj0 1 0).bind fun t168 => (some (t168 == 0))) else (some false))) else (some false))) else (some false))) = some r := by rw [if_pos rfl] at H; exact H
              clear H
              have H := H1
              clear H1
              replace H := Option.bind_eq_some_iff.mp H
              obtain ⟨t165, A500, H⟩ := H
              replace H : (if t165 = true then ((armisticelaw26_of.f kj0 2 (-1) 0 false).bind fun t166 => (if t166 = true then ((bound_Most.f kj0 0 0).bind fun t167 => (if t167 = (-1) then ((bound_Most.f kj0 1 0).bind fun t168 => (some (t168 == 0))) else (some false))) else (some false))) else (some false)) = some r := H
              have A50 := Aside0.mk A500
              clear A500
              by_cases c51 : t165 = true
              · subst c51
                have H1 : ((armisticelaw26_of.f kj0 2 (-1) 0 false).bind fun t166 => (if t166 = true then ((bound_Most.f kj0 0 0).bind fun t167 => (if t167 = (-1) then ((bound_Most.f kj0 1 0).bind fun t168 => (some (t168 == 0))) else (some false))) else (some false))) = some r := by rw [if_pos rfl] at H; exact H
                clear H
                have H := H1
                clear H1
                replace H := Option.bind_eq_some_iff.mp H
                obtain ⟨t166, A520, H⟩ := H
                replace H : (if t166 = true then ((bound_Most.f kj0 0 0).bind fun t167 => (if t167 = (-1) then ((bound_Most.f kj0 1 0).bind fun t168 => (some (t168 == 0))) else (some false))) else (some false)) = some r := H
                have A52 := Aside0.mk A520
                clear A520
                by_cases c53 : t166 = true
                · subst c53
                  have H1 : ((bound_Most.f kj0 0 0).bind fun t167 => (if t167 = (-1) then ((bound_Most.f kj0 1 0).bind fun t168 => (some (t168 == 0))) else (some false))) = some r := by rw [if_pos rfl] at H; exact H
                  clear H
                  have H := H1
                  clear H1
                  replace H := Option.bind_eq_some_iff.mp H
                  obtain ⟨t167, A540, H⟩ := H
                  replace H : (if t167 = (-1) then ((bound_Most.f kj0 1 0).bind fun t168 => (some (t168 == 0))) else (some false)) = some r := H
                  have A54 := Aside0.mk A540
                  clear A540
                  by_cases c55 : t167 = (-1)
                  · rw [if_pos c55] at H
                    have c55b0 : (t167 == (-1)) = true := beq_iff_eq.mpr c55
                    have c55b1 : (t167 != (-1)) = false := bne_eq_false_iff_eq.mpr c55
                    clear c55
                    replace H := Option.bind_eq_some_iff.mp H
                    obtain ⟨t168, A560, H⟩ := H
                    replace H : (some (t168 == 0)) = some r := H
                    have A56 := Aside0.mk A560
                    clear A560
                    obtain rfl := Option.some.inj H
                    go_wp2_with (first | ((with_reducible refine gate_callee (f := 14) rfl ?_); refine goesL_ (some 21) rfl rfl Try.func14 (by kernel_rfl) rfl #[] rfl (by (try simp only [List.map_toArray, List.map_cons, List.map_nil]); first | done | rfl | (simp only [List.length_drop, List.length_take]; rfl)) ?_; (with_reducible refine (armisticelaw26_awake.calls kj0  true _ A43.out).mono ?_); rintro e w57 ⟨rfl, hb⟩; refine ⟨_, rfl, ?_⟩; have n0_ := Aside0.mk (below_step (by repeat (first | (with_reducible first | exact HB.out | apply below_alloc | apply pw_below_drewN | apply below_drew1) | exact HB.out)) hb); clear HB; have HB := n0_; clear n0_; (try clear hb); (try clear hb2); (try clear hk); (try clear hi)) | (go_at_call 21; (with_reducible refine (armisticelaw26_of.calls kj0 0 0 1 true true _ A46.out).mono ?_); rintro e w58 ⟨rfl, hb⟩; have n0_ := Aside0.mk (below_step (by repeat (first | (with_reducible first | exact HB.out | apply below_alloc | apply pw_below_drewN | apply below_drew1) | exact HB.out)) hb); clear HB; have HB := n0_; clear n0_; (try clear hb); (try clear hb2); (try clear hk); (try clear hi)) | (go_at_call 21; (with_reducible refine (armisticelaw26_of.calls kj0 19 0 2432902008176640000 true true _ A48.out).mono ?_); rintro e w59 ⟨rfl, hb⟩; have n0_ := Aside0.mk (below_step (by repeat (first | (with_reducible first | exact HB.out | apply below_alloc | apply pw_below_drewN | apply below_drew1) | exact HB.out)) hb); clear HB; have HB := n0_; clear n0_; (try clear hb); (try clear hb2); (try clear hk); (try clear hi)) | (go_at_call 21; (with_reducible refine (armisticelaw26_of.calls kj0 20 0 0 false true _ A50.out).mono ?_); rintro e w60 ⟨rfl, hb⟩; have n0_ := Aside0.mk (below_step (by repeat (first | (with_reducible first | exact HB.out | apply below_alloc | apply pw_below_drewN | apply below_drew1) | exact HB.out)) hb); clear HB; have HB := n0_; clear n0_; (try clear hb); (try clear hb2); (try clear hk); (try clear hi)) | (go_at_call 21; (with_reducible refine (armisticelaw26_of.calls kj0 2 (-1) 0 false true _ A52.out).mono ?_); rintro e w61 ⟨rfl, hb⟩; have n0_ := Aside0.mk (below_step (by repeat (first | (with_reducible first | exact HB.out | apply below_alloc | apply pw_below_drewN | apply below_drew1) | exact HB.out)) hb); clear HB; have HB := n0_; clear n0_; (try clear hb); (try clear hb2); (try clear hk); (try clear hi)) | (go_at_call 17; (with_reducible refine (bound_Most.calls kj0 0 0 t167 _ A54.out).mono ?_); rintro e w62 ⟨rfl, hb⟩; have n0_ := Aside0.mk (below_step (by repeat (first | (with_reducible first | exact HB.out | apply below_alloc | apply pw_below_drewN | apply below_drew1) | exact HB.out)) hb); clear HB; have HB := n0_; clear n0_; (try clear hb); (try clear hb2); (try clear hk); (try clear hi)) | (go_at_call 17; (with_reducible refine (bound_Most.calls kj0 1 0 t168 _ A56.out).mono ?_); rintro e w63 ⟨rfl, hb⟩; have n0_ := Aside0.mk (below_step (by repeat (first | (with_reducible first | exact HB.out | apply below_alloc | apply pw_below_drewN | apply below_drew1) | exact HB.out)) hb); clear HB; have HB := n0_; clear n0_; (try clear hb); (try clear hb2); (try clear hk); (try clear hi)))
                    go_ret
                    exact ⟨by first | rfl | (simp [errW_none, errW_some] <;> rfl) | (simp [*, errW_none, errW_some] <;> rfl), by repeat (first | (with_reducible first | exact HB.out | apply below_alloc | apply pw_below_drewN | apply below_drew1) | exact HB.out)⟩
                  · rw [if_neg c55] at H
                    have c55b0 : (t167 == (-1)) = false := beq_eq_false_iff_ne.mpr c55
                    have c55b1 : (t167 != (-1)) = true := bne_iff_ne.mpr c55
                    obtain rfl := Option.some.inj H
                    go_wp2_with (first | ((with_reducible refine gate_callee (f := 14) rfl ?_); refine goesL_ (some 21) rfl rfl Try.func14 (by kernel_rfl) rfl #[] rfl (by (try simp only [List.map_toArray, List.map_cons, List.map_nil]); first | done | rfl | (simp only [List.length_drop, List.length_take]; rfl)) ?_; (with_reducible refine (armisticelaw26_awake.calls kj0  true _ A43.out).mono ?_); rintro e w64 ⟨rfl, hb⟩; refine ⟨_, rfl, ?_⟩; have n0_ := Aside0.mk (below_step (by repeat (first | (with_reducible first | exact HB.out | apply below_alloc | apply pw_below_drewN | apply below_drew1) | exact HB.out)) hb); clear HB; have HB := n0_; clear n0_; (try clear hb); (try clear hb2); (try clear hk); (try clear hi)) | (go_at_call 21; (with_reducible refine (armisticelaw26_of.calls kj0 0 0 1 true true _ A46.out).mono ?_); rintro e w65 ⟨rfl, hb⟩; have n0_ := Aside0.mk (below_step (by repeat (first | (with_reducible first | exact HB.out | apply below_alloc | apply pw_below_drewN | apply below_drew1) | exact HB.out)) hb); clear HB; have HB := n0_; clear n0_; (try clear hb); (try clear hb2); (try clear hk); (try clear hi)) | (go_at_call 21; (with_reducible refine (armisticelaw26_of.calls kj0 19 0 2432902008176640000 true true _ A48.out).mono ?_); rintro e w66 ⟨rfl, hb⟩; have n0_ := Aside0.mk (below_step (by repeat (first | (with_reducible first | exact HB.out | apply below_alloc | apply pw_below_drewN | apply below_drew1) | exact HB.out)) hb); clear HB; have HB := n0_; clear n0_; (try clear hb); (try clear hb2); (try clear hk); (try clear hi)) | (go_at_call 21; (with_reducible refine (armisticelaw26_of.calls kj0 20 0 0 false true _ A50.out).mono ?_); rintro e w67 ⟨rfl, hb⟩; have n0_ := Aside0.mk (below_step (by repeat (first | (with_reducible first | exact HB.out | apply below_alloc | apply pw_below_drewN | apply below_drew1) | exact HB.out)) hb); clear HB; have HB := n0_; clear n0_; (try clear hb); (try clear hb2); (try clear hk); (try clear hi)) | (go_at_call 21; (with_reducible refine (armisticelaw26_of.calls kj0 2 (-1) 0 false true _ A52.out).mono ?_); rintro e w68 ⟨rfl, hb⟩; have n0_ := Aside0.mk (below_step (by repeat (first | (with_reducible first | exact HB.out | apply below_alloc | apply pw_below_drewN | apply below_drew1) | exact HB.out)) hb); clear HB; have HB := n0_; clear n0_; (try clear hb); (try clear hb2); (try clear hk); (try clear hi)) | (go_at_call 17; (with_reducible refine (bound_Most.calls kj0 0 0 t167 _ A54.out).mono ?_); rintro e w69 ⟨rfl, hb⟩; have n0_ := Aside0.mk (below_step (by repeat (first | (with_reducible first | exact HB.out | apply below_alloc | apply pw_below_drewN | apply below_drew1) | exact HB.out)) hb); clear HB; have HB := n0_; clear n0_; (try clear hb); (try clear hb2); (try clear hk); (try clear hi)))
                    go_ret
                    exact ⟨by first | rfl | (simp [errW_none, errW_some] <;> rfl) | (simp [*, errW_none, errW_some] <;> rfl), by repeat (first | (with_reducible first | exact HB.out | apply below_alloc | apply pw_below_drewN | apply below_drew1) | exact HB.out)⟩
                · replace c53 := Bool.eq_false_iff.mpr c53
                  subst c53
                  have H1 : (some false) = some r := by rw [if_neg (show ¬ (false = true) by decide)] at H; exact H
                  clear H
                  have H := H1
                  clear H1
                  obtain rfl := Option.some.inj H
                  go_wp2_with (first | ((with_reducible refine gate_callee (f := 14) rfl ?_); refine goesL_ (some 21) rfl rfl Try.func14 (by kernel_rfl) rfl #[] rfl (by (try simp only [List.map_toArray, List.map_cons, List.map_nil]); first | done | rfl | (simp only [List.length_drop, List.length_take]; rfl)) ?_; (with_reducible refine (armisticelaw26_awake.calls kj0  true _ A43.out).mono ?_); rintro e w70 ⟨rfl, hb⟩; refine ⟨_, rfl, ?_⟩; have n0_ := Aside0.mk (below_step (by repeat (first | (with_reducible first | exact HB.out | apply below_alloc | apply pw_below_drewN | apply below_drew1) | exact HB.out)) hb); clear HB; have HB := n0_; clear n0_; (try clear hb); (try clear hb2); (try clear hk); (try clear hi)) | (go_at_call 21; (with_reducible refine (armisticelaw26_of.calls kj0 0 0 1 true true _ A46.out).mono ?_); rintro e w71 ⟨rfl, hb⟩; have n0_ := Aside0.mk (below_step (by repeat (first | (with_reducible first | exact HB.out | apply below_alloc | apply pw_below_drewN | apply below_drew1) | exact HB.out)) hb); clear HB; have HB := n0_; clear n0_; (try clear hb); (try clear hb2); (try clear hk); (try clear hi)) | (go_at_call 21; (with_reducible refine (armisticelaw26_of.calls kj0 19 0 2432902008176640000 true true _ A48.out).mono ?_); rintro e w72 ⟨rfl, hb⟩; have n0_ := Aside0.mk (below_step (by repeat (first | (with_reducible first | exact HB.out | apply below_alloc | apply pw_below_drewN | apply below_drew1) | exact HB.out)) hb); clear HB; have HB := n0_; clear n0_; (try clear hb); (try clear hb2); (try clear hk); (try clear hi)) | (go_at_call 21; (with_reducible refine (armisticelaw26_of.calls kj0 20 0 0 false true _ A50.out).mono ?_); rintro e w73 ⟨rfl, hb⟩; have n0_ := Aside0.mk (below_step (by repeat (first | (with_reducible first | exact HB.out | apply below_alloc | apply pw_below_drewN | apply below_drew1) | exact HB.out)) hb); clear HB; have HB := n0_; clear n0_; (try clear hb); (try clear hb2); (try clear hk); (try clear hi)) | (go_at_call 21; (with_reducible refine (armisticelaw26_of.calls kj0 2 (-1) 0 false false _ A52.out).mono ?_); rintro e w74 ⟨rfl, hb⟩; have n0_ := Aside0.mk (below_step (by repeat (first | (with_reducible first | exact HB.out | apply below_alloc | apply pw_below_drewN | apply below_drew1) | exact HB.out)) hb); clear HB; have HB := n0_; clear n0_; (try clear hb); (try clear hb2); (try clear hk); (try clear hi)))
                  go_ret
                  exact ⟨by first | rfl | (simp [errW_none, errW_some] <;> rfl) | (simp [*, errW_none, errW_some] <;> rfl), by repeat (first | (with_reducible first | exact HB.out | apply below_alloc | apply pw_below_drewN | apply below_drew1) | exact HB.out)⟩
              · replace c51 := Bool.eq_false_iff.mpr c51
                subst c51
                have H1 : (some false) = some r := by rw [if_neg (show ¬ (false = true) by decide)] at H; exact H
                clear H
                have H := H1
                clear H1
                obtain rfl := Option.some.inj H
                go_wp2_with (first | ((with_reducible refine gate_callee (f := 14) rfl ?_); refine goesL_ (some 21) rfl rfl Try.func14 (by kernel_rfl) rfl #[] rfl (by (try simp only [List.map_toArray, List.map_cons, List.map_nil]); first | done | rfl | (simp only [List.length_drop, List.length_take]; rfl)) ?_; (with_reducible refine (armisticelaw26_awake.calls kj0  true _ A43.out).mono ?_); rintro e w75 ⟨rfl, hb⟩; refine ⟨_, rfl, ?_⟩; have n0_ := Aside0.mk (below_step (by repeat (first | (with_reducible first | exact HB.out | apply below_alloc | apply pw_below_drewN | apply below_drew1) | exact HB.out)) hb); clear HB; have HB := n0_; clear n0_; (try clear hb); (try clear hb2); (try clear hk); (try clear hi)) | (go_at_call 21; (with_reducible refine (armisticelaw26_of.calls kj0 0 0 1 true true _ A46.out).mono ?_); rintro e w76 ⟨rfl, hb⟩; have n0_ := Aside0.mk (below_step (by repeat (first | (with_reducible first | exact HB.out | apply below_alloc | apply pw_below_drewN | apply below_drew1) | exact HB.out)) hb); clear HB; have HB := n0_; clear n0_; (try clear hb); (try clear hb2); (try clear hk); (try clear hi)) | (go_at_call 21; (with_reducible refine (armisticelaw26_of.calls kj0 19 0 2432902008176640000 true true _ A48.out).mono ?_); rintro e w77 ⟨rfl, hb⟩; have n0_ := Aside0.mk (below_step (by repeat (first | (with_reducible first | exact HB.out | apply below_alloc | apply pw_below_drewN | apply below_drew1) | exact HB.out)) hb); clear HB; have HB := n0_; clear n0_; (try clear hb); (try clear hb2); (try clear hk); (try clear hi)) | (go_at_call 21; (with_reducible refine (armisticelaw26_of.calls kj0 20 0 0 false false _ A50.out).mono ?_); rintro e w78 ⟨rfl, hb⟩; have n0_ := Aside0.mk (below_step (by repeat (first | (with_reducible first | exact HB.out | apply below_alloc | apply pw_below_drewN | apply below_drew1) | exact HB.out)) hb); clear HB; have HB := n0_; clear n0_; (try clear hb); (try clear hb2); (try clear hk); (try clear hi)))
                go_ret
                exact ⟨by first | rfl | (simp [errW_none, errW_some] <;> rfl) | (simp [*, errW_none, errW_some] <;> rfl), by repeat (first | (with_reducible first | exact HB.out | apply below_alloc | apply pw_below_drewN | apply below_drew1) | exact HB.out)⟩
            · replace c49 := Bool.eq_false_iff.mpr c49
              subst c49
              have H1 : (some false) = some r := by rw [if_neg (show ¬ (false = true) by decide)] at H; exact H
              clear H
              have H := H1
              clear H1
              obtain rfl := Option.some.inj H
              go_wp2_with (first | ((with_reducible refine gate_callee (f := 14) rfl ?_); refine goesL_ (some 21) rfl rfl Try.func14 (by kernel_rfl) rfl #[] rfl (by (try simp only [List.map_toArray, List.map_cons, List.map_nil]); first | done | rfl | (simp only [List.length_drop, List.length_take]; rfl)) ?_; (with_reducible refine (armisticelaw26_awake.calls kj0  true _ A43.out).mono ?_); rintro e w79 ⟨rfl, hb⟩; refine ⟨_, rfl, ?_⟩; have n0_ := Aside0.mk (below_step (by repeat (first | (with_reducible first | exact HB.out | apply below_alloc | apply pw_below_drewN | apply below_drew1) | exact HB.out)) hb); clear HB; have HB := n0_; clear n0_; (try clear hb); (try clear hb2); (try clear hk); (try clear hi)) | (go_at_call 21; (with_reducible refine (armisticelaw26_of.calls kj0 0 0 1 true true _ A46.out).mono ?_); rintro e w80 ⟨rfl, hb⟩; have n0_ := Aside0.mk (below_step (by repeat (first | (with_reducible first | exact HB.out | apply below_alloc | apply pw_below_drewN | apply below_drew1) | exact HB.out)) hb); clear HB; have HB := n0_; clear n0_; (try clear hb); (try clear hb2); (try clear hk); (try clear hi)) | (go_at_call 21; (with_reducible refine (armisticelaw26_of.calls kj0 19 0 2432902008176640000 true false _ A48.out).mono ?_); rintro e w81 ⟨rfl, hb⟩; have n0_ := Aside0.mk (below_step (by repeat (first | (with_reducible first | exact HB.out | apply below_alloc | apply pw_below_drewN | apply below_drew1) | exact HB.out)) hb); clear HB; have HB := n0_; clear n0_; (try clear hb); (try clear hb2); (try clear hk); (try clear hi)))
              go_ret
              exact ⟨by first | rfl | (simp [errW_none, errW_some] <;> rfl) | (simp [*, errW_none, errW_some] <;> rfl), by repeat (first | (with_reducible first | exact HB.out | apply below_alloc | apply pw_below_drewN | apply below_drew1) | exact HB.out)⟩
          · replace c47 := Bool.eq_false_iff.mpr c47
            subst c47
            have H1 : (some false) = some r := by rw [if_neg (show ¬ (false = true) by decide)] at H; exact H
            clear H
            have H := H1
            clear H1
            obtain rfl := Option.some.inj H
            go_wp2_with (first | ((with_reducible refine gate_callee (f := 14) rfl ?_); refine goesL_ (some 21) rfl rfl Try.func14 (by kernel_rfl) rfl #[] rfl (by (try simp only [List.map_toArray, List.map_cons, List.map_nil]); first | done | rfl | (simp only [List.length_drop, List.length_take]; rfl)) ?_; (with_reducible refine (armisticelaw26_awake.calls kj0  true _ A43.out).mono ?_); rintro e w82 ⟨rfl, hb⟩; refine ⟨_, rfl, ?_⟩; have n0_ := Aside0.mk (below_step (by repeat (first | (with_reducible first | exact HB.out | apply below_alloc | apply pw_below_drewN | apply below_drew1) | exact HB.out)) hb); clear HB; have HB := n0_; clear n0_; (try clear hb); (try clear hb2); (try clear hk); (try clear hi)) | (go_at_call 21; (with_reducible refine (armisticelaw26_of.calls kj0 0 0 1 true false _ A46.out).mono ?_); rintro e w83 ⟨rfl, hb⟩; have n0_ := Aside0.mk (below_step (by repeat (first | (with_reducible first | exact HB.out | apply below_alloc | apply pw_below_drewN | apply below_drew1) | exact HB.out)) hb); clear HB; have HB := n0_; clear n0_; (try clear hb); (try clear hb2); (try clear hk); (try clear hi)))
            go_ret
            exact ⟨by first | rfl | (simp [errW_none, errW_some] <;> rfl) | (simp [*, errW_none, errW_some] <;> rfl), by repeat (first | (with_reducible first | exact HB.out | apply below_alloc | apply pw_below_drewN | apply below_drew1) | exact HB.out)⟩
        · replace c45 := Bool.eq_false_iff.mpr c45
          subst c45
          have H1 : (some false) = some r := by rw [if_neg (show ¬ (false = true) by decide)] at H; exact H
          clear H
          have H := H1
          clear H1
          obtain rfl := Option.some.inj H
          go_wp2_with (first | ((with_reducible refine gate_callee (f := 14) rfl ?_); refine goesL_ (some 21) rfl rfl Try.func14 (by kernel_rfl) rfl #[] rfl (by (try simp only [List.map_toArray, List.map_cons, List.map_nil]); first | done | rfl | (simp only [List.length_drop, List.length_take]; rfl)) ?_; (with_reducible refine (armisticelaw26_awake.calls kj0  true _ A43.out).mono ?_); rintro e w84 ⟨rfl, hb⟩; refine ⟨_, rfl, ?_⟩; have n0_ := Aside0.mk (below_step (by repeat (first | (with_reducible first | exact HB.out | apply below_alloc | apply pw_below_drewN | apply below_drew1) | exact HB.out)) hb); clear HB; have HB := n0_; clear n0_; (try clear hb); (try clear hb2); (try clear hk); (try clear hi)))
          go_ret
          exact ⟨by first | rfl | (simp [errW_none, errW_some] <;> rfl) | (simp [*, errW_none, errW_some] <;> rfl), by repeat (first | (with_reducible first | exact HB.out | apply below_alloc | apply pw_below_drewN | apply below_drew1) | exact HB.out)⟩
      · replace c44 := Bool.eq_false_iff.mpr c44
        subst c44
        have H1 : (some false) = some r := by rw [if_neg (show ¬ (false = true) by decide)] at H; exact H
        clear H
        have H := H1
        clear H1
        obtain rfl := Option.some.inj H
        go_wp2_with (first | ((with_reducible refine gate_callee (f := 14) rfl ?_); refine goesL_ (some 21) rfl rfl Try.func14 (by kernel_rfl) rfl #[] rfl (by (try simp only [List.map_toArray, List.map_cons, List.map_nil]); first | done | rfl | (simp only [List.length_drop, List.length_take]; rfl)) ?_; (with_reducible refine (armisticelaw26_awake.calls kj0  false _ A43.out).mono ?_); rintro e w85 ⟨rfl, hb⟩; refine ⟨_, rfl, ?_⟩; have n0_ := Aside0.mk (below_step (by repeat (first | (with_reducible first | exact HB.out | apply below_alloc | apply pw_below_drewN | apply below_drew1) | exact HB.out)) hb); clear HB; have HB := n0_; clear n0_; (try clear hb); (try clear hb2); (try clear hk); (try clear hi)))
        go_ret
        exact ⟨by first | rfl | (simp [errW_none, errW_some] <;> rfl) | (simp [*, errW_none, errW_some] <;> rfl), by repeat (first | (with_reducible first | exact HB.out | apply below_alloc | apply pw_below_drewN | apply below_drew1) | exact HB.out)⟩

/-- THE ONE PURE STATEMENT of armisticelaw26_BoundKnown: yours. -/
def armisticelaw26_BoundKnown.Pure : Prop := ∃ k, armisticelaw26_BoundKnown.f k  = some true
theorem armisticelaw26_BoundKnown.walk (P : armisticelaw26_BoundKnown.Pure)  (w : World)  :
    Calls Try.prog 5 #[] w fun e w' => e = .returned (.bool true) ∧ Below w.heap.size w w' := by
  obtain ⟨k, h⟩ := P  
  refine (armisticelaw26_BoundKnown.calls k  true w h).mono ?_
  rintro e w' ⟨rfl, hd⟩
  exact ⟨rfl, hd⟩

/-! ### armisticelaw26_BoundTries: function 6 -/
mutual
def armisticelaw26_BoundTries.j0 : Nat → Int → Int → Bool → Int → Bool → Bool → Option (Bool)
  | 0, _, _, _, _, _, _ => none
  | k + 1, x0, x1, x5, x6, x7, x33 => if x33 = true then (some false) else (if x0 > 0 then (armisticelaw26_BoundTries.j1 k x0 x1 x5 x6 x7 x7) else (armisticelaw26_BoundTries.j1 k x0 x1 x5 x6 x7 false))
def armisticelaw26_BoundTries.j1 : Nat → Int → Int → Bool → Int → Bool → Bool → Option (Bool)
  | 0, _, _, _, _, _, _ => none
  | k + 1, x0, x1, x5, x6, x7, x38 => if x38 = true then ((bound_Tries.f (wrap64 (x0 - 1))).bind fun bt176 => (if bt176.2 = true then (if x6 = (wrap64 (x0 * (wrap64 (bt176.1 + 1)))) then ((bound_Of.f k x0 x1).bind fun bt178 => (if x5 = true then (if bt178.2 = true then (if x7 = true then (if (wrap64 (x1 + 1)) = 0 then (none) else (some (decide (x6 ≤ (wrap64 (Int.tdiv bt178.1 (wrap64 (x1 + 1)))))))) else (some false)) else (some true)) else (some false))) else (some false)) else (some false))) else ((bound_Of.f k x0 x1).bind fun bt180 => (if x5 = true then (if bt180.2 = true then (if x7 = true then (if (wrap64 (x1 + 1)) = 0 then (none) else (some (decide (x6 ≤ (wrap64 (Int.tdiv bt180.1 (wrap64 (x1 + 1)))))))) else (some false)) else (some true)) else (some false)))
end
def armisticelaw26_BoundTries.f (k : Nat) (a0 : Int) (a1 : Int) : Option (Bool) := (armisticelaw26_BoundKnown.f k).bind fun t170 => ((armisticekit_Pick.f a0 20).bind fun t171 => ((armisticekit_Pick.f a1 1001).bind fun t172 => ((bound_Tries.f t171).bind fun bt173 => (if t171 ≤ 8 then (if bt173.2 = true then ((armisticelaw26_counted.f k t171).bind fun t175 => (armisticelaw26_BoundTries.j0 k t171 t172 t170 bt173.1 bt173.2 (bt173.1 != t175))) else (armisticelaw26_BoundTries.j0 k t171 t172 t170 bt173.1 bt173.2 true)) else (armisticelaw26_BoundTries.j0 k t171 t172 t170 bt173.1 bt173.2 false)))))
theorem armisticelaw26_BoundTries.mono_l : ∀ k, (∀ y0 y1 y2 y3 y4 y5, LeO (armisticelaw26_BoundTries.j0 k y0 y1 y2 y3 y4 y5) (armisticelaw26_BoundTries.j0 (k + 1) y0 y1 y2 y3 y4 y5)) ∧ (∀ y0 y1 y2 y3 y4 y5, LeO (armisticelaw26_BoundTries.j1 k y0 y1 y2 y3 y4 y5) (armisticelaw26_BoundTries.j1 (k + 1) y0 y1 y2 y3 y4 y5))
  | 0 => ⟨fun _ _ _ _ _ _ r h => by simp [armisticelaw26_BoundTries.j0] at h, fun _ _ _ _ _ _ r h => by simp [armisticelaw26_BoundTries.j1] at h⟩
  | k + 1 => by
    obtain ⟨ih0, ih1⟩ := armisticelaw26_BoundTries.mono_l k
    refine ⟨?_, ?_⟩
    · intro y0 y1 y2 y3 y4 y5
      unfold armisticelaw26_BoundTries.j0
      repeat' first
      | (with_reducible exact ih0 _ _ _ _ _ _)
      | (with_reducible exact ih1 _ _ _ _ _ _)
      | (with_reducible exact armisticelaw26_BoundKnown.mono _)
      | (with_reducible exact armisticelaw26_counted.mono _ _)
      | (with_reducible exact bound_Of.mono _ _ _)
      | (with_reducible exact LeO.refl _)
      | (with_reducible exact LeO.none _)
      | (with_reducible refine LeO.ite ?_ ?_)
      | (with_reducible refine LeO.bind ?_ (fun _ => ?_))
      | exact ih0 _ _ _ _ _ _
      | exact ih1 _ _ _ _ _ _
      | exact armisticelaw26_BoundKnown.mono _
      | exact armisticelaw26_counted.mono _ _
      | exact bound_Of.mono _ _ _
      | exact LeO.none _
      | refine LeO.ite ?_ ?_
      | refine LeO.bind ?_ (fun _ => ?_)
    · intro y0 y1 y2 y3 y4 y5
      unfold armisticelaw26_BoundTries.j1
      repeat' first
      | (with_reducible exact ih0 _ _ _ _ _ _)
      | (with_reducible exact ih1 _ _ _ _ _ _)
      | (with_reducible exact armisticelaw26_BoundKnown.mono _)
      | (with_reducible exact armisticelaw26_counted.mono _ _)
      | (with_reducible exact bound_Of.mono _ _ _)
      | (with_reducible exact LeO.refl _)
      | (with_reducible exact LeO.none _)
      | (with_reducible refine LeO.ite ?_ ?_)
      | (with_reducible refine LeO.bind ?_ (fun _ => ?_))
      | exact ih0 _ _ _ _ _ _
      | exact ih1 _ _ _ _ _ _
      | exact armisticelaw26_BoundKnown.mono _
      | exact armisticelaw26_counted.mono _ _
      | exact bound_Of.mono _ _ _
      | exact LeO.none _
      | refine LeO.ite ?_ ?_
      | refine LeO.bind ?_ (fun _ => ?_)
theorem armisticelaw26_BoundTries.mono : ∀ a0 a1 k, LeO (armisticelaw26_BoundTries.f k a0 a1) (armisticelaw26_BoundTries.f (k + 1) a0 a1) := by
  intro a0 a1 k
  obtain ⟨ih0, ih1⟩ := armisticelaw26_BoundTries.mono_l k
  unfold armisticelaw26_BoundTries.f
  repeat' first
      | (with_reducible exact ih0 _ _ _ _ _ _)
      | (with_reducible exact ih1 _ _ _ _ _ _)
      | (with_reducible exact armisticelaw26_BoundKnown.mono _)
      | (with_reducible exact armisticelaw26_counted.mono _ _)
      | (with_reducible exact bound_Of.mono _ _ _)
      | (with_reducible exact LeO.refl _)
      | (with_reducible exact LeO.none _)
      | (with_reducible refine LeO.ite ?_ ?_)
      | (with_reducible refine LeO.bind ?_ (fun _ => ?_))
      | exact ih0 _ _ _ _ _ _
      | exact ih1 _ _ _ _ _ _
      | exact armisticelaw26_BoundKnown.mono _
      | exact armisticelaw26_counted.mono _ _
      | exact bound_Of.mono _ _ _
      | exact LeO.none _
      | refine LeO.ite ?_ ?_
      | refine LeO.bind ?_ (fun _ => ?_)
set_option maxHeartbeats 8000000 in
set_option maxRecDepth 100000 in
theorem armisticelaw26_BoundTries.calls (k : Nat) (a0 : Int) (a1 : Int) (r : Bool) (w : World) (h : armisticelaw26_BoundTries.f k a0 a1 = some r) :
    Calls Try.prog 6 #[.int .i64 a0, .int .i64 a1] w fun e w' => e = .returned (.bool r) ∧ Below w.heap.size w w' := by
  have HB := Aside0.mk (Below.refl w.heap.size w)
  have H : ((armisticelaw26_BoundKnown.f k).bind fun t170 => ((armisticekit_Pick.f a0 20).bind fun t171 => ((armisticekit_Pick.f a1 1001).bind fun t172 => ((bound_Tries.f t171).bind fun bt173 => (if t171 ≤ 8 then (if bt173.2 = true then ((armisticelaw26_counted.f k t171).bind fun t175 => (armisticelaw26_BoundTries.j0 k t171 t172 t170 bt173.1 bt173.2 (bt173.1 != t175))) else (armisticelaw26_BoundTries.j0 k t171 t172 t170 bt173.1 bt173.2 true)) else (armisticelaw26_BoundTries.j0 k t171 t172 t170 bt173.1 bt173.2 false)))))) = some r := h
  clear h
  replace H := Option.bind_eq_some_iff.mp H
  obtain ⟨t170, A30, H⟩ := H
  replace H : ((armisticekit_Pick.f a0 20).bind fun t171 => ((armisticekit_Pick.f a1 1001).bind fun t172 => ((bound_Tries.f t171).bind fun bt173 => (if t171 ≤ 8 then (if bt173.2 = true then ((armisticelaw26_counted.f k t171).bind fun t175 => (armisticelaw26_BoundTries.j0 k t171 t172 t170 bt173.1 bt173.2 (bt173.1 != t175))) else (armisticelaw26_BoundTries.j0 k t171 t172 t170 bt173.1 bt173.2 true)) else (armisticelaw26_BoundTries.j0 k t171 t172 t170 bt173.1 bt173.2 false))))) = some r := H
  have A3 := Aside0.mk A30
  clear A30
  replace H := Option.bind_eq_some_iff.mp H
  obtain ⟨t171, A40, H⟩ := H
  replace H : ((armisticekit_Pick.f a1 1001).bind fun t172 => ((bound_Tries.f t171).bind fun bt173 => (if t171 ≤ 8 then (if bt173.2 = true then ((armisticelaw26_counted.f k t171).bind fun t175 => (armisticelaw26_BoundTries.j0 k t171 t172 t170 bt173.1 bt173.2 (bt173.1 != t175))) else (armisticelaw26_BoundTries.j0 k t171 t172 t170 bt173.1 bt173.2 true)) else (armisticelaw26_BoundTries.j0 k t171 t172 t170 bt173.1 bt173.2 false)))) = some r := H
  have A4 := Aside0.mk A40
  clear A40
  replace H := Option.bind_eq_some_iff.mp H
  obtain ⟨t172, A50, H⟩ := H
  replace H : ((bound_Tries.f t171).bind fun bt173 => (if t171 ≤ 8 then (if bt173.2 = true then ((armisticelaw26_counted.f k t171).bind fun t175 => (armisticelaw26_BoundTries.j0 k t171 t172 t170 bt173.1 bt173.2 (bt173.1 != t175))) else (armisticelaw26_BoundTries.j0 k t171 t172 t170 bt173.1 bt173.2 true)) else (armisticelaw26_BoundTries.j0 k t171 t172 t170 bt173.1 bt173.2 false))) = some r := H
  have A5 := Aside0.mk A50
  clear A50
  replace H := Option.bind_eq_some_iff.mp H
  obtain ⟨⟨t173, t174⟩, A60, H⟩ := H
  replace H : (if t171 ≤ 8 then (if t174 = true then ((armisticelaw26_counted.f k t171).bind fun t175 => (armisticelaw26_BoundTries.j0 k t171 t172 t170 t173 t174 (t173 != t175))) else (armisticelaw26_BoundTries.j0 k t171 t172 t170 t173 t174 true)) else (armisticelaw26_BoundTries.j0 k t171 t172 t170 t173 t174 false)) = some r := H
  have A6 := Aside0.mk A60
  clear A60
  have HC7 := Aside0.mk H
  clear H
  go_enter Try.func6, Try.ntmps6
  go_upto_region 4 with (first | ((with_reducible refine gate_callee (f := 5) rfl ?_); refine goesL_ (some 12) rfl rfl Try.func5 (by kernel_rfl) rfl #[] rfl (by (try simp only [List.map_toArray, List.map_cons, List.map_nil]); first | done | rfl | (simp only [List.length_drop, List.length_take]; rfl)) ?_; (with_reducible refine (armisticelaw26_BoundKnown.calls k  t170 _ A3.out).mono ?_); rintro e w8 ⟨rfl, hb⟩; refine ⟨_, rfl, ?_⟩; have n0_ := Aside0.mk (below_step (by repeat (first | (with_reducible first | exact HB.out | apply below_alloc | apply pw_below_drewN | apply below_drew1) | exact HB.out)) hb); clear HB; have HB := n0_; clear n0_; (try clear hb); (try clear hb2); (try clear hk); (try clear hi)) | ((with_reducible refine gate_callee (f := 22) rfl ?_); refine goesL_ (some 14) rfl rfl Try.func22 (by kernel_rfl) rfl #[.int .i64 a0, .int .i64 20] rfl (by (try simp only [List.map_toArray, List.map_cons, List.map_nil]); first | done | rfl | (simp only [List.length_drop, List.length_take]; rfl)) ?_; (with_reducible refine (armisticekit_Pick.calls a0 20 t171 _ A4.out).mono ?_); rintro e w' ⟨rfl, ⟨nd, rfl⟩⟩; refine ⟨_, rfl, ?_⟩) | ((with_reducible refine gate_callee (f := 22) rfl ?_); refine goesL_ (some 16) rfl rfl Try.func22 (by kernel_rfl) rfl #[.int .i64 a1, .int .i64 1001] rfl (by (try simp only [List.map_toArray, List.map_cons, List.map_nil]); first | done | rfl | (simp only [List.length_drop, List.length_take]; rfl)) ?_; (with_reducible refine (armisticekit_Pick.calls a1 1001 t172 _ A5.out).mono ?_); rintro e w' ⟨rfl, ⟨nd, rfl⟩⟩; refine ⟨_, rfl, ?_⟩) | ((with_reducible refine gate_callee (f := 10) rfl ?_); refine goesL_ (some 19) rfl rfl Try.func10 (by kernel_rfl) rfl #[.int .i64 t171] rfl (by (try simp only [List.map_toArray, List.map_cons, List.map_nil]); first | done | rfl | (simp only [List.length_drop, List.length_take]; rfl)) ?_; (with_reducible refine (bound_Tries.calls t171 t173 t174 _ A6.out).mono ?_); rintro e w9 ⟨rfl, hb⟩; refine ⟨_, rfl, ?_⟩; have n0_ := Aside0.mk (below_step (by repeat (first | (with_reducible first | exact HB.out | apply below_alloc | apply pw_below_drewN | apply below_drew1) | exact HB.out)) hb); clear HB; have HB := n0_; clear n0_; (try clear hb); (try clear hb2); (try clear hk); (try clear hi)))
  (try simp only [Act.put, List.setIfInBounds_toArray, List.set_cons_zero, List.set_cons_succ])
  go_cut [33] (fun v33 wc => ∃ (kq : Nat) (x33_6 : Bool), v33 = .bool x33_6 ∧ Aside0 (armisticelaw26_BoundTries.j0 kq t171 t172 t170 t173 t174 x33_6 = some r) ∧ Aside0 (kq ≤ k) ∧ Aside0 (Below w.heap.size w wc))
  case first =>
    have H := HC7.out
    clear HC7
    by_cases c10 : t171 ≤ 8
    · rw [if_pos c10] at H
      have c10b0 : decide (t171 ≤ 8) = true := decide_eq_true c10
      clear c10
      (first | rw [c10b0] | (simp only [i64_w, i32_w]; rw [c10b0]) | skip)
      by_cases c11 : t174 = true
      · subst c11
        have H1 : ((armisticelaw26_counted.f k t171).bind fun t175 => (armisticelaw26_BoundTries.j0 k t171 t172 t170 t173 true (t173 != t175))) = some r := by rw [if_pos rfl] at H; exact H
        clear H
        have H := H1
        clear H1
        replace H := Option.bind_eq_some_iff.mp H
        obtain ⟨t175, A120, H⟩ := H
        replace H : (armisticelaw26_BoundTries.j0 k t171 t172 t170 t173 true (t173 != t175)) = some r := H
        have A12 := Aside0.mk A120
        clear A120
        have H' := Aside0.mk H
        clear H
        go_wp2_with (first | (go_at_call 23; (with_reducible refine (armisticelaw26_counted.calls k t171 t175 _ A12.out).mono ?_); rintro e w' ⟨rfl, ⟨nd, rfl⟩⟩))
        go_meet
        case rel => exact ⟨_, ((t173 != t175)), (by first | rfl | (simp; done) | (simp [*]; done)), H', ⟨by first | omega | exact Nat.le_refl _⟩, ⟨by repeat (first | (with_reducible first | exact HB.out | apply below_alloc | apply pw_below_drewN | apply below_drew1) | exact HB.out)⟩⟩
      · replace c11 := Bool.eq_false_iff.mpr c11
        subst c11
        have H1 : (armisticelaw26_BoundTries.j0 k t171 t172 t170 t173 false true) = some r := by rw [if_neg (show ¬ (false = true) by decide)] at H; exact H
        clear H
        have H := H1
        clear H1
        have H' := Aside0.mk H
        clear H
        go_wp2
        go_meet
        case rel => exact ⟨_, (true), (by first | rfl | (simp; done) | (simp [*]; done)), H', ⟨by first | omega | exact Nat.le_refl _⟩, ⟨by repeat (first | (with_reducible first | exact HB.out | apply below_alloc | apply pw_below_drewN | apply below_drew1) | exact HB.out)⟩⟩
    · rw [if_neg c10] at H
      have c10b0 : decide (t171 ≤ 8) = false := decide_eq_false c10
      clear c10
      (first | rw [c10b0] | (simp only [i64_w, i32_w]; rw [c10b0]) | skip)
      have H' := Aside0.mk H
      clear H
      go_wp2
      go_meet
      case rel => exact ⟨_, (false), (by first | rfl | (simp; done) | (simp [*]; done)), H', ⟨by first | omega | exact Nat.le_refl _⟩, ⟨by repeat (first | (with_reducible first | exact HB.out | apply below_alloc | apply pw_below_drewN | apply below_drew1) | exact HB.out)⟩⟩
  case rest =>
    clear HC7
    try clear c1
    try clear c2
    try clear p2
    try clear c5
    try clear c6
    try clear c10
    try clear c10b0
    try clear c11
    obtain ⟨kq, x33_6, rfl, HA, HJ6, HB⟩ := hcut
    cases kq with
    | zero => exact absurd HA.out (by simp [armisticelaw26_BoundTries.j0])
    | succ kj6 =>
      have H := HA.out
      clear HA
      simp only [armisticelaw26_BoundTries.j0] at H
      by_cases c13 : x33_6 = true
      · subst c13
        have H1 : (some false) = some r := by rw [if_pos rfl] at H; exact H
        clear H
        have H := H1
        clear H1
        obtain rfl := Option.some.inj H
        go_wp2
        go_ret
        exact ⟨by first | rfl | (simp [errW_none, errW_some] <;> rfl) | (simp [*, errW_none, errW_some] <;> rfl), by repeat (first | (with_reducible first | exact HB.out | apply below_alloc | apply pw_below_drewN | apply below_drew1) | exact HB.out)⟩
      · replace c13 := Bool.eq_false_iff.mpr c13
        subst c13
        have H1 : (if t171 > 0 then (armisticelaw26_BoundTries.j1 kj6 t171 t172 t170 t173 t174 t174) else (armisticelaw26_BoundTries.j1 kj6 t171 t172 t170 t173 t174 false)) = some r := by rw [if_neg (show ¬ (false = true) by decide)] at H; exact H
        clear H
        have H := H1
        clear H1
        have HC14 := Aside0.mk H
        clear H
        go_upto_region 6 with (fail)
        go_cut [38] (fun v38 wc => ∃ (kq : Nat) (x38_13 : Bool), v38 = .bool x38_13 ∧ Aside0 (armisticelaw26_BoundTries.j1 kq t171 t172 t170 t173 t174 x38_13 = some r) ∧ Aside0 (kq ≤ kj6) ∧ Aside0 (Below w.heap.size w wc))
        case first =>
          have H := HC14.out
          clear HC14
          by_cases c15 : t171 > 0
          · rw [if_pos c15] at H
            have c15b0 : decide (0 < t171) = true := decide_eq_true c15
            clear c15
            (first | rw [c15b0] | (simp only [i64_w, i32_w]; rw [c15b0]) | skip)
            have H' := Aside0.mk H
            clear H
            go_wp2
            go_meet
            case rel => exact ⟨_, (t174), (by first | rfl | (simp; done) | (simp [*]; done)), H', ⟨by have := HJ6.out; first | omega | exact Nat.le_refl _⟩, ⟨by repeat (first | (with_reducible first | exact HB.out | apply below_alloc | apply pw_below_drewN | apply below_drew1) | exact HB.out)⟩⟩
          · rw [if_neg c15] at H
            have c15b0 : decide (0 < t171) = false := decide_eq_false c15
            clear c15
            (first | rw [c15b0] | (simp only [i64_w, i32_w]; rw [c15b0]) | skip)
            have H' := Aside0.mk H
            clear H
            go_wp2
            go_meet
            case rel => exact ⟨_, (false), (by first | rfl | (simp; done) | (simp [*]; done)), H', ⟨by have := HJ6.out; first | omega | exact Nat.le_refl _⟩, ⟨by repeat (first | (with_reducible first | exact HB.out | apply below_alloc | apply pw_below_drewN | apply below_drew1) | exact HB.out)⟩⟩
        case rest =>
          clear HC14
          try clear c1
          try clear c2
          try clear p2
          try clear c5
          try clear c6
          try clear c10
          try clear c10b0
          try clear c11
          try clear c13
          try clear c15
          try clear c15b0
          try clear p2
          obtain ⟨kq, x38_13, rfl, HA, HJ13, HB⟩ := hcut
          cases kq with
          | zero => exact absurd HA.out (by simp [armisticelaw26_BoundTries.j1])
          | succ kj13 =>
            have H := HA.out
            clear HA
            simp only [armisticelaw26_BoundTries.j1] at H
            by_cases c16 : x38_13 = true
            · subst c16
              have H1 : ((bound_Tries.f (wrap64 (t171 - 1))).bind fun bt176 => (if bt176.2 = true then (if t173 = (wrap64 (t171 * (wrap64 (bt176.1 + 1)))) then ((bound_Of.f kj13 t171 t172).bind fun bt178 => (if t170 = true then (if bt178.2 = true then (if t174 = true then (if (wrap64 (t172 + 1)) = 0 then (none) else (some (decide (t173 ≤ (wrap64 (Int.tdiv bt178.1 (wrap64 (t172 + 1)))))))) else (some false)) else (some true)) else (some false))) else (some false)) else (some false))) = some r := by rw [if_pos rfl] at H; exact H
              clear H
              have H := H1
              clear H1
              replace H := Option.bind_eq_some_iff.mp H
              obtain ⟨⟨t176, t177⟩, A170, H⟩ := H
              replace H : (if t177 = true then (if t173 = (wrap64 (t171 * (wrap64 (t176 + 1)))) then ((bound_Of.f kj13 t171 t172).bind fun bt178 => (if t170 = true then (if bt178.2 = true then (if t174 = true then (if (wrap64 (t172 + 1)) = 0 then (none) else (some (decide (t173 ≤ (wrap64 (Int.tdiv bt178.1 (wrap64 (t172 + 1)))))))) else (some false)) else (some true)) else (some false))) else (some false)) else (some false)) = some r := H
              have A17 := Aside0.mk A170
              clear A170
              by_cases c18 : t177 = true
              · subst c18
                have H1 : (if t173 = (wrap64 (t171 * (wrap64 (t176 + 1)))) then ((bound_Of.f kj13 t171 t172).bind fun bt178 => (if t170 = true then (if bt178.2 = true then (if t174 = true then (if (wrap64 (t172 + 1)) = 0 then (none) else (some (decide (t173 ≤ (wrap64 (Int.tdiv bt178.1 (wrap64 (t172 + 1)))))))) else (some false)) else (some true)) else (some false))) else (some false)) = some r := by rw [if_pos rfl] at H; exact H
                clear H
                have H := H1
                clear H1
                by_cases c19 : t173 = (wrap64 (t171 * (wrap64 (t176 + 1))))
                · rw [if_pos c19] at H
                  have c19b0 : (t173 == (wrap64 (t171 * (wrap64 (t176 + 1))))) = true := beq_iff_eq.mpr c19
                  have c19b1 : (t173 != (wrap64 (t171 * (wrap64 (t176 + 1))))) = false := bne_eq_false_iff_eq.mpr c19
                  clear c19
                  replace H := Option.bind_eq_some_iff.mp H
                  obtain ⟨⟨t178, t179⟩, A200, H⟩ := H
                  replace H : (if t170 = true then (if t179 = true then (if t174 = true then (if (wrap64 (t172 + 1)) = 0 then (none) else (some (decide (t173 ≤ (wrap64 (Int.tdiv t178 (wrap64 (t172 + 1)))))))) else (some false)) else (some true)) else (some false)) = some r := H
                  have A20 := Aside0.mk A200
                  clear A200
                  by_cases c21 : t170 = true
                  · subst c21
                    have H1 : (if t179 = true then (if t174 = true then (if (wrap64 (t172 + 1)) = 0 then (none) else (some (decide (t173 ≤ (wrap64 (Int.tdiv t178 (wrap64 (t172 + 1)))))))) else (some false)) else (some true)) = some r := by rw [if_pos rfl] at H; exact H
                    clear H
                    have H := H1
                    clear H1
                    by_cases c22 : t179 = true
                    · subst c22
                      have H1 : (if t174 = true then (if (wrap64 (t172 + 1)) = 0 then (none) else (some (decide (t173 ≤ (wrap64 (Int.tdiv t178 (wrap64 (t172 + 1)))))))) else (some false)) = some r := by rw [if_pos rfl] at H; exact H
                      clear H
                      have H := H1
                      clear H1
                      by_cases c23 : t174 = true
                      · subst c23
                        have H1 : (if (wrap64 (t172 + 1)) = 0 then (none) else (some (decide (t173 ≤ (wrap64 (Int.tdiv t178 (wrap64 (t172 + 1)))))))) = some r := by rw [if_pos rfl] at H; exact H
                        clear H
                        have H := H1
                        clear H1
                        by_cases c24 : (wrap64 (t172 + 1)) = 0
                        · rw [if_pos c24] at H
                          exact absurd H (by simp)
                        · rw [if_neg c24] at H
                          have c24b0 : ((wrap64 (t172 + 1)) == 0) = false := beq_eq_false_iff_ne.mpr c24
                          have c24b1 : ((wrap64 (t172 + 1)) != 0) = true := bne_iff_ne.mpr c24
                          obtain rfl := Option.some.inj H
                          go_wp2_with (first | ((with_reducible refine gate_callee (f := 10) rfl ?_); refine goesL_ (some 42) rfl rfl Try.func10 (by kernel_rfl) rfl #[.int .i64 (wrap64 (t171 - 1))] rfl (by (try simp only [List.map_toArray, List.map_cons, List.map_nil]); first | done | rfl | (simp only [List.length_drop, List.length_take]; rfl)) ?_; (with_reducible refine (bound_Tries.calls (wrap64 (t171 - 1)) t176 true _ A17.out).mono ?_); rintro e w25 ⟨rfl, hb⟩; refine ⟨_, rfl, ?_⟩; have n0_ := Aside0.mk (below_step (by repeat (first | (with_reducible first | exact HB.out | apply below_alloc | apply pw_below_drewN | apply below_drew1) | exact HB.out)) hb); clear HB; have HB := n0_; clear n0_; (try clear hb); (try clear hb2); (try clear hk); (try clear hi)) | ((with_reducible refine gate_callee (f := 12) rfl ?_); refine goesL_ (some 58) rfl rfl Try.func12 (by kernel_rfl) rfl #[.int .i64 t171, .int .i64 t172] rfl (by (try simp only [List.map_toArray, List.map_cons, List.map_nil]); first | done | rfl | (simp only [List.length_drop, List.length_take]; rfl)) ?_; (with_reducible refine (bound_Of.calls kj13 t171 t172 t178 true _ A20.out).mono ?_); rintro e w26 ⟨rfl, hb⟩; refine ⟨_, rfl, ?_⟩; have n0_ := Aside0.mk (below_step (by repeat (first | (with_reducible first | exact HB.out | apply below_alloc | apply pw_below_drewN | apply below_drew1) | exact HB.out)) hb); clear HB; have HB := n0_; clear n0_; (try clear hb); (try clear hb2); (try clear hk); (try clear hi)))
                          go_ret
                          exact ⟨by first | rfl | (simp [errW_none, errW_some] <;> rfl) | (simp [*, errW_none, errW_some] <;> rfl), by repeat (first | (with_reducible first | exact HB.out | apply below_alloc | apply pw_below_drewN | apply below_drew1) | exact HB.out)⟩
                      · replace c23 := Bool.eq_false_iff.mpr c23
                        subst c23
                        have H1 : (some false) = some r := by rw [if_neg (show ¬ (false = true) by decide)] at H; exact H
                        clear H
                        have H := H1
                        clear H1
                        obtain rfl := Option.some.inj H
                        go_wp2_with (first | ((with_reducible refine gate_callee (f := 10) rfl ?_); refine goesL_ (some 42) rfl rfl Try.func10 (by kernel_rfl) rfl #[.int .i64 (wrap64 (t171 - 1))] rfl (by (try simp only [List.map_toArray, List.map_cons, List.map_nil]); first | done | rfl | (simp only [List.length_drop, List.length_take]; rfl)) ?_; (with_reducible refine (bound_Tries.calls (wrap64 (t171 - 1)) t176 true _ A17.out).mono ?_); rintro e w27 ⟨rfl, hb⟩; refine ⟨_, rfl, ?_⟩; have n0_ := Aside0.mk (below_step (by repeat (first | (with_reducible first | exact HB.out | apply below_alloc | apply pw_below_drewN | apply below_drew1) | exact HB.out)) hb); clear HB; have HB := n0_; clear n0_; (try clear hb); (try clear hb2); (try clear hk); (try clear hi)) | ((with_reducible refine gate_callee (f := 12) rfl ?_); refine goesL_ (some 58) rfl rfl Try.func12 (by kernel_rfl) rfl #[.int .i64 t171, .int .i64 t172] rfl (by (try simp only [List.map_toArray, List.map_cons, List.map_nil]); first | done | rfl | (simp only [List.length_drop, List.length_take]; rfl)) ?_; (with_reducible refine (bound_Of.calls kj13 t171 t172 t178 true _ A20.out).mono ?_); rintro e w28 ⟨rfl, hb⟩; refine ⟨_, rfl, ?_⟩; have n0_ := Aside0.mk (below_step (by repeat (first | (with_reducible first | exact HB.out | apply below_alloc | apply pw_below_drewN | apply below_drew1) | exact HB.out)) hb); clear HB; have HB := n0_; clear n0_; (try clear hb); (try clear hb2); (try clear hk); (try clear hi)))
                        go_ret
                        exact ⟨by first | rfl | (simp [errW_none, errW_some] <;> rfl) | (simp [*, errW_none, errW_some] <;> rfl), by repeat (first | (with_reducible first | exact HB.out | apply below_alloc | apply pw_below_drewN | apply below_drew1) | exact HB.out)⟩
                    · replace c22 := Bool.eq_false_iff.mpr c22
                      subst c22
                      have H1 : (some true) = some r := by rw [if_neg (show ¬ (false = true) by decide)] at H; exact H
                      clear H
                      have H := H1
                      clear H1
                      obtain rfl := Option.some.inj H
                      go_wp2_with (first | ((with_reducible refine gate_callee (f := 10) rfl ?_); refine goesL_ (some 42) rfl rfl Try.func10 (by kernel_rfl) rfl #[.int .i64 (wrap64 (t171 - 1))] rfl (by (try simp only [List.map_toArray, List.map_cons, List.map_nil]); first | done | rfl | (simp only [List.length_drop, List.length_take]; rfl)) ?_; (with_reducible refine (bound_Tries.calls (wrap64 (t171 - 1)) t176 true _ A17.out).mono ?_); rintro e w29 ⟨rfl, hb⟩; refine ⟨_, rfl, ?_⟩; have n0_ := Aside0.mk (below_step (by repeat (first | (with_reducible first | exact HB.out | apply below_alloc | apply pw_below_drewN | apply below_drew1) | exact HB.out)) hb); clear HB; have HB := n0_; clear n0_; (try clear hb); (try clear hb2); (try clear hk); (try clear hi)) | ((with_reducible refine gate_callee (f := 12) rfl ?_); refine goesL_ (some 58) rfl rfl Try.func12 (by kernel_rfl) rfl #[.int .i64 t171, .int .i64 t172] rfl (by (try simp only [List.map_toArray, List.map_cons, List.map_nil]); first | done | rfl | (simp only [List.length_drop, List.length_take]; rfl)) ?_; (with_reducible refine (bound_Of.calls kj13 t171 t172 t178 false _ A20.out).mono ?_); rintro e w30 ⟨rfl, hb⟩; refine ⟨_, rfl, ?_⟩; have n0_ := Aside0.mk (below_step (by repeat (first | (with_reducible first | exact HB.out | apply below_alloc | apply pw_below_drewN | apply below_drew1) | exact HB.out)) hb); clear HB; have HB := n0_; clear n0_; (try clear hb); (try clear hb2); (try clear hk); (try clear hi)))
                      go_ret
                      exact ⟨by first | rfl | (simp [errW_none, errW_some] <;> rfl) | (simp [*, errW_none, errW_some] <;> rfl), by repeat (first | (with_reducible first | exact HB.out | apply below_alloc | apply pw_below_drewN | apply below_drew1) | exact HB.out)⟩
                  · replace c21 := Bool.eq_false_iff.mpr c21
                    subst c21
                    have H1 : (some false) = some r := by rw [if_neg (show ¬ (false = true) by decide)] at H; exact H
                    clear H
                    have H := H1
                    clear H1
                    obtain rfl := Option.some.inj H
                    go_wp2_with (first | ((with_reducible refine gate_callee (f := 10) rfl ?_); refine goesL_ (some 42) rfl rfl Try.func10 (by kernel_rfl) rfl #[.int .i64 (wrap64 (t171 - 1))] rfl (by (try simp only [List.map_toArray, List.map_cons, List.map_nil]); first | done | rfl | (simp only [List.length_drop, List.length_take]; rfl)) ?_; (with_reducible refine (bound_Tries.calls (wrap64 (t171 - 1)) t176 true _ A17.out).mono ?_); rintro e w31 ⟨rfl, hb⟩; refine ⟨_, rfl, ?_⟩; have n0_ := Aside0.mk (below_step (by repeat (first | (with_reducible first | exact HB.out | apply below_alloc | apply pw_below_drewN | apply below_drew1) | exact HB.out)) hb); clear HB; have HB := n0_; clear n0_; (try clear hb); (try clear hb2); (try clear hk); (try clear hi)) | ((with_reducible refine gate_callee (f := 12) rfl ?_); refine goesL_ (some 58) rfl rfl Try.func12 (by kernel_rfl) rfl #[.int .i64 t171, .int .i64 t172] rfl (by (try simp only [List.map_toArray, List.map_cons, List.map_nil]); first | done | rfl | (simp only [List.length_drop, List.length_take]; rfl)) ?_; (with_reducible refine (bound_Of.calls kj13 t171 t172 t178 t179 _ A20.out).mono ?_); rintro e w32 ⟨rfl, hb⟩; refine ⟨_, rfl, ?_⟩; have n0_ := Aside0.mk (below_step (by repeat (first | (with_reducible first | exact HB.out | apply below_alloc | apply pw_below_drewN | apply below_drew1) | exact HB.out)) hb); clear HB; have HB := n0_; clear n0_; (try clear hb); (try clear hb2); (try clear hk); (try clear hi)))
                    go_ret
                    exact ⟨by first | rfl | (simp [errW_none, errW_some] <;> rfl) | (simp [*, errW_none, errW_some] <;> rfl), by repeat (first | (with_reducible first | exact HB.out | apply below_alloc | apply pw_below_drewN | apply below_drew1) | exact HB.out)⟩
                · rw [if_neg c19] at H
                  have c19b0 : (t173 == (wrap64 (t171 * (wrap64 (t176 + 1))))) = false := beq_eq_false_iff_ne.mpr c19
                  have c19b1 : (t173 != (wrap64 (t171 * (wrap64 (t176 + 1))))) = true := bne_iff_ne.mpr c19
                  obtain rfl := Option.some.inj H
                  go_wp2_with (first | ((with_reducible refine gate_callee (f := 10) rfl ?_); refine goesL_ (some 42) rfl rfl Try.func10 (by kernel_rfl) rfl #[.int .i64 (wrap64 (t171 - 1))] rfl (by (try simp only [List.map_toArray, List.map_cons, List.map_nil]); first | done | rfl | (simp only [List.length_drop, List.length_take]; rfl)) ?_; (with_reducible refine (bound_Tries.calls (wrap64 (t171 - 1)) t176 true _ A17.out).mono ?_); rintro e w33 ⟨rfl, hb⟩; refine ⟨_, rfl, ?_⟩; have n0_ := Aside0.mk (below_step (by repeat (first | (with_reducible first | exact HB.out | apply below_alloc | apply pw_below_drewN | apply below_drew1) | exact HB.out)) hb); clear HB; have HB := n0_; clear n0_; (try clear hb); (try clear hb2); (try clear hk); (try clear hi)))
                  go_ret
                  exact ⟨by first | rfl | (simp [errW_none, errW_some] <;> rfl) | (simp [*, errW_none, errW_some] <;> rfl), by repeat (first | (with_reducible first | exact HB.out | apply below_alloc | apply pw_below_drewN | apply below_drew1) | exact HB.out)⟩
              · replace c18 := Bool.eq_false_iff.mpr c18
                subst c18
                have H1 : (some false) = some r := by rw [if_neg (show ¬ (false = true) by decide)] at H; exact H
                clear H
                have H := H1
                clear H1
                obtain rfl := Option.some.inj H
                go_wp2_with (first | ((with_reducible refine gate_callee (f := 10) rfl ?_); refine goesL_ (some 42) rfl rfl Try.func10 (by kernel_rfl) rfl #[.int .i64 (wrap64 (t171 - 1))] rfl (by (try simp only [List.map_toArray, List.map_cons, List.map_nil]); first | done | rfl | (simp only [List.length_drop, List.length_take]; rfl)) ?_; (with_reducible refine (bound_Tries.calls (wrap64 (t171 - 1)) t176 false _ A17.out).mono ?_); rintro e w34 ⟨rfl, hb⟩; refine ⟨_, rfl, ?_⟩; have n0_ := Aside0.mk (below_step (by repeat (first | (with_reducible first | exact HB.out | apply below_alloc | apply pw_below_drewN | apply below_drew1) | exact HB.out)) hb); clear HB; have HB := n0_; clear n0_; (try clear hb); (try clear hb2); (try clear hk); (try clear hi)))
                go_ret
                exact ⟨by first | rfl | (simp [errW_none, errW_some] <;> rfl) | (simp [*, errW_none, errW_some] <;> rfl), by repeat (first | (with_reducible first | exact HB.out | apply below_alloc | apply pw_below_drewN | apply below_drew1) | exact HB.out)⟩
            · replace c16 := Bool.eq_false_iff.mpr c16
              subst c16
              have H1 : ((bound_Of.f kj13 t171 t172).bind fun bt180 => (if t170 = true then (if bt180.2 = true then (if t174 = true then (if (wrap64 (t172 + 1)) = 0 then (none) else (some (decide (t173 ≤ (wrap64 (Int.tdiv bt180.1 (wrap64 (t172 + 1)))))))) else (some false)) else (some true)) else (some false))) = some r := by rw [if_neg (show ¬ (false = true) by decide)] at H; exact H
              clear H
              have H := H1
              clear H1
              replace H := Option.bind_eq_some_iff.mp H
              obtain ⟨⟨t180, t181⟩, A350, H⟩ := H
              replace H : (if t170 = true then (if t181 = true then (if t174 = true then (if (wrap64 (t172 + 1)) = 0 then (none) else (some (decide (t173 ≤ (wrap64 (Int.tdiv t180 (wrap64 (t172 + 1)))))))) else (some false)) else (some true)) else (some false)) = some r := H
              have A35 := Aside0.mk A350
              clear A350
              by_cases c36 : t170 = true
              · subst c36
                have H1 : (if t181 = true then (if t174 = true then (if (wrap64 (t172 + 1)) = 0 then (none) else (some (decide (t173 ≤ (wrap64 (Int.tdiv t180 (wrap64 (t172 + 1)))))))) else (some false)) else (some true)) = some r := by rw [if_pos rfl] at H; exact H
                clear H
                have H := H1
                clear H1
                by_cases c37 : t181 = true
                · subst c37
                  have H1 : (if t174 = true then (if (wrap64 (t172 + 1)) = 0 then (none) else (some (decide (t173 ≤ (wrap64 (Int.tdiv t180 (wrap64 (t172 + 1)))))))) else (some false)) = some r := by rw [if_pos rfl] at H; exact H
                  clear H
                  have H := H1
                  clear H1
                  by_cases c38 : t174 = true
                  · subst c38
                    have H1 : (if (wrap64 (t172 + 1)) = 0 then (none) else (some (decide (t173 ≤ (wrap64 (Int.tdiv t180 (wrap64 (t172 + 1)))))))) = some r := by rw [if_pos rfl] at H; exact H
                    clear H
                    have H := H1
                    clear H1
                    by_cases c39 : (wrap64 (t172 + 1)) = 0
                    · rw [if_pos c39] at H
                      exact absurd H (by simp)
                    · rw [if_neg c39] at H
                      have c39b0 : ((wrap64 (t172 + 1)) == 0) = false := beq_eq_false_iff_ne.mpr c39
                      have c39b1 : ((wrap64 (t172 + 1)) != 0) = true := bne_iff_ne.mpr c39
                      obtain rfl := Option.some.inj H
                      go_wp2_with (first | ((with_reducible refine gate_callee (f := 12) rfl ?_); refine goesL_ (some 58) rfl rfl Try.func12 (by kernel_rfl) rfl #[.int .i64 t171, .int .i64 t172] rfl (by (try simp only [List.map_toArray, List.map_cons, List.map_nil]); first | done | rfl | (simp only [List.length_drop, List.length_take]; rfl)) ?_; (with_reducible refine (bound_Of.calls kj13 t171 t172 t180 true _ A35.out).mono ?_); rintro e w40 ⟨rfl, hb⟩; refine ⟨_, rfl, ?_⟩; have n0_ := Aside0.mk (below_step (by repeat (first | (with_reducible first | exact HB.out | apply below_alloc | apply pw_below_drewN | apply below_drew1) | exact HB.out)) hb); clear HB; have HB := n0_; clear n0_; (try clear hb); (try clear hb2); (try clear hk); (try clear hi)))
                      go_ret
                      exact ⟨by first | rfl | (simp [errW_none, errW_some] <;> rfl) | (simp [*, errW_none, errW_some] <;> rfl), by repeat (first | (with_reducible first | exact HB.out | apply below_alloc | apply pw_below_drewN | apply below_drew1) | exact HB.out)⟩
                  · replace c38 := Bool.eq_false_iff.mpr c38
                    subst c38
                    have H1 : (some false) = some r := by rw [if_neg (show ¬ (false = true) by decide)] at H; exact H
                    clear H
                    have H := H1
                    clear H1
                    obtain rfl := Option.some.inj H
                    go_wp2_with (first | ((with_reducible refine gate_callee (f := 12) rfl ?_); refine goesL_ (some 58) rfl rfl Try.func12 (by kernel_rfl) rfl #[.int .i64 t171, .int .i64 t172] rfl (by (try simp only [List.map_toArray, List.map_cons, List.map_nil]); first | done | rfl | (simp only [List.length_drop, List.length_take]; rfl)) ?_; (with_reducible refine (bound_Of.calls kj13 t171 t172 t180 true _ A35.out).mono ?_); rintro e w41 ⟨rfl, hb⟩; refine ⟨_, rfl, ?_⟩; have n0_ := Aside0.mk (below_step (by repeat (first | (with_reducible first | exact HB.out | apply below_alloc | apply pw_below_drewN | apply below_drew1) | exact HB.out)) hb); clear HB; have HB := n0_; clear n0_; (try clear hb); (try clear hb2); (try clear hk); (try clear hi)))
                    go_ret
                    exact ⟨by first | rfl | (simp [errW_none, errW_some] <;> rfl) | (simp [*, errW_none, errW_some] <;> rfl), by repeat (first | (with_reducible first | exact HB.out | apply below_alloc | apply pw_below_drewN | apply below_drew1) | exact HB.out)⟩
                · replace c37 := Bool.eq_false_iff.mpr c37
                  subst c37
                  have H1 : (some true) = some r := by rw [if_neg (show ¬ (false = true) by decide)] at H; exact H
                  clear H
                  have H := H1
                  clear H1
                  obtain rfl := Option.some.inj H
                  go_wp2_with (first | ((with_reducible refine gate_callee (f := 12) rfl ?_); refine goesL_ (some 58) rfl rfl Try.func12 (by kernel_rfl) rfl #[.int .i64 t171, .int .i64 t172] rfl (by (try simp only [List.map_toArray, List.map_cons, List.map_nil]); first | done | rfl | (simp only [List.length_drop, List.length_take]; rfl)) ?_; (with_reducible refine (bound_Of.calls kj13 t171 t172 t180 false _ A35.out).mono ?_); rintro e w42 ⟨rfl, hb⟩; refine ⟨_, rfl, ?_⟩; have n0_ := Aside0.mk (below_step (by repeat (first | (with_reducible first | exact HB.out | apply below_alloc | apply pw_below_drewN | apply below_drew1) | exact HB.out)) hb); clear HB; have HB := n0_; clear n0_; (try clear hb); (try clear hb2); (try clear hk); (try clear hi)))
                  go_ret
                  exact ⟨by first | rfl | (simp [errW_none, errW_some] <;> rfl) | (simp [*, errW_none, errW_some] <;> rfl), by repeat (first | (with_reducible first | exact HB.out | apply below_alloc | apply pw_below_drewN | apply below_drew1) | exact HB.out)⟩
              · replace c36 := Bool.eq_false_iff.mpr c36
                subst c36
                have H1 : (some false) = some r := by rw [if_neg (show ¬ (false = true) by decide)] at H; exact H
                clear H
                have H := H1
                clear H1
                obtain rfl := Option.some.inj H
                go_wp2_with (first | ((with_reducible refine gate_callee (f := 12) rfl ?_); refine goesL_ (some 58) rfl rfl Try.func12 (by kernel_rfl) rfl #[.int .i64 t171, .int .i64 t172] rfl (by (try simp only [List.map_toArray, List.map_cons, List.map_nil]); first | done | rfl | (simp only [List.length_drop, List.length_take]; rfl)) ?_; (with_reducible refine (bound_Of.calls kj13 t171 t172 t180 t181 _ A35.out).mono ?_); rintro e w43 ⟨rfl, hb⟩; refine ⟨_, rfl, ?_⟩; have n0_ := Aside0.mk (below_step (by repeat (first | (with_reducible first | exact HB.out | apply below_alloc | apply pw_below_drewN | apply below_drew1) | exact HB.out)) hb); clear HB; have HB := n0_; clear n0_; (try clear hb); (try clear hb2); (try clear hk); (try clear hi)))
                go_ret
                exact ⟨by first | rfl | (simp [errW_none, errW_some] <;> rfl) | (simp [*, errW_none, errW_some] <;> rfl), by repeat (first | (with_reducible first | exact HB.out | apply below_alloc | apply pw_below_drewN | apply below_drew1) | exact HB.out)⟩

/-- THE ONE PURE STATEMENT of armisticelaw26_BoundTries: yours. -/
def armisticelaw26_BoundTries.Pure : Prop := ∀ (a0 : Int) (a1 : Int), (Lit.int .i64 a0).wf = true → (Lit.int .i64 a1).wf = true → ∃ k, armisticelaw26_BoundTries.f k a0 a1 = some true
theorem armisticelaw26_BoundTries.walk (P : armisticelaw26_BoundTries.Pure) (a0 : Int) (a1 : Int) (w : World) (w0 : (Lit.int .i64 a0).wf = true) (w1 : (Lit.int .i64 a1).wf = true) :
    Calls Try.prog 6 #[.int .i64 a0, .int .i64 a1] w fun e w' => e = .returned (.bool true) ∧ Below w.heap.size w w' := by
  obtain ⟨k, h⟩ := P a0 a1 w0 w1
  refine (armisticelaw26_BoundTries.calls k a0 a1 true w h).mono ?_
  rintro e w' ⟨rfl, hd⟩
  exact ⟨rfl, hd⟩

end Go.Proofs.Ytfpllpgfdanhnaa.P
