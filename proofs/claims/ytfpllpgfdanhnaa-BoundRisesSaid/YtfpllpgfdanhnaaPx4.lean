/- Laid by a program of this session (wip/tools/xprint.py) after the kit's printer: functions of the translation as plain Lean functions, each with the proof that its call comes to just that. -/
import Derived.Test.YtfpllpgfdanhnaaPx0
import Derived.Test.YtfpllpgfdanhnaaPx1
import Derived.Test.YtfpllpgfdanhnaaPx2
import Derived.Test.YtfpllpgfdanhnaaPx3
namespace Go.Proofs.Ytfpllpgfdanhnaa.P
open Go.RowKit Go.Proofs.YtfpllpgfdanhnaaW.PrintWords Go.Proofs.YtfpllpgfdanhnaaW.PrintLast Go.Proofs.YtfpllpgfdanhnaaW.PrintMore
attribute [local go_sem] max2_int min2_int max_two min_two max_three min_three max_four min_four   -- for this text's walks alone
set_option linter.unusedVariables false
set_option linter.unusedSimpArgs false

/-! ### armisticelaw26_BoundRises: function 7 -/
mutual
def armisticelaw26_BoundRises.j0 : Nat → Int → Int → Int → Bool → Int → Bool → Bool → Option (Bool)
  | 0, _, _, _, _, _, _, _ => none
  | k + 1, x0, x1, x2, x7, x8, x9, x77 => if x77 = true then (some false) else (if x1 < 4611686018427387904 then ((bound_Of.f k x0 (wrap64 (x1 + 1))).bind fun bt192 => (if bt192.2 = true then (if x9 = true then (if bt192.1 ≤ x8 then (some false) else (armisticelaw26_BoundRises.j1 k x0 x1 x2 x7)) else (some false)) else (armisticelaw26_BoundRises.j1 k x0 x1 x2 x7))) else (armisticelaw26_BoundRises.j1 k x0 x1 x2 x7))
def armisticelaw26_BoundRises.j1 : Nat → Int → Int → Int → Bool → Option (Bool)
  | 0, _, _, _, _ => none
  | k + 1, x0, x1, x2, x7 => (bound_Most.f k x2 x1).bind fun t194 => (if x7 = true then (if t194 ≥ (-1) then (if t194 < 0 then ((bound_Enough.f k x2 (wrap64 (t194 + 1)) x1).bind fun t195 => (if t195 = true then (some false) else ((bound_Enough.f k x2 x0 x1).bind fun t196 => (some (t196 == (decide (x0 ≤ t194))))))) else ((bound_Enough.f k x2 t194 x1).bind fun t197 => (if t197 = true then ((bound_Enough.f k x2 (wrap64 (t194 + 1)) x1).bind fun t198 => (if t198 = true then (some false) else ((bound_Enough.f k x2 x0 x1).bind fun t199 => (some (t199 == (decide (x0 ≤ t194))))))) else (some false)))) else (some false)) else (some false))
end
def armisticelaw26_BoundRises.f (k : Nat) (a0 : Int) (a1 : Int) (a2 : Int) : Option (Bool) := (armisticelaw26_BoundKnown.f k).bind fun t182 => ((armisticekit_Pick.f a0 26).bind fun t183 => ((bound_Of.f k t183 a1).bind fun bt184 => (if a1 < 0 then (if t182 = true then (if bt184.2 = true then (some false) else ((bound_Most.f k a2 a1).bind fun t186 => (some (t186 == (-1))))) else (some false)) else ((bound_Of.f k (wrap64 (t183 + 1)) a1).bind fun bt187 => (if bt187.2 = true then (if bt184.2 = true then (if bt187.1 ≤ bt184.1 then (armisticelaw26_BoundRises.j0 k t183 a1 a2 t182 bt184.1 bt184.2 true) else (if bt184.1 < 1 then (armisticelaw26_BoundRises.j0 k t183 a1 a2 t182 bt184.1 bt184.2 true) else (if bt184.1 > 4611686018427387904 then (armisticelaw26_BoundRises.j0 k t183 a1 a2 t182 bt184.1 bt184.2 true) else ((bound_Enough.f k a2 t183 a1).bind fun t189 => (armisticelaw26_BoundRises.j0 k t183 a1 a2 t182 bt184.1 bt184.2 (t189 != (decide (a2 ≥ bt184.1)))))))) else (armisticelaw26_BoundRises.j0 k t183 a1 a2 t182 bt184.1 bt184.2 true)) else (if bt184.2 = true then (if bt184.1 < 1 then (armisticelaw26_BoundRises.j0 k t183 a1 a2 t182 bt184.1 bt184.2 true) else (if bt184.1 > 4611686018427387904 then (armisticelaw26_BoundRises.j0 k t183 a1 a2 t182 bt184.1 bt184.2 true) else ((bound_Enough.f k a2 t183 a1).bind fun t190 => (armisticelaw26_BoundRises.j0 k t183 a1 a2 t182 bt184.1 bt184.2 (t190 != (decide (a2 ≥ bt184.1))))))) else ((bound_Enough.f k a2 t183 a1).bind fun t191 => (armisticelaw26_BoundRises.j0 k t183 a1 a2 t182 bt184.1 bt184.2 (t191 != false)))))))))
theorem armisticelaw26_BoundRises.mono_l : ∀ k, (∀ y0 y1 y2 y3 y4 y5 y6, LeO (armisticelaw26_BoundRises.j0 k y0 y1 y2 y3 y4 y5 y6) (armisticelaw26_BoundRises.j0 (k + 1) y0 y1 y2 y3 y4 y5 y6)) ∧ (∀ y0 y1 y2 y3, LeO (armisticelaw26_BoundRises.j1 k y0 y1 y2 y3) (armisticelaw26_BoundRises.j1 (k + 1) y0 y1 y2 y3))
  | 0 => ⟨fun _ _ _ _ _ _ _ r h => by simp [armisticelaw26_BoundRises.j0] at h, fun _ _ _ _ r h => by simp [armisticelaw26_BoundRises.j1] at h⟩
  | k + 1 => by
    obtain ⟨ih0, ih1⟩ := armisticelaw26_BoundRises.mono_l k
    refine ⟨?_, ?_⟩
    · intro y0 y1 y2 y3 y4 y5 y6
      unfold armisticelaw26_BoundRises.j0
      repeat' first
      | (with_reducible exact ih0 _ _ _ _ _ _ _)
      | (with_reducible exact ih1 _ _ _ _)
      | (with_reducible exact armisticelaw26_BoundKnown.mono _)
      | (with_reducible exact bound_Enough.mono _ _ _ _)
      | (with_reducible exact bound_Most.mono _ _ _)
      | (with_reducible exact bound_Of.mono _ _ _)
      | (with_reducible exact LeO.refl _)
      | (with_reducible exact LeO.none _)
      | (with_reducible refine LeO.ite ?_ ?_)
      | (with_reducible refine LeO.bind ?_ (fun _ => ?_))
      | exact ih0 _ _ _ _ _ _ _
      | exact ih1 _ _ _ _
      | exact armisticelaw26_BoundKnown.mono _
      | exact bound_Enough.mono _ _ _ _
      | exact bound_Most.mono _ _ _
      | exact bound_Of.mono _ _ _
      | exact LeO.none _
      | refine LeO.ite ?_ ?_
      | refine LeO.bind ?_ (fun _ => ?_)
    · intro y0 y1 y2 y3
      unfold armisticelaw26_BoundRises.j1
      repeat' first
      | (with_reducible exact ih0 _ _ _ _ _ _ _)
      | (with_reducible exact ih1 _ _ _ _)
      | (with_reducible exact armisticelaw26_BoundKnown.mono _)
      | (with_reducible exact bound_Enough.mono _ _ _ _)
      | (with_reducible exact bound_Most.mono _ _ _)
      | (with_reducible exact bound_Of.mono _ _ _)
      | (with_reducible exact LeO.refl _)
      | (with_reducible exact LeO.none _)
      | (with_reducible refine LeO.ite ?_ ?_)
      | (with_reducible refine LeO.bind ?_ (fun _ => ?_))
      | exact ih0 _ _ _ _ _ _ _
      | exact ih1 _ _ _ _
      | exact armisticelaw26_BoundKnown.mono _
      | exact bound_Enough.mono _ _ _ _
      | exact bound_Most.mono _ _ _
      | exact bound_Of.mono _ _ _
      | exact LeO.none _
      | refine LeO.ite ?_ ?_
      | refine LeO.bind ?_ (fun _ => ?_)
theorem armisticelaw26_BoundRises.mono : ∀ a0 a1 a2 k, LeO (armisticelaw26_BoundRises.f k a0 a1 a2) (armisticelaw26_BoundRises.f (k + 1) a0 a1 a2) := by
  intro a0 a1 a2 k
  obtain ⟨ih0, ih1⟩ := armisticelaw26_BoundRises.mono_l k
  unfold armisticelaw26_BoundRises.f
  repeat' first
      | (with_reducible exact ih0 _ _ _ _ _ _ _)
      | (with_reducible exact ih1 _ _ _ _)
      | (with_reducible exact armisticelaw26_BoundKnown.mono _)
      | (with_reducible exact bound_Enough.mono _ _ _ _)
      | (with_reducible exact bound_Most.mono _ _ _)
      | (with_reducible exact bound_Of.mono _ _ _)
      | (with_reducible exact LeO.refl _)
      | (with_reducible exact LeO.none _)
      | (with_reducible refine LeO.ite ?_ ?_)
      | (with_reducible refine LeO.bind ?_ (fun _ => ?_))
      | exact ih0 _ _ _ _ _ _ _
      | exact ih1 _ _ _ _
      | exact armisticelaw26_BoundKnown.mono _
      | exact bound_Enough.mono _ _ _ _
      | exact bound_Most.mono _ _ _
      | exact bound_Of.mono _ _ _
      | exact LeO.none _
      | refine LeO.ite ?_ ?_
      | refine LeO.bind ?_ (fun _ => ?_)
set_option maxHeartbeats 8000000 in
set_option maxRecDepth 100000 in
theorem armisticelaw26_BoundRises.calls (k : Nat) (a0 : Int) (a1 : Int) (a2 : Int) (r : Bool) (w : World) (h : armisticelaw26_BoundRises.f k a0 a1 a2 = some r) :
    Calls Try.prog 7 #[.int .i64 a0, .int .i64 a1, .int .i64 a2] w fun e w' => e = .returned (.bool r) ∧ Below w.heap.size w w' := by
  have HB := Aside0.mk (Below.refl w.heap.size w)
  have H : ((armisticelaw26_BoundKnown.f k).bind fun t182 => ((armisticekit_Pick.f a0 26).bind fun t183 => ((bound_Of.f k t183 a1).bind fun bt184 => (if a1 < 0 then (if t182 = true then (if bt184.2 = true then (some false) else ((bound_Most.f k a2 a1).bind fun t186 => (some (t186 == (-1))))) else (some false)) else ((bound_Of.f k (wrap64 (t183 + 1)) a1).bind fun bt187 => (if bt187.2 = true then (if bt184.2 = true then (if bt187.1 ≤ bt184.1 then (armisticelaw26_BoundRises.j0 k t183 a1 a2 t182 bt184.1 bt184.2 true) else (if bt184.1 < 1 then (armisticelaw26_BoundRises.j0 k t183 a1 a2 t182 bt184.1 bt184.2 true) else (if bt184.1 > 4611686018427387904 then (armisticelaw26_BoundRises.j0 k t183 a1 a2 t182 bt184.1 bt184.2 true) else ((bound_Enough.f k a2 t183 a1).bind fun t189 => (armisticelaw26_BoundRises.j0 k t183 a1 a2 t182 bt184.1 bt184.2 (t189 != (decide (a2 ≥ bt184.1)))))))) else (armisticelaw26_BoundRises.j0 k t183 a1 a2 t182 bt184.1 bt184.2 true)) else (if bt184.2 = true then (if bt184.1 < 1 then (armisticelaw26_BoundRises.j0 k t183 a1 a2 t182 bt184.1 bt184.2 true) else (if bt184.1 > 4611686018427387904 then (armisticelaw26_BoundRises.j0 k t183 a1 a2 t182 bt184.1 bt184.2 true) else ((bound_Enough.f k a2 t183 a1).bind fun t190 => (armisticelaw26_BoundRises.j0 k t183 a1 a2 t182 bt184.1 bt184.2 (t190 != (decide (a2 ≥ bt184.1))))))) else ((bound_Enough.f k a2 t183 a1).bind fun t191 => (armisticelaw26_BoundRises.j0 k t183 a1 a2 t182 bt184.1 bt184.2 (t191 != false)))))))))) = some r := h
  clear h
  replace H := Option.bind_eq_some_iff.mp H
  obtain ⟨t182, A40, H⟩ := H
  replace H : ((armisticekit_Pick.f a0 26).bind fun t183 => ((bound_Of.f k t183 a1).bind fun bt184 => (if a1 < 0 then (if t182 = true then (if bt184.2 = true then (some false) else ((bound_Most.f k a2 a1).bind fun t186 => (some (t186 == (-1))))) else (some false)) else ((bound_Of.f k (wrap64 (t183 + 1)) a1).bind fun bt187 => (if bt187.2 = true then (if bt184.2 = true then (if bt187.1 ≤ bt184.1 then (armisticelaw26_BoundRises.j0 k t183 a1 a2 t182 bt184.1 bt184.2 true) else (if bt184.1 < 1 then (armisticelaw26_BoundRises.j0 k t183 a1 a2 t182 bt184.1 bt184.2 true) else (if bt184.1 > 4611686018427387904 then (armisticelaw26_BoundRises.j0 k t183 a1 a2 t182 bt184.1 bt184.2 true) else ((bound_Enough.f k a2 t183 a1).bind fun t189 => (armisticelaw26_BoundRises.j0 k t183 a1 a2 t182 bt184.1 bt184.2 (t189 != (decide (a2 ≥ bt184.1)))))))) else (armisticelaw26_BoundRises.j0 k t183 a1 a2 t182 bt184.1 bt184.2 true)) else (if bt184.2 = true then (if bt184.1 < 1 then (armisticelaw26_BoundRises.j0 k t183 a1 a2 t182 bt184.1 bt184.2 true) else (if bt184.1 > 4611686018427387904 then (armisticelaw26_BoundRises.j0 k t183 a1 a2 t182 bt184.1 bt184.2 true) else ((bound_Enough.f k a2 t183 a1).bind fun t190 => (armisticelaw26_BoundRises.j0 k t183 a1 a2 t182 bt184.1 bt184.2 (t190 != (decide (a2 ≥ bt184.1))))))) else ((bound_Enough.f k a2 t183 a1).bind fun t191 => (armisticelaw26_BoundRises.j0 k t183 a1 a2 t182 bt184.1 bt184.2 (t191 != false))))))))) = some r := H
  have A4 := Aside0.mk A40
  clear A40
  replace H := Option.bind_eq_some_iff.mp H
  obtain ⟨t183, A50, H⟩ := H
  replace H : ((bound_Of.f k t183 a1).bind fun bt184 => (if a1 < 0 then (if t182 = true then (if bt184.2 = true then (some false) else ((bound_Most.f k a2 a1).bind fun t186 => (some (t186 == (-1))))) else (some false)) else ((bound_Of.f k (wrap64 (t183 + 1)) a1).bind fun bt187 => (if bt187.2 = true then (if bt184.2 = true then (if bt187.1 ≤ bt184.1 then (armisticelaw26_BoundRises.j0 k t183 a1 a2 t182 bt184.1 bt184.2 true) else (if bt184.1 < 1 then (armisticelaw26_BoundRises.j0 k t183 a1 a2 t182 bt184.1 bt184.2 true) else (if bt184.1 > 4611686018427387904 then (armisticelaw26_BoundRises.j0 k t183 a1 a2 t182 bt184.1 bt184.2 true) else ((bound_Enough.f k a2 t183 a1).bind fun t189 => (armisticelaw26_BoundRises.j0 k t183 a1 a2 t182 bt184.1 bt184.2 (t189 != (decide (a2 ≥ bt184.1)))))))) else (armisticelaw26_BoundRises.j0 k t183 a1 a2 t182 bt184.1 bt184.2 true)) else (if bt184.2 = true then (if bt184.1 < 1 then (armisticelaw26_BoundRises.j0 k t183 a1 a2 t182 bt184.1 bt184.2 true) else (if bt184.1 > 4611686018427387904 then (armisticelaw26_BoundRises.j0 k t183 a1 a2 t182 bt184.1 bt184.2 true) else ((bound_Enough.f k a2 t183 a1).bind fun t190 => (armisticelaw26_BoundRises.j0 k t183 a1 a2 t182 bt184.1 bt184.2 (t190 != (decide (a2 ≥ bt184.1))))))) else ((bound_Enough.f k a2 t183 a1).bind fun t191 => (armisticelaw26_BoundRises.j0 k t183 a1 a2 t182 bt184.1 bt184.2 (t191 != false)))))))) = some r := H
  have A5 := Aside0.mk A50
  clear A50
  replace H := Option.bind_eq_some_iff.mp H
  obtain ⟨⟨t184, t185⟩, A60, H⟩ := H
  replace H : (if a1 < 0 then (if t182 = true then (if t185 = true then (some false) else ((bound_Most.f k a2 a1).bind fun t186 => (some (t186 == (-1))))) else (some false)) else ((bound_Of.f k (wrap64 (t183 + 1)) a1).bind fun bt187 => (if bt187.2 = true then (if t185 = true then (if bt187.1 ≤ t184 then (armisticelaw26_BoundRises.j0 k t183 a1 a2 t182 t184 t185 true) else (if t184 < 1 then (armisticelaw26_BoundRises.j0 k t183 a1 a2 t182 t184 t185 true) else (if t184 > 4611686018427387904 then (armisticelaw26_BoundRises.j0 k t183 a1 a2 t182 t184 t185 true) else ((bound_Enough.f k a2 t183 a1).bind fun t189 => (armisticelaw26_BoundRises.j0 k t183 a1 a2 t182 t184 t185 (t189 != (decide (a2 ≥ t184)))))))) else (armisticelaw26_BoundRises.j0 k t183 a1 a2 t182 t184 t185 true)) else (if t185 = true then (if t184 < 1 then (armisticelaw26_BoundRises.j0 k t183 a1 a2 t182 t184 t185 true) else (if t184 > 4611686018427387904 then (armisticelaw26_BoundRises.j0 k t183 a1 a2 t182 t184 t185 true) else ((bound_Enough.f k a2 t183 a1).bind fun t190 => (armisticelaw26_BoundRises.j0 k t183 a1 a2 t182 t184 t185 (t190 != (decide (a2 ≥ t184))))))) else ((bound_Enough.f k a2 t183 a1).bind fun t191 => (armisticelaw26_BoundRises.j0 k t183 a1 a2 t182 t184 t185 (t191 != false))))))) = some r := H
  have A6 := Aside0.mk A60
  clear A60
  by_cases c7 : a1 < 0
  · rw [if_pos c7] at H
    have c7b0 : decide (a1 < 0) = true := decide_eq_true c7
    clear c7
    by_cases c8 : t182 = true
    · subst c8
      have H1 : (if t185 = true then (some false) else ((bound_Most.f k a2 a1).bind fun t186 => (some (t186 == (-1))))) = some r := by rw [if_pos rfl] at H; exact H
      clear H
      have H := H1
      clear H1
      by_cases c9 : t185 = true
      · subst c9
        have H1 : (some false) = some r := by rw [if_pos rfl] at H; exact H
        clear H
        have H := H1
        clear H1
        obtain rfl := Option.some.inj H
        go_enter Try.func7, Try.ntmps7
        go_wp2_with (first | ((with_reducible refine gate_callee (f := 5) rfl ?_); refine goesL_ (some 15) rfl rfl Try.func5 (by kernel_rfl) rfl #[] rfl (by (try simp only [List.map_toArray, List.map_cons, List.map_nil]); first | done | rfl | (simp only [List.length_drop, List.length_take]; rfl)) ?_; (with_reducible refine (armisticelaw26_BoundKnown.calls k  true _ A4.out).mono ?_); rintro e w10 ⟨rfl, hb⟩; refine ⟨_, rfl, ?_⟩; have n0_ := Aside0.mk (below_step (by repeat (first | (with_reducible first | exact HB.out | apply below_alloc | apply pw_below_drewN | apply below_drew1) | exact HB.out)) hb); clear HB; have HB := n0_; clear n0_; (try clear hb); (try clear hb2); (try clear hk); (try clear hi)) | ((with_reducible refine gate_callee (f := 22) rfl ?_); refine goesL_ (some 17) rfl rfl Try.func22 (by kernel_rfl) rfl #[.int .i64 a0, .int .i64 26] rfl (by (try simp only [List.map_toArray, List.map_cons, List.map_nil]); first | done | rfl | (simp only [List.length_drop, List.length_take]; rfl)) ?_; (with_reducible refine (armisticekit_Pick.calls a0 26 t183 _ A5.out).mono ?_); rintro e w' ⟨rfl, ⟨nd, rfl⟩⟩; refine ⟨_, rfl, ?_⟩) | ((with_reducible refine gate_callee (f := 12) rfl ?_); refine goesL_ (some 21) rfl rfl Try.func12 (by kernel_rfl) rfl #[.int .i64 t183, .int .i64 a1] rfl (by (try simp only [List.map_toArray, List.map_cons, List.map_nil]); first | done | rfl | (simp only [List.length_drop, List.length_take]; rfl)) ?_; (with_reducible refine (bound_Of.calls k t183 a1 t184 true _ A6.out).mono ?_); rintro e w11 ⟨rfl, hb⟩; refine ⟨_, rfl, ?_⟩; have n0_ := Aside0.mk (below_step (by repeat (first | (with_reducible first | exact HB.out | apply below_alloc | apply pw_below_drewN | apply below_drew1) | exact HB.out)) hb); clear HB; have HB := n0_; clear n0_; (try clear hb); (try clear hb2); (try clear hk); (try clear hi)))
        go_ret
        exact ⟨by first | rfl | (simp [errW_none, errW_some] <;> rfl) | (simp [*, errW_none, errW_some] <;> rfl), by repeat (first | (with_reducible first | exact HB.out | apply below_alloc | apply pw_below_drewN | apply below_drew1) | exact HB.out)⟩
      · replace c9 := Bool.eq_false_iff.mpr c9
        subst c9
        have H1 : ((bound_Most.f k a2 a1).bind fun t186 => (some (t186 == (-1)))) = some r := by rw [if_neg (show ¬ (false = true) by decide)] at H; exact H
        clear H
        have H := H1
        clear H1
        replace H := Option.bind_eq_some_iff.mp H
        obtain ⟨t186, A120, H⟩ := H
        replace H : (some (t186 == (-1))) = some r := H
        have A12 := Aside0.mk A120
        clear A120
        obtain rfl := Option.some.inj H
        go_enter Try.func7, Try.ntmps7
        go_wp2_with (first | ((with_reducible refine gate_callee (f := 5) rfl ?_); refine goesL_ (some 15) rfl rfl Try.func5 (by kernel_rfl) rfl #[] rfl (by (try simp only [List.map_toArray, List.map_cons, List.map_nil]); first | done | rfl | (simp only [List.length_drop, List.length_take]; rfl)) ?_; (with_reducible refine (armisticelaw26_BoundKnown.calls k  true _ A4.out).mono ?_); rintro e w13 ⟨rfl, hb⟩; refine ⟨_, rfl, ?_⟩; have n0_ := Aside0.mk (below_step (by repeat (first | (with_reducible first | exact HB.out | apply below_alloc | apply pw_below_drewN | apply below_drew1) | exact HB.out)) hb); clear HB; have HB := n0_; clear n0_; (try clear hb); (try clear hb2); (try clear hk); (try clear hi)) | ((with_reducible refine gate_callee (f := 22) rfl ?_); refine goesL_ (some 17) rfl rfl Try.func22 (by kernel_rfl) rfl #[.int .i64 a0, .int .i64 26] rfl (by (try simp only [List.map_toArray, List.map_cons, List.map_nil]); first | done | rfl | (simp only [List.length_drop, List.length_take]; rfl)) ?_; (with_reducible refine (armisticekit_Pick.calls a0 26 t183 _ A5.out).mono ?_); rintro e w' ⟨rfl, ⟨nd, rfl⟩⟩; refine ⟨_, rfl, ?_⟩) | ((with_reducible refine gate_callee (f := 12) rfl ?_); refine goesL_ (some 21) rfl rfl Try.func12 (by kernel_rfl) rfl #[.int .i64 t183, .int .i64 a1] rfl (by (try simp only [List.map_toArray, List.map_cons, List.map_nil]); first | done | rfl | (simp only [List.length_drop, List.length_take]; rfl)) ?_; (with_reducible refine (bound_Of.calls k t183 a1 t184 false _ A6.out).mono ?_); rintro e w14 ⟨rfl, hb⟩; refine ⟨_, rfl, ?_⟩; have n0_ := Aside0.mk (below_step (by repeat (first | (with_reducible first | exact HB.out | apply below_alloc | apply pw_below_drewN | apply below_drew1) | exact HB.out)) hb); clear HB; have HB := n0_; clear n0_; (try clear hb); (try clear hb2); (try clear hk); (try clear hi)) | (go_at_call 17; (with_reducible refine (bound_Most.calls k a2 a1 t186 _ A12.out).mono ?_); rintro e w15 ⟨rfl, hb⟩; have n0_ := Aside0.mk (below_step (by repeat (first | (with_reducible first | exact HB.out | apply below_alloc | apply pw_below_drewN | apply below_drew1) | exact HB.out)) hb); clear HB; have HB := n0_; clear n0_; (try clear hb); (try clear hb2); (try clear hk); (try clear hi)))
        go_ret
        exact ⟨by first | rfl | (simp [errW_none, errW_some] <;> rfl) | (simp [*, errW_none, errW_some] <;> rfl), by repeat (first | (with_reducible first | exact HB.out | apply below_alloc | apply pw_below_drewN | apply below_drew1) | exact HB.out)⟩
    · replace c8 := Bool.eq_false_iff.mpr c8
      subst c8
      have H1 : (some false) = some r := by rw [if_neg (show ¬ (false = true) by decide)] at H; exact H
      clear H
      have H := H1
      clear H1
      obtain rfl := Option.some.inj H
      go_enter Try.func7, Try.ntmps7
      go_wp2_with (first | ((with_reducible refine gate_callee (f := 5) rfl ?_); refine goesL_ (some 15) rfl rfl Try.func5 (by kernel_rfl) rfl #[] rfl (by (try simp only [List.map_toArray, List.map_cons, List.map_nil]); first | done | rfl | (simp only [List.length_drop, List.length_take]; rfl)) ?_; (with_reducible refine (armisticelaw26_BoundKnown.calls k  false _ A4.out).mono ?_); rintro e w16 ⟨rfl, hb⟩; refine ⟨_, rfl, ?_⟩; have n0_ := Aside0.mk (below_step (by repeat (first | (with_reducible first | exact HB.out | apply below_alloc | apply pw_below_drewN | apply below_drew1) | exact HB.out)) hb); clear HB; have HB := n0_; clear n0_; (try clear hb); (try clear hb2); (try clear hk); (try clear hi)) | ((with_reducible refine gate_callee (f := 22) rfl ?_); refine goesL_ (some 17) rfl rfl Try.func22 (by kernel_rfl) rfl #[.int .i64 a0, .int .i64 26] rfl (by (try simp only [List.map_toArray, List.map_cons, List.map_nil]); first | done | rfl | (simp only [List.length_drop, List.length_take]; rfl)) ?_; (with_reducible refine (armisticekit_Pick.calls a0 26 t183 _ A5.out).mono ?_); rintro e w' ⟨rfl, ⟨nd, rfl⟩⟩; refine ⟨_, rfl, ?_⟩) | ((with_reducible refine gate_callee (f := 12) rfl ?_); refine goesL_ (some 21) rfl rfl Try.func12 (by kernel_rfl) rfl #[.int .i64 t183, .int .i64 a1] rfl (by (try simp only [List.map_toArray, List.map_cons, List.map_nil]); first | done | rfl | (simp only [List.length_drop, List.length_take]; rfl)) ?_; (with_reducible refine (bound_Of.calls k t183 a1 t184 t185 _ A6.out).mono ?_); rintro e w17 ⟨rfl, hb⟩; refine ⟨_, rfl, ?_⟩; have n0_ := Aside0.mk (below_step (by repeat (first | (with_reducible first | exact HB.out | apply below_alloc | apply pw_below_drewN | apply below_drew1) | exact HB.out)) hb); clear HB; have HB := n0_; clear n0_; (try clear hb); (try clear hb2); (try clear hk); (try clear hi)))
      go_ret
      exact ⟨by first | rfl | (simp [errW_none, errW_some] <;> rfl) | (simp [*, errW_none, errW_some] <;> rfl), by repeat (first | (with_reducible first | exact HB.out | apply below_alloc | apply pw_below_drewN | apply below_drew1) | exact HB.out)⟩
  · rw [if_neg c7] at H
    have c7b0 : decide (a1 < 0) = false := decide_eq_false c7
    clear c7
    replace H := Option.bind_eq_some_iff.mp H
    obtain ⟨⟨t187, t188⟩, A180, H⟩ := H
    replace H : (if t188 = true then (if t185 = true then (if t187 ≤ t184 then (armisticelaw26_BoundRises.j0 k t183 a1 a2 t182 t184 t185 true) else (if t184 < 1 then (armisticelaw26_BoundRises.j0 k t183 a1 a2 t182 t184 t185 true) else (if t184 > 4611686018427387904 then (armisticelaw26_BoundRises.j0 k t183 a1 a2 t182 t184 t185 true) else ((bound_Enough.f k a2 t183 a1).bind fun t189 => (armisticelaw26_BoundRises.j0 k t183 a1 a2 t182 t184 t185 (t189 != (decide (a2 ≥ t184)))))))) else (armisticelaw26_BoundRises.j0 k t183 a1 a2 t182 t184 t185 true)) else (if t185 = true then (if t184 < 1 then (armisticelaw26_BoundRises.j0 k t183 a1 a2 t182 t184 t185 true) else (if t184 > 4611686018427387904 then (armisticelaw26_BoundRises.j0 k t183 a1 a2 t182 t184 t185 true) else ((bound_Enough.f k a2 t183 a1).bind fun t190 => (armisticelaw26_BoundRises.j0 k t183 a1 a2 t182 t184 t185 (t190 != (decide (a2 ≥ t184))))))) else ((bound_Enough.f k a2 t183 a1).bind fun t191 => (armisticelaw26_BoundRises.j0 k t183 a1 a2 t182 t184 t185 (t191 != false))))) = some r := H
    have A18 := Aside0.mk A180
    clear A180
    have HC19 := Aside0.mk H
    clear H
    go_enter Try.func7, Try.ntmps7
    go_upto_region 7 with (first | ((with_reducible refine gate_callee (f := 5) rfl ?_); refine goesL_ (some 15) rfl rfl Try.func5 (by kernel_rfl) rfl #[] rfl (by (try simp only [List.map_toArray, List.map_cons, List.map_nil]); first | done | rfl | (simp only [List.length_drop, List.length_take]; rfl)) ?_; (with_reducible refine (armisticelaw26_BoundKnown.calls k  t182 _ A4.out).mono ?_); rintro e w20 ⟨rfl, hb⟩; refine ⟨_, rfl, ?_⟩; have n0_ := Aside0.mk (below_step (by repeat (first | (with_reducible first | exact HB.out | apply below_alloc | apply pw_below_drewN | apply below_drew1) | exact HB.out)) hb); clear HB; have HB := n0_; clear n0_; (try clear hb); (try clear hb2); (try clear hk); (try clear hi)) | ((with_reducible refine gate_callee (f := 22) rfl ?_); refine goesL_ (some 17) rfl rfl Try.func22 (by kernel_rfl) rfl #[.int .i64 a0, .int .i64 26] rfl (by (try simp only [List.map_toArray, List.map_cons, List.map_nil]); first | done | rfl | (simp only [List.length_drop, List.length_take]; rfl)) ?_; (with_reducible refine (armisticekit_Pick.calls a0 26 t183 _ A5.out).mono ?_); rintro e w' ⟨rfl, ⟨nd, rfl⟩⟩; refine ⟨_, rfl, ?_⟩) | ((with_reducible refine gate_callee (f := 12) rfl ?_); refine goesL_ (some 21) rfl rfl Try.func12 (by kernel_rfl) rfl #[.int .i64 t183, .int .i64 a1] rfl (by (try simp only [List.map_toArray, List.map_cons, List.map_nil]); first | done | rfl | (simp only [List.length_drop, List.length_take]; rfl)) ?_; (with_reducible refine (bound_Of.calls k t183 a1 t184 t185 _ A6.out).mono ?_); rintro e w21 ⟨rfl, hb⟩; refine ⟨_, rfl, ?_⟩; have n0_ := Aside0.mk (below_step (by repeat (first | (with_reducible first | exact HB.out | apply below_alloc | apply pw_below_drewN | apply below_drew1) | exact HB.out)) hb); clear HB; have HB := n0_; clear n0_; (try clear hb); (try clear hb2); (try clear hk); (try clear hi)) | ((with_reducible refine gate_callee (f := 12) rfl ?_); refine goesL_ (some 41) rfl rfl Try.func12 (by kernel_rfl) rfl #[.int .i64 (wrap64 (t183 + 1)), .int .i64 a1] rfl (by (try simp only [List.map_toArray, List.map_cons, List.map_nil]); first | done | rfl | (simp only [List.length_drop, List.length_take]; rfl)) ?_; (with_reducible refine (bound_Of.calls k (wrap64 (t183 + 1)) a1 t187 t188 _ A18.out).mono ?_); rintro e w22 ⟨rfl, hb⟩; refine ⟨_, rfl, ?_⟩; have n0_ := Aside0.mk (below_step (by repeat (first | (with_reducible first | exact HB.out | apply below_alloc | apply pw_below_drewN | apply below_drew1) | exact HB.out)) hb); clear HB; have HB := n0_; clear n0_; (try clear hb); (try clear hb2); (try clear hk); (try clear hi)))
    (try simp only [Act.put, List.setIfInBounds_toArray, List.set_cons_zero, List.set_cons_succ])
    go_cut [77] (fun v77 wc => ∃ (kq : Nat) (x77_18 : Bool), v77 = .bool x77_18 ∧ Aside0 (armisticelaw26_BoundRises.j0 kq t183 a1 a2 t182 t184 t185 x77_18 = some r) ∧ Aside0 (kq ≤ k) ∧ Aside0 (Below w.heap.size w wc))
    case first =>
      have H := HC19.out
      clear HC19
      by_cases c23 : t188 = true
      · subst c23
        have H1 : (if t185 = true then (if t187 ≤ t184 then (armisticelaw26_BoundRises.j0 k t183 a1 a2 t182 t184 t185 true) else (if t184 < 1 then (armisticelaw26_BoundRises.j0 k t183 a1 a2 t182 t184 t185 true) else (if t184 > 4611686018427387904 then (armisticelaw26_BoundRises.j0 k t183 a1 a2 t182 t184 t185 true) else ((bound_Enough.f k a2 t183 a1).bind fun t189 => (armisticelaw26_BoundRises.j0 k t183 a1 a2 t182 t184 t185 (t189 != (decide (a2 ≥ t184)))))))) else (armisticelaw26_BoundRises.j0 k t183 a1 a2 t182 t184 t185 true)) = some r := by rw [if_pos rfl] at H; exact H
        clear H
        have H := H1
        clear H1
        by_cases c24 : t185 = true
        · subst c24
          have H1 : (if t187 ≤ t184 then (armisticelaw26_BoundRises.j0 k t183 a1 a2 t182 t184 true true) else (if t184 < 1 then (armisticelaw26_BoundRises.j0 k t183 a1 a2 t182 t184 true true) else (if t184 > 4611686018427387904 then (armisticelaw26_BoundRises.j0 k t183 a1 a2 t182 t184 true true) else ((bound_Enough.f k a2 t183 a1).bind fun t189 => (armisticelaw26_BoundRises.j0 k t183 a1 a2 t182 t184 true (t189 != (decide (a2 ≥ t184)))))))) = some r := by rw [if_pos rfl] at H; exact H
          clear H
          have H := H1
          clear H1
          by_cases c25 : t187 ≤ t184
          · rw [if_pos c25] at H
            have c25b0 : decide (t187 ≤ t184) = true := decide_eq_true c25
            clear c25
            (first | rw [c25b0] | (simp only [i64_w, i32_w]; rw [c25b0]) | skip)
            have H' := Aside0.mk H
            clear H
            go_wp2
            go_meet
            case rel => exact ⟨_, (true), (by first | rfl | (simp; done) | (simp [*]; done)), H', ⟨by first | omega | exact Nat.le_refl _⟩, ⟨by repeat (first | (with_reducible first | exact HB.out | apply below_alloc | apply pw_below_drewN | apply below_drew1) | exact HB.out)⟩⟩
          · rw [if_neg c25] at H
            have c25b0 : decide (t187 ≤ t184) = false := decide_eq_false c25
            clear c25
            (first | rw [c25b0] | (simp only [i64_w, i32_w]; rw [c25b0]) | skip)
            by_cases c26 : t184 < 1
            · rw [if_pos c26] at H
              have c26b0 : decide (t184 < 1) = true := decide_eq_true c26
              clear c26
              have H' := Aside0.mk H
              clear H
              go_wp2
              go_meet
              case rel => exact ⟨_, (true), (by first | rfl | (simp; done) | (simp [*]; done)), H', ⟨by first | omega | exact Nat.le_refl _⟩, ⟨by repeat (first | (with_reducible first | exact HB.out | apply below_alloc | apply pw_below_drewN | apply below_drew1) | exact HB.out)⟩⟩
            · rw [if_neg c26] at H
              have c26b0 : decide (t184 < 1) = false := decide_eq_false c26
              clear c26
              by_cases c27 : t184 > 4611686018427387904
              · rw [if_pos c27] at H
                have c27b0 : decide (4611686018427387904 < t184) = true := decide_eq_true c27
                clear c27
                have H' := Aside0.mk H
                clear H
                go_wp2
                go_meet
                case rel => exact ⟨_, (true), (by first | rfl | (simp; done) | (simp [*]; done)), H', ⟨by first | omega | exact Nat.le_refl _⟩, ⟨by repeat (first | (with_reducible first | exact HB.out | apply below_alloc | apply pw_below_drewN | apply below_drew1) | exact HB.out)⟩⟩
              · rw [if_neg c27] at H
                have c27b0 : decide (4611686018427387904 < t184) = false := decide_eq_false c27
                clear c27
                replace H := Option.bind_eq_some_iff.mp H
                obtain ⟨t189, A280, H⟩ := H
                replace H : (armisticelaw26_BoundRises.j0 k t183 a1 a2 t182 t184 true (t189 != (decide (a2 ≥ t184)))) = some r := H
                have A28 := Aside0.mk A280
                clear A280
                have H' := Aside0.mk H
                clear H
                go_wp2_with (first | (go_at_call 15; (with_reducible refine (bound_Enough.calls k a2 t183 a1 t189 _ A28.out).mono ?_); rintro e w29 ⟨rfl, hb⟩; have n0_ := Aside0.mk (below_step (by repeat (first | (with_reducible first | exact HB.out | apply below_alloc | apply pw_below_drewN | apply below_drew1) | exact HB.out)) hb); clear HB; have HB := n0_; clear n0_; (try clear hb); (try clear hb2); (try clear hk); (try clear hi)))
                go_meet
                case rel => exact ⟨_, ((t189 != (decide (a2 ≥ t184)))), (by first | rfl | (simp; done) | (simp [*]; done)), H', ⟨by first | omega | exact Nat.le_refl _⟩, ⟨by repeat (first | (with_reducible first | exact HB.out | apply below_alloc | apply pw_below_drewN | apply below_drew1) | exact HB.out)⟩⟩
        · replace c24 := Bool.eq_false_iff.mpr c24
          subst c24
          have H1 : (armisticelaw26_BoundRises.j0 k t183 a1 a2 t182 t184 false true) = some r := by rw [if_neg (show ¬ (false = true) by decide)] at H; exact H
          clear H
          have H := H1
          clear H1
          have H' := Aside0.mk H
          clear H
          go_wp2
          go_meet
          case rel => exact ⟨_, (true), (by first | rfl | (simp; done) | (simp [*]; done)), H', ⟨by first | omega | exact Nat.le_refl _⟩, ⟨by repeat (first | (with_reducible first | exact HB.out | apply below_alloc | apply pw_below_drewN | apply below_drew1) | exact HB.out)⟩⟩
      · replace c23 := Bool.eq_false_iff.mpr c23
        subst c23
        have H1 : (if t185 = true then (if t184 < 1 then (armisticelaw26_BoundRises.j0 k t183 a1 a2 t182 t184 t185 true) else (if t184 > 4611686018427387904 then (armisticelaw26_BoundRises.j0 k t183 a1 a2 t182 t184 t185 true) else ((bound_Enough.f k a2 t183 a1).bind fun t190 => (armisticelaw26_BoundRises.j0 k t183 a1 a2 t182 t184 t185 (t190 != (decide (a2 ≥ t184))))))) else ((bound_Enough.f k a2 t183 a1).bind fun t191 => (armisticelaw26_BoundRises.j0 k t183 a1 a2 t182 t184 t185 (t191 != false)))) = some r := by rw [if_neg (show ¬ (false = true) by decide)] at H; exact H
        clear H
        have H := H1
        clear H1
        by_cases c30 : t185 = true
        · subst c30
          have H1 : (if t184 < 1 then (armisticelaw26_BoundRises.j0 k t183 a1 a2 t182 t184 true true) else (if t184 > 4611686018427387904 then (armisticelaw26_BoundRises.j0 k t183 a1 a2 t182 t184 true true) else ((bound_Enough.f k a2 t183 a1).bind fun t190 => (armisticelaw26_BoundRises.j0 k t183 a1 a2 t182 t184 true (t190 != (decide (a2 ≥ t184))))))) = some r := by rw [if_pos rfl] at H; exact H
          clear H
          have H := H1
          clear H1
          by_cases c31 : t184 < 1
          · rw [if_pos c31] at H
            have c31b0 : decide (t184 < 1) = true := decide_eq_true c31
            clear c31
            have H' := Aside0.mk H
            clear H
            go_wp2
            go_meet
            case rel => exact ⟨_, (true), (by first | rfl | (simp; done) | (simp [*]; done)), H', ⟨by first | omega | exact Nat.le_refl _⟩, ⟨by repeat (first | (with_reducible first | exact HB.out | apply below_alloc | apply pw_below_drewN | apply below_drew1) | exact HB.out)⟩⟩
          · rw [if_neg c31] at H
            have c31b0 : decide (t184 < 1) = false := decide_eq_false c31
            clear c31
            by_cases c32 : t184 > 4611686018427387904
            · rw [if_pos c32] at H
              have c32b0 : decide (4611686018427387904 < t184) = true := decide_eq_true c32
              clear c32
              have H' := Aside0.mk H
              clear H
              go_wp2
              go_meet
              case rel => exact ⟨_, (true), (by first | rfl | (simp; done) | (simp [*]; done)), H', ⟨by first | omega | exact Nat.le_refl _⟩, ⟨by repeat (first | (with_reducible first | exact HB.out | apply below_alloc | apply pw_below_drewN | apply below_drew1) | exact HB.out)⟩⟩
            · rw [if_neg c32] at H
              have c32b0 : decide (4611686018427387904 < t184) = false := decide_eq_false c32
              clear c32
              replace H := Option.bind_eq_some_iff.mp H
              obtain ⟨t190, A330, H⟩ := H
              replace H : (armisticelaw26_BoundRises.j0 k t183 a1 a2 t182 t184 true (t190 != (decide (a2 ≥ t184)))) = some r := H
              have A33 := Aside0.mk A330
              clear A330
              have H' := Aside0.mk H
              clear H
              go_wp2_with (first | (go_at_call 15; (with_reducible refine (bound_Enough.calls k a2 t183 a1 t190 _ A33.out).mono ?_); rintro e w34 ⟨rfl, hb⟩; have n0_ := Aside0.mk (below_step (by repeat (first | (with_reducible first | exact HB.out | apply below_alloc | apply pw_below_drewN | apply below_drew1) | exact HB.out)) hb); clear HB; have HB := n0_; clear n0_; (try clear hb); (try clear hb2); (try clear hk); (try clear hi)))
              go_meet
              case rel => exact ⟨_, ((t190 != (decide (a2 ≥ t184)))), (by first | rfl | (simp; done) | (simp [*]; done)), H', ⟨by first | omega | exact Nat.le_refl _⟩, ⟨by repeat (first | (with_reducible first | exact HB.out | apply below_alloc | apply pw_below_drewN | apply below_drew1) | exact HB.out)⟩⟩
        · replace c30 := Bool.eq_false_iff.mpr c30
          subst c30
          have H1 : ((bound_Enough.f k a2 t183 a1).bind fun t191 => (armisticelaw26_BoundRises.j0 k t183 a1 a2 t182 t184 false (t191 != false))) = some r := by rw [if_neg (show ¬ (false = true) by decide)] at H; exact H
          clear H
          have H := H1
          clear H1
          replace H := Option.bind_eq_some_iff.mp H
          obtain ⟨t191, A350, H⟩ := H
          replace H : (armisticelaw26_BoundRises.j0 k t183 a1 a2 t182 t184 false (t191 != false)) = some r := H
          have A35 := Aside0.mk A350
          clear A350
          have H' := Aside0.mk H
          clear H
          go_wp2_with (first | (go_at_call 15; (with_reducible refine (bound_Enough.calls k a2 t183 a1 t191 _ A35.out).mono ?_); rintro e w36 ⟨rfl, hb⟩; have n0_ := Aside0.mk (below_step (by repeat (first | (with_reducible first | exact HB.out | apply below_alloc | apply pw_below_drewN | apply below_drew1) | exact HB.out)) hb); clear HB; have HB := n0_; clear n0_; (try clear hb); (try clear hb2); (try clear hk); (try clear hi)))
          go_meet
          case rel => exact ⟨_, ((t191 != false)), (by first | rfl | (simp; done) | (simp [*]; done)), H', ⟨by first | omega | exact Nat.le_refl _⟩, ⟨by repeat (first | (with_reducible first | exact HB.out | apply below_alloc | apply pw_below_drewN | apply below_drew1) | exact HB.out)⟩⟩
    case rest =>
      clear HC19
      try clear c1
      try clear c2
      try clear p2
      try clear c3
      try clear c5
      try clear p6
      try clear c7
      try clear c7b0
      try clear c8
      try clear c9
      try clear c12
      try clear c22
      try clear c23
      try clear c24
      try clear c25
      try clear c25b0
      try clear c26
      try clear c26b0
      try clear c27
      try clear c27b0
      try clear c30
      try clear c31
      try clear c31b0
      try clear c32
      try clear c32b0
      obtain ⟨kq, x77_18, rfl, HA, HJ18, HB⟩ := hcut
      cases kq with
      | zero => exact absurd HA.out (by simp [armisticelaw26_BoundRises.j0])
      | succ kj18 =>
        have H := HA.out
        clear HA
        simp only [armisticelaw26_BoundRises.j0] at H
        by_cases c37 : x77_18 = true
        · subst c37
          have H1 : (some false) = some r := by rw [if_pos rfl] at H; exact H
          clear H
          have H := H1
          clear H1
          obtain rfl := Option.some.inj H
          go_wp2
          go_ret
          exact ⟨by first | rfl | (simp [errW_none, errW_some] <;> rfl) | (simp [*, errW_none, errW_some] <;> rfl), by repeat (first | (with_reducible first | exact HB.out | apply below_alloc | apply pw_below_drewN | apply below_drew1) | exact HB.out)⟩
        · replace c37 := Bool.eq_false_iff.mpr c37
          subst c37
          have H1 : (if a1 < 4611686018427387904 then ((bound_Of.f kj18 t183 (wrap64 (a1 + 1))).bind fun bt192 => (if bt192.2 = true then (if t185 = true then (if bt192.1 ≤ t184 then (some false) else (armisticelaw26_BoundRises.j1 kj18 t183 a1 a2 t182)) else (some false)) else (armisticelaw26_BoundRises.j1 kj18 t183 a1 a2 t182))) else (armisticelaw26_BoundRises.j1 kj18 t183 a1 a2 t182)) = some r := by rw [if_neg (show ¬ (false = true) by decide)] at H; exact H
          clear H
          have H := H1
          clear H1
          have HC38 := Aside0.mk H
          clear H
          go_upto_if 79 with (fail)
          go_cut [] (fun wc => ∃ (kq : Nat), Aside0 (armisticelaw26_BoundRises.j1 kq t183 a1 a2 t182 = some r) ∧ Aside0 (kq ≤ kj18) ∧ Aside0 (Below w.heap.size w wc))
          case first =>
            have H := HC38.out
            clear HC38
            by_cases c39 : a1 < 4611686018427387904
            · rw [if_pos c39] at H
              have c39b0 : decide (a1 < 4611686018427387904) = true := decide_eq_true c39
              clear c39
              (first | rw [c39b0] | (simp only [i64_w, i32_w]; rw [c39b0]) | skip)
              replace H := Option.bind_eq_some_iff.mp H
              obtain ⟨⟨t192, t193⟩, A400, H⟩ := H
              replace H : (if t193 = true then (if t185 = true then (if t192 ≤ t184 then (some false) else (armisticelaw26_BoundRises.j1 kj18 t183 a1 a2 t182)) else (some false)) else (armisticelaw26_BoundRises.j1 kj18 t183 a1 a2 t182)) = some r := H
              have A40 := Aside0.mk A400
              clear A400
              by_cases c41 : t193 = true
              · subst c41
                have H1 : (if t185 = true then (if t192 ≤ t184 then (some false) else (armisticelaw26_BoundRises.j1 kj18 t183 a1 a2 t182)) else (some false)) = some r := by rw [if_pos rfl] at H; exact H
                clear H
                have H := H1
                clear H1
                by_cases c42 : t185 = true
                · subst c42
                  have H1 : (if t192 ≤ t184 then (some false) else (armisticelaw26_BoundRises.j1 kj18 t183 a1 a2 t182)) = some r := by rw [if_pos rfl] at H; exact H
                  clear H
                  have H := H1
                  clear H1
                  by_cases c43 : t192 ≤ t184
                  · rw [if_pos c43] at H
                    have c43b0 : decide (t192 ≤ t184) = true := decide_eq_true c43
                    clear c43
                    obtain rfl := Option.some.inj H
                    go_wp2_with (first | ((with_reducible refine gate_callee (f := 12) rfl ?_); refine goesL_ (some 84) rfl rfl Try.func12 (by kernel_rfl) rfl #[.int .i64 t183, .int .i64 (wrap64 (a1 + 1))] rfl (by (try simp only [List.map_toArray, List.map_cons, List.map_nil]); first | done | rfl | (simp only [List.length_drop, List.length_take]; rfl)) ?_; (with_reducible refine (bound_Of.calls kj18 t183 (wrap64 (a1 + 1)) t192 true _ A40.out).mono ?_); rintro e w44 ⟨rfl, hb⟩; refine ⟨_, rfl, ?_⟩; have n0_ := Aside0.mk (below_step (by repeat (first | (with_reducible first | exact HB.out | apply below_alloc | apply pw_below_drewN | apply below_drew1) | exact HB.out)) hb); clear HB; have HB := n0_; clear n0_; (try clear hb); (try clear hb2); (try clear hk); (try clear hi)))
                    go_ret
                    exact ⟨by first | rfl | (simp [errW_none, errW_some] <;> rfl) | (simp [*, errW_none, errW_some] <;> rfl), by repeat (first | (with_reducible first | exact HB.out | apply below_alloc | apply pw_below_drewN | apply below_drew1) | exact HB.out)⟩
                  · rw [if_neg c43] at H
                    have c43b0 : decide (t192 ≤ t184) = false := decide_eq_false c43
                    clear c43
                    have H' := Aside0.mk H
                    clear H
                    go_wp2_with (first | ((with_reducible refine gate_callee (f := 12) rfl ?_); refine goesL_ (some 84) rfl rfl Try.func12 (by kernel_rfl) rfl #[.int .i64 t183, .int .i64 (wrap64 (a1 + 1))] rfl (by (try simp only [List.map_toArray, List.map_cons, List.map_nil]); first | done | rfl | (simp only [List.length_drop, List.length_take]; rfl)) ?_; (with_reducible refine (bound_Of.calls kj18 t183 (wrap64 (a1 + 1)) t192 true _ A40.out).mono ?_); rintro e w45 ⟨rfl, hb⟩; refine ⟨_, rfl, ?_⟩; have n0_ := Aside0.mk (below_step (by repeat (first | (with_reducible first | exact HB.out | apply below_alloc | apply pw_below_drewN | apply below_drew1) | exact HB.out)) hb); clear HB; have HB := n0_; clear n0_; (try clear hb); (try clear hb2); (try clear hk); (try clear hi)))
                    go_meet
                    case rel => exact ⟨_, H', ⟨by have := HJ18.out; first | omega | exact Nat.le_refl _⟩, ⟨by repeat (first | (with_reducible first | exact HB.out | apply below_alloc | apply pw_below_drewN | apply below_drew1) | exact HB.out)⟩⟩
                · replace c42 := Bool.eq_false_iff.mpr c42
                  subst c42
                  have H1 : (some false) = some r := by rw [if_neg (show ¬ (false = true) by decide)] at H; exact H
                  clear H
                  have H := H1
                  clear H1
                  obtain rfl := Option.some.inj H
                  go_wp2_with (first | ((with_reducible refine gate_callee (f := 12) rfl ?_); refine goesL_ (some 84) rfl rfl Try.func12 (by kernel_rfl) rfl #[.int .i64 t183, .int .i64 (wrap64 (a1 + 1))] rfl (by (try simp only [List.map_toArray, List.map_cons, List.map_nil]); first | done | rfl | (simp only [List.length_drop, List.length_take]; rfl)) ?_; (with_reducible refine (bound_Of.calls kj18 t183 (wrap64 (a1 + 1)) t192 true _ A40.out).mono ?_); rintro e w46 ⟨rfl, hb⟩; refine ⟨_, rfl, ?_⟩; have n0_ := Aside0.mk (below_step (by repeat (first | (with_reducible first | exact HB.out | apply below_alloc | apply pw_below_drewN | apply below_drew1) | exact HB.out)) hb); clear HB; have HB := n0_; clear n0_; (try clear hb); (try clear hb2); (try clear hk); (try clear hi)))
                  go_ret
                  exact ⟨by first | rfl | (simp [errW_none, errW_some] <;> rfl) | (simp [*, errW_none, errW_some] <;> rfl), by repeat (first | (with_reducible first | exact HB.out | apply below_alloc | apply pw_below_drewN | apply below_drew1) | exact HB.out)⟩
              · replace c41 := Bool.eq_false_iff.mpr c41
                subst c41
                have H1 : (armisticelaw26_BoundRises.j1 kj18 t183 a1 a2 t182) = some r := by rw [if_neg (show ¬ (false = true) by decide)] at H; exact H
                clear H
                have H := H1
                clear H1
                have H' := Aside0.mk H
                clear H
                go_wp2_with (first | ((with_reducible refine gate_callee (f := 12) rfl ?_); refine goesL_ (some 84) rfl rfl Try.func12 (by kernel_rfl) rfl #[.int .i64 t183, .int .i64 (wrap64 (a1 + 1))] rfl (by (try simp only [List.map_toArray, List.map_cons, List.map_nil]); first | done | rfl | (simp only [List.length_drop, List.length_take]; rfl)) ?_; (with_reducible refine (bound_Of.calls kj18 t183 (wrap64 (a1 + 1)) t192 false _ A40.out).mono ?_); rintro e w47 ⟨rfl, hb⟩; refine ⟨_, rfl, ?_⟩; have n0_ := Aside0.mk (below_step (by repeat (first | (with_reducible first | exact HB.out | apply below_alloc | apply pw_below_drewN | apply below_drew1) | exact HB.out)) hb); clear HB; have HB := n0_; clear n0_; (try clear hb); (try clear hb2); (try clear hk); (try clear hi)))
                go_meet
                case rel => exact ⟨_, H', ⟨by have := HJ18.out; first | omega | exact Nat.le_refl _⟩, ⟨by repeat (first | (with_reducible first | exact HB.out | apply below_alloc | apply pw_below_drewN | apply below_drew1) | exact HB.out)⟩⟩
            · rw [if_neg c39] at H
              have c39b0 : decide (a1 < 4611686018427387904) = false := decide_eq_false c39
              clear c39
              (first | rw [c39b0] | (simp only [i64_w, i32_w]; rw [c39b0]) | skip)
              have H' := Aside0.mk H
              clear H
              go_wp2
              go_meet
              case rel => exact ⟨_, H', ⟨by have := HJ18.out; first | omega | exact Nat.le_refl _⟩, ⟨by repeat (first | (with_reducible first | exact HB.out | apply below_alloc | apply pw_below_drewN | apply below_drew1) | exact HB.out)⟩⟩
          case rest =>
            clear HC38
            try clear c1
            try clear c2
            try clear p2
            try clear c3
            try clear c4
            try clear c5
            try clear p6
            try clear c7
            try clear c7b0
            try clear c8
            try clear c9
            try clear c12
            try clear c22
            try clear c23
            try clear c24
            try clear c25
            try clear c25b0
            try clear c26
            try clear c26b0
            try clear c27
            try clear c27b0
            try clear c30
            try clear c31
            try clear c31b0
            try clear c32
            try clear c32b0
            try clear c37
            try clear c39
            try clear c39b0
            try clear c41
            try clear c42
            try clear c43
            try clear c43b0
            try clear p2
            try clear p6
            obtain ⟨kq, HA, HJ37, HB⟩ := hcut
            cases kq with
            | zero => exact absurd HA.out (by simp [armisticelaw26_BoundRises.j1])
            | succ kj37 =>
              have H := HA.out
              clear HA
              simp only [armisticelaw26_BoundRises.j1] at H
              replace H := Option.bind_eq_some_iff.mp H
              obtain ⟨t194, A480, H⟩ := H
              replace H : (if t182 = true then (if t194 ≥ (-1) then (if t194 < 0 then ((bound_Enough.f kj37 a2 (wrap64 (t194 + 1)) a1).bind fun t195 => (if t195 = true then (some false) else ((bound_Enough.f kj37 a2 t183 a1).bind fun t196 => (some (t196 == (decide (t183 ≤ t194))))))) else ((bound_Enough.f kj37 a2 t194 a1).bind fun t197 => (if t197 = true then ((bound_Enough.f kj37 a2 (wrap64 (t194 + 1)) a1).bind fun t198 => (if t198 = true then (some false) else ((bound_Enough.f kj37 a2 t183 a1).bind fun t199 => (some (t199 == (decide (t183 ≤ t194))))))) else (some false)))) else (some false)) else (some false)) = some r := H
              have A48 := Aside0.mk A480
              clear A480
              by_cases c49 : t182 = true
              · subst c49
                have H1 : (if t194 ≥ (-1) then (if t194 < 0 then ((bound_Enough.f kj37 a2 (wrap64 (t194 + 1)) a1).bind fun t195 => (if t195 = true then (some false) else ((bound_Enough.f kj37 a2 t183 a1).bind fun t196 => (some (t196 == (decide (t183 ≤ t194))))))) else ((bound_Enough.f kj37 a2 t194 a1).bind fun t197 => (if t197 = true then ((bound_Enough.f kj37 a2 (wrap64 (t194 + 1)) a1).bind fun t198 => (if t198 = true then (some false) else ((bound_Enough.f kj37 a2 t183 a1).bind fun t199 => (some (t199 == (decide (t183 ≤ t194))))))) else (some false)))) else (some false)) = some r := by rw [if_pos rfl] at H; exact H
                clear H
                have H := H1
                clear H1
                by_cases c50 : t194 ≥ (-1)
                · rw [if_pos c50] at H
                  have c50b0 : decide ((-1) ≤ t194) = true := decide_eq_true c50
                  clear c50
                  by_cases c51 : t194 < 0
                  · rw [if_pos c51] at H
                    have c51b0 : decide (t194 < 0) = true := decide_eq_true c51
                    clear c51
                    replace H := Option.bind_eq_some_iff.mp H
                    obtain ⟨t195, A520, H⟩ := H
                    replace H : (if t195 = true then (some false) else ((bound_Enough.f kj37 a2 t183 a1).bind fun t196 => (some (t196 == (decide (t183 ≤ t194)))))) = some r := H
                    have A52 := Aside0.mk A520
                    clear A520
                    by_cases c53 : t195 = true
                    · subst c53
                      have H1 : (some false) = some r := by rw [if_pos rfl] at H; exact H
                      clear H
                      have H := H1
                      clear H1
                      obtain rfl := Option.some.inj H
                      go_wp2_with (first | ((with_reducible refine gate_callee (f := 17) rfl ?_); refine goesL_ (some 99) rfl rfl Try.func17 (by kernel_rfl) rfl #[.int .i64 a2, .int .i64 a1] rfl (by (try simp only [List.map_toArray, List.map_cons, List.map_nil]); first | done | rfl | (simp only [List.length_drop, List.length_take]; rfl)) ?_; (with_reducible refine (bound_Most.calls kj37 a2 a1 t194 _ A48.out).mono ?_); rintro e w54 ⟨rfl, hb⟩; refine ⟨_, rfl, ?_⟩; have n0_ := Aside0.mk (below_step (by repeat (first | (with_reducible first | exact HB.out | apply below_alloc | apply pw_below_drewN | apply below_drew1) | exact HB.out)) hb); clear HB; have HB := n0_; clear n0_; (try clear hb); (try clear hb2); (try clear hk); (try clear hi)) | (go_at_call 15; (with_reducible refine (bound_Enough.calls kj37 a2 (wrap64 (t194 + 1)) a1 true _ A52.out).mono ?_); rintro e w55 ⟨rfl, hb⟩; have n0_ := Aside0.mk (below_step (by repeat (first | (with_reducible first | exact HB.out | apply below_alloc | apply pw_below_drewN | apply below_drew1) | exact HB.out)) hb); clear HB; have HB := n0_; clear n0_; (try clear hb); (try clear hb2); (try clear hk); (try clear hi)))
                      go_ret
                      exact ⟨by first | rfl | (simp [errW_none, errW_some] <;> rfl) | (simp [*, errW_none, errW_some] <;> rfl), by repeat (first | (with_reducible first | exact HB.out | apply below_alloc | apply pw_below_drewN | apply below_drew1) | exact HB.out)⟩
                    · replace c53 := Bool.eq_false_iff.mpr c53
                      subst c53
                      have H1 : ((bound_Enough.f kj37 a2 t183 a1).bind fun t196 => (some (t196 == (decide (t183 ≤ t194))))) = some r := by rw [if_neg (show ¬ (false = true) by decide)] at H; exact H
                      clear H
                      have H := H1
                      clear H1
                      replace H := Option.bind_eq_some_iff.mp H
                      obtain ⟨t196, A560, H⟩ := H
                      replace H : (some (t196 == (decide (t183 ≤ t194)))) = some r := H
                      have A56 := Aside0.mk A560
                      clear A560
                      obtain rfl := Option.some.inj H
                      go_wp2_with (first | ((with_reducible refine gate_callee (f := 17) rfl ?_); refine goesL_ (some 99) rfl rfl Try.func17 (by kernel_rfl) rfl #[.int .i64 a2, .int .i64 a1] rfl (by (try simp only [List.map_toArray, List.map_cons, List.map_nil]); first | done | rfl | (simp only [List.length_drop, List.length_take]; rfl)) ?_; (with_reducible refine (bound_Most.calls kj37 a2 a1 t194 _ A48.out).mono ?_); rintro e w57 ⟨rfl, hb⟩; refine ⟨_, rfl, ?_⟩; have n0_ := Aside0.mk (below_step (by repeat (first | (with_reducible first | exact HB.out | apply below_alloc | apply pw_below_drewN | apply below_drew1) | exact HB.out)) hb); clear HB; have HB := n0_; clear n0_; (try clear hb); (try clear hb2); (try clear hk); (try clear hi)) | (go_at_call 15; (with_reducible refine (bound_Enough.calls kj37 a2 (wrap64 (t194 + 1)) a1 false _ A52.out).mono ?_); rintro e w58 ⟨rfl, hb⟩; have n0_ := Aside0.mk (below_step (by repeat (first | (with_reducible first | exact HB.out | apply below_alloc | apply pw_below_drewN | apply below_drew1) | exact HB.out)) hb); clear HB; have HB := n0_; clear n0_; (try clear hb); (try clear hb2); (try clear hk); (try clear hi)) | (go_at_call 15; (with_reducible refine (bound_Enough.calls kj37 a2 t183 a1 t196 _ A56.out).mono ?_); rintro e w59 ⟨rfl, hb⟩; have n0_ := Aside0.mk (below_step (by repeat (first | (with_reducible first | exact HB.out | apply below_alloc | apply pw_below_drewN | apply below_drew1) | exact HB.out)) hb); clear HB; have HB := n0_; clear n0_; (try clear hb); (try clear hb2); (try clear hk); (try clear hi)))
                      go_ret
                      exact ⟨by first | rfl | (simp [errW_none, errW_some] <;> rfl) | (simp [*, errW_none, errW_some] <;> rfl), by repeat (first | (with_reducible first | exact HB.out | apply below_alloc | apply pw_below_drewN | apply below_drew1) | exact HB.out)⟩
                  · rw [if_neg c51] at H
                    have c51b0 : decide (t194 < 0) = false := decide_eq_false c51
                    clear c51
                    replace H := Option.bind_eq_some_iff.mp H
                    obtain ⟨t197, A600, H⟩ := H
                    replace H : (if t197 = true then ((bound_Enough.f kj37 a2 (wrap64 (t194 + 1)) a1).bind fun t198 => (if t198 = true then (some false) else ((bound_Enough.f kj37 a2 t183 a1).bind fun t199 => (some (t199 == (decide (t183 ≤ t194))))))) else (some false)) = some r := H
                    have A60 := Aside0.mk A600
                    clear A600
                    by_cases c61 : t197 = true
                    · subst c61
                      have H1 : ((bound_Enough.f kj37 a2 (wrap64 (t194 + 1)) a1).bind fun t198 => (if t198 = true then (some false) else ((bound_Enough.f kj37 a2 t183 a1).bind fun t199 => (some (t199 == (decide (t183 ≤ t194))))))) = some r := by rw [if_pos rfl] at H; exact H
                      clear H
                      have H := H1
                      clear H1
                      replace H := Option.bind_eq_some_iff.mp H
                      obtain ⟨t198, A620, H⟩ := H
                      replace H : (if t198 = true then (some false) else ((bound_Enough.f kj37 a2 t183 a1).bind fun t199 => (some (t199 == (decide (t183 ≤ t194)))))) = some r := H
                      have A62 := Aside0.mk A620
                      clear A620
                      by_cases c63 : t198 = true
                      · subst c63
                        have H1 : (some false) = some r := by rw [if_pos rfl] at H; exact H
                        clear H
                        have H := H1
                        clear H1
                        obtain rfl := Option.some.inj H
                        go_wp2_with (first | ((with_reducible refine gate_callee (f := 17) rfl ?_); refine goesL_ (some 99) rfl rfl Try.func17 (by kernel_rfl) rfl #[.int .i64 a2, .int .i64 a1] rfl (by (try simp only [List.map_toArray, List.map_cons, List.map_nil]); first | done | rfl | (simp only [List.length_drop, List.length_take]; rfl)) ?_; (with_reducible refine (bound_Most.calls kj37 a2 a1 t194 _ A48.out).mono ?_); rintro e w64 ⟨rfl, hb⟩; refine ⟨_, rfl, ?_⟩; have n0_ := Aside0.mk (below_step (by repeat (first | (with_reducible first | exact HB.out | apply below_alloc | apply pw_below_drewN | apply below_drew1) | exact HB.out)) hb); clear HB; have HB := n0_; clear n0_; (try clear hb); (try clear hb2); (try clear hk); (try clear hi)) | (go_at_call 15; (with_reducible refine (bound_Enough.calls kj37 a2 t194 a1 true _ A60.out).mono ?_); rintro e w65 ⟨rfl, hb⟩; have n0_ := Aside0.mk (below_step (by repeat (first | (with_reducible first | exact HB.out | apply below_alloc | apply pw_below_drewN | apply below_drew1) | exact HB.out)) hb); clear HB; have HB := n0_; clear n0_; (try clear hb); (try clear hb2); (try clear hk); (try clear hi)) | (go_at_call 15; (with_reducible refine (bound_Enough.calls kj37 a2 (wrap64 (t194 + 1)) a1 true _ A62.out).mono ?_); rintro e w66 ⟨rfl, hb⟩; have n0_ := Aside0.mk (below_step (by repeat (first | (with_reducible first | exact HB.out | apply below_alloc | apply pw_below_drewN | apply below_drew1) | exact HB.out)) hb); clear HB; have HB := n0_; clear n0_; (try clear hb); (try clear hb2); (try clear hk); (try clear hi)))
                        go_ret
                        exact ⟨by first | rfl | (simp [errW_none, errW_some] <;> rfl) | (simp [*, errW_none, errW_some] <;> rfl), by repeat (first | (with_reducible first | exact HB.out | apply below_alloc | apply pw_below_drewN | apply below_drew1) | exact HB.out)⟩
                      · replace c63 := Bool.eq_false_iff.mpr c63
                        subst c63
                        have H1 : ((bound_Enough.f kj37 a2 t183 a1).bind fun t199 => (some (t199 == (decide (t183 ≤ t194))))) = some r := by rw [if_neg (show ¬ (false = true) by decide)] at H; exact H
                        clear H
                        have H := H1
                        clear H1
                        replace H := Option.bind_eq_some_iff.mp H
                        obtain ⟨t199, A670, H⟩ := H
                        replace H : (some (t199 == (decide (t183 ≤ t194)))) = some r := H
                        have A67 := Aside0.mk A670
                        clear A670
                        obtain rfl := Option.some.inj H
                        go_wp2_with (first | ((with_reducible refine gate_callee (f := 17) rfl ?_); refine goesL_ (some 99) rfl rfl Try.func17 (by kernel_rfl) rfl #[.int .i64 a2, .int .i64 a1] rfl (by (try simp only [List.map_toArray, List.map_cons, List.map_nil]); first | done | rfl | (simp only [List.length_drop, List.length_take]; rfl)) ?_; (with_reducible refine (bound_Most.calls kj37 a2 a1 t194 _ A48.out).mono ?_); rintro e w68 ⟨rfl, hb⟩; refine ⟨_, rfl, ?_⟩; have n0_ := Aside0.mk (below_step (by repeat (first | (with_reducible first | exact HB.out | apply below_alloc | apply pw_below_drewN | apply below_drew1) | exact HB.out)) hb); clear HB; have HB := n0_; clear n0_; (try clear hb); (try clear hb2); (try clear hk); (try clear hi)) | (go_at_call 15; (with_reducible refine (bound_Enough.calls kj37 a2 t194 a1 true _ A60.out).mono ?_); rintro e w69 ⟨rfl, hb⟩; have n0_ := Aside0.mk (below_step (by repeat (first | (with_reducible first | exact HB.out | apply below_alloc | apply pw_below_drewN | apply below_drew1) | exact HB.out)) hb); clear HB; have HB := n0_; clear n0_; (try clear hb); (try clear hb2); (try clear hk); (try clear hi)) | (go_at_call 15; (with_reducible refine (bound_Enough.calls kj37 a2 (wrap64 (t194 + 1)) a1 false _ A62.out).mono ?_); rintro e w70 ⟨rfl, hb⟩; have n0_ := Aside0.mk (below_step (by repeat (first | (with_reducible first | exact HB.out | apply below_alloc | apply pw_below_drewN | apply below_drew1) | exact HB.out)) hb); clear HB; have HB := n0_; clear n0_; (try clear hb); (try clear hb2); (try clear hk); (try clear hi)) | (go_at_call 15; (with_reducible refine (bound_Enough.calls kj37 a2 t183 a1 t199 _ A67.out).mono ?_); rintro e w71 ⟨rfl, hb⟩; have n0_ := Aside0.mk (below_step (by repeat (first | (with_reducible first | exact HB.out | apply below_alloc | apply pw_below_drewN | apply below_drew1) | exact HB.out)) hb); clear HB; have HB := n0_; clear n0_; (try clear hb); (try clear hb2); (try clear hk); (try clear hi)))
                        go_ret
                        exact ⟨by first | rfl | (simp [errW_none, errW_some] <;> rfl) | (simp [*, errW_none, errW_some] <;> rfl), by repeat (first | (with_reducible first | exact HB.out | apply below_alloc | apply pw_below_drewN | apply below_drew1) | exact HB.out)⟩
                    · replace c61 := Bool.eq_false_iff.mpr c61
                      subst c61
                      have H1 : (some false) = some r := by rw [if_neg (show ¬ (false = true) by decide)] at H; exact H
                      clear H
                      have H := H1
                      clear H1
                      obtain rfl := Option.some.inj H
                      go_wp2_with (first | ((with_reducible refine gate_callee (f := 17) rfl ?_); refine goesL_ (some 99) rfl rfl Try.func17 (by kernel_rfl) rfl #[.int .i64 a2, .int .i64 a1] rfl (by (try simp only [List.map_toArray, List.map_cons, List.map_nil]); first | done | rfl | (simp only [List.length_drop, List.length_take]; rfl)) ?_; (with_reducible refine (bound_Most.calls kj37 a2 a1 t194 _ A48.out).mono ?_); rintro e w72 ⟨rfl, hb⟩; refine ⟨_, rfl, ?_⟩; have n0_ := Aside0.mk (below_step (by repeat (first | (with_reducible first | exact HB.out | apply below_alloc | apply pw_below_drewN | apply below_drew1) | exact HB.out)) hb); clear HB; have HB := n0_; clear n0_; (try clear hb); (try clear hb2); (try clear hk); (try clear hi)) | (go_at_call 15; (with_reducible refine (bound_Enough.calls kj37 a2 t194 a1 false _ A60.out).mono ?_); rintro e w73 ⟨rfl, hb⟩; have n0_ := Aside0.mk (below_step (by repeat (first | (with_reducible first | exact HB.out | apply below_alloc | apply pw_below_drewN | apply below_drew1) | exact HB.out)) hb); clear HB; have HB := n0_; clear n0_; (try clear hb); (try clear hb2); (try clear hk); (try clear hi)))
                      go_ret
                      exact ⟨by first | rfl | (simp [errW_none, errW_some] <;> rfl) | (simp [*, errW_none, errW_some] <;> rfl), by repeat (first | (with_reducible first | exact HB.out | apply below_alloc | apply pw_below_drewN | apply below_drew1) | exact HB.out)⟩
                · rw [if_neg c50] at H
                  have c50b0 : decide ((-1) ≤ t194) = false := decide_eq_false c50
                  clear c50
                  obtain rfl := Option.some.inj H
                  go_wp2_with (first | ((with_reducible refine gate_callee (f := 17) rfl ?_); refine goesL_ (some 99) rfl rfl Try.func17 (by kernel_rfl) rfl #[.int .i64 a2, .int .i64 a1] rfl (by (try simp only [List.map_toArray, List.map_cons, List.map_nil]); first | done | rfl | (simp only [List.length_drop, List.length_take]; rfl)) ?_; (with_reducible refine (bound_Most.calls kj37 a2 a1 t194 _ A48.out).mono ?_); rintro e w74 ⟨rfl, hb⟩; refine ⟨_, rfl, ?_⟩; have n0_ := Aside0.mk (below_step (by repeat (first | (with_reducible first | exact HB.out | apply below_alloc | apply pw_below_drewN | apply below_drew1) | exact HB.out)) hb); clear HB; have HB := n0_; clear n0_; (try clear hb); (try clear hb2); (try clear hk); (try clear hi)))
                  go_ret
                  exact ⟨by first | rfl | (simp [errW_none, errW_some] <;> rfl) | (simp [*, errW_none, errW_some] <;> rfl), by repeat (first | (with_reducible first | exact HB.out | apply below_alloc | apply pw_below_drewN | apply below_drew1) | exact HB.out)⟩
              · replace c49 := Bool.eq_false_iff.mpr c49
                subst c49
                have H1 : (some false) = some r := by rw [if_neg (show ¬ (false = true) by decide)] at H; exact H
                clear H
                have H := H1
                clear H1
                obtain rfl := Option.some.inj H
                go_wp2_with (first | ((with_reducible refine gate_callee (f := 17) rfl ?_); refine goesL_ (some 99) rfl rfl Try.func17 (by kernel_rfl) rfl #[.int .i64 a2, .int .i64 a1] rfl (by (try simp only [List.map_toArray, List.map_cons, List.map_nil]); first | done | rfl | (simp only [List.length_drop, List.length_take]; rfl)) ?_; (with_reducible refine (bound_Most.calls kj37 a2 a1 t194 _ A48.out).mono ?_); rintro e w75 ⟨rfl, hb⟩; refine ⟨_, rfl, ?_⟩; have n0_ := Aside0.mk (below_step (by repeat (first | (with_reducible first | exact HB.out | apply below_alloc | apply pw_below_drewN | apply below_drew1) | exact HB.out)) hb); clear HB; have HB := n0_; clear n0_; (try clear hb); (try clear hb2); (try clear hk); (try clear hi)))
                go_ret
                exact ⟨by first | rfl | (simp [errW_none, errW_some] <;> rfl) | (simp [*, errW_none, errW_some] <;> rfl), by repeat (first | (with_reducible first | exact HB.out | apply below_alloc | apply pw_below_drewN | apply below_drew1) | exact HB.out)⟩

/-- THE ONE PURE STATEMENT of armisticelaw26_BoundRises: yours. -/
def armisticelaw26_BoundRises.Pure : Prop := ∀ (a0 : Int) (a1 : Int) (a2 : Int), (Lit.int .i64 a0).wf = true → (Lit.int .i64 a1).wf = true → (Lit.int .i64 a2).wf = true → ∃ k, armisticelaw26_BoundRises.f k a0 a1 a2 = some true
theorem armisticelaw26_BoundRises.walk (P : armisticelaw26_BoundRises.Pure) (a0 : Int) (a1 : Int) (a2 : Int) (w : World) (w0 : (Lit.int .i64 a0).wf = true) (w1 : (Lit.int .i64 a1).wf = true) (w2 : (Lit.int .i64 a2).wf = true) :
    Calls Try.prog 7 #[.int .i64 a0, .int .i64 a1, .int .i64 a2] w fun e w' => e = .returned (.bool true) ∧ Below w.heap.size w w' := by
  obtain ⟨k, h⟩ := P a0 a1 a2 w0 w1 w2
  refine (armisticelaw26_BoundRises.calls k a0 a1 a2 true w h).mono ?_
  rintro e w' ⟨rfl, hd⟩
  exact ⟨rfl, hd⟩

end Go.Proofs.Ytfpllpgfdanhnaa.P
