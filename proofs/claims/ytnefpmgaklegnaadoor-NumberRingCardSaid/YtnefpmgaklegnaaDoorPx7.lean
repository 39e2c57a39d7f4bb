/- Laid by a program of this session (wip/tools/xprint.py) after the kit's printer: functions of the translation as plain Lean functions, each with the proof that its call comes to just that. -/
import Derived.Test.YtnefpmgaklegnaaDoorPx0
import Derived.Test.YtnefpmgaklegnaaDoorPx2
import Derived.Test.YtnefpmgaklegnaaDoorPx5
import Derived.Test.YtnefpmgaklegnaaDoorPx6
namespace Go.Proofs.YtnefpmgaklegnaaDoor.P
open Go.RowKit Go.Proofs.YtnefpmgaklegnaaDoorW.PrintWords Go.Proofs.YtnefpmgaklegnaaDoorW.PrintLast Go.Proofs.YtnefpmgaklegnaaDoorW.PrintMore
attribute [local go_sem] max2_int min2_int max_two min_two max_three min_three max_four min_four   -- for this text's walks alone
set_option linter.unusedVariables false
set_option linter.unusedSimpArgs false

/-! ### armisticelaw01_NumberRing: function 7 -/
mutual
def armisticelaw01_NumberRing.j0 : Nat → Int → Int → Bool → Int → Bool → Option (Bool)
  | 0, _, _, _, _, _ => none
  | k + 1, x0, x1, x7, x8, x37 => if x37 = true then (some false) else (if x1 > (-9223372036854775808) then ((number_Wrap.f x8 (wrap64 (-x1))).bind fun t212 => (armisticelaw01_NumberRing.j1 k x0 x1 x7 x8 (t212 != x0))) else (armisticelaw01_NumberRing.j1 k x0 x1 x7 x8 false))
def armisticelaw01_NumberRing.j1 : Nat → Int → Int → Bool → Int → Bool → Option (Bool)
  | 0, _, _, _, _, _ => none
  | k + 1, x0, x1, x7, x8, x47 => if x47 = true then (some false) else ((number_Sum.f x0 x1).bind fun bt213 => (if x1 ≥ 0 then (if x8 ≥ x0 then (if (true != (bt213.2 == 0)) = true then (some false) else (if x7 = true then (if bt213.2 = 0 then (some (bt213.1 == x8)) else (if bt213.2 = 3 then (if bt213.1 = 0 then (some true) else (some false)) else (some false))) else (some false))) else (if x1 < 0 then (if ((decide (x8 < x0)) != (bt213.2 == 0)) = true then (some false) else (if x7 = true then (if bt213.2 = 0 then (some (bt213.1 == x8)) else (if bt213.2 = 3 then (if bt213.1 = 0 then (some true) else (some false)) else (some false))) else (some false))) else (if (false != (bt213.2 == 0)) = true then (some false) else (if x7 = true then (if bt213.2 = 0 then (some (bt213.1 == x8)) else (if bt213.2 = 3 then (if bt213.1 = 0 then (some true) else (some false)) else (some false))) else (some false))))) else (if x1 < 0 then (if ((decide (x8 < x0)) != (bt213.2 == 0)) = true then (some false) else (if x7 = true then (if bt213.2 = 0 then (some (bt213.1 == x8)) else (if bt213.2 = 3 then (if bt213.1 = 0 then (some true) else (some false)) else (some false))) else (some false))) else (if (false != (bt213.2 == 0)) = true then (some false) else (if x7 = true then (if bt213.2 = 0 then (some (bt213.1 == x8)) else (if bt213.2 = 3 then (if bt213.1 = 0 then (some true) else (some false)) else (some false))) else (some false))))))
end
def armisticelaw01_NumberRing.f (k : Nat) (a0 : Int) (a1 : Int) (a2 : Int) : Option (Bool) := (armisticelaw01_NumberKnown.f k).bind fun t205 => ((number_Wrap.f a0 a1).bind fun t206 => ((number_Wrap.f a1 a0).bind fun t207 => (if t206 = t207 then ((number_Wrap.f t206 a2).bind fun t208 => ((number_Wrap.f a1 a2).bind fun t209 => ((number_Wrap.f a0 t209).bind fun t210 => (if t208 = t210 then ((number_Wrap.f a0 0).bind fun t211 => (armisticelaw01_NumberRing.j0 k a0 a1 t205 t206 (t211 != a0))) else (armisticelaw01_NumberRing.j0 k a0 a1 t205 t206 true))))) else (armisticelaw01_NumberRing.j0 k a0 a1 t205 t206 true))))
theorem armisticelaw01_NumberRing.mono_l : ∀ k, (∀ y0 y1 y2 y3 y4, LeO (armisticelaw01_NumberRing.j0 k y0 y1 y2 y3 y4) (armisticelaw01_NumberRing.j0 (k + 1) y0 y1 y2 y3 y4)) ∧ (∀ y0 y1 y2 y3 y4, LeO (armisticelaw01_NumberRing.j1 k y0 y1 y2 y3 y4) (armisticelaw01_NumberRing.j1 (k + 1) y0 y1 y2 y3 y4))
  | 0 => ⟨fun _ _ _ _ _ r h => by simp [armisticelaw01_NumberRing.j0] at h, fun _ _ _ _ _ r h => by simp [armisticelaw01_NumberRing.j1] at h⟩
  | k + 1 => by
    obtain ⟨ih0, ih1⟩ := armisticelaw01_NumberRing.mono_l k
    refine ⟨?_, ?_⟩
    · intro y0 y1 y2 y3 y4
      unfold armisticelaw01_NumberRing.j0
      repeat' first
      | (with_reducible exact ih0 _ _ _ _ _)
      | (with_reducible exact ih1 _ _ _ _ _)
      | (with_reducible exact armisticelaw01_NumberKnown.mono _)
      | (with_reducible exact LeO.refl _)
      | (with_reducible exact LeO.none _)
      | (with_reducible refine LeO.ite ?_ ?_)
      | (with_reducible refine LeO.bind ?_ (fun _ => ?_))
      | exact ih0 _ _ _ _ _
      | exact ih1 _ _ _ _ _
      | exact armisticelaw01_NumberKnown.mono _
      | exact LeO.none _
      | refine LeO.ite ?_ ?_
      | refine LeO.bind ?_ (fun _ => ?_)
    · intro y0 y1 y2 y3 y4
      unfold armisticelaw01_NumberRing.j1
      repeat' first
      | (with_reducible exact ih0 _ _ _ _ _)
      | (with_reducible exact ih1 _ _ _ _ _)
      | (with_reducible exact armisticelaw01_NumberKnown.mono _)
      | (with_reducible exact LeO.refl _)
      | (with_reducible exact LeO.none _)
      | (with_reducible refine LeO.ite ?_ ?_)
      | (with_reducible refine LeO.bind ?_ (fun _ => ?_))
      | exact ih0 _ _ _ _ _
      | exact ih1 _ _ _ _ _
      | exact armisticelaw01_NumberKnown.mono _
      | exact LeO.none _
      | refine LeO.ite ?_ ?_
      | refine LeO.bind ?_ (fun _ => ?_)
theorem armisticelaw01_NumberRing.mono : ∀ a0 a1 a2 k, LeO (armisticelaw01_NumberRing.f k a0 a1 a2) (armisticelaw01_NumberRing.f (k + 1) a0 a1 a2) := by
  intro a0 a1 a2 k
  obtain ⟨ih0, ih1⟩ := armisticelaw01_NumberRing.mono_l k
  unfold armisticelaw01_NumberRing.f
  repeat' first
      | (with_reducible exact ih0 _ _ _ _ _)
      | (with_reducible exact ih1 _ _ _ _ _)
      | (with_reducible exact armisticelaw01_NumberKnown.mono _)
      | (with_reducible exact LeO.refl _)
      | (with_reducible exact LeO.none _)
      | (with_reducible refine LeO.ite ?_ ?_)
      | (with_reducible refine LeO.bind ?_ (fun _ => ?_))
      | exact ih0 _ _ _ _ _
      | exact ih1 _ _ _ _ _
      | exact armisticelaw01_NumberKnown.mono _
      | exact LeO.none _
      | refine LeO.ite ?_ ?_
      | refine LeO.bind ?_ (fun _ => ?_)
set_option maxHeartbeats 8000000 in
set_option maxRecDepth 100000 in
theorem armisticelaw01_NumberRing.calls (k : Nat) (a0 : Int) (a1 : Int) (a2 : Int) (r : Bool) (w : World) (hG : GOk w) (h : armisticelaw01_NumberRing.f k a0 a1 a2 = some r) :
    Calls Tryd.prog 7 #[.int .i64 a0, .int .i64 a1, .int .i64 a2] w fun e w' => e = .returned (.bool r) ∧ Below w.heap.size w w' := by
  have HG := Aside0.mk hG
  clear hG
  have HB := Aside0.mk (Below.refl w.heap.size w)
  have H : ((armisticelaw01_NumberKnown.f k).bind fun t205 => ((number_Wrap.f a0 a1).bind fun t206 => ((number_Wrap.f a1 a0).bind fun t207 => (if t206 = t207 then ((number_Wrap.f t206 a2).bind fun t208 => ((number_Wrap.f a1 a2).bind fun t209 => ((number_Wrap.f a0 t209).bind fun t210 => (if t208 = t210 then ((number_Wrap.f a0 0).bind fun t211 => (armisticelaw01_NumberRing.j0 k a0 a1 t205 t206 (t211 != a0))) else (armisticelaw01_NumberRing.j0 k a0 a1 t205 t206 true))))) else (armisticelaw01_NumberRing.j0 k a0 a1 t205 t206 true))))) = some r := h
  clear h
  replace H := Option.bind_eq_some_iff.mp H
  obtain ⟨t205, A40, H⟩ := H
  replace H : ((number_Wrap.f a0 a1).bind fun t206 => ((number_Wrap.f a1 a0).bind fun t207 => (if t206 = t207 then ((number_Wrap.f t206 a2).bind fun t208 => ((number_Wrap.f a1 a2).bind fun t209 => ((number_Wrap.f a0 t209).bind fun t210 => (if t208 = t210 then ((number_Wrap.f a0 0).bind fun t211 => (armisticelaw01_NumberRing.j0 k a0 a1 t205 t206 (t211 != a0))) else (armisticelaw01_NumberRing.j0 k a0 a1 t205 t206 true))))) else (armisticelaw01_NumberRing.j0 k a0 a1 t205 t206 true)))) = some r := H
  have A4 := Aside0.mk A40
  clear A40
  replace H := Option.bind_eq_some_iff.mp H
  obtain ⟨t206, A50, H⟩ := H
  replace H : ((number_Wrap.f a1 a0).bind fun t207 => (if t206 = t207 then ((number_Wrap.f t206 a2).bind fun t208 => ((number_Wrap.f a1 a2).bind fun t209 => ((number_Wrap.f a0 t209).bind fun t210 => (if t208 = t210 then ((number_Wrap.f a0 0).bind fun t211 => (armisticelaw01_NumberRing.j0 k a0 a1 t205 t206 (t211 != a0))) else (armisticelaw01_NumberRing.j0 k a0 a1 t205 t206 true))))) else (armisticelaw01_NumberRing.j0 k a0 a1 t205 t206 true))) = some r := H
  have A5 := Aside0.mk A50
  clear A50
  have HC6 := Aside0.mk H
  clear H
  go_enter Tryd.func7, Tryd.ntmps7
  go_upto_region 3 with (first | ((with_reducible refine gate_callee (f := 5) rfl ?_); refine goesL_ (some 12) rfl rfl Tryd.func5 (by kernel_rfl) rfl #[] rfl (by (try simp only [List.map_toArray, List.map_cons, List.map_nil]); first | done | rfl | (simp only [List.length_drop, List.length_take]; rfl)) ?_; (with_reducible refine (armisticelaw01_NumberKnown.calls k  t205 _ ?side1 A4.out).mono ?_); (case side1 => exact GOk.below HG.out (by repeat (first | (with_reducible first | exact HB.out | apply below_alloc | apply pw_below_drewN | apply below_drew1) | exact HB.out))); rintro e w7 ⟨rfl, hb⟩; refine ⟨_, rfl, ?_⟩; have n0_ := Aside0.mk (below_step (by repeat (first | (with_reducible first | exact HB.out | apply below_alloc | apply pw_below_drewN | apply below_drew1) | exact HB.out)) hb); clear HB; have HB := n0_; clear n0_; (try clear hb); (try clear hb2); (try clear hk); (try clear hi)) | ((with_reducible refine gate_callee (f := 19) rfl ?_); refine goesL_ (some 15) rfl rfl Tryd.func19 (by kernel_rfl) rfl #[.int .i64 a0, .int .i64 a1] rfl (by (try simp only [List.map_toArray, List.map_cons, List.map_nil]); first | done | rfl | (simp only [List.length_drop, List.length_take]; rfl)) ?_; (with_reducible refine (number_Wrap.calls a0 a1 t206 _ A5.out).mono ?_); rintro e w' ⟨rfl, ⟨nd, rfl⟩⟩; refine ⟨_, rfl, ?_⟩))
  (try simp only [Act.put, List.setIfInBounds_toArray, List.set_cons_zero, List.set_cons_succ])
  go_cut [37] (fun v37 wc => ∃ (kq : Nat) (x37_5 : Bool), v37 = .bool x37_5 ∧ Aside0 (armisticelaw01_NumberRing.j0 kq a0 a1 t205 t206 x37_5 = some r) ∧ Aside0 (kq ≤ k) ∧ Aside0 (Below w.heap.size w wc))
  case first =>
    have H := HC6.out
    clear HC6
    replace H := Option.bind_eq_some_iff.mp H
    obtain ⟨t207, A80, H⟩ := H
    replace H : (if t206 = t207 then ((number_Wrap.f t206 a2).bind fun t208 => ((number_Wrap.f a1 a2).bind fun t209 => ((number_Wrap.f a0 t209).bind fun t210 => (if t208 = t210 then ((number_Wrap.f a0 0).bind fun t211 => (armisticelaw01_NumberRing.j0 k a0 a1 t205 t206 (t211 != a0))) else (armisticelaw01_NumberRing.j0 k a0 a1 t205 t206 true))))) else (armisticelaw01_NumberRing.j0 k a0 a1 t205 t206 true)) = some r := H
    have A8 := Aside0.mk A80
    clear A80
    by_cases c9 : t206 = t207
    · rw [if_pos c9] at H
      have c9b0 : (t206 == t207) = true := beq_iff_eq.mpr c9
      have c9b1 : (t206 != t207) = false := bne_eq_false_iff_eq.mpr c9
      clear c9
      (first | rw [c9b0] | (simp only [i64_w, i32_w]; rw [c9b0]) | skip)
      replace H := Option.bind_eq_some_iff.mp H
      obtain ⟨t208, A100, H⟩ := H
      replace H : ((number_Wrap.f a1 a2).bind fun t209 => ((number_Wrap.f a0 t209).bind fun t210 => (if t208 = t210 then ((number_Wrap.f a0 0).bind fun t211 => (armisticelaw01_NumberRing.j0 k a0 a1 t205 t206 (t211 != a0))) else (armisticelaw01_NumberRing.j0 k a0 a1 t205 t206 true)))) = some r := H
      have A10 := Aside0.mk A100
      clear A100
      replace H := Option.bind_eq_some_iff.mp H
      obtain ⟨t209, A110, H⟩ := H
      replace H : ((number_Wrap.f a0 t209).bind fun t210 => (if t208 = t210 then ((number_Wrap.f a0 0).bind fun t211 => (armisticelaw01_NumberRing.j0 k a0 a1 t205 t206 (t211 != a0))) else (armisticelaw01_NumberRing.j0 k a0 a1 t205 t206 true))) = some r := H
      have A11 := Aside0.mk A110
      clear A110
      replace H := Option.bind_eq_some_iff.mp H
      obtain ⟨t210, A120, H⟩ := H
      replace H : (if t208 = t210 then ((number_Wrap.f a0 0).bind fun t211 => (armisticelaw01_NumberRing.j0 k a0 a1 t205 t206 (t211 != a0))) else (armisticelaw01_NumberRing.j0 k a0 a1 t205 t206 true)) = some r := H
      have A12 := Aside0.mk A120
      clear A120
      by_cases c13 : t208 = t210
      · rw [if_pos c13] at H
        have c13b0 : (t208 == t210) = true := beq_iff_eq.mpr c13
        have c13b1 : (t208 != t210) = false := bne_eq_false_iff_eq.mpr c13
        clear c13
        replace H := Option.bind_eq_some_iff.mp H
        obtain ⟨t211, A140, H⟩ := H
        replace H : (armisticelaw01_NumberRing.j0 k a0 a1 t205 t206 (t211 != a0)) = some r := H
        have A14 := Aside0.mk A140
        clear A140
        have H' := Aside0.mk H
        clear H
        go_wp2_with (first | ((with_reducible refine gate_callee (f := 19) rfl ?_); refine goesL_ (some 19) rfl rfl Tryd.func19 (by kernel_rfl) rfl #[.int .i64 a1, .int .i64 a0] rfl (by (try simp only [List.map_toArray, List.map_cons, List.map_nil]); first | done | rfl | (simp only [List.length_drop, List.length_take]; rfl)) ?_; (with_reducible refine (number_Wrap.calls a1 a0 t207 _ A8.out).mono ?_); rintro e w' ⟨rfl, ⟨nd, rfl⟩⟩; refine ⟨_, rfl, ?_⟩) | (go_at_call 19; (with_reducible refine (number_Wrap.calls t206 a2 t208 _ A10.out).mono ?_); rintro e w' ⟨rfl, ⟨nd, rfl⟩⟩) | (go_at_call 19; (with_reducible refine (number_Wrap.calls a1 a2 t209 _ A11.out).mono ?_); rintro e w' ⟨rfl, ⟨nd, rfl⟩⟩) | (go_at_call 19; (with_reducible refine (number_Wrap.calls a0 t209 t210 _ A12.out).mono ?_); rintro e w' ⟨rfl, ⟨nd, rfl⟩⟩) | (go_at_call 19; (with_reducible refine (number_Wrap.calls a0 0 t211 _ A14.out).mono ?_); rintro e w' ⟨rfl, ⟨nd, rfl⟩⟩))
        go_meet
        case rel => exact ⟨_, ((t211 != a0)), (by first | rfl | (simp; done) | (simp [*]; done)), H', ⟨by first | omega | exact Nat.le_refl _⟩, ⟨by repeat (first | (with_reducible first | exact HB.out | apply below_alloc | apply pw_below_drewN | apply below_drew1) | exact HB.out)⟩⟩
      · rw [if_neg c13] at H
        have c13b0 : (t208 == t210) = false := beq_eq_false_iff_ne.mpr c13
        have c13b1 : (t208 != t210) = true := bne_iff_ne.mpr c13
        have H' := Aside0.mk H
        clear H
        go_wp2_with (first | ((with_reducible refine gate_callee (f := 19) rfl ?_); refine goesL_ (some 19) rfl rfl Tryd.func19 (by kernel_rfl) rfl #[.int .i64 a1, .int .i64 a0] rfl (by (try simp only [List.map_toArray, List.map_cons, List.map_nil]); first | done | rfl | (simp only [List.length_drop, List.length_take]; rfl)) ?_; (with_reducible refine (number_Wrap.calls a1 a0 t207 _ A8.out).mono ?_); rintro e w' ⟨rfl, ⟨nd, rfl⟩⟩; refine ⟨_, rfl, ?_⟩) | (go_at_call 19; (with_reducible refine (number_Wrap.calls t206 a2 t208 _ A10.out).mono ?_); rintro e w' ⟨rfl, ⟨nd, rfl⟩⟩) | (go_at_call 19; (with_reducible refine (number_Wrap.calls a1 a2 t209 _ A11.out).mono ?_); rintro e w' ⟨rfl, ⟨nd, rfl⟩⟩) | (go_at_call 19; (with_reducible refine (number_Wrap.calls a0 t209 t210 _ A12.out).mono ?_); rintro e w' ⟨rfl, ⟨nd, rfl⟩⟩))
        go_meet
        case rel => exact ⟨_, (true), (by first | rfl | (simp; done) | (simp [*]; done)), H', ⟨by first | omega | exact Nat.le_refl _⟩, ⟨by repeat (first | (with_reducible first | exact HB.out | apply below_alloc | apply pw_below_drewN | apply below_drew1) | exact HB.out)⟩⟩
    · rw [if_neg c9] at H
      have c9b0 : (t206 == t207) = false := beq_eq_false_iff_ne.mpr c9
      have c9b1 : (t206 != t207) = true := bne_iff_ne.mpr c9
      (first | rw [c9b0] | (simp only [i64_w, i32_w]; rw [c9b0]) | skip)
      have H' := Aside0.mk H
      clear H
      go_wp2_with (first | ((with_reducible refine gate_callee (f := 19) rfl ?_); refine goesL_ (some 19) rfl rfl Tryd.func19 (by kernel_rfl) rfl #[.int .i64 a1, .int .i64 a0] rfl (by (try simp only [List.map_toArray, List.map_cons, List.map_nil]); first | done | rfl | (simp only [List.length_drop, List.length_take]; rfl)) ?_; (with_reducible refine (number_Wrap.calls a1 a0 t207 _ A8.out).mono ?_); rintro e w' ⟨rfl, ⟨nd, rfl⟩⟩; refine ⟨_, rfl, ?_⟩))
      go_meet
      case rel => exact ⟨_, (true), (by first | rfl | (simp; done) | (simp [*]; done)), H', ⟨by first | omega | exact Nat.le_refl _⟩, ⟨by repeat (first | (with_reducible first | exact HB.out | apply below_alloc | apply pw_below_drewN | apply below_drew1) | exact HB.out)⟩⟩
  case rest =>
    clear HC6
    try clear c1
    try clear p2
    try clear c5
    try clear c7
    try clear c9
    try clear c9b0
    try clear c9b1
    try clear c13
    try clear c13b0
    try clear c13b1
    obtain ⟨kq, x37_5, rfl, HA, HJ5, HB⟩ := hcut
    cases kq with
    | zero => exact absurd HA.out (by simp [armisticelaw01_NumberRing.j0])
    | succ kj5 =>
      have H := HA.out
      clear HA
      simp only [armisticelaw01_NumberRing.j0] at H
      by_cases c15 : x37_5 = true
      · subst c15
        have H1 : (some false) = some r := by rw [if_pos rfl] at H; exact H
        clear H
        have H := H1
        clear H1
        obtain rfl := Option.some.inj H
        go_wp2
        all_goals (go_ret; exact ⟨by first | rfl | (simp [errW_none, errW_some] <;> rfl) | (simp [*, errW_none, errW_some] <;> rfl), by repeat (first | (with_reducible first | exact HB.out | apply below_alloc | apply pw_below_drewN | apply below_drew1) | exact HB.out)⟩)
      · replace c15 := Bool.eq_false_iff.mpr c15
        subst c15
        have H1 : (if a1 > (-9223372036854775808) then ((number_Wrap.f t206 (wrap64 (-a1))).bind fun t212 => (armisticelaw01_NumberRing.j1 kj5 a0 a1 t205 t206 (t212 != a0))) else (armisticelaw01_NumberRing.j1 kj5 a0 a1 t205 t206 false)) = some r := by rw [if_neg (show ¬ (false = true) by decide)] at H; exact H
        clear H
        have H := H1
        clear H1
        have HC16 := Aside0.mk H
        clear H
        go_upto_region 5 with (fail)
        go_cut [47] (fun v47 wc => ∃ (kq : Nat) (x47_15 : Bool), v47 = .bool x47_15 ∧ Aside0 (armisticelaw01_NumberRing.j1 kq a0 a1 t205 t206 x47_15 = some r) ∧ Aside0 (kq ≤ kj5) ∧ Aside0 (Below w.heap.size w wc))
        case first =>
          have H := HC16.out
          clear HC16
          by_cases c17 : a1 > (-9223372036854775808)
          · rw [if_pos c17] at H
            have c17b0 : decide ((-9223372036854775808) < a1) = true := decide_eq_true c17
            clear c17
            (first | rw [c17b0] | (simp only [i64_w, i32_w]; rw [c17b0]) | skip)
            replace H := Option.bind_eq_some_iff.mp H
            obtain ⟨t212, A180, H⟩ := H
            replace H : (armisticelaw01_NumberRing.j1 kj5 a0 a1 t205 t206 (t212 != a0)) = some r := H
            have A18 := Aside0.mk A180
            clear A180
            have H' := Aside0.mk H
            clear H
            go_wp2_with (first | (go_at_call 19; (with_reducible refine (number_Wrap.calls t206 (wrap64 (-a1)) t212 _ A18.out).mono ?_); rintro e w' ⟨rfl, ⟨nd, rfl⟩⟩))
            go_meet
            case rel => exact ⟨_, ((t212 != a0)), (by first | rfl | (simp; done) | (simp [*]; done)), H', ⟨by have := HJ5.out; first | omega | exact Nat.le_refl _⟩, ⟨by repeat (first | (with_reducible first | exact HB.out | apply below_alloc | apply pw_below_drewN | apply below_drew1) | exact HB.out)⟩⟩
          · rw [if_neg c17] at H
            have c17b0 : decide ((-9223372036854775808) < a1) = false := decide_eq_false c17
            clear c17
            (first | rw [c17b0] | (simp only [i64_w, i32_w]; rw [c17b0]) | skip)
            have H' := Aside0.mk H
            clear H
            go_wp2
            go_meet
            case rel => exact ⟨_, (false), (by first | rfl | (simp; done) | (simp [*]; done)), H', ⟨by have := HJ5.out; first | omega | exact Nat.le_refl _⟩, ⟨by repeat (first | (with_reducible first | exact HB.out | apply below_alloc | apply pw_below_drewN | apply below_drew1) | exact HB.out)⟩⟩
        case rest =>
          clear HC16
          try clear c1
          try clear p2
          try clear c5
          try clear p6
          try clear c7
          try clear c9
          try clear c9b0
          try clear c9b1
          try clear c13
          try clear c13b0
          try clear c13b1
          try clear c15
          try clear c17
          try clear c17b0
          try clear p2
          obtain ⟨kq, x47_15, rfl, HA, HJ15, HB⟩ := hcut
          cases kq with
          | zero => exact absurd HA.out (by simp [armisticelaw01_NumberRing.j1])
          | succ kj15 =>
            have H := HA.out
            clear HA
            simp only [armisticelaw01_NumberRing.j1] at H
            by_cases c19 : x47_15 = true
            · subst c19
              have H1 : (some false) = some r := by rw [if_pos rfl] at H; exact H
              clear H
              have H := H1
              clear H1
              obtain rfl := Option.some.inj H
              go_wp2
              all_goals (go_ret; exact ⟨by first | rfl | (simp [errW_none, errW_some] <;> rfl) | (simp [*, errW_none, errW_some] <;> rfl), by repeat (first | (with_reducible first | exact HB.out | apply below_alloc | apply pw_below_drewN | apply below_drew1) | exact HB.out)⟩)
            · replace c19 := Bool.eq_false_iff.mpr c19
              subst c19
              have H1 : ((number_Sum.f a0 a1).bind fun bt213 => (if a1 ≥ 0 then (if t206 ≥ a0 then (if (true != (bt213.2 == 0)) = true then (some false) else (if t205 = true then (if bt213.2 = 0 then (some (bt213.1 == t206)) else (if bt213.2 = 3 then (if bt213.1 = 0 then (some true) else (some false)) else (some false))) else (some false))) else (if a1 < 0 then (if ((decide (t206 < a0)) != (bt213.2 == 0)) = true then (some false) else (if t205 = true then (if bt213.2 = 0 then (some (bt213.1 == t206)) else (if bt213.2 = 3 then (if bt213.1 = 0 then (some true) else (some false)) else (some false))) else (some false))) else (if (false != (bt213.2 == 0)) = true then (some false) else (if t205 = true then (if bt213.2 = 0 then (some (bt213.1 == t206)) else (if bt213.2 = 3 then (if bt213.1 = 0 then (some true) else (some false)) else (some false))) else (some false))))) else (if a1 < 0 then (if ((decide (t206 < a0)) != (bt213.2 == 0)) = true then (some false) else (if t205 = true then (if bt213.2 = 0 then (some (bt213.1 == t206)) else (if bt213.2 = 3 then (if bt213.1 = 0 then (some true) else (some false)) else (some false))) else (some false))) else (if (false != (bt213.2 == 0)) = true then (some false) else (if t205 = true then (if bt213.2 = 0 then (some (bt213.1 == t206)) else (if bt213.2 = 3 then (if bt213.1 = 0 then (some true) else (some false)) else (some false))) else (some false)))))) = some r := by rw [if_neg (show ¬ (false = true) by decide)] at H; exact H
              clear H
              have H := H1
              clear H1
              replace H := Option.bind_eq_some_iff.mp H
              obtain ⟨⟨t213, t214⟩, A200, H⟩ := H
              replace H : (if a1 ≥ 0 then (if t206 ≥ a0 then (if (true != (t214 == 0)) = true then (some false) else (if t205 = true then (if t214 = 0 then (some (t213 == t206)) else (if t214 = 3 then (if t213 = 0 then (some true) else (some false)) else (some false))) else (some false))) else (if a1 < 0 then (if ((decide (t206 < a0)) != (t214 == 0)) = true then (some false) else (if t205 = true then (if t214 = 0 then (some (t213 == t206)) else (if t214 = 3 then (if t213 = 0 then (some true) else (some false)) else (some false))) else (some false))) else (if (false != (t214 == 0)) = true then (some false) else (if t205 = true then (if t214 = 0 then (some (t213 == t206)) else (if t214 = 3 then (if t213 = 0 then (some true) else (some false)) else (some false))) else (some false))))) else (if a1 < 0 then (if ((decide (t206 < a0)) != (t214 == 0)) = true then (some false) else (if t205 = true then (if t214 = 0 then (some (t213 == t206)) else (if t214 = 3 then (if t213 = 0 then (some true) else (some false)) else (some false))) else (some false))) else (if (false != (t214 == 0)) = true then (some false) else (if t205 = true then (if t214 = 0 then (some (t213 == t206)) else (if t214 = 3 then (if t213 = 0 then (some true) else (some false)) else (some false))) else (some false))))) = some r := H
              have A20 := Aside0.mk A200
              clear A200
              by_cases c21 : a1 ≥ 0
              · rw [if_pos c21] at H
                have c21b0 : decide (0 ≤ a1) = true := decide_eq_true c21
                clear c21
                by_cases c22 : t206 ≥ a0
                · rw [if_pos c22] at H
                  have c22b0 : decide (a0 ≤ t206) = true := decide_eq_true c22
                  clear c22
                  by_cases c23 : (true != (t214 == 0)) = true
                  · rw [if_pos c23] at H
                    have c23b0 : (true != (t214 == 0)) = true := c23
                    (try (have c23b1 : decide (true = (t214 == 0)) = false := by simpa using c23))
                    (try (have c23b2 : (true == (t214 == 0)) = false := by simpa using c23))
                    (try (have c23b3 : ¬ (true = (t214 == 0)) := by simpa using c23))
                    clear c23
                    obtain rfl := Option.some.inj H
                    go_wp2_with (first | ((with_reducible refine gate_callee (f := 15) rfl ?_); refine goesL_ (some 51) rfl rfl Tryd.func15 (by kernel_rfl) rfl #[.int .i64 a0, .int .i64 a1] rfl (by (try simp only [List.map_toArray, List.map_cons, List.map_nil]); first | done | rfl | (simp only [List.length_drop, List.length_take]; rfl)) ?_; (with_reducible refine (number_Sum.calls a0 a1 t213 t214 _ A20.out).mono ?_); rintro e w24 ⟨rfl, hb⟩; refine ⟨_, rfl, ?_⟩; have n0_ := Aside0.mk (below_step (by repeat (first | (with_reducible first | exact HB.out | apply below_alloc | apply pw_below_drewN | apply below_drew1) | exact HB.out)) hb); clear HB; have HB := n0_; clear n0_; (try clear hb); (try clear hb2); (try clear hk); (try clear hi)))
                    all_goals (go_ret; exact ⟨by first | rfl | (simp [errW_none, errW_some] <;> rfl) | (simp [*, errW_none, errW_some] <;> rfl), by repeat (first | (with_reducible first | exact HB.out | apply below_alloc | apply pw_below_drewN | apply below_drew1) | exact HB.out)⟩)
                  · rw [if_neg c23] at H
                    have c23b0 : (true != (t214 == 0)) = false := by simpa using c23
                    (try (have c23b1 : decide (true = (t214 == 0)) = true := by simpa using c23))
                    (try (have c23b2 : (true == (t214 == 0)) = true := by simpa using c23))
                    clear c23
                    by_cases c25 : t205 = true
                    · subst c25
                      have H1 : (if t214 = 0 then (some (t213 == t206)) else (if t214 = 3 then (if t213 = 0 then (some true) else (some false)) else (some false))) = some r := by rw [if_pos rfl] at H; exact H
                      clear H
                      have H := H1
                      clear H1
                      by_cases c26 : t214 = 0
                      · rw [if_pos c26] at H
                        have c26b0 : (t214 == 0) = true := beq_iff_eq.mpr c26
                        have c26b1 : (t214 != 0) = false := bne_eq_false_iff_eq.mpr c26
                        clear c26
                        obtain rfl := Option.some.inj H
                        go_wp2_with (first | ((with_reducible refine gate_callee (f := 15) rfl ?_); refine goesL_ (some 51) rfl rfl Tryd.func15 (by kernel_rfl) rfl #[.int .i64 a0, .int .i64 a1] rfl (by (try simp only [List.map_toArray, List.map_cons, List.map_nil]); first | done | rfl | (simp only [List.length_drop, List.length_take]; rfl)) ?_; (with_reducible refine (number_Sum.calls a0 a1 t213 t214 _ A20.out).mono ?_); rintro e w27 ⟨rfl, hb⟩; refine ⟨_, rfl, ?_⟩; have n0_ := Aside0.mk (below_step (by repeat (first | (with_reducible first | exact HB.out | apply below_alloc | apply pw_below_drewN | apply below_drew1) | exact HB.out)) hb); clear HB; have HB := n0_; clear n0_; (try clear hb); (try clear hb2); (try clear hk); (try clear hi)))
                        all_goals first
                          | (exfalso; have A_ := c23b0; rw [c26b0] at A_; simp at A_; done)
                          | (exfalso; have A_ := c23b0; rw [c26b0] at A_; simp at A_; omega)
                          | (exfalso; have A_ := c23b0; rw [c26b0] at A_; simp at A_; rename_i hx_; simp at hx_; omega)
                          | (go_ret; exact ⟨by first | rfl | (simp [errW_none, errW_some] <;> rfl) | (simp [*, errW_none, errW_some] <;> rfl), by repeat (first | (with_reducible first | exact HB.out | apply below_alloc | apply pw_below_drewN | apply below_drew1) | exact HB.out)⟩)
                      · rw [if_neg c26] at H
                        have c26b0 : (t214 == 0) = false := beq_eq_false_iff_ne.mpr c26
                        have c26b1 : (t214 != 0) = true := bne_iff_ne.mpr c26
                        by_cases c28 : t214 = 3
                        · rw [if_pos c28] at H
                          have c28b0 : (t214 == 3) = true := beq_iff_eq.mpr c28
                          have c28b1 : (t214 != 3) = false := bne_eq_false_iff_eq.mpr c28
                          clear c28
                          by_cases c29 : t213 = 0
                          · rw [if_pos c29] at H
                            have c29b0 : (t213 == 0) = true := beq_iff_eq.mpr c29
                            have c29b1 : (t213 != 0) = false := bne_eq_false_iff_eq.mpr c29
                            clear c29
                            obtain rfl := Option.some.inj H
                            go_wp2_with (first | ((with_reducible refine gate_callee (f := 15) rfl ?_); refine goesL_ (some 51) rfl rfl Tryd.func15 (by kernel_rfl) rfl #[.int .i64 a0, .int .i64 a1] rfl (by (try simp only [List.map_toArray, List.map_cons, List.map_nil]); first | done | rfl | (simp only [List.length_drop, List.length_take]; rfl)) ?_; (with_reducible refine (number_Sum.calls a0 a1 t213 t214 _ A20.out).mono ?_); rintro e w30 ⟨rfl, hb⟩; refine ⟨_, rfl, ?_⟩; have n0_ := Aside0.mk (below_step (by repeat (first | (with_reducible first | exact HB.out | apply below_alloc | apply pw_below_drewN | apply below_drew1) | exact HB.out)) hb); clear HB; have HB := n0_; clear n0_; (try clear hb); (try clear hb2); (try clear hk); (try clear hi)))
                            all_goals first
                              | (exfalso; have A_ := c23b0; rw [c26b0] at A_; simp at A_; done)
                              | (exfalso; have A_ := c23b0; rw [c26b0] at A_; simp at A_; omega)
                              | (exfalso; have A_ := c23b0; rw [c26b0] at A_; simp at A_; rename_i hx_; simp at hx_; omega)
                              | (go_ret; exact ⟨by first | rfl | (simp [errW_none, errW_some] <;> rfl) | (simp [*, errW_none, errW_some] <;> rfl), by repeat (first | (with_reducible first | exact HB.out | apply below_alloc | apply pw_below_drewN | apply below_drew1) | exact HB.out)⟩)
                          · rw [if_neg c29] at H
                            have c29b0 : (t213 == 0) = false := beq_eq_false_iff_ne.mpr c29
                            have c29b1 : (t213 != 0) = true := bne_iff_ne.mpr c29
                            obtain rfl := Option.some.inj H
                            go_wp2_with (first | ((with_reducible refine gate_callee (f := 15) rfl ?_); refine goesL_ (some 51) rfl rfl Tryd.func15 (by kernel_rfl) rfl #[.int .i64 a0, .int .i64 a1] rfl (by (try simp only [List.map_toArray, List.map_cons, List.map_nil]); first | done | rfl | (simp only [List.length_drop, List.length_take]; rfl)) ?_; (with_reducible refine (number_Sum.calls a0 a1 t213 t214 _ A20.out).mono ?_); rintro e w31 ⟨rfl, hb⟩; refine ⟨_, rfl, ?_⟩; have n0_ := Aside0.mk (below_step (by repeat (first | (with_reducible first | exact HB.out | apply below_alloc | apply pw_below_drewN | apply below_drew1) | exact HB.out)) hb); clear HB; have HB := n0_; clear n0_; (try clear hb); (try clear hb2); (try clear hk); (try clear hi)))
                            all_goals first
                              | (exfalso; have A_ := c23b0; rw [c26b0] at A_; simp at A_; done)
                              | (exfalso; have A_ := c23b0; rw [c26b0] at A_; simp at A_; omega)
                              | (exfalso; have A_ := c23b0; rw [c26b0] at A_; simp at A_; rename_i hx_; simp at hx_; omega)
                              | (go_ret; exact ⟨by first | rfl | (simp [errW_none, errW_some] <;> rfl) | (simp [*, errW_none, errW_some] <;> rfl), by repeat (first | (with_reducible first | exact HB.out | apply below_alloc | apply pw_below_drewN | apply below_drew1) | exact HB.out)⟩)
                        · rw [if_neg c28] at H
                          have c28b0 : (t214 == 3) = false := beq_eq_false_iff_ne.mpr c28
                          have c28b1 : (t214 != 3) = true := bne_iff_ne.mpr c28
                          obtain rfl := Option.some.inj H
                          go_wp2_with (first | ((with_reducible refine gate_callee (f := 15) rfl ?_); refine goesL_ (some 51) rfl rfl Tryd.func15 (by kernel_rfl) rfl #[.int .i64 a0, .int .i64 a1] rfl (by (try simp only [List.map_toArray, List.map_cons, List.map_nil]); first | done | rfl | (simp only [List.length_drop, List.length_take]; rfl)) ?_; (with_reducible refine (number_Sum.calls a0 a1 t213 t214 _ A20.out).mono ?_); rintro e w32 ⟨rfl, hb⟩; refine ⟨_, rfl, ?_⟩; have n0_ := Aside0.mk (below_step (by repeat (first | (with_reducible first | exact HB.out | apply below_alloc | apply pw_below_drewN | apply below_drew1) | exact HB.out)) hb); clear HB; have HB := n0_; clear n0_; (try clear hb); (try clear hb2); (try clear hk); (try clear hi)))
                          all_goals first
                            | (exfalso; have A_ := c23b0; rw [c26b0] at A_; simp at A_; done)
                            | (exfalso; have A_ := c23b0; rw [c26b0] at A_; simp at A_; omega)
                            | (exfalso; have A_ := c23b0; rw [c26b0] at A_; simp at A_; rename_i hx_; simp at hx_; omega)
                            | (go_ret; exact ⟨by first | rfl | (simp [errW_none, errW_some] <;> rfl) | (simp [*, errW_none, errW_some] <;> rfl), by repeat (first | (with_reducible first | exact HB.out | apply below_alloc | apply pw_below_drewN | apply below_drew1) | exact HB.out)⟩)
                    · replace c25 := Bool.eq_false_iff.mpr c25
                      subst c25
                      have H1 : (some false) = some r := by rw [if_neg (show ¬ (false = true) by decide)] at H; exact H
                      clear H
                      have H := H1
                      clear H1
                      obtain rfl := Option.some.inj H
                      go_wp2_with (first | ((with_reducible refine gate_callee (f := 15) rfl ?_); refine goesL_ (some 51) rfl rfl Tryd.func15 (by kernel_rfl) rfl #[.int .i64 a0, .int .i64 a1] rfl (by (try simp only [List.map_toArray, List.map_cons, List.map_nil]); first | done | rfl | (simp only [List.length_drop, List.length_take]; rfl)) ?_; (with_reducible refine (number_Sum.calls a0 a1 t213 t214 _ A20.out).mono ?_); rintro e w33 ⟨rfl, hb⟩; refine ⟨_, rfl, ?_⟩; have n0_ := Aside0.mk (below_step (by repeat (first | (with_reducible first | exact HB.out | apply below_alloc | apply pw_below_drewN | apply below_drew1) | exact HB.out)) hb); clear HB; have HB := n0_; clear n0_; (try clear hb); (try clear hb2); (try clear hk); (try clear hi)))
                      all_goals (go_ret; exact ⟨by first | rfl | (simp [errW_none, errW_some] <;> rfl) | (simp [*, errW_none, errW_some] <;> rfl), by repeat (first | (with_reducible first | exact HB.out | apply below_alloc | apply pw_below_drewN | apply below_drew1) | exact HB.out)⟩)
                · rw [if_neg c22] at H
                  have c22b0 : decide (a0 ≤ t206) = false := decide_eq_false c22
                  clear c22
                  by_cases c34 : a1 < 0
                  · rw [if_pos c34] at H
                    have c34b0 : decide (a1 < 0) = true := decide_eq_true c34
                    clear c34
                    by_cases c35 : ((decide (t206 < a0)) != (t214 == 0)) = true
                    · rw [if_pos c35] at H
                      have c35b0 : ((decide (t206 < a0)) != (t214 == 0)) = true := c35
                      (try (have c35b1 : decide ((decide (t206 < a0)) = (t214 == 0)) = false := by simpa using c35))
                      (try (have c35b2 : ((decide (t206 < a0)) == (t214 == 0)) = false := by simpa using c35))
                      (try (have c35b3 : ¬ ((decide (t206 < a0)) = (t214 == 0)) := by simpa using c35))
                      clear c35
                      obtain rfl := Option.some.inj H
                      go_wp2_with (first | ((with_reducible refine gate_callee (f := 15) rfl ?_); refine goesL_ (some 51) rfl rfl Tryd.func15 (by kernel_rfl) rfl #[.int .i64 a0, .int .i64 a1] rfl (by (try simp only [List.map_toArray, List.map_cons, List.map_nil]); first | done | rfl | (simp only [List.length_drop, List.length_take]; rfl)) ?_; (with_reducible refine (number_Sum.calls a0 a1 t213 t214 _ A20.out).mono ?_); rintro e w36 ⟨rfl, hb⟩; refine ⟨_, rfl, ?_⟩; have n0_ := Aside0.mk (below_step (by repeat (first | (with_reducible first | exact HB.out | apply below_alloc | apply pw_below_drewN | apply below_drew1) | exact HB.out)) hb); clear HB; have HB := n0_; clear n0_; (try clear hb); (try clear hb2); (try clear hk); (try clear hi)))
                      all_goals (go_ret; exact ⟨by first | rfl | (simp [errW_none, errW_some] <;> rfl) | (simp [*, errW_none, errW_some] <;> rfl), by repeat (first | (with_reducible first | exact HB.out | apply below_alloc | apply pw_below_drewN | apply below_drew1) | exact HB.out)⟩)
                    · rw [if_neg c35] at H
                      have c35b0 : ((decide (t206 < a0)) != (t214 == 0)) = false := by simpa using c35
                      (try (have c35b1 : decide ((decide (t206 < a0)) = (t214 == 0)) = true := by simpa using c35))
                      (try (have c35b2 : ((decide (t206 < a0)) == (t214 == 0)) = true := by simpa using c35))
                      clear c35
                      by_cases c37 : t205 = true
                      · subst c37
                        have H1 : (if t214 = 0 then (some (t213 == t206)) else (if t214 = 3 then (if t213 = 0 then (some true) else (some false)) else (some false))) = some r := by rw [if_pos rfl] at H; exact H
                        clear H
                        have H := H1
                        clear H1
                        by_cases c38 : t214 = 0
                        · rw [if_pos c38] at H
                          have c38b0 : (t214 == 0) = true := beq_iff_eq.mpr c38
                          have c38b1 : (t214 != 0) = false := bne_eq_false_iff_eq.mpr c38
                          clear c38
                          obtain rfl := Option.some.inj H
                          go_wp2_with (first | ((with_reducible refine gate_callee (f := 15) rfl ?_); refine goesL_ (some 51) rfl rfl Tryd.func15 (by kernel_rfl) rfl #[.int .i64 a0, .int .i64 a1] rfl (by (try simp only [List.map_toArray, List.map_cons, List.map_nil]); first | done | rfl | (simp only [List.length_drop, List.length_take]; rfl)) ?_; (with_reducible refine (number_Sum.calls a0 a1 t213 t214 _ A20.out).mono ?_); rintro e w39 ⟨rfl, hb⟩; refine ⟨_, rfl, ?_⟩; have n0_ := Aside0.mk (below_step (by repeat (first | (with_reducible first | exact HB.out | apply below_alloc | apply pw_below_drewN | apply below_drew1) | exact HB.out)) hb); clear HB; have HB := n0_; clear n0_; (try clear hb); (try clear hb2); (try clear hk); (try clear hi)))
                          all_goals first
                            | (exfalso; have A_ := c35b0; rw [c38b0] at A_; simp at A_; done)
                            | (exfalso; have A_ := c35b0; rw [c38b0] at A_; simp at A_; omega)
                            | (exfalso; have A_ := c35b0; rw [c38b0] at A_; simp at A_; rename_i hx_; simp at hx_; omega)
                            | (go_ret; exact ⟨by first | rfl | (simp [errW_none, errW_some] <;> rfl) | (simp [*, errW_none, errW_some] <;> rfl), by repeat (first | (with_reducible first | exact HB.out | apply below_alloc | apply pw_below_drewN | apply below_drew1) | exact HB.out)⟩)
                        · rw [if_neg c38] at H
                          have c38b0 : (t214 == 0) = false := beq_eq_false_iff_ne.mpr c38
                          have c38b1 : (t214 != 0) = true := bne_iff_ne.mpr c38
                          by_cases c40 : t214 = 3
                          · rw [if_pos c40] at H
                            have c40b0 : (t214 == 3) = true := beq_iff_eq.mpr c40
                            have c40b1 : (t214 != 3) = false := bne_eq_false_iff_eq.mpr c40
                            clear c40
                            by_cases c41 : t213 = 0
                            · rw [if_pos c41] at H
                              have c41b0 : (t213 == 0) = true := beq_iff_eq.mpr c41
                              have c41b1 : (t213 != 0) = false := bne_eq_false_iff_eq.mpr c41
                              clear c41
                              obtain rfl := Option.some.inj H
                              go_wp2_with (first | ((with_reducible refine gate_callee (f := 15) rfl ?_); refine goesL_ (some 51) rfl rfl Tryd.func15 (by kernel_rfl) rfl #[.int .i64 a0, .int .i64 a1] rfl (by (try simp only [List.map_toArray, List.map_cons, List.map_nil]); first | done | rfl | (simp only [List.length_drop, List.length_take]; rfl)) ?_; (with_reducible refine (number_Sum.calls a0 a1 t213 t214 _ A20.out).mono ?_); rintro e w42 ⟨rfl, hb⟩; refine ⟨_, rfl, ?_⟩; have n0_ := Aside0.mk (below_step (by repeat (first | (with_reducible first | exact HB.out | apply below_alloc | apply pw_below_drewN | apply below_drew1) | exact HB.out)) hb); clear HB; have HB := n0_; clear n0_; (try clear hb); (try clear hb2); (try clear hk); (try clear hi)))
                              all_goals first
                                | (exfalso; have A_ := c35b0; rw [c38b0] at A_; simp at A_; done)
                                | (exfalso; have A_ := c35b0; rw [c38b0] at A_; simp at A_; omega)
                                | (exfalso; have A_ := c35b0; rw [c38b0] at A_; simp at A_; rename_i hx_; simp at hx_; omega)
                                | (go_ret; exact ⟨by first | rfl | (simp [errW_none, errW_some] <;> rfl) | (simp [*, errW_none, errW_some] <;> rfl), by repeat (first | (with_reducible first | exact HB.out | apply below_alloc | apply pw_below_drewN | apply below_drew1) | exact HB.out)⟩)
                            · rw [if_neg c41] at H
                              have c41b0 : (t213 == 0) = false := beq_eq_false_iff_ne.mpr c41
                              have c41b1 : (t213 != 0) = true := bne_iff_ne.mpr c41
                              obtain rfl := Option.some.inj H
                              go_wp2_with (first | ((with_reducible refine gate_callee (f := 15) rfl ?_); refine goesL_ (some 51) rfl rfl Tryd.func15 (by kernel_rfl) rfl #[.int .i64 a0, .int .i64 a1] rfl (by (try simp only [List.map_toArray, List.map_cons, List.map_nil]); first | done | rfl | (simp only [List.length_drop, List.length_take]; rfl)) ?_; (with_reducible refine (number_Sum.calls a0 a1 t213 t214 _ A20.out).mono ?_); rintro e w43 ⟨rfl, hb⟩; refine ⟨_, rfl, ?_⟩; have n0_ := Aside0.mk (below_step (by repeat (first | (with_reducible first | exact HB.out | apply below_alloc | apply pw_below_drewN | apply below_drew1) | exact HB.out)) hb); clear HB; have HB := n0_; clear n0_; (try clear hb); (try clear hb2); (try clear hk); (try clear hi)))
                              all_goals first
                                | (exfalso; have A_ := c35b0; rw [c38b0] at A_; simp at A_; done)
                                | (exfalso; have A_ := c35b0; rw [c38b0] at A_; simp at A_; omega)
                                | (exfalso; have A_ := c35b0; rw [c38b0] at A_; simp at A_; rename_i hx_; simp at hx_; omega)
                                | (go_ret; exact ⟨by first | rfl | (simp [errW_none, errW_some] <;> rfl) | (simp [*, errW_none, errW_some] <;> rfl), by repeat (first | (with_reducible first | exact HB.out | apply below_alloc | apply pw_below_drewN | apply below_drew1) | exact HB.out)⟩)
                          · rw [if_neg c40] at H
                            have c40b0 : (t214 == 3) = false := beq_eq_false_iff_ne.mpr c40
                            have c40b1 : (t214 != 3) = true := bne_iff_ne.mpr c40
                            obtain rfl := Option.some.inj H
                            go_wp2_with (first | ((with_reducible refine gate_callee (f := 15) rfl ?_); refine goesL_ (some 51) rfl rfl Tryd.func15 (by kernel_rfl) rfl #[.int .i64 a0, .int .i64 a1] rfl (by (try simp only [List.map_toArray, List.map_cons, List.map_nil]); first | done | rfl | (simp only [List.length_drop, List.length_take]; rfl)) ?_; (with_reducible refine (number_Sum.calls a0 a1 t213 t214 _ A20.out).mono ?_); rintro e w44 ⟨rfl, hb⟩; refine ⟨_, rfl, ?_⟩; have n0_ := Aside0.mk (below_step (by repeat (first | (with_reducible first | exact HB.out | apply below_alloc | apply pw_below_drewN | apply below_drew1) | exact HB.out)) hb); clear HB; have HB := n0_; clear n0_; (try clear hb); (try clear hb2); (try clear hk); (try clear hi)))
                            all_goals first
                              | (exfalso; have A_ := c35b0; rw [c38b0] at A_; simp at A_; done)
                              | (exfalso; have A_ := c35b0; rw [c38b0] at A_; simp at A_; omega)
                              | (exfalso; have A_ := c35b0; rw [c38b0] at A_; simp at A_; rename_i hx_; simp at hx_; omega)
                              | (go_ret; exact ⟨by first | rfl | (simp [errW_none, errW_some] <;> rfl) | (simp [*, errW_none, errW_some] <;> rfl), by repeat (first | (with_reducible first | exact HB.out | apply below_alloc | apply pw_below_drewN | apply below_drew1) | exact HB.out)⟩)
                      · replace c37 := Bool.eq_false_iff.mpr c37
                        subst c37
                        have H1 : (some false) = some r := by rw [if_neg (show ¬ (false = true) by decide)] at H; exact H
                        clear H
                        have H := H1
                        clear H1
                        obtain rfl := Option.some.inj H
                        go_wp2_with (first | ((with_reducible refine gate_callee (f := 15) rfl ?_); refine goesL_ (some 51) rfl rfl Tryd.func15 (by kernel_rfl) rfl #[.int .i64 a0, .int .i64 a1] rfl (by (try simp only [List.map_toArray, List.map_cons, List.map_nil]); first | done | rfl | (simp only [List.length_drop, List.length_take]; rfl)) ?_; (with_reducible refine (number_Sum.calls a0 a1 t213 t214 _ A20.out).mono ?_); rintro e w45 ⟨rfl, hb⟩; refine ⟨_, rfl, ?_⟩; have n0_ := Aside0.mk (below_step (by repeat (first | (with_reducible first | exact HB.out | apply below_alloc | apply pw_below_drewN | apply below_drew1) | exact HB.out)) hb); clear HB; have HB := n0_; clear n0_; (try clear hb); (try clear hb2); (try clear hk); (try clear hi)))
                        all_goals (go_ret; exact ⟨by first | rfl | (simp [errW_none, errW_some] <;> rfl) | (simp [*, errW_none, errW_some] <;> rfl), by repeat (first | (with_reducible first | exact HB.out | apply below_alloc | apply pw_below_drewN | apply below_drew1) | exact HB.out)⟩)
                  · rw [if_neg c34] at H
                    have c34b0 : decide (a1 < 0) = false := decide_eq_false c34
                    clear c34
                    by_cases c46 : (false != (t214 == 0)) = true
                    · rw [if_pos c46] at H
                      have c46b0 : (false != (t214 == 0)) = true := c46
                      (try (have c46b1 : decide (false = (t214 == 0)) = false := by simpa using c46))
                      (try (have c46b2 : (false == (t214 == 0)) = false := by simpa using c46))
                      (try (have c46b3 : ¬ (false = (t214 == 0)) := by simpa using c46))
                      clear c46
                      obtain rfl := Option.some.inj H
                      go_wp2_with (first | ((with_reducible refine gate_callee (f := 15) rfl ?_); refine goesL_ (some 51) rfl rfl Tryd.func15 (by kernel_rfl) rfl #[.int .i64 a0, .int .i64 a1] rfl (by (try simp only [List.map_toArray, List.map_cons, List.map_nil]); first | done | rfl | (simp only [List.length_drop, List.length_take]; rfl)) ?_; (with_reducible refine (number_Sum.calls a0 a1 t213 t214 _ A20.out).mono ?_); rintro e w47 ⟨rfl, hb⟩; refine ⟨_, rfl, ?_⟩; have n0_ := Aside0.mk (below_step (by repeat (first | (with_reducible first | exact HB.out | apply below_alloc | apply pw_below_drewN | apply below_drew1) | exact HB.out)) hb); clear HB; have HB := n0_; clear n0_; (try clear hb); (try clear hb2); (try clear hk); (try clear hi)))
                      all_goals (go_ret; exact ⟨by first | rfl | (simp [errW_none, errW_some] <;> rfl) | (simp [*, errW_none, errW_some] <;> rfl), by repeat (first | (with_reducible first | exact HB.out | apply below_alloc | apply pw_below_drewN | apply below_drew1) | exact HB.out)⟩)
                    · rw [if_neg c46] at H
                      have c46b0 : (false != (t214 == 0)) = false := by simpa using c46
                      (try (have c46b1 : decide (false = (t214 == 0)) = true := by simpa using c46))
                      (try (have c46b2 : (false == (t214 == 0)) = true := by simpa using c46))
                      clear c46
                      by_cases c48 : t205 = true
                      · subst c48
                        have H1 : (if t214 = 0 then (some (t213 == t206)) else (if t214 = 3 then (if t213 = 0 then (some true) else (some false)) else (some false))) = some r := by rw [if_pos rfl] at H; exact H
                        clear H
                        have H := H1
                        clear H1
                        by_cases c49 : t214 = 0
                        · rw [if_pos c49] at H
                          have c49b0 : (t214 == 0) = true := beq_iff_eq.mpr c49
                          have c49b1 : (t214 != 0) = false := bne_eq_false_iff_eq.mpr c49
                          clear c49
                          obtain rfl := Option.some.inj H
                          go_wp2_with (first | ((with_reducible refine gate_callee (f := 15) rfl ?_); refine goesL_ (some 51) rfl rfl Tryd.func15 (by kernel_rfl) rfl #[.int .i64 a0, .int .i64 a1] rfl (by (try simp only [List.map_toArray, List.map_cons, List.map_nil]); first | done | rfl | (simp only [List.length_drop, List.length_take]; rfl)) ?_; (with_reducible refine (number_Sum.calls a0 a1 t213 t214 _ A20.out).mono ?_); rintro e w50 ⟨rfl, hb⟩; refine ⟨_, rfl, ?_⟩; have n0_ := Aside0.mk (below_step (by repeat (first | (with_reducible first | exact HB.out | apply below_alloc | apply pw_below_drewN | apply below_drew1) | exact HB.out)) hb); clear HB; have HB := n0_; clear n0_; (try clear hb); (try clear hb2); (try clear hk); (try clear hi)))
                          all_goals first
                            | (exfalso; have A_ := c46b0; rw [c49b0] at A_; simp at A_; done)
                            | (exfalso; have A_ := c46b0; rw [c49b0] at A_; simp at A_; omega)
                            | (exfalso; have A_ := c46b0; rw [c49b0] at A_; simp at A_; rename_i hx_; simp at hx_; omega)
                            | (go_ret; exact ⟨by first | rfl | (simp [errW_none, errW_some] <;> rfl) | (simp [*, errW_none, errW_some] <;> rfl), by repeat (first | (with_reducible first | exact HB.out | apply below_alloc | apply pw_below_drewN | apply below_drew1) | exact HB.out)⟩)
                        · rw [if_neg c49] at H
                          have c49b0 : (t214 == 0) = false := beq_eq_false_iff_ne.mpr c49
                          have c49b1 : (t214 != 0) = true := bne_iff_ne.mpr c49
                          by_cases c51 : t214 = 3
                          · rw [if_pos c51] at H
                            have c51b0 : (t214 == 3) = true := beq_iff_eq.mpr c51
                            have c51b1 : (t214 != 3) = false := bne_eq_false_iff_eq.mpr c51
                            clear c51
                            by_cases c52 : t213 = 0
                            · rw [if_pos c52] at H
                              have c52b0 : (t213 == 0) = true := beq_iff_eq.mpr c52
                              have c52b1 : (t213 != 0) = false := bne_eq_false_iff_eq.mpr c52
                              clear c52
                              obtain rfl := Option.some.inj H
                              go_wp2_with (first | ((with_reducible refine gate_callee (f := 15) rfl ?_); refine goesL_ (some 51) rfl rfl Tryd.func15 (by kernel_rfl) rfl #[.int .i64 a0, .int .i64 a1] rfl (by (try simp only [List.map_toArray, List.map_cons, List.map_nil]); first | done | rfl | (simp only [List.length_drop, List.length_take]; rfl)) ?_; (with_reducible refine (number_Sum.calls a0 a1 t213 t214 _ A20.out).mono ?_); rintro e w53 ⟨rfl, hb⟩; refine ⟨_, rfl, ?_⟩; have n0_ := Aside0.mk (below_step (by repeat (first | (with_reducible first | exact HB.out | apply below_alloc | apply pw_below_drewN | apply below_drew1) | exact HB.out)) hb); clear HB; have HB := n0_; clear n0_; (try clear hb); (try clear hb2); (try clear hk); (try clear hi)))
                              all_goals first
                                | (exfalso; have A_ := c46b0; rw [c49b0] at A_; simp at A_; done)
                                | (exfalso; have A_ := c46b0; rw [c49b0] at A_; simp at A_; omega)
                                | (exfalso; have A_ := c46b0; rw [c49b0] at A_; simp at A_; rename_i hx_; simp at hx_; omega)
                                | (go_ret; exact ⟨by first | rfl | (simp [errW_none, errW_some] <;> rfl) | (simp [*, errW_none, errW_some] <;> rfl), by repeat (first | (with_reducible first | exact HB.out | apply below_alloc | apply pw_below_drewN | apply below_drew1) | exact HB.out)⟩)
                            · rw [if_neg c52] at H
                              have c52b0 : (t213 == 0) = false := beq_eq_false_iff_ne.mpr c52
                              have c52b1 : (t213 != 0) = true := bne_iff_ne.mpr c52
                              obtain rfl := Option.some.inj H
                              go_wp2_with (first | ((with_reducible refine gate_callee (f := 15) rfl ?_); refine goesL_ (some 51) rfl rfl Tryd.func15 (by kernel_rfl) rfl #[.int .i64 a0, .int .i64 a1] rfl (by (try simp only [List.map_toArray, List.map_cons, List.map_nil]); first | done | rfl | (simp only [List.length_drop, List.length_take]; rfl)) ?_; (with_reducible refine (number_Sum.calls a0 a1 t213 t214 _ A20.out).mono ?_); rintro e w54 ⟨rfl, hb⟩; refine ⟨_, rfl, ?_⟩; have n0_ := Aside0.mk (below_step (by repeat (first | (with_reducible first | exact HB.out | apply below_alloc | apply pw_below_drewN | apply below_drew1) | exact HB.out)) hb); clear HB; have HB := n0_; clear n0_; (try clear hb); (try clear hb2); (try clear hk); (try clear hi)))
                              all_goals first
                                | (exfalso; have A_ := c46b0; rw [c49b0] at A_; simp at A_; done)
                                | (exfalso; have A_ := c46b0; rw [c49b0] at A_; simp at A_; omega)
                                | (exfalso; have A_ := c46b0; rw [c49b0] at A_; simp at A_; rename_i hx_; simp at hx_; omega)
                                | (go_ret; exact ⟨by first | rfl | (simp [errW_none, errW_some] <;> rfl) | (simp [*, errW_none, errW_some] <;> rfl), by repeat (first | (with_reducible first | exact HB.out | apply below_alloc | apply pw_below_drewN | apply below_drew1) | exact HB.out)⟩)
                          · rw [if_neg c51] at H
                            have c51b0 : (t214 == 3) = false := beq_eq_false_iff_ne.mpr c51
                            have c51b1 : (t214 != 3) = true := bne_iff_ne.mpr c51
                            obtain rfl := Option.some.inj H
                            go_wp2_with (first | ((with_reducible refine gate_callee (f := 15) rfl ?_); refine goesL_ (some 51) rfl rfl Tryd.func15 (by kernel_rfl) rfl #[.int .i64 a0, .int .i64 a1] rfl (by (try simp only [List.map_toArray, List.map_cons, List.map_nil]); first | done | rfl | (simp only [List.length_drop, List.length_take]; rfl)) ?_; (with_reducible refine (number_Sum.calls a0 a1 t213 t214 _ A20.out).mono ?_); rintro e w55 ⟨rfl, hb⟩; refine ⟨_, rfl, ?_⟩; have n0_ := Aside0.mk (below_step (by repeat (first | (with_reducible first | exact HB.out | apply below_alloc | apply pw_below_drewN | apply below_drew1) | exact HB.out)) hb); clear HB; have HB := n0_; clear n0_; (try clear hb); (try clear hb2); (try clear hk); (try clear hi)))
                            all_goals first
                              | (exfalso; have A_ := c46b0; rw [c49b0] at A_; simp at A_; done)
                              | (exfalso; have A_ := c46b0; rw [c49b0] at A_; simp at A_; omega)
                              | (exfalso; have A_ := c46b0; rw [c49b0] at A_; simp at A_; rename_i hx_; simp at hx_; omega)
                              | (go_ret; exact ⟨by first | rfl | (simp [errW_none, errW_some] <;> rfl) | (simp [*, errW_none, errW_some] <;> rfl), by repeat (first | (with_reducible first | exact HB.out | apply below_alloc | apply pw_below_drewN | apply below_drew1) | exact HB.out)⟩)
                      · replace c48 := Bool.eq_false_iff.mpr c48
                        subst c48
                        have H1 : (some false) = some r := by rw [if_neg (show ¬ (false = true) by decide)] at H; exact H
                        clear H
                        have H := H1
                        clear H1
                        obtain rfl := Option.some.inj H
                        go_wp2_with (first | ((with_reducible refine gate_callee (f := 15) rfl ?_); refine goesL_ (some 51) rfl rfl Tryd.func15 (by kernel_rfl) rfl #[.int .i64 a0, .int .i64 a1] rfl (by (try simp only [List.map_toArray, List.map_cons, List.map_nil]); first | done | rfl | (simp only [List.length_drop, List.length_take]; rfl)) ?_; (with_reducible refine (number_Sum.calls a0 a1 t213 t214 _ A20.out).mono ?_); rintro e w56 ⟨rfl, hb⟩; refine ⟨_, rfl, ?_⟩; have n0_ := Aside0.mk (below_step (by repeat (first | (with_reducible first | exact HB.out | apply below_alloc | apply pw_below_drewN | apply below_drew1) | exact HB.out)) hb); clear HB; have HB := n0_; clear n0_; (try clear hb); (try clear hb2); (try clear hk); (try clear hi)))
                        all_goals (go_ret; exact ⟨by first | rfl | (simp [errW_none, errW_some] <;> rfl) | (simp [*, errW_none, errW_some] <;> rfl), by repeat (first | (with_reducible first | exact HB.out | apply below_alloc | apply pw_below_drewN | apply below_drew1) | exact HB.out)⟩)
              · rw [if_neg c21] at H
                have c21b0 : decide (0 ≤ a1) = false := decide_eq_false c21
                clear c21
                by_cases c57 : a1 < 0
                · rw [if_pos c57] at H
                  have c57b0 : decide (a1 < 0) = true := decide_eq_true c57
                  clear c57
                  by_cases c58 : ((decide (t206 < a0)) != (t214 == 0)) = true
                  · rw [if_pos c58] at H
                    have c58b0 : ((decide (t206 < a0)) != (t214 == 0)) = true := c58
                    (try (have c58b1 : decide ((decide (t206 < a0)) = (t214 == 0)) = false := by simpa using c58))
                    (try (have c58b2 : ((decide (t206 < a0)) == (t214 == 0)) = false := by simpa using c58))
                    (try (have c58b3 : ¬ ((decide (t206 < a0)) = (t214 == 0)) := by simpa using c58))
                    clear c58
                    obtain rfl := Option.some.inj H
                    go_wp2_with (first | ((with_reducible refine gate_callee (f := 15) rfl ?_); refine goesL_ (some 51) rfl rfl Tryd.func15 (by kernel_rfl) rfl #[.int .i64 a0, .int .i64 a1] rfl (by (try simp only [List.map_toArray, List.map_cons, List.map_nil]); first | done | rfl | (simp only [List.length_drop, List.length_take]; rfl)) ?_; (with_reducible refine (number_Sum.calls a0 a1 t213 t214 _ A20.out).mono ?_); rintro e w59 ⟨rfl, hb⟩; refine ⟨_, rfl, ?_⟩; have n0_ := Aside0.mk (below_step (by repeat (first | (with_reducible first | exact HB.out | apply below_alloc | apply pw_below_drewN | apply below_drew1) | exact HB.out)) hb); clear HB; have HB := n0_; clear n0_; (try clear hb); (try clear hb2); (try clear hk); (try clear hi)))
                    all_goals (go_ret; exact ⟨by first | rfl | (simp [errW_none, errW_some] <;> rfl) | (simp [*, errW_none, errW_some] <;> rfl), by repeat (first | (with_reducible first | exact HB.out | apply below_alloc | apply pw_below_drewN | apply below_drew1) | exact HB.out)⟩)
                  · rw [if_neg c58] at H
                    have c58b0 : ((decide (t206 < a0)) != (t214 == 0)) = false := by simpa using c58
                    (try (have c58b1 : decide ((decide (t206 < a0)) = (t214 == 0)) = true := by simpa using c58))
                    (try (have c58b2 : ((decide (t206 < a0)) == (t214 == 0)) = true := by simpa using c58))
                    clear c58
                    by_cases c60 : t205 = true
                    · subst c60
                      have H1 : (if t214 = 0 then (some (t213 == t206)) else (if t214 = 3 then (if t213 = 0 then (some true) else (some false)) else (some false))) = some r := by rw [if_pos rfl] at H; exact H
                      clear H
                      have H := H1
                      clear H1
                      by_cases c61 : t214 = 0
                      · rw [if_pos c61] at H
                        have c61b0 : (t214 == 0) = true := beq_iff_eq.mpr c61
                        have c61b1 : (t214 != 0) = false := bne_eq_false_iff_eq.mpr c61
                        clear c61
                        obtain rfl := Option.some.inj H
                        go_wp2_with (first | ((with_reducible refine gate_callee (f := 15) rfl ?_); refine goesL_ (some 51) rfl rfl Tryd.func15 (by kernel_rfl) rfl #[.int .i64 a0, .int .i64 a1] rfl (by (try simp only [List.map_toArray, List.map_cons, List.map_nil]); first | done | rfl | (simp only [List.length_drop, List.length_take]; rfl)) ?_; (with_reducible refine (number_Sum.calls a0 a1 t213 t214 _ A20.out).mono ?_); rintro e w62 ⟨rfl, hb⟩; refine ⟨_, rfl, ?_⟩; have n0_ := Aside0.mk (below_step (by repeat (first | (with_reducible first | exact HB.out | apply below_alloc | apply pw_below_drewN | apply below_drew1) | exact HB.out)) hb); clear HB; have HB := n0_; clear n0_; (try clear hb); (try clear hb2); (try clear hk); (try clear hi)))
                        all_goals first
                          | (exfalso; have A_ := c58b0; rw [c61b0] at A_; simp at A_; done)
                          | (exfalso; have A_ := c58b0; rw [c61b0] at A_; simp at A_; omega)
                          | (exfalso; have A_ := c58b0; rw [c61b0] at A_; simp at A_; rename_i hx_; simp at hx_; omega)
                          | (go_ret; exact ⟨by first | rfl | (simp [errW_none, errW_some] <;> rfl) | (simp [*, errW_none, errW_some] <;> rfl), by repeat (first | (with_reducible first | exact HB.out | apply below_alloc | apply pw_below_drewN | apply below_drew1) | exact HB.out)⟩)
                      · rw [if_neg c61] at H
                        have c61b0 : (t214 == 0) = false := beq_eq_false_iff_ne.mpr c61
                        have c61b1 : (t214 != 0) = true := bne_iff_ne.mpr c61
                        by_cases c63 : t214 = 3
                        · rw [if_pos c63] at H
                          have c63b0 : (t214 == 3) = true := beq_iff_eq.mpr c63
                          have c63b1 : (t214 != 3) = false := bne_eq_false_iff_eq.mpr c63
                          clear c63
                          by_cases c64 : t213 = 0
                          · rw [if_pos c64] at H
                            have c64b0 : (t213 == 0) = true := beq_iff_eq.mpr c64
                            have c64b1 : (t213 != 0) = false := bne_eq_false_iff_eq.mpr c64
                            clear c64
                            obtain rfl := Option.some.inj H
                            go_wp2_with (first | ((with_reducible refine gate_callee (f := 15) rfl ?_); refine goesL_ (some 51) rfl rfl Tryd.func15 (by kernel_rfl) rfl #[.int .i64 a0, .int .i64 a1] rfl (by (try simp only [List.map_toArray, List.map_cons, List.map_nil]); first | done | rfl | (simp only [List.length_drop, List.length_take]; rfl)) ?_; (with_reducible refine (number_Sum.calls a0 a1 t213 t214 _ A20.out).mono ?_); rintro e w65 ⟨rfl, hb⟩; refine ⟨_, rfl, ?_⟩; have n0_ := Aside0.mk (below_step (by repeat (first | (with_reducible first | exact HB.out | apply below_alloc | apply pw_below_drewN | apply below_drew1) | exact HB.out)) hb); clear HB; have HB := n0_; clear n0_; (try clear hb); (try clear hb2); (try clear hk); (try clear hi)))
                            all_goals first
                              | (exfalso; have A_ := c58b0; rw [c61b0] at A_; simp at A_; done)
                              | (exfalso; have A_ := c58b0; rw [c61b0] at A_; simp at A_; omega)
                              | (exfalso; have A_ := c58b0; rw [c61b0] at A_; simp at A_; rename_i hx_; simp at hx_; omega)
                              | (go_ret; exact ⟨by first | rfl | (simp [errW_none, errW_some] <;> rfl) | (simp [*, errW_none, errW_some] <;> rfl), by repeat (first | (with_reducible first | exact HB.out | apply below_alloc | apply pw_below_drewN | apply below_drew1) | exact HB.out)⟩)
                          · rw [if_neg c64] at H
                            have c64b0 : (t213 == 0) = false := beq_eq_false_iff_ne.mpr c64
                            have c64b1 : (t213 != 0) = true := bne_iff_ne.mpr c64
                            obtain rfl := Option.some.inj H
                            go_wp2_with (first | ((with_reducible refine gate_callee (f := 15) rfl ?_); refine goesL_ (some 51) rfl rfl Tryd.func15 (by kernel_rfl) rfl #[.int .i64 a0, .int .i64 a1] rfl (by (try simp only [List.map_toArray, List.map_cons, List.map_nil]); first | done | rfl | (simp only [List.length_drop, List.length_take]; rfl)) ?_; (with_reducible refine (number_Sum.calls a0 a1 t213 t214 _ A20.out).mono ?_); rintro e w66 ⟨rfl, hb⟩; refine ⟨_, rfl, ?_⟩; have n0_ := Aside0.mk (below_step (by repeat (first | (with_reducible first | exact HB.out | apply below_alloc | apply pw_below_drewN | apply below_drew1) | exact HB.out)) hb); clear HB; have HB := n0_; clear n0_; (try clear hb); (try clear hb2); (try clear hk); (try clear hi)))
                            all_goals first
                              | (exfalso; have A_ := c58b0; rw [c61b0] at A_; simp at A_; done)
                              | (exfalso; have A_ := c58b0; rw [c61b0] at A_; simp at A_; omega)
                              | (exfalso; have A_ := c58b0; rw [c61b0] at A_; simp at A_; rename_i hx_; simp at hx_; omega)
                              | (go_ret; exact ⟨by first | rfl | (simp [errW_none, errW_some] <;> rfl) | (simp [*, errW_none, errW_some] <;> rfl), by repeat (first | (with_reducible first | exact HB.out | apply below_alloc | apply pw_below_drewN | apply below_drew1) | exact HB.out)⟩)
                        · rw [if_neg c63] at H
                          have c63b0 : (t214 == 3) = false := beq_eq_false_iff_ne.mpr c63
                          have c63b1 : (t214 != 3) = true := bne_iff_ne.mpr c63
                          obtain rfl := Option.some.inj H
                          go_wp2_with (first | ((with_reducible refine gate_callee (f := 15) rfl ?_); refine goesL_ (some 51) rfl rfl Tryd.func15 (by kernel_rfl) rfl #[.int .i64 a0, .int .i64 a1] rfl (by (try simp only [List.map_toArray, List.map_cons, List.map_nil]); first | done | rfl | (simp only [List.length_drop, List.length_take]; rfl)) ?_; (with_reducible refine (number_Sum.calls a0 a1 t213 t214 _ A20.out).mono ?_); rintro e w67 ⟨rfl, hb⟩; refine ⟨_, rfl, ?_⟩; have n0_ := Aside0.mk (below_step (by repeat (first | (with_reducible first | exact HB.out | apply below_alloc | apply pw_below_drewN | apply below_drew1) | exact HB.out)) hb); clear HB; have HB := n0_; clear n0_; (try clear hb); (try clear hb2); (try clear hk); (try clear hi)))
                          all_goals first
                            | (exfalso; have A_ := c58b0; rw [c61b0] at A_; simp at A_; done)
                            | (exfalso; have A_ := c58b0; rw [c61b0] at A_; simp at A_; omega)
                            | (exfalso; have A_ := c58b0; rw [c61b0] at A_; simp at A_; rename_i hx_; simp at hx_; omega)
                            | (go_ret; exact ⟨by first | rfl | (simp [errW_none, errW_some] <;> rfl) | (simp [*, errW_none, errW_some] <;> rfl), by repeat (first | (with_reducible first | exact HB.out | apply below_alloc | apply pw_below_drewN | apply below_drew1) | exact HB.out)⟩)
                    · replace c60 := Bool.eq_false_iff.mpr c60
                      subst c60
                      have H1 : (some false) = some r := by rw [if_neg (show ¬ (false = true) by decide)] at H; exact H
                      clear H
                      have H := H1
                      clear H1
                      obtain rfl := Option.some.inj H
                      go_wp2_with (first | ((with_reducible refine gate_callee (f := 15) rfl ?_); refine goesL_ (some 51) rfl rfl Tryd.func15 (by kernel_rfl) rfl #[.int .i64 a0, .int .i64 a1] rfl (by (try simp only [List.map_toArray, List.map_cons, List.map_nil]); first | done | rfl | (simp only [List.length_drop, List.length_take]; rfl)) ?_; (with_reducible refine (number_Sum.calls a0 a1 t213 t214 _ A20.out).mono ?_); rintro e w68 ⟨rfl, hb⟩; refine ⟨_, rfl, ?_⟩; have n0_ := Aside0.mk (below_step (by repeat (first | (with_reducible first | exact HB.out | apply below_alloc | apply pw_below_drewN | apply below_drew1) | exact HB.out)) hb); clear HB; have HB := n0_; clear n0_; (try clear hb); (try clear hb2); (try clear hk); (try clear hi)))
                      all_goals (go_ret; exact ⟨by first | rfl | (simp [errW_none, errW_some] <;> rfl) | (simp [*, errW_none, errW_some] <;> rfl), by repeat (first | (with_reducible first | exact HB.out | apply below_alloc | apply pw_below_drewN | apply below_drew1) | exact HB.out)⟩)
                · rw [if_neg c57] at H
                  have c57b0 : decide (a1 < 0) = false := decide_eq_false c57
                  clear c57
                  by_cases c69 : (false != (t214 == 0)) = true
                  · rw [if_pos c69] at H
                    have c69b0 : (false != (t214 == 0)) = true := c69
                    (try (have c69b1 : decide (false = (t214 == 0)) = false := by simpa using c69))
                    (try (have c69b2 : (false == (t214 == 0)) = false := by simpa using c69))
                    (try (have c69b3 : ¬ (false = (t214 == 0)) := by simpa using c69))
                    clear c69
                    obtain rfl := Option.some.inj H
                    go_wp2_with (first | ((with_reducible refine gate_callee (f := 15) rfl ?_); refine goesL_ (some 51) rfl rfl Tryd.func15 (by kernel_rfl) rfl #[.int .i64 a0, .int .i64 a1] rfl (by (try simp only [List.map_toArray, List.map_cons, List.map_nil]); first | done | rfl | (simp only [List.length_drop, List.length_take]; rfl)) ?_; (with_reducible refine (number_Sum.calls a0 a1 t213 t214 _ A20.out).mono ?_); rintro e w70 ⟨rfl, hb⟩; refine ⟨_, rfl, ?_⟩; have n0_ := Aside0.mk (below_step (by repeat (first | (with_reducible first | exact HB.out | apply below_alloc | apply pw_below_drewN | apply below_drew1) | exact HB.out)) hb); clear HB; have HB := n0_; clear n0_; (try clear hb); (try clear hb2); (try clear hk); (try clear hi)))
                    all_goals (go_ret; exact ⟨by first | rfl | (simp [errW_none, errW_some] <;> rfl) | (simp [*, errW_none, errW_some] <;> rfl), by repeat (first | (with_reducible first | exact HB.out | apply below_alloc | apply pw_below_drewN | apply below_drew1) | exact HB.out)⟩)
                  · rw [if_neg c69] at H
                    have c69b0 : (false != (t214 == 0)) = false := by simpa using c69
                    (try (have c69b1 : decide (false = (t214 == 0)) = true := by simpa using c69))
                    (try (have c69b2 : (false == (t214 == 0)) = true := by simpa using c69))
                    clear c69
                    by_cases c71 : t205 = true
                    · subst c71
                      have H1 : (if t214 = 0 then (some (t213 == t206)) else (if t214 = 3 then (if t213 = 0 then (some true) else (some false)) else (some false))) = some r := by rw [if_pos rfl] at H; exact H
                      clear H
                      have H := H1
                      clear H1
                      by_cases c72 : t214 = 0
                      · rw [if_pos c72] at H
                        have c72b0 : (t214 == 0) = true := beq_iff_eq.mpr c72
                        have c72b1 : (t214 != 0) = false := bne_eq_false_iff_eq.mpr c72
                        clear c72
                        obtain rfl := Option.some.inj H
                        go_wp2_with (first | ((with_reducible refine gate_callee (f := 15) rfl ?_); refine goesL_ (some 51) rfl rfl Tryd.func15 (by kernel_rfl) rfl #[.int .i64 a0, .int .i64 a1] rfl (by (try simp only [List.map_toArray, List.map_cons, List.map_nil]); first | done | rfl | (simp only [List.length_drop, List.length_take]; rfl)) ?_; (with_reducible refine (number_Sum.calls a0 a1 t213 t214 _ A20.out).mono ?_); rintro e w73 ⟨rfl, hb⟩; refine ⟨_, rfl, ?_⟩; have n0_ := Aside0.mk (below_step (by repeat (first | (with_reducible first | exact HB.out | apply below_alloc | apply pw_below_drewN | apply below_drew1) | exact HB.out)) hb); clear HB; have HB := n0_; clear n0_; (try clear hb); (try clear hb2); (try clear hk); (try clear hi)))
                        all_goals first
                          | (exfalso; have A_ := c69b0; rw [c72b0] at A_; simp at A_; done)
                          | (exfalso; have A_ := c69b0; rw [c72b0] at A_; simp at A_; omega)
                          | (exfalso; have A_ := c69b0; rw [c72b0] at A_; simp at A_; rename_i hx_; simp at hx_; omega)
                          | (go_ret; exact ⟨by first | rfl | (simp [errW_none, errW_some] <;> rfl) | (simp [*, errW_none, errW_some] <;> rfl), by repeat (first | (with_reducible first | exact HB.out | apply below_alloc | apply pw_below_drewN | apply below_drew1) | exact HB.out)⟩)
                      · rw [if_neg c72] at H
                        have c72b0 : (t214 == 0) = false := beq_eq_false_iff_ne.mpr c72
                        have c72b1 : (t214 != 0) = true := bne_iff_ne.mpr c72
                        by_cases c74 : t214 = 3
                        · rw [if_pos c74] at H
                          have c74b0 : (t214 == 3) = true := beq_iff_eq.mpr c74
                          have c74b1 : (t214 != 3) = false := bne_eq_false_iff_eq.mpr c74
                          clear c74
                          by_cases c75 : t213 = 0
                          · rw [if_pos c75] at H
                            have c75b0 : (t213 == 0) = true := beq_iff_eq.mpr c75
                            have c75b1 : (t213 != 0) = false := bne_eq_false_iff_eq.mpr c75
                            clear c75
                            obtain rfl := Option.some.inj H
                            go_wp2_with (first | ((with_reducible refine gate_callee (f := 15) rfl ?_); refine goesL_ (some 51) rfl rfl Tryd.func15 (by kernel_rfl) rfl #[.int .i64 a0, .int .i64 a1] rfl (by (try simp only [List.map_toArray, List.map_cons, List.map_nil]); first | done | rfl | (simp only [List.length_drop, List.length_take]; rfl)) ?_; (with_reducible refine (number_Sum.calls a0 a1 t213 t214 _ A20.out).mono ?_); rintro e w76 ⟨rfl, hb⟩; refine ⟨_, rfl, ?_⟩; have n0_ := Aside0.mk (below_step (by repeat (first | (with_reducible first | exact HB.out | apply below_alloc | apply pw_below_drewN | apply below_drew1) | exact HB.out)) hb); clear HB; have HB := n0_; clear n0_; (try clear hb); (try clear hb2); (try clear hk); (try clear hi)))
                            all_goals first
                              | (exfalso; have A_ := c69b0; rw [c72b0] at A_; simp at A_; done)
                              | (exfalso; have A_ := c69b0; rw [c72b0] at A_; simp at A_; omega)
                              | (exfalso; have A_ := c69b0; rw [c72b0] at A_; simp at A_; rename_i hx_; simp at hx_; omega)
                              | (go_ret; exact ⟨by first | rfl | (simp [errW_none, errW_some] <;> rfl) | (simp [*, errW_none, errW_some] <;> rfl), by repeat (first | (with_reducible first | exact HB.out | apply below_alloc | apply pw_below_drewN | apply below_drew1) | exact HB.out)⟩)
                          · rw [if_neg c75] at H
                            have c75b0 : (t213 == 0) = false := beq_eq_false_iff_ne.mpr c75
                            have c75b1 : (t213 != 0) = true := bne_iff_ne.mpr c75
                            obtain rfl := Option.some.inj H
                            go_wp2_with (first | ((with_reducible refine gate_callee (f := 15) rfl ?_); refine goesL_ (some 51) rfl rfl Tryd.func15 (by kernel_rfl) rfl #[.int .i64 a0, .int .i64 a1] rfl (by (try simp only [List.map_toArray, List.map_cons, List.map_nil]); first | done | rfl | (simp only [List.length_drop, List.length_take]; rfl)) ?_; (with_reducible refine (number_Sum.calls a0 a1 t213 t214 _ A20.out).mono ?_); rintro e w77 ⟨rfl, hb⟩; refine ⟨_, rfl, ?_⟩; have n0_ := Aside0.mk (below_step (by repeat (first | (with_reducible first | exact HB.out | apply below_alloc | apply pw_below_drewN | apply below_drew1) | exact HB.out)) hb); clear HB; have HB := n0_; clear n0_; (try clear hb); (try clear hb2); (try clear hk); (try clear hi)))
                            all_goals first
                              | (exfalso; have A_ := c69b0; rw [c72b0] at A_; simp at A_; done)
                              | (exfalso; have A_ := c69b0; rw [c72b0] at A_; simp at A_; omega)
                              | (exfalso; have A_ := c69b0; rw [c72b0] at A_; simp at A_; rename_i hx_; simp at hx_; omega)
                              | (go_ret; exact ⟨by first | rfl | (simp [errW_none, errW_some] <;> rfl) | (simp [*, errW_none, errW_some] <;> rfl), by repeat (first | (with_reducible first | exact HB.out | apply below_alloc | apply pw_below_drewN | apply below_drew1) | exact HB.out)⟩)
                        · rw [if_neg c74] at H
                          have c74b0 : (t214 == 3) = false := beq_eq_false_iff_ne.mpr c74
                          have c74b1 : (t214 != 3) = true := bne_iff_ne.mpr c74
                          obtain rfl := Option.some.inj H
                          go_wp2_with (first | ((with_reducible refine gate_callee (f := 15) rfl ?_); refine goesL_ (some 51) rfl rfl Tryd.func15 (by kernel_rfl) rfl #[.int .i64 a0, .int .i64 a1] rfl (by (try simp only [List.map_toArray, List.map_cons, List.map_nil]); first | done | rfl | (simp only [List.length_drop, List.length_take]; rfl)) ?_; (with_reducible refine (number_Sum.calls a0 a1 t213 t214 _ A20.out).mono ?_); rintro e w78 ⟨rfl, hb⟩; refine ⟨_, rfl, ?_⟩; have n0_ := Aside0.mk (below_step (by repeat (first | (with_reducible first | exact HB.out | apply below_alloc | apply pw_below_drewN | apply below_drew1) | exact HB.out)) hb); clear HB; have HB := n0_; clear n0_; (try clear hb); (try clear hb2); (try clear hk); (try clear hi)))
                          all_goals first
                            | (exfalso; have A_ := c69b0; rw [c72b0] at A_; simp at A_; done)
                            | (exfalso; have A_ := c69b0; rw [c72b0] at A_; simp at A_; omega)
                            | (exfalso; have A_ := c69b0; rw [c72b0] at A_; simp at A_; rename_i hx_; simp at hx_; omega)
                            | (go_ret; exact ⟨by first | rfl | (simp [errW_none, errW_some] <;> rfl) | (simp [*, errW_none, errW_some] <;> rfl), by repeat (first | (with_reducible first | exact HB.out | apply below_alloc | apply pw_below_drewN | apply below_drew1) | exact HB.out)⟩)
                    · replace c71 := Bool.eq_false_iff.mpr c71
                      subst c71
                      have H1 : (some false) = some r := by rw [if_neg (show ¬ (false = true) by decide)] at H; exact H
                      clear H
                      have H := H1
                      clear H1
                      obtain rfl := Option.some.inj H
                      go_wp2_with (first | ((with_reducible refine gate_callee (f := 15) rfl ?_); refine goesL_ (some 51) rfl rfl Tryd.func15 (by kernel_rfl) rfl #[.int .i64 a0, .int .i64 a1] rfl (by (try simp only [List.map_toArray, List.map_cons, List.map_nil]); first | done | rfl | (simp only [List.length_drop, List.length_take]; rfl)) ?_; (with_reducible refine (number_Sum.calls a0 a1 t213 t214 _ A20.out).mono ?_); rintro e w79 ⟨rfl, hb⟩; refine ⟨_, rfl, ?_⟩; have n0_ := Aside0.mk (below_step (by repeat (first | (with_reducible first | exact HB.out | apply below_alloc | apply pw_below_drewN | apply below_drew1) | exact HB.out)) hb); clear HB; have HB := n0_; clear n0_; (try clear hb); (try clear hb2); (try clear hk); (try clear hi)))
                      all_goals (go_ret; exact ⟨by first | rfl | (simp [errW_none, errW_some] <;> rfl) | (simp [*, errW_none, errW_some] <;> rfl), by repeat (first | (with_reducible first | exact HB.out | apply below_alloc | apply pw_below_drewN | apply below_drew1) | exact HB.out)⟩)

/-- THE ONE PURE STATEMENT of armisticelaw01_NumberRing: yours. -/
def armisticelaw01_NumberRing.Pure : Prop := ∀ (a0 : Int) (a1 : Int) (a2 : Int), (Lit.int .i64 a0).wf = true → (Lit.int .i64 a1).wf = true → (Lit.int .i64 a2).wf = true → ∃ k, armisticelaw01_NumberRing.f k a0 a1 a2 = some true
theorem armisticelaw01_NumberRing.walk (P : armisticelaw01_NumberRing.Pure) (a0 : Int) (a1 : Int) (a2 : Int) (w : World) (w0 : (Lit.int .i64 a0).wf = true) (w1 : (Lit.int .i64 a1).wf = true) (w2 : (Lit.int .i64 a2).wf = true) (hG : GOk w) :
    Calls Tryd.prog 7 #[.int .i64 a0, .int .i64 a1, .int .i64 a2] w fun e w' => e = .returned (.bool true) ∧ Below w.heap.size w w' := by
  obtain ⟨k, h⟩ := P a0 a1 a2 w0 w1 w2
  refine (armisticelaw01_NumberRing.calls k a0 a1 a2 true w hG h).mono ?_
  rintro e w' ⟨rfl, hd⟩
  exact ⟨rfl, hd⟩

end Go.Proofs.YtnefpmgaklegnaaDoor.P
