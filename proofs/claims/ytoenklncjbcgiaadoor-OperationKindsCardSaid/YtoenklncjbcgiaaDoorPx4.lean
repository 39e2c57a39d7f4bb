/- Laid by a program of this session (wip/tools/xprint.py) after the kit's printer: functions of the translation as plain Lean functions, each with the proof that its call comes to just that. -/
import Derived.Test.YtoenklncjbcgiaaDoorPx0
import Derived.Test.YtoenklncjbcgiaaDoorPx3
import Derived.Test.YtoenklncjbcgiaaDoorEKind
import Derived.Test.YtoenklncjbcgiaaDoorEType
namespace Go.Proofs.YtoenklncjbcgiaaDoor.P
open Go.RowKit Go.Proofs.YtoenklncjbcgiaaDoorW.PrintWords Go.Proofs.YtoenklncjbcgiaaDoorW.PrintLast Go.Proofs.YtoenklncjbcgiaaDoorW.PrintMore
attribute [local go_sem] max2_int min2_int max_two min_two max_three min_three max_four min_four   -- for this text's walks alone
set_option linter.unusedVariables false
set_option linter.unusedSimpArgs false

/-! ### armisticelaw04_OperationKinds: function 6 -/
mutual
def armisticelaw04_OperationKinds.j0 : Nat → Int → Bool → Int → Int → ByteArray → Int → Bool → Option (Bool)
  | 0, _, _, _, _, _, _, _ => none
  | k + 1, x0, x3, x4, x5, x6, x7, x29 => if x29 = true then (if x3 = true then (if x5 = 6 then (if x7 = 6 then (if x4 = 0 then (some (x6.toList == ([] : List UInt8))) else (some false)) else (some false)) else (some false)) else (some false)) else ((operation_Kind.f x6).bind fun bt218 => (armisticelaw04_OperationKinds.l0 k x0 x3 x4 x5 x6 x7 bt218.1 bt218.2 1))
def armisticelaw04_OperationKinds.l0 : Nat → Int → Bool → Int → Int → ByteArray → Int → Int → Int → Int → Option (Bool)
  | 0, _, _, _, _, _, _, _, _, _ => none
  | k + 1, x0, x3, x4, x5, x6, x7, x8, x9, x10 => if x10 ≤ 15 then ((operation_Word.f x10).bind fun bt220 => (if bt220.2 = 0 then (if x10 = x0 then (armisticelaw04_OperationKinds.l0 k x0 x3 x4 x5 x6 x7 x8 x9 (wrap64 (x10 + 1))) else (if bt220.1.toList = x6.toList then (some false) else (armisticelaw04_OperationKinds.l0 k x0 x3 x4 x5 x6 x7 x8 x9 (wrap64 (x10 + 1))))) else (some false))) else (if x3 = true then (if x5 = 0 then (if x7 = 0 then (if x9 = 0 then (if x8 = x0 then (if x4 ≥ 1 then (some (decide (x4 ≤ 5))) else (some false)) else (some false)) else (some false)) else (some false)) else (some false)) else (some false))
end
def armisticelaw04_OperationKinds.f (k : Nat) (a0 : Int) : Option (Bool) := (armisticelaw04_OperationKnown.f k).bind fun t213 => ((operation_Type.f a0).bind fun bt214 => ((operation_Word.f a0).bind fun bt216 => (if a0 < 1 then (armisticelaw04_OperationKinds.j0 k a0 t213 bt214.1 bt214.2 bt216.1 bt216.2 true) else (armisticelaw04_OperationKinds.j0 k a0 t213 bt214.1 bt214.2 bt216.1 bt216.2 (decide (a0 > 15))))))
theorem armisticelaw04_OperationKinds.mono_l : ∀ k, (∀ y0 y1 y2 y3 y4 y5 y6, LeO (armisticelaw04_OperationKinds.j0 k y0 y1 y2 y3 y4 y5 y6) (armisticelaw04_OperationKinds.j0 (k + 1) y0 y1 y2 y3 y4 y5 y6)) ∧ (∀ y0 y1 y2 y3 y4 y5 y6 y7 y8, LeO (armisticelaw04_OperationKinds.l0 k y0 y1 y2 y3 y4 y5 y6 y7 y8) (armisticelaw04_OperationKinds.l0 (k + 1) y0 y1 y2 y3 y4 y5 y6 y7 y8))
  | 0 => ⟨fun _ _ _ _ _ _ _ r h => by simp [armisticelaw04_OperationKinds.j0] at h, fun _ _ _ _ _ _ _ _ _ r h => by simp [armisticelaw04_OperationKinds.l0] at h⟩
  | k + 1 => by
    obtain ⟨ih0, ih1⟩ := armisticelaw04_OperationKinds.mono_l k
    refine ⟨?_, ?_⟩
    · intro y0 y1 y2 y3 y4 y5 y6
      unfold armisticelaw04_OperationKinds.j0
      repeat' first
      | (with_reducible exact ih0 _ _ _ _ _ _ _)
      | (with_reducible exact ih1 _ _ _ _ _ _ _ _ _)
      | (with_reducible exact armisticelaw04_OperationKnown.mono _)
      | (with_reducible exact LeO.refl _)
      | (with_reducible exact LeO.none _)
      | (with_reducible refine LeO.ite ?_ ?_)
      | (with_reducible refine LeO.bind ?_ (fun _ => ?_))
      | exact ih0 _ _ _ _ _ _ _
      | exact ih1 _ _ _ _ _ _ _ _ _
      | exact armisticelaw04_OperationKnown.mono _
      | exact LeO.none _
      | refine LeO.ite ?_ ?_
      | refine LeO.bind ?_ (fun _ => ?_)
    · intro y0 y1 y2 y3 y4 y5 y6 y7 y8
      unfold armisticelaw04_OperationKinds.l0
      repeat' first
      | (with_reducible exact ih0 _ _ _ _ _ _ _)
      | (with_reducible exact ih1 _ _ _ _ _ _ _ _ _)
      | (with_reducible exact armisticelaw04_OperationKnown.mono _)
      | (with_reducible exact LeO.refl _)
      | (with_reducible exact LeO.none _)
      | (with_reducible refine LeO.ite ?_ ?_)
      | (with_reducible refine LeO.bind ?_ (fun _ => ?_))
      | exact ih0 _ _ _ _ _ _ _
      | exact ih1 _ _ _ _ _ _ _ _ _
      | exact armisticelaw04_OperationKnown.mono _
      | exact LeO.none _
      | refine LeO.ite ?_ ?_
      | refine LeO.bind ?_ (fun _ => ?_)
theorem armisticelaw04_OperationKinds.mono : ∀ a0 k, LeO (armisticelaw04_OperationKinds.f k a0) (armisticelaw04_OperationKinds.f (k + 1) a0) := by
  intro a0 k
  obtain ⟨ih0, ih1⟩ := armisticelaw04_OperationKinds.mono_l k
  unfold armisticelaw04_OperationKinds.f
  repeat' first
      | (with_reducible exact ih0 _ _ _ _ _ _ _)
      | (with_reducible exact ih1 _ _ _ _ _ _ _ _ _)
      | (with_reducible exact armisticelaw04_OperationKnown.mono _)
      | (with_reducible exact LeO.refl _)
      | (with_reducible exact LeO.none _)
      | (with_reducible refine LeO.ite ?_ ?_)
      | (with_reducible refine LeO.bind ?_ (fun _ => ?_))
      | exact ih0 _ _ _ _ _ _ _
      | exact ih1 _ _ _ _ _ _ _ _ _
      | exact armisticelaw04_OperationKnown.mono _
      | exact LeO.none _
      | refine LeO.ite ?_ ?_
      | refine LeO.bind ?_ (fun _ => ?_)
set_option maxHeartbeats 8000000 in
set_option maxRecDepth 100000 in
theorem armisticelaw04_OperationKinds.calls (k : Nat) (a0 : Int) (r : Bool) (w : World) (hG : GOk w) (h : armisticelaw04_OperationKinds.f k a0 = some r) :
    Calls Tryd.prog 6 #[.int .i64 a0] w fun e w' => e = .returned (.bool r) ∧ Below w.heap.size w w' := by
  have HG := Aside0.mk hG
  clear hG
  have HB := Aside0.mk (Below.refl w.heap.size w)
  have H : ((armisticelaw04_OperationKnown.f k).bind fun t213 => ((operation_Type.f a0).bind fun bt214 => ((operation_Word.f a0).bind fun bt216 => (if a0 < 1 then (armisticelaw04_OperationKinds.j0 k a0 t213 bt214.1 bt214.2 bt216.1 bt216.2 true) else (armisticelaw04_OperationKinds.j0 k a0 t213 bt214.1 bt214.2 bt216.1 bt216.2 (decide (a0 > 15))))))) = some r := h
  clear h
  replace H := Option.bind_eq_some_iff.mp H
  obtain ⟨t213, A20, H⟩ := H
  replace H : ((operation_Type.f a0).bind fun bt214 => ((operation_Word.f a0).bind fun bt216 => (if a0 < 1 then (armisticelaw04_OperationKinds.j0 k a0 t213 bt214.1 bt214.2 bt216.1 bt216.2 true) else (armisticelaw04_OperationKinds.j0 k a0 t213 bt214.1 bt214.2 bt216.1 bt216.2 (decide (a0 > 15)))))) = some r := H
  have A2 := Aside0.mk A20
  clear A20
  replace H := Option.bind_eq_some_iff.mp H
  obtain ⟨⟨t214, t215⟩, A30, H⟩ := H
  replace H : ((operation_Word.f a0).bind fun bt216 => (if a0 < 1 then (armisticelaw04_OperationKinds.j0 k a0 t213 t214 t215 bt216.1 bt216.2 true) else (armisticelaw04_OperationKinds.j0 k a0 t213 t214 t215 bt216.1 bt216.2 (decide (a0 > 15))))) = some r := H
  have A3 := Aside0.mk A30
  clear A30
  replace H := Option.bind_eq_some_iff.mp H
  obtain ⟨⟨t216, t217⟩, A40, H⟩ := H
  replace H : (if a0 < 1 then (armisticelaw04_OperationKinds.j0 k a0 t213 t214 t215 t216 t217 true) else (armisticelaw04_OperationKinds.j0 k a0 t213 t214 t215 t216 t217 (decide (a0 > 15)))) = some r := H
  have A4 := Aside0.mk A40
  clear A40
  have HC5 := Aside0.mk H
  clear H
  go_enter Tryd.func6, Tryd.ntmps6
  go_upto_region 4 with (first | ((with_reducible refine gate_callee (f := 4) rfl ?_); refine goesL_ (some 13) rfl rfl Tryd.func4 (by kernel_rfl) rfl #[] rfl (by (try simp only [List.map_toArray, List.map_cons, List.map_nil]); first | done | rfl | (simp only [List.length_drop, List.length_take]; rfl)) ?_; (with_reducible refine (armisticelaw04_OperationKnown.calls k  t213 _ ?side1 A2.out).mono ?_); (case side1 => exact GOk.below HG.out (by repeat (first | (with_reducible first | exact HB.out | apply below_alloc | apply pw_below_drewN | apply below_drew1) | exact HB.out))); rintro e w6 ⟨rfl, hb⟩; refine ⟨_, rfl, ?_⟩; have n0_ := Aside0.mk (below_step (by repeat (first | (with_reducible first | exact HB.out | apply below_alloc | apply pw_below_drewN | apply below_drew1) | exact HB.out)) hb); clear HB; have HB := n0_; clear n0_; (try clear hb); (try clear hb2); (try clear hk); (try clear hi)) | ((with_reducible refine gate_callee (f := 16) rfl ?_); refine goesL_ (some 16) rfl rfl Tryd.func16 (by kernel_rfl) rfl #[.int .i64 a0] rfl (by (try simp only [List.map_toArray, List.map_cons, List.map_nil]); first | done | rfl | (simp only [List.length_drop, List.length_take]; rfl)) ?_; (with_reducible refine (operation_Type.calls a0 t214 t215 _ A3.out).mono ?_); rintro e w7 ⟨rfl, hb⟩; refine ⟨_, rfl, ?_⟩; have n0_ := Aside0.mk (below_step (by repeat (first | (with_reducible first | exact HB.out | apply below_alloc | apply pw_below_drewN | apply below_drew1) | exact HB.out)) hb); clear HB; have HB := n0_; clear n0_; (try clear hb); (try clear hb2); (try clear hk); (try clear hi)) | ((with_reducible refine gate_callee (f := 18) rfl ?_); refine goesL_ (some 21) rfl rfl Tryd.func18 (by kernel_rfl) rfl #[.int .i64 a0] rfl (by (try simp only [List.map_toArray, List.map_cons, List.map_nil]); first | done | rfl | (simp only [List.length_drop, List.length_take]; rfl)) ?_; (with_reducible refine (operation_Word.calls a0 t216 t217 _ A4.out).mono ?_); rintro e w8 ⟨rfl, hb⟩; refine ⟨_, rfl, ?_⟩; have n0_ := Aside0.mk (below_step (by repeat (first | (with_reducible first | exact HB.out | apply below_alloc | apply pw_below_drewN | apply below_drew1) | exact HB.out)) hb); clear HB; have HB := n0_; clear n0_; (try clear hb); (try clear hb2); (try clear hk); (try clear hi)))
  (try simp only [Act.put, List.setIfInBounds_toArray, List.set_cons_zero, List.set_cons_succ])
  go_cut [29] (fun v29 wc => ∃ (kq : Nat) (x29_4 : Bool), v29 = .bool x29_4 ∧ Aside0 (armisticelaw04_OperationKinds.j0 kq a0 t213 t214 t215 t216 t217 x29_4 = some r) ∧ Aside0 (kq ≤ k) ∧ Aside0 (Below w.heap.size w wc))
  case first =>
    have H := HC5.out
    clear HC5
    by_cases c9 : a0 < 1
    · rw [if_pos c9] at H
      have c9b0 : decide (a0 < 1) = true := decide_eq_true c9
      clear c9
      (first | rw [c9b0] | (simp only [i64_w, i32_w]; rw [c9b0]) | skip)
      have H' := Aside0.mk H
      clear H
      go_wp2
      go_meet
      case rel => exact ⟨_, (true), (by first | rfl | (simp; done) | (simp [*]; done)), H', ⟨by first | omega | exact Nat.le_refl _⟩, ⟨by repeat (first | (with_reducible first | exact HB.out | apply below_alloc | apply pw_below_drewN | apply below_drew1) | exact HB.out)⟩⟩
    · rw [if_neg c9] at H
      have c9b0 : decide (a0 < 1) = false := decide_eq_false c9
      clear c9
      (first | rw [c9b0] | (simp only [i64_w, i32_w]; rw [c9b0]) | skip)
      have H' := Aside0.mk H
      clear H
      go_wp2
      go_meet
      case rel => exact ⟨_, (decide (a0 > 15)), (by first | rfl | (simp; done) | (simp [*]; done)), H', ⟨by first | omega | exact Nat.le_refl _⟩, ⟨by repeat (first | (with_reducible first | exact HB.out | apply below_alloc | apply pw_below_drewN | apply below_drew1) | exact HB.out)⟩⟩
  case rest =>
    clear HC5
    try clear c1
    try clear p2
    try clear c4
    try clear c6
    try clear c9
    try clear c9b0
    obtain ⟨kq, x29_4, rfl, HA, HJ4, HB⟩ := hcut
    cases kq with
    | zero => exact absurd HA.out (by simp [armisticelaw04_OperationKinds.j0])
    | succ kj4 =>
      have H := HA.out
      clear HA
      simp only [armisticelaw04_OperationKinds.j0] at H
      by_cases c10 : x29_4 = true
      · subst c10
        have H1 : (if t213 = true then (if t215 = 6 then (if t217 = 6 then (if t214 = 0 then (some (t216.toList == ([] : List UInt8))) else (some false)) else (some false)) else (some false)) else (some false)) = some r := by rw [if_pos rfl] at H; exact H
        clear H
        have H := H1
        clear H1
        by_cases c11 : t213 = true
        · subst c11
          have H1 : (if t215 = 6 then (if t217 = 6 then (if t214 = 0 then (some (t216.toList == ([] : List UInt8))) else (some false)) else (some false)) else (some false)) = some r := by rw [if_pos rfl] at H; exact H
          clear H
          have H := H1
          clear H1
          by_cases c12 : t215 = 6
          · rw [if_pos c12] at H
            have c12b0 : (t215 == 6) = true := beq_iff_eq.mpr c12
            have c12b1 : (t215 != 6) = false := bne_eq_false_iff_eq.mpr c12
            clear c12
            by_cases c13 : t217 = 6
            · rw [if_pos c13] at H
              have c13b0 : (t217 == 6) = true := beq_iff_eq.mpr c13
              have c13b1 : (t217 != 6) = false := bne_eq_false_iff_eq.mpr c13
              clear c13
              by_cases c14 : t214 = 0
              · rw [if_pos c14] at H
                have c14b0 : (t214 == 0) = true := beq_iff_eq.mpr c14
                have c14b1 : (t214 != 0) = false := bne_eq_false_iff_eq.mpr c14
                clear c14
                obtain rfl := Option.some.inj H
                go_wp2
                go_ret
                exact ⟨by first | rfl | (simp [errW_none, errW_some] <;> rfl) | (simp [*, errW_none, errW_some] <;> rfl), by repeat (first | (with_reducible first | exact HB.out | apply below_alloc | apply pw_below_drewN | apply below_drew1) | exact HB.out)⟩
              · rw [if_neg c14] at H
                have c14b0 : (t214 == 0) = false := beq_eq_false_iff_ne.mpr c14
                have c14b1 : (t214 != 0) = true := bne_iff_ne.mpr c14
                obtain rfl := Option.some.inj H
                go_wp2
                go_ret
                exact ⟨by first | rfl | (simp [errW_none, errW_some] <;> rfl) | (simp [*, errW_none, errW_some] <;> rfl), by repeat (first | (with_reducible first | exact HB.out | apply below_alloc | apply pw_below_drewN | apply below_drew1) | exact HB.out)⟩
            · rw [if_neg c13] at H
              have c13b0 : (t217 == 6) = false := beq_eq_false_iff_ne.mpr c13
              have c13b1 : (t217 != 6) = true := bne_iff_ne.mpr c13
              obtain rfl := Option.some.inj H
              go_wp2
              go_ret
              exact ⟨by first | rfl | (simp [errW_none, errW_some] <;> rfl) | (simp [*, errW_none, errW_some] <;> rfl), by repeat (first | (with_reducible first | exact HB.out | apply below_alloc | apply pw_below_drewN | apply below_drew1) | exact HB.out)⟩
          · rw [if_neg c12] at H
            have c12b0 : (t215 == 6) = false := beq_eq_false_iff_ne.mpr c12
            have c12b1 : (t215 != 6) = true := bne_iff_ne.mpr c12
            obtain rfl := Option.some.inj H
            go_wp2
            go_ret
            exact ⟨by first | rfl | (simp [errW_none, errW_some] <;> rfl) | (simp [*, errW_none, errW_some] <;> rfl), by repeat (first | (with_reducible first | exact HB.out | apply below_alloc | apply pw_below_drewN | apply below_drew1) | exact HB.out)⟩
        · replace c11 := Bool.eq_false_iff.mpr c11
          subst c11
          have H1 : (some false) = some r := by rw [if_neg (show ¬ (false = true) by decide)] at H; exact H
          clear H
          have H := H1
          clear H1
          obtain rfl := Option.some.inj H
          go_wp2
          go_ret
          exact ⟨by first | rfl | (simp [errW_none, errW_some] <;> rfl) | (simp [*, errW_none, errW_some] <;> rfl), by repeat (first | (with_reducible first | exact HB.out | apply below_alloc | apply pw_below_drewN | apply below_drew1) | exact HB.out)⟩
      · replace c10 := Bool.eq_false_iff.mpr c10
        subst c10
        have H1 : ((operation_Kind.f t216).bind fun bt218 => (armisticelaw04_OperationKinds.l0 kj4 a0 t213 t214 t215 t216 t217 bt218.1 bt218.2 1)) = some r := by rw [if_neg (show ¬ (false = true) by decide)] at H; exact H
        clear H
        have H := H1
        clear H1
        replace H := Option.bind_eq_some_iff.mp H
        obtain ⟨⟨t218, t219⟩, A150, H⟩ := H
        replace H : (armisticelaw04_OperationKinds.l0 kj4 a0 t213 t214 t215 t216 t217 t218 t219 1) = some r := H
        have A15 := Aside0.mk A150
        clear A150
        have H' := Aside0.mk H
        clear H
        go_wp2_with (first | ((with_reducible refine gate_callee (f := 20) rfl ?_); refine goesL_ (some 49) rfl rfl Tryd.func20 (by kernel_rfl) rfl #[.string t216] rfl (by (try simp only [List.map_toArray, List.map_cons, List.map_nil]); first | done | rfl | (simp only [List.length_drop, List.length_take]; rfl)) ?_; (with_reducible refine (operation_Kind.calls t216 t218 t219 _ A15.out).mono ?_); rintro e w16 ⟨rfl, hb⟩; refine ⟨_, rfl, ?_⟩; have n0_ := Aside0.mk (below_step (by repeat (first | (with_reducible first | exact HB.out | apply below_alloc | apply pw_below_drewN | apply below_drew1) | exact HB.out)) hb); clear HB; have HB := n0_; clear n0_; (try clear hb); (try clear hb2); (try clear hk); (try clear hi)))
        go_loopg [10] kj4 (fun kq v10 w' => ∃ (x10_2 : Int), v10 = .int .i64 x10_2 ∧ Aside0 (armisticelaw04_OperationKinds.l0 kq a0 t213 t214 t215 t216 t217 t218 t219 x10_2 = some r) ∧ Aside0 (kq ≤ kj4) ∧ Aside0 (Below w.heap.size w w'))
        case atStart => exact ⟨(1), (by first | rfl | (simp; done) | (simp [*]; done)), H', ⟨Nat.le_refl _⟩, ⟨by repeat (first | (with_reducible first | exact HB.out | apply below_alloc | apply pw_below_drewN | apply below_drew1) | exact HB.out)⟩⟩
        case round =>
          clear H'
          try clear c1
          try clear c2
          try clear p2
          try clear c4
          try clear c6
          try clear c9
          try clear c9b0
          try clear c10
          try clear c11
          try clear c12
          try clear c12b0
          try clear c12b1
          try clear c13
          try clear c13b0
          try clear c13b1
          try clear c14
          try clear c14b0
          try clear c14b1
          try clear c16
          try clear p2
          obtain ⟨x10_2, rfl, HA, HK2, HB⟩ := hrel
          cases gk with
          | zero => exact absurd HA.out (by simp [armisticelaw04_OperationKinds.l0])
          | succ k2 =>
            have H := HA.out
            clear HA
            simp only [armisticelaw04_OperationKinds.l0] at H
            by_cases c17 : x10_2 ≤ 15
            · rw [if_pos c17] at H
              have c17b0 : decide (x10_2 ≤ 15) = true := decide_eq_true c17
              clear c17
              replace H := Option.bind_eq_some_iff.mp H
              obtain ⟨⟨t220, t221⟩, A180, H⟩ := H
              replace H : (if t221 = 0 then (if x10_2 = a0 then (armisticelaw04_OperationKinds.l0 k2 a0 t213 t214 t215 t216 t217 t218 t219 (wrap64 (x10_2 + 1))) else (if t220.toList = t216.toList then (some false) else (armisticelaw04_OperationKinds.l0 k2 a0 t213 t214 t215 t216 t217 t218 t219 (wrap64 (x10_2 + 1))))) else (some false)) = some r := H
              have A18 := Aside0.mk A180
              clear A180
              by_cases c19 : t221 = 0
              · rw [if_pos c19] at H
                have c19b0 : (t221 == 0) = true := beq_iff_eq.mpr c19
                have c19b1 : (t221 != 0) = false := bne_eq_false_iff_eq.mpr c19
                clear c19
                by_cases c20 : x10_2 = a0
                · rw [if_pos c20] at H
                  have c20b0 : (x10_2 == a0) = true := beq_iff_eq.mpr c20
                  have c20b1 : (x10_2 != a0) = false := bne_eq_false_iff_eq.mpr c20
                  clear c20
                  have H' := Aside0.mk H
                  clear H
                  go_wp2_with (first | ((with_reducible refine gate_callee (f := 18) rfl ?_); refine goesL_ (some 58) rfl rfl Tryd.func18 (by kernel_rfl) rfl #[.int .i64 x10_2] rfl (by (try simp only [List.map_toArray, List.map_cons, List.map_nil]); first | done | rfl | (simp only [List.length_drop, List.length_take]; rfl)) ?_; (with_reducible refine (operation_Word.calls x10_2 t220 t221 _ A18.out).mono ?_); rintro e w21 ⟨rfl, hb⟩; refine ⟨_, rfl, ?_⟩; have n0_ := Aside0.mk (below_step (by repeat (first | (with_reducible first | exact HB.out | apply below_alloc | apply pw_below_drewN | apply below_drew1) | exact HB.out)) hb); clear HB; have HB := n0_; clear n0_; (try clear hb); (try clear hb2); (try clear hk); (try clear hi)))
                  go_roundg k2
                  case measure => have := HJ4.out; have := HK2.out; omega
                  case rel => exact ⟨(wrap64 (x10_2 + 1)), (by first | rfl | (simp; done) | (simp [*]; done)), H', ⟨by have := HJ4.out; have := HK2.out; omega⟩, ⟨by repeat (first | (with_reducible first | exact HB.out | apply below_alloc | apply pw_below_drewN | apply below_drew1) | exact HB.out)⟩⟩
                · rw [if_neg c20] at H
                  have c20b0 : (x10_2 == a0) = false := beq_eq_false_iff_ne.mpr c20
                  have c20b1 : (x10_2 != a0) = true := bne_iff_ne.mpr c20
                  by_cases c22 : t220.toList = t216.toList
                  · rw [if_pos c22] at H
                    have c22b0 : (t220.toList == t216.toList) = true := beq_iff_eq.mpr c22
                    have c22b1 : (t220.toList != t216.toList) = false := bne_eq_false_iff_eq.mpr c22
                    clear c22
                    obtain rfl := Option.some.inj H
                    go_wp2_with (first | ((with_reducible refine gate_callee (f := 18) rfl ?_); refine goesL_ (some 58) rfl rfl Tryd.func18 (by kernel_rfl) rfl #[.int .i64 x10_2] rfl (by (try simp only [List.map_toArray, List.map_cons, List.map_nil]); first | done | rfl | (simp only [List.length_drop, List.length_take]; rfl)) ?_; (with_reducible refine (operation_Word.calls x10_2 t220 t221 _ A18.out).mono ?_); rintro e w23 ⟨rfl, hb⟩; refine ⟨_, rfl, ?_⟩; have n0_ := Aside0.mk (below_step (by repeat (first | (with_reducible first | exact HB.out | apply below_alloc | apply pw_below_drewN | apply below_drew1) | exact HB.out)) hb); clear HB; have HB := n0_; clear n0_; (try clear hb); (try clear hb2); (try clear hk); (try clear hi)))
                    go_ret
                    exact ⟨by first | rfl | (simp [errW_none, errW_some] <;> rfl) | (simp [*, errW_none, errW_some] <;> rfl), by repeat (first | (with_reducible first | exact HB.out | apply below_alloc | apply pw_below_drewN | apply below_drew1) | exact HB.out)⟩
                  · rw [if_neg c22] at H
                    have c22b0 : (t220.toList == t216.toList) = false := beq_eq_false_iff_ne.mpr c22
                    have c22b1 : (t220.toList != t216.toList) = true := bne_iff_ne.mpr c22
                    have H' := Aside0.mk H
                    clear H
                    go_wp2_with (first | ((with_reducible refine gate_callee (f := 18) rfl ?_); refine goesL_ (some 58) rfl rfl Tryd.func18 (by kernel_rfl) rfl #[.int .i64 x10_2] rfl (by (try simp only [List.map_toArray, List.map_cons, List.map_nil]); first | done | rfl | (simp only [List.length_drop, List.length_take]; rfl)) ?_; (with_reducible refine (operation_Word.calls x10_2 t220 t221 _ A18.out).mono ?_); rintro e w24 ⟨rfl, hb⟩; refine ⟨_, rfl, ?_⟩; have n0_ := Aside0.mk (below_step (by repeat (first | (with_reducible first | exact HB.out | apply below_alloc | apply pw_below_drewN | apply below_drew1) | exact HB.out)) hb); clear HB; have HB := n0_; clear n0_; (try clear hb); (try clear hb2); (try clear hk); (try clear hi)))
                    go_roundg k2
                    case measure => have := HJ4.out; have := HK2.out; omega
                    case rel => exact ⟨(wrap64 (x10_2 + 1)), (by first | rfl | (simp; done) | (simp [*]; done)), H', ⟨by have := HJ4.out; have := HK2.out; omega⟩, ⟨by repeat (first | (with_reducible first | exact HB.out | apply below_alloc | apply pw_below_drewN | apply below_drew1) | exact HB.out)⟩⟩
              · rw [if_neg c19] at H
                have c19b0 : (t221 == 0) = false := beq_eq_false_iff_ne.mpr c19
                have c19b1 : (t221 != 0) = true := bne_iff_ne.mpr c19
                obtain rfl := Option.some.inj H
                go_wp2_with (first | ((with_reducible refine gate_callee (f := 18) rfl ?_); refine goesL_ (some 58) rfl rfl Tryd.func18 (by kernel_rfl) rfl #[.int .i64 x10_2] rfl (by (try simp only [List.map_toArray, List.map_cons, List.map_nil]); first | done | rfl | (simp only [List.length_drop, List.length_take]; rfl)) ?_; (with_reducible refine (operation_Word.calls x10_2 t220 t221 _ A18.out).mono ?_); rintro e w25 ⟨rfl, hb⟩; refine ⟨_, rfl, ?_⟩; have n0_ := Aside0.mk (below_step (by repeat (first | (with_reducible first | exact HB.out | apply below_alloc | apply pw_below_drewN | apply below_drew1) | exact HB.out)) hb); clear HB; have HB := n0_; clear n0_; (try clear hb); (try clear hb2); (try clear hk); (try clear hi)))
                go_ret
                exact ⟨by first | rfl | (simp [errW_none, errW_some] <;> rfl) | (simp [*, errW_none, errW_some] <;> rfl), by repeat (first | (with_reducible first | exact HB.out | apply below_alloc | apply pw_below_drewN | apply below_drew1) | exact HB.out)⟩
            · rw [if_neg c17] at H
              have c17b0 : decide (x10_2 ≤ 15) = false := decide_eq_false c17
              clear c17
              by_cases c26 : t213 = true
              · subst c26
                have H1 : (if t215 = 0 then (if t217 = 0 then (if t219 = 0 then (if t218 = a0 then (if t214 ≥ 1 then (some (decide (t214 ≤ 5))) else (some false)) else (some false)) else (some false)) else (some false)) else (some false)) = some r := by rw [if_pos rfl] at H; exact H
                clear H
                have H := H1
                clear H1
                by_cases c27 : t215 = 0
                · rw [if_pos c27] at H
                  have c27b0 : (t215 == 0) = true := beq_iff_eq.mpr c27
                  have c27b1 : (t215 != 0) = false := bne_eq_false_iff_eq.mpr c27
                  clear c27
                  by_cases c28 : t217 = 0
                  · rw [if_pos c28] at H
                    have c28b0 : (t217 == 0) = true := beq_iff_eq.mpr c28
                    have c28b1 : (t217 != 0) = false := bne_eq_false_iff_eq.mpr c28
                    clear c28
                    by_cases c29 : t219 = 0
                    · rw [if_pos c29] at H
                      have c29b0 : (t219 == 0) = true := beq_iff_eq.mpr c29
                      have c29b1 : (t219 != 0) = false := bne_eq_false_iff_eq.mpr c29
                      clear c29
                      by_cases c30 : t218 = a0
                      · rw [if_pos c30] at H
                        have c30b0 : (t218 == a0) = true := beq_iff_eq.mpr c30
                        have c30b1 : (t218 != a0) = false := bne_eq_false_iff_eq.mpr c30
                        clear c30
                        by_cases c31 : t214 ≥ 1
                        · rw [if_pos c31] at H
                          have c31b0 : decide (1 ≤ t214) = true := decide_eq_true c31
                          clear c31
                          obtain rfl := Option.some.inj H
                          go_wp2
                          go_ret
                          exact ⟨by first | rfl | (simp [errW_none, errW_some] <;> rfl) | (simp [*, errW_none, errW_some] <;> rfl), by repeat (first | (with_reducible first | exact HB.out | apply below_alloc | apply pw_below_drewN | apply below_drew1) | exact HB.out)⟩
                        · rw [if_neg c31] at H
                          have c31b0 : decide (1 ≤ t214) = false := decide_eq_false c31
                          clear c31
                          obtain rfl := Option.some.inj H
                          go_wp2
                          go_ret
                          exact ⟨by first | rfl | (simp [errW_none, errW_some] <;> rfl) | (simp [*, errW_none, errW_some] <;> rfl), by repeat (first | (with_reducible first | exact HB.out | apply below_alloc | apply pw_below_drewN | apply below_drew1) | exact HB.out)⟩
                      · rw [if_neg c30] at H
                        have c30b0 : (t218 == a0) = false := beq_eq_false_iff_ne.mpr c30
                        have c30b1 : (t218 != a0) = true := bne_iff_ne.mpr c30
                        obtain rfl := Option.some.inj H
                        go_wp2
                        go_ret
                        exact ⟨by first | rfl | (simp [errW_none, errW_some] <;> rfl) | (simp [*, errW_none, errW_some] <;> rfl), by repeat (first | (with_reducible first | exact HB.out | apply below_alloc | apply pw_below_drewN | apply below_drew1) | exact HB.out)⟩
                    · rw [if_neg c29] at H
                      have c29b0 : (t219 == 0) = false := beq_eq_false_iff_ne.mpr c29
                      have c29b1 : (t219 != 0) = true := bne_iff_ne.mpr c29
                      obtain rfl := Option.some.inj H
                      go_wp2
                      go_ret
                      exact ⟨by first | rfl | (simp [errW_none, errW_some] <;> rfl) | (simp [*, errW_none, errW_some] <;> rfl), by repeat (first | (with_reducible first | exact HB.out | apply below_alloc | apply pw_below_drewN | apply below_drew1) | exact HB.out)⟩
                  · rw [if_neg c28] at H
                    have c28b0 : (t217 == 0) = false := beq_eq_false_iff_ne.mpr c28
                    have c28b1 : (t217 != 0) = true := bne_iff_ne.mpr c28
                    obtain rfl := Option.some.inj H
                    go_wp2
                    go_ret
                    exact ⟨by first | rfl | (simp [errW_none, errW_some] <;> rfl) | (simp [*, errW_none, errW_some] <;> rfl), by repeat (first | (with_reducible first | exact HB.out | apply below_alloc | apply pw_below_drewN | apply below_drew1) | exact HB.out)⟩
                · rw [if_neg c27] at H
                  have c27b0 : (t215 == 0) = false := beq_eq_false_iff_ne.mpr c27
                  have c27b1 : (t215 != 0) = true := bne_iff_ne.mpr c27
                  obtain rfl := Option.some.inj H
                  go_wp2
                  go_ret
                  exact ⟨by first | rfl | (simp [errW_none, errW_some] <;> rfl) | (simp [*, errW_none, errW_some] <;> rfl), by repeat (first | (with_reducible first | exact HB.out | apply below_alloc | apply pw_below_drewN | apply below_drew1) | exact HB.out)⟩
              · replace c26 := Bool.eq_false_iff.mpr c26
                subst c26
                have H1 : (some false) = some r := by rw [if_neg (show ¬ (false = true) by decide)] at H; exact H
                clear H
                have H := H1
                clear H1
                obtain rfl := Option.some.inj H
                go_wp2
                go_ret
                exact ⟨by first | rfl | (simp [errW_none, errW_some] <;> rfl) | (simp [*, errW_none, errW_some] <;> rfl), by repeat (first | (with_reducible first | exact HB.out | apply below_alloc | apply pw_below_drewN | apply below_drew1) | exact HB.out)⟩

/-- THE ONE PURE STATEMENT of armisticelaw04_OperationKinds: yours. -/
def armisticelaw04_OperationKinds.Pure : Prop := ∀ (a0 : Int), (Lit.int .i64 a0).wf = true → ∃ k, armisticelaw04_OperationKinds.f k a0 = some true
theorem armisticelaw04_OperationKinds.walk (P : armisticelaw04_OperationKinds.Pure) (a0 : Int) (w : World) (w0 : (Lit.int .i64 a0).wf = true) (hG : GOk w) :
    Calls Tryd.prog 6 #[.int .i64 a0] w fun e w' => e = .returned (.bool true) ∧ Below w.heap.size w w' := by
  obtain ⟨k, h⟩ := P a0 w0
  refine (armisticelaw04_OperationKinds.calls k a0 true w hG h).mono ?_
  rintro e w' ⟨rfl, hd⟩
  exact ⟨rfl, hd⟩

end Go.Proofs.YtoenklncjbcgiaaDoor.P
