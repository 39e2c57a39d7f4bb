/- Laid by a program of this session (wip/tools/xprint.py) after the kit's printer: functions of the translation as plain Lean functions, each with the proof that its call comes to just that. -/
import Derived.Test.YtkjnbfjbdlcehaaGreatDoorPx0
import Derived.Test.YtkjnbfjbdlcehaaGreatDoorPx3
import Derived.Test.YtkjnbfjbdlcehaaGreatDoorEAwake12
import Derived.Test.YtkjnbfjbdlcehaaGreatDoorEPrint
namespace Go.Proofs.YtkjnbfjbdlcehaaGreatDoor.P
open Go.RowKit Go.Proofs.YtkjnbfjbdlcehaaGreatDoorW.PrintWords Go.Proofs.YtkjnbfjbdlcehaaGreatDoorW.PrintLast Go.Proofs.YtkjnbfjbdlcehaaGreatDoorW.PrintMore
attribute [local go_sem] max2_int min2_int max_two min_two max_three min_three max_four min_four   -- for this text's walks alone
set_option linter.unusedVariables false
set_option linter.unusedSimpArgs false

/-! ### armisticelaw12_GrammarKnown: function 6 -/
mutual
def armisticelaw12_GrammarKnown.j0 : Nat → Bool → Option (Bool)
 | 0, _ => none
 | k + 1, x1 => (armisticelaw12_fails.f (⟨#[111, 112, 32, 116]⟩ : ByteArray) 5 4).bind fun t155 => (if t155 = true then ((armisticelaw12_fails.f (⟨#[111, 112, 32, 116, 32, 97]⟩ : ByteArray) 5 6).bind fun t156 => (if t156 = true then ((armisticelaw12_fails.f (⟨#[111, 112, 32, 116, 32, 97, 32, 97, 100, 100, 32, 120, 32, 45, 62, 32, 111, 107]⟩ : ByteArray) 5 11).bind fun t157 => (if t157 = true then ((armisticelaw12_fails.f (⟨#[111, 112, 32, 116, 32, 97, 32, 97, 100, 100, 32, 49, 32, 45, 62, 32, 49]⟩ : ByteArray) 9 16).bind fun t158 => (if t158 = true then ((armisticelaw12_fails.f (⟨#[111, 112, 32, 116, 32, 65, 32, 97, 100, 100]⟩ : ByteArray) 7 5).bind fun t159 => (armisticelaw12_GrammarKnown.j1 k x1 t159)) else (armisticelaw12_GrammarKnown.j1 k x1 false))) else (armisticelaw12_GrammarKnown.j1 k x1 false))) else (armisticelaw12_GrammarKnown.j1 k x1 false))) else (armisticelaw12_GrammarKnown.j1 k x1 false))
def armisticelaw12_GrammarKnown.j1 : Nat → Bool → Bool → Option (Bool)
 | 0, _, _ => none
 | k + 1, x1, x2 => (grammar_Line.f 2 (⟨#[116]⟩ : ByteArray) (⟨#[]⟩ : ByteArray) 0 0 0 0 0 0 0 ([] : List Int)).bind fun bt160 => ((grammar_Line.f 2 (⟨#[116]⟩ : ByteArray) (⟨#[97]⟩ : ByteArray) 0 0 0 0 0 0 0 ([] : List Int)).bind fun bt162 => ((grammar_Print.f ([] : List (S38))).bind fun bt164 => ((grammar_Line.f 6 (⟨#[116]⟩ : ByteArray) (⟨#[]⟩ : ByteArray) 0 0 0 0 0 0 0 ([] : List Int)).bind fun bt166 => ((armisticelaw12_awake.f).bind fun t168 => (if t168 = true then (if x1 = true then (if x2 = true then (if bt160.1.toList = ([98, 101, 103, 105, 110, 32, 116] : List UInt8) then (if bt160.2 = 0 then (if bt162.2 = 2 then (if bt164.1.toList = ([] : List UInt8) then (if bt164.2 = 0 then (some (bt166.2 == 6)) else (some false)) else (some false)) else (some false)) else (some false)) else (some false)) else (some false)) else (some false)) else (some false))))))
end
def armisticelaw12_GrammarKnown.f (k : Nat)  : Option (Bool) := (armisticelaw12_fails.f (⟨#[103, 111, 32, 116]⟩ : ByteArray) 6 0).bind fun t149 => (if t149 = true then ((armisticelaw12_fails.f (⟨#[98, 101, 103, 105, 110, 32, 84]⟩ : ByteArray) 7 6).bind fun t150 => (if t150 = true then ((armisticelaw12_fails.f (⟨#[98, 101, 103, 105, 110, 32, 116, 32, 117]⟩ : ByteArray) 5 8).bind fun t151 => (if t151 = true then ((armisticelaw12_fails.f (⟨#[111, 98, 106, 101, 99, 116, 32, 97]⟩ : ByteArray) 5 8).bind fun t152 => (if t152 = true then ((armisticelaw12_fails.f (⟨#[111, 98, 106, 101, 99, 116, 32, 97, 32, 115, 101, 116, 32, 50, 32, 49]⟩ : ByteArray) 5 9).bind fun t153 => (if t153 = true then ((armisticelaw12_fails.f (⟨#[111, 98, 106, 101, 99, 116, 32, 97, 32, 115, 101, 116, 115]⟩ : ByteArray) 6 9).bind fun t154 => (armisticelaw12_GrammarKnown.j0 k t154)) else (armisticelaw12_GrammarKnown.j0 k false))) else (armisticelaw12_GrammarKnown.j0 k false))) else (armisticelaw12_GrammarKnown.j0 k false))) else (armisticelaw12_GrammarKnown.j0 k false))) else (armisticelaw12_GrammarKnown.j0 k false))
theorem armisticelaw12_GrammarKnown.mono_l : ∀ k, (∀ y0, LeO (armisticelaw12_GrammarKnown.j0 k y0) (armisticelaw12_GrammarKnown.j0 (k + 1) y0)) ∧ (∀ y0 y1, LeO (armisticelaw12_GrammarKnown.j1 k y0 y1) (armisticelaw12_GrammarKnown.j1 (k + 1) y0 y1))
 | 0 => ⟨fun _ r h => by simp [armisticelaw12_GrammarKnown.j0] at h, fun _ _ r h => by simp [armisticelaw12_GrammarKnown.j1] at h⟩
 | k + 1 => by
  obtain ⟨ih0, ih1⟩ := armisticelaw12_GrammarKnown.mono_l k
  refine ⟨?_, ?_⟩
  ·intro y0
   unfold armisticelaw12_GrammarKnown.j0
   repeat' first
   | (with_reducible exact ih0 _)
   | (with_reducible exact ih1 _ _)
   | (with_reducible exact LeO.refl _)
   | (with_reducible exact LeO.none _)
   | (with_reducible refine LeO.ite ?_ ?_)
   | (with_reducible refine LeO.bind ?_ (fun _ => ?_))
   | exact ih0 _
   | exact ih1 _ _
   | exact LeO.none _
   | refine LeO.ite ?_ ?_
   | refine LeO.bind ?_ (fun _ => ?_)
  ·intro y0 y1
   unfold armisticelaw12_GrammarKnown.j1
   repeat' first
   | (with_reducible exact ih0 _)
   | (with_reducible exact ih1 _ _)
   | (with_reducible exact LeO.refl _)
   | (with_reducible exact LeO.none _)
   | (with_reducible refine LeO.ite ?_ ?_)
   | (with_reducible refine LeO.bind ?_ (fun _ => ?_))
   | exact ih0 _
   | exact ih1 _ _
   | exact LeO.none _
   | refine LeO.ite ?_ ?_
   | refine LeO.bind ?_ (fun _ => ?_)
theorem armisticelaw12_GrammarKnown.mono : ∀ k, LeO (armisticelaw12_GrammarKnown.f k ) (armisticelaw12_GrammarKnown.f (k + 1) ) := by
 intro  k
 obtain ⟨ih0, ih1⟩ := armisticelaw12_GrammarKnown.mono_l k
 unfold armisticelaw12_GrammarKnown.f
 repeat' first
   | (with_reducible exact ih0 _)
   | (with_reducible exact ih1 _ _)
   | (with_reducible exact LeO.refl _)
   | (with_reducible exact LeO.none _)
   | (with_reducible refine LeO.ite ?_ ?_)
   | (with_reducible refine LeO.bind ?_ (fun _ => ?_))
   | exact ih0 _
   | exact ih1 _ _
   | exact LeO.none _
   | refine LeO.ite ?_ ?_
   | refine LeO.bind ?_ (fun _ => ?_)
set_option maxHeartbeats 8000000 in
set_option maxRecDepth 100000 in
theorem armisticelaw12_GrammarKnown.calls (k : Nat)  (r : Bool) (hrt : r = true) (w : World) (hG : GOk w) (h : armisticelaw12_GrammarKnown.f k  = some r) :
  Calls Tryz.prog 6 #[] w fun e w' => e = .returned (.bool r) ∧ Below w.heap.size w w' := by
 have HRT := Aside0.mk hrt
 clear hrt
 have hu38 := Tryz.underlying38
 have HG := Aside0.mk hG
 clear hG
 have HB := Aside0.mk (Below.refl w.heap.size w)
 have H : ((armisticelaw12_fails.f (⟨#[103, 111, 32, 116]⟩ : ByteArray) 6 0).bind fun t149 => (if t149 = true then ((armisticelaw12_fails.f (⟨#[98, 101, 103, 105, 110, 32, 84]⟩ : ByteArray) 7 6).bind fun t150 => (if t150 = true then ((armisticelaw12_fails.f (⟨#[98, 101, 103, 105, 110, 32, 116, 32, 117]⟩ : ByteArray) 5 8).bind fun t151 => (if t151 = true then ((armisticelaw12_fails.f (⟨#[111, 98, 106, 101, 99, 116, 32, 97]⟩ : ByteArray) 5 8).bind fun t152 => (if t152 = true then ((armisticelaw12_fails.f (⟨#[111, 98, 106, 101, 99, 116, 32, 97, 32, 115, 101, 116, 32, 50, 32, 49]⟩ : ByteArray) 5 9).bind fun t153 => (if t153 = true then ((armisticelaw12_fails.f (⟨#[111, 98, 106, 101, 99, 116, 32, 97, 32, 115, 101, 116, 115]⟩ : ByteArray) 6 9).bind fun t154 => (armisticelaw12_GrammarKnown.j0 k t154)) else (armisticelaw12_GrammarKnown.j0 k false))) else (armisticelaw12_GrammarKnown.j0 k false))) else (armisticelaw12_GrammarKnown.j0 k false))) else (armisticelaw12_GrammarKnown.j0 k false))) else (armisticelaw12_GrammarKnown.j0 k false))) = some r := h
 clear h
 have HC1 := Aside0.mk H
 clear H
 go_enter Tryz.func6, Tryz.ntmps6
 go_upto_region 1 with (fail)
 go_cut [1] (fun v1 wc => ∃ (kq : Nat) (x1_0 : Bool), v1 = .bool x1_0 ∧ Aside0 (armisticelaw12_GrammarKnown.j0 kq x1_0 = some r) ∧ Aside0 (kq ≤ k) ∧ Aside0 (Below w.heap.size w wc))
 case first =>
  have H := HC1.out
  clear HC1
  replace H := Option.bind_eq_some_iff.mp H
  obtain ⟨t149, A20, H⟩ := H
  replace H : (if t149 = true then ((armisticelaw12_fails.f (⟨#[98, 101, 103, 105, 110, 32, 84]⟩ : ByteArray) 7 6).bind fun t150 => (if t150 = true then ((armisticelaw12_fails.f (⟨#[98, 101, 103, 105, 110, 32, 116, 32, 117]⟩ : ByteArray) 5 8).bind fun t151 => (if t151 = true then ((armisticelaw12_fails.f (⟨#[111, 98, 106, 101, 99, 116, 32, 97]⟩ : ByteArray) 5 8).bind fun t152 => (if t152 = true then ((armisticelaw12_fails.f (⟨#[111, 98, 106, 101, 99, 116, 32, 97, 32, 115, 101, 116, 32, 50, 32, 49]⟩ : ByteArray) 5 9).bind fun t153 => (if t153 = true then ((armisticelaw12_fails.f (⟨#[111, 98, 106, 101, 99, 116, 32, 97, 32, 115, 101, 116, 115]⟩ : ByteArray) 6 9).bind fun t154 => (armisticelaw12_GrammarKnown.j0 k t154)) else (armisticelaw12_GrammarKnown.j0 k false))) else (armisticelaw12_GrammarKnown.j0 k false))) else (armisticelaw12_GrammarKnown.j0 k false))) else (armisticelaw12_GrammarKnown.j0 k false))) else (armisticelaw12_GrammarKnown.j0 k false)) = some r := H
  have A2 := Aside0.mk A20
  clear A20
  by_cases c3 : t149 = true
  ·subst c3
   have H1 : ((armisticelaw12_fails.f (⟨#[98, 101, 103, 105, 110, 32, 84]⟩ : ByteArray) 7 6).bind fun t150 => (if t150 = true then ((armisticelaw12_fails.f (⟨#[98, 101, 103, 105, 110, 32, 116, 32, 117]⟩ : ByteArray) 5 8).bind fun t151 => (if t151 = true then ((armisticelaw12_fails.f (⟨#[111, 98, 106, 101, 99, 116, 32, 97]⟩ : ByteArray) 5 8).bind fun t152 => (if t152 = true then ((armisticelaw12_fails.f (⟨#[111, 98, 106, 101, 99, 116, 32, 97, 32, 115, 101, 116, 32, 50, 32, 49]⟩ : ByteArray) 5 9).bind fun t153 => (if t153 = true then ((armisticelaw12_fails.f (⟨#[111, 98, 106, 101, 99, 116, 32, 97, 32, 115, 101, 116, 115]⟩ : ByteArray) 6 9).bind fun t154 => (armisticelaw12_GrammarKnown.j0 k t154)) else (armisticelaw12_GrammarKnown.j0 k false))) else (armisticelaw12_GrammarKnown.j0 k false))) else (armisticelaw12_GrammarKnown.j0 k false))) else (armisticelaw12_GrammarKnown.j0 k false))) = some r := by rw [if_pos rfl] at H; exact H
   clear H
   have H := H1
   clear H1
   replace H := Option.bind_eq_some_iff.mp H
   obtain ⟨t150, A40, H⟩ := H
   replace H : (if t150 = true then ((armisticelaw12_fails.f (⟨#[98, 101, 103, 105, 110, 32, 116, 32, 117]⟩ : ByteArray) 5 8).bind fun t151 => (if t151 = true then ((armisticelaw12_fails.f (⟨#[111, 98, 106, 101, 99, 116, 32, 97]⟩ : ByteArray) 5 8).bind fun t152 => (if t152 = true then ((armisticelaw12_fails.f (⟨#[111, 98, 106, 101, 99, 116, 32, 97, 32, 115, 101, 116, 32, 50, 32, 49]⟩ : ByteArray) 5 9).bind fun t153 => (if t153 = true then ((armisticelaw12_fails.f (⟨#[111, 98, 106, 101, 99, 116, 32, 97, 32, 115, 101, 116, 115]⟩ : ByteArray) 6 9).bind fun t154 => (armisticelaw12_GrammarKnown.j0 k t154)) else (armisticelaw12_GrammarKnown.j0 k false))) else (armisticelaw12_GrammarKnown.j0 k false))) else (armisticelaw12_GrammarKnown.j0 k false))) else (armisticelaw12_GrammarKnown.j0 k false)) = some r := H
   have A4 := Aside0.mk A40
   clear A40
   by_cases c5 : t150 = true
   ·subst c5
    have H1 : ((armisticelaw12_fails.f (⟨#[98, 101, 103, 105, 110, 32, 116, 32, 117]⟩ : ByteArray) 5 8).bind fun t151 => (if t151 = true then ((armisticelaw12_fails.f (⟨#[111, 98, 106, 101, 99, 116, 32, 97]⟩ : ByteArray) 5 8).bind fun t152 => (if t152 = true then ((armisticelaw12_fails.f (⟨#[111, 98, 106, 101, 99, 116, 32, 97, 32, 115, 101, 116, 32, 50, 32, 49]⟩ : ByteArray) 5 9).bind fun t153 => (if t153 = true then ((armisticelaw12_fails.f (⟨#[111, 98, 106, 101, 99, 116, 32, 97, 32, 115, 101, 116, 115]⟩ : ByteArray) 6 9).bind fun t154 => (armisticelaw12_GrammarKnown.j0 k t154)) else (armisticelaw12_GrammarKnown.j0 k false))) else (armisticelaw12_GrammarKnown.j0 k false))) else (armisticelaw12_GrammarKnown.j0 k false))) = some r := by rw [if_pos rfl] at H; exact H
    clear H
    have H := H1
    clear H1
    replace H := Option.bind_eq_some_iff.mp H
    obtain ⟨t151, A60, H⟩ := H
    replace H : (if t151 = true then ((armisticelaw12_fails.f (⟨#[111, 98, 106, 101, 99, 116, 32, 97]⟩ : ByteArray) 5 8).bind fun t152 => (if t152 = true then ((armisticelaw12_fails.f (⟨#[111, 98, 106, 101, 99, 116, 32, 97, 32, 115, 101, 116, 32, 50, 32, 49]⟩ : ByteArray) 5 9).bind fun t153 => (if t153 = true then ((armisticelaw12_fails.f (⟨#[111, 98, 106, 101, 99, 116, 32, 97, 32, 115, 101, 116, 115]⟩ : ByteArray) 6 9).bind fun t154 => (armisticelaw12_GrammarKnown.j0 k t154)) else (armisticelaw12_GrammarKnown.j0 k false))) else (armisticelaw12_GrammarKnown.j0 k false))) else (armisticelaw12_GrammarKnown.j0 k false)) = some r := H
    have A6 := Aside0.mk A60
    clear A60
    by_cases c7 : t151 = true
    ·subst c7
     have H1 : ((armisticelaw12_fails.f (⟨#[111, 98, 106, 101, 99, 116, 32, 97]⟩ : ByteArray) 5 8).bind fun t152 => (if t152 = true then ((armisticelaw12_fails.f (⟨#[111, 98, 106, 101, 99, 116, 32, 97, 32, 115, 101, 116, 32, 50, 32, 49]⟩ : ByteArray) 5 9).bind fun t153 => (if t153 = true then ((armisticelaw12_fails.f (⟨#[111, 98, 106, 101, 99, 116, 32, 97, 32, 115, 101, 116, 115]⟩ : ByteArray) 6 9).bind fun t154 => (armisticelaw12_GrammarKnown.j0 k t154)) else (armisticelaw12_GrammarKnown.j0 k false))) else (armisticelaw12_GrammarKnown.j0 k false))) = some r := by rw [if_pos rfl] at H; exact H
     clear H
     have H := H1
     clear H1
     replace H := Option.bind_eq_some_iff.mp H
     obtain ⟨t152, A80, H⟩ := H
     replace H : (if t152 = true then ((armisticelaw12_fails.f (⟨#[111, 98, 106, 101, 99, 116, 32, 97, 32, 115, 101, 116, 32, 50, 32, 49]⟩ : ByteArray) 5 9).bind fun t153 => (if t153 = true then ((armisticelaw12_fails.f (⟨#[111, 98, 106, 101, 99, 116, 32, 97, 32, 115, 101, 116, 115]⟩ : ByteArray) 6 9).bind fun t154 => (armisticelaw12_GrammarKnown.j0 k t154)) else (armisticelaw12_GrammarKnown.j0 k false))) else (armisticelaw12_GrammarKnown.j0 k false)) = some r := H
     have A8 := Aside0.mk A80
     clear A80
     by_cases c9 : t152 = true
     ·subst c9
      have H1 : ((armisticelaw12_fails.f (⟨#[111, 98, 106, 101, 99, 116, 32, 97, 32, 115, 101, 116, 32, 50, 32, 49]⟩ : ByteArray) 5 9).bind fun t153 => (if t153 = true then ((armisticelaw12_fails.f (⟨#[111, 98, 106, 101, 99, 116, 32, 97, 32, 115, 101, 116, 115]⟩ : ByteArray) 6 9).bind fun t154 => (armisticelaw12_GrammarKnown.j0 k t154)) else (armisticelaw12_GrammarKnown.j0 k false))) = some r := by rw [if_pos rfl] at H; exact H
      clear H
      have H := H1
      clear H1
      replace H := Option.bind_eq_some_iff.mp H
      obtain ⟨t153, A100, H⟩ := H
      replace H : (if t153 = true then ((armisticelaw12_fails.f (⟨#[111, 98, 106, 101, 99, 116, 32, 97, 32, 115, 101, 116, 115]⟩ : ByteArray) 6 9).bind fun t154 => (armisticelaw12_GrammarKnown.j0 k t154)) else (armisticelaw12_GrammarKnown.j0 k false)) = some r := H
      have A10 := Aside0.mk A100
      clear A100
      by_cases c11 : t153 = true
      ·subst c11
       have H1 : ((armisticelaw12_fails.f (⟨#[111, 98, 106, 101, 99, 116, 32, 97, 32, 115, 101, 116, 115]⟩ : ByteArray) 6 9).bind fun t154 => (armisticelaw12_GrammarKnown.j0 k t154)) = some r := by rw [if_pos rfl] at H; exact H
       clear H
       have H := H1
       clear H1
       replace H := Option.bind_eq_some_iff.mp H
       obtain ⟨t154, A120, H⟩ := H
       replace H : (armisticelaw12_GrammarKnown.j0 k t154) = some r := H
       have A12 := Aside0.mk A120
       clear A120
       have H' := Aside0.mk H
       clear H
       go_wp2_with (first | ((with_reducible refine gate_callee (f := 26) rfl ?_); refine goesL_ (some 11) rfl rfl Tryz.func26 (by kernel_rfl) rfl #[.string (⟨#[103, 111, 32, 116]⟩ : ByteArray), .int .i64 6, .int .i64 0] rfl (by (try simp only [List.map_toArray, List.map_cons, List.map_nil]); first | done | rfl | (simp only [List.length_drop, List.length_take]; rfl)) ?_; (with_reducible refine (armisticelaw12_fails.calls (⟨#[103, 111, 32, 116]⟩ : ByteArray) 6 0 true _ ?side1 A2.out).mono ?_); (case side1 => exact GOk.below HG.out (by repeat (first | (with_reducible first | exact HB.out | apply below_alloc | apply pw_below_drewN | apply below_drew1) | exact HB.out))); rintro e w13 ⟨rfl, hb⟩; refine ⟨_, rfl, ?_⟩; have n0_ := Aside0.mk (below_step (by repeat (first | (with_reducible first | exact HB.out | apply below_alloc | apply pw_below_drewN | apply below_drew1) | exact HB.out)) hb); clear HB; have HB := n0_; clear n0_; (try clear hb); (try clear hb2); (try clear hk); (try clear hi)) | (go_at_call 26; (with_reducible refine (armisticelaw12_fails.calls (⟨#[98, 101, 103, 105, 110, 32, 84]⟩ : ByteArray) 7 6 true _ ?side1 A4.out).mono ?_); (case side1 => exact GOk.below HG.out (by repeat (first | (with_reducible first | exact HB.out | apply below_alloc | apply pw_below_drewN | apply below_drew1) | exact HB.out))); rintro e w14 ⟨rfl, hb⟩; have n0_ := Aside0.mk (below_step (by repeat (first | (with_reducible first | exact HB.out | apply below_alloc | apply pw_below_drewN | apply below_drew1) | exact HB.out)) hb); clear HB; have HB := n0_; clear n0_; (try clear hb); (try clear hb2); (try clear hk); (try clear hi)) | (go_at_call 26; (with_reducible refine (armisticelaw12_fails.calls (⟨#[98, 101, 103, 105, 110, 32, 116, 32, 117]⟩ : ByteArray) 5 8 true _ ?side1 A6.out).mono ?_); (case side1 => exact GOk.below HG.out (by repeat (first | (with_reducible first | exact HB.out | apply below_alloc | apply pw_below_drewN | apply below_drew1) | exact HB.out))); rintro e w15 ⟨rfl, hb⟩; have n0_ := Aside0.mk (below_step (by repeat (first | (with_reducible first | exact HB.out | apply below_alloc | apply pw_below_drewN | apply below_drew1) | exact HB.out)) hb); clear HB; have HB := n0_; clear n0_; (try clear hb); (try clear hb2); (try clear hk); (try clear hi)) | (go_at_call 26; (with_reducible refine (armisticelaw12_fails.calls (⟨#[111, 98, 106, 101, 99, 116, 32, 97]⟩ : ByteArray) 5 8 true _ ?side1 A8.out).mono ?_); (case side1 => exact GOk.below HG.out (by repeat (first | (with_reducible first | exact HB.out | apply below_alloc | apply pw_below_drewN | apply below_drew1) | exact HB.out))); rintro e w16 ⟨rfl, hb⟩; have n0_ := Aside0.mk (below_step (by repeat (first | (with_reducible first | exact HB.out | apply below_alloc | apply pw_below_drewN | apply below_drew1) | exact HB.out)) hb); clear HB; have HB := n0_; clear n0_; (try clear hb); (try clear hb2); (try clear hk); (try clear hi)) | (go_at_call 26; (with_reducible refine (armisticelaw12_fails.calls (⟨#[111, 98, 106, 101, 99, 116, 32, 97, 32, 115, 101, 116, 32, 50, 32, 49]⟩ : ByteArray) 5 9 true _ ?side1 A10.out).mono ?_); (case side1 => exact GOk.below HG.out (by repeat (first | (with_reducible first | exact HB.out | apply below_alloc | apply pw_below_drewN | apply below_drew1) | exact HB.out))); rintro e w17 ⟨rfl, hb⟩; have n0_ := Aside0.mk (below_step (by repeat (first | (with_reducible first | exact HB.out | apply below_alloc | apply pw_below_drewN | apply below_drew1) | exact HB.out)) hb); clear HB; have HB := n0_; clear n0_; (try clear hb); (try clear hb2); (try clear hk); (try clear hi)) | (go_at_call 26; (with_reducible refine (armisticelaw12_fails.calls (⟨#[111, 98, 106, 101, 99, 116, 32, 97, 32, 115, 101, 116, 115]⟩ : ByteArray) 6 9 t154 _ ?side1 A12.out).mono ?_); (case side1 => exact GOk.below HG.out (by repeat (first | (with_reducible first | exact HB.out | apply below_alloc | apply pw_below_drewN | apply below_drew1) | exact HB.out))); rintro e w18 ⟨rfl, hb⟩; have n0_ := Aside0.mk (below_step (by repeat (first | (with_reducible first | exact HB.out | apply below_alloc | apply pw_below_drewN | apply below_drew1) | exact HB.out)) hb); clear HB; have HB := n0_; clear n0_; (try clear hb); (try clear hb2); (try clear hk); (try clear hi)))
       go_meet
       case rel => exact ⟨_, (t154), (by first | rfl | (simp; done) | (simp [*]; done)), H', ⟨by first | omega | exact Nat.le_refl _⟩, ⟨by repeat (first | (with_reducible first | exact HB.out | apply below_alloc | apply pw_below_drewN | apply below_drew1) | exact HB.out)⟩⟩
      ·replace c11 := Bool.eq_false_iff.mpr c11
       subst c11
       have H1 : (armisticelaw12_GrammarKnown.j0 k false) = some r := by rw [if_neg (show ¬ (false = true) by decide)] at H; exact H
       clear H
       have H := H1
       clear H1
       have H' := Aside0.mk H
       clear H
       go_wp2_with (first | ((with_reducible refine gate_callee (f := 26) rfl ?_); refine goesL_ (some 11) rfl rfl Tryz.func26 (by kernel_rfl) rfl #[.string (⟨#[103, 111, 32, 116]⟩ : ByteArray), .int .i64 6, .int .i64 0] rfl (by (try simp only [List.map_toArray, List.map_cons, List.map_nil]); first | done | rfl | (simp only [List.length_drop, List.length_take]; rfl)) ?_; (with_reducible refine (armisticelaw12_fails.calls (⟨#[103, 111, 32, 116]⟩ : ByteArray) 6 0 true _ ?side1 A2.out).mono ?_); (case side1 => exact GOk.below HG.out (by repeat (first | (with_reducible first | exact HB.out | apply below_alloc | apply pw_below_drewN | apply below_drew1) | exact HB.out))); rintro e w19 ⟨rfl, hb⟩; refine ⟨_, rfl, ?_⟩; have n0_ := Aside0.mk (below_step (by repeat (first | (with_reducible first | exact HB.out | apply below_alloc | apply pw_below_drewN | apply below_drew1) | exact HB.out)) hb); clear HB; have HB := n0_; clear n0_; (try clear hb); (try clear hb2); (try clear hk); (try clear hi)) | (go_at_call 26; (with_reducible refine (armisticelaw12_fails.calls (⟨#[98, 101, 103, 105, 110, 32, 84]⟩ : ByteArray) 7 6 true _ ?side1 A4.out).mono ?_); (case side1 => exact GOk.below HG.out (by repeat (first | (with_reducible first | exact HB.out | apply below_alloc | apply pw_below_drewN | apply below_drew1) | exact HB.out))); rintro e w20 ⟨rfl, hb⟩; have n0_ := Aside0.mk (below_step (by repeat (first | (with_reducible first | exact HB.out | apply below_alloc | apply pw_below_drewN | apply below_drew1) | exact HB.out)) hb); clear HB; have HB := n0_; clear n0_; (try clear hb); (try clear hb2); (try clear hk); (try clear hi)) | (go_at_call 26; (with_reducible refine (armisticelaw12_fails.calls (⟨#[98, 101, 103, 105, 110, 32, 116, 32, 117]⟩ : ByteArray) 5 8 true _ ?side1 A6.out).mono ?_); (case side1 => exact GOk.below HG.out (by repeat (first | (with_reducible first | exact HB.out | apply below_alloc | apply pw_below_drewN | apply below_drew1) | exact HB.out))); rintro e w21 ⟨rfl, hb⟩; have n0_ := Aside0.mk (below_step (by repeat (first | (with_reducible first | exact HB.out | apply below_alloc | apply pw_below_drewN | apply below_drew1) | exact HB.out)) hb); clear HB; have HB := n0_; clear n0_; (try clear hb); (try clear hb2); (try clear hk); (try clear hi)) | (go_at_call 26; (with_reducible refine (armisticelaw12_fails.calls (⟨#[111, 98, 106, 101, 99, 116, 32, 97]⟩ : ByteArray) 5 8 true _ ?side1 A8.out).mono ?_); (case side1 => exact GOk.below HG.out (by repeat (first | (with_reducible first | exact HB.out | apply below_alloc | apply pw_below_drewN | apply below_drew1) | exact HB.out))); rintro e w22 ⟨rfl, hb⟩; have n0_ := Aside0.mk (below_step (by repeat (first | (with_reducible first | exact HB.out | apply below_alloc | apply pw_below_drewN | apply below_drew1) | exact HB.out)) hb); clear HB; have HB := n0_; clear n0_; (try clear hb); (try clear hb2); (try clear hk); (try clear hi)) | (go_at_call 26; (with_reducible refine (armisticelaw12_fails.calls (⟨#[111, 98, 106, 101, 99, 116, 32, 97, 32, 115, 101, 116, 32, 50, 32, 49]⟩ : ByteArray) 5 9 false _ ?side1 A10.out).mono ?_); (case side1 => exact GOk.below HG.out (by repeat (first | (with_reducible first | exact HB.out | apply below_alloc | apply pw_below_drewN | apply below_drew1) | exact HB.out))); rintro e w23 ⟨rfl, hb⟩; have n0_ := Aside0.mk (below_step (by repeat (first | (with_reducible first | exact HB.out | apply below_alloc | apply pw_below_drewN | apply below_drew1) | exact HB.out)) hb); clear HB; have HB := n0_; clear n0_; (try clear hb); (try clear hb2); (try clear hk); (try clear hi)))
       go_meet
       case rel => exact ⟨_, (false), (by first | rfl | (simp; done) | (simp [*]; done)), H', ⟨by first | omega | exact Nat.le_refl _⟩, ⟨by repeat (first | (with_reducible first | exact HB.out | apply below_alloc | apply pw_below_drewN | apply below_drew1) | exact HB.out)⟩⟩
     ·replace c9 := Bool.eq_false_iff.mpr c9
      subst c9
      have H1 : (armisticelaw12_GrammarKnown.j0 k false) = some r := by rw [if_neg (show ¬ (false = true) by decide)] at H; exact H
      clear H
      have H := H1
      clear H1
      have H' := Aside0.mk H
      clear H
      go_wp2_with (first | ((with_reducible refine gate_callee (f := 26) rfl ?_); refine goesL_ (some 11) rfl rfl Tryz.func26 (by kernel_rfl) rfl #[.string (⟨#[103, 111, 32, 116]⟩ : ByteArray), .int .i64 6, .int .i64 0] rfl (by (try simp only [List.map_toArray, List.map_cons, List.map_nil]); first | done | rfl | (simp only [List.length_drop, List.length_take]; rfl)) ?_; (with_reducible refine (armisticelaw12_fails.calls (⟨#[103, 111, 32, 116]⟩ : ByteArray) 6 0 true _ ?side1 A2.out).mono ?_); (case side1 => exact GOk.below HG.out (by repeat (first | (with_reducible first | exact HB.out | apply below_alloc | apply pw_below_drewN | apply below_drew1) | exact HB.out))); rintro e w24 ⟨rfl, hb⟩; refine ⟨_, rfl, ?_⟩; have n0_ := Aside0.mk (below_step (by repeat (first | (with_reducible first | exact HB.out | apply below_alloc | apply pw_below_drewN | apply below_drew1) | exact HB.out)) hb); clear HB; have HB := n0_; clear n0_; (try clear hb); (try clear hb2); (try clear hk); (try clear hi)) | (go_at_call 26; (with_reducible refine (armisticelaw12_fails.calls (⟨#[98, 101, 103, 105, 110, 32, 84]⟩ : ByteArray) 7 6 true _ ?side1 A4.out).mono ?_); (case side1 => exact GOk.below HG.out (by repeat (first | (with_reducible first | exact HB.out | apply below_alloc | apply pw_below_drewN | apply below_drew1) | exact HB.out))); rintro e w25 ⟨rfl, hb⟩; have n0_ := Aside0.mk (below_step (by repeat (first | (with_reducible first | exact HB.out | apply below_alloc | apply pw_below_drewN | apply below_drew1) | exact HB.out)) hb); clear HB; have HB := n0_; clear n0_; (try clear hb); (try clear hb2); (try clear hk); (try clear hi)) | (go_at_call 26; (with_reducible refine (armisticelaw12_fails.calls (⟨#[98, 101, 103, 105, 110, 32, 116, 32, 117]⟩ : ByteArray) 5 8 true _ ?side1 A6.out).mono ?_); (case side1 => exact GOk.below HG.out (by repeat (first | (with_reducible first | exact HB.out | apply below_alloc | apply pw_below_drewN | apply below_drew1) | exact HB.out))); rintro e w26 ⟨rfl, hb⟩; have n0_ := Aside0.mk (below_step (by repeat (first | (with_reducible first | exact HB.out | apply below_alloc | apply pw_below_drewN | apply below_drew1) | exact HB.out)) hb); clear HB; have HB := n0_; clear n0_; (try clear hb); (try clear hb2); (try clear hk); (try clear hi)) | (go_at_call 26; (with_reducible refine (armisticelaw12_fails.calls (⟨#[111, 98, 106, 101, 99, 116, 32, 97]⟩ : ByteArray) 5 8 false _ ?side1 A8.out).mono ?_); (case side1 => exact GOk.below HG.out (by repeat (first | (with_reducible first | exact HB.out | apply below_alloc | apply pw_below_drewN | apply below_drew1) | exact HB.out))); rintro e w27 ⟨rfl, hb⟩; have n0_ := Aside0.mk (below_step (by repeat (first | (with_reducible first | exact HB.out | apply below_alloc | apply pw_below_drewN | apply below_drew1) | exact HB.out)) hb); clear HB; have HB := n0_; clear n0_; (try clear hb); (try clear hb2); (try clear hk); (try clear hi)))
      go_meet
      case rel => exact ⟨_, (false), (by first | rfl | (simp; done) | (simp [*]; done)), H', ⟨by first | omega | exact Nat.le_refl _⟩, ⟨by repeat (first | (with_reducible first | exact HB.out | apply below_alloc | apply pw_below_drewN | apply below_drew1) | exact HB.out)⟩⟩
    ·replace c7 := Bool.eq_false_iff.mpr c7
     subst c7
     have H1 : (armisticelaw12_GrammarKnown.j0 k false) = some r := by rw [if_neg (show ¬ (false = true) by decide)] at H; exact H
     clear H
     have H := H1
     clear H1
     have H' := Aside0.mk H
     clear H
     go_wp2_with (first | ((with_reducible refine gate_callee (f := 26) rfl ?_); refine goesL_ (some 11) rfl rfl Tryz.func26 (by kernel_rfl) rfl #[.string (⟨#[103, 111, 32, 116]⟩ : ByteArray), .int .i64 6, .int .i64 0] rfl (by (try simp only [List.map_toArray, List.map_cons, List.map_nil]); first | done | rfl | (simp only [List.length_drop, List.length_take]; rfl)) ?_; (with_reducible refine (armisticelaw12_fails.calls (⟨#[103, 111, 32, 116]⟩ : ByteArray) 6 0 true _ ?side1 A2.out).mono ?_); (case side1 => exact GOk.below HG.out (by repeat (first | (with_reducible first | exact HB.out | apply below_alloc | apply pw_below_drewN | apply below_drew1) | exact HB.out))); rintro e w28 ⟨rfl, hb⟩; refine ⟨_, rfl, ?_⟩; have n0_ := Aside0.mk (below_step (by repeat (first | (with_reducible first | exact HB.out | apply below_alloc | apply pw_below_drewN | apply below_drew1) | exact HB.out)) hb); clear HB; have HB := n0_; clear n0_; (try clear hb); (try clear hb2); (try clear hk); (try clear hi)) | (go_at_call 26; (with_reducible refine (armisticelaw12_fails.calls (⟨#[98, 101, 103, 105, 110, 32, 84]⟩ : ByteArray) 7 6 true _ ?side1 A4.out).mono ?_); (case side1 => exact GOk.below HG.out (by repeat (first | (with_reducible first | exact HB.out | apply below_alloc | apply pw_below_drewN | apply below_drew1) | exact HB.out))); rintro e w29 ⟨rfl, hb⟩; have n0_ := Aside0.mk (below_step (by repeat (first | (with_reducible first | exact HB.out | apply below_alloc | apply pw_below_drewN | apply below_drew1) | exact HB.out)) hb); clear HB; have HB := n0_; clear n0_; (try clear hb); (try clear hb2); (try clear hk); (try clear hi)) | (go_at_call 26; (with_reducible refine (armisticelaw12_fails.calls (⟨#[98, 101, 103, 105, 110, 32, 116, 32, 117]⟩ : ByteArray) 5 8 false _ ?side1 A6.out).mono ?_); (case side1 => exact GOk.below HG.out (by repeat (first | (with_reducible first | exact HB.out | apply below_alloc | apply pw_below_drewN | apply below_drew1) | exact HB.out))); rintro e w30 ⟨rfl, hb⟩; have n0_ := Aside0.mk (below_step (by repeat (first | (with_reducible first | exact HB.out | apply below_alloc | apply pw_below_drewN | apply below_drew1) | exact HB.out)) hb); clear HB; have HB := n0_; clear n0_; (try clear hb); (try clear hb2); (try clear hk); (try clear hi)))
     go_meet
     case rel => exact ⟨_, (false), (by first | rfl | (simp; done) | (simp [*]; done)), H', ⟨by first | omega | exact Nat.le_refl _⟩, ⟨by repeat (first | (with_reducible first | exact HB.out | apply below_alloc | apply pw_below_drewN | apply below_drew1) | exact HB.out)⟩⟩
   ·replace c5 := Bool.eq_false_iff.mpr c5
    subst c5
    have H1 : (armisticelaw12_GrammarKnown.j0 k false) = some r := by rw [if_neg (show ¬ (false = true) by decide)] at H; exact H
    clear H
    have H := H1
    clear H1
    have H' := Aside0.mk H
    clear H
    go_wp2_with (first | ((with_reducible refine gate_callee (f := 26) rfl ?_); refine goesL_ (some 11) rfl rfl Tryz.func26 (by kernel_rfl) rfl #[.string (⟨#[103, 111, 32, 116]⟩ : ByteArray), .int .i64 6, .int .i64 0] rfl (by (try simp only [List.map_toArray, List.map_cons, List.map_nil]); first | done | rfl | (simp only [List.length_drop, List.length_take]; rfl)) ?_; (with_reducible refine (armisticelaw12_fails.calls (⟨#[103, 111, 32, 116]⟩ : ByteArray) 6 0 true _ ?side1 A2.out).mono ?_); (case side1 => exact GOk.below HG.out (by repeat (first | (with_reducible first | exact HB.out | apply below_alloc | apply pw_below_drewN | apply below_drew1) | exact HB.out))); rintro e w31 ⟨rfl, hb⟩; refine ⟨_, rfl, ?_⟩; have n0_ := Aside0.mk (below_step (by repeat (first | (with_reducible first | exact HB.out | apply below_alloc | apply pw_below_drewN | apply below_drew1) | exact HB.out)) hb); clear HB; have HB := n0_; clear n0_; (try clear hb); (try clear hb2); (try clear hk); (try clear hi)) | (go_at_call 26; (with_reducible refine (armisticelaw12_fails.calls (⟨#[98, 101, 103, 105, 110, 32, 84]⟩ : ByteArray) 7 6 false _ ?side1 A4.out).mono ?_); (case side1 => exact GOk.below HG.out (by repeat (first | (with_reducible first | exact HB.out | apply below_alloc | apply pw_below_drewN | apply below_drew1) | exact HB.out))); rintro e w32 ⟨rfl, hb⟩; have n0_ := Aside0.mk (below_step (by repeat (first | (with_reducible first | exact HB.out | apply below_alloc | apply pw_below_drewN | apply below_drew1) | exact HB.out)) hb); clear HB; have HB := n0_; clear n0_; (try clear hb); (try clear hb2); (try clear hk); (try clear hi)))
    go_meet
    case rel => exact ⟨_, (false), (by first | rfl | (simp; done) | (simp [*]; done)), H', ⟨by first | omega | exact Nat.le_refl _⟩, ⟨by repeat (first | (with_reducible first | exact HB.out | apply below_alloc | apply pw_below_drewN | apply below_drew1) | exact HB.out)⟩⟩
  ·replace c3 := Bool.eq_false_iff.mpr c3
   subst c3
   have H1 : (armisticelaw12_GrammarKnown.j0 k false) = some r := by rw [if_neg (show ¬ (false = true) by decide)] at H; exact H
   clear H
   have H := H1
   clear H1
   have H' := Aside0.mk H
   clear H
   go_wp2_with (first | ((with_reducible refine gate_callee (f := 26) rfl ?_); refine goesL_ (some 11) rfl rfl Tryz.func26 (by kernel_rfl) rfl #[.string (⟨#[103, 111, 32, 116]⟩ : ByteArray), .int .i64 6, .int .i64 0] rfl (by (try simp only [List.map_toArray, List.map_cons, List.map_nil]); first | done | rfl | (simp only [List.length_drop, List.length_take]; rfl)) ?_; (with_reducible refine (armisticelaw12_fails.calls (⟨#[103, 111, 32, 116]⟩ : ByteArray) 6 0 false _ ?side1 A2.out).mono ?_); (case side1 => exact GOk.below HG.out (by repeat (first | (with_reducible first | exact HB.out | apply below_alloc | apply pw_below_drewN | apply below_drew1) | exact HB.out))); rintro e w33 ⟨rfl, hb⟩; refine ⟨_, rfl, ?_⟩; have n0_ := Aside0.mk (below_step (by repeat (first | (with_reducible first | exact HB.out | apply below_alloc | apply pw_below_drewN | apply below_drew1) | exact HB.out)) hb); clear HB; have HB := n0_; clear n0_; (try clear hb); (try clear hb2); (try clear hk); (try clear hi)))
   go_meet
   case rel => exact ⟨_, (false), (by first | rfl | (simp; done) | (simp [*]; done)), H', ⟨by first | omega | exact Nat.le_refl _⟩, ⟨by repeat (first | (with_reducible first | exact HB.out | apply below_alloc | apply pw_below_drewN | apply below_drew1) | exact HB.out)⟩⟩
 case rest =>
  clear HC1
  try clear c1
  try clear c2
  try clear p2
  try clear c3
  try clear c5
  try clear c6
  try clear c7
  try clear c9
  try clear c11
  try clear c26
  obtain ⟨kq, x1_0, rfl, HA, HJ0, HB⟩ := hcut
  cases kq with
  | zero => exact absurd HA.out (by simp [armisticelaw12_GrammarKnown.j0])
  | succ kj0 =>
   have H := HA.out
   clear HA
   simp only [armisticelaw12_GrammarKnown.j0] at H
   have HC34 := Aside0.mk H
   clear H
   go_upto_region 2 with (fail)
   go_cut [2] (fun v2 wc => ∃ (kq : Nat) (x2_33 : Bool), v2 = .bool x2_33 ∧ Aside0 (armisticelaw12_GrammarKnown.j1 kq x1_0 x2_33 = some r) ∧ Aside0 (kq ≤ kj0) ∧ Aside0 (Below w.heap.size w wc))
   case first =>
    have H := HC34.out
    clear HC34
    replace H := Option.bind_eq_some_iff.mp H
    obtain ⟨t155, A350, H⟩ := H
    replace H : (if t155 = true then ((armisticelaw12_fails.f (⟨#[111, 112, 32, 116, 32, 97]⟩ : ByteArray) 5 6).bind fun t156 => (if t156 = true then ((armisticelaw12_fails.f (⟨#[111, 112, 32, 116, 32, 97, 32, 97, 100, 100, 32, 120, 32, 45, 62, 32, 111, 107]⟩ : ByteArray) 5 11).bind fun t157 => (if t157 = true then ((armisticelaw12_fails.f (⟨#[111, 112, 32, 116, 32, 97, 32, 97, 100, 100, 32, 49, 32, 45, 62, 32, 49]⟩ : ByteArray) 9 16).bind fun t158 => (if t158 = true then ((armisticelaw12_fails.f (⟨#[111, 112, 32, 116, 32, 65, 32, 97, 100, 100]⟩ : ByteArray) 7 5).bind fun t159 => (armisticelaw12_GrammarKnown.j1 kj0 x1_0 t159)) else (armisticelaw12_GrammarKnown.j1 kj0 x1_0 false))) else (armisticelaw12_GrammarKnown.j1 kj0 x1_0 false))) else (armisticelaw12_GrammarKnown.j1 kj0 x1_0 false))) else (armisticelaw12_GrammarKnown.j1 kj0 x1_0 false)) = some r := H
    have A35 := Aside0.mk A350
    clear A350
    by_cases c36 : t155 = true
    ·subst c36
     have H1 : ((armisticelaw12_fails.f (⟨#[111, 112, 32, 116, 32, 97]⟩ : ByteArray) 5 6).bind fun t156 => (if t156 = true then ((armisticelaw12_fails.f (⟨#[111, 112, 32, 116, 32, 97, 32, 97, 100, 100, 32, 120, 32, 45, 62, 32, 111, 107]⟩ : ByteArray) 5 11).bind fun t157 => (if t157 = true then ((armisticelaw12_fails.f (⟨#[111, 112, 32, 116, 32, 97, 32, 97, 100, 100, 32, 49, 32, 45, 62, 32, 49]⟩ : ByteArray) 9 16).bind fun t158 => (if t158 = true then ((armisticelaw12_fails.f (⟨#[111, 112, 32, 116, 32, 65, 32, 97, 100, 100]⟩ : ByteArray) 7 5).bind fun t159 => (armisticelaw12_GrammarKnown.j1 kj0 x1_0 t159)) else (armisticelaw12_GrammarKnown.j1 kj0 x1_0 false))) else (armisticelaw12_GrammarKnown.j1 kj0 x1_0 false))) else (armisticelaw12_GrammarKnown.j1 kj0 x1_0 false))) = some r := by rw [if_pos rfl] at H; exact H
     clear H
     have H := H1
     clear H1
     replace H := Option.bind_eq_some_iff.mp H
     obtain ⟨t156, A370, H⟩ := H
     replace H : (if t156 = true then ((armisticelaw12_fails.f (⟨#[111, 112, 32, 116, 32, 97, 32, 97, 100, 100, 32, 120, 32, 45, 62, 32, 111, 107]⟩ : ByteArray) 5 11).bind fun t157 => (if t157 = true then ((armisticelaw12_fails.f (⟨#[111, 112, 32, 116, 32, 97, 32, 97, 100, 100, 32, 49, 32, 45, 62, 32, 49]⟩ : ByteArray) 9 16).bind fun t158 => (if t158 = true then ((armisticelaw12_fails.f (⟨#[111, 112, 32, 116, 32, 65, 32, 97, 100, 100]⟩ : ByteArray) 7 5).bind fun t159 => (armisticelaw12_GrammarKnown.j1 kj0 x1_0 t159)) else (armisticelaw12_GrammarKnown.j1 kj0 x1_0 false))) else (armisticelaw12_GrammarKnown.j1 kj0 x1_0 false))) else (armisticelaw12_GrammarKnown.j1 kj0 x1_0 false)) = some r := H
     have A37 := Aside0.mk A370
     clear A370
     by_cases c38 : t156 = true
     ·subst c38
      have H1 : ((armisticelaw12_fails.f (⟨#[111, 112, 32, 116, 32, 97, 32, 97, 100, 100, 32, 120, 32, 45, 62, 32, 111, 107]⟩ : ByteArray) 5 11).bind fun t157 => (if t157 = true then ((armisticelaw12_fails.f (⟨#[111, 112, 32, 116, 32, 97, 32, 97, 100, 100, 32, 49, 32, 45, 62, 32, 49]⟩ : ByteArray) 9 16).bind fun t158 => (if t158 = true then ((armisticelaw12_fails.f (⟨#[111, 112, 32, 116, 32, 65, 32, 97, 100, 100]⟩ : ByteArray) 7 5).bind fun t159 => (armisticelaw12_GrammarKnown.j1 kj0 x1_0 t159)) else (armisticelaw12_GrammarKnown.j1 kj0 x1_0 false))) else (armisticelaw12_GrammarKnown.j1 kj0 x1_0 false))) = some r := by rw [if_pos rfl] at H; exact H
      clear H
      have H := H1
      clear H1
      replace H := Option.bind_eq_some_iff.mp H
      obtain ⟨t157, A390, H⟩ := H
      replace H : (if t157 = true then ((armisticelaw12_fails.f (⟨#[111, 112, 32, 116, 32, 97, 32, 97, 100, 100, 32, 49, 32, 45, 62, 32, 49]⟩ : ByteArray) 9 16).bind fun t158 => (if t158 = true then ((armisticelaw12_fails.f (⟨#[111, 112, 32, 116, 32, 65, 32, 97, 100, 100]⟩ : ByteArray) 7 5).bind fun t159 => (armisticelaw12_GrammarKnown.j1 kj0 x1_0 t159)) else (armisticelaw12_GrammarKnown.j1 kj0 x1_0 false))) else (armisticelaw12_GrammarKnown.j1 kj0 x1_0 false)) = some r := H
      have A39 := Aside0.mk A390
      clear A390
      by_cases c40 : t157 = true
      ·subst c40
       have H1 : ((armisticelaw12_fails.f (⟨#[111, 112, 32, 116, 32, 97, 32, 97, 100, 100, 32, 49, 32, 45, 62, 32, 49]⟩ : ByteArray) 9 16).bind fun t158 => (if t158 = true then ((armisticelaw12_fails.f (⟨#[111, 112, 32, 116, 32, 65, 32, 97, 100, 100]⟩ : ByteArray) 7 5).bind fun t159 => (armisticelaw12_GrammarKnown.j1 kj0 x1_0 t159)) else (armisticelaw12_GrammarKnown.j1 kj0 x1_0 false))) = some r := by rw [if_pos rfl] at H; exact H
       clear H
       have H := H1
       clear H1
       replace H := Option.bind_eq_some_iff.mp H
       obtain ⟨t158, A410, H⟩ := H
       replace H : (if t158 = true then ((armisticelaw12_fails.f (⟨#[111, 112, 32, 116, 32, 65, 32, 97, 100, 100]⟩ : ByteArray) 7 5).bind fun t159 => (armisticelaw12_GrammarKnown.j1 kj0 x1_0 t159)) else (armisticelaw12_GrammarKnown.j1 kj0 x1_0 false)) = some r := H
       have A41 := Aside0.mk A410
       clear A410
       by_cases c42 : t158 = true
       ·subst c42
        have H1 : ((armisticelaw12_fails.f (⟨#[111, 112, 32, 116, 32, 65, 32, 97, 100, 100]⟩ : ByteArray) 7 5).bind fun t159 => (armisticelaw12_GrammarKnown.j1 kj0 x1_0 t159)) = some r := by rw [if_pos rfl] at H; exact H
        clear H
        have H := H1
        clear H1
        replace H := Option.bind_eq_some_iff.mp H
        obtain ⟨t159, A430, H⟩ := H
        replace H : (armisticelaw12_GrammarKnown.j1 kj0 x1_0 t159) = some r := H
        have A43 := Aside0.mk A430
        clear A430
        have H' := Aside0.mk H
        clear H
        go_wp2_with (first | ((with_reducible refine gate_callee (f := 26) rfl ?_); refine goesL_ (some 27) rfl rfl Tryz.func26 (by kernel_rfl) rfl #[.string (⟨#[111, 112, 32, 116]⟩ : ByteArray), .int .i64 5, .int .i64 4] rfl (by (try simp only [List.map_toArray, List.map_cons, List.map_nil]); first | done | rfl | (simp only [List.length_drop, List.length_take]; rfl)) ?_; (with_reducible refine (armisticelaw12_fails.calls (⟨#[111, 112, 32, 116]⟩ : ByteArray) 5 4 true _ ?side1 A35.out).mono ?_); (case side1 => exact GOk.below HG.out (by repeat (first | (with_reducible first | exact HB.out | apply below_alloc | apply pw_below_drewN | apply below_drew1) | exact HB.out))); rintro e w44 ⟨rfl, hb⟩; refine ⟨_, rfl, ?_⟩; have n0_ := Aside0.mk (below_step (by repeat (first | (with_reducible first | exact HB.out | apply below_alloc | apply pw_below_drewN | apply below_drew1) | exact HB.out)) hb); clear HB; have HB := n0_; clear n0_; (try clear hb); (try clear hb2); (try clear hk); (try clear hi)) | (go_at_call 26; (with_reducible refine (armisticelaw12_fails.calls (⟨#[111, 112, 32, 116, 32, 97]⟩ : ByteArray) 5 6 true _ ?side1 A37.out).mono ?_); (case side1 => exact GOk.below HG.out (by repeat (first | (with_reducible first | exact HB.out | apply below_alloc | apply pw_below_drewN | apply below_drew1) | exact HB.out))); rintro e w45 ⟨rfl, hb⟩; have n0_ := Aside0.mk (below_step (by repeat (first | (with_reducible first | exact HB.out | apply below_alloc | apply pw_below_drewN | apply below_drew1) | exact HB.out)) hb); clear HB; have HB := n0_; clear n0_; (try clear hb); (try clear hb2); (try clear hk); (try clear hi)) | (go_at_call 26; (with_reducible refine (armisticelaw12_fails.calls (⟨#[111, 112, 32, 116, 32, 97, 32, 97, 100, 100, 32, 120, 32, 45, 62, 32, 111, 107]⟩ : ByteArray) 5 11 true _ ?side1 A39.out).mono ?_); (case side1 => exact GOk.below HG.out (by repeat (first | (with_reducible first | exact HB.out | apply below_alloc | apply pw_below_drewN | apply below_drew1) | exact HB.out))); rintro e w46 ⟨rfl, hb⟩; have n0_ := Aside0.mk (below_step (by repeat (first | (with_reducible first | exact HB.out | apply below_alloc | apply pw_below_drewN | apply below_drew1) | exact HB.out)) hb); clear HB; have HB := n0_; clear n0_; (try clear hb); (try clear hb2); (try clear hk); (try clear hi)) | (go_at_call 26; (with_reducible refine (armisticelaw12_fails.calls (⟨#[111, 112, 32, 116, 32, 97, 32, 97, 100, 100, 32, 49, 32, 45, 62, 32, 49]⟩ : ByteArray) 9 16 true _ ?side1 A41.out).mono ?_); (case side1 => exact GOk.below HG.out (by repeat (first | (with_reducible first | exact HB.out | apply below_alloc | apply pw_below_drewN | apply below_drew1) | exact HB.out))); rintro e w47 ⟨rfl, hb⟩; have n0_ := Aside0.mk (below_step (by repeat (first | (with_reducible first | exact HB.out | apply below_alloc | apply pw_below_drewN | apply below_drew1) | exact HB.out)) hb); clear HB; have HB := n0_; clear n0_; (try clear hb); (try clear hb2); (try clear hk); (try clear hi)) | (go_at_call 26; (with_reducible refine (armisticelaw12_fails.calls (⟨#[111, 112, 32, 116, 32, 65, 32, 97, 100, 100]⟩ : ByteArray) 7 5 t159 _ ?side1 A43.out).mono ?_); (case side1 => exact GOk.below HG.out (by repeat (first | (with_reducible first | exact HB.out | apply below_alloc | apply pw_below_drewN | apply below_drew1) | exact HB.out))); rintro e w48 ⟨rfl, hb⟩; have n0_ := Aside0.mk (below_step (by repeat (first | (with_reducible first | exact HB.out | apply below_alloc | apply pw_below_drewN | apply below_drew1) | exact HB.out)) hb); clear HB; have HB := n0_; clear n0_; (try clear hb); (try clear hb2); (try clear hk); (try clear hi)))
        go_meet
        case rel => exact ⟨_, (t159), (by first | rfl | (simp; done) | (simp [*]; done)), H', ⟨by have := HJ0.out; first | omega | exact Nat.le_refl _⟩, ⟨by repeat (first | (with_reducible first | exact HB.out | apply below_alloc | apply pw_below_drewN | apply below_drew1) | exact HB.out)⟩⟩
       ·replace c42 := Bool.eq_false_iff.mpr c42
        subst c42
        have H1 : (armisticelaw12_GrammarKnown.j1 kj0 x1_0 false) = some r := by rw [if_neg (show ¬ (false = true) by decide)] at H; exact H
        clear H
        have H := H1
        clear H1
        have H' := Aside0.mk H
        clear H
        go_wp2_with (first | ((with_reducible refine gate_callee (f := 26) rfl ?_); refine goesL_ (some 27) rfl rfl Tryz.func26 (by kernel_rfl) rfl #[.string (⟨#[111, 112, 32, 116]⟩ : ByteArray), .int .i64 5, .int .i64 4] rfl (by (try simp only [List.map_toArray, List.map_cons, List.map_nil]); first | done | rfl | (simp only [List.length_drop, List.length_take]; rfl)) ?_; (with_reducible refine (armisticelaw12_fails.calls (⟨#[111, 112, 32, 116]⟩ : ByteArray) 5 4 true _ ?side1 A35.out).mono ?_); (case side1 => exact GOk.below HG.out (by repeat (first | (with_reducible first | exact HB.out | apply below_alloc | apply pw_below_drewN | apply below_drew1) | exact HB.out))); rintro e w49 ⟨rfl, hb⟩; refine ⟨_, rfl, ?_⟩; have n0_ := Aside0.mk (below_step (by repeat (first | (with_reducible first | exact HB.out | apply below_alloc | apply pw_below_drewN | apply below_drew1) | exact HB.out)) hb); clear HB; have HB := n0_; clear n0_; (try clear hb); (try clear hb2); (try clear hk); (try clear hi)) | (go_at_call 26; (with_reducible refine (armisticelaw12_fails.calls (⟨#[111, 112, 32, 116, 32, 97]⟩ : ByteArray) 5 6 true _ ?side1 A37.out).mono ?_); (case side1 => exact GOk.below HG.out (by repeat (first | (with_reducible first | exact HB.out | apply below_alloc | apply pw_below_drewN | apply below_drew1) | exact HB.out))); rintro e w50 ⟨rfl, hb⟩; have n0_ := Aside0.mk (below_step (by repeat (first | (with_reducible first | exact HB.out | apply below_alloc | apply pw_below_drewN | apply below_drew1) | exact HB.out)) hb); clear HB; have HB := n0_; clear n0_; (try clear hb); (try clear hb2); (try clear hk); (try clear hi)) | (go_at_call 26; (with_reducible refine (armisticelaw12_fails.calls (⟨#[111, 112, 32, 116, 32, 97, 32, 97, 100, 100, 32, 120, 32, 45, 62, 32, 111, 107]⟩ : ByteArray) 5 11 true _ ?side1 A39.out).mono ?_); (case side1 => exact GOk.below HG.out (by repeat (first | (with_reducible first | exact HB.out | apply below_alloc | apply pw_below_drewN | apply below_drew1) | exact HB.out))); rintro e w51 ⟨rfl, hb⟩; have n0_ := Aside0.mk (below_step (by repeat (first | (with_reducible first | exact HB.out | apply below_alloc | apply pw_below_drewN | apply below_drew1) | exact HB.out)) hb); clear HB; have HB := n0_; clear n0_; (try clear hb); (try clear hb2); (try clear hk); (try clear hi)) | (go_at_call 26; (with_reducible refine (armisticelaw12_fails.calls (⟨#[111, 112, 32, 116, 32, 97, 32, 97, 100, 100, 32, 49, 32, 45, 62, 32, 49]⟩ : ByteArray) 9 16 false _ ?side1 A41.out).mono ?_); (case side1 => exact GOk.below HG.out (by repeat (first | (with_reducible first | exact HB.out | apply below_alloc | apply pw_below_drewN | apply below_drew1) | exact HB.out))); rintro e w52 ⟨rfl, hb⟩; have n0_ := Aside0.mk (below_step (by repeat (first | (with_reducible first | exact HB.out | apply below_alloc | apply pw_below_drewN | apply below_drew1) | exact HB.out)) hb); clear HB; have HB := n0_; clear n0_; (try clear hb); (try clear hb2); (try clear hk); (try clear hi)))
        go_meet
        case rel => exact ⟨_, (false), (by first | rfl | (simp; done) | (simp [*]; done)), H', ⟨by have := HJ0.out; first | omega | exact Nat.le_refl _⟩, ⟨by repeat (first | (with_reducible first | exact HB.out | apply below_alloc | apply pw_below_drewN | apply below_drew1) | exact HB.out)⟩⟩
      ·replace c40 := Bool.eq_false_iff.mpr c40
       subst c40
       have H1 : (armisticelaw12_GrammarKnown.j1 kj0 x1_0 false) = some r := by rw [if_neg (show ¬ (false = true) by decide)] at H; exact H
       clear H
       have H := H1
       clear H1
       have H' := Aside0.mk H
       clear H
       go_wp2_with (first | ((with_reducible refine gate_callee (f := 26) rfl ?_); refine goesL_ (some 27) rfl rfl Tryz.func26 (by kernel_rfl) rfl #[.string (⟨#[111, 112, 32, 116]⟩ : ByteArray), .int .i64 5, .int .i64 4] rfl (by (try simp only [List.map_toArray, List.map_cons, List.map_nil]); first | done | rfl | (simp only [List.length_drop, List.length_take]; rfl)) ?_; (with_reducible refine (armisticelaw12_fails.calls (⟨#[111, 112, 32, 116]⟩ : ByteArray) 5 4 true _ ?side1 A35.out).mono ?_); (case side1 => exact GOk.below HG.out (by repeat (first | (with_reducible first | exact HB.out | apply below_alloc | apply pw_below_drewN | apply below_drew1) | exact HB.out))); rintro e w53 ⟨rfl, hb⟩; refine ⟨_, rfl, ?_⟩; have n0_ := Aside0.mk (below_step (by repeat (first | (with_reducible first | exact HB.out | apply below_alloc | apply pw_below_drewN | apply below_drew1) | exact HB.out)) hb); clear HB; have HB := n0_; clear n0_; (try clear hb); (try clear hb2); (try clear hk); (try clear hi)) | (go_at_call 26; (with_reducible refine (armisticelaw12_fails.calls (⟨#[111, 112, 32, 116, 32, 97]⟩ : ByteArray) 5 6 true _ ?side1 A37.out).mono ?_); (case side1 => exact GOk.below HG.out (by repeat (first | (with_reducible first | exact HB.out | apply below_alloc | apply pw_below_drewN | apply below_drew1) | exact HB.out))); rintro e w54 ⟨rfl, hb⟩; have n0_ := Aside0.mk (below_step (by repeat (first | (with_reducible first | exact HB.out | apply below_alloc | apply pw_below_drewN | apply below_drew1) | exact HB.out)) hb); clear HB; have HB := n0_; clear n0_; (try clear hb); (try clear hb2); (try clear hk); (try clear hi)) | (go_at_call 26; (with_reducible refine (armisticelaw12_fails.calls (⟨#[111, 112, 32, 116, 32, 97, 32, 97, 100, 100, 32, 120, 32, 45, 62, 32, 111, 107]⟩ : ByteArray) 5 11 false _ ?side1 A39.out).mono ?_); (case side1 => exact GOk.below HG.out (by repeat (first | (with_reducible first | exact HB.out | apply below_alloc | apply pw_below_drewN | apply below_drew1) | exact HB.out))); rintro e w55 ⟨rfl, hb⟩; have n0_ := Aside0.mk (below_step (by repeat (first | (with_reducible first | exact HB.out | apply below_alloc | apply pw_below_drewN | apply below_drew1) | exact HB.out)) hb); clear HB; have HB := n0_; clear n0_; (try clear hb); (try clear hb2); (try clear hk); (try clear hi)))
       go_meet
       case rel => exact ⟨_, (false), (by first | rfl | (simp; done) | (simp [*]; done)), H', ⟨by have := HJ0.out; first | omega | exact Nat.le_refl _⟩, ⟨by repeat (first | (with_reducible first | exact HB.out | apply below_alloc | apply pw_below_drewN | apply below_drew1) | exact HB.out)⟩⟩
     ·replace c38 := Bool.eq_false_iff.mpr c38
      subst c38
      have H1 : (armisticelaw12_GrammarKnown.j1 kj0 x1_0 false) = some r := by rw [if_neg (show ¬ (false = true) by decide)] at H; exact H
      clear H
      have H := H1
      clear H1
      have H' := Aside0.mk H
      clear H
      go_wp2_with (first | ((with_reducible refine gate_callee (f := 26) rfl ?_); refine goesL_ (some 27) rfl rfl Tryz.func26 (by kernel_rfl) rfl #[.string (⟨#[111, 112, 32, 116]⟩ : ByteArray), .int .i64 5, .int .i64 4] rfl (by (try simp only [List.map_toArray, List.map_cons, List.map_nil]); first | done | rfl | (simp only [List.length_drop, List.length_take]; rfl)) ?_; (with_reducible refine (armisticelaw12_fails.calls (⟨#[111, 112, 32, 116]⟩ : ByteArray) 5 4 true _ ?side1 A35.out).mono ?_); (case side1 => exact GOk.below HG.out (by repeat (first | (with_reducible first | exact HB.out | apply below_alloc | apply pw_below_drewN | apply below_drew1) | exact HB.out))); rintro e w56 ⟨rfl, hb⟩; refine ⟨_, rfl, ?_⟩; have n0_ := Aside0.mk (below_step (by repeat (first | (with_reducible first | exact HB.out | apply below_alloc | apply pw_below_drewN | apply below_drew1) | exact HB.out)) hb); clear HB; have HB := n0_; clear n0_; (try clear hb); (try clear hb2); (try clear hk); (try clear hi)) | (go_at_call 26; (with_reducible refine (armisticelaw12_fails.calls (⟨#[111, 112, 32, 116, 32, 97]⟩ : ByteArray) 5 6 false _ ?side1 A37.out).mono ?_); (case side1 => exact GOk.below HG.out (by repeat (first | (with_reducible first | exact HB.out | apply below_alloc | apply pw_below_drewN | apply below_drew1) | exact HB.out))); rintro e w57 ⟨rfl, hb⟩; have n0_ := Aside0.mk (below_step (by repeat (first | (with_reducible first | exact HB.out | apply below_alloc | apply pw_below_drewN | apply below_drew1) | exact HB.out)) hb); clear HB; have HB := n0_; clear n0_; (try clear hb); (try clear hb2); (try clear hk); (try clear hi)))
      go_meet
      case rel => exact ⟨_, (false), (by first | rfl | (simp; done) | (simp [*]; done)), H', ⟨by have := HJ0.out; first | omega | exact Nat.le_refl _⟩, ⟨by repeat (first | (with_reducible first | exact HB.out | apply below_alloc | apply pw_below_drewN | apply below_drew1) | exact HB.out)⟩⟩
    ·replace c36 := Bool.eq_false_iff.mpr c36
     subst c36
     have H1 : (armisticelaw12_GrammarKnown.j1 kj0 x1_0 false) = some r := by rw [if_neg (show ¬ (false = true) by decide)] at H; exact H
     clear H
     have H := H1
     clear H1
     have H' := Aside0.mk H
     clear H
     go_wp2_with (first | ((with_reducible refine gate_callee (f := 26) rfl ?_); refine goesL_ (some 27) rfl rfl Tryz.func26 (by kernel_rfl) rfl #[.string (⟨#[111, 112, 32, 116]⟩ : ByteArray), .int .i64 5, .int .i64 4] rfl (by (try simp only [List.map_toArray, List.map_cons, List.map_nil]); first | done | rfl | (simp only [List.length_drop, List.length_take]; rfl)) ?_; (with_reducible refine (armisticelaw12_fails.calls (⟨#[111, 112, 32, 116]⟩ : ByteArray) 5 4 false _ ?side1 A35.out).mono ?_); (case side1 => exact GOk.below HG.out (by repeat (first | (with_reducible first | exact HB.out | apply below_alloc | apply pw_below_drewN | apply below_drew1) | exact HB.out))); rintro e w58 ⟨rfl, hb⟩; refine ⟨_, rfl, ?_⟩; have n0_ := Aside0.mk (below_step (by repeat (first | (with_reducible first | exact HB.out | apply below_alloc | apply pw_below_drewN | apply below_drew1) | exact HB.out)) hb); clear HB; have HB := n0_; clear n0_; (try clear hb); (try clear hb2); (try clear hk); (try clear hi)))
     go_meet
     case rel => exact ⟨_, (false), (by first | rfl | (simp; done) | (simp [*]; done)), H', ⟨by have := HJ0.out; first | omega | exact Nat.le_refl _⟩, ⟨by repeat (first | (with_reducible first | exact HB.out | apply below_alloc | apply pw_below_drewN | apply below_drew1) | exact HB.out)⟩⟩
   case rest =>
    clear HC34
    try clear c1
    try clear c2
    try clear p2
    try clear c3
    try clear c4
    try clear c5
    try clear c6
    try clear c7
    try clear c9
    try clear c11
    try clear c26
    try clear c36
    try clear c38
    try clear c40
    try clear c42
    try clear p2
    obtain ⟨kq, x2_33, rfl, HA, HJ33, HB⟩ := hcut
    cases kq with
    | zero => exact absurd HA.out (by simp [armisticelaw12_GrammarKnown.j1])
    | succ kj33 =>
     have H := HA.out
     clear HA
     simp only [armisticelaw12_GrammarKnown.j1] at H
     replace H := Option.bind_eq_some_iff.mp H
     obtain ⟨⟨t160, t161⟩, A590, H⟩ := H
     replace H : ((grammar_Line.f 2 (⟨#[116]⟩ : ByteArray) (⟨#[97]⟩ : ByteArray) 0 0 0 0 0 0 0 ([] : List Int)).bind fun bt162 => ((grammar_Print.f ([] : List (S38))).bind fun bt164 => ((grammar_Line.f 6 (⟨#[116]⟩ : ByteArray) (⟨#[]⟩ : ByteArray) 0 0 0 0 0 0 0 ([] : List Int)).bind fun bt166 => ((armisticelaw12_awake.f).bind fun t168 => (if t168 = true then (if x1_0 = true then (if x2_33 = true then (if t160.toList = ([98, 101, 103, 105, 110, 32, 116] : List UInt8) then (if t161 = 0 then (if bt162.2 = 2 then (if bt164.1.toList = ([] : List UInt8) then (if bt164.2 = 0 then (some (bt166.2 == 6)) else (some false)) else (some false)) else (some false)) else (some false)) else (some false)) else (some false)) else (some false)) else (some false)))))) = some r := H
     have A59 := Aside0.mk A590
     clear A590
     replace H := Option.bind_eq_some_iff.mp H
     obtain ⟨⟨t162, t163⟩, A600, H⟩ := H
     replace H : ((grammar_Print.f ([] : List (S38))).bind fun bt164 => ((grammar_Line.f 6 (⟨#[116]⟩ : ByteArray) (⟨#[]⟩ : ByteArray) 0 0 0 0 0 0 0 ([] : List Int)).bind fun bt166 => ((armisticelaw12_awake.f).bind fun t168 => (if t168 = true then (if x1_0 = true then (if x2_33 = true then (if t160.toList = ([98, 101, 103, 105, 110, 32, 116] : List UInt8) then (if t161 = 0 then (if t163 = 2 then (if bt164.1.toList = ([] : List UInt8) then (if bt164.2 = 0 then (some (bt166.2 == 6)) else (some false)) else (some false)) else (some false)) else (some false)) else (some false)) else (some false)) else (some false)) else (some false))))) = some r := H
     have A60 := Aside0.mk A600
     clear A600
     replace H := Option.bind_eq_some_iff.mp H
     obtain ⟨⟨t164, t165⟩, A610, H⟩ := H
     replace H : ((grammar_Line.f 6 (⟨#[116]⟩ : ByteArray) (⟨#[]⟩ : ByteArray) 0 0 0 0 0 0 0 ([] : List Int)).bind fun bt166 => ((armisticelaw12_awake.f).bind fun t168 => (if t168 = true then (if x1_0 = true then (if x2_33 = true then (if t160.toList = ([98, 101, 103, 105, 110, 32, 116] : List UInt8) then (if t161 = 0 then (if t163 = 2 then (if t164.toList = ([] : List UInt8) then (if t165 = 0 then (some (bt166.2 == 6)) else (some false)) else (some false)) else (some false)) else (some false)) else (some false)) else (some false)) else (some false)) else (some false)))) = some r := H
     have A61 := Aside0.mk A610
     clear A610
     replace H := Option.bind_eq_some_iff.mp H
     obtain ⟨⟨t166, t167⟩, A620, H⟩ := H
     replace H : ((armisticelaw12_awake.f).bind fun t168 => (if t168 = true then (if x1_0 = true then (if x2_33 = true then (if t160.toList = ([98, 101, 103, 105, 110, 32, 116] : List UInt8) then (if t161 = 0 then (if t163 = 2 then (if t164.toList = ([] : List UInt8) then (if t165 = 0 then (some (t167 == 6)) else (some false)) else (some false)) else (some false)) else (some false)) else (some false)) else (some false)) else (some false)) else (some false))) = some r := H
     have A62 := Aside0.mk A620
     clear A620
     replace H := Option.bind_eq_some_iff.mp H
     obtain ⟨t168, A630, H⟩ := H
     replace H : (if t168 = true then (if x1_0 = true then (if x2_33 = true then (if t160.toList = ([98, 101, 103, 105, 110, 32, 116] : List UInt8) then (if t161 = 0 then (if t163 = 2 then (if t164.toList = ([] : List UInt8) then (if t165 = 0 then (some (t167 == 6)) else (some false)) else (some false)) else (some false)) else (some false)) else (some false)) else (some false)) else (some false)) else (some false)) = some r := H
     have A63 := Aside0.mk A630
     clear A630
     by_cases c64 : t168 = true
     ·subst c64
      have H1 : (if x1_0 = true then (if x2_33 = true then (if t160.toList = ([98, 101, 103, 105, 110, 32, 116] : List UInt8) then (if t161 = 0 then (if t163 = 2 then (if t164.toList = ([] : List UInt8) then (if t165 = 0 then (some (t167 == 6)) else (some false)) else (some false)) else (some false)) else (some false)) else (some false)) else (some false)) else (some false)) = some r := by rw [if_pos rfl] at H; exact H
      clear H
      have H := H1
      clear H1
      by_cases c65 : x1_0 = true
      ·subst c65
       have H1 : (if x2_33 = true then (if t160.toList = ([98, 101, 103, 105, 110, 32, 116] : List UInt8) then (if t161 = 0 then (if t163 = 2 then (if t164.toList = ([] : List UInt8) then (if t165 = 0 then (some (t167 == 6)) else (some false)) else (some false)) else (some false)) else (some false)) else (some false)) else (some false)) = some r := by rw [if_pos rfl] at H; exact H
       clear H
       have H := H1
       clear H1
       by_cases c66 : x2_33 = true
       ·subst c66
        have H1 : (if t160.toList = ([98, 101, 103, 105, 110, 32, 116] : List UInt8) then (if t161 = 0 then (if t163 = 2 then (if t164.toList = ([] : List UInt8) then (if t165 = 0 then (some (t167 == 6)) else (some false)) else (some false)) else (some false)) else (some false)) else (some false)) = some r := by rw [if_pos rfl] at H; exact H
        clear H
        have H := H1
        clear H1
        by_cases c67 : t160.toList = ([98, 101, 103, 105, 110, 32, 116] : List UInt8)
        ·rw [if_pos c67] at H
         have c67b0 : (t160.toList == ([98, 101, 103, 105, 110, 32, 116] : List UInt8)) = true := beq_iff_eq.mpr c67
         have c67b1 : (t160.toList != ([98, 101, 103, 105, 110, 32, 116] : List UInt8)) = false := bne_eq_false_iff_eq.mpr c67
         clear c67
         by_cases c68 : t161 = 0
         ·rw [if_pos c68] at H
          have c68b0 : (t161 == 0) = true := beq_iff_eq.mpr c68
          have c68b1 : (t161 != 0) = false := bne_eq_false_iff_eq.mpr c68
          clear c68
          by_cases c69 : t163 = 2
          ·rw [if_pos c69] at H
           have c69b0 : (t163 == 2) = true := beq_iff_eq.mpr c69
           have c69b1 : (t163 != 2) = false := bne_eq_false_iff_eq.mpr c69
           clear c69
           by_cases c70 : t164.toList = ([] : List UInt8)
           ·rw [if_pos c70] at H
            have c70b0 : (t164.toList == ([] : List UInt8)) = true := beq_iff_eq.mpr c70
            have c70b1 : (t164.toList != ([] : List UInt8)) = false := bne_eq_false_iff_eq.mpr c70
            clear c70
            by_cases c71 : t165 = 0
            ·rw [if_pos c71] at H
             have c71b0 : (t165 == 0) = true := beq_iff_eq.mpr c71
             have c71b1 : (t165 != 0) = false := bne_eq_false_iff_eq.mpr c71
             clear c71
             obtain rfl := Option.some.inj H
             go_wp2_with (first | ((with_reducible refine gate_callee (f := 15) rfl ?_); refine goesL_ (some 42) rfl rfl Tryz.func15 (by kernel_rfl) rfl #[.agg #[.int .i64 2, .string (⟨#[116]⟩ : ByteArray), .string (⟨#[]⟩ : ByteArray), .int .i64 0, .int .i64 0, .int .i64 0, .int .i64 0, .int .i64 0, .int .i64 0, .int .i64 0, .slice none 0 0]] rfl (by (try simp only [List.map_toArray, List.map_cons, List.map_nil]); first | done | rfl | (simp only [List.length_drop, List.length_take]; rfl)) ?_; (refine (grammar_Line.calls 2 (⟨#[116]⟩ : ByteArray) (⟨#[]⟩ : ByteArray) 0 0 0 0 0 0 0 _ _ ([] : List Int) t160 t161 _ ?side1 ?side2 A59.out).mono ?_); (case side1 => exact Kd.C_nil _ _); (case side2 => exact Nat.le_refl _); rintro e w72 ⟨rfl, hb⟩; refine ⟨_, rfl, ?_⟩; have n0_ := Aside0.mk (below_step (by repeat (first | (with_reducible first | exact HB.out | apply below_alloc | apply pw_below_drewN | apply below_drew1) | exact HB.out)) hb); clear HB; have HB := n0_; clear n0_; (try clear hb); (try clear hb2); (try clear hk); (try clear hi)) | ((with_reducible refine gate_callee (f := 15) rfl ?_); refine goesL_ (some 47) rfl rfl Tryz.func15 (by kernel_rfl) rfl #[.agg #[.int .i64 2, .string (⟨#[116]⟩ : ByteArray), .string (⟨#[97]⟩ : ByteArray), .int .i64 0, .int .i64 0, .int .i64 0, .int .i64 0, .int .i64 0, .int .i64 0, .int .i64 0, .slice none 0 0]] rfl (by (try simp only [List.map_toArray, List.map_cons, List.map_nil]); first | done | rfl | (simp only [List.length_drop, List.length_take]; rfl)) ?_; (refine (grammar_Line.calls 2 (⟨#[116]⟩ : ByteArray) (⟨#[97]⟩ : ByteArray) 0 0 0 0 0 0 0 _ _ ([] : List Int) t162 t163 _ ?side1 ?side2 A60.out).mono ?_); (case side1 => exact Kd.C_nil _ _); (case side2 => exact Nat.le_refl _); rintro e w73 ⟨rfl, hb⟩; refine ⟨_, rfl, ?_⟩; have n0_ := Aside0.mk (below_step (by repeat (first | (with_reducible first | exact HB.out | apply below_alloc | apply pw_below_drewN | apply below_drew1) | exact HB.out)) hb); clear HB; have HB := n0_; clear n0_; (try clear hb); (try clear hb2); (try clear hk); (try clear hi)) | ((with_reducible refine gate_callee (f := 13) rfl ?_); refine goesL_ (some 51) rfl rfl Tryz.func13 (by kernel_rfl) rfl #[.slice none 0 0] rfl (by (try simp only [List.map_toArray, List.map_cons, List.map_nil]); first | done | rfl | (simp only [List.length_drop, List.length_take]; rfl)) ?_; (refine (grammar_Print.calls _ _ ([] : List (S38)) t164 t165 _ ?side1 ?side2 A61.out).mono ?_); (case side1 => exact Kd.C_nil _ _); (case side2 => exact Nat.le_refl _); rintro e w74 ⟨rfl, hb⟩; refine ⟨_, rfl, ?_⟩; have n0_ := Aside0.mk (below_step (by repeat (first | (with_reducible first | exact HB.out | apply below_alloc | apply pw_below_drewN | apply below_drew1) | exact HB.out)) hb); clear HB; have HB := n0_; clear n0_; (try clear hb); (try clear hb2); (try clear hk); (try clear hi)) | ((with_reducible refine gate_callee (f := 15) rfl ?_); refine goesL_ (some 56) rfl rfl Tryz.func15 (by kernel_rfl) rfl #[.agg #[.int .i64 6, .string (⟨#[116]⟩ : ByteArray), .string (⟨#[]⟩ : ByteArray), .int .i64 0, .int .i64 0, .int .i64 0, .int .i64 0, .int .i64 0, .int .i64 0, .int .i64 0, .slice none 0 0]] rfl (by (try simp only [List.map_toArray, List.map_cons, List.map_nil]); first | done | rfl | (simp only [List.length_drop, List.length_take]; rfl)) ?_; (refine (grammar_Line.calls 6 (⟨#[116]⟩ : ByteArray) (⟨#[]⟩ : ByteArray) 0 0 0 0 0 0 0 _ _ ([] : List Int) t166 t167 _ ?side1 ?side2 A62.out).mono ?_); (case side1 => exact Kd.C_nil _ _); (case side2 => exact Nat.le_refl _); rintro e w75 ⟨rfl, hb⟩; refine ⟨_, rfl, ?_⟩; have n0_ := Aside0.mk (below_step (by repeat (first | (with_reducible first | exact HB.out | apply below_alloc | apply pw_below_drewN | apply below_drew1) | exact HB.out)) hb); clear HB; have HB := n0_; clear n0_; (try clear hb); (try clear hb2); (try clear hk); (try clear hi)) | ((with_reducible refine gate_callee (f := 11) rfl ?_); refine goesL_ (some 59) rfl rfl Tryz.func11 (by kernel_rfl) rfl #[] rfl (by (try simp only [List.map_toArray, List.map_cons, List.map_nil]); first | done | rfl | (simp only [List.length_drop, List.length_take]; rfl)) ?_; (with_reducible refine (armisticelaw12_awake.calls  true _ ?side1 A63.out).mono ?_); (case side1 => exact GOk.below HG.out (by repeat (first | (with_reducible first | exact HB.out | apply below_alloc | apply pw_below_drewN | apply below_drew1) | exact HB.out))); rintro e w76 ⟨rfl, hb⟩; refine ⟨_, rfl, ?_⟩; have n0_ := Aside0.mk (below_step (by repeat (first | (with_reducible first | exact HB.out | apply below_alloc | apply pw_below_drewN | apply below_drew1) | exact HB.out)) hb); clear HB; have HB := n0_; clear n0_; (try clear hb); (try clear hb2); (try clear hk); (try clear hi)))
             go_ret
             exact ⟨by first | rfl | (simp [errW_none, errW_some] <;> rfl) | (simp [*, errW_none, errW_some] <;> rfl), by repeat (first | (with_reducible first | exact HB.out | apply below_alloc | apply pw_below_drewN | apply below_drew1) | exact HB.out)⟩
            ·rw [if_neg c71] at H
             exact absurd ((Option.some.inj H).trans HRT.out) (by simp)
           ·rw [if_neg c70] at H
            exact absurd ((Option.some.inj H).trans HRT.out) (by simp)
          ·rw [if_neg c69] at H
           exact absurd ((Option.some.inj H).trans HRT.out) (by simp)
         ·rw [if_neg c68] at H
          exact absurd ((Option.some.inj H).trans HRT.out) (by simp)
        ·rw [if_neg c67] at H
         exact absurd ((Option.some.inj H).trans HRT.out) (by simp)
       ·replace c66 := Bool.eq_false_iff.mpr c66
        subst c66
        have H1 : (some false) = some r := by rw [if_neg (show ¬ (false = true) by decide)] at H; exact H
        clear H
        have H := H1
        clear H1
        exact absurd ((Option.some.inj H).trans HRT.out) (by simp)
      ·replace c65 := Bool.eq_false_iff.mpr c65
       subst c65
       have H1 : (some false) = some r := by rw [if_neg (show ¬ (false = true) by decide)] at H; exact H
       clear H
       have H := H1
       clear H1
       exact absurd ((Option.some.inj H).trans HRT.out) (by simp)
     ·replace c64 := Bool.eq_false_iff.mpr c64
      subst c64
      have H1 : (some false) = some r := by rw [if_neg (show ¬ (false = true) by decide)] at H; exact H
      clear H
      have H := H1
      clear H1
      exact absurd ((Option.some.inj H).trans HRT.out) (by simp)
/-- THE ONE PURE STATEMENT of armisticelaw12_GrammarKnown: yours. -/
def armisticelaw12_GrammarKnown.Pure : Prop := ∃ k, armisticelaw12_GrammarKnown.f k  = some true
theorem armisticelaw12_GrammarKnown.walk (P : armisticelaw12_GrammarKnown.Pure)  (w : World)  (hG : GOk w) :
  Calls Tryz.prog 6 #[] w fun e w' => e = .returned (.bool true) ∧ Below w.heap.size w w' := by
 obtain ⟨k, h⟩ := P  
 refine (armisticelaw12_GrammarKnown.calls k true rfl w hG h).mono ?_
 rintro e w' ⟨rfl, hd⟩
 exact ⟨rfl, hd⟩

set_option maxRecDepth 100000 in
theorem armisticelaw12_GrammarKnown.known (w : World) (hG : GOk w) :
  Calls Tryz.prog 6 #[] w fun e w' => e = .returned (.bool true) ∧ Below w.heap.size w w' :=
 armisticelaw12_GrammarKnown.calls 40 true rfl w hG (by kernel_rfl)
end Go.Proofs.YtkjnbfjbdlcehaaGreatDoor.P
