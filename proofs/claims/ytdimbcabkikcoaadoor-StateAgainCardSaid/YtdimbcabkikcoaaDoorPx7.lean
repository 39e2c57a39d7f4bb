/- Laid by a program of this session (wip/tools/xprint.py) after the kit's printer: functions of the translation as plain Lean functions, each with the proof that its call comes to just that. -/
import Derived.Test.YtdimbcabkikcoaaDoorPx0
import Derived.Test.YtdimbcabkikcoaaDoorPx2
import Derived.Test.YtdimbcabkikcoaaDoorPx3
import Derived.Test.YtdimbcabkikcoaaDoorPx5
import Derived.Test.YtdimbcabkikcoaaDoorPx6
import Derived.Test.YtdimbcabkikcoaaDoorESCheck
namespace Go.Proofs.YtdimbcabkikcoaaDoor.P
open Go.RowKit Go.Proofs.YtdimbcabkikcoaaDoorW.PrintWords Go.Proofs.YtdimbcabkikcoaaDoorW.PrintLast Go.Proofs.YtdimbcabkikcoaaDoorW.PrintMore
attribute [local go_sem] max2_int min2_int max_two min_two max_three min_three max_four min_four   -- for this text's walks alone
set_option linter.unusedVariables false
set_option linter.unusedSimpArgs false

/-! ### armisticelaw05_StateKnown: function 4 -/
mutual
def armisticelaw05_StateKnown.j0 : Nat → Bool → Option (Bool)
  | 0, _ => none
  | k + 1, x1 => (state_Empty.f 2).bind fun bt228 => ((state_Decode.f k (([1, 2, 3] : List Int))).bind fun bt238 => ((armisticelaw05_some.f 3 (([1, 2, 1, 3] : List Int))).bind fun bt248 => ((state_Check.f bt248.1 bt248.2.1 bt248.2.2).bind fun t253 => (if t253 = 5 then ((armisticelaw05_some.f 6 ([] : List Int)).bind fun bt254 => ((state_Check.f bt254.1 bt254.2.1 bt254.2.2).bind fun t259 => (if t259 = 8 then ((armisticelaw05_some.f 2 ([] : List Int)).bind fun bt260 => ((armisticekit_SameState.f k bt228.1 bt228.2.1 bt228.2.2.1 bt260.1 bt260.2.1 bt260.2.2).bind fun t265 => (if t265 = true then (if bt228.2.2.2 = 0 then (armisticelaw05_StateKnown.j1 k x1 (bt238.2.2.2 == 5)) else (armisticelaw05_StateKnown.j1 k x1 false)) else (armisticelaw05_StateKnown.j1 k x1 false)))) else (armisticelaw05_StateKnown.j1 k x1 false)))) else (armisticelaw05_StateKnown.j1 k x1 false)))))
def armisticelaw05_StateKnown.j1 : Nat → Bool → Bool → Option (Bool)
  | 0, _, _ => none
  | k + 1, x1, x6 => (armisticelaw05_awake.f k).bind fun t266 => (if t266 = true then (if x1 = true then (if x6 = true then ((armisticelaw05_some.f 2 (([1] : List Int))).bind fun bt270 => ((armisticelaw05_some.f 4 (([1] : List Int))).bind fun bt278 => ((state_Same.f k bt270.1 bt270.2.1 bt270.2.2 bt278.1 bt278.2.1 bt278.2.2).bind fun t283 => (if t283 = true then (some false) else ((armisticelaw05_some.f 2 (([1] : List Int))).bind fun bt287 => ((armisticelaw05_some.f 2 (([1] : List Int))).bind fun bt295 => ((state_Same.f k bt287.1 bt287.2.1 bt287.2.2 bt295.1 bt295.2.1 bt295.2.2).bind fun t300 => (some t300)))))))) else (some false)) else (some false)) else (some false))
end
def armisticelaw05_StateKnown.f (k : Nat)  : Option (Bool) := (armisticelaw05_some.f 4 ([] : List Int)).bind fun bt217 => ((armisticelaw05_tells.f bt217.1 bt217.2.1 bt217.2.2 (⟨#[113, 117, 101, 117, 101]⟩ : ByteArray) 0).bind fun t222 => (if t222 = true then ((armisticelaw05_fails.f k (⟨#[115, 101, 116, 32, 51, 32, 51]⟩ : ByteArray) 5 0).bind fun t223 => (if t223 = true then ((armisticelaw05_fails.f k (⟨#[101, 115, 99, 114, 111, 119, 32, 45, 49]⟩ : ByteArray) 5 0).bind fun t224 => (if t224 = true then ((armisticelaw05_fails.f k (⟨#[115, 101, 116, 32, 120]⟩ : ByteArray) 5 4).bind fun t225 => (if t225 = true then ((armisticelaw05_fails.f k (⟨#[115, 101, 116, 115, 32, 49]⟩ : ByteArray) 6 0).bind fun t226 => (if t226 = true then ((armisticelaw05_fails.f k (⟨#[99, 111, 117, 110, 116, 101, 114]⟩ : ByteArray) 5 0).bind fun t227 => (armisticelaw05_StateKnown.j0 k t227)) else (armisticelaw05_StateKnown.j0 k false))) else (armisticelaw05_StateKnown.j0 k false))) else (armisticelaw05_StateKnown.j0 k false))) else (armisticelaw05_StateKnown.j0 k false))) else (armisticelaw05_StateKnown.j0 k false)))
theorem armisticelaw05_StateKnown.mono_l : ∀ k, (∀ y0, LeO (armisticelaw05_StateKnown.j0 k y0) (armisticelaw05_StateKnown.j0 (k + 1) y0)) ∧ (∀ y0 y1, LeO (armisticelaw05_StateKnown.j1 k y0 y1) (armisticelaw05_StateKnown.j1 (k + 1) y0 y1))
  | 0 => ⟨fun _ r h => by simp [armisticelaw05_StateKnown.j0] at h, fun _ _ r h => by simp [armisticelaw05_StateKnown.j1] at h⟩
  | k + 1 => by
    obtain ⟨ih0, ih1⟩ := armisticelaw05_StateKnown.mono_l k
    refine ⟨?_, ?_⟩
    · intro y0
      unfold armisticelaw05_StateKnown.j0
      repeat' first
      | (with_reducible exact ih0 _)
      | (with_reducible exact ih1 _ _)
      | (with_reducible exact armisticekit_SameState.mono _ _ _ _ _ _ _)
      | (with_reducible exact armisticelaw05_awake.mono _)
      | (with_reducible exact armisticelaw05_fails.mono _ _ _ _)
      | (with_reducible exact state_Decode.mono _ _)
      | (with_reducible exact state_Same.mono _ _ _ _ _ _ _)
      | (with_reducible exact LeO.refl _)
      | (with_reducible exact LeO.none _)
      | (with_reducible refine LeO.ite ?_ ?_)
      | (with_reducible refine LeO.bind ?_ (fun _ => ?_))
      | exact ih0 _
      | exact ih1 _ _
      | exact armisticekit_SameState.mono _ _ _ _ _ _ _
      | exact armisticelaw05_awake.mono _
      | exact armisticelaw05_fails.mono _ _ _ _
      | exact state_Decode.mono _ _
      | exact state_Same.mono _ _ _ _ _ _ _
      | exact LeO.none _
      | refine LeO.ite ?_ ?_
      | refine LeO.bind ?_ (fun _ => ?_)
    · intro y0 y1
      unfold armisticelaw05_StateKnown.j1
      repeat' first
      | (with_reducible exact ih0 _)
      | (with_reducible exact ih1 _ _)
      | (with_reducible exact armisticekit_SameState.mono _ _ _ _ _ _ _)
      | (with_reducible exact armisticelaw05_awake.mono _)
      | (with_reducible exact armisticelaw05_fails.mono _ _ _ _)
      | (with_reducible exact state_Decode.mono _ _)
      | (with_reducible exact state_Same.mono _ _ _ _ _ _ _)
      | (with_reducible exact LeO.refl _)
      | (with_reducible exact LeO.none _)
      | (with_reducible refine LeO.ite ?_ ?_)
      | (with_reducible refine LeO.bind ?_ (fun _ => ?_))
      | exact ih0 _
      | exact ih1 _ _
      | exact armisticekit_SameState.mono _ _ _ _ _ _ _
      | exact armisticelaw05_awake.mono _
      | exact armisticelaw05_fails.mono _ _ _ _
      | exact state_Decode.mono _ _
      | exact state_Same.mono _ _ _ _ _ _ _
      | exact LeO.none _
      | refine LeO.ite ?_ ?_
      | refine LeO.bind ?_ (fun _ => ?_)
theorem armisticelaw05_StateKnown.mono : ∀ k, LeO (armisticelaw05_StateKnown.f k ) (armisticelaw05_StateKnown.f (k + 1) ) := by
  intro  k
  obtain ⟨ih0, ih1⟩ := armisticelaw05_StateKnown.mono_l k
  unfold armisticelaw05_StateKnown.f
  repeat' first
      | (with_reducible exact ih0 _)
      | (with_reducible exact ih1 _ _)
      | (with_reducible exact armisticekit_SameState.mono _ _ _ _ _ _ _)
      | (with_reducible exact armisticelaw05_awake.mono _)
      | (with_reducible exact armisticelaw05_fails.mono _ _ _ _)
      | (with_reducible exact state_Decode.mono _ _)
      | (with_reducible exact state_Same.mono _ _ _ _ _ _ _)
      | (with_reducible exact LeO.refl _)
      | (with_reducible exact LeO.none _)
      | (with_reducible refine LeO.ite ?_ ?_)
      | (with_reducible refine LeO.bind ?_ (fun _ => ?_))
      | exact ih0 _
      | exact ih1 _ _
      | exact armisticekit_SameState.mono _ _ _ _ _ _ _
      | exact armisticelaw05_awake.mono _
      | exact armisticelaw05_fails.mono _ _ _ _
      | exact state_Decode.mono _ _
      | exact state_Same.mono _ _ _ _ _ _ _
      | exact LeO.none _
      | refine LeO.ite ?_ ?_
      | refine LeO.bind ?_ (fun _ => ?_)
def armisticelaw05_StateKnown.T4 : Bool × List (List Nat × List Nat) := (true, [([], []), ([0], [0]), ([1, 1], [1]), ([2], [2]), ([3, 2], [3]), ([4, 4], [4]), ([5, 5, 4], [4, 5]), ([6, 4], [4, 6]), ([4, 7], [4, 7]), ([8, 6], [8]), ([9], [9]), ([9, 9], [9]), ([10, 11, 11, 9], [9, 10, 11]), ([9, 12], [9, 12]), ([13, 12], [13]), ([14], [14]), ([15, 14], [14, 15]), ([14, 16], [14, 16]), ([17, 14], [17]), ([18], [18]), ([19, 18], [18, 19]), ([18, 20], [18, 20]), ([21, 18, 0, 1, 2, 3, 4, 5, 6, 7, 8, 9, 10, 11, 12, 13, 14, 15, 16, 17, 18, 19, 20, 21], [21])])
def armisticelaw05_StateKnown.B4 : List Nat := [0, 1, 3, 7, 15, 31, 63, 127, 255, 511, 1023, 1023, 4095, 8191, 16383, 32767, 65535, 131071, 262143, 524287, 1048575, 2097151, 4194303]
theorem armisticelaw05_StateKnown.tab4 : rtab .any (opsOf Tryd.f4 4) = armisticelaw05_StateKnown.T4 := by kernel_rfl
theorem armisticelaw05_StateKnown.bits4 : waitsOk armisticelaw05_StateKnown.T4.2 armisticelaw05_StateKnown.B4 = true := by kernel_rfl
theorem armisticelaw05_StateKnown.j1_false0 {k : Nat} {a1 : Bool} {r : Bool} (h : armisticelaw05_StateKnown.j1 k false a1 = some r) : r = false := by
  cases k with
  | zero => rw [armisticelaw05_StateKnown.j1] at h; cases h
  | succ k =>
    rw [armisticelaw05_StateKnown.j1] at h
    repeat' first
    | exact (Option.some.inj h).symm
    | (rw [Option.bind_eq_some_iff] at h; obtain ⟨_, _, h⟩ := h)
    | (split at h)
    | (rename_i hc_; cases hc_; done)
theorem armisticelaw05_StateKnown.j1_false {k : Nat} {a0 : Bool} {r : Bool} (h : armisticelaw05_StateKnown.j1 k a0 false = some r) : r = false := by
  cases k with
  | zero => rw [armisticelaw05_StateKnown.j1] at h; cases h
  | succ k =>
    rw [armisticelaw05_StateKnown.j1] at h
    repeat' first
    | exact (Option.some.inj h).symm
    | (rw [Option.bind_eq_some_iff] at h; obtain ⟨_, _, h⟩ := h)
    | (split at h)
    | (rename_i hc_; cases hc_; done)
theorem armisticelaw05_StateKnown.j0_false {k : Nat} {r : Bool} (h : armisticelaw05_StateKnown.j0 k false = some r) : r = false := by
  cases k with
  | zero => rw [armisticelaw05_StateKnown.j0] at h; cases h
  | succ k =>
    rw [armisticelaw05_StateKnown.j0] at h
    repeat' first
    | exact (Option.some.inj h).symm
    | exact armisticelaw05_StateKnown.j1_false0 h
    | exact armisticelaw05_StateKnown.j1_false h
    | (rw [Option.bind_eq_some_iff] at h; obtain ⟨_, _, h⟩ := h)
    | (split at h)
    | (rename_i hc_; cases hc_; done)
set_option maxHeartbeats 8000000 in
set_option maxRecDepth 100000 in
theorem armisticelaw05_StateKnown.calls0 (k : Nat)  (r : Bool) (hrt : r = true) (w : World) (hG : GOk w) (h : armisticelaw05_StateKnown.f k  = some r) :
    Calls Tryd.prog 4 #[] w fun e w' => e = .returned (.bool r) ∧ Below w.heap.size w w' := by
  have HRT := Aside0.mk hrt
  clear hrt
  have hu27 := Tryd.underlying27
  have HG := Aside0.mk hG
  clear hG
  have HB := Aside0.mk (Below.refl w.heap.size w)
  have H : ((armisticelaw05_some.f 4 ([] : List Int)).bind fun bt217 => ((armisticelaw05_tells.f bt217.1 bt217.2.1 bt217.2.2 (⟨#[113, 117, 101, 117, 101]⟩ : ByteArray) 0).bind fun t222 => (if t222 = true then ((armisticelaw05_fails.f k (⟨#[115, 101, 116, 32, 51, 32, 51]⟩ : ByteArray) 5 0).bind fun t223 => (if t223 = true then ((armisticelaw05_fails.f k (⟨#[101, 115, 99, 114, 111, 119, 32, 45, 49]⟩ : ByteArray) 5 0).bind fun t224 => (if t224 = true then ((armisticelaw05_fails.f k (⟨#[115, 101, 116, 32, 120]⟩ : ByteArray) 5 4).bind fun t225 => (if t225 = true then ((armisticelaw05_fails.f k (⟨#[115, 101, 116, 115, 32, 49]⟩ : ByteArray) 6 0).bind fun t226 => (if t226 = true then ((armisticelaw05_fails.f k (⟨#[99, 111, 117, 110, 116, 101, 114]⟩ : ByteArray) 5 0).bind fun t227 => (armisticelaw05_StateKnown.j0 k t227)) else (armisticelaw05_StateKnown.j0 k false))) else (armisticelaw05_StateKnown.j0 k false))) else (armisticelaw05_StateKnown.j0 k false))) else (armisticelaw05_StateKnown.j0 k false))) else (armisticelaw05_StateKnown.j0 k false)))) = some r := h
  clear h
  have HC1 := Aside0.mk H
  clear H
  go_enter Tryd.func4, Tryd.ntmps4
  go_upto_region 1 with (fail)
  go_cut [1] (fun v1 wc => ∃ (kq : Nat) (x1_0 : Bool), v1 = .bool x1_0 ∧ Aside0 (armisticelaw05_StateKnown.j0 kq x1_0 = some r) ∧ Aside0 (kq ≤ k) ∧ Aside0 (Below w.heap.size w wc))
  case first =>
    have H := HC1.out
    clear HC1
    replace H := Option.bind_eq_some_iff.mp H
    obtain ⟨⟨t217, t218, t219⟩, A20, H⟩ := H
    replace H : ((armisticelaw05_tells.f t217 t218 t219 (⟨#[113, 117, 101, 117, 101]⟩ : ByteArray) 0).bind fun t222 => (if t222 = true then ((armisticelaw05_fails.f k (⟨#[115, 101, 116, 32, 51, 32, 51]⟩ : ByteArray) 5 0).bind fun t223 => (if t223 = true then ((armisticelaw05_fails.f k (⟨#[101, 115, 99, 114, 111, 119, 32, 45, 49]⟩ : ByteArray) 5 0).bind fun t224 => (if t224 = true then ((armisticelaw05_fails.f k (⟨#[115, 101, 116, 32, 120]⟩ : ByteArray) 5 4).bind fun t225 => (if t225 = true then ((armisticelaw05_fails.f k (⟨#[115, 101, 116, 115, 32, 49]⟩ : ByteArray) 6 0).bind fun t226 => (if t226 = true then ((armisticelaw05_fails.f k (⟨#[99, 111, 117, 110, 116, 101, 114]⟩ : ByteArray) 5 0).bind fun t227 => (armisticelaw05_StateKnown.j0 k t227)) else (armisticelaw05_StateKnown.j0 k false))) else (armisticelaw05_StateKnown.j0 k false))) else (armisticelaw05_StateKnown.j0 k false))) else (armisticelaw05_StateKnown.j0 k false))) else (armisticelaw05_StateKnown.j0 k false))) = some r := H
    have A2 := Aside0.mk A20
    clear A20
    replace H := Option.bind_eq_some_iff.mp H
    obtain ⟨t222, A30, H⟩ := H
    replace H : (if t222 = true then ((armisticelaw05_fails.f k (⟨#[115, 101, 116, 32, 51, 32, 51]⟩ : ByteArray) 5 0).bind fun t223 => (if t223 = true then ((armisticelaw05_fails.f k (⟨#[101, 115, 99, 114, 111, 119, 32, 45, 49]⟩ : ByteArray) 5 0).bind fun t224 => (if t224 = true then ((armisticelaw05_fails.f k (⟨#[115, 101, 116, 32, 120]⟩ : ByteArray) 5 4).bind fun t225 => (if t225 = true then ((armisticelaw05_fails.f k (⟨#[115, 101, 116, 115, 32, 49]⟩ : ByteArray) 6 0).bind fun t226 => (if t226 = true then ((armisticelaw05_fails.f k (⟨#[99, 111, 117, 110, 116, 101, 114]⟩ : ByteArray) 5 0).bind fun t227 => (armisticelaw05_StateKnown.j0 k t227)) else (armisticelaw05_StateKnown.j0 k false))) else (armisticelaw05_StateKnown.j0 k false))) else (armisticelaw05_StateKnown.j0 k false))) else (armisticelaw05_StateKnown.j0 k false))) else (armisticelaw05_StateKnown.j0 k false)) = some r := H
    have A3 := Aside0.mk A30
    clear A30
    by_cases c4 : t222 = true
    · subst c4
      have H1 : ((armisticelaw05_fails.f k (⟨#[115, 101, 116, 32, 51, 32, 51]⟩ : ByteArray) 5 0).bind fun t223 => (if t223 = true then ((armisticelaw05_fails.f k (⟨#[101, 115, 99, 114, 111, 119, 32, 45, 49]⟩ : ByteArray) 5 0).bind fun t224 => (if t224 = true then ((armisticelaw05_fails.f k (⟨#[115, 101, 116, 32, 120]⟩ : ByteArray) 5 4).bind fun t225 => (if t225 = true then ((armisticelaw05_fails.f k (⟨#[115, 101, 116, 115, 32, 49]⟩ : ByteArray) 6 0).bind fun t226 => (if t226 = true then ((armisticelaw05_fails.f k (⟨#[99, 111, 117, 110, 116, 101, 114]⟩ : ByteArray) 5 0).bind fun t227 => (armisticelaw05_StateKnown.j0 k t227)) else (armisticelaw05_StateKnown.j0 k false))) else (armisticelaw05_StateKnown.j0 k false))) else (armisticelaw05_StateKnown.j0 k false))) else (armisticelaw05_StateKnown.j0 k false))) = some r := by rw [if_pos rfl] at H; exact H
      clear H
      have H := H1
      clear H1
      replace H := Option.bind_eq_some_iff.mp H
      obtain ⟨t223, A50, H⟩ := H
      replace H : (if t223 = true then ((armisticelaw05_fails.f k (⟨#[101, 115, 99, 114, 111, 119, 32, 45, 49]⟩ : ByteArray) 5 0).bind fun t224 => (if t224 = true then ((armisticelaw05_fails.f k (⟨#[115, 101, 116, 32, 120]⟩ : ByteArray) 5 4).bind fun t225 => (if t225 = true then ((armisticelaw05_fails.f k (⟨#[115, 101, 116, 115, 32, 49]⟩ : ByteArray) 6 0).bind fun t226 => (if t226 = true then ((armisticelaw05_fails.f k (⟨#[99, 111, 117, 110, 116, 101, 114]⟩ : ByteArray) 5 0).bind fun t227 => (armisticelaw05_StateKnown.j0 k t227)) else (armisticelaw05_StateKnown.j0 k false))) else (armisticelaw05_StateKnown.j0 k false))) else (armisticelaw05_StateKnown.j0 k false))) else (armisticelaw05_StateKnown.j0 k false)) = some r := H
      have A5 := Aside0.mk A50
      clear A50
      by_cases c6 : t223 = true
      · subst c6
        have H1 : ((armisticelaw05_fails.f k (⟨#[101, 115, 99, 114, 111, 119, 32, 45, 49]⟩ : ByteArray) 5 0).bind fun t224 => (if t224 = true then ((armisticelaw05_fails.f k (⟨#[115, 101, 116, 32, 120]⟩ : ByteArray) 5 4).bind fun t225 => (if t225 = true then ((armisticelaw05_fails.f k (⟨#[115, 101, 116, 115, 32, 49]⟩ : ByteArray) 6 0).bind fun t226 => (if t226 = true then ((armisticelaw05_fails.f k (⟨#[99, 111, 117, 110, 116, 101, 114]⟩ : ByteArray) 5 0).bind fun t227 => (armisticelaw05_StateKnown.j0 k t227)) else (armisticelaw05_StateKnown.j0 k false))) else (armisticelaw05_StateKnown.j0 k false))) else (armisticelaw05_StateKnown.j0 k false))) = some r := by rw [if_pos rfl] at H; exact H
        clear H
        have H := H1
        clear H1
        replace H := Option.bind_eq_some_iff.mp H
        obtain ⟨t224, A70, H⟩ := H
        replace H : (if t224 = true then ((armisticelaw05_fails.f k (⟨#[115, 101, 116, 32, 120]⟩ : ByteArray) 5 4).bind fun t225 => (if t225 = true then ((armisticelaw05_fails.f k (⟨#[115, 101, 116, 115, 32, 49]⟩ : ByteArray) 6 0).bind fun t226 => (if t226 = true then ((armisticelaw05_fails.f k (⟨#[99, 111, 117, 110, 116, 101, 114]⟩ : ByteArray) 5 0).bind fun t227 => (armisticelaw05_StateKnown.j0 k t227)) else (armisticelaw05_StateKnown.j0 k false))) else (armisticelaw05_StateKnown.j0 k false))) else (armisticelaw05_StateKnown.j0 k false)) = some r := H
        have A7 := Aside0.mk A70
        clear A70
        by_cases c8 : t224 = true
        · subst c8
          have H1 : ((armisticelaw05_fails.f k (⟨#[115, 101, 116, 32, 120]⟩ : ByteArray) 5 4).bind fun t225 => (if t225 = true then ((armisticelaw05_fails.f k (⟨#[115, 101, 116, 115, 32, 49]⟩ : ByteArray) 6 0).bind fun t226 => (if t226 = true then ((armisticelaw05_fails.f k (⟨#[99, 111, 117, 110, 116, 101, 114]⟩ : ByteArray) 5 0).bind fun t227 => (armisticelaw05_StateKnown.j0 k t227)) else (armisticelaw05_StateKnown.j0 k false))) else (armisticelaw05_StateKnown.j0 k false))) = some r := by rw [if_pos rfl] at H; exact H
          clear H
          have H := H1
          clear H1
          replace H := Option.bind_eq_some_iff.mp H
          obtain ⟨t225, A90, H⟩ := H
          replace H : (if t225 = true then ((armisticelaw05_fails.f k (⟨#[115, 101, 116, 115, 32, 49]⟩ : ByteArray) 6 0).bind fun t226 => (if t226 = true then ((armisticelaw05_fails.f k (⟨#[99, 111, 117, 110, 116, 101, 114]⟩ : ByteArray) 5 0).bind fun t227 => (armisticelaw05_StateKnown.j0 k t227)) else (armisticelaw05_StateKnown.j0 k false))) else (armisticelaw05_StateKnown.j0 k false)) = some r := H
          have A9 := Aside0.mk A90
          clear A90
          by_cases c10 : t225 = true
          · subst c10
            have H1 : ((armisticelaw05_fails.f k (⟨#[115, 101, 116, 115, 32, 49]⟩ : ByteArray) 6 0).bind fun t226 => (if t226 = true then ((armisticelaw05_fails.f k (⟨#[99, 111, 117, 110, 116, 101, 114]⟩ : ByteArray) 5 0).bind fun t227 => (armisticelaw05_StateKnown.j0 k t227)) else (armisticelaw05_StateKnown.j0 k false))) = some r := by rw [if_pos rfl] at H; exact H
            clear H
            have H := H1
            clear H1
            replace H := Option.bind_eq_some_iff.mp H
            obtain ⟨t226, A110, H⟩ := H
            replace H : (if t226 = true then ((armisticelaw05_fails.f k (⟨#[99, 111, 117, 110, 116, 101, 114]⟩ : ByteArray) 5 0).bind fun t227 => (armisticelaw05_StateKnown.j0 k t227)) else (armisticelaw05_StateKnown.j0 k false)) = some r := H
            have A11 := Aside0.mk A110
            clear A110
            by_cases c12 : t226 = true
            · subst c12
              have H1 : ((armisticelaw05_fails.f k (⟨#[99, 111, 117, 110, 116, 101, 114]⟩ : ByteArray) 5 0).bind fun t227 => (armisticelaw05_StateKnown.j0 k t227)) = some r := by rw [if_pos rfl] at H; exact H
              clear H
              have H := H1
              clear H1
              replace H := Option.bind_eq_some_iff.mp H
              obtain ⟨t227, A130, H⟩ := H
              replace H : (armisticelaw05_StateKnown.j0 k t227) = some r := H
              have A13 := Aside0.mk A130
              clear A130
              have H' := Aside0.mk H
              clear H
              go_wp2_with (first | ((with_reducible refine gate_callee (f := 18) rfl ?_); refine goesL_ (some 7) rfl rfl Tryd.func18 (by kernel_rfl) rfl #[.int .i64 4, .slice none 0 0] rfl (by (try simp only [List.map_toArray, List.map_cons, List.map_nil]); first | done | rfl | (simp only [List.length_drop, List.length_take]; rfl)) ?_; (refine (armisticelaw05_some.calls 4 (fun k_ => some k_ = (.slice none 0 0 : Value).ownBlock) (.slice none 0 0) ([] : List Int) t217 t218 t219 w _ ?side1 ?side2 A2.out).mono ?_); (case side1 => repeat (first | (with_reducible first | exact HB.out | apply below_alloc | apply pw_below_drewN | apply below_drew1) | exact HB.out)); (case side2 => exact Kd.R_nil _ _ _ _ _); rintro e w14 ⟨v220, rfl, ho0, hb, hkp⟩; refine ⟨_, rfl, ?_⟩; have n0_ := Aside0.mk (Kd.R_mono (ok' := fun k_ => True) ho0 (fun k_ hk_ => trivial)); have n1_ := Aside0.mk (hb); clear HB; have HO221 := n0_; have HB := n1_; clear n0_ n1_; (try clear hb); (try clear hkp); (try clear ho0); obtain ⟨Ao15, co15, eo15⟩ := Kd.R_slice HO221.out; subst eo15) | ((with_reducible refine gate_callee (f := 17) rfl ?_); refine goesL_ (some 8) rfl rfl Tryd.func17 (by kernel_rfl) rfl #[.agg #[.int .i64 t217, .int .i64 t218, .slice Ao15 t219.length co15], .string (⟨#[113, 117, 101, 117, 101]⟩ : ByteArray), .int .i64 0] rfl (by (try simp only [List.map_toArray, List.map_cons, List.map_nil]); first | done | rfl | (simp only [List.length_drop, List.length_take]; rfl)) ?_; (with_reducible refine (armisticelaw05_tells.calls t217 t218 _ _ t219 (⟨#[113, 117, 101, 117, 101]⟩ : ByteArray) 0 true _ ?side1 ?side2 A3.out).mono ?_); (case side1 => repeat (first | exact (Kd.R_reads' HO221.out).2.2 | (with_reducible refine Kd.C_alloc ?_ _) | (with_reducible refine Kd.C_drewN ?_ _) | (with_reducible refine Kd.C_drew ?_))); (case side2 => exact (Kd.R_reads' HO221.out).2.1); rintro e w16 ⟨rfl, hb⟩; refine ⟨_, rfl, ?_⟩; have n0_ := Aside0.mk (Kd.R_below (by (with_reducible repeat (first | apply Kd.R_alloc | apply Kd.R_drewN | apply Kd.R_drew)); exact HO221.out) hb); have n1_ := Aside0.mk (below_step (by repeat (first | (with_reducible first | exact HB.out | apply below_alloc | apply pw_below_drewN | apply below_drew1) | exact HB.out)) hb); clear HO221; clear HB; have HO221 := n0_; have HB := n1_; clear n0_ n1_; (try clear hb); (try clear hb2); (try clear hk); (try clear hi)) | (go_at_call 19; (with_reducible refine (armisticelaw05_fails.calls k (⟨#[115, 101, 116, 32, 51, 32, 51]⟩ : ByteArray) 5 0 true _ ?side1 A5.out).mono ?_); (case side1 => exact GOk.below HG.out (by repeat (first | (with_reducible first | exact HB.out | apply below_alloc | apply pw_below_drewN | apply below_drew1) | exact HB.out))); rintro e w17 ⟨rfl, hb⟩; have n0_ := Aside0.mk (Kd.R_below (by (with_reducible repeat (first | apply Kd.R_alloc | apply Kd.R_drewN | apply Kd.R_drew)); exact HO221.out) hb); have n1_ := Aside0.mk (below_step (by repeat (first | (with_reducible first | exact HB.out | apply below_alloc | apply pw_below_drewN | apply below_drew1) | exact HB.out)) hb); clear HO221; clear HB; have HO221 := n0_; have HB := n1_; clear n0_ n1_; (try clear hb); (try clear hb2); (try clear hk); (try clear hi)) | (go_at_call 19; (with_reducible refine (armisticelaw05_fails.calls k (⟨#[101, 115, 99, 114, 111, 119, 32, 45, 49]⟩ : ByteArray) 5 0 true _ ?side1 A7.out).mono ?_); (case side1 => exact GOk.below HG.out (by repeat (first | (with_reducible first | exact HB.out | apply below_alloc | apply pw_below_drewN | apply below_drew1) | exact HB.out))); rintro e w18 ⟨rfl, hb⟩; have n0_ := Aside0.mk (Kd.R_below (by (with_reducible repeat (first | apply Kd.R_alloc | apply Kd.R_drewN | apply Kd.R_drew)); exact HO221.out) hb); have n1_ := Aside0.mk (below_step (by repeat (first | (with_reducible first | exact HB.out | apply below_alloc | apply pw_below_drewN | apply below_drew1) | exact HB.out)) hb); clear HO221; clear HB; have HO221 := n0_; have HB := n1_; clear n0_ n1_; (try clear hb); (try clear hb2); (try clear hk); (try clear hi)) | (go_at_call 19; (with_reducible refine (armisticelaw05_fails.calls k (⟨#[115, 101, 116, 32, 120]⟩ : ByteArray) 5 4 true _ ?side1 A9.out).mono ?_); (case side1 => exact GOk.below HG.out (by repeat (first | (with_reducible first | exact HB.out | apply below_alloc | apply pw_below_drewN | apply below_drew1) | exact HB.out))); rintro e w19 ⟨rfl, hb⟩; have n0_ := Aside0.mk (Kd.R_below (by (with_reducible repeat (first | apply Kd.R_alloc | apply Kd.R_drewN | apply Kd.R_drew)); exact HO221.out) hb); have n1_ := Aside0.mk (below_step (by repeat (first | (with_reducible first | exact HB.out | apply below_alloc | apply pw_below_drewN | apply below_drew1) | exact HB.out)) hb); clear HO221; clear HB; have HO221 := n0_; have HB := n1_; clear n0_ n1_; (try clear hb); (try clear hb2); (try clear hk); (try clear hi)) | (go_at_call 19; (with_reducible refine (armisticelaw05_fails.calls k (⟨#[115, 101, 116, 115, 32, 49]⟩ : ByteArray) 6 0 true _ ?side1 A11.out).mono ?_); (case side1 => exact GOk.below HG.out (by repeat (first | (with_reducible first | exact HB.out | apply below_alloc | apply pw_below_drewN | apply below_drew1) | exact HB.out))); rintro e w20 ⟨rfl, hb⟩; have n0_ := Aside0.mk (Kd.R_below (by (with_reducible repeat (first | apply Kd.R_alloc | apply Kd.R_drewN | apply Kd.R_drew)); exact HO221.out) hb); have n1_ := Aside0.mk (below_step (by repeat (first | (with_reducible first | exact HB.out | apply below_alloc | apply pw_below_drewN | apply below_drew1) | exact HB.out)) hb); clear HO221; clear HB; have HO221 := n0_; have HB := n1_; clear n0_ n1_; (try clear hb); (try clear hb2); (try clear hk); (try clear hi)) | (go_at_call 19; (with_reducible refine (armisticelaw05_fails.calls k (⟨#[99, 111, 117, 110, 116, 101, 114]⟩ : ByteArray) 5 0 t227 _ ?side1 A13.out).mono ?_); (case side1 => exact GOk.below HG.out (by repeat (first | (with_reducible first | exact HB.out | apply below_alloc | apply pw_below_drewN | apply below_drew1) | exact HB.out))); rintro e w21 ⟨rfl, hb⟩; have n0_ := Aside0.mk (Kd.R_below (by (with_reducible repeat (first | apply Kd.R_alloc | apply Kd.R_drewN | apply Kd.R_drew)); exact HO221.out) hb); have n1_ := Aside0.mk (below_step (by repeat (first | (with_reducible first | exact HB.out | apply below_alloc | apply pw_below_drewN | apply below_drew1) | exact HB.out)) hb); clear HO221; clear HB; have HO221 := n0_; have HB := n1_; clear n0_ n1_; (try clear hb); (try clear hb2); (try clear hk); (try clear hi)))
              go_meet
              case rel => exact ⟨_, (t227), (by first | rfl | (simp; done) | (simp [*]; done)), H', ⟨by first | omega | exact Nat.le_refl _⟩, ⟨by repeat (first | (with_reducible first | exact HB.out | apply below_alloc | apply pw_below_drewN | apply below_drew1) | exact HB.out)⟩⟩
            · replace c12 := Bool.eq_false_iff.mpr c12
              subst c12
              have H1 : (armisticelaw05_StateKnown.j0 k false) = some r := by rw [if_neg (show ¬ (false = true) by decide)] at H; exact H
              exact absurd ((armisticelaw05_StateKnown.j0_false H1).symm.trans HRT.out) (by decide)
          · replace c10 := Bool.eq_false_iff.mpr c10
            subst c10
            have H1 : (armisticelaw05_StateKnown.j0 k false) = some r := by rw [if_neg (show ¬ (false = true) by decide)] at H; exact H
            exact absurd ((armisticelaw05_StateKnown.j0_false H1).symm.trans HRT.out) (by decide)
        · replace c8 := Bool.eq_false_iff.mpr c8
          subst c8
          have H1 : (armisticelaw05_StateKnown.j0 k false) = some r := by rw [if_neg (show ¬ (false = true) by decide)] at H; exact H
          exact absurd ((armisticelaw05_StateKnown.j0_false H1).symm.trans HRT.out) (by decide)
      · replace c6 := Bool.eq_false_iff.mpr c6
        subst c6
        have H1 : (armisticelaw05_StateKnown.j0 k false) = some r := by rw [if_neg (show ¬ (false = true) by decide)] at H; exact H
        exact absurd ((armisticelaw05_StateKnown.j0_false H1).symm.trans HRT.out) (by decide)
    · replace c4 := Bool.eq_false_iff.mpr c4
      subst c4
      have H1 : (armisticelaw05_StateKnown.j0 k false) = some r := by rw [if_neg (show ¬ (false = true) by decide)] at H; exact H
      exact absurd ((armisticelaw05_StateKnown.j0_false H1).symm.trans HRT.out) (by decide)
  case rest =>
    clear HC1
    try clear c1
    try clear p2
    try clear c4
    try clear c6
    try clear c8
    try clear c10
    try clear c12
    try clear c17
    try clear c18
    obtain ⟨kq, x1_0, rfl, HA, HJ0, HB⟩ := hcut
    cases kq with
    | zero => exact absurd HA.out (by simp [armisticelaw05_StateKnown.j0])
    | succ kj0 =>
      have H := HA.out
      clear HA
      simp only [armisticelaw05_StateKnown.j0] at H
      replace H := Option.bind_eq_some_iff.mp H
      obtain ⟨⟨t228, t229, t230, t233⟩, A470, H⟩ := H
      replace H : ((state_Decode.f kj0 (([1, 2, 3] : List Int))).bind fun bt238 => ((armisticelaw05_some.f 3 (([1, 2, 1, 3] : List Int))).bind fun bt248 => ((state_Check.f bt248.1 bt248.2.1 bt248.2.2).bind fun t253 => (if t253 = 5 then ((armisticelaw05_some.f 6 ([] : List Int)).bind fun bt254 => ((state_Check.f bt254.1 bt254.2.1 bt254.2.2).bind fun t259 => (if t259 = 8 then ((armisticelaw05_some.f 2 ([] : List Int)).bind fun bt260 => ((armisticekit_SameState.f kj0 t228 t229 t230 bt260.1 bt260.2.1 bt260.2.2).bind fun t265 => (if t265 = true then (if t233 = 0 then (armisticelaw05_StateKnown.j1 kj0 x1_0 (bt238.2.2.2 == 5)) else (armisticelaw05_StateKnown.j1 kj0 x1_0 false)) else (armisticelaw05_StateKnown.j1 kj0 x1_0 false)))) else (armisticelaw05_StateKnown.j1 kj0 x1_0 false)))) else (armisticelaw05_StateKnown.j1 kj0 x1_0 false))))) = some r := H
      have A47 := Aside0.mk A470
      clear A470
      obtain ⟨y235, hy235⟩ : ∃ y_ : List Int, y_ = (([1, 2, 3] : List Int)) := ⟨_, rfl⟩
      replace H : ((state_Decode.f kj0 y235).bind fun bt238 => ((armisticelaw05_some.f 3 (([1, 2, 1, 3] : List Int))).bind fun bt248 => ((state_Check.f bt248.1 bt248.2.1 bt248.2.2).bind fun t253 => (if t253 = 5 then ((armisticelaw05_some.f 6 ([] : List Int)).bind fun bt254 => ((state_Check.f bt254.1 bt254.2.1 bt254.2.2).bind fun t259 => (if t259 = 8 then ((armisticelaw05_some.f 2 ([] : List Int)).bind fun bt260 => ((armisticekit_SameState.f kj0 t228 t229 t230 bt260.1 bt260.2.1 bt260.2.2).bind fun t265 => (if t265 = true then (if t233 = 0 then (armisticelaw05_StateKnown.j1 kj0 x1_0 (bt238.2.2.2 == 5)) else (armisticelaw05_StateKnown.j1 kj0 x1_0 false)) else (armisticelaw05_StateKnown.j1 kj0 x1_0 false)))) else (armisticelaw05_StateKnown.j1 kj0 x1_0 false)))) else (armisticelaw05_StateKnown.j1 kj0 x1_0 false))))) = some r := by first | (rw [hy235]; with_reducible exact H) | (have H2_ := (Option.bind_some _ _).symm.trans H; rw [hy235]; with_reducible exact H2_) | (have H2_ := (Option.bind_some _ _).symm.trans H; with_reducible exact H2_) | with_reducible exact H | (rw [hy235]; exact H) | exact H
      have Ny235 := Aside0.mk hy235
      clear hy235
      replace H := Option.bind_eq_some_iff.mp H
      obtain ⟨⟨t238, t239, t240, t243⟩, A480, H⟩ := H
      replace H : ((armisticelaw05_some.f 3 (([1, 2, 1, 3] : List Int))).bind fun bt248 => ((state_Check.f bt248.1 bt248.2.1 bt248.2.2).bind fun t253 => (if t253 = 5 then ((armisticelaw05_some.f 6 ([] : List Int)).bind fun bt254 => ((state_Check.f bt254.1 bt254.2.1 bt254.2.2).bind fun t259 => (if t259 = 8 then ((armisticelaw05_some.f 2 ([] : List Int)).bind fun bt260 => ((armisticekit_SameState.f kj0 t228 t229 t230 bt260.1 bt260.2.1 bt260.2.2).bind fun t265 => (if t265 = true then (if t233 = 0 then (armisticelaw05_StateKnown.j1 kj0 x1_0 (t243 == 5)) else (armisticelaw05_StateKnown.j1 kj0 x1_0 false)) else (armisticelaw05_StateKnown.j1 kj0 x1_0 false)))) else (armisticelaw05_StateKnown.j1 kj0 x1_0 false)))) else (armisticelaw05_StateKnown.j1 kj0 x1_0 false)))) = some r := H
      have A48 := Aside0.mk A480
      clear A480
      have HC49 := Aside0.mk H
      clear H
      go_upto_region 4 with (first | ((with_reducible refine gate_callee (f := 20) rfl ?_); refine goesL_ (some 25) rfl rfl Tryd.func20 (by kernel_rfl) rfl #[.int .i64 2] rfl (by (try simp only [List.map_toArray, List.map_cons, List.map_nil]); first | done | rfl | (simp only [List.length_drop, List.length_take]; rfl)) ?_; (with_reducible refine (state_Empty.calls 2 t228 t229 t230 t233 _ A47.out).mono ?_); rintro e w50 ⟨v231, rfl, ho0, hb⟩; refine ⟨_, rfl, ?_⟩; have n0_ := Aside0.mk (Kd.R_lower ho0 (below_size (by repeat (first | (with_reducible first | exact HB.out | apply below_alloc | apply pw_below_drewN | apply below_drew1) | exact HB.out)))); have n1_ := Aside0.mk (below_step (by repeat (first | (with_reducible first | exact HB.out | apply below_alloc | apply pw_below_drewN | apply below_drew1) | exact HB.out)) hb); clear HB; have HO232 := n0_; have HB := n1_; clear n0_ n1_; (try clear hb); (try clear hb2); (try clear hk); (try clear hi); (try clear ho0)) | ((with_reducible refine gate_dst (N := 2) rfl ?_); (try (refine gate_guard (by rfl) ?_; dsimp only)); refine box_event ?hg (N := 2) ?hd (cs := #[.int .i64 0, .int .i64 0, .slice none 0 0]) (t := 27) ?hr ?_; (case hd => rfl); (case hg => rfl); (case hr => first | (go_simp; done) | (go_simp; rfl)); intro gb234 hg w51 hbox hb; have n0_ := Aside0.mk (Kd.R_below (by (with_reducible repeat (first | apply Kd.R_alloc | apply Kd.R_drewN | apply Kd.R_drew)); exact HO232.out) hb); have n1_ := Aside0.mk (below_step (by repeat (first | (with_reducible first | exact HB.out | apply below_alloc | apply pw_below_drewN | apply below_drew1) | exact HB.out)) hb); have n2_ := Aside0.mk (hbox); have n3_ := Aside0.mk ((by rw [hg]; exact (below_size (by repeat (first | (with_reducible first | exact HB.out | apply below_alloc | apply pw_below_drewN | apply below_drew1) | exact HB.out))) : w.heap.size ≤ gb234)); have n4_ := Aside0.mk ((by rw [hg]; exact (below_size (by repeat (first | (with_reducible first | exact HB.out | apply below_alloc | apply pw_below_drewN | apply below_drew1) | exact HB.out))) : w.heap.size ≤ gb234)); clear HO232; clear HB; have HO232 := n0_; have HB := n1_; have BK234 := n2_; have GW234 := n3_; have GE234 := n4_; clear n0_ n1_ n2_ n3_ n4_; clear hb hbox hg; have hcz52_0 : w51.cell? ⟨gb234, 0, none⟩ = some (.int .i64 0) := (blk_cell BK234.out 0).trans rfl; have hcz52_1 : w51.cell? ⟨gb234, 1, none⟩ = some (.int .i64 0) := (blk_cell BK234.out 1).trans rfl; have hcz52_2 : w51.cell? ⟨gb234, 2, none⟩ = some (.slice none 0 0) := (blk_cell BK234.out 2).trans rfl; have hfz52_0 := blk_frozen BK234.out 0; have hfz52_1 := blk_frozen BK234.out 1; have hfz52_2 := blk_frozen BK234.out 2; obtain ⟨Ao53, co53, eo53⟩ := Kd.R_slice HO232.out; subst eo53) | ((with_reducible refine gate_dst (N := 29) rfl ?_); (try (refine gate_guard (by rfl) ?_; dsimp only)); refine Kd.R_lit (Kd.int .u8) _ 5 ?hg (N := 29) ?hd (xs := ([1, 2, 3] : List Int)) (inner := [.int .u8 1, .int .u8 2, .int .u8 3]) (ok := fun _ => True) (okp := fun _ => True) ?hr ?hp (fun _ hk => hk) trivial (Below.refl _ _) (Nat.le_refl _) (by simp) ?_; (case hd => rfl); (case hg => rfl); (case hr => first | (go_simp; done) | (go_simp; rfl)); (case hp => exact (Reps.one (show Kd.M (Kd.int .u8) _ _ _ 1 [.int .u8 1] from rfl) (Reps.one (show Kd.M (Kd.int .u8) _ _ _ 2 [.int .u8 2] from rfl) (Reps.one (show Kd.M (Kd.int .u8) _ _ _ 3 [.int .u8 3] from rfl) (Reps.none _ _))))); intro v236 w54 ho55 hb hg_ hnew_; clear hg_ hnew_; (first | rw [← Ny235.out] at ho55 | (simp only [Int.reduceToNat] at ho55; rw [← Ny235.out] at ho55)); have n0_ := Aside0.mk (Kd.R_below (by (with_reducible repeat (first | apply Kd.R_alloc | apply Kd.R_drewN | apply Kd.R_drew)); exact (Kd.R_mono (Kd.R_far (p := ⟨gb234, 2, none⟩) (Kd.R_far (p := ⟨gb234, 1, none⟩) (Kd.R_far (p := ⟨gb234, 0, none⟩) (Kd.R_types HO232.out BK234.out (by decide)) (fun _ hk => hk.2) (.int .i64 t228)) (fun _ hk => hk.2) (.int .i64 t229)) (fun _ hk => hk.2) (.slice Ao53 t230.length co53)) (fun _ h_ => h_.1))) hb); have n1_ := Aside0.mk (Kd.R_lower ho55 (below_size (by repeat (first | (with_reducible first | exact HB.out | apply below_alloc | apply pw_below_drewN | apply below_drew1 | refine below_set ?_ GE234.out) | exact HB.out)))); have n2_ := Aside0.mk (blk_below (g := gb234) (o := .cells #[.int .i64 t228, .int .i64 t229, .slice Ao53 t230.length co53] 27 (0, 0)) (by (with_reducible repeat (first | refine blk_drewN ?_ _ | refine blk_drew ?_ | refine blk_alloc ?_ _)); refine blk_put (cs := #[.int .i64 t228, .int .i64 t229, .slice none 0 0]) ?_ 2 _ rfl; (with_reducible repeat (first | refine blk_drewN ?_ _ | refine blk_drew ?_ | refine blk_alloc ?_ _)); refine blk_put (cs := #[.int .i64 t228, .int .i64 0, .slice none 0 0]) ?_ 1 _ rfl; (with_reducible repeat (first | refine blk_drewN ?_ _ | refine blk_drew ?_ | refine blk_alloc ?_ _)); refine blk_put (cs := #[.int .i64 0, .int .i64 0, .slice none 0 0]) ?_ 0 _ rfl; (with_reducible repeat (first | refine blk_drewN ?_ _ | refine blk_drew ?_ | refine blk_alloc ?_ _)); exact BK234.out) hb); have n3_ := Aside0.mk (below_step (by repeat (first | (with_reducible first | exact HB.out | apply below_alloc | apply pw_below_drewN | apply below_drew1 | refine below_set ?_ GE234.out) | exact HB.out)) hb); clear HO232; clear BK234; clear HB; have HO232 := n0_; have HO237 := n1_; have BK234 := n2_; have HB := n3_; clear n0_ n1_ n2_ n3_; clear hb ho55; obtain ⟨Ao56, co56, eo56⟩ := Kd.R_slice HO237.out; subst eo56) | ((with_reducible refine gate_callee (f := 10) rfl ?_); refine goesL_ (some 30) rfl rfl Tryd.func10 (by kernel_rfl) rfl #[.slice Ao56 y235.length co56] rfl (by (try simp only [List.map_toArray, List.map_cons, List.map_nil]); first | done | rfl | (simp only [List.length_drop, List.length_take]; rfl)) ?_; (with_reducible refine (state_Decode.calls kj0 _ _ y235 t238 t239 t240 t243 _ ?side1 ?side2 A48.out).mono ?_); (case side1 => repeat (first | exact (Kd.R_reads' HO237.out).2.2 | (with_reducible refine Kd.C_alloc ?_ _) | (with_reducible refine Kd.C_drewN ?_ _) | (with_reducible refine Kd.C_drew ?_))); (case side2 => exact (Kd.R_reads' HO237.out).2.1); rintro e w57 ⟨v241, rfl, ho0, hb⟩; refine ⟨_, rfl, ?_⟩; have n0_ := Aside0.mk (Kd.R_elder' (by (with_reducible repeat (first | apply Kd.R_alloc | apply Kd.R_drewN | apply Kd.R_drew)); exact HO232.out) (Kd.R_base ho0) hb); have n1_ := Aside0.mk (Kd.R_below (by (with_reducible repeat (first | apply Kd.R_alloc | apply Kd.R_drewN | apply Kd.R_drew)); exact HO237.out) hb); have n2_ := Aside0.mk (Kd.R_lower (Kd.R_new' ho0 (Kd.R_lt (by (with_reducible repeat (first | apply Kd.R_alloc | apply Kd.R_drewN | apply Kd.R_drew)); exact HO232.out))) (below_size (by repeat (first | (with_reducible first | exact HB.out | apply below_alloc | apply pw_below_drewN | apply below_drew1 | refine below_set ?_ GE234.out) | exact HB.out)))); have n3_ := Aside0.mk (blk_below (g := gb234) (o := .cells #[.int .i64 t228, .int .i64 t229, .slice Ao53 t230.length co53] 27 (0, 0)) (by (with_reducible repeat (first | refine blk_drewN ?_ _ | refine blk_drew ?_ | refine blk_alloc ?_ _)); exact BK234.out) hb); have n4_ := Aside0.mk (below_step (by repeat (first | (with_reducible first | exact HB.out | apply below_alloc | apply pw_below_drewN | apply below_drew1 | refine below_set ?_ GE234.out) | exact HB.out)) hb); clear HO232; clear HO237; clear BK234; clear HB; have HO232 := n0_; have HO237 := n1_; have HO242 := n2_; have BK234 := n3_; have HB := n4_; clear n0_ n1_ n2_ n3_ n4_; (try clear hb); (try clear hb2); (try clear hk); (try clear hi); (try clear ho0)) | ((with_reducible refine gate_dst (N := 4) rfl ?_); (try (refine gate_guard (by rfl) ?_; dsimp only)); refine box_event ?hg (N := 4) ?hd (cs := #[.int .i64 0, .int .i64 0, .slice none 0 0]) (t := 27) ?hr ?_; (case hd => rfl); (case hg => rfl); (case hr => first | (go_simp; done) | (go_simp; rfl)); intro gb244 hg w58 hbox hb; have n0_ := Aside0.mk (Kd.R_below (by (with_reducible repeat (first | apply Kd.R_alloc | apply Kd.R_drewN | apply Kd.R_drew)); exact HO232.out) hb); have n1_ := Aside0.mk (Kd.R_below (by (with_reducible repeat (first | apply Kd.R_alloc | apply Kd.R_drewN | apply Kd.R_drew)); exact HO237.out) hb); have n2_ := Aside0.mk (Kd.R_below (by (with_reducible repeat (first | apply Kd.R_alloc | apply Kd.R_drewN | apply Kd.R_drew)); exact HO242.out) hb); have n3_ := Aside0.mk (blk_below (g := gb234) (o := .cells #[.int .i64 t228, .int .i64 t229, .slice Ao53 t230.length co53] 27 (0, 0)) (by (with_reducible repeat (first | refine blk_drewN ?_ _ | refine blk_drew ?_ | refine blk_alloc ?_ _)); exact BK234.out) hb); have n4_ := Aside0.mk (below_step (by repeat (first | (with_reducible first | exact HB.out | apply below_alloc | apply pw_below_drewN | apply below_drew1 | refine below_set ?_ GE234.out) | exact HB.out)) hb); have n5_ := Aside0.mk (hbox); have n6_ := Aside0.mk ((by rw [hg]; exact (below_size (by repeat (first | (with_reducible first | exact HB.out | apply below_alloc | apply pw_below_drewN | apply below_drew1 | refine below_set ?_ GE234.out) | exact HB.out))) : w.heap.size ≤ gb244)); have n7_ := Aside0.mk ((by rw [hg]; exact (below_size (by repeat (first | (with_reducible first | exact HB.out | apply below_alloc | apply pw_below_drewN | apply below_drew1 | refine below_set ?_ GE234.out) | exact HB.out))) : w.heap.size ≤ gb244)); have n8_ := Aside0.mk ((by rw [hg]; exact Nat.ne_of_lt (blk_lt (g := gb234) (o := .cells #[.int .i64 t228, .int .i64 t229, .slice Ao53 t230.length co53] 27 (0, 0)) (by (with_reducible repeat (first | refine blk_drewN ?_ _ | refine blk_drew ?_ | refine blk_alloc ?_ _)); exact BK234.out)) : gb234 ≠ gb244)); have n9_ := Aside0.mk ((by rw [hg]; exact Nat.ne_of_gt (blk_lt (g := gb234) (o := .cells #[.int .i64 t228, .int .i64 t229, .slice Ao53 t230.length co53] 27 (0, 0)) (by (with_reducible repeat (first | refine blk_drewN ?_ _ | refine blk_drew ?_ | refine blk_alloc ?_ _)); exact BK234.out)) : gb244 ≠ gb234)); clear HO232; clear HO237; clear HO242; clear BK234; clear HB; have HO232 := n0_; have HO237 := n1_; have HO242 := n2_; have BK234 := n3_; have HB := n4_; have BK244 := n5_; have GW244 := n6_; have GE244 := n7_; have NB234_244 := n8_; have NB244_234 := n9_; clear n0_ n1_ n2_ n3_ n4_ n5_ n6_ n7_ n8_ n9_; clear hb hbox hg; have hnb59 := NB244_234.out; have hnc59 := NB234_244.out; have hcz60_0 : w58.cell? ⟨gb244, 0, none⟩ = some (.int .i64 0) := (blk_cell BK244.out 0).trans rfl; have hcz60_1 : w58.cell? ⟨gb244, 1, none⟩ = some (.int .i64 0) := (blk_cell BK244.out 1).trans rfl; have hcz60_2 : w58.cell? ⟨gb244, 2, none⟩ = some (.slice none 0 0) := (blk_cell BK244.out 2).trans rfl; have hfz60_0 := blk_frozen BK244.out 0; have hfz60_1 := blk_frozen BK244.out 1; have hfz60_2 := blk_frozen BK244.out 2; obtain ⟨Ao61, co61, eo61⟩ := Kd.R_slice HO242.out; subst eo61))
      (try simp only [Act.put, List.setIfInBounds_toArray, List.set_cons_zero, List.set_cons_succ])
      go_cut [6] (fun v6 wc => ∃ (kq : Nat) (x6_48 : Bool), v6 = .bool x6_48 ∧ Aside0 (armisticelaw05_StateKnown.j1 kq x1_0 x6_48 = some r) ∧ Aside0 (kq ≤ kj0) ∧ Aside0 (Kd.R (Kd.int .i64) 3 wc w.heap.size (fun k_ => some k_ ≠ ((.slice Ao61 t240.length co61) : Value).ownBlock) (.slice Ao53 t230.length co53) t230) ∧ Aside0 (Kd.R (Kd.int .i64) 3 wc w.heap.size (fun k_ => some k_ ≠ ((.slice Ao53 t230.length co53) : Value).ownBlock) (.slice Ao61 t240.length co61) t240) ∧ Aside0 (wc.heap[gb234]? = some (.cells #[.int .i64 t228, .int .i64 t229, (.slice Ao53 t230.length co53)] 27 (0, 0))) ∧ Aside0 (wc.heap[gb244]? = some (.cells #[.int .i64 t238, .int .i64 t239, (.slice Ao61 t240.length co61)] 27 (0, 0))) ∧ Aside0 (Below w.heap.size w wc))
      case first =>
        have H := HC49.out
        clear HC49
        obtain ⟨y245, hy245⟩ : ∃ y_ : List Int, y_ = (([1, 2, 1, 3] : List Int)) := ⟨_, rfl⟩
        replace H : ((armisticelaw05_some.f 3 y245).bind fun bt248 => ((state_Check.f bt248.1 bt248.2.1 bt248.2.2).bind fun t253 => (if t253 = 5 then ((armisticelaw05_some.f 6 ([] : List Int)).bind fun bt254 => ((state_Check.f bt254.1 bt254.2.1 bt254.2.2).bind fun t259 => (if t259 = 8 then ((armisticelaw05_some.f 2 ([] : List Int)).bind fun bt260 => ((armisticekit_SameState.f kj0 t228 t229 t230 bt260.1 bt260.2.1 bt260.2.2).bind fun t265 => (if t265 = true then (if t233 = 0 then (armisticelaw05_StateKnown.j1 kj0 x1_0 (t243 == 5)) else (armisticelaw05_StateKnown.j1 kj0 x1_0 false)) else (armisticelaw05_StateKnown.j1 kj0 x1_0 false)))) else (armisticelaw05_StateKnown.j1 kj0 x1_0 false)))) else (armisticelaw05_StateKnown.j1 kj0 x1_0 false)))) = some r := by first | (rw [hy245]; with_reducible exact H) | (have H2_ := (Option.bind_some _ _).symm.trans H; rw [hy245]; with_reducible exact H2_) | (have H2_ := (Option.bind_some _ _).symm.trans H; with_reducible exact H2_) | with_reducible exact H | (rw [hy245]; exact H) | exact H
        have Ny245 := Aside0.mk hy245
        clear hy245
        replace H := Option.bind_eq_some_iff.mp H
        obtain ⟨⟨t248, t249, t250⟩, A620, H⟩ := H
        replace H : ((state_Check.f t248 t249 t250).bind fun t253 => (if t253 = 5 then ((armisticelaw05_some.f 6 ([] : List Int)).bind fun bt254 => ((state_Check.f bt254.1 bt254.2.1 bt254.2.2).bind fun t259 => (if t259 = 8 then ((armisticelaw05_some.f 2 ([] : List Int)).bind fun bt260 => ((armisticekit_SameState.f kj0 t228 t229 t230 bt260.1 bt260.2.1 bt260.2.2).bind fun t265 => (if t265 = true then (if t233 = 0 then (armisticelaw05_StateKnown.j1 kj0 x1_0 (t243 == 5)) else (armisticelaw05_StateKnown.j1 kj0 x1_0 false)) else (armisticelaw05_StateKnown.j1 kj0 x1_0 false)))) else (armisticelaw05_StateKnown.j1 kj0 x1_0 false)))) else (armisticelaw05_StateKnown.j1 kj0 x1_0 false))) = some r := H
        have A62 := Aside0.mk A620
        clear A620
        replace H := Option.bind_eq_some_iff.mp H
        obtain ⟨t253, A630, H⟩ := H
        replace H : (if t253 = 5 then ((armisticelaw05_some.f 6 ([] : List Int)).bind fun bt254 => ((state_Check.f bt254.1 bt254.2.1 bt254.2.2).bind fun t259 => (if t259 = 8 then ((armisticelaw05_some.f 2 ([] : List Int)).bind fun bt260 => ((armisticekit_SameState.f kj0 t228 t229 t230 bt260.1 bt260.2.1 bt260.2.2).bind fun t265 => (if t265 = true then (if t233 = 0 then (armisticelaw05_StateKnown.j1 kj0 x1_0 (t243 == 5)) else (armisticelaw05_StateKnown.j1 kj0 x1_0 false)) else (armisticelaw05_StateKnown.j1 kj0 x1_0 false)))) else (armisticelaw05_StateKnown.j1 kj0 x1_0 false)))) else (armisticelaw05_StateKnown.j1 kj0 x1_0 false)) = some r := H
        have A63 := Aside0.mk A630
        clear A630
        by_cases c64 : t253 = 5
        · rw [if_pos c64] at H
          have c64b0 : (t253 == 5) = true := beq_iff_eq.mpr c64
          have c64b1 : (t253 != 5) = false := bne_eq_false_iff_eq.mpr c64
          clear c64
          (first | rw [c64b0] | (simp only [i64_w, i32_w]; rw [c64b0]) | skip)
          replace H := Option.bind_eq_some_iff.mp H
          obtain ⟨⟨t254, t255, t256⟩, A650, H⟩ := H
          replace H : ((state_Check.f t254 t255 t256).bind fun t259 => (if t259 = 8 then ((armisticelaw05_some.f 2 ([] : List Int)).bind fun bt260 => ((armisticekit_SameState.f kj0 t228 t229 t230 bt260.1 bt260.2.1 bt260.2.2).bind fun t265 => (if t265 = true then (if t233 = 0 then (armisticelaw05_StateKnown.j1 kj0 x1_0 (t243 == 5)) else (armisticelaw05_StateKnown.j1 kj0 x1_0 false)) else (armisticelaw05_StateKnown.j1 kj0 x1_0 false)))) else (armisticelaw05_StateKnown.j1 kj0 x1_0 false))) = some r := H
          have A65 := Aside0.mk A650
          clear A650
          replace H := Option.bind_eq_some_iff.mp H
          obtain ⟨t259, A660, H⟩ := H
          replace H : (if t259 = 8 then ((armisticelaw05_some.f 2 ([] : List Int)).bind fun bt260 => ((armisticekit_SameState.f kj0 t228 t229 t230 bt260.1 bt260.2.1 bt260.2.2).bind fun t265 => (if t265 = true then (if t233 = 0 then (armisticelaw05_StateKnown.j1 kj0 x1_0 (t243 == 5)) else (armisticelaw05_StateKnown.j1 kj0 x1_0 false)) else (armisticelaw05_StateKnown.j1 kj0 x1_0 false)))) else (armisticelaw05_StateKnown.j1 kj0 x1_0 false)) = some r := H
          have A66 := Aside0.mk A660
          clear A660
          by_cases c67 : t259 = 8
          · rw [if_pos c67] at H
            have c67b0 : (t259 == 8) = true := beq_iff_eq.mpr c67
            have c67b1 : (t259 != 8) = false := bne_eq_false_iff_eq.mpr c67
            clear c67
            replace H := Option.bind_eq_some_iff.mp H
            obtain ⟨⟨t260, t261, t262⟩, A680, H⟩ := H
            replace H : ((armisticekit_SameState.f kj0 t228 t229 t230 t260 t261 t262).bind fun t265 => (if t265 = true then (if t233 = 0 then (armisticelaw05_StateKnown.j1 kj0 x1_0 (t243 == 5)) else (armisticelaw05_StateKnown.j1 kj0 x1_0 false)) else (armisticelaw05_StateKnown.j1 kj0 x1_0 false))) = some r := H
            have A68 := Aside0.mk A680
            clear A680
            replace H := Option.bind_eq_some_iff.mp H
            obtain ⟨t265, A690, H⟩ := H
            replace H : (if t265 = true then (if t233 = 0 then (armisticelaw05_StateKnown.j1 kj0 x1_0 (t243 == 5)) else (armisticelaw05_StateKnown.j1 kj0 x1_0 false)) else (armisticelaw05_StateKnown.j1 kj0 x1_0 false)) = some r := H
            have A69 := Aside0.mk A690
            clear A690
            by_cases c70 : t265 = true
            · subst c70
              have H1 : (if t233 = 0 then (armisticelaw05_StateKnown.j1 kj0 x1_0 (t243 == 5)) else (armisticelaw05_StateKnown.j1 kj0 x1_0 false)) = some r := by rw [if_pos rfl] at H; exact H
              clear H
              have H := H1
              clear H1
              by_cases c71 : t233 = 0
              · rw [if_pos c71] at H
                have c71b0 : (t233 == 0) = true := beq_iff_eq.mpr c71
                have c71b1 : (t233 != 0) = false := bne_eq_false_iff_eq.mpr c71
                clear c71
                have H' := Aside0.mk H
                clear H
                try go_wp2
                have n0_ : Aside0 (Kd.R (Kd.int .i64) 3 (((w58.setCell ⟨gb244, 0, none⟩ (.int .i64 t238)).setCell ⟨gb244, 1, none⟩ (.int .i64 t239)).setCell ⟨gb244, 2, none⟩ (.slice Ao61 t240.length co61)) w.heap.size (fun k_ => some k_ ≠ (.slice Ao61 t240.length co61 : Value).ownBlock) (.slice Ao53 t230.length co53) t230) := ⟨by (with_reducible repeat (first | apply Kd.R_alloc | apply Kd.R_drewN | apply Kd.R_drew)); exact Kd.R_mono (Kd.R_far (p := ⟨gb244, 2, none⟩) (Kd.R_far (p := ⟨gb244, 1, none⟩) (Kd.R_far (p := ⟨gb244, 0, none⟩) (Kd.R_types HO232.out BK244.out (by decide)) (fun _ hk => hk.2) (.int .i64 t238)) (fun _ hk => hk.2) (.int .i64 t239)) (fun _ hk => hk.2) (.slice Ao61 t240.length co61)) (fun _ hk => hk.1.2)⟩
                have n1_ : Aside0 (Kd.R (Kd.int .u8) 5 (((w58.setCell ⟨gb244, 0, none⟩ (.int .i64 t238)).setCell ⟨gb244, 1, none⟩ (.int .i64 t239)).setCell ⟨gb244, 2, none⟩ (.slice Ao61 t240.length co61)) w.heap.size (fun _ => True) (.slice Ao56 y235.length co56) y235) := ⟨by (with_reducible repeat (first | apply Kd.R_alloc | apply Kd.R_drewN | apply Kd.R_drew)); exact Kd.R_mono (Kd.R_far (p := ⟨gb244, 2, none⟩) (Kd.R_far (p := ⟨gb244, 1, none⟩) (Kd.R_far (p := ⟨gb244, 0, none⟩) (Kd.R_types HO237.out BK244.out (by decide)) (fun _ hk => hk.2) (.int .i64 t238)) (fun _ hk => hk.2) (.int .i64 t239)) (fun _ hk => hk.2) (.slice Ao61 t240.length co61)) (fun _ hk => trivial)⟩
                have n2_ : Aside0 (Kd.R (Kd.int .i64) 3 (((w58.setCell ⟨gb244, 0, none⟩ (.int .i64 t238)).setCell ⟨gb244, 1, none⟩ (.int .i64 t239)).setCell ⟨gb244, 2, none⟩ (.slice Ao61 t240.length co61)) w.heap.size (fun k_ => some k_ ≠ (.slice Ao53 t230.length co53 : Value).ownBlock) (.slice Ao61 t240.length co61) t240) := ⟨by (with_reducible repeat (first | apply Kd.R_alloc | apply Kd.R_drewN | apply Kd.R_drew)); exact Kd.R_mono (Kd.R_far (p := ⟨gb244, 2, none⟩) (Kd.R_far (p := ⟨gb244, 1, none⟩) (Kd.R_far (p := ⟨gb244, 0, none⟩) (Kd.R_types HO242.out BK244.out (by decide)) (fun _ hk => hk.2) (.int .i64 t238)) (fun _ hk => hk.2) (.int .i64 t239)) (fun _ hk => hk.2) (.slice Ao61 t240.length co61)) (fun _ hk => hk.1.2)⟩
                have n3_ : Aside0 ((((w58.setCell ⟨gb244, 0, none⟩ (.int .i64 t238)).setCell ⟨gb244, 1, none⟩ (.int .i64 t239)).setCell ⟨gb244, 2, none⟩ (.slice Ao61 t240.length co61)).heap[gb234]? = some (.cells #[.int .i64 t228, .int .i64 t229, .slice Ao53 t230.length co53] 27 (0, 0))) := ⟨by (with_reducible repeat (first | refine blk_drewN ?_ _ | refine blk_drew ?_ | refine blk_alloc ?_ _)); refine blk_far ?_ NB234_244.out _; (with_reducible repeat (first | refine blk_drewN ?_ _ | refine blk_drew ?_ | refine blk_alloc ?_ _)); refine blk_far ?_ NB234_244.out _; (with_reducible repeat (first | refine blk_drewN ?_ _ | refine blk_drew ?_ | refine blk_alloc ?_ _)); refine blk_far ?_ NB234_244.out _; (with_reducible repeat (first | refine blk_drewN ?_ _ | refine blk_drew ?_ | refine blk_alloc ?_ _)); exact BK234.out⟩
                have n4_ : Aside0 ((((w58.setCell ⟨gb244, 0, none⟩ (.int .i64 t238)).setCell ⟨gb244, 1, none⟩ (.int .i64 t239)).setCell ⟨gb244, 2, none⟩ (.slice Ao61 t240.length co61)).heap[gb244]? = some (.cells #[.int .i64 t238, .int .i64 t239, .slice Ao61 t240.length co61] 27 (0, 0))) := ⟨by (with_reducible repeat (first | refine blk_drewN ?_ _ | refine blk_drew ?_ | refine blk_alloc ?_ _)); refine blk_put (cs := #[.int .i64 t238, .int .i64 t239, .slice none 0 0]) ?_ 2 _ rfl; (with_reducible repeat (first | refine blk_drewN ?_ _ | refine blk_drew ?_ | refine blk_alloc ?_ _)); refine blk_put (cs := #[.int .i64 t238, .int .i64 0, .slice none 0 0]) ?_ 1 _ rfl; (with_reducible repeat (first | refine blk_drewN ?_ _ | refine blk_drew ?_ | refine blk_alloc ?_ _)); refine blk_put (cs := #[.int .i64 0, .int .i64 0, .slice none 0 0]) ?_ 0 _ rfl; (with_reducible repeat (first | refine blk_drewN ?_ _ | refine blk_drew ?_ | refine blk_alloc ?_ _)); exact BK244.out⟩
                have n5_ : Aside0 (Below w.heap.size w (((w58.setCell ⟨gb244, 0, none⟩ (.int .i64 t238)).setCell ⟨gb244, 1, none⟩ (.int .i64 t239)).setCell ⟨gb244, 2, none⟩ (.slice Ao61 t240.length co61))) := ⟨by repeat (first | (with_reducible first | exact HB.out | apply below_alloc | apply pw_below_drewN | apply below_drew1 | refine below_set ?_ GE234.out | refine below_set ?_ GE244.out) | exact HB.out)⟩
                (try clear HO232)
                (try clear HO237)
                (try clear HO242)
                (try clear BK234)
                (try clear BK244)
                (try clear HB)
                generalize (((w58.setCell ⟨gb244, 0, none⟩ (.int .i64 t238)).setCell ⟨gb244, 1, none⟩ (.int .i64 t239)).setCell ⟨gb244, 2, none⟩ (.slice Ao61 t240.length co61)) = w72 at n0_ n1_ n2_ n3_ n4_ n5_ ⊢
                have HO232 := n0_
                have HO237 := n1_
                have HO242 := n2_
                have BK234 := n3_
                have BK244 := n4_
                have HB := n5_
                clear n0_ n1_ n2_ n3_ n4_ n5_
                have n0_ := Aside0.mk (Kd.R_drew HO232.out)
                have n1_ := Aside0.mk (Kd.R_drew HO237.out)
                have n2_ := Aside0.mk (Kd.R_drew HO242.out)
                have n3_ := Aside0.mk (blk_drew BK234.out)
                have n4_ := Aside0.mk (blk_drew BK244.out)
                have n5_ := Aside0.mk (below_drew1 HB.out)
                clear HO232
                clear HO237
                clear HO242
                clear BK234
                clear BK244
                clear HB
                have HO232 := n0_
                have HO237 := n1_
                have HO242 := n2_
                have BK234 := n3_
                have BK244 := n4_
                have HB := n5_
                clear n0_ n1_ n2_ n3_ n4_ n5_
                refine start_ (n := 23) (S := fun w' => w'.cell? ⟨gb234, 0, none⟩ = some (.int .i64 t228) ∧ w'.cell? ⟨gb234, 1, none⟩ = some (.int .i64 t229) ∧ w'.cell? ⟨gb234, 2, none⟩ = some (.slice Ao53 t230.length co53)) (ds := []) #[false, false, false, false, false, false, false, false, false, false, false, false, false, false, false, false, false, false, false, false, false, false, false] (by kernel_rfl) rfl rfl ⟨(blk_cell BK234.out 0).trans rfl, (blk_cell BK234.out 1).trans rfl, (blk_cell BK234.out 2).trans rfl⟩ (fun hHeld => ?_); refine with_tabW armisticelaw05_StateKnown.tab4 armisticelaw05_StateKnown.bits4 (fun HT_ HW_ => ?_)
                generalize w72.drew = w73 at HO232 HO237 HO242 BK234 BK244 HB hHeld ⊢
                refine one_ (i := 0) (N := some 33) #[true, false, false, false, false, false, false, false, false, false, false, false, false, false, false, false, false, false, false, false, false, false, false] rfl rfl (one_of HT_.out (by kernel_rfl)) (by decide) (fun K hK => ?_)
                refine Kd.R_lit_step (Kd.int .i64) _ 3 ?hg (N := 33) ?hd (xs := ([1, 2, 1, 3] : List Int)) (inner := [.int .i64 1, .int .i64 2, .int .i64 1, .int .i64 3]) (ok := fun _ => True) (okp := fun _ => True) ?hr ?hp (fun _ hk => hk) trivial (Below.refl _ _) (Nat.le_refl _) (by simp) ?_; (case hd => rfl); (case hg => rfl); (case hr => first | (go_simp; done) | (go_simp; rfl)); (case hp => exact (Reps.one (show Kd.M (Kd.int .i64) _ _ _ 1 [.int .i64 1] from rfl) (Reps.one (show Kd.M (Kd.int .i64) _ _ _ 2 [.int .i64 2] from rfl) (Reps.one (show Kd.M (Kd.int .i64) _ _ _ 1 [.int .i64 1] from rfl) (Reps.one (show Kd.M (Kd.int .i64) _ _ _ 3 [.int .i64 3] from rfl) (Reps.none _ _))))))
                intro v246 w74 ho75 hb hg_ hnew_
                clear hg_ hnew_
                (first | rw [← Ny245.out] at ho75 | (simp only [Int.reduceToNat] at ho75; rw [← Ny245.out] at ho75))
                have n0_ := Aside0.mk (Kd.R_elder' (by (with_reducible repeat (first | apply Kd.R_alloc | apply Kd.R_drewN | apply Kd.R_drew)); exact HO232.out) (Kd.R_base ho75) hb)
                have n1_ := Aside0.mk (Kd.R_below (by (with_reducible repeat (first | apply Kd.R_alloc | apply Kd.R_drewN | apply Kd.R_drew)); exact HO237.out) hb)
                have n2_ := Aside0.mk (Kd.R_elder' (by (with_reducible repeat (first | apply Kd.R_alloc | apply Kd.R_drewN | apply Kd.R_drew)); exact HO242.out) (Kd.R_base ho75) hb)
                have n3_ := Aside0.mk (Kd.R_lower (Kd.R_new' (Kd.R_new' ho75 (Kd.R_lt (by (with_reducible repeat (first | apply Kd.R_alloc | apply Kd.R_drewN | apply Kd.R_drew)); exact HO232.out))) (Kd.R_lt (by (with_reducible repeat (first | apply Kd.R_alloc | apply Kd.R_drewN | apply Kd.R_drew)); exact HO242.out))) (below_size (by repeat (first | (with_reducible first | exact HB.out | apply below_alloc | apply pw_below_drewN | apply below_drew1 | refine below_set ?_ GE234.out | refine below_set ?_ GE244.out) | exact HB.out))))
                have n4_ := Aside0.mk (blk_below (g := gb234) (o := .cells #[.int .i64 t228, .int .i64 t229, .slice Ao53 t230.length co53] 27 (0, 0)) (by (with_reducible repeat (first | refine blk_drewN ?_ _ | refine blk_drew ?_ | refine blk_alloc ?_ _)); exact BK234.out) hb)
                have n5_ := Aside0.mk (blk_below (g := gb244) (o := .cells #[.int .i64 t238, .int .i64 t239, .slice Ao61 t240.length co61] 27 (0, 0)) (by (with_reducible repeat (first | refine blk_drewN ?_ _ | refine blk_drew ?_ | refine blk_alloc ?_ _)); exact BK244.out) hb)
                have n6_ := Aside0.mk (below_step (by repeat (first | (with_reducible first | exact HB.out | apply below_alloc | apply pw_below_drewN | apply below_drew1 | refine below_set ?_ GE234.out | refine below_set ?_ GE244.out) | exact HB.out)) hb)
                clear HO232
                clear HO237
                clear HO242
                clear BK234
                clear BK244
                clear HB
                have HO232 := n0_
                have HO237 := n1_
                have HO242 := n2_
                have HO247 := n3_
                have BK234 := n4_
                have BK244 := n5_
                have HB := n6_
                clear n0_ n1_ n2_ n3_ n4_ n5_ n6_
                clear hb ho75
                obtain ⟨Ao76, co76, eo76⟩ := Kd.R_slice HO247.out
                (first | subst eo76 | (injection eo76 with f1_ f2_ f3_; have f4_ := f1_.symm; have f5_ := f3_.symm; clear f1_ f2_ f3_; subst f4_; subst f5_))
                refine hK.out _ _ ⟨(blk_cell BK234.out 0).trans rfl, (blk_cell BK234.out 1).trans rfl, (blk_cell BK234.out 2).trans rfl⟩ (fun hHeld => ?_)
                clear hK K
                refine norm_ (a' := ?_) ?_ ?_
                rotate_left
                · show Act.put _ (some 33) _ = _
                  simp only [Act.put, List.setIfInBounds_toArray, List.set_cons_zero, List.set_cons_succ, i64_w, i32_w]
                  rfl
                refine one_ (i := 1) (N := some 34) #[true, true, false, false, false, false, false, false, false, false, false, false, false, false, false, false, false, false, false, false, false, false, false] rfl rfl (one_of HT_.out (by kernel_rfl)) (by decide) (fun K hK => ?_)
                refine goes_ Tryd.func18 (by kernel_rfl) rfl #[.int .i64 3, .slice Ao76 y245.length co76] (by rfl) rfl rfl (by (try simp only [List.map_toArray, List.map_cons, List.map_nil]); first | done | rfl | (simp only [List.length_drop, List.length_take]; rfl)) ?_
                with_reducible refine (armisticelaw05_some.calls 3 (fun k_ => some k_ = (.slice Ao76 y245.length co76 : Value).ownBlock) (.slice Ao76 y245.length co76) y245 t248 t249 t250 w _ ?side1 ?side2 A62.out).mono ?_
                (case side1 => repeat (first | (with_reducible first | exact HB.out | apply below_alloc | apply pw_below_drewN | apply below_drew1 | refine below_set ?_ GE234.out | refine below_set ?_ GE244.out) | exact HB.out))
                (case side2 => exact Kd.R_tight rfl HO247.out)
                rintro e w77 ⟨v251, rfl, ho0, hb, hkp⟩
                refine ⟨_, rfl, ?_⟩
                have n0_ := Aside0.mk (Kd.R_mono (ok' := fun k_ => some k_ ≠ (.slice Ao61 t240.length co61 : Value).ownBlock ∧ some k_ ≠ (v251 : Value).ownBlock) (Kd.R_keptB (HO232.out) hkp (fun k_ hk_ hs_ => (hk_.2) hs_)) (fun k_ hk_ => ⟨hk_.1.1, fun e_ => Or.elim (ho0.1 k_ e_.symm) (fun hs_ => hk_.2.1 hs_) (fun hn_ => Nat.not_le.2 hk_.2.2 hn_)⟩))
                have n1_ := Aside0.mk (blk_kept (by (with_reducible repeat (first | refine blk_drewN ?_ _ | refine blk_drew ?_ | refine blk_alloc ?_ _)); exact BK234.out) hkp (fun hs_ => (fun e_ => (Kd.R_ne HO247.out BK234.out (by decide)) e_) hs_))
                have n2_ := Aside0.mk (Kd.R_mono (ok' := fun k_ => True) (Kd.R_keptB ((Kd.R_apart' HO237.out (Kd.R_typed HO247.out) (by decide))) hkp (fun k_ hk_ hs_ => (hk_.2) hs_)) (fun k_ hk_ => trivial))
                have n3_ := Aside0.mk (Kd.R_mono (ok' := fun k_ => some k_ ≠ (.slice Ao53 t230.length co53 : Value).ownBlock ∧ some k_ ≠ (v251 : Value).ownBlock) (Kd.R_keptB (HO242.out) hkp (fun k_ hk_ hs_ => (hk_.2) hs_)) (fun k_ hk_ => ⟨hk_.1.1, fun e_ => Or.elim (ho0.1 k_ e_.symm) (fun hs_ => hk_.2.1 hs_) (fun hn_ => Nat.not_le.2 hk_.2.2 hn_)⟩))
                have n4_ := Aside0.mk (blk_kept (by (with_reducible repeat (first | refine blk_drewN ?_ _ | refine blk_drew ?_ | refine blk_alloc ?_ _)); exact BK244.out) hkp (fun hs_ => (fun e_ => (Kd.R_ne HO247.out BK244.out (by decide)) e_) hs_))
                have n5_ := Aside0.mk (Kd.R_mono (ok' := fun k_ => some k_ ≠ (.slice Ao53 t230.length co53 : Value).ownBlock ∧ some k_ ≠ (.slice Ao61 t240.length co61 : Value).ownBlock) ho0 (fun k_ hk_ => ⟨Or.elim hk_ (fun hs_ => fun e_ => (((HO232.out).1 k_ e_.symm).2) hs_) (fun hn_ => (Kd.fresh' (Kd.R_lt (by (with_reducible repeat (first | apply Kd.R_alloc | apply Kd.R_drewN | apply Kd.R_drew)); exact HO232.out)) k_ hn_)), Or.elim hk_ (fun hs_ => fun e_ => (((HO242.out).1 k_ e_.symm).2) hs_) (fun hn_ => (Kd.fresh' (Kd.R_lt (by (with_reducible repeat (first | apply Kd.R_alloc | apply Kd.R_drewN | apply Kd.R_drew)); exact HO242.out)) k_ hn_))⟩))
                have n6_ := Aside0.mk (hb)
                clear HO232
                clear BK234
                clear HO237
                clear HO242
                clear BK244
                clear HB
                clear HO247
                have HO232 := n0_
                have BK234 := n1_
                have HO237 := n2_
                have HO242 := n3_
                have BK244 := n4_
                have HO252 := n5_
                have HB := n6_
                clear n0_ n1_ n2_ n3_ n4_ n5_ n6_
                (try clear hb)
                (try clear hkp)
                (try clear ho0)
                obtain ⟨Ao78, co78, eo78⟩ := Kd.R_slice HO252.out
                (first | subst eo78 | (injection eo78 with f1_ f2_ f3_; have f4_ := f1_.symm; have f5_ := f3_.symm; clear f1_ f2_ f3_; subst f4_; subst f5_))
                refine hK.out _ _ ⟨(blk_cell BK234.out 0).trans rfl, (blk_cell BK234.out 1).trans rfl, (blk_cell BK234.out 2).trans rfl⟩ (fun hHeld => ?_)
                clear hK K
                refine norm_ (a' := ?_) ?_ ?_
                rotate_left
                · show Act.put _ (some 34) _ = _
                  simp only [Act.put, List.setIfInBounds_toArray, List.set_cons_zero, List.set_cons_succ, i64_w, i32_w]
                  rfl
                refine one_ (i := 2) (N := some 35) #[true, true, true, false, false, false, false, false, false, false, false, false, false, false, false, false, false, false, false, false, false, false, false] rfl rfl (one_of HT_.out (by kernel_rfl)) (by decide) (fun K hK => ?_)
                refine goes_ Tryd.func21 (by kernel_rfl) rfl #[.agg #[.int .i64 t248, .int .i64 t249, .slice Ao78 t250.length co78]] (by rfl) rfl rfl (by (try simp only [List.map_toArray, List.map_cons, List.map_nil]); first | done | rfl | (simp only [List.length_drop, List.length_take]; rfl)) ?_
                with_reducible refine (state_Check.calls t248 t249 _ _ t250 t253 _ ?side1 ?side2 A63.out).mono ?_
                (case side1 => repeat (first | exact (Kd.R_reads' HO252.out).2.2 | (with_reducible refine Kd.C_alloc ?_ _) | (with_reducible refine Kd.C_drewN ?_ _) | (with_reducible refine Kd.C_drew ?_)))
                (case side2 => exact (Kd.R_reads' HO252.out).2.1)
                rintro e w79 ⟨rfl, hb⟩
                refine ⟨_, rfl, ?_⟩
                have n0_ := Aside0.mk (Kd.R_below (by (with_reducible repeat (first | apply Kd.R_alloc | apply Kd.R_drewN | apply Kd.R_drew)); exact HO232.out) hb)
                have n1_ := Aside0.mk (Kd.R_below (by (with_reducible repeat (first | apply Kd.R_alloc | apply Kd.R_drewN | apply Kd.R_drew)); exact HO237.out) hb)
                have n2_ := Aside0.mk (Kd.R_below (by (with_reducible repeat (first | apply Kd.R_alloc | apply Kd.R_drewN | apply Kd.R_drew)); exact HO242.out) hb)
                have n3_ := Aside0.mk (Kd.R_below (by (with_reducible repeat (first | apply Kd.R_alloc | apply Kd.R_drewN | apply Kd.R_drew)); exact HO252.out) hb)
                have n4_ := Aside0.mk (blk_below (g := gb234) (o := .cells #[.int .i64 t228, .int .i64 t229, .slice Ao53 t230.length co53] 27 (0, 0)) (by (with_reducible repeat (first | refine blk_drewN ?_ _ | refine blk_drew ?_ | refine blk_alloc ?_ _)); exact BK234.out) hb)
                have n5_ := Aside0.mk (blk_below (g := gb244) (o := .cells #[.int .i64 t238, .int .i64 t239, .slice Ao61 t240.length co61] 27 (0, 0)) (by (with_reducible repeat (first | refine blk_drewN ?_ _ | refine blk_drew ?_ | refine blk_alloc ?_ _)); exact BK244.out) hb)
                have n6_ := Aside0.mk (below_step (by repeat (first | (with_reducible first | exact HB.out | apply below_alloc | apply pw_below_drewN | apply below_drew1 | refine below_set ?_ GE234.out | refine below_set ?_ GE244.out) | exact HB.out)) hb)
                clear HO232
                clear HO237
                clear HO242
                clear HO252
                clear BK234
                clear BK244
                clear HB
                have HO232 := n0_
                have HO237 := n1_
                have HO242 := n2_
                have HO252 := n3_
                have BK234 := n4_
                have BK244 := n5_
                have HB := n6_
                clear n0_ n1_ n2_ n3_ n4_ n5_ n6_
                (try clear hb)
                (try clear hb2)
                (try clear hk)
                (try clear hi)
                refine hK.out _ _ ⟨(blk_cell BK234.out 0).trans rfl, (blk_cell BK234.out 1).trans rfl, (blk_cell BK234.out 2).trans rfl⟩ (fun hHeld => ?_)
                clear hK K
                refine norm_ (a' := ?_) ?_ ?_
                rotate_left
                · show Act.put _ (some 35) _ = _
                  simp only [Act.put, List.setIfInBounds_toArray, List.set_cons_zero, List.set_cons_succ, i64_w, i32_w]
                  rfl
                refine pure_ (i := 3) (N := some 36) (v := ?_) (a' := ?_) #[true, true, true, true, false, false, false, false, false, false, false, false, false, false, false, false, false, false, false, false, false, false, false] rfl rfl (any_of HT_.out (by kernel_rfl)) (fun _ _ _ h => h) (Or.inl ⟨by rfl, ?_⟩) ?_ ?_
                rotate_left
                · intro w'
                  go_simp
                  with_reducible rfl
                rotate_left
                · simp only [Act.put, List.setIfInBounds_toArray, List.set_cons_zero, List.set_cons_succ, i64_w, i32_w]
                  rfl
                refine pure_ (i := 4) (N := some 37) (v := ?_) (a' := ?_) #[true, true, true, true, true, false, false, false, false, false, false, false, false, false, false, false, false, false, false, false, false, false, false] rfl rfl (any_of HT_.out (by kernel_rfl)) (fun _ _ _ h => h) (Or.inl ⟨by rfl, ?_⟩) ?_ ?_
                rotate_left
                · intro w'
                  go_simp
                  with_reducible rfl
                rotate_left
                · simp only [Act.put, List.setIfInBounds_toArray, List.set_cons_zero, List.set_cons_succ, i64_w, i32_w]
                  rfl
                refine one_ (i := 5) (N := some 38) #[true, true, true, true, true, true, false, false, false, false, false, false, false, false, false, false, false, false, false, false, false, false, false] rfl rfl (one_of HT_.out (by kernel_rfl)) (by decide) (fun K hK => ?_)
                refine goes_ Tryd.func18 (by kernel_rfl) rfl #[.int .i64 6, .slice none 0 0] (by rfl) rfl rfl (by (try simp only [List.map_toArray, List.map_cons, List.map_nil]); first | done | rfl | (simp only [List.length_drop, List.length_take]; rfl)) ?_
                refine (armisticelaw05_some.calls 6 (fun k_ => some k_ = (.slice none 0 0 : Value).ownBlock) (.slice none 0 0) ([] : List Int) t254 t255 t256 w _ ?side1 ?side2 A65.out).mono ?_
                (case side1 => repeat (first | (with_reducible first | exact HB.out | apply below_alloc | apply pw_below_drewN | apply below_drew1 | refine below_set ?_ GE234.out | refine below_set ?_ GE244.out) | exact HB.out))
                (case side2 => exact Kd.R_nil _ _ _ _ _)
                rintro e w80 ⟨v257, rfl, ho0, hb, hkp⟩
                refine ⟨_, rfl, ?_⟩
                have n0_ := Aside0.mk (Kd.R_mono (ok' := fun k_ => some k_ ≠ (.slice Ao61 t240.length co61 : Value).ownBlock ∧ some k_ ≠ (.slice Ao78 t250.length co78 : Value).ownBlock ∧ some k_ ≠ (v257 : Value).ownBlock) (Kd.R_keptB (HO232.out) hkp (fun k_ hk_ hs_ => (fun e_ => by simp [Value.ownBlock] at e_) hs_)) (fun k_ hk_ => ⟨hk_.1.1, hk_.1.2, fun e_ => Or.elim (ho0.1 k_ e_.symm) (fun hs_ => hk_.2.1 hs_) (fun hn_ => Nat.not_le.2 hk_.2.2 hn_)⟩))
                have n1_ := Aside0.mk (blk_kept (by (with_reducible repeat (first | refine blk_drewN ?_ _ | refine blk_drew ?_ | refine blk_alloc ?_ _)); exact BK234.out) hkp (fun hs_ => (fun e_ => by simp [Value.ownBlock] at e_) hs_))
                have n2_ := Aside0.mk (Kd.R_mono (ok' := fun k_ => True) (Kd.R_keptB (HO237.out) hkp (fun k_ hk_ hs_ => (fun e_ => by simp [Value.ownBlock] at e_) hs_)) (fun k_ hk_ => trivial))
                have n3_ := Aside0.mk (Kd.R_mono (ok' := fun k_ => some k_ ≠ (.slice Ao53 t230.length co53 : Value).ownBlock ∧ some k_ ≠ (.slice Ao78 t250.length co78 : Value).ownBlock ∧ some k_ ≠ (v257 : Value).ownBlock) (Kd.R_keptB (HO242.out) hkp (fun k_ hk_ hs_ => (fun e_ => by simp [Value.ownBlock] at e_) hs_)) (fun k_ hk_ => ⟨hk_.1.1, hk_.1.2, fun e_ => Or.elim (ho0.1 k_ e_.symm) (fun hs_ => hk_.2.1 hs_) (fun hn_ => Nat.not_le.2 hk_.2.2 hn_)⟩))
                have n4_ := Aside0.mk (blk_kept (by (with_reducible repeat (first | refine blk_drewN ?_ _ | refine blk_drew ?_ | refine blk_alloc ?_ _)); exact BK244.out) hkp (fun hs_ => (fun e_ => by simp [Value.ownBlock] at e_) hs_))
                have n5_ := Aside0.mk (Kd.R_mono (ok' := fun k_ => some k_ ≠ (.slice Ao53 t230.length co53 : Value).ownBlock ∧ some k_ ≠ (.slice Ao61 t240.length co61 : Value).ownBlock ∧ some k_ ≠ (v257 : Value).ownBlock) (Kd.R_keptB (HO252.out) hkp (fun k_ hk_ hs_ => (fun e_ => by simp [Value.ownBlock] at e_) hs_)) (fun k_ hk_ => ⟨hk_.1.1, hk_.1.2, fun e_ => Or.elim (ho0.1 k_ e_.symm) (fun hs_ => hk_.2.1 hs_) (fun hn_ => Nat.not_le.2 hk_.2.2 hn_)⟩))
                have n6_ := Aside0.mk (Kd.R_mono (ok' := fun k_ => some k_ ≠ (.slice Ao53 t230.length co53 : Value).ownBlock ∧ some k_ ≠ (.slice Ao61 t240.length co61 : Value).ownBlock ∧ some k_ ≠ (.slice Ao78 t250.length co78 : Value).ownBlock) ho0 (fun k_ hk_ => ⟨Or.elim hk_ (fun hs_ => absurd hs_ (by simp [Value.ownBlock])) (fun hn_ => (Kd.fresh' (Kd.R_lt (by (with_reducible repeat (first | apply Kd.R_alloc | apply Kd.R_drewN | apply Kd.R_drew)); exact HO232.out)) k_ hn_)), Or.elim hk_ (fun hs_ => absurd hs_ (by simp [Value.ownBlock])) (fun hn_ => (Kd.fresh' (Kd.R_lt (by (with_reducible repeat (first | apply Kd.R_alloc | apply Kd.R_drewN | apply Kd.R_drew)); exact HO242.out)) k_ hn_)), Or.elim hk_ (fun hs_ => absurd hs_ (by simp [Value.ownBlock])) (fun hn_ => (Kd.fresh' (Kd.R_lt (by (with_reducible repeat (first | apply Kd.R_alloc | apply Kd.R_drewN | apply Kd.R_drew)); exact HO252.out)) k_ hn_))⟩))
                have n7_ := Aside0.mk (hb)
                clear HO232
                clear BK234
                clear HO237
                clear HO242
                clear BK244
                clear HO252
                clear HB
                have HO232 := n0_
                have BK234 := n1_
                have HO237 := n2_
                have HO242 := n3_
                have BK244 := n4_
                have HO252 := n5_
                have HO258 := n6_
                have HB := n7_
                clear n0_ n1_ n2_ n3_ n4_ n5_ n6_ n7_
                (try clear hb)
                (try clear hkp)
                (try clear ho0)
                obtain ⟨Ao81, co81, eo81⟩ := Kd.R_slice HO258.out
                (first | subst eo81 | (injection eo81 with f1_ f2_ f3_; have f4_ := f1_.symm; have f5_ := f3_.symm; clear f1_ f2_ f3_; subst f4_; subst f5_))
                refine hK.out _ _ ⟨(blk_cell BK234.out 0).trans rfl, (blk_cell BK234.out 1).trans rfl, (blk_cell BK234.out 2).trans rfl⟩ (fun hHeld => ?_)
                clear hK K
                refine norm_ (a' := ?_) ?_ ?_
                rotate_left
                · show Act.put _ (some 38) _ = _
                  simp only [Act.put, List.setIfInBounds_toArray, List.set_cons_zero, List.set_cons_succ, i64_w, i32_w]
                  rfl
                refine one_ (i := 6) (N := some 39) #[true, true, true, true, true, true, true, false, false, false, false, false, false, false, false, false, false, false, false, false, false, false, false] rfl rfl (one_of HT_.out (by kernel_rfl)) (by decide) (fun K hK => ?_)
                refine goes_ Tryd.func21 (by kernel_rfl) rfl #[.agg #[.int .i64 t254, .int .i64 t255, .slice Ao81 t256.length co81]] (by rfl) rfl rfl (by (try simp only [List.map_toArray, List.map_cons, List.map_nil]); first | done | rfl | (simp only [List.length_drop, List.length_take]; rfl)) ?_
                with_reducible refine (state_Check.calls t254 t255 _ _ t256 t259 _ ?side1 ?side2 A66.out).mono ?_
                (case side1 => repeat (first | exact (Kd.R_reads' HO258.out).2.2 | (with_reducible refine Kd.C_alloc ?_ _) | (with_reducible refine Kd.C_drewN ?_ _) | (with_reducible refine Kd.C_drew ?_)))
                (case side2 => exact (Kd.R_reads' HO258.out).2.1)
                rintro e w82 ⟨rfl, hb⟩
                refine ⟨_, rfl, ?_⟩
                have n0_ := Aside0.mk (Kd.R_below (by (with_reducible repeat (first | apply Kd.R_alloc | apply Kd.R_drewN | apply Kd.R_drew)); exact HO232.out) hb)
                have n1_ := Aside0.mk (Kd.R_below (by (with_reducible repeat (first | apply Kd.R_alloc | apply Kd.R_drewN | apply Kd.R_drew)); exact HO237.out) hb)
                have n2_ := Aside0.mk (Kd.R_below (by (with_reducible repeat (first | apply Kd.R_alloc | apply Kd.R_drewN | apply Kd.R_drew)); exact HO242.out) hb)
                have n3_ := Aside0.mk (Kd.R_below (by (with_reducible repeat (first | apply Kd.R_alloc | apply Kd.R_drewN | apply Kd.R_drew)); exact HO252.out) hb)
                have n4_ := Aside0.mk (Kd.R_below (by (with_reducible repeat (first | apply Kd.R_alloc | apply Kd.R_drewN | apply Kd.R_drew)); exact HO258.out) hb)
                have n5_ := Aside0.mk (blk_below (g := gb234) (o := .cells #[.int .i64 t228, .int .i64 t229, .slice Ao53 t230.length co53] 27 (0, 0)) (by (with_reducible repeat (first | refine blk_drewN ?_ _ | refine blk_drew ?_ | refine blk_alloc ?_ _)); exact BK234.out) hb)
                have n6_ := Aside0.mk (blk_below (g := gb244) (o := .cells #[.int .i64 t238, .int .i64 t239, .slice Ao61 t240.length co61] 27 (0, 0)) (by (with_reducible repeat (first | refine blk_drewN ?_ _ | refine blk_drew ?_ | refine blk_alloc ?_ _)); exact BK244.out) hb)
                have n7_ := Aside0.mk (below_step (by repeat (first | (with_reducible first | exact HB.out | apply below_alloc | apply pw_below_drewN | apply below_drew1 | refine below_set ?_ GE234.out | refine below_set ?_ GE244.out) | exact HB.out)) hb)
                clear HO232
                clear HO237
                clear HO242
                clear HO252
                clear HO258
                clear BK234
                clear BK244
                clear HB
                have HO232 := n0_
                have HO237 := n1_
                have HO242 := n2_
                have HO252 := n3_
                have HO258 := n4_
                have BK234 := n5_
                have BK244 := n6_
                have HB := n7_
                clear n0_ n1_ n2_ n3_ n4_ n5_ n6_ n7_
                (try clear hb)
                (try clear hb2)
                (try clear hk)
                (try clear hi)
                refine hK.out _ _ ⟨(blk_cell BK234.out 0).trans rfl, (blk_cell BK234.out 1).trans rfl, (blk_cell BK234.out 2).trans rfl⟩ (fun hHeld => ?_)
                clear hK K
                refine norm_ (a' := ?_) ?_ ?_
                rotate_left
                · show Act.put _ (some 39) _ = _
                  simp only [Act.put, List.setIfInBounds_toArray, List.set_cons_zero, List.set_cons_succ, i64_w, i32_w]
                  rfl
                refine pure_ (i := 7) (N := some 40) (v := ?_) (a' := ?_) #[true, true, true, true, true, true, true, true, false, false, false, false, false, false, false, false, false, false, false, false, false, false, false] rfl rfl (any_of HT_.out (by kernel_rfl)) (fun _ _ _ h => h) (Or.inl ⟨by rfl, ?_⟩) ?_ ?_
                rotate_left
                · intro w'
                  go_simp
                  with_reducible rfl
                rotate_left
                · simp only [Act.put, List.setIfInBounds_toArray, List.set_cons_zero, List.set_cons_succ, i64_w, i32_w]
                  rfl
                refine pure_ (i := 8) (N := some 41) (v := ?_) (a' := ?_) #[true, true, true, true, true, true, true, true, true, false, false, false, false, false, false, false, false, false, false, false, false, false, false] rfl rfl (any_of HT_.out (by kernel_rfl)) (fun _ _ _ h => h) (Or.inl ⟨by rfl, ?_⟩) ?_ ?_
                rotate_left
                · intro w'
                  go_simp
                  with_reducible rfl
                rotate_left
                · simp only [Act.put, List.setIfInBounds_toArray, List.set_cons_zero, List.set_cons_succ, i64_w, i32_w]
                  rfl
                refine pure_ (i := 9) (N := some 42) (v := ?_) (a' := ?_) #[true, true, true, true, true, true, true, true, true, true, false, false, false, false, false, false, false, false, false, false, false, false, false] rfl rfl (any_of HT_.out (by kernel_rfl)) (fun _ _ _ h => h) (Or.inl ⟨by rfl, ?_⟩) ?_ ?_
                rotate_left
                · intro w'
                  go_simp
                  with_reducible rfl
                rotate_left
                · simp only [Act.put, List.setIfInBounds_toArray, List.set_cons_zero, List.set_cons_succ, i64_w, i32_w]
                  rfl
                refine take_ (i := 10) (N := some 43) (v := ?_) (a' := ?_) #[true, true, true, true, true, true, true, true, true, true, true, false, false, false, false, false, false, false, false, false, false, false, false] rfl rfl (take_ofW HT_.out HW_.out (by kernel_rfl)) (fun _ _ _ h => h) (Or.inl ⟨by rfl, ?_⟩) hHeld ?_ ?_
                rotate_left
                · rintro w' ⟨s0, s1, s2⟩
                  go_simp
                  with_reducible rfl
                rotate_left
                · simp only [Act.put, List.setIfInBounds_toArray, List.set_cons_zero, List.set_cons_succ, i64_w, i32_w]
                  rfl
                refine one_ (i := 11) (N := some 44) #[true, true, true, true, true, true, true, true, true, true, true, true, false, false, false, false, false, false, false, false, false, false, false] rfl rfl (one_of HT_.out (by kernel_rfl)) (by decide) (fun K hK => ?_)
                refine goes_ Tryd.func18 (by kernel_rfl) rfl #[.int .i64 2, .slice none 0 0] (by rfl) rfl rfl (by (try simp only [List.map_toArray, List.map_cons, List.map_nil]); first | done | rfl | (simp only [List.length_drop, List.length_take]; rfl)) ?_
                refine (armisticelaw05_some.calls 2 (fun k_ => some k_ = (.slice none 0 0 : Value).ownBlock) (.slice none 0 0) ([] : List Int) t260 t261 t262 w _ ?side1 ?side2 A68.out).mono ?_
                (case side1 => repeat (first | (with_reducible first | exact HB.out | apply below_alloc | apply pw_below_drewN | apply below_drew1 | refine below_set ?_ GE234.out | refine below_set ?_ GE244.out) | exact HB.out))
                (case side2 => exact Kd.R_nil _ _ _ _ _)
                rintro e w83 ⟨v263, rfl, ho0, hb, hkp⟩
                refine ⟨_, rfl, ?_⟩
                have n0_ := Aside0.mk (Kd.R_mono (ok' := fun k_ => some k_ ≠ (.slice Ao61 t240.length co61 : Value).ownBlock ∧ some k_ ≠ (.slice Ao78 t250.length co78 : Value).ownBlock ∧ some k_ ≠ (.slice Ao81 t256.length co81 : Value).ownBlock ∧ some k_ ≠ (v263 : Value).ownBlock) (Kd.R_keptB (HO232.out) hkp (fun k_ hk_ hs_ => (fun e_ => by simp [Value.ownBlock] at e_) hs_)) (fun k_ hk_ => ⟨hk_.1.1, hk_.1.2.1, hk_.1.2.2, fun e_ => Or.elim (ho0.1 k_ e_.symm) (fun hs_ => hk_.2.1 hs_) (fun hn_ => Nat.not_le.2 hk_.2.2 hn_)⟩))
                have n1_ := Aside0.mk (blk_kept (by (with_reducible repeat (first | refine blk_drewN ?_ _ | refine blk_drew ?_ | refine blk_alloc ?_ _)); exact BK234.out) hkp (fun hs_ => (fun e_ => by simp [Value.ownBlock] at e_) hs_))
                have n2_ := Aside0.mk (Kd.R_mono (ok' := fun k_ => True) (Kd.R_keptB (HO237.out) hkp (fun k_ hk_ hs_ => (fun e_ => by simp [Value.ownBlock] at e_) hs_)) (fun k_ hk_ => trivial))
                have n3_ := Aside0.mk (Kd.R_mono (ok' := fun k_ => some k_ ≠ (.slice Ao53 t230.length co53 : Value).ownBlock ∧ some k_ ≠ (.slice Ao78 t250.length co78 : Value).ownBlock ∧ some k_ ≠ (.slice Ao81 t256.length co81 : Value).ownBlock ∧ some k_ ≠ (v263 : Value).ownBlock) (Kd.R_keptB (HO242.out) hkp (fun k_ hk_ hs_ => (fun e_ => by simp [Value.ownBlock] at e_) hs_)) (fun k_ hk_ => ⟨hk_.1.1, hk_.1.2.1, hk_.1.2.2, fun e_ => Or.elim (ho0.1 k_ e_.symm) (fun hs_ => hk_.2.1 hs_) (fun hn_ => Nat.not_le.2 hk_.2.2 hn_)⟩))
                have n4_ := Aside0.mk (blk_kept (by (with_reducible repeat (first | refine blk_drewN ?_ _ | refine blk_drew ?_ | refine blk_alloc ?_ _)); exact BK244.out) hkp (fun hs_ => (fun e_ => by simp [Value.ownBlock] at e_) hs_))
                have n5_ := Aside0.mk (Kd.R_mono (ok' := fun k_ => some k_ ≠ (.slice Ao53 t230.length co53 : Value).ownBlock ∧ some k_ ≠ (.slice Ao61 t240.length co61 : Value).ownBlock ∧ some k_ ≠ (.slice Ao81 t256.length co81 : Value).ownBlock ∧ some k_ ≠ (v263 : Value).ownBlock) (Kd.R_keptB (HO252.out) hkp (fun k_ hk_ hs_ => (fun e_ => by simp [Value.ownBlock] at e_) hs_)) (fun k_ hk_ => ⟨hk_.1.1, hk_.1.2.1, hk_.1.2.2, fun e_ => Or.elim (ho0.1 k_ e_.symm) (fun hs_ => hk_.2.1 hs_) (fun hn_ => Nat.not_le.2 hk_.2.2 hn_)⟩))
                have n6_ := Aside0.mk (Kd.R_mono (ok' := fun k_ => some k_ ≠ (.slice Ao53 t230.length co53 : Value).ownBlock ∧ some k_ ≠ (.slice Ao61 t240.length co61 : Value).ownBlock ∧ some k_ ≠ (.slice Ao78 t250.length co78 : Value).ownBlock ∧ some k_ ≠ (v263 : Value).ownBlock) (Kd.R_keptB (HO258.out) hkp (fun k_ hk_ hs_ => (fun e_ => by simp [Value.ownBlock] at e_) hs_)) (fun k_ hk_ => ⟨hk_.1.1, hk_.1.2.1, hk_.1.2.2, fun e_ => Or.elim (ho0.1 k_ e_.symm) (fun hs_ => hk_.2.1 hs_) (fun hn_ => Nat.not_le.2 hk_.2.2 hn_)⟩))
                have n7_ := Aside0.mk (Kd.R_mono (ok' := fun k_ => some k_ ≠ (.slice Ao53 t230.length co53 : Value).ownBlock ∧ some k_ ≠ (.slice Ao61 t240.length co61 : Value).ownBlock ∧ some k_ ≠ (.slice Ao78 t250.length co78 : Value).ownBlock ∧ some k_ ≠ (.slice Ao81 t256.length co81 : Value).ownBlock) ho0 (fun k_ hk_ => ⟨Or.elim hk_ (fun hs_ => absurd hs_ (by simp [Value.ownBlock])) (fun hn_ => (Kd.fresh' (Kd.R_lt (by (with_reducible repeat (first | apply Kd.R_alloc | apply Kd.R_drewN | apply Kd.R_drew)); exact HO232.out)) k_ hn_)), Or.elim hk_ (fun hs_ => absurd hs_ (by simp [Value.ownBlock])) (fun hn_ => (Kd.fresh' (Kd.R_lt (by (with_reducible repeat (first | apply Kd.R_alloc | apply Kd.R_drewN | apply Kd.R_drew)); exact HO242.out)) k_ hn_)), Or.elim hk_ (fun hs_ => absurd hs_ (by simp [Value.ownBlock])) (fun hn_ => (Kd.fresh' (Kd.R_lt (by (with_reducible repeat (first | apply Kd.R_alloc | apply Kd.R_drewN | apply Kd.R_drew)); exact HO252.out)) k_ hn_)), Or.elim hk_ (fun hs_ => absurd hs_ (by simp [Value.ownBlock])) (fun hn_ => (Kd.fresh' (Kd.R_lt (by (with_reducible repeat (first | apply Kd.R_alloc | apply Kd.R_drewN | apply Kd.R_drew)); exact HO258.out)) k_ hn_))⟩))
                have n8_ := Aside0.mk (hb)
                clear HO232
                clear BK234
                clear HO237
                clear HO242
                clear BK244
                clear HO252
                clear HO258
                clear HB
                have HO232 := n0_
                have BK234 := n1_
                have HO237 := n2_
                have HO242 := n3_
                have BK244 := n4_
                have HO252 := n5_
                have HO258 := n6_
                have HO264 := n7_
                have HB := n8_
                clear n0_ n1_ n2_ n3_ n4_ n5_ n6_ n7_ n8_
                (try clear hb)
                (try clear hkp)
                (try clear ho0)
                obtain ⟨Ao84, co84, eo84⟩ := Kd.R_slice HO264.out
                (first | subst eo84 | (injection eo84 with f1_ f2_ f3_; have f4_ := f1_.symm; have f5_ := f3_.symm; clear f1_ f2_ f3_; subst f4_; subst f5_))
                refine hK.out _ _ ⟨(blk_cell BK234.out 0).trans rfl, (blk_cell BK234.out 1).trans rfl, (blk_cell BK234.out 2).trans rfl⟩ (fun hHeld => ?_)
                clear hK K
                refine norm_ (a' := ?_) ?_ ?_
                rotate_left
                · show Act.put _ (some 44) _ = _
                  simp only [Act.put, List.setIfInBounds_toArray, List.set_cons_zero, List.set_cons_succ, i64_w, i32_w]
                  rfl
                refine one_ (i := 12) (N := some 45) #[true, true, true, true, true, true, true, true, true, true, true, true, true, false, false, false, false, false, false, false, false, false, false] rfl rfl (one_of HT_.out (by kernel_rfl)) (by decide) (fun K hK => ?_)
                refine goes_ Tryd.func14 (by kernel_rfl) rfl #[.agg #[.int .i64 t228, .int .i64 t229, .slice Ao53 t230.length co53], .agg #[.int .i64 t260, .int .i64 t261, .slice Ao84 t262.length co84]] (by rfl) rfl rfl (by (try simp only [List.map_toArray, List.map_cons, List.map_nil]); first | done | rfl | (simp only [List.length_drop, List.length_take]; rfl)) ?_
                with_reducible refine (armisticekit_SameState.calls kj0 t228 t229 _ _ t230 t260 t261 _ _ t262 true _ ?side1 ?side2 ?side3 ?side4 A69.out).mono ?_
                (case side1 => repeat (first | exact (Kd.R_reads' HO232.out).2.2 | (with_reducible refine Kd.C_alloc ?_ _) | (with_reducible refine Kd.C_drewN ?_ _) | (with_reducible refine Kd.C_drew ?_)))
                (case side2 => exact (Kd.R_reads' HO232.out).2.1)
                (case side3 => repeat (first | exact (Kd.R_reads' HO264.out).2.2 | (with_reducible refine Kd.C_alloc ?_ _) | (with_reducible refine Kd.C_drewN ?_ _) | (with_reducible refine Kd.C_drew ?_)))
                (case side4 => exact (Kd.R_reads' HO264.out).2.1)
                rintro e w85 ⟨rfl, hb⟩
                refine ⟨_, rfl, ?_⟩
                have n0_ := Aside0.mk (Kd.R_below (by (with_reducible repeat (first | apply Kd.R_alloc | apply Kd.R_drewN | apply Kd.R_drew)); exact HO232.out) hb)
                have n1_ := Aside0.mk (Kd.R_below (by (with_reducible repeat (first | apply Kd.R_alloc | apply Kd.R_drewN | apply Kd.R_drew)); exact HO237.out) hb)
                have n2_ := Aside0.mk (Kd.R_below (by (with_reducible repeat (first | apply Kd.R_alloc | apply Kd.R_drewN | apply Kd.R_drew)); exact HO242.out) hb)
                have n3_ := Aside0.mk (Kd.R_below (by (with_reducible repeat (first | apply Kd.R_alloc | apply Kd.R_drewN | apply Kd.R_drew)); exact HO252.out) hb)
                have n4_ := Aside0.mk (Kd.R_below (by (with_reducible repeat (first | apply Kd.R_alloc | apply Kd.R_drewN | apply Kd.R_drew)); exact HO258.out) hb)
                have n5_ := Aside0.mk (Kd.R_below (by (with_reducible repeat (first | apply Kd.R_alloc | apply Kd.R_drewN | apply Kd.R_drew)); exact HO264.out) hb)
                have n6_ := Aside0.mk (blk_below (g := gb234) (o := .cells #[.int .i64 t228, .int .i64 t229, .slice Ao53 t230.length co53] 27 (0, 0)) (by (with_reducible repeat (first | refine blk_drewN ?_ _ | refine blk_drew ?_ | refine blk_alloc ?_ _)); exact BK234.out) hb)
                have n7_ := Aside0.mk (blk_below (g := gb244) (o := .cells #[.int .i64 t238, .int .i64 t239, .slice Ao61 t240.length co61] 27 (0, 0)) (by (with_reducible repeat (first | refine blk_drewN ?_ _ | refine blk_drew ?_ | refine blk_alloc ?_ _)); exact BK244.out) hb)
                have n8_ := Aside0.mk (below_step (by repeat (first | (with_reducible first | exact HB.out | apply below_alloc | apply pw_below_drewN | apply below_drew1 | refine below_set ?_ GE234.out | refine below_set ?_ GE244.out) | exact HB.out)) hb)
                clear HO232
                clear HO237
                clear HO242
                clear HO252
                clear HO258
                clear HO264
                clear BK234
                clear BK244
                clear HB
                have HO232 := n0_
                have HO237 := n1_
                have HO242 := n2_
                have HO252 := n3_
                have HO258 := n4_
                have HO264 := n5_
                have BK234 := n6_
                have BK244 := n7_
                have HB := n8_
                clear n0_ n1_ n2_ n3_ n4_ n5_ n6_ n7_ n8_
                (try clear hb)
                (try clear hb2)
                (try clear hk)
                (try clear hi)
                refine hK.out _ _ ⟨(blk_cell BK234.out 0).trans rfl, (blk_cell BK234.out 1).trans rfl, (blk_cell BK234.out 2).trans rfl⟩ (fun hHeld => ?_)
                clear hK K
                refine norm_ (a' := ?_) ?_ ?_
                rotate_left
                · show Act.put _ (some 45) _ = _
                  simp only [Act.put, List.setIfInBounds_toArray, List.set_cons_zero, List.set_cons_succ, i64_w, i32_w]
                  rfl
                refine pure_ (i := 13) (N := some 46) (v := ?_) (a' := ?_) #[true, true, true, true, true, true, true, true, true, true, true, true, true, true, false, false, false, false, false, false, false, false, false] rfl rfl (any_of HT_.out (by kernel_rfl)) (fun _ _ _ h => h) (Or.inl ⟨by rfl, ?_⟩) ?_ ?_
                rotate_left
                · intro w'
                  go_simp
                  with_reducible rfl
                rotate_left
                · simp only [Act.put, List.setIfInBounds_toArray, List.set_cons_zero, List.set_cons_succ, i64_w, i32_w]
                  rfl
                refine pure_ (i := 14) (N := some 47) (v := ?_) (a' := ?_) #[true, true, true, true, true, true, true, true, true, true, true, true, true, true, true, false, false, false, false, false, false, false, false] rfl rfl (any_of HT_.out (by kernel_rfl)) (fun _ _ _ h => h) (Or.inl ⟨by rfl, ?_⟩) ?_ ?_
                rotate_left
                · intro w'
                  go_simp
                  with_reducible rfl
                rotate_left
                · simp only [Act.put, List.setIfInBounds_toArray, List.set_cons_zero, List.set_cons_succ, i64_w, i32_w]
                  rfl
                refine pure_ (i := 15) (N := some 48) (v := ?_) (a' := ?_) #[true, true, true, true, true, true, true, true, true, true, true, true, true, true, true, true, false, false, false, false, false, false, false] rfl rfl (any_of HT_.out (by kernel_rfl)) (fun _ _ _ h => h) (Or.inl ⟨by rfl, ?_⟩) ?_ ?_
                rotate_left
                · intro w'
                  go_simp
                  with_reducible rfl
                rotate_left
                · simp only [Act.put, List.setIfInBounds_toArray, List.set_cons_zero, List.set_cons_succ, i64_w, i32_w]
                  rfl
                refine pure_ (i := 16) (N := some 49) (v := ?_) (a' := ?_) #[true, true, true, true, true, true, true, true, true, true, true, true, true, true, true, true, true, false, false, false, false, false, false] rfl rfl (any_of HT_.out (by kernel_rfl)) (fun _ _ _ h => h) (Or.inl ⟨by rfl, ?_⟩) ?_ ?_
                rotate_left
                · intro w'
                  go_simp
                  with_reducible rfl
                rotate_left
                · simp only [Act.put, List.setIfInBounds_toArray, List.set_cons_zero, List.set_cons_succ, i64_w, i32_w]
                  rfl
                refine pure_ (i := 17) (N := some 50) (v := ?_) (a' := ?_) #[true, true, true, true, true, true, true, true, true, true, true, true, true, true, true, true, true, true, false, false, false, false, false] rfl rfl (any_of HT_.out (by kernel_rfl)) (fun _ _ _ h => h) (Or.inl ⟨by rfl, ?_⟩) ?_ ?_
                rotate_left
                · intro w'
                  go_simp
                  with_reducible rfl
                rotate_left
                · simp only [Act.put, List.setIfInBounds_toArray, List.set_cons_zero, List.set_cons_succ, i64_w, i32_w]
                  rfl
                refine pure_ (i := 18) (N := some 51) (v := ?_) (a' := ?_) #[true, true, true, true, true, true, true, true, true, true, true, true, true, true, true, true, true, true, true, false, false, false, false] rfl rfl (any_of HT_.out (by kernel_rfl)) (fun _ _ _ h => h) (Or.inl ⟨by rfl, ?_⟩) ?_ ?_
                rotate_left
                · intro w'
                  go_simp
                  with_reducible rfl
                rotate_left
                · simp only [Act.put, List.setIfInBounds_toArray, List.set_cons_zero, List.set_cons_succ, i64_w, i32_w]
                  rfl
                refine pure_ (i := 19) (N := some 52) (v := ?_) (a' := ?_) #[true, true, true, true, true, true, true, true, true, true, true, true, true, true, true, true, true, true, true, true, false, false, false] rfl rfl (any_of HT_.out (by kernel_rfl)) (fun _ _ _ h => h) (Or.inl ⟨by rfl, ?_⟩) ?_ ?_
                rotate_left
                · intro w'
                  go_simp
                  with_reducible rfl
                rotate_left
                · simp only [Act.put, List.setIfInBounds_toArray, List.set_cons_zero, List.set_cons_succ, i64_w, i32_w]
                  rfl
                refine pure_ (i := 20) (N := some 53) (v := ?_) (a' := ?_) #[true, true, true, true, true, true, true, true, true, true, true, true, true, true, true, true, true, true, true, true, true, false, false] rfl rfl (any_of HT_.out (by kernel_rfl)) (fun _ _ _ h => h) (Or.inl ⟨by rfl, ?_⟩) ?_ ?_
                rotate_left
                · intro w'
                  go_simp
                  with_reducible rfl
                rotate_left
                · simp only [Act.put, List.setIfInBounds_toArray, List.set_cons_zero, List.set_cons_succ, i64_w, i32_w]
                  rfl
                refine pure_ (i := 21) (N := some 54) (v := ?_) (a' := ?_) #[true, true, true, true, true, true, true, true, true, true, true, true, true, true, true, true, true, true, true, true, true, true, false] rfl rfl (any_of HT_.out (by kernel_rfl)) (fun _ _ _ h => h) (Or.inl ⟨by rfl, ?_⟩) ?_ ?_
                rotate_left
                · intro w'
                  go_simp
                  with_reducible rfl
                rotate_left
                · simp only [Act.put, List.setIfInBounds_toArray, List.set_cons_zero, List.set_cons_succ, i64_w, i32_w]
                  rfl
                refine pure_ (i := 22) (N := some 6) (v := ?_) (a' := ?_) #[true, true, true, true, true, true, true, true, true, true, true, true, true, true, true, true, true, true, true, true, true, true, true] rfl rfl (any_of HT_.out (by kernel_rfl)) (fun _ _ _ h => h) (Or.inl ⟨by rfl, ?_⟩) ?_ ?_
                rotate_left
                · intro w'
                  go_simp
                  with_reducible rfl
                rotate_left
                · simp only [Act.put, List.setIfInBounds_toArray, List.set_cons_zero, List.set_cons_succ, i64_w, i32_w]
                  rfl
                refine done_ (done_of HT_.out (by kernel_rfl)) ?_
                try go_wp2
                go_meet
                case rel => exact ⟨_, ((t243 == 5)), (by first | rfl | (simp; done) | (simp [*]; done)), H', ⟨by have := HJ0.out; first | omega | exact Nat.le_refl _⟩, ⟨by (with_reducible repeat (first | apply Kd.R_alloc | apply Kd.R_drewN | apply Kd.R_drew)); exact Kd.R_mono HO232.out (fun _ hk => hk.1)⟩, ⟨by (with_reducible repeat (first | apply Kd.R_alloc | apply Kd.R_drewN | apply Kd.R_drew)); exact Kd.R_mono HO242.out (fun _ hk => hk.1)⟩, ⟨by (with_reducible repeat (first | refine blk_drewN ?_ _ | refine blk_drew ?_ | refine blk_alloc ?_ _)); exact BK234.out⟩, ⟨by (with_reducible repeat (first | refine blk_drewN ?_ _ | refine blk_drew ?_ | refine blk_alloc ?_ _)); exact BK244.out⟩, ⟨by repeat (first | (with_reducible first | exact HB.out | apply below_alloc | apply pw_below_drewN | apply below_drew1 | refine below_set ?_ GE234.out | refine below_set ?_ GE244.out) | exact HB.out)⟩⟩
              · rw [if_neg c71] at H
                exact absurd ((armisticelaw05_StateKnown.j1_false H).symm.trans HRT.out) (by decide)
            · replace c70 := Bool.eq_false_iff.mpr c70
              subst c70
              have H1 : (armisticelaw05_StateKnown.j1 kj0 x1_0 false) = some r := by rw [if_neg (show ¬ (false = true) by decide)] at H; exact H
              exact absurd ((armisticelaw05_StateKnown.j1_false H1).symm.trans HRT.out) (by decide)
          · rw [if_neg c67] at H
            exact absurd ((armisticelaw05_StateKnown.j1_false H).symm.trans HRT.out) (by decide)
        · rw [if_neg c64] at H
          exact absurd ((armisticelaw05_StateKnown.j1_false H).symm.trans HRT.out) (by decide)
      case rest =>
        clear HC49
        try clear c1
        try clear c2
        try clear p2
        try clear c6
        try clear c18
        try clear c21
        try clear c64
        try clear c64b0
        try clear c64b1
        obtain ⟨kq, x6_48, rfl, HA, HJ48, HO_235002, HO_245002, BK234, BK244, HB⟩ := hcut
        cases kq with
        | zero => exact absurd HA.out (by simp [armisticelaw05_StateKnown.j1])
        | succ kj48 =>
          have H := HA.out
          clear HA
          simp only [armisticelaw05_StateKnown.j1] at H
          replace H := Option.bind_eq_some_iff.mp H
          obtain ⟨t266, A1330, H⟩ := H
          replace H : (if t266 = true then (if x1_0 = true then (if x6_48 = true then ((armisticelaw05_some.f 2 (([1] : List Int))).bind fun bt270 => ((armisticelaw05_some.f 4 (([1] : List Int))).bind fun bt278 => ((state_Same.f kj48 bt270.1 bt270.2.1 bt270.2.2 bt278.1 bt278.2.1 bt278.2.2).bind fun t283 => (if t283 = true then (some false) else ((armisticelaw05_some.f 2 (([1] : List Int))).bind fun bt287 => ((armisticelaw05_some.f 2 (([1] : List Int))).bind fun bt295 => ((state_Same.f kj48 bt287.1 bt287.2.1 bt287.2.2 bt295.1 bt295.2.1 bt295.2.2).bind fun t300 => (some t300)))))))) else (some false)) else (some false)) else (some false)) = some r := H
          have A133 := Aside0.mk A1330
          clear A1330
          by_cases c134 : t266 = true
          · subst c134
            have H1 : (if x1_0 = true then (if x6_48 = true then ((armisticelaw05_some.f 2 (([1] : List Int))).bind fun bt270 => ((armisticelaw05_some.f 4 (([1] : List Int))).bind fun bt278 => ((state_Same.f kj48 bt270.1 bt270.2.1 bt270.2.2 bt278.1 bt278.2.1 bt278.2.2).bind fun t283 => (if t283 = true then (some false) else ((armisticelaw05_some.f 2 (([1] : List Int))).bind fun bt287 => ((armisticelaw05_some.f 2 (([1] : List Int))).bind fun bt295 => ((state_Same.f kj48 bt287.1 bt287.2.1 bt287.2.2 bt295.1 bt295.2.1 bt295.2.2).bind fun t300 => (some t300)))))))) else (some false)) else (some false)) = some r := by rw [if_pos rfl] at H; exact H
            clear H
            have H := H1
            clear H1
            by_cases c135 : x1_0 = true
            · subst c135
              have H1 : (if x6_48 = true then ((armisticelaw05_some.f 2 (([1] : List Int))).bind fun bt270 => ((armisticelaw05_some.f 4 (([1] : List Int))).bind fun bt278 => ((state_Same.f kj48 bt270.1 bt270.2.1 bt270.2.2 bt278.1 bt278.2.1 bt278.2.2).bind fun t283 => (if t283 = true then (some false) else ((armisticelaw05_some.f 2 (([1] : List Int))).bind fun bt287 => ((armisticelaw05_some.f 2 (([1] : List Int))).bind fun bt295 => ((state_Same.f kj48 bt287.1 bt287.2.1 bt287.2.2 bt295.1 bt295.2.1 bt295.2.2).bind fun t300 => (some t300)))))))) else (some false)) = some r := by rw [if_pos rfl] at H; exact H
              clear H
              have H := H1
              clear H1
              by_cases c136 : x6_48 = true
              · subst c136
                have H1 : ((armisticelaw05_some.f 2 (([1] : List Int))).bind fun bt270 => ((armisticelaw05_some.f 4 (([1] : List Int))).bind fun bt278 => ((state_Same.f kj48 bt270.1 bt270.2.1 bt270.2.2 bt278.1 bt278.2.1 bt278.2.2).bind fun t283 => (if t283 = true then (some false) else ((armisticelaw05_some.f 2 (([1] : List Int))).bind fun bt287 => ((armisticelaw05_some.f 2 (([1] : List Int))).bind fun bt295 => ((state_Same.f kj48 bt287.1 bt287.2.1 bt287.2.2 bt295.1 bt295.2.1 bt295.2.2).bind fun t300 => (some t300)))))))) = some r := by rw [if_pos rfl] at H; exact H
                clear H
                have H := H1
                clear H1
                obtain ⟨y267, hy267⟩ : ∃ y_ : List Int, y_ = (([1] : List Int)) := ⟨_, rfl⟩
                replace H : ((armisticelaw05_some.f 2 y267).bind fun bt270 => ((armisticelaw05_some.f 4 (([1] : List Int))).bind fun bt278 => ((state_Same.f kj48 bt270.1 bt270.2.1 bt270.2.2 bt278.1 bt278.2.1 bt278.2.2).bind fun t283 => (if t283 = true then (some false) else ((armisticelaw05_some.f 2 (([1] : List Int))).bind fun bt287 => ((armisticelaw05_some.f 2 (([1] : List Int))).bind fun bt295 => ((state_Same.f kj48 bt287.1 bt287.2.1 bt287.2.2 bt295.1 bt295.2.1 bt295.2.2).bind fun t300 => (some t300)))))))) = some r := by first | (rw [hy267]; with_reducible exact H) | (have H2_ := (Option.bind_some _ _).symm.trans H; rw [hy267]; with_reducible exact H2_) | (have H2_ := (Option.bind_some _ _).symm.trans H; with_reducible exact H2_) | with_reducible exact H | (rw [hy267]; exact H) | exact H
                have Ny267 := Aside0.mk hy267
                clear hy267
                replace H := Option.bind_eq_some_iff.mp H
                obtain ⟨⟨t270, t271, t272⟩, A1370, H⟩ := H
                replace H : ((armisticelaw05_some.f 4 (([1] : List Int))).bind fun bt278 => ((state_Same.f kj48 t270 t271 t272 bt278.1 bt278.2.1 bt278.2.2).bind fun t283 => (if t283 = true then (some false) else ((armisticelaw05_some.f 2 (([1] : List Int))).bind fun bt287 => ((armisticelaw05_some.f 2 (([1] : List Int))).bind fun bt295 => ((state_Same.f kj48 bt287.1 bt287.2.1 bt287.2.2 bt295.1 bt295.2.1 bt295.2.2).bind fun t300 => (some t300))))))) = some r := H
                have A137 := Aside0.mk A1370
                clear A1370
                obtain ⟨y275, hy275⟩ : ∃ y_ : List Int, y_ = (([1] : List Int)) := ⟨_, rfl⟩
                replace H : ((armisticelaw05_some.f 4 y275).bind fun bt278 => ((state_Same.f kj48 t270 t271 t272 bt278.1 bt278.2.1 bt278.2.2).bind fun t283 => (if t283 = true then (some false) else ((armisticelaw05_some.f 2 (([1] : List Int))).bind fun bt287 => ((armisticelaw05_some.f 2 (([1] : List Int))).bind fun bt295 => ((state_Same.f kj48 bt287.1 bt287.2.1 bt287.2.2 bt295.1 bt295.2.1 bt295.2.2).bind fun t300 => (some t300))))))) = some r := by first | (rw [hy275]; with_reducible exact H) | (have H2_ := (Option.bind_some _ _).symm.trans H; rw [hy275]; with_reducible exact H2_) | (have H2_ := (Option.bind_some _ _).symm.trans H; with_reducible exact H2_) | with_reducible exact H | (rw [hy275]; exact H) | exact H
                have Ny275 := Aside0.mk hy275
                clear hy275
                replace H := Option.bind_eq_some_iff.mp H
                obtain ⟨⟨t278, t279, t280⟩, A1380, H⟩ := H
                replace H : ((state_Same.f kj48 t270 t271 t272 t278 t279 t280).bind fun t283 => (if t283 = true then (some false) else ((armisticelaw05_some.f 2 (([1] : List Int))).bind fun bt287 => ((armisticelaw05_some.f 2 (([1] : List Int))).bind fun bt295 => ((state_Same.f kj48 bt287.1 bt287.2.1 bt287.2.2 bt295.1 bt295.2.1 bt295.2.2).bind fun t300 => (some t300)))))) = some r := H
                have A138 := Aside0.mk A1380
                clear A1380
                replace H := Option.bind_eq_some_iff.mp H
                obtain ⟨t283, A1390, H⟩ := H
                replace H : (if t283 = true then (some false) else ((armisticelaw05_some.f 2 (([1] : List Int))).bind fun bt287 => ((armisticelaw05_some.f 2 (([1] : List Int))).bind fun bt295 => ((state_Same.f kj48 bt287.1 bt287.2.1 bt287.2.2 bt295.1 bt295.2.1 bt295.2.2).bind fun t300 => (some t300))))) = some r := H
                have A139 := Aside0.mk A1390
                clear A1390
                by_cases c140 : t283 = true
                · subst c140
                  have H1 : (some false) = some r := by rw [if_pos rfl] at H; exact H
                  clear H
                  have H := H1
                  clear H1
                  obtain rfl := Option.some.inj H
                  go_wp2_with (first | ((with_reducible refine gate_callee (f := 8) rfl ?_); refine goesL_ (some 55) rfl rfl Tryd.func8 (by kernel_rfl) rfl #[] rfl (by (try simp only [List.map_toArray, List.map_cons, List.map_nil]); first | done | rfl | (simp only [List.length_drop, List.length_take]; rfl)) ?_; (with_reducible refine (armisticelaw05_awake.calls kj48  true _ ?side1 A133.out).mono ?_); (case side1 => exact GOk.below HG.out (by repeat (first | (with_reducible first | exact HB.out | apply below_alloc | apply pw_below_drewN | apply below_drew1 | refine below_set ?_ GE234.out | refine below_set ?_ GE244.out) | exact HB.out))); rintro e w141 ⟨rfl, hb⟩; refine ⟨_, rfl, ?_⟩; have n0_ := Aside0.mk (Kd.R_below (by (with_reducible repeat (first | apply Kd.R_alloc | apply Kd.R_drewN | apply Kd.R_drew)); exact HO_235002.out) hb); have n1_ := Aside0.mk (Kd.R_below (by (with_reducible repeat (first | apply Kd.R_alloc | apply Kd.R_drewN | apply Kd.R_drew)); exact HO_245002.out) hb); have n2_ := Aside0.mk (blk_below (g := gb234) (o := .cells #[.int .i64 t228, .int .i64 t229, .slice Ao53 t230.length co53] 27 (0, 0)) (by (with_reducible repeat (first | refine blk_drewN ?_ _ | refine blk_drew ?_ | refine blk_alloc ?_ _)); exact BK234.out) hb); have n3_ := Aside0.mk (blk_below (g := gb244) (o := .cells #[.int .i64 t238, .int .i64 t239, .slice Ao61 t240.length co61] 27 (0, 0)) (by (with_reducible repeat (first | refine blk_drewN ?_ _ | refine blk_drew ?_ | refine blk_alloc ?_ _)); exact BK244.out) hb); have n4_ := Aside0.mk (below_step (by repeat (first | (with_reducible first | exact HB.out | apply below_alloc | apply pw_below_drewN | apply below_drew1 | refine below_set ?_ GE234.out | refine below_set ?_ GE244.out) | exact HB.out)) hb); clear HO_235002; clear HO_245002; clear BK234; clear BK244; clear HB; have HO_235002 := n0_; have HO_245002 := n1_; have BK234 := n2_; have BK244 := n3_; have HB := n4_; clear n0_ n1_ n2_ n3_ n4_; (try clear hb); (try clear hb2); (try clear hk); (try clear hi)) | ((with_reducible refine gate_dst (N := 63) rfl ?_); (try (refine gate_guard (by rfl) ?_; dsimp only)); refine Kd.R_lit (Kd.int .i64) _ 3 ?hg (N := 63) ?hd (xs := ([1] : List Int)) (inner := [.int .i64 1]) (ok := fun _ => True) (okp := fun _ => True) ?hr ?hp (fun _ hk => hk) trivial (Below.refl _ _) (Nat.le_refl _) (by simp) ?_; (case hd => rfl); (case hg => rfl); (case hr => first | (go_simp; done) | (go_simp; rfl)); (case hp => exact (Reps.one (show Kd.M (Kd.int .i64) _ _ _ 1 [.int .i64 1] from rfl) (Reps.none _ _))); intro v268 w142 ho143 hb hg_ hnew_; clear hg_ hnew_; (first | rw [← Ny267.out] at ho143 | (simp only [Int.reduceToNat] at ho143; rw [← Ny267.out] at ho143)); have n0_ := Aside0.mk (Kd.R_elder' (by (with_reducible repeat (first | apply Kd.R_alloc | apply Kd.R_drewN | apply Kd.R_drew)); exact HO_235002.out) (Kd.R_base ho143) hb); have n1_ := Aside0.mk (Kd.R_elder' (by (with_reducible repeat (first | apply Kd.R_alloc | apply Kd.R_drewN | apply Kd.R_drew)); exact HO_245002.out) (Kd.R_base ho143) hb); have n2_ := Aside0.mk (Kd.R_lower (Kd.R_new' (Kd.R_new' ho143 (Kd.R_lt (by (with_reducible repeat (first | apply Kd.R_alloc | apply Kd.R_drewN | apply Kd.R_drew)); exact HO_235002.out))) (Kd.R_lt (by (with_reducible repeat (first | apply Kd.R_alloc | apply Kd.R_drewN | apply Kd.R_drew)); exact HO_245002.out))) (below_size (by repeat (first | (with_reducible first | exact HB.out | apply below_alloc | apply pw_below_drewN | apply below_drew1 | refine below_set ?_ GE234.out | refine below_set ?_ GE244.out) | exact HB.out)))); have n3_ := Aside0.mk (blk_below (g := gb234) (o := .cells #[.int .i64 t228, .int .i64 t229, .slice Ao53 t230.length co53] 27 (0, 0)) (by (with_reducible repeat (first | refine blk_drewN ?_ _ | refine blk_drew ?_ | refine blk_alloc ?_ _)); exact BK234.out) hb); have n4_ := Aside0.mk (blk_below (g := gb244) (o := .cells #[.int .i64 t238, .int .i64 t239, .slice Ao61 t240.length co61] 27 (0, 0)) (by (with_reducible repeat (first | refine blk_drewN ?_ _ | refine blk_drew ?_ | refine blk_alloc ?_ _)); exact BK244.out) hb); have n5_ := Aside0.mk (below_step (by repeat (first | (with_reducible first | exact HB.out | apply below_alloc | apply pw_below_drewN | apply below_drew1 | refine below_set ?_ GE234.out | refine below_set ?_ GE244.out) | exact HB.out)) hb); clear HO_235002; clear HO_245002; clear BK234; clear BK244; clear HB; have HO_235002 := n0_; have HO_245002 := n1_; have HO269 := n2_; have BK234 := n3_; have BK244 := n4_; have HB := n5_; clear n0_ n1_ n2_ n3_ n4_ n5_; clear hb ho143; obtain ⟨Ao144, co144, eo144⟩ := Kd.R_slice HO269.out; subst eo144) | (go_at_call 18; (with_reducible refine (armisticelaw05_some.calls 2 (fun k_ => some k_ = (.slice Ao144 y267.length co144 : Value).ownBlock) (.slice Ao144 y267.length co144) y267 t270 t271 t272 w _ ?side1 ?side2 A137.out).mono ?_); (case side1 => repeat (first | (with_reducible first | exact HB.out | apply below_alloc | apply pw_below_drewN | apply below_drew1 | refine below_set ?_ GE234.out | refine below_set ?_ GE244.out) | exact HB.out)); (case side2 => exact Kd.R_tight rfl HO269.out); rintro e w145 ⟨v273, rfl, ho0, hb, hkp⟩; have n0_ := Aside0.mk (Kd.R_mono (ok' := fun k_ => some k_ ≠ (.slice Ao61 t240.length co61 : Value).ownBlock ∧ some k_ ≠ (v273 : Value).ownBlock) (Kd.R_keptB (HO_235002.out) hkp (fun k_ hk_ hs_ => (hk_.2) hs_)) (fun k_ hk_ => ⟨hk_.1.1, fun e_ => Or.elim (ho0.1 k_ e_.symm) (fun hs_ => hk_.2.1 hs_) (fun hn_ => Nat.not_le.2 hk_.2.2 hn_)⟩)); have n1_ := Aside0.mk (Kd.R_mono (ok' := fun k_ => some k_ ≠ (.slice Ao53 t230.length co53 : Value).ownBlock ∧ some k_ ≠ (v273 : Value).ownBlock) (Kd.R_keptB (HO_245002.out) hkp (fun k_ hk_ hs_ => (hk_.2) hs_)) (fun k_ hk_ => ⟨hk_.1.1, fun e_ => Or.elim (ho0.1 k_ e_.symm) (fun hs_ => hk_.2.1 hs_) (fun hn_ => Nat.not_le.2 hk_.2.2 hn_)⟩)); have n2_ := Aside0.mk (blk_kept (by (with_reducible repeat (first | refine blk_drewN ?_ _ | refine blk_drew ?_ | refine blk_alloc ?_ _)); exact BK234.out) hkp (fun hs_ => (fun e_ => (Kd.R_ne HO269.out BK234.out (by decide)) e_) hs_)); have n3_ := Aside0.mk (blk_kept (by (with_reducible repeat (first | refine blk_drewN ?_ _ | refine blk_drew ?_ | refine blk_alloc ?_ _)); exact BK244.out) hkp (fun hs_ => (fun e_ => (Kd.R_ne HO269.out BK244.out (by decide)) e_) hs_)); have n4_ := Aside0.mk (Kd.R_mono (ok' := fun k_ => some k_ ≠ (.slice Ao53 t230.length co53 : Value).ownBlock ∧ some k_ ≠ (.slice Ao61 t240.length co61 : Value).ownBlock) ho0 (fun k_ hk_ => ⟨Or.elim hk_ (fun hs_ => fun e_ => (((HO_235002.out).1 k_ e_.symm).2) hs_) (fun hn_ => (Kd.fresh' (Kd.R_lt (by (with_reducible repeat (first | apply Kd.R_alloc | apply Kd.R_drewN | apply Kd.R_drew)); exact HO_235002.out)) k_ hn_)), Or.elim hk_ (fun hs_ => fun e_ => (((HO_245002.out).1 k_ e_.symm).2) hs_) (fun hn_ => (Kd.fresh' (Kd.R_lt (by (with_reducible repeat (first | apply Kd.R_alloc | apply Kd.R_drewN | apply Kd.R_drew)); exact HO_245002.out)) k_ hn_))⟩)); have n5_ := Aside0.mk (hb); clear HO_235002; clear HO_245002; clear BK234; clear BK244; clear HB; clear HO269; have HO_235002 := n0_; have HO_245002 := n1_; have BK234 := n2_; have BK244 := n3_; have HO274 := n4_; have HB := n5_; clear n0_ n1_ n2_ n3_ n4_ n5_; (try clear hb); (try clear hkp); (try clear ho0)) | ((with_reducible refine gate_dst (N := 65) rfl ?_); (try (refine gate_guard (by rfl) ?_; dsimp only)); refine Kd.R_lit (Kd.int .i64) _ 3 ?hg (N := 65) ?hd (xs := ([1] : List Int)) (inner := [.int .i64 1]) (ok := fun _ => True) (okp := fun _ => True) ?hr ?hp (fun _ hk => hk) trivial (Below.refl _ _) (Nat.le_refl _) (by simp) ?_; (case hd => rfl); (case hg => rfl); (case hr => first | (go_simp; done) | (go_simp; rfl)); (case hp => exact (Reps.one (show Kd.M (Kd.int .i64) _ _ _ 1 [.int .i64 1] from rfl) (Reps.none _ _))); intro v276 w146 ho147 hb hg_ hnew_; clear hg_ hnew_; (first | rw [← Ny275.out] at ho147 | (simp only [Int.reduceToNat] at ho147; rw [← Ny275.out] at ho147)); have n0_ := Aside0.mk (Kd.R_elder' (by (with_reducible repeat (first | apply Kd.R_alloc | apply Kd.R_drewN | apply Kd.R_drew)); exact HO_235002.out) (Kd.R_base ho147) hb); have n1_ := Aside0.mk (Kd.R_elder' (by (with_reducible repeat (first | apply Kd.R_alloc | apply Kd.R_drewN | apply Kd.R_drew)); exact HO_245002.out) (Kd.R_base ho147) hb); have n2_ := Aside0.mk (Kd.R_elder' (by (with_reducible repeat (first | apply Kd.R_alloc | apply Kd.R_drewN | apply Kd.R_drew)); exact HO274.out) (Kd.R_base ho147) hb); have n3_ := Aside0.mk (Kd.R_lower (Kd.R_new' (Kd.R_new' (Kd.R_new' ho147 (Kd.R_lt (by (with_reducible repeat (first | apply Kd.R_alloc | apply Kd.R_drewN | apply Kd.R_drew)); exact HO_235002.out))) (Kd.R_lt (by (with_reducible repeat (first | apply Kd.R_alloc | apply Kd.R_drewN | apply Kd.R_drew)); exact HO_245002.out))) (Kd.R_lt (by (with_reducible repeat (first | apply Kd.R_alloc | apply Kd.R_drewN | apply Kd.R_drew)); exact HO274.out))) (below_size (by repeat (first | (with_reducible first | exact HB.out | apply below_alloc | apply pw_below_drewN | apply below_drew1 | refine below_set ?_ GE234.out | refine below_set ?_ GE244.out) | exact HB.out)))); have n4_ := Aside0.mk (blk_below (g := gb234) (o := .cells #[.int .i64 t228, .int .i64 t229, .slice Ao53 t230.length co53] 27 (0, 0)) (by (with_reducible repeat (first | refine blk_drewN ?_ _ | refine blk_drew ?_ | refine blk_alloc ?_ _)); exact BK234.out) hb); have n5_ := Aside0.mk (blk_below (g := gb244) (o := .cells #[.int .i64 t238, .int .i64 t239, .slice Ao61 t240.length co61] 27 (0, 0)) (by (with_reducible repeat (first | refine blk_drewN ?_ _ | refine blk_drew ?_ | refine blk_alloc ?_ _)); exact BK244.out) hb); have n6_ := Aside0.mk (below_step (by repeat (first | (with_reducible first | exact HB.out | apply below_alloc | apply pw_below_drewN | apply below_drew1 | refine below_set ?_ GE234.out | refine below_set ?_ GE244.out) | exact HB.out)) hb); clear HO_235002; clear HO_245002; clear HO274; clear BK234; clear BK244; clear HB; have HO_235002 := n0_; have HO_245002 := n1_; have HO274 := n2_; have HO277 := n3_; have BK234 := n4_; have BK244 := n5_; have HB := n6_; clear n0_ n1_ n2_ n3_ n4_ n5_ n6_; clear hb ho147; obtain ⟨Ao148, co148, eo148⟩ := Kd.R_slice HO277.out; subst eo148) | (go_at_call 18; (with_reducible refine (armisticelaw05_some.calls 4 (fun k_ => some k_ = (.slice Ao148 y275.length co148 : Value).ownBlock) (.slice Ao148 y275.length co148) y275 t278 t279 t280 w _ ?side1 ?side2 A138.out).mono ?_); (case side1 => repeat (first | (with_reducible first | exact HB.out | apply below_alloc | apply pw_below_drewN | apply below_drew1 | refine below_set ?_ GE234.out | refine below_set ?_ GE244.out) | exact HB.out)); (case side2 => exact Kd.R_tight rfl HO277.out); rintro e w149 ⟨v281, rfl, ho0, hb, hkp⟩; have n0_ := Aside0.mk (Kd.R_mono (ok' := fun k_ => some k_ ≠ (.slice Ao61 t240.length co61 : Value).ownBlock ∧ some k_ ≠ (v273 : Value).ownBlock ∧ some k_ ≠ (v281 : Value).ownBlock) (Kd.R_keptB (HO_235002.out) hkp (fun k_ hk_ hs_ => (hk_.2) hs_)) (fun k_ hk_ => ⟨hk_.1.1.1, hk_.1.1.2, fun e_ => Or.elim (ho0.1 k_ e_.symm) (fun hs_ => hk_.2.1 hs_) (fun hn_ => Nat.not_le.2 hk_.2.2 hn_)⟩)); have n1_ := Aside0.mk (Kd.R_mono (ok' := fun k_ => some k_ ≠ (.slice Ao53 t230.length co53 : Value).ownBlock ∧ some k_ ≠ (v273 : Value).ownBlock ∧ some k_ ≠ (v281 : Value).ownBlock) (Kd.R_keptB (HO_245002.out) hkp (fun k_ hk_ hs_ => (hk_.2) hs_)) (fun k_ hk_ => ⟨hk_.1.1.1, hk_.1.1.2, fun e_ => Or.elim (ho0.1 k_ e_.symm) (fun hs_ => hk_.2.1 hs_) (fun hn_ => Nat.not_le.2 hk_.2.2 hn_)⟩)); have n2_ := Aside0.mk (blk_kept (by (with_reducible repeat (first | refine blk_drewN ?_ _ | refine blk_drew ?_ | refine blk_alloc ?_ _)); exact BK234.out) hkp (fun hs_ => (fun e_ => (Kd.R_ne HO277.out BK234.out (by decide)) e_) hs_)); have n3_ := Aside0.mk (blk_kept (by (with_reducible repeat (first | refine blk_drewN ?_ _ | refine blk_drew ?_ | refine blk_alloc ?_ _)); exact BK244.out) hkp (fun hs_ => (fun e_ => (Kd.R_ne HO277.out BK244.out (by decide)) e_) hs_)); have n4_ := Aside0.mk (Kd.R_mono (ok' := fun k_ => some k_ ≠ (.slice Ao53 t230.length co53 : Value).ownBlock ∧ some k_ ≠ (.slice Ao61 t240.length co61 : Value).ownBlock ∧ some k_ ≠ (v281 : Value).ownBlock) (Kd.R_keptB (HO274.out) hkp (fun k_ hk_ hs_ => (hk_.2) hs_)) (fun k_ hk_ => ⟨hk_.1.1.1, hk_.1.1.2, fun e_ => Or.elim (ho0.1 k_ e_.symm) (fun hs_ => hk_.2.1 hs_) (fun hn_ => Nat.not_le.2 hk_.2.2 hn_)⟩)); have n5_ := Aside0.mk (Kd.R_mono (ok' := fun k_ => some k_ ≠ (.slice Ao53 t230.length co53 : Value).ownBlock ∧ some k_ ≠ (.slice Ao61 t240.length co61 : Value).ownBlock ∧ some k_ ≠ (v273 : Value).ownBlock) ho0 (fun k_ hk_ => ⟨Or.elim hk_ (fun hs_ => fun e_ => (((HO_235002.out).1 k_ e_.symm).2) hs_) (fun hn_ => (Kd.fresh' (Kd.R_lt (by (with_reducible repeat (first | apply Kd.R_alloc | apply Kd.R_drewN | apply Kd.R_drew)); exact HO_235002.out)) k_ hn_)), Or.elim hk_ (fun hs_ => fun e_ => (((HO_245002.out).1 k_ e_.symm).2) hs_) (fun hn_ => (Kd.fresh' (Kd.R_lt (by (with_reducible repeat (first | apply Kd.R_alloc | apply Kd.R_drewN | apply Kd.R_drew)); exact HO_245002.out)) k_ hn_)), Or.elim hk_ (fun hs_ => fun e_ => (((HO274.out).1 k_ e_.symm).2) hs_) (fun hn_ => (Kd.fresh' (Kd.R_lt (by (with_reducible repeat (first | apply Kd.R_alloc | apply Kd.R_drewN | apply Kd.R_drew)); exact HO274.out)) k_ hn_))⟩)); have n6_ := Aside0.mk (hb); clear HO_235002; clear HO_245002; clear BK234; clear BK244; clear HO274; clear HB; clear HO277; have HO_235002 := n0_; have HO_245002 := n1_; have BK234 := n2_; have BK244 := n3_; have HO274 := n4_; have HO282 := n5_; have HB := n6_; clear n0_ n1_ n2_ n3_ n4_ n5_ n6_; (try clear hb); (try clear hkp); (try clear ho0); obtain ⟨Ao150, co150, eo150⟩ := Kd.R_slice HO274.out; subst eo150; obtain ⟨Ao151, co151, eo151⟩ := Kd.R_slice HO282.out; subst eo151) | (go_at_call 22; (with_reducible refine (state_Same.calls kj48 t270 t271 _ _ t272 t278 t279 _ _ t280 true _ ?side1 ?side2 ?side3 ?side4 A139.out).mono ?_); (case side1 => repeat (first | exact (Kd.R_reads' HO274.out).2.2 | (with_reducible refine Kd.C_alloc ?_ _) | (with_reducible refine Kd.C_drewN ?_ _) | (with_reducible refine Kd.C_drew ?_))); (case side2 => exact (Kd.R_reads' HO274.out).2.1); (case side3 => repeat (first | exact (Kd.R_reads' HO282.out).2.2 | (with_reducible refine Kd.C_alloc ?_ _) | (with_reducible refine Kd.C_drewN ?_ _) | (with_reducible refine Kd.C_drew ?_))); (case side4 => exact (Kd.R_reads' HO282.out).2.1); rintro e w152 ⟨rfl, hb⟩; have n0_ := Aside0.mk (Kd.R_below (by (with_reducible repeat (first | apply Kd.R_alloc | apply Kd.R_drewN | apply Kd.R_drew)); exact HO_235002.out) hb); have n1_ := Aside0.mk (Kd.R_below (by (with_reducible repeat (first | apply Kd.R_alloc | apply Kd.R_drewN | apply Kd.R_drew)); exact HO_245002.out) hb); have n2_ := Aside0.mk (Kd.R_below (by (with_reducible repeat (first | apply Kd.R_alloc | apply Kd.R_drewN | apply Kd.R_drew)); exact HO274.out) hb); have n3_ := Aside0.mk (Kd.R_below (by (with_reducible repeat (first | apply Kd.R_alloc | apply Kd.R_drewN | apply Kd.R_drew)); exact HO282.out) hb); have n4_ := Aside0.mk (blk_below (g := gb234) (o := .cells #[.int .i64 t228, .int .i64 t229, .slice Ao53 t230.length co53] 27 (0, 0)) (by (with_reducible repeat (first | refine blk_drewN ?_ _ | refine blk_drew ?_ | refine blk_alloc ?_ _)); exact BK234.out) hb); have n5_ := Aside0.mk (blk_below (g := gb244) (o := .cells #[.int .i64 t238, .int .i64 t239, .slice Ao61 t240.length co61] 27 (0, 0)) (by (with_reducible repeat (first | refine blk_drewN ?_ _ | refine blk_drew ?_ | refine blk_alloc ?_ _)); exact BK244.out) hb); have n6_ := Aside0.mk (below_step (by repeat (first | (with_reducible first | exact HB.out | apply below_alloc | apply pw_below_drewN | apply below_drew1 | refine below_set ?_ GE234.out | refine below_set ?_ GE244.out) | exact HB.out)) hb); clear HO_235002; clear HO_245002; clear HO274; clear HO282; clear BK234; clear BK244; clear HB; have HO_235002 := n0_; have HO_245002 := n1_; have HO274 := n2_; have HO282 := n3_; have BK234 := n4_; have BK244 := n5_; have HB := n6_; clear n0_ n1_ n2_ n3_ n4_ n5_ n6_; (try clear hb); (try clear hb2); (try clear hk); (try clear hi)))
                  go_ret
                  exact ⟨by first | rfl | (simp [errW_none, errW_some] <;> rfl) | (simp [*, errW_none, errW_some] <;> rfl), by repeat (first | (with_reducible first | exact HB.out | apply below_alloc | apply pw_below_drewN | apply below_drew1 | refine below_set ?_ GE234.out | refine below_set ?_ GE244.out) | exact HB.out)⟩
                · replace c140 := Bool.eq_false_iff.mpr c140
                  subst c140
                  have H1 : ((armisticelaw05_some.f 2 (([1] : List Int))).bind fun bt287 => ((armisticelaw05_some.f 2 (([1] : List Int))).bind fun bt295 => ((state_Same.f kj48 bt287.1 bt287.2.1 bt287.2.2 bt295.1 bt295.2.1 bt295.2.2).bind fun t300 => (some t300)))) = some r := by rw [if_neg (show ¬ (false = true) by decide)] at H; exact H
                  clear H
                  have H := H1
                  clear H1
                  obtain ⟨y284, hy284⟩ : ∃ y_ : List Int, y_ = (([1] : List Int)) := ⟨_, rfl⟩
                  replace H : ((armisticelaw05_some.f 2 y284).bind fun bt287 => ((armisticelaw05_some.f 2 (([1] : List Int))).bind fun bt295 => ((state_Same.f kj48 bt287.1 bt287.2.1 bt287.2.2 bt295.1 bt295.2.1 bt295.2.2).bind fun t300 => (some t300)))) = some r := by first | (rw [hy284]; with_reducible exact H) | (have H2_ := (Option.bind_some _ _).symm.trans H; rw [hy284]; with_reducible exact H2_) | (have H2_ := (Option.bind_some _ _).symm.trans H; with_reducible exact H2_) | with_reducible exact H | (rw [hy284]; exact H) | exact H
                  have Ny284 := Aside0.mk hy284
                  clear hy284
                  replace H := Option.bind_eq_some_iff.mp H
                  obtain ⟨⟨t287, t288, t289⟩, A1530, H⟩ := H
                  replace H : ((armisticelaw05_some.f 2 (([1] : List Int))).bind fun bt295 => ((state_Same.f kj48 t287 t288 t289 bt295.1 bt295.2.1 bt295.2.2).bind fun t300 => (some t300))) = some r := H
                  have A153 := Aside0.mk A1530
                  clear A1530
                  obtain ⟨y292, hy292⟩ : ∃ y_ : List Int, y_ = (([1] : List Int)) := ⟨_, rfl⟩
                  replace H : ((armisticelaw05_some.f 2 y292).bind fun bt295 => ((state_Same.f kj48 t287 t288 t289 bt295.1 bt295.2.1 bt295.2.2).bind fun t300 => (some t300))) = some r := by first | (rw [hy292]; with_reducible exact H) | (have H2_ := (Option.bind_some _ _).symm.trans H; rw [hy292]; with_reducible exact H2_) | (have H2_ := (Option.bind_some _ _).symm.trans H; with_reducible exact H2_) | with_reducible exact H | (rw [hy292]; exact H) | exact H
                  have Ny292 := Aside0.mk hy292
                  clear hy292
                  replace H := Option.bind_eq_some_iff.mp H
                  obtain ⟨⟨t295, t296, t297⟩, A1540, H⟩ := H
                  replace H : ((state_Same.f kj48 t287 t288 t289 t295 t296 t297).bind fun t300 => (some t300)) = some r := H
                  have A154 := Aside0.mk A1540
                  clear A1540
                  replace H := Option.bind_eq_some_iff.mp H
                  obtain ⟨t300, A1550, H⟩ := H
                  replace H : (some t300) = some r := H
                  have A155 := Aside0.mk A1550
                  clear A1550
                  obtain rfl := Option.some.inj H
                  go_wp2_with (first | ((with_reducible refine gate_callee (f := 8) rfl ?_); refine goesL_ (some 55) rfl rfl Tryd.func8 (by kernel_rfl) rfl #[] rfl (by (try simp only [List.map_toArray, List.map_cons, List.map_nil]); first | done | rfl | (simp only [List.length_drop, List.length_take]; rfl)) ?_; (with_reducible refine (armisticelaw05_awake.calls kj48  true _ ?side1 A133.out).mono ?_); (case side1 => exact GOk.below HG.out (by repeat (first | (with_reducible first | exact HB.out | apply below_alloc | apply pw_below_drewN | apply below_drew1 | refine below_set ?_ GE234.out | refine below_set ?_ GE244.out) | exact HB.out))); rintro e w156 ⟨rfl, hb⟩; refine ⟨_, rfl, ?_⟩; have n0_ := Aside0.mk (Kd.R_below (by (with_reducible repeat (first | apply Kd.R_alloc | apply Kd.R_drewN | apply Kd.R_drew)); exact HO_235002.out) hb); have n1_ := Aside0.mk (Kd.R_below (by (with_reducible repeat (first | apply Kd.R_alloc | apply Kd.R_drewN | apply Kd.R_drew)); exact HO_245002.out) hb); have n2_ := Aside0.mk (blk_below (g := gb234) (o := .cells #[.int .i64 t228, .int .i64 t229, .slice Ao53 t230.length co53] 27 (0, 0)) (by (with_reducible repeat (first | refine blk_drewN ?_ _ | refine blk_drew ?_ | refine blk_alloc ?_ _)); exact BK234.out) hb); have n3_ := Aside0.mk (blk_below (g := gb244) (o := .cells #[.int .i64 t238, .int .i64 t239, .slice Ao61 t240.length co61] 27 (0, 0)) (by (with_reducible repeat (first | refine blk_drewN ?_ _ | refine blk_drew ?_ | refine blk_alloc ?_ _)); exact BK244.out) hb); have n4_ := Aside0.mk (below_step (by repeat (first | (with_reducible first | exact HB.out | apply below_alloc | apply pw_below_drewN | apply below_drew1 | refine below_set ?_ GE234.out | refine below_set ?_ GE244.out) | exact HB.out)) hb); clear HO_235002; clear HO_245002; clear BK234; clear BK244; clear HB; have HO_235002 := n0_; have HO_245002 := n1_; have BK234 := n2_; have BK244 := n3_; have HB := n4_; clear n0_ n1_ n2_ n3_ n4_; (try clear hb); (try clear hb2); (try clear hk); (try clear hi)) | ((with_reducible refine gate_dst (N := 63) rfl ?_); (try (refine gate_guard (by rfl) ?_; dsimp only)); refine Kd.R_lit (Kd.int .i64) _ 3 ?hg (N := 63) ?hd (xs := ([1] : List Int)) (inner := [.int .i64 1]) (ok := fun _ => True) (okp := fun _ => True) ?hr ?hp (fun _ hk => hk) trivial (Below.refl _ _) (Nat.le_refl _) (by simp) ?_; (case hd => rfl); (case hg => rfl); (case hr => first | (go_simp; done) | (go_simp; rfl)); (case hp => exact (Reps.one (show Kd.M (Kd.int .i64) _ _ _ 1 [.int .i64 1] from rfl) (Reps.none _ _))); intro v268 w157 ho158 hb hg_ hnew_; clear hg_ hnew_; (first | rw [← Ny267.out] at ho158 | (simp only [Int.reduceToNat] at ho158; rw [← Ny267.out] at ho158)); have n0_ := Aside0.mk (Kd.R_elder' (by (with_reducible repeat (first | apply Kd.R_alloc | apply Kd.R_drewN | apply Kd.R_drew)); exact HO_235002.out) (Kd.R_base ho158) hb); have n1_ := Aside0.mk (Kd.R_elder' (by (with_reducible repeat (first | apply Kd.R_alloc | apply Kd.R_drewN | apply Kd.R_drew)); exact HO_245002.out) (Kd.R_base ho158) hb); have n2_ := Aside0.mk (Kd.R_lower (Kd.R_new' (Kd.R_new' ho158 (Kd.R_lt (by (with_reducible repeat (first | apply Kd.R_alloc | apply Kd.R_drewN | apply Kd.R_drew)); exact HO_235002.out))) (Kd.R_lt (by (with_reducible repeat (first | apply Kd.R_alloc | apply Kd.R_drewN | apply Kd.R_drew)); exact HO_245002.out))) (below_size (by repeat (first | (with_reducible first | exact HB.out | apply below_alloc | apply pw_below_drewN | apply below_drew1 | refine below_set ?_ GE234.out | refine below_set ?_ GE244.out) | exact HB.out)))); have n3_ := Aside0.mk (blk_below (g := gb234) (o := .cells #[.int .i64 t228, .int .i64 t229, .slice Ao53 t230.length co53] 27 (0, 0)) (by (with_reducible repeat (first | refine blk_drewN ?_ _ | refine blk_drew ?_ | refine blk_alloc ?_ _)); exact BK234.out) hb); have n4_ := Aside0.mk (blk_below (g := gb244) (o := .cells #[.int .i64 t238, .int .i64 t239, .slice Ao61 t240.length co61] 27 (0, 0)) (by (with_reducible repeat (first | refine blk_drewN ?_ _ | refine blk_drew ?_ | refine blk_alloc ?_ _)); exact BK244.out) hb); have n5_ := Aside0.mk (below_step (by repeat (first | (with_reducible first | exact HB.out | apply below_alloc | apply pw_below_drewN | apply below_drew1 | refine below_set ?_ GE234.out | refine below_set ?_ GE244.out) | exact HB.out)) hb); clear HO_235002; clear HO_245002; clear BK234; clear BK244; clear HB; have HO_235002 := n0_; have HO_245002 := n1_; have HO269 := n2_; have BK234 := n3_; have BK244 := n4_; have HB := n5_; clear n0_ n1_ n2_ n3_ n4_ n5_; clear hb ho158; obtain ⟨Ao159, co159, eo159⟩ := Kd.R_slice HO269.out; subst eo159) | (go_at_call 18; (with_reducible refine (armisticelaw05_some.calls 2 (fun k_ => some k_ = (.slice Ao159 y267.length co159 : Value).ownBlock) (.slice Ao159 y267.length co159) y267 t270 t271 t272 w _ ?side1 ?side2 A137.out).mono ?_); (case side1 => repeat (first | (with_reducible first | exact HB.out | apply below_alloc | apply pw_below_drewN | apply below_drew1 | refine below_set ?_ GE234.out | refine below_set ?_ GE244.out) | exact HB.out)); (case side2 => exact Kd.R_tight rfl HO269.out); rintro e w160 ⟨v273, rfl, ho0, hb, hkp⟩; have n0_ := Aside0.mk (Kd.R_mono (ok' := fun k_ => some k_ ≠ (.slice Ao61 t240.length co61 : Value).ownBlock ∧ some k_ ≠ (v273 : Value).ownBlock) (Kd.R_keptB (HO_235002.out) hkp (fun k_ hk_ hs_ => (hk_.2) hs_)) (fun k_ hk_ => ⟨hk_.1.1, fun e_ => Or.elim (ho0.1 k_ e_.symm) (fun hs_ => hk_.2.1 hs_) (fun hn_ => Nat.not_le.2 hk_.2.2 hn_)⟩)); have n1_ := Aside0.mk (Kd.R_mono (ok' := fun k_ => some k_ ≠ (.slice Ao53 t230.length co53 : Value).ownBlock ∧ some k_ ≠ (v273 : Value).ownBlock) (Kd.R_keptB (HO_245002.out) hkp (fun k_ hk_ hs_ => (hk_.2) hs_)) (fun k_ hk_ => ⟨hk_.1.1, fun e_ => Or.elim (ho0.1 k_ e_.symm) (fun hs_ => hk_.2.1 hs_) (fun hn_ => Nat.not_le.2 hk_.2.2 hn_)⟩)); have n2_ := Aside0.mk (blk_kept (by (with_reducible repeat (first | refine blk_drewN ?_ _ | refine blk_drew ?_ | refine blk_alloc ?_ _)); exact BK234.out) hkp (fun hs_ => (fun e_ => (Kd.R_ne HO269.out BK234.out (by decide)) e_) hs_)); have n3_ := Aside0.mk (blk_kept (by (with_reducible repeat (first | refine blk_drewN ?_ _ | refine blk_drew ?_ | refine blk_alloc ?_ _)); exact BK244.out) hkp (fun hs_ => (fun e_ => (Kd.R_ne HO269.out BK244.out (by decide)) e_) hs_)); have n4_ := Aside0.mk (Kd.R_mono (ok' := fun k_ => some k_ ≠ (.slice Ao53 t230.length co53 : Value).ownBlock ∧ some k_ ≠ (.slice Ao61 t240.length co61 : Value).ownBlock) ho0 (fun k_ hk_ => ⟨Or.elim hk_ (fun hs_ => fun e_ => (((HO_235002.out).1 k_ e_.symm).2) hs_) (fun hn_ => (Kd.fresh' (Kd.R_lt (by (with_reducible repeat (first | apply Kd.R_alloc | apply Kd.R_drewN | apply Kd.R_drew)); exact HO_235002.out)) k_ hn_)), Or.elim hk_ (fun hs_ => fun e_ => (((HO_245002.out).1 k_ e_.symm).2) hs_) (fun hn_ => (Kd.fresh' (Kd.R_lt (by (with_reducible repeat (first | apply Kd.R_alloc | apply Kd.R_drewN | apply Kd.R_drew)); exact HO_245002.out)) k_ hn_))⟩)); have n5_ := Aside0.mk (hb); clear HO_235002; clear HO_245002; clear BK234; clear BK244; clear HB; clear HO269; have HO_235002 := n0_; have HO_245002 := n1_; have BK234 := n2_; have BK244 := n3_; have HO274 := n4_; have HB := n5_; clear n0_ n1_ n2_ n3_ n4_ n5_; (try clear hb); (try clear hkp); (try clear ho0)) | ((with_reducible refine gate_dst (N := 65) rfl ?_); (try (refine gate_guard (by rfl) ?_; dsimp only)); refine Kd.R_lit (Kd.int .i64) _ 3 ?hg (N := 65) ?hd (xs := ([1] : List Int)) (inner := [.int .i64 1]) (ok := fun _ => True) (okp := fun _ => True) ?hr ?hp (fun _ hk => hk) trivial (Below.refl _ _) (Nat.le_refl _) (by simp) ?_; (case hd => rfl); (case hg => rfl); (case hr => first | (go_simp; done) | (go_simp; rfl)); (case hp => exact (Reps.one (show Kd.M (Kd.int .i64) _ _ _ 1 [.int .i64 1] from rfl) (Reps.none _ _))); intro v276 w161 ho162 hb hg_ hnew_; clear hg_ hnew_; (first | rw [← Ny275.out] at ho162 | (simp only [Int.reduceToNat] at ho162; rw [← Ny275.out] at ho162)); have n0_ := Aside0.mk (Kd.R_elder' (by (with_reducible repeat (first | apply Kd.R_alloc | apply Kd.R_drewN | apply Kd.R_drew)); exact HO_235002.out) (Kd.R_base ho162) hb); have n1_ := Aside0.mk (Kd.R_elder' (by (with_reducible repeat (first | apply Kd.R_alloc | apply Kd.R_drewN | apply Kd.R_drew)); exact HO_245002.out) (Kd.R_base ho162) hb); have n2_ := Aside0.mk (Kd.R_elder' (by (with_reducible repeat (first | apply Kd.R_alloc | apply Kd.R_drewN | apply Kd.R_drew)); exact HO274.out) (Kd.R_base ho162) hb); have n3_ := Aside0.mk (Kd.R_lower (Kd.R_new' (Kd.R_new' (Kd.R_new' ho162 (Kd.R_lt (by (with_reducible repeat (first | apply Kd.R_alloc | apply Kd.R_drewN | apply Kd.R_drew)); exact HO_235002.out))) (Kd.R_lt (by (with_reducible repeat (first | apply Kd.R_alloc | apply Kd.R_drewN | apply Kd.R_drew)); exact HO_245002.out))) (Kd.R_lt (by (with_reducible repeat (first | apply Kd.R_alloc | apply Kd.R_drewN | apply Kd.R_drew)); exact HO274.out))) (below_size (by repeat (first | (with_reducible first | exact HB.out | apply below_alloc | apply pw_below_drewN | apply below_drew1 | refine below_set ?_ GE234.out | refine below_set ?_ GE244.out) | exact HB.out)))); have n4_ := Aside0.mk (blk_below (g := gb234) (o := .cells #[.int .i64 t228, .int .i64 t229, .slice Ao53 t230.length co53] 27 (0, 0)) (by (with_reducible repeat (first | refine blk_drewN ?_ _ | refine blk_drew ?_ | refine blk_alloc ?_ _)); exact BK234.out) hb); have n5_ := Aside0.mk (blk_below (g := gb244) (o := .cells #[.int .i64 t238, .int .i64 t239, .slice Ao61 t240.length co61] 27 (0, 0)) (by (with_reducible repeat (first | refine blk_drewN ?_ _ | refine blk_drew ?_ | refine blk_alloc ?_ _)); exact BK244.out) hb); have n6_ := Aside0.mk (below_step (by repeat (first | (with_reducible first | exact HB.out | apply below_alloc | apply pw_below_drewN | apply below_drew1 | refine below_set ?_ GE234.out | refine below_set ?_ GE244.out) | exact HB.out)) hb); clear HO_235002; clear HO_245002; clear HO274; clear BK234; clear BK244; clear HB; have HO_235002 := n0_; have HO_245002 := n1_; have HO274 := n2_; have HO277 := n3_; have BK234 := n4_; have BK244 := n5_; have HB := n6_; clear n0_ n1_ n2_ n3_ n4_ n5_ n6_; clear hb ho162; obtain ⟨Ao163, co163, eo163⟩ := Kd.R_slice HO277.out; subst eo163) | (go_at_call 18; (with_reducible refine (armisticelaw05_some.calls 4 (fun k_ => some k_ = (.slice Ao163 y275.length co163 : Value).ownBlock) (.slice Ao163 y275.length co163) y275 t278 t279 t280 w _ ?side1 ?side2 A138.out).mono ?_); (case side1 => repeat (first | (with_reducible first | exact HB.out | apply below_alloc | apply pw_below_drewN | apply below_drew1 | refine below_set ?_ GE234.out | refine below_set ?_ GE244.out) | exact HB.out)); (case side2 => exact Kd.R_tight rfl HO277.out); rintro e w164 ⟨v281, rfl, ho0, hb, hkp⟩; have n0_ := Aside0.mk (Kd.R_mono (ok' := fun k_ => some k_ ≠ (.slice Ao61 t240.length co61 : Value).ownBlock ∧ some k_ ≠ (v273 : Value).ownBlock ∧ some k_ ≠ (v281 : Value).ownBlock) (Kd.R_keptB (HO_235002.out) hkp (fun k_ hk_ hs_ => (hk_.2) hs_)) (fun k_ hk_ => ⟨hk_.1.1.1, hk_.1.1.2, fun e_ => Or.elim (ho0.1 k_ e_.symm) (fun hs_ => hk_.2.1 hs_) (fun hn_ => Nat.not_le.2 hk_.2.2 hn_)⟩)); have n1_ := Aside0.mk (Kd.R_mono (ok' := fun k_ => some k_ ≠ (.slice Ao53 t230.length co53 : Value).ownBlock ∧ some k_ ≠ (v273 : Value).ownBlock ∧ some k_ ≠ (v281 : Value).ownBlock) (Kd.R_keptB (HO_245002.out) hkp (fun k_ hk_ hs_ => (hk_.2) hs_)) (fun k_ hk_ => ⟨hk_.1.1.1, hk_.1.1.2, fun e_ => Or.elim (ho0.1 k_ e_.symm) (fun hs_ => hk_.2.1 hs_) (fun hn_ => Nat.not_le.2 hk_.2.2 hn_)⟩)); have n2_ := Aside0.mk (blk_kept (by (with_reducible repeat (first | refine blk_drewN ?_ _ | refine blk_drew ?_ | refine blk_alloc ?_ _)); exact BK234.out) hkp (fun hs_ => (fun e_ => (Kd.R_ne HO277.out BK234.out (by decide)) e_) hs_)); have n3_ := Aside0.mk (blk_kept (by (with_reducible repeat (first | refine blk_drewN ?_ _ | refine blk_drew ?_ | refine blk_alloc ?_ _)); exact BK244.out) hkp (fun hs_ => (fun e_ => (Kd.R_ne HO277.out BK244.out (by decide)) e_) hs_)); have n4_ := Aside0.mk (Kd.R_mono (ok' := fun k_ => some k_ ≠ (.slice Ao53 t230.length co53 : Value).ownBlock ∧ some k_ ≠ (.slice Ao61 t240.length co61 : Value).ownBlock ∧ some k_ ≠ (v281 : Value).ownBlock) (Kd.R_keptB (HO274.out) hkp (fun k_ hk_ hs_ => (hk_.2) hs_)) (fun k_ hk_ => ⟨hk_.1.1.1, hk_.1.1.2, fun e_ => Or.elim (ho0.1 k_ e_.symm) (fun hs_ => hk_.2.1 hs_) (fun hn_ => Nat.not_le.2 hk_.2.2 hn_)⟩)); have n5_ := Aside0.mk (Kd.R_mono (ok' := fun k_ => some k_ ≠ (.slice Ao53 t230.length co53 : Value).ownBlock ∧ some k_ ≠ (.slice Ao61 t240.length co61 : Value).ownBlock ∧ some k_ ≠ (v273 : Value).ownBlock) ho0 (fun k_ hk_ => ⟨Or.elim hk_ (fun hs_ => fun e_ => (((HO_235002.out).1 k_ e_.symm).2) hs_) (fun hn_ => (Kd.fresh' (Kd.R_lt (by (with_reducible repeat (first | apply Kd.R_alloc | apply Kd.R_drewN | apply Kd.R_drew)); exact HO_235002.out)) k_ hn_)), Or.elim hk_ (fun hs_ => fun e_ => (((HO_245002.out).1 k_ e_.symm).2) hs_) (fun hn_ => (Kd.fresh' (Kd.R_lt (by (with_reducible repeat (first | apply Kd.R_alloc | apply Kd.R_drewN | apply Kd.R_drew)); exact HO_245002.out)) k_ hn_)), Or.elim hk_ (fun hs_ => fun e_ => (((HO274.out).1 k_ e_.symm).2) hs_) (fun hn_ => (Kd.fresh' (Kd.R_lt (by (with_reducible repeat (first | apply Kd.R_alloc | apply Kd.R_drewN | apply Kd.R_drew)); exact HO274.out)) k_ hn_))⟩)); have n6_ := Aside0.mk (hb); clear HO_235002; clear HO_245002; clear BK234; clear BK244; clear HO274; clear HB; clear HO277; have HO_235002 := n0_; have HO_245002 := n1_; have BK234 := n2_; have BK244 := n3_; have HO274 := n4_; have HO282 := n5_; have HB := n6_; clear n0_ n1_ n2_ n3_ n4_ n5_ n6_; (try clear hb); (try clear hkp); (try clear ho0); obtain ⟨Ao165, co165, eo165⟩ := Kd.R_slice HO274.out; subst eo165; obtain ⟨Ao166, co166, eo166⟩ := Kd.R_slice HO282.out; subst eo166) | (go_at_call 22; (with_reducible refine (state_Same.calls kj48 t270 t271 _ _ t272 t278 t279 _ _ t280 false _ ?side1 ?side2 ?side3 ?side4 A139.out).mono ?_); (case side1 => repeat (first | exact (Kd.R_reads' HO274.out).2.2 | (with_reducible refine Kd.C_alloc ?_ _) | (with_reducible refine Kd.C_drewN ?_ _) | (with_reducible refine Kd.C_drew ?_))); (case side2 => exact (Kd.R_reads' HO274.out).2.1); (case side3 => repeat (first | exact (Kd.R_reads' HO282.out).2.2 | (with_reducible refine Kd.C_alloc ?_ _) | (with_reducible refine Kd.C_drewN ?_ _) | (with_reducible refine Kd.C_drew ?_))); (case side4 => exact (Kd.R_reads' HO282.out).2.1); rintro e w167 ⟨rfl, hb⟩; have n0_ := Aside0.mk (Kd.R_below (by (with_reducible repeat (first | apply Kd.R_alloc | apply Kd.R_drewN | apply Kd.R_drew)); exact HO_235002.out) hb); have n1_ := Aside0.mk (Kd.R_below (by (with_reducible repeat (first | apply Kd.R_alloc | apply Kd.R_drewN | apply Kd.R_drew)); exact HO_245002.out) hb); have n2_ := Aside0.mk (Kd.R_below (by (with_reducible repeat (first | apply Kd.R_alloc | apply Kd.R_drewN | apply Kd.R_drew)); exact HO274.out) hb); have n3_ := Aside0.mk (Kd.R_below (by (with_reducible repeat (first | apply Kd.R_alloc | apply Kd.R_drewN | apply Kd.R_drew)); exact HO282.out) hb); have n4_ := Aside0.mk (blk_below (g := gb234) (o := .cells #[.int .i64 t228, .int .i64 t229, .slice Ao53 t230.length co53] 27 (0, 0)) (by (with_reducible repeat (first | refine blk_drewN ?_ _ | refine blk_drew ?_ | refine blk_alloc ?_ _)); exact BK234.out) hb); have n5_ := Aside0.mk (blk_below (g := gb244) (o := .cells #[.int .i64 t238, .int .i64 t239, .slice Ao61 t240.length co61] 27 (0, 0)) (by (with_reducible repeat (first | refine blk_drewN ?_ _ | refine blk_drew ?_ | refine blk_alloc ?_ _)); exact BK244.out) hb); have n6_ := Aside0.mk (below_step (by repeat (first | (with_reducible first | exact HB.out | apply below_alloc | apply pw_below_drewN | apply below_drew1 | refine below_set ?_ GE234.out | refine below_set ?_ GE244.out) | exact HB.out)) hb); clear HO_235002; clear HO_245002; clear HO274; clear HO282; clear BK234; clear BK244; clear HB; have HO_235002 := n0_; have HO_245002 := n1_; have HO274 := n2_; have HO282 := n3_; have BK234 := n4_; have BK244 := n5_; have HB := n6_; clear n0_ n1_ n2_ n3_ n4_ n5_ n6_; (try clear hb); (try clear hb2); (try clear hk); (try clear hi)) | ((with_reducible refine gate_dst (N := 71) rfl ?_); (try (refine gate_guard (by rfl) ?_; dsimp only)); refine Kd.R_lit (Kd.int .i64) _ 3 ?hg (N := 71) ?hd (xs := ([1] : List Int)) (inner := [.int .i64 1]) (ok := fun _ => True) (okp := fun _ => True) ?hr ?hp (fun _ hk => hk) trivial (Below.refl _ _) (Nat.le_refl _) (by simp) ?_; (case hd => rfl); (case hg => rfl); (case hr => first | (go_simp; done) | (go_simp; rfl)); (case hp => exact (Reps.one (show Kd.M (Kd.int .i64) _ _ _ 1 [.int .i64 1] from rfl) (Reps.none _ _))); intro v285 w168 ho169 hb hg_ hnew_; clear hg_ hnew_; (first | rw [← Ny284.out] at ho169 | (simp only [Int.reduceToNat] at ho169; rw [← Ny284.out] at ho169)); have n0_ := Aside0.mk (Kd.R_elder' (by (with_reducible repeat (first | apply Kd.R_alloc | apply Kd.R_drewN | apply Kd.R_drew)); exact HO_235002.out) (Kd.R_base ho169) hb); have n1_ := Aside0.mk (Kd.R_elder' (by (with_reducible repeat (first | apply Kd.R_alloc | apply Kd.R_drewN | apply Kd.R_drew)); exact HO_245002.out) (Kd.R_base ho169) hb); have n2_ := Aside0.mk (Kd.R_elder' (by (with_reducible repeat (first | apply Kd.R_alloc | apply Kd.R_drewN | apply Kd.R_drew)); exact HO274.out) (Kd.R_base ho169) hb); have n3_ := Aside0.mk (Kd.R_elder' (by (with_reducible repeat (first | apply Kd.R_alloc | apply Kd.R_drewN | apply Kd.R_drew)); exact HO282.out) (Kd.R_base ho169) hb); have n4_ := Aside0.mk (Kd.R_lower (Kd.R_new' (Kd.R_new' (Kd.R_new' (Kd.R_new' ho169 (Kd.R_lt (by (with_reducible repeat (first | apply Kd.R_alloc | apply Kd.R_drewN | apply Kd.R_drew)); exact HO_235002.out))) (Kd.R_lt (by (with_reducible repeat (first | apply Kd.R_alloc | apply Kd.R_drewN | apply Kd.R_drew)); exact HO_245002.out))) (Kd.R_lt (by (with_reducible repeat (first | apply Kd.R_alloc | apply Kd.R_drewN | apply Kd.R_drew)); exact HO274.out))) (Kd.R_lt (by (with_reducible repeat (first | apply Kd.R_alloc | apply Kd.R_drewN | apply Kd.R_drew)); exact HO282.out))) (below_size (by repeat (first | (with_reducible first | exact HB.out | apply below_alloc | apply pw_below_drewN | apply below_drew1 | refine below_set ?_ GE234.out | refine below_set ?_ GE244.out) | exact HB.out)))); have n5_ := Aside0.mk (blk_below (g := gb234) (o := .cells #[.int .i64 t228, .int .i64 t229, .slice Ao53 t230.length co53] 27 (0, 0)) (by (with_reducible repeat (first | refine blk_drewN ?_ _ | refine blk_drew ?_ | refine blk_alloc ?_ _)); exact BK234.out) hb); have n6_ := Aside0.mk (blk_below (g := gb244) (o := .cells #[.int .i64 t238, .int .i64 t239, .slice Ao61 t240.length co61] 27 (0, 0)) (by (with_reducible repeat (first | refine blk_drewN ?_ _ | refine blk_drew ?_ | refine blk_alloc ?_ _)); exact BK244.out) hb); have n7_ := Aside0.mk (below_step (by repeat (first | (with_reducible first | exact HB.out | apply below_alloc | apply pw_below_drewN | apply below_drew1 | refine below_set ?_ GE234.out | refine below_set ?_ GE244.out) | exact HB.out)) hb); clear HO_235002; clear HO_245002; clear HO274; clear HO282; clear BK234; clear BK244; clear HB; have HO_235002 := n0_; have HO_245002 := n1_; have HO274 := n2_; have HO282 := n3_; have HO286 := n4_; have BK234 := n5_; have BK244 := n6_; have HB := n7_; clear n0_ n1_ n2_ n3_ n4_ n5_ n6_ n7_; clear hb ho169; obtain ⟨Ao170, co170, eo170⟩ := Kd.R_slice HO286.out; subst eo170) | (go_at_call 18; (with_reducible refine (armisticelaw05_some.calls 2 (fun k_ => some k_ = (.slice Ao170 y284.length co170 : Value).ownBlock) (.slice Ao170 y284.length co170) y284 t287 t288 t289 w _ ?side1 ?side2 A153.out).mono ?_); (case side1 => repeat (first | (with_reducible first | exact HB.out | apply below_alloc | apply pw_below_drewN | apply below_drew1 | refine below_set ?_ GE234.out | refine below_set ?_ GE244.out) | exact HB.out)); (case side2 => exact Kd.R_tight rfl HO286.out); rintro e w171 ⟨v290, rfl, ho0, hb, hkp⟩; have n0_ := Aside0.mk (Kd.R_mono (ok' := fun k_ => some k_ ≠ (.slice Ao61 t240.length co61 : Value).ownBlock ∧ some k_ ≠ (.slice Ao165 t272.length co165 : Value).ownBlock ∧ some k_ ≠ (.slice Ao166 t280.length co166 : Value).ownBlock ∧ some k_ ≠ (v290 : Value).ownBlock) (Kd.R_keptB (HO_235002.out) hkp (fun k_ hk_ hs_ => (hk_.2) hs_)) (fun k_ hk_ => ⟨hk_.1.1.1, hk_.1.1.2.1, hk_.1.1.2.2, fun e_ => Or.elim (ho0.1 k_ e_.symm) (fun hs_ => hk_.2.1 hs_) (fun hn_ => Nat.not_le.2 hk_.2.2 hn_)⟩)); have n1_ := Aside0.mk (Kd.R_mono (ok' := fun k_ => some k_ ≠ (.slice Ao53 t230.length co53 : Value).ownBlock ∧ some k_ ≠ (.slice Ao165 t272.length co165 : Value).ownBlock ∧ some k_ ≠ (.slice Ao166 t280.length co166 : Value).ownBlock ∧ some k_ ≠ (v290 : Value).ownBlock) (Kd.R_keptB (HO_245002.out) hkp (fun k_ hk_ hs_ => (hk_.2) hs_)) (fun k_ hk_ => ⟨hk_.1.1.1, hk_.1.1.2.1, hk_.1.1.2.2, fun e_ => Or.elim (ho0.1 k_ e_.symm) (fun hs_ => hk_.2.1 hs_) (fun hn_ => Nat.not_le.2 hk_.2.2 hn_)⟩)); have n2_ := Aside0.mk (blk_kept (by (with_reducible repeat (first | refine blk_drewN ?_ _ | refine blk_drew ?_ | refine blk_alloc ?_ _)); exact BK234.out) hkp (fun hs_ => (fun e_ => (Kd.R_ne HO286.out BK234.out (by decide)) e_) hs_)); have n3_ := Aside0.mk (blk_kept (by (with_reducible repeat (first | refine blk_drewN ?_ _ | refine blk_drew ?_ | refine blk_alloc ?_ _)); exact BK244.out) hkp (fun hs_ => (fun e_ => (Kd.R_ne HO286.out BK244.out (by decide)) e_) hs_)); have n4_ := Aside0.mk (Kd.R_mono (ok' := fun k_ => some k_ ≠ (.slice Ao53 t230.length co53 : Value).ownBlock ∧ some k_ ≠ (.slice Ao61 t240.length co61 : Value).ownBlock ∧ some k_ ≠ (.slice Ao166 t280.length co166 : Value).ownBlock ∧ some k_ ≠ (v290 : Value).ownBlock) (Kd.R_keptB (HO274.out) hkp (fun k_ hk_ hs_ => (hk_.2) hs_)) (fun k_ hk_ => ⟨hk_.1.1.1, hk_.1.1.2.1, hk_.1.1.2.2, fun e_ => Or.elim (ho0.1 k_ e_.symm) (fun hs_ => hk_.2.1 hs_) (fun hn_ => Nat.not_le.2 hk_.2.2 hn_)⟩)); have n5_ := Aside0.mk (Kd.R_mono (ok' := fun k_ => some k_ ≠ (.slice Ao53 t230.length co53 : Value).ownBlock ∧ some k_ ≠ (.slice Ao61 t240.length co61 : Value).ownBlock ∧ some k_ ≠ (.slice Ao165 t272.length co165 : Value).ownBlock ∧ some k_ ≠ (v290 : Value).ownBlock) (Kd.R_keptB (HO282.out) hkp (fun k_ hk_ hs_ => (hk_.2) hs_)) (fun k_ hk_ => ⟨hk_.1.1.1, hk_.1.1.2.1, hk_.1.1.2.2, fun e_ => Or.elim (ho0.1 k_ e_.symm) (fun hs_ => hk_.2.1 hs_) (fun hn_ => Nat.not_le.2 hk_.2.2 hn_)⟩)); have n6_ := Aside0.mk (Kd.R_mono (ok' := fun k_ => some k_ ≠ (.slice Ao53 t230.length co53 : Value).ownBlock ∧ some k_ ≠ (.slice Ao61 t240.length co61 : Value).ownBlock ∧ some k_ ≠ (.slice Ao165 t272.length co165 : Value).ownBlock ∧ some k_ ≠ (.slice Ao166 t280.length co166 : Value).ownBlock) ho0 (fun k_ hk_ => ⟨Or.elim hk_ (fun hs_ => fun e_ => (((HO_235002.out).1 k_ e_.symm).2) hs_) (fun hn_ => (Kd.fresh' (Kd.R_lt (by (with_reducible repeat (first | apply Kd.R_alloc | apply Kd.R_drewN | apply Kd.R_drew)); exact HO_235002.out)) k_ hn_)), Or.elim hk_ (fun hs_ => fun e_ => (((HO_245002.out).1 k_ e_.symm).2) hs_) (fun hn_ => (Kd.fresh' (Kd.R_lt (by (with_reducible repeat (first | apply Kd.R_alloc | apply Kd.R_drewN | apply Kd.R_drew)); exact HO_245002.out)) k_ hn_)), Or.elim hk_ (fun hs_ => fun e_ => (((HO274.out).1 k_ e_.symm).2) hs_) (fun hn_ => (Kd.fresh' (Kd.R_lt (by (with_reducible repeat (first | apply Kd.R_alloc | apply Kd.R_drewN | apply Kd.R_drew)); exact HO274.out)) k_ hn_)), Or.elim hk_ (fun hs_ => fun e_ => (((HO282.out).1 k_ e_.symm).2) hs_) (fun hn_ => (Kd.fresh' (Kd.R_lt (by (with_reducible repeat (first | apply Kd.R_alloc | apply Kd.R_drewN | apply Kd.R_drew)); exact HO282.out)) k_ hn_))⟩)); have n7_ := Aside0.mk (hb); clear HO_235002; clear HO_245002; clear BK234; clear BK244; clear HO274; clear HO282; clear HB; clear HO286; have HO_235002 := n0_; have HO_245002 := n1_; have BK234 := n2_; have BK244 := n3_; have HO274 := n4_; have HO282 := n5_; have HO291 := n6_; have HB := n7_; clear n0_ n1_ n2_ n3_ n4_ n5_ n6_ n7_; (try clear hb); (try clear hkp); (try clear ho0)) | ((with_reducible refine gate_dst (N := 73) rfl ?_); (try (refine gate_guard (by rfl) ?_; dsimp only)); refine Kd.R_lit (Kd.int .i64) _ 3 ?hg (N := 73) ?hd (xs := ([1] : List Int)) (inner := [.int .i64 1]) (ok := fun _ => True) (okp := fun _ => True) ?hr ?hp (fun _ hk => hk) trivial (Below.refl _ _) (Nat.le_refl _) (by simp) ?_; (case hd => rfl); (case hg => rfl); (case hr => first | (go_simp; done) | (go_simp; rfl)); (case hp => exact (Reps.one (show Kd.M (Kd.int .i64) _ _ _ 1 [.int .i64 1] from rfl) (Reps.none _ _))); intro v293 w172 ho173 hb hg_ hnew_; clear hg_ hnew_; (first | rw [← Ny292.out] at ho173 | (simp only [Int.reduceToNat] at ho173; rw [← Ny292.out] at ho173)); have n0_ := Aside0.mk (Kd.R_elder' (by (with_reducible repeat (first | apply Kd.R_alloc | apply Kd.R_drewN | apply Kd.R_drew)); exact HO_235002.out) (Kd.R_base ho173) hb); have n1_ := Aside0.mk (Kd.R_elder' (by (with_reducible repeat (first | apply Kd.R_alloc | apply Kd.R_drewN | apply Kd.R_drew)); exact HO_245002.out) (Kd.R_base ho173) hb); have n2_ := Aside0.mk (Kd.R_elder' (by (with_reducible repeat (first | apply Kd.R_alloc | apply Kd.R_drewN | apply Kd.R_drew)); exact HO274.out) (Kd.R_base ho173) hb); have n3_ := Aside0.mk (Kd.R_elder' (by (with_reducible repeat (first | apply Kd.R_alloc | apply Kd.R_drewN | apply Kd.R_drew)); exact HO282.out) (Kd.R_base ho173) hb); have n4_ := Aside0.mk (Kd.R_elder' (by (with_reducible repeat (first | apply Kd.R_alloc | apply Kd.R_drewN | apply Kd.R_drew)); exact HO291.out) (Kd.R_base ho173) hb); have n5_ := Aside0.mk (Kd.R_lower (Kd.R_new' (Kd.R_new' (Kd.R_new' (Kd.R_new' (Kd.R_new' ho173 (Kd.R_lt (by (with_reducible repeat (first | apply Kd.R_alloc | apply Kd.R_drewN | apply Kd.R_drew)); exact HO_235002.out))) (Kd.R_lt (by (with_reducible repeat (first | apply Kd.R_alloc | apply Kd.R_drewN | apply Kd.R_drew)); exact HO_245002.out))) (Kd.R_lt (by (with_reducible repeat (first | apply Kd.R_alloc | apply Kd.R_drewN | apply Kd.R_drew)); exact HO274.out))) (Kd.R_lt (by (with_reducible repeat (first | apply Kd.R_alloc | apply Kd.R_drewN | apply Kd.R_drew)); exact HO282.out))) (Kd.R_lt (by (with_reducible repeat (first | apply Kd.R_alloc | apply Kd.R_drewN | apply Kd.R_drew)); exact HO291.out))) (below_size (by repeat (first | (with_reducible first | exact HB.out | apply below_alloc | apply pw_below_drewN | apply below_drew1 | refine below_set ?_ GE234.out | refine below_set ?_ GE244.out) | exact HB.out)))); have n6_ := Aside0.mk (blk_below (g := gb234) (o := .cells #[.int .i64 t228, .int .i64 t229, .slice Ao53 t230.length co53] 27 (0, 0)) (by (with_reducible repeat (first | refine blk_drewN ?_ _ | refine blk_drew ?_ | refine blk_alloc ?_ _)); exact BK234.out) hb); have n7_ := Aside0.mk (blk_below (g := gb244) (o := .cells #[.int .i64 t238, .int .i64 t239, .slice Ao61 t240.length co61] 27 (0, 0)) (by (with_reducible repeat (first | refine blk_drewN ?_ _ | refine blk_drew ?_ | refine blk_alloc ?_ _)); exact BK244.out) hb); have n8_ := Aside0.mk (below_step (by repeat (first | (with_reducible first | exact HB.out | apply below_alloc | apply pw_below_drewN | apply below_drew1 | refine below_set ?_ GE234.out | refine below_set ?_ GE244.out) | exact HB.out)) hb); clear HO_235002; clear HO_245002; clear HO274; clear HO282; clear HO291; clear BK234; clear BK244; clear HB; have HO_235002 := n0_; have HO_245002 := n1_; have HO274 := n2_; have HO282 := n3_; have HO291 := n4_; have HO294 := n5_; have BK234 := n6_; have BK244 := n7_; have HB := n8_; clear n0_ n1_ n2_ n3_ n4_ n5_ n6_ n7_ n8_; clear hb ho173; obtain ⟨Ao174, co174, eo174⟩ := Kd.R_slice HO294.out; subst eo174) | (go_at_call 18; (with_reducible refine (armisticelaw05_some.calls 2 (fun k_ => some k_ = (.slice Ao174 y292.length co174 : Value).ownBlock) (.slice Ao174 y292.length co174) y292 t295 t296 t297 w _ ?side1 ?side2 A154.out).mono ?_); (case side1 => repeat (first | (with_reducible first | exact HB.out | apply below_alloc | apply pw_below_drewN | apply below_drew1 | refine below_set ?_ GE234.out | refine below_set ?_ GE244.out) | exact HB.out)); (case side2 => exact Kd.R_tight rfl HO294.out); rintro e w175 ⟨v298, rfl, ho0, hb, hkp⟩; have n0_ := Aside0.mk (Kd.R_mono (ok' := fun k_ => some k_ ≠ (.slice Ao61 t240.length co61 : Value).ownBlock ∧ some k_ ≠ (.slice Ao165 t272.length co165 : Value).ownBlock ∧ some k_ ≠ (.slice Ao166 t280.length co166 : Value).ownBlock ∧ some k_ ≠ (v290 : Value).ownBlock ∧ some k_ ≠ (v298 : Value).ownBlock) (Kd.R_keptB (HO_235002.out) hkp (fun k_ hk_ hs_ => (hk_.2) hs_)) (fun k_ hk_ => ⟨hk_.1.1.1, hk_.1.1.2.1, hk_.1.1.2.2.1, hk_.1.1.2.2.2, fun e_ => Or.elim (ho0.1 k_ e_.symm) (fun hs_ => hk_.2.1 hs_) (fun hn_ => Nat.not_le.2 hk_.2.2 hn_)⟩)); have n1_ := Aside0.mk (Kd.R_mono (ok' := fun k_ => some k_ ≠ (.slice Ao53 t230.length co53 : Value).ownBlock ∧ some k_ ≠ (.slice Ao165 t272.length co165 : Value).ownBlock ∧ some k_ ≠ (.slice Ao166 t280.length co166 : Value).ownBlock ∧ some k_ ≠ (v290 : Value).ownBlock ∧ some k_ ≠ (v298 : Value).ownBlock) (Kd.R_keptB (HO_245002.out) hkp (fun k_ hk_ hs_ => (hk_.2) hs_)) (fun k_ hk_ => ⟨hk_.1.1.1, hk_.1.1.2.1, hk_.1.1.2.2.1, hk_.1.1.2.2.2, fun e_ => Or.elim (ho0.1 k_ e_.symm) (fun hs_ => hk_.2.1 hs_) (fun hn_ => Nat.not_le.2 hk_.2.2 hn_)⟩)); have n2_ := Aside0.mk (blk_kept (by (with_reducible repeat (first | refine blk_drewN ?_ _ | refine blk_drew ?_ | refine blk_alloc ?_ _)); exact BK234.out) hkp (fun hs_ => (fun e_ => (Kd.R_ne HO294.out BK234.out (by decide)) e_) hs_)); have n3_ := Aside0.mk (blk_kept (by (with_reducible repeat (first | refine blk_drewN ?_ _ | refine blk_drew ?_ | refine blk_alloc ?_ _)); exact BK244.out) hkp (fun hs_ => (fun e_ => (Kd.R_ne HO294.out BK244.out (by decide)) e_) hs_)); have n4_ := Aside0.mk (Kd.R_mono (ok' := fun k_ => some k_ ≠ (.slice Ao53 t230.length co53 : Value).ownBlock ∧ some k_ ≠ (.slice Ao61 t240.length co61 : Value).ownBlock ∧ some k_ ≠ (.slice Ao166 t280.length co166 : Value).ownBlock ∧ some k_ ≠ (v290 : Value).ownBlock ∧ some k_ ≠ (v298 : Value).ownBlock) (Kd.R_keptB (HO274.out) hkp (fun k_ hk_ hs_ => (hk_.2) hs_)) (fun k_ hk_ => ⟨hk_.1.1.1, hk_.1.1.2.1, hk_.1.1.2.2.1, hk_.1.1.2.2.2, fun e_ => Or.elim (ho0.1 k_ e_.symm) (fun hs_ => hk_.2.1 hs_) (fun hn_ => Nat.not_le.2 hk_.2.2 hn_)⟩)); have n5_ := Aside0.mk (Kd.R_mono (ok' := fun k_ => some k_ ≠ (.slice Ao53 t230.length co53 : Value).ownBlock ∧ some k_ ≠ (.slice Ao61 t240.length co61 : Value).ownBlock ∧ some k_ ≠ (.slice Ao165 t272.length co165 : Value).ownBlock ∧ some k_ ≠ (v290 : Value).ownBlock ∧ some k_ ≠ (v298 : Value).ownBlock) (Kd.R_keptB (HO282.out) hkp (fun k_ hk_ hs_ => (hk_.2) hs_)) (fun k_ hk_ => ⟨hk_.1.1.1, hk_.1.1.2.1, hk_.1.1.2.2.1, hk_.1.1.2.2.2, fun e_ => Or.elim (ho0.1 k_ e_.symm) (fun hs_ => hk_.2.1 hs_) (fun hn_ => Nat.not_le.2 hk_.2.2 hn_)⟩)); have n6_ := Aside0.mk (Kd.R_mono (ok' := fun k_ => some k_ ≠ (.slice Ao53 t230.length co53 : Value).ownBlock ∧ some k_ ≠ (.slice Ao61 t240.length co61 : Value).ownBlock ∧ some k_ ≠ (.slice Ao165 t272.length co165 : Value).ownBlock ∧ some k_ ≠ (.slice Ao166 t280.length co166 : Value).ownBlock ∧ some k_ ≠ (v298 : Value).ownBlock) (Kd.R_keptB (HO291.out) hkp (fun k_ hk_ hs_ => (hk_.2) hs_)) (fun k_ hk_ => ⟨hk_.1.1.1, hk_.1.1.2.1, hk_.1.1.2.2.1, hk_.1.1.2.2.2, fun e_ => Or.elim (ho0.1 k_ e_.symm) (fun hs_ => hk_.2.1 hs_) (fun hn_ => Nat.not_le.2 hk_.2.2 hn_)⟩)); have n7_ := Aside0.mk (Kd.R_mono (ok' := fun k_ => some k_ ≠ (.slice Ao53 t230.length co53 : Value).ownBlock ∧ some k_ ≠ (.slice Ao61 t240.length co61 : Value).ownBlock ∧ some k_ ≠ (.slice Ao165 t272.length co165 : Value).ownBlock ∧ some k_ ≠ (.slice Ao166 t280.length co166 : Value).ownBlock ∧ some k_ ≠ (v290 : Value).ownBlock) ho0 (fun k_ hk_ => ⟨Or.elim hk_ (fun hs_ => fun e_ => (((HO_235002.out).1 k_ e_.symm).2) hs_) (fun hn_ => (Kd.fresh' (Kd.R_lt (by (with_reducible repeat (first | apply Kd.R_alloc | apply Kd.R_drewN | apply Kd.R_drew)); exact HO_235002.out)) k_ hn_)), Or.elim hk_ (fun hs_ => fun e_ => (((HO_245002.out).1 k_ e_.symm).2) hs_) (fun hn_ => (Kd.fresh' (Kd.R_lt (by (with_reducible repeat (first | apply Kd.R_alloc | apply Kd.R_drewN | apply Kd.R_drew)); exact HO_245002.out)) k_ hn_)), Or.elim hk_ (fun hs_ => fun e_ => (((HO274.out).1 k_ e_.symm).2) hs_) (fun hn_ => (Kd.fresh' (Kd.R_lt (by (with_reducible repeat (first | apply Kd.R_alloc | apply Kd.R_drewN | apply Kd.R_drew)); exact HO274.out)) k_ hn_)), Or.elim hk_ (fun hs_ => fun e_ => (((HO282.out).1 k_ e_.symm).2) hs_) (fun hn_ => (Kd.fresh' (Kd.R_lt (by (with_reducible repeat (first | apply Kd.R_alloc | apply Kd.R_drewN | apply Kd.R_drew)); exact HO282.out)) k_ hn_)), Or.elim hk_ (fun hs_ => fun e_ => (((HO291.out).1 k_ e_.symm).2) hs_) (fun hn_ => (Kd.fresh' (Kd.R_lt (by (with_reducible repeat (first | apply Kd.R_alloc | apply Kd.R_drewN | apply Kd.R_drew)); exact HO291.out)) k_ hn_))⟩)); have n8_ := Aside0.mk (hb); clear HO_235002; clear HO_245002; clear BK234; clear BK244; clear HO274; clear HO282; clear HO291; clear HB; clear HO294; have HO_235002 := n0_; have HO_245002 := n1_; have BK234 := n2_; have BK244 := n3_; have HO274 := n4_; have HO282 := n5_; have HO291 := n6_; have HO299 := n7_; have HB := n8_; clear n0_ n1_ n2_ n3_ n4_ n5_ n6_ n7_ n8_; (try clear hb); (try clear hkp); (try clear ho0); obtain ⟨Ao176, co176, eo176⟩ := Kd.R_slice HO291.out; subst eo176; obtain ⟨Ao177, co177, eo177⟩ := Kd.R_slice HO299.out; subst eo177) | (go_at_call 22; (with_reducible refine (state_Same.calls kj48 t287 t288 _ _ t289 t295 t296 _ _ t297 t300 _ ?side1 ?side2 ?side3 ?side4 A155.out).mono ?_); (case side1 => repeat (first | exact (Kd.R_reads' HO291.out).2.2 | (with_reducible refine Kd.C_alloc ?_ _) | (with_reducible refine Kd.C_drewN ?_ _) | (with_reducible refine Kd.C_drew ?_))); (case side2 => exact (Kd.R_reads' HO291.out).2.1); (case side3 => repeat (first | exact (Kd.R_reads' HO299.out).2.2 | (with_reducible refine Kd.C_alloc ?_ _) | (with_reducible refine Kd.C_drewN ?_ _) | (with_reducible refine Kd.C_drew ?_))); (case side4 => exact (Kd.R_reads' HO299.out).2.1); rintro e w178 ⟨rfl, hb⟩; have n0_ := Aside0.mk (Kd.R_below (by (with_reducible repeat (first | apply Kd.R_alloc | apply Kd.R_drewN | apply Kd.R_drew)); exact HO_235002.out) hb); have n1_ := Aside0.mk (Kd.R_below (by (with_reducible repeat (first | apply Kd.R_alloc | apply Kd.R_drewN | apply Kd.R_drew)); exact HO_245002.out) hb); have n2_ := Aside0.mk (Kd.R_below (by (with_reducible repeat (first | apply Kd.R_alloc | apply Kd.R_drewN | apply Kd.R_drew)); exact HO274.out) hb); have n3_ := Aside0.mk (Kd.R_below (by (with_reducible repeat (first | apply Kd.R_alloc | apply Kd.R_drewN | apply Kd.R_drew)); exact HO282.out) hb); have n4_ := Aside0.mk (Kd.R_below (by (with_reducible repeat (first | apply Kd.R_alloc | apply Kd.R_drewN | apply Kd.R_drew)); exact HO291.out) hb); have n5_ := Aside0.mk (Kd.R_below (by (with_reducible repeat (first | apply Kd.R_alloc | apply Kd.R_drewN | apply Kd.R_drew)); exact HO299.out) hb); have n6_ := Aside0.mk (blk_below (g := gb234) (o := .cells #[.int .i64 t228, .int .i64 t229, .slice Ao53 t230.length co53] 27 (0, 0)) (by (with_reducible repeat (first | refine blk_drewN ?_ _ | refine blk_drew ?_ | refine blk_alloc ?_ _)); exact BK234.out) hb); have n7_ := Aside0.mk (blk_below (g := gb244) (o := .cells #[.int .i64 t238, .int .i64 t239, .slice Ao61 t240.length co61] 27 (0, 0)) (by (with_reducible repeat (first | refine blk_drewN ?_ _ | refine blk_drew ?_ | refine blk_alloc ?_ _)); exact BK244.out) hb); have n8_ := Aside0.mk (below_step (by repeat (first | (with_reducible first | exact HB.out | apply below_alloc | apply pw_below_drewN | apply below_drew1 | refine below_set ?_ GE234.out | refine below_set ?_ GE244.out) | exact HB.out)) hb); clear HO_235002; clear HO_245002; clear HO274; clear HO282; clear HO291; clear HO299; clear BK234; clear BK244; clear HB; have HO_235002 := n0_; have HO_245002 := n1_; have HO274 := n2_; have HO282 := n3_; have HO291 := n4_; have HO299 := n5_; have BK234 := n6_; have BK244 := n7_; have HB := n8_; clear n0_ n1_ n2_ n3_ n4_ n5_ n6_ n7_ n8_; (try clear hb); (try clear hb2); (try clear hk); (try clear hi)))
                  go_ret
                  exact ⟨by first | rfl | (simp [errW_none, errW_some] <;> rfl) | (simp [*, errW_none, errW_some] <;> rfl), by repeat (first | (with_reducible first | exact HB.out | apply below_alloc | apply pw_below_drewN | apply below_drew1 | refine below_set ?_ GE234.out | refine below_set ?_ GE244.out) | exact HB.out)⟩
              · replace c136 := Bool.eq_false_iff.mpr c136
                subst c136
                have H1 : (some false) = some r := by rw [if_neg (show ¬ (false = true) by decide)] at H; exact H
                clear H
                have H := H1
                clear H1
                obtain rfl := Option.some.inj H
                go_wp2_with (first | ((with_reducible refine gate_callee (f := 8) rfl ?_); refine goesL_ (some 55) rfl rfl Tryd.func8 (by kernel_rfl) rfl #[] rfl (by (try simp only [List.map_toArray, List.map_cons, List.map_nil]); first | done | rfl | (simp only [List.length_drop, List.length_take]; rfl)) ?_; (with_reducible refine (armisticelaw05_awake.calls kj48  true _ ?side1 A133.out).mono ?_); (case side1 => exact GOk.below HG.out (by repeat (first | (with_reducible first | exact HB.out | apply below_alloc | apply pw_below_drewN | apply below_drew1 | refine below_set ?_ GE234.out | refine below_set ?_ GE244.out) | exact HB.out))); rintro e w179 ⟨rfl, hb⟩; refine ⟨_, rfl, ?_⟩; have n0_ := Aside0.mk (Kd.R_below (by (with_reducible repeat (first | apply Kd.R_alloc | apply Kd.R_drewN | apply Kd.R_drew)); exact HO_235002.out) hb); have n1_ := Aside0.mk (Kd.R_below (by (with_reducible repeat (first | apply Kd.R_alloc | apply Kd.R_drewN | apply Kd.R_drew)); exact HO_245002.out) hb); have n2_ := Aside0.mk (blk_below (g := gb234) (o := .cells #[.int .i64 t228, .int .i64 t229, .slice Ao53 t230.length co53] 27 (0, 0)) (by (with_reducible repeat (first | refine blk_drewN ?_ _ | refine blk_drew ?_ | refine blk_alloc ?_ _)); exact BK234.out) hb); have n3_ := Aside0.mk (blk_below (g := gb244) (o := .cells #[.int .i64 t238, .int .i64 t239, .slice Ao61 t240.length co61] 27 (0, 0)) (by (with_reducible repeat (first | refine blk_drewN ?_ _ | refine blk_drew ?_ | refine blk_alloc ?_ _)); exact BK244.out) hb); have n4_ := Aside0.mk (below_step (by repeat (first | (with_reducible first | exact HB.out | apply below_alloc | apply pw_below_drewN | apply below_drew1 | refine below_set ?_ GE234.out | refine below_set ?_ GE244.out) | exact HB.out)) hb); clear HO_235002; clear HO_245002; clear BK234; clear BK244; clear HB; have HO_235002 := n0_; have HO_245002 := n1_; have BK234 := n2_; have BK244 := n3_; have HB := n4_; clear n0_ n1_ n2_ n3_ n4_; (try clear hb); (try clear hb2); (try clear hk); (try clear hi)))
                go_ret
                exact ⟨by first | rfl | (simp [errW_none, errW_some] <;> rfl) | (simp [*, errW_none, errW_some] <;> rfl), by repeat (first | (with_reducible first | exact HB.out | apply below_alloc | apply pw_below_drewN | apply below_drew1 | refine below_set ?_ GE234.out | refine below_set ?_ GE244.out) | exact HB.out)⟩
            · replace c135 := Bool.eq_false_iff.mpr c135
              subst c135
              have H1 : (some false) = some r := by rw [if_neg (show ¬ (false = true) by decide)] at H; exact H
              clear H
              have H := H1
              clear H1
              obtain rfl := Option.some.inj H
              go_wp2_with (first | ((with_reducible refine gate_callee (f := 8) rfl ?_); refine goesL_ (some 55) rfl rfl Tryd.func8 (by kernel_rfl) rfl #[] rfl (by (try simp only [List.map_toArray, List.map_cons, List.map_nil]); first | done | rfl | (simp only [List.length_drop, List.length_take]; rfl)) ?_; (with_reducible refine (armisticelaw05_awake.calls kj48  true _ ?side1 A133.out).mono ?_); (case side1 => exact GOk.below HG.out (by repeat (first | (with_reducible first | exact HB.out | apply below_alloc | apply pw_below_drewN | apply below_drew1 | refine below_set ?_ GE234.out | refine below_set ?_ GE244.out) | exact HB.out))); rintro e w180 ⟨rfl, hb⟩; refine ⟨_, rfl, ?_⟩; have n0_ := Aside0.mk (Kd.R_below (by (with_reducible repeat (first | apply Kd.R_alloc | apply Kd.R_drewN | apply Kd.R_drew)); exact HO_235002.out) hb); have n1_ := Aside0.mk (Kd.R_below (by (with_reducible repeat (first | apply Kd.R_alloc | apply Kd.R_drewN | apply Kd.R_drew)); exact HO_245002.out) hb); have n2_ := Aside0.mk (blk_below (g := gb234) (o := .cells #[.int .i64 t228, .int .i64 t229, .slice Ao53 t230.length co53] 27 (0, 0)) (by (with_reducible repeat (first | refine blk_drewN ?_ _ | refine blk_drew ?_ | refine blk_alloc ?_ _)); exact BK234.out) hb); have n3_ := Aside0.mk (blk_below (g := gb244) (o := .cells #[.int .i64 t238, .int .i64 t239, .slice Ao61 t240.length co61] 27 (0, 0)) (by (with_reducible repeat (first | refine blk_drewN ?_ _ | refine blk_drew ?_ | refine blk_alloc ?_ _)); exact BK244.out) hb); have n4_ := Aside0.mk (below_step (by repeat (first | (with_reducible first | exact HB.out | apply below_alloc | apply pw_below_drewN | apply below_drew1 | refine below_set ?_ GE234.out | refine below_set ?_ GE244.out) | exact HB.out)) hb); clear HO_235002; clear HO_245002; clear BK234; clear BK244; clear HB; have HO_235002 := n0_; have HO_245002 := n1_; have BK234 := n2_; have BK244 := n3_; have HB := n4_; clear n0_ n1_ n2_ n3_ n4_; (try clear hb); (try clear hb2); (try clear hk); (try clear hi)))
              go_ret
              exact ⟨by first | rfl | (simp [errW_none, errW_some] <;> rfl) | (simp [*, errW_none, errW_some] <;> rfl), by repeat (first | (with_reducible first | exact HB.out | apply below_alloc | apply pw_below_drewN | apply below_drew1 | refine below_set ?_ GE234.out | refine below_set ?_ GE244.out) | exact HB.out)⟩
          · replace c134 := Bool.eq_false_iff.mpr c134
            subst c134
            have H1 : (some false) = some r := by rw [if_neg (show ¬ (false = true) by decide)] at H; exact H
            clear H
            have H := H1
            clear H1
            obtain rfl := Option.some.inj H
            go_wp2_with (first | ((with_reducible refine gate_callee (f := 8) rfl ?_); refine goesL_ (some 55) rfl rfl Tryd.func8 (by kernel_rfl) rfl #[] rfl (by (try simp only [List.map_toArray, List.map_cons, List.map_nil]); first | done | rfl | (simp only [List.length_drop, List.length_take]; rfl)) ?_; (with_reducible refine (armisticelaw05_awake.calls kj48  false _ ?side1 A133.out).mono ?_); (case side1 => exact GOk.below HG.out (by repeat (first | (with_reducible first | exact HB.out | apply below_alloc | apply pw_below_drewN | apply below_drew1 | refine below_set ?_ GE234.out | refine below_set ?_ GE244.out) | exact HB.out))); rintro e w181 ⟨rfl, hb⟩; refine ⟨_, rfl, ?_⟩; have n0_ := Aside0.mk (Kd.R_below (by (with_reducible repeat (first | apply Kd.R_alloc | apply Kd.R_drewN | apply Kd.R_drew)); exact HO_235002.out) hb); have n1_ := Aside0.mk (Kd.R_below (by (with_reducible repeat (first | apply Kd.R_alloc | apply Kd.R_drewN | apply Kd.R_drew)); exact HO_245002.out) hb); have n2_ := Aside0.mk (blk_below (g := gb234) (o := .cells #[.int .i64 t228, .int .i64 t229, .slice Ao53 t230.length co53] 27 (0, 0)) (by (with_reducible repeat (first | refine blk_drewN ?_ _ | refine blk_drew ?_ | refine blk_alloc ?_ _)); exact BK234.out) hb); have n3_ := Aside0.mk (blk_below (g := gb244) (o := .cells #[.int .i64 t238, .int .i64 t239, .slice Ao61 t240.length co61] 27 (0, 0)) (by (with_reducible repeat (first | refine blk_drewN ?_ _ | refine blk_drew ?_ | refine blk_alloc ?_ _)); exact BK244.out) hb); have n4_ := Aside0.mk (below_step (by repeat (first | (with_reducible first | exact HB.out | apply below_alloc | apply pw_below_drewN | apply below_drew1 | refine below_set ?_ GE234.out | refine below_set ?_ GE244.out) | exact HB.out)) hb); clear HO_235002; clear HO_245002; clear BK234; clear BK244; clear HB; have HO_235002 := n0_; have HO_245002 := n1_; have BK234 := n2_; have BK244 := n3_; have HB := n4_; clear n0_ n1_ n2_ n3_ n4_; (try clear hb); (try clear hb2); (try clear hk); (try clear hi)))
            go_ret
            exact ⟨by first | rfl | (simp [errW_none, errW_some] <;> rfl) | (simp [*, errW_none, errW_some] <;> rfl), by repeat (first | (with_reducible first | exact HB.out | apply below_alloc | apply pw_below_drewN | apply below_drew1 | refine below_set ?_ GE234.out | refine below_set ?_ GE244.out) | exact HB.out)⟩

/-- THE ONE PURE STATEMENT of armisticelaw05_StateKnown: yours. -/
theorem armisticelaw05_StateKnown.true_at : armisticelaw05_StateKnown.f 40 = some true := by kernel_rfl
theorem armisticelaw05_StateKnown.true_up : ∀ d, armisticelaw05_StateKnown.f (40 + d) = some true
  | 0 => armisticelaw05_StateKnown.true_at
  | d + 1 => armisticelaw05_StateKnown.mono _ true (armisticelaw05_StateKnown.true_up d)
theorem armisticelaw05_StateKnown.true_of : ∀ (d k : Nat) (r : Bool), armisticelaw05_StateKnown.f k = some r → armisticelaw05_StateKnown.f (k + d) = some r
  | 0, _, _, h => h
  | d + 1, k, r, h => armisticelaw05_StateKnown.mono _ r (armisticelaw05_StateKnown.true_of d k r h)
theorem armisticelaw05_StateKnown.true_only {k : Nat} {r : Bool} (h : armisticelaw05_StateKnown.f k = some r) : r = true := by
  have h1 := armisticelaw05_StateKnown.true_of 40 k r h
  have h2 := armisticelaw05_StateKnown.true_up k
  rw [Nat.add_comm] at h2
  exact Option.some.inj (h1.symm.trans h2)
theorem armisticelaw05_StateKnown.calls (k : Nat)  (r : Bool) (w : World) (hG : GOk w) (h : armisticelaw05_StateKnown.f k  = some r) :
    Calls Tryd.prog 4 #[] w fun e w' => e = .returned (.bool r) ∧ Below w.heap.size w w' := armisticelaw05_StateKnown.calls0 k r (armisticelaw05_StateKnown.true_only h) w hG h

def armisticelaw05_StateKnown.Pure : Prop := ∃ k, armisticelaw05_StateKnown.f k  = some true
theorem armisticelaw05_StateKnown.walk (P : armisticelaw05_StateKnown.Pure)  (w : World)  (hG : GOk w) :
    Calls Tryd.prog 4 #[] w fun e w' => e = .returned (.bool true) ∧ Below w.heap.size w w' := by
  obtain ⟨k, h⟩ := P  
  refine (armisticelaw05_StateKnown.calls k  true w hG h).mono ?_
  rintro e w' ⟨rfl, hd⟩
  exact ⟨rfl, hd⟩

end Go.Proofs.YtdimbcabkikcoaaDoor.P
