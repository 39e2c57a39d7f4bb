/- Laid by a program of this session (wip/tools/xprint.py) after the kit's printer: functions of the translation as plain Lean functions, each with the proof that its call comes to just that. -/
import Derived.Test.YtdimbcabkikcoaaGreatDoorPx0
import Derived.Test.YtdimbcabkikcoaaGreatDoorPx2
import Derived.Test.YtdimbcabkikcoaaGreatDoorPx3
import Derived.Test.YtdimbcabkikcoaaGreatDoorPx4
import Derived.Test.YtdimbcabkikcoaaGreatDoorPx5
import Derived.Test.YtdimbcabkikcoaaGreatDoorPx6
import Derived.Test.YtdimbcabkikcoaaGreatDoorPx7
import Derived.Test.YtdimbcabkikcoaaGreatDoorPx8
import Derived.Test.YtdimbcabkikcoaaGreatDoorESCheck
import Derived.Test.YtdimbcabkikcoaaGreatDoorESText
import Derived.Test.YtdimbcabkikcoaaGreatDoorESWord
namespace Go.Proofs.YtdimbcabkikcoaaGreatDoor.P
open Go.RowKit Go.Proofs.YtdimbcabkikcoaaGreatDoorW.PrintWords Go.Proofs.YtdimbcabkikcoaaGreatDoorW.PrintLast Go.Proofs.YtdimbcabkikcoaaGreatDoorW.PrintMore
attribute [local go_sem] max2_int min2_int max_two min_two max_three min_three max_four min_four   -- for this text's walks alone
set_option linter.unusedVariables false
set_option linter.unusedSimpArgs false

/-! ### armisticelaw05_StateTells: function 3 -/
mutual
def armisticelaw05_StateTells.j0 : Nat → Int → Bool → Int → Int → List Int → Int → Int → List Int → Option (Bool)
  | 0, _, _, _, _, _, _, _, _ => none
  | k + 1, x2, x34, x258000, x258001, x258002, x259000, x259001, x259002 => if x34 = true then ((armisticelaw05_awake.f k).bind fun t259 => (some t259)) else ((armisticekit_CopyState.f x258000 x258001 x258002).bind fun bt260 => ((state_Encode.f k bt260.1 bt260.2.1 bt260.2.2).bind fun bt266 => ((armisticeref05_Encode.f k x258000 x258001 x258002).bind fun bt270 => ((state_Text.f bt260.1 bt260.2.1 bt260.2.2).bind fun bt274 => ((armisticeref05_Text.f k x258000 x258001 x258002).bind fun bt276 => ((state_Empty.f x2).bind fun bt278 => ((armisticeref05_Empty.f x2).bind fun bt285 => ((state_Word.f x2).bind fun bt292 => ((armisticeref05_Word.f x2).bind fun bt294 => ((armisticekit_SameBytes.f bt266.1 bt270.1).bind fun t296 => (if t296 = true then (if bt266.2 = bt270.2 then (if bt274.1.toList = bt276.1.toList then (if bt274.2 = bt276.2 then ((armisticekit_SameState.f k bt278.1 bt278.2.1 bt278.2.2.1 bt285.1 bt285.2.1 bt285.2.2.1).bind fun t297 => (if t297 = true then (if bt278.2.2.2 = bt285.2.2.2 then (if bt292.1.toList = bt294.1.toList then (armisticelaw05_StateTells.j1 k bt266.1 (bt292.2 == bt294.2) x258000 x258001 x258002 x259000 x259001 x259002 bt260.1 bt260.2.1 bt260.2.2) else (armisticelaw05_StateTells.j1 k bt266.1 false x258000 x258001 x258002 x259000 x259001 x259002 bt260.1 bt260.2.1 bt260.2.2)) else (armisticelaw05_StateTells.j1 k bt266.1 false x258000 x258001 x258002 x259000 x259001 x259002 bt260.1 bt260.2.1 bt260.2.2)) else (armisticelaw05_StateTells.j1 k bt266.1 false x258000 x258001 x258002 x259000 x259001 x259002 bt260.1 bt260.2.1 bt260.2.2))) else (armisticelaw05_StateTells.j1 k bt266.1 false x258000 x258001 x258002 x259000 x259001 x259002 bt260.1 bt260.2.1 bt260.2.2)) else (armisticelaw05_StateTells.j1 k bt266.1 false x258000 x258001 x258002 x259000 x259001 x259002 bt260.1 bt260.2.1 bt260.2.2)) else (armisticelaw05_StateTells.j1 k bt266.1 false x258000 x258001 x258002 x259000 x259001 x259002 bt260.1 bt260.2.1 bt260.2.2)) else (armisticelaw05_StateTells.j1 k bt266.1 false x258000 x258001 x258002 x259000 x259001 x259002 bt260.1 bt260.2.1 bt260.2.2))))))))))))
def armisticelaw05_StateTells.j1 : Nat → List Int → Bool → Int → Int → List Int → Int → Int → List Int → Int → Int → List Int → Option (Bool)
  | 0, _, _, _, _, _, _, _, _, _, _, _ => none
  | k + 1, x8, x24, x258000, x258001, x258002, x259000, x259001, x259002, x266000, x266001, x266002 => (armisticekit_OverBytes.f k x8).bind fun t298 => (if x24 = true then ((state_Check.f x266000 x266001 x266002).bind fun t299 => ((armisticeref05_Check.f k x258000 x258001 x258002).bind fun t300 => (if t299 = t300 then ((state_Same.f k x266000 x266001 x266002 x259000 x259001 x259002).bind fun t301 => ((armisticeref05_Same.f k x258000 x258001 x258002 x259000 x259001 x259002).bind fun t302 => (if (t301 == t302) = true then ((armisticekit_SameState.f k x266000 x266001 x266002 x258000 x258001 x258002).bind fun t303 => (if t303 = true then ((armisticelaw05_awake.f k).bind fun t304 => (some t304)) else (some false))) else (some false)))) else (some false)))) else (some false))
end
def armisticelaw05_StateTells.f (k : Nat) (a0_0 : Int) (a0_1 : Int) (l0_2 : List Int) (a1_0 : Int) (a1_1 : Int) (l1_2 : List Int) (a2 : Int) : Option (Bool) := if (l0_2.length : Int) > 60 then (armisticelaw05_StateTells.j0 k a2 true a0_0 a0_1 l0_2 a1_0 a1_1 l1_2) else (armisticelaw05_StateTells.j0 k a2 (decide ((l1_2.length : Int) > 60)) a0_0 a0_1 l0_2 a1_0 a1_1 l1_2)
theorem armisticelaw05_StateTells.mono_l : ∀ k, (∀ y0 y1 y2 y3 y4 y5 y6 y7, LeO (armisticelaw05_StateTells.j0 k y0 y1 y2 y3 y4 y5 y6 y7) (armisticelaw05_StateTells.j0 (k + 1) y0 y1 y2 y3 y4 y5 y6 y7)) ∧ (∀ y0 y1 y2 y3 y4 y5 y6 y7 y8 y9 y10, LeO (armisticelaw05_StateTells.j1 k y0 y1 y2 y3 y4 y5 y6 y7 y8 y9 y10) (armisticelaw05_StateTells.j1 (k + 1) y0 y1 y2 y3 y4 y5 y6 y7 y8 y9 y10))
  | 0 => ⟨fun _ _ _ _ _ _ _ _ r h => by simp [armisticelaw05_StateTells.j0] at h, fun _ _ _ _ _ _ _ _ _ _ _ r h => by simp [armisticelaw05_StateTells.j1] at h⟩
  | k + 1 => by
    obtain ⟨ih0, ih1⟩ := armisticelaw05_StateTells.mono_l k
    refine ⟨?_, ?_⟩
    · intro y0 y1 y2 y3 y4 y5 y6 y7
      unfold armisticelaw05_StateTells.j0
      repeat' first
      | (with_reducible exact ih0 _ _ _ _ _ _ _ _)
      | (with_reducible exact ih1 _ _ _ _ _ _ _ _ _ _ _)
      | (with_reducible exact armisticekit_OverBytes.mono _ _)
      | (with_reducible exact armisticekit_SameState.mono _ _ _ _ _ _ _)
      | (with_reducible exact armisticelaw05_awake.mono _)
      | (with_reducible exact armisticeref05_Check.mono _ _ _ _)
      | (with_reducible exact armisticeref05_Encode.mono _ _ _ _)
      | (with_reducible exact armisticeref05_Same.mono _ _ _ _ _ _ _)
      | (with_reducible exact armisticeref05_Text.mono _ _ _ _)
      | (with_reducible exact state_Encode.mono _ _ _ _)
      | (with_reducible exact state_Same.mono _ _ _ _ _ _ _)
      | (with_reducible exact LeO.refl _)
      | (with_reducible exact LeO.none _)
      | (with_reducible refine LeO.ite ?_ ?_)
      | (with_reducible refine LeO.bind ?_ (fun _ => ?_))
      | exact ih0 _ _ _ _ _ _ _ _
      | exact ih1 _ _ _ _ _ _ _ _ _ _ _
      | exact armisticekit_OverBytes.mono _ _
      | exact armisticekit_SameState.mono _ _ _ _ _ _ _
      | exact armisticelaw05_awake.mono _
      | exact armisticeref05_Check.mono _ _ _ _
      | exact armisticeref05_Encode.mono _ _ _ _
      | exact armisticeref05_Same.mono _ _ _ _ _ _ _
      | exact armisticeref05_Text.mono _ _ _ _
      | exact state_Encode.mono _ _ _ _
      | exact state_Same.mono _ _ _ _ _ _ _
      | exact LeO.none _
      | refine LeO.ite ?_ ?_
      | refine LeO.bind ?_ (fun _ => ?_)
    · intro y0 y1 y2 y3 y4 y5 y6 y7 y8 y9 y10
      unfold armisticelaw05_StateTells.j1
      repeat' first
      | (with_reducible exact ih0 _ _ _ _ _ _ _ _)
      | (with_reducible exact ih1 _ _ _ _ _ _ _ _ _ _ _)
      | (with_reducible exact armisticekit_OverBytes.mono _ _)
      | (with_reducible exact armisticekit_SameState.mono _ _ _ _ _ _ _)
      | (with_reducible exact armisticelaw05_awake.mono _)
      | (with_reducible exact armisticeref05_Check.mono _ _ _ _)
      | (with_reducible exact armisticeref05_Encode.mono _ _ _ _)
      | (with_reducible exact armisticeref05_Same.mono _ _ _ _ _ _ _)
      | (with_reducible exact armisticeref05_Text.mono _ _ _ _)
      | (with_reducible exact state_Encode.mono _ _ _ _)
      | (with_reducible exact state_Same.mono _ _ _ _ _ _ _)
      | (with_reducible exact LeO.refl _)
      | (with_reducible exact LeO.none _)
      | (with_reducible refine LeO.ite ?_ ?_)
      | (with_reducible refine LeO.bind ?_ (fun _ => ?_))
      | exact ih0 _ _ _ _ _ _ _ _
      | exact ih1 _ _ _ _ _ _ _ _ _ _ _
      | exact armisticekit_OverBytes.mono _ _
      | exact armisticekit_SameState.mono _ _ _ _ _ _ _
      | exact armisticelaw05_awake.mono _
      | exact armisticeref05_Check.mono _ _ _ _
      | exact armisticeref05_Encode.mono _ _ _ _
      | exact armisticeref05_Same.mono _ _ _ _ _ _ _
      | exact armisticeref05_Text.mono _ _ _ _
      | exact state_Encode.mono _ _ _ _
      | exact state_Same.mono _ _ _ _ _ _ _
      | exact LeO.none _
      | refine LeO.ite ?_ ?_
      | refine LeO.bind ?_ (fun _ => ?_)
theorem armisticelaw05_StateTells.mono : ∀ a0 a1 a2 a3 a4 a5 a6 k, LeO (armisticelaw05_StateTells.f k a0 a1 a2 a3 a4 a5 a6) (armisticelaw05_StateTells.f (k + 1) a0 a1 a2 a3 a4 a5 a6) := by
  intro a0 a1 a2 a3 a4 a5 a6 k
  obtain ⟨ih0, ih1⟩ := armisticelaw05_StateTells.mono_l k
  unfold armisticelaw05_StateTells.f
  repeat' first
      | (with_reducible exact ih0 _ _ _ _ _ _ _ _)
      | (with_reducible exact ih1 _ _ _ _ _ _ _ _ _ _ _)
      | (with_reducible exact armisticekit_OverBytes.mono _ _)
      | (with_reducible exact armisticekit_SameState.mono _ _ _ _ _ _ _)
      | (with_reducible exact armisticelaw05_awake.mono _)
      | (with_reducible exact armisticeref05_Check.mono _ _ _ _)
      | (with_reducible exact armisticeref05_Encode.mono _ _ _ _)
      | (with_reducible exact armisticeref05_Same.mono _ _ _ _ _ _ _)
      | (with_reducible exact armisticeref05_Text.mono _ _ _ _)
      | (with_reducible exact state_Encode.mono _ _ _ _)
      | (with_reducible exact state_Same.mono _ _ _ _ _ _ _)
      | (with_reducible exact LeO.refl _)
      | (with_reducible exact LeO.none _)
      | (with_reducible refine LeO.ite ?_ ?_)
      | (with_reducible refine LeO.bind ?_ (fun _ => ?_))
      | exact ih0 _ _ _ _ _ _ _ _
      | exact ih1 _ _ _ _ _ _ _ _ _ _ _
      | exact armisticekit_OverBytes.mono _ _
      | exact armisticekit_SameState.mono _ _ _ _ _ _ _
      | exact armisticelaw05_awake.mono _
      | exact armisticeref05_Check.mono _ _ _ _
      | exact armisticeref05_Encode.mono _ _ _ _
      | exact armisticeref05_Same.mono _ _ _ _ _ _ _
      | exact armisticeref05_Text.mono _ _ _ _
      | exact state_Encode.mono _ _ _ _
      | exact state_Same.mono _ _ _ _ _ _ _
      | exact LeO.none _
      | refine LeO.ite ?_ ?_
      | refine LeO.bind ?_ (fun _ => ?_)
def armisticelaw05_StateTells.T14 : Bool × List (List Nat × List Nat) := (true, [([], []), ([0], [0]), ([1], [1]), ([2, 1, 1], [1, 2]), ([1], [1]), ([4, 3, 1], [1, 4]), ([3, 5, 1], [1, 3, 5]), ([1, 6], [1, 6]), ([7, 5], [7]), ([8], [8]), ([8], [8]), ([9, 10, 8, 8], [8, 9, 10]), ([8], [8]), ([8], [8]), ([12, 13, 11, 8], [8, 12, 13]), ([11, 14, 8], [8, 11, 14]), ([8, 15], [8, 15]), ([16, 14], [16]), ([17], [17]), ([17], [17]), ([18, 19, 17, 17], [17, 18, 19]), ([17, 20], [17, 20]), ([21, 20], [21]), ([22, 22], [22]), ([22, 23], [22, 23]), ([24, 23, 0, 1, 2, 3, 4, 5, 6, 7, 8, 9, 10, 11, 12, 13, 14, 15, 16, 17, 18, 19, 20, 21, 22, 23, 24], [24])])
def armisticelaw05_StateTells.B14 : List Nat := [0, 1, 3, 7, 3, 31, 63, 127, 255, 511, 511, 2047, 511, 511, 16383, 32767, 65535, 131071, 262143, 262143, 1048575, 2097151, 4194303, 8388607, 16777215, 33554431]
theorem armisticelaw05_StateTells.tab14 : rtab .any (opsOf Tryz.f3 14) = armisticelaw05_StateTells.T14 := by kernel_rfl
theorem armisticelaw05_StateTells.bits14 : waitsOk armisticelaw05_StateTells.T14.2 armisticelaw05_StateTells.B14 = true := by kernel_rfl
theorem armisticelaw05_StateTells.j1_false {k : Nat} {a0 : List Int} {a2 : Int} {a3 : Int} {a4 : List Int} {a5 : Int} {a6 : Int} {a7 : List Int} {a8 : Int} {a9 : Int} {a10 : List Int} {r : Bool} (h : armisticelaw05_StateTells.j1 k a0 false a2 a3 a4 a5 a6 a7 a8 a9 a10 = some r) : r = false := by
  cases k with
  | zero => rw [armisticelaw05_StateTells.j1] at h; cases h
  | succ k =>
    rw [armisticelaw05_StateTells.j1] at h
    repeat' first
    | exact (Option.some.inj h).symm
    | (rw [Option.bind_eq_some_iff] at h; obtain ⟨_, _, h⟩ := h)
    | (split at h)
    | (rename_i hc_; cases hc_; done)
set_option maxHeartbeats 8000000 in
set_option maxRecDepth 100000 in
theorem armisticelaw05_StateTells.calls (k : Nat) (a0_0 : Int) (a0_1 : Int) (A0_2 : Option Addr) (c0_2 : Nat) (l0_2 : List Int) (a1_0 : Int) (a1_1 : Int) (A1_2 : Option Addr) (c1_2 : Nat) (l1_2 : List Int) (a2 : Int) (r : Bool) (hrt : r = true) (w : World) (hr0_2 : Kd.C (Kd.int .i64) w A0_2 l0_2.length l0_2) (hc0_2 : l0_2.length ≤ c0_2) (hr1_2 : Kd.C (Kd.int .i64) w A1_2 l1_2.length l1_2) (hc1_2 : l1_2.length ≤ c1_2) (hG : GOk w) (h : armisticelaw05_StateTells.f k a0_0 a0_1 l0_2 a1_0 a1_1 l1_2 a2 = some r) :
    Calls Tryz.prog 3 #[.agg #[.int .i64 a0_0, .int .i64 a0_1, .slice A0_2 l0_2.length c0_2], .agg #[.int .i64 a1_0, .int .i64 a1_1, .slice A1_2 l1_2.length c1_2], .int .i64 a2] w fun e w' => e = .returned (.bool r) ∧ Below w.heap.size w w' := by
  have HRT := Aside0.mk hrt
  clear hrt
  have hu24 := Tryz.underlying24
  have HR0_2 := Aside0.mk hr0_2
  have HC0_2 := Aside0.mk hc0_2
  clear hr0_2 hc0_2
  have HR1_2 := Aside0.mk hr1_2
  have HC1_2 := Aside0.mk hc1_2
  clear hr1_2 hc1_2
  have HG := Aside0.mk hG
  clear hG
  have HB := Aside0.mk (Below.refl w.heap.size w)
  have H : (if (l0_2.length : Int) > 60 then (armisticelaw05_StateTells.j0 k a2 true a0_0 a0_1 l0_2 a1_0 a1_1 l1_2) else (armisticelaw05_StateTells.j0 k a2 (decide ((l1_2.length : Int) > 60)) a0_0 a0_1 l0_2 a1_0 a1_1 l1_2)) = some r := h
  clear h
  have HC4 := Aside0.mk H
  clear H
  go_enter Tryz.func3, Tryz.ntmps3
  go_upto_region 1 with (first | ((with_reducible refine gate_dst (N := 3) rfl ?_); (try (refine gate_guard (by rfl) ?_; dsimp only)); refine box_event ?hg (N := 3) ?hd (cs := #[.int .i64 a0_0, .int .i64 a0_1, .slice A0_2 l0_2.length c0_2]) (t := 24) ?hr ?_; (case hd => rfl); (case hg => rfl); (case hr => first | (go_simp; done) | (go_simp; rfl)); intro gb257 hg w5 hbox hb; have n0_ := Aside0.mk (below_step (by repeat (first | (with_reducible first | exact HB.out | apply below_alloc | apply pw_below_drewN | apply below_drew1) | exact HB.out)) hb); have n1_ := Aside0.mk (hbox); have n2_ := Aside0.mk ((by rw [hg]; exact (below_size (by repeat (first | (with_reducible first | exact HB.out | apply below_alloc | apply pw_below_drewN | apply below_drew1) | exact HB.out))) : w.heap.size ≤ gb257)); have n3_ := Aside0.mk ((by rw [hg]; exact (below_size (by repeat (first | (with_reducible first | exact HB.out | apply below_alloc | apply pw_below_drewN | apply below_drew1) | exact HB.out))) : w.heap.size ≤ gb257)); clear HB; have HB := n0_; have BK257 := n1_; have GW257 := n2_; have GE257 := n3_; clear n0_ n1_ n2_ n3_; clear hb hbox hg) | ((with_reducible refine gate_dst (N := 4) rfl ?_); (try (refine gate_guard (by rfl) ?_; dsimp only)); refine box_event ?hg (N := 4) ?hd (cs := #[.int .i64 a1_0, .int .i64 a1_1, .slice A1_2 l1_2.length c1_2]) (t := 24) ?hr ?_; (case hd => rfl); (case hg => rfl); (case hr => first | (go_simp; done) | (go_simp; rfl)); intro gb258 hg w6 hbox hb; have n0_ := Aside0.mk (blk_below (g := gb257) (o := .cells #[.int .i64 a0_0, .int .i64 a0_1, .slice A0_2 l0_2.length c0_2] 24 (0, 0)) (by (with_reducible repeat (first | refine blk_drewN ?_ _ | refine blk_drew ?_ | refine blk_alloc ?_ _)); exact BK257.out) hb); have n1_ := Aside0.mk (below_step (by repeat (first | (with_reducible first | exact HB.out | apply below_alloc | apply pw_below_drewN | apply below_drew1 | refine below_set ?_ GE257.out) | exact HB.out)) hb); have n2_ := Aside0.mk (hbox); have n3_ := Aside0.mk ((by rw [hg]; exact (below_size (by repeat (first | (with_reducible first | exact HB.out | apply below_alloc | apply pw_below_drewN | apply below_drew1 | refine below_set ?_ GE257.out) | exact HB.out))) : w.heap.size ≤ gb258)); have n4_ := Aside0.mk ((by rw [hg]; exact (below_size (by repeat (first | (with_reducible first | exact HB.out | apply below_alloc | apply pw_below_drewN | apply below_drew1 | refine below_set ?_ GE257.out) | exact HB.out))) : w.heap.size ≤ gb258)); have n5_ := Aside0.mk ((by rw [hg]; exact Nat.ne_of_lt (blk_lt (g := gb257) (o := .cells #[.int .i64 a0_0, .int .i64 a0_1, .slice A0_2 l0_2.length c0_2] 24 (0, 0)) (by (with_reducible repeat (first | refine blk_drewN ?_ _ | refine blk_drew ?_ | refine blk_alloc ?_ _)); exact BK257.out)) : gb257 ≠ gb258)); have n6_ := Aside0.mk ((by rw [hg]; exact Nat.ne_of_gt (blk_lt (g := gb257) (o := .cells #[.int .i64 a0_0, .int .i64 a0_1, .slice A0_2 l0_2.length c0_2] 24 (0, 0)) (by (with_reducible repeat (first | refine blk_drewN ?_ _ | refine blk_drew ?_ | refine blk_alloc ?_ _)); exact BK257.out)) : gb258 ≠ gb257)); clear BK257; clear HB; have BK257 := n0_; have HB := n1_; have BK258 := n2_; have GW258 := n3_; have GE258 := n4_; have NB257_258 := n5_; have NB258_257 := n6_; clear n0_ n1_ n2_ n3_ n4_ n5_ n6_; clear hb hbox hg))
  (try simp only [Act.put, List.setIfInBounds_toArray, List.set_cons_zero, List.set_cons_succ])
  go_cut [34] (fun v34 wc => ∃ (kq : Nat) (x34_3 : Bool), v34 = .bool x34_3 ∧ Aside0 (armisticelaw05_StateTells.j0 kq a2 x34_3 a0_0 a0_1 l0_2 a1_0 a1_1 l1_2 = some r) ∧ Aside0 (kq ≤ k) ∧ Aside0 (wc.heap[gb257]? = some (.cells #[.int .i64 a0_0, .int .i64 a0_1, (.slice A0_2 l0_2.length c0_2)] 24 (0, 0))) ∧ Aside0 (wc.heap[gb258]? = some (.cells #[.int .i64 a1_0, .int .i64 a1_1, (.slice A1_2 l1_2.length c1_2)] 24 (0, 0))) ∧ Aside0 (Below w.heap.size w wc))
  case first =>
    have H := HC4.out
    clear HC4
    by_cases c7 : (l0_2.length : Int) > 60
    · rw [if_pos c7] at H
      have c7b0 : decide (60 < (l0_2.length : Int)) = true := decide_eq_true c7
      have c7b1 : decide (60 < l0_2.length) = true := decide_eq_true (by omega)
      clear c7
      (first | rw [c7b0] | (simp only [i64_w, i32_w]; rw [c7b0]) | skip)
      have H' := Aside0.mk H
      clear H
      have hnb8 := NB257_258.out
      have hnc8 := NB258_257.out
      have hcz9_0 : w6.cell? ⟨gb257, 0, none⟩ = some (.int .i64 a0_0) := (blk_cell BK257.out 0).trans rfl
      have hcz9_1 : w6.cell? ⟨gb257, 1, none⟩ = some (.int .i64 a0_1) := (blk_cell BK257.out 1).trans rfl
      have hcz9_2 : w6.cell? ⟨gb257, 2, none⟩ = some (.slice A0_2 l0_2.length c0_2) := (blk_cell BK257.out 2).trans rfl
      have hfz9_0 := blk_frozen BK257.out 0
      have hfz9_1 := blk_frozen BK257.out 1
      have hfz9_2 := blk_frozen BK257.out 2
      go_wp2
      go_meet
      case rel => exact ⟨_, (true), (by first | rfl | (simp; done) | (simp [*]; done)), H', ⟨by first | omega | exact Nat.le_refl _⟩, ⟨by (with_reducible repeat (first | refine blk_drewN ?_ _ | refine blk_drew ?_ | refine blk_alloc ?_ _)); exact BK257.out⟩, ⟨by (with_reducible repeat (first | refine blk_drewN ?_ _ | refine blk_drew ?_ | refine blk_alloc ?_ _)); exact BK258.out⟩, ⟨by repeat (first | (with_reducible first | exact HB.out | apply below_alloc | apply pw_below_drewN | apply below_drew1 | refine below_set ?_ GE257.out | refine below_set ?_ GE258.out) | exact HB.out)⟩⟩
    · rw [if_neg c7] at H
      have c7b0 : decide (60 < (l0_2.length : Int)) = false := decide_eq_false c7
      have c7b1 : decide (60 < l0_2.length) = false := decide_eq_false (by omega)
      clear c7
      (first | rw [c7b0] | (simp only [i64_w, i32_w]; rw [c7b0]) | skip)
      have H' := Aside0.mk H
      clear H
      have hnb10 := NB257_258.out
      have hnc10 := NB258_257.out
      have hcz11_0 : w6.cell? ⟨gb257, 0, none⟩ = some (.int .i64 a0_0) := (blk_cell BK257.out 0).trans rfl
      have hcz11_1 : w6.cell? ⟨gb257, 1, none⟩ = some (.int .i64 a0_1) := (blk_cell BK257.out 1).trans rfl
      have hcz11_2 : w6.cell? ⟨gb257, 2, none⟩ = some (.slice A0_2 l0_2.length c0_2) := (blk_cell BK257.out 2).trans rfl
      have hfz11_0 := blk_frozen BK257.out 0
      have hfz11_1 := blk_frozen BK257.out 1
      have hfz11_2 := blk_frozen BK257.out 2
      have hcz12_0 : w6.cell? ⟨gb258, 0, none⟩ = some (.int .i64 a1_0) := (blk_cell BK258.out 0).trans rfl
      have hcz12_1 : w6.cell? ⟨gb258, 1, none⟩ = some (.int .i64 a1_1) := (blk_cell BK258.out 1).trans rfl
      have hcz12_2 : w6.cell? ⟨gb258, 2, none⟩ = some (.slice A1_2 l1_2.length c1_2) := (blk_cell BK258.out 2).trans rfl
      have hfz12_0 := blk_frozen BK258.out 0
      have hfz12_1 := blk_frozen BK258.out 1
      have hfz12_2 := blk_frozen BK258.out 2
      go_wp2
      go_meet
      case rel => exact ⟨_, (decide ((l1_2.length : Int) > 60)), (by first | rfl | (simp; done) | (simp [*]; done)), H', ⟨by first | omega | exact Nat.le_refl _⟩, ⟨by (with_reducible repeat (first | refine blk_drewN ?_ _ | refine blk_drew ?_ | refine blk_alloc ?_ _)); exact BK257.out⟩, ⟨by (with_reducible repeat (first | refine blk_drewN ?_ _ | refine blk_drew ?_ | refine blk_alloc ?_ _)); exact BK258.out⟩, ⟨by repeat (first | (with_reducible first | exact HB.out | apply below_alloc | apply pw_below_drewN | apply below_drew1 | refine below_set ?_ GE257.out | refine below_set ?_ GE258.out) | exact HB.out)⟩⟩
  case rest =>
    clear HC4
    try clear c1
    try clear p2
    try clear c3
    try clear c7
    try clear c7b0
    try clear c7b1
    try clear c8
    try clear c10
    try clear hcz11_0
    try clear hcz11_1
    try clear hcz11_2
    try clear hcz12_0
    try clear hcz12_1
    try clear hcz12_2
    try clear hcz9_0
    try clear hcz9_1
    try clear hcz9_2
    try clear hfz11_0
    try clear hfz11_1
    try clear hfz11_2
    try clear hfz12_0
    try clear hfz12_1
    try clear hfz12_2
    try clear hfz9_0
    try clear hfz9_1
    try clear hfz9_2
    obtain ⟨kq, x34_3, rfl, HA, HJ3, BK257, BK258, HB⟩ := hcut
    cases kq with
    | zero => exact absurd HA.out (by simp [armisticelaw05_StateTells.j0])
    | succ kj3 =>
      have H := HA.out
      clear HA
      simp only [armisticelaw05_StateTells.j0] at H
      by_cases c13 : x34_3 = true
      · subst c13
        have H1 : ((armisticelaw05_awake.f kj3).bind fun t259 => (some t259)) = some r := by rw [if_pos rfl] at H; exact H
        clear H
        have H := H1
        clear H1
        replace H := Option.bind_eq_some_iff.mp H
        obtain ⟨t259, A140, H⟩ := H
        replace H : (some t259) = some r := H
        have A14 := Aside0.mk A140
        clear A140
        obtain rfl := Option.some.inj H
        go_wp2_with (first | ((with_reducible refine gate_callee (f := 4) rfl ?_); refine goesL_ (some 35) rfl rfl Tryz.func4 (by kernel_rfl) rfl #[] rfl (by (try simp only [List.map_toArray, List.map_cons, List.map_nil]); first | done | rfl | (simp only [List.length_drop, List.length_take]; rfl)) ?_; (with_reducible refine (armisticelaw05_awake.calls kj3  t259 _ ?side1 A14.out).mono ?_); (case side1 => exact GOk.below HG.out (by repeat (first | (with_reducible first | exact HB.out | apply below_alloc | apply pw_below_drewN | apply below_drew1 | refine below_set ?_ GE257.out | refine below_set ?_ GE258.out) | exact HB.out))); rintro e w15 ⟨rfl, hb⟩; refine ⟨_, rfl, ?_⟩; have n0_ := Aside0.mk (blk_below (g := gb257) (o := .cells #[.int .i64 a0_0, .int .i64 a0_1, .slice A0_2 l0_2.length c0_2] 24 (0, 0)) (by (with_reducible repeat (first | refine blk_drewN ?_ _ | refine blk_drew ?_ | refine blk_alloc ?_ _)); exact BK257.out) hb); have n1_ := Aside0.mk (blk_below (g := gb258) (o := .cells #[.int .i64 a1_0, .int .i64 a1_1, .slice A1_2 l1_2.length c1_2] 24 (0, 0)) (by (with_reducible repeat (first | refine blk_drewN ?_ _ | refine blk_drew ?_ | refine blk_alloc ?_ _)); exact BK258.out) hb); have n2_ := Aside0.mk (below_step (by repeat (first | (with_reducible first | exact HB.out | apply below_alloc | apply pw_below_drewN | apply below_drew1 | refine below_set ?_ GE257.out | refine below_set ?_ GE258.out) | exact HB.out)) hb); clear BK257; clear BK258; clear HB; have BK257 := n0_; have BK258 := n1_; have HB := n2_; clear n0_ n1_ n2_; (try clear hb); (try clear hb2); (try clear hk); (try clear hi)))
        go_ret
        exact ⟨by first | rfl | (simp [errW_none, errW_some] <;> rfl) | (simp [*, errW_none, errW_some] <;> rfl), by repeat (first | (with_reducible first | exact HB.out | apply below_alloc | apply pw_below_drewN | apply below_drew1 | refine below_set ?_ GE257.out | refine below_set ?_ GE258.out) | exact HB.out)⟩
      · replace c13 := Bool.eq_false_iff.mpr c13
        subst c13
        have H1 : ((armisticekit_CopyState.f a0_0 a0_1 l0_2).bind fun bt260 => ((state_Encode.f kj3 bt260.1 bt260.2.1 bt260.2.2).bind fun bt266 => ((armisticeref05_Encode.f kj3 a0_0 a0_1 l0_2).bind fun bt270 => ((state_Text.f bt260.1 bt260.2.1 bt260.2.2).bind fun bt274 => ((armisticeref05_Text.f kj3 a0_0 a0_1 l0_2).bind fun bt276 => ((state_Empty.f a2).bind fun bt278 => ((armisticeref05_Empty.f a2).bind fun bt285 => ((state_Word.f a2).bind fun bt292 => ((armisticeref05_Word.f a2).bind fun bt294 => ((armisticekit_SameBytes.f bt266.1 bt270.1).bind fun t296 => (if t296 = true then (if bt266.2 = bt270.2 then (if bt274.1.toList = bt276.1.toList then (if bt274.2 = bt276.2 then ((armisticekit_SameState.f kj3 bt278.1 bt278.2.1 bt278.2.2.1 bt285.1 bt285.2.1 bt285.2.2.1).bind fun t297 => (if t297 = true then (if bt278.2.2.2 = bt285.2.2.2 then (if bt292.1.toList = bt294.1.toList then (armisticelaw05_StateTells.j1 kj3 bt266.1 (bt292.2 == bt294.2) a0_0 a0_1 l0_2 a1_0 a1_1 l1_2 bt260.1 bt260.2.1 bt260.2.2) else (armisticelaw05_StateTells.j1 kj3 bt266.1 false a0_0 a0_1 l0_2 a1_0 a1_1 l1_2 bt260.1 bt260.2.1 bt260.2.2)) else (armisticelaw05_StateTells.j1 kj3 bt266.1 false a0_0 a0_1 l0_2 a1_0 a1_1 l1_2 bt260.1 bt260.2.1 bt260.2.2)) else (armisticelaw05_StateTells.j1 kj3 bt266.1 false a0_0 a0_1 l0_2 a1_0 a1_1 l1_2 bt260.1 bt260.2.1 bt260.2.2))) else (armisticelaw05_StateTells.j1 kj3 bt266.1 false a0_0 a0_1 l0_2 a1_0 a1_1 l1_2 bt260.1 bt260.2.1 bt260.2.2)) else (armisticelaw05_StateTells.j1 kj3 bt266.1 false a0_0 a0_1 l0_2 a1_0 a1_1 l1_2 bt260.1 bt260.2.1 bt260.2.2)) else (armisticelaw05_StateTells.j1 kj3 bt266.1 false a0_0 a0_1 l0_2 a1_0 a1_1 l1_2 bt260.1 bt260.2.1 bt260.2.2)) else (armisticelaw05_StateTells.j1 kj3 bt266.1 false a0_0 a0_1 l0_2 a1_0 a1_1 l1_2 bt260.1 bt260.2.1 bt260.2.2)))))))))))) = some r := by rw [if_neg (show ¬ (false = true) by decide)] at H; exact H
        clear H
        have H := H1
        clear H1
        replace H := Option.bind_eq_some_iff.mp H
        obtain ⟨⟨t260, t261, t262⟩, A160, H⟩ := H
        replace H : ((state_Encode.f kj3 t260 t261 t262).bind fun bt266 => ((armisticeref05_Encode.f kj3 a0_0 a0_1 l0_2).bind fun bt270 => ((state_Text.f t260 t261 t262).bind fun bt274 => ((armisticeref05_Text.f kj3 a0_0 a0_1 l0_2).bind fun bt276 => ((state_Empty.f a2).bind fun bt278 => ((armisticeref05_Empty.f a2).bind fun bt285 => ((state_Word.f a2).bind fun bt292 => ((armisticeref05_Word.f a2).bind fun bt294 => ((armisticekit_SameBytes.f bt266.1 bt270.1).bind fun t296 => (if t296 = true then (if bt266.2 = bt270.2 then (if bt274.1.toList = bt276.1.toList then (if bt274.2 = bt276.2 then ((armisticekit_SameState.f kj3 bt278.1 bt278.2.1 bt278.2.2.1 bt285.1 bt285.2.1 bt285.2.2.1).bind fun t297 => (if t297 = true then (if bt278.2.2.2 = bt285.2.2.2 then (if bt292.1.toList = bt294.1.toList then (armisticelaw05_StateTells.j1 kj3 bt266.1 (bt292.2 == bt294.2) a0_0 a0_1 l0_2 a1_0 a1_1 l1_2 t260 t261 t262) else (armisticelaw05_StateTells.j1 kj3 bt266.1 false a0_0 a0_1 l0_2 a1_0 a1_1 l1_2 t260 t261 t262)) else (armisticelaw05_StateTells.j1 kj3 bt266.1 false a0_0 a0_1 l0_2 a1_0 a1_1 l1_2 t260 t261 t262)) else (armisticelaw05_StateTells.j1 kj3 bt266.1 false a0_0 a0_1 l0_2 a1_0 a1_1 l1_2 t260 t261 t262))) else (armisticelaw05_StateTells.j1 kj3 bt266.1 false a0_0 a0_1 l0_2 a1_0 a1_1 l1_2 t260 t261 t262)) else (armisticelaw05_StateTells.j1 kj3 bt266.1 false a0_0 a0_1 l0_2 a1_0 a1_1 l1_2 t260 t261 t262)) else (armisticelaw05_StateTells.j1 kj3 bt266.1 false a0_0 a0_1 l0_2 a1_0 a1_1 l1_2 t260 t261 t262)) else (armisticelaw05_StateTells.j1 kj3 bt266.1 false a0_0 a0_1 l0_2 a1_0 a1_1 l1_2 t260 t261 t262))))))))))) = some r := H
        have A16 := Aside0.mk A160
        clear A160
        replace H := Option.bind_eq_some_iff.mp H
        obtain ⟨⟨t266, t269⟩, A170, H⟩ := H
        replace H : ((armisticeref05_Encode.f kj3 a0_0 a0_1 l0_2).bind fun bt270 => ((state_Text.f t260 t261 t262).bind fun bt274 => ((armisticeref05_Text.f kj3 a0_0 a0_1 l0_2).bind fun bt276 => ((state_Empty.f a2).bind fun bt278 => ((armisticeref05_Empty.f a2).bind fun bt285 => ((state_Word.f a2).bind fun bt292 => ((armisticeref05_Word.f a2).bind fun bt294 => ((armisticekit_SameBytes.f t266 bt270.1).bind fun t296 => (if t296 = true then (if t269 = bt270.2 then (if bt274.1.toList = bt276.1.toList then (if bt274.2 = bt276.2 then ((armisticekit_SameState.f kj3 bt278.1 bt278.2.1 bt278.2.2.1 bt285.1 bt285.2.1 bt285.2.2.1).bind fun t297 => (if t297 = true then (if bt278.2.2.2 = bt285.2.2.2 then (if bt292.1.toList = bt294.1.toList then (armisticelaw05_StateTells.j1 kj3 t266 (bt292.2 == bt294.2) a0_0 a0_1 l0_2 a1_0 a1_1 l1_2 t260 t261 t262) else (armisticelaw05_StateTells.j1 kj3 t266 false a0_0 a0_1 l0_2 a1_0 a1_1 l1_2 t260 t261 t262)) else (armisticelaw05_StateTells.j1 kj3 t266 false a0_0 a0_1 l0_2 a1_0 a1_1 l1_2 t260 t261 t262)) else (armisticelaw05_StateTells.j1 kj3 t266 false a0_0 a0_1 l0_2 a1_0 a1_1 l1_2 t260 t261 t262))) else (armisticelaw05_StateTells.j1 kj3 t266 false a0_0 a0_1 l0_2 a1_0 a1_1 l1_2 t260 t261 t262)) else (armisticelaw05_StateTells.j1 kj3 t266 false a0_0 a0_1 l0_2 a1_0 a1_1 l1_2 t260 t261 t262)) else (armisticelaw05_StateTells.j1 kj3 t266 false a0_0 a0_1 l0_2 a1_0 a1_1 l1_2 t260 t261 t262)) else (armisticelaw05_StateTells.j1 kj3 t266 false a0_0 a0_1 l0_2 a1_0 a1_1 l1_2 t260 t261 t262)))))))))) = some r := H
        have A17 := Aside0.mk A170
        clear A170
        replace H := Option.bind_eq_some_iff.mp H
        obtain ⟨⟨t270, t273⟩, A180, H⟩ := H
        replace H : ((state_Text.f t260 t261 t262).bind fun bt274 => ((armisticeref05_Text.f kj3 a0_0 a0_1 l0_2).bind fun bt276 => ((state_Empty.f a2).bind fun bt278 => ((armisticeref05_Empty.f a2).bind fun bt285 => ((state_Word.f a2).bind fun bt292 => ((armisticeref05_Word.f a2).bind fun bt294 => ((armisticekit_SameBytes.f t266 t270).bind fun t296 => (if t296 = true then (if t269 = t273 then (if bt274.1.toList = bt276.1.toList then (if bt274.2 = bt276.2 then ((armisticekit_SameState.f kj3 bt278.1 bt278.2.1 bt278.2.2.1 bt285.1 bt285.2.1 bt285.2.2.1).bind fun t297 => (if t297 = true then (if bt278.2.2.2 = bt285.2.2.2 then (if bt292.1.toList = bt294.1.toList then (armisticelaw05_StateTells.j1 kj3 t266 (bt292.2 == bt294.2) a0_0 a0_1 l0_2 a1_0 a1_1 l1_2 t260 t261 t262) else (armisticelaw05_StateTells.j1 kj3 t266 false a0_0 a0_1 l0_2 a1_0 a1_1 l1_2 t260 t261 t262)) else (armisticelaw05_StateTells.j1 kj3 t266 false a0_0 a0_1 l0_2 a1_0 a1_1 l1_2 t260 t261 t262)) else (armisticelaw05_StateTells.j1 kj3 t266 false a0_0 a0_1 l0_2 a1_0 a1_1 l1_2 t260 t261 t262))) else (armisticelaw05_StateTells.j1 kj3 t266 false a0_0 a0_1 l0_2 a1_0 a1_1 l1_2 t260 t261 t262)) else (armisticelaw05_StateTells.j1 kj3 t266 false a0_0 a0_1 l0_2 a1_0 a1_1 l1_2 t260 t261 t262)) else (armisticelaw05_StateTells.j1 kj3 t266 false a0_0 a0_1 l0_2 a1_0 a1_1 l1_2 t260 t261 t262)) else (armisticelaw05_StateTells.j1 kj3 t266 false a0_0 a0_1 l0_2 a1_0 a1_1 l1_2 t260 t261 t262))))))))) = some r := H
        have A18 := Aside0.mk A180
        clear A180
        replace H := Option.bind_eq_some_iff.mp H
        obtain ⟨⟨t274, t275⟩, A190, H⟩ := H
        replace H : ((armisticeref05_Text.f kj3 a0_0 a0_1 l0_2).bind fun bt276 => ((state_Empty.f a2).bind fun bt278 => ((armisticeref05_Empty.f a2).bind fun bt285 => ((state_Word.f a2).bind fun bt292 => ((armisticeref05_Word.f a2).bind fun bt294 => ((armisticekit_SameBytes.f t266 t270).bind fun t296 => (if t296 = true then (if t269 = t273 then (if t274.toList = bt276.1.toList then (if t275 = bt276.2 then ((armisticekit_SameState.f kj3 bt278.1 bt278.2.1 bt278.2.2.1 bt285.1 bt285.2.1 bt285.2.2.1).bind fun t297 => (if t297 = true then (if bt278.2.2.2 = bt285.2.2.2 then (if bt292.1.toList = bt294.1.toList then (armisticelaw05_StateTells.j1 kj3 t266 (bt292.2 == bt294.2) a0_0 a0_1 l0_2 a1_0 a1_1 l1_2 t260 t261 t262) else (armisticelaw05_StateTells.j1 kj3 t266 false a0_0 a0_1 l0_2 a1_0 a1_1 l1_2 t260 t261 t262)) else (armisticelaw05_StateTells.j1 kj3 t266 false a0_0 a0_1 l0_2 a1_0 a1_1 l1_2 t260 t261 t262)) else (armisticelaw05_StateTells.j1 kj3 t266 false a0_0 a0_1 l0_2 a1_0 a1_1 l1_2 t260 t261 t262))) else (armisticelaw05_StateTells.j1 kj3 t266 false a0_0 a0_1 l0_2 a1_0 a1_1 l1_2 t260 t261 t262)) else (armisticelaw05_StateTells.j1 kj3 t266 false a0_0 a0_1 l0_2 a1_0 a1_1 l1_2 t260 t261 t262)) else (armisticelaw05_StateTells.j1 kj3 t266 false a0_0 a0_1 l0_2 a1_0 a1_1 l1_2 t260 t261 t262)) else (armisticelaw05_StateTells.j1 kj3 t266 false a0_0 a0_1 l0_2 a1_0 a1_1 l1_2 t260 t261 t262)))))))) = some r := H
        have A19 := Aside0.mk A190
        clear A190
        replace H := Option.bind_eq_some_iff.mp H
        obtain ⟨⟨t276, t277⟩, A200, H⟩ := H
        replace H : ((state_Empty.f a2).bind fun bt278 => ((armisticeref05_Empty.f a2).bind fun bt285 => ((state_Word.f a2).bind fun bt292 => ((armisticeref05_Word.f a2).bind fun bt294 => ((armisticekit_SameBytes.f t266 t270).bind fun t296 => (if t296 = true then (if t269 = t273 then (if t274.toList = t276.toList then (if t275 = t277 then ((armisticekit_SameState.f kj3 bt278.1 bt278.2.1 bt278.2.2.1 bt285.1 bt285.2.1 bt285.2.2.1).bind fun t297 => (if t297 = true then (if bt278.2.2.2 = bt285.2.2.2 then (if bt292.1.toList = bt294.1.toList then (armisticelaw05_StateTells.j1 kj3 t266 (bt292.2 == bt294.2) a0_0 a0_1 l0_2 a1_0 a1_1 l1_2 t260 t261 t262) else (armisticelaw05_StateTells.j1 kj3 t266 false a0_0 a0_1 l0_2 a1_0 a1_1 l1_2 t260 t261 t262)) else (armisticelaw05_StateTells.j1 kj3 t266 false a0_0 a0_1 l0_2 a1_0 a1_1 l1_2 t260 t261 t262)) else (armisticelaw05_StateTells.j1 kj3 t266 false a0_0 a0_1 l0_2 a1_0 a1_1 l1_2 t260 t261 t262))) else (armisticelaw05_StateTells.j1 kj3 t266 false a0_0 a0_1 l0_2 a1_0 a1_1 l1_2 t260 t261 t262)) else (armisticelaw05_StateTells.j1 kj3 t266 false a0_0 a0_1 l0_2 a1_0 a1_1 l1_2 t260 t261 t262)) else (armisticelaw05_StateTells.j1 kj3 t266 false a0_0 a0_1 l0_2 a1_0 a1_1 l1_2 t260 t261 t262)) else (armisticelaw05_StateTells.j1 kj3 t266 false a0_0 a0_1 l0_2 a1_0 a1_1 l1_2 t260 t261 t262))))))) = some r := H
        have A20 := Aside0.mk A200
        clear A200
        replace H := Option.bind_eq_some_iff.mp H
        obtain ⟨⟨t278, t279, t280, t283⟩, A210, H⟩ := H
        replace H : ((armisticeref05_Empty.f a2).bind fun bt285 => ((state_Word.f a2).bind fun bt292 => ((armisticeref05_Word.f a2).bind fun bt294 => ((armisticekit_SameBytes.f t266 t270).bind fun t296 => (if t296 = true then (if t269 = t273 then (if t274.toList = t276.toList then (if t275 = t277 then ((armisticekit_SameState.f kj3 t278 t279 t280 bt285.1 bt285.2.1 bt285.2.2.1).bind fun t297 => (if t297 = true then (if t283 = bt285.2.2.2 then (if bt292.1.toList = bt294.1.toList then (armisticelaw05_StateTells.j1 kj3 t266 (bt292.2 == bt294.2) a0_0 a0_1 l0_2 a1_0 a1_1 l1_2 t260 t261 t262) else (armisticelaw05_StateTells.j1 kj3 t266 false a0_0 a0_1 l0_2 a1_0 a1_1 l1_2 t260 t261 t262)) else (armisticelaw05_StateTells.j1 kj3 t266 false a0_0 a0_1 l0_2 a1_0 a1_1 l1_2 t260 t261 t262)) else (armisticelaw05_StateTells.j1 kj3 t266 false a0_0 a0_1 l0_2 a1_0 a1_1 l1_2 t260 t261 t262))) else (armisticelaw05_StateTells.j1 kj3 t266 false a0_0 a0_1 l0_2 a1_0 a1_1 l1_2 t260 t261 t262)) else (armisticelaw05_StateTells.j1 kj3 t266 false a0_0 a0_1 l0_2 a1_0 a1_1 l1_2 t260 t261 t262)) else (armisticelaw05_StateTells.j1 kj3 t266 false a0_0 a0_1 l0_2 a1_0 a1_1 l1_2 t260 t261 t262)) else (armisticelaw05_StateTells.j1 kj3 t266 false a0_0 a0_1 l0_2 a1_0 a1_1 l1_2 t260 t261 t262)))))) = some r := H
        have A21 := Aside0.mk A210
        clear A210
        replace H := Option.bind_eq_some_iff.mp H
        obtain ⟨⟨t285, t286, t287, t290⟩, A220, H⟩ := H
        replace H : ((state_Word.f a2).bind fun bt292 => ((armisticeref05_Word.f a2).bind fun bt294 => ((armisticekit_SameBytes.f t266 t270).bind fun t296 => (if t296 = true then (if t269 = t273 then (if t274.toList = t276.toList then (if t275 = t277 then ((armisticekit_SameState.f kj3 t278 t279 t280 t285 t286 t287).bind fun t297 => (if t297 = true then (if t283 = t290 then (if bt292.1.toList = bt294.1.toList then (armisticelaw05_StateTells.j1 kj3 t266 (bt292.2 == bt294.2) a0_0 a0_1 l0_2 a1_0 a1_1 l1_2 t260 t261 t262) else (armisticelaw05_StateTells.j1 kj3 t266 false a0_0 a0_1 l0_2 a1_0 a1_1 l1_2 t260 t261 t262)) else (armisticelaw05_StateTells.j1 kj3 t266 false a0_0 a0_1 l0_2 a1_0 a1_1 l1_2 t260 t261 t262)) else (armisticelaw05_StateTells.j1 kj3 t266 false a0_0 a0_1 l0_2 a1_0 a1_1 l1_2 t260 t261 t262))) else (armisticelaw05_StateTells.j1 kj3 t266 false a0_0 a0_1 l0_2 a1_0 a1_1 l1_2 t260 t261 t262)) else (armisticelaw05_StateTells.j1 kj3 t266 false a0_0 a0_1 l0_2 a1_0 a1_1 l1_2 t260 t261 t262)) else (armisticelaw05_StateTells.j1 kj3 t266 false a0_0 a0_1 l0_2 a1_0 a1_1 l1_2 t260 t261 t262)) else (armisticelaw05_StateTells.j1 kj3 t266 false a0_0 a0_1 l0_2 a1_0 a1_1 l1_2 t260 t261 t262))))) = some r := H
        have A22 := Aside0.mk A220
        clear A220
        replace H := Option.bind_eq_some_iff.mp H
        obtain ⟨⟨t292, t293⟩, A230, H⟩ := H
        replace H : ((armisticeref05_Word.f a2).bind fun bt294 => ((armisticekit_SameBytes.f t266 t270).bind fun t296 => (if t296 = true then (if t269 = t273 then (if t274.toList = t276.toList then (if t275 = t277 then ((armisticekit_SameState.f kj3 t278 t279 t280 t285 t286 t287).bind fun t297 => (if t297 = true then (if t283 = t290 then (if t292.toList = bt294.1.toList then (armisticelaw05_StateTells.j1 kj3 t266 (t293 == bt294.2) a0_0 a0_1 l0_2 a1_0 a1_1 l1_2 t260 t261 t262) else (armisticelaw05_StateTells.j1 kj3 t266 false a0_0 a0_1 l0_2 a1_0 a1_1 l1_2 t260 t261 t262)) else (armisticelaw05_StateTells.j1 kj3 t266 false a0_0 a0_1 l0_2 a1_0 a1_1 l1_2 t260 t261 t262)) else (armisticelaw05_StateTells.j1 kj3 t266 false a0_0 a0_1 l0_2 a1_0 a1_1 l1_2 t260 t261 t262))) else (armisticelaw05_StateTells.j1 kj3 t266 false a0_0 a0_1 l0_2 a1_0 a1_1 l1_2 t260 t261 t262)) else (armisticelaw05_StateTells.j1 kj3 t266 false a0_0 a0_1 l0_2 a1_0 a1_1 l1_2 t260 t261 t262)) else (armisticelaw05_StateTells.j1 kj3 t266 false a0_0 a0_1 l0_2 a1_0 a1_1 l1_2 t260 t261 t262)) else (armisticelaw05_StateTells.j1 kj3 t266 false a0_0 a0_1 l0_2 a1_0 a1_1 l1_2 t260 t261 t262)))) = some r := H
        have A23 := Aside0.mk A230
        clear A230
        replace H := Option.bind_eq_some_iff.mp H
        obtain ⟨⟨t294, t295⟩, A240, H⟩ := H
        replace H : ((armisticekit_SameBytes.f t266 t270).bind fun t296 => (if t296 = true then (if t269 = t273 then (if t274.toList = t276.toList then (if t275 = t277 then ((armisticekit_SameState.f kj3 t278 t279 t280 t285 t286 t287).bind fun t297 => (if t297 = true then (if t283 = t290 then (if t292.toList = t294.toList then (armisticelaw05_StateTells.j1 kj3 t266 (t293 == t295) a0_0 a0_1 l0_2 a1_0 a1_1 l1_2 t260 t261 t262) else (armisticelaw05_StateTells.j1 kj3 t266 false a0_0 a0_1 l0_2 a1_0 a1_1 l1_2 t260 t261 t262)) else (armisticelaw05_StateTells.j1 kj3 t266 false a0_0 a0_1 l0_2 a1_0 a1_1 l1_2 t260 t261 t262)) else (armisticelaw05_StateTells.j1 kj3 t266 false a0_0 a0_1 l0_2 a1_0 a1_1 l1_2 t260 t261 t262))) else (armisticelaw05_StateTells.j1 kj3 t266 false a0_0 a0_1 l0_2 a1_0 a1_1 l1_2 t260 t261 t262)) else (armisticelaw05_StateTells.j1 kj3 t266 false a0_0 a0_1 l0_2 a1_0 a1_1 l1_2 t260 t261 t262)) else (armisticelaw05_StateTells.j1 kj3 t266 false a0_0 a0_1 l0_2 a1_0 a1_1 l1_2 t260 t261 t262)) else (armisticelaw05_StateTells.j1 kj3 t266 false a0_0 a0_1 l0_2 a1_0 a1_1 l1_2 t260 t261 t262))) = some r := H
        have A24 := Aside0.mk A240
        clear A240
        have HC25 := Aside0.mk H
        clear H
        have hnb26 := NB257_258.out
        have hnc26 := NB258_257.out
        have hcz27_0 : wc.cell? ⟨gb257, 0, none⟩ = some (.int .i64 a0_0) := (blk_cell BK257.out 0).trans rfl
        have hcz27_1 : wc.cell? ⟨gb257, 1, none⟩ = some (.int .i64 a0_1) := (blk_cell BK257.out 1).trans rfl
        have hcz27_2 : wc.cell? ⟨gb257, 2, none⟩ = some (.slice A0_2 l0_2.length c0_2) := (blk_cell BK257.out 2).trans rfl
        have hfz27_0 := blk_frozen BK257.out 0
        have hfz27_1 := blk_frozen BK257.out 1
        have hfz27_2 := blk_frozen BK257.out 2
        go_upto_region 12 with (first | ((with_reducible refine gate_callee (f := 5) rfl ?_); refine goesL_ (some 37) rfl rfl Tryz.func5 (by kernel_rfl) rfl #[.agg #[.int .i64 a0_0, .int .i64 a0_1, .slice A0_2 l0_2.length c0_2]] rfl (by (try simp only [List.map_toArray, List.map_cons, List.map_nil]); first | done | rfl | (simp only [List.length_drop, List.length_take]; rfl)) ?_; (with_reducible refine (armisticekit_CopyState.calls a0_0 a0_1 _ _ l0_2 t260 t261 t262 _ ?side1 ?side2 A16.out).mono ?_); (case side1 => repeat (first | exact (Kd.C_below HR0_2.out HB.out) | (with_reducible refine Kd.C_alloc ?_ _) | (with_reducible refine Kd.C_drewN ?_ _) | (with_reducible refine Kd.C_drew ?_))); (case side2 => exact HC0_2.out); rintro e w28 ⟨v263, rfl, ho0, hb⟩; refine ⟨_, rfl, ?_⟩; have n0_ := Aside0.mk (Kd.R_lower ho0 (below_size (by repeat (first | (with_reducible first | exact HB.out | apply below_alloc | apply pw_below_drewN | apply below_drew1 | refine below_set ?_ GE257.out | refine below_set ?_ GE258.out) | exact HB.out)))); have n1_ := Aside0.mk (blk_below (g := gb257) (o := .cells #[.int .i64 a0_0, .int .i64 a0_1, .slice A0_2 l0_2.length c0_2] 24 (0, 0)) (by (with_reducible repeat (first | refine blk_drewN ?_ _ | refine blk_drew ?_ | refine blk_alloc ?_ _)); exact BK257.out) hb); have n2_ := Aside0.mk (blk_below (g := gb258) (o := .cells #[.int .i64 a1_0, .int .i64 a1_1, .slice A1_2 l1_2.length c1_2] 24 (0, 0)) (by (with_reducible repeat (first | refine blk_drewN ?_ _ | refine blk_drew ?_ | refine blk_alloc ?_ _)); exact BK258.out) hb); have n3_ := Aside0.mk (below_step (by repeat (first | (with_reducible first | exact HB.out | apply below_alloc | apply pw_below_drewN | apply below_drew1 | refine below_set ?_ GE257.out | refine below_set ?_ GE258.out) | exact HB.out)) hb); clear BK257; clear BK258; clear HB; have HO264 := n0_; have BK257 := n1_; have BK258 := n2_; have HB := n3_; clear n0_ n1_ n2_ n3_; (try clear hb); (try clear hb2); (try clear hk); (try clear hi); (try clear ho0)) | ((with_reducible refine gate_dst (N := 7) rfl ?_); (try (refine gate_guard (by rfl) ?_; dsimp only)); refine box_event ?hg (N := 7) ?hd (cs := #[.int .i64 0, .int .i64 0, .slice none 0 0]) (t := 24) ?hr ?_; (case hd => rfl); (case hg => rfl); (case hr => first | (go_simp; done) | (go_simp; rfl)); intro gb265 hg w29 hbox hb; have n0_ := Aside0.mk (Kd.R_below (by (with_reducible repeat (first | apply Kd.R_alloc | apply Kd.R_drewN | apply Kd.R_drew)); exact HO264.out) hb); have n1_ := Aside0.mk (blk_below (g := gb257) (o := .cells #[.int .i64 a0_0, .int .i64 a0_1, .slice A0_2 l0_2.length c0_2] 24 (0, 0)) (by (with_reducible repeat (first | refine blk_drewN ?_ _ | refine blk_drew ?_ | refine blk_alloc ?_ _)); exact BK257.out) hb); have n2_ := Aside0.mk (blk_below (g := gb258) (o := .cells #[.int .i64 a1_0, .int .i64 a1_1, .slice A1_2 l1_2.length c1_2] 24 (0, 0)) (by (with_reducible repeat (first | refine blk_drewN ?_ _ | refine blk_drew ?_ | refine blk_alloc ?_ _)); exact BK258.out) hb); have n3_ := Aside0.mk (below_step (by repeat (first | (with_reducible first | exact HB.out | apply below_alloc | apply pw_below_drewN | apply below_drew1 | refine below_set ?_ GE257.out | refine below_set ?_ GE258.out) | exact HB.out)) hb); have n4_ := Aside0.mk (hbox); have n5_ := Aside0.mk ((by rw [hg]; exact (below_size (by repeat (first | (with_reducible first | exact HB.out | apply below_alloc | apply pw_below_drewN | apply below_drew1 | refine below_set ?_ GE257.out | refine below_set ?_ GE258.out) | exact HB.out))) : w.heap.size ≤ gb265)); have n6_ := Aside0.mk ((by rw [hg]; exact (below_size (by repeat (first | (with_reducible first | exact HB.out | apply below_alloc | apply pw_below_drewN | apply below_drew1 | refine below_set ?_ GE257.out | refine below_set ?_ GE258.out) | exact HB.out))) : w.heap.size ≤ gb265)); have n7_ := Aside0.mk ((by rw [hg]; exact Nat.ne_of_lt (blk_lt (g := gb257) (o := .cells #[.int .i64 a0_0, .int .i64 a0_1, .slice A0_2 l0_2.length c0_2] 24 (0, 0)) (by (with_reducible repeat (first | refine blk_drewN ?_ _ | refine blk_drew ?_ | refine blk_alloc ?_ _)); exact BK257.out)) : gb257 ≠ gb265)); have n8_ := Aside0.mk ((by rw [hg]; exact Nat.ne_of_gt (blk_lt (g := gb257) (o := .cells #[.int .i64 a0_0, .int .i64 a0_1, .slice A0_2 l0_2.length c0_2] 24 (0, 0)) (by (with_reducible repeat (first | refine blk_drewN ?_ _ | refine blk_drew ?_ | refine blk_alloc ?_ _)); exact BK257.out)) : gb265 ≠ gb257)); have n9_ := Aside0.mk ((by rw [hg]; exact Nat.ne_of_lt (blk_lt (g := gb258) (o := .cells #[.int .i64 a1_0, .int .i64 a1_1, .slice A1_2 l1_2.length c1_2] 24 (0, 0)) (by (with_reducible repeat (first | refine blk_drewN ?_ _ | refine blk_drew ?_ | refine blk_alloc ?_ _)); exact BK258.out)) : gb258 ≠ gb265)); have n10_ := Aside0.mk ((by rw [hg]; exact Nat.ne_of_gt (blk_lt (g := gb258) (o := .cells #[.int .i64 a1_0, .int .i64 a1_1, .slice A1_2 l1_2.length c1_2] 24 (0, 0)) (by (with_reducible repeat (first | refine blk_drewN ?_ _ | refine blk_drew ?_ | refine blk_alloc ?_ _)); exact BK258.out)) : gb265 ≠ gb258)); clear HO264; clear BK257; clear BK258; clear HB; have HO264 := n0_; have BK257 := n1_; have BK258 := n2_; have HB := n3_; have BK265 := n4_; have GW265 := n5_; have GE265 := n6_; have NB257_265 := n7_; have NB265_257 := n8_; have NB258_265 := n9_; have NB265_258 := n10_; clear n0_ n1_ n2_ n3_ n4_ n5_ n6_ n7_ n8_ n9_ n10_; clear hb hbox hg; have hnb30 := NB265_257.out; have hnc30 := NB257_265.out; have hnb31 := NB265_258.out; have hnc31 := NB258_265.out; have hcz32_0 : w29.cell? ⟨gb265, 0, none⟩ = some (.int .i64 0) := (blk_cell BK265.out 0).trans rfl; have hcz32_1 : w29.cell? ⟨gb265, 1, none⟩ = some (.int .i64 0) := (blk_cell BK265.out 1).trans rfl; have hcz32_2 : w29.cell? ⟨gb265, 2, none⟩ = some (.slice none 0 0) := (blk_cell BK265.out 2).trans rfl; have hfz32_0 := blk_frozen BK265.out 0; have hfz32_1 := blk_frozen BK265.out 1; have hfz32_2 := blk_frozen BK265.out 2; obtain ⟨Ao33, co33, eo33⟩ := Kd.R_slice HO264.out; subst eo33) | ((with_reducible refine gate_callee (f := 6) rfl ?_); refine goesL_ (some 40) rfl rfl Tryz.func6 (by kernel_rfl) rfl #[.agg #[.int .i64 t260, .int .i64 t261, .slice Ao33 t262.length co33]] rfl (by (try simp only [List.map_toArray, List.map_cons, List.map_nil]); first | done | rfl | (simp only [List.length_drop, List.length_take]; rfl)) ?_; (with_reducible refine (state_Encode.calls kj3 t260 t261 _ _ t262 t266 t269 _ ?side1 ?side2 A17.out).mono ?_); (case side1 => refine (Kd.R_reads' (e := 3) (base := w.heap.size) (ok := fun k_ => True) (n := t262.length) (c := co33) ?_).2.2; exact (by (with_reducible repeat (first | apply Kd.R_alloc | apply Kd.R_drewN | apply Kd.R_drew)); exact (Kd.R_mono (Kd.R_far (p := ⟨gb265, 2, none⟩) (Kd.R_far (p := ⟨gb265, 1, none⟩) (Kd.R_far (p := ⟨gb265, 0, none⟩) (Kd.R_types HO264.out BK265.out (by decide)) (fun _ hk => hk.2) (.int .i64 t260)) (fun _ hk => hk.2) (.int .i64 t261)) (fun _ hk => hk.2) (.slice Ao33 t262.length co33)) (fun _ h_ => h_.1)))); (case side2 => exact (Kd.R_reads' HO264.out).2.1); rintro e w34 ⟨v267, rfl, ho0, hb⟩; refine ⟨_, rfl, ?_⟩; have n0_ := Aside0.mk (Kd.R_below (by (with_reducible repeat (first | apply Kd.R_alloc | apply Kd.R_drewN | apply Kd.R_drew)); exact (Kd.R_mono (Kd.R_far (p := ⟨gb265, 2, none⟩) (Kd.R_far (p := ⟨gb265, 1, none⟩) (Kd.R_far (p := ⟨gb265, 0, none⟩) (Kd.R_types HO264.out BK265.out (by decide)) (fun _ hk => hk.2) (.int .i64 t260)) (fun _ hk => hk.2) (.int .i64 t261)) (fun _ hk => hk.2) (.slice Ao33 t262.length co33)) (fun _ h_ => h_.1))) hb); have n1_ := Aside0.mk (Kd.R_lower ho0 (below_size (by repeat (first | (with_reducible first | exact HB.out | apply below_alloc | apply pw_below_drewN | apply below_drew1 | refine below_set ?_ GE257.out | refine below_set ?_ GE258.out | refine below_set ?_ GE265.out) | exact HB.out)))); have n2_ := Aside0.mk (blk_below (g := gb257) (o := .cells #[.int .i64 a0_0, .int .i64 a0_1, .slice A0_2 l0_2.length c0_2] 24 (0, 0)) (by (with_reducible repeat (first | refine blk_drewN ?_ _ | refine blk_drew ?_ | refine blk_alloc ?_ _)); refine blk_far ?_ NB257_265.out _; (with_reducible repeat (first | refine blk_drewN ?_ _ | refine blk_drew ?_ | refine blk_alloc ?_ _)); refine blk_far ?_ NB257_265.out _; (with_reducible repeat (first | refine blk_drewN ?_ _ | refine blk_drew ?_ | refine blk_alloc ?_ _)); refine blk_far ?_ NB257_265.out _; (with_reducible repeat (first | refine blk_drewN ?_ _ | refine blk_drew ?_ | refine blk_alloc ?_ _)); exact BK257.out) hb); have n3_ := Aside0.mk (blk_below (g := gb258) (o := .cells #[.int .i64 a1_0, .int .i64 a1_1, .slice A1_2 l1_2.length c1_2] 24 (0, 0)) (by (with_reducible repeat (first | refine blk_drewN ?_ _ | refine blk_drew ?_ | refine blk_alloc ?_ _)); refine blk_far ?_ NB258_265.out _; (with_reducible repeat (first | refine blk_drewN ?_ _ | refine blk_drew ?_ | refine blk_alloc ?_ _)); refine blk_far ?_ NB258_265.out _; (with_reducible repeat (first | refine blk_drewN ?_ _ | refine blk_drew ?_ | refine blk_alloc ?_ _)); refine blk_far ?_ NB258_265.out _; (with_reducible repeat (first | refine blk_drewN ?_ _ | refine blk_drew ?_ | refine blk_alloc ?_ _)); exact BK258.out) hb); have n4_ := Aside0.mk (blk_below (g := gb265) (o := .cells #[.int .i64 t260, .int .i64 t261, .slice Ao33 t262.length co33] 24 (0, 0)) (by (with_reducible repeat (first | refine blk_drewN ?_ _ | refine blk_drew ?_ | refine blk_alloc ?_ _)); refine blk_put (cs := #[.int .i64 t260, .int .i64 t261, .slice none 0 0]) ?_ 2 _ rfl; (with_reducible repeat (first | refine blk_drewN ?_ _ | refine blk_drew ?_ | refine blk_alloc ?_ _)); refine blk_put (cs := #[.int .i64 t260, .int .i64 0, .slice none 0 0]) ?_ 1 _ rfl; (with_reducible repeat (first | refine blk_drewN ?_ _ | refine blk_drew ?_ | refine blk_alloc ?_ _)); refine blk_put (cs := #[.int .i64 0, .int .i64 0, .slice none 0 0]) ?_ 0 _ rfl; (with_reducible repeat (first | refine blk_drewN ?_ _ | refine blk_drew ?_ | refine blk_alloc ?_ _)); exact BK265.out) hb); have n5_ := Aside0.mk (below_step (by repeat (first | (with_reducible first | exact HB.out | apply below_alloc | apply pw_below_drewN | apply below_drew1 | refine below_set ?_ GE257.out | refine below_set ?_ GE258.out | refine below_set ?_ GE265.out) | exact HB.out)) hb); clear HO264; clear BK257; clear BK258; clear BK265; clear HB; have HO264 := n0_; have HO268 := n1_; have BK257 := n2_; have BK258 := n3_; have BK265 := n4_; have HB := n5_; clear n0_ n1_ n2_ n3_ n4_ n5_; (try clear hb); (try clear hb2); (try clear hk); (try clear hi); (try clear ho0); have hcz35_0 : w34.cell? ⟨gb257, 0, none⟩ = some (.int .i64 a0_0) := (blk_cell BK257.out 0).trans rfl; have hcz35_1 : w34.cell? ⟨gb257, 1, none⟩ = some (.int .i64 a0_1) := (blk_cell BK257.out 1).trans rfl; have hcz35_2 : w34.cell? ⟨gb257, 2, none⟩ = some (.slice A0_2 l0_2.length c0_2) := (blk_cell BK257.out 2).trans rfl; have hfz35_0 := blk_frozen BK257.out 0; have hfz35_1 := blk_frozen BK257.out 1; have hfz35_2 := blk_frozen BK257.out 2) | ((with_reducible refine gate_callee (f := 7) rfl ?_); refine goesL_ (some 45) rfl rfl Tryz.func7 (by kernel_rfl) rfl #[.agg #[.int .i64 a0_0, .int .i64 a0_1, .slice A0_2 l0_2.length c0_2]] rfl (by (try simp only [List.map_toArray, List.map_cons, List.map_nil]); first | done | rfl | (simp only [List.length_drop, List.length_take]; rfl)) ?_; (with_reducible refine (armisticeref05_Encode.calls kj3 a0_0 a0_1 _ _ l0_2 t270 t273 _ ?side1 ?side2 A18.out).mono ?_); (case side1 => repeat (first | exact (Kd.C_below HR0_2.out HB.out) | (with_reducible refine Kd.C_alloc ?_ _) | (with_reducible refine Kd.C_drewN ?_ _) | (with_reducible refine Kd.C_drew ?_))); (case side2 => exact HC0_2.out); rintro e w36 ⟨v271, rfl, ho0, hb⟩; refine ⟨_, rfl, ?_⟩; have n0_ := Aside0.mk (Kd.R_below (by (with_reducible repeat (first | apply Kd.R_alloc | apply Kd.R_drewN | apply Kd.R_drew)); exact HO264.out) hb); have n1_ := Aside0.mk (Kd.R_elder' (by (with_reducible repeat (first | apply Kd.R_alloc | apply Kd.R_drewN | apply Kd.R_drew)); exact HO268.out) (Kd.R_base ho0) hb); have n2_ := Aside0.mk (Kd.R_lower (Kd.R_new' ho0 (Kd.R_lt (by (with_reducible repeat (first | apply Kd.R_alloc | apply Kd.R_drewN | apply Kd.R_drew)); exact HO268.out))) (below_size (by repeat (first | (with_reducible first | exact HB.out | apply below_alloc | apply pw_below_drewN | apply below_drew1 | refine below_set ?_ GE257.out | refine below_set ?_ GE258.out | refine below_set ?_ GE265.out) | exact HB.out)))); have n3_ := Aside0.mk (blk_below (g := gb257) (o := .cells #[.int .i64 a0_0, .int .i64 a0_1, .slice A0_2 l0_2.length c0_2] 24 (0, 0)) (by (with_reducible repeat (first | refine blk_drewN ?_ _ | refine blk_drew ?_ | refine blk_alloc ?_ _)); exact BK257.out) hb); have n4_ := Aside0.mk (blk_below (g := gb258) (o := .cells #[.int .i64 a1_0, .int .i64 a1_1, .slice A1_2 l1_2.length c1_2] 24 (0, 0)) (by (with_reducible repeat (first | refine blk_drewN ?_ _ | refine blk_drew ?_ | refine blk_alloc ?_ _)); exact BK258.out) hb); have n5_ := Aside0.mk (blk_below (g := gb265) (o := .cells #[.int .i64 t260, .int .i64 t261, .slice Ao33 t262.length co33] 24 (0, 0)) (by (with_reducible repeat (first | refine blk_drewN ?_ _ | refine blk_drew ?_ | refine blk_alloc ?_ _)); exact BK265.out) hb); have n6_ := Aside0.mk (below_step (by repeat (first | (with_reducible first | exact HB.out | apply below_alloc | apply pw_below_drewN | apply below_drew1 | refine below_set ?_ GE257.out | refine below_set ?_ GE258.out | refine below_set ?_ GE265.out) | exact HB.out)) hb); clear HO264; clear HO268; clear BK257; clear BK258; clear BK265; clear HB; have HO264 := n0_; have HO268 := n1_; have HO272 := n2_; have BK257 := n3_; have BK258 := n4_; have BK265 := n5_; have HB := n6_; clear n0_ n1_ n2_ n3_ n4_ n5_ n6_; (try clear hb); (try clear hb2); (try clear hk); (try clear hi); (try clear ho0); have hcz37_0 : w36.cell? ⟨gb265, 0, none⟩ = some (.int .i64 t260) := (blk_cell BK265.out 0).trans rfl; have hcz37_1 : w36.cell? ⟨gb265, 1, none⟩ = some (.int .i64 t261) := (blk_cell BK265.out 1).trans rfl; have hcz37_2 : w36.cell? ⟨gb265, 2, none⟩ = some (.slice Ao33 t262.length co33) := (blk_cell BK265.out 2).trans rfl; have hfz37_0 := blk_frozen BK265.out 0; have hfz37_1 := blk_frozen BK265.out 1; have hfz37_2 := blk_frozen BK265.out 2) | ((with_reducible refine gate_callee (f := 8) rfl ?_); refine goesL_ (some 50) rfl rfl Tryz.func8 (by kernel_rfl) rfl #[.agg #[.int .i64 t260, .int .i64 t261, .slice Ao33 t262.length co33]] rfl (by (try simp only [List.map_toArray, List.map_cons, List.map_nil]); first | done | rfl | (simp only [List.length_drop, List.length_take]; rfl)) ?_; (with_reducible refine (state_Text.calls t260 t261 _ _ t262 t274 t275 _ ?side1 ?side2 A19.out).mono ?_); (case side1 => repeat (first | exact (Kd.R_reads' HO264.out).2.2 | (with_reducible refine Kd.C_alloc ?_ _) | (with_reducible refine Kd.C_drewN ?_ _) | (with_reducible refine Kd.C_drew ?_))); (case side2 => exact (Kd.R_reads' HO264.out).2.1); rintro e w38 ⟨rfl, hb⟩; refine ⟨_, rfl, ?_⟩; have n0_ := Aside0.mk (Kd.R_below (by (with_reducible repeat (first | apply Kd.R_alloc | apply Kd.R_drewN | apply Kd.R_drew)); exact HO264.out) hb); have n1_ := Aside0.mk (Kd.R_below (by (with_reducible repeat (first | apply Kd.R_alloc | apply Kd.R_drewN | apply Kd.R_drew)); exact HO268.out) hb); have n2_ := Aside0.mk (Kd.R_below (by (with_reducible repeat (first | apply Kd.R_alloc | apply Kd.R_drewN | apply Kd.R_drew)); exact HO272.out) hb); have n3_ := Aside0.mk (blk_below (g := gb257) (o := .cells #[.int .i64 a0_0, .int .i64 a0_1, .slice A0_2 l0_2.length c0_2] 24 (0, 0)) (by (with_reducible repeat (first | refine blk_drewN ?_ _ | refine blk_drew ?_ | refine blk_alloc ?_ _)); exact BK257.out) hb); have n4_ := Aside0.mk (blk_below (g := gb258) (o := .cells #[.int .i64 a1_0, .int .i64 a1_1, .slice A1_2 l1_2.length c1_2] 24 (0, 0)) (by (with_reducible repeat (first | refine blk_drewN ?_ _ | refine blk_drew ?_ | refine blk_alloc ?_ _)); exact BK258.out) hb); have n5_ := Aside0.mk (blk_below (g := gb265) (o := .cells #[.int .i64 t260, .int .i64 t261, .slice Ao33 t262.length co33] 24 (0, 0)) (by (with_reducible repeat (first | refine blk_drewN ?_ _ | refine blk_drew ?_ | refine blk_alloc ?_ _)); exact BK265.out) hb); have n6_ := Aside0.mk (below_step (by repeat (first | (with_reducible first | exact HB.out | apply below_alloc | apply pw_below_drewN | apply below_drew1 | refine below_set ?_ GE257.out | refine below_set ?_ GE258.out | refine below_set ?_ GE265.out) | exact HB.out)) hb); clear HO264; clear HO268; clear HO272; clear BK257; clear BK258; clear BK265; clear HB; have HO264 := n0_; have HO268 := n1_; have HO272 := n2_; have BK257 := n3_; have BK258 := n4_; have BK265 := n5_; have HB := n6_; clear n0_ n1_ n2_ n3_ n4_ n5_ n6_; (try clear hb); (try clear hb2); (try clear hk); (try clear hi); have hcz39_0 : w38.cell? ⟨gb257, 0, none⟩ = some (.int .i64 a0_0) := (blk_cell BK257.out 0).trans rfl; have hcz39_1 : w38.cell? ⟨gb257, 1, none⟩ = some (.int .i64 a0_1) := (blk_cell BK257.out 1).trans rfl; have hcz39_2 : w38.cell? ⟨gb257, 2, none⟩ = some (.slice A0_2 l0_2.length c0_2) := (blk_cell BK257.out 2).trans rfl; have hfz39_0 := blk_frozen BK257.out 0; have hfz39_1 := blk_frozen BK257.out 1; have hfz39_2 := blk_frozen BK257.out 2) | ((with_reducible refine gate_callee (f := 9) rfl ?_); refine goesL_ (some 55) rfl rfl Tryz.func9 (by kernel_rfl) rfl #[.agg #[.int .i64 a0_0, .int .i64 a0_1, .slice A0_2 l0_2.length c0_2]] rfl (by (try simp only [List.map_toArray, List.map_cons, List.map_nil]); first | done | rfl | (simp only [List.length_drop, List.length_take]; rfl)) ?_; (with_reducible refine (armisticeref05_Text.calls kj3 a0_0 a0_1 _ _ l0_2 t276 t277 _ ?side1 ?side2 A20.out).mono ?_); (case side1 => repeat (first | exact (Kd.C_below HR0_2.out HB.out) | (with_reducible refine Kd.C_alloc ?_ _) | (with_reducible refine Kd.C_drewN ?_ _) | (with_reducible refine Kd.C_drew ?_))); (case side2 => exact HC0_2.out); rintro e w40 ⟨rfl, hb⟩; refine ⟨_, rfl, ?_⟩; have n0_ := Aside0.mk (Kd.R_below (by (with_reducible repeat (first | apply Kd.R_alloc | apply Kd.R_drewN | apply Kd.R_drew)); exact HO264.out) hb); have n1_ := Aside0.mk (Kd.R_below (by (with_reducible repeat (first | apply Kd.R_alloc | apply Kd.R_drewN | apply Kd.R_drew)); exact HO268.out) hb); have n2_ := Aside0.mk (Kd.R_below (by (with_reducible repeat (first | apply Kd.R_alloc | apply Kd.R_drewN | apply Kd.R_drew)); exact HO272.out) hb); have n3_ := Aside0.mk (blk_below (g := gb257) (o := .cells #[.int .i64 a0_0, .int .i64 a0_1, .slice A0_2 l0_2.length c0_2] 24 (0, 0)) (by (with_reducible repeat (first | refine blk_drewN ?_ _ | refine blk_drew ?_ | refine blk_alloc ?_ _)); exact BK257.out) hb); have n4_ := Aside0.mk (blk_below (g := gb258) (o := .cells #[.int .i64 a1_0, .int .i64 a1_1, .slice A1_2 l1_2.length c1_2] 24 (0, 0)) (by (with_reducible repeat (first | refine blk_drewN ?_ _ | refine blk_drew ?_ | refine blk_alloc ?_ _)); exact BK258.out) hb); have n5_ := Aside0.mk (blk_below (g := gb265) (o := .cells #[.int .i64 t260, .int .i64 t261, .slice Ao33 t262.length co33] 24 (0, 0)) (by (with_reducible repeat (first | refine blk_drewN ?_ _ | refine blk_drew ?_ | refine blk_alloc ?_ _)); exact BK265.out) hb); have n6_ := Aside0.mk (below_step (by repeat (first | (with_reducible first | exact HB.out | apply below_alloc | apply pw_below_drewN | apply below_drew1 | refine below_set ?_ GE257.out | refine below_set ?_ GE258.out | refine below_set ?_ GE265.out) | exact HB.out)) hb); clear HO264; clear HO268; clear HO272; clear BK257; clear BK258; clear BK265; clear HB; have HO264 := n0_; have HO268 := n1_; have HO272 := n2_; have BK257 := n3_; have BK258 := n4_; have BK265 := n5_; have HB := n6_; clear n0_ n1_ n2_ n3_ n4_ n5_ n6_; (try clear hb); (try clear hb2); (try clear hk); (try clear hi)) | ((with_reducible refine gate_callee (f := 10) rfl ?_); refine goesL_ (some 60) rfl rfl Tryz.func10 (by kernel_rfl) rfl #[.int .i64 a2] rfl (by (try simp only [List.map_toArray, List.map_cons, List.map_nil]); first | done | rfl | (simp only [List.length_drop, List.length_take]; rfl)) ?_; (with_reducible refine (state_Empty.calls a2 t278 t279 t280 t283 _ A21.out).mono ?_); rintro e w41 ⟨v281, rfl, ho0, hb⟩; refine ⟨_, rfl, ?_⟩; have n0_ := Aside0.mk (Kd.R_elder' (by (with_reducible repeat (first | apply Kd.R_alloc | apply Kd.R_drewN | apply Kd.R_drew)); exact HO264.out) (Kd.R_base ho0) hb); have n1_ := Aside0.mk (Kd.R_below (by (with_reducible repeat (first | apply Kd.R_alloc | apply Kd.R_drewN | apply Kd.R_drew)); exact HO268.out) hb); have n2_ := Aside0.mk (Kd.R_below (by (with_reducible repeat (first | apply Kd.R_alloc | apply Kd.R_drewN | apply Kd.R_drew)); exact HO272.out) hb); have n3_ := Aside0.mk (Kd.R_lower (Kd.R_new' ho0 (Kd.R_lt (by (with_reducible repeat (first | apply Kd.R_alloc | apply Kd.R_drewN | apply Kd.R_drew)); exact HO264.out))) (below_size (by repeat (first | (with_reducible first | exact HB.out | apply below_alloc | apply pw_below_drewN | apply below_drew1 | refine below_set ?_ GE257.out | refine below_set ?_ GE258.out | refine below_set ?_ GE265.out) | exact HB.out)))); have n4_ := Aside0.mk (blk_below (g := gb257) (o := .cells #[.int .i64 a0_0, .int .i64 a0_1, .slice A0_2 l0_2.length c0_2] 24 (0, 0)) (by (with_reducible repeat (first | refine blk_drewN ?_ _ | refine blk_drew ?_ | refine blk_alloc ?_ _)); exact BK257.out) hb); have n5_ := Aside0.mk (blk_below (g := gb258) (o := .cells #[.int .i64 a1_0, .int .i64 a1_1, .slice A1_2 l1_2.length c1_2] 24 (0, 0)) (by (with_reducible repeat (first | refine blk_drewN ?_ _ | refine blk_drew ?_ | refine blk_alloc ?_ _)); exact BK258.out) hb); have n6_ := Aside0.mk (blk_below (g := gb265) (o := .cells #[.int .i64 t260, .int .i64 t261, .slice Ao33 t262.length co33] 24 (0, 0)) (by (with_reducible repeat (first | refine blk_drewN ?_ _ | refine blk_drew ?_ | refine blk_alloc ?_ _)); exact BK265.out) hb); have n7_ := Aside0.mk (below_step (by repeat (first | (with_reducible first | exact HB.out | apply below_alloc | apply pw_below_drewN | apply below_drew1 | refine below_set ?_ GE257.out | refine below_set ?_ GE258.out | refine below_set ?_ GE265.out) | exact HB.out)) hb); clear HO264; clear HO268; clear HO272; clear BK257; clear BK258; clear BK265; clear HB; have HO264 := n0_; have HO268 := n1_; have HO272 := n2_; have HO282 := n3_; have BK257 := n4_; have BK258 := n5_; have BK265 := n6_; have HB := n7_; clear n0_ n1_ n2_ n3_ n4_ n5_ n6_ n7_; (try clear hb); (try clear hb2); (try clear hk); (try clear hi); (try clear ho0)) | ((with_reducible refine gate_dst (N := 16) rfl ?_); (try (refine gate_guard (by rfl) ?_; dsimp only)); refine box_event ?hg (N := 16) ?hd (cs := #[.int .i64 0, .int .i64 0, .slice none 0 0]) (t := 24) ?hr ?_; (case hd => rfl); (case hg => rfl); (case hr => first | (go_simp; done) | (go_simp; rfl)); intro gb284 hg w42 hbox hb; have n0_ := Aside0.mk (Kd.R_below (by (with_reducible repeat (first | apply Kd.R_alloc | apply Kd.R_drewN | apply Kd.R_drew)); exact HO264.out) hb); have n1_ := Aside0.mk (Kd.R_below (by (with_reducible repeat (first | apply Kd.R_alloc | apply Kd.R_drewN | apply Kd.R_drew)); exact HO268.out) hb); have n2_ := Aside0.mk (Kd.R_below (by (with_reducible repeat (first | apply Kd.R_alloc | apply Kd.R_drewN | apply Kd.R_drew)); exact HO272.out) hb); have n3_ := Aside0.mk (Kd.R_below (by (with_reducible repeat (first | apply Kd.R_alloc | apply Kd.R_drewN | apply Kd.R_drew)); exact HO282.out) hb); have n4_ := Aside0.mk (blk_below (g := gb257) (o := .cells #[.int .i64 a0_0, .int .i64 a0_1, .slice A0_2 l0_2.length c0_2] 24 (0, 0)) (by (with_reducible repeat (first | refine blk_drewN ?_ _ | refine blk_drew ?_ | refine blk_alloc ?_ _)); exact BK257.out) hb); have n5_ := Aside0.mk (blk_below (g := gb258) (o := .cells #[.int .i64 a1_0, .int .i64 a1_1, .slice A1_2 l1_2.length c1_2] 24 (0, 0)) (by (with_reducible repeat (first | refine blk_drewN ?_ _ | refine blk_drew ?_ | refine blk_alloc ?_ _)); exact BK258.out) hb); have n6_ := Aside0.mk (blk_below (g := gb265) (o := .cells #[.int .i64 t260, .int .i64 t261, .slice Ao33 t262.length co33] 24 (0, 0)) (by (with_reducible repeat (first | refine blk_drewN ?_ _ | refine blk_drew ?_ | refine blk_alloc ?_ _)); exact BK265.out) hb); have n7_ := Aside0.mk (below_step (by repeat (first | (with_reducible first | exact HB.out | apply below_alloc | apply pw_below_drewN | apply below_drew1 | refine below_set ?_ GE257.out | refine below_set ?_ GE258.out | refine below_set ?_ GE265.out) | exact HB.out)) hb); have n8_ := Aside0.mk (hbox); have n9_ := Aside0.mk ((by rw [hg]; exact (below_size (by repeat (first | (with_reducible first | exact HB.out | apply below_alloc | apply pw_below_drewN | apply below_drew1 | refine below_set ?_ GE257.out | refine below_set ?_ GE258.out | refine below_set ?_ GE265.out) | exact HB.out))) : w.heap.size ≤ gb284)); have n10_ := Aside0.mk ((by rw [hg]; exact (below_size (by repeat (first | (with_reducible first | exact HB.out | apply below_alloc | apply pw_below_drewN | apply below_drew1 | refine below_set ?_ GE257.out | refine below_set ?_ GE258.out | refine below_set ?_ GE265.out) | exact HB.out))) : w.heap.size ≤ gb284)); have n11_ := Aside0.mk ((by rw [hg]; exact Nat.ne_of_lt (blk_lt (g := gb257) (o := .cells #[.int .i64 a0_0, .int .i64 a0_1, .slice A0_2 l0_2.length c0_2] 24 (0, 0)) (by (with_reducible repeat (first | refine blk_drewN ?_ _ | refine blk_drew ?_ | refine blk_alloc ?_ _)); exact BK257.out)) : gb257 ≠ gb284)); have n12_ := Aside0.mk ((by rw [hg]; exact Nat.ne_of_gt (blk_lt (g := gb257) (o := .cells #[.int .i64 a0_0, .int .i64 a0_1, .slice A0_2 l0_2.length c0_2] 24 (0, 0)) (by (with_reducible repeat (first | refine blk_drewN ?_ _ | refine blk_drew ?_ | refine blk_alloc ?_ _)); exact BK257.out)) : gb284 ≠ gb257)); have n13_ := Aside0.mk ((by rw [hg]; exact Nat.ne_of_lt (blk_lt (g := gb258) (o := .cells #[.int .i64 a1_0, .int .i64 a1_1, .slice A1_2 l1_2.length c1_2] 24 (0, 0)) (by (with_reducible repeat (first | refine blk_drewN ?_ _ | refine blk_drew ?_ | refine blk_alloc ?_ _)); exact BK258.out)) : gb258 ≠ gb284)); have n14_ := Aside0.mk ((by rw [hg]; exact Nat.ne_of_gt (blk_lt (g := gb258) (o := .cells #[.int .i64 a1_0, .int .i64 a1_1, .slice A1_2 l1_2.length c1_2] 24 (0, 0)) (by (with_reducible repeat (first | refine blk_drewN ?_ _ | refine blk_drew ?_ | refine blk_alloc ?_ _)); exact BK258.out)) : gb284 ≠ gb258)); have n15_ := Aside0.mk ((by rw [hg]; exact Nat.ne_of_lt (blk_lt (g := gb265) (o := .cells #[.int .i64 t260, .int .i64 t261, .slice Ao33 t262.length co33] 24 (0, 0)) (by (with_reducible repeat (first | refine blk_drewN ?_ _ | refine blk_drew ?_ | refine blk_alloc ?_ _)); exact BK265.out)) : gb265 ≠ gb284)); have n16_ := Aside0.mk ((by rw [hg]; exact Nat.ne_of_gt (blk_lt (g := gb265) (o := .cells #[.int .i64 t260, .int .i64 t261, .slice Ao33 t262.length co33] 24 (0, 0)) (by (with_reducible repeat (first | refine blk_drewN ?_ _ | refine blk_drew ?_ | refine blk_alloc ?_ _)); exact BK265.out)) : gb284 ≠ gb265)); clear HO264; clear HO268; clear HO272; clear HO282; clear BK257; clear BK258; clear BK265; clear HB; have HO264 := n0_; have HO268 := n1_; have HO272 := n2_; have HO282 := n3_; have BK257 := n4_; have BK258 := n5_; have BK265 := n6_; have HB := n7_; have BK284 := n8_; have GW284 := n9_; have GE284 := n10_; have NB257_284 := n11_; have NB284_257 := n12_; have NB258_284 := n13_; have NB284_258 := n14_; have NB265_284 := n15_; have NB284_265 := n16_; clear n0_ n1_ n2_ n3_ n4_ n5_ n6_ n7_ n8_ n9_ n10_ n11_ n12_ n13_ n14_ n15_ n16_; clear hb hbox hg; have hnb43 := NB284_257.out; have hnc43 := NB257_284.out; have hnb44 := NB284_258.out; have hnc44 := NB258_284.out; have hnb45 := NB284_265.out; have hnc45 := NB265_284.out; have hcz46_0 : w42.cell? ⟨gb284, 0, none⟩ = some (.int .i64 0) := (blk_cell BK284.out 0).trans rfl; have hcz46_1 : w42.cell? ⟨gb284, 1, none⟩ = some (.int .i64 0) := (blk_cell BK284.out 1).trans rfl; have hcz46_2 : w42.cell? ⟨gb284, 2, none⟩ = some (.slice none 0 0) := (blk_cell BK284.out 2).trans rfl; have hfz46_0 := blk_frozen BK284.out 0; have hfz46_1 := blk_frozen BK284.out 1; have hfz46_2 := blk_frozen BK284.out 2; obtain ⟨Ao47, co47, eo47⟩ := Kd.R_slice HO282.out; subst eo47) | ((with_reducible refine gate_callee (f := 11) rfl ?_); refine goesL_ (some 65) rfl rfl Tryz.func11 (by kernel_rfl) rfl #[.int .i64 a2] rfl (by (try simp only [List.map_toArray, List.map_cons, List.map_nil]); first | done | rfl | (simp only [List.length_drop, List.length_take]; rfl)) ?_; (with_reducible refine (armisticeref05_Empty.calls a2 t285 t286 t287 t290 _ A22.out).mono ?_); rintro e w48 ⟨v288, rfl, ho0, hb⟩; refine ⟨_, rfl, ?_⟩; have n0_ := Aside0.mk (Kd.R_elder' (by (with_reducible repeat (first | apply Kd.R_alloc | apply Kd.R_drewN | apply Kd.R_drew)); exact (Kd.R_mono (Kd.R_far (p := ⟨gb284, 2, none⟩) (Kd.R_far (p := ⟨gb284, 1, none⟩) (Kd.R_far (p := ⟨gb284, 0, none⟩) (Kd.R_types HO264.out BK284.out (by decide)) (fun _ hk => hk.2) (.int .i64 t278)) (fun _ hk => hk.2) (.int .i64 t279)) (fun _ hk => hk.2) (.slice Ao47 t280.length co47)) (fun _ h_ => h_.1))) (Kd.R_base ho0) hb); have n1_ := Aside0.mk (Kd.R_below (by (with_reducible repeat (first | apply Kd.R_alloc | apply Kd.R_drewN | apply Kd.R_drew)); exact (Kd.R_mono (Kd.R_far (p := ⟨gb284, 2, none⟩) (Kd.R_far (p := ⟨gb284, 1, none⟩) (Kd.R_far (p := ⟨gb284, 0, none⟩) (Kd.R_types HO268.out BK284.out (by decide)) (fun _ hk => hk.2) (.int .i64 t278)) (fun _ hk => hk.2) (.int .i64 t279)) (fun _ hk => hk.2) (.slice Ao47 t280.length co47)) (fun _ h_ => h_.1))) hb); have n2_ := Aside0.mk (Kd.R_below (by (with_reducible repeat (first | apply Kd.R_alloc | apply Kd.R_drewN | apply Kd.R_drew)); exact (Kd.R_mono (Kd.R_far (p := ⟨gb284, 2, none⟩) (Kd.R_far (p := ⟨gb284, 1, none⟩) (Kd.R_far (p := ⟨gb284, 0, none⟩) (Kd.R_types HO272.out BK284.out (by decide)) (fun _ hk => hk.2) (.int .i64 t278)) (fun _ hk => hk.2) (.int .i64 t279)) (fun _ hk => hk.2) (.slice Ao47 t280.length co47)) (fun _ h_ => h_.1))) hb); have n3_ := Aside0.mk (Kd.R_elder' (by (with_reducible repeat (first | apply Kd.R_alloc | apply Kd.R_drewN | apply Kd.R_drew)); exact (Kd.R_mono (Kd.R_far (p := ⟨gb284, 2, none⟩) (Kd.R_far (p := ⟨gb284, 1, none⟩) (Kd.R_far (p := ⟨gb284, 0, none⟩) (Kd.R_types HO282.out BK284.out (by decide)) (fun _ hk => hk.2) (.int .i64 t278)) (fun _ hk => hk.2) (.int .i64 t279)) (fun _ hk => hk.2) (.slice Ao47 t280.length co47)) (fun _ h_ => h_.1))) (Kd.R_base ho0) hb); have n4_ := Aside0.mk (Kd.R_lower (Kd.R_new' (Kd.R_new' ho0 (Kd.R_lt (by (with_reducible repeat (first | apply Kd.R_alloc | apply Kd.R_drewN | apply Kd.R_drew)); exact (Kd.R_mono (Kd.R_far (p := ⟨gb284, 2, none⟩) (Kd.R_far (p := ⟨gb284, 1, none⟩) (Kd.R_far (p := ⟨gb284, 0, none⟩) (Kd.R_types HO264.out BK284.out (by decide)) (fun _ hk => hk.2) (.int .i64 t278)) (fun _ hk => hk.2) (.int .i64 t279)) (fun _ hk => hk.2) (.slice Ao47 t280.length co47)) (fun _ h_ => h_.1))))) (Kd.R_lt (by (with_reducible repeat (first | apply Kd.R_alloc | apply Kd.R_drewN | apply Kd.R_drew)); exact (Kd.R_mono (Kd.R_far (p := ⟨gb284, 2, none⟩) (Kd.R_far (p := ⟨gb284, 1, none⟩) (Kd.R_far (p := ⟨gb284, 0, none⟩) (Kd.R_types HO282.out BK284.out (by decide)) (fun _ hk => hk.2) (.int .i64 t278)) (fun _ hk => hk.2) (.int .i64 t279)) (fun _ hk => hk.2) (.slice Ao47 t280.length co47)) (fun _ h_ => h_.1))))) (below_size (by repeat (first | (with_reducible first | exact HB.out | apply below_alloc | apply pw_below_drewN | apply below_drew1 | refine below_set ?_ GE257.out | refine below_set ?_ GE258.out | refine below_set ?_ GE265.out | refine below_set ?_ GE284.out) | exact HB.out)))); have n5_ := Aside0.mk (blk_below (g := gb257) (o := .cells #[.int .i64 a0_0, .int .i64 a0_1, .slice A0_2 l0_2.length c0_2] 24 (0, 0)) (by (with_reducible repeat (first | refine blk_drewN ?_ _ | refine blk_drew ?_ | refine blk_alloc ?_ _)); refine blk_far ?_ NB257_284.out _; (with_reducible repeat (first | refine blk_drewN ?_ _ | refine blk_drew ?_ | refine blk_alloc ?_ _)); refine blk_far ?_ NB257_284.out _; (with_reducible repeat (first | refine blk_drewN ?_ _ | refine blk_drew ?_ | refine blk_alloc ?_ _)); refine blk_far ?_ NB257_284.out _; (with_reducible repeat (first | refine blk_drewN ?_ _ | refine blk_drew ?_ | refine blk_alloc ?_ _)); exact BK257.out) hb); have n6_ := Aside0.mk (blk_below (g := gb258) (o := .cells #[.int .i64 a1_0, .int .i64 a1_1, .slice A1_2 l1_2.length c1_2] 24 (0, 0)) (by (with_reducible repeat (first | refine blk_drewN ?_ _ | refine blk_drew ?_ | refine blk_alloc ?_ _)); refine blk_far ?_ NB258_284.out _; (with_reducible repeat (first | refine blk_drewN ?_ _ | refine blk_drew ?_ | refine blk_alloc ?_ _)); refine blk_far ?_ NB258_284.out _; (with_reducible repeat (first | refine blk_drewN ?_ _ | refine blk_drew ?_ | refine blk_alloc ?_ _)); refine blk_far ?_ NB258_284.out _; (with_reducible repeat (first | refine blk_drewN ?_ _ | refine blk_drew ?_ | refine blk_alloc ?_ _)); exact BK258.out) hb); have n7_ := Aside0.mk (blk_below (g := gb265) (o := .cells #[.int .i64 t260, .int .i64 t261, .slice Ao33 t262.length co33] 24 (0, 0)) (by (with_reducible repeat (first | refine blk_drewN ?_ _ | refine blk_drew ?_ | refine blk_alloc ?_ _)); refine blk_far ?_ NB265_284.out _; (with_reducible repeat (first | refine blk_drewN ?_ _ | refine blk_drew ?_ | refine blk_alloc ?_ _)); refine blk_far ?_ NB265_284.out _; (with_reducible repeat (first | refine blk_drewN ?_ _ | refine blk_drew ?_ | refine blk_alloc ?_ _)); refine blk_far ?_ NB265_284.out _; (with_reducible repeat (first | refine blk_drewN ?_ _ | refine blk_drew ?_ | refine blk_alloc ?_ _)); exact BK265.out) hb); have n8_ := Aside0.mk (blk_below (g := gb284) (o := .cells #[.int .i64 t278, .int .i64 t279, .slice Ao47 t280.length co47] 24 (0, 0)) (by (with_reducible repeat (first | refine blk_drewN ?_ _ | refine blk_drew ?_ | refine blk_alloc ?_ _)); refine blk_put (cs := #[.int .i64 t278, .int .i64 t279, .slice none 0 0]) ?_ 2 _ rfl; (with_reducible repeat (first | refine blk_drewN ?_ _ | refine blk_drew ?_ | refine blk_alloc ?_ _)); refine blk_put (cs := #[.int .i64 t278, .int .i64 0, .slice none 0 0]) ?_ 1 _ rfl; (with_reducible repeat (first | refine blk_drewN ?_ _ | refine blk_drew ?_ | refine blk_alloc ?_ _)); refine blk_put (cs := #[.int .i64 0, .int .i64 0, .slice none 0 0]) ?_ 0 _ rfl; (with_reducible repeat (first | refine blk_drewN ?_ _ | refine blk_drew ?_ | refine blk_alloc ?_ _)); exact BK284.out) hb); have n9_ := Aside0.mk (below_step (by repeat (first | (with_reducible first | exact HB.out | apply below_alloc | apply pw_below_drewN | apply below_drew1 | refine below_set ?_ GE257.out | refine below_set ?_ GE258.out | refine below_set ?_ GE265.out | refine below_set ?_ GE284.out) | exact HB.out)) hb); clear HO264; clear HO268; clear HO272; clear HO282; clear BK257; clear BK258; clear BK265; clear BK284; clear HB; have HO264 := n0_; have HO268 := n1_; have HO272 := n2_; have HO282 := n3_; have HO289 := n4_; have BK257 := n5_; have BK258 := n6_; have BK265 := n7_; have BK284 := n8_; have HB := n9_; clear n0_ n1_ n2_ n3_ n4_ n5_ n6_ n7_ n8_ n9_; (try clear hb); (try clear hb2); (try clear hk); (try clear hi); (try clear ho0)) | ((with_reducible refine gate_dst (N := 18) rfl ?_); (try (refine gate_guard (by rfl) ?_; dsimp only)); refine box_event ?hg (N := 18) ?hd (cs := #[.int .i64 0, .int .i64 0, .slice none 0 0]) (t := 24) ?hr ?_; (case hd => rfl); (case hg => rfl); (case hr => first | (go_simp; done) | (go_simp; rfl)); intro gb291 hg w49 hbox hb; have n0_ := Aside0.mk (Kd.R_below (by (with_reducible repeat (first | apply Kd.R_alloc | apply Kd.R_drewN | apply Kd.R_drew)); exact HO264.out) hb); have n1_ := Aside0.mk (Kd.R_below (by (with_reducible repeat (first | apply Kd.R_alloc | apply Kd.R_drewN | apply Kd.R_drew)); exact HO268.out) hb); have n2_ := Aside0.mk (Kd.R_below (by (with_reducible repeat (first | apply Kd.R_alloc | apply Kd.R_drewN | apply Kd.R_drew)); exact HO272.out) hb); have n3_ := Aside0.mk (Kd.R_below (by (with_reducible repeat (first | apply Kd.R_alloc | apply Kd.R_drewN | apply Kd.R_drew)); exact HO282.out) hb); have n4_ := Aside0.mk (Kd.R_below (by (with_reducible repeat (first | apply Kd.R_alloc | apply Kd.R_drewN | apply Kd.R_drew)); exact HO289.out) hb); have n5_ := Aside0.mk (blk_below (g := gb257) (o := .cells #[.int .i64 a0_0, .int .i64 a0_1, .slice A0_2 l0_2.length c0_2] 24 (0, 0)) (by (with_reducible repeat (first | refine blk_drewN ?_ _ | refine blk_drew ?_ | refine blk_alloc ?_ _)); exact BK257.out) hb); have n6_ := Aside0.mk (blk_below (g := gb258) (o := .cells #[.int .i64 a1_0, .int .i64 a1_1, .slice A1_2 l1_2.length c1_2] 24 (0, 0)) (by (with_reducible repeat (first | refine blk_drewN ?_ _ | refine blk_drew ?_ | refine blk_alloc ?_ _)); exact BK258.out) hb); have n7_ := Aside0.mk (blk_below (g := gb265) (o := .cells #[.int .i64 t260, .int .i64 t261, .slice Ao33 t262.length co33] 24 (0, 0)) (by (with_reducible repeat (first | refine blk_drewN ?_ _ | refine blk_drew ?_ | refine blk_alloc ?_ _)); exact BK265.out) hb); have n8_ := Aside0.mk (blk_below (g := gb284) (o := .cells #[.int .i64 t278, .int .i64 t279, .slice Ao47 t280.length co47] 24 (0, 0)) (by (with_reducible repeat (first | refine blk_drewN ?_ _ | refine blk_drew ?_ | refine blk_alloc ?_ _)); exact BK284.out) hb); have n9_ := Aside0.mk (below_step (by repeat (first | (with_reducible first | exact HB.out | apply below_alloc | apply pw_below_drewN | apply below_drew1 | refine below_set ?_ GE257.out | refine below_set ?_ GE258.out | refine below_set ?_ GE265.out | refine below_set ?_ GE284.out) | exact HB.out)) hb); have n10_ := Aside0.mk (hbox); have n11_ := Aside0.mk ((by rw [hg]; exact (below_size (by repeat (first | (with_reducible first | exact HB.out | apply below_alloc | apply pw_below_drewN | apply below_drew1 | refine below_set ?_ GE257.out | refine below_set ?_ GE258.out | refine below_set ?_ GE265.out | refine below_set ?_ GE284.out) | exact HB.out))) : w.heap.size ≤ gb291)); have n12_ := Aside0.mk ((by rw [hg]; exact (below_size (by repeat (first | (with_reducible first | exact HB.out | apply below_alloc | apply pw_below_drewN | apply below_drew1 | refine below_set ?_ GE257.out | refine below_set ?_ GE258.out | refine below_set ?_ GE265.out | refine below_set ?_ GE284.out) | exact HB.out))) : w.heap.size ≤ gb291)); have n13_ := Aside0.mk ((by rw [hg]; exact Nat.ne_of_lt (blk_lt (g := gb257) (o := .cells #[.int .i64 a0_0, .int .i64 a0_1, .slice A0_2 l0_2.length c0_2] 24 (0, 0)) (by (with_reducible repeat (first | refine blk_drewN ?_ _ | refine blk_drew ?_ | refine blk_alloc ?_ _)); exact BK257.out)) : gb257 ≠ gb291)); have n14_ := Aside0.mk ((by rw [hg]; exact Nat.ne_of_gt (blk_lt (g := gb257) (o := .cells #[.int .i64 a0_0, .int .i64 a0_1, .slice A0_2 l0_2.length c0_2] 24 (0, 0)) (by (with_reducible repeat (first | refine blk_drewN ?_ _ | refine blk_drew ?_ | refine blk_alloc ?_ _)); exact BK257.out)) : gb291 ≠ gb257)); have n15_ := Aside0.mk ((by rw [hg]; exact Nat.ne_of_lt (blk_lt (g := gb258) (o := .cells #[.int .i64 a1_0, .int .i64 a1_1, .slice A1_2 l1_2.length c1_2] 24 (0, 0)) (by (with_reducible repeat (first | refine blk_drewN ?_ _ | refine blk_drew ?_ | refine blk_alloc ?_ _)); exact BK258.out)) : gb258 ≠ gb291)); have n16_ := Aside0.mk ((by rw [hg]; exact Nat.ne_of_gt (blk_lt (g := gb258) (o := .cells #[.int .i64 a1_0, .int .i64 a1_1, .slice A1_2 l1_2.length c1_2] 24 (0, 0)) (by (with_reducible repeat (first | refine blk_drewN ?_ _ | refine blk_drew ?_ | refine blk_alloc ?_ _)); exact BK258.out)) : gb291 ≠ gb258)); have n17_ := Aside0.mk ((by rw [hg]; exact Nat.ne_of_lt (blk_lt (g := gb265) (o := .cells #[.int .i64 t260, .int .i64 t261, .slice Ao33 t262.length co33] 24 (0, 0)) (by (with_reducible repeat (first | refine blk_drewN ?_ _ | refine blk_drew ?_ | refine blk_alloc ?_ _)); exact BK265.out)) : gb265 ≠ gb291)); have n18_ := Aside0.mk ((by rw [hg]; exact Nat.ne_of_gt (blk_lt (g := gb265) (o := .cells #[.int .i64 t260, .int .i64 t261, .slice Ao33 t262.length co33] 24 (0, 0)) (by (with_reducible repeat (first | refine blk_drewN ?_ _ | refine blk_drew ?_ | refine blk_alloc ?_ _)); exact BK265.out)) : gb291 ≠ gb265)); have n19_ := Aside0.mk ((by rw [hg]; exact Nat.ne_of_lt (blk_lt (g := gb284) (o := .cells #[.int .i64 t278, .int .i64 t279, .slice Ao47 t280.length co47] 24 (0, 0)) (by (with_reducible repeat (first | refine blk_drewN ?_ _ | refine blk_drew ?_ | refine blk_alloc ?_ _)); exact BK284.out)) : gb284 ≠ gb291)); have n20_ := Aside0.mk ((by rw [hg]; exact Nat.ne_of_gt (blk_lt (g := gb284) (o := .cells #[.int .i64 t278, .int .i64 t279, .slice Ao47 t280.length co47] 24 (0, 0)) (by (with_reducible repeat (first | refine blk_drewN ?_ _ | refine blk_drew ?_ | refine blk_alloc ?_ _)); exact BK284.out)) : gb291 ≠ gb284)); clear HO264; clear HO268; clear HO272; clear HO282; clear HO289; clear BK257; clear BK258; clear BK265; clear BK284; clear HB; have HO264 := n0_; have HO268 := n1_; have HO272 := n2_; have HO282 := n3_; have HO289 := n4_; have BK257 := n5_; have BK258 := n6_; have BK265 := n7_; have BK284 := n8_; have HB := n9_; have BK291 := n10_; have GW291 := n11_; have GE291 := n12_; have NB257_291 := n13_; have NB291_257 := n14_; have NB258_291 := n15_; have NB291_258 := n16_; have NB265_291 := n17_; have NB291_265 := n18_; have NB284_291 := n19_; have NB291_284 := n20_; clear n0_ n1_ n2_ n3_ n4_ n5_ n6_ n7_ n8_ n9_ n10_ n11_ n12_ n13_ n14_ n15_ n16_ n17_ n18_ n19_ n20_; clear hb hbox hg; have hnb50 := NB291_257.out; have hnc50 := NB257_291.out; have hnb51 := NB291_258.out; have hnc51 := NB258_291.out; have hnb52 := NB291_265.out; have hnc52 := NB265_291.out; have hnb53 := NB291_284.out; have hnc53 := NB284_291.out; have hcz54_0 : w49.cell? ⟨gb291, 0, none⟩ = some (.int .i64 0) := (blk_cell BK291.out 0).trans rfl; have hcz54_1 : w49.cell? ⟨gb291, 1, none⟩ = some (.int .i64 0) := (blk_cell BK291.out 1).trans rfl; have hcz54_2 : w49.cell? ⟨gb291, 2, none⟩ = some (.slice none 0 0) := (blk_cell BK291.out 2).trans rfl; have hfz54_0 := blk_frozen BK291.out 0; have hfz54_1 := blk_frozen BK291.out 1; have hfz54_2 := blk_frozen BK291.out 2; obtain ⟨Ao55, co55, eo55⟩ := Kd.R_slice HO289.out; subst eo55) | ((with_reducible refine gate_callee (f := 12) rfl ?_); refine goesL_ (some 70) rfl rfl Tryz.func12 (by kernel_rfl) rfl #[.int .i64 a2] rfl (by (try simp only [List.map_toArray, List.map_cons, List.map_nil]); first | done | rfl | (simp only [List.length_drop, List.length_take]; rfl)) ?_; (with_reducible refine (state_Word.calls a2 t292 t293 _ A23.out).mono ?_); rintro e w56 ⟨rfl, hb⟩; refine ⟨_, rfl, ?_⟩; have n0_ := Aside0.mk (Kd.R_below (by (with_reducible repeat (first | apply Kd.R_alloc | apply Kd.R_drewN | apply Kd.R_drew)); exact (Kd.R_mono (Kd.R_far (p := ⟨gb291, 2, none⟩) (Kd.R_far (p := ⟨gb291, 1, none⟩) (Kd.R_far (p := ⟨gb291, 0, none⟩) (Kd.R_types HO264.out BK291.out (by decide)) (fun _ hk => hk.2) (.int .i64 t285)) (fun _ hk => hk.2) (.int .i64 t286)) (fun _ hk => hk.2) (.slice Ao55 t287.length co55)) (fun _ h_ => h_.1))) hb); have n1_ := Aside0.mk (Kd.R_below (by (with_reducible repeat (first | apply Kd.R_alloc | apply Kd.R_drewN | apply Kd.R_drew)); exact (Kd.R_mono (Kd.R_far (p := ⟨gb291, 2, none⟩) (Kd.R_far (p := ⟨gb291, 1, none⟩) (Kd.R_far (p := ⟨gb291, 0, none⟩) (Kd.R_types HO268.out BK291.out (by decide)) (fun _ hk => hk.2) (.int .i64 t285)) (fun _ hk => hk.2) (.int .i64 t286)) (fun _ hk => hk.2) (.slice Ao55 t287.length co55)) (fun _ h_ => h_.1))) hb); have n2_ := Aside0.mk (Kd.R_below (by (with_reducible repeat (first | apply Kd.R_alloc | apply Kd.R_drewN | apply Kd.R_drew)); exact (Kd.R_mono (Kd.R_far (p := ⟨gb291, 2, none⟩) (Kd.R_far (p := ⟨gb291, 1, none⟩) (Kd.R_far (p := ⟨gb291, 0, none⟩) (Kd.R_types HO272.out BK291.out (by decide)) (fun _ hk => hk.2) (.int .i64 t285)) (fun _ hk => hk.2) (.int .i64 t286)) (fun _ hk => hk.2) (.slice Ao55 t287.length co55)) (fun _ h_ => h_.1))) hb); have n3_ := Aside0.mk (Kd.R_below (by (with_reducible repeat (first | apply Kd.R_alloc | apply Kd.R_drewN | apply Kd.R_drew)); exact (Kd.R_mono (Kd.R_far (p := ⟨gb291, 2, none⟩) (Kd.R_far (p := ⟨gb291, 1, none⟩) (Kd.R_far (p := ⟨gb291, 0, none⟩) (Kd.R_types HO282.out BK291.out (by decide)) (fun _ hk => hk.2) (.int .i64 t285)) (fun _ hk => hk.2) (.int .i64 t286)) (fun _ hk => hk.2) (.slice Ao55 t287.length co55)) (fun _ h_ => h_.1))) hb); have n4_ := Aside0.mk (Kd.R_below (by (with_reducible repeat (first | apply Kd.R_alloc | apply Kd.R_drewN | apply Kd.R_drew)); exact (Kd.R_mono (Kd.R_far (p := ⟨gb291, 2, none⟩) (Kd.R_far (p := ⟨gb291, 1, none⟩) (Kd.R_far (p := ⟨gb291, 0, none⟩) (Kd.R_types HO289.out BK291.out (by decide)) (fun _ hk => hk.2) (.int .i64 t285)) (fun _ hk => hk.2) (.int .i64 t286)) (fun _ hk => hk.2) (.slice Ao55 t287.length co55)) (fun _ h_ => h_.1))) hb); have n5_ := Aside0.mk (blk_below (g := gb257) (o := .cells #[.int .i64 a0_0, .int .i64 a0_1, .slice A0_2 l0_2.length c0_2] 24 (0, 0)) (by (with_reducible repeat (first | refine blk_drewN ?_ _ | refine blk_drew ?_ | refine blk_alloc ?_ _)); refine blk_far ?_ NB257_291.out _; (with_reducible repeat (first | refine blk_drewN ?_ _ | refine blk_drew ?_ | refine blk_alloc ?_ _)); refine blk_far ?_ NB257_291.out _; (with_reducible repeat (first | refine blk_drewN ?_ _ | refine blk_drew ?_ | refine blk_alloc ?_ _)); refine blk_far ?_ NB257_291.out _; (with_reducible repeat (first | refine blk_drewN ?_ _ | refine blk_drew ?_ | refine blk_alloc ?_ _)); exact BK257.out) hb); have n6_ := Aside0.mk (blk_below (g := gb258) (o := .cells #[.int .i64 a1_0, .int .i64 a1_1, .slice A1_2 l1_2.length c1_2] 24 (0, 0)) (by (with_reducible repeat (first | refine blk_drewN ?_ _ | refine blk_drew ?_ | refine blk_alloc ?_ _)); refine blk_far ?_ NB258_291.out _; (with_reducible repeat (first | refine blk_drewN ?_ _ | refine blk_drew ?_ | refine blk_alloc ?_ _)); refine blk_far ?_ NB258_291.out _; (with_reducible repeat (first | refine blk_drewN ?_ _ | refine blk_drew ?_ | refine blk_alloc ?_ _)); refine blk_far ?_ NB258_291.out _; (with_reducible repeat (first | refine blk_drewN ?_ _ | refine blk_drew ?_ | refine blk_alloc ?_ _)); exact BK258.out) hb); have n7_ := Aside0.mk (blk_below (g := gb265) (o := .cells #[.int .i64 t260, .int .i64 t261, .slice Ao33 t262.length co33] 24 (0, 0)) (by (with_reducible repeat (first | refine blk_drewN ?_ _ | refine blk_drew ?_ | refine blk_alloc ?_ _)); refine blk_far ?_ NB265_291.out _; (with_reducible repeat (first | refine blk_drewN ?_ _ | refine blk_drew ?_ | refine blk_alloc ?_ _)); refine blk_far ?_ NB265_291.out _; (with_reducible repeat (first | refine blk_drewN ?_ _ | refine blk_drew ?_ | refine blk_alloc ?_ _)); refine blk_far ?_ NB265_291.out _; (with_reducible repeat (first | refine blk_drewN ?_ _ | refine blk_drew ?_ | refine blk_alloc ?_ _)); exact BK265.out) hb); have n8_ := Aside0.mk (blk_below (g := gb284) (o := .cells #[.int .i64 t278, .int .i64 t279, .slice Ao47 t280.length co47] 24 (0, 0)) (by (with_reducible repeat (first | refine blk_drewN ?_ _ | refine blk_drew ?_ | refine blk_alloc ?_ _)); refine blk_far ?_ NB284_291.out _; (with_reducible repeat (first | refine blk_drewN ?_ _ | refine blk_drew ?_ | refine blk_alloc ?_ _)); refine blk_far ?_ NB284_291.out _; (with_reducible repeat (first | refine blk_drewN ?_ _ | refine blk_drew ?_ | refine blk_alloc ?_ _)); refine blk_far ?_ NB284_291.out _; (with_reducible repeat (first | refine blk_drewN ?_ _ | refine blk_drew ?_ | refine blk_alloc ?_ _)); exact BK284.out) hb); have n9_ := Aside0.mk (blk_below (g := gb291) (o := .cells #[.int .i64 t285, .int .i64 t286, .slice Ao55 t287.length co55] 24 (0, 0)) (by (with_reducible repeat (first | refine blk_drewN ?_ _ | refine blk_drew ?_ | refine blk_alloc ?_ _)); refine blk_put (cs := #[.int .i64 t285, .int .i64 t286, .slice none 0 0]) ?_ 2 _ rfl; (with_reducible repeat (first | refine blk_drewN ?_ _ | refine blk_drew ?_ | refine blk_alloc ?_ _)); refine blk_put (cs := #[.int .i64 t285, .int .i64 0, .slice none 0 0]) ?_ 1 _ rfl; (with_reducible repeat (first | refine blk_drewN ?_ _ | refine blk_drew ?_ | refine blk_alloc ?_ _)); refine blk_put (cs := #[.int .i64 0, .int .i64 0, .slice none 0 0]) ?_ 0 _ rfl; (with_reducible repeat (first | refine blk_drewN ?_ _ | refine blk_drew ?_ | refine blk_alloc ?_ _)); exact BK291.out) hb); have n10_ := Aside0.mk (below_step (by repeat (first | (with_reducible first | exact HB.out | apply below_alloc | apply pw_below_drewN | apply below_drew1 | refine below_set ?_ GE257.out | refine below_set ?_ GE258.out | refine below_set ?_ GE265.out | refine below_set ?_ GE284.out | refine below_set ?_ GE291.out) | exact HB.out)) hb); clear HO264; clear HO268; clear HO272; clear HO282; clear HO289; clear BK257; clear BK258; clear BK265; clear BK284; clear BK291; clear HB; have HO264 := n0_; have HO268 := n1_; have HO272 := n2_; have HO282 := n3_; have HO289 := n4_; have BK257 := n5_; have BK258 := n6_; have BK265 := n7_; have BK284 := n8_; have BK291 := n9_; have HB := n10_; clear n0_ n1_ n2_ n3_ n4_ n5_ n6_ n7_ n8_ n9_ n10_; (try clear hb); (try clear hb2); (try clear hk); (try clear hi)) | ((with_reducible refine gate_callee (f := 13) rfl ?_); refine goesL_ (some 75) rfl rfl Tryz.func13 (by kernel_rfl) rfl #[.int .i64 a2] rfl (by (try simp only [List.map_toArray, List.map_cons, List.map_nil]); first | done | rfl | (simp only [List.length_drop, List.length_take]; rfl)) ?_; (with_reducible refine (armisticeref05_Word.calls a2 t294 t295 _ A24.out).mono ?_); rintro e w57 ⟨rfl, hb⟩; refine ⟨_, rfl, ?_⟩; have n0_ := Aside0.mk (Kd.R_below (by (with_reducible repeat (first | apply Kd.R_alloc | apply Kd.R_drewN | apply Kd.R_drew)); exact HO264.out) hb); have n1_ := Aside0.mk (Kd.R_below (by (with_reducible repeat (first | apply Kd.R_alloc | apply Kd.R_drewN | apply Kd.R_drew)); exact HO268.out) hb); have n2_ := Aside0.mk (Kd.R_below (by (with_reducible repeat (first | apply Kd.R_alloc | apply Kd.R_drewN | apply Kd.R_drew)); exact HO272.out) hb); have n3_ := Aside0.mk (Kd.R_below (by (with_reducible repeat (first | apply Kd.R_alloc | apply Kd.R_drewN | apply Kd.R_drew)); exact HO282.out) hb); have n4_ := Aside0.mk (Kd.R_below (by (with_reducible repeat (first | apply Kd.R_alloc | apply Kd.R_drewN | apply Kd.R_drew)); exact HO289.out) hb); have n5_ := Aside0.mk (blk_below (g := gb257) (o := .cells #[.int .i64 a0_0, .int .i64 a0_1, .slice A0_2 l0_2.length c0_2] 24 (0, 0)) (by (with_reducible repeat (first | refine blk_drewN ?_ _ | refine blk_drew ?_ | refine blk_alloc ?_ _)); exact BK257.out) hb); have n6_ := Aside0.mk (blk_below (g := gb258) (o := .cells #[.int .i64 a1_0, .int .i64 a1_1, .slice A1_2 l1_2.length c1_2] 24 (0, 0)) (by (with_reducible repeat (first | refine blk_drewN ?_ _ | refine blk_drew ?_ | refine blk_alloc ?_ _)); exact BK258.out) hb); have n7_ := Aside0.mk (blk_below (g := gb265) (o := .cells #[.int .i64 t260, .int .i64 t261, .slice Ao33 t262.length co33] 24 (0, 0)) (by (with_reducible repeat (first | refine blk_drewN ?_ _ | refine blk_drew ?_ | refine blk_alloc ?_ _)); exact BK265.out) hb); have n8_ := Aside0.mk (blk_below (g := gb284) (o := .cells #[.int .i64 t278, .int .i64 t279, .slice Ao47 t280.length co47] 24 (0, 0)) (by (with_reducible repeat (first | refine blk_drewN ?_ _ | refine blk_drew ?_ | refine blk_alloc ?_ _)); exact BK284.out) hb); have n9_ := Aside0.mk (blk_below (g := gb291) (o := .cells #[.int .i64 t285, .int .i64 t286, .slice Ao55 t287.length co55] 24 (0, 0)) (by (with_reducible repeat (first | refine blk_drewN ?_ _ | refine blk_drew ?_ | refine blk_alloc ?_ _)); exact BK291.out) hb); have n10_ := Aside0.mk (below_step (by repeat (first | (with_reducible first | exact HB.out | apply below_alloc | apply pw_below_drewN | apply below_drew1 | refine below_set ?_ GE257.out | refine below_set ?_ GE258.out | refine below_set ?_ GE265.out | refine below_set ?_ GE284.out | refine below_set ?_ GE291.out) | exact HB.out)) hb); clear HO264; clear HO268; clear HO272; clear HO282; clear HO289; clear BK257; clear BK258; clear BK265; clear BK284; clear BK291; clear HB; have HO264 := n0_; have HO268 := n1_; have HO272 := n2_; have HO282 := n3_; have HO289 := n4_; have BK257 := n5_; have BK258 := n6_; have BK265 := n7_; have BK284 := n8_; have BK291 := n9_; have HB := n10_; clear n0_ n1_ n2_ n3_ n4_ n5_ n6_ n7_ n8_ n9_ n10_; (try clear hb); (try clear hb2); (try clear hk); (try clear hi)))
        (try simp only [Act.put, List.setIfInBounds_toArray, List.set_cons_zero, List.set_cons_succ])
        go_cut [24] (fun v24 wc => ∃ (kq : Nat) (x24_24 : Bool), v24 = .bool x24_24 ∧ Aside0 (armisticelaw05_StateTells.j1 kq t266 x24_24 a0_0 a0_1 l0_2 a1_0 a1_1 l1_2 t260 t261 t262 = some r) ∧ Aside0 (kq ≤ kj3) ∧ Aside0 (Kd.R (Kd.int .u8) 5 wc w.heap.size (fun _ => True) v267 t266) ∧ Aside0 (Kd.R (Kd.int .i64) 3 wc w.heap.size (fun k_ => some k_ ≠ ((.slice Ao47 t280.length co47) : Value).ownBlock ∧ some k_ ≠ ((.slice Ao55 t287.length co55) : Value).ownBlock) (.slice Ao33 t262.length co33) t262) ∧ Aside0 (Kd.R (Kd.int .i64) 3 wc w.heap.size (fun k_ => some k_ ≠ ((.slice Ao33 t262.length co33) : Value).ownBlock ∧ some k_ ≠ ((.slice Ao55 t287.length co55) : Value).ownBlock) (.slice Ao47 t280.length co47) t280) ∧ Aside0 (Kd.R (Kd.int .i64) 3 wc w.heap.size (fun k_ => some k_ ≠ ((.slice Ao33 t262.length co33) : Value).ownBlock ∧ some k_ ≠ ((.slice Ao47 t280.length co47) : Value).ownBlock) (.slice Ao55 t287.length co55) t287) ∧ Aside0 (wc.heap[gb257]? = some (.cells #[.int .i64 a0_0, .int .i64 a0_1, (.slice A0_2 l0_2.length c0_2)] 24 (0, 0))) ∧ Aside0 (wc.heap[gb258]? = some (.cells #[.int .i64 a1_0, .int .i64 a1_1, (.slice A1_2 l1_2.length c1_2)] 24 (0, 0))) ∧ Aside0 (wc.heap[gb265]? = some (.cells #[.int .i64 t260, .int .i64 t261, (.slice Ao33 t262.length co33)] 24 (0, 0))) ∧ Aside0 (wc.heap[gb284]? = some (.cells #[.int .i64 t278, .int .i64 t279, (.slice Ao47 t280.length co47)] 24 (0, 0))) ∧ Aside0 (wc.heap[gb291]? = some (.cells #[.int .i64 t285, .int .i64 t286, (.slice Ao55 t287.length co55)] 24 (0, 0))) ∧ Aside0 (Below w.heap.size w wc))
        case first =>
          have H := HC25.out
          clear HC25
          replace H := Option.bind_eq_some_iff.mp H
          obtain ⟨t296, A580, H⟩ := H
          replace H : (if t296 = true then (if t269 = t273 then (if t274.toList = t276.toList then (if t275 = t277 then ((armisticekit_SameState.f kj3 t278 t279 t280 t285 t286 t287).bind fun t297 => (if t297 = true then (if t283 = t290 then (if t292.toList = t294.toList then (armisticelaw05_StateTells.j1 kj3 t266 (t293 == t295) a0_0 a0_1 l0_2 a1_0 a1_1 l1_2 t260 t261 t262) else (armisticelaw05_StateTells.j1 kj3 t266 false a0_0 a0_1 l0_2 a1_0 a1_1 l1_2 t260 t261 t262)) else (armisticelaw05_StateTells.j1 kj3 t266 false a0_0 a0_1 l0_2 a1_0 a1_1 l1_2 t260 t261 t262)) else (armisticelaw05_StateTells.j1 kj3 t266 false a0_0 a0_1 l0_2 a1_0 a1_1 l1_2 t260 t261 t262))) else (armisticelaw05_StateTells.j1 kj3 t266 false a0_0 a0_1 l0_2 a1_0 a1_1 l1_2 t260 t261 t262)) else (armisticelaw05_StateTells.j1 kj3 t266 false a0_0 a0_1 l0_2 a1_0 a1_1 l1_2 t260 t261 t262)) else (armisticelaw05_StateTells.j1 kj3 t266 false a0_0 a0_1 l0_2 a1_0 a1_1 l1_2 t260 t261 t262)) else (armisticelaw05_StateTells.j1 kj3 t266 false a0_0 a0_1 l0_2 a1_0 a1_1 l1_2 t260 t261 t262)) = some r := H
          have A58 := Aside0.mk A580
          clear A580
          by_cases c59 : t296 = true
          · subst c59
            have H1 : (if t269 = t273 then (if t274.toList = t276.toList then (if t275 = t277 then ((armisticekit_SameState.f kj3 t278 t279 t280 t285 t286 t287).bind fun t297 => (if t297 = true then (if t283 = t290 then (if t292.toList = t294.toList then (armisticelaw05_StateTells.j1 kj3 t266 (t293 == t295) a0_0 a0_1 l0_2 a1_0 a1_1 l1_2 t260 t261 t262) else (armisticelaw05_StateTells.j1 kj3 t266 false a0_0 a0_1 l0_2 a1_0 a1_1 l1_2 t260 t261 t262)) else (armisticelaw05_StateTells.j1 kj3 t266 false a0_0 a0_1 l0_2 a1_0 a1_1 l1_2 t260 t261 t262)) else (armisticelaw05_StateTells.j1 kj3 t266 false a0_0 a0_1 l0_2 a1_0 a1_1 l1_2 t260 t261 t262))) else (armisticelaw05_StateTells.j1 kj3 t266 false a0_0 a0_1 l0_2 a1_0 a1_1 l1_2 t260 t261 t262)) else (armisticelaw05_StateTells.j1 kj3 t266 false a0_0 a0_1 l0_2 a1_0 a1_1 l1_2 t260 t261 t262)) else (armisticelaw05_StateTells.j1 kj3 t266 false a0_0 a0_1 l0_2 a1_0 a1_1 l1_2 t260 t261 t262)) = some r := by rw [if_pos rfl] at H; exact H
            clear H
            have H := H1
            clear H1
            by_cases c60 : t269 = t273
            · rw [if_pos c60] at H
              have c60b0 : (t269 == t273) = true := beq_iff_eq.mpr c60
              have c60b1 : (t269 != t273) = false := bne_eq_false_iff_eq.mpr c60
              clear c60
              (first | rw [c60b0] | (simp only [i64_w, i32_w]; rw [c60b0]) | skip)
              by_cases c61 : t274.toList = t276.toList
              · rw [if_pos c61] at H
                have c61b0 : (t274.toList == t276.toList) = true := beq_iff_eq.mpr c61
                have c61b1 : (t274.toList != t276.toList) = false := bne_eq_false_iff_eq.mpr c61
                clear c61
                by_cases c62 : t275 = t277
                · rw [if_pos c62] at H
                  have c62b0 : (t275 == t277) = true := beq_iff_eq.mpr c62
                  have c62b1 : (t275 != t277) = false := bne_eq_false_iff_eq.mpr c62
                  clear c62
                  replace H := Option.bind_eq_some_iff.mp H
                  obtain ⟨t297, A630, H⟩ := H
                  replace H : (if t297 = true then (if t283 = t290 then (if t292.toList = t294.toList then (armisticelaw05_StateTells.j1 kj3 t266 (t293 == t295) a0_0 a0_1 l0_2 a1_0 a1_1 l1_2 t260 t261 t262) else (armisticelaw05_StateTells.j1 kj3 t266 false a0_0 a0_1 l0_2 a1_0 a1_1 l1_2 t260 t261 t262)) else (armisticelaw05_StateTells.j1 kj3 t266 false a0_0 a0_1 l0_2 a1_0 a1_1 l1_2 t260 t261 t262)) else (armisticelaw05_StateTells.j1 kj3 t266 false a0_0 a0_1 l0_2 a1_0 a1_1 l1_2 t260 t261 t262)) = some r := H
                  have A63 := Aside0.mk A630
                  clear A630
                  by_cases c64 : t297 = true
                  · subst c64
                    have H1 : (if t283 = t290 then (if t292.toList = t294.toList then (armisticelaw05_StateTells.j1 kj3 t266 (t293 == t295) a0_0 a0_1 l0_2 a1_0 a1_1 l1_2 t260 t261 t262) else (armisticelaw05_StateTells.j1 kj3 t266 false a0_0 a0_1 l0_2 a1_0 a1_1 l1_2 t260 t261 t262)) else (armisticelaw05_StateTells.j1 kj3 t266 false a0_0 a0_1 l0_2 a1_0 a1_1 l1_2 t260 t261 t262)) = some r := by rw [if_pos rfl] at H; exact H
                    clear H
                    have H := H1
                    clear H1
                    by_cases c65 : t283 = t290
                    · rw [if_pos c65] at H
                      have c65b0 : (t283 == t290) = true := beq_iff_eq.mpr c65
                      have c65b1 : (t283 != t290) = false := bne_eq_false_iff_eq.mpr c65
                      clear c65
                      by_cases c66 : t292.toList = t294.toList
                      · rw [if_pos c66] at H
                        have c66b0 : (t292.toList == t294.toList) = true := beq_iff_eq.mpr c66
                        have c66b1 : (t292.toList != t294.toList) = false := bne_eq_false_iff_eq.mpr c66
                        clear c66
                        have H' := Aside0.mk H
                        clear H
                        obtain ⟨Ao67, co67, eo67⟩ := Kd.R_slice HO268.out
                        subst eo67
                        obtain ⟨Ao68, co68, eo68⟩ := Kd.R_slice HO272.out
                        subst eo68
                        go_wp2_with (first | ((with_reducible refine gate_callee (f := 14) rfl ?_); refine goesL_ (some 80) rfl rfl Tryz.func14 (by kernel_rfl) rfl #[.slice Ao67 t266.length co67, .slice Ao68 t270.length co68] rfl (by (try simp only [List.map_toArray, List.map_cons, List.map_nil]); first | done | rfl | (simp only [List.length_drop, List.length_take]; rfl)) ?_; (with_reducible refine (armisticekit_SameBytes.calls _ _ t266 _ _ t270 true _ ?side1 ?side2 ?side3 ?side4 A58.out).mono ?_); (case side1 => repeat (first | exact (Kd.R_reads' HO268.out).2.2 | (with_reducible refine Kd.C_alloc ?_ _) | (with_reducible refine Kd.C_drewN ?_ _) | (with_reducible refine Kd.C_drew ?_))); (case side2 => exact (Kd.R_reads' HO268.out).2.1); (case side3 => repeat (first | exact (Kd.R_reads' HO272.out).2.2 | (with_reducible refine Kd.C_alloc ?_ _) | (with_reducible refine Kd.C_drewN ?_ _) | (with_reducible refine Kd.C_drew ?_))); (case side4 => exact (Kd.R_reads' HO272.out).2.1); rintro e w' ⟨rfl, ⟨nd, rfl⟩⟩; refine ⟨_, rfl, ?_⟩; have hnb69 := NB284_257.out; have hnc69 := NB257_284.out; have hnb70 := NB284_258.out; have hnc70 := NB258_284.out; have hnb71 := NB284_265.out; have hnc71 := NB265_284.out; have hnb72 := NB284_291.out; have hnc72 := NB291_284.out; have hcz73_0 : w57.cell? ⟨gb284, 0, none⟩ = some (.int .i64 t278) := (blk_cell BK284.out 0).trans rfl; have hcz73_1 : w57.cell? ⟨gb284, 1, none⟩ = some (.int .i64 t279) := (blk_cell BK284.out 1).trans rfl; have hcz73_2 : w57.cell? ⟨gb284, 2, none⟩ = some (.slice Ao47 t280.length co47) := (blk_cell BK284.out 2).trans rfl; have hfz73_0 := blk_frozen BK284.out 0; have hfz73_1 := blk_frozen BK284.out 1; have hfz73_2 := blk_frozen BK284.out 2; have hnb74 := NB291_257.out; have hnc74 := NB257_291.out; have hnb75 := NB291_258.out; have hnc75 := NB258_291.out; have hnb76 := NB291_265.out; have hnc76 := NB265_291.out; have hcz77_0 : w57.cell? ⟨gb291, 0, none⟩ = some (.int .i64 t285) := (blk_cell BK291.out 0).trans rfl; have hcz77_1 : w57.cell? ⟨gb291, 1, none⟩ = some (.int .i64 t286) := (blk_cell BK291.out 1).trans rfl; have hcz77_2 : w57.cell? ⟨gb291, 2, none⟩ = some (.slice Ao55 t287.length co55) := (blk_cell BK291.out 2).trans rfl; have hfz77_0 := blk_frozen BK291.out 0; have hfz77_1 := blk_frozen BK291.out 1; have hfz77_2 := blk_frozen BK291.out 2) | (go_at_call 15; (with_reducible refine (armisticekit_SameState.calls kj3 t278 t279 _ _ t280 t285 t286 _ _ t287 true _ ?side1 ?side2 ?side3 ?side4 A63.out).mono ?_); (case side1 => repeat (first | exact (Kd.R_reads' HO282.out).2.2 | (with_reducible refine Kd.C_alloc ?_ _) | (with_reducible refine Kd.C_drewN ?_ _) | (with_reducible refine Kd.C_drew ?_))); (case side2 => exact (Kd.R_reads' HO282.out).2.1); (case side3 => repeat (first | exact (Kd.R_reads' HO289.out).2.2 | (with_reducible refine Kd.C_alloc ?_ _) | (with_reducible refine Kd.C_drewN ?_ _) | (with_reducible refine Kd.C_drew ?_))); (case side4 => exact (Kd.R_reads' HO289.out).2.1); rintro e w78 ⟨rfl, hb⟩; have n0_ := Aside0.mk (Kd.R_below (by (with_reducible repeat (first | apply Kd.R_alloc | apply Kd.R_drewN | apply Kd.R_drew)); exact HO264.out) hb); have n1_ := Aside0.mk (Kd.R_below (by (with_reducible repeat (first | apply Kd.R_alloc | apply Kd.R_drewN | apply Kd.R_drew)); exact HO268.out) hb); have n2_ := Aside0.mk (Kd.R_below (by (with_reducible repeat (first | apply Kd.R_alloc | apply Kd.R_drewN | apply Kd.R_drew)); exact HO272.out) hb); have n3_ := Aside0.mk (Kd.R_below (by (with_reducible repeat (first | apply Kd.R_alloc | apply Kd.R_drewN | apply Kd.R_drew)); exact HO282.out) hb); have n4_ := Aside0.mk (Kd.R_below (by (with_reducible repeat (first | apply Kd.R_alloc | apply Kd.R_drewN | apply Kd.R_drew)); exact HO289.out) hb); have n5_ := Aside0.mk (blk_below (g := gb257) (o := .cells #[.int .i64 a0_0, .int .i64 a0_1, .slice A0_2 l0_2.length c0_2] 24 (0, 0)) (by (with_reducible repeat (first | refine blk_drewN ?_ _ | refine blk_drew ?_ | refine blk_alloc ?_ _)); exact BK257.out) hb); have n6_ := Aside0.mk (blk_below (g := gb258) (o := .cells #[.int .i64 a1_0, .int .i64 a1_1, .slice A1_2 l1_2.length c1_2] 24 (0, 0)) (by (with_reducible repeat (first | refine blk_drewN ?_ _ | refine blk_drew ?_ | refine blk_alloc ?_ _)); exact BK258.out) hb); have n7_ := Aside0.mk (blk_below (g := gb265) (o := .cells #[.int .i64 t260, .int .i64 t261, .slice Ao33 t262.length co33] 24 (0, 0)) (by (with_reducible repeat (first | refine blk_drewN ?_ _ | refine blk_drew ?_ | refine blk_alloc ?_ _)); exact BK265.out) hb); have n8_ := Aside0.mk (blk_below (g := gb284) (o := .cells #[.int .i64 t278, .int .i64 t279, .slice Ao47 t280.length co47] 24 (0, 0)) (by (with_reducible repeat (first | refine blk_drewN ?_ _ | refine blk_drew ?_ | refine blk_alloc ?_ _)); exact BK284.out) hb); have n9_ := Aside0.mk (blk_below (g := gb291) (o := .cells #[.int .i64 t285, .int .i64 t286, .slice Ao55 t287.length co55] 24 (0, 0)) (by (with_reducible repeat (first | refine blk_drewN ?_ _ | refine blk_drew ?_ | refine blk_alloc ?_ _)); exact BK291.out) hb); have n10_ := Aside0.mk (below_step (by repeat (first | (with_reducible first | exact HB.out | apply below_alloc | apply pw_below_drewN | apply below_drew1 | refine below_set ?_ GE257.out | refine below_set ?_ GE258.out | refine below_set ?_ GE265.out | refine below_set ?_ GE284.out | refine below_set ?_ GE291.out) | exact HB.out)) hb); clear HO264; clear HO268; clear HO272; clear HO282; clear HO289; clear BK257; clear BK258; clear BK265; clear BK284; clear BK291; clear HB; have HO264 := n0_; have HO268 := n1_; have HO272 := n2_; have HO282 := n3_; have HO289 := n4_; have BK257 := n5_; have BK258 := n6_; have BK265 := n7_; have BK284 := n8_; have BK291 := n9_; have HB := n10_; clear n0_ n1_ n2_ n3_ n4_ n5_ n6_ n7_ n8_ n9_ n10_; (try clear hb); (try clear hb2); (try clear hk); (try clear hi)))
                        go_meet
                        case rel => exact ⟨_, ((t293 == t295)), (by first | rfl | (simp; done) | (simp [*]; done)), H', ⟨by have := HJ3.out; first | omega | exact Nat.le_refl _⟩, ⟨by (with_reducible repeat (first | apply Kd.R_alloc | apply Kd.R_drewN | apply Kd.R_drew)); exact Kd.R_mono HO268.out (fun _ hk => trivial)⟩, ⟨by (with_reducible repeat (first | apply Kd.R_alloc | apply Kd.R_drewN | apply Kd.R_drew)); exact Kd.R_mono HO264.out (fun _ hk => ⟨hk.1.2, hk.2⟩)⟩, ⟨by (with_reducible repeat (first | apply Kd.R_alloc | apply Kd.R_drewN | apply Kd.R_drew)); exact Kd.R_mono HO282.out (fun _ hk => ⟨hk.1.2, hk.2⟩)⟩, ⟨by (with_reducible repeat (first | apply Kd.R_alloc | apply Kd.R_drewN | apply Kd.R_drew)); exact Kd.R_mono HO289.out (fun _ hk => ⟨hk.1.2, hk.2⟩)⟩, ⟨by (with_reducible repeat (first | refine blk_drewN ?_ _ | refine blk_drew ?_ | refine blk_alloc ?_ _)); exact BK257.out⟩, ⟨by (with_reducible repeat (first | refine blk_drewN ?_ _ | refine blk_drew ?_ | refine blk_alloc ?_ _)); exact BK258.out⟩, ⟨by (with_reducible repeat (first | refine blk_drewN ?_ _ | refine blk_drew ?_ | refine blk_alloc ?_ _)); exact BK265.out⟩, ⟨by (with_reducible repeat (first | refine blk_drewN ?_ _ | refine blk_drew ?_ | refine blk_alloc ?_ _)); exact BK284.out⟩, ⟨by (with_reducible repeat (first | refine blk_drewN ?_ _ | refine blk_drew ?_ | refine blk_alloc ?_ _)); exact BK291.out⟩, ⟨by repeat (first | (with_reducible first | exact HB.out | apply below_alloc | apply pw_below_drewN | apply below_drew1 | refine below_set ?_ GE257.out | refine below_set ?_ GE258.out | refine below_set ?_ GE265.out | refine below_set ?_ GE284.out | refine below_set ?_ GE291.out) | exact HB.out)⟩⟩
                      · rw [if_neg c66] at H
                        exact absurd ((armisticelaw05_StateTells.j1_false H).symm.trans HRT.out) (by decide)
                    · rw [if_neg c65] at H
                      exact absurd ((armisticelaw05_StateTells.j1_false H).symm.trans HRT.out) (by decide)
                  · replace c64 := Bool.eq_false_iff.mpr c64
                    subst c64
                    have H1 : (armisticelaw05_StateTells.j1 kj3 t266 false a0_0 a0_1 l0_2 a1_0 a1_1 l1_2 t260 t261 t262) = some r := by rw [if_neg (show ¬ (false = true) by decide)] at H; exact H
                    exact absurd ((armisticelaw05_StateTells.j1_false H1).symm.trans HRT.out) (by decide)
                · rw [if_neg c62] at H
                  exact absurd ((armisticelaw05_StateTells.j1_false H).symm.trans HRT.out) (by decide)
              · rw [if_neg c61] at H
                exact absurd ((armisticelaw05_StateTells.j1_false H).symm.trans HRT.out) (by decide)
            · rw [if_neg c60] at H
              exact absurd ((armisticelaw05_StateTells.j1_false H).symm.trans HRT.out) (by decide)
          · replace c59 := Bool.eq_false_iff.mpr c59
            subst c59
            have H1 : (armisticelaw05_StateTells.j1 kj3 t266 false a0_0 a0_1 l0_2 a1_0 a1_1 l1_2 t260 t261 t262) = some r := by rw [if_neg (show ¬ (false = true) by decide)] at H; exact H
            exact absurd ((armisticelaw05_StateTells.j1_false H1).symm.trans HRT.out) (by decide)
        case rest =>
          clear HC25
          try clear c1
          try clear c2
          try clear p2
          try clear c3
          try clear c4
          try clear c5
          try clear c6
          try clear c7
          try clear c7b0
          try clear c7b1
          try clear c8
          try clear c9
          try clear c10
          try clear c11
          try clear c12
          try clear c13
          try clear c14
          try clear c26
          try clear c30
          try clear c31
          try clear c43
          try clear c44
          try clear c45
          try clear c50
          try clear c51
          try clear c52
          try clear c53
          try clear c59
          try clear c60
          try clear c60b0
          try clear c60b1
          try clear c61
          try clear c61b0
          try clear c61b1
          try clear c62
          try clear c62b0
          try clear c62b1
          try clear c64
          try clear c65
          try clear c65b0
          try clear c65b1
          try clear c66
          try clear c66b0
          try clear c66b1
          try clear c69
          try clear c70
          try clear c71
          try clear c72
          try clear c74
          try clear c75
          try clear c76
          try clear c81
          try clear c82
          try clear c83
          try clear c84
          try clear c86
          try clear c87
          try clear c88
          try clear c93
          try clear c94
          try clear c95
          try clear c96
          try clear c98
          try clear c99
          try clear c100
          try clear c105
          try clear c106
          try clear c107
          try clear c108
          try clear c110
          try clear c111
          try clear c112
          try clear hcz101_0
          try clear hcz101_1
          try clear hcz101_2
          try clear hcz109_0
          try clear hcz109_1
          try clear hcz109_2
          try clear hcz113_0
          try clear hcz113_1
          try clear hcz113_2
          try clear hcz11_0
          try clear hcz11_1
          try clear hcz11_2
          try clear hcz12_0
          try clear hcz12_1
          try clear hcz12_2
          try clear hcz27_0
          try clear hcz27_1
          try clear hcz27_2
          try clear hcz32_0
          try clear hcz32_1
          try clear hcz32_2
          try clear hcz35_0
          try clear hcz35_1
          try clear hcz35_2
          try clear hcz37_0
          try clear hcz37_1
          try clear hcz37_2
          try clear hcz39_0
          try clear hcz39_1
          try clear hcz39_2
          try clear hcz46_0
          try clear hcz46_1
          try clear hcz46_2
          try clear hcz54_0
          try clear hcz54_1
          try clear hcz54_2
          try clear hcz73_0
          try clear hcz73_1
          try clear hcz73_2
          try clear hcz77_0
          try clear hcz77_1
          try clear hcz77_2
          try clear hcz85_0
          try clear hcz85_1
          try clear hcz85_2
          try clear hcz89_0
          try clear hcz89_1
          try clear hcz89_2
          try clear hcz97_0
          try clear hcz97_1
          try clear hcz97_2
          try clear hcz9_0
          try clear hcz9_1
          try clear hcz9_2
          try clear hfz101_0
          try clear hfz101_1
          try clear hfz101_2
          try clear hfz109_0
          try clear hfz109_1
          try clear hfz109_2
          try clear hfz113_0
          try clear hfz113_1
          try clear hfz113_2
          try clear hfz11_0
          try clear hfz11_1
          try clear hfz11_2
          try clear hfz12_0
          try clear hfz12_1
          try clear hfz12_2
          try clear hfz27_0
          try clear hfz27_1
          try clear hfz27_2
          try clear hfz32_0
          try clear hfz32_1
          try clear hfz32_2
          try clear hfz35_0
          try clear hfz35_1
          try clear hfz35_2
          try clear hfz37_0
          try clear hfz37_1
          try clear hfz37_2
          try clear hfz39_0
          try clear hfz39_1
          try clear hfz39_2
          try clear hfz46_0
          try clear hfz46_1
          try clear hfz46_2
          try clear hfz54_0
          try clear hfz54_1
          try clear hfz54_2
          try clear hfz73_0
          try clear hfz73_1
          try clear hfz73_2
          try clear hfz77_0
          try clear hfz77_1
          try clear hfz77_2
          try clear hfz85_0
          try clear hfz85_1
          try clear hfz85_2
          try clear hfz89_0
          try clear hfz89_1
          try clear hfz89_2
          try clear hfz97_0
          try clear hfz97_1
          try clear hfz97_2
          try clear hfz9_0
          try clear hfz9_1
          try clear hfz9_2
          try clear p2
          obtain ⟨kq, x24_24, rfl, HA, HJ24, HO_8, HO_266002, HO_285002, HO_292002, BK257, BK258, BK265, BK284, BK291, HB⟩ := hcut
          cases kq with
          | zero => exact absurd HA.out (by simp [armisticelaw05_StateTells.j1])
          | succ kj24 =>
            have H := HA.out
            clear HA
            simp only [armisticelaw05_StateTells.j1] at H
            replace H := Option.bind_eq_some_iff.mp H
            obtain ⟨t298, A1230, H⟩ := H
            replace H : (if x24_24 = true then ((state_Check.f t260 t261 t262).bind fun t299 => ((armisticeref05_Check.f kj24 a0_0 a0_1 l0_2).bind fun t300 => (if t299 = t300 then ((state_Same.f kj24 t260 t261 t262 a1_0 a1_1 l1_2).bind fun t301 => ((armisticeref05_Same.f kj24 a0_0 a0_1 l0_2 a1_0 a1_1 l1_2).bind fun t302 => (if (t301 == t302) = true then ((armisticekit_SameState.f kj24 t260 t261 t262 a0_0 a0_1 l0_2).bind fun t303 => (if t303 = true then ((armisticelaw05_awake.f kj24).bind fun t304 => (some t304)) else (some false))) else (some false)))) else (some false)))) else (some false)) = some r := H
            have A123 := Aside0.mk A1230
            clear A1230
            by_cases c124 : x24_24 = true
            · subst c124
              have H1 : ((state_Check.f t260 t261 t262).bind fun t299 => ((armisticeref05_Check.f kj24 a0_0 a0_1 l0_2).bind fun t300 => (if t299 = t300 then ((state_Same.f kj24 t260 t261 t262 a1_0 a1_1 l1_2).bind fun t301 => ((armisticeref05_Same.f kj24 a0_0 a0_1 l0_2 a1_0 a1_1 l1_2).bind fun t302 => (if (t301 == t302) = true then ((armisticekit_SameState.f kj24 t260 t261 t262 a0_0 a0_1 l0_2).bind fun t303 => (if t303 = true then ((armisticelaw05_awake.f kj24).bind fun t304 => (some t304)) else (some false))) else (some false)))) else (some false)))) = some r := by rw [if_pos rfl] at H; exact H
              clear H
              have H := H1
              clear H1
              replace H := Option.bind_eq_some_iff.mp H
              obtain ⟨t299, A1250, H⟩ := H
              replace H : ((armisticeref05_Check.f kj24 a0_0 a0_1 l0_2).bind fun t300 => (if t299 = t300 then ((state_Same.f kj24 t260 t261 t262 a1_0 a1_1 l1_2).bind fun t301 => ((armisticeref05_Same.f kj24 a0_0 a0_1 l0_2 a1_0 a1_1 l1_2).bind fun t302 => (if (t301 == t302) = true then ((armisticekit_SameState.f kj24 t260 t261 t262 a0_0 a0_1 l0_2).bind fun t303 => (if t303 = true then ((armisticelaw05_awake.f kj24).bind fun t304 => (some t304)) else (some false))) else (some false)))) else (some false))) = some r := H
              have A125 := Aside0.mk A1250
              clear A1250
              replace H := Option.bind_eq_some_iff.mp H
              obtain ⟨t300, A1260, H⟩ := H
              replace H : (if t299 = t300 then ((state_Same.f kj24 t260 t261 t262 a1_0 a1_1 l1_2).bind fun t301 => ((armisticeref05_Same.f kj24 a0_0 a0_1 l0_2 a1_0 a1_1 l1_2).bind fun t302 => (if (t301 == t302) = true then ((armisticekit_SameState.f kj24 t260 t261 t262 a0_0 a0_1 l0_2).bind fun t303 => (if t303 = true then ((armisticelaw05_awake.f kj24).bind fun t304 => (some t304)) else (some false))) else (some false)))) else (some false)) = some r := H
              have A126 := Aside0.mk A1260
              clear A1260
              by_cases c127 : t299 = t300
              · rw [if_pos c127] at H
                have c127b0 : (t299 == t300) = true := beq_iff_eq.mpr c127
                have c127b1 : (t299 != t300) = false := bne_eq_false_iff_eq.mpr c127
                clear c127
                replace H := Option.bind_eq_some_iff.mp H
                obtain ⟨t301, A1280, H⟩ := H
                replace H : ((armisticeref05_Same.f kj24 a0_0 a0_1 l0_2 a1_0 a1_1 l1_2).bind fun t302 => (if (t301 == t302) = true then ((armisticekit_SameState.f kj24 t260 t261 t262 a0_0 a0_1 l0_2).bind fun t303 => (if t303 = true then ((armisticelaw05_awake.f kj24).bind fun t304 => (some t304)) else (some false))) else (some false))) = some r := H
                have A128 := Aside0.mk A1280
                clear A1280
                replace H := Option.bind_eq_some_iff.mp H
                obtain ⟨t302, A1290, H⟩ := H
                replace H : (if (t301 == t302) = true then ((armisticekit_SameState.f kj24 t260 t261 t262 a0_0 a0_1 l0_2).bind fun t303 => (if t303 = true then ((armisticelaw05_awake.f kj24).bind fun t304 => (some t304)) else (some false))) else (some false)) = some r := H
                have A129 := Aside0.mk A1290
                clear A1290
                by_cases c130 : (t301 == t302) = true
                · rw [if_pos c130] at H
                  have c130b0 : (t301 == t302) = true := c130
                  (try (have c130b1 : decide (t301 = t302) = true := by simpa using c130))
                  (try (have c130b2 : (t301 == t302) = true := by simpa using c130))
                  clear c130
                  replace H := Option.bind_eq_some_iff.mp H
                  obtain ⟨t303, A1310, H⟩ := H
                  replace H : (if t303 = true then ((armisticelaw05_awake.f kj24).bind fun t304 => (some t304)) else (some false)) = some r := H
                  have A131 := Aside0.mk A1310
                  clear A1310
                  by_cases c132 : t303 = true
                  · subst c132
                    have H1 : ((armisticelaw05_awake.f kj24).bind fun t304 => (some t304)) = some r := by rw [if_pos rfl] at H; exact H
                    clear H
                    have H := H1
                    clear H1
                    replace H := Option.bind_eq_some_iff.mp H
                    obtain ⟨t304, A1330, H⟩ := H
                    replace H : (some t304) = some r := H
                    have A133 := Aside0.mk A1330
                    clear A1330
                    obtain rfl := Option.some.inj H
                    obtain ⟨Ao134, co134, eo134⟩ := Kd.R_slice HO_8.out
                    subst eo134
                    try go_wp2_with (first | ((with_reducible refine gate_callee (f := 16) rfl ?_); refine goesL_ (some 117) rfl rfl Tryz.func16 (by kernel_rfl) rfl #[.slice Ao134 t266.length co134] rfl (by (try simp only [List.map_toArray, List.map_cons, List.map_nil]); first | done | rfl | (simp only [List.length_drop, List.length_take]; rfl)) ?_; (with_reducible refine (armisticekit_OverBytes.calls kj24 (fun k_ => some k_ = (.slice Ao134 t266.length co134 : Value).ownBlock) (.slice Ao134 t266.length co134) t266 t298 w _ ?side1 ?side2 A123.out).mono ?_); (case side1 => repeat (first | (with_reducible first | exact HB.out | apply below_alloc | apply pw_below_drewN | apply below_drew1 | refine below_set ?_ GE257.out | refine below_set ?_ GE258.out | refine below_set ?_ GE265.out | refine below_set ?_ GE284.out | refine below_set ?_ GE291.out) | exact HB.out)); (case side2 => exact Kd.R_tight rfl HO_8.out); rintro e w135 ⟨rfl, hy0, hb, hkp⟩; refine ⟨_, rfl, ?_⟩; have n0_ := Aside0.mk (Kd.R_reok rfl hy0 (fun k_ e_ => HO_8.out.1 k_ e_)); have n1_ := Aside0.mk (Kd.R_mono (ok' := fun k_ => some k_ ≠ (.slice Ao47 t280.length co47 : Value).ownBlock ∧ some k_ ≠ (.slice Ao55 t287.length co55 : Value).ownBlock) (Kd.R_keptB ((Kd.R_apart' HO_266002.out (Kd.R_typed HO_8.out) (by decide))) hkp (fun k_ hk_ hs_ => (hk_.2) hs_)) (fun k_ hk_ => ⟨hk_.1.1.1, hk_.1.1.2⟩)); have n2_ := Aside0.mk (Kd.R_mono (ok' := fun k_ => some k_ ≠ (.slice Ao33 t262.length co33 : Value).ownBlock ∧ some k_ ≠ (.slice Ao55 t287.length co55 : Value).ownBlock) (Kd.R_keptB ((Kd.R_apart' HO_285002.out (Kd.R_typed HO_8.out) (by decide))) hkp (fun k_ hk_ hs_ => (hk_.2) hs_)) (fun k_ hk_ => ⟨hk_.1.1.1, hk_.1.1.2⟩)); have n3_ := Aside0.mk (Kd.R_mono (ok' := fun k_ => some k_ ≠ (.slice Ao33 t262.length co33 : Value).ownBlock ∧ some k_ ≠ (.slice Ao47 t280.length co47 : Value).ownBlock) (Kd.R_keptB ((Kd.R_apart' HO_292002.out (Kd.R_typed HO_8.out) (by decide))) hkp (fun k_ hk_ hs_ => (hk_.2) hs_)) (fun k_ hk_ => ⟨hk_.1.1.1, hk_.1.1.2⟩)); have n4_ := Aside0.mk (blk_kept (by (with_reducible repeat (first | refine blk_drewN ?_ _ | refine blk_drew ?_ | refine blk_alloc ?_ _)); exact BK257.out) hkp (fun hs_ => (fun e_ => (Kd.R_ne HO_8.out BK257.out (by decide)) e_) hs_)); have n5_ := Aside0.mk (blk_kept (by (with_reducible repeat (first | refine blk_drewN ?_ _ | refine blk_drew ?_ | refine blk_alloc ?_ _)); exact BK258.out) hkp (fun hs_ => (fun e_ => (Kd.R_ne HO_8.out BK258.out (by decide)) e_) hs_)); have n6_ := Aside0.mk (blk_kept (by (with_reducible repeat (first | refine blk_drewN ?_ _ | refine blk_drew ?_ | refine blk_alloc ?_ _)); exact BK265.out) hkp (fun hs_ => (fun e_ => (Kd.R_ne HO_8.out BK265.out (by decide)) e_) hs_)); have n7_ := Aside0.mk (blk_kept (by (with_reducible repeat (first | refine blk_drewN ?_ _ | refine blk_drew ?_ | refine blk_alloc ?_ _)); exact BK284.out) hkp (fun hs_ => (fun e_ => (Kd.R_ne HO_8.out BK284.out (by decide)) e_) hs_)); have n8_ := Aside0.mk (blk_kept (by (with_reducible repeat (first | refine blk_drewN ?_ _ | refine blk_drew ?_ | refine blk_alloc ?_ _)); exact BK291.out) hkp (fun hs_ => (fun e_ => (Kd.R_ne HO_8.out BK291.out (by decide)) e_) hs_)); have n9_ := Aside0.mk (hb); clear HO_8; clear HO_266002; clear HO_285002; clear HO_292002; clear BK257; clear BK258; clear BK265; clear BK284; clear BK291; clear HB; have HO_8 := n0_; have HO_266002 := n1_; have HO_285002 := n2_; have HO_292002 := n3_; have BK257 := n4_; have BK258 := n5_; have BK265 := n6_; have BK284 := n7_; have BK291 := n8_; have HB := n9_; clear n0_ n1_ n2_ n3_ n4_ n5_ n6_ n7_ n8_ n9_; (try clear hb); (try clear hkp); (try clear hy0)))
                    have n0_ := Aside0.mk (Kd.R_drew HO_8.out)
                    have n1_ := Aside0.mk (Kd.R_drew HO_266002.out)
                    have n2_ := Aside0.mk (Kd.R_drew HO_285002.out)
                    have n3_ := Aside0.mk (Kd.R_drew HO_292002.out)
                    have n4_ := Aside0.mk (blk_drew BK257.out)
                    have n5_ := Aside0.mk (blk_drew BK258.out)
                    have n6_ := Aside0.mk (blk_drew BK265.out)
                    have n7_ := Aside0.mk (blk_drew BK284.out)
                    have n8_ := Aside0.mk (blk_drew BK291.out)
                    have n9_ := Aside0.mk (below_drew1 HB.out)
                    clear HO_8
                    clear HO_266002
                    clear HO_285002
                    clear HO_292002
                    clear BK257
                    clear BK258
                    clear BK265
                    clear BK284
                    clear BK291
                    clear HB
                    have HO_8 := n0_
                    have HO_266002 := n1_
                    have HO_285002 := n2_
                    have HO_292002 := n3_
                    have BK257 := n4_
                    have BK258 := n5_
                    have BK265 := n6_
                    have BK284 := n7_
                    have BK291 := n8_
                    have HB := n9_
                    clear n0_ n1_ n2_ n3_ n4_ n5_ n6_ n7_ n8_ n9_
                    refine start_ (n := 26) (S := fun w' => w'.cell? ⟨gb265, 0, none⟩ = some (.int .i64 t260) ∧ w'.cell? ⟨gb265, 1, none⟩ = some (.int .i64 t261) ∧ w'.cell? ⟨gb265, 2, none⟩ = some (.slice Ao33 t262.length co33) ∧ w'.cell? ⟨gb257, 0, none⟩ = some (.int .i64 a0_0) ∧ w'.cell? ⟨gb257, 1, none⟩ = some (.int .i64 a0_1) ∧ w'.cell? ⟨gb257, 2, none⟩ = some (.slice A0_2 l0_2.length c0_2) ∧ w'.cell? ⟨gb258, 0, none⟩ = some (.int .i64 a1_0) ∧ w'.cell? ⟨gb258, 1, none⟩ = some (.int .i64 a1_1) ∧ w'.cell? ⟨gb258, 2, none⟩ = some (.slice A1_2 l1_2.length c1_2)) (ds := []) #[false, false, false, false, false, false, false, false, false, false, false, false, false, false, false, false, false, false, false, false, false, false, false, false, false, false] (by kernel_rfl) rfl rfl ⟨(blk_cell BK265.out 0).trans rfl, (blk_cell BK265.out 1).trans rfl, (blk_cell BK265.out 2).trans rfl, (blk_cell BK257.out 0).trans rfl, (blk_cell BK257.out 1).trans rfl, (blk_cell BK257.out 2).trans rfl, (blk_cell BK258.out 0).trans rfl, (blk_cell BK258.out 1).trans rfl, (blk_cell BK258.out 2).trans rfl⟩ (fun hHeld => ?_); refine with_tabW armisticelaw05_StateTells.tab14 armisticelaw05_StateTells.bits14 (fun HT_ HW_ => ?_)
                    generalize w135.drew = w136 at HO_8 HO_266002 HO_285002 HO_292002 BK257 BK258 BK265 BK284 BK291 HB hHeld ⊢
                    refine pure_ (i := 0) (N := some 118) (v := ?_) (a' := ?_) #[true, false, false, false, false, false, false, false, false, false, false, false, false, false, false, false, false, false, false, false, false, false, false, false, false, false] rfl rfl (any_of HT_.out (by kernel_rfl)) (fun _ _ _ h => h) (Or.inl ⟨by rfl, ?_⟩) ?_ ?_
                    rotate_left
                    · intro w'
                      go_simp
                      with_reducible rfl
                    rotate_left
                    · simp only [Act.put, List.setIfInBounds_toArray, List.set_cons_zero, List.set_cons_succ, i64_w, i32_w]
                      rfl
                    refine pure_ (i := 1) (N := some 119) (v := ?_) (a' := ?_) #[true, true, false, false, false, false, false, false, false, false, false, false, false, false, false, false, false, false, false, false, false, false, false, false, false, false] rfl rfl (any_of HT_.out (by kernel_rfl)) (fun _ _ _ h => h) (Or.inl ⟨by rfl, ?_⟩) ?_ ?_
                    rotate_left
                    · intro w'
                      go_simp
                      with_reducible rfl
                    rotate_left
                    · simp only [Act.put, List.setIfInBounds_toArray, List.set_cons_zero, List.set_cons_succ, i64_w, i32_w]
                      rfl
                    refine take_ (i := 2) (N := some 120) (v := ?_) (a' := ?_) #[true, true, true, false, false, false, false, false, false, false, false, false, false, false, false, false, false, false, false, false, false, false, false, false, false, false] rfl rfl (take_ofW HT_.out HW_.out (by kernel_rfl)) (fun _ _ _ h => h) (Or.inl ⟨by rfl, ?_⟩) hHeld ?_ ?_
                    rotate_left
                    · rintro w' ⟨s0, s1, s2, s3, s4, s5, s6, s7, s8⟩
                      go_simp
                      with_reducible rfl
                    rotate_left
                    · simp only [Act.put, List.setIfInBounds_toArray, List.set_cons_zero, List.set_cons_succ, i64_w, i32_w]
                      rfl
                    refine take_ (i := 4) (N := some 122) (v := ?_) (a' := ?_) #[true, true, true, false, true, false, false, false, false, false, false, false, false, false, false, false, false, false, false, false, false, false, false, false, false, false] rfl rfl (take_ofW HT_.out HW_.out (by kernel_rfl)) (fun _ _ _ h => h) (Or.inl ⟨by rfl, ?_⟩) hHeld ?_ ?_
                    rotate_left
                    · rintro w' ⟨s0, s1, s2, s3, s4, s5, s6, s7, s8⟩
                      go_simp
                      with_reducible rfl
                    rotate_left
                    · simp only [Act.put, List.setIfInBounds_toArray, List.set_cons_zero, List.set_cons_succ, i64_w, i32_w]
                      rfl
                    refine one_ (i := 3) (N := some 121) #[true, true, true, true, true, false, false, false, false, false, false, false, false, false, false, false, false, false, false, false, false, false, false, false, false, false] rfl rfl (one_of HT_.out (by kernel_rfl)) (by decide) (fun K hK => ?_)
                    refine goes_ Tryz.func17 (by kernel_rfl) rfl #[.agg #[.int .i64 t260, .int .i64 t261, .slice Ao33 t262.length co33]] (by rfl) rfl rfl (by (try simp only [List.map_toArray, List.map_cons, List.map_nil]); first | done | rfl | (simp only [List.length_drop, List.length_take]; rfl)) ?_
                    with_reducible refine (state_Check.calls t260 t261 _ _ t262 t299 _ ?side1 ?side2 A125.out).mono ?_
                    (case side1 => repeat (first | exact (Kd.R_reads' HO_266002.out).2.2 | (with_reducible refine Kd.C_alloc ?_ _) | (with_reducible refine Kd.C_drewN ?_ _) | (with_reducible refine Kd.C_drew ?_)))
                    (case side2 => exact (Kd.R_reads' HO_266002.out).2.1)
                    rintro e w137 ⟨rfl, hb⟩
                    refine ⟨_, rfl, ?_⟩
                    have n0_ := Aside0.mk (Kd.R_below (by (with_reducible repeat (first | apply Kd.R_alloc | apply Kd.R_drewN | apply Kd.R_drew)); exact HO_8.out) hb)
                    have n1_ := Aside0.mk (Kd.R_below (by (with_reducible repeat (first | apply Kd.R_alloc | apply Kd.R_drewN | apply Kd.R_drew)); exact HO_266002.out) hb)
                    have n2_ := Aside0.mk (Kd.R_below (by (with_reducible repeat (first | apply Kd.R_alloc | apply Kd.R_drewN | apply Kd.R_drew)); exact HO_285002.out) hb)
                    have n3_ := Aside0.mk (Kd.R_below (by (with_reducible repeat (first | apply Kd.R_alloc | apply Kd.R_drewN | apply Kd.R_drew)); exact HO_292002.out) hb)
                    have n4_ := Aside0.mk (blk_below (g := gb257) (o := .cells #[.int .i64 a0_0, .int .i64 a0_1, .slice A0_2 l0_2.length c0_2] 24 (0, 0)) (by (with_reducible repeat (first | refine blk_drewN ?_ _ | refine blk_drew ?_ | refine blk_alloc ?_ _)); exact BK257.out) hb)
                    have n5_ := Aside0.mk (blk_below (g := gb258) (o := .cells #[.int .i64 a1_0, .int .i64 a1_1, .slice A1_2 l1_2.length c1_2] 24 (0, 0)) (by (with_reducible repeat (first | refine blk_drewN ?_ _ | refine blk_drew ?_ | refine blk_alloc ?_ _)); exact BK258.out) hb)
                    have n6_ := Aside0.mk (blk_below (g := gb265) (o := .cells #[.int .i64 t260, .int .i64 t261, .slice Ao33 t262.length co33] 24 (0, 0)) (by (with_reducible repeat (first | refine blk_drewN ?_ _ | refine blk_drew ?_ | refine blk_alloc ?_ _)); exact BK265.out) hb)
                    have n7_ := Aside0.mk (blk_below (g := gb284) (o := .cells #[.int .i64 t278, .int .i64 t279, .slice Ao47 t280.length co47] 24 (0, 0)) (by (with_reducible repeat (first | refine blk_drewN ?_ _ | refine blk_drew ?_ | refine blk_alloc ?_ _)); exact BK284.out) hb)
                    have n8_ := Aside0.mk (blk_below (g := gb291) (o := .cells #[.int .i64 t285, .int .i64 t286, .slice Ao55 t287.length co55] 24 (0, 0)) (by (with_reducible repeat (first | refine blk_drewN ?_ _ | refine blk_drew ?_ | refine blk_alloc ?_ _)); exact BK291.out) hb)
                    have n9_ := Aside0.mk (below_step (by repeat (first | (with_reducible first | exact HB.out | apply below_alloc | apply pw_below_drewN | apply below_drew1 | refine below_set ?_ GE257.out | refine below_set ?_ GE258.out | refine below_set ?_ GE265.out | refine below_set ?_ GE284.out | refine below_set ?_ GE291.out) | exact HB.out)) hb)
                    clear HO_8
                    clear HO_266002
                    clear HO_285002
                    clear HO_292002
                    clear BK257
                    clear BK258
                    clear BK265
                    clear BK284
                    clear BK291
                    clear HB
                    have HO_8 := n0_
                    have HO_266002 := n1_
                    have HO_285002 := n2_
                    have HO_292002 := n3_
                    have BK257 := n4_
                    have BK258 := n5_
                    have BK265 := n6_
                    have BK284 := n7_
                    have BK291 := n8_
                    have HB := n9_
                    clear n0_ n1_ n2_ n3_ n4_ n5_ n6_ n7_ n8_ n9_
                    (try clear hb)
                    (try clear hb2)
                    (try clear hk)
                    (try clear hi)
                    refine hK.out _ _ ⟨(blk_cell BK265.out 0).trans rfl, (blk_cell BK265.out 1).trans rfl, (blk_cell BK265.out 2).trans rfl, (blk_cell BK257.out 0).trans rfl, (blk_cell BK257.out 1).trans rfl, (blk_cell BK257.out 2).trans rfl, (blk_cell BK258.out 0).trans rfl, (blk_cell BK258.out 1).trans rfl, (blk_cell BK258.out 2).trans rfl⟩ (fun hHeld => ?_)
                    clear hK K
                    refine norm_ (a' := ?_) ?_ ?_
                    rotate_left
                    · show Act.put _ (some 121) _ = _
                      simp only [Act.put, List.setIfInBounds_toArray, List.set_cons_zero, List.set_cons_succ, i64_w, i32_w]
                      rfl
                    refine one_ (i := 5) (N := some 123) #[true, true, true, true, true, true, false, false, false, false, false, false, false, false, false, false, false, false, false, false, false, false, false, false, false, false] rfl rfl (one_of HT_.out (by kernel_rfl)) (by decide) (fun K hK => ?_)
                    refine goes_ Tryz.func18 (by kernel_rfl) rfl #[.agg #[.int .i64 a0_0, .int .i64 a0_1, .slice A0_2 l0_2.length c0_2]] (by rfl) rfl rfl (by (try simp only [List.map_toArray, List.map_cons, List.map_nil]); first | done | rfl | (simp only [List.length_drop, List.length_take]; rfl)) ?_
                    with_reducible refine (armisticeref05_Check.calls kj24 a0_0 a0_1 _ _ l0_2 t300 _ ?side1 ?side2 A126.out).mono ?_
                    (case side1 => repeat (first | exact (Kd.C_below HR0_2.out HB.out) | (with_reducible refine Kd.C_alloc ?_ _) | (with_reducible refine Kd.C_drewN ?_ _) | (with_reducible refine Kd.C_drew ?_)))
                    (case side2 => exact HC0_2.out)
                    rintro e w138 ⟨rfl, hb⟩
                    refine ⟨_, rfl, ?_⟩
                    have n0_ := Aside0.mk (Kd.R_below (by (with_reducible repeat (first | apply Kd.R_alloc | apply Kd.R_drewN | apply Kd.R_drew)); exact HO_8.out) hb)
                    have n1_ := Aside0.mk (Kd.R_below (by (with_reducible repeat (first | apply Kd.R_alloc | apply Kd.R_drewN | apply Kd.R_drew)); exact HO_266002.out) hb)
                    have n2_ := Aside0.mk (Kd.R_below (by (with_reducible repeat (first | apply Kd.R_alloc | apply Kd.R_drewN | apply Kd.R_drew)); exact HO_285002.out) hb)
                    have n3_ := Aside0.mk (Kd.R_below (by (with_reducible repeat (first | apply Kd.R_alloc | apply Kd.R_drewN | apply Kd.R_drew)); exact HO_292002.out) hb)
                    have n4_ := Aside0.mk (blk_below (g := gb257) (o := .cells #[.int .i64 a0_0, .int .i64 a0_1, .slice A0_2 l0_2.length c0_2] 24 (0, 0)) (by (with_reducible repeat (first | refine blk_drewN ?_ _ | refine blk_drew ?_ | refine blk_alloc ?_ _)); exact BK257.out) hb)
                    have n5_ := Aside0.mk (blk_below (g := gb258) (o := .cells #[.int .i64 a1_0, .int .i64 a1_1, .slice A1_2 l1_2.length c1_2] 24 (0, 0)) (by (with_reducible repeat (first | refine blk_drewN ?_ _ | refine blk_drew ?_ | refine blk_alloc ?_ _)); exact BK258.out) hb)
                    have n6_ := Aside0.mk (blk_below (g := gb265) (o := .cells #[.int .i64 t260, .int .i64 t261, .slice Ao33 t262.length co33] 24 (0, 0)) (by (with_reducible repeat (first | refine blk_drewN ?_ _ | refine blk_drew ?_ | refine blk_alloc ?_ _)); exact BK265.out) hb)
                    have n7_ := Aside0.mk (blk_below (g := gb284) (o := .cells #[.int .i64 t278, .int .i64 t279, .slice Ao47 t280.length co47] 24 (0, 0)) (by (with_reducible repeat (first | refine blk_drewN ?_ _ | refine blk_drew ?_ | refine blk_alloc ?_ _)); exact BK284.out) hb)
                    have n8_ := Aside0.mk (blk_below (g := gb291) (o := .cells #[.int .i64 t285, .int .i64 t286, .slice Ao55 t287.length co55] 24 (0, 0)) (by (with_reducible repeat (first | refine blk_drewN ?_ _ | refine blk_drew ?_ | refine blk_alloc ?_ _)); exact BK291.out) hb)
                    have n9_ := Aside0.mk (below_step (by repeat (first | (with_reducible first | exact HB.out | apply below_alloc | apply pw_below_drewN | apply below_drew1 | refine below_set ?_ GE257.out | refine below_set ?_ GE258.out | refine below_set ?_ GE265.out | refine below_set ?_ GE284.out | refine below_set ?_ GE291.out) | exact HB.out)) hb)
                    clear HO_8
                    clear HO_266002
                    clear HO_285002
                    clear HO_292002
                    clear BK257
                    clear BK258
                    clear BK265
                    clear BK284
                    clear BK291
                    clear HB
                    have HO_8 := n0_
                    have HO_266002 := n1_
                    have HO_285002 := n2_
                    have HO_292002 := n3_
                    have BK257 := n4_
                    have BK258 := n5_
                    have BK265 := n6_
                    have BK284 := n7_
                    have BK291 := n8_
                    have HB := n9_
                    clear n0_ n1_ n2_ n3_ n4_ n5_ n6_ n7_ n8_ n9_
                    (try clear hb)
                    (try clear hb2)
                    (try clear hk)
                    (try clear hi)
                    refine hK.out _ _ ⟨(blk_cell BK265.out 0).trans rfl, (blk_cell BK265.out 1).trans rfl, (blk_cell BK265.out 2).trans rfl, (blk_cell BK257.out 0).trans rfl, (blk_cell BK257.out 1).trans rfl, (blk_cell BK257.out 2).trans rfl, (blk_cell BK258.out 0).trans rfl, (blk_cell BK258.out 1).trans rfl, (blk_cell BK258.out 2).trans rfl⟩ (fun hHeld => ?_)
                    clear hK K
                    refine norm_ (a' := ?_) ?_ ?_
                    rotate_left
                    · show Act.put _ (some 123) _ = _
                      simp only [Act.put, List.setIfInBounds_toArray, List.set_cons_zero, List.set_cons_succ, i64_w, i32_w]
                      rfl
                    refine pure_ (i := 6) (N := some 124) (v := ?_) (a' := ?_) #[true, true, true, true, true, true, true, false, false, false, false, false, false, false, false, false, false, false, false, false, false, false, false, false, false, false] rfl rfl (any_of HT_.out (by kernel_rfl)) (fun _ _ _ h => h) (Or.inl ⟨by rfl, ?_⟩) ?_ ?_
                    rotate_left
                    · intro w'
                      go_simp
                      with_reducible rfl
                    rotate_left
                    · simp only [Act.put, List.setIfInBounds_toArray, List.set_cons_zero, List.set_cons_succ, i64_w, i32_w]
                      rfl
                    refine pure_ (i := 7) (N := some 125) (v := ?_) (a' := ?_) #[true, true, true, true, true, true, true, true, false, false, false, false, false, false, false, false, false, false, false, false, false, false, false, false, false, false] rfl rfl (any_of HT_.out (by kernel_rfl)) (fun _ _ _ h => h) (Or.inl ⟨by rfl, ?_⟩) ?_ ?_
                    rotate_left
                    · intro w'
                      go_simp
                      with_reducible rfl
                    rotate_left
                    · simp only [Act.put, List.setIfInBounds_toArray, List.set_cons_zero, List.set_cons_succ, i64_w, i32_w]
                      rfl
                    refine pure_ (i := 8) (N := some 126) (v := ?_) (a' := ?_) #[true, true, true, true, true, true, true, true, true, false, false, false, false, false, false, false, false, false, false, false, false, false, false, false, false, false] rfl rfl (any_of HT_.out (by kernel_rfl)) (fun _ _ _ h => h) (Or.inl ⟨by rfl, ?_⟩) ?_ ?_
                    rotate_left
                    · intro w'
                      go_simp
                      with_reducible rfl
                    rotate_left
                    · simp only [Act.put, List.setIfInBounds_toArray, List.set_cons_zero, List.set_cons_succ, i64_w, i32_w]
                      rfl
                    refine take_ (i := 9) (N := some 127) (v := ?_) (a' := ?_) #[true, true, true, true, true, true, true, true, true, true, false, false, false, false, false, false, false, false, false, false, false, false, false, false, false, false] rfl rfl (take_ofW HT_.out HW_.out (by kernel_rfl)) (fun _ _ _ h => h) (Or.inl ⟨by rfl, ?_⟩) hHeld ?_ ?_
                    rotate_left
                    · rintro w' ⟨s0, s1, s2, s3, s4, s5, s6, s7, s8⟩
                      go_simp
                      with_reducible rfl
                    rotate_left
                    · simp only [Act.put, List.setIfInBounds_toArray, List.set_cons_zero, List.set_cons_succ, i64_w, i32_w]
                      rfl
                    refine take_ (i := 10) (N := some 128) (v := ?_) (a' := ?_) #[true, true, true, true, true, true, true, true, true, true, true, false, false, false, false, false, false, false, false, false, false, false, false, false, false, false] rfl rfl (take_ofW HT_.out HW_.out (by kernel_rfl)) (fun _ _ _ h => h) (Or.inl ⟨by rfl, ?_⟩) hHeld ?_ ?_
                    rotate_left
                    · rintro w' ⟨s0, s1, s2, s3, s4, s5, s6, s7, s8⟩
                      go_simp
                      with_reducible rfl
                    rotate_left
                    · simp only [Act.put, List.setIfInBounds_toArray, List.set_cons_zero, List.set_cons_succ, i64_w, i32_w]
                      rfl
                    refine take_ (i := 12) (N := some 130) (v := ?_) (a' := ?_) #[true, true, true, true, true, true, true, true, true, true, true, false, true, false, false, false, false, false, false, false, false, false, false, false, false, false] rfl rfl (take_ofW HT_.out HW_.out (by kernel_rfl)) (fun _ _ _ h => h) (Or.inl ⟨by rfl, ?_⟩) hHeld ?_ ?_
                    rotate_left
                    · rintro w' ⟨s0, s1, s2, s3, s4, s5, s6, s7, s8⟩
                      go_simp
                      with_reducible rfl
                    rotate_left
                    · simp only [Act.put, List.setIfInBounds_toArray, List.set_cons_zero, List.set_cons_succ, i64_w, i32_w]
                      rfl
                    refine take_ (i := 13) (N := some 131) (v := ?_) (a' := ?_) #[true, true, true, true, true, true, true, true, true, true, true, false, true, true, false, false, false, false, false, false, false, false, false, false, false, false] rfl rfl (take_ofW HT_.out HW_.out (by kernel_rfl)) (fun _ _ _ h => h) (Or.inl ⟨by rfl, ?_⟩) hHeld ?_ ?_
                    rotate_left
                    · rintro w' ⟨s0, s1, s2, s3, s4, s5, s6, s7, s8⟩
                      go_simp
                      with_reducible rfl
                    rotate_left
                    · simp only [Act.put, List.setIfInBounds_toArray, List.set_cons_zero, List.set_cons_succ, i64_w, i32_w]
                      rfl
                    refine one_ (i := 11) (N := some 129) #[true, true, true, true, true, true, true, true, true, true, true, true, true, true, false, false, false, false, false, false, false, false, false, false, false, false] rfl rfl (one_of HT_.out (by kernel_rfl)) (by decide) (fun K hK => ?_)
                    refine goes_ Tryz.func19 (by kernel_rfl) rfl #[.agg #[.int .i64 t260, .int .i64 t261, .slice Ao33 t262.length co33], .agg #[.int .i64 a1_0, .int .i64 a1_1, .slice A1_2 l1_2.length c1_2]] (by rfl) rfl rfl (by (try simp only [List.map_toArray, List.map_cons, List.map_nil]); first | done | rfl | (simp only [List.length_drop, List.length_take]; rfl)) ?_
                    with_reducible refine (state_Same.calls kj24 t260 t261 _ _ t262 a1_0 a1_1 _ _ l1_2 t301 _ ?side1 ?side2 ?side3 ?side4 A128.out).mono ?_
                    (case side1 => repeat (first | exact (Kd.R_reads' HO_266002.out).2.2 | (with_reducible refine Kd.C_alloc ?_ _) | (with_reducible refine Kd.C_drewN ?_ _) | (with_reducible refine Kd.C_drew ?_)))
                    (case side2 => exact (Kd.R_reads' HO_266002.out).2.1)
                    (case side3 => repeat (first | exact (Kd.C_below HR1_2.out HB.out) | (with_reducible refine Kd.C_alloc ?_ _) | (with_reducible refine Kd.C_drewN ?_ _) | (with_reducible refine Kd.C_drew ?_)))
                    (case side4 => exact HC1_2.out)
                    rintro e w139 ⟨rfl, hb⟩
                    refine ⟨_, rfl, ?_⟩
                    have n0_ := Aside0.mk (Kd.R_below (by (with_reducible repeat (first | apply Kd.R_alloc | apply Kd.R_drewN | apply Kd.R_drew)); exact HO_8.out) hb)
                    have n1_ := Aside0.mk (Kd.R_below (by (with_reducible repeat (first | apply Kd.R_alloc | apply Kd.R_drewN | apply Kd.R_drew)); exact HO_266002.out) hb)
                    have n2_ := Aside0.mk (Kd.R_below (by (with_reducible repeat (first | apply Kd.R_alloc | apply Kd.R_drewN | apply Kd.R_drew)); exact HO_285002.out) hb)
                    have n3_ := Aside0.mk (Kd.R_below (by (with_reducible repeat (first | apply Kd.R_alloc | apply Kd.R_drewN | apply Kd.R_drew)); exact HO_292002.out) hb)
                    have n4_ := Aside0.mk (blk_below (g := gb257) (o := .cells #[.int .i64 a0_0, .int .i64 a0_1, .slice A0_2 l0_2.length c0_2] 24 (0, 0)) (by (with_reducible repeat (first | refine blk_drewN ?_ _ | refine blk_drew ?_ | refine blk_alloc ?_ _)); exact BK257.out) hb)
                    have n5_ := Aside0.mk (blk_below (g := gb258) (o := .cells #[.int .i64 a1_0, .int .i64 a1_1, .slice A1_2 l1_2.length c1_2] 24 (0, 0)) (by (with_reducible repeat (first | refine blk_drewN ?_ _ | refine blk_drew ?_ | refine blk_alloc ?_ _)); exact BK258.out) hb)
                    have n6_ := Aside0.mk (blk_below (g := gb265) (o := .cells #[.int .i64 t260, .int .i64 t261, .slice Ao33 t262.length co33] 24 (0, 0)) (by (with_reducible repeat (first | refine blk_drewN ?_ _ | refine blk_drew ?_ | refine blk_alloc ?_ _)); exact BK265.out) hb)
                    have n7_ := Aside0.mk (blk_below (g := gb284) (o := .cells #[.int .i64 t278, .int .i64 t279, .slice Ao47 t280.length co47] 24 (0, 0)) (by (with_reducible repeat (first | refine blk_drewN ?_ _ | refine blk_drew ?_ | refine blk_alloc ?_ _)); exact BK284.out) hb)
                    have n8_ := Aside0.mk (blk_below (g := gb291) (o := .cells #[.int .i64 t285, .int .i64 t286, .slice Ao55 t287.length co55] 24 (0, 0)) (by (with_reducible repeat (first | refine blk_drewN ?_ _ | refine blk_drew ?_ | refine blk_alloc ?_ _)); exact BK291.out) hb)
                    have n9_ := Aside0.mk (below_step (by repeat (first | (with_reducible first | exact HB.out | apply below_alloc | apply pw_below_drewN | apply below_drew1 | refine below_set ?_ GE257.out | refine below_set ?_ GE258.out | refine below_set ?_ GE265.out | refine below_set ?_ GE284.out | refine below_set ?_ GE291.out) | exact HB.out)) hb)
                    clear HO_8
                    clear HO_266002
                    clear HO_285002
                    clear HO_292002
                    clear BK257
                    clear BK258
                    clear BK265
                    clear BK284
                    clear BK291
                    clear HB
                    have HO_8 := n0_
                    have HO_266002 := n1_
                    have HO_285002 := n2_
                    have HO_292002 := n3_
                    have BK257 := n4_
                    have BK258 := n5_
                    have BK265 := n6_
                    have BK284 := n7_
                    have BK291 := n8_
                    have HB := n9_
                    clear n0_ n1_ n2_ n3_ n4_ n5_ n6_ n7_ n8_ n9_
                    (try clear hb)
                    (try clear hb2)
                    (try clear hk)
                    (try clear hi)
                    refine hK.out _ _ ⟨(blk_cell BK265.out 0).trans rfl, (blk_cell BK265.out 1).trans rfl, (blk_cell BK265.out 2).trans rfl, (blk_cell BK257.out 0).trans rfl, (blk_cell BK257.out 1).trans rfl, (blk_cell BK257.out 2).trans rfl, (blk_cell BK258.out 0).trans rfl, (blk_cell BK258.out 1).trans rfl, (blk_cell BK258.out 2).trans rfl⟩ (fun hHeld => ?_)
                    clear hK K
                    refine norm_ (a' := ?_) ?_ ?_
                    rotate_left
                    · show Act.put _ (some 129) _ = _
                      simp only [Act.put, List.setIfInBounds_toArray, List.set_cons_zero, List.set_cons_succ, i64_w, i32_w]
                      rfl
                    refine one_ (i := 14) (N := some 132) #[true, true, true, true, true, true, true, true, true, true, true, true, true, true, true, false, false, false, false, false, false, false, false, false, false, false] rfl rfl (one_of HT_.out (by kernel_rfl)) (by decide) (fun K hK => ?_)
                    refine goes_ Tryz.func20 (by kernel_rfl) rfl #[.agg #[.int .i64 a0_0, .int .i64 a0_1, .slice A0_2 l0_2.length c0_2], .agg #[.int .i64 a1_0, .int .i64 a1_1, .slice A1_2 l1_2.length c1_2]] (by rfl) rfl rfl (by (try simp only [List.map_toArray, List.map_cons, List.map_nil]); first | done | rfl | (simp only [List.length_drop, List.length_take]; rfl)) ?_
                    with_reducible refine (armisticeref05_Same.calls kj24 a0_0 a0_1 _ _ l0_2 a1_0 a1_1 _ _ l1_2 t302 _ ?side1 ?side2 ?side3 ?side4 A129.out).mono ?_
                    (case side1 => repeat (first | exact (Kd.C_below HR0_2.out HB.out) | (with_reducible refine Kd.C_alloc ?_ _) | (with_reducible refine Kd.C_drewN ?_ _) | (with_reducible refine Kd.C_drew ?_)))
                    (case side2 => exact HC0_2.out)
                    (case side3 => repeat (first | exact (Kd.C_below HR1_2.out HB.out) | (with_reducible refine Kd.C_alloc ?_ _) | (with_reducible refine Kd.C_drewN ?_ _) | (with_reducible refine Kd.C_drew ?_)))
                    (case side4 => exact HC1_2.out)
                    rintro e w140 ⟨rfl, hb⟩
                    refine ⟨_, rfl, ?_⟩
                    have n0_ := Aside0.mk (Kd.R_below (by (with_reducible repeat (first | apply Kd.R_alloc | apply Kd.R_drewN | apply Kd.R_drew)); exact HO_8.out) hb)
                    have n1_ := Aside0.mk (Kd.R_below (by (with_reducible repeat (first | apply Kd.R_alloc | apply Kd.R_drewN | apply Kd.R_drew)); exact HO_266002.out) hb)
                    have n2_ := Aside0.mk (Kd.R_below (by (with_reducible repeat (first | apply Kd.R_alloc | apply Kd.R_drewN | apply Kd.R_drew)); exact HO_285002.out) hb)
                    have n3_ := Aside0.mk (Kd.R_below (by (with_reducible repeat (first | apply Kd.R_alloc | apply Kd.R_drewN | apply Kd.R_drew)); exact HO_292002.out) hb)
                    have n4_ := Aside0.mk (blk_below (g := gb257) (o := .cells #[.int .i64 a0_0, .int .i64 a0_1, .slice A0_2 l0_2.length c0_2] 24 (0, 0)) (by (with_reducible repeat (first | refine blk_drewN ?_ _ | refine blk_drew ?_ | refine blk_alloc ?_ _)); exact BK257.out) hb)
                    have n5_ := Aside0.mk (blk_below (g := gb258) (o := .cells #[.int .i64 a1_0, .int .i64 a1_1, .slice A1_2 l1_2.length c1_2] 24 (0, 0)) (by (with_reducible repeat (first | refine blk_drewN ?_ _ | refine blk_drew ?_ | refine blk_alloc ?_ _)); exact BK258.out) hb)
                    have n6_ := Aside0.mk (blk_below (g := gb265) (o := .cells #[.int .i64 t260, .int .i64 t261, .slice Ao33 t262.length co33] 24 (0, 0)) (by (with_reducible repeat (first | refine blk_drewN ?_ _ | refine blk_drew ?_ | refine blk_alloc ?_ _)); exact BK265.out) hb)
                    have n7_ := Aside0.mk (blk_below (g := gb284) (o := .cells #[.int .i64 t278, .int .i64 t279, .slice Ao47 t280.length co47] 24 (0, 0)) (by (with_reducible repeat (first | refine blk_drewN ?_ _ | refine blk_drew ?_ | refine blk_alloc ?_ _)); exact BK284.out) hb)
                    have n8_ := Aside0.mk (blk_below (g := gb291) (o := .cells #[.int .i64 t285, .int .i64 t286, .slice Ao55 t287.length co55] 24 (0, 0)) (by (with_reducible repeat (first | refine blk_drewN ?_ _ | refine blk_drew ?_ | refine blk_alloc ?_ _)); exact BK291.out) hb)
                    have n9_ := Aside0.mk (below_step (by repeat (first | (with_reducible first | exact HB.out | apply below_alloc | apply pw_below_drewN | apply below_drew1 | refine below_set ?_ GE257.out | refine below_set ?_ GE258.out | refine below_set ?_ GE265.out | refine below_set ?_ GE284.out | refine below_set ?_ GE291.out) | exact HB.out)) hb)
                    clear HO_8
                    clear HO_266002
                    clear HO_285002
                    clear HO_292002
                    clear BK257
                    clear BK258
                    clear BK265
                    clear BK284
                    clear BK291
                    clear HB
                    have HO_8 := n0_
                    have HO_266002 := n1_
                    have HO_285002 := n2_
                    have HO_292002 := n3_
                    have BK257 := n4_
                    have BK258 := n5_
                    have BK265 := n6_
                    have BK284 := n7_
                    have BK291 := n8_
                    have HB := n9_
                    clear n0_ n1_ n2_ n3_ n4_ n5_ n6_ n7_ n8_ n9_
                    (try clear hb)
                    (try clear hb2)
                    (try clear hk)
                    (try clear hi)
                    refine hK.out _ _ ⟨(blk_cell BK265.out 0).trans rfl, (blk_cell BK265.out 1).trans rfl, (blk_cell BK265.out 2).trans rfl, (blk_cell BK257.out 0).trans rfl, (blk_cell BK257.out 1).trans rfl, (blk_cell BK257.out 2).trans rfl, (blk_cell BK258.out 0).trans rfl, (blk_cell BK258.out 1).trans rfl, (blk_cell BK258.out 2).trans rfl⟩ (fun hHeld => ?_)
                    clear hK K
                    refine norm_ (a' := ?_) ?_ ?_
                    rotate_left
                    · show Act.put _ (some 132) _ = _
                      simp only [Act.put, List.setIfInBounds_toArray, List.set_cons_zero, List.set_cons_succ, i64_w, i32_w]
                      rfl
                    refine pure_ (i := 15) (N := some 133) (v := ?_) (a' := ?_) #[true, true, true, true, true, true, true, true, true, true, true, true, true, true, true, true, false, false, false, false, false, false, false, false, false, false] rfl rfl (any_of HT_.out (by kernel_rfl)) (fun _ _ _ h => h) (Or.inl ⟨by rfl, ?_⟩) ?_ ?_
                    rotate_left
                    · intro w'
                      go_simp
                      with_reducible rfl
                    rotate_left
                    · simp only [Act.put, List.setIfInBounds_toArray, List.set_cons_zero, List.set_cons_succ, i64_w, i32_w]
                      rfl
                    refine pure_ (i := 16) (N := some 134) (v := ?_) (a' := ?_) #[true, true, true, true, true, true, true, true, true, true, true, true, true, true, true, true, true, false, false, false, false, false, false, false, false, false] rfl rfl (any_of HT_.out (by kernel_rfl)) (fun _ _ _ h => h) (Or.inl ⟨by rfl, ?_⟩) ?_ ?_
                    rotate_left
                    · intro w'
                      go_simp
                      with_reducible rfl
                    rotate_left
                    · simp only [Act.put, List.setIfInBounds_toArray, List.set_cons_zero, List.set_cons_succ, i64_w, i32_w]
                      rfl
                    refine pure_ (i := 17) (N := some 135) (v := ?_) (a' := ?_) #[true, true, true, true, true, true, true, true, true, true, true, true, true, true, true, true, true, true, false, false, false, false, false, false, false, false] rfl rfl (any_of HT_.out (by kernel_rfl)) (fun _ _ _ h => h) (Or.inl ⟨by rfl, ?_⟩) ?_ ?_
                    rotate_left
                    · intro w'
                      go_simp
                      with_reducible rfl
                    rotate_left
                    · simp only [Act.put, List.setIfInBounds_toArray, List.set_cons_zero, List.set_cons_succ, i64_w, i32_w]
                      rfl
                    refine take_ (i := 18) (N := some 136) (v := ?_) (a' := ?_) #[true, true, true, true, true, true, true, true, true, true, true, true, true, true, true, true, true, true, true, false, false, false, false, false, false, false] rfl rfl (take_ofW HT_.out HW_.out (by kernel_rfl)) (fun _ _ _ h => h) (Or.inl ⟨by rfl, ?_⟩) hHeld ?_ ?_
                    rotate_left
                    · rintro w' ⟨s0, s1, s2, s3, s4, s5, s6, s7, s8⟩
                      go_simp
                      with_reducible rfl
                    rotate_left
                    · simp only [Act.put, List.setIfInBounds_toArray, List.set_cons_zero, List.set_cons_succ, i64_w, i32_w]
                      rfl
                    refine take_ (i := 19) (N := some 137) (v := ?_) (a' := ?_) #[true, true, true, true, true, true, true, true, true, true, true, true, true, true, true, true, true, true, true, true, false, false, false, false, false, false] rfl rfl (take_ofW HT_.out HW_.out (by kernel_rfl)) (fun _ _ _ h => h) (Or.inl ⟨by rfl, ?_⟩) hHeld ?_ ?_
                    rotate_left
                    · rintro w' ⟨s0, s1, s2, s3, s4, s5, s6, s7, s8⟩
                      go_simp
                      with_reducible rfl
                    rotate_left
                    · simp only [Act.put, List.setIfInBounds_toArray, List.set_cons_zero, List.set_cons_succ, i64_w, i32_w]
                      rfl
                    refine one_ (i := 20) (N := some 138) #[true, true, true, true, true, true, true, true, true, true, true, true, true, true, true, true, true, true, true, true, true, false, false, false, false, false] rfl rfl (one_of HT_.out (by kernel_rfl)) (by decide) (fun K hK => ?_)
                    refine goes_ Tryz.func15 (by kernel_rfl) rfl #[.agg #[.int .i64 t260, .int .i64 t261, .slice Ao33 t262.length co33], .agg #[.int .i64 a0_0, .int .i64 a0_1, .slice A0_2 l0_2.length c0_2]] (by rfl) rfl rfl (by (try simp only [List.map_toArray, List.map_cons, List.map_nil]); first | done | rfl | (simp only [List.length_drop, List.length_take]; rfl)) ?_
                    with_reducible refine (armisticekit_SameState.calls kj24 t260 t261 _ _ t262 a0_0 a0_1 _ _ l0_2 true _ ?side1 ?side2 ?side3 ?side4 A131.out).mono ?_
                    (case side1 => repeat (first | exact (Kd.R_reads' HO_266002.out).2.2 | (with_reducible refine Kd.C_alloc ?_ _) | (with_reducible refine Kd.C_drewN ?_ _) | (with_reducible refine Kd.C_drew ?_)))
                    (case side2 => exact (Kd.R_reads' HO_266002.out).2.1)
                    (case side3 => repeat (first | exact (Kd.C_below HR0_2.out HB.out) | (with_reducible refine Kd.C_alloc ?_ _) | (with_reducible refine Kd.C_drewN ?_ _) | (with_reducible refine Kd.C_drew ?_)))
                    (case side4 => exact HC0_2.out)
                    rintro e w141 ⟨rfl, hb⟩
                    refine ⟨_, rfl, ?_⟩
                    have n0_ := Aside0.mk (Kd.R_below (by (with_reducible repeat (first | apply Kd.R_alloc | apply Kd.R_drewN | apply Kd.R_drew)); exact HO_8.out) hb)
                    have n1_ := Aside0.mk (Kd.R_below (by (with_reducible repeat (first | apply Kd.R_alloc | apply Kd.R_drewN | apply Kd.R_drew)); exact HO_266002.out) hb)
                    have n2_ := Aside0.mk (Kd.R_below (by (with_reducible repeat (first | apply Kd.R_alloc | apply Kd.R_drewN | apply Kd.R_drew)); exact HO_285002.out) hb)
                    have n3_ := Aside0.mk (Kd.R_below (by (with_reducible repeat (first | apply Kd.R_alloc | apply Kd.R_drewN | apply Kd.R_drew)); exact HO_292002.out) hb)
                    have n4_ := Aside0.mk (blk_below (g := gb257) (o := .cells #[.int .i64 a0_0, .int .i64 a0_1, .slice A0_2 l0_2.length c0_2] 24 (0, 0)) (by (with_reducible repeat (first | refine blk_drewN ?_ _ | refine blk_drew ?_ | refine blk_alloc ?_ _)); exact BK257.out) hb)
                    have n5_ := Aside0.mk (blk_below (g := gb258) (o := .cells #[.int .i64 a1_0, .int .i64 a1_1, .slice A1_2 l1_2.length c1_2] 24 (0, 0)) (by (with_reducible repeat (first | refine blk_drewN ?_ _ | refine blk_drew ?_ | refine blk_alloc ?_ _)); exact BK258.out) hb)
                    have n6_ := Aside0.mk (blk_below (g := gb265) (o := .cells #[.int .i64 t260, .int .i64 t261, .slice Ao33 t262.length co33] 24 (0, 0)) (by (with_reducible repeat (first | refine blk_drewN ?_ _ | refine blk_drew ?_ | refine blk_alloc ?_ _)); exact BK265.out) hb)
                    have n7_ := Aside0.mk (blk_below (g := gb284) (o := .cells #[.int .i64 t278, .int .i64 t279, .slice Ao47 t280.length co47] 24 (0, 0)) (by (with_reducible repeat (first | refine blk_drewN ?_ _ | refine blk_drew ?_ | refine blk_alloc ?_ _)); exact BK284.out) hb)
                    have n8_ := Aside0.mk (blk_below (g := gb291) (o := .cells #[.int .i64 t285, .int .i64 t286, .slice Ao55 t287.length co55] 24 (0, 0)) (by (with_reducible repeat (first | refine blk_drewN ?_ _ | refine blk_drew ?_ | refine blk_alloc ?_ _)); exact BK291.out) hb)
                    have n9_ := Aside0.mk (below_step (by repeat (first | (with_reducible first | exact HB.out | apply below_alloc | apply pw_below_drewN | apply below_drew1 | refine below_set ?_ GE257.out | refine below_set ?_ GE258.out | refine below_set ?_ GE265.out | refine below_set ?_ GE284.out | refine below_set ?_ GE291.out) | exact HB.out)) hb)
                    clear HO_8
                    clear HO_266002
                    clear HO_285002
                    clear HO_292002
                    clear BK257
                    clear BK258
                    clear BK265
                    clear BK284
                    clear BK291
                    clear HB
                    have HO_8 := n0_
                    have HO_266002 := n1_
                    have HO_285002 := n2_
                    have HO_292002 := n3_
                    have BK257 := n4_
                    have BK258 := n5_
                    have BK265 := n6_
                    have BK284 := n7_
                    have BK291 := n8_
                    have HB := n9_
                    clear n0_ n1_ n2_ n3_ n4_ n5_ n6_ n7_ n8_ n9_
                    (try clear hb)
                    (try clear hb2)
                    (try clear hk)
                    (try clear hi)
                    refine hK.out _ _ ⟨(blk_cell BK265.out 0).trans rfl, (blk_cell BK265.out 1).trans rfl, (blk_cell BK265.out 2).trans rfl, (blk_cell BK257.out 0).trans rfl, (blk_cell BK257.out 1).trans rfl, (blk_cell BK257.out 2).trans rfl, (blk_cell BK258.out 0).trans rfl, (blk_cell BK258.out 1).trans rfl, (blk_cell BK258.out 2).trans rfl⟩ (fun hHeld => ?_)
                    clear hK K
                    refine norm_ (a' := ?_) ?_ ?_
                    rotate_left
                    · show Act.put _ (some 138) _ = _
                      simp only [Act.put, List.setIfInBounds_toArray, List.set_cons_zero, List.set_cons_succ, i64_w, i32_w]
                      rfl
                    refine pure_ (i := 21) (N := some 139) (v := ?_) (a' := ?_) #[true, true, true, true, true, true, true, true, true, true, true, true, true, true, true, true, true, true, true, true, true, true, false, false, false, false] rfl rfl (any_of HT_.out (by kernel_rfl)) (fun _ _ _ h => h) (Or.inl ⟨by rfl, ?_⟩) ?_ ?_
                    rotate_left
                    · intro w'
                      go_simp
                      with_reducible rfl
                    rotate_left
                    · simp only [Act.put, List.setIfInBounds_toArray, List.set_cons_zero, List.set_cons_succ, i64_w, i32_w]
                      rfl
                    refine pure_ (i := 22) (N := some 140) (v := ?_) (a' := ?_) #[true, true, true, true, true, true, true, true, true, true, true, true, true, true, true, true, true, true, true, true, true, true, true, false, false, false] rfl rfl (any_of HT_.out (by kernel_rfl)) (fun _ _ _ h => h) (Or.inl ⟨by rfl, ?_⟩) ?_ ?_
                    rotate_left
                    · intro w'
                      go_simp
                      with_reducible rfl
                    rotate_left
                    · simp only [Act.put, List.setIfInBounds_toArray, List.set_cons_zero, List.set_cons_succ, i64_w, i32_w]
                      rfl
                    refine one_ (i := 23) (N := some 141) #[true, true, true, true, true, true, true, true, true, true, true, true, true, true, true, true, true, true, true, true, true, true, true, true, false, false] rfl rfl (one_of HT_.out (by kernel_rfl)) (by decide) (fun K hK => ?_)
                    refine goes_ Tryz.func4 (by kernel_rfl) rfl #[] (by rfl) rfl rfl (by (try simp only [List.map_toArray, List.map_cons, List.map_nil]); first | done | rfl | (simp only [List.length_drop, List.length_take]; rfl)) ?_
                    with_reducible refine (armisticelaw05_awake.calls kj24  t304 _ ?side1 A133.out).mono ?_
                    (case side1 => exact GOk.below HG.out (by repeat (first | (with_reducible first | exact HB.out | apply below_alloc | apply pw_below_drewN | apply below_drew1 | refine below_set ?_ GE257.out | refine below_set ?_ GE258.out | refine below_set ?_ GE265.out | refine below_set ?_ GE284.out | refine below_set ?_ GE291.out) | exact HB.out)))
                    rintro e w142 ⟨rfl, hb⟩
                    refine ⟨_, rfl, ?_⟩
                    have n0_ := Aside0.mk (Kd.R_below (by (with_reducible repeat (first | apply Kd.R_alloc | apply Kd.R_drewN | apply Kd.R_drew)); exact HO_8.out) hb)
                    have n1_ := Aside0.mk (Kd.R_below (by (with_reducible repeat (first | apply Kd.R_alloc | apply Kd.R_drewN | apply Kd.R_drew)); exact HO_266002.out) hb)
                    have n2_ := Aside0.mk (Kd.R_below (by (with_reducible repeat (first | apply Kd.R_alloc | apply Kd.R_drewN | apply Kd.R_drew)); exact HO_285002.out) hb)
                    have n3_ := Aside0.mk (Kd.R_below (by (with_reducible repeat (first | apply Kd.R_alloc | apply Kd.R_drewN | apply Kd.R_drew)); exact HO_292002.out) hb)
                    have n4_ := Aside0.mk (blk_below (g := gb257) (o := .cells #[.int .i64 a0_0, .int .i64 a0_1, .slice A0_2 l0_2.length c0_2] 24 (0, 0)) (by (with_reducible repeat (first | refine blk_drewN ?_ _ | refine blk_drew ?_ | refine blk_alloc ?_ _)); exact BK257.out) hb)
                    have n5_ := Aside0.mk (blk_below (g := gb258) (o := .cells #[.int .i64 a1_0, .int .i64 a1_1, .slice A1_2 l1_2.length c1_2] 24 (0, 0)) (by (with_reducible repeat (first | refine blk_drewN ?_ _ | refine blk_drew ?_ | refine blk_alloc ?_ _)); exact BK258.out) hb)
                    have n6_ := Aside0.mk (blk_below (g := gb265) (o := .cells #[.int .i64 t260, .int .i64 t261, .slice Ao33 t262.length co33] 24 (0, 0)) (by (with_reducible repeat (first | refine blk_drewN ?_ _ | refine blk_drew ?_ | refine blk_alloc ?_ _)); exact BK265.out) hb)
                    have n7_ := Aside0.mk (blk_below (g := gb284) (o := .cells #[.int .i64 t278, .int .i64 t279, .slice Ao47 t280.length co47] 24 (0, 0)) (by (with_reducible repeat (first | refine blk_drewN ?_ _ | refine blk_drew ?_ | refine blk_alloc ?_ _)); exact BK284.out) hb)
                    have n8_ := Aside0.mk (blk_below (g := gb291) (o := .cells #[.int .i64 t285, .int .i64 t286, .slice Ao55 t287.length co55] 24 (0, 0)) (by (with_reducible repeat (first | refine blk_drewN ?_ _ | refine blk_drew ?_ | refine blk_alloc ?_ _)); exact BK291.out) hb)
                    have n9_ := Aside0.mk (below_step (by repeat (first | (with_reducible first | exact HB.out | apply below_alloc | apply pw_below_drewN | apply below_drew1 | refine below_set ?_ GE257.out | refine below_set ?_ GE258.out | refine below_set ?_ GE265.out | refine below_set ?_ GE284.out | refine below_set ?_ GE291.out) | exact HB.out)) hb)
                    clear HO_8
                    clear HO_266002
                    clear HO_285002
                    clear HO_292002
                    clear BK257
                    clear BK258
                    clear BK265
                    clear BK284
                    clear BK291
                    clear HB
                    have HO_8 := n0_
                    have HO_266002 := n1_
                    have HO_285002 := n2_
                    have HO_292002 := n3_
                    have BK257 := n4_
                    have BK258 := n5_
                    have BK265 := n6_
                    have BK284 := n7_
                    have BK291 := n8_
                    have HB := n9_
                    clear n0_ n1_ n2_ n3_ n4_ n5_ n6_ n7_ n8_ n9_
                    (try clear hb)
                    (try clear hb2)
                    (try clear hk)
                    (try clear hi)
                    refine hK.out _ _ ⟨(blk_cell BK265.out 0).trans rfl, (blk_cell BK265.out 1).trans rfl, (blk_cell BK265.out 2).trans rfl, (blk_cell BK257.out 0).trans rfl, (blk_cell BK257.out 1).trans rfl, (blk_cell BK257.out 2).trans rfl, (blk_cell BK258.out 0).trans rfl, (blk_cell BK258.out 1).trans rfl, (blk_cell BK258.out 2).trans rfl⟩ (fun hHeld => ?_)
                    clear hK K
                    refine norm_ (a' := ?_) ?_ ?_
                    rotate_left
                    · show Act.put _ (some 141) _ = _
                      simp only [Act.put, List.setIfInBounds_toArray, List.set_cons_zero, List.set_cons_succ, i64_w, i32_w]
                      rfl
                    refine pure_ (i := 24) (N := some 142) (v := ?_) (a' := ?_) #[true, true, true, true, true, true, true, true, true, true, true, true, true, true, true, true, true, true, true, true, true, true, true, true, true, false] rfl rfl (any_of HT_.out (by kernel_rfl)) (fun _ _ _ h => h) (Or.inl ⟨by rfl, ?_⟩) ?_ ?_
                    rotate_left
                    · intro w'
                      go_simp
                      with_reducible rfl
                    rotate_left
                    · simp only [Act.put, List.setIfInBounds_toArray, List.set_cons_zero, List.set_cons_succ, i64_w, i32_w]
                      rfl
                    refine pure_ (i := 25) (N := some 6) (v := ?_) (a' := ?_) #[true, true, true, true, true, true, true, true, true, true, true, true, true, true, true, true, true, true, true, true, true, true, true, true, true, true] rfl rfl (any_of HT_.out (by kernel_rfl)) (fun _ _ _ h => h) (Or.inl ⟨by rfl, ?_⟩) ?_ ?_
                    rotate_left
                    · intro w'
                      go_simp
                      with_reducible rfl
                    rotate_left
                    · simp only [Act.put, List.setIfInBounds_toArray, List.set_cons_zero, List.set_cons_succ, i64_w, i32_w]
                      rfl
                    refine done_ (done_of HT_.out (by kernel_rfl)) ?_
                    try go_wp2
                    go_ret
                    exact ⟨by first | rfl | (simp [errW_none, errW_some] <;> rfl) | (simp [*, errW_none, errW_some] <;> rfl), by repeat (first | (with_reducible first | exact HB.out | apply below_alloc | apply pw_below_drewN | apply below_drew1 | refine below_set ?_ GE257.out | refine below_set ?_ GE258.out | refine below_set ?_ GE265.out | refine below_set ?_ GE284.out | refine below_set ?_ GE291.out) | exact HB.out)⟩
                  · replace c132 := Bool.eq_false_iff.mpr c132
                    subst c132
                    have H1 : (some false) = some r := by rw [if_neg (show ¬ (false = true) by decide)] at H; exact H
                    clear H
                    have H := H1
                    clear H1
                    exact absurd ((Option.some.inj H).trans HRT.out) (by simp)
                · rw [if_neg c130] at H
                  exact absurd ((Option.some.inj H).trans HRT.out) (by simp)
              · rw [if_neg c127] at H
                exact absurd ((Option.some.inj H).trans HRT.out) (by simp)
            · replace c124 := Bool.eq_false_iff.mpr c124
              subst c124
              have H1 : (some false) = some r := by rw [if_neg (show ¬ (false = true) by decide)] at H; exact H
              clear H
              have H := H1
              clear H1
              exact absurd ((Option.some.inj H).trans HRT.out) (by simp)
end Go.Proofs.YtdimbcabkikcoaaGreatDoor.P
