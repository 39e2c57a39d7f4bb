/- Laid by a program of this session (wip/tools/xprint.py) after the kit's printer: functions of the translation as plain Lean functions, each with the proof that its call comes to just that. -/
import Derived.Test.YtdimbcabkikcoaaDoorPx0
import Derived.Test.YtdimbcabkikcoaaDoorPx3
namespace Go.Proofs.YtdimbcabkikcoaaDoor.P
open Go.RowKit Go.Proofs.YtdimbcabkikcoaaDoorW.PrintWords Go.Proofs.YtdimbcabkikcoaaDoorW.PrintLast Go.Proofs.YtdimbcabkikcoaaDoorW.PrintMore
attribute [local go_sem] max2_int min2_int max_two min_two max_three min_three max_four min_four   -- for this text's walks alone
set_option linter.unusedVariables false
set_option linter.unusedSimpArgs false

/-! ### armisticeref05_Check: function 29 -/
def armisticeref05_Check.j0 : Nat → Bool → Int → Int → List Int → Option (Int)
 | 0, _, _, _, _ => none
 | k + 1, x11, x219000, x219001, x219002 => if x11 = true then (some 8) else (if x219000 = 1 then (if ((x219002.length : Int) = 0) then (some 0) else (some 5)) else (if x219000 = 2 then (if x219001 = 0 then ((armisticeref05_rises.f k x219002 1).bind fun t219 => (if t219 = true then (some 0) else (some 5))) else (some 5)) else (if x219000 = 3 then (if x219001 = 0 then (if ((x219002.length : Int) % 2) = 0 then ((armisticeref05_rises.f k x219002 2).bind fun t220 => (if t220 = true then (some 0) else (some 5))) else (some 5)) else (some 5)) else (if x219000 = 4 then (if x219001 = 0 then (some 0) else (some 5)) else (if (x219002.length : Int) = 0 then (if x219001 ≥ 0 then (if x219001 ≤ 4611686018427387904 then (some 0) else (some 5)) else (some 5)) else (some 5))))))
def armisticeref05_Check.f (k : Nat) (a0_0 : Int) (a0_1 : Int) (l0_2 : List Int) : Option (Int) := if a0_0 < 1 then (armisticeref05_Check.j0 k true a0_0 a0_1 l0_2) else (armisticeref05_Check.j0 k (decide (a0_0 > 5)) a0_0 a0_1 l0_2)
theorem armisticeref05_Check.mono_l : ∀ k, (∀ y0 y1 y2 y3, LeO (armisticeref05_Check.j0 k y0 y1 y2 y3) (armisticeref05_Check.j0 (k + 1) y0 y1 y2 y3))
 | 0 => fun _ _ _ _ r h => by simp [armisticeref05_Check.j0] at h
 | k + 1 => by
  have ih0 := armisticeref05_Check.mono_l k
  ·intro y0 y1 y2 y3
   unfold armisticeref05_Check.j0
   repeat' first
   | (with_reducible exact ih0 _ _ _ _)
   | (with_reducible exact armisticeref05_rises.mono _ _ _)
   | (with_reducible exact LeO.refl _)
   | (with_reducible exact LeO.none _)
   | (with_reducible refine LeO.ite ?_ ?_)
   | (with_reducible refine LeO.bind ?_ (fun _ => ?_))
   | exact ih0 _ _ _ _
   | exact armisticeref05_rises.mono _ _ _
   | exact LeO.none _
   | refine LeO.ite ?_ ?_
   | refine LeO.bind ?_ (fun _ => ?_)
theorem armisticeref05_Check.mono : ∀ a0 a1 a2 k, LeO (armisticeref05_Check.f k a0 a1 a2) (armisticeref05_Check.f (k + 1) a0 a1 a2) := by
 intro a0 a1 a2 k
 have ih0 := armisticeref05_Check.mono_l k
 unfold armisticeref05_Check.f
 repeat' first
   | (with_reducible exact ih0 _ _ _ _)
   | (with_reducible exact armisticeref05_rises.mono _ _ _)
   | (with_reducible exact LeO.refl _)
   | (with_reducible exact LeO.none _)
   | (with_reducible refine LeO.ite ?_ ?_)
   | (with_reducible refine LeO.bind ?_ (fun _ => ?_))
   | exact ih0 _ _ _ _
   | exact armisticeref05_rises.mono _ _ _
   | exact LeO.none _
   | refine LeO.ite ?_ ?_
   | refine LeO.bind ?_ (fun _ => ?_)
set_option maxHeartbeats 8000000 in
set_option maxRecDepth 100000 in
theorem armisticeref05_Check.calls (k : Nat) (a0_0 : Int) (a0_1 : Int) (A0_2 : Option Addr) (c0_2 : Nat) (l0_2 : List Int) (r : Int) (w : World) (hr0_2 : Kd.C (Kd.int .i64) w A0_2 l0_2.length l0_2) (hc0_2 : l0_2.length ≤ c0_2) (h : armisticeref05_Check.f k a0_0 a0_1 l0_2 = some r) :
  Calls Tryd.prog 29 #[.agg #[.int .i64 a0_0, .int .i64 a0_1, .slice A0_2 l0_2.length c0_2]] w fun e w' => e = .returned (.int .i64 r) ∧ Below w.heap.size w w' := by
 have hu27 := Tryd.underlying27
 have HR0_2 := Aside0.mk hr0_2
 have HC0_2 := Aside0.mk hc0_2
 clear hr0_2 hc0_2
 have HB := Aside0.mk (Below.refl w.heap.size w)
 have H : (if a0_0 < 1 then (armisticeref05_Check.j0 k true a0_0 a0_1 l0_2) else (armisticeref05_Check.j0 k (decide (a0_0 > 5)) a0_0 a0_1 l0_2)) = some r := h
 clear h
 have HC2 := Aside0.mk H
 clear H
 go_enter Tryd.func29, Tryd.ntmps29
 go_upto_region 1 with (first | ((with_reducible refine gate_dst (N := 1) rfl ?_); (try (refine gate_guard (by rfl) ?_; dsimp only)); refine box_event ?hg (N := 1) ?hd (cs := #[.int .i64 a0_0, .int .i64 a0_1, .slice A0_2 l0_2.length c0_2]) (t := 27) ?hr ?_; (case hd => rfl); (case hg => rfl); (case hr => first | (go_simp; done) | (go_simp; rfl)); intro gb218 hg w3 hbox hb; have n0_ := Aside0.mk (below_step (by repeat (first | (with_reducible first | exact HB.out | apply below_alloc | apply pw_below_drewN | apply below_drew1) | exact HB.out)) hb); have n1_ := Aside0.mk (hbox); have n2_ := Aside0.mk ((by rw [hg]; exact (below_size (by repeat (first | (with_reducible first | exact HB.out | apply below_alloc | apply pw_below_drewN | apply below_drew1) | exact HB.out))) : w.heap.size ≤ gb218)); have n3_ := Aside0.mk ((by rw [hg]; exact (below_size (by repeat (first | (with_reducible first | exact HB.out | apply below_alloc | apply pw_below_drewN | apply below_drew1) | exact HB.out))) : w.heap.size ≤ gb218)); clear HB; have HB := n0_; have BK218 := n1_; have GW218 := n2_; have GE218 := n3_; clear n0_ n1_ n2_ n3_; clear hb hbox hg))
 (try simp only [Act.put, List.setIfInBounds_toArray, List.set_cons_zero, List.set_cons_succ])
 go_cut [11] (fun v11 wc => ∃ (kq : Nat) (x11_1 : Bool), v11 = .bool x11_1 ∧ Aside0 (armisticeref05_Check.j0 kq x11_1 a0_0 a0_1 l0_2 = some r) ∧ Aside0 (kq ≤ k) ∧ Aside0 (wc.heap[gb218]? = some (.cells #[.int .i64 a0_0, .int .i64 a0_1, (.slice A0_2 l0_2.length c0_2)] 27 (0, 0))) ∧ Aside0 (Below w.heap.size w wc))
 case first =>
  have H := HC2.out
  clear HC2
  by_cases c4 : a0_0 < 1
  ·rw [if_pos c4] at H
   have c4b0 : decide (a0_0 < 1) = true := decide_eq_true c4
   clear c4
   (first | rw [c4b0] | (simp only [i64_w, i32_w]; rw [c4b0]) | skip)
   have H' := Aside0.mk H
   clear H
   have hcz5_0 : w3.cell? ⟨gb218, 0, none⟩ = some (.int .i64 a0_0) := (blk_cell BK218.out 0).trans rfl
   have hcz5_1 : w3.cell? ⟨gb218, 1, none⟩ = some (.int .i64 a0_1) := (blk_cell BK218.out 1).trans rfl
   have hcz5_2 : w3.cell? ⟨gb218, 2, none⟩ = some (.slice A0_2 l0_2.length c0_2) := (blk_cell BK218.out 2).trans rfl
   have hfz5_0 := blk_frozen BK218.out 0
   have hfz5_1 := blk_frozen BK218.out 1
   have hfz5_2 := blk_frozen BK218.out 2
   go_wp2
   go_meet
   case rel => exact ⟨_, (true), (by first | rfl | (simp; done) | (simp [*]; done)), H', ⟨by first | omega | exact Nat.le_refl _⟩, ⟨by (with_reducible repeat (first | refine blk_drewN ?_ _ | refine blk_drew ?_ | refine blk_alloc ?_ _)); exact BK218.out⟩, ⟨by repeat (first | (with_reducible first | exact HB.out | apply below_alloc | apply pw_below_drewN | apply below_drew1 | refine below_set ?_ GE218.out) | exact HB.out)⟩⟩
  ·rw [if_neg c4] at H
   have c4b0 : decide (a0_0 < 1) = false := decide_eq_false c4
   clear c4
   (first | rw [c4b0] | (simp only [i64_w, i32_w]; rw [c4b0]) | skip)
   have H' := Aside0.mk H
   clear H
   have hcz6_0 : w3.cell? ⟨gb218, 0, none⟩ = some (.int .i64 a0_0) := (blk_cell BK218.out 0).trans rfl
   have hcz6_1 : w3.cell? ⟨gb218, 1, none⟩ = some (.int .i64 a0_1) := (blk_cell BK218.out 1).trans rfl
   have hcz6_2 : w3.cell? ⟨gb218, 2, none⟩ = some (.slice A0_2 l0_2.length c0_2) := (blk_cell BK218.out 2).trans rfl
   have hfz6_0 := blk_frozen BK218.out 0
   have hfz6_1 := blk_frozen BK218.out 1
   have hfz6_2 := blk_frozen BK218.out 2
   go_wp2
   go_meet
   case rel => exact ⟨_, (decide (a0_0 > 5)), (by first | rfl | (simp; done) | (simp [*]; done)), H', ⟨by first | omega | exact Nat.le_refl _⟩, ⟨by (with_reducible repeat (first | refine blk_drewN ?_ _ | refine blk_drew ?_ | refine blk_alloc ?_ _)); exact BK218.out⟩, ⟨by repeat (first | (with_reducible first | exact HB.out | apply below_alloc | apply pw_below_drewN | apply below_drew1 | refine below_set ?_ GE218.out) | exact HB.out)⟩⟩
 case rest =>
  clear HC2
  try clear c2
  try clear p2
  try clear c4
  try clear c4b0
  try clear hcz5_0
  try clear hcz5_1
  try clear hcz5_2
  try clear hcz6_0
  try clear hcz6_1
  try clear hcz6_2
  try clear hfz5_0
  try clear hfz5_1
  try clear hfz5_2
  try clear hfz6_0
  try clear hfz6_1
  try clear hfz6_2
  obtain ⟨kq, x11_1, rfl, HA, HJ1, BK218, HB⟩ := hcut
  cases kq with
  | zero => exact absurd HA.out (by simp [armisticeref05_Check.j0])
  | succ kj1 =>
   have H := HA.out
   clear HA
   simp only [armisticeref05_Check.j0] at H
   by_cases c7 : x11_1 = true
   ·subst c7
    have H1 : (some 8) = some r := by rw [if_pos rfl] at H; exact H
    clear H
    have H := H1
    clear H1
    obtain rfl := Option.some.inj H
    go_wp2
    go_ret
    exact ⟨by first | rfl | (simp [errW_none, errW_some] <;> rfl) | (simp [*, errW_none, errW_some] <;> rfl), by repeat (first | (with_reducible first | exact HB.out | apply below_alloc | apply pw_below_drewN | apply below_drew1 | refine below_set ?_ GE218.out) | exact HB.out)⟩
   ·replace c7 := Bool.eq_false_iff.mpr c7
    subst c7
    have H1 : (if a0_0 = 1 then (if ((l0_2.length : Int) = 0) then (some 0) else (some 5)) else (if a0_0 = 2 then (if a0_1 = 0 then ((armisticeref05_rises.f kj1 l0_2 1).bind fun t219 => (if t219 = true then (some 0) else (some 5))) else (some 5)) else (if a0_0 = 3 then (if a0_1 = 0 then (if ((l0_2.length : Int) % 2) = 0 then ((armisticeref05_rises.f kj1 l0_2 2).bind fun t220 => (if t220 = true then (some 0) else (some 5))) else (some 5)) else (some 5)) else (if a0_0 = 4 then (if a0_1 = 0 then (some 0) else (some 5)) else (if (l0_2.length : Int) = 0 then (if a0_1 ≥ 0 then (if a0_1 ≤ 4611686018427387904 then (some 0) else (some 5)) else (some 5)) else (some 5)))))) = some r := by rw [if_neg (show ¬ (false = true) by decide)] at H; exact H
    clear H
    have H := H1
    clear H1
    by_cases c8 : a0_0 = 1
    ·rw [if_pos c8] at H
     have c8b0 : (a0_0 == 1) = true := beq_iff_eq.mpr c8
     have c8b1 : (a0_0 != 1) = false := bne_eq_false_iff_eq.mpr c8
     clear c8
     by_cases c9 : ((l0_2.length : Int) = 0)
     ·rw [if_pos c9] at H
      have c9b0 : ((l0_2.length : Int) == 0) = true := beq_iff_eq.mpr c9
      have c9b1 : ((l0_2.length : Int) != 0) = false := bne_eq_false_iff_eq.mpr c9
      clear c9
      obtain rfl := Option.some.inj H
      have hcz10_0 : wc.cell? ⟨gb218, 0, none⟩ = some (.int .i64 a0_0) := (blk_cell BK218.out 0).trans rfl
      have hcz10_1 : wc.cell? ⟨gb218, 1, none⟩ = some (.int .i64 a0_1) := (blk_cell BK218.out 1).trans rfl
      have hcz10_2 : wc.cell? ⟨gb218, 2, none⟩ = some (.slice A0_2 l0_2.length c0_2) := (blk_cell BK218.out 2).trans rfl
      have hfz10_0 := blk_frozen BK218.out 0
      have hfz10_1 := blk_frozen BK218.out 1
      have hfz10_2 := blk_frozen BK218.out 2
      go_wp2
      go_ret
      exact ⟨by first | rfl | (simp [errW_none, errW_some] <;> rfl) | (simp [*, errW_none, errW_some] <;> rfl), by repeat (first | (with_reducible first | exact HB.out | apply below_alloc | apply pw_below_drewN | apply below_drew1 | refine below_set ?_ GE218.out) | exact HB.out)⟩
     ·rw [if_neg c9] at H
      have c9b0 : ((l0_2.length : Int) == 0) = false := beq_eq_false_iff_ne.mpr c9
      have c9b1 : ((l0_2.length : Int) != 0) = true := bne_iff_ne.mpr c9
      have c9b2 : ¬ (l0_2 = []) := fun h_ => c9 (by rw [h_]; rfl)
      obtain rfl := Option.some.inj H
      have hcz11_0 : wc.cell? ⟨gb218, 0, none⟩ = some (.int .i64 a0_0) := (blk_cell BK218.out 0).trans rfl
      have hcz11_1 : wc.cell? ⟨gb218, 1, none⟩ = some (.int .i64 a0_1) := (blk_cell BK218.out 1).trans rfl
      have hcz11_2 : wc.cell? ⟨gb218, 2, none⟩ = some (.slice A0_2 l0_2.length c0_2) := (blk_cell BK218.out 2).trans rfl
      have hfz11_0 := blk_frozen BK218.out 0
      have hfz11_1 := blk_frozen BK218.out 1
      have hfz11_2 := blk_frozen BK218.out 2
      go_wp2
      go_ret
      exact ⟨by first | rfl | (simp [errW_none, errW_some] <;> rfl) | (simp [*, errW_none, errW_some] <;> rfl), by repeat (first | (with_reducible first | exact HB.out | apply below_alloc | apply pw_below_drewN | apply below_drew1 | refine below_set ?_ GE218.out) | exact HB.out)⟩
    ·rw [if_neg c8] at H
     have c8b0 : (a0_0 == 1) = false := beq_eq_false_iff_ne.mpr c8
     have c8b1 : (a0_0 != 1) = true := bne_iff_ne.mpr c8
     by_cases c12 : a0_0 = 2
     ·rw [if_pos c12] at H
      have c12b0 : (a0_0 == 2) = true := beq_iff_eq.mpr c12
      have c12b1 : (a0_0 != 2) = false := bne_eq_false_iff_eq.mpr c12
      clear c12
      by_cases c13 : a0_1 = 0
      ·rw [if_pos c13] at H
       have c13b0 : (a0_1 == 0) = true := beq_iff_eq.mpr c13
       have c13b1 : (a0_1 != 0) = false := bne_eq_false_iff_eq.mpr c13
       clear c13
       replace H := Option.bind_eq_some_iff.mp H
       obtain ⟨t219, A140, H⟩ := H
       replace H : (if t219 = true then (some 0) else (some 5)) = some r := H
       have A14 := Aside0.mk A140
       clear A140
       by_cases c15 : t219 = true
       ·subst c15
        have H1 : (some 0) = some r := by rw [if_pos rfl] at H; exact H
        clear H
        have H := H1
        clear H1
        obtain rfl := Option.some.inj H
        have hcz16_0 : wc.cell? ⟨gb218, 0, none⟩ = some (.int .i64 a0_0) := (blk_cell BK218.out 0).trans rfl
        have hcz16_1 : wc.cell? ⟨gb218, 1, none⟩ = some (.int .i64 a0_1) := (blk_cell BK218.out 1).trans rfl
        have hcz16_2 : wc.cell? ⟨gb218, 2, none⟩ = some (.slice A0_2 l0_2.length c0_2) := (blk_cell BK218.out 2).trans rfl
        have hfz16_0 := blk_frozen BK218.out 0
        have hfz16_1 := blk_frozen BK218.out 1
        have hfz16_2 := blk_frozen BK218.out 2
        go_wp2_with (first | (go_at_call 46; (with_reducible refine (armisticeref05_rises.calls kj1 _ _ l0_2 1 true _ ?side1 ?side2 A14.out).mono ?_); (case side1 => repeat (first | exact (Kd.C_below HR0_2.out HB.out) | (with_reducible refine Kd.C_alloc ?_ _) | (with_reducible refine Kd.C_drewN ?_ _) | (with_reducible refine Kd.C_drew ?_))); (case side2 => exact HC0_2.out); rintro e w' ⟨rfl, ⟨nd, rfl⟩⟩))
        go_ret
        exact ⟨by first | rfl | (simp [errW_none, errW_some] <;> rfl) | (simp [*, errW_none, errW_some] <;> rfl), by repeat (first | (with_reducible first | exact HB.out | apply below_alloc | apply pw_below_drewN | apply below_drew1 | refine below_set ?_ GE218.out) | exact HB.out)⟩
       ·replace c15 := Bool.eq_false_iff.mpr c15
        subst c15
        have H1 : (some 5) = some r := by rw [if_neg (show ¬ (false = true) by decide)] at H; exact H
        clear H
        have H := H1
        clear H1
        obtain rfl := Option.some.inj H
        have hcz17_0 : wc.cell? ⟨gb218, 0, none⟩ = some (.int .i64 a0_0) := (blk_cell BK218.out 0).trans rfl
        have hcz17_1 : wc.cell? ⟨gb218, 1, none⟩ = some (.int .i64 a0_1) := (blk_cell BK218.out 1).trans rfl
        have hcz17_2 : wc.cell? ⟨gb218, 2, none⟩ = some (.slice A0_2 l0_2.length c0_2) := (blk_cell BK218.out 2).trans rfl
        have hfz17_0 := blk_frozen BK218.out 0
        have hfz17_1 := blk_frozen BK218.out 1
        have hfz17_2 := blk_frozen BK218.out 2
        go_wp2_with (first | (go_at_call 46; (with_reducible refine (armisticeref05_rises.calls kj1 _ _ l0_2 1 false _ ?side1 ?side2 A14.out).mono ?_); (case side1 => repeat (first | exact (Kd.C_below HR0_2.out HB.out) | (with_reducible refine Kd.C_alloc ?_ _) | (with_reducible refine Kd.C_drewN ?_ _) | (with_reducible refine Kd.C_drew ?_))); (case side2 => exact HC0_2.out); rintro e w' ⟨rfl, ⟨nd, rfl⟩⟩))
        go_ret
        exact ⟨by first | rfl | (simp [errW_none, errW_some] <;> rfl) | (simp [*, errW_none, errW_some] <;> rfl), by repeat (first | (with_reducible first | exact HB.out | apply below_alloc | apply pw_below_drewN | apply below_drew1 | refine below_set ?_ GE218.out) | exact HB.out)⟩
      ·rw [if_neg c13] at H
       have c13b0 : (a0_1 == 0) = false := beq_eq_false_iff_ne.mpr c13
       have c13b1 : (a0_1 != 0) = true := bne_iff_ne.mpr c13
       obtain rfl := Option.some.inj H
       have hcz18_0 : wc.cell? ⟨gb218, 0, none⟩ = some (.int .i64 a0_0) := (blk_cell BK218.out 0).trans rfl
       have hcz18_1 : wc.cell? ⟨gb218, 1, none⟩ = some (.int .i64 a0_1) := (blk_cell BK218.out 1).trans rfl
       have hcz18_2 : wc.cell? ⟨gb218, 2, none⟩ = some (.slice A0_2 l0_2.length c0_2) := (blk_cell BK218.out 2).trans rfl
       have hfz18_0 := blk_frozen BK218.out 0
       have hfz18_1 := blk_frozen BK218.out 1
       have hfz18_2 := blk_frozen BK218.out 2
       go_wp2
       go_ret
       exact ⟨by first | rfl | (simp [errW_none, errW_some] <;> rfl) | (simp [*, errW_none, errW_some] <;> rfl), by repeat (first | (with_reducible first | exact HB.out | apply below_alloc | apply pw_below_drewN | apply below_drew1 | refine below_set ?_ GE218.out) | exact HB.out)⟩
     ·rw [if_neg c12] at H
      have c12b0 : (a0_0 == 2) = false := beq_eq_false_iff_ne.mpr c12
      have c12b1 : (a0_0 != 2) = true := bne_iff_ne.mpr c12
      by_cases c19 : a0_0 = 3
      ·rw [if_pos c19] at H
       have c19b0 : (a0_0 == 3) = true := beq_iff_eq.mpr c19
       have c19b1 : (a0_0 != 3) = false := bne_eq_false_iff_eq.mpr c19
       clear c19
       by_cases c20 : a0_1 = 0
       ·rw [if_pos c20] at H
        have c20b0 : (a0_1 == 0) = true := beq_iff_eq.mpr c20
        have c20b1 : (a0_1 != 0) = false := bne_eq_false_iff_eq.mpr c20
        clear c20
        by_cases c21 : ((l0_2.length : Int) % 2) = 0
        ·rw [if_pos c21] at H
         have c21b0 : (((l0_2.length : Int) % 2) == 0) = true := beq_iff_eq.mpr c21
         have c21b1 : (((l0_2.length : Int) % 2) != 0) = false := bne_eq_false_iff_eq.mpr c21
         clear c21
         replace H := Option.bind_eq_some_iff.mp H
         obtain ⟨t220, A220, H⟩ := H
         replace H : (if t220 = true then (some 0) else (some 5)) = some r := H
         have A22 := Aside0.mk A220
         clear A220
         by_cases c23 : t220 = true
         ·subst c23
          have H1 : (some 0) = some r := by rw [if_pos rfl] at H; exact H
          clear H
          have H := H1
          clear H1
          obtain rfl := Option.some.inj H
          have hcz24_0 : wc.cell? ⟨gb218, 0, none⟩ = some (.int .i64 a0_0) := (blk_cell BK218.out 0).trans rfl
          have hcz24_1 : wc.cell? ⟨gb218, 1, none⟩ = some (.int .i64 a0_1) := (blk_cell BK218.out 1).trans rfl
          have hcz24_2 : wc.cell? ⟨gb218, 2, none⟩ = some (.slice A0_2 l0_2.length c0_2) := (blk_cell BK218.out 2).trans rfl
          have hfz24_0 := blk_frozen BK218.out 0
          have hfz24_1 := blk_frozen BK218.out 1
          have hfz24_2 := blk_frozen BK218.out 2
          go_wp2_with (first | (go_at_call 46; (with_reducible refine (armisticeref05_rises.calls kj1 _ _ l0_2 2 true _ ?side1 ?side2 A22.out).mono ?_); (case side1 => repeat (first | exact (Kd.C_below HR0_2.out HB.out) | (with_reducible refine Kd.C_alloc ?_ _) | (with_reducible refine Kd.C_drewN ?_ _) | (with_reducible refine Kd.C_drew ?_))); (case side2 => exact HC0_2.out); rintro e w' ⟨rfl, ⟨nd, rfl⟩⟩))
          go_ret
          exact ⟨by first | rfl | (simp [errW_none, errW_some] <;> rfl) | (simp [*, errW_none, errW_some] <;> rfl), by repeat (first | (with_reducible first | exact HB.out | apply below_alloc | apply pw_below_drewN | apply below_drew1 | refine below_set ?_ GE218.out) | exact HB.out)⟩
         ·replace c23 := Bool.eq_false_iff.mpr c23
          subst c23
          have H1 : (some 5) = some r := by rw [if_neg (show ¬ (false = true) by decide)] at H; exact H
          clear H
          have H := H1
          clear H1
          obtain rfl := Option.some.inj H
          have hcz25_0 : wc.cell? ⟨gb218, 0, none⟩ = some (.int .i64 a0_0) := (blk_cell BK218.out 0).trans rfl
          have hcz25_1 : wc.cell? ⟨gb218, 1, none⟩ = some (.int .i64 a0_1) := (blk_cell BK218.out 1).trans rfl
          have hcz25_2 : wc.cell? ⟨gb218, 2, none⟩ = some (.slice A0_2 l0_2.length c0_2) := (blk_cell BK218.out 2).trans rfl
          have hfz25_0 := blk_frozen BK218.out 0
          have hfz25_1 := blk_frozen BK218.out 1
          have hfz25_2 := blk_frozen BK218.out 2
          go_wp2_with (first | (go_at_call 46; (with_reducible refine (armisticeref05_rises.calls kj1 _ _ l0_2 2 false _ ?side1 ?side2 A22.out).mono ?_); (case side1 => repeat (first | exact (Kd.C_below HR0_2.out HB.out) | (with_reducible refine Kd.C_alloc ?_ _) | (with_reducible refine Kd.C_drewN ?_ _) | (with_reducible refine Kd.C_drew ?_))); (case side2 => exact HC0_2.out); rintro e w' ⟨rfl, ⟨nd, rfl⟩⟩))
          go_ret
          exact ⟨by first | rfl | (simp [errW_none, errW_some] <;> rfl) | (simp [*, errW_none, errW_some] <;> rfl), by repeat (first | (with_reducible first | exact HB.out | apply below_alloc | apply pw_below_drewN | apply below_drew1 | refine below_set ?_ GE218.out) | exact HB.out)⟩
        ·rw [if_neg c21] at H
         have c21b0 : (((l0_2.length : Int) % 2) == 0) = false := beq_eq_false_iff_ne.mpr c21
         have c21b1 : (((l0_2.length : Int) % 2) != 0) = true := bne_iff_ne.mpr c21
         obtain rfl := Option.some.inj H
         have hcz26_0 : wc.cell? ⟨gb218, 0, none⟩ = some (.int .i64 a0_0) := (blk_cell BK218.out 0).trans rfl
         have hcz26_1 : wc.cell? ⟨gb218, 1, none⟩ = some (.int .i64 a0_1) := (blk_cell BK218.out 1).trans rfl
         have hcz26_2 : wc.cell? ⟨gb218, 2, none⟩ = some (.slice A0_2 l0_2.length c0_2) := (blk_cell BK218.out 2).trans rfl
         have hfz26_0 := blk_frozen BK218.out 0
         have hfz26_1 := blk_frozen BK218.out 1
         have hfz26_2 := blk_frozen BK218.out 2
         go_wp2
         go_ret
         exact ⟨by first | rfl | (simp [errW_none, errW_some] <;> rfl) | (simp [*, errW_none, errW_some] <;> rfl), by repeat (first | (with_reducible first | exact HB.out | apply below_alloc | apply pw_below_drewN | apply below_drew1 | refine below_set ?_ GE218.out) | exact HB.out)⟩
       ·rw [if_neg c20] at H
        have c20b0 : (a0_1 == 0) = false := beq_eq_false_iff_ne.mpr c20
        have c20b1 : (a0_1 != 0) = true := bne_iff_ne.mpr c20
        obtain rfl := Option.some.inj H
        have hcz27_0 : wc.cell? ⟨gb218, 0, none⟩ = some (.int .i64 a0_0) := (blk_cell BK218.out 0).trans rfl
        have hcz27_1 : wc.cell? ⟨gb218, 1, none⟩ = some (.int .i64 a0_1) := (blk_cell BK218.out 1).trans rfl
        have hcz27_2 : wc.cell? ⟨gb218, 2, none⟩ = some (.slice A0_2 l0_2.length c0_2) := (blk_cell BK218.out 2).trans rfl
        have hfz27_0 := blk_frozen BK218.out 0
        have hfz27_1 := blk_frozen BK218.out 1
        have hfz27_2 := blk_frozen BK218.out 2
        go_wp2
        go_ret
        exact ⟨by first | rfl | (simp [errW_none, errW_some] <;> rfl) | (simp [*, errW_none, errW_some] <;> rfl), by repeat (first | (with_reducible first | exact HB.out | apply below_alloc | apply pw_below_drewN | apply below_drew1 | refine below_set ?_ GE218.out) | exact HB.out)⟩
      ·rw [if_neg c19] at H
       have c19b0 : (a0_0 == 3) = false := beq_eq_false_iff_ne.mpr c19
       have c19b1 : (a0_0 != 3) = true := bne_iff_ne.mpr c19
       by_cases c28 : a0_0 = 4
       ·rw [if_pos c28] at H
        have c28b0 : (a0_0 == 4) = true := beq_iff_eq.mpr c28
        have c28b1 : (a0_0 != 4) = false := bne_eq_false_iff_eq.mpr c28
        clear c28
        by_cases c29 : a0_1 = 0
        ·rw [if_pos c29] at H
         have c29b0 : (a0_1 == 0) = true := beq_iff_eq.mpr c29
         have c29b1 : (a0_1 != 0) = false := bne_eq_false_iff_eq.mpr c29
         clear c29
         obtain rfl := Option.some.inj H
         have hcz30_0 : wc.cell? ⟨gb218, 0, none⟩ = some (.int .i64 a0_0) := (blk_cell BK218.out 0).trans rfl
         have hcz30_1 : wc.cell? ⟨gb218, 1, none⟩ = some (.int .i64 a0_1) := (blk_cell BK218.out 1).trans rfl
         have hcz30_2 : wc.cell? ⟨gb218, 2, none⟩ = some (.slice A0_2 l0_2.length c0_2) := (blk_cell BK218.out 2).trans rfl
         have hfz30_0 := blk_frozen BK218.out 0
         have hfz30_1 := blk_frozen BK218.out 1
         have hfz30_2 := blk_frozen BK218.out 2
         go_wp2
         go_ret
         exact ⟨by first | rfl | (simp [errW_none, errW_some] <;> rfl) | (simp [*, errW_none, errW_some] <;> rfl), by repeat (first | (with_reducible first | exact HB.out | apply below_alloc | apply pw_below_drewN | apply below_drew1 | refine below_set ?_ GE218.out) | exact HB.out)⟩
        ·rw [if_neg c29] at H
         have c29b0 : (a0_1 == 0) = false := beq_eq_false_iff_ne.mpr c29
         have c29b1 : (a0_1 != 0) = true := bne_iff_ne.mpr c29
         obtain rfl := Option.some.inj H
         have hcz31_0 : wc.cell? ⟨gb218, 0, none⟩ = some (.int .i64 a0_0) := (blk_cell BK218.out 0).trans rfl
         have hcz31_1 : wc.cell? ⟨gb218, 1, none⟩ = some (.int .i64 a0_1) := (blk_cell BK218.out 1).trans rfl
         have hcz31_2 : wc.cell? ⟨gb218, 2, none⟩ = some (.slice A0_2 l0_2.length c0_2) := (blk_cell BK218.out 2).trans rfl
         have hfz31_0 := blk_frozen BK218.out 0
         have hfz31_1 := blk_frozen BK218.out 1
         have hfz31_2 := blk_frozen BK218.out 2
         go_wp2
         go_ret
         exact ⟨by first | rfl | (simp [errW_none, errW_some] <;> rfl) | (simp [*, errW_none, errW_some] <;> rfl), by repeat (first | (with_reducible first | exact HB.out | apply below_alloc | apply pw_below_drewN | apply below_drew1 | refine below_set ?_ GE218.out) | exact HB.out)⟩
       ·rw [if_neg c28] at H
        have c28b0 : (a0_0 == 4) = false := beq_eq_false_iff_ne.mpr c28
        have c28b1 : (a0_0 != 4) = true := bne_iff_ne.mpr c28
        by_cases c32 : (l0_2.length : Int) = 0
        ·rw [if_pos c32] at H
         have c32b0 : ((l0_2.length : Int) == 0) = true := beq_iff_eq.mpr c32
         have c32b1 : ((l0_2.length : Int) != 0) = false := bne_eq_false_iff_eq.mpr c32
         clear c32
         by_cases c33 : a0_1 ≥ 0
         ·rw [if_pos c33] at H
          have c33b0 : decide (0 ≤ a0_1) = true := decide_eq_true c33
          clear c33
          by_cases c34 : a0_1 ≤ 4611686018427387904
          ·rw [if_pos c34] at H
           have c34b0 : decide (a0_1 ≤ 4611686018427387904) = true := decide_eq_true c34
           clear c34
           obtain rfl := Option.some.inj H
           have hcz35_0 : wc.cell? ⟨gb218, 0, none⟩ = some (.int .i64 a0_0) := (blk_cell BK218.out 0).trans rfl
           have hcz35_1 : wc.cell? ⟨gb218, 1, none⟩ = some (.int .i64 a0_1) := (blk_cell BK218.out 1).trans rfl
           have hcz35_2 : wc.cell? ⟨gb218, 2, none⟩ = some (.slice A0_2 l0_2.length c0_2) := (blk_cell BK218.out 2).trans rfl
           have hfz35_0 := blk_frozen BK218.out 0
           have hfz35_1 := blk_frozen BK218.out 1
           have hfz35_2 := blk_frozen BK218.out 2
           go_wp2
           go_ret
           exact ⟨by first | rfl | (simp [errW_none, errW_some] <;> rfl) | (simp [*, errW_none, errW_some] <;> rfl), by repeat (first | (with_reducible first | exact HB.out | apply below_alloc | apply pw_below_drewN | apply below_drew1 | refine below_set ?_ GE218.out) | exact HB.out)⟩
          ·rw [if_neg c34] at H
           have c34b0 : decide (a0_1 ≤ 4611686018427387904) = false := decide_eq_false c34
           clear c34
           obtain rfl := Option.some.inj H
           have hcz36_0 : wc.cell? ⟨gb218, 0, none⟩ = some (.int .i64 a0_0) := (blk_cell BK218.out 0).trans rfl
           have hcz36_1 : wc.cell? ⟨gb218, 1, none⟩ = some (.int .i64 a0_1) := (blk_cell BK218.out 1).trans rfl
           have hcz36_2 : wc.cell? ⟨gb218, 2, none⟩ = some (.slice A0_2 l0_2.length c0_2) := (blk_cell BK218.out 2).trans rfl
           have hfz36_0 := blk_frozen BK218.out 0
           have hfz36_1 := blk_frozen BK218.out 1
           have hfz36_2 := blk_frozen BK218.out 2
           go_wp2
           go_ret
           exact ⟨by first | rfl | (simp [errW_none, errW_some] <;> rfl) | (simp [*, errW_none, errW_some] <;> rfl), by repeat (first | (with_reducible first | exact HB.out | apply below_alloc | apply pw_below_drewN | apply below_drew1 | refine below_set ?_ GE218.out) | exact HB.out)⟩
         ·rw [if_neg c33] at H
          have c33b0 : decide (0 ≤ a0_1) = false := decide_eq_false c33
          clear c33
          obtain rfl := Option.some.inj H
          have hcz37_0 : wc.cell? ⟨gb218, 0, none⟩ = some (.int .i64 a0_0) := (blk_cell BK218.out 0).trans rfl
          have hcz37_1 : wc.cell? ⟨gb218, 1, none⟩ = some (.int .i64 a0_1) := (blk_cell BK218.out 1).trans rfl
          have hcz37_2 : wc.cell? ⟨gb218, 2, none⟩ = some (.slice A0_2 l0_2.length c0_2) := (blk_cell BK218.out 2).trans rfl
          have hfz37_0 := blk_frozen BK218.out 0
          have hfz37_1 := blk_frozen BK218.out 1
          have hfz37_2 := blk_frozen BK218.out 2
          go_wp2
          go_ret
          exact ⟨by first | rfl | (simp [errW_none, errW_some] <;> rfl) | (simp [*, errW_none, errW_some] <;> rfl), by repeat (first | (with_reducible first | exact HB.out | apply below_alloc | apply pw_below_drewN | apply below_drew1 | refine below_set ?_ GE218.out) | exact HB.out)⟩
        ·rw [if_neg c32] at H
         have c32b0 : ((l0_2.length : Int) == 0) = false := beq_eq_false_iff_ne.mpr c32
         have c32b1 : ((l0_2.length : Int) != 0) = true := bne_iff_ne.mpr c32
         have c32b2 : ¬ (l0_2 = []) := fun h_ => c32 (by rw [h_]; rfl)
         obtain rfl := Option.some.inj H
         have hcz38_0 : wc.cell? ⟨gb218, 0, none⟩ = some (.int .i64 a0_0) := (blk_cell BK218.out 0).trans rfl
         have hcz38_1 : wc.cell? ⟨gb218, 1, none⟩ = some (.int .i64 a0_1) := (blk_cell BK218.out 1).trans rfl
         have hcz38_2 : wc.cell? ⟨gb218, 2, none⟩ = some (.slice A0_2 l0_2.length c0_2) := (blk_cell BK218.out 2).trans rfl
         have hfz38_0 := blk_frozen BK218.out 0
         have hfz38_1 := blk_frozen BK218.out 1
         have hfz38_2 := blk_frozen BK218.out 2
         go_wp2
         go_ret
         exact ⟨by first | rfl | (simp [errW_none, errW_some] <;> rfl) | (simp [*, errW_none, errW_some] <;> rfl), by repeat (first | (with_reducible first | exact HB.out | apply below_alloc | apply pw_below_drewN | apply below_drew1 | refine below_set ?_ GE218.out) | exact HB.out)⟩

end Go.Proofs.YtdimbcabkikcoaaDoor.P
