/- Laid by a program of this session (wip/tools/xprint.py) after the kit's printer: functions of the translation as plain Lean functions, each with the proof that its call comes to just that. -/
import Derived.Test.YtoenklncjbcgiaaGreatDoorPx0
import Derived.Test.YtoenklncjbcgiaaGreatDoorPx1
import Derived.Test.YtoenklncjbcgiaaGreatDoorPx2
import Derived.Test.YtoenklncjbcgiaaGreatDoorECheck
import Derived.Test.YtoenklncjbcgiaaGreatDoorERead
import Derived.Test.YtoenklncjbcgiaaGreatDoorEText
namespace Go.Proofs.YtoenklncjbcgiaaGreatDoor.P
open Go.RowKit Go.Proofs.YtoenklncjbcgiaaGreatDoorW.PrintWords Go.Proofs.YtoenklncjbcgiaaGreatDoorW.PrintLast Go.Proofs.YtoenklncjbcgiaaGreatDoorW.PrintMore
attribute [local go_sem] max2_int min2_int max_two min_two max_three min_three max_four min_four   -- for this text's walks alone
set_option linter.unusedVariables false
set_option linter.unusedSimpArgs false

attribute [local go_sem high] eqA25
/-! ### armisticelaw04_tells: function 9 -/
def armisticelaw04_tells.f (a0_0 : Int) (a0_1 : Int) (a0_2 : Int) (a0_3 : Int) (a0_4 : Int) (a1 : ByteArray) : Option (Bool) := (operation_Text.f a0_0 a0_1 a0_2 a0_3 a0_4).bind fun bt106 => (if bt106.1.toList = a1.toList then (some (bt106.2 == 0)) else (some false))
set_option maxHeartbeats 8000000 in
set_option maxRecDepth 100000 in
theorem armisticelaw04_tells.calls (a0_0 : Int) (a0_1 : Int) (a0_2 : Int) (a0_3 : Int) (a0_4 : Int) (a1 : ByteArray) (r : Bool) (w : World) (h : armisticelaw04_tells.f a0_0 a0_1 a0_2 a0_3 a0_4 a1 = some r) :
    Calls Tryz.prog 9 #[.agg #[.int .i64 a0_0, .int .i64 a0_1, .int .i64 a0_2, .int .i64 a0_3, .int .i64 a0_4], .string a1] w fun e w' => e = .returned (.bool r) ∧ Below w.heap.size w w' := by
  have hu25 := Tryz.underlying25
  have HB := Aside0.mk (Below.refl w.heap.size w)
  have H : ((operation_Text.f a0_0 a0_1 a0_2 a0_3 a0_4).bind fun bt106 => (if bt106.1.toList = a1.toList then (some (bt106.2 == 0)) else (some false))) = some r := h
  clear h
  replace H := Option.bind_eq_some_iff.mp H
  obtain ⟨⟨t106, t107⟩, A30, H⟩ := H
  replace H : (if t106.toList = a1.toList then (some (t107 == 0)) else (some false)) = some r := H
  have A3 := Aside0.mk A30
  clear A30
  by_cases c4 : t106.toList = a1.toList
  · rw [if_pos c4] at H
    have c4b0 : (t106.toList == a1.toList) = true := beq_iff_eq.mpr c4
    have c4b1 : (t106.toList != a1.toList) = false := bne_eq_false_iff_eq.mpr c4
    clear c4
    obtain rfl := Option.some.inj H
    go_enter Tryz.func9, Tryz.ntmps9
    go_wp2_with (first | ((with_reducible refine gate_dst (N := 2) rfl ?_); refine box_event ?hg (N := 2) ?hd (cs := #[.int .i64 a0_0, .int .i64 a0_1, .int .i64 a0_2, .int .i64 a0_3, .int .i64 a0_4]) (t := 25) ?hr ?_; (case hd => rfl); (case hg => rfl); (case hr => first | (go_simp; done) | (go_simp; rfl)); intro gb105 hg w5 hbox hb; have n0_ := Aside0.mk (below_step (by repeat (first | (with_reducible first | exact HB.out | apply below_alloc | apply pw_below_drewN | apply below_drew1) | exact HB.out)) hb); have n1_ := Aside0.mk (hbox); have n2_ := Aside0.mk ((by rw [hg]; exact (below_size (by repeat (first | (with_reducible first | exact HB.out | apply below_alloc | apply pw_below_drewN | apply below_drew1) | exact HB.out))) : w.heap.size ≤ gb105)); have n3_ := Aside0.mk ((by rw [hg]; exact (below_size (by repeat (first | (with_reducible first | exact HB.out | apply below_alloc | apply pw_below_drewN | apply below_drew1) | exact HB.out))) : w.heap.size ≤ gb105)); clear HB; have HB := n0_; have BK105 := n1_; have GW105 := n2_; have GE105 := n3_; clear n0_ n1_ n2_ n3_; clear hb hbox hg; have hcz6_0 : w5.cell? ⟨gb105, 0, none⟩ = some (.int .i64 a0_0) := (blk_cell BK105.out 0).trans rfl; have hcz6_1 : w5.cell? ⟨gb105, 1, none⟩ = some (.int .i64 a0_1) := (blk_cell BK105.out 1).trans rfl; have hcz6_2 : w5.cell? ⟨gb105, 2, none⟩ = some (.int .i64 a0_2) := (blk_cell BK105.out 2).trans rfl; have hcz6_3 : w5.cell? ⟨gb105, 3, none⟩ = some (.int .i64 a0_3) := (blk_cell BK105.out 3).trans rfl; have hcz6_4 : w5.cell? ⟨gb105, 4, none⟩ = some (.int .i64 a0_4) := (blk_cell BK105.out 4).trans rfl; have hfz6_0 := blk_frozen BK105.out 0; have hfz6_1 := blk_frozen BK105.out 1; have hfz6_2 := blk_frozen BK105.out 2; have hfz6_3 := blk_frozen BK105.out 3; have hfz6_4 := blk_frozen BK105.out 4) | ((with_reducible refine gate_callee (f := 5) rfl ?_); refine goesL_ (some 9) rfl rfl Tryz.func5 (by kernel_rfl) rfl #[.agg #[.int .i64 a0_0, .int .i64 a0_1, .int .i64 a0_2, .int .i64 a0_3, .int .i64 a0_4]] rfl (by (try simp only [List.map_toArray, List.map_cons, List.map_nil]); first | done | rfl | (simp only [List.length_drop, List.length_take]; rfl)) ?_; (with_reducible refine (operation_Text.calls a0_0 a0_1 a0_2 a0_3 a0_4 t106 t107 _ A3.out).mono ?_); rintro e w7 ⟨rfl, hb⟩; refine ⟨_, rfl, ?_⟩; have n0_ := Aside0.mk (blk_below (g := gb105) (o := .cells #[.int .i64 a0_0, .int .i64 a0_1, .int .i64 a0_2, .int .i64 a0_3, .int .i64 a0_4] 25 (0, 0)) (by (with_reducible repeat (first | refine blk_drewN ?_ _ | refine blk_drew ?_ | refine blk_alloc ?_ _)); exact BK105.out) hb); have n1_ := Aside0.mk (below_step (by repeat (first | (with_reducible first | exact HB.out | apply below_alloc | apply pw_below_drewN | apply below_drew1 | refine below_set ?_ GE105.out) | exact HB.out)) hb); clear BK105; clear HB; have BK105 := n0_; have HB := n1_; clear n0_ n1_; (try clear hb); (try clear hb2); (try clear hk); (try clear hi)))
    go_ret
    exact ⟨by first | rfl | (simp [errW_none, errW_some] <;> rfl) | (simp [*, errW_none, errW_some] <;> rfl), by repeat (first | (with_reducible first | exact HB.out | apply below_alloc | apply pw_below_drewN | apply below_drew1 | refine below_set ?_ GE105.out) | exact HB.out)⟩
  · rw [if_neg c4] at H
    have c4b0 : (t106.toList == a1.toList) = false := beq_eq_false_iff_ne.mpr c4
    have c4b1 : (t106.toList != a1.toList) = true := bne_iff_ne.mpr c4
    obtain rfl := Option.some.inj H
    go_enter Tryz.func9, Tryz.ntmps9
    go_wp2_with (first | ((with_reducible refine gate_dst (N := 2) rfl ?_); refine box_event ?hg (N := 2) ?hd (cs := #[.int .i64 a0_0, .int .i64 a0_1, .int .i64 a0_2, .int .i64 a0_3, .int .i64 a0_4]) (t := 25) ?hr ?_; (case hd => rfl); (case hg => rfl); (case hr => first | (go_simp; done) | (go_simp; rfl)); intro gb105 hg w8 hbox hb; have n0_ := Aside0.mk (below_step (by repeat (first | (with_reducible first | exact HB.out | apply below_alloc | apply pw_below_drewN | apply below_drew1) | exact HB.out)) hb); have n1_ := Aside0.mk (hbox); have n2_ := Aside0.mk ((by rw [hg]; exact (below_size (by repeat (first | (with_reducible first | exact HB.out | apply below_alloc | apply pw_below_drewN | apply below_drew1) | exact HB.out))) : w.heap.size ≤ gb105)); have n3_ := Aside0.mk ((by rw [hg]; exact (below_size (by repeat (first | (with_reducible first | exact HB.out | apply below_alloc | apply pw_below_drewN | apply below_drew1) | exact HB.out))) : w.heap.size ≤ gb105)); clear HB; have HB := n0_; have BK105 := n1_; have GW105 := n2_; have GE105 := n3_; clear n0_ n1_ n2_ n3_; clear hb hbox hg; have hcz9_0 : w8.cell? ⟨gb105, 0, none⟩ = some (.int .i64 a0_0) := (blk_cell BK105.out 0).trans rfl; have hcz9_1 : w8.cell? ⟨gb105, 1, none⟩ = some (.int .i64 a0_1) := (blk_cell BK105.out 1).trans rfl; have hcz9_2 : w8.cell? ⟨gb105, 2, none⟩ = some (.int .i64 a0_2) := (blk_cell BK105.out 2).trans rfl; have hcz9_3 : w8.cell? ⟨gb105, 3, none⟩ = some (.int .i64 a0_3) := (blk_cell BK105.out 3).trans rfl; have hcz9_4 : w8.cell? ⟨gb105, 4, none⟩ = some (.int .i64 a0_4) := (blk_cell BK105.out 4).trans rfl; have hfz9_0 := blk_frozen BK105.out 0; have hfz9_1 := blk_frozen BK105.out 1; have hfz9_2 := blk_frozen BK105.out 2; have hfz9_3 := blk_frozen BK105.out 3; have hfz9_4 := blk_frozen BK105.out 4) | ((with_reducible refine gate_callee (f := 5) rfl ?_); refine goesL_ (some 9) rfl rfl Tryz.func5 (by kernel_rfl) rfl #[.agg #[.int .i64 a0_0, .int .i64 a0_1, .int .i64 a0_2, .int .i64 a0_3, .int .i64 a0_4]] rfl (by (try simp only [List.map_toArray, List.map_cons, List.map_nil]); first | done | rfl | (simp only [List.length_drop, List.length_take]; rfl)) ?_; (with_reducible refine (operation_Text.calls a0_0 a0_1 a0_2 a0_3 a0_4 t106 t107 _ A3.out).mono ?_); rintro e w10 ⟨rfl, hb⟩; refine ⟨_, rfl, ?_⟩; have n0_ := Aside0.mk (blk_below (g := gb105) (o := .cells #[.int .i64 a0_0, .int .i64 a0_1, .int .i64 a0_2, .int .i64 a0_3, .int .i64 a0_4] 25 (0, 0)) (by (with_reducible repeat (first | refine blk_drewN ?_ _ | refine blk_drew ?_ | refine blk_alloc ?_ _)); exact BK105.out) hb); have n1_ := Aside0.mk (below_step (by repeat (first | (with_reducible first | exact HB.out | apply below_alloc | apply pw_below_drewN | apply below_drew1 | refine below_set ?_ GE105.out) | exact HB.out)) hb); clear BK105; clear HB; have BK105 := n0_; have HB := n1_; clear n0_ n1_; (try clear hb); (try clear hb2); (try clear hk); (try clear hi)))
    go_ret
    exact ⟨by first | rfl | (simp [errW_none, errW_some] <;> rfl) | (simp [*, errW_none, errW_some] <;> rfl), by repeat (first | (with_reducible first | exact HB.out | apply below_alloc | apply pw_below_drewN | apply below_drew1 | refine below_set ?_ GE105.out) | exact HB.out)⟩

/-! ### armisticelaw04_fails: function 11 -/
def armisticelaw04_fails.f (a0 : Int) (a1 : Int) (l2 : List ByteArray) : Option (Bool) := (operation_Read.f l2).bind fun bt109 => (if (bt109.1 == 0 && (bt109.2.1 == 0 && (bt109.2.2.1 == 0 && ((bt109.2.2.2.1 == 0 && (bt109.2.2.2.2.1 == 0)))))) = true then (if bt109.2.2.2.2.2.1 = a0 then (some (bt109.2.2.2.2.2.2 == a1)) else (some false)) else (some false))
set_option maxHeartbeats 8000000 in
set_option maxRecDepth 100000 in
theorem armisticelaw04_fails.calls (a0 : Int) (a1 : Int) (A2 : Option Addr) (c2 : Nat) (l2 : List ByteArray) (r : Bool) (w : World) (hr2 : Kd.C Kd.string w A2 l2.length l2) (hc2 : l2.length ≤ c2) (hG : GOk w) (h : armisticelaw04_fails.f a0 a1 l2 = some r) :
    Calls Tryz.prog 11 #[.int .i64 a0, .int .i64 a1, .slice A2 l2.length c2] w fun e w' => e = .returned (.bool r) ∧ Below w.heap.size w w' := by
  have hu25 := Tryz.underlying25
  have HR2 := Aside0.mk hr2
  have HC2 := Aside0.mk hc2
  clear hr2 hc2
  have HG := Aside0.mk hG
  clear hG
  have HB := Aside0.mk (Below.refl w.heap.size w)
  have H : ((operation_Read.f l2).bind fun bt109 => (if (bt109.1 == 0 && (bt109.2.1 == 0 && (bt109.2.2.1 == 0 && ((bt109.2.2.2.1 == 0 && (bt109.2.2.2.2.1 == 0)))))) = true then (if bt109.2.2.2.2.2.1 = a0 then (some (bt109.2.2.2.2.2.2 == a1)) else (some false)) else (some false))) = some r := h
  clear h
  replace H := Option.bind_eq_some_iff.mp H
  obtain ⟨⟨t109, t110, t111, t112, t113, t114, t115⟩, A40, H⟩ := H
  replace H : (if (t109 == 0 && (t110 == 0 && (t111 == 0 && ((t112 == 0 && (t113 == 0)))))) = true then (if t114 = a0 then (some (t115 == a1)) else (some false)) else (some false)) = some r := H
  have A4 := Aside0.mk A40
  clear A40
  by_cases c5 : (t109 == 0 && (t110 == 0 && (t111 == 0 && ((t112 == 0 && (t113 == 0)))))) = true
  · rw [if_pos c5] at H
    have c5b0 : (t109 == 0 && (t110 == 0 && (t111 == 0 && ((t112 == 0 && (t113 == 0)))))) = true := c5
    (try (have c5b1 : decide (t109 = 0 && (t110 == 0 && (t111 == 0 && ((t112 == 0 && (t113 == 0)))))) = true := by simpa using c5))
    (try (have c5b2 : (t109 == 0 && (t110 == 0 && (t111 == 0 && ((t112 == 0 && (t113 == 0)))))) = true := by simpa using c5))
    clear c5
    by_cases c6 : t114 = a0
    · rw [if_pos c6] at H
      have c6b0 : (t114 == a0) = true := beq_iff_eq.mpr c6
      have c6b1 : (t114 != a0) = false := bne_eq_false_iff_eq.mpr c6
      clear c6
      obtain rfl := Option.some.inj H
      go_enter Tryz.func11, Tryz.ntmps11
      go_wp2_with (first | ((with_reducible refine gate_callee (f := 19) rfl ?_); refine goesL_ (some 12) rfl rfl Tryz.func19 (by kernel_rfl) rfl #[.slice A2 l2.length c2] rfl (by (try simp only [List.map_toArray, List.map_cons, List.map_nil]); first | done | rfl | (simp only [List.length_drop, List.length_take]; rfl)) ?_; (with_reducible refine (operation_Read.calls _ _ l2 t109 t110 t111 t112 t113 t114 t115 _ ?side1 ?side2 ?side3 A4.out).mono ?_); (case side1 => repeat (first | exact HR2.out | (with_reducible refine Kd.C_alloc ?_ _) | (with_reducible refine Kd.C_drewN ?_ _) | (with_reducible refine Kd.C_drew ?_))); (case side2 => exact HC2.out); (case side3 => exact GOk.below HG.out (by repeat (first | (with_reducible first | exact HB.out | apply below_alloc | apply pw_below_drewN | apply below_drew1) | exact HB.out))); rintro e w7 ⟨rfl, hb⟩; refine ⟨_, rfl, ?_⟩; have n0_ := Aside0.mk (below_step (by repeat (first | (with_reducible first | exact HB.out | apply below_alloc | apply pw_below_drewN | apply below_drew1) | exact HB.out)) hb); clear HB; have HB := n0_; clear n0_; (try clear hb); (try clear hb2); (try clear hk); (try clear hi)) | ((with_reducible refine gate_dst (N := 7) rfl ?_); refine box_event ?hg (N := 7) ?hd (cs := #[.int .i64 0, .int .i64 0, .int .i64 0, .int .i64 0, .int .i64 0]) (t := 25) ?hr ?_; (case hd => rfl); (case hg => rfl); (case hr => first | (go_simp; done) | (go_simp; rfl)); intro gb116 hg w8 hbox hb; have n0_ := Aside0.mk (below_step (by repeat (first | (with_reducible first | exact HB.out | apply below_alloc | apply pw_below_drewN | apply below_drew1) | exact HB.out)) hb); have n1_ := Aside0.mk (hbox); have n2_ := Aside0.mk ((by rw [hg]; exact (below_size (by repeat (first | (with_reducible first | exact HB.out | apply below_alloc | apply pw_below_drewN | apply below_drew1) | exact HB.out))) : w.heap.size ≤ gb116)); have n3_ := Aside0.mk ((by rw [hg]; exact (below_size (by repeat (first | (with_reducible first | exact HB.out | apply below_alloc | apply pw_below_drewN | apply below_drew1) | exact HB.out))) : w.heap.size ≤ gb116)); clear HB; have HB := n0_; have BK116 := n1_; have GW116 := n2_; have GE116 := n3_; clear n0_ n1_ n2_ n3_; clear hb hbox hg; have hcz9_0 : w8.cell? ⟨gb116, 0, none⟩ = some (.int .i64 0) := (blk_cell BK116.out 0).trans rfl; have hcz9_1 : w8.cell? ⟨gb116, 1, none⟩ = some (.int .i64 0) := (blk_cell BK116.out 1).trans rfl; have hcz9_2 : w8.cell? ⟨gb116, 2, none⟩ = some (.int .i64 0) := (blk_cell BK116.out 2).trans rfl; have hcz9_3 : w8.cell? ⟨gb116, 3, none⟩ = some (.int .i64 0) := (blk_cell BK116.out 3).trans rfl; have hcz9_4 : w8.cell? ⟨gb116, 4, none⟩ = some (.int .i64 0) := (blk_cell BK116.out 4).trans rfl; have hfz9_0 := blk_frozen BK116.out 0; have hfz9_1 := blk_frozen BK116.out 1; have hfz9_2 := blk_frozen BK116.out 2; have hfz9_3 := blk_frozen BK116.out 3; have hfz9_4 := blk_frozen BK116.out 4))
      go_ret
      exact ⟨by first | rfl | (simp [errW_none, errW_some] <;> rfl) | (simp [*, errW_none, errW_some] <;> rfl), by repeat (first | (with_reducible first | exact HB.out | apply below_alloc | apply pw_below_drewN | apply below_drew1 | refine below_set ?_ GE116.out) | exact HB.out)⟩
    · rw [if_neg c6] at H
      have c6b0 : (t114 == a0) = false := beq_eq_false_iff_ne.mpr c6
      have c6b1 : (t114 != a0) = true := bne_iff_ne.mpr c6
      obtain rfl := Option.some.inj H
      go_enter Tryz.func11, Tryz.ntmps11
      go_wp2_with (first | ((with_reducible refine gate_callee (f := 19) rfl ?_); refine goesL_ (some 12) rfl rfl Tryz.func19 (by kernel_rfl) rfl #[.slice A2 l2.length c2] rfl (by (try simp only [List.map_toArray, List.map_cons, List.map_nil]); first | done | rfl | (simp only [List.length_drop, List.length_take]; rfl)) ?_; (with_reducible refine (operation_Read.calls _ _ l2 t109 t110 t111 t112 t113 t114 t115 _ ?side1 ?side2 ?side3 A4.out).mono ?_); (case side1 => repeat (first | exact HR2.out | (with_reducible refine Kd.C_alloc ?_ _) | (with_reducible refine Kd.C_drewN ?_ _) | (with_reducible refine Kd.C_drew ?_))); (case side2 => exact HC2.out); (case side3 => exact GOk.below HG.out (by repeat (first | (with_reducible first | exact HB.out | apply below_alloc | apply pw_below_drewN | apply below_drew1) | exact HB.out))); rintro e w10 ⟨rfl, hb⟩; refine ⟨_, rfl, ?_⟩; have n0_ := Aside0.mk (below_step (by repeat (first | (with_reducible first | exact HB.out | apply below_alloc | apply pw_below_drewN | apply below_drew1) | exact HB.out)) hb); clear HB; have HB := n0_; clear n0_; (try clear hb); (try clear hb2); (try clear hk); (try clear hi)) | ((with_reducible refine gate_dst (N := 7) rfl ?_); refine box_event ?hg (N := 7) ?hd (cs := #[.int .i64 0, .int .i64 0, .int .i64 0, .int .i64 0, .int .i64 0]) (t := 25) ?hr ?_; (case hd => rfl); (case hg => rfl); (case hr => first | (go_simp; done) | (go_simp; rfl)); intro gb116 hg w11 hbox hb; have n0_ := Aside0.mk (below_step (by repeat (first | (with_reducible first | exact HB.out | apply below_alloc | apply pw_below_drewN | apply below_drew1) | exact HB.out)) hb); have n1_ := Aside0.mk (hbox); have n2_ := Aside0.mk ((by rw [hg]; exact (below_size (by repeat (first | (with_reducible first | exact HB.out | apply below_alloc | apply pw_below_drewN | apply below_drew1) | exact HB.out))) : w.heap.size ≤ gb116)); have n3_ := Aside0.mk ((by rw [hg]; exact (below_size (by repeat (first | (with_reducible first | exact HB.out | apply below_alloc | apply pw_below_drewN | apply below_drew1) | exact HB.out))) : w.heap.size ≤ gb116)); clear HB; have HB := n0_; have BK116 := n1_; have GW116 := n2_; have GE116 := n3_; clear n0_ n1_ n2_ n3_; clear hb hbox hg; have hcz12_0 : w11.cell? ⟨gb116, 0, none⟩ = some (.int .i64 0) := (blk_cell BK116.out 0).trans rfl; have hcz12_1 : w11.cell? ⟨gb116, 1, none⟩ = some (.int .i64 0) := (blk_cell BK116.out 1).trans rfl; have hcz12_2 : w11.cell? ⟨gb116, 2, none⟩ = some (.int .i64 0) := (blk_cell BK116.out 2).trans rfl; have hcz12_3 : w11.cell? ⟨gb116, 3, none⟩ = some (.int .i64 0) := (blk_cell BK116.out 3).trans rfl; have hcz12_4 : w11.cell? ⟨gb116, 4, none⟩ = some (.int .i64 0) := (blk_cell BK116.out 4).trans rfl; have hfz12_0 := blk_frozen BK116.out 0; have hfz12_1 := blk_frozen BK116.out 1; have hfz12_2 := blk_frozen BK116.out 2; have hfz12_3 := blk_frozen BK116.out 3; have hfz12_4 := blk_frozen BK116.out 4))
      go_ret
      exact ⟨by first | rfl | (simp [errW_none, errW_some] <;> rfl) | (simp [*, errW_none, errW_some] <;> rfl), by repeat (first | (with_reducible first | exact HB.out | apply below_alloc | apply pw_below_drewN | apply below_drew1 | refine below_set ?_ GE116.out) | exact HB.out)⟩
  · rw [if_neg c5] at H
    have c5b0 : (t109 == 0 && (t110 == 0 && (t111 == 0 && ((t112 == 0 && (t113 == 0)))))) = false := by simpa using c5
    (try (have c5b1 : decide (t109 = 0 && (t110 == 0 && (t111 == 0 && ((t112 == 0 && (t113 == 0)))))) = false := by simpa using c5))
    (try (have c5b2 : (t109 == 0 && (t110 == 0 && (t111 == 0 && ((t112 == 0 && (t113 == 0)))))) = false := by simpa using c5))
    (try (have c5b3 : ¬ (t109 = 0 && (t110 == 0 && (t111 == 0 && ((t112 == 0 && (t113 == 0)))))) := by simpa using c5))
    clear c5
    obtain rfl := Option.some.inj H
    go_enter Tryz.func11, Tryz.ntmps11
    go_wp2_with (first | ((with_reducible refine gate_callee (f := 19) rfl ?_); refine goesL_ (some 12) rfl rfl Tryz.func19 (by kernel_rfl) rfl #[.slice A2 l2.length c2] rfl (by (try simp only [List.map_toArray, List.map_cons, List.map_nil]); first | done | rfl | (simp only [List.length_drop, List.length_take]; rfl)) ?_; (with_reducible refine (operation_Read.calls _ _ l2 t109 t110 t111 t112 t113 t114 t115 _ ?side1 ?side2 ?side3 A4.out).mono ?_); (case side1 => repeat (first | exact HR2.out | (with_reducible refine Kd.C_alloc ?_ _) | (with_reducible refine Kd.C_drewN ?_ _) | (with_reducible refine Kd.C_drew ?_))); (case side2 => exact HC2.out); (case side3 => exact GOk.below HG.out (by repeat (first | (with_reducible first | exact HB.out | apply below_alloc | apply pw_below_drewN | apply below_drew1) | exact HB.out))); rintro e w13 ⟨rfl, hb⟩; refine ⟨_, rfl, ?_⟩; have n0_ := Aside0.mk (below_step (by repeat (first | (with_reducible first | exact HB.out | apply below_alloc | apply pw_below_drewN | apply below_drew1) | exact HB.out)) hb); clear HB; have HB := n0_; clear n0_; (try clear hb); (try clear hb2); (try clear hk); (try clear hi)) | ((with_reducible refine gate_dst (N := 7) rfl ?_); refine box_event ?hg (N := 7) ?hd (cs := #[.int .i64 0, .int .i64 0, .int .i64 0, .int .i64 0, .int .i64 0]) (t := 25) ?hr ?_; (case hd => rfl); (case hg => rfl); (case hr => first | (go_simp; done) | (go_simp; rfl)); intro gb116 hg w14 hbox hb; have n0_ := Aside0.mk (below_step (by repeat (first | (with_reducible first | exact HB.out | apply below_alloc | apply pw_below_drewN | apply below_drew1) | exact HB.out)) hb); have n1_ := Aside0.mk (hbox); have n2_ := Aside0.mk ((by rw [hg]; exact (below_size (by repeat (first | (with_reducible first | exact HB.out | apply below_alloc | apply pw_below_drewN | apply below_drew1) | exact HB.out))) : w.heap.size ≤ gb116)); have n3_ := Aside0.mk ((by rw [hg]; exact (below_size (by repeat (first | (with_reducible first | exact HB.out | apply below_alloc | apply pw_below_drewN | apply below_drew1) | exact HB.out))) : w.heap.size ≤ gb116)); clear HB; have HB := n0_; have BK116 := n1_; have GW116 := n2_; have GE116 := n3_; clear n0_ n1_ n2_ n3_; clear hb hbox hg; have hcz15_0 : w14.cell? ⟨gb116, 0, none⟩ = some (.int .i64 0) := (blk_cell BK116.out 0).trans rfl; have hcz15_1 : w14.cell? ⟨gb116, 1, none⟩ = some (.int .i64 0) := (blk_cell BK116.out 1).trans rfl; have hcz15_2 : w14.cell? ⟨gb116, 2, none⟩ = some (.int .i64 0) := (blk_cell BK116.out 2).trans rfl; have hcz15_3 : w14.cell? ⟨gb116, 3, none⟩ = some (.int .i64 0) := (blk_cell BK116.out 3).trans rfl; have hcz15_4 : w14.cell? ⟨gb116, 4, none⟩ = some (.int .i64 0) := (blk_cell BK116.out 4).trans rfl; have hfz15_0 := blk_frozen BK116.out 0; have hfz15_1 := blk_frozen BK116.out 1; have hfz15_2 := blk_frozen BK116.out 2; have hfz15_3 := blk_frozen BK116.out 3; have hfz15_4 := blk_frozen BK116.out 4))
    go_ret
    exact ⟨by first | rfl | (simp [errW_none, errW_some] <;> rfl) | (simp [*, errW_none, errW_some] <;> rfl), by repeat (first | (with_reducible first | exact HB.out | apply below_alloc | apply pw_below_drewN | apply below_drew1 | refine below_set ?_ GE116.out) | exact HB.out)⟩

/-! ### armisticelaw04_reads: function 8 -/
def armisticelaw04_reads.f (a0_0 : Int) (a0_1 : Int) (a0_2 : Int) (a0_3 : Int) (a0_4 : Int) (l1 : List ByteArray) : Option (Bool) := (operation_Read.f l1).bind fun bt118 => (if (bt118.1 == a0_0 && (bt118.2.1 == a0_1 && (bt118.2.2.1 == a0_2 && ((bt118.2.2.2.1 == a0_3 && (bt118.2.2.2.2.1 == a0_4)))))) = true then (if bt118.2.2.2.2.2.1 = 0 then (some (bt118.2.2.2.2.2.2 == 0)) else (some false)) else (some false))
set_option maxHeartbeats 8000000 in
set_option maxRecDepth 100000 in
theorem armisticelaw04_reads.calls (a0_0 : Int) (a0_1 : Int) (a0_2 : Int) (a0_3 : Int) (a0_4 : Int) (A1 : Option Addr) (c1 : Nat) (l1 : List ByteArray) (r : Bool) (w : World) (hr1 : Kd.C Kd.string w A1 l1.length l1) (hc1 : l1.length ≤ c1) (hG : GOk w) (h : armisticelaw04_reads.f a0_0 a0_1 a0_2 a0_3 a0_4 l1 = some r) :
    Calls Tryz.prog 8 #[.agg #[.int .i64 a0_0, .int .i64 a0_1, .int .i64 a0_2, .int .i64 a0_3, .int .i64 a0_4], .slice A1 l1.length c1] w fun e w' => e = .returned (.bool r) ∧ Below w.heap.size w w' := by
  have hu25 := Tryz.underlying25
  have HR1 := Aside0.mk hr1
  have HC1 := Aside0.mk hc1
  clear hr1 hc1
  have HG := Aside0.mk hG
  clear hG
  have HB := Aside0.mk (Below.refl w.heap.size w)
  have H : ((operation_Read.f l1).bind fun bt118 => (if (bt118.1 == a0_0 && (bt118.2.1 == a0_1 && (bt118.2.2.1 == a0_2 && ((bt118.2.2.2.1 == a0_3 && (bt118.2.2.2.2.1 == a0_4)))))) = true then (if bt118.2.2.2.2.2.1 = 0 then (some (bt118.2.2.2.2.2.2 == 0)) else (some false)) else (some false))) = some r := h
  clear h
  replace H := Option.bind_eq_some_iff.mp H
  obtain ⟨⟨t118, t119, t120, t121, t122, t123, t124⟩, A30, H⟩ := H
  replace H : (if (t118 == a0_0 && (t119 == a0_1 && (t120 == a0_2 && ((t121 == a0_3 && (t122 == a0_4)))))) = true then (if t123 = 0 then (some (t124 == 0)) else (some false)) else (some false)) = some r := H
  have A3 := Aside0.mk A30
  clear A30
  by_cases c4 : (t118 == a0_0 && (t119 == a0_1 && (t120 == a0_2 && ((t121 == a0_3 && (t122 == a0_4)))))) = true
  · rw [if_pos c4] at H
    have c4b0 : (t118 == a0_0 && (t119 == a0_1 && (t120 == a0_2 && ((t121 == a0_3 && (t122 == a0_4)))))) = true := c4
    (try (have c4b1 : decide (t118 = a0_0 && (t119 == a0_1 && (t120 == a0_2 && ((t121 == a0_3 && (t122 == a0_4)))))) = true := by simpa using c4))
    (try (have c4b2 : (t118 == a0_0 && (t119 == a0_1 && (t120 == a0_2 && ((t121 == a0_3 && (t122 == a0_4)))))) = true := by simpa using c4))
    clear c4
    by_cases c5 : t123 = 0
    · rw [if_pos c5] at H
      have c5b0 : (t123 == 0) = true := beq_iff_eq.mpr c5
      have c5b1 : (t123 != 0) = false := bne_eq_false_iff_eq.mpr c5
      clear c5
      obtain rfl := Option.some.inj H
      go_enter Tryz.func8, Tryz.ntmps8
      go_wp2_with (first | ((with_reducible refine gate_dst (N := 2) rfl ?_); refine box_event ?hg (N := 2) ?hd (cs := #[.int .i64 a0_0, .int .i64 a0_1, .int .i64 a0_2, .int .i64 a0_3, .int .i64 a0_4]) (t := 25) ?hr ?_; (case hd => rfl); (case hg => rfl); (case hr => first | (go_simp; done) | (go_simp; rfl)); intro gb117 hg w6 hbox hb; have n0_ := Aside0.mk (below_step (by repeat (first | (with_reducible first | exact HB.out | apply below_alloc | apply pw_below_drewN | apply below_drew1) | exact HB.out)) hb); have n1_ := Aside0.mk (hbox); have n2_ := Aside0.mk ((by rw [hg]; exact (below_size (by repeat (first | (with_reducible first | exact HB.out | apply below_alloc | apply pw_below_drewN | apply below_drew1) | exact HB.out))) : w.heap.size ≤ gb117)); have n3_ := Aside0.mk ((by rw [hg]; exact (below_size (by repeat (first | (with_reducible first | exact HB.out | apply below_alloc | apply pw_below_drewN | apply below_drew1) | exact HB.out))) : w.heap.size ≤ gb117)); clear HB; have HB := n0_; have BK117 := n1_; have GW117 := n2_; have GE117 := n3_; clear n0_ n1_ n2_ n3_; clear hb hbox hg) | ((with_reducible refine gate_callee (f := 19) rfl ?_); refine goesL_ (some 10) rfl rfl Tryz.func19 (by kernel_rfl) rfl #[.slice A1 l1.length c1] rfl (by (try simp only [List.map_toArray, List.map_cons, List.map_nil]); first | done | rfl | (simp only [List.length_drop, List.length_take]; rfl)) ?_; (with_reducible refine (operation_Read.calls _ _ l1 t118 t119 t120 t121 t122 t123 t124 _ ?side1 ?side2 ?side3 A3.out).mono ?_); (case side1 => repeat (first | exact (Kd.C_below HR1.out HB.out) | (with_reducible refine Kd.C_alloc ?_ _) | (with_reducible refine Kd.C_drewN ?_ _) | (with_reducible refine Kd.C_drew ?_))); (case side2 => exact HC1.out); (case side3 => exact GOk.below HG.out (by repeat (first | (with_reducible first | exact HB.out | apply below_alloc | apply pw_below_drewN | apply below_drew1 | refine below_set ?_ GE117.out) | exact HB.out))); rintro e w7 ⟨rfl, hb⟩; refine ⟨_, rfl, ?_⟩; have n0_ := Aside0.mk (blk_below (g := gb117) (o := .cells #[.int .i64 a0_0, .int .i64 a0_1, .int .i64 a0_2, .int .i64 a0_3, .int .i64 a0_4] 25 (0, 0)) (by (with_reducible repeat (first | refine blk_drewN ?_ _ | refine blk_drew ?_ | refine blk_alloc ?_ _)); exact BK117.out) hb); have n1_ := Aside0.mk (below_step (by repeat (first | (with_reducible first | exact HB.out | apply below_alloc | apply pw_below_drewN | apply below_drew1 | refine below_set ?_ GE117.out) | exact HB.out)) hb); clear BK117; clear HB; have BK117 := n0_; have HB := n1_; clear n0_ n1_; (try clear hb); (try clear hb2); (try clear hk); (try clear hi)) | ((with_reducible refine gate_dst (N := 5) rfl ?_); refine box_event ?hg (N := 5) ?hd (cs := #[.int .i64 0, .int .i64 0, .int .i64 0, .int .i64 0, .int .i64 0]) (t := 25) ?hr ?_; (case hd => rfl); (case hg => rfl); (case hr => first | (go_simp; done) | (go_simp; rfl)); intro gb125 hg w8 hbox hb; have n0_ := Aside0.mk (blk_below (g := gb117) (o := .cells #[.int .i64 a0_0, .int .i64 a0_1, .int .i64 a0_2, .int .i64 a0_3, .int .i64 a0_4] 25 (0, 0)) (by (with_reducible repeat (first | refine blk_drewN ?_ _ | refine blk_drew ?_ | refine blk_alloc ?_ _)); exact BK117.out) hb); have n1_ := Aside0.mk (below_step (by repeat (first | (with_reducible first | exact HB.out | apply below_alloc | apply pw_below_drewN | apply below_drew1 | refine below_set ?_ GE117.out) | exact HB.out)) hb); have n2_ := Aside0.mk (hbox); have n3_ := Aside0.mk ((by rw [hg]; exact (below_size (by repeat (first | (with_reducible first | exact HB.out | apply below_alloc | apply pw_below_drewN | apply below_drew1 | refine below_set ?_ GE117.out) | exact HB.out))) : w.heap.size ≤ gb125)); have n4_ := Aside0.mk ((by rw [hg]; exact (below_size (by repeat (first | (with_reducible first | exact HB.out | apply below_alloc | apply pw_below_drewN | apply below_drew1 | refine below_set ?_ GE117.out) | exact HB.out))) : w.heap.size ≤ gb125)); have n5_ := Aside0.mk ((by rw [hg]; exact Nat.ne_of_lt (blk_lt (g := gb117) (o := .cells #[.int .i64 a0_0, .int .i64 a0_1, .int .i64 a0_2, .int .i64 a0_3, .int .i64 a0_4] 25 (0, 0)) (by (with_reducible repeat (first | refine blk_drewN ?_ _ | refine blk_drew ?_ | refine blk_alloc ?_ _)); exact BK117.out)) : gb117 ≠ gb125)); have n6_ := Aside0.mk ((by rw [hg]; exact Nat.ne_of_gt (blk_lt (g := gb117) (o := .cells #[.int .i64 a0_0, .int .i64 a0_1, .int .i64 a0_2, .int .i64 a0_3, .int .i64 a0_4] 25 (0, 0)) (by (with_reducible repeat (first | refine blk_drewN ?_ _ | refine blk_drew ?_ | refine blk_alloc ?_ _)); exact BK117.out)) : gb125 ≠ gb117)); clear BK117; clear HB; have BK117 := n0_; have HB := n1_; have BK125 := n2_; have GW125 := n3_; have GE125 := n4_; have NB117_125 := n5_; have NB125_117 := n6_; clear n0_ n1_ n2_ n3_ n4_ n5_ n6_; clear hb hbox hg; have hnb9 := NB125_117.out; have hnc9 := NB117_125.out; have hcz10_0 : w8.cell? ⟨gb125, 0, none⟩ = some (.int .i64 0) := (blk_cell BK125.out 0).trans rfl; have hcz10_1 : w8.cell? ⟨gb125, 1, none⟩ = some (.int .i64 0) := (blk_cell BK125.out 1).trans rfl; have hcz10_2 : w8.cell? ⟨gb125, 2, none⟩ = some (.int .i64 0) := (blk_cell BK125.out 2).trans rfl; have hcz10_3 : w8.cell? ⟨gb125, 3, none⟩ = some (.int .i64 0) := (blk_cell BK125.out 3).trans rfl; have hcz10_4 : w8.cell? ⟨gb125, 4, none⟩ = some (.int .i64 0) := (blk_cell BK125.out 4).trans rfl; have hfz10_0 := blk_frozen BK125.out 0; have hfz10_1 := blk_frozen BK125.out 1; have hfz10_2 := blk_frozen BK125.out 2; have hfz10_3 := blk_frozen BK125.out 3; have hfz10_4 := blk_frozen BK125.out 4; have hcz11_0 : w8.cell? ⟨gb117, 0, none⟩ = some (.int .i64 a0_0) := (blk_cell BK117.out 0).trans rfl; have hcz11_1 : w8.cell? ⟨gb117, 1, none⟩ = some (.int .i64 a0_1) := (blk_cell BK117.out 1).trans rfl; have hcz11_2 : w8.cell? ⟨gb117, 2, none⟩ = some (.int .i64 a0_2) := (blk_cell BK117.out 2).trans rfl; have hcz11_3 : w8.cell? ⟨gb117, 3, none⟩ = some (.int .i64 a0_3) := (blk_cell BK117.out 3).trans rfl; have hcz11_4 : w8.cell? ⟨gb117, 4, none⟩ = some (.int .i64 a0_4) := (blk_cell BK117.out 4).trans rfl; have hfz11_0 := blk_frozen BK117.out 0; have hfz11_1 := blk_frozen BK117.out 1; have hfz11_2 := blk_frozen BK117.out 2; have hfz11_3 := blk_frozen BK117.out 3; have hfz11_4 := blk_frozen BK117.out 4))
      go_ret
      exact ⟨by first | rfl | (simp [errW_none, errW_some] <;> rfl) | (simp [*, errW_none, errW_some] <;> rfl), by repeat (first | (with_reducible first | exact HB.out | apply below_alloc | apply pw_below_drewN | apply below_drew1 | refine below_set ?_ GE117.out | refine below_set ?_ GE125.out) | exact HB.out)⟩
    · rw [if_neg c5] at H
      have c5b0 : (t123 == 0) = false := beq_eq_false_iff_ne.mpr c5
      have c5b1 : (t123 != 0) = true := bne_iff_ne.mpr c5
      obtain rfl := Option.some.inj H
      go_enter Tryz.func8, Tryz.ntmps8
      go_wp2_with (first | ((with_reducible refine gate_dst (N := 2) rfl ?_); refine box_event ?hg (N := 2) ?hd (cs := #[.int .i64 a0_0, .int .i64 a0_1, .int .i64 a0_2, .int .i64 a0_3, .int .i64 a0_4]) (t := 25) ?hr ?_; (case hd => rfl); (case hg => rfl); (case hr => first | (go_simp; done) | (go_simp; rfl)); intro gb117 hg w12 hbox hb; have n0_ := Aside0.mk (below_step (by repeat (first | (with_reducible first | exact HB.out | apply below_alloc | apply pw_below_drewN | apply below_drew1) | exact HB.out)) hb); have n1_ := Aside0.mk (hbox); have n2_ := Aside0.mk ((by rw [hg]; exact (below_size (by repeat (first | (with_reducible first | exact HB.out | apply below_alloc | apply pw_below_drewN | apply below_drew1) | exact HB.out))) : w.heap.size ≤ gb117)); have n3_ := Aside0.mk ((by rw [hg]; exact (below_size (by repeat (first | (with_reducible first | exact HB.out | apply below_alloc | apply pw_below_drewN | apply below_drew1) | exact HB.out))) : w.heap.size ≤ gb117)); clear HB; have HB := n0_; have BK117 := n1_; have GW117 := n2_; have GE117 := n3_; clear n0_ n1_ n2_ n3_; clear hb hbox hg) | ((with_reducible refine gate_callee (f := 19) rfl ?_); refine goesL_ (some 10) rfl rfl Tryz.func19 (by kernel_rfl) rfl #[.slice A1 l1.length c1] rfl (by (try simp only [List.map_toArray, List.map_cons, List.map_nil]); first | done | rfl | (simp only [List.length_drop, List.length_take]; rfl)) ?_; (with_reducible refine (operation_Read.calls _ _ l1 t118 t119 t120 t121 t122 t123 t124 _ ?side1 ?side2 ?side3 A3.out).mono ?_); (case side1 => repeat (first | exact (Kd.C_below HR1.out HB.out) | (with_reducible refine Kd.C_alloc ?_ _) | (with_reducible refine Kd.C_drewN ?_ _) | (with_reducible refine Kd.C_drew ?_))); (case side2 => exact HC1.out); (case side3 => exact GOk.below HG.out (by repeat (first | (with_reducible first | exact HB.out | apply below_alloc | apply pw_below_drewN | apply below_drew1 | refine below_set ?_ GE117.out) | exact HB.out))); rintro e w13 ⟨rfl, hb⟩; refine ⟨_, rfl, ?_⟩; have n0_ := Aside0.mk (blk_below (g := gb117) (o := .cells #[.int .i64 a0_0, .int .i64 a0_1, .int .i64 a0_2, .int .i64 a0_3, .int .i64 a0_4] 25 (0, 0)) (by (with_reducible repeat (first | refine blk_drewN ?_ _ | refine blk_drew ?_ | refine blk_alloc ?_ _)); exact BK117.out) hb); have n1_ := Aside0.mk (below_step (by repeat (first | (with_reducible first | exact HB.out | apply below_alloc | apply pw_below_drewN | apply below_drew1 | refine below_set ?_ GE117.out) | exact HB.out)) hb); clear BK117; clear HB; have BK117 := n0_; have HB := n1_; clear n0_ n1_; (try clear hb); (try clear hb2); (try clear hk); (try clear hi)) | ((with_reducible refine gate_dst (N := 5) rfl ?_); refine box_event ?hg (N := 5) ?hd (cs := #[.int .i64 0, .int .i64 0, .int .i64 0, .int .i64 0, .int .i64 0]) (t := 25) ?hr ?_; (case hd => rfl); (case hg => rfl); (case hr => first | (go_simp; done) | (go_simp; rfl)); intro gb125 hg w14 hbox hb; have n0_ := Aside0.mk (blk_below (g := gb117) (o := .cells #[.int .i64 a0_0, .int .i64 a0_1, .int .i64 a0_2, .int .i64 a0_3, .int .i64 a0_4] 25 (0, 0)) (by (with_reducible repeat (first | refine blk_drewN ?_ _ | refine blk_drew ?_ | refine blk_alloc ?_ _)); exact BK117.out) hb); have n1_ := Aside0.mk (below_step (by repeat (first | (with_reducible first | exact HB.out | apply below_alloc | apply pw_below_drewN | apply below_drew1 | refine below_set ?_ GE117.out) | exact HB.out)) hb); have n2_ := Aside0.mk (hbox); have n3_ := Aside0.mk ((by rw [hg]; exact (below_size (by repeat (first | (with_reducible first | exact HB.out | apply below_alloc | apply pw_below_drewN | apply below_drew1 | refine below_set ?_ GE117.out) | exact HB.out))) : w.heap.size ≤ gb125)); have n4_ := Aside0.mk ((by rw [hg]; exact (below_size (by repeat (first | (with_reducible first | exact HB.out | apply below_alloc | apply pw_below_drewN | apply below_drew1 | refine below_set ?_ GE117.out) | exact HB.out))) : w.heap.size ≤ gb125)); have n5_ := Aside0.mk ((by rw [hg]; exact Nat.ne_of_lt (blk_lt (g := gb117) (o := .cells #[.int .i64 a0_0, .int .i64 a0_1, .int .i64 a0_2, .int .i64 a0_3, .int .i64 a0_4] 25 (0, 0)) (by (with_reducible repeat (first | refine blk_drewN ?_ _ | refine blk_drew ?_ | refine blk_alloc ?_ _)); exact BK117.out)) : gb117 ≠ gb125)); have n6_ := Aside0.mk ((by rw [hg]; exact Nat.ne_of_gt (blk_lt (g := gb117) (o := .cells #[.int .i64 a0_0, .int .i64 a0_1, .int .i64 a0_2, .int .i64 a0_3, .int .i64 a0_4] 25 (0, 0)) (by (with_reducible repeat (first | refine blk_drewN ?_ _ | refine blk_drew ?_ | refine blk_alloc ?_ _)); exact BK117.out)) : gb125 ≠ gb117)); clear BK117; clear HB; have BK117 := n0_; have HB := n1_; have BK125 := n2_; have GW125 := n3_; have GE125 := n4_; have NB117_125 := n5_; have NB125_117 := n6_; clear n0_ n1_ n2_ n3_ n4_ n5_ n6_; clear hb hbox hg; have hnb15 := NB125_117.out; have hnc15 := NB117_125.out; have hcz16_0 : w14.cell? ⟨gb125, 0, none⟩ = some (.int .i64 0) := (blk_cell BK125.out 0).trans rfl; have hcz16_1 : w14.cell? ⟨gb125, 1, none⟩ = some (.int .i64 0) := (blk_cell BK125.out 1).trans rfl; have hcz16_2 : w14.cell? ⟨gb125, 2, none⟩ = some (.int .i64 0) := (blk_cell BK125.out 2).trans rfl; have hcz16_3 : w14.cell? ⟨gb125, 3, none⟩ = some (.int .i64 0) := (blk_cell BK125.out 3).trans rfl; have hcz16_4 : w14.cell? ⟨gb125, 4, none⟩ = some (.int .i64 0) := (blk_cell BK125.out 4).trans rfl; have hfz16_0 := blk_frozen BK125.out 0; have hfz16_1 := blk_frozen BK125.out 1; have hfz16_2 := blk_frozen BK125.out 2; have hfz16_3 := blk_frozen BK125.out 3; have hfz16_4 := blk_frozen BK125.out 4; have hcz17_0 : w14.cell? ⟨gb117, 0, none⟩ = some (.int .i64 a0_0) := (blk_cell BK117.out 0).trans rfl; have hcz17_1 : w14.cell? ⟨gb117, 1, none⟩ = some (.int .i64 a0_1) := (blk_cell BK117.out 1).trans rfl; have hcz17_2 : w14.cell? ⟨gb117, 2, none⟩ = some (.int .i64 a0_2) := (blk_cell BK117.out 2).trans rfl; have hcz17_3 : w14.cell? ⟨gb117, 3, none⟩ = some (.int .i64 a0_3) := (blk_cell BK117.out 3).trans rfl; have hcz17_4 : w14.cell? ⟨gb117, 4, none⟩ = some (.int .i64 a0_4) := (blk_cell BK117.out 4).trans rfl; have hfz17_0 := blk_frozen BK117.out 0; have hfz17_1 := blk_frozen BK117.out 1; have hfz17_2 := blk_frozen BK117.out 2; have hfz17_3 := blk_frozen BK117.out 3; have hfz17_4 := blk_frozen BK117.out 4))
      go_ret
      exact ⟨by first | rfl | (simp [errW_none, errW_some] <;> rfl) | (simp [*, errW_none, errW_some] <;> rfl), by repeat (first | (with_reducible first | exact HB.out | apply below_alloc | apply pw_below_drewN | apply below_drew1 | refine below_set ?_ GE117.out | refine below_set ?_ GE125.out) | exact HB.out)⟩
  · rw [if_neg c4] at H
    have c4b0 : (t118 == a0_0 && (t119 == a0_1 && (t120 == a0_2 && ((t121 == a0_3 && (t122 == a0_4)))))) = false := by simpa using c4
    (try (have c4b1 : decide (t118 = a0_0 && (t119 == a0_1 && (t120 == a0_2 && ((t121 == a0_3 && (t122 == a0_4)))))) = false := by simpa using c4))
    (try (have c4b2 : (t118 == a0_0 && (t119 == a0_1 && (t120 == a0_2 && ((t121 == a0_3 && (t122 == a0_4)))))) = false := by simpa using c4))
    (try (have c4b3 : ¬ (t118 = a0_0 && (t119 == a0_1 && (t120 == a0_2 && ((t121 == a0_3 && (t122 == a0_4)))))) := by simpa using c4))
    clear c4
    obtain rfl := Option.some.inj H
    go_enter Tryz.func8, Tryz.ntmps8
    go_wp2_with (first | ((with_reducible refine gate_dst (N := 2) rfl ?_); refine box_event ?hg (N := 2) ?hd (cs := #[.int .i64 a0_0, .int .i64 a0_1, .int .i64 a0_2, .int .i64 a0_3, .int .i64 a0_4]) (t := 25) ?hr ?_; (case hd => rfl); (case hg => rfl); (case hr => first | (go_simp; done) | (go_simp; rfl)); intro gb117 hg w18 hbox hb; have n0_ := Aside0.mk (below_step (by repeat (first | (with_reducible first | exact HB.out | apply below_alloc | apply pw_below_drewN | apply below_drew1) | exact HB.out)) hb); have n1_ := Aside0.mk (hbox); have n2_ := Aside0.mk ((by rw [hg]; exact (below_size (by repeat (first | (with_reducible first | exact HB.out | apply below_alloc | apply pw_below_drewN | apply below_drew1) | exact HB.out))) : w.heap.size ≤ gb117)); have n3_ := Aside0.mk ((by rw [hg]; exact (below_size (by repeat (first | (with_reducible first | exact HB.out | apply below_alloc | apply pw_below_drewN | apply below_drew1) | exact HB.out))) : w.heap.size ≤ gb117)); clear HB; have HB := n0_; have BK117 := n1_; have GW117 := n2_; have GE117 := n3_; clear n0_ n1_ n2_ n3_; clear hb hbox hg) | ((with_reducible refine gate_callee (f := 19) rfl ?_); refine goesL_ (some 10) rfl rfl Tryz.func19 (by kernel_rfl) rfl #[.slice A1 l1.length c1] rfl (by (try simp only [List.map_toArray, List.map_cons, List.map_nil]); first | done | rfl | (simp only [List.length_drop, List.length_take]; rfl)) ?_; (with_reducible refine (operation_Read.calls _ _ l1 t118 t119 t120 t121 t122 t123 t124 _ ?side1 ?side2 ?side3 A3.out).mono ?_); (case side1 => repeat (first | exact (Kd.C_below HR1.out HB.out) | (with_reducible refine Kd.C_alloc ?_ _) | (with_reducible refine Kd.C_drewN ?_ _) | (with_reducible refine Kd.C_drew ?_))); (case side2 => exact HC1.out); (case side3 => exact GOk.below HG.out (by repeat (first | (with_reducible first | exact HB.out | apply below_alloc | apply pw_below_drewN | apply below_drew1 | refine below_set ?_ GE117.out) | exact HB.out))); rintro e w19 ⟨rfl, hb⟩; refine ⟨_, rfl, ?_⟩; have n0_ := Aside0.mk (blk_below (g := gb117) (o := .cells #[.int .i64 a0_0, .int .i64 a0_1, .int .i64 a0_2, .int .i64 a0_3, .int .i64 a0_4] 25 (0, 0)) (by (with_reducible repeat (first | refine blk_drewN ?_ _ | refine blk_drew ?_ | refine blk_alloc ?_ _)); exact BK117.out) hb); have n1_ := Aside0.mk (below_step (by repeat (first | (with_reducible first | exact HB.out | apply below_alloc | apply pw_below_drewN | apply below_drew1 | refine below_set ?_ GE117.out) | exact HB.out)) hb); clear BK117; clear HB; have BK117 := n0_; have HB := n1_; clear n0_ n1_; (try clear hb); (try clear hb2); (try clear hk); (try clear hi)) | ((with_reducible refine gate_dst (N := 5) rfl ?_); refine box_event ?hg (N := 5) ?hd (cs := #[.int .i64 0, .int .i64 0, .int .i64 0, .int .i64 0, .int .i64 0]) (t := 25) ?hr ?_; (case hd => rfl); (case hg => rfl); (case hr => first | (go_simp; done) | (go_simp; rfl)); intro gb125 hg w20 hbox hb; have n0_ := Aside0.mk (blk_below (g := gb117) (o := .cells #[.int .i64 a0_0, .int .i64 a0_1, .int .i64 a0_2, .int .i64 a0_3, .int .i64 a0_4] 25 (0, 0)) (by (with_reducible repeat (first | refine blk_drewN ?_ _ | refine blk_drew ?_ | refine blk_alloc ?_ _)); exact BK117.out) hb); have n1_ := Aside0.mk (below_step (by repeat (first | (with_reducible first | exact HB.out | apply below_alloc | apply pw_below_drewN | apply below_drew1 | refine below_set ?_ GE117.out) | exact HB.out)) hb); have n2_ := Aside0.mk (hbox); have n3_ := Aside0.mk ((by rw [hg]; exact (below_size (by repeat (first | (with_reducible first | exact HB.out | apply below_alloc | apply pw_below_drewN | apply below_drew1 | refine below_set ?_ GE117.out) | exact HB.out))) : w.heap.size ≤ gb125)); have n4_ := Aside0.mk ((by rw [hg]; exact (below_size (by repeat (first | (with_reducible first | exact HB.out | apply below_alloc | apply pw_below_drewN | apply below_drew1 | refine below_set ?_ GE117.out) | exact HB.out))) : w.heap.size ≤ gb125)); have n5_ := Aside0.mk ((by rw [hg]; exact Nat.ne_of_lt (blk_lt (g := gb117) (o := .cells #[.int .i64 a0_0, .int .i64 a0_1, .int .i64 a0_2, .int .i64 a0_3, .int .i64 a0_4] 25 (0, 0)) (by (with_reducible repeat (first | refine blk_drewN ?_ _ | refine blk_drew ?_ | refine blk_alloc ?_ _)); exact BK117.out)) : gb117 ≠ gb125)); have n6_ := Aside0.mk ((by rw [hg]; exact Nat.ne_of_gt (blk_lt (g := gb117) (o := .cells #[.int .i64 a0_0, .int .i64 a0_1, .int .i64 a0_2, .int .i64 a0_3, .int .i64 a0_4] 25 (0, 0)) (by (with_reducible repeat (first | refine blk_drewN ?_ _ | refine blk_drew ?_ | refine blk_alloc ?_ _)); exact BK117.out)) : gb125 ≠ gb117)); clear BK117; clear HB; have BK117 := n0_; have HB := n1_; have BK125 := n2_; have GW125 := n3_; have GE125 := n4_; have NB117_125 := n5_; have NB125_117 := n6_; clear n0_ n1_ n2_ n3_ n4_ n5_ n6_; clear hb hbox hg; have hnb21 := NB125_117.out; have hnc21 := NB117_125.out; have hcz22_0 : w20.cell? ⟨gb125, 0, none⟩ = some (.int .i64 0) := (blk_cell BK125.out 0).trans rfl; have hcz22_1 : w20.cell? ⟨gb125, 1, none⟩ = some (.int .i64 0) := (blk_cell BK125.out 1).trans rfl; have hcz22_2 : w20.cell? ⟨gb125, 2, none⟩ = some (.int .i64 0) := (blk_cell BK125.out 2).trans rfl; have hcz22_3 : w20.cell? ⟨gb125, 3, none⟩ = some (.int .i64 0) := (blk_cell BK125.out 3).trans rfl; have hcz22_4 : w20.cell? ⟨gb125, 4, none⟩ = some (.int .i64 0) := (blk_cell BK125.out 4).trans rfl; have hfz22_0 := blk_frozen BK125.out 0; have hfz22_1 := blk_frozen BK125.out 1; have hfz22_2 := blk_frozen BK125.out 2; have hfz22_3 := blk_frozen BK125.out 3; have hfz22_4 := blk_frozen BK125.out 4; have hcz23_0 : w20.cell? ⟨gb117, 0, none⟩ = some (.int .i64 a0_0) := (blk_cell BK117.out 0).trans rfl; have hcz23_1 : w20.cell? ⟨gb117, 1, none⟩ = some (.int .i64 a0_1) := (blk_cell BK117.out 1).trans rfl; have hcz23_2 : w20.cell? ⟨gb117, 2, none⟩ = some (.int .i64 a0_2) := (blk_cell BK117.out 2).trans rfl; have hcz23_3 : w20.cell? ⟨gb117, 3, none⟩ = some (.int .i64 a0_3) := (blk_cell BK117.out 3).trans rfl; have hcz23_4 : w20.cell? ⟨gb117, 4, none⟩ = some (.int .i64 a0_4) := (blk_cell BK117.out 4).trans rfl; have hfz23_0 := blk_frozen BK117.out 0; have hfz23_1 := blk_frozen BK117.out 1; have hfz23_2 := blk_frozen BK117.out 2; have hfz23_3 := blk_frozen BK117.out 3; have hfz23_4 := blk_frozen BK117.out 4))
    go_ret
    exact ⟨by first | rfl | (simp [errW_none, errW_some] <;> rfl) | (simp [*, errW_none, errW_some] <;> rfl), by repeat (first | (with_reducible first | exact HB.out | apply below_alloc | apply pw_below_drewN | apply below_drew1 | refine below_set ?_ GE117.out | refine below_set ?_ GE125.out) | exact HB.out)⟩

/-! ### armisticelaw04_awake: function 12 -/
def armisticelaw04_awake.f  : Option (Bool) := (armisticelaw04_of.f 3 5 0 1).bind fun bt126 => ((armisticelaw04_tells.f bt126.1 bt126.2.1 bt126.2.2.1 bt126.2.2.2.1 bt126.2.2.2.2 (⟨#[105, 110, 115, 101, 114, 116, 32, 53, 32, 45, 62, 32, 49]⟩ : ByteArray)).bind fun t131 => (if t131 = true then ((armisticelaw04_of.f 3 5 0 2).bind fun bt132 => ((operation_Check.f bt132.1 bt132.2.1 bt132.2.2.1 bt132.2.2.2.1 bt132.2.2.2.2).bind fun t137 => (if t137 = 9 then ((armisticelaw04_of.f 3 5 0 1).bind fun bt138 => ((armisticelaw04_reads.f bt138.1 bt138.2.1 bt138.2.2.1 bt138.2.2.2.1 bt138.2.2.2.2 (([(⟨#[105, 110, 115, 101, 114, 116]⟩ : ByteArray), (⟨#[53]⟩ : ByteArray), (⟨#[45, 62]⟩ : ByteArray), (⟨#[49]⟩ : ByteArray)] : List ByteArray))).bind fun t146 => (if t146 = true then ((armisticelaw04_fails.f 1 5 (([(⟨#[105, 110, 115, 101, 114, 116]⟩ : ByteArray), (⟨#[120]⟩ : ByteArray), (⟨#[45, 62]⟩ : ByteArray), (⟨#[49]⟩ : ByteArray)] : List ByteArray))).bind fun t150 => (some t150)) else (some false)))) else (some false)))) else (some false)))
set_option maxHeartbeats 8000000 in
set_option maxRecDepth 100000 in
theorem armisticelaw04_awake.calls  (r : Bool) (w : World) (hG : GOk w) (h : armisticelaw04_awake.f  = some r) :
    Calls Tryz.prog 12 #[] w fun e w' => e = .returned (.bool r) ∧ Below w.heap.size w w' := by
  have HG := Aside0.mk hG
  clear hG
  have HB := Aside0.mk (Below.refl w.heap.size w)
  have H : ((armisticelaw04_of.f 3 5 0 1).bind fun bt126 => ((armisticelaw04_tells.f bt126.1 bt126.2.1 bt126.2.2.1 bt126.2.2.2.1 bt126.2.2.2.2 (⟨#[105, 110, 115, 101, 114, 116, 32, 53, 32, 45, 62, 32, 49]⟩ : ByteArray)).bind fun t131 => (if t131 = true then ((armisticelaw04_of.f 3 5 0 2).bind fun bt132 => ((operation_Check.f bt132.1 bt132.2.1 bt132.2.2.1 bt132.2.2.2.1 bt132.2.2.2.2).bind fun t137 => (if t137 = 9 then ((armisticelaw04_of.f 3 5 0 1).bind fun bt138 => ((armisticelaw04_reads.f bt138.1 bt138.2.1 bt138.2.2.1 bt138.2.2.2.1 bt138.2.2.2.2 (([(⟨#[105, 110, 115, 101, 114, 116]⟩ : ByteArray), (⟨#[53]⟩ : ByteArray), (⟨#[45, 62]⟩ : ByteArray), (⟨#[49]⟩ : ByteArray)] : List ByteArray))).bind fun t146 => (if t146 = true then ((armisticelaw04_fails.f 1 5 (([(⟨#[105, 110, 115, 101, 114, 116]⟩ : ByteArray), (⟨#[120]⟩ : ByteArray), (⟨#[45, 62]⟩ : ByteArray), (⟨#[49]⟩ : ByteArray)] : List ByteArray))).bind fun t150 => (some t150)) else (some false)))) else (some false)))) else (some false)))) = some r := h
  clear h
  replace H := Option.bind_eq_some_iff.mp H
  obtain ⟨⟨t126, t127, t128, t129, t130⟩, A10, H⟩ := H
  replace H : ((armisticelaw04_tells.f t126 t127 t128 t129 t130 (⟨#[105, 110, 115, 101, 114, 116, 32, 53, 32, 45, 62, 32, 49]⟩ : ByteArray)).bind fun t131 => (if t131 = true then ((armisticelaw04_of.f 3 5 0 2).bind fun bt132 => ((operation_Check.f bt132.1 bt132.2.1 bt132.2.2.1 bt132.2.2.2.1 bt132.2.2.2.2).bind fun t137 => (if t137 = 9 then ((armisticelaw04_of.f 3 5 0 1).bind fun bt138 => ((armisticelaw04_reads.f bt138.1 bt138.2.1 bt138.2.2.1 bt138.2.2.2.1 bt138.2.2.2.2 (([(⟨#[105, 110, 115, 101, 114, 116]⟩ : ByteArray), (⟨#[53]⟩ : ByteArray), (⟨#[45, 62]⟩ : ByteArray), (⟨#[49]⟩ : ByteArray)] : List ByteArray))).bind fun t146 => (if t146 = true then ((armisticelaw04_fails.f 1 5 (([(⟨#[105, 110, 115, 101, 114, 116]⟩ : ByteArray), (⟨#[120]⟩ : ByteArray), (⟨#[45, 62]⟩ : ByteArray), (⟨#[49]⟩ : ByteArray)] : List ByteArray))).bind fun t150 => (some t150)) else (some false)))) else (some false)))) else (some false))) = some r := H
  have A1 := Aside0.mk A10
  clear A10
  replace H := Option.bind_eq_some_iff.mp H
  obtain ⟨t131, A20, H⟩ := H
  replace H : (if t131 = true then ((armisticelaw04_of.f 3 5 0 2).bind fun bt132 => ((operation_Check.f bt132.1 bt132.2.1 bt132.2.2.1 bt132.2.2.2.1 bt132.2.2.2.2).bind fun t137 => (if t137 = 9 then ((armisticelaw04_of.f 3 5 0 1).bind fun bt138 => ((armisticelaw04_reads.f bt138.1 bt138.2.1 bt138.2.2.1 bt138.2.2.2.1 bt138.2.2.2.2 (([(⟨#[105, 110, 115, 101, 114, 116]⟩ : ByteArray), (⟨#[53]⟩ : ByteArray), (⟨#[45, 62]⟩ : ByteArray), (⟨#[49]⟩ : ByteArray)] : List ByteArray))).bind fun t146 => (if t146 = true then ((armisticelaw04_fails.f 1 5 (([(⟨#[105, 110, 115, 101, 114, 116]⟩ : ByteArray), (⟨#[120]⟩ : ByteArray), (⟨#[45, 62]⟩ : ByteArray), (⟨#[49]⟩ : ByteArray)] : List ByteArray))).bind fun t150 => (some t150)) else (some false)))) else (some false)))) else (some false)) = some r := H
  have A2 := Aside0.mk A20
  clear A20
  by_cases c3 : t131 = true
  · subst c3
    have H1 : ((armisticelaw04_of.f 3 5 0 2).bind fun bt132 => ((operation_Check.f bt132.1 bt132.2.1 bt132.2.2.1 bt132.2.2.2.1 bt132.2.2.2.2).bind fun t137 => (if t137 = 9 then ((armisticelaw04_of.f 3 5 0 1).bind fun bt138 => ((armisticelaw04_reads.f bt138.1 bt138.2.1 bt138.2.2.1 bt138.2.2.2.1 bt138.2.2.2.2 (([(⟨#[105, 110, 115, 101, 114, 116]⟩ : ByteArray), (⟨#[53]⟩ : ByteArray), (⟨#[45, 62]⟩ : ByteArray), (⟨#[49]⟩ : ByteArray)] : List ByteArray))).bind fun t146 => (if t146 = true then ((armisticelaw04_fails.f 1 5 (([(⟨#[105, 110, 115, 101, 114, 116]⟩ : ByteArray), (⟨#[120]⟩ : ByteArray), (⟨#[45, 62]⟩ : ByteArray), (⟨#[49]⟩ : ByteArray)] : List ByteArray))).bind fun t150 => (some t150)) else (some false)))) else (some false)))) = some r := by rw [if_pos rfl] at H; exact H
    clear H
    have H := H1
    clear H1
    replace H := Option.bind_eq_some_iff.mp H
    obtain ⟨⟨t132, t133, t134, t135, t136⟩, A40, H⟩ := H
    replace H : ((operation_Check.f t132 t133 t134 t135 t136).bind fun t137 => (if t137 = 9 then ((armisticelaw04_of.f 3 5 0 1).bind fun bt138 => ((armisticelaw04_reads.f bt138.1 bt138.2.1 bt138.2.2.1 bt138.2.2.2.1 bt138.2.2.2.2 (([(⟨#[105, 110, 115, 101, 114, 116]⟩ : ByteArray), (⟨#[53]⟩ : ByteArray), (⟨#[45, 62]⟩ : ByteArray), (⟨#[49]⟩ : ByteArray)] : List ByteArray))).bind fun t146 => (if t146 = true then ((armisticelaw04_fails.f 1 5 (([(⟨#[105, 110, 115, 101, 114, 116]⟩ : ByteArray), (⟨#[120]⟩ : ByteArray), (⟨#[45, 62]⟩ : ByteArray), (⟨#[49]⟩ : ByteArray)] : List ByteArray))).bind fun t150 => (some t150)) else (some false)))) else (some false))) = some r := H
    have A4 := Aside0.mk A40
    clear A40
    replace H := Option.bind_eq_some_iff.mp H
    obtain ⟨t137, A50, H⟩ := H
    replace H : (if t137 = 9 then ((armisticelaw04_of.f 3 5 0 1).bind fun bt138 => ((armisticelaw04_reads.f bt138.1 bt138.2.1 bt138.2.2.1 bt138.2.2.2.1 bt138.2.2.2.2 (([(⟨#[105, 110, 115, 101, 114, 116]⟩ : ByteArray), (⟨#[53]⟩ : ByteArray), (⟨#[45, 62]⟩ : ByteArray), (⟨#[49]⟩ : ByteArray)] : List ByteArray))).bind fun t146 => (if t146 = true then ((armisticelaw04_fails.f 1 5 (([(⟨#[105, 110, 115, 101, 114, 116]⟩ : ByteArray), (⟨#[120]⟩ : ByteArray), (⟨#[45, 62]⟩ : ByteArray), (⟨#[49]⟩ : ByteArray)] : List ByteArray))).bind fun t150 => (some t150)) else (some false)))) else (some false)) = some r := H
    have A5 := Aside0.mk A50
    clear A50
    by_cases c6 : t137 = 9
    · rw [if_pos c6] at H
      have c6b0 : (t137 == 9) = true := beq_iff_eq.mpr c6
      have c6b1 : (t137 != 9) = false := bne_eq_false_iff_eq.mpr c6
      clear c6
      replace H := Option.bind_eq_some_iff.mp H
      obtain ⟨⟨t138, t139, t140, t141, t142⟩, A70, H⟩ := H
      replace H : ((armisticelaw04_reads.f t138 t139 t140 t141 t142 (([(⟨#[105, 110, 115, 101, 114, 116]⟩ : ByteArray), (⟨#[53]⟩ : ByteArray), (⟨#[45, 62]⟩ : ByteArray), (⟨#[49]⟩ : ByteArray)] : List ByteArray))).bind fun t146 => (if t146 = true then ((armisticelaw04_fails.f 1 5 (([(⟨#[105, 110, 115, 101, 114, 116]⟩ : ByteArray), (⟨#[120]⟩ : ByteArray), (⟨#[45, 62]⟩ : ByteArray), (⟨#[49]⟩ : ByteArray)] : List ByteArray))).bind fun t150 => (some t150)) else (some false))) = some r := H
      have A7 := Aside0.mk A70
      clear A70
      obtain ⟨y143, hy143⟩ : ∃ y_ : List ByteArray, y_ = (([(⟨#[105, 110, 115, 101, 114, 116]⟩ : ByteArray), (⟨#[53]⟩ : ByteArray), (⟨#[45, 62]⟩ : ByteArray), (⟨#[49]⟩ : ByteArray)] : List ByteArray)) := ⟨_, rfl⟩
      replace H : ((armisticelaw04_reads.f t138 t139 t140 t141 t142 y143).bind fun t146 => (if t146 = true then ((armisticelaw04_fails.f 1 5 (([(⟨#[105, 110, 115, 101, 114, 116]⟩ : ByteArray), (⟨#[120]⟩ : ByteArray), (⟨#[45, 62]⟩ : ByteArray), (⟨#[49]⟩ : ByteArray)] : List ByteArray))).bind fun t150 => (some t150)) else (some false))) = some r := by first | (rw [hy143]; with_reducible exact H) | (have H2_ := (Option.bind_some _ _).symm.trans H; rw [hy143]; with_reducible exact H2_) | (have H2_ := (Option.bind_some _ _).symm.trans H; with_reducible exact H2_) | with_reducible exact H | (rw [hy143]; exact H) | exact H
      have Ny143 := Aside0.mk hy143
      clear hy143
      replace H := Option.bind_eq_some_iff.mp H
      obtain ⟨t146, A80, H⟩ := H
      replace H : (if t146 = true then ((armisticelaw04_fails.f 1 5 (([(⟨#[105, 110, 115, 101, 114, 116]⟩ : ByteArray), (⟨#[120]⟩ : ByteArray), (⟨#[45, 62]⟩ : ByteArray), (⟨#[49]⟩ : ByteArray)] : List ByteArray))).bind fun t150 => (some t150)) else (some false)) = some r := H
      have A8 := Aside0.mk A80
      clear A80
      by_cases c9 : t146 = true
      · subst c9
        have H1 : ((armisticelaw04_fails.f 1 5 (([(⟨#[105, 110, 115, 101, 114, 116]⟩ : ByteArray), (⟨#[120]⟩ : ByteArray), (⟨#[45, 62]⟩ : ByteArray), (⟨#[49]⟩ : ByteArray)] : List ByteArray))).bind fun t150 => (some t150)) = some r := by rw [if_pos rfl] at H; exact H
        clear H
        have H := H1
        clear H1
        obtain ⟨y147, hy147⟩ : ∃ y_ : List ByteArray, y_ = (([(⟨#[105, 110, 115, 101, 114, 116]⟩ : ByteArray), (⟨#[120]⟩ : ByteArray), (⟨#[45, 62]⟩ : ByteArray), (⟨#[49]⟩ : ByteArray)] : List ByteArray)) := ⟨_, rfl⟩
        replace H : ((armisticelaw04_fails.f 1 5 y147).bind fun t150 => (some t150)) = some r := by first | (rw [hy147]; with_reducible exact H) | (have H2_ := (Option.bind_some _ _).symm.trans H; rw [hy147]; with_reducible exact H2_) | (have H2_ := (Option.bind_some _ _).symm.trans H; with_reducible exact H2_) | with_reducible exact H | (rw [hy147]; exact H) | exact H
        have Ny147 := Aside0.mk hy147
        clear hy147
        replace H := Option.bind_eq_some_iff.mp H
        obtain ⟨t150, A100, H⟩ := H
        replace H : (some t150) = some r := H
        have A10 := Aside0.mk A100
        clear A100
        obtain rfl := Option.some.inj H
        go_enter Tryz.func12, Tryz.ntmps12
        go_wp2_with (first | ((with_reducible refine gate_callee (f := 10) rfl ?_); refine goesL_ (some 1) rfl rfl Tryz.func10 (by kernel_rfl) rfl #[.int .i64 3, .int .i64 5, .int .i64 0, .int .i64 1] rfl (by (try simp only [List.map_toArray, List.map_cons, List.map_nil]); first | done | rfl | (simp only [List.length_drop, List.length_take]; rfl)) ?_; (with_reducible refine (armisticelaw04_of.calls 3 5 0 1 t126 t127 t128 t129 t130 _ A1.out).mono ?_); rintro e w11 ⟨rfl, hb⟩; refine ⟨_, rfl, ?_⟩; have n0_ := Aside0.mk (below_step (by repeat (first | (with_reducible first | exact HB.out | apply below_alloc | apply pw_below_drewN | apply below_drew1) | exact HB.out)) hb); clear HB; have HB := n0_; clear n0_; (try clear hb); (try clear hb2); (try clear hk); (try clear hi)) | ((with_reducible refine gate_callee (f := 9) rfl ?_); refine goesL_ (some 2) rfl rfl Tryz.func9 (by kernel_rfl) rfl #[.agg #[.int .i64 t126, .int .i64 t127, .int .i64 t128, .int .i64 t129, .int .i64 t130], .string (⟨#[105, 110, 115, 101, 114, 116, 32, 53, 32, 45, 62, 32, 49]⟩ : ByteArray)] rfl (by (try simp only [List.map_toArray, List.map_cons, List.map_nil]); first | done | rfl | (simp only [List.length_drop, List.length_take]; rfl)) ?_; (with_reducible refine (armisticelaw04_tells.calls t126 t127 t128 t129 t130 (⟨#[105, 110, 115, 101, 114, 116, 32, 53, 32, 45, 62, 32, 49]⟩ : ByteArray) true _ A2.out).mono ?_); rintro e w12 ⟨rfl, hb⟩; refine ⟨_, rfl, ?_⟩; have n0_ := Aside0.mk (below_step (by repeat (first | (with_reducible first | exact HB.out | apply below_alloc | apply pw_below_drewN | apply below_drew1) | exact HB.out)) hb); clear HB; have HB := n0_; clear n0_; (try clear hb); (try clear hb2); (try clear hk); (try clear hi)) | (go_at_call 10; (with_reducible refine (armisticelaw04_of.calls 3 5 0 2 t132 t133 t134 t135 t136 _ A4.out).mono ?_); rintro e w13 ⟨rfl, hb⟩; have n0_ := Aside0.mk (below_step (by repeat (first | (with_reducible first | exact HB.out | apply below_alloc | apply pw_below_drewN | apply below_drew1) | exact HB.out)) hb); clear HB; have HB := n0_; clear n0_; (try clear hb); (try clear hb2); (try clear hk); (try clear hi)) | (go_at_call 6; (with_reducible refine (operation_Check.calls t132 t133 t134 t135 t136 t137 _ A5.out).mono ?_); rintro e w14 ⟨rfl, hb⟩; have n0_ := Aside0.mk (below_step (by repeat (first | (with_reducible first | exact HB.out | apply below_alloc | apply pw_below_drewN | apply below_drew1) | exact HB.out)) hb); clear HB; have HB := n0_; clear n0_; (try clear hb); (try clear hb2); (try clear hk); (try clear hi)) | (go_at_call 10; (with_reducible refine (armisticelaw04_of.calls 3 5 0 1 t138 t139 t140 t141 t142 _ A7.out).mono ?_); rintro e w15 ⟨rfl, hb⟩; have n0_ := Aside0.mk (below_step (by repeat (first | (with_reducible first | exact HB.out | apply below_alloc | apply pw_below_drewN | apply below_drew1) | exact HB.out)) hb); clear HB; have HB := n0_; clear n0_; (try clear hb); (try clear hb2); (try clear hk); (try clear hi)) | ((with_reducible refine gate_dst (N := 10) rfl ?_); (try (refine gate_guard (by rfl) ?_; dsimp only)); refine Kd.R_lit Kd.string _ 9 ?hg (N := 10) ?hd (xs := ([(⟨#[105, 110, 115, 101, 114, 116]⟩ : ByteArray), (⟨#[53]⟩ : ByteArray), (⟨#[45, 62]⟩ : ByteArray), (⟨#[49]⟩ : ByteArray)] : List ByteArray)) (inner := [.string (⟨#[105, 110, 115, 101, 114, 116]⟩ : ByteArray), .string (⟨#[53]⟩ : ByteArray), .string (⟨#[45, 62]⟩ : ByteArray), .string (⟨#[49]⟩ : ByteArray)]) (ok := fun _ => True) (okp := fun _ => True) ?hr ?hp (fun _ hk => hk) trivial (Below.refl _ _) (Nat.le_refl _) (by simp) ?_; (case hd => rfl); (case hg => rfl); (case hr => first | (go_simp; done) | (go_simp; rfl)); (case hp => exact (Reps.one (show Kd.M Kd.string _ _ _ (⟨#[105, 110, 115, 101, 114, 116]⟩ : ByteArray) [.string (⟨#[105, 110, 115, 101, 114, 116]⟩ : ByteArray)] from rfl) (Reps.one (show Kd.M Kd.string _ _ _ (⟨#[53]⟩ : ByteArray) [.string (⟨#[53]⟩ : ByteArray)] from rfl) (Reps.one (show Kd.M Kd.string _ _ _ (⟨#[45, 62]⟩ : ByteArray) [.string (⟨#[45, 62]⟩ : ByteArray)] from rfl) (Reps.one (show Kd.M Kd.string _ _ _ (⟨#[49]⟩ : ByteArray) [.string (⟨#[49]⟩ : ByteArray)] from rfl) (Reps.none _ _)))))); intro v144 w16 ho17 hb hg_ hnew_; clear hg_ hnew_; (first | rw [← Ny143.out] at ho17 | (simp only [Int.reduceToNat] at ho17; rw [← Ny143.out] at ho17)); have n0_ := Aside0.mk (Kd.R_lower ho17 (below_size (by repeat (first | (with_reducible first | exact HB.out | apply below_alloc | apply pw_below_drewN | apply below_drew1) | exact HB.out)))); have n1_ := Aside0.mk (below_step (by repeat (first | (with_reducible first | exact HB.out | apply below_alloc | apply pw_below_drewN | apply below_drew1) | exact HB.out)) hb); clear HB; have HO145 := n0_; have HB := n1_; clear n0_ n1_; clear hb ho17; obtain ⟨Ao18, co18, eo18⟩ := Kd.R_slice HO145.out; subst eo18) | (go_at_call 8; (with_reducible refine (armisticelaw04_reads.calls t138 t139 t140 t141 t142 _ _ y143 true _ ?side1 ?side2 ?side3 A8.out).mono ?_); (case side1 => repeat (first | exact (Kd.R_reads' HO145.out).2.2 | (with_reducible refine Kd.C_alloc ?_ _) | (with_reducible refine Kd.C_drewN ?_ _) | (with_reducible refine Kd.C_drew ?_))); (case side2 => exact (Kd.R_reads' HO145.out).2.1); (case side3 => exact GOk.below HG.out (by repeat (first | (with_reducible first | exact HB.out | apply below_alloc | apply pw_below_drewN | apply below_drew1) | exact HB.out))); rintro e w19 ⟨rfl, hb⟩; have n0_ := Aside0.mk (Kd.R_below (by (with_reducible repeat (first | apply Kd.R_alloc | apply Kd.R_drewN | apply Kd.R_drew)); exact HO145.out) hb); have n1_ := Aside0.mk (below_step (by repeat (first | (with_reducible first | exact HB.out | apply below_alloc | apply pw_below_drewN | apply below_drew1) | exact HB.out)) hb); clear HO145; clear HB; have HO145 := n0_; have HB := n1_; clear n0_ n1_; (try clear hb); (try clear hb2); (try clear hk); (try clear hi)) | ((with_reducible refine gate_dst (N := 14) rfl ?_); (try (refine gate_guard (by rfl) ?_; dsimp only)); refine Kd.R_lit Kd.string _ 9 ?hg (N := 14) ?hd (xs := ([(⟨#[105, 110, 115, 101, 114, 116]⟩ : ByteArray), (⟨#[120]⟩ : ByteArray), (⟨#[45, 62]⟩ : ByteArray), (⟨#[49]⟩ : ByteArray)] : List ByteArray)) (inner := [.string (⟨#[105, 110, 115, 101, 114, 116]⟩ : ByteArray), .string (⟨#[120]⟩ : ByteArray), .string (⟨#[45, 62]⟩ : ByteArray), .string (⟨#[49]⟩ : ByteArray)]) (ok := fun _ => True) (okp := fun _ => True) ?hr ?hp (fun _ hk => hk) trivial (Below.refl _ _) (Nat.le_refl _) (by simp) ?_; (case hd => rfl); (case hg => rfl); (case hr => first | (go_simp; done) | (go_simp; rfl)); (case hp => exact (Reps.one (show Kd.M Kd.string _ _ _ (⟨#[105, 110, 115, 101, 114, 116]⟩ : ByteArray) [.string (⟨#[105, 110, 115, 101, 114, 116]⟩ : ByteArray)] from rfl) (Reps.one (show Kd.M Kd.string _ _ _ (⟨#[120]⟩ : ByteArray) [.string (⟨#[120]⟩ : ByteArray)] from rfl) (Reps.one (show Kd.M Kd.string _ _ _ (⟨#[45, 62]⟩ : ByteArray) [.string (⟨#[45, 62]⟩ : ByteArray)] from rfl) (Reps.one (show Kd.M Kd.string _ _ _ (⟨#[49]⟩ : ByteArray) [.string (⟨#[49]⟩ : ByteArray)] from rfl) (Reps.none _ _)))))); intro v148 w20 ho21 hb hg_ hnew_; clear hg_ hnew_; (first | rw [← Ny147.out] at ho21 | (simp only [Int.reduceToNat] at ho21; rw [← Ny147.out] at ho21)); have n0_ := Aside0.mk (Kd.R_elder' (by (with_reducible repeat (first | apply Kd.R_alloc | apply Kd.R_drewN | apply Kd.R_drew)); exact HO145.out) (Kd.R_base ho21) hb); have n1_ := Aside0.mk (Kd.R_lower (Kd.R_new' ho21 (Kd.R_lt (by (with_reducible repeat (first | apply Kd.R_alloc | apply Kd.R_drewN | apply Kd.R_drew)); exact HO145.out))) (below_size (by repeat (first | (with_reducible first | exact HB.out | apply below_alloc | apply pw_below_drewN | apply below_drew1) | exact HB.out)))); have n2_ := Aside0.mk (below_step (by repeat (first | (with_reducible first | exact HB.out | apply below_alloc | apply pw_below_drewN | apply below_drew1) | exact HB.out)) hb); clear HO145; clear HB; have HO145 := n0_; have HO149 := n1_; have HB := n2_; clear n0_ n1_ n2_; clear hb ho21; obtain ⟨Ao22, co22, eo22⟩ := Kd.R_slice HO149.out; subst eo22) | (go_at_call 11; (with_reducible refine (armisticelaw04_fails.calls 1 5 _ _ y147 t150 _ ?side1 ?side2 ?side3 A10.out).mono ?_); (case side1 => repeat (first | exact (Kd.R_reads' HO149.out).2.2 | (with_reducible refine Kd.C_alloc ?_ _) | (with_reducible refine Kd.C_drewN ?_ _) | (with_reducible refine Kd.C_drew ?_))); (case side2 => exact (Kd.R_reads' HO149.out).2.1); (case side3 => exact GOk.below HG.out (by repeat (first | (with_reducible first | exact HB.out | apply below_alloc | apply pw_below_drewN | apply below_drew1) | exact HB.out))); rintro e w23 ⟨rfl, hb⟩; have n0_ := Aside0.mk (Kd.R_below (by (with_reducible repeat (first | apply Kd.R_alloc | apply Kd.R_drewN | apply Kd.R_drew)); exact HO145.out) hb); have n1_ := Aside0.mk (Kd.R_below (by (with_reducible repeat (first | apply Kd.R_alloc | apply Kd.R_drewN | apply Kd.R_drew)); exact HO149.out) hb); have n2_ := Aside0.mk (below_step (by repeat (first | (with_reducible first | exact HB.out | apply below_alloc | apply pw_below_drewN | apply below_drew1) | exact HB.out)) hb); clear HO145; clear HO149; clear HB; have HO145 := n0_; have HO149 := n1_; have HB := n2_; clear n0_ n1_ n2_; (try clear hb); (try clear hb2); (try clear hk); (try clear hi)))
        go_ret
        exact ⟨by first | rfl | (simp [errW_none, errW_some] <;> rfl) | (simp [*, errW_none, errW_some] <;> rfl), by repeat (first | (with_reducible first | exact HB.out | apply below_alloc | apply pw_below_drewN | apply below_drew1) | exact HB.out)⟩
      · replace c9 := Bool.eq_false_iff.mpr c9
        subst c9
        have H1 : (some false) = some r := by rw [if_neg (show ¬ (false = true) by decide)] at H; exact H
        clear H
        have H := H1
        clear H1
        obtain rfl := Option.some.inj H
        go_enter Tryz.func12, Tryz.ntmps12
        go_wp2_with (first | ((with_reducible refine gate_callee (f := 10) rfl ?_); refine goesL_ (some 1) rfl rfl Tryz.func10 (by kernel_rfl) rfl #[.int .i64 3, .int .i64 5, .int .i64 0, .int .i64 1] rfl (by (try simp only [List.map_toArray, List.map_cons, List.map_nil]); first | done | rfl | (simp only [List.length_drop, List.length_take]; rfl)) ?_; (with_reducible refine (armisticelaw04_of.calls 3 5 0 1 t126 t127 t128 t129 t130 _ A1.out).mono ?_); rintro e w24 ⟨rfl, hb⟩; refine ⟨_, rfl, ?_⟩; have n0_ := Aside0.mk (below_step (by repeat (first | (with_reducible first | exact HB.out | apply below_alloc | apply pw_below_drewN | apply below_drew1) | exact HB.out)) hb); clear HB; have HB := n0_; clear n0_; (try clear hb); (try clear hb2); (try clear hk); (try clear hi)) | ((with_reducible refine gate_callee (f := 9) rfl ?_); refine goesL_ (some 2) rfl rfl Tryz.func9 (by kernel_rfl) rfl #[.agg #[.int .i64 t126, .int .i64 t127, .int .i64 t128, .int .i64 t129, .int .i64 t130], .string (⟨#[105, 110, 115, 101, 114, 116, 32, 53, 32, 45, 62, 32, 49]⟩ : ByteArray)] rfl (by (try simp only [List.map_toArray, List.map_cons, List.map_nil]); first | done | rfl | (simp only [List.length_drop, List.length_take]; rfl)) ?_; (with_reducible refine (armisticelaw04_tells.calls t126 t127 t128 t129 t130 (⟨#[105, 110, 115, 101, 114, 116, 32, 53, 32, 45, 62, 32, 49]⟩ : ByteArray) true _ A2.out).mono ?_); rintro e w25 ⟨rfl, hb⟩; refine ⟨_, rfl, ?_⟩; have n0_ := Aside0.mk (below_step (by repeat (first | (with_reducible first | exact HB.out | apply below_alloc | apply pw_below_drewN | apply below_drew1) | exact HB.out)) hb); clear HB; have HB := n0_; clear n0_; (try clear hb); (try clear hb2); (try clear hk); (try clear hi)) | (go_at_call 10; (with_reducible refine (armisticelaw04_of.calls 3 5 0 2 t132 t133 t134 t135 t136 _ A4.out).mono ?_); rintro e w26 ⟨rfl, hb⟩; have n0_ := Aside0.mk (below_step (by repeat (first | (with_reducible first | exact HB.out | apply below_alloc | apply pw_below_drewN | apply below_drew1) | exact HB.out)) hb); clear HB; have HB := n0_; clear n0_; (try clear hb); (try clear hb2); (try clear hk); (try clear hi)) | (go_at_call 6; (with_reducible refine (operation_Check.calls t132 t133 t134 t135 t136 t137 _ A5.out).mono ?_); rintro e w27 ⟨rfl, hb⟩; have n0_ := Aside0.mk (below_step (by repeat (first | (with_reducible first | exact HB.out | apply below_alloc | apply pw_below_drewN | apply below_drew1) | exact HB.out)) hb); clear HB; have HB := n0_; clear n0_; (try clear hb); (try clear hb2); (try clear hk); (try clear hi)) | (go_at_call 10; (with_reducible refine (armisticelaw04_of.calls 3 5 0 1 t138 t139 t140 t141 t142 _ A7.out).mono ?_); rintro e w28 ⟨rfl, hb⟩; have n0_ := Aside0.mk (below_step (by repeat (first | (with_reducible first | exact HB.out | apply below_alloc | apply pw_below_drewN | apply below_drew1) | exact HB.out)) hb); clear HB; have HB := n0_; clear n0_; (try clear hb); (try clear hb2); (try clear hk); (try clear hi)) | ((with_reducible refine gate_dst (N := 10) rfl ?_); (try (refine gate_guard (by rfl) ?_; dsimp only)); refine Kd.R_lit Kd.string _ 9 ?hg (N := 10) ?hd (xs := ([(⟨#[105, 110, 115, 101, 114, 116]⟩ : ByteArray), (⟨#[53]⟩ : ByteArray), (⟨#[45, 62]⟩ : ByteArray), (⟨#[49]⟩ : ByteArray)] : List ByteArray)) (inner := [.string (⟨#[105, 110, 115, 101, 114, 116]⟩ : ByteArray), .string (⟨#[53]⟩ : ByteArray), .string (⟨#[45, 62]⟩ : ByteArray), .string (⟨#[49]⟩ : ByteArray)]) (ok := fun _ => True) (okp := fun _ => True) ?hr ?hp (fun _ hk => hk) trivial (Below.refl _ _) (Nat.le_refl _) (by simp) ?_; (case hd => rfl); (case hg => rfl); (case hr => first | (go_simp; done) | (go_simp; rfl)); (case hp => exact (Reps.one (show Kd.M Kd.string _ _ _ (⟨#[105, 110, 115, 101, 114, 116]⟩ : ByteArray) [.string (⟨#[105, 110, 115, 101, 114, 116]⟩ : ByteArray)] from rfl) (Reps.one (show Kd.M Kd.string _ _ _ (⟨#[53]⟩ : ByteArray) [.string (⟨#[53]⟩ : ByteArray)] from rfl) (Reps.one (show Kd.M Kd.string _ _ _ (⟨#[45, 62]⟩ : ByteArray) [.string (⟨#[45, 62]⟩ : ByteArray)] from rfl) (Reps.one (show Kd.M Kd.string _ _ _ (⟨#[49]⟩ : ByteArray) [.string (⟨#[49]⟩ : ByteArray)] from rfl) (Reps.none _ _)))))); intro v144 w29 ho30 hb hg_ hnew_; clear hg_ hnew_; (first | rw [← Ny143.out] at ho30 | (simp only [Int.reduceToNat] at ho30; rw [← Ny143.out] at ho30)); have n0_ := Aside0.mk (Kd.R_lower ho30 (below_size (by repeat (first | (with_reducible first | exact HB.out | apply below_alloc | apply pw_below_drewN | apply below_drew1) | exact HB.out)))); have n1_ := Aside0.mk (below_step (by repeat (first | (with_reducible first | exact HB.out | apply below_alloc | apply pw_below_drewN | apply below_drew1) | exact HB.out)) hb); clear HB; have HO145 := n0_; have HB := n1_; clear n0_ n1_; clear hb ho30; obtain ⟨Ao31, co31, eo31⟩ := Kd.R_slice HO145.out; subst eo31) | (go_at_call 8; (with_reducible refine (armisticelaw04_reads.calls t138 t139 t140 t141 t142 _ _ y143 false _ ?side1 ?side2 ?side3 A8.out).mono ?_); (case side1 => repeat (first | exact (Kd.R_reads' HO145.out).2.2 | (with_reducible refine Kd.C_alloc ?_ _) | (with_reducible refine Kd.C_drewN ?_ _) | (with_reducible refine Kd.C_drew ?_))); (case side2 => exact (Kd.R_reads' HO145.out).2.1); (case side3 => exact GOk.below HG.out (by repeat (first | (with_reducible first | exact HB.out | apply below_alloc | apply pw_below_drewN | apply below_drew1) | exact HB.out))); rintro e w32 ⟨rfl, hb⟩; have n0_ := Aside0.mk (Kd.R_below (by (with_reducible repeat (first | apply Kd.R_alloc | apply Kd.R_drewN | apply Kd.R_drew)); exact HO145.out) hb); have n1_ := Aside0.mk (below_step (by repeat (first | (with_reducible first | exact HB.out | apply below_alloc | apply pw_below_drewN | apply below_drew1) | exact HB.out)) hb); clear HO145; clear HB; have HO145 := n0_; have HB := n1_; clear n0_ n1_; (try clear hb); (try clear hb2); (try clear hk); (try clear hi)))
        go_ret
        exact ⟨by first | rfl | (simp [errW_none, errW_some] <;> rfl) | (simp [*, errW_none, errW_some] <;> rfl), by repeat (first | (with_reducible first | exact HB.out | apply below_alloc | apply pw_below_drewN | apply below_drew1) | exact HB.out)⟩
    · rw [if_neg c6] at H
      have c6b0 : (t137 == 9) = false := beq_eq_false_iff_ne.mpr c6
      have c6b1 : (t137 != 9) = true := bne_iff_ne.mpr c6
      obtain rfl := Option.some.inj H
      go_enter Tryz.func12, Tryz.ntmps12
      go_wp2_with (first | ((with_reducible refine gate_callee (f := 10) rfl ?_); refine goesL_ (some 1) rfl rfl Tryz.func10 (by kernel_rfl) rfl #[.int .i64 3, .int .i64 5, .int .i64 0, .int .i64 1] rfl (by (try simp only [List.map_toArray, List.map_cons, List.map_nil]); first | done | rfl | (simp only [List.length_drop, List.length_take]; rfl)) ?_; (with_reducible refine (armisticelaw04_of.calls 3 5 0 1 t126 t127 t128 t129 t130 _ A1.out).mono ?_); rintro e w33 ⟨rfl, hb⟩; refine ⟨_, rfl, ?_⟩; have n0_ := Aside0.mk (below_step (by repeat (first | (with_reducible first | exact HB.out | apply below_alloc | apply pw_below_drewN | apply below_drew1) | exact HB.out)) hb); clear HB; have HB := n0_; clear n0_; (try clear hb); (try clear hb2); (try clear hk); (try clear hi)) | ((with_reducible refine gate_callee (f := 9) rfl ?_); refine goesL_ (some 2) rfl rfl Tryz.func9 (by kernel_rfl) rfl #[.agg #[.int .i64 t126, .int .i64 t127, .int .i64 t128, .int .i64 t129, .int .i64 t130], .string (⟨#[105, 110, 115, 101, 114, 116, 32, 53, 32, 45, 62, 32, 49]⟩ : ByteArray)] rfl (by (try simp only [List.map_toArray, List.map_cons, List.map_nil]); first | done | rfl | (simp only [List.length_drop, List.length_take]; rfl)) ?_; (with_reducible refine (armisticelaw04_tells.calls t126 t127 t128 t129 t130 (⟨#[105, 110, 115, 101, 114, 116, 32, 53, 32, 45, 62, 32, 49]⟩ : ByteArray) true _ A2.out).mono ?_); rintro e w34 ⟨rfl, hb⟩; refine ⟨_, rfl, ?_⟩; have n0_ := Aside0.mk (below_step (by repeat (first | (with_reducible first | exact HB.out | apply below_alloc | apply pw_below_drewN | apply below_drew1) | exact HB.out)) hb); clear HB; have HB := n0_; clear n0_; (try clear hb); (try clear hb2); (try clear hk); (try clear hi)) | (go_at_call 10; (with_reducible refine (armisticelaw04_of.calls 3 5 0 2 t132 t133 t134 t135 t136 _ A4.out).mono ?_); rintro e w35 ⟨rfl, hb⟩; have n0_ := Aside0.mk (below_step (by repeat (first | (with_reducible first | exact HB.out | apply below_alloc | apply pw_below_drewN | apply below_drew1) | exact HB.out)) hb); clear HB; have HB := n0_; clear n0_; (try clear hb); (try clear hb2); (try clear hk); (try clear hi)) | (go_at_call 6; (with_reducible refine (operation_Check.calls t132 t133 t134 t135 t136 t137 _ A5.out).mono ?_); rintro e w36 ⟨rfl, hb⟩; have n0_ := Aside0.mk (below_step (by repeat (first | (with_reducible first | exact HB.out | apply below_alloc | apply pw_below_drewN | apply below_drew1) | exact HB.out)) hb); clear HB; have HB := n0_; clear n0_; (try clear hb); (try clear hb2); (try clear hk); (try clear hi)))
      go_ret
      exact ⟨by first | rfl | (simp [errW_none, errW_some] <;> rfl) | (simp [*, errW_none, errW_some] <;> rfl), by repeat (first | (with_reducible first | exact HB.out | apply below_alloc | apply pw_below_drewN | apply below_drew1) | exact HB.out)⟩
  · replace c3 := Bool.eq_false_iff.mpr c3
    subst c3
    have H1 : (some false) = some r := by rw [if_neg (show ¬ (false = true) by decide)] at H; exact H
    clear H
    have H := H1
    clear H1
    obtain rfl := Option.some.inj H
    go_enter Tryz.func12, Tryz.ntmps12
    go_wp2_with (first | ((with_reducible refine gate_callee (f := 10) rfl ?_); refine goesL_ (some 1) rfl rfl Tryz.func10 (by kernel_rfl) rfl #[.int .i64 3, .int .i64 5, .int .i64 0, .int .i64 1] rfl (by (try simp only [List.map_toArray, List.map_cons, List.map_nil]); first | done | rfl | (simp only [List.length_drop, List.length_take]; rfl)) ?_; (with_reducible refine (armisticelaw04_of.calls 3 5 0 1 t126 t127 t128 t129 t130 _ A1.out).mono ?_); rintro e w37 ⟨rfl, hb⟩; refine ⟨_, rfl, ?_⟩; have n0_ := Aside0.mk (below_step (by repeat (first | (with_reducible first | exact HB.out | apply below_alloc | apply pw_below_drewN | apply below_drew1) | exact HB.out)) hb); clear HB; have HB := n0_; clear n0_; (try clear hb); (try clear hb2); (try clear hk); (try clear hi)) | ((with_reducible refine gate_callee (f := 9) rfl ?_); refine goesL_ (some 2) rfl rfl Tryz.func9 (by kernel_rfl) rfl #[.agg #[.int .i64 t126, .int .i64 t127, .int .i64 t128, .int .i64 t129, .int .i64 t130], .string (⟨#[105, 110, 115, 101, 114, 116, 32, 53, 32, 45, 62, 32, 49]⟩ : ByteArray)] rfl (by (try simp only [List.map_toArray, List.map_cons, List.map_nil]); first | done | rfl | (simp only [List.length_drop, List.length_take]; rfl)) ?_; (with_reducible refine (armisticelaw04_tells.calls t126 t127 t128 t129 t130 (⟨#[105, 110, 115, 101, 114, 116, 32, 53, 32, 45, 62, 32, 49]⟩ : ByteArray) false _ A2.out).mono ?_); rintro e w38 ⟨rfl, hb⟩; refine ⟨_, rfl, ?_⟩; have n0_ := Aside0.mk (below_step (by repeat (first | (with_reducible first | exact HB.out | apply below_alloc | apply pw_below_drewN | apply below_drew1) | exact HB.out)) hb); clear HB; have HB := n0_; clear n0_; (try clear hb); (try clear hb2); (try clear hk); (try clear hi)))
    go_ret
    exact ⟨by first | rfl | (simp [errW_none, errW_some] <;> rfl) | (simp [*, errW_none, errW_some] <;> rfl), by repeat (first | (with_reducible first | exact HB.out | apply below_alloc | apply pw_below_drewN | apply below_drew1) | exact HB.out)⟩

/-! ### armisticelaw04_OperationKnown: function 4 -/
mutual
def armisticelaw04_OperationKnown.j0 : Nat → Bool → Option (Bool)
  | 0, _ => none
  | k + 1, x1 => (armisticelaw04_of.f 1 5 0 1).bind fun bt159 => ((operation_Check.f bt159.1 bt159.2.1 bt159.2.2.1 bt159.2.2.2.1 bt159.2.2.2.2).bind fun t164 => (if t164 = 9 then ((armisticelaw04_of.f 6 1 0 3).bind fun bt165 => ((operation_Check.f bt165.1 bt165.2.1 bt165.2.2.1 bt165.2.2.2.1 bt165.2.2.2.2).bind fun t170 => (if t170 = 2 then ((armisticelaw04_of.f 13 (-1) 0 1).bind fun bt171 => ((operation_Check.f bt171.1 bt171.2.1 bt171.2.2.1 bt171.2.2.2.1 bt171.2.2.2.2).bind fun t176 => (if t176 = 2 then ((armisticelaw04_of.f 16 0 0 0).bind fun bt177 => ((operation_Check.f bt177.1 bt177.2.1 bt177.2.2.1 bt177.2.2.2.1 bt177.2.2.2.2).bind fun t182 => (armisticelaw04_OperationKnown.j1 k x1 (t182 == 6)))) else (armisticelaw04_OperationKnown.j1 k x1 false)))) else (armisticelaw04_OperationKnown.j1 k x1 false)))) else (armisticelaw04_OperationKnown.j1 k x1 false)))
def armisticelaw04_OperationKnown.j1 : Nat → Bool → Bool → Option (Bool)
  | 0, _, _ => none
  | k + 1, x1, x2 => (armisticelaw04_fails.f 0 5 ([] : List ByteArray)).bind fun t183 => (if t183 = true then ((armisticelaw04_fails.f 0 6 (([(⟨#[105, 110, 115]⟩ : ByteArray), (⟨#[53]⟩ : ByteArray)] : List ByteArray))).bind fun t187 => (if t187 = true then ((armisticelaw04_fails.f 2 5 (([(⟨#[105, 110, 115, 101, 114, 116]⟩ : ByteArray), (⟨#[53]⟩ : ByteArray), (⟨#[45]⟩ : ByteArray), (⟨#[49]⟩ : ByteArray)] : List ByteArray))).bind fun t191 => (if t191 = true then ((armisticelaw04_fails.f 2 5 (([(⟨#[105, 110, 115, 101, 114, 116]⟩ : ByteArray), (⟨#[53]⟩ : ByteArray)] : List ByteArray))).bind fun t195 => (if t195 = true then ((armisticelaw04_fails.f 4 5 (([(⟨#[105, 110, 115, 101, 114, 116]⟩ : ByteArray), (⟨#[53]⟩ : ByteArray), (⟨#[45, 62]⟩ : ByteArray), (⟨#[49]⟩ : ByteArray), (⟨#[50]⟩ : ByteArray)] : List ByteArray))).bind fun t199 => (armisticelaw04_OperationKnown.j2 k x1 x2 t199)) else (armisticelaw04_OperationKnown.j2 k x1 x2 false))) else (armisticelaw04_OperationKnown.j2 k x1 x2 false))) else (armisticelaw04_OperationKnown.j2 k x1 x2 false))) else (armisticelaw04_OperationKnown.j2 k x1 x2 false))
def armisticelaw04_OperationKnown.j2 : Nat → Bool → Bool → Bool → Option (Bool)
  | 0, _, _, _ => none
  | k + 1, x1, x2, x3 => (armisticelaw04_awake.f).bind fun t200 => (if t200 = true then (if x1 = true then (if x2 = true then (if x3 = true then ((armisticelaw04_fails.f 3 9 (([(⟨#[105, 110, 115, 101, 114, 116]⟩ : ByteArray), (⟨#[53]⟩ : ByteArray), (⟨#[45, 62]⟩ : ByteArray), (⟨#[110, 111]⟩ : ByteArray)] : List ByteArray))).bind fun t204 => (if t204 = true then ((armisticelaw04_fails.f 3 9 (([(⟨#[105, 110, 115, 101, 114, 116]⟩ : ByteArray), (⟨#[53]⟩ : ByteArray), (⟨#[45, 62]⟩ : ByteArray), (⟨#[50]⟩ : ByteArray)] : List ByteArray))).bind fun t208 => (if t208 = true then ((armisticelaw04_fails.f 1 2 (([(⟨#[100, 101, 112, 111, 115, 105, 116]⟩ : ByteArray), (⟨#[45, 49]⟩ : ByteArray), (⟨#[45, 62]⟩ : ByteArray), (⟨#[49]⟩ : ByteArray)] : List ByteArray))).bind fun t212 => (some t212)) else (some false))) else (some false))) else (some false)) else (some false)) else (some false)) else (some false))
end
def armisticelaw04_OperationKnown.f (k : Nat)  : Option (Bool) := (armisticelaw04_tells.f 7 1 10 1 0 (⟨#[112, 117, 116, 32, 49, 32, 49, 48, 32, 45, 62, 32, 110, 111, 110, 101]⟩ : ByteArray)).bind fun t151 => (if t151 = true then ((armisticelaw04_of.f 2 0 0 (-3)).bind fun bt152 => ((armisticelaw04_tells.f bt152.1 bt152.2.1 bt152.2.2.1 bt152.2.2.2.1 bt152.2.2.2.2 (⟨#[114, 101, 97, 100, 32, 45, 62, 32, 45, 51]⟩ : ByteArray)).bind fun t157 => (if t157 = true then ((armisticelaw04_tells.f 1 5 0 0 0 (⟨#[97, 100, 100, 32, 53, 32, 45, 62, 32, 111, 107]⟩ : ByteArray)).bind fun t158 => (armisticelaw04_OperationKnown.j0 k t158)) else (armisticelaw04_OperationKnown.j0 k false)))) else (armisticelaw04_OperationKnown.j0 k false))
theorem armisticelaw04_OperationKnown.mono_l : ∀ k, (∀ y0, LeO (armisticelaw04_OperationKnown.j0 k y0) (armisticelaw04_OperationKnown.j0 (k + 1) y0)) ∧ (∀ y0 y1, LeO (armisticelaw04_OperationKnown.j1 k y0 y1) (armisticelaw04_OperationKnown.j1 (k + 1) y0 y1)) ∧ (∀ y0 y1 y2, LeO (armisticelaw04_OperationKnown.j2 k y0 y1 y2) (armisticelaw04_OperationKnown.j2 (k + 1) y0 y1 y2))
  | 0 => ⟨fun _ r h => by simp [armisticelaw04_OperationKnown.j0] at h, fun _ _ r h => by simp [armisticelaw04_OperationKnown.j1] at h, fun _ _ _ r h => by simp [armisticelaw04_OperationKnown.j2] at h⟩
  | k + 1 => by
    obtain ⟨ih0, ih1, ih2⟩ := armisticelaw04_OperationKnown.mono_l k
    refine ⟨?_, ?_, ?_⟩
    · intro y0
      unfold armisticelaw04_OperationKnown.j0
      repeat' first
      | (with_reducible exact ih0 _)
      | (with_reducible exact ih1 _ _)
      | (with_reducible exact ih2 _ _ _)
      | (with_reducible exact LeO.refl _)
      | (with_reducible exact LeO.none _)
      | (with_reducible refine LeO.ite ?_ ?_)
      | (with_reducible refine LeO.bind ?_ (fun _ => ?_))
      | exact ih0 _
      | exact ih1 _ _
      | exact ih2 _ _ _
      | exact LeO.none _
      | refine LeO.ite ?_ ?_
      | refine LeO.bind ?_ (fun _ => ?_)
    · intro y0 y1
      unfold armisticelaw04_OperationKnown.j1
      repeat' first
      | (with_reducible exact ih0 _)
      | (with_reducible exact ih1 _ _)
      | (with_reducible exact ih2 _ _ _)
      | (with_reducible exact LeO.refl _)
      | (with_reducible exact LeO.none _)
      | (with_reducible refine LeO.ite ?_ ?_)
      | (with_reducible refine LeO.bind ?_ (fun _ => ?_))
      | exact ih0 _
      | exact ih1 _ _
      | exact ih2 _ _ _
      | exact LeO.none _
      | refine LeO.ite ?_ ?_
      | refine LeO.bind ?_ (fun _ => ?_)
    · intro y0 y1 y2
      unfold armisticelaw04_OperationKnown.j2
      repeat' first
      | (with_reducible exact ih0 _)
      | (with_reducible exact ih1 _ _)
      | (with_reducible exact ih2 _ _ _)
      | (with_reducible exact LeO.refl _)
      | (with_reducible exact LeO.none _)
      | (with_reducible refine LeO.ite ?_ ?_)
      | (with_reducible refine LeO.bind ?_ (fun _ => ?_))
      | exact ih0 _
      | exact ih1 _ _
      | exact ih2 _ _ _
      | exact LeO.none _
      | refine LeO.ite ?_ ?_
      | refine LeO.bind ?_ (fun _ => ?_)
theorem armisticelaw04_OperationKnown.mono : ∀ k, LeO (armisticelaw04_OperationKnown.f k ) (armisticelaw04_OperationKnown.f (k + 1) ) := by
  intro  k
  obtain ⟨ih0, ih1, ih2⟩ := armisticelaw04_OperationKnown.mono_l k
  unfold armisticelaw04_OperationKnown.f
  repeat' first
      | (with_reducible exact ih0 _)
      | (with_reducible exact ih1 _ _)
      | (with_reducible exact ih2 _ _ _)
      | (with_reducible exact LeO.refl _)
      | (with_reducible exact LeO.none _)
      | (with_reducible refine LeO.ite ?_ ?_)
      | (with_reducible refine LeO.bind ?_ (fun _ => ?_))
      | exact ih0 _
      | exact ih1 _ _
      | exact ih2 _ _ _
      | exact LeO.none _
      | refine LeO.ite ?_ ?_
      | refine LeO.bind ?_ (fun _ => ?_)
theorem armisticelaw04_OperationKnown.j2_false0 {k : Nat} {a1 : Bool} {a2 : Bool} {r : Bool} (h : armisticelaw04_OperationKnown.j2 k false a1 a2 = some r) : r = false := by
  cases k with
  | zero => rw [armisticelaw04_OperationKnown.j2] at h; cases h
  | succ k =>
    rw [armisticelaw04_OperationKnown.j2] at h
    repeat' first
    | exact (Option.some.inj h).symm
    | (rw [Option.bind_eq_some_iff] at h; obtain ⟨_, _, h⟩ := h)
    | (split at h)
    | (rename_i hc_; cases hc_; done)
theorem armisticelaw04_OperationKnown.j2_false1 {k : Nat} {a0 : Bool} {a2 : Bool} {r : Bool} (h : armisticelaw04_OperationKnown.j2 k a0 false a2 = some r) : r = false := by
  cases k with
  | zero => rw [armisticelaw04_OperationKnown.j2] at h; cases h
  | succ k =>
    rw [armisticelaw04_OperationKnown.j2] at h
    repeat' first
    | exact (Option.some.inj h).symm
    | (rw [Option.bind_eq_some_iff] at h; obtain ⟨_, _, h⟩ := h)
    | (split at h)
    | (rename_i hc_; cases hc_; done)
theorem armisticelaw04_OperationKnown.j2_false {k : Nat} {a0 : Bool} {a1 : Bool} {r : Bool} (h : armisticelaw04_OperationKnown.j2 k a0 a1 false = some r) : r = false := by
  cases k with
  | zero => rw [armisticelaw04_OperationKnown.j2] at h; cases h
  | succ k =>
    rw [armisticelaw04_OperationKnown.j2] at h
    repeat' first
    | exact (Option.some.inj h).symm
    | (rw [Option.bind_eq_some_iff] at h; obtain ⟨_, _, h⟩ := h)
    | (split at h)
    | (rename_i hc_; cases hc_; done)
theorem armisticelaw04_OperationKnown.j1_false0 {k : Nat} {a1 : Bool} {r : Bool} (h : armisticelaw04_OperationKnown.j1 k false a1 = some r) : r = false := by
  cases k with
  | zero => rw [armisticelaw04_OperationKnown.j1] at h; cases h
  | succ k =>
    rw [armisticelaw04_OperationKnown.j1] at h
    repeat' first
    | exact (Option.some.inj h).symm
    | exact armisticelaw04_OperationKnown.j2_false0 h
    | exact armisticelaw04_OperationKnown.j2_false1 h
    | exact armisticelaw04_OperationKnown.j2_false h
    | (rw [Option.bind_eq_some_iff] at h; obtain ⟨_, _, h⟩ := h)
    | (split at h)
    | (rename_i hc_; cases hc_; done)
theorem armisticelaw04_OperationKnown.j1_false {k : Nat} {a0 : Bool} {r : Bool} (h : armisticelaw04_OperationKnown.j1 k a0 false = some r) : r = false := by
  cases k with
  | zero => rw [armisticelaw04_OperationKnown.j1] at h; cases h
  | succ k =>
    rw [armisticelaw04_OperationKnown.j1] at h
    repeat' first
    | exact (Option.some.inj h).symm
    | exact armisticelaw04_OperationKnown.j2_false0 h
    | exact armisticelaw04_OperationKnown.j2_false1 h
    | exact armisticelaw04_OperationKnown.j2_false h
    | (rw [Option.bind_eq_some_iff] at h; obtain ⟨_, _, h⟩ := h)
    | (split at h)
    | (rename_i hc_; cases hc_; done)
theorem armisticelaw04_OperationKnown.j0_false {k : Nat} {r : Bool} (h : armisticelaw04_OperationKnown.j0 k false = some r) : r = false := by
  cases k with
  | zero => rw [armisticelaw04_OperationKnown.j0] at h; cases h
  | succ k =>
    rw [armisticelaw04_OperationKnown.j0] at h
    repeat' first
    | exact (Option.some.inj h).symm
    | exact armisticelaw04_OperationKnown.j2_false0 h
    | exact armisticelaw04_OperationKnown.j2_false1 h
    | exact armisticelaw04_OperationKnown.j2_false h
    | exact armisticelaw04_OperationKnown.j1_false0 h
    | exact armisticelaw04_OperationKnown.j1_false h
    | (rw [Option.bind_eq_some_iff] at h; obtain ⟨_, _, h⟩ := h)
    | (split at h)
    | (rename_i hc_; cases hc_; done)
set_option maxHeartbeats 8000000 in
set_option maxRecDepth 100000 in
theorem armisticelaw04_OperationKnown.calls0 (k : Nat)  (r : Bool) (hrt : r = true) (w : World) (hG : GOk w) (h : armisticelaw04_OperationKnown.f k  = some r) :
    Calls Tryz.prog 4 #[] w fun e w' => e = .returned (.bool r) ∧ Below w.heap.size w w' := by
  have HRT := Aside0.mk hrt
  clear hrt
  have hu23 := Tryz.underlying23
  have hu25 := Tryz.underlying25
  have HG := Aside0.mk hG
  clear hG
  have HB := Aside0.mk (Below.refl w.heap.size w)
  have H : ((armisticelaw04_tells.f 7 1 10 1 0 (⟨#[112, 117, 116, 32, 49, 32, 49, 48, 32, 45, 62, 32, 110, 111, 110, 101]⟩ : ByteArray)).bind fun t151 => (if t151 = true then ((armisticelaw04_of.f 2 0 0 (-3)).bind fun bt152 => ((armisticelaw04_tells.f bt152.1 bt152.2.1 bt152.2.2.1 bt152.2.2.2.1 bt152.2.2.2.2 (⟨#[114, 101, 97, 100, 32, 45, 62, 32, 45, 51]⟩ : ByteArray)).bind fun t157 => (if t157 = true then ((armisticelaw04_tells.f 1 5 0 0 0 (⟨#[97, 100, 100, 32, 53, 32, 45, 62, 32, 111, 107]⟩ : ByteArray)).bind fun t158 => (armisticelaw04_OperationKnown.j0 k t158)) else (armisticelaw04_OperationKnown.j0 k false)))) else (armisticelaw04_OperationKnown.j0 k false))) = some r := h
  clear h
  have HC1 := Aside0.mk H
  clear H
  go_enter Tryz.func4, Tryz.ntmps4
  go_upto_region 1 with (fail)
  go_cut [1] (fun v1 wc => ∃ (kq : Nat) (x1_0 : Bool), v1 = .bool x1_0 ∧ Aside0 (armisticelaw04_OperationKnown.j0 kq x1_0 = some r) ∧ Aside0 (kq ≤ k) ∧ Aside0 (Below w.heap.size w wc))
  case first =>
    have H := HC1.out
    clear HC1
    replace H := Option.bind_eq_some_iff.mp H
    obtain ⟨t151, A20, H⟩ := H
    replace H : (if t151 = true then ((armisticelaw04_of.f 2 0 0 (-3)).bind fun bt152 => ((armisticelaw04_tells.f bt152.1 bt152.2.1 bt152.2.2.1 bt152.2.2.2.1 bt152.2.2.2.2 (⟨#[114, 101, 97, 100, 32, 45, 62, 32, 45, 51]⟩ : ByteArray)).bind fun t157 => (if t157 = true then ((armisticelaw04_tells.f 1 5 0 0 0 (⟨#[97, 100, 100, 32, 53, 32, 45, 62, 32, 111, 107]⟩ : ByteArray)).bind fun t158 => (armisticelaw04_OperationKnown.j0 k t158)) else (armisticelaw04_OperationKnown.j0 k false)))) else (armisticelaw04_OperationKnown.j0 k false)) = some r := H
    have A2 := Aside0.mk A20
    clear A20
    by_cases c3 : t151 = true
    · subst c3
      have H1 : ((armisticelaw04_of.f 2 0 0 (-3)).bind fun bt152 => ((armisticelaw04_tells.f bt152.1 bt152.2.1 bt152.2.2.1 bt152.2.2.2.1 bt152.2.2.2.2 (⟨#[114, 101, 97, 100, 32, 45, 62, 32, 45, 51]⟩ : ByteArray)).bind fun t157 => (if t157 = true then ((armisticelaw04_tells.f 1 5 0 0 0 (⟨#[97, 100, 100, 32, 53, 32, 45, 62, 32, 111, 107]⟩ : ByteArray)).bind fun t158 => (armisticelaw04_OperationKnown.j0 k t158)) else (armisticelaw04_OperationKnown.j0 k false)))) = some r := by rw [if_pos rfl] at H; exact H
      clear H
      have H := H1
      clear H1
      replace H := Option.bind_eq_some_iff.mp H
      obtain ⟨⟨t152, t153, t154, t155, t156⟩, A40, H⟩ := H
      replace H : ((armisticelaw04_tells.f t152 t153 t154 t155 t156 (⟨#[114, 101, 97, 100, 32, 45, 62, 32, 45, 51]⟩ : ByteArray)).bind fun t157 => (if t157 = true then ((armisticelaw04_tells.f 1 5 0 0 0 (⟨#[97, 100, 100, 32, 53, 32, 45, 62, 32, 111, 107]⟩ : ByteArray)).bind fun t158 => (armisticelaw04_OperationKnown.j0 k t158)) else (armisticelaw04_OperationKnown.j0 k false))) = some r := H
      have A4 := Aside0.mk A40
      clear A40
      replace H := Option.bind_eq_some_iff.mp H
      obtain ⟨t157, A50, H⟩ := H
      replace H : (if t157 = true then ((armisticelaw04_tells.f 1 5 0 0 0 (⟨#[97, 100, 100, 32, 53, 32, 45, 62, 32, 111, 107]⟩ : ByteArray)).bind fun t158 => (armisticelaw04_OperationKnown.j0 k t158)) else (armisticelaw04_OperationKnown.j0 k false)) = some r := H
      have A5 := Aside0.mk A50
      clear A50
      by_cases c6 : t157 = true
      · subst c6
        have H1 : ((armisticelaw04_tells.f 1 5 0 0 0 (⟨#[97, 100, 100, 32, 53, 32, 45, 62, 32, 111, 107]⟩ : ByteArray)).bind fun t158 => (armisticelaw04_OperationKnown.j0 k t158)) = some r := by rw [if_pos rfl] at H; exact H
        clear H
        have H := H1
        clear H1
        replace H := Option.bind_eq_some_iff.mp H
        obtain ⟨t158, A70, H⟩ := H
        replace H : (armisticelaw04_OperationKnown.j0 k t158) = some r := H
        have A7 := Aside0.mk A70
        clear A70
        have H' := Aside0.mk H
        clear H
        go_wp2_with (first | ((with_reducible refine gate_callee (f := 9) rfl ?_); refine goesL_ (some 6) rfl rfl Tryz.func9 (by kernel_rfl) rfl #[.agg #[.int .i64 7, .int .i64 1, .int .i64 10, .int .i64 1, .int .i64 0], .string (⟨#[112, 117, 116, 32, 49, 32, 49, 48, 32, 45, 62, 32, 110, 111, 110, 101]⟩ : ByteArray)] rfl (by (try simp only [List.map_toArray, List.map_cons, List.map_nil]); first | done | rfl | (simp only [List.length_drop, List.length_take]; rfl)) ?_; (with_reducible refine (armisticelaw04_tells.calls 7 1 10 1 0 (⟨#[112, 117, 116, 32, 49, 32, 49, 48, 32, 45, 62, 32, 110, 111, 110, 101]⟩ : ByteArray) true _ A2.out).mono ?_); rintro e w8 ⟨rfl, hb⟩; refine ⟨_, rfl, ?_⟩; have n0_ := Aside0.mk (below_step (by repeat (first | (with_reducible first | exact HB.out | apply below_alloc | apply pw_below_drewN | apply below_drew1) | exact HB.out)) hb); clear HB; have HB := n0_; clear n0_; (try clear hb); (try clear hb2); (try clear hk); (try clear hi)) | (go_at_call 10; (with_reducible refine (armisticelaw04_of.calls 2 0 0 (-3) t152 t153 t154 t155 t156 _ A4.out).mono ?_); rintro e w9 ⟨rfl, hb⟩; have n0_ := Aside0.mk (below_step (by repeat (first | (with_reducible first | exact HB.out | apply below_alloc | apply pw_below_drewN | apply below_drew1) | exact HB.out)) hb); clear HB; have HB := n0_; clear n0_; (try clear hb); (try clear hb2); (try clear hk); (try clear hi)) | (go_at_call 9; (with_reducible refine (armisticelaw04_tells.calls t152 t153 t154 t155 t156 (⟨#[114, 101, 97, 100, 32, 45, 62, 32, 45, 51]⟩ : ByteArray) true _ A5.out).mono ?_); rintro e w10 ⟨rfl, hb⟩; have n0_ := Aside0.mk (below_step (by repeat (first | (with_reducible first | exact HB.out | apply below_alloc | apply pw_below_drewN | apply below_drew1) | exact HB.out)) hb); clear HB; have HB := n0_; clear n0_; (try clear hb); (try clear hb2); (try clear hk); (try clear hi)) | (go_at_call 9; (with_reducible refine (armisticelaw04_tells.calls 1 5 0 0 0 (⟨#[97, 100, 100, 32, 53, 32, 45, 62, 32, 111, 107]⟩ : ByteArray) t158 _ A7.out).mono ?_); rintro e w11 ⟨rfl, hb⟩; have n0_ := Aside0.mk (below_step (by repeat (first | (with_reducible first | exact HB.out | apply below_alloc | apply pw_below_drewN | apply below_drew1) | exact HB.out)) hb); clear HB; have HB := n0_; clear n0_; (try clear hb); (try clear hb2); (try clear hk); (try clear hi)))
        go_meet
        case rel => exact ⟨_, (t158), (by first | rfl | (simp; done) | (simp [*]; done)), H', ⟨by first | omega | exact Nat.le_refl _⟩, ⟨by repeat (first | (with_reducible first | exact HB.out | apply below_alloc | apply pw_below_drewN | apply below_drew1) | exact HB.out)⟩⟩
      · replace c6 := Bool.eq_false_iff.mpr c6
        subst c6
        have H1 : (armisticelaw04_OperationKnown.j0 k false) = some r := by rw [if_neg (show ¬ (false = true) by decide)] at H; exact H
        exact absurd ((armisticelaw04_OperationKnown.j0_false H1).symm.trans HRT.out) (by decide)
    · replace c3 := Bool.eq_false_iff.mpr c3
      subst c3
      have H1 : (armisticelaw04_OperationKnown.j0 k false) = some r := by rw [if_neg (show ¬ (false = true) by decide)] at H; exact H
      exact absurd ((armisticelaw04_OperationKnown.j0_false H1).symm.trans HRT.out) (by decide)
  case rest =>
    clear HC1
    try clear p2
    try clear c3
    try clear c4
    try clear c6
    try clear c9
    obtain ⟨kq, x1_0, rfl, HA, HJ0, HB⟩ := hcut
    cases kq with
    | zero => exact absurd HA.out (by simp [armisticelaw04_OperationKnown.j0])
    | succ kj0 =>
      have H := HA.out
      clear HA
      simp only [armisticelaw04_OperationKnown.j0] at H
      have HC16 := Aside0.mk H
      clear H
      go_upto_region 2 with (fail)
      go_cut [2] (fun v2 wc => ∃ (kq : Nat) (x2_15 : Bool), v2 = .bool x2_15 ∧ Aside0 (armisticelaw04_OperationKnown.j1 kq x1_0 x2_15 = some r) ∧ Aside0 (kq ≤ kj0) ∧ Aside0 (Below w.heap.size w wc))
      case first =>
        have H := HC16.out
        clear HC16
        replace H := Option.bind_eq_some_iff.mp H
        obtain ⟨⟨t159, t160, t161, t162, t163⟩, A170, H⟩ := H
        replace H : ((operation_Check.f t159 t160 t161 t162 t163).bind fun t164 => (if t164 = 9 then ((armisticelaw04_of.f 6 1 0 3).bind fun bt165 => ((operation_Check.f bt165.1 bt165.2.1 bt165.2.2.1 bt165.2.2.2.1 bt165.2.2.2.2).bind fun t170 => (if t170 = 2 then ((armisticelaw04_of.f 13 (-1) 0 1).bind fun bt171 => ((operation_Check.f bt171.1 bt171.2.1 bt171.2.2.1 bt171.2.2.2.1 bt171.2.2.2.2).bind fun t176 => (if t176 = 2 then ((armisticelaw04_of.f 16 0 0 0).bind fun bt177 => ((operation_Check.f bt177.1 bt177.2.1 bt177.2.2.1 bt177.2.2.2.1 bt177.2.2.2.2).bind fun t182 => (armisticelaw04_OperationKnown.j1 kj0 x1_0 (t182 == 6)))) else (armisticelaw04_OperationKnown.j1 kj0 x1_0 false)))) else (armisticelaw04_OperationKnown.j1 kj0 x1_0 false)))) else (armisticelaw04_OperationKnown.j1 kj0 x1_0 false))) = some r := H
        have A17 := Aside0.mk A170
        clear A170
        replace H := Option.bind_eq_some_iff.mp H
        obtain ⟨t164, A180, H⟩ := H
        replace H : (if t164 = 9 then ((armisticelaw04_of.f 6 1 0 3).bind fun bt165 => ((operation_Check.f bt165.1 bt165.2.1 bt165.2.2.1 bt165.2.2.2.1 bt165.2.2.2.2).bind fun t170 => (if t170 = 2 then ((armisticelaw04_of.f 13 (-1) 0 1).bind fun bt171 => ((operation_Check.f bt171.1 bt171.2.1 bt171.2.2.1 bt171.2.2.2.1 bt171.2.2.2.2).bind fun t176 => (if t176 = 2 then ((armisticelaw04_of.f 16 0 0 0).bind fun bt177 => ((operation_Check.f bt177.1 bt177.2.1 bt177.2.2.1 bt177.2.2.2.1 bt177.2.2.2.2).bind fun t182 => (armisticelaw04_OperationKnown.j1 kj0 x1_0 (t182 == 6)))) else (armisticelaw04_OperationKnown.j1 kj0 x1_0 false)))) else (armisticelaw04_OperationKnown.j1 kj0 x1_0 false)))) else (armisticelaw04_OperationKnown.j1 kj0 x1_0 false)) = some r := H
        have A18 := Aside0.mk A180
        clear A180
        by_cases c19 : t164 = 9
        · rw [if_pos c19] at H
          have c19b0 : (t164 == 9) = true := beq_iff_eq.mpr c19
          have c19b1 : (t164 != 9) = false := bne_eq_false_iff_eq.mpr c19
          clear c19
          (first | rw [c19b0] | (simp only [i64_w, i32_w]; rw [c19b0]) | skip)
          replace H := Option.bind_eq_some_iff.mp H
          obtain ⟨⟨t165, t166, t167, t168, t169⟩, A200, H⟩ := H
          replace H : ((operation_Check.f t165 t166 t167 t168 t169).bind fun t170 => (if t170 = 2 then ((armisticelaw04_of.f 13 (-1) 0 1).bind fun bt171 => ((operation_Check.f bt171.1 bt171.2.1 bt171.2.2.1 bt171.2.2.2.1 bt171.2.2.2.2).bind fun t176 => (if t176 = 2 then ((armisticelaw04_of.f 16 0 0 0).bind fun bt177 => ((operation_Check.f bt177.1 bt177.2.1 bt177.2.2.1 bt177.2.2.2.1 bt177.2.2.2.2).bind fun t182 => (armisticelaw04_OperationKnown.j1 kj0 x1_0 (t182 == 6)))) else (armisticelaw04_OperationKnown.j1 kj0 x1_0 false)))) else (armisticelaw04_OperationKnown.j1 kj0 x1_0 false))) = some r := H
          have A20 := Aside0.mk A200
          clear A200
          replace H := Option.bind_eq_some_iff.mp H
          obtain ⟨t170, A210, H⟩ := H
          replace H : (if t170 = 2 then ((armisticelaw04_of.f 13 (-1) 0 1).bind fun bt171 => ((operation_Check.f bt171.1 bt171.2.1 bt171.2.2.1 bt171.2.2.2.1 bt171.2.2.2.2).bind fun t176 => (if t176 = 2 then ((armisticelaw04_of.f 16 0 0 0).bind fun bt177 => ((operation_Check.f bt177.1 bt177.2.1 bt177.2.2.1 bt177.2.2.2.1 bt177.2.2.2.2).bind fun t182 => (armisticelaw04_OperationKnown.j1 kj0 x1_0 (t182 == 6)))) else (armisticelaw04_OperationKnown.j1 kj0 x1_0 false)))) else (armisticelaw04_OperationKnown.j1 kj0 x1_0 false)) = some r := H
          have A21 := Aside0.mk A210
          clear A210
          by_cases c22 : t170 = 2
          · rw [if_pos c22] at H
            have c22b0 : (t170 == 2) = true := beq_iff_eq.mpr c22
            have c22b1 : (t170 != 2) = false := bne_eq_false_iff_eq.mpr c22
            clear c22
            replace H := Option.bind_eq_some_iff.mp H
            obtain ⟨⟨t171, t172, t173, t174, t175⟩, A230, H⟩ := H
            replace H : ((operation_Check.f t171 t172 t173 t174 t175).bind fun t176 => (if t176 = 2 then ((armisticelaw04_of.f 16 0 0 0).bind fun bt177 => ((operation_Check.f bt177.1 bt177.2.1 bt177.2.2.1 bt177.2.2.2.1 bt177.2.2.2.2).bind fun t182 => (armisticelaw04_OperationKnown.j1 kj0 x1_0 (t182 == 6)))) else (armisticelaw04_OperationKnown.j1 kj0 x1_0 false))) = some r := H
            have A23 := Aside0.mk A230
            clear A230
            replace H := Option.bind_eq_some_iff.mp H
            obtain ⟨t176, A240, H⟩ := H
            replace H : (if t176 = 2 then ((armisticelaw04_of.f 16 0 0 0).bind fun bt177 => ((operation_Check.f bt177.1 bt177.2.1 bt177.2.2.1 bt177.2.2.2.1 bt177.2.2.2.2).bind fun t182 => (armisticelaw04_OperationKnown.j1 kj0 x1_0 (t182 == 6)))) else (armisticelaw04_OperationKnown.j1 kj0 x1_0 false)) = some r := H
            have A24 := Aside0.mk A240
            clear A240
            by_cases c25 : t176 = 2
            · rw [if_pos c25] at H
              have c25b0 : (t176 == 2) = true := beq_iff_eq.mpr c25
              have c25b1 : (t176 != 2) = false := bne_eq_false_iff_eq.mpr c25
              clear c25
              replace H := Option.bind_eq_some_iff.mp H
              obtain ⟨⟨t177, t178, t179, t180, t181⟩, A260, H⟩ := H
              replace H : ((operation_Check.f t177 t178 t179 t180 t181).bind fun t182 => (armisticelaw04_OperationKnown.j1 kj0 x1_0 (t182 == 6))) = some r := H
              have A26 := Aside0.mk A260
              clear A260
              replace H := Option.bind_eq_some_iff.mp H
              obtain ⟨t182, A270, H⟩ := H
              replace H : (armisticelaw04_OperationKnown.j1 kj0 x1_0 (t182 == 6)) = some r := H
              have A27 := Aside0.mk A270
              clear A270
              have H' := Aside0.mk H
              clear H
              go_wp2_with (first | ((with_reducible refine gate_callee (f := 10) rfl ?_); refine goesL_ (some 15) rfl rfl Tryz.func10 (by kernel_rfl) rfl #[.int .i64 1, .int .i64 5, .int .i64 0, .int .i64 1] rfl (by (try simp only [List.map_toArray, List.map_cons, List.map_nil]); first | done | rfl | (simp only [List.length_drop, List.length_take]; rfl)) ?_; (with_reducible refine (armisticelaw04_of.calls 1 5 0 1 t159 t160 t161 t162 t163 _ A17.out).mono ?_); rintro e w28 ⟨rfl, hb⟩; refine ⟨_, rfl, ?_⟩; have n0_ := Aside0.mk (below_step (by repeat (first | (with_reducible first | exact HB.out | apply below_alloc | apply pw_below_drewN | apply below_drew1) | exact HB.out)) hb); clear HB; have HB := n0_; clear n0_; (try clear hb); (try clear hb2); (try clear hk); (try clear hi)) | ((with_reducible refine gate_callee (f := 6) rfl ?_); refine goesL_ (some 16) rfl rfl Tryz.func6 (by kernel_rfl) rfl #[.agg #[.int .i64 t159, .int .i64 t160, .int .i64 t161, .int .i64 t162, .int .i64 t163]] rfl (by (try simp only [List.map_toArray, List.map_cons, List.map_nil]); first | done | rfl | (simp only [List.length_drop, List.length_take]; rfl)) ?_; (with_reducible refine (operation_Check.calls t159 t160 t161 t162 t163 t164 _ A18.out).mono ?_); rintro e w29 ⟨rfl, hb⟩; refine ⟨_, rfl, ?_⟩; have n0_ := Aside0.mk (below_step (by repeat (first | (with_reducible first | exact HB.out | apply below_alloc | apply pw_below_drewN | apply below_drew1) | exact HB.out)) hb); clear HB; have HB := n0_; clear n0_; (try clear hb); (try clear hb2); (try clear hk); (try clear hi)) | (go_at_call 10; (with_reducible refine (armisticelaw04_of.calls 6 1 0 3 t165 t166 t167 t168 t169 _ A20.out).mono ?_); rintro e w30 ⟨rfl, hb⟩; have n0_ := Aside0.mk (below_step (by repeat (first | (with_reducible first | exact HB.out | apply below_alloc | apply pw_below_drewN | apply below_drew1) | exact HB.out)) hb); clear HB; have HB := n0_; clear n0_; (try clear hb); (try clear hb2); (try clear hk); (try clear hi)) | (go_at_call 6; (with_reducible refine (operation_Check.calls t165 t166 t167 t168 t169 t170 _ A21.out).mono ?_); rintro e w31 ⟨rfl, hb⟩; have n0_ := Aside0.mk (below_step (by repeat (first | (with_reducible first | exact HB.out | apply below_alloc | apply pw_below_drewN | apply below_drew1) | exact HB.out)) hb); clear HB; have HB := n0_; clear n0_; (try clear hb); (try clear hb2); (try clear hk); (try clear hi)) | (go_at_call 10; (with_reducible refine (armisticelaw04_of.calls 13 (-1) 0 1 t171 t172 t173 t174 t175 _ A23.out).mono ?_); rintro e w32 ⟨rfl, hb⟩; have n0_ := Aside0.mk (below_step (by repeat (first | (with_reducible first | exact HB.out | apply below_alloc | apply pw_below_drewN | apply below_drew1) | exact HB.out)) hb); clear HB; have HB := n0_; clear n0_; (try clear hb); (try clear hb2); (try clear hk); (try clear hi)) | (go_at_call 6; (with_reducible refine (operation_Check.calls t171 t172 t173 t174 t175 t176 _ A24.out).mono ?_); rintro e w33 ⟨rfl, hb⟩; have n0_ := Aside0.mk (below_step (by repeat (first | (with_reducible first | exact HB.out | apply below_alloc | apply pw_below_drewN | apply below_drew1) | exact HB.out)) hb); clear HB; have HB := n0_; clear n0_; (try clear hb); (try clear hb2); (try clear hk); (try clear hi)) | (go_at_call 10; (with_reducible refine (armisticelaw04_of.calls 16 0 0 0 t177 t178 t179 t180 t181 _ A26.out).mono ?_); rintro e w34 ⟨rfl, hb⟩; have n0_ := Aside0.mk (below_step (by repeat (first | (with_reducible first | exact HB.out | apply below_alloc | apply pw_below_drewN | apply below_drew1) | exact HB.out)) hb); clear HB; have HB := n0_; clear n0_; (try clear hb); (try clear hb2); (try clear hk); (try clear hi)) | (go_at_call 6; (with_reducible refine (operation_Check.calls t177 t178 t179 t180 t181 t182 _ A27.out).mono ?_); rintro e w35 ⟨rfl, hb⟩; have n0_ := Aside0.mk (below_step (by repeat (first | (with_reducible first | exact HB.out | apply below_alloc | apply pw_below_drewN | apply below_drew1) | exact HB.out)) hb); clear HB; have HB := n0_; clear n0_; (try clear hb); (try clear hb2); (try clear hk); (try clear hi)))
              go_meet
              case rel => exact ⟨_, ((t182 == 6)), (by first | rfl | (simp; done) | (simp [*]; done)), H', ⟨by have := HJ0.out; first | omega | exact Nat.le_refl _⟩, ⟨by repeat (first | (with_reducible first | exact HB.out | apply below_alloc | apply pw_below_drewN | apply below_drew1) | exact HB.out)⟩⟩
            · rw [if_neg c25] at H
              exact absurd ((armisticelaw04_OperationKnown.j1_false H).symm.trans HRT.out) (by decide)
          · rw [if_neg c22] at H
            exact absurd ((armisticelaw04_OperationKnown.j1_false H).symm.trans HRT.out) (by decide)
        · rw [if_neg c19] at H
          exact absurd ((armisticelaw04_OperationKnown.j1_false H).symm.trans HRT.out) (by decide)
      case rest =>
        clear HC16
        try clear c1
        try clear c2
        try clear p2
        try clear c3
        try clear c4
        try clear c6
        try clear c9
        try clear c10
        try clear c19
        try clear c19b0
        try clear c19b1
        try clear c22
        try clear c22b0
        try clear c22b1
        try clear c25
        try clear c25b0
        try clear c25b1
        try clear p2
        obtain ⟨kq, x2_15, rfl, HA, HJ15, HB⟩ := hcut
        cases kq with
        | zero => exact absurd HA.out (by simp [armisticelaw04_OperationKnown.j1])
        | succ kj15 =>
          have H := HA.out
          clear HA
          simp only [armisticelaw04_OperationKnown.j1] at H
          have HC48 := Aside0.mk H
          clear H
          go_upto_region 3 with (fail)
          go_cut [3] (fun v3 wc => ∃ (kq : Nat) (x3_47 : Bool), v3 = .bool x3_47 ∧ Aside0 (armisticelaw04_OperationKnown.j2 kq x1_0 x2_15 x3_47 = some r) ∧ Aside0 (kq ≤ kj15) ∧ Aside0 (Below w.heap.size w wc))
          case first =>
            have H := HC48.out
            clear HC48
            replace H := Option.bind_eq_some_iff.mp H
            obtain ⟨t183, A490, H⟩ := H
            replace H : (if t183 = true then ((armisticelaw04_fails.f 0 6 (([(⟨#[105, 110, 115]⟩ : ByteArray), (⟨#[53]⟩ : ByteArray)] : List ByteArray))).bind fun t187 => (if t187 = true then ((armisticelaw04_fails.f 2 5 (([(⟨#[105, 110, 115, 101, 114, 116]⟩ : ByteArray), (⟨#[53]⟩ : ByteArray), (⟨#[45]⟩ : ByteArray), (⟨#[49]⟩ : ByteArray)] : List ByteArray))).bind fun t191 => (if t191 = true then ((armisticelaw04_fails.f 2 5 (([(⟨#[105, 110, 115, 101, 114, 116]⟩ : ByteArray), (⟨#[53]⟩ : ByteArray)] : List ByteArray))).bind fun t195 => (if t195 = true then ((armisticelaw04_fails.f 4 5 (([(⟨#[105, 110, 115, 101, 114, 116]⟩ : ByteArray), (⟨#[53]⟩ : ByteArray), (⟨#[45, 62]⟩ : ByteArray), (⟨#[49]⟩ : ByteArray), (⟨#[50]⟩ : ByteArray)] : List ByteArray))).bind fun t199 => (armisticelaw04_OperationKnown.j2 kj15 x1_0 x2_15 t199)) else (armisticelaw04_OperationKnown.j2 kj15 x1_0 x2_15 false))) else (armisticelaw04_OperationKnown.j2 kj15 x1_0 x2_15 false))) else (armisticelaw04_OperationKnown.j2 kj15 x1_0 x2_15 false))) else (armisticelaw04_OperationKnown.j2 kj15 x1_0 x2_15 false)) = some r := H
            have A49 := Aside0.mk A490
            clear A490
            by_cases c50 : t183 = true
            · subst c50
              have H1 : ((armisticelaw04_fails.f 0 6 (([(⟨#[105, 110, 115]⟩ : ByteArray), (⟨#[53]⟩ : ByteArray)] : List ByteArray))).bind fun t187 => (if t187 = true then ((armisticelaw04_fails.f 2 5 (([(⟨#[105, 110, 115, 101, 114, 116]⟩ : ByteArray), (⟨#[53]⟩ : ByteArray), (⟨#[45]⟩ : ByteArray), (⟨#[49]⟩ : ByteArray)] : List ByteArray))).bind fun t191 => (if t191 = true then ((armisticelaw04_fails.f 2 5 (([(⟨#[105, 110, 115, 101, 114, 116]⟩ : ByteArray), (⟨#[53]⟩ : ByteArray)] : List ByteArray))).bind fun t195 => (if t195 = true then ((armisticelaw04_fails.f 4 5 (([(⟨#[105, 110, 115, 101, 114, 116]⟩ : ByteArray), (⟨#[53]⟩ : ByteArray), (⟨#[45, 62]⟩ : ByteArray), (⟨#[49]⟩ : ByteArray), (⟨#[50]⟩ : ByteArray)] : List ByteArray))).bind fun t199 => (armisticelaw04_OperationKnown.j2 kj15 x1_0 x2_15 t199)) else (armisticelaw04_OperationKnown.j2 kj15 x1_0 x2_15 false))) else (armisticelaw04_OperationKnown.j2 kj15 x1_0 x2_15 false))) else (armisticelaw04_OperationKnown.j2 kj15 x1_0 x2_15 false))) = some r := by rw [if_pos rfl] at H; exact H
              clear H
              have H := H1
              clear H1
              obtain ⟨y184, hy184⟩ : ∃ y_ : List ByteArray, y_ = (([(⟨#[105, 110, 115]⟩ : ByteArray), (⟨#[53]⟩ : ByteArray)] : List ByteArray)) := ⟨_, rfl⟩
              replace H : ((armisticelaw04_fails.f 0 6 y184).bind fun t187 => (if t187 = true then ((armisticelaw04_fails.f 2 5 (([(⟨#[105, 110, 115, 101, 114, 116]⟩ : ByteArray), (⟨#[53]⟩ : ByteArray), (⟨#[45]⟩ : ByteArray), (⟨#[49]⟩ : ByteArray)] : List ByteArray))).bind fun t191 => (if t191 = true then ((armisticelaw04_fails.f 2 5 (([(⟨#[105, 110, 115, 101, 114, 116]⟩ : ByteArray), (⟨#[53]⟩ : ByteArray)] : List ByteArray))).bind fun t195 => (if t195 = true then ((armisticelaw04_fails.f 4 5 (([(⟨#[105, 110, 115, 101, 114, 116]⟩ : ByteArray), (⟨#[53]⟩ : ByteArray), (⟨#[45, 62]⟩ : ByteArray), (⟨#[49]⟩ : ByteArray), (⟨#[50]⟩ : ByteArray)] : List ByteArray))).bind fun t199 => (armisticelaw04_OperationKnown.j2 kj15 x1_0 x2_15 t199)) else (armisticelaw04_OperationKnown.j2 kj15 x1_0 x2_15 false))) else (armisticelaw04_OperationKnown.j2 kj15 x1_0 x2_15 false))) else (armisticelaw04_OperationKnown.j2 kj15 x1_0 x2_15 false))) = some r := by first | (rw [hy184]; with_reducible exact H) | (have H2_ := (Option.bind_some _ _).symm.trans H; rw [hy184]; with_reducible exact H2_) | (have H2_ := (Option.bind_some _ _).symm.trans H; with_reducible exact H2_) | with_reducible exact H | (rw [hy184]; exact H) | exact H
              have Ny184 := Aside0.mk hy184
              clear hy184
              replace H := Option.bind_eq_some_iff.mp H
              obtain ⟨t187, A510, H⟩ := H
              replace H : (if t187 = true then ((armisticelaw04_fails.f 2 5 (([(⟨#[105, 110, 115, 101, 114, 116]⟩ : ByteArray), (⟨#[53]⟩ : ByteArray), (⟨#[45]⟩ : ByteArray), (⟨#[49]⟩ : ByteArray)] : List ByteArray))).bind fun t191 => (if t191 = true then ((armisticelaw04_fails.f 2 5 (([(⟨#[105, 110, 115, 101, 114, 116]⟩ : ByteArray), (⟨#[53]⟩ : ByteArray)] : List ByteArray))).bind fun t195 => (if t195 = true then ((armisticelaw04_fails.f 4 5 (([(⟨#[105, 110, 115, 101, 114, 116]⟩ : ByteArray), (⟨#[53]⟩ : ByteArray), (⟨#[45, 62]⟩ : ByteArray), (⟨#[49]⟩ : ByteArray), (⟨#[50]⟩ : ByteArray)] : List ByteArray))).bind fun t199 => (armisticelaw04_OperationKnown.j2 kj15 x1_0 x2_15 t199)) else (armisticelaw04_OperationKnown.j2 kj15 x1_0 x2_15 false))) else (armisticelaw04_OperationKnown.j2 kj15 x1_0 x2_15 false))) else (armisticelaw04_OperationKnown.j2 kj15 x1_0 x2_15 false)) = some r := H
              have A51 := Aside0.mk A510
              clear A510
              by_cases c52 : t187 = true
              · subst c52
                have H1 : ((armisticelaw04_fails.f 2 5 (([(⟨#[105, 110, 115, 101, 114, 116]⟩ : ByteArray), (⟨#[53]⟩ : ByteArray), (⟨#[45]⟩ : ByteArray), (⟨#[49]⟩ : ByteArray)] : List ByteArray))).bind fun t191 => (if t191 = true then ((armisticelaw04_fails.f 2 5 (([(⟨#[105, 110, 115, 101, 114, 116]⟩ : ByteArray), (⟨#[53]⟩ : ByteArray)] : List ByteArray))).bind fun t195 => (if t195 = true then ((armisticelaw04_fails.f 4 5 (([(⟨#[105, 110, 115, 101, 114, 116]⟩ : ByteArray), (⟨#[53]⟩ : ByteArray), (⟨#[45, 62]⟩ : ByteArray), (⟨#[49]⟩ : ByteArray), (⟨#[50]⟩ : ByteArray)] : List ByteArray))).bind fun t199 => (armisticelaw04_OperationKnown.j2 kj15 x1_0 x2_15 t199)) else (armisticelaw04_OperationKnown.j2 kj15 x1_0 x2_15 false))) else (armisticelaw04_OperationKnown.j2 kj15 x1_0 x2_15 false))) = some r := by rw [if_pos rfl] at H; exact H
                clear H
                have H := H1
                clear H1
                obtain ⟨y188, hy188⟩ : ∃ y_ : List ByteArray, y_ = (([(⟨#[105, 110, 115, 101, 114, 116]⟩ : ByteArray), (⟨#[53]⟩ : ByteArray), (⟨#[45]⟩ : ByteArray), (⟨#[49]⟩ : ByteArray)] : List ByteArray)) := ⟨_, rfl⟩
                replace H : ((armisticelaw04_fails.f 2 5 y188).bind fun t191 => (if t191 = true then ((armisticelaw04_fails.f 2 5 (([(⟨#[105, 110, 115, 101, 114, 116]⟩ : ByteArray), (⟨#[53]⟩ : ByteArray)] : List ByteArray))).bind fun t195 => (if t195 = true then ((armisticelaw04_fails.f 4 5 (([(⟨#[105, 110, 115, 101, 114, 116]⟩ : ByteArray), (⟨#[53]⟩ : ByteArray), (⟨#[45, 62]⟩ : ByteArray), (⟨#[49]⟩ : ByteArray), (⟨#[50]⟩ : ByteArray)] : List ByteArray))).bind fun t199 => (armisticelaw04_OperationKnown.j2 kj15 x1_0 x2_15 t199)) else (armisticelaw04_OperationKnown.j2 kj15 x1_0 x2_15 false))) else (armisticelaw04_OperationKnown.j2 kj15 x1_0 x2_15 false))) = some r := by first | (rw [hy188]; with_reducible exact H) | (have H2_ := (Option.bind_some _ _).symm.trans H; rw [hy188]; with_reducible exact H2_) | (have H2_ := (Option.bind_some _ _).symm.trans H; with_reducible exact H2_) | with_reducible exact H | (rw [hy188]; exact H) | exact H
                have Ny188 := Aside0.mk hy188
                clear hy188
                replace H := Option.bind_eq_some_iff.mp H
                obtain ⟨t191, A530, H⟩ := H
                replace H : (if t191 = true then ((armisticelaw04_fails.f 2 5 (([(⟨#[105, 110, 115, 101, 114, 116]⟩ : ByteArray), (⟨#[53]⟩ : ByteArray)] : List ByteArray))).bind fun t195 => (if t195 = true then ((armisticelaw04_fails.f 4 5 (([(⟨#[105, 110, 115, 101, 114, 116]⟩ : ByteArray), (⟨#[53]⟩ : ByteArray), (⟨#[45, 62]⟩ : ByteArray), (⟨#[49]⟩ : ByteArray), (⟨#[50]⟩ : ByteArray)] : List ByteArray))).bind fun t199 => (armisticelaw04_OperationKnown.j2 kj15 x1_0 x2_15 t199)) else (armisticelaw04_OperationKnown.j2 kj15 x1_0 x2_15 false))) else (armisticelaw04_OperationKnown.j2 kj15 x1_0 x2_15 false)) = some r := H
                have A53 := Aside0.mk A530
                clear A530
                by_cases c54 : t191 = true
                · subst c54
                  have H1 : ((armisticelaw04_fails.f 2 5 (([(⟨#[105, 110, 115, 101, 114, 116]⟩ : ByteArray), (⟨#[53]⟩ : ByteArray)] : List ByteArray))).bind fun t195 => (if t195 = true then ((armisticelaw04_fails.f 4 5 (([(⟨#[105, 110, 115, 101, 114, 116]⟩ : ByteArray), (⟨#[53]⟩ : ByteArray), (⟨#[45, 62]⟩ : ByteArray), (⟨#[49]⟩ : ByteArray), (⟨#[50]⟩ : ByteArray)] : List ByteArray))).bind fun t199 => (armisticelaw04_OperationKnown.j2 kj15 x1_0 x2_15 t199)) else (armisticelaw04_OperationKnown.j2 kj15 x1_0 x2_15 false))) = some r := by rw [if_pos rfl] at H; exact H
                  clear H
                  have H := H1
                  clear H1
                  obtain ⟨y192, hy192⟩ : ∃ y_ : List ByteArray, y_ = (([(⟨#[105, 110, 115, 101, 114, 116]⟩ : ByteArray), (⟨#[53]⟩ : ByteArray)] : List ByteArray)) := ⟨_, rfl⟩
                  replace H : ((armisticelaw04_fails.f 2 5 y192).bind fun t195 => (if t195 = true then ((armisticelaw04_fails.f 4 5 (([(⟨#[105, 110, 115, 101, 114, 116]⟩ : ByteArray), (⟨#[53]⟩ : ByteArray), (⟨#[45, 62]⟩ : ByteArray), (⟨#[49]⟩ : ByteArray), (⟨#[50]⟩ : ByteArray)] : List ByteArray))).bind fun t199 => (armisticelaw04_OperationKnown.j2 kj15 x1_0 x2_15 t199)) else (armisticelaw04_OperationKnown.j2 kj15 x1_0 x2_15 false))) = some r := by first | (rw [hy192]; with_reducible exact H) | (have H2_ := (Option.bind_some _ _).symm.trans H; rw [hy192]; with_reducible exact H2_) | (have H2_ := (Option.bind_some _ _).symm.trans H; with_reducible exact H2_) | with_reducible exact H | (rw [hy192]; exact H) | exact H
                  have Ny192 := Aside0.mk hy192
                  clear hy192
                  replace H := Option.bind_eq_some_iff.mp H
                  obtain ⟨t195, A550, H⟩ := H
                  replace H : (if t195 = true then ((armisticelaw04_fails.f 4 5 (([(⟨#[105, 110, 115, 101, 114, 116]⟩ : ByteArray), (⟨#[53]⟩ : ByteArray), (⟨#[45, 62]⟩ : ByteArray), (⟨#[49]⟩ : ByteArray), (⟨#[50]⟩ : ByteArray)] : List ByteArray))).bind fun t199 => (armisticelaw04_OperationKnown.j2 kj15 x1_0 x2_15 t199)) else (armisticelaw04_OperationKnown.j2 kj15 x1_0 x2_15 false)) = some r := H
                  have A55 := Aside0.mk A550
                  clear A550
                  by_cases c56 : t195 = true
                  · subst c56
                    have H1 : ((armisticelaw04_fails.f 4 5 (([(⟨#[105, 110, 115, 101, 114, 116]⟩ : ByteArray), (⟨#[53]⟩ : ByteArray), (⟨#[45, 62]⟩ : ByteArray), (⟨#[49]⟩ : ByteArray), (⟨#[50]⟩ : ByteArray)] : List ByteArray))).bind fun t199 => (armisticelaw04_OperationKnown.j2 kj15 x1_0 x2_15 t199)) = some r := by rw [if_pos rfl] at H; exact H
                    clear H
                    have H := H1
                    clear H1
                    obtain ⟨y196, hy196⟩ : ∃ y_ : List ByteArray, y_ = (([(⟨#[105, 110, 115, 101, 114, 116]⟩ : ByteArray), (⟨#[53]⟩ : ByteArray), (⟨#[45, 62]⟩ : ByteArray), (⟨#[49]⟩ : ByteArray), (⟨#[50]⟩ : ByteArray)] : List ByteArray)) := ⟨_, rfl⟩
                    replace H : ((armisticelaw04_fails.f 4 5 y196).bind fun t199 => (armisticelaw04_OperationKnown.j2 kj15 x1_0 x2_15 t199)) = some r := by first | (rw [hy196]; with_reducible exact H) | (have H2_ := (Option.bind_some _ _).symm.trans H; rw [hy196]; with_reducible exact H2_) | (have H2_ := (Option.bind_some _ _).symm.trans H; with_reducible exact H2_) | with_reducible exact H | (rw [hy196]; exact H) | exact H
                    have Ny196 := Aside0.mk hy196
                    clear hy196
                    replace H := Option.bind_eq_some_iff.mp H
                    obtain ⟨t199, A570, H⟩ := H
                    replace H : (armisticelaw04_OperationKnown.j2 kj15 x1_0 x2_15 t199) = some r := H
                    have A57 := Aside0.mk A570
                    clear A570
                    have H' := Aside0.mk H
                    clear H
                    go_wp2_with (first | ((with_reducible refine gate_callee (f := 11) rfl ?_); refine goesL_ (some 33) rfl rfl Tryz.func11 (by kernel_rfl) rfl #[.int .i64 0, .int .i64 5, .slice none 0 0] rfl (by (try simp only [List.map_toArray, List.map_cons, List.map_nil]); first | done | rfl | (simp only [List.length_drop, List.length_take]; rfl)) ?_; (refine (armisticelaw04_fails.calls 0 5 _ _ ([] : List ByteArray) true _ ?side1 ?side2 ?side3 A49.out).mono ?_); (case side1 => exact Kd.C_nil _ _); (case side2 => exact Nat.le_refl _); (case side3 => exact GOk.below HG.out (by repeat (first | (with_reducible first | exact HB.out | apply below_alloc | apply pw_below_drewN | apply below_drew1) | exact HB.out))); rintro e w58 ⟨rfl, hb⟩; refine ⟨_, rfl, ?_⟩; have n0_ := Aside0.mk (below_step (by repeat (first | (with_reducible first | exact HB.out | apply below_alloc | apply pw_below_drewN | apply below_drew1) | exact HB.out)) hb); clear HB; have HB := n0_; clear n0_; (try clear hb); (try clear hb2); (try clear hk); (try clear hi)) | ((with_reducible refine gate_dst (N := 35) rfl ?_); (try (refine gate_guard (by rfl) ?_; dsimp only)); refine Kd.R_lit Kd.string _ 9 ?hg (N := 35) ?hd (xs := ([(⟨#[105, 110, 115]⟩ : ByteArray), (⟨#[53]⟩ : ByteArray)] : List ByteArray)) (inner := [.string (⟨#[105, 110, 115]⟩ : ByteArray), .string (⟨#[53]⟩ : ByteArray)]) (ok := fun _ => True) (okp := fun _ => True) ?hr ?hp (fun _ hk => hk) trivial (Below.refl _ _) (Nat.le_refl _) (by simp) ?_; (case hd => rfl); (case hg => rfl); (case hr => first | (go_simp; done) | (go_simp; rfl)); (case hp => exact (Reps.one (show Kd.M Kd.string _ _ _ (⟨#[105, 110, 115]⟩ : ByteArray) [.string (⟨#[105, 110, 115]⟩ : ByteArray)] from rfl) (Reps.one (show Kd.M Kd.string _ _ _ (⟨#[53]⟩ : ByteArray) [.string (⟨#[53]⟩ : ByteArray)] from rfl) (Reps.none _ _)))); intro v185 w59 ho60 hb hg_ hnew_; clear hg_ hnew_; (first | rw [← Ny184.out] at ho60 | (simp only [Int.reduceToNat] at ho60; rw [← Ny184.out] at ho60)); have n0_ := Aside0.mk (Kd.R_lower ho60 (below_size (by repeat (first | (with_reducible first | exact HB.out | apply below_alloc | apply pw_below_drewN | apply below_drew1) | exact HB.out)))); have n1_ := Aside0.mk (below_step (by repeat (first | (with_reducible first | exact HB.out | apply below_alloc | apply pw_below_drewN | apply below_drew1) | exact HB.out)) hb); clear HB; have HO186 := n0_; have HB := n1_; clear n0_ n1_; clear hb ho60; obtain ⟨Ao61, co61, eo61⟩ := Kd.R_slice HO186.out; subst eo61) | (go_at_call 11; (with_reducible refine (armisticelaw04_fails.calls 0 6 _ _ y184 true _ ?side1 ?side2 ?side3 A51.out).mono ?_); (case side1 => repeat (first | exact (Kd.R_reads' HO186.out).2.2 | (with_reducible refine Kd.C_alloc ?_ _) | (with_reducible refine Kd.C_drewN ?_ _) | (with_reducible refine Kd.C_drew ?_))); (case side2 => exact (Kd.R_reads' HO186.out).2.1); (case side3 => exact GOk.below HG.out (by repeat (first | (with_reducible first | exact HB.out | apply below_alloc | apply pw_below_drewN | apply below_drew1) | exact HB.out))); rintro e w62 ⟨rfl, hb⟩; have n0_ := Aside0.mk (Kd.R_below (by (with_reducible repeat (first | apply Kd.R_alloc | apply Kd.R_drewN | apply Kd.R_drew)); exact HO186.out) hb); have n1_ := Aside0.mk (below_step (by repeat (first | (with_reducible first | exact HB.out | apply below_alloc | apply pw_below_drewN | apply below_drew1) | exact HB.out)) hb); clear HO186; clear HB; have HO186 := n0_; have HB := n1_; clear n0_ n1_; (try clear hb); (try clear hb2); (try clear hk); (try clear hi)) | ((with_reducible refine gate_dst (N := 39) rfl ?_); (try (refine gate_guard (by rfl) ?_; dsimp only)); refine Kd.R_lit Kd.string _ 9 ?hg (N := 39) ?hd (xs := ([(⟨#[105, 110, 115, 101, 114, 116]⟩ : ByteArray), (⟨#[53]⟩ : ByteArray), (⟨#[45]⟩ : ByteArray), (⟨#[49]⟩ : ByteArray)] : List ByteArray)) (inner := [.string (⟨#[105, 110, 115, 101, 114, 116]⟩ : ByteArray), .string (⟨#[53]⟩ : ByteArray), .string (⟨#[45]⟩ : ByteArray), .string (⟨#[49]⟩ : ByteArray)]) (ok := fun _ => True) (okp := fun _ => True) ?hr ?hp (fun _ hk => hk) trivial (Below.refl _ _) (Nat.le_refl _) (by simp) ?_; (case hd => rfl); (case hg => rfl); (case hr => first | (go_simp; done) | (go_simp; rfl)); (case hp => exact (Reps.one (show Kd.M Kd.string _ _ _ (⟨#[105, 110, 115, 101, 114, 116]⟩ : ByteArray) [.string (⟨#[105, 110, 115, 101, 114, 116]⟩ : ByteArray)] from rfl) (Reps.one (show Kd.M Kd.string _ _ _ (⟨#[53]⟩ : ByteArray) [.string (⟨#[53]⟩ : ByteArray)] from rfl) (Reps.one (show Kd.M Kd.string _ _ _ (⟨#[45]⟩ : ByteArray) [.string (⟨#[45]⟩ : ByteArray)] from rfl) (Reps.one (show Kd.M Kd.string _ _ _ (⟨#[49]⟩ : ByteArray) [.string (⟨#[49]⟩ : ByteArray)] from rfl) (Reps.none _ _)))))); intro v189 w63 ho64 hb hg_ hnew_; clear hg_ hnew_; (first | rw [← Ny188.out] at ho64 | (simp only [Int.reduceToNat] at ho64; rw [← Ny188.out] at ho64)); have n0_ := Aside0.mk (Kd.R_elder' (by (with_reducible repeat (first | apply Kd.R_alloc | apply Kd.R_drewN | apply Kd.R_drew)); exact HO186.out) (Kd.R_base ho64) hb); have n1_ := Aside0.mk (Kd.R_lower (Kd.R_new' ho64 (Kd.R_lt (by (with_reducible repeat (first | apply Kd.R_alloc | apply Kd.R_drewN | apply Kd.R_drew)); exact HO186.out))) (below_size (by repeat (first | (with_reducible first | exact HB.out | apply below_alloc | apply pw_below_drewN | apply below_drew1) | exact HB.out)))); have n2_ := Aside0.mk (below_step (by repeat (first | (with_reducible first | exact HB.out | apply below_alloc | apply pw_below_drewN | apply below_drew1) | exact HB.out)) hb); clear HO186; clear HB; have HO186 := n0_; have HO190 := n1_; have HB := n2_; clear n0_ n1_ n2_; clear hb ho64; obtain ⟨Ao65, co65, eo65⟩ := Kd.R_slice HO190.out; subst eo65) | (go_at_call 11; (with_reducible refine (armisticelaw04_fails.calls 2 5 _ _ y188 true _ ?side1 ?side2 ?side3 A53.out).mono ?_); (case side1 => repeat (first | exact (Kd.R_reads' HO190.out).2.2 | (with_reducible refine Kd.C_alloc ?_ _) | (with_reducible refine Kd.C_drewN ?_ _) | (with_reducible refine Kd.C_drew ?_))); (case side2 => exact (Kd.R_reads' HO190.out).2.1); (case side3 => exact GOk.below HG.out (by repeat (first | (with_reducible first | exact HB.out | apply below_alloc | apply pw_below_drewN | apply below_drew1) | exact HB.out))); rintro e w66 ⟨rfl, hb⟩; have n0_ := Aside0.mk (Kd.R_below (by (with_reducible repeat (first | apply Kd.R_alloc | apply Kd.R_drewN | apply Kd.R_drew)); exact HO186.out) hb); have n1_ := Aside0.mk (Kd.R_below (by (with_reducible repeat (first | apply Kd.R_alloc | apply Kd.R_drewN | apply Kd.R_drew)); exact HO190.out) hb); have n2_ := Aside0.mk (below_step (by repeat (first | (with_reducible first | exact HB.out | apply below_alloc | apply pw_below_drewN | apply below_drew1) | exact HB.out)) hb); clear HO186; clear HO190; clear HB; have HO186 := n0_; have HO190 := n1_; have HB := n2_; clear n0_ n1_ n2_; (try clear hb); (try clear hb2); (try clear hk); (try clear hi)) | ((with_reducible refine gate_dst (N := 43) rfl ?_); (try (refine gate_guard (by rfl) ?_; dsimp only)); refine Kd.R_lit Kd.string _ 9 ?hg (N := 43) ?hd (xs := ([(⟨#[105, 110, 115, 101, 114, 116]⟩ : ByteArray), (⟨#[53]⟩ : ByteArray)] : List ByteArray)) (inner := [.string (⟨#[105, 110, 115, 101, 114, 116]⟩ : ByteArray), .string (⟨#[53]⟩ : ByteArray)]) (ok := fun _ => True) (okp := fun _ => True) ?hr ?hp (fun _ hk => hk) trivial (Below.refl _ _) (Nat.le_refl _) (by simp) ?_; (case hd => rfl); (case hg => rfl); (case hr => first | (go_simp; done) | (go_simp; rfl)); (case hp => exact (Reps.one (show Kd.M Kd.string _ _ _ (⟨#[105, 110, 115, 101, 114, 116]⟩ : ByteArray) [.string (⟨#[105, 110, 115, 101, 114, 116]⟩ : ByteArray)] from rfl) (Reps.one (show Kd.M Kd.string _ _ _ (⟨#[53]⟩ : ByteArray) [.string (⟨#[53]⟩ : ByteArray)] from rfl) (Reps.none _ _)))); intro v193 w67 ho68 hb hg_ hnew_; clear hg_ hnew_; (first | rw [← Ny192.out] at ho68 | (simp only [Int.reduceToNat] at ho68; rw [← Ny192.out] at ho68)); have n0_ := Aside0.mk (Kd.R_elder' (by (with_reducible repeat (first | apply Kd.R_alloc | apply Kd.R_drewN | apply Kd.R_drew)); exact HO186.out) (Kd.R_base ho68) hb); have n1_ := Aside0.mk (Kd.R_elder' (by (with_reducible repeat (first | apply Kd.R_alloc | apply Kd.R_drewN | apply Kd.R_drew)); exact HO190.out) (Kd.R_base ho68) hb); have n2_ := Aside0.mk (Kd.R_lower (Kd.R_new' (Kd.R_new' ho68 (Kd.R_lt (by (with_reducible repeat (first | apply Kd.R_alloc | apply Kd.R_drewN | apply Kd.R_drew)); exact HO186.out))) (Kd.R_lt (by (with_reducible repeat (first | apply Kd.R_alloc | apply Kd.R_drewN | apply Kd.R_drew)); exact HO190.out))) (below_size (by repeat (first | (with_reducible first | exact HB.out | apply below_alloc | apply pw_below_drewN | apply below_drew1) | exact HB.out)))); have n3_ := Aside0.mk (below_step (by repeat (first | (with_reducible first | exact HB.out | apply below_alloc | apply pw_below_drewN | apply below_drew1) | exact HB.out)) hb); clear HO186; clear HO190; clear HB; have HO186 := n0_; have HO190 := n1_; have HO194 := n2_; have HB := n3_; clear n0_ n1_ n2_ n3_; clear hb ho68; obtain ⟨Ao69, co69, eo69⟩ := Kd.R_slice HO194.out; subst eo69) | (go_at_call 11; (with_reducible refine (armisticelaw04_fails.calls 2 5 _ _ y192 true _ ?side1 ?side2 ?side3 A55.out).mono ?_); (case side1 => repeat (first | exact (Kd.R_reads' HO194.out).2.2 | (with_reducible refine Kd.C_alloc ?_ _) | (with_reducible refine Kd.C_drewN ?_ _) | (with_reducible refine Kd.C_drew ?_))); (case side2 => exact (Kd.R_reads' HO194.out).2.1); (case side3 => exact GOk.below HG.out (by repeat (first | (with_reducible first | exact HB.out | apply below_alloc | apply pw_below_drewN | apply below_drew1) | exact HB.out))); rintro e w70 ⟨rfl, hb⟩; have n0_ := Aside0.mk (Kd.R_below (by (with_reducible repeat (first | apply Kd.R_alloc | apply Kd.R_drewN | apply Kd.R_drew)); exact HO186.out) hb); have n1_ := Aside0.mk (Kd.R_below (by (with_reducible repeat (first | apply Kd.R_alloc | apply Kd.R_drewN | apply Kd.R_drew)); exact HO190.out) hb); have n2_ := Aside0.mk (Kd.R_below (by (with_reducible repeat (first | apply Kd.R_alloc | apply Kd.R_drewN | apply Kd.R_drew)); exact HO194.out) hb); have n3_ := Aside0.mk (below_step (by repeat (first | (with_reducible first | exact HB.out | apply below_alloc | apply pw_below_drewN | apply below_drew1) | exact HB.out)) hb); clear HO186; clear HO190; clear HO194; clear HB; have HO186 := n0_; have HO190 := n1_; have HO194 := n2_; have HB := n3_; clear n0_ n1_ n2_ n3_; (try clear hb); (try clear hb2); (try clear hk); (try clear hi)) | ((with_reducible refine gate_dst (N := 47) rfl ?_); (try (refine gate_guard (by rfl) ?_; dsimp only)); refine Kd.R_lit Kd.string _ 9 ?hg (N := 47) ?hd (xs := ([(⟨#[105, 110, 115, 101, 114, 116]⟩ : ByteArray), (⟨#[53]⟩ : ByteArray), (⟨#[45, 62]⟩ : ByteArray), (⟨#[49]⟩ : ByteArray), (⟨#[50]⟩ : ByteArray)] : List ByteArray)) (inner := [.string (⟨#[105, 110, 115, 101, 114, 116]⟩ : ByteArray), .string (⟨#[53]⟩ : ByteArray), .string (⟨#[45, 62]⟩ : ByteArray), .string (⟨#[49]⟩ : ByteArray), .string (⟨#[50]⟩ : ByteArray)]) (ok := fun _ => True) (okp := fun _ => True) ?hr ?hp (fun _ hk => hk) trivial (Below.refl _ _) (Nat.le_refl _) (by simp) ?_; (case hd => rfl); (case hg => rfl); (case hr => first | (go_simp; done) | (go_simp; rfl)); (case hp => exact (Reps.one (show Kd.M Kd.string _ _ _ (⟨#[105, 110, 115, 101, 114, 116]⟩ : ByteArray) [.string (⟨#[105, 110, 115, 101, 114, 116]⟩ : ByteArray)] from rfl) (Reps.one (show Kd.M Kd.string _ _ _ (⟨#[53]⟩ : ByteArray) [.string (⟨#[53]⟩ : ByteArray)] from rfl) (Reps.one (show Kd.M Kd.string _ _ _ (⟨#[45, 62]⟩ : ByteArray) [.string (⟨#[45, 62]⟩ : ByteArray)] from rfl) (Reps.one (show Kd.M Kd.string _ _ _ (⟨#[49]⟩ : ByteArray) [.string (⟨#[49]⟩ : ByteArray)] from rfl) (Reps.one (show Kd.M Kd.string _ _ _ (⟨#[50]⟩ : ByteArray) [.string (⟨#[50]⟩ : ByteArray)] from rfl) (Reps.none _ _))))))); intro v197 w71 ho72 hb hg_ hnew_; clear hg_ hnew_; (first | rw [← Ny196.out] at ho72 | (simp only [Int.reduceToNat] at ho72; rw [← Ny196.out] at ho72)); have n0_ := Aside0.mk (Kd.R_elder' (by (with_reducible repeat (first | apply Kd.R_alloc | apply Kd.R_drewN | apply Kd.R_drew)); exact HO186.out) (Kd.R_base ho72) hb); have n1_ := Aside0.mk (Kd.R_elder' (by (with_reducible repeat (first | apply Kd.R_alloc | apply Kd.R_drewN | apply Kd.R_drew)); exact HO190.out) (Kd.R_base ho72) hb); have n2_ := Aside0.mk (Kd.R_elder' (by (with_reducible repeat (first | apply Kd.R_alloc | apply Kd.R_drewN | apply Kd.R_drew)); exact HO194.out) (Kd.R_base ho72) hb); have n3_ := Aside0.mk (Kd.R_lower (Kd.R_new' (Kd.R_new' (Kd.R_new' ho72 (Kd.R_lt (by (with_reducible repeat (first | apply Kd.R_alloc | apply Kd.R_drewN | apply Kd.R_drew)); exact HO186.out))) (Kd.R_lt (by (with_reducible repeat (first | apply Kd.R_alloc | apply Kd.R_drewN | apply Kd.R_drew)); exact HO190.out))) (Kd.R_lt (by (with_reducible repeat (first | apply Kd.R_alloc | apply Kd.R_drewN | apply Kd.R_drew)); exact HO194.out))) (below_size (by repeat (first | (with_reducible first | exact HB.out | apply below_alloc | apply pw_below_drewN | apply below_drew1) | exact HB.out)))); have n4_ := Aside0.mk (below_step (by repeat (first | (with_reducible first | exact HB.out | apply below_alloc | apply pw_below_drewN | apply below_drew1) | exact HB.out)) hb); clear HO186; clear HO190; clear HO194; clear HB; have HO186 := n0_; have HO190 := n1_; have HO194 := n2_; have HO198 := n3_; have HB := n4_; clear n0_ n1_ n2_ n3_ n4_; clear hb ho72; obtain ⟨Ao73, co73, eo73⟩ := Kd.R_slice HO198.out; subst eo73) | (go_at_call 11; (with_reducible refine (armisticelaw04_fails.calls 4 5 _ _ y196 t199 _ ?side1 ?side2 ?side3 A57.out).mono ?_); (case side1 => repeat (first | exact (Kd.R_reads' HO198.out).2.2 | (with_reducible refine Kd.C_alloc ?_ _) | (with_reducible refine Kd.C_drewN ?_ _) | (with_reducible refine Kd.C_drew ?_))); (case side2 => exact (Kd.R_reads' HO198.out).2.1); (case side3 => exact GOk.below HG.out (by repeat (first | (with_reducible first | exact HB.out | apply below_alloc | apply pw_below_drewN | apply below_drew1) | exact HB.out))); rintro e w74 ⟨rfl, hb⟩; have n0_ := Aside0.mk (Kd.R_below (by (with_reducible repeat (first | apply Kd.R_alloc | apply Kd.R_drewN | apply Kd.R_drew)); exact HO186.out) hb); have n1_ := Aside0.mk (Kd.R_below (by (with_reducible repeat (first | apply Kd.R_alloc | apply Kd.R_drewN | apply Kd.R_drew)); exact HO190.out) hb); have n2_ := Aside0.mk (Kd.R_below (by (with_reducible repeat (first | apply Kd.R_alloc | apply Kd.R_drewN | apply Kd.R_drew)); exact HO194.out) hb); have n3_ := Aside0.mk (Kd.R_below (by (with_reducible repeat (first | apply Kd.R_alloc | apply Kd.R_drewN | apply Kd.R_drew)); exact HO198.out) hb); have n4_ := Aside0.mk (below_step (by repeat (first | (with_reducible first | exact HB.out | apply below_alloc | apply pw_below_drewN | apply below_drew1) | exact HB.out)) hb); clear HO186; clear HO190; clear HO194; clear HO198; clear HB; have HO186 := n0_; have HO190 := n1_; have HO194 := n2_; have HO198 := n3_; have HB := n4_; clear n0_ n1_ n2_ n3_ n4_; (try clear hb); (try clear hb2); (try clear hk); (try clear hi)))
                    go_meet
                    case rel => exact ⟨_, (t199), (by first | rfl | (simp; done) | (simp [*]; done)), H', ⟨by have := HJ0.out; have := HJ15.out; first | omega | exact Nat.le_refl _⟩, ⟨by repeat (first | (with_reducible first | exact HB.out | apply below_alloc | apply pw_below_drewN | apply below_drew1) | exact HB.out)⟩⟩
                  · replace c56 := Bool.eq_false_iff.mpr c56
                    subst c56
                    have H1 : (armisticelaw04_OperationKnown.j2 kj15 x1_0 x2_15 false) = some r := by rw [if_neg (show ¬ (false = true) by decide)] at H; exact H
                    exact absurd ((armisticelaw04_OperationKnown.j2_false H1).symm.trans HRT.out) (by decide)
                · replace c54 := Bool.eq_false_iff.mpr c54
                  subst c54
                  have H1 : (armisticelaw04_OperationKnown.j2 kj15 x1_0 x2_15 false) = some r := by rw [if_neg (show ¬ (false = true) by decide)] at H; exact H
                  exact absurd ((armisticelaw04_OperationKnown.j2_false H1).symm.trans HRT.out) (by decide)
              · replace c52 := Bool.eq_false_iff.mpr c52
                subst c52
                have H1 : (armisticelaw04_OperationKnown.j2 kj15 x1_0 x2_15 false) = some r := by rw [if_neg (show ¬ (false = true) by decide)] at H; exact H
                exact absurd ((armisticelaw04_OperationKnown.j2_false H1).symm.trans HRT.out) (by decide)
            · replace c50 := Bool.eq_false_iff.mpr c50
              subst c50
              have H1 : (armisticelaw04_OperationKnown.j2 kj15 x1_0 x2_15 false) = some r := by rw [if_neg (show ¬ (false = true) by decide)] at H; exact H
              exact absurd ((armisticelaw04_OperationKnown.j2_false H1).symm.trans HRT.out) (by decide)
          case rest =>
            clear HC48
            try clear c1
            try clear c2
            try clear p2
            try clear c3
            try clear c4
            try clear c5
            try clear c6
            try clear c9
            try clear c10
            try clear c11
            try clear c19
            try clear c19b0
            try clear c19b1
            try clear c22
            try clear c22b0
            try clear c22b1
            try clear c25
            try clear c25b0
            try clear c25b1
            try clear c50
            try clear c52
            try clear c54
            try clear c56
            try clear p2
            obtain ⟨kq, x3_47, rfl, HA, HJ47, HB⟩ := hcut
            cases kq with
            | zero => exact absurd HA.out (by simp [armisticelaw04_OperationKnown.j2])
            | succ kj47 =>
              have H := HA.out
              clear HA
              simp only [armisticelaw04_OperationKnown.j2] at H
              replace H := Option.bind_eq_some_iff.mp H
              obtain ⟨t200, A1030, H⟩ := H
              replace H : (if t200 = true then (if x1_0 = true then (if x2_15 = true then (if x3_47 = true then ((armisticelaw04_fails.f 3 9 (([(⟨#[105, 110, 115, 101, 114, 116]⟩ : ByteArray), (⟨#[53]⟩ : ByteArray), (⟨#[45, 62]⟩ : ByteArray), (⟨#[110, 111]⟩ : ByteArray)] : List ByteArray))).bind fun t204 => (if t204 = true then ((armisticelaw04_fails.f 3 9 (([(⟨#[105, 110, 115, 101, 114, 116]⟩ : ByteArray), (⟨#[53]⟩ : ByteArray), (⟨#[45, 62]⟩ : ByteArray), (⟨#[50]⟩ : ByteArray)] : List ByteArray))).bind fun t208 => (if t208 = true then ((armisticelaw04_fails.f 1 2 (([(⟨#[100, 101, 112, 111, 115, 105, 116]⟩ : ByteArray), (⟨#[45, 49]⟩ : ByteArray), (⟨#[45, 62]⟩ : ByteArray), (⟨#[49]⟩ : ByteArray)] : List ByteArray))).bind fun t212 => (some t212)) else (some false))) else (some false))) else (some false)) else (some false)) else (some false)) else (some false)) = some r := H
              have A103 := Aside0.mk A1030
              clear A1030
              by_cases c104 : t200 = true
              · subst c104
                have H1 : (if x1_0 = true then (if x2_15 = true then (if x3_47 = true then ((armisticelaw04_fails.f 3 9 (([(⟨#[105, 110, 115, 101, 114, 116]⟩ : ByteArray), (⟨#[53]⟩ : ByteArray), (⟨#[45, 62]⟩ : ByteArray), (⟨#[110, 111]⟩ : ByteArray)] : List ByteArray))).bind fun t204 => (if t204 = true then ((armisticelaw04_fails.f 3 9 (([(⟨#[105, 110, 115, 101, 114, 116]⟩ : ByteArray), (⟨#[53]⟩ : ByteArray), (⟨#[45, 62]⟩ : ByteArray), (⟨#[50]⟩ : ByteArray)] : List ByteArray))).bind fun t208 => (if t208 = true then ((armisticelaw04_fails.f 1 2 (([(⟨#[100, 101, 112, 111, 115, 105, 116]⟩ : ByteArray), (⟨#[45, 49]⟩ : ByteArray), (⟨#[45, 62]⟩ : ByteArray), (⟨#[49]⟩ : ByteArray)] : List ByteArray))).bind fun t212 => (some t212)) else (some false))) else (some false))) else (some false)) else (some false)) else (some false)) = some r := by rw [if_pos rfl] at H; exact H
                clear H
                have H := H1
                clear H1
                by_cases c105 : x1_0 = true
                · subst c105
                  have H1 : (if x2_15 = true then (if x3_47 = true then ((armisticelaw04_fails.f 3 9 (([(⟨#[105, 110, 115, 101, 114, 116]⟩ : ByteArray), (⟨#[53]⟩ : ByteArray), (⟨#[45, 62]⟩ : ByteArray), (⟨#[110, 111]⟩ : ByteArray)] : List ByteArray))).bind fun t204 => (if t204 = true then ((armisticelaw04_fails.f 3 9 (([(⟨#[105, 110, 115, 101, 114, 116]⟩ : ByteArray), (⟨#[53]⟩ : ByteArray), (⟨#[45, 62]⟩ : ByteArray), (⟨#[50]⟩ : ByteArray)] : List ByteArray))).bind fun t208 => (if t208 = true then ((armisticelaw04_fails.f 1 2 (([(⟨#[100, 101, 112, 111, 115, 105, 116]⟩ : ByteArray), (⟨#[45, 49]⟩ : ByteArray), (⟨#[45, 62]⟩ : ByteArray), (⟨#[49]⟩ : ByteArray)] : List ByteArray))).bind fun t212 => (some t212)) else (some false))) else (some false))) else (some false)) else (some false)) = some r := by rw [if_pos rfl] at H; exact H
                  clear H
                  have H := H1
                  clear H1
                  by_cases c106 : x2_15 = true
                  · subst c106
                    have H1 : (if x3_47 = true then ((armisticelaw04_fails.f 3 9 (([(⟨#[105, 110, 115, 101, 114, 116]⟩ : ByteArray), (⟨#[53]⟩ : ByteArray), (⟨#[45, 62]⟩ : ByteArray), (⟨#[110, 111]⟩ : ByteArray)] : List ByteArray))).bind fun t204 => (if t204 = true then ((armisticelaw04_fails.f 3 9 (([(⟨#[105, 110, 115, 101, 114, 116]⟩ : ByteArray), (⟨#[53]⟩ : ByteArray), (⟨#[45, 62]⟩ : ByteArray), (⟨#[50]⟩ : ByteArray)] : List ByteArray))).bind fun t208 => (if t208 = true then ((armisticelaw04_fails.f 1 2 (([(⟨#[100, 101, 112, 111, 115, 105, 116]⟩ : ByteArray), (⟨#[45, 49]⟩ : ByteArray), (⟨#[45, 62]⟩ : ByteArray), (⟨#[49]⟩ : ByteArray)] : List ByteArray))).bind fun t212 => (some t212)) else (some false))) else (some false))) else (some false)) = some r := by rw [if_pos rfl] at H; exact H
                    clear H
                    have H := H1
                    clear H1
                    by_cases c107 : x3_47 = true
                    · subst c107
                      have H1 : ((armisticelaw04_fails.f 3 9 (([(⟨#[105, 110, 115, 101, 114, 116]⟩ : ByteArray), (⟨#[53]⟩ : ByteArray), (⟨#[45, 62]⟩ : ByteArray), (⟨#[110, 111]⟩ : ByteArray)] : List ByteArray))).bind fun t204 => (if t204 = true then ((armisticelaw04_fails.f 3 9 (([(⟨#[105, 110, 115, 101, 114, 116]⟩ : ByteArray), (⟨#[53]⟩ : ByteArray), (⟨#[45, 62]⟩ : ByteArray), (⟨#[50]⟩ : ByteArray)] : List ByteArray))).bind fun t208 => (if t208 = true then ((armisticelaw04_fails.f 1 2 (([(⟨#[100, 101, 112, 111, 115, 105, 116]⟩ : ByteArray), (⟨#[45, 49]⟩ : ByteArray), (⟨#[45, 62]⟩ : ByteArray), (⟨#[49]⟩ : ByteArray)] : List ByteArray))).bind fun t212 => (some t212)) else (some false))) else (some false))) = some r := by rw [if_pos rfl] at H; exact H
                      clear H
                      have H := H1
                      clear H1
                      obtain ⟨y201, hy201⟩ : ∃ y_ : List ByteArray, y_ = (([(⟨#[105, 110, 115, 101, 114, 116]⟩ : ByteArray), (⟨#[53]⟩ : ByteArray), (⟨#[45, 62]⟩ : ByteArray), (⟨#[110, 111]⟩ : ByteArray)] : List ByteArray)) := ⟨_, rfl⟩
                      replace H : ((armisticelaw04_fails.f 3 9 y201).bind fun t204 => (if t204 = true then ((armisticelaw04_fails.f 3 9 (([(⟨#[105, 110, 115, 101, 114, 116]⟩ : ByteArray), (⟨#[53]⟩ : ByteArray), (⟨#[45, 62]⟩ : ByteArray), (⟨#[50]⟩ : ByteArray)] : List ByteArray))).bind fun t208 => (if t208 = true then ((armisticelaw04_fails.f 1 2 (([(⟨#[100, 101, 112, 111, 115, 105, 116]⟩ : ByteArray), (⟨#[45, 49]⟩ : ByteArray), (⟨#[45, 62]⟩ : ByteArray), (⟨#[49]⟩ : ByteArray)] : List ByteArray))).bind fun t212 => (some t212)) else (some false))) else (some false))) = some r := by first | (rw [hy201]; with_reducible exact H) | (have H2_ := (Option.bind_some _ _).symm.trans H; rw [hy201]; with_reducible exact H2_) | (have H2_ := (Option.bind_some _ _).symm.trans H; with_reducible exact H2_) | with_reducible exact H | (rw [hy201]; exact H) | exact H
                      have Ny201 := Aside0.mk hy201
                      clear hy201
                      replace H := Option.bind_eq_some_iff.mp H
                      obtain ⟨t204, A1080, H⟩ := H
                      replace H : (if t204 = true then ((armisticelaw04_fails.f 3 9 (([(⟨#[105, 110, 115, 101, 114, 116]⟩ : ByteArray), (⟨#[53]⟩ : ByteArray), (⟨#[45, 62]⟩ : ByteArray), (⟨#[50]⟩ : ByteArray)] : List ByteArray))).bind fun t208 => (if t208 = true then ((armisticelaw04_fails.f 1 2 (([(⟨#[100, 101, 112, 111, 115, 105, 116]⟩ : ByteArray), (⟨#[45, 49]⟩ : ByteArray), (⟨#[45, 62]⟩ : ByteArray), (⟨#[49]⟩ : ByteArray)] : List ByteArray))).bind fun t212 => (some t212)) else (some false))) else (some false)) = some r := H
                      have A108 := Aside0.mk A1080
                      clear A1080
                      by_cases c109 : t204 = true
                      · subst c109
                        have H1 : ((armisticelaw04_fails.f 3 9 (([(⟨#[105, 110, 115, 101, 114, 116]⟩ : ByteArray), (⟨#[53]⟩ : ByteArray), (⟨#[45, 62]⟩ : ByteArray), (⟨#[50]⟩ : ByteArray)] : List ByteArray))).bind fun t208 => (if t208 = true then ((armisticelaw04_fails.f 1 2 (([(⟨#[100, 101, 112, 111, 115, 105, 116]⟩ : ByteArray), (⟨#[45, 49]⟩ : ByteArray), (⟨#[45, 62]⟩ : ByteArray), (⟨#[49]⟩ : ByteArray)] : List ByteArray))).bind fun t212 => (some t212)) else (some false))) = some r := by rw [if_pos rfl] at H; exact H
                        clear H
                        have H := H1
                        clear H1
                        obtain ⟨y205, hy205⟩ : ∃ y_ : List ByteArray, y_ = (([(⟨#[105, 110, 115, 101, 114, 116]⟩ : ByteArray), (⟨#[53]⟩ : ByteArray), (⟨#[45, 62]⟩ : ByteArray), (⟨#[50]⟩ : ByteArray)] : List ByteArray)) := ⟨_, rfl⟩
                        replace H : ((armisticelaw04_fails.f 3 9 y205).bind fun t208 => (if t208 = true then ((armisticelaw04_fails.f 1 2 (([(⟨#[100, 101, 112, 111, 115, 105, 116]⟩ : ByteArray), (⟨#[45, 49]⟩ : ByteArray), (⟨#[45, 62]⟩ : ByteArray), (⟨#[49]⟩ : ByteArray)] : List ByteArray))).bind fun t212 => (some t212)) else (some false))) = some r := by first | (rw [hy205]; with_reducible exact H) | (have H2_ := (Option.bind_some _ _).symm.trans H; rw [hy205]; with_reducible exact H2_) | (have H2_ := (Option.bind_some _ _).symm.trans H; with_reducible exact H2_) | with_reducible exact H | (rw [hy205]; exact H) | exact H
                        have Ny205 := Aside0.mk hy205
                        clear hy205
                        replace H := Option.bind_eq_some_iff.mp H
                        obtain ⟨t208, A1100, H⟩ := H
                        replace H : (if t208 = true then ((armisticelaw04_fails.f 1 2 (([(⟨#[100, 101, 112, 111, 115, 105, 116]⟩ : ByteArray), (⟨#[45, 49]⟩ : ByteArray), (⟨#[45, 62]⟩ : ByteArray), (⟨#[49]⟩ : ByteArray)] : List ByteArray))).bind fun t212 => (some t212)) else (some false)) = some r := H
                        have A110 := Aside0.mk A1100
                        clear A1100
                        by_cases c111 : t208 = true
                        · subst c111
                          have H1 : ((armisticelaw04_fails.f 1 2 (([(⟨#[100, 101, 112, 111, 115, 105, 116]⟩ : ByteArray), (⟨#[45, 49]⟩ : ByteArray), (⟨#[45, 62]⟩ : ByteArray), (⟨#[49]⟩ : ByteArray)] : List ByteArray))).bind fun t212 => (some t212)) = some r := by rw [if_pos rfl] at H; exact H
                          clear H
                          have H := H1
                          clear H1
                          obtain ⟨y209, hy209⟩ : ∃ y_ : List ByteArray, y_ = (([(⟨#[100, 101, 112, 111, 115, 105, 116]⟩ : ByteArray), (⟨#[45, 49]⟩ : ByteArray), (⟨#[45, 62]⟩ : ByteArray), (⟨#[49]⟩ : ByteArray)] : List ByteArray)) := ⟨_, rfl⟩
                          replace H : ((armisticelaw04_fails.f 1 2 y209).bind fun t212 => (some t212)) = some r := by first | (rw [hy209]; with_reducible exact H) | (have H2_ := (Option.bind_some _ _).symm.trans H; rw [hy209]; with_reducible exact H2_) | (have H2_ := (Option.bind_some _ _).symm.trans H; with_reducible exact H2_) | with_reducible exact H | (rw [hy209]; exact H) | exact H
                          have Ny209 := Aside0.mk hy209
                          clear hy209
                          replace H := Option.bind_eq_some_iff.mp H
                          obtain ⟨t212, A1120, H⟩ := H
                          replace H : (some t212) = some r := H
                          have A112 := Aside0.mk A1120
                          clear A1120
                          obtain rfl := Option.some.inj H
                          go_wp2_with (first | ((with_reducible refine gate_callee (f := 12) rfl ?_); refine goesL_ (some 50) rfl rfl Tryz.func12 (by kernel_rfl) rfl #[] rfl (by (try simp only [List.map_toArray, List.map_cons, List.map_nil]); first | done | rfl | (simp only [List.length_drop, List.length_take]; rfl)) ?_; (with_reducible refine (armisticelaw04_awake.calls  true _ ?side1 A103.out).mono ?_); (case side1 => exact GOk.below HG.out (by repeat (first | (with_reducible first | exact HB.out | apply below_alloc | apply pw_below_drewN | apply below_drew1) | exact HB.out))); rintro e w113 ⟨rfl, hb⟩; refine ⟨_, rfl, ?_⟩; have n0_ := Aside0.mk (below_step (by repeat (first | (with_reducible first | exact HB.out | apply below_alloc | apply pw_below_drewN | apply below_drew1) | exact HB.out)) hb); clear HB; have HB := n0_; clear n0_; (try clear hb); (try clear hb2); (try clear hk); (try clear hi)) | ((with_reducible refine gate_dst (N := 61) rfl ?_); (try (refine gate_guard (by rfl) ?_; dsimp only)); refine Kd.R_lit Kd.string _ 9 ?hg (N := 61) ?hd (xs := ([(⟨#[105, 110, 115, 101, 114, 116]⟩ : ByteArray), (⟨#[53]⟩ : ByteArray), (⟨#[45, 62]⟩ : ByteArray), (⟨#[110, 111]⟩ : ByteArray)] : List ByteArray)) (inner := [.string (⟨#[105, 110, 115, 101, 114, 116]⟩ : ByteArray), .string (⟨#[53]⟩ : ByteArray), .string (⟨#[45, 62]⟩ : ByteArray), .string (⟨#[110, 111]⟩ : ByteArray)]) (ok := fun _ => True) (okp := fun _ => True) ?hr ?hp (fun _ hk => hk) trivial (Below.refl _ _) (Nat.le_refl _) (by simp) ?_; (case hd => rfl); (case hg => rfl); (case hr => first | (go_simp; done) | (go_simp; rfl)); (case hp => exact (Reps.one (show Kd.M Kd.string _ _ _ (⟨#[105, 110, 115, 101, 114, 116]⟩ : ByteArray) [.string (⟨#[105, 110, 115, 101, 114, 116]⟩ : ByteArray)] from rfl) (Reps.one (show Kd.M Kd.string _ _ _ (⟨#[53]⟩ : ByteArray) [.string (⟨#[53]⟩ : ByteArray)] from rfl) (Reps.one (show Kd.M Kd.string _ _ _ (⟨#[45, 62]⟩ : ByteArray) [.string (⟨#[45, 62]⟩ : ByteArray)] from rfl) (Reps.one (show Kd.M Kd.string _ _ _ (⟨#[110, 111]⟩ : ByteArray) [.string (⟨#[110, 111]⟩ : ByteArray)] from rfl) (Reps.none _ _)))))); intro v202 w114 ho115 hb hg_ hnew_; clear hg_ hnew_; (first | rw [← Ny201.out] at ho115 | (simp only [Int.reduceToNat] at ho115; rw [← Ny201.out] at ho115)); have n0_ := Aside0.mk (Kd.R_lower ho115 (below_size (by repeat (first | (with_reducible first | exact HB.out | apply below_alloc | apply pw_below_drewN | apply below_drew1) | exact HB.out)))); have n1_ := Aside0.mk (below_step (by repeat (first | (with_reducible first | exact HB.out | apply below_alloc | apply pw_below_drewN | apply below_drew1) | exact HB.out)) hb); clear HB; have HO203 := n0_; have HB := n1_; clear n0_ n1_; clear hb ho115; obtain ⟨Ao116, co116, eo116⟩ := Kd.R_slice HO203.out; subst eo116) | (go_at_call 11; (with_reducible refine (armisticelaw04_fails.calls 3 9 _ _ y201 true _ ?side1 ?side2 ?side3 A108.out).mono ?_); (case side1 => repeat (first | exact (Kd.R_reads' HO203.out).2.2 | (with_reducible refine Kd.C_alloc ?_ _) | (with_reducible refine Kd.C_drewN ?_ _) | (with_reducible refine Kd.C_drew ?_))); (case side2 => exact (Kd.R_reads' HO203.out).2.1); (case side3 => exact GOk.below HG.out (by repeat (first | (with_reducible first | exact HB.out | apply below_alloc | apply pw_below_drewN | apply below_drew1) | exact HB.out))); rintro e w117 ⟨rfl, hb⟩; have n0_ := Aside0.mk (Kd.R_below (by (with_reducible repeat (first | apply Kd.R_alloc | apply Kd.R_drewN | apply Kd.R_drew)); exact HO203.out) hb); have n1_ := Aside0.mk (below_step (by repeat (first | (with_reducible first | exact HB.out | apply below_alloc | apply pw_below_drewN | apply below_drew1) | exact HB.out)) hb); clear HO203; clear HB; have HO203 := n0_; have HB := n1_; clear n0_ n1_; (try clear hb); (try clear hb2); (try clear hk); (try clear hi)) | ((with_reducible refine gate_dst (N := 65) rfl ?_); (try (refine gate_guard (by rfl) ?_; dsimp only)); refine Kd.R_lit Kd.string _ 9 ?hg (N := 65) ?hd (xs := ([(⟨#[105, 110, 115, 101, 114, 116]⟩ : ByteArray), (⟨#[53]⟩ : ByteArray), (⟨#[45, 62]⟩ : ByteArray), (⟨#[50]⟩ : ByteArray)] : List ByteArray)) (inner := [.string (⟨#[105, 110, 115, 101, 114, 116]⟩ : ByteArray), .string (⟨#[53]⟩ : ByteArray), .string (⟨#[45, 62]⟩ : ByteArray), .string (⟨#[50]⟩ : ByteArray)]) (ok := fun _ => True) (okp := fun _ => True) ?hr ?hp (fun _ hk => hk) trivial (Below.refl _ _) (Nat.le_refl _) (by simp) ?_; (case hd => rfl); (case hg => rfl); (case hr => first | (go_simp; done) | (go_simp; rfl)); (case hp => exact (Reps.one (show Kd.M Kd.string _ _ _ (⟨#[105, 110, 115, 101, 114, 116]⟩ : ByteArray) [.string (⟨#[105, 110, 115, 101, 114, 116]⟩ : ByteArray)] from rfl) (Reps.one (show Kd.M Kd.string _ _ _ (⟨#[53]⟩ : ByteArray) [.string (⟨#[53]⟩ : ByteArray)] from rfl) (Reps.one (show Kd.M Kd.string _ _ _ (⟨#[45, 62]⟩ : ByteArray) [.string (⟨#[45, 62]⟩ : ByteArray)] from rfl) (Reps.one (show Kd.M Kd.string _ _ _ (⟨#[50]⟩ : ByteArray) [.string (⟨#[50]⟩ : ByteArray)] from rfl) (Reps.none _ _)))))); intro v206 w118 ho119 hb hg_ hnew_; clear hg_ hnew_; (first | rw [← Ny205.out] at ho119 | (simp only [Int.reduceToNat] at ho119; rw [← Ny205.out] at ho119)); have n0_ := Aside0.mk (Kd.R_elder' (by (with_reducible repeat (first | apply Kd.R_alloc | apply Kd.R_drewN | apply Kd.R_drew)); exact HO203.out) (Kd.R_base ho119) hb); have n1_ := Aside0.mk (Kd.R_lower (Kd.R_new' ho119 (Kd.R_lt (by (with_reducible repeat (first | apply Kd.R_alloc | apply Kd.R_drewN | apply Kd.R_drew)); exact HO203.out))) (below_size (by repeat (first | (with_reducible first | exact HB.out | apply below_alloc | apply pw_below_drewN | apply below_drew1) | exact HB.out)))); have n2_ := Aside0.mk (below_step (by repeat (first | (with_reducible first | exact HB.out | apply below_alloc | apply pw_below_drewN | apply below_drew1) | exact HB.out)) hb); clear HO203; clear HB; have HO203 := n0_; have HO207 := n1_; have HB := n2_; clear n0_ n1_ n2_; clear hb ho119; obtain ⟨Ao120, co120, eo120⟩ := Kd.R_slice HO207.out; subst eo120) | (go_at_call 11; (with_reducible refine (armisticelaw04_fails.calls 3 9 _ _ y205 true _ ?side1 ?side2 ?side3 A110.out).mono ?_); (case side1 => repeat (first | exact (Kd.R_reads' HO207.out).2.2 | (with_reducible refine Kd.C_alloc ?_ _) | (with_reducible refine Kd.C_drewN ?_ _) | (with_reducible refine Kd.C_drew ?_))); (case side2 => exact (Kd.R_reads' HO207.out).2.1); (case side3 => exact GOk.below HG.out (by repeat (first | (with_reducible first | exact HB.out | apply below_alloc | apply pw_below_drewN | apply below_drew1) | exact HB.out))); rintro e w121 ⟨rfl, hb⟩; have n0_ := Aside0.mk (Kd.R_below (by (with_reducible repeat (first | apply Kd.R_alloc | apply Kd.R_drewN | apply Kd.R_drew)); exact HO203.out) hb); have n1_ := Aside0.mk (Kd.R_below (by (with_reducible repeat (first | apply Kd.R_alloc | apply Kd.R_drewN | apply Kd.R_drew)); exact HO207.out) hb); have n2_ := Aside0.mk (below_step (by repeat (first | (with_reducible first | exact HB.out | apply below_alloc | apply pw_below_drewN | apply below_drew1) | exact HB.out)) hb); clear HO203; clear HO207; clear HB; have HO203 := n0_; have HO207 := n1_; have HB := n2_; clear n0_ n1_ n2_; (try clear hb); (try clear hb2); (try clear hk); (try clear hi)) | ((with_reducible refine gate_dst (N := 69) rfl ?_); (try (refine gate_guard (by rfl) ?_; dsimp only)); refine Kd.R_lit Kd.string _ 9 ?hg (N := 69) ?hd (xs := ([(⟨#[100, 101, 112, 111, 115, 105, 116]⟩ : ByteArray), (⟨#[45, 49]⟩ : ByteArray), (⟨#[45, 62]⟩ : ByteArray), (⟨#[49]⟩ : ByteArray)] : List ByteArray)) (inner := [.string (⟨#[100, 101, 112, 111, 115, 105, 116]⟩ : ByteArray), .string (⟨#[45, 49]⟩ : ByteArray), .string (⟨#[45, 62]⟩ : ByteArray), .string (⟨#[49]⟩ : ByteArray)]) (ok := fun _ => True) (okp := fun _ => True) ?hr ?hp (fun _ hk => hk) trivial (Below.refl _ _) (Nat.le_refl _) (by simp) ?_; (case hd => rfl); (case hg => rfl); (case hr => first | (go_simp; done) | (go_simp; rfl)); (case hp => exact (Reps.one (show Kd.M Kd.string _ _ _ (⟨#[100, 101, 112, 111, 115, 105, 116]⟩ : ByteArray) [.string (⟨#[100, 101, 112, 111, 115, 105, 116]⟩ : ByteArray)] from rfl) (Reps.one (show Kd.M Kd.string _ _ _ (⟨#[45, 49]⟩ : ByteArray) [.string (⟨#[45, 49]⟩ : ByteArray)] from rfl) (Reps.one (show Kd.M Kd.string _ _ _ (⟨#[45, 62]⟩ : ByteArray) [.string (⟨#[45, 62]⟩ : ByteArray)] from rfl) (Reps.one (show Kd.M Kd.string _ _ _ (⟨#[49]⟩ : ByteArray) [.string (⟨#[49]⟩ : ByteArray)] from rfl) (Reps.none _ _)))))); intro v210 w122 ho123 hb hg_ hnew_; clear hg_ hnew_; (first | rw [← Ny209.out] at ho123 | (simp only [Int.reduceToNat] at ho123; rw [← Ny209.out] at ho123)); have n0_ := Aside0.mk (Kd.R_elder' (by (with_reducible repeat (first | apply Kd.R_alloc | apply Kd.R_drewN | apply Kd.R_drew)); exact HO203.out) (Kd.R_base ho123) hb); have n1_ := Aside0.mk (Kd.R_elder' (by (with_reducible repeat (first | apply Kd.R_alloc | apply Kd.R_drewN | apply Kd.R_drew)); exact HO207.out) (Kd.R_base ho123) hb); have n2_ := Aside0.mk (Kd.R_lower (Kd.R_new' (Kd.R_new' ho123 (Kd.R_lt (by (with_reducible repeat (first | apply Kd.R_alloc | apply Kd.R_drewN | apply Kd.R_drew)); exact HO203.out))) (Kd.R_lt (by (with_reducible repeat (first | apply Kd.R_alloc | apply Kd.R_drewN | apply Kd.R_drew)); exact HO207.out))) (below_size (by repeat (first | (with_reducible first | exact HB.out | apply below_alloc | apply pw_below_drewN | apply below_drew1) | exact HB.out)))); have n3_ := Aside0.mk (below_step (by repeat (first | (with_reducible first | exact HB.out | apply below_alloc | apply pw_below_drewN | apply below_drew1) | exact HB.out)) hb); clear HO203; clear HO207; clear HB; have HO203 := n0_; have HO207 := n1_; have HO211 := n2_; have HB := n3_; clear n0_ n1_ n2_ n3_; clear hb ho123; obtain ⟨Ao124, co124, eo124⟩ := Kd.R_slice HO211.out; subst eo124) | (go_at_call 11; (with_reducible refine (armisticelaw04_fails.calls 1 2 _ _ y209 t212 _ ?side1 ?side2 ?side3 A112.out).mono ?_); (case side1 => repeat (first | exact (Kd.R_reads' HO211.out).2.2 | (with_reducible refine Kd.C_alloc ?_ _) | (with_reducible refine Kd.C_drewN ?_ _) | (with_reducible refine Kd.C_drew ?_))); (case side2 => exact (Kd.R_reads' HO211.out).2.1); (case side3 => exact GOk.below HG.out (by repeat (first | (with_reducible first | exact HB.out | apply below_alloc | apply pw_below_drewN | apply below_drew1) | exact HB.out))); rintro e w125 ⟨rfl, hb⟩; have n0_ := Aside0.mk (Kd.R_below (by (with_reducible repeat (first | apply Kd.R_alloc | apply Kd.R_drewN | apply Kd.R_drew)); exact HO203.out) hb); have n1_ := Aside0.mk (Kd.R_below (by (with_reducible repeat (first | apply Kd.R_alloc | apply Kd.R_drewN | apply Kd.R_drew)); exact HO207.out) hb); have n2_ := Aside0.mk (Kd.R_below (by (with_reducible repeat (first | apply Kd.R_alloc | apply Kd.R_drewN | apply Kd.R_drew)); exact HO211.out) hb); have n3_ := Aside0.mk (below_step (by repeat (first | (with_reducible first | exact HB.out | apply below_alloc | apply pw_below_drewN | apply below_drew1) | exact HB.out)) hb); clear HO203; clear HO207; clear HO211; clear HB; have HO203 := n0_; have HO207 := n1_; have HO211 := n2_; have HB := n3_; clear n0_ n1_ n2_ n3_; (try clear hb); (try clear hb2); (try clear hk); (try clear hi)))
                          go_ret
                          exact ⟨by first | rfl | (simp [errW_none, errW_some] <;> rfl) | (simp [*, errW_none, errW_some] <;> rfl), by repeat (first | (with_reducible first | exact HB.out | apply below_alloc | apply pw_below_drewN | apply below_drew1) | exact HB.out)⟩
                        · replace c111 := Bool.eq_false_iff.mpr c111
                          subst c111
                          have H1 : (some false) = some r := by rw [if_neg (show ¬ (false = true) by decide)] at H; exact H
                          clear H
                          have H := H1
                          clear H1
                          exact absurd ((Option.some.inj H).trans HRT.out) (by simp)
                      · replace c109 := Bool.eq_false_iff.mpr c109
                        subst c109
                        have H1 : (some false) = some r := by rw [if_neg (show ¬ (false = true) by decide)] at H; exact H
                        clear H
                        have H := H1
                        clear H1
                        exact absurd ((Option.some.inj H).trans HRT.out) (by simp)
                    · replace c107 := Bool.eq_false_iff.mpr c107
                      subst c107
                      have H1 : (some false) = some r := by rw [if_neg (show ¬ (false = true) by decide)] at H; exact H
                      clear H
                      have H := H1
                      clear H1
                      exact absurd ((Option.some.inj H).trans HRT.out) (by simp)
                  · replace c106 := Bool.eq_false_iff.mpr c106
                    subst c106
                    have H1 : (some false) = some r := by rw [if_neg (show ¬ (false = true) by decide)] at H; exact H
                    clear H
                    have H := H1
                    clear H1
                    exact absurd ((Option.some.inj H).trans HRT.out) (by simp)
                · replace c105 := Bool.eq_false_iff.mpr c105
                  subst c105
                  have H1 : (some false) = some r := by rw [if_neg (show ¬ (false = true) by decide)] at H; exact H
                  clear H
                  have H := H1
                  clear H1
                  exact absurd ((Option.some.inj H).trans HRT.out) (by simp)
              · replace c104 := Bool.eq_false_iff.mpr c104
                subst c104
                have H1 : (some false) = some r := by rw [if_neg (show ¬ (false = true) by decide)] at H; exact H
                clear H
                have H := H1
                clear H1
                exact absurd ((Option.some.inj H).trans HRT.out) (by simp)
theorem armisticelaw04_OperationKnown.true_at : armisticelaw04_OperationKnown.f 40 = some true := by kernel_rfl
theorem armisticelaw04_OperationKnown.true_up : ∀ d, armisticelaw04_OperationKnown.f (40 + d) = some true
  | 0 => armisticelaw04_OperationKnown.true_at
  | d + 1 => armisticelaw04_OperationKnown.mono _ true (armisticelaw04_OperationKnown.true_up d)
theorem armisticelaw04_OperationKnown.true_of : ∀ (d k : Nat) (r : Bool), armisticelaw04_OperationKnown.f k = some r → armisticelaw04_OperationKnown.f (k + d) = some r
  | 0, _, _, h => h
  | d + 1, k, r, h => armisticelaw04_OperationKnown.mono _ r (armisticelaw04_OperationKnown.true_of d k r h)
theorem armisticelaw04_OperationKnown.true_only {k : Nat} {r : Bool} (h : armisticelaw04_OperationKnown.f k = some r) : r = true := by
  have h1 := armisticelaw04_OperationKnown.true_of 40 k r h
  have h2 := armisticelaw04_OperationKnown.true_up k
  rw [Nat.add_comm] at h2
  exact Option.some.inj (h1.symm.trans h2)
theorem armisticelaw04_OperationKnown.calls (k : Nat)  (r : Bool) (w : World) (hG : GOk w) (h : armisticelaw04_OperationKnown.f k  = some r) :
    Calls Tryz.prog 4 #[] w fun e w' => e = .returned (.bool r) ∧ Below w.heap.size w w' := armisticelaw04_OperationKnown.calls0 k r (armisticelaw04_OperationKnown.true_only h) w hG h

end Go.Proofs.YtoenklncjbcgiaaGreatDoor.P
