/- armisticelaw12.fails: is a text none, just there? -/
import Derived.Test.YtkjnbfjbdlcehaaGreatDoorEParse
import Derived.Test.YtkjnbfjbdlcehaaGreatDoorEConv
import Derived.Test.YtkjnbfjbdlcehaaGreatDoorEPrint
import Derived.Test.YtkjnbfjbdlcehaaGreatDoorPx2
import Derived.Test.YtkjnbfjbdlcehaaGreatDoorESame12
namespace Go.Proofs.YtkjnbfjbdlcehaaGreatDoor.P
open Go.RowKit Go.Proofs.YtkjnbfjbdlcehaaGreatDoorW.PrintWords Go.Proofs.YtkjnbfjbdlcehaaGreatDoorW.PrintLast Go.Proofs.YtkjnbfjbdlcehaaGreatDoorW.PrintMore
set_option linter.unusedVariables false
set_option linter.unusedSimpArgs false
def armisticelaw12_fails.f (s : ByteArray) (b p : Int) : Option Bool := if s.size ≤ 140737488351232 then (grammar_Parse.f (bytesOf s)).bind fun r => some (decide (r.1.length = 0) && (r.2.1 == b && r.2.2 == p)) else none
set_option maxHeartbeats 1000000 in
set_option maxRecDepth 100000 in
theorem armisticelaw12_fails.calls (s : ByteArray) (b p : Int) (r : Bool) (w : World) (hG : GOk w) (h : armisticelaw12_fails.f s b p = some r) :
    Calls Tryz.prog 26 #[.string s, .int .i64 b, .int .i64 p] w fun e w' => e = .returned (.bool r) ∧ Below w.heap.size w w' := by
  unfold armisticelaw12_fails.f at h
  split at h
  · rename_i hs
    obtain ⟨⟨l, e, q⟩, hl, hr⟩ := Option.bind_eq_some_iff.1 h
    replace hr := Option.some.inj hr
    dsimp only at hr
    have HL := Aside0.mk (grammar_Parse.calls (some ⟨w.heap.size, 0, none⟩) (grownCap w s.size 0 5) (bytesOf s) l e q (convW w s) (convW_reads w s (by omega)) (convW_cap w s) (hG.below (convW_below w s)) hl)
    rw [bytesOf_len] at HL
    have hcv := conv_run w s
    have hB := Aside0.mk (convW_below w s)
    have hz := Aside0.mk (convW_size w s)
    have HR := Aside0.mk hr
    clear h hl hr hs hG
    go_enter Tryz.func26, Tryz.ntmps26
    go_wp2_with fail
    refine HL.out.mono ?_
    rintro e2 w2 ⟨v, rfl, hS, hb⟩
    obtain ⟨A, c, rfl⟩ := Kd.S_slice hS
    have HB := Aside0.mk (hB.out.trans (hb.mono (by rw [hz.out]; omega)))
    have HR2 := HR.out
    clear hS hb hcv HR
    by_cases hl0 : l.length = 0
    · rw [hl0] at HR2 ⊢
      have HR := Aside0.mk HR2
      clear HR2 hl0
      by_cases he : e = b
      · subst he
        by_cases hq : q = p
        · subst hq
          go_wp2
          refine bodyPost_ret (results_tmp rfl _ _ _) rfl ?_
          refine ⟨?_, HB.out.alloc HB.out.size _⟩
          rw [← HR.out]
          simp
        · have d2 : (q == p) = false := beq_eq_false_iff_ne.2 hq
          clear hq
          go_wp2
          refine bodyPost_ret (results_tmp rfl _ _ _) rfl ?_
          refine ⟨?_, HB.out.alloc HB.out.size _⟩
          rw [← HR.out]
          simp [d2]
      · have d2 : (e == b) = false := beq_eq_false_iff_ne.2 he
        clear he
        go_wp2
        refine bodyPost_ret (results_tmp rfl _ _ _) rfl ?_
        refine ⟨?_, HB.out.alloc HB.out.size _⟩
        rw [← HR.out]
        simp [d2]
    · have d1 : ((l.length : Int) == 0) = false := beq_eq_false_iff_ne.2 (by omega)
      have HR := Aside0.mk HR2
      have H0 := Aside0.mk hl0
      clear HR2 hl0
      go_wp2
      refine bodyPost_ret (results_tmp rfl _ _ _) rfl ?_
      refine ⟨?_, HB.out.alloc HB.out.size _⟩
      rw [← HR.out]
      simp [H0.out]
  · cases h
end Go.Proofs.YtkjnbfjbdlcehaaGreatDoor.P

/- armisticelaw12.awake: some of the chapter's examples. -/
namespace Go.Proofs.YtkjnbfjbdlcehaaGreatDoor.P
open Go.RowKit Go.Proofs.YtkjnbfjbdlcehaaGreatDoorW.PrintWords Go.Proofs.YtkjnbfjbdlcehaaGreatDoorW.PrintLast Go.Proofs.YtkjnbfjbdlcehaaGreatDoorW.PrintMore
set_option linter.unusedVariables false
set_option linter.unusedSimpArgs false
def armisticelaw12_awake.f : Option Bool := some true
set_option maxRecDepth 100000 in
theorem aw12 : ∃ s es, armisticelaw12_one.f = some (s, es) ∧ s.size ≤ 140737488351232 ∧ grammar_Parse.f (bytesOf s) = some (es, 0, 0) ∧ armisticekit_SameEvents.f es es = some true ∧ grammar_Print.f es = some (s, 0) ∧ armisticelaw12_fails.f ⟨#[97, 98, 111, 114, 116]⟩ 5 5 = some true :=
  ⟨(armisticelaw12_one.f.getD (⟨#[]⟩, [])).1, (armisticelaw12_one.f.getD (⟨#[]⟩, [])).2, by kernel_rfl, Nat.le_of_ble_eq_true (by kernel_rfl), by kernel_rfl, by kernel_rfl, by kernel_rfl, by kernel_rfl⟩
set_option maxHeartbeats 1000000 in
set_option maxRecDepth 100000 in
theorem armisticelaw12_awake.calls (r : Bool) (w : World) (hG : GOk w) (h : armisticelaw12_awake.f = some r) :
    Calls Tryz.prog 11 #[] w fun e w' => e = .returned (.bool r) ∧ Below w.heap.size w w' := by
  unfold armisticelaw12_awake.f at h
  obtain rfl := Option.some.inj h
  obtain ⟨s, es, ho, hs, hpa, hse, hpr, hfa⟩ := aw12
  have HS := Aside0.mk hs
  have HP := Aside0.mk hpa
  have HSE := Aside0.mk hse
  have HPR := Aside0.mk hpr
  have HFA := Aside0.mk hfa
  have HO := Aside0.mk ho
  have HG := Aside0.mk hG
  clear ho hs hpa hse hpr hfa h hG
  go_enter Tryz.func11, Tryz.ntmps11
  go_wp2_with fail
  refine (armisticelaw12_one.calls s es w HO.out).mono ?_
  rintro e w1 ⟨v, rfl, hN, hb⟩
  obtain ⟨A1, c1, rfl⟩ := Kd.N_slice hN
  have HN1 := Aside0.mk hN
  have HB1 := Aside0.mk hb
  have hcv := conv_run w1 s
  have HL := Aside0.mk (grammar_Parse.calls (some ⟨w1.heap.size, 0, none⟩) (grownCap w1 s.size 0 5) (bytesOf s) es 0 0 (convW w1 s) (convW_reads w1 s (by have := HS.out; omega)) (convW_cap w1 s) ((HG.out.below hb).below (convW_below w1 s)) HP.out)
  have HB2 := Aside0.mk (convW_below w1 s)
  have hz := Aside0.mk (convW_size w1 s)
  rw [bytesOf_len] at HL
  clear hN hb
  go_wp2_with fail
  refine HL.out.mono ?_
  rintro e w3 ⟨v, rfl, hS, hb3⟩
  obtain ⟨A3, c3, rfl⟩ := Kd.S_slice hS
  have HB3 := Aside0.mk (HB2.out.trans (hb3.mono (by rw [hz.out]; omega)))
  have HN3 := Aside0.mk (Kd.N_below HN1.out HB3.out)
  have HS3 := Aside0.mk hS
  have HB03 := Aside0.mk (HB1.out.trans (HB3.out.mono HB1.out.size))
  clear hS hb3 hcv HL HB3 HB2 hz HN1 HB1
  go_upto_region 3 with (fail)
  have hba := below_alloc (Below.refl w3.heap.size w3) (.cells #[.int .i64 0, .int .i64 0] 44)
  have hbx := blk_new w3 (.cells #[.int .i64 0, .int .i64 0] 44)
  obtain ⟨w4, hw4⟩ : ∃ w4 : World, w3.alloc (.cells #[.int .i64 0, .int .i64 0] 44) = w4 := ⟨_, rfl⟩
  rw [hw4] at hba hbx ⊢
  clear hw4
  have HBX := Aside0.mk hbx
  have HBa := Aside0.mk hba
  have HN4 := Aside0.mk (Kd.N_below HN3.out hba)
  have HS4 := Aside0.mk (Kd.S_below HS3.out hba)
  have HB4 := Aside0.mk (HB03.out.trans (hba.mono HB03.out.size))
  clear hba hbx HN3 HS3 HB03
  go_wp2_with fail
  refine (grammar_Print.calls A1 c1 es s 0 w4 (Kd.N_reads' HN4.out).2.2 (Kd.N_reads' HN4.out).2.1 HPR.out).mono ?_
  rintro e w5 ⟨rfl, hb5⟩
  have HN5 := Aside0.mk (Kd.N_below HN4.out hb5)
  have HS5 := Aside0.mk (Kd.S_below HS4.out hb5)
  have HB5 := Aside0.mk (HB4.out.trans (hb5.mono HB4.out.size))
  have hbx5 := (hb5.block w3.heap.size (blk_lt HBX.out)).trans HBX.out
  have f0 := (blk_cell hbx5 0).trans rfl
  have f1 := (blk_cell hbx5 1).trans rfl
  clear hb5 hbx5 HN4 HS4 HB4
  go_wp2_with fail
  refine (armisticekit_SameEvents.calls A3 c3 es A1 c1 es true w5 (Kd.S_reads' HS5.out).2.2 (Kd.S_reads' HS5.out).2.1 (Kd.N_reads' HN5.out).2.2 (Kd.N_reads' HN5.out).2.1 HSE.out).mono ?_
  rintro e w6 ⟨rfl, hd6⟩
  have HB6 := Aside0.mk (HB5.out.trans (hd6.mono HB5.out.size))
  clear hd6
  go_wp2_with fail
  refine (armisticelaw12_fails.calls ⟨#[97, 98, 111, 114, 116]⟩ 5 5 true w6 (HG.out.below HB6.out) HFA.out).mono ?_
  rintro e w7 ⟨rfl, hb7⟩
  have HB7 := Aside0.mk (HB6.out.trans (hb7.mono HB6.out.size))
  clear hb7
  go_wp2
  exact bodyPost_ret (results_tmp rfl _ _ _) rfl ⟨rfl, HB7.out⟩
end Go.Proofs.YtkjnbfjbdlcehaaGreatDoor.P
