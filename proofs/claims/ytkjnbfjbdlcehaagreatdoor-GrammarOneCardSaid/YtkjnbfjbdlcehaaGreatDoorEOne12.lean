/- armisticelaw12.GrammarOne: what is parsed is printed in one form. -/
import Derived.Test.YtkjnbfjbdlcehaaGreatDoorM12One
import Derived.Test.YtkjnbfjbdlcehaaGreatDoorEConv
import Derived.Test.YtkjnbfjbdlcehaaGreatDoorPx4
namespace Go.Proofs.YtkjnbfjbdlcehaaGreatDoor.P
open Go.RowKit Go.Proofs.YtkjnbfjbdlcehaaGreatDoorW.PrintWords Go.Proofs.YtkjnbfjbdlcehaaGreatDoorW.PrintLast Go.Proofs.YtkjnbfjbdlcehaaGreatDoorW.PrintMore
set_option linter.unusedVariables false
set_option linter.unusedSimpArgs false
set_option maxHeartbeats 4000000 in
set_option maxRecDepth 100000 in
theorem one_calls (A : Option Addr) (c : Nat) (l : List Int) (w : World) (hr : Kd.C (Kd.int .u8) w A l.length l) (hc : l.length ≤ c) (hu : isU8 l = true) (hG : GOk w) :
    Calls Tryz.prog 8 #[.slice A l.length c] w fun e w' => e = .returned (.bool true) ∧ Below w.heap.size w w' := by
  have HK := Aside0.mk (armisticelaw12_GrammarKnown.known w hG)
  have HG := Aside0.mk (fun w' (hb : Below w.heap.size w w') => hG.below hb)
  by_cases hl : l.length ≤ 1500
  · have HF := Z12.one_facts l hu hl
    rcases HF with ⟨es, s, hpa, hpr, hpb, hsame, hsz, hel⟩ | ⟨E, P, hpa, hE, hP0, hP1⟩
    · have HPa := Aside0.mk (fun w' (hb : Below w.heap.size w w') => grammar_Parse.calls A c l es 0 0 w' (Kd.C_below hr hb) hc (hG.below hb) hpa)
      have HPR := Aside0.mk hpr
      have HPB := Aside0.mk hpb
      have HSM := Aside0.mk hsame
      have HSZ := Aside0.mk hsz
      have HEL := Aside0.mk hel
      have HLL := Aside0.mk hl
      obtain ⟨n, hn⟩ : ∃ n, Aside0 (l.length = n) := ⟨_, ⟨rfl⟩⟩
      rw [hn.out] at HPa HSZ HLL ⊢
      have b0 := decide_eq_false (show ¬ (1500 : Int) < (n : Int) by have := HLL.out; omega)
      have b0n := decide_eq_false (show ¬ 1500 < n by have := HLL.out; omega)
      clear hr hpa hpr hpb hsame hsz hel hl hc hG
      go_enter Tryz.func8, Tryz.ntmps8
      go_wp2_with fail
      refine HK.out.mono ?_
      rintro e w1 ⟨rfl, hb1⟩
      have HB1 := Aside0.mk hb1
      clear hb1
      go_wp2_with fail
      refine (HPa.out w1 HB1.out).mono ?_
      rintro e w2 ⟨v, rfl, hS, hb2⟩
      obtain ⟨A2, c2, rfl⟩ := Kd.S_slice hS
      have HB2 := Aside0.mk (HB1.out.trans (hb2.mono HB1.out.size))
      have HS2 := Aside0.mk hS
      clear hb2 hS HPa HK
      obtain ⟨m, hm⟩ : ∃ m, Aside0 (es.length = m) := ⟨_, ⟨rfl⟩⟩
      rw [hm.out] at HS2 ⊢
      go_upto_region 5 with (fail)
      have hba := below_alloc (Below.refl w2.heap.size w2) (.cells #[.int .i64 0, .int .i64 0] 44)
      have hbx := blk_new w2 (.cells #[.int .i64 0, .int .i64 0] 44)
      obtain ⟨w3, hw3⟩ : ∃ w3 : World, w2.alloc (.cells #[.int .i64 0, .int .i64 0] 44) = w3 := ⟨_, rfl⟩
      rw [hw3] at hba hbx ⊢
      have HS3 := Aside0.mk (Kd.S_below HS2.out hba)
      have HB3 := Aside0.mk (HB2.out.trans (hba.mono HB2.out.size))
      have f0 := (blk_cell hbx 0).trans rfl
      have f1 := (blk_cell hbx 1).trans rfl
      clear hba hbx hw3 HS2 HB2
      have HPr := grammar_Print.calls A2 c2 es s 0 w3 (Kd.S_reads' HS3.out).2.2 (by rw [hm.out]; exact (Kd.S_reads' HS3.out).2.1) HPR.out
      rw [hm.out] at HPr
      have HPr := Aside0.mk HPr
      go_wp2_with fail
      refine HPr.out.mono ?_
      rintro e w4 ⟨rfl, hb4⟩
      have HB4 := Aside0.mk (HB3.out.trans (hb4.mono HB3.out.size))
      have HS4 := Aside0.mk (Kd.S_below HS3.out hb4)
      clear hb4 HPr f0 f1 HS3 HB3
      have HPc := Aside0.mk (grammar_Parse.calls (some ⟨w4.heap.size, 0, none⟩) (grownCap w4 s.size 0 5) (bytesOf s) es 0 0 (convW w4 s) (convW_reads w4 s (by have := HSZ.out; have := HLL.out; omega)) (convW_cap w4 s) ((HG.out w4 HB4.out).below (convW_below w4 s)) HPB.out)
      rw [bytesOf_len] at HPc
      have hcv := conv_run w4 s
      have hBv := Aside0.mk (convW_below w4 s)
      have hz := Aside0.mk (convW_size w4 s)
      go_wp2_with fail
      refine HPc.out.mono ?_
      rintro e w5 ⟨v, rfl, hS, hb5⟩
      obtain ⟨A5, c5, rfl⟩ := Kd.S_slice hS
      have h45 := hBv.out.trans (hb5.mono (by rw [hz.out]; omega))
      have HB5 := Aside0.mk (HB4.out.trans (h45.mono HB4.out.size))
      have HS5 := Aside0.mk (Kd.S_below HS4.out h45)
      have HT5 := Aside0.mk hS
      clear hS hb5 hcv HPc hBv hz h45 HS4 HB4
      rw [hm.out] at HT5 ⊢
      go_upto_region 9 with (fail)
      have hba := below_alloc (Below.refl w5.heap.size w5) (.cells #[.int .i64 0, .int .i64 0] 44)
      have hbx := blk_new w5 (.cells #[.int .i64 0, .int .i64 0] 44)
      obtain ⟨w6, hw6⟩ : ∃ w6 : World, w5.alloc (.cells #[.int .i64 0, .int .i64 0] 44) = w6 := ⟨_, rfl⟩
      rw [hw6] at hba hbx ⊢
      have HS6 := Aside0.mk (Kd.S_below HS5.out hba)
      have HT6 := Aside0.mk (Kd.S_below HT5.out hba)
      have HB6 := Aside0.mk (HB5.out.trans (hba.mono HB5.out.size))
      have HBX := Aside0.mk hbx
      clear hba hbx hw6 HS5 HT5 HB5
      have HPr := grammar_Print.calls A5 c5 es s 0 w6 (Kd.S_reads' HT6.out).2.2 (by rw [hm.out]; exact (Kd.S_reads' HT6.out).2.1) HPR.out
      rw [hm.out] at HPr
      have HPr := Aside0.mk HPr
      go_wp2_with fail
      refine HPr.out.mono ?_
      rintro e w7 ⟨rfl, hb7⟩
      have HB7 := Aside0.mk (HB6.out.trans (hb7.mono HB6.out.size))
      have HS7 := Aside0.mk (Kd.S_below HS6.out hb7)
      have HT7 := Aside0.mk (Kd.S_below HT6.out hb7)
      have hbx7 := (hb7.block w5.heap.size (blk_lt HBX.out)).trans HBX.out
      have f0 := (blk_cell hbx7 0).trans rfl
      have f1 := (blk_cell hbx7 1).trans rfl
      clear hb7 HPr HS6 HT6 HB6 hbx7
      have HQ := armisticekit_SameEvents.calls A2 c2 es A5 c5 es true w7 (Kd.S_reads' HS7.out).2.2 (by rw [hm.out]; exact (Kd.S_reads' HS7.out).2.1) (Kd.S_reads' HT7.out).2.2 (by rw [hm.out]; exact (Kd.S_reads' HT7.out).2.1) HSM.out
      rw [hm.out] at HQ
      have HQ := Aside0.mk HQ
      have d1 : IntKind.i64.wrap ((n : Int) + 1) = (n : Int) + 1 := IntWalk.i64_in _ (by have := HLL.out; omega)
      have d2 := decide_eq_true (show (s.size : Int) ≤ (n : Int) + 1 by have := HSZ.out; omega)
      have d3 : (s.size : Int) ≤ (n : Int) + 1 := by have := HSZ.out; omega
      go_wp2_with fail
      refine HQ.out.mono ?_
      rintro e w8 ⟨rfl, hd8⟩
      have HB8 := Aside0.mk (HB7.out.trans (hd8.mono HB7.out.size))
      clear hd8 HQ
      go_wp2
      exact bodyPost_ret (results_tmp rfl _ _ _) rfl ⟨by simp, HB8.out⟩
    · have HPa := Aside0.mk (fun w' (hb : Below w.heap.size w w') => grammar_Parse.calls A c l [] E P w' (Kd.C_below hr hb) hc (hG.below hb) hpa)
      obtain ⟨n, hn⟩ : ∃ n, Aside0 (l.length = n) := ⟨_, ⟨rfl⟩⟩
      rw [hn.out] at HPa hl hP1 ⊢
      have b0 := decide_eq_false (show ¬ (1500 : Int) < (n : Int) by omega)
      have b0n := decide_eq_false (show ¬ 1500 < n by omega)
      have b1 : (E != 0) = true := bne_iff_ne.mpr hE
      have b2 := decide_eq_true hP0
      have b3 := decide_eq_true hP1
      clear hr hpa hl hE hP0 hP1
      go_enter Tryz.func8, Tryz.ntmps8
      go_wp2_with fail
      refine HK.out.mono ?_
      rintro e w1 ⟨rfl, hb1⟩
      have HB1 := Aside0.mk hb1
      clear hb1
      go_wp2_with fail
      refine (HPa.out w1 HB1.out).mono ?_
      rintro e w2 ⟨v, rfl, hS, hb2⟩
      obtain ⟨A2, c2, rfl⟩ := Kd.S_slice hS
      have HB2 := Aside0.mk (HB1.out.trans (hb2.mono HB1.out.size))
      clear hb2 hS HPa HK
      go_wp2
      exact bodyPost_ret (results_tmp rfl _ _ _) rfl ⟨by simp, HB2.out.alloc HB2.out.size _⟩
  · obtain ⟨n, hn⟩ : ∃ n, Aside0 (l.length = n) := ⟨_, ⟨rfl⟩⟩
    rw [hn.out] at hl ⊢
    have b0 := decide_eq_true (show (1500 : Int) < (n : Int) by omega)
    have b0n := decide_eq_true (show 1500 < n by omega)
    clear hr hl
    go_enter Tryz.func8, Tryz.ntmps8
    go_wp2_with fail
    refine HK.out.mono ?_
    rintro e w1 ⟨rfl, hb1⟩
    go_wp2
    go_ret
    exact ⟨rfl, hb1⟩
end Go.Proofs.YtkjnbfjbdlcehaaGreatDoor.P
