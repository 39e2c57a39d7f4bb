/- armisticelaw24.StoreHashes: which hash bytes have, and which numbers of buckets there may be. -/
import Derived.Test.YtapnegdigghomaaERef24
import Derived.Test.YtapnegdigghomaaELent
namespace Go.Proofs.Ytapnegdigghomaa.P
open Go.RowKit Go.Proofs.YtapnegdigghomaaW.PrintWords Go.Proofs.YtapnegdigghomaaW.PrintLast Go.Proofs.YtapnegdigghomaaW.PrintMore Go.Maps
set_option linter.unusedVariables false
set_option linter.unusedSimpArgs false
set_option maxHeartbeats 4000000 in
set_option maxRecDepth 100000 in
theorem Hashes_calls (sd : Int) (A0 : Option Addr) (c0 : Nat) (b : List Int) (bk : Int) (w : World) (hr : Kd.C (Kd.int .u8) w A0 b.length b) (hc : b.length ≤ c0) :
    Calls Try.prog 3 #[.int .i64 sd, .slice A0 b.length c0, .int .i64 bk] w fun e w' => e = .returned (.bool true) ∧ Below w.heap.size w w' := by
  by_cases hl : 200 < b.length
  · have d0 : decide ((200 : Int) < (b.length : Int)) = true := decide_eq_true (by omega)
    clear hr
    go_enter Try.func3, Try.ntmps3
    go_wp2_with fail
    refine (awake_calls w).mono ?_
    rintro e w2 ⟨rfl, hb⟩
    go_wp2
    go_ret
    exact ⟨rfl, hb⟩
  · have d0 : decide ((200 : Int) < (b.length : Int)) = false := decide_eq_false (by omega)
    have HLe := Aside0.mk (Lent_calls A0 c0 b w hr hc (by omega))
    have HR := Aside0.mk hr
    have HLL := Aside0.mk hl
    have hh := hashI_range sd b
    clear hr hl
    go_enter Try.func3, Try.ntmps3
    go_wp2_with fail
    refine HLe.out.mono ?_
    rintro e w1 ⟨A, c, rfl, hc4, hR, hb⟩
    have hC : Kd.C (Kd.int .u8) w1 A (b ++ fours).length (b ++ fours) := (Kd.R_reads' hR).2.2
    have hCb : Kd.C (Kd.int .u8) w1 A b.length b := by
      have := Kd.C_take (m := b.length) hC (by rw [List.length_append]; omega)
      simpa using this
    have HC := Aside0.mk hC
    have HCb := Aside0.mk hCb
    have HB1 := Aside0.mk hb
    clear hC hCb hb hR HLe
    obtain ⟨hv, hhv⟩ : ∃ h, Aside0 (hashI sd b = h) := ⟨_, ⟨rfl⟩⟩
    have HH := Aside0.mk (fun w' (hb : Below w1.heap.size w1 w') => Hash_calls sd A c b (by omega) (by have := HLL.out; omega) w' (Kd.C_below HCb.out hb))
    have HRH := Aside0.mk (fun w' (hb : Below w1.heap.size w1 w') => RHash_calls sd A0 c0 b hc (by have := HLL.out; omega) w' (Kd.C_below HR.out (HB1.out.trans (hb.mono HB1.out.size))))
    have HKp := Aside0.mk (fun w' (hb : Below w1.heap.size w1 w') => Kept_calls A c A0 c0 b w' (Kd.C_below HC.out hb) hc4 (Kd.C_below HR.out (HB1.out.trans (hb.mono HB1.out.size))) hc (by have := HLL.out; omega))
    rw [hhv.out] at HH HRH hh
    by_cases hk : 1 ≤ bk ∧ bk ≤ 65536
    · go_wp2_with fail
      refine (New_yes sd bk w1 hk.1 hk.2).mono ?_
      rintro e w2 ⟨rfl, _, hb⟩
      have HB2 := Aside0.mk hb
      clear hb
      go_wp2_with fail
      refine (RNew_yes sd bk w2 hk.1 hk.2).mono ?_
      rintro e w3 ⟨rfl, _, hb⟩
      have HB3 := Aside0.mk (HB2.out.trans (hb.mono HB2.out.size))
      clear hb
      go_wp2_with fail
      refine (HH.out w3 HB3.out).mono ?_
      rintro e w4 ⟨rfl, hb⟩
      have HB4 := Aside0.mk (HB3.out.trans (hb.mono HB3.out.size))
      clear hb
      go_wp2_with fail
      refine (HRH.out w4 HB4.out).mono ?_
      rintro e w5 ⟨rfl, hd⟩
      have HB5 := Aside0.mk (HB4.out.trans (hd.below.mono HB4.out.size))
      clear hd
      go_wp2_with fail
      refine (HKp.out w5 HB5.out).mono ?_
      rintro e w6 ⟨rfl, hb⟩
      have HB6 := Aside0.mk (HB5.out.trans (hb.mono HB5.out.size))
      clear hb
      go_wp2_with fail
      refine (awake_calls w6).mono ?_
      rintro e w7 ⟨rfl, hb⟩
      have HB7 := Aside0.mk (HB6.out.trans (hb.mono HB6.out.size))
      clear hb
      go_wp2
      go_ret
      exact ⟨rfl, HB1.out.trans (HB7.out.mono HB1.out.size)⟩
    · have hk2 : bk < 1 ∨ 65536 < bk := by omega
      clear hk
      go_wp2_with fail
      refine (New_no sd bk w1 hk2).mono ?_
      rintro e w1 ⟨rfl, rfl⟩
      go_wp2_with fail
      refine (RNew_no sd bk w1 hk2).mono ?_
      rintro e w1 ⟨rfl, rfl⟩
      clear hk2
      go_wp2_with fail
      refine (HH.out w1 (Below.refl _ _)).mono ?_
      rintro e w4 ⟨rfl, hb⟩
      have HB4 := Aside0.mk hb
      clear hb
      go_wp2_with fail
      refine (HRH.out w4 HB4.out).mono ?_
      rintro e w5 ⟨rfl, hd⟩
      have HB5 := Aside0.mk (HB4.out.trans (hd.below.mono HB4.out.size))
      clear hd
      go_wp2_with fail
      refine (HKp.out w5 HB5.out).mono ?_
      rintro e w6 ⟨rfl, hb⟩
      have HB6 := Aside0.mk (HB5.out.trans (hb.mono HB5.out.size))
      clear hb
      go_wp2_with fail
      refine (awake_calls w6).mono ?_
      rintro e w7 ⟨rfl, hb⟩
      have HB7 := Aside0.mk (HB6.out.trans (hb.mono HB6.out.size))
      clear hb
      go_wp2
      go_ret
      exact ⟨rfl, HB1.out.trans (HB7.out.mono HB1.out.size)⟩
end Go.Proofs.Ytapnegdigghomaa.P
