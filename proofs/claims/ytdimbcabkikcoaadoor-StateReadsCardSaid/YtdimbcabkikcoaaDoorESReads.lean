/- StateReads walked: for any bytes and any text the law tells true. -/
import Derived.Test.YtdimbcabkikcoaaDoorM5Ref
import Derived.Test.YtdimbcabkikcoaaDoorELent
import Derived.Outline
import Derived.Test.YtdimbcabkikcoaaDoorPx11
import Derived.Test.YtdimbcabkikcoaaDoorPx3
import Derived.Test.YtdimbcabkikcoaaDoorPx8
import Derived.Test.YtdimbcabkikcoaaDoorPx10
import Derived.Test.YtdimbcabkikcoaaDoorPx5
import Derived.Test.YtdimbcabkikcoaaDoorPx7
namespace Go.Proofs.YtdimbcabkikcoaaDoor.P
open Go.RowKit Go.Proofs.YtdimbcabkikcoaaDoorW.PrintWords Go.Proofs.YtdimbcabkikcoaaDoorW.PrintLast Go.Proofs.YtdimbcabkikcoaaDoorW.PrintMore
set_option linter.unusedVariables false
set_option linter.unusedSimpArgs false
theorem isByte_of_lit {x : Int} (h : (Lit.int .u8 x).wf = true) : isByte x := by
  unfold isByte
  unfold Lit.wf at h
  simp only [Bool.and_eq_true, decide_eq_true_eq] at h
  have e1 : IntKind.u8.min = 0 := by decide +kernel
  have e2 : IntKind.u8.max = 255 := by decide +kernel
  rw [e1, e2] at h
  omega
theorem awake5 (w : World) (hG : GOk w) : Calls Tryd.prog 8 #[] w fun e w' => e = .returned (.bool true) ∧ Below w.heap.size w w' :=
  armisticelaw05_awake.calls 40 true rfl w hG (by kernel_rfl)
theorem R_slice {w : World} {base : Nat} {ok : Nat → Prop} {v : Value} {xs : List Int} (h : (Kd.int .i64).R 3 w base ok v xs) : ∃ A c, v = .slice A xs.length c := own_slice (Kd.own_of_R h)
theorem over_total (t n : Int) (l : List Int) (hl : l.length ≤ 1000000) : ∃ k r, armisticekit_OverState.f k t n l = some r := by
  have hgo : ∀ (m j : Nat) (x : List Int), x.length = l.length → j + m = l.length → ∃ r, armisticekit_OverInts.l0 (m + 1) x (j : Int) = some r := by
    intro m
    induction m with
    | zero =>
      intro j x hx hj
      rw [armisticekit_OverInts.l0, if_neg (by omega)]
      exact ⟨_, rfl⟩
    | succ m ih =>
      intro j x hx hj
      have e2 : wrap64 ((j : Int) + 1) = ((j + 1 : Nat) : Int) := by unfold wrap64; omega
      rw [armisticekit_OverInts.l0, if_pos (by omega), if_pos (by omega), e2]
      exact ih (j + 1) _ (by simp [hx]) (by omega)
  obtain ⟨r, hr⟩ := hgo l.length 0 l rfl (by omega)
  refine ⟨l.length + 1, r, ?_⟩
  unfold armisticekit_OverState.f armisticekit_OverInts.f
  rw [show ((0 : Nat) : Int) = 0 from rfl] at hr
  rw [hr]
  rfl
set_option maxHeartbeats 8000000 in
set_option maxRecDepth 100000 in
theorem reads_law (A0 : Option Addr) (c0 : Nat) (l0 : List Int) (a1 : ByteArray) (w : World) (hr0 : Kd.C (Kd.int .u8) w A0 l0.length l0) (hc0 : l0.length ≤ c0) (hb : ∀ x ∈ l0, isByte x) (hG : GOk w) :
    Calls Tryd.prog 3 #[.slice A0 l0.length c0, .string a1] w fun e w' => e = .returned (.bool true) ∧ Below w.heap.size w w' := by
  have HR0 := Aside0.mk hr0
  have HC0 := Aside0.mk hc0
  have HBY := Aside0.mk hb
  have HG := Aside0.mk hG
  have hu27 := Tryd.underlying27
  have hu32 := Tryd.underlying32
  clear hr0 hc0 hb hG
  by_cases c1 : 500 < l0.length
  · have d1 : decide (500 < (l0.length : Int)) = true := decide_eq_true (by omega)
    have d1n : decide (500 < l0.length) = true := decide_eq_true c1
    clear c1
    go_enter Tryd.func3, Tryd.ntmps3
    go_wp2_with fail
    refine (awake5 _ HG.out).mono ?_
    rintro e w1 ⟨rfl, hb1⟩
    have HB1 := Aside0.mk hb1
    clear hb1
    go_wp2
    refine bodyPost_ret (results_tmp rfl _ _ _) rfl ?_
    exact ⟨rfl, HB1.out⟩
  have d1 : decide (500 < (l0.length : Int)) = false := decide_eq_false (by omega)
  have d1n : decide (500 < l0.length) = false := decide_eq_false c1
  by_cases c2 : 500 < a1.size
  · have d2 : decide (500 < (a1.size : Int)) = true := decide_eq_true (by omega)
    have d2n : decide (500 < a1.size) = true := decide_eq_true c2
    clear c1 c2
    go_enter Tryd.func3, Tryd.ntmps3
    go_wp2_with fail
    refine (awake5 _ HG.out).mono ?_
    rintro e w1 ⟨rfl, hb1⟩
    have HB1 := Aside0.mk hb1
    clear hb1
    go_wp2
    refine bodyPost_ret (results_tmp rfl _ _ _) rfl ?_
    exact ⟨rfl, HB1.out⟩
  have d2 : decide (500 < (a1.size : Int)) = false := decide_eq_false (by omega)
  have d2n : decide (500 < a1.size) = false := decide_eq_false c2
  have HL0 := Aside0.mk (show l0.length ≤ 500 by omega)
  have HA1 := Aside0.mk (show a1.size ≤ 500 by omega)
  obtain ⟨t, n, l, e, hd, _, _, hll⟩ := dec_total l0 (by omega)
  have hD1 := decode_f l0 HBY.out (by omega) 1000020 (Nat.le_refl _)
  have hD2 := ref_decode l0 HBY.out (by omega) 2000020 (Nat.le_refl _)
  rw [hd] at hD1 hD2
  obtain ⟨t', n', l', e', a', hr, _, _, hrr⟩ := read_all a1 (by omega)
  have hll' : l'.length ≤ 1000 := by
    rcases hrr with ⟨_, _, _, _, _, h, _⟩ | ⟨_, _, _, rfl⟩
    · omega
    · simp
  have hR2 := ref_read a1 (by omega) 4000040 (Nat.le_refl _)
  rw [hr] at hR2
  obtain ⟨kO, rO, hO⟩ := over_total t n l hll
  have HD1 := Aside0.mk hD1
  have HD2 := Aside0.mk hD2
  have HR1 := Aside0.mk hr
  have HR2 := Aside0.mk hR2
  have HOV := Aside0.mk hO
  have HS1 := Aside0.mk (sameState_f t n l t n l (by omega) (l.length + 1) (Nat.le_refl _))
  have HS2 := Aside0.mk (sameState_f t' n' l' t' n' l' (by omega) (l'.length + 1) (Nat.le_refl _))
  simp only [and_self, decide_true] at HS1 HS2
  clear hd hD1 hD2 hr hrr hR2 hO hll hll' c1 c2
  go_enter Tryd.func3, Tryd.ntmps3
  go_wp2_with fail
  refine (Lent_calls A0 c0 l0 _ HR0.out HC0.out (by have := HL0.out; omega)).mono ?_
  rintro x w1 ⟨A, c, rfl, hc, hR, hb1⟩
  have HB1 := Aside0.mk hb1
  have hf := (Kd.R_reads' hR).2.2
  have hrl : Kd.C (Kd.int .u8) w1 A l0.length l0 := by
    have h4 : (l0 ++ fours).length = l0.length + 4 := by rw [List.length_append]; rfl
    have := Kd.C_take (m := l0.length) hf (by omega)
    simpa using this
  have HF := Aside0.mk hf
  have HRL := Aside0.mk hrl
  have HC := Aside0.mk hc
  clear hf hrl hc hR hb1
  go_wp2_with fail
  refine (state_Decode.calls 1000020 A c l0 t n l e w1 HRL.out (by have := HC.out; omega) HD1.out).mono ?_
  rintro x w2 ⟨v, rfl, hv, hb2⟩
  obtain ⟨A2, c2, rfl⟩ := R_slice hv
  have HV := Aside0.mk hv
  have HB2 := Aside0.mk hb2
  clear hv hb2
  have HF1 := Aside0.mk ((Below.refl _ w2).alloc (Nat.le_refl _) (.cells #[.int .i64 t, .int .i64 n, .slice A2 l.length c2] 27) : Below w2.heap.size w2 (w2.alloc (.cells #[.int .i64 t, .int .i64 n, .slice A2 l.length c2] 27)))
  have HB12 := Aside0.mk (HB1.out.trans (HB2.out.mono HB1.out.size))
  go_wp2_with fail
  refine (armisticeref05_Decode.calls 2000020 A0 c0 l0 t n l e _ (Kd.C_below HR0.out (HB12.out.trans (HF1.out.mono HB12.out.size))) HC0.out HD2.out).mono ?_
  rintro x w3 ⟨v3, rfl, hv3, hb3⟩
  obtain ⟨A3, c3, rfl⟩ := R_slice hv3
  have HV3 := Aside0.mk (Kd.R_lower hv3 HF1.out.size)
  have HB3 := Aside0.mk (HF1.out.trans (hb3.mono HF1.out.size))
  have HX := Aside0.mk (blk_below (blk_new w2 _) hb3)
  have HB13 := Aside0.mk (HB12.out.trans (HB3.out.mono HB12.out.size))
  clear hv3 hb3
  have HF2 := Aside0.mk ((Below.refl _ w3).alloc (Nat.le_refl _) (.cells #[.int .i64 t, .int .i64 n, .slice A3 l.length c3] 27) : Below w3.heap.size w3 (w3.alloc (.cells #[.int .i64 t, .int .i64 n, .slice A3 l.length c3] 27)))
  go_wp2_with fail
  refine (state_Read.calls a1 t' n' l' e' a' _ (HG.out.below (HB13.out.trans (HF2.out.mono HB13.out.size))) HR1.out).mono ?_
  rintro x w4 ⟨v4, rfl, hv4, hb4⟩
  obtain ⟨A4, c4, rfl⟩ := R_slice hv4
  have HB4 := Aside0.mk (HF2.out.trans (hb4.mono HF2.out.size))
  have HV4 := Aside0.mk hv4
  have HY := Aside0.mk (blk_below (blk_new w3 _) hb4)
  have HX4 := Aside0.mk (blk_below HX.out HB4.out)
  have HB14 := Aside0.mk (HB13.out.trans (HB4.out.mono HB13.out.size))
  clear hv4 hb4
  have HF3 := Aside0.mk (below_alloc (below_alloc (Below.refl _ _) _) _ : Below w4.heap.size w4 ((w4.alloc (.cells #[.int .i64 t', .int .i64 n', .slice A4 l'.length c4] 27)).alloc (.cells #[.int .i64 e', .int .i64 a'] 32)))
  go_wp2_with fail
  refine (armisticeref05_Read.calls 4000040 a1 t' n' l' e' a' _ HR2.out).mono ?_
  rintro x w5 ⟨v5, rfl, hv5, hb5⟩
  obtain ⟨A5, c5, rfl⟩ := R_slice hv5
  have HB5 := Aside0.mk (HF3.out.trans (hb5.mono HF3.out.size))
  have HV5 := Aside0.mk hv5
  have HSB := Aside0.mk (blk_below (blk_alloc (blk_new w4 (.cells #[.int .i64 t', .int .i64 n', .slice A4 l'.length c4] 27)) (.cells #[.int .i64 e', .int .i64 a'] 32)) hb5)
  have hg0 := blk_below (blk_new (w4.alloc (.cells #[.int .i64 t', .int .i64 n', .slice A4 l'.length c4] 27)) (.cells #[.int .i64 e', .int .i64 a'] 32)) hb5
  have e41 : (w4.alloc (.cells #[.int .i64 t', .int .i64 n', .slice A4 l'.length c4] 27)).heap.size = w4.heap.size + 1 := by simp
  rw [e41] at hg0
  have HGB := Aside0.mk hg0
  have HX5 := Aside0.mk (blk_below HX4.out HB5.out)
  have HY5 := Aside0.mk (blk_below HY.out HB5.out)
  have HB15 := Aside0.mk (HB14.out.trans (HB5.out.mono HB14.out.size))
  clear hv5 hb5 hg0 e41
  obtain ⟨w6, hw6⟩ : ∃ W, W = (w5.alloc (.cells #[.int .i64 t', .int .i64 n', .slice A5 l'.length c5] 27)).alloc (.cells #[.int .i64 e', .int .i64 a'] 32) := ⟨_, rfl⟩
  have hb6 : Below w5.heap.size w5 w6 := by rw [hw6]; exact below_alloc (below_alloc (Below.refl _ _) _) _
  have x6 := blk_below HX5.out hb6
  have y6 := blk_below HY5.out hb6
  have s6 := blk_below HSB.out hb6
  have g6 := blk_below HGB.out hb6
  have t6 : w6.heap[w5.heap.size]? = some (.cells #[.int .i64 t', .int .i64 n', .slice A5 l'.length c5] 27) := by rw [hw6]; exact blk_alloc (blk_new w5 _) _
  have h6 : w6.heap[w5.heap.size + 1]? = some (.cells #[.int .i64 e', .int .i64 a'] 32) := by
    have h := blk_new (w5.alloc (.cells #[.int .i64 t', .int .i64 n', .slice A5 l'.length c5] 27)) (.cells #[.int .i64 e', .int .i64 a'] 32)
    have e51 : (w5.alloc (.cells #[.int .i64 t', .int .i64 n', .slice A5 l'.length c5] 27)).heap.size = w5.heap.size + 1 := by simp
    rw [e51, ← hw6] at h
    exact h
  have HB6 := Aside0.mk hb6
  have HX6 := Aside0.mk x6
  have HY6 := Aside0.mk y6
  have HS6 := Aside0.mk s6
  have HG6 := Aside0.mk g6
  have HT6 := Aside0.mk t6
  have HH6 := Aside0.mk h6
  have HW6 := Aside0.mk hw6
  clear hb6 x6 y6 s6 g6 t6 h6 hw6
  go_upto_region 8 with fail
  rw [← HW6.out]
  have cx0 := (blk_cell HX6.out 0).trans rfl
  have cx1 := (blk_cell HX6.out 1).trans rfl
  have cx2 := (blk_cell HX6.out 2).trans rfl
  have cy0 := (blk_cell HY6.out 0).trans rfl
  have cy1 := (blk_cell HY6.out 1).trans rfl
  have cy2 := (blk_cell HY6.out 2).trans rfl
  have HV6 := Aside0.mk (Kd.R_below HV.out (HB3.out.trans ((HB4.out.trans ((HB5.out.trans (HB6.out.mono HB5.out.size)).mono HB4.out.size)).mono HB3.out.size)))
  have HV36 := Aside0.mk (Kd.R_below HV3.out (HB4.out.trans ((HB5.out.trans (HB6.out.mono HB5.out.size)).mono HB4.out.size)))
  go_wp2_with fail
  clear cx0 cx1 cx2 cy0 cy1 cy2
  refine (armisticekit_SameState.calls _ t n A2 c2 l t n A3 c3 l true w6 (Kd.R_reads' HV6.out).2.2 (Kd.R_reads' HV6.out).2.1 (Kd.R_reads' HV36.out).2.2 (Kd.R_reads' HV36.out).2.1 HS1.out).mono ?_
  rintro x w7 ⟨rfl, hb7⟩
  have HB7 := Aside0.mk hb7
  have HS7 := Aside0.mk (blk_below HS6.out hb7)
  have HT7 := Aside0.mk (blk_below HT6.out hb7)
  have HG7 := Aside0.mk (blk_below HG6.out hb7)
  have HH7 := Aside0.mk (blk_below HH6.out hb7)
  have HX7 := Aside0.mk (blk_below HX6.out hb7)
  clear hb7
  have cs0 := (blk_cell HS7.out 0).trans rfl
  have cs1 := (blk_cell HS7.out 1).trans rfl
  have cs2 := (blk_cell HS7.out 2).trans rfl
  have ct0 := (blk_cell HT7.out 0).trans rfl
  have ct1 := (blk_cell HT7.out 1).trans rfl
  have ct2 := (blk_cell HT7.out 2).trans rfl
  have HV47 := Aside0.mk (Kd.R_below HV4.out (HB5.out.trans ((HB6.out.trans (HB7.out.mono HB6.out.size)).mono HB5.out.size)))
  have HV57 := Aside0.mk (Kd.R_below HV5.out (HB6.out.trans (HB7.out.mono HB6.out.size)))
  go_wp2_with fail
  clear cs0 cs1 cs2 ct0 ct1 ct2
  refine (armisticekit_SameState.calls _ t' n' A4 c4 l' t' n' A5 c5 l' true w7 (Kd.R_reads' HV47.out).2.2 (Kd.R_reads' HV47.out).2.1 (Kd.R_reads' HV57.out).2.2 (Kd.R_reads' HV57.out).2.1 HS2.out).mono ?_
  rintro x w8 ⟨rfl, hb8⟩
  have HB8 := Aside0.mk hb8
  have HG8 := Aside0.mk (blk_below HG7.out hb8)
  have HH8 := Aside0.mk (blk_below HH7.out hb8)
  have HX8 := Aside0.mk (blk_below HX7.out hb8)
  clear hb8
  have cg0 := (blk_cell HG8.out 0).trans rfl
  have cg1 := (blk_cell HG8.out 1).trans rfl
  have ch0 := (blk_cell HH8.out 0).trans rfl
  have ch1 := (blk_cell HH8.out 1).trans rfl
  have cx0 := (blk_cell HX8.out 0).trans rfl
  have cx1 := (blk_cell HX8.out 1).trans rfl
  have cx2 := (blk_cell HX8.out 2).trans rfl
  have HB28 := Aside0.mk (HB3.out.trans ((HB4.out.trans ((HB5.out.trans ((HB6.out.trans ((HB7.out.trans (HB8.out.mono HB7.out.size)).mono HB6.out.size)).mono HB5.out.size)).mono HB4.out.size)).mono HB3.out.size))
  have HB18 := Aside0.mk (HB2.out.trans (HB28.out.mono HB2.out.size))
  have HV8 := Aside0.mk (Kd.R_below HV.out HB28.out)
  go_wp2_with fail
  clear cg0 cg1 ch0 ch1 cx0 cx1 cx2
  refine (armisticekit_OverState.calls kO t n (fun _ => True) (.slice A2 l.length c2) l rO w1 w8 HB18.out HV8.out HOV.out).mono ?_
  rintro x w9 ⟨rfl, _, hb9, _⟩
  have HB9 := Aside0.mk hb9
  have HB09 := Aside0.mk (HB1.out.trans (hb9.mono HB1.out.size))
  clear hb9
  go_wp2_with fail
  refine (Kept_calls A c A0 c0 l0 w9 (Kd.C_below HF.out HB9.out) HC.out (Kd.C_below HR0.out HB09.out) HC0.out (by have := HL0.out; omega)).mono ?_
  rintro x w10 ⟨rfl, hb10⟩
  have HB10 := Aside0.mk (HB09.out.trans (hb10.mono HB09.out.size))
  clear hb10
  go_wp2_with fail
  refine (awake5 w10 (HG.out.below HB10.out)).mono ?_
  rintro x w11 ⟨rfl, hb11⟩
  have HB11 := Aside0.mk (HB10.out.trans (hb11.mono HB10.out.size))
  clear hb11
  go_wp2
  refine bodyPost_ret (results_tmp rfl _ _ _) rfl ?_
  exact ⟨rfl, HB11.out⟩
end Go.Proofs.YtdimbcabkikcoaaDoor.P
