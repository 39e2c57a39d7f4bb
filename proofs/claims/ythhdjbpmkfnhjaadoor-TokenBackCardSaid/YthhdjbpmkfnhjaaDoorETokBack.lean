/- armisticelaw02.TokenBack, walked: what is joined is a line of just these words. -/
import Derived.Test.YthhdjbpmkfnhjaaDoorM02Back
import Derived.Test.YthhdjbpmkfnhjaaDoorETokLines
import Derived.Test.YthhdjbpmkfnhjaaDoorPx7
namespace Go.Proofs.YthhdjbpmkfnhjaaDoor.Pure
open Go.RowKit Go.Proofs.YthhdjbpmkfnhjaaDoor.P Go.Proofs.YthhdjbpmkfnhjaaDoorW.PrintWords Go.Proofs.YthhdjbpmkfnhjaaDoorW.PrintLast Go.Proofs.YthhdjbpmkfnhjaaDoorW.PrintMore
set_option linter.unusedVariables false
set_option linter.unusedSimpArgs false
theorem tk_true : armisticelaw02_TokenKnown.f = some true := by kernel_rfl
theorem sumB_bound (l : List ByteArray) (h : ∀ s ∈ l, s.size ≤ 140737488351232) : sumS l ≤ 140737488351232 * l.length := by
  induction l with
  | nil => simp [sumS]
  | cons x l ih =>
    have h1 := ih (fun s hs => h s (List.mem_cons_of_mem _ hs))
    have h2 := h x List.mem_cons_self
    rw [sumS_cons, List.length_cons]
    omega
theorem sumS_take1 (l : List ByteArray) (i : Nat) (hi : i < l.length) : sumS (l.take (i + 1)) = sumS (l.take i) + l[i].size := by
  rw [List.take_succ_eq_append_getElem hi, sumS_app]
  simp [sumS]
theorem sum_step (l : List ByteArray) (h : ∀ s ∈ l, s.size ≤ 140737488351232) (i : Nat) (hi : i < l.length) (h41 : i < 41) : wrap64 ((sumS (l.take i) : Int) + ((rdOf ByteArray.empty l (i : Int)).size : Int)) = (sumS (l.take (i + 1)) : Int) := by
  have hb := sumB_bound (l.take i) (fun s hs => h s (List.mem_of_mem_take hs))
  have hx := h l[i] (List.getElem_mem hi)
  have ht : (l.take i).length ≤ 41 := by rw [List.length_take]; omega
  have hr : rdOf ByteArray.empty l (i : Int) = l[i] := by simp [rdOf, hi]
  rw [sumS_take1 l i hi, hr]
  unfold wrap64
  omega
set_option maxHeartbeats 8000000 in
set_option maxRecDepth 100000 in
theorem TokenBack_walk (A0 : Option Addr) (c0 : Nat) (l0 : List ByteArray) (w : World) (hr0 : Kd.C Kd.string w A0 l0.length l0) (hc0 : l0.length ≤ c0) (hS0 : ∀ s ∈ l0, s.size ≤ 140737488351232) (hl0 : l0.length ≤ 140737488351232) :
    Calls Tryd.prog 6 #[.slice A0 l0.length c0] w fun e w' => e = .returned (.bool true) ∧ Below w.heap.size w w' := by
  have HR0 := Aside0.mk hr0
  have HC0 := Aside0.mk hc0
  have HS0 := Aside0.mk hS0
  have HL0 := Aside0.mk hl0
  have hTK : armisticelaw02_TokenKnown.f = some true := tk_true
  have HTK := Aside0.mk hTK
  clear hr0 hc0 hS0 hl0 hTK
  have HB := Aside0.mk (Below.refl w.heap.size w)
  go_enter Tryd.func6, Tryd.ntmps6
  go_wp2_with fail
  refine (armisticelaw02_TokenKnown.calls true w HTK.out).mono ?_
  rintro e w1 ⟨rfl, hb1⟩
  have HB1 := Aside0.mk hb1
  clear hb1 HB
  have HB := HB1
  clear HB1
  go_upto_block 0 with (fail)
  go_cut [4] (fun v4 wc => ∃ n : Nat, v4 = .int .i64 (n : Int) ∧ Aside0 (n = sumS (l0.take (min l0.length 41))) ∧ Aside0 (Below w.heap.size w wc))
  case first =>
    go_wp2
    go_loopg [4, 5] (min l0.length 41) (fun kq v4 v5 w' => ∃ i : Nat, v4 = .int .i64 (sumS (l0.take i) : Int) ∧ v5 = .int .i64 (i : Int) ∧ Aside0 (i + kq = min l0.length 41) ∧ Aside0 (Below w.heap.size w w'))
    case atStart => exact ⟨0, by simp [sumS], rfl, ⟨by omega⟩, ⟨HB.out⟩⟩
    case round =>
      obtain ⟨i, rfl, rfl, HI, HB⟩ := hrel
      have ew : wrap64 ((i : Int) + 1) = ((i + 1 : Nat) : Int) := by have := HL0.out; have := HI.out; unfold wrap64; omega
      by_cases c1 : i < l0.length
      · have c1b : decide ((i : Int) < (l0.length : Int)) = true := decide_eq_true (by omega)
        have c1n : decide (i < l0.length) = true := decide_eq_true c1
        by_cases c2 : i < 41
        · have c2b : decide ((i : Int) < 41) = true := decide_eq_true (by omega)
          have c2n : decide (i < 41) = true := decide_eq_true c2
          have es := sum_step l0 HS0.out i c1 c2
          obtain ⟨k1, rfl⟩ : ∃ k1, gk = k1 + 1 := ⟨gk - 1, by have := HI.out; omega⟩
          have p168 : 0 ≤ (i : Int) := by omega
          have q168 : (i : Int) < (l0.length : Int) := by omega
          obtain ⟨ad168, e168, hx168_0⟩ := Kd.at_string HR0.out (i : Int) p168 q168
          cases e168
          replace hx168_0 := (HB.out.cell (World.block_lt_of_cell? w _ hx168_0)).trans hx168_0
          rw [Int.toNat_natCast] at hx168_0
          replace p168 := eq_true p168
          replace q168 := eq_true q168
          have C1 := Aside0.mk c1
          clear c1 c2
          go_wp2
          rw [ew, es]
          go_roundg k1
          case measure => omega
          case rel => exact ⟨i + 1, rfl, rfl, ⟨by have := HI.out; omega⟩, ⟨HB.out⟩⟩
        · have c2b : decide ((i : Int) < 41) = false := decide_eq_false (by omega)
          have c2n : decide (i < 41) = false := decide_eq_false c2
          have C1 := Aside0.mk c1
          have C2 := Aside0.mk c2
          clear c1 c2
          go_wp2
          go_meet
          case rel =>
            obtain rfl : i = 41 := by have := HI.out; have := C1.out; have := C2.out; omega
            refine ⟨_, rfl, ⟨?_⟩, ⟨HB.out⟩⟩
            rw [show min l0.length 41 = 41 by have := C1.out; omega]
      · have c1b : decide ((i : Int) < (l0.length : Int)) = false := decide_eq_false (by omega)
        have c1n : decide (i < l0.length) = false := decide_eq_false c1
        have C1 := Aside0.mk c1
        clear c1
        go_wp2
        go_meet
        case rel =>
          refine ⟨_, rfl, ⟨?_⟩, ⟨HB.out⟩⟩
          rw [show min l0.length 41 = i by have := HI.out; have := C1.out; omega]
  case rest =>
    obtain ⟨n, rfl, HN, HB⟩ := hcut
    by_cases c3 : 40 < l0.length
    · have c3b : decide (40 < (l0.length : Int)) = true := decide_eq_true (by omega)
      have c3n : decide (40 < l0.length) = true := decide_eq_true c3
      clear c3
      go_wp2
      refine bodyPost_ret (results_tmp rfl _ _ _) rfl ?_
      exact ⟨rfl, HB.out⟩
    · have c3b : decide (40 < (l0.length : Int)) = false := decide_eq_false (by omega)
      have c3n : decide (40 < l0.length) = false := decide_eq_false c3
      have C3 := Aside0.mk c3
      clear c3
      by_cases c4 : 1000 < n
      · have c4b : decide (1000 < (n : Int)) = true := decide_eq_true (by omega)
        have c4n : decide (1000 < n) = true := decide_eq_true c4
        clear c4
        go_wp2
        refine bodyPost_ret (results_tmp rfl _ _ _) rfl ?_
        exact ⟨rfl, HB.out⟩
      · have c4b : decide (1000 < (n : Int)) = false := decide_eq_false (by omega)
        have c4n : decide (1000 < n) = false := decide_eq_false c4
        have hn : sumS l0 ≤ 1000 := by
          have h1 := HN.out
          rw [show min l0.length 41 = l0.length by have := C3.out; omega, List.take_length] at h1
          omega
        clear c4
        obtain ⟨s, e, hj⟩ := join_some l0 (by omega) (by have := C3.out; omega)
        have hcs := join_cases l0 s e hj
        have HJ := Aside0.mk hj
        have HNN := Aside0.mk hn
        have HCS := Aside0.mk hcs
        clear hj hn hcs
        go_wp2_with fail
        refine (token_Join.calls A0 c0 l0 s e _ (Kd.C_below HR0.out HB.out) HC0.out HJ.out).mono ?_
        rintro x w2 ⟨rfl, hb2⟩
        have HB2 := Aside0.mk (HB.out.trans (hb2.mono HB.out.size))
        clear hb2 HB
        rcases HCS.out with ⟨he, rfl⟩ | ⟨rfl, hne, hs, hg, h35, hsz⟩
        · have d2 : (e != 0) = true := by simpa using he
          have d3 : (e == 0) = false := by simpa using he
          clear he
          go_wp2
          refine bodyPost_ret (results_tmp rfl _ _ _) rfl ?_
          exact ⟨rfl, HB2.out⟩
        · have hne' := Aside0.mk hne
          have hs' := Aside0.mk hs
          have hg' := Aside0.mk hg
          have h35' := Aside0.mk h35
          have hsz' := Aside0.mk hsz
          clear hne hs hg h35 hsz HCS
          have hcv := conv_run w2 (backHead ++ s ++ (⟨#[10]⟩ : ByteArray))
          unfold backHead at hcv
          go_wp2_with fail
          · exfalso
            rename_i hx
            have := hsz'.out
            omega
          · exfalso
            rename_i hx
            have := hsz'.out
            omega
          have hl2 := back_lines l0 hne'.out hg'.out (by rw [← hs'.out]; exact h35'.out) (by rw [← hs'.out]; exact hsz'.out)
          rw [← hs'.out] at hl2
          have HL := Aside0.mk hl2
          have hz := convW_reads w2 (backHead ++ s ++ (⟨#[10]⟩ : ByteArray)) (by
            rw [ByteArray.size_append, ByteArray.size_append]
            have h1 : backHead.size = 10 := rfl
            have h2 : (⟨#[10]⟩ : ByteArray).size = 1 := rfl
            have := hsz'.out
            omega)
          have hc := convW_cap w2 (backHead ++ s ++ (⟨#[10]⟩ : ByteArray))
          have hbl := bytesOf_len (backHead ++ s ++ (⟨#[10]⟩ : ByteArray))
          have e53 : (backHead ++ s ++ (⟨#[10]⟩ : ByteArray)).size = 10 + s.size + 1 := by
            rw [ByteArray.size_append, ByteArray.size_append]
            rfl
          rw [e53] at hbl
          rw [hbl] at hz
          rw [e53] at hc
          have HCL := token_Lines.calls (some ⟨w2.heap.size, 0, none⟩) (grownCap w2 (10 + s.size + 1) 0 5) _ _ _ _ _ (by rw [hbl]; exact hz) hc HL.out
          rw [hbl] at HCL
          unfold backHead at HCL
          refine HCL.mono ?_
          rintro x w3 ⟨v, rfl, hS, hb3⟩
          obtain ⟨A, c, rfl⟩ := Kd.S_slice hS
          have hb2 : Below w2.heap.size w2 w3 := (convW_below w2 _).trans (hb3.mono (by rw [convW_size]; omega))
          have HB3 := Aside0.mk (HB2.out.trans (hb2.mono HB2.out.size))
          have hR := Kd.S_reads' hS
          have HRL := Aside0.mk hR
          clear hS hb3 hb2 hR HCL hz hc hbl e53 hcv
          obtain ⟨ad, A1, c1, rfl, hx0, hx1, hlc, hC1⟩ := at_T34 HRL.out.2.2 1 (by decide) (by show (1 : Int) < ((2 : Nat) : Int); decide)
          replace hx0 : w3.cell? ⟨ad.block, ad.off + 2, none⟩ = some (.int .i64 10) := hx0
          replace hx1 : w3.cell? ⟨ad.block, ad.off + 2 + 1, none⟩ = some (.slice A1 (wordsAt 10 l0).length c1) := hx1
          have hCw : k36.C w3 A1 (wordsAt 10 l0).length (wordsAt 10 l0) := hC1
          rw [wordsAt_length] at hx1 hCw
          have hbw : Below w3.heap.size w3 (w3.alloc (.cells #[.int .i64 0, .int .i64 0] 28)) := (Below.refl _ w3).alloc (Nat.le_refl _) _
          replace hx0 := (hbw.cell (World.block_lt_of_cell? w3 _ hx0)).trans hx0
          replace hx1 := (hbw.cell (World.block_lt_of_cell? w3 _ hx1)).trans hx1
          have HCW := Aside0.mk hCw
          have HX1 := Aside0.mk hx1
          have HBW := Aside0.mk hbw
          clear hCw hC1 hlc HRL hbw
          go_upto_block 2 with fail
          have HCW := Aside0.mk (Kd.C_below HCW.out HBW.out)
          have HBWW := Aside0.mk (HB3.out.trans (HBW.out.mono HB3.out.size))
          generalize w3.alloc (.cells #[.int .i64 0, .int .i64 0] 28) = W at *
          go_wp2
          go_loopg [10, 11] l0.length (fun kq v10 v11 w' => ∃ i : Nat, v10 = .int .i64 (10 + (sumS (l0.take i) : Int) + (i : Int)) ∧ v11 = .int .i64 (i : Int) ∧ Aside0 (i + kq = l0.length) ∧ Aside0 (Below W.heap.size W w'))
          case atStart => exact ⟨0, by simp [sumS], rfl, ⟨by omega⟩, ⟨Below.refl _ _⟩⟩
          case round =>
            obtain ⟨i, rfl, rfl, HI, HB⟩ := hrel
            have hi40 : i ≤ 40 := by have := HI.out; have := C3.out; omega
            have hsi : sumS (l0.take i) ≤ 1000 := by
              have h1 : sumS l0 = sumS (l0.take i) + sumS (l0.drop i) := by rw [← sumS_app, List.take_append_drop]
              have := HNN.out
              omega
            have ew : wrap64 ((i : Int) + 1) = ((i + 1 : Nat) : Int) := by unfold wrap64; omega
            by_cases c1 : i < l0.length
            · have c1b : decide ((i : Int) < (l0.length : Int)) = true := decide_eq_true (by omega)
              have c1n : decide (i < l0.length) = true := decide_eq_true c1
              have hsz1 : l0[i].size ≤ 1000 := by
                have h1 : sumS (l0.take (i + 1)) + sumS (l0.drop (i + 1)) = sumS l0 := by rw [← sumS_app, List.take_append_drop]
                rw [sumS_take1 l0 i c1] at h1
                have := HNN.out
                omega
              have es : wrap64 (wrap64 (10 + (sumS (l0.take i) : Int) + (i : Int) + (l0[i].size : Int)) + 1) = 10 + (sumS (l0.take (i + 1)) : Int) + ((i + 1 : Nat) : Int) := by
                rw [sumS_take1 l0 i c1]
                unfold wrap64
                omega
              obtain ⟨k1, rfl⟩ : ∃ k1, gk = k1 + 1 := ⟨gk - 1, by have := HI.out; omega⟩
              have p168 : 0 ≤ (i : Int) := by omega
              have q168 : (i : Int) < (l0.length : Int) := by omega
              obtain ⟨ad168, e168, hx168_0⟩ := Kd.at_string HR0.out (i : Int) p168 q168
              cases e168
              have hr : rdOf ByteArray.empty l0 (i : Int) = l0[i] := by simp [rdOf, c1]
              replace hx168_0 := ((HBWW.out.trans (HB.out.mono HBWW.out.size)).cell (World.block_lt_of_cell? w _ hx168_0)).trans hx168_0
              rw [Int.toNat_natCast, hr] at hx168_0
              obtain ⟨ad36, e36, hw0, hw1⟩ := at_T36 (Kd.C_below HCW.out HB.out) (i : Int) p168 q168
              cases e36
              have hrd : rd_T36 (wordsAt 10 l0) (i : Int) = ⟨l0[i], 10 + sumS (l0.take i) + i⟩ := by
                have := wordsAt_get l0 10 i c1
                simp [rd_T36, List.getD, this]
              rw [hrd, Int.toNat_natCast] at hw0 hw1
              dsimp only at hw0 hw1
              generalize l0[i] = x at *
              have hx1' := (HB.out.cell (World.block_lt_of_cell? W _ HX1.out)).trans HX1.out
              have C1 := Aside0.mk c1
              clear hr hrd hi40 hsi hsz1 c1 hx1 hx0
              replace p168 := eq_true p168
              replace q168 := eq_true q168
              go_wp2_with fail
              go_quiet (fail)
              go_wp2
              rw [es, ew]
              go_roundg k1
              case measure => omega
              case rel => exact ⟨i + 1, rfl, rfl, ⟨by have := HI.out; omega⟩, ⟨by repeat (first | (with_reducible first | exact HB.out | apply below_alloc | apply pw_below_drewN | apply below_drew1) | exact HB.out)⟩⟩
            · have c1b : decide ((i : Int) < (l0.length : Int)) = false := decide_eq_false (by omega)
              have c1n : decide (i < l0.length) = false := decide_eq_false c1
              have hii : i = l0.length := by have := HI.out; omega
              have hjs := join_size l0 hne'.out
              rw [← hs'.out] at hjs
              have hat : 10 + (sumS (l0.take i) : Int) + (i : Int) = wrap64 (11 + (s.size : Int)) := by
                rw [hii, List.take_length]
                have := hsz'.out
                unfold wrap64
                omega
              have HAT := Aside0.mk hat
              have H11 := Aside0.mk (show wrap64 (11 + (s.size : Int)) = 11 + (s.size : Int) by have := hsz'.out; unfold wrap64; omega)
              clear c1 hii hjs hat hi40 hsi hx0 hx1
              go_wp2
              rw [HAT.out]
              go_wp2
              refine bodyPost_ret (results_tmp rfl _ _ _) rfl ?_
              exact ⟨by simp [H11.out], HBWW.out.trans (HB.out.mono HBWW.out.size)⟩
end Go.Proofs.YthhdjbpmkfnhjaaDoor.Pure
