/- armisticelaw02.TokenStands, walked: each word stands in the text where it says. -/
import Derived.Test.YthhdjbpmkfnhjaaDoorM02Stands
import Derived.Test.YthhdjbpmkfnhjaaDoorETokLines
import Derived.Test.YthhdjbpmkfnhjaaDoorEAwake02
import Derived.IntWalk
namespace Go.Proofs.YthhdjbpmkfnhjaaDoor.Pure
open Go.RowKit Go.Proofs.YthhdjbpmkfnhjaaDoor.P Go.Proofs.YthhdjbpmkfnhjaaDoorW.PrintWords Go.Proofs.YthhdjbpmkfnhjaaDoorW.PrintLast Go.Proofs.YthhdjbpmkfnhjaaDoorW.PrintMore
set_option linter.unusedVariables false
set_option linter.unusedSimpArgs false
set_option maxHeartbeats 8000000 in
set_option maxRecDepth 100000 in
theorem TokenStands_walk (A0 : Option Addr) (c0 : Nat) (l0 : List Int) (w : World) (hr0 : Kd.C (Kd.int .u8) w A0 l0.length l0) (hc0 : l0.length ≤ c0) (hu : isU8 l0 = true) :
    Calls Tryd.prog 8 #[.slice A0 l0.length c0] w fun e w' => e = .returned (.bool true) ∧ Below w.heap.size w w' := by
  have HR0 := Aside0.mk hr0
  have HC0 := Aside0.mk hc0
  have HU := Aside0.mk hu
  clear hr0 hc0 hu
  have HB := Aside0.mk (Below.refl w.heap.size w)
  go_enter Tryd.func8, Tryd.ntmps8
  go_wp2_with fail
  refine (armisticelaw02_awake.calls true w rfl).mono ?_
  rintro e w1 ⟨rfl, hb1⟩
  have HB1 := Aside0.mk hb1
  clear hb1 HB
  have HB := HB1
  clear HB1
  by_cases c3 : 1000 < l0.length
  · have c3b : decide (1000 < (l0.length : Int)) = true := decide_eq_true (by omega)
    have c3n : decide (1000 < l0.length) = true := decide_eq_true c3
    clear c3
    go_wp2
    refine bodyPost_ret (results_tmp rfl _ _ _) rfl ?_
    exact ⟨rfl, HB.out⟩
  · have c3b : decide (1000 < (l0.length : Int)) = false := decide_eq_false (by omega)
    have c3n : decide (1000 < l0.length) = false := decide_eq_false c3
    have C3 := Aside0.mk c3
    clear c3
    obtain ⟨ls, e, q, hL, hq0, hq1, hch⟩ := stands_lines l0 HU.out (by have := C3.out; omega)
    have HL := Aside0.mk hL
    have HQ0 := Aside0.mk hq0
    have HQ1 := Aside0.mk hq1
    have HCH := Aside0.mk hch
    clear hL hq0 hq1 hch
    go_wp2_with fail
    refine (token_Lines.calls A0 c0 l0 ls e q w1 (Kd.C_below HR0.out HB.out) HC0.out HL.out).mono ?_
    rintro x w2 ⟨v, rfl, hS, hb2⟩
    obtain ⟨A, c, rfl⟩ := Kd.S_slice hS
    have HB2 := Aside0.mk (HB.out.trans (hb2.mono HB.out.size))
    have HRL := Aside0.mk (Kd.S_reads' hS).2.2
    have HLL := Aside0.mk (Kd.S_reads' hS).2.1
    clear hS hb2 HB
    by_cases he : e = 0
    · subst he
      have hch := HCH.out rfl
      have HCH' := Aside0.mk hch
      clear HCH hch
      go_upto_block 0 with fail
      have hbw : Below w2.heap.size w2 (w2.alloc (.cells #[.int .i64 0, .int .i64 q] 28)) := (Below.refl _ w2).alloc (Nat.le_refl _) _
      have HRW := Aside0.mk (Kd.C_below HRL.out hbw)
      have HBW := Aside0.mk (HB2.out.trans (hbw.mono HB2.out.size))
      clear hbw
      generalize w2.alloc (.cells #[.int .i64 0, .int .i64 q] 28) = W at *
      go_wp2
      go_loopg [6, 7] ls.length (fun kq v6 v7 w' => ∃ (i : Nat) (last : Int), v6 = .int .i64 last ∧ v7 = .int .i64 (i : Int) ∧ Aside0 (chain l0 last (ls.drop i)) ∧ Aside0 (i + kq = ls.length) ∧ Aside0 (Below W.heap.size W w'))
      case atStart => exact ⟨0, -1, rfl, rfl, ⟨HCH'.out⟩, ⟨by omega⟩, ⟨Below.refl _ _⟩⟩
      case round =>
        obtain ⟨i, last, rfl, rfl, HC, HI, HB⟩ := hrel
        have hlsb : ls.length ≤ 9223372036854775807 := HRL.out.2.1
        by_cases c1 : i < ls.length
        · have c1n : decide (i < ls.length) = true := decide_eq_true c1
          have c1b : decide ((i : Int) < (ls.length : Int)) = true := decide_eq_true (by omega)
          have ewi : wrap64 ((i : Int) + 1) = ((i + 1 : Nat) : Int) := by unfold wrap64; omega
          obtain ⟨k1, rfl⟩ : ∃ k1, gk = k1 + 1 := ⟨gk - 1, by have := HI.out; omega⟩
          have hc := HC.out
          rw [List.drop_eq_getElem_cons c1] at hc
          obtain ⟨p, ws, ⟨hx, hne, hbeg, hsum, hwords, hend⟩, hlast, hnext⟩ := hc
          have p34 : 0 ≤ (i : Int) := by omega
          have q34 : (i : Int) < (ls.length : Int) := by omega
          obtain ⟨ad, A1, cc1, e1, hx0, hx1, hlc, hC1⟩ := at_T34 (Kd.C_below HRW.out HB.out) (i : Int) p34 q34
          cases e1
          have hrd : rd_T34 ls (i : Int) = ⟨p, wordsAt p ws⟩ := by
            rw [← hx]
            simp [rd_T34, c1]
          rw [hrd, Int.toNat_natCast] at hx0 hx1
          rw [hrd] at hC1
          dsimp only at hx0 hx1 hC1
          rw [wordsAt_length] at hx1 hC1
          obtain ⟨P, hP⟩ : ∃ P : Int, P = p := ⟨_, rfl⟩
          rw [← hP] at hx0 hlast hnext hC1
          have d0 : decide (P < 0) = false := decide_eq_false (by omega)
          have hpl : p + sumS ws + ws.length ≤ l0.length + 1 := hsum
          have hwl : 0 < ws.length := List.length_pos_iff.2 hne
          have d1 : decide ((l0.length : Int) < P) = false := decide_eq_false (by omega)
          have d2 : decide (P ≤ last) = false := decide_eq_false (by omega)
          have d3 : ((ws.length : Int) == 0) = false := beq_eq_false_iff_ne.2 (by omega)
          have HC1 := Aside0.mk c1
          have HX := Aside0.mk (show ls[i]'HC1.out = _ from hx)
          have HLS := Aside0.mk hlsb
          have HNE := Aside0.mk hne
          have HSUM := Aside0.mk hsum
          have HWD := Aside0.mk hwords
          have HEND := Aside0.mk hend
          have HNX := Aside0.mk hnext
          have HCW := Aside0.mk hC1
          have HPP := Aside0.mk hP
          have HLA := Aside0.mk hlast
          have HEW := Aside0.mk ewi
          have HWL := Aside0.mk hwl
          have hx34 := hx1
          replace p34 := eq_true p34
          replace q34 := eq_true q34
          have HBG := Aside0.mk hbeg
          clear hbeg hx c1 hlsb hne hsum hwords hend hnext hC1 hP hlast ewi hwl hpl hrd hlc
          go_upto_region 12 with fail
          go_cut [81] (fun v81 wc => ∃ x : Bool, v81 = .bool x ∧ Aside0 (x = false) ∧ Aside0 (Below W.heap.size W wc))
          case first =>
            by_cases c5 : 0 < P
            · have d5 : decide (0 < P) = true := decide_eq_true c5
              have hpp := HPP.out
              have hw1 : wrap64 (P - 1) = ((p - 1 : Nat) : Int) := by have := HSUM.out; have := C3.out; unfold wrap64; omega
              have p5 : 0 ≤ wrap64 (P - 1) := by omega
              have q5 : wrap64 (P - 1) < (l0.length : Int) := by have := HSUM.out; have := HWL.out; omega
              obtain ⟨ad5, e5, hx5⟩ := Kd.at_int (Kd.C_below HR0.out (HBW.out.trans (HB.out.mono HBW.out.size))) (wrap64 (P - 1)) p5 q5
              cases e5
              have h10 : rd l0 (wrap64 (P - 1)) = 10 := by
                rcases HBG.out with h | h
                · omega
                · rw [hw1]
                  simp [rd, List.getD, h]
              rw [h10] at hx5
              replace p5 := eq_true p5
              replace q5 := eq_true q5
              clear c5 hpp hw1 h10
              go_wp2
              go_meet
              case rel => exact ⟨_, rfl, ⟨rfl⟩, ⟨HB.out⟩⟩
            · have d5 : decide (0 < P) = false := decide_eq_false c5
              clear c5
              go_wp2
              go_meet
              case rel => exact ⟨_, rfl, ⟨rfl⟩, ⟨HB.out⟩⟩
          case rest =>
            obtain ⟨x, rfl, HXP, HB⟩ := hcut
            obtain rfl : x = false := HXP.out
            clear hx0 hx1 hx34 d0 d1 d2 d3 p34 q34 c1n c1b HCW
            go_upto_block 2 with (fail)
            go_wp2
            go_loopg [8, 9] ws.length (fun kq v8 v9 w' => ∃ (k : Nat) (at' : Int), v8 = .int .i64 at' ∧ v9 = .int .i64 (k : Int) ∧ Aside0 (at' = p + sumS (ws.take k) + k) ∧ Aside0 (k + kq = ws.length) ∧ Aside0 (Below W.heap.size W w'))
            case atStart => exact ⟨0, P, rfl, rfl, ⟨by rw [HPP.out]; simp [sumS]⟩, ⟨by omega⟩, ⟨HB.out⟩⟩
            case round =>
              obtain ⟨k, at', rfl, rfl, HAT, HK, HB⟩ := hrel
              have p34 : 0 ≤ (i : Int) := by omega
              have q34 : (i : Int) < (ls.length : Int) := by have := HC1.out; omega
              obtain ⟨ad', A1, cc1, e1, hx0, hx1, hlc, hC1⟩ := at_T34 (Kd.C_below HRW.out HB.out) (i : Int) p34 q34
              cases e1
              have hrd : rd_T34 ls (i : Int) = ⟨p, wordsAt p ws⟩ := by
                rw [← HX.out]
                simp [rd_T34, HC1.out]
              rw [hrd, Int.toNat_natCast] at hx0 hx1
              rw [hrd] at hC1
              dsimp only at hx0 hx1 hC1
              rw [wordsAt_length] at hx1 hC1
              have HCW := Aside0.mk hC1
              replace p34 := eq_true p34
              replace q34 := eq_true q34
              clear hC1 hrd hlc hx0
              by_cases c6 : k < ws.length
              · have c6n : decide (k < ws.length) = true := decide_eq_true c6
                have c6b : decide ((k : Int) < (ws.length : Int)) = true := decide_eq_true (by omega)
                obtain ⟨k2, rfl⟩ : ∃ k2, gk = k2 + 1 := ⟨gk - 1, by have := HK.out; omega⟩
                have p36 : 0 ≤ (k : Int) := by omega
                have q36 : (k : Int) < (ws.length : Int) := by omega
                obtain ⟨ad36, e36, hw0, hw1⟩ := at_T36 HCW.out (k : Int) p36 q36
                cases e36
                have hrd : rd_T36 (wordsAt p ws) (k : Int) = ⟨ws[k], at'⟩ := by
                  have := wordsAt_get ws p k c6
                  rw [← HAT.out] at this
                  simp [rd_T36, List.getD, this]
                rw [hrd, Int.toNat_natCast] at hw0 hw1
                dsimp only at hw0 hw1
                obtain ⟨h1, h2, h3⟩ := HWD.out k c6
                have hat := HAT.out
                obtain ⟨x, hx⟩ : ∃ x, x = ws[k] := ⟨_, rfl⟩
                rw [← hx] at h1 h2 h3 hw0
                have ewk : wrap64 ((k : Int) + 1) = ((k + 1 : Nat) : Int) := by have := HSUM.out; have := C3.out; unfold wrap64; omega
                have hC6 := Aside0.mk c6
                have HXW := Aside0.mk (show x = ws[k]'hC6.out from hx)
                have H1 := Aside0.mk h1
                have H2 := Aside0.mk h2
                have H3 := Aside0.mk h3
                have HEK := Aside0.mk ewk
                replace p36 := eq_true p36
                replace q36 := eq_true q36
                clear hrd h1 h2 h3 hx c6 hat ewk
                go_upto_region 18 with (fail)
                have hb5 : Below wr.heap.size wr (wr.alloc (.cells #[.string x, .int .i64 at'] 36)) := (Below.refl _ wr).alloc (Nat.le_refl _) _
                have HBX := Aside0.mk (HB.out.trans (hb5.mono HB.out.size))
                have hg0 : (wr.alloc (.cells #[.string x, .int .i64 at'] 36)).cell? ⟨wr.heap.size, 0, none⟩ = some (.string x) := (blk_cell (blk_new wr _) 0).trans rfl
                have hg1 : (wr.alloc (.cells #[.string x, .int .i64 at'] 36)).cell? ⟨wr.heap.size, 1, none⟩ = some (.int .i64 at') := (blk_cell (blk_new wr _) 1).trans rfl
                have hs2 : (wr.alloc (.cells #[.string x, .int .i64 at'] 36)).heap.size = wr.heap.size + 1 := World.size_alloc _ _
                clear hb5 hw0 hw1 hx1
                obtain ⟨B, hB⟩ : ∃ B : Int, B = at' + (x.size : Int) := ⟨_, rfl⟩
                have hat := HAT.out
                have hsum2 := H2.out
                have hc3 := C3.out
                have hpos := H1.out
                have eB1 : IntKind.i64.wrap (at' + (x.size : Int)) = B := by rw [hB]; exact IntWalk.i64_in _ (by omega)
                have eB2 : wrap64 (at' + (x.size : Int)) = B := by rw [hB]; unfold wrap64; omega
                have dB : decide ((l0.length : Int) < B) = false := decide_eq_false (by omega)
                have pa : 0 ≤ at' := by omega
                have pb : at' ≤ B := by omega
                have pc : B ≤ (l0.length : Int) := by omega
                have hxe : ¬ x.toList = [] := by
                  intro e
                  have h : x.data.toList.length = x.size := rfl
                  have e2 : x.data.toList = x.toList := (ByteArray.toList_eq x).symm
                  rw [e2, e] at h
                  simp at h
                  omega
                obtain ⟨i016, hi016, _, hsz16, _⟩ := info_parts info5
                obtain ⟨A16, hcut16, hA16, hC16⟩ := print_mid_of (P := Tryd.prog) (Value.int .u8) 0 22 5 .i64 .i64 Tryd.underlying22 hi016 hsz16 A0 c0 l0 at' B pa pb pc HC0.out
                have hcv0 := fun n : Nat => Kd.C_string (P := Tryd.prog) (w := (wr.alloc (.cells #[.string x, .int .i64 at'] 36)).drewN n) (A := A16) (c := (c0 - at'.toNat)) Tryd.underlying22 Tryd.underlying5 Tryd.underlying9 (Kd.C_below (Kd.C_of_reads (h1 := fun _ => rfl) (hA16 _ (Kd.reads_of_C HR0.out))) (HBW.out.trans ((pw_below_drewN (n := n) HBX.out).mono HBW.out.size)))
                have hmid : (l0.take B.toNat).drop at'.toNat = (l0.drop (p + sumS (ws.take k) + k)).take x.size := by
                  rw [List.drop_take, show at'.toNat = p + sumS (ws.take k) + k by omega, show B.toNat - (p + sumS (ws.take k) + k) = x.size by omega]
                have hml : ((l0.take B.toNat).drop at'.toNat).length = x.size := by rw [hmid, List.length_take, List.length_drop]; omega
                have hcv : ∀ n : Nat, (convert 22 9 (.slice A16 x.size (c0 - at'.toNat))).run Tryd.prog ((wr.alloc (.cells #[.string x, .int .i64 at'] 36)).drewN n) = .ok (.string x) ((wr.alloc (.cells #[.string x, .int .i64 at'] 36)).drewN n) := fun n => by
                  have h := hcv0 n
                  rw [hml] at h
                  rw [hmid, H3.out] at h
                  exact h
                have hcut : ∀ W : World, (Instr.slice 22 (.slice A0 l0.length c0) (some (.int .i64 at')) (some (.int .i64 B)) none).run Tryd.prog W = .ok (.slice A16 x.size (c0 - at'.toNat)) W := fun W => by rw [hcut16 W, hml]
                have hxe2 : x.toList.isEmpty = false := by simpa using hxe
                have eC : wrap64 (B + 1) = (p : Int) + sumS (ws.take (k + 1)) + ((k + 1 : Nat) : Int) := by
                  have h4 : sumS (ws.take (k + 1)) = sumS (ws.take k) + x.size := by
                    have h5 : ws.take (k + 1) = ws.take k ++ [ws[k]'hC6.out] := List.take_succ_eq_append_getElem hC6.out
                    rw [h5, sumS_app, ← HXW.out]
                    simp [sumS]
                  rw [h4]
                  unfold wrap64
                  omega
                have EC := Aside0.mk eC
                replace pa := eq_true pa
                clear hcv0 hB hat hsum2 hc3 hpos pb pc hmid hml hA16 hC16 hcut16 hi016 hsz16 eC
                go_quiet (fail)
                go_wp2
                rw [EC.out, HEK.out]
                go_roundg k2
                case measure => omega
                case rel => exact ⟨k + 1, _, rfl, rfl, ⟨rfl⟩, ⟨by have := HK.out; omega⟩, ⟨by repeat (first | (with_reducible first | exact HBX.out | apply below_drew1 | apply pw_below_drewN) | exact HBX.out)⟩⟩
              · have c6n : decide (k < ws.length) = false := decide_eq_false c6
                have c6b : decide ((k : Int) < (ws.length : Int)) = false := decide_eq_false (by omega)
                have hk : k = ws.length := by have := HK.out; omega
                have hat := HAT.out
                rw [hk, List.take_length] at hat
                have hsum := HSUM.out
                have hwl := HWL.out
                have h3 := C3.out
                have hpp := HPP.out
                have hw1 : wrap64 (at' - 1) = ((p + sumS ws + ws.length - 1 : Nat) : Int) := by unfold wrap64; omega
                have HW1 := Aside0.mk hw1
                have HKK := Aside0.mk hk
                by_cases c7 : p + sumS ws + ws.length - 1 < l0.length
                · have d7 : decide (wrap64 (at' - 1) < (l0.length : Int)) = true := decide_eq_true (by omega)
                  have p5 : 0 ≤ wrap64 (at' - 1) := by omega
                  have q5 : wrap64 (at' - 1) < (l0.length : Int) := by omega
                  obtain ⟨ad5, e5, hx5⟩ := Kd.at_int (Kd.C_below HR0.out (HBW.out.trans (HB.out.mono HBW.out.size))) (wrap64 (at' - 1)) p5 q5
                  cases e5
                  have h10 : rd l0 (wrap64 (at' - 1)) = 10 := by
                    rw [hw1]
                    rcases HEND.out with h | h
                    · rw [List.getElem?_eq_none_iff] at h
                      omega
                    · simp [rd, List.getD, h]
                  rw [h10] at hx5
                  replace p5 := eq_true p5
                  replace q5 := eq_true q5
                  clear c6 c7 hk hat hsum hwl h3 hpp hw1 h10
                  go_wp2
                  rw [HEW.out]
                  go_roundg k1
                  case measure => omega
                  case rel => exact ⟨i + 1, _, rfl, rfl, ⟨by have := HNX.out; rw [HPP.out] at this; rw [HW1.out]; have e : ((p + sumS ws + ws.length - 1 : Nat) : Int) = (p : Int) + sumS ws + ws.length - 1 := (by have := HWL.out; omega); rw [e]; exact this⟩, ⟨by have := HI.out; omega⟩, ⟨HB.out⟩⟩
                · have d7 : decide (wrap64 (at' - 1) < (l0.length : Int)) = false := decide_eq_false (by omega)
                  clear c6 c7 hk hat hsum hwl h3 hpp hw1
                  go_wp2
                  rw [HEW.out]
                  go_roundg k1
                  case measure => omega
                  case rel => exact ⟨i + 1, _, rfl, rfl, ⟨by have := HNX.out; rw [HPP.out] at this; rw [HW1.out]; have e : ((p + sumS ws + ws.length - 1 : Nat) : Int) = (p : Int) + sumS ws + ws.length - 1 := (by have := HWL.out; omega); rw [e]; exact this⟩, ⟨by have := HI.out; omega⟩, ⟨HB.out⟩⟩
        · have c1n : decide (i < ls.length) = false := decide_eq_false c1
          have c1b : decide ((i : Int) < (ls.length : Int)) = false := decide_eq_false (by omega)
          clear c1
          go_wp2
          refine bodyPost_ret (results_tmp rfl _ _ _) rfl ?_
          exact ⟨rfl, HBW.out.trans (HB.out.mono HBW.out.size)⟩
    · have d2 : (e != 0) = true := by simpa using he
      have d3 : (e == 0) = false := by simpa using he
      have d4 : decide (0 ≤ q) = true := decide_eq_true HQ0.out
      have d5 : decide (q ≤ (l0.length : Int)) = true := decide_eq_true HQ1.out
      clear he
      go_wp2
      refine bodyPost_ret (results_tmp rfl _ _ _) rfl ?_
      exact ⟨rfl, by repeat (first | (with_reducible first | exact HB2.out | apply below_alloc | apply pw_below_drewN | apply below_drew1) | exact HB2.out)⟩
end Go.Proofs.YthhdjbpmkfnhjaaDoor.Pure
