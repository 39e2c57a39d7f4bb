/- armisticelaw02.TokenLines, walked. -/
import Derived.Test.YthhdjbpmkfnhjaaDoorETokOver
import Derived.Test.YthhdjbpmkfnhjaaDoorM02In
namespace Go.Proofs.YthhdjbpmkfnhjaaDoor.Pure
open Go.RowKit Go.Proofs.YthhdjbpmkfnhjaaDoor.P Go.Proofs.YthhdjbpmkfnhjaaDoorW.PrintWords Go.Proofs.YthhdjbpmkfnhjaaDoorW.PrintLast Go.Proofs.YthhdjbpmkfnhjaaDoorW.PrintMore
set_option linter.unusedVariables false
set_option linter.unusedSimpArgs false
theorem add_block (a : Addr) (n : Nat) : (a.add n).block = a.block := by
  unfold Addr.add
  split <;> rfl
theorem cell_same {w w' : World} {a : Addr} (h : w'.heap[a.block]? = w.heap[a.block]?) : w'.cell? a = w.cell? a := by
  simp only [World.cell?, h]
set_option maxHeartbeats 8000000 in
set_option maxRecDepth 100000 in
theorem TokenLines_walk (A0 : Option Addr) (c0 : Nat) (l0 : List Int) (w : World) (hr0 : Kd.C (Kd.int .u8) w A0 l0.length l0) (hc0 : l0.length ≤ c0) (hu : isU8 l0 = true) :
    Calls Tryd.prog 3 #[.slice A0 l0.length c0] w fun e w' => e = .returned (.bool true) ∧ Below w.heap.size w w' := by
  have HR0 := Aside0.mk hr0
  have HC0 := Aside0.mk hc0
  have HU := Aside0.mk hu
  clear hr0 hc0 hu
  have HB := Aside0.mk (Below.refl w.heap.size w)
  go_enter Tryd.func3, Tryd.ntmps3
  go_upto_region 1 with (fail)
  go_cut [23] (fun v23 wc => ∃ x : Bool, v23 = .bool x ∧ Aside0 (x = true ∨ l0.length ≤ 70000) ∧ Aside0 (Below w.heap.size w wc))
  case first =>
    by_cases c1 : 2000 < l0.length
    · have d1 : decide (2000 < (l0.length : Int)) = true := decide_eq_true (by omega)
      have d1n : decide (2000 < l0.length) = true := decide_eq_true c1
      by_cases c2 : l0.length < 65000
      · have d2 : decide ((l0.length : Int) < 65000) = true := decide_eq_true (by omega)
        have d2n : decide (l0.length < 65000) = true := decide_eq_true c2
        clear c1 c2
        go_wp2
        go_meet
        case rel => exact ⟨_, rfl, ⟨.inl rfl⟩, ⟨HB.out⟩⟩
      · have d2 : decide ((l0.length : Int) < 65000) = false := decide_eq_false (by omega)
        have d2n : decide (l0.length < 65000) = false := decide_eq_false c2
        by_cases c3 : 70000 < l0.length
        · have d3 : decide (70000 < (l0.length : Int)) = true := decide_eq_true (by omega)
          have d3n : decide (70000 < l0.length) = true := decide_eq_true c3
          clear c1 c2 c3
          go_wp2
          go_meet
          case rel => exact ⟨_, rfl, ⟨.inl rfl⟩, ⟨HB.out⟩⟩
        · have d3 : decide (70000 < (l0.length : Int)) = false := decide_eq_false (by omega)
          have d3n : decide (70000 < l0.length) = false := decide_eq_false c3
          have C3 := Aside0.mk c3
          clear c1 c2 c3
          go_wp2
          go_meet
          case rel => exact ⟨_, rfl, ⟨.inr (Nat.le_of_not_lt C3.out)⟩, ⟨HB.out⟩⟩
    · have d1 : decide (2000 < (l0.length : Int)) = false := decide_eq_false (by omega)
      have d1n : decide (2000 < l0.length) = false := decide_eq_false c1
      have d3 : decide (70000 < (l0.length : Int)) = false := decide_eq_false (by omega)
      have d3n : decide (70000 < l0.length) = false := decide_eq_false (by omega)
      have C1 := Aside0.mk c1
      clear c1
      go_wp2
      go_meet
      case rel => exact ⟨_, rfl, ⟨.inr (by have := C1.out; omega)⟩, ⟨HB.out⟩⟩
  case rest =>
    obtain ⟨x, rfl, HX, HB⟩ := hcut
    cases x with
    | true =>
      go_wp2_with fail
      refine (armisticelaw02_awake.calls true _ rfl).mono ?_
      rintro e w1 ⟨rfl, hb1⟩
      have HB1 := Aside0.mk (HB.out.trans (hb1.mono HB.out.size))
      clear hb1 HB
      go_wp2
      refine bodyPost_ret (results_tmp rfl _ _ _) rfl ?_
      exact ⟨rfl, HB1.out⟩
    | false =>
      have hl : l0.length ≤ 70000 := by
        rcases HX.out with h | h
        · cases h
        · exact h
      have HL := Aside0.mk hl
      clear hl HX
      go_wp2_with fail
      refine (Lent_calls A0 c0 l0 _ (Kd.C_below HR0.out HB.out) HC0.out (by have := HL.out; omega)).mono ?_
      rintro e w1 ⟨A, c, rfl, hc, hR, hb1⟩
      have HB1 := Aside0.mk (HB.out.trans (hb1.mono HB.out.size))
      have hf := (Kd.R_reads' hR).2.2
      have hrl : Kd.C (Kd.int .u8) w1 A l0.length l0 := by
        have h4 : (l0 ++ fours).length = l0.length + 4 := by rw [List.length_append]; rfl
        have := Kd.C_take (m := l0.length) hf (by omega)
        simpa using this
      have HF := Aside0.mk hf
      have HRL := Aside0.mk hrl
      have HC := Aside0.mk hc
      obtain ⟨ls, e, q, hL⟩ : ∃ ls e q, token_Lines.f l0 = some (ls, e, q) := by
        unfold token_Lines.f
        rw [if_pos HU.out]
        exact ⟨_, _, _, rfl⟩
      obtain ⟨K, hK⟩ := ref_lines l0 HU.out
      have hK2 := (hK K (Nat.le_refl _)).trans hL
      have HLL := Aside0.mk hL
      have HK := Aside0.mk hK2
      clear hf hrl hc hR hb1 hL hK hK2 HB
      go_wp2_with fail
      refine (token_Lines.calls A c l0 ls e q w1 HRL.out (by have := HC.out; omega) HLL.out).mono ?_
      rintro x w2 ⟨v, rfl, hS, hb2⟩
      obtain ⟨A2, c2, rfl⟩ := Kd.S_slice hS
      have HS := Aside0.mk hS
      have HB2 := Aside0.mk hb2
      clear hS hb2
      have hF1 : Below w2.heap.size w2 (w2.alloc (.cells #[.int .i64 e, .int .i64 q] 28)) := (Below.refl _ w2).alloc (Nat.le_refl _) _
      have HF1 := Aside0.mk hF1
      clear hF1
      go_wp2_with fail
      refine (armisticeref02_Lines.calls K A0 c0 l0 ls e q _ (Kd.C_below HR0.out (HB1.out.trans ((HB2.out.trans (HF1.out.mono HB2.out.size)).mono HB1.out.size))) HC0.out HK.out).mono ?_
      rintro x w3 ⟨v3, rfl, hS3, hb3⟩
      obtain ⟨A3, c3, rfl⟩ := Kd.S_slice hS3
      have HS3 := Aside0.mk hS3
      have HB3 := Aside0.mk (HF1.out.trans (hb3.mono HF1.out.size))
      clear hS3
      have hq5 : w3.heap[w2.heap.size]? = some (.cells #[.int .i64 e, .int .i64 q] 28) := blk_below (blk_new w2 _) hb3
      have HQ5 := Aside0.mk hq5
      clear hb3 hq5
      go_wp2_with fail
      have HBF2 := Aside0.mk ((Below.refl _ w3).alloc (Nat.le_refl _) (.cells #[.int .i64 e, .int .i64 q] 28) : Below w3.heap.size w3 (w3.alloc (.cells #[.int .i64 e, .int .i64 q] 28)))
      obtain ⟨hin1, hin2⟩ := In.told_in l0 ls e q HLL.out
      obtain ⟨K2, hsm⟩ := same_refl ls (by have := HL.out; omega) (fun x hx => by have := hin2 x hx; have := HL.out; omega)
      have HSM := Aside0.mk (hsm K2 (Nat.le_refl _))
      have HIN1 := Aside0.mk hin1
      have HIN2 := Aside0.mk hin2
      clear hin1 hin2 hsm
      have hs23 := Aside0.mk (Kd.S_below (Kd.S_below HS.out HB3.out) HBF2.out)
      have hs33 := Aside0.mk (Kd.S_below HS3.out HBF2.out)
      refine (armisticelaw02_same.calls K2 A2 c2 ls A3 c3 ls true _ (Kd.S_reads' hs23.out).2.2 (Kd.S_reads' hs23.out).2.1 (Kd.S_reads' hs33.out).2.2 (Kd.S_reads' hs33.out).2.1 HSM.out).mono ?_
      rintro x w4 ⟨rfl, hd⟩
      have hbd := hd.below
      have HQ7 := Aside0.mk (blk_below (blk_new w3 (.cells #[.int .i64 e, .int .i64 q] 28)) hbd)
      have HQ5' := Aside0.mk (blk_below (blk_below HQ5.out HBF2.out) hbd)
      have HS4 := Aside0.mk (Kd.S_below hs23.out hbd)
      have HB4 := Aside0.mk (HB2.out.trans ((HB3.out.trans ((HBF2.out.trans (hbd.mono HBF2.out.size)).mono HB3.out.size)).mono HB2.out.size))
      have g50 : w4.cell? ⟨w2.heap.size, 0, none⟩ = some (.int .i64 e) := (blk_cell HQ5'.out 0).trans rfl
      have g51 : w4.cell? ⟨w2.heap.size, 1, none⟩ = some (.int .i64 q) := (blk_cell HQ5'.out 1).trans rfl
      have g70 : w4.cell? ⟨w3.heap.size, 0, none⟩ = some (.int .i64 e) := (blk_cell HQ7.out 0).trans rfl
      have g71 : w4.cell? ⟨w3.heap.size, 1, none⟩ = some (.int .i64 q) := (blk_cell HQ7.out 1).trans rfl
      clear hd hbd
      go_upto_block 0 with fail
      clear g50 g51 g70 g71
      go_wp2
      go_loopg [9] ls.length (fun kq v9 w' => ∃ i : Nat, v9 = .int .i64 (i : Int) ∧ Aside0 (i + kq = ls.length) ∧ Aside0 (Over 36 w1.heap.size w4 w'))
      case atStart => exact ⟨0, rfl, ⟨by omega⟩, ⟨Over.refl _ _ _⟩⟩
      case round =>
        obtain ⟨i, rfl, HI, HO⟩ := hrel
        have hlsb : ls.length ≤ 70000 := Nat.le_trans HIN1.out HL.out
        by_cases c1 : i < ls.length
        · have c1n : decide (i < ls.length) = true := decide_eq_true c1
          have c1b : decide ((i : Int) < (ls.length : Int)) = true := decide_eq_true (by omega)
          have ewi : wrap64 ((i : Int) + 1) = ((i + 1 : Nat) : Int) := wrap_succ i (by omega)
          obtain ⟨k1, rfl⟩ : ∃ k1, gk = k1 + 1 := ⟨gk - 1, by have := HI.out; omega⟩
          have HC1 := Aside0.mk c1
          have HEW := Aside0.mk ewi
          clear c1 ewi hlsb
          go_upto_block 2 with (fail)
          go_wp2
          obtain ⟨g, cp, hg0, hgb, hglt, gcells, hgc⟩ := Kd.S_form HS4.out (by have := HC1.out; omega)
          obtain ⟨ad, hA2, hade⟩ : ∃ ad : Addr, A2 = some ad ∧ ad = ⟨g, 0, none⟩ := ⟨_, by injection hg0, rfl⟩
          subst hA2
          have HGC := Aside0.mk hgc
          have HADE := Aside0.mk hade
          clear hg0 hgb hglt hgc hade
          obtain ⟨N, hN⟩ : ∃ N, N = (ls[i]'HC1.out).f1.length := ⟨_, rfl⟩
          have hN7 : N ≤ 70001 := by
            rw [hN]
            exact Nat.le_trans (HIN2.out _ (List.getElem_mem HC1.out)) (Nat.succ_le_succ HL.out)
          have HN := Aside0.mk hN
          have HN7 := Aside0.mk hN7
          clear hN hN7
          go_loopg [10] N (fun kq v10 w' => ∃ k : Nat, v10 = .int .i64 (k : Int) ∧ Aside0 (k + kq = N) ∧ Aside0 (Over 36 w1.heap.size w4 w'))
          case atStart => exact ⟨0, rfl, ⟨by omega⟩, ⟨HO.out⟩⟩
          case round =>
            obtain ⟨k, rfl, HK, HO⟩ := hrel
            have p34 : 0 ≤ (i : Int) := by omega
            have q34 : (i : Int) < (ls.length : Int) := by have := HC1.out; omega
            obtain ⟨ad', A1, cc1, e1, hx0, hx1, hlc, hC1⟩ := at_T34 (Kd.S_reads' HS4.out).2.2 (i : Int) p34 q34
            cases e1
            have hrd : rd_T34 ls (i : Int) = ls[i]'HC1.out := by simp [rd_T34, HC1.out]
            rw [hrd, Int.toNat_natCast] at hx1
            rw [hrd] at hlc
            rw [← HN.out] at hx1 hlc
            have hkeep : wr.heap[ad.block]? = w4.heap[ad.block]? := by
              rw [HADE.out]
              exact (HO.out.keep HGC.out (by decide)).trans HGC.out.symm
            have hxw : wr.cell? ⟨(ad.add (i * 2)).block, (ad.add (i * 2)).off + 1, none⟩ = some (.slice A1 N cc1) := by
              rw [cell_same (w := w4) (by show wr.heap[(ad.add (i * 2)).block]? = _; rw [add_block]; exact hkeep)]
              exact hx1
            replace p34 := eq_true p34
            replace q34 := eq_true q34
            have HX1 := Aside0.mk hx1
            have HLC := Aside0.mk hlc
            have ewk : wrap64 ((k : Int) + 1) = ((k + 1 : Nat) : Int) := wrap_succ k (by have := HK.out; have := HN7.out; omega)
            have HEWK := Aside0.mk ewk
            clear hx0 hx1 hC1 hrd hkeep ewk hlc
            by_cases c6 : k < N
            · have c6n : decide (k < N) = true := decide_eq_true c6
              have c6b : decide ((k : Int) < (N : Int)) = true := decide_eq_true (by omega)
              obtain ⟨k2, rfl⟩ : ∃ k2, gk = k2 + 1 := ⟨gk - 1, by have := HK.out; omega⟩
              have hS' := HS4.out
              rw [HADE.out] at hS'
              obtain ⟨gi, ci, cells, hbase, hcell, hsize, hhead, _⟩ := line_row hS' i HC1.out rfl (by rw [← HN.out]; omega)
              rw [← HN.out] at hsize hhead
              have hsame : (⟨(ad.add (i * 2)).block, (ad.add (i * 2)).off + 1, none⟩ : Addr) = ⟨g, i * 2 + 1, none⟩ := by
                rw [HADE.out]
                unfold Addr.add
                split <;> simp_all
              have hx1 := HX1.out
              rw [hsame, hhead] at hx1
              obtain ⟨adi, hA1, hadi⟩ : ∃ adi : Addr, A1 = some adi ∧ adi = ⟨gi, 0, none⟩ := ⟨⟨gi, 0, none⟩, by injection (Option.some.inj hx1) with e; exact e.symm, rfl⟩
              subst hA1
              obtain ⟨cs', hrow, hcs'⟩ := HO.out.row hcell
              have a0 : adi.add (k * 2) = ⟨gi, k * 2, none⟩ := by
                rw [hadi]
                unfold Addr.add
                split <;> simp_all
              have t0 : k * 2 < cs'.size := by omega
              have t1 : k * 2 + 1 < cs'.size := by omega
              have s0 : wr.cell? (adi.add (k * 2)) = some (cs'[k * 2]'t0) := by
                rw [a0, blk_cell hrow]
                exact Array.getElem?_eq_getElem _
              have s1 : wr.cell? ⟨(adi.add (k * 2)).block, (adi.add (k * 2)).off + 1, none⟩ = some (cs'[k * 2 + 1]'t1) := by
                rw [a0, blk_cell hrow]
                exact Array.getElem?_eq_getElem _
              have z0 : wr.frozen? (adi.add (k * 2)) = false := by rw [a0]; exact blk_frozen hrow _
              have z1 : wr.frozen? ⟨(adi.add (k * 2)).block, (adi.add (k * 2)).off + 1, none⟩ = false := by rw [a0]; exact blk_frozen hrow _
              have hrow2 := blk_set hrow (k * 2) (.string ⟨#[111, 118, 101, 114]⟩)
              have s1' : (wr.setCell (adi.add (k * 2)) (.string ⟨#[111, 118, 101, 114]⟩)).cell? ⟨(adi.add (k * 2)).block, (adi.add (k * 2)).off + 1, none⟩ = some (cs'[k * 2 + 1]'t1) := by
                rw [a0, blk_cell hrow2, Array.getElem?_setIfInBounds_ne (Nat.ne_of_lt (Nat.lt_succ_self _))]
                exact Array.getElem?_eq_getElem _
              have z1' : (wr.setCell (adi.add (k * 2)) (.string ⟨#[111, 118, 101, 114]⟩)).frozen? ⟨(adi.add (k * 2)).block, (adi.add (k * 2)).off + 1, none⟩ = false := by
                rw [a0]
                exact blk_frozen hrow2 _
              have p36 : 0 ≤ (k : Int) := by omega
              have q36 : (k : Int) < (N : Int) := by omega
              replace p36 := eq_true p36
              replace q36 := eq_true q36
              generalize cs'[k * 2]'t0 = u0 at s0
              generalize cs'[k * 2 + 1]'t1 = u1 at s1 s1'
              have A00 := Aside0.mk a0
              have HROW := Aside0.mk hrow
              have HBASE := Aside0.mk hbase
              clear t0 t1 c6 hS' hcell hsize hhead hsame hx1 hadi a0 hrow hrow2 hcs' hbase
              go_wp2
              rw [HEWK.out]
              go_roundg k2
              case measure => omega
              case rel => exact ⟨k + 1, rfl, ⟨by have := HK.out; omega⟩, ⟨by rw [A00.out]; exact (HO.out.store HROW.out HBASE.out _ _).store (blk_set HROW.out _ _) HBASE.out _ _⟩⟩
            · have c6n : decide (k < N) = false := decide_eq_false c6
              have c6b : decide ((k : Int) < (N : Int)) = false := decide_eq_false (by omega)
              clear c6
              go_wp2
              rw [HEW.out]
              go_roundg k1
              case measure => omega
              case rel => exact ⟨i + 1, rfl, ⟨by have := HI.out; omega⟩, ⟨HO.out⟩⟩
        · have c1n : decide (i < ls.length) = false := decide_eq_false c1
          have c1b : decide ((i : Int) < (ls.length : Int)) = false := decide_eq_false (by omega)
          clear c1 hlsb
          have HBW := Aside0.mk (HB4.out.trans HO.out.below)
          go_wp2_with fail
          refine (Kept_calls A c A0 c0 l0 _ (Kd.C_below HF.out HBW.out) HC.out (Kd.C_below HR0.out (HB1.out.trans (HBW.out.mono HB1.out.size))) HC0.out (by have := HL.out; omega)).mono ?_
          rintro x w5 ⟨rfl, hb5⟩
          have HB5 := Aside0.mk (HBW.out.trans (hb5.mono HBW.out.size))
          clear hb5
          go_wp2_with fail
          refine (armisticelaw02_awake.calls true _ rfl).mono ?_
          rintro x w6 ⟨rfl, hb6⟩
          have HB6 := Aside0.mk (HB5.out.trans (hb6.mono HB5.out.size))
          clear hb6
          go_wp2
          refine bodyPost_ret (results_tmp rfl _ _ _) rfl ?_
          exact ⟨rfl, HB1.out.trans (HB6.out.mono HB1.out.size)⟩
end Go.Proofs.YthhdjbpmkfnhjaaDoor.Pure
