/- armisticelaw24.StoreScript: what a store answers, put by put, and who stands in a bucket. -/
import Derived.Test.YtapnegdigghomaaM24S
namespace Go.Proofs.Ytapnegdigghomaa.P
open Go.RowKit Go.Proofs.YtapnegdigghomaaW.PrintWords Go.Proofs.YtapnegdigghomaaW.PrintLast Go.Proofs.YtapnegdigghomaaW.PrintMore Go.Maps
set_option linter.unusedVariables false
set_option linter.unusedSimpArgs false
attribute [local go_sem ↓] Go.wp_at_zero Go.wp_at_succ
theorem copy_f (l : List Int) (hl : l.length ≤ 1000000) : armisticekit_CopyBytes.f l = some l := by
  unfold armisticekit_CopyBytes.f
  simp only [Option.bind_some]
  rw [if_pos (by simp only [List.length_nil]; omega)]
  rfl
set_option maxHeartbeats 8000000 in
set_option maxRecDepth 100000 in
theorem Script_calls (A : Option Addr) (c : Nat) (l : List (List Int)) (sd bk which : Int) (w : World) (hr : kB.C w A l.length l) (hc : l.length ≤ c) (hu : ∀ x ∈ l, isU8 x = true) (hl : l.length ≤ 140737488355232) :
    Calls Try.prog 4 #[.int .i64 sd, .int .i64 bk, .slice A l.length c, .int .i64 which] w fun e w' => e = .returned (.bool true) ∧ Below w.heap.size w w' := by
  obtain ⟨r, hr1, hr2⟩ := long_f l (by omega)
  have HL := Aside0.mk (armisticelaw24_long.calls 200 A c l r w hr hc hr1)
  have HR := Aside0.mk hr
  have HU := Aside0.mk hu
  have HR2 := Aside0.mk hr2
  clear hr hu hr1 hr2 hl hc
  go_enter Try.func4, Try.ntmps4
  go_wp2_with fail
  refine HL.out.mono ?_
  rintro e w2 ⟨rfl, hd⟩
  have HB2 := Aside0.mk hd.below
  clear hd HL
  cases r with
  | true =>
    go_wp2_with fail
    refine (awake_calls w2).mono ?_
    rintro e w3 ⟨rfl, hb⟩
    go_wp2
    go_ret
    exact ⟨rfl, HB2.out.trans (hb.mono HB2.out.size)⟩
  | false =>
    obtain ⟨hlen, hsz⟩ := HR2.out rfl
    have HSZ := Aside0.mk hsz
    clear hsz HR2
    by_cases hbk : 1 ≤ bk ∧ bk ≤ 65536
    · obtain ⟨hk1, hk2⟩ := hbk
      go_wp2_with fail
      refine (New_yes sd bk w2 hk1 hk2).mono ?_
      rintro e w3 ⟨rfl, hS, hb⟩
      have HS3 := Aside0.mk (hS.mono (fun k hk => Nat.le_trans HB2.out.size hk))
      have HB3 := Aside0.mk (HB2.out.trans (hb.mono HB2.out.size))
      clear hS hb
      go_wp2_with fail
      refine (RNew_yes sd bk w3 hk1 hk2).mono ?_
      rintro e w4 ⟨rfl, hS, hb⟩
      have HD := Aside0.mk (Duo.made HS3.out HB3.out hS hb)
      clear hS hb HS3
      generalize w2.heap.size = p at *
      generalize w3.heap.size = q at *
      clear HB2 HB3
      go_wp2
      go_loopg [13] (l.length + 1) (fun g v13 wr => ∃ (k : Nat) (L : List (List Int)), k ≤ l.length ∧ Aside0 (k + g = l.length + 1) ∧ v13 = .int .i64 k ∧ Aside0 (Duo w wr p q sd bk L L (fun _ => False)) ∧ Aside0 (L.length ≤ k ∧ ∀ x ∈ L, x ∈ l))
      case atStart => exact ⟨0, [], by omega, ⟨by omega⟩, rfl, HD, ⟨Nat.le_refl _, fun x hx => by cases hx⟩⟩
      case round =>
        obtain ⟨wa, rfl⟩ : ∃ wa : World, wa = wr := ⟨_, rfl⟩
        obtain ⟨ga, rfl⟩ : ∃ ga : Nat, ga = gk := ⟨_, rfl⟩
        clear HD
        obtain ⟨k, L, hk, hg, rfl, D, hL⟩ := hrel
        have hL1 := hL.out.1
        have HLx := Aside0.mk (fun y (hy : y ∈ L) => HSZ.out y (hL.out.2 y hy))
        by_cases c1 : k < l.length
        · obtain ⟨ad, A0, c0, ea, hcell, hcl, hcr⟩ := at_L2 HR.out (k : Int) (by omega) (by omega)
          cases ea
          simp only [Int.toNat_natCast] at hcell
          have hxk : rd_L2 l (k : Int) = l[k] := by simp [rd_L2, List.getD, c1]
          have hxl := HSZ.out _ (List.getElem_mem c1)
          have hxu := HU.out _ (List.getElem_mem c1)
          have hxm := List.getElem_mem c1
          obtain ⟨x, hxx⟩ : ∃ x, Aside0 (l[k] = x) := ⟨_, ⟨rfl⟩⟩
          rw [hxx.out] at hxk hxl hxu hxm
          rw [hxk] at hcell hcl hcr
          have HM := Aside0.mk hxm
          have HXU := Aside0.mk hxu
          have HCR := Aside0.mk hcr
          have HCE := Aside0.mk (fun W' (hb : Below w.heap.size w W') => (hb.cell (World.block_lt_of_cell? w _ hcell)).trans hcell)
          have hpl := Aside0.mk (hasB_put L x)
          have hpn := Aside0.mk (putL_len L x)
          have hx63 : x.length ≤ 1000000 := by omega
          have hL63 : L.length ≤ 1000000 := by omega
          have hL64 : (putL L x).length ≤ 1000000 := by have := hpn.out; omega
          have HPx := Aside0.mk (show ∀ y ∈ putL L x, y ∈ l from fun y hy => by
            unfold putL at hy
            split at hy
            · exact hL.out.2 y hy
            · rcases List.mem_append.1 hy with hy | hy
              · exact hL.out.2 y hy
              · rw [List.mem_singleton.1 hy]; exact HM.out)
          have b0 := decide_eq_true (show ((k : Nat) : Int) < (l.length : Int) by omega)
          have b1 : (0 : Int) ≤ (k : Int) := by omega
          have b2 : (k : Int) < (l.length : Int) := by omega
          have hc0 := HCE.out wa D.out.bel
          have HCp := Aside0.mk (armisticekit_CopyBytes.calls A0 c0 x x wa (Kd.C_below hcr D.out.bel) hcl (copy_f x hx63))
          clear hxk hxu hxm hcr hcell
          go_wp2_with fail
          refine HCp.out.mono ?_
          rintro e w1 ⟨v1, rfl, hR1, hb1⟩
          obtain ⟨A1, c1v, rfl⟩ := Kd.R_slice hR1
          have hc1v : x.length ≤ c1v := (Kd.R_reads' hR1).2.1
          obtain ⟨F, hF⟩ : ∃ F : Nat → Prop, Aside0 (F = fun k => wa.heap.size ≤ k ∧ k < w1.heap.size) := ⟨_, ⟨rfl⟩⟩
          have HI1 := Aside0.mk (show Kd.R (Kd.int .u8) 5 w1 w.heap.size F (.slice A1 x.length c1v) x by
            rw [hF.out]
            exact Kd.R_lower (Kd.R_mono (Kd.R_bound hR1) (fun k hk => ⟨hk.2.1, hk.2.2.1⟩)) D.out.bel.size)
          have D1 := Aside0.mk (show Duo w w1 p q sd bk L L F from D.out.below hb1 (fun k hk => by rw [hF.out] at hk; exact ⟨.inr hk.1, hk.2⟩))
          have hc1 := HCE.out w1 D1.out.bel
          clear hR1 hb1 hc0 HCp hF
          go_upto_region 11 with (fail)
          have HHs := Aside0.mk (fun w' (h : Duo w w' p q sd bk L L F) (hI : Kd.R (Kd.int .u8) 5 w' w.heap.size F (.slice A1 x.length c1v) x) => by
            obtain ⟨S, hs⟩ := h.sto
            exact Has_calls p sd bk S L w' hs hk1 hk2 hL63 A1 c1v x hc1v (by omega) (Kd.R_reads' hI).2.2 HXU.out)
          have HRh := Aside0.mk (fun w' (h : Duo w w' p q sd bk L L F) => by
            obtain ⟨S, hs⟩ := h.rfo
            exact RHas_calls q sd bk S L w' hs hL63 A0 c0 x hcl (Kd.C_below HCR.out h.bel) HXU.out)
          obtain ⟨h, hh⟩ : ∃ h, Aside0 (hasB L x = h) := ⟨_, ⟨rfl⟩⟩
          rw [hh.out] at HHs HRh
          refine wp_onlyQ fun K hK => ?_
          refine wp_region_held_drew (S := (fun w' => Duo w w' p q sd bk L L F ∧ Kd.R (Kd.int .u8) 5 w' w.heap.size F (.slice A1 x.length c1v) x)) (by kernel_rfl) ?_ (fun hHeld => ?_)
          · exact ⟨D1.out.below' (Below.refl _ _).drew, Kd.R_drew HI1.out⟩
          refine wpAnyH_take (i := 0) (v := .pointer (some ⟨p, 0, none⟩)) rfl (by kernel_rfl) (by kernel_rfl) (by kernel_rfl) (fun _ _ _ h => h) (Or.inl ⟨by rfl, fun w' hSw => ?_⟩) (by assumption) ?_
          · go_simp
          simp only [Act.put, List.getElem_toArray, List.getElem_cons_zero, List.getElem_cons_succ, List.setIfInBounds_toArray, List.set_cons_zero, List.set_cons_succ]
          refine wpAnyH_take (i := 1) (v := .slice A1 x.length c1v) rfl (by kernel_rfl) (by kernel_rfl) (by kernel_rfl) (fun _ _ _ h => h) (Or.inl ⟨by rfl, fun w' hSw => ?_⟩) (by assumption) ?_
          · go_simp
          simp only [Act.put, List.getElem_toArray, List.getElem_cons_zero, List.getElem_cons_succ, List.setIfInBounds_toArray, List.set_cons_zero, List.set_cons_succ]
          refine wpAnyH_take (i := 3) (v := .pointer (some ⟨q, 0, none⟩)) rfl (by kernel_rfl) (by kernel_rfl) (by kernel_rfl) (fun _ _ _ h => h) (Or.inl ⟨by rfl, fun w' hSw => ?_⟩) (by assumption) ?_
          · go_simp
          simp only [Act.put, List.getElem_toArray, List.getElem_cons_zero, List.getElem_cons_succ, List.setIfInBounds_toArray, List.set_cons_zero, List.set_cons_succ]
          refine wpAnyH_take (i := 4) (v := .slice (some ad) l.length c) rfl (by kernel_rfl) (by kernel_rfl) (by kernel_rfl) (fun _ _ _ h => h) (Or.inl ⟨by rfl, fun w' hSw => ?_⟩) (by assumption) ?_
          · go_simp
          simp only [Act.put, List.getElem_toArray, List.getElem_cons_zero, List.getElem_cons_succ, List.setIfInBounds_toArray, List.set_cons_zero, List.set_cons_succ]
          refine wpAnyH_take (i := 5) (v := .int .i64 k) rfl (by kernel_rfl) (by kernel_rfl) (by kernel_rfl) (fun _ _ _ h => h) (Or.inl ⟨by rfl, fun w' hSw => ?_⟩) (by assumption) ?_
          · go_simp
          simp only [Act.put, List.getElem_toArray, List.getElem_cons_zero, List.getElem_cons_succ, List.setIfInBounds_toArray, List.set_cons_zero, List.set_cons_succ]
          refine wpAnyH_take (i := 6) (v := .pointer (some (ad.add k))) rfl (by kernel_rfl) (by kernel_rfl) (by kernel_rfl) (fun _ _ _ h => h) (Or.inl ⟨by rfl, fun w' hSw => ?_⟩) (by assumption) ?_
          · go_simp
          simp only [Act.put, List.getElem_toArray, List.getElem_cons_zero, List.getElem_cons_succ, List.setIfInBounds_toArray, List.set_cons_zero, List.set_cons_succ]
          refine wpAnyH_take (i := 7) (v := .slice A0 x.length c0) rfl (by kernel_rfl) (by kernel_rfl) (by kernel_rfl) (fun _ _ _ h => h) (Or.inl ⟨by rfl, fun w' hSw => ?_⟩) (by assumption) ?_
          · (have hcx := HCE.out _ hSw.1.bel; go_simp)
          simp only [Act.put, List.getElem_toArray, List.getElem_cons_zero, List.getElem_cons_succ, List.setIfInBounds_toArray, List.set_cons_zero, List.set_cons_succ]
          refine wpAnyH_ready (rs := [2]) (by kernel_rfl) (by simp) ?_
          refine AllReadyH.cons (o := _) rfl (fun K1 hK1 => ?_) AllReadyH.nil
          rw [if_pos (by rfl)]; go_wp2_with fail; refine (HHs.out _ hHeld.1 hHeld.2).mono ?_; rintro e w2 ⟨rfl, hb⟩; go_wp2_with fail
          refine hK1.out _ _ ?_ (fun hHeld => ?_)
          · exact ⟨hHeld.1.below' hb, Kd.R_below hHeld.2 hb⟩
          clear hK1 K1
          try simp only [Act.put, List.getElem_toArray, List.getElem_cons_zero, List.getElem_cons_succ, List.setIfInBounds_toArray, List.set_cons_zero, List.set_cons_succ]
          refine wpAnyH_ready (rs := [8]) (by kernel_rfl) (by simp) ?_
          refine AllReadyH.cons (o := _) rfl (fun K1 hK1 => ?_) AllReadyH.nil
          rw [if_pos (by rfl)]; go_wp2_with fail; refine (HRh.out _ hHeld.1).mono ?_; rintro e w3 ⟨rfl, hd⟩; have hb := hd.below; clear hd; go_wp2_with fail
          refine hK1.out _ _ ?_ (fun hHeld => ?_)
          · exact ⟨hHeld.1.below' hb, Kd.R_below hHeld.2 hb⟩
          clear hK1 K1
          try simp only [Act.put, List.getElem_toArray, List.getElem_cons_zero, List.getElem_cons_succ, List.setIfInBounds_toArray, List.set_cons_zero, List.set_cons_succ]
          refine wpAnyH_ready (rs := [9]) (by kernel_rfl) (by simp) ?_
          refine AllReadyH.cons (o := _) rfl (fun K1 hK1 => ?_) AllReadyH.nil
          rw [if_pos (by rfl)]; go_simp
          refine hK1.out _ _ ?_ (fun hHeld => ?_)
          · exact hHeld
          clear hK1 K1
          try simp only [Act.put, List.getElem_toArray, List.getElem_cons_zero, List.getElem_cons_succ, List.setIfInBounds_toArray, List.set_cons_zero, List.set_cons_succ]
          refine wpAnyH_ready (rs := [10]) (by kernel_rfl) (by simp) ?_
          refine AllReadyH.cons (o := _) rfl (fun K1 hK1 => ?_) AllReadyH.nil
          rw [if_pos (by rfl)]; go_simp
          refine hK1.out _ _ ?_ (fun hHeld => ?_)
          · exact hHeld
          clear hK1 K1
          try simp only [Act.put, List.getElem_toArray, List.getElem_cons_zero, List.getElem_cons_succ, List.setIfInBounds_toArray, List.set_cons_zero, List.set_cons_succ]
          refine wpAnyH_done (by kernel_rfl) ?_ _
          show K _ _
          refine hK _ _ ?_
          clear hK K
          have D3 := Aside0.mk hHeld.1
          have HI3 := Aside0.mk hHeld.2
          have hKp : ∀ {Wa Wb : World}, Kd.R (Kd.int .u8) 5 Wa w.heap.size F (.slice A1 x.length c1v) x → Chg (fun k => ¬ F k) Wa Wb → Kd.R (Kd.int .u8) 5 Wb w.heap.size F (.slice A1 x.length c1v) x := fun h hc => Kd.R_kept h hc.kept (fun k hF hn => hn hF)
          have HKp := Aside0.mk @hKp
          have HPut := Aside0.mk (D3.out.put hk1 hk2 hL63 A1 c1v x hc1v hx63 (fun w' hc _ => (Kd.R_reads' (HKp.out HI3.out hc)).2.2) HXU.out)
          rw [hh.out] at HPut
          clear hKp hHeld hc1 HHs HRh D1 HI1
          go_wp2_with fail
          refine HPut.out.mono ?_
          rintro e w4 ⟨rfl, hD, hc⟩
          have D4 := Aside0.mk hD
          have HI4 := Aside0.mk (HKp.out HI3.out hc)
          have hc4 := HCE.out w4 D4.out.bel
          have HRp := Aside0.mk (D4.out.rput hL63 A0 c0 x hcl hx63 HCR.out HXU.out)
          rw [hh.out] at HRp
          clear hD hc HPut D3 HI3
          go_wp2_with fail
          refine HRp.out.mono ?_
          rintro e w5 ⟨rfl, hD, hc⟩
          have D5 := Aside0.mk hD
          have HI5 := Aside0.mk (HKp.out HI4.out hc)
          clear hD hc hc4 HRp D4 HI4 HKp
          go_wp2_with fail
          refine (Over_calls F _ x w w5 (by omega) D5.out.bel HI5.out).mono ?_
          rintro e w6 ⟨rfl, hb, hkk⟩
          have D6 := Aside0.mk (D5.out.over hkk hb)
          clear hb hkk D5 HI5
          obtain ⟨n2, hn2, n2a, n2b⟩ := pick_f which (l.length : Int) (by omega) (by omega)
          obtain ⟨j, rfl⟩ : ∃ j : Nat, n2 = (j : Int) := ⟨n2.toNat, by omega⟩
          have HPk := Aside0.mk (armisticekit_Pick.calls which (l.length : Int) (j : Int) w6 hn2)
          obtain ⟨ad', A7, c7, ea, hcell7, hcl7, hcr7⟩ := at_L2 HR.out (j : Int) n2a n2b
          cases ea
          simp only [Int.toNat_natCast] at hcell7
          have hjl : j < l.length := by omega
          have hyk : rd_L2 l (j : Int) = l[j] := by simp [rd_L2, List.getD, hjl]
          have hyl := HSZ.out _ (List.getElem_mem hjl)
          obtain ⟨y, hyy⟩ : ∃ y, Aside0 (l[j] = y) := ⟨_, ⟨rfl⟩⟩
          rw [hyy.out] at hyk hyl
          rw [hyk] at hcell7 hcl7 hcr7
          have hhr := hashI_range sd y
          obtain ⟨hv, hhv⟩ : ∃ h, Aside0 (hashI sd y = h) := ⟨_, ⟨rfl⟩⟩
          have HHr := Aside0.mk (fun w' (hb : Below w.heap.size w w') => RHash_calls sd A7 c7 y hcl7 (by omega) w' (Kd.C_below hcr7 hb))
          rw [hhv.out] at hhr HHr
          obtain ⟨i, hi⟩ : ∃ i, Aside0 (hv % bk = i) := ⟨_, ⟨rfl⟩⟩
          have z3 := hi.out
          have z2 := (Int.tmod_eq_emod_of_nonneg (b := bk) hhr.1).trans z3
          have hi0 : 0 ≤ i := by rw [← z3]; exact Int.emod_nonneg _ (by omega)
          have hi1 : i < bk := by rw [← z3]; exact Int.emod_lt_of_pos _ (by omega)
          have z1 : ¬ bk = 0 := by omega
          have e3 : IntKind.u64.wrap bk = bk := by simp only [IntKind.wrap_u64]; omega
          have e5 : IntKind.i64.wrap i = i := IntWalk.i64_in _ (by omega)
          have HCE7 := Aside0.mk (fun W' (hb : Below w.heap.size w W') => (hb.cell (World.block_lt_of_cell? w _ hcell7)).trans hcell7)
          clear hn2 hyk hcell7 hcr7 hyl
          go_wp2_with fail
          refine HPk.out.mono ?_
          rintro e w7 ⟨rfl, hd⟩
          have D7 := Aside0.mk (D6.out.below' hd.below)
          have hc7 := HCE7.out w7 D7.out.bel
          clear hd D6 HPk
          go_wp2_with fail
          refine (HHr.out w7 D7.out.bel).mono ?_
          rintro e w8 ⟨rfl, hd⟩
          have D8 := Aside0.mk (D7.out.below' hd.below)
          clear hd D7 hc7 HHr
          have HBk := Aside0.mk (show Calls Try.prog 24 #[.pointer (some ⟨p, 0, none⟩), .int .i64 i] w8 _ from by
            obtain ⟨S, hs⟩ := D8.out.sto
            exact Bucket_yes p sd bk S _ w8 hs hk2 hL64 (fun z hz => by have := HSZ.out z (HPx.out z hz); omega) i hi0 hi1)
          have hrsl := rows_len sd bk (putL L x) i
          obtain ⟨rs, hrs⟩ : ∃ rs, Aside0 (rowsOf sd bk (putL L x) i = rs) := ⟨_, ⟨rfl⟩⟩
          have hrx : ∀ z ∈ rs, z.length ≤ 40 := fun z hz => by
            rw [← hrs.out] at hz
            exact HSZ.out z (HPx.out z (List.mem_filter.1 hz).1)
          rw [hrs.out] at HBk hrsl
          have HRX := Aside0.mk hrx
          clear hrx
          go_wp2_with fail
          refine HBk.out.mono ?_
          rintro e w9 ⟨v, rfl, hS, hb⟩
          obtain ⟨A9, c9, rfl⟩ := Kd.S_slice hS
          obtain ⟨G, hG⟩ : ∃ G : Nat → Prop, Aside0 (G = fun k => w8.heap.size ≤ k ∧ k < w9.heap.size) := ⟨_, ⟨rfl⟩⟩
          have D9 := Aside0.mk (show Duo w w9 p q sd bk (putL L x) (putL L x) G from D8.out.below hb (fun k hk => by rw [hG.out] at hk; exact ⟨.inr hk.1, hk.2⟩))
          have HS9 := Aside0.mk (show Kd.S kB 22 w9 w.heap.size G (.slice A9 rs.length c9) rs by
            rw [hG.out]
            exact Kd.S_lower (Kd.S_mono (Kd.S_bound hS) (fun k hk => ⟨hk.2.1, hk.2.2.1⟩)) D8.out.bel.size)
          have HRB := Aside0.mk (show Calls Try.prog 25 #[.pointer (some ⟨q, 0, none⟩), .int .i64 i] w9 _ from by
            obtain ⟨S, hs⟩ := D9.out.rfo
            exact RBucket_yes q sd bk S _ w9 hs hk2 hL64 (fun z hz => by have := HSZ.out z (HPx.out z hz); omega) i hi0 hi1)
          rw [hrs.out] at HRB
          clear hS hb HBk D8
          go_wp2_with fail
          refine HRB.out.mono ?_
          rintro e w10 ⟨v, rfl, hS, hb⟩
          obtain ⟨A10, c10, rfl⟩ := Kd.S_slice hS
          have D10 := Aside0.mk (D9.out.below' hb)
          have HS10 := Aside0.mk (Kd.S_below HS9.out hb)
          have HT10 := Aside0.mk hS
          clear hS hb HRB D9 HS9 e3 e5 z1 z2 z3 hhr
          have HLn := Aside0.mk (show ∀ n, Calls Try.prog 26 #[.pointer (some ⟨p, 0, none⟩)] (w10.drewN n) fun e w' => e = .returned (.int .i64 ((putL L x).length : Int)) ∧ w' = w10.drewN n from fun n => by
            obtain ⟨S, hs⟩ := (D10.out.below' (pw_below_drewN (Below.refl _ w10) n)).sto
            exact Len_calls p sd bk S _ _ hs (by omega))
          have HSm := Aside0.mk (fun n => armisticelaw24_sameLists.calls (rs.length + 1) A9 c9 rs A10 c10 rs true (w10.drewN n) (Kd.S_reads' (Kd.S_drewN HS10.out n)).2.2 (Kd.S_reads' HS10.out).2.1 (Kd.S_reads' (Kd.S_drewN HT10.out n)).2.2 (Kd.S_reads' HT10.out).2.1 (same_f rs (by omega)))
          obtain ⟨S2, hS2⟩ := D10.out.rfo
          obtain ⟨vq, hq1, _, _, hq3⟩ := hS2
          obtain ⟨Aq, cq, rfl⟩ := Kd.R_slice hq3
          have q2 := (blk_cell hq1 2).trans rfl
          have q0 := (blk_cell hq1 0).trans rfl
          clear hq1 hq3
          obtain ⟨f, hf⟩ := HS10.out
          have HF := Aside0.mk hf
          clear hf
          go_wp2_with fail
          go_quiet ((first | (go_at_call 26; exact Calls.quiet_of_same (HLn.out _)) | (go_at_call 27; exact Calls.quiet_of ((HSm.out _).mono (fun e w' h => ⟨h.1, h.2.out⟩)))))
          go_wp2
          go_loopg [26] (rs.length + 1) (fun g2 v26 wr2 => ∃ z : Nat, z ≤ rs.length ∧ Aside0 (z + g2 = rs.length + 1) ∧ v26 = .int .i64 z ∧ Aside0 (Kept w10 wr2 (fun k => G k ∧ f k < z ∧ some k ≠ (Value.slice A9 rs.length c9).ownBlock)) ∧ Aside0 (Below w.heap.size w wr2))
          case atStart => exact ⟨0, by omega, ⟨by omega⟩, rfl, ⟨(Kept.refl _ _).drewN _⟩, ⟨pw_below_drewN D10.out.bel _⟩⟩
          case round =>
            obtain ⟨wb, rfl⟩ : ∃ wb : World, wb = wr := ⟨_, rfl⟩
            obtain ⟨gb, rfl⟩ : ∃ gb : Nat, gb = gk := ⟨_, rfl⟩
            obtain ⟨z, hz, hgz, rfl, hKz, hBz⟩ := hrel
            by_cases cz : z < rs.length
            · obtain ⟨ad9, hA9⟩ : ∃ ad9, A9 = some ad9 := by
                obtain ⟨ad9, _, _, h9, _⟩ := at_L2 (Kd.S_reads' HS10.out).2.2 (z : Int) (by omega) (by omega)
                exact ⟨ad9, h9⟩
              subst hA9
              obtain ⟨cz1, hcl1, ⟨vz, hvz, hRz⟩, hcz⟩ := Kd.R_getA HF.out (([] : List Int), 0) (z : Int) (by omega) (by omega)
              subst hvz
              have hcz1 := hcz 0 vz rfl
              have hzz : (rs.zipIdx.getD (z : Int).toNat (([] : List Int), 0)) = (rs[z], z) := by
                rw [Int.toNat_natCast, List.getD_eq_getElem?_getD, Kd.zip_at (List.getElem?_eq_getElem cz)]
                rfl
              rw [hzz] at hRz
              clear hzz
              have hzl := HRX.out _ (List.getElem_mem cz)
              have hez : (z : Int).toNat * (Kd.tag f kB).sz + 0 = z := by
                show (z : Int).toNat * 1 + 0 = z
                rw [Int.toNat_natCast, Nat.mul_one]
                rfl
              rw [hez] at hcz1
              have hno : ¬ (G (ad9.add z).block ∧ f (ad9.add z).block < z ∧ some (ad9.add z).block ≠ (Value.slice (some ad9) rs.length c9).ownBlock) := fun hk => hk.2.2 (congrArg some (add_block ad9 z))
              have hbk := hKz.out.2 (ad9.add z).block (World.block_lt_of_cell? w10 _ hcz1) hno
              have hck : wb.cell? (ad9.add z) = some vz := (World.cell?_of_block (a := ad9.add z) hbk).trans hcz1
              clear hbk
              clear hno hez
              have hRw := Kd.R_kept hRz hKz.out (fun k hk hk2 => Nat.lt_irrefl z (Nat.lt_of_le_of_lt (Nat.le_of_eq hk.2.symm) hk2.2.1))
              have HOv := Aside0.mk (Over_calls _ vz rs[z] w wb (by omega) hBz.out (Kd.R_lower hRw (Nat.le_refl _)))
              have b5 := decide_eq_true (show ((z : Nat) : Int) < (rs.length : Int) by omega)
              have b6 : (0 : Int) ≤ (z : Int) := by omega
              have b7 : (z : Int) < (rs.length : Int) := by omega
              obtain ⟨Az, cz2, rfl⟩ := Kd.R_slice hRw
              clear hcz hcz1 hRz hRw hcl1
              go_wp2_with fail
              refine HOv.out.mono ?_
              rintro e w11 ⟨rfl, hb, hkk⟩
              have HB11 := Aside0.mk hb
              have HK12 := Aside0.mk (show Kept w10 w11 (fun k => G k ∧ f k < z + 1 ∧ some k ≠ (Value.slice (some ad9) rs.length c9).ownBlock) from (hKz.out.mono (fun k hk => ⟨hk.1, Nat.lt_succ_of_lt hk.2.1, hk.2.2⟩)).then_ hkk (fun k hk => .inl ⟨hk.1.1, Nat.lt_succ_of_le (Nat.le_of_eq hk.2), hk.1.2⟩))
              clear hb hkk hck
              go_wp2
              go_roundg (gb - 1)
              case measure => have := hgz.out; omega
              case rel => exact ⟨z + 1, by omega, ⟨by have := hgz.out; omega⟩, by go_num, HK12, HB11⟩
            · have b5 := decide_eq_false (show ¬ ((z : Nat) : Int) < (rs.length : Int) by omega)
              have D11 := Aside0.mk ((D10.out.over (hKz.out.mono (fun k hk => hk.1)) hBz.out).below (F' := fun _ => False) (Below.refl _ _) (fun _ h => h.elim))
              go_wp2
              go_roundg (ga - 1)
              case measure => have := hg.out; omega
              case rel => exact ⟨k + 1, putL L x, by omega, ⟨by have := hg.out; omega⟩, by go_num, D11, ⟨by have := hpn.out; omega, HPx.out⟩⟩
        · have b0 := decide_eq_false (show ¬ ((k : Nat) : Int) < (l.length : Int) by omega)
          obtain ⟨S, hs⟩ := D.out.sto
          obtain ⟨S2, hs2⟩ := D.out.rfo
          have HS := Aside0.mk hs
          have HS2 := Aside0.mk hs2
          clear hs hs2
          by_cases cw : which < 0 ∨ bk ≤ which
          · have HBk := Aside0.mk (Bucket_no p sd bk S L wa HS.out hk1 which cw)
            have HRB := Aside0.mk (RBucket_no q sd bk S2 L wa HS2.out which cw)
            clear cw
            go_wp2_with fail
            refine HBk.out.mono ?_
            rintro e w5 ⟨rfl, hw5⟩
            subst hw5
            go_wp2_with fail
            refine HRB.out.mono ?_
            rintro e w6 ⟨rfl, hw6⟩
            subst hw6
            go_wp2_with fail
            refine (awake_calls _).mono ?_
            rintro e w7 ⟨rfl, hb⟩
            go_wp2
            go_ret
            exact ⟨rfl, D.out.bel.trans (hb.mono D.out.bel.size)⟩
          · have HBk := Aside0.mk (Bucket_yes p sd bk S L wa HS.out hk2 (by omega) (fun y hy => by have := HLx.out y hy; omega) which (by omega) (by omega))
            have HRB := Aside0.mk (fun w' (hb : Below wa.heap.size wa w') => RBucket_yes q sd bk S2 L w' (HS2.out.below hb) hk2 (by omega) (fun y hy => by have := HLx.out y hy; omega) which (by omega) (by omega))
            clear cw
            go_wp2_with fail
            refine HBk.out.mono ?_
            rintro e w5 ⟨v, rfl, hS, hb⟩
            obtain ⟨A5, c5, rfl⟩ := Kd.S_slice hS
            have HB5 := Aside0.mk hb
            clear hS hb HBk
            go_wp2_with fail
            refine (HRB.out w5 HB5.out).mono ?_
            rintro e w6 ⟨v, rfl, hS, hb⟩
            obtain ⟨A6, c6, rfl⟩ := Kd.S_slice hS
            have HB6 := Aside0.mk (HB5.out.trans (hb.mono HB5.out.size))
            clear hS hb HRB
            go_wp2_with fail
            refine (awake_calls w6).mono ?_
            rintro e w7 ⟨rfl, hb⟩
            go_wp2
            go_ret
            exact ⟨rfl, (D.out.bel.trans (HB6.out.mono D.out.bel.size)).trans (hb.mono (Nat.le_trans D.out.bel.size HB6.out.size))⟩
    · have hk2 : bk < 1 ∨ 65536 < bk := by omega
      clear hbk
      go_wp2_with fail
      refine (New_no sd bk w2 hk2).mono ?_
      rintro e w2 ⟨rfl, rfl⟩
      go_wp2_with fail
      refine (RNew_no sd bk w2 hk2).mono ?_
      rintro e w2 ⟨rfl, rfl⟩
      clear hk2
      go_wp2
      go_loopg [13] 1 (fun g v13 wr => wr = w2 ∧ v13 = .int .i64 0)
      case atStart => exact ⟨rfl, rfl⟩
      case round =>
        obtain ⟨rfl, rfl⟩ := hrel
        go_wp2_with fail
        refine (awake_calls _).mono ?_
        rintro e w3 ⟨rfl, hb⟩
        go_wp2
        go_ret
        exact ⟨rfl, HB2.out.trans (hb.mono HB2.out.size)⟩
end Go.Proofs.Ytapnegdigghomaa.P
