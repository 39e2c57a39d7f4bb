/- armisticelaw24.StoreOnce: each that is kept stands in one bucket, that of its hash, once. -/
import Derived.Test.YtapnegdigghomaaEKnown24
import Derived.Test.YtapnegdigghomaaM24
namespace Go.Proofs.Ytapnegdigghomaa.P
open Go.RowKit Go.Proofs.YtapnegdigghomaaW.PrintWords Go.Proofs.YtapnegdigghomaaW.PrintLast Go.Proofs.YtapnegdigghomaaW.PrintMore Go.Maps
set_option linter.unusedVariables false
set_option linter.unusedSimpArgs false
def sumR (sd bk : Int) (L : List (List Int)) : Nat → Nat
  | 0 => 0
  | n + 1 => sumR sd bk L n + (rowsOf sd bk L (n : Int)).length
theorem sumR_eq (sd bk : Int) (h1 : 1 ≤ bk) (h2 : bk ≤ 65536) (L : List (List Int)) (n : Nat) : sumR sd bk L n = (L.filter fun x => decide (bkt sd bk x < (n : Int))).length := by
  induction n with
  | zero =>
    have : L.filter (fun x => decide (bkt sd bk x < ((0 : Nat) : Int))) = [] := List.filter_eq_nil_iff.2 (fun x _ => by
      have := (bkt_range sd bk x h1 h2).1
      simp
      omega)
    rw [this]
    rfl
  | succ n ih =>
    show sumR sd bk L n + _ = _
    rw [ih]
    unfold rowsOf
    clear ih
    induction L with
    | nil => rfl
    | cons x L ih =>
      simp only [List.filter_cons]
      by_cases c : bkt sd bk x = (n : Int)
      · have e1 : decide (bkt sd bk x < (n : Int)) = false := decide_eq_false (by omega)
        have e2 : (bkt sd bk x == (n : Int)) = true := beq_iff_eq.2 c
        have e3 : decide (bkt sd bk x < ((n + 1 : Nat) : Int)) = true := decide_eq_true (by omega)
        rw [e1, e2, e3]
        simp only [if_true, List.length_cons, Bool.false_eq_true, if_false]
        omega
      · have e2 : (bkt sd bk x == (n : Int)) = false := beq_eq_false_iff_ne.2 c
        by_cases c2 : bkt sd bk x < (n : Int)
        · have e1 : decide (bkt sd bk x < (n : Int)) = true := decide_eq_true c2
          have e3 : decide (bkt sd bk x < ((n + 1 : Nat) : Int)) = true := decide_eq_true (by omega)
          rw [e1, e2, e3]
          simp only [if_true, List.length_cons, Bool.false_eq_true, if_false]
          omega
        · have e1 : decide (bkt sd bk x < (n : Int)) = false := decide_eq_false c2
          have e3 : decide (bkt sd bk x < ((n + 1 : Nat) : Int)) = false := decide_eq_false (by omega)
          rw [e1, e2, e3]
          simp only [Bool.false_eq_true, if_false]
          exact ih
theorem sumR_all (sd bk : Int) (h1 : 1 ≤ bk) (h2 : bk ≤ 65536) (L : List (List Int)) (n : Nat) (hn : (n : Int) = bk) : sumR sd bk L n = L.length := by
  rw [sumR_eq sd bk h1 h2, hn]
  rw [List.filter_eq_self.2 (fun x _ => decide_eq_true (bkt_range sd bk x h1 h2).2)]
theorem sumR_le (sd bk : Int) (h1 : 1 ≤ bk) (h2 : bk ≤ 65536) (L : List (List Int)) (n : Nat) : sumR sd bk L n ≤ L.length := by
  rw [sumR_eq sd bk h1 h2]
  exact List.length_filter_le _ _
theorem putL_nodup (L : List (List Int)) (b : List Int) (h : L.Nodup) : (putL L b).Nodup := by
  unfold putL
  split
  · exact h
  · rename_i hn
    refine List.nodup_append.2 ⟨h, by simp, fun x hx y hy e => hn ?_⟩
    rw [List.mem_singleton.1 hy] at e
    unfold hasB
    rw [List.any_eq_true]
    exact ⟨x, hx, beq_iff_eq.2 e⟩
theorem hasB_mem (L : List (List Int)) (b : List Int) (h : b ∈ L) : hasB L b = true := by
  unfold hasB
  rw [List.any_eq_true]
  exact ⟨b, h, beq_self_eq_true _⟩
set_option maxHeartbeats 8000000 in
set_option maxRecDepth 100000 in
theorem Once_calls (A : Option Addr) (c : Nat) (l : List (List Int)) (sd buckets : Int) (w : World) (hr : kB.C w A l.length l) (hc : l.length ≤ c) (hu : ∀ x ∈ l, isU8 x = true) (hl : l.length ≤ 140737488355232) :
    Calls Try.prog 8 #[.slice A l.length c, .int .i64 sd, .int .i64 buckets] w fun e w' => e = .returned (.bool true) ∧ Below w.heap.size w w' := by
  obtain ⟨r, hr1, hr2⟩ := long_f l (by omega)
  obtain ⟨n1, hn1, n1a, n1b⟩ := pick_f buckets 20 (by decide) (by decide)
  have HL := Aside0.mk (fun w' (hb : Below w.heap.size w w') => armisticelaw24_long.calls 200 A c l r w' (Kd.C_below hr hb) hc hr1)
  have HP1 := Aside0.mk (fun w' => armisticekit_Pick.calls buckets 20 n1 w' hn1)
  have HR := Aside0.mk hr
  have HU := Aside0.mk hu
  have HR2 := Aside0.mk hr2
  clear hr hu hr1 hr2 hn1 hl hc
  go_enter Try.func8, Try.ntmps8
  go_wp2_with fail
  refine (Known_calls w).mono ?_
  rintro e w1 ⟨rfl, hb⟩
  have HB1 := Aside0.mk hb
  clear hb
  go_wp2_with fail
  refine (HL.out w1 HB1.out).mono ?_
  rintro e w2 ⟨rfl, hd⟩
  have HB2 := Aside0.mk (HB1.out.trans (hd.below.mono HB1.out.size))
  clear hd HB1
  cases r with
  | true =>
    go_wp2
    go_ret
    exact ⟨rfl, HB2.out⟩
  | false =>
    obtain ⟨hlen, hsz⟩ := HR2.out rfl
    have HSZ := Aside0.mk hsz
    clear hsz HR2 HL
    go_wp2_with fail
    refine (HP1.out w2).mono ?_
    rintro e w3 ⟨rfl, hd⟩
    have HB3 := Aside0.mk (HB2.out.trans (hd.below.mono HB2.out.size))
    clear hd HB2
    obtain ⟨bk, hbk⟩ : ∃ bk, Aside0 (1 + n1 = bk) := ⟨_, ⟨rfl⟩⟩
    have hk1 : 1 ≤ bk := by have := hbk.out; omega
    have hk2 : bk ≤ 20 := by have := hbk.out; omega
    have hwb : IntKind.i64.wrap (1 + n1) = bk := by rw [hbk.out]; exact IntWalk.i64_in _ (by omega)
    rw [hbk.out] at hwb
    go_wp2_with fail
    rw [hbk.out]
    refine (New_yes sd bk w3 hk1 (by omega)).mono ?_
    rintro e w4 ⟨rfl, hS, hb⟩
    have HS4 := Aside0.mk hS
    have HB4 := Aside0.mk (HB3.out.trans (hb.mono HB3.out.size))
    have hz3 := HB3.out.size
    have HT := Aside0.mk (show ∃ S : Nat → Prop, StO w4 w3.heap.size sd bk S [] ∧ ∀ k, S k → w.heap.size ≤ k from ⟨_, hS, fun k hk => Nat.le_trans hz3 hk⟩)
    generalize w3.heap.size = p at *
    clear hS hb HS4 HB3 hz3 HP1 hwb n1a n1b
    go_wp2
    go_loopg [10, 11] (l.length + 1) (fun g v10 v11 wr => ∃ (k : Nat) (L : List (List Int)), k ≤ l.length ∧ Aside0 (k + g = l.length + 1) ∧ v11 = .int .i64 k ∧ v10 = .int .i64 (L.length : Int) ∧ Aside0 (∃ S : Nat → Prop, StO wr p sd bk S L ∧ ∀ k, S k → w.heap.size ≤ k) ∧ Aside0 (Below w.heap.size w wr) ∧ Aside0 (L.length ≤ k ∧ (∀ x ∈ L, x ∈ l) ∧ L.Nodup))
    case atStart => exact ⟨0, [], by omega, ⟨by omega⟩, rfl, rfl, HT, HB4, ⟨Nat.le_refl _, (fun x hx => by cases hx), List.nodup_nil⟩⟩
    case round =>
      clear HT HB4
      obtain ⟨k, L, hk, hg, rfl, rfl, T, hW, hL⟩ := hrel
      have hL1 := hL.out.1
      by_cases c1 : k < l.length
      · obtain ⟨ad, A0, c0, ea, hcell, hcl, hcr⟩ := at_L2 HR.out (k : Int) (by omega) (by omega)
        cases ea
        simp only [Int.toNat_natCast] at hcell
        have hxk : rd_L2 l (k : Int) = l[k] := by simp [rd_L2, List.getD, c1]
        have hxl := HSZ.out _ (List.getElem_mem c1)
        have hxu := HU.out _ (List.getElem_mem c1)
        have hxm := List.getElem_mem c1
        obtain ⟨x, hxx⟩ : ∃ x, Aside0 (l[k] = x) := ⟨_, ⟨rfl⟩⟩
        rw [hxx.out] at hxk hxl hxu hxm
        rw [hxk] at hcell hcl hcr
        have HM := Aside0.mk hxm
        have hc0 := (hW.out.cell (World.block_lt_of_cell? w _ hcell)).trans hcell
        obtain ⟨S, hS, hSb⟩ := T.out
        have HPt := Aside0.mk (Put_calls p sd bk S L wr hS hk1 (by omega) (by omega) A0 c0 x hcl (by omega) (fun w' hch => Kd.C_below hcr (hW.out.trans (hch.below hW.out.size hSb))) hxu)
        have HSb := Aside0.mk hSb
        have b0 := decide_eq_true (show ((k : Nat) : Int) < (l.length : Int) by omega)
        have hpn := Aside0.mk (putL_len L x)
        clear hxk hxu hxm hcr hcell hS hSb T
        obtain ⟨h, hh⟩ : ∃ h, Aside0 (hasB L x = h) := ⟨_, ⟨rfl⟩⟩
        rw [hh.out] at HPt
        cases h with
        | true =>
          have hp2 : putL L x = L := by unfold putL; rw [if_pos hh.out]
          rw [hp2] at HPt
          clear hp2
          go_wp2_with fail
          refine HPt.out.mono ?_
          rintro e w5 ⟨he, hS, hch⟩
          obtain rfl : e = .returned (.tuple #[.bool false, .int .i64 0]) := he
          have HW5 := Aside0.mk (hW.out.trans (hch.below hW.out.size HSb.out))
          have HT5 := Aside0.mk (show ∃ S : Nat → Prop, StO w5 p sd bk S L ∧ ∀ k, S k → w.heap.size ≤ k from ⟨_, hS, fun k hk => hk.elim (HSb.out k) (fun h => Nat.le_trans hW.out.size h)⟩)
          clear hS hch hc0 HPt
          go_wp2
          go_roundg (gk - 1)
          case measure => have := hg.out; omega
          case rel => exact ⟨k + 1, L, by omega, ⟨by have := hg.out; omega⟩, by go_num, rfl, HT5, HW5, ⟨by omega, hL.out.2.1, hL.out.2.2⟩⟩
        | false =>
          have hp2 : putL L x = L ++ [x] := by unfold putL; rw [if_neg (by rw [hh.out]; simp)]
          have hnd := putL_nodup L x hL.out.2.2
          rw [hp2] at HPt hnd
          have HND := Aside0.mk hnd
          clear hp2 hnd
          go_wp2_with fail
          refine HPt.out.mono ?_
          rintro e w5 ⟨he, hS, hch⟩
          obtain rfl : e = .returned (.tuple #[.bool true, .int .i64 0]) := he
          have HW5 := Aside0.mk (hW.out.trans (hch.below hW.out.size HSb.out))
          have HT5 := Aside0.mk (show ∃ S : Nat → Prop, StO w5 p sd bk S (L ++ [x]) ∧ ∀ k, S k → w.heap.size ≤ k from ⟨_, hS, fun k hk => hk.elim (HSb.out k) (fun h => Nat.le_trans hW.out.size h)⟩)
          clear hS hch hc0 HPt
          go_wp2
          go_roundg (gk - 1)
          case measure => have := hg.out; omega
          case rel => exact ⟨k + 1, L ++ [x], by omega, ⟨by have := hg.out; omega⟩, by go_num, by simp, HT5, HW5, ⟨by simp; omega, fun y hy => by
            rcases List.mem_append.1 hy with hy | hy
            · exact hL.out.2.1 y hy
            · rw [List.mem_singleton.1 hy]; exact HM.out, HND.out⟩⟩
      · have b0 := decide_eq_false (show ¬ ((k : Nat) : Int) < (l.length : Int) by omega)
        obtain ⟨w4, rfl⟩ : ∃ w4 : World, w4 = wr := ⟨_, rfl⟩
        obtain ⟨S, hS, hSb⟩ := T.out
        have HS := Aside0.mk hS
        have HLx := Aside0.mk (fun y (hy : y ∈ L) => HSZ.out y (hL.out.2.1 y hy))
        have HLu := Aside0.mk (fun y (hy : y ∈ L) => HU.out y (hL.out.2.1 y hy))
        have HND := Aside0.mk hL.out.2.2
        have hLl : L.length ≤ 60 := by omega
        clear hS hSb T
        go_wp2
        go_loopg [14, 15] (bk.toNat + 1) (fun g v14 v15 wr => ∃ i : Nat, (i : Int) ≤ bk ∧ Aside0 (i + g = bk.toNat + 1) ∧ v15 = .int .i64 i ∧ v14 = .int .i64 (sumR sd bk L i : Int) ∧ Aside0 (Below w4.heap.size w4 wr))
        case atStart => exact ⟨0, by omega, ⟨by omega⟩, rfl, rfl, ⟨Below.refl _ _⟩⟩
        case round =>
          obtain ⟨wb, rfl⟩ : ∃ wb : World, wb = wr := ⟨_, rfl⟩
          obtain ⟨gb, rfl⟩ : ∃ gb : Nat, gb = gk := ⟨_, rfl⟩
          obtain ⟨i, hi, hgi, rfl, rfl, hW2⟩ := hrel
          have HSw := Aside0.mk (HS.out.below hW2.out)
          have hsl := sumR_le sd bk hk1 (by omega) L i
          by_cases ci : (i : Int) < bk
          · have b1 := decide_eq_true ci
            have hiv : (0 : Int) ≤ (i : Int) := by omega
            have HBk := Aside0.mk (Bucket_yes p sd bk S L wb HSw.out (by omega) (by omega) (fun y hy => by have := HLx.out y hy; omega) (i : Int) hiv ci)
            have HMem := Aside0.mk (show ∀ y ∈ rowsOf sd bk L (i : Int), y ∈ L ∧ bkt sd bk y = (i : Int) from fun y hy => by
              have := List.mem_filter.1 hy
              exact ⟨this.1, by simpa using this.2⟩)
            have HNr := Aside0.mk (show (rowsOf sd bk L (i : Int)).Nodup from HND.out.filter _)
            have hrl := rows_len sd bk L (i : Int)
            have hsum : sumR sd bk L (i + 1) = sumR sd bk L i + (rowsOf sd bk L (i : Int)).length := rfl
            have HSum := Aside0.mk hsum
            clear hsum
            generalize rowsOf sd bk L (i : Int) = rs at *
            go_wp2_with fail
            refine HBk.out.mono ?_
            rintro e w5 ⟨v, rfl, hSr, hb⟩
            obtain ⟨A3, c3, rfl⟩ := Kd.S_slice hSr
            have HRs := Aside0.mk (Kd.S_reads' hSr).2.2
            have HS5 := Aside0.mk (HSw.out.below hb)
            have HW5 := Aside0.mk (hW2.out.trans (hb.mono hW2.out.size))
            clear hSr hb HBk
            go_wp2
            go_loopg [18] (rs.length + 1) (fun g2 v18 wr2 => ∃ k2 : Nat, k2 ≤ rs.length ∧ Aside0 (k2 + g2 = rs.length + 1) ∧ v18 = .int .i64 k2 ∧ Aside0 (Below w5.heap.size w5 wr2))
            case atStart => exact ⟨0, by omega, ⟨by omega⟩, rfl, ⟨Below.refl _ _⟩⟩
            case round =>
              obtain ⟨wc, rfl⟩ : ∃ wc : World, wc = wr := ⟨_, rfl⟩
              obtain ⟨gc, rfl⟩ : ∃ gc : Nat, gc = gk := ⟨_, rfl⟩
              obtain ⟨k2, hk2', hg2, rfl, hW3⟩ := hrel
              have HCw := Aside0.mk (Kd.C_below HRs.out hW3.out)
              by_cases ck : k2 < rs.length
              · obtain ⟨ad, A0, c0, ea, hcell, hcl, hcr⟩ := at_L2 HCw.out (k2 : Int) (by omega) (by omega)
                cases ea
                simp only [Int.toNat_natCast] at hcell
                have hxk : rd_L2 rs (k2 : Int) = rs[k2] := by simp [rd_L2, List.getD, ck]
                have hxm := HMem.out _ (List.getElem_mem ck)
                have hxl := HLx.out _ hxm.1
                have hxu := HLu.out _ hxm.1
                have hne := Aside0.mk (fun (m : Nat) (hm : m < k2) => List.pairwise_iff_getElem.1 HNr.out m k2 (by omega) ck hm)
                obtain ⟨x, hxx⟩ : ∃ x, Aside0 (rs[k2] = x) := ⟨_, ⟨rfl⟩⟩
                rw [hxx.out] at hxk hxm hxl hxu hne
                rw [hxk] at hcell hcl hcr
                have hB := hasB_mem L x hxm.1
                have hhr := hashI_range sd x
                have hHc := Hash_calls sd A0 c0 x hcl (by omega) wc hcr
                have hmod := hxm.2
                unfold bkt at hmod
                obtain ⟨h, hh⟩ : ∃ h, Aside0 (hashI sd x = h) := ⟨_, ⟨rfl⟩⟩
                rw [hh.out] at hhr hHc hmod
                have z2 := Int.tmod_eq_emod_of_nonneg (b := bk) hhr.1
                have z1 : ¬ bk = 0 := by omega
                have e3 : IntKind.u64.wrap bk = bk := by simp only [IntKind.wrap_u64]; omega
                have e4 : IntKind.u64.wrap (i : Int) = (i : Int) := by simp only [IntKind.wrap_u64]; omega
                have HHs := Aside0.mk (fun w' (hb : Below wc.heap.size wc w') => Has_calls p sd bk S L w' ((HS5.out.below hW3.out).below hb) hk1 (by omega) (by omega) A0 c0 x hcl (by omega) (Kd.C_below hcr hb) hxu)
                rw [hB] at HHs
                have HHc := Aside0.mk hHc
                have HCR := Aside0.mk hcr
                have HXU := Aside0.mk hxu
                have b3 := decide_eq_true (show ((k2 : Nat) : Int) < (rs.length : Int) by omega)
                have b4 : (0 : Int) ≤ (k2 : Int) := by omega
                have HCE := Aside0.mk hcell
                clear hxk hxm hHc hcr hxu hB
                go_wp2_with fail
                refine HHc.out.mono ?_
                rintro e w6 ⟨rfl, hb⟩
                have HB6 := Aside0.mk hb
                have hcell6 := cell_later hb hcell
                clear hb
                go_wp2_with fail
                refine (HHs.out w6 HB6.out).mono ?_
                rintro e w7 ⟨rfl, hb⟩
                have HB7 := Aside0.mk (HB6.out.trans (hb.mono HB6.out.size))
                clear hb hcell6 hmod z2
                go_wp2
                go_loopg [19] (k2 + 1) (fun g4 v19 wr4 => ∃ m : Nat, m ≤ k2 ∧ Aside0 (m + g4 = k2 + 1) ∧ v19 = .int .i64 m ∧ Aside0 (Below w7.heap.size w7 wr4))
                case atStart => exact ⟨0, by omega, ⟨by omega⟩, rfl, ⟨Below.refl _ _⟩⟩
                case round =>
                  obtain ⟨wd, rfl⟩ : ∃ wd : World, wd = wr := ⟨_, rfl⟩
                  obtain ⟨gd, rfl⟩ : ∃ gd : Nat, gd = gk := ⟨_, rfl⟩
                  obtain ⟨m, hm, hg4, rfl, hW4⟩ := hrel
                  have HB4 := Aside0.mk (HB7.out.trans (hW4.out.mono HB7.out.size))
                  by_cases cm : m < k2
                  · obtain ⟨ad', A1, c1', ea, hcellm, hclm, hcrm⟩ := at_L2 (Kd.C_below HCw.out HB4.out) (m : Int) (by omega) (by omega)
                    cases ea
                    simp only [Int.toNat_natCast] at hcellm
                    have hyk : rd_L2 rs (m : Int) = rs[m]'(by omega) := by simp [rd_L2, List.getD, show m < rs.length by omega]
                    have hym := HMem.out _ (List.getElem_mem (show m < rs.length by omega))
                    have hyu := HLu.out _ hym.1
                    have hyx := hne.out m cm
                    obtain ⟨y, hyy⟩ : ∃ y, Aside0 (rs[m]'(by omega) = y) := ⟨_, ⟨rfl⟩⟩
                    rw [hyy.out] at hyk hym hyu hyx
                    rw [hyk] at hcellm hclm hcrm
                    have hf : armisticekit_SameBytes.f y x = some false := by
                      unfold armisticekit_SameBytes.f
                      rw [eq_str hyu HXU.out, beq_eq_false_iff_ne.2 hyx]
                    have HSB := Aside0.mk (fun n => armisticekit_SameBytes.calls A1 c1' y A0 c0 x false (wd.drewN n) (Kd.C_below hcrm (pw_below_drewN (Below.refl _ wd) n)) hclm (Kd.C_below HCR.out (HB4.out.trans (pw_below_drewN (Below.refl _ wd) n |>.mono HB4.out.size))) hcl hf)
                    have hcellk := cell_later HB4.out HCE.out
                    have b5 := decide_eq_true (show ((m : Nat) : Int) < ((k2 : Nat) : Int) by omega)
                    have b6 : (0 : Int) ≤ (m : Int) := by omega
                    have b7 : (m : Int) < (rs.length : Int) := by omega
                    have b8 : (k2 : Int) < (rs.length : Int) := by omega
                    clear hyk hym hyu hyx hf hcrm
                    go_wp2
                    go_quiet ((go_at_call 29; exact Calls.quiet_of ((HSB.out _).mono (fun e w' h => ⟨h.1, h.2.out⟩))))
                    go_wp2
                    go_roundg (gd - 1)
                    case measure => have := hg4.out; omega
                    case rel => exact ⟨m + 1, by omega, ⟨by have := hg4.out; omega⟩, by go_num, ⟨pw_below_drewN hW4.out _⟩⟩
                  · have b5 := decide_eq_false (show ¬ ((m : Nat) : Int) < ((k2 : Nat) : Int) by omega)
                    go_wp2
                    go_roundg (gc - 1)
                    case measure => have := hg2.out; omega
                    case rel => exact ⟨k2 + 1, by omega, ⟨by have := hg2.out; omega⟩, by go_num, ⟨hW3.out.trans (HB4.out.mono hW3.out.size)⟩⟩
              · have b3 := decide_eq_false (show ¬ ((k2 : Nat) : Int) < (rs.length : Int) by omega)
                go_wp2
                go_roundg (gb - 1)
                case measure => have := hgi.out; omega
                case rel => exact ⟨i + 1, by omega, ⟨by have := hgi.out; omega⟩, by go_num, by rw [HSum.out]; go_num, ⟨HW5.out.trans (hW3.out.mono HW5.out.size)⟩⟩
          · have b1 := decide_eq_false ci
            have hall : sumR sd bk L i = L.length := sumR_all sd bk hk1 (by omega) L i (by omega)
            have HLn := Aside0.mk (Len_calls p sd bk S L wb HSw.out (by omega))
            rw [hall]
            clear hall hsl
            go_wp2_with fail
            refine HLn.out.mono ?_
            rintro e w5 ⟨rfl, rfl⟩
            go_wp2
            go_ret
            exact ⟨rfl, hW.out.trans (hW2.out.mono hW.out.size)⟩
end Go.Proofs.Ytapnegdigghomaa.P
