/- armisticelaw03.NamesScript: which number each text is given, and what the table tells then. -/
import Derived.Test.YtfnonbbakkcoaaaEDuo03
namespace Go.Proofs.Ytfnonbbakkcoaaa.P
open Go.RowKit Go.Proofs.YtfnonbbakkcoaaaW.PrintWords Go.Proofs.YtfnonbbakkcoaaaW.PrintLast Go.Proofs.YtfnonbbakkcoaaaW.PrintMore Go.Maps
set_option linter.unusedVariables false
set_option linter.unusedSimpArgs false
attribute [local go_sem ↓] Go.wp_at_zero Go.wp_at_succ
set_option maxHeartbeats 8000000 in
set_option maxRecDepth 100000 in
theorem Script_calls (A : Option Addr) (c : Nat) (l : List ByteArray) (s : ByteArray) (n : Int) (w : World) (hr : Kd.string.C w A l.length l) (hc : l.length ≤ c) (hl : l.length ≤ 140737488355328) :
    Calls Try.prog 3 #[.slice A l.length c, .string s, .int .i64 n] w fun e w' => e = .returned (.bool true) ∧ Below w.heap.size w w' := by
  obtain ⟨r, hr1, hr2⟩ := long_f l hl
  have HL := Aside0.mk (armisticelaw03_long.calls 200 A c l r w hr hc hr1)
  have HR := Aside0.mk hr
  have HR2 := Aside0.mk hr2
  clear hr hr1 hr2 hl hc
  go_enter Try.func3, Try.ntmps3
  go_wp2_with fail
  refine HL.out.mono ?_
  rintro e w2 ⟨rfl, hd⟩
  have HB2 := Aside0.mk hd.below
  clear hd HL
  cases r with
  | true =>
    go_wp2_with fail
    refine (awake_calls w2).mono ?_
    rintro e w3 ⟨rfl, hb⟩
    go_wp2
    go_ret
    exact ⟨rfl, HB2.out.trans (hb.mono HB2.out.size)⟩
  | false =>
    by_cases cs : (60 : Int) < (s.size : Int)
    · have cs1 := decide_eq_true cs
      go_wp2_with fail
      refine (awake_calls w2).mono ?_
      rintro e w3 ⟨rfl, hb⟩
      go_wp2
      go_ret
      exact ⟨rfl, HB2.out.trans (hb.mono HB2.out.size)⟩
    · have cs1 := decide_eq_false cs
      obtain ⟨hlen, hsz⟩ := HR2.out rfl
      have HSZ := Aside0.mk hsz
      clear hsz HR2
      go_wp2_with fail
      refine (New_calls w2).mono ?_
      rintro e w3 ⟨p, rfl, hp, hT, hb⟩
      have HT := Aside0.mk hT
      have HB3 := Aside0.mk hb
      clear hT hb
      have HD := Aside0.mk (show Duo3 w (w3.alloc (.cells #[.slice none 0 0] 29)) p w3.heap.size [] [] (fun _ => False) from by
        have z1 := HB2.out.size
        have z2 := HB3.out.size
        have hba := below_alloc (Below.refl w3.heap.size w3) (.cells #[.slice none 0 0] 29)
        refine ⟨HB2.out.trans ((HB3.out.trans (hba.mono z2)).mono z1), _, (fun k => w3.heap.size ≤ k), HT.out.bound.below hba, ⟨.slice none 0 0, blk_new w3 _, Nat.le_refl _, Kd.R_nil _ _ _ _ _⟩, fun k hk => ⟨Nat.le_trans z1 hk.1, by omega, fun h => h⟩, fun k hk => ⟨by omega, fun h => h⟩⟩)
      obtain ⟨q, hq⟩ : ∃ q, q = w3.heap.size := ⟨_, rfl⟩
      rw [← hq] at HD
      go_wp2_with fail
      rw [← hq]
      obtain ⟨w4, hw4⟩ : ∃ w4 : World, w3.alloc (.cells #[.slice none 0 0] 29) = w4 := ⟨_, rfl⟩
      rw [hw4] at HD ⊢
      clear hw4 HT HB3 hq
      obtain ⟨S0, hT0⟩ := HD.out.tb
      refine (Len_calls p S0 [] w4 hT0).mono ?_
      clear hT0
      rintro e w5 ⟨rfl, rfl⟩
      clear HB2
      go_wp2_with fail
      go_loopg [9] (l.length + 1) (fun g v9 wr => ∃ (k : Nat) (L : List ByteArray), k ≤ l.length ∧ Aside0 (k + g = l.length + 1) ∧ v9 = .int .i64 k ∧ Aside0 (Duo3 w wr p q L L (fun _ => False)) ∧ Aside0 (L.length ≤ k ∧ L.Nodup))
      case atStart => exact ⟨0, [], by omega, ⟨by omega⟩, rfl, HD, ⟨Nat.le_refl _, List.nodup_nil⟩⟩
      case round =>
        obtain ⟨wa, rfl⟩ : ∃ wa : World, wa = wr := ⟨_, rfl⟩
        obtain ⟨ga, rfl⟩ : ∃ ga : Nat, ga = gk := ⟨_, rfl⟩
        clear HD
        obtain ⟨k, L, hk, hg, rfl, D, hL⟩ := hrel
        obtain ⟨hL1, hL2⟩ := hL.out
        by_cases c1 : k < l.length
        · obtain ⟨ad, rfl, hcell⟩ := Kd.at_string HR.out (k : Int) (by omega) (by omega)
          simp only [Int.toNat_natCast] at hcell
          have hxk : rdOf ByteArray.empty l (k : Int) = l[k] := by simp [rdOf, List.getD, c1]
          have hxl := HSZ.out _ (List.getElem_mem c1)
          obtain ⟨x, hxx⟩ : ∃ x, Aside0 (l[k] = x) := ⟨_, ⟨rfl⟩⟩
          rw [hxx.out] at hxk hxl
          rw [hxk] at hcell
          have HCE := Aside0.mk (fun W' (hb : Below w.heap.size w W') => (hb.cell (World.block_lt_of_cell? w _ hcell)).trans hcell)
          have b0 := decide_eq_true (show ((k : Nat) : Int) < (l.length : Int) by omega)
          have b1 : (0 : Int) ≤ (k : Int) := by omega
          have b2 : (k : Int) < (l.length : Int) := by omega
          have hc0 := HCE.out wa D.out.bel
          have HA := Aside0.mk (D.out.add x (by omega) (by omega))
          have ha := addV_R L x
          obtain ⟨rr, hrr⟩ : ∃ rr, addR L x = rr := ⟨_, rfl⟩
          rw [hrr] at ha
          obtain ⟨r1, r2⟩ := rr
          have HV := Aside0.mk ha
          rw [HV.out] at HA
          clear hcell hxk ha hrr
          go_wp2_with fail
          refine HA.out.mono ?_
          rintro e w6 ⟨rfl, hD⟩
          have D6 := Aside0.mk hD
          have HRa := Aside0.mk (hD.radd x (by omega) (by omega))
          rw [HV.out] at HRa
          have hc6 := HCE.out w6 hD.bel
          clear hD HA hc0
          go_wp2_with fail
          refine HRa.out.mono ?_
          rintro e w7 ⟨rfl, hD⟩
          have D7 := Aside0.mk hD
          have hc7 := HCE.out w7 hD.bel
          have hal := add_len L x
          have hLn := Aside0.mk (show (addN L x).Nodup from by
            unfold addN
            split
            · rename_i cc
              exact List.nodup_append.2 ⟨hL2, List.pairwise_singleton _ _, fun a ha b hb e => nidx_none.1 cc.2 (by rw [List.mem_singleton.1 hb] at e; exact e ▸ ha)⟩
            · exact hL2)
          obtain ⟨L2, hL2e⟩ : ∃ L2, Aside0 (addN L x = L2) := ⟨_, ⟨rfl⟩⟩
          rw [hL2e.out] at D7 hal hLn
          obtain ⟨S5, hS5⟩ := D7.out.rt
          obtain ⟨vq, hq1, _, hq3⟩ := hS5
          obtain ⟨Aq, cq, rfl⟩ := Kd.R_slice hq3
          have q0 := (blk_cell hq1 0).trans rfl
          have HCk := Aside0.mk (fun w' => Check_calls x w' (by omega))
          have HRk := Aside0.mk (fun w' => armisticeref03_Check.calls 100 x (errN (nameB x)) w' (rcheck_f x (by omega)))
          have HLn := Aside0.mk (show ∀ m, Calls Try.prog 11 #[.pointer (some ⟨p, 0, none⟩)] (w7.drewN m) fun e w' => e = .returned (.int .i64 (L2.length : Int)) ∧ w' = w7.drewN m from fun m => by
            obtain ⟨S, hs⟩ := (D7.out.below' (pw_below_drewN (Below.refl _ w7) m)).tb
            exact Len_calls p S L2 _ hs)
          obtain ⟨en, hen⟩ : ∃ en, errN (nameB x) = en := ⟨_, rfl⟩
          rw [hen] at HCk HRk
          clear hD HRa hc6 hq1 hq3 hen HV
          go_wp2_with fail
          go_quiet ((first | (go_at_call 11; exact Calls.quiet_of_same (HLn.out _)) | (go_at_call 14; exact Calls.quiet_of ((HCk.out _).mono (fun e w' h => ⟨h.1, h.2.out⟩))) | (go_at_call 15; exact Calls.quiet_of ((HRk.out _).mono (fun e w' h => ⟨h.1, h.2.out⟩)))))
          go_wp2
          go_roundg (ga - 1)
          case measure => have := hg.out; omega
          case rel => exact ⟨k + 1, L2, by omega, ⟨by have := hg.out; omega⟩, by go_num, ⟨D7.out.below' (pw_below_drewN (Below.refl _ _) _)⟩, ⟨by omega, hLn.out⟩⟩
        · have b0 := decide_eq_false (show ¬ ((k : Nat) : Int) < (l.length : Int) by omega)
          have hl5 : L.length < 5000 := by omega
          have HND := Aside0.mk hL2
          obtain ⟨S, hs⟩ := D.out.tb
          have ho := ofN_R L s
          obtain ⟨rr, hrr⟩ : ∃ rr, ofR L s = rr := ⟨_, rfl⟩
          rw [hrr] at ho
          obtain ⟨r1, r2⟩ := rr
          have HO := Aside0.mk ho
          have HA := Aside0.mk (show Calls Try.prog 16 #[.pointer (some ⟨p, 0, none⟩), .string s] wa fun e w' => e = .returned (ofN L s) ∧ Below wa.heap.size wa w' from Of_calls p S L s (by simp only [maxLen]; omega) wa hs)
          rw [HO.out] at HA
          have hn := nameV_R L n
          obtain ⟨nn, hnn⟩ : ∃ nn, nameR L n = nn := ⟨_, rfl⟩
          rw [hnn] at hn
          obtain ⟨n1, n2⟩ := nn
          have HN := Aside0.mk hn
          have hbe : (n1.toList == n1.toList) = true := beq_ba_true rfl
          clear hs ho hrr hn hnn hL2 hg hL
          go_wp2_with fail
          refine HA.out.mono ?_
          rintro e w6 ⟨rfl, hb⟩
          have D6 := Aside0.mk (D.out.below' hb)
          clear hb HA D
          go_wp2_with fail
          obtain ⟨S, hs⟩ := D6.out.rt
          have HA := ROf_calls q S L s hl5 w6 hs
          rw [HO.out] at HA
          refine HA.mono ?_
          clear hs HA
          rintro e w7 ⟨rfl, hd⟩
          have D7 := Aside0.mk (D6.out.below' hd.below)
          clear hd D6
          go_wp2_with fail
          obtain ⟨S, hs⟩ := D7.out.tb
          have HA := Name_calls p S L n w7 hs
          rw [HN.out] at HA
          refine HA.mono ?_
          clear hs HA
          rintro e w8 ⟨rfl, hd⟩
          have D8 := Aside0.mk (D7.out.below' hd.below)
          clear hd D7
          go_wp2_with fail
          obtain ⟨S, hs⟩ := D8.out.rt
          have HA := RName_calls q S L n w8 hs
          rw [HN.out] at HA
          refine HA.mono ?_
          clear hs HA
          rintro e w9 ⟨rfl, hd⟩
          have D9 := Aside0.mk (D8.out.below' hd.below)
          clear hd D8
          go_wp2_with fail
          obtain ⟨S, hs⟩ := D9.out.tb
          refine (Order_calls p S L hl5 w9 hs).mono ?_
          clear hs
          rintro e w10 ⟨v, o, rfl, hR, hO, hb⟩
          have HIO := Aside0.mk hO
          have hol := Aside0.mk hO.len
          have HE := Aside0.mk (hO.ref HND.out)
          obtain ⟨A1, cv, rfl⟩ := Kd.R_slice hR
          obtain ⟨F, hF⟩ : ∃ F : Nat → Prop, Aside0 (F = fun k => w9.heap.size ≤ k ∧ k < w10.heap.size) := ⟨_, ⟨rfl⟩⟩
          have HR10 := Aside0.mk (show (Kd.int .i64).R 3 w10 w.heap.size F (.slice A1 o.length cv) o by
            rw [hF.out]
            exact Kd.R_lower (Kd.R_mono (Kd.R_bound hR) (fun k hk => ⟨hk.2.1, hk.2.2.1⟩)) D9.out.bel.size)
          have D10 := Aside0.mk (show Duo3 w w10 p q L L F from D9.out.aside hb (fun k hk => by rw [hF.out] at hk; exact hk.1))
          have hcv : o.length ≤ cv := (Kd.R_reads' hR).2.1
          clear hR hO hb D9 hF
          go_wp2_with fail
          obtain ⟨S, hs⟩ := D10.out.rt
          have HA := ROrder_calls q S L hl5 w10 hs
          rw [HE.out] at HA
          refine HA.mono ?_
          clear hs HA
          rintro e w11 ⟨v2, rfl, hR, hb⟩
          obtain ⟨A2, cv2, rfl⟩ := Kd.R_slice hR
          have hcv2 : o.length ≤ cv2 := (Kd.R_reads' hR).2.1
          have HR11 := Aside0.mk (Kd.R_below HR10.out hb)
          have HC2 := Aside0.mk (Kd.R_reads' hR).2.2
          have D11 := Aside0.mk (D10.out.below' hb)
          clear hR hb D10 HR10
          go_wp2_with fail
          have hC1 := (Kd.R_reads' HR11.out).2.2
          have hsame := same_f o (by have := hol.out; omega)
          have HA := armisticekit_SameInts.calls (o.length + 1) A1 cv o A2 cv2 o true w11 hC1 hcv HC2.out hcv2 hsame
          refine HA.mono ?_
          clear hC1 HA
          rintro e w12 ⟨rfl, hd⟩
          have HR12 := Aside0.mk (Kd.R_below HR11.out hd.below)
          have D12 := Aside0.mk (D11.out.below' hd.below)
          clear hd D11 HR11 HC2
          go_wp2_with fail
          obtain ⟨r, hr⟩ := over_f o (by have := hol.out; omega)
          refine (armisticekit_OverInts.calls (o.length + 1) F (.slice A1 o.length cv) o r w w12 D12.out.bel HR12.out hr).mono ?_
          clear hr
          rintro e w13 ⟨rfl, _, hb, hk⟩
          have D13 := Aside0.mk (D12.out.over hk hb)
          clear hb hk D12 HR12
          go_wp2_with fail
          obtain ⟨S, hs⟩ := D13.out.tb
          refine (Order_calls p S L hl5 w13 hs).mono ?_
          clear hs
          rintro e w14 ⟨v3, o3, rfl, hR, hO, hb⟩
          have eo : o3 = o := (hO.ref HND.out).symm.trans HE.out
          subst eo
          obtain ⟨A3, cv3, rfl⟩ := Kd.R_slice hR
          have hcv3 : o3.length ≤ cv3 := (Kd.R_reads' hR).2.1
          have HC3 := Aside0.mk (Kd.R_reads' hR).2.2
          have D14 := Aside0.mk (D13.out.below' hb)
          clear hR hO hb D13
          go_wp2_with fail
          obtain ⟨S, hs⟩ := D14.out.rt
          have HA := ROrder_calls q S L hl5 w14 hs
          rw [HE.out] at HA
          refine HA.mono ?_
          clear hs HA
          rintro e w15 ⟨v4, rfl, hR, hb⟩
          obtain ⟨A4, cv4, rfl⟩ := Kd.R_slice hR
          have hcv4 : o3.length ≤ cv4 := (Kd.R_reads' hR).2.1
          have HC4 := Aside0.mk (Kd.C_below HC3.out hb)
          have HC5 := Aside0.mk (Kd.R_reads' hR).2.2
          have HB15 := Aside0.mk (D14.out.below' hb).bel
          clear hR hb D14 HC3
          go_wp2_with fail
          have HA := armisticekit_SameInts.calls (o3.length + 1) A3 cv3 o3 A4 cv4 o3 true w15 HC4.out hcv3 HC5.out hcv4 hsame
          refine HA.mono ?_
          clear HA
          rintro e w16 ⟨rfl, hd⟩
          have HB16 := Aside0.mk (HB15.out.trans (hd.below.mono HB15.out.size))
          clear hd HB15 HC4 HC5
          go_wp2_with fail
          refine (awake_calls w16).mono ?_
          rintro e w17 ⟨rfl, hb⟩
          go_wp2
          go_ret
          exact ⟨by simp, HB16.out.trans (hb.mono HB16.out.size)⟩
end Go.Proofs.Ytfnonbbakkcoaaa.P
