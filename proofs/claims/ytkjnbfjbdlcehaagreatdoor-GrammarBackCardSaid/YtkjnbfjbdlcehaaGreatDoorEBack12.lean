/- armisticelaw12.GrammarBack: what is printed is parsed as it was; it is printed just if each event may be. -/
import Derived.Test.YtkjnbfjbdlcehaaGreatDoorM12Back
import Derived.Test.YtkjnbfjbdlcehaaGreatDoorESame12
import Derived.Test.YtkjnbfjbdlcehaaGreatDoorEConv
import Derived.Test.YtkjnbfjbdlcehaaGreatDoorPx4
namespace Go.Proofs.YtkjnbfjbdlcehaaGreatDoor.P
open Go.RowKit Go.Proofs.YtkjnbfjbdlcehaaGreatDoorW.PrintWords Go.Proofs.YtkjnbfjbdlcehaaGreatDoorW.PrintLast Go.Proofs.YtkjnbfjbdlcehaaGreatDoorW.PrintMore
set_option linter.unusedVariables false
set_option linter.unusedSimpArgs false
theorem same_self12 (l : List Ev) (hl : l.length ≤ 60) (hs : ∀ x ∈ l, Z12.smallE x) : armisticekit_SameEvents.f l l = some true := by
  unfold armisticekit_SameEvents.f
  rw [if_pos]
  simp only [Bool.and_eq_true, decide_eq_true_eq, List.all_eq_true]
  exact ⟨by omega, fun x hx => by have := (hs x hx).2.2; omega, eqEvents_refl l⟩
set_option maxHeartbeats 4000000 in
set_option maxRecDepth 100000 in
theorem back_calls (A : Option Addr) (c : Nat) (l : List Ev) (w : World) (hr : Kd.C k38 w A l.length l) (hc : l.length ≤ c) (hn : ∀ x ∈ l, Z12.NumE x) (hG : GOk w) :
    Calls Tryz.prog 7 #[.slice A l.length c] w fun e w' => e = .returned (.bool true) ∧ Below w.heap.size w w' := by
  obtain ⟨b, hlong, hb⟩ := Z12.long_f l
  have HR := Aside0.mk hr
  have HK := Aside0.mk (armisticelaw12_GrammarKnown.known w hG)
  have HL := Aside0.mk (fun w' (hb : Below w.heap.size w w') => armisticekit_LongEvents.calls 200 A c l b w' (Kd.C_below hr hb) hc hlong)
  have HG := Aside0.mk (fun w' (hb : Below w.heap.size w w') => hG.below hb)
  have HF : Aside0 (b = false → l.length ≤ 60 ∧ (∀ x ∈ l, Z12.smallE x) ∧ (((∀ x ∈ l, Z12.ckE x = some 0) ∧ ∃ s, grammar_Print.f l = some (s, 0) ∧ s.size ≤ 2000000 ∧ grammar_Parse.f (bytesOf s) = some (l, 0, 0)) ∨
    ∃ (e : Int) (i : Nat), e ≠ 0 ∧ grammar_Print.f l = some (⟨#[]⟩, e) ∧ (∀ j x, j < i → l[j]? = some x → Z12.ckE x = some 0) ∧ ∃ x f, l[i]? = some x ∧ Z12.ckE x = some f ∧ f ≠ 0)) := ⟨fun h => ⟨(hb h).1, (hb h).2, Z12.back_facts l (hb h).1 (hb h).2 hn⟩⟩
  have HC := Aside0.mk hc
  obtain ⟨n, hnn⟩ : ∃ n, Aside0 (l.length = n) := ⟨_, ⟨rfl⟩⟩
  rw [hnn.out] at HR HL ⊢
  clear hr hlong hb hn hG hc
  go_enter Tryz.func7, Tryz.ntmps7
  go_wp2_with fail
  refine HK.out.mono ?_
  rintro e w1 ⟨rfl, hb1⟩
  have HB1 := Aside0.mk hb1
  clear hb1
  go_wp2_with fail
  refine (HL.out w1 HB1.out).mono ?_
  rintro e w2 ⟨rfl, hd⟩
  have HB2 := Aside0.mk (HB1.out.trans (hd.below.mono HB1.out.size))
  clear hd HL HK
  cases b with
  | true =>
    go_wp2
    go_ret
    exact ⟨rfl, HB2.out⟩
  | false =>
    obtain ⟨hln, hsm, hcases⟩ := HF.out rfl
    have HS := Aside0.mk hsm
    have HLN := Aside0.mk hln
    clear HF hsm hln
    rcases hcases with ⟨hok, s, hp, hsz, hpa⟩ | ⟨e, i, he, hp, hbef, x, f, hx, hf, hf0⟩
    · have HPr := Aside0.mk (fun w' (hb : Below w.heap.size w w') => grammar_Print.calls A c l s 0 w' (by rw [hnn.out]; exact Kd.C_below HR.out hb) HC.out hp)
      rw [hnn.out] at HPr
      have HOK := Aside0.mk hok
      have HPA := Aside0.mk hpa
      have HSZ := Aside0.mk hsz
      clear hp hok hpa hsz
      go_wp2_with fail
      refine (HPr.out w2 HB2.out).mono ?_
      rintro e w3 ⟨rfl, hb3⟩
      have HB3 := Aside0.mk (HB2.out.trans (hb3.mono HB2.out.size))
      clear hb3 HPr
      go_wp2_with fail
      go_loopg [6] (n + 1) (fun g v6 wr => ∃ k : Nat, k ≤ n ∧ Aside0 (k + g = n + 1) ∧ v6 = .int .i64 k ∧ Aside0 (Below w.heap.size w wr))
      case atStart => exact ⟨0, by omega, ⟨by omega⟩, rfl, HB3⟩
      case round =>
        obtain ⟨k, hk, hg, rfl, hB⟩ := hrel
        have hnb : n ≤ 60 := by have := HLN.out; have := hnn.out; omega
        by_cases hkl : k < n
        · obtain ⟨ad, Ae, ce, rfl, hev⟩ := at_T38 (Kd.C_below HR.out hB.out) (k : Int) (by omega) (by omega)
          have hkk : k < l.length := by rw [hnn.out]; exact hkl
          rw [Z12.rd_ev l k hkk] at hev
          have hck := HOK.out l[k] (List.getElem_mem hkk)
          obtain ⟨ev, hev2⟩ : ∃ ev, l[k] = ev := ⟨_, rfl⟩
          rw [hev2] at hev hck
          simp only [Int.toNat_natCast] at hev
          obtain ⟨e0, e1, e2, e3, e4, e5, e6, e7, e8, e9, e10, he1, he2⟩ := hev
          have HCk := Aside0.mk (fun w' (hb : Below wr.heap.size wr w') => grammar_Check.calls ev.f0 ev.f1 ev.f2 ev.f3.f0 ev.f3.f1 ev.f3.f2 ev.f3.f3.f0 ev.f3.f3.f1 ev.f4.f0 ev.f4.f1 Ae ce ev.f4.f2 0 w' (Kd.C_below he2 hb) he1 hck)
          have b0 := decide_eq_true (show ((k : Nat) : Int) < (n : Int) by omega)
          have b1 : (0 : Int) ≤ (k : Int) := by omega
          have b2 : (k : Int) < (n : Int) := by omega
          clear hev2 hck he1 he2
          go_wp2_with fail
          refine (HCk.out _ (by repeat (first | exact Below.refl _ _ | apply pw_below_drewN | apply below_drew1))).mono ?_
          rintro e w4 ⟨rfl, hb4⟩
          have HB4 := Aside0.mk (hB.out.trans (hb4.mono hB.out.size))
          clear hb4 e0 e1 e2 e3 e4 e5 e6 e7 e8 e9 e10 HCk
          go_wp2
          go_roundg (gk - 1)
          case measure => have := hg.out; omega
          case rel => exact ⟨k + 1, by omega, ⟨by have := hg.out; omega⟩, by go_num, HB4⟩
        · have b0 := decide_eq_false (show ¬ ((k : Nat) : Int) < (n : Int) by omega)
          have HPc := Aside0.mk (grammar_Parse.calls (some ⟨wr.heap.size, 0, none⟩) (grownCap wr s.size 0 5) (bytesOf s) l 0 0 (convW wr s) (convW_reads wr s (by have := HSZ.out; omega)) (convW_cap wr s) ((HG.out wr hB.out).below (convW_below wr s)) HPA.out)
          rw [bytesOf_len] at HPc
          have hcv := conv_run wr s
          have hBv := Aside0.mk (convW_below wr s)
          have hz := Aside0.mk (convW_size wr s)
          have HSame := Aside0.mk (same_self12 l HLN.out HS.out)
          go_wp2_with fail
          refine HPc.out.mono ?_
          rintro e w5 ⟨v, rfl, hS, hb5⟩
          obtain ⟨A5, c5, rfl⟩ := Kd.S_slice hS
          rw [hnn.out] at hS ⊢
          have HB5 := Aside0.mk (hB.out.trans ((hBv.out.trans (hb5.mono (by rw [hz.out]; omega))).mono hB.out.size))
          have HS5 := Aside0.mk hS
          clear hS hb5 hcv HPc hz hBv
          go_upto_region 12 with (fail)
          have hba := below_alloc (Below.refl w5.heap.size w5) (.cells #[.int .i64 0, .int .i64 0] 44)
          have hbx := blk_new w5 (.cells #[.int .i64 0, .int .i64 0] 44)
          obtain ⟨w6, hw6⟩ : ∃ w6 : World, w5.alloc (.cells #[.int .i64 0, .int .i64 0] 44) = w6 := ⟨_, rfl⟩
          rw [hw6] at hba hbx ⊢
          have HS6 := Aside0.mk (Kd.S_below HS5.out hba)
          have HB6 := Aside0.mk (HB5.out.trans (hba.mono HB5.out.size))
          have f0 := (blk_cell hbx 0).trans rfl
          have f1 := (blk_cell hbx 1).trans rfl
          clear hba hbx hw6 HS5 HB5
          have HQ := armisticekit_SameEvents.calls A5 c5 l A c l true w6 (Kd.S_reads' HS6.out).2.2 (by rw [hnn.out]; exact (Kd.S_reads' HS6.out).2.1) (by rw [hnn.out]; exact Kd.C_below HR.out HB6.out) HC.out HSame.out
          rw [hnn.out] at HQ
          have HQ := Aside0.mk HQ
          go_wp2_with fail
          refine HQ.out.mono ?_
          rintro e w7 ⟨rfl, hd7⟩
          have HB7 := Aside0.mk (HB6.out.trans (hd7.mono HB6.out.size))
          clear hd7 HQ
          go_wp2
          exact bodyPost_ret (results_tmp rfl _ _ _) rfl ⟨rfl, HB7.out⟩
    · have HPr := Aside0.mk (fun w' (hb : Below w.heap.size w w') => grammar_Print.calls A c l ⟨#[]⟩ e w' (by rw [hnn.out]; exact Kd.C_below HR.out hb) HC.out hp)
      rw [hnn.out] at HPr
      have HE := Aside0.mk he
      have HBef := Aside0.mk hbef
      have HX := Aside0.mk hx
      have HFf := Aside0.mk hf
      have HF0 := Aside0.mk hf0
      have hil := (List.getElem?_eq_some_iff.1 hx).1
      rw [hnn.out] at hil
      clear hp he hbef hx hf hf0
      go_wp2_with fail
      refine (HPr.out w2 HB2.out).mono ?_
      rintro e' w3 ⟨rfl, hb3⟩
      have HB3 := Aside0.mk (HB2.out.trans (hb3.mono HB2.out.size))
      clear hb3 HPr
      go_wp2_with fail
      go_loopg [6] (n + 1) (fun g v6 wr => ∃ k : Nat, k ≤ i ∧ Aside0 (k + g = n + 1) ∧ v6 = .int .i64 k ∧ Aside0 (Below w.heap.size w wr))
      case atStart => exact ⟨0, by omega, ⟨by omega⟩, rfl, HB3⟩
      case round =>
        obtain ⟨k, hk, hg, rfl, hB⟩ := hrel
        have hnb : n ≤ 60 := by have := HLN.out; have := hnn.out; omega
        have hkl : k < n := by omega
        obtain ⟨ad, Ae, ce, rfl, hev⟩ := at_T38 (Kd.C_below HR.out hB.out) (k : Int) (by omega) (by omega)
        have hkk : k < l.length := by rw [hnn.out]; exact hkl
        rw [Z12.rd_ev l k hkk] at hev
        have hck : ∃ r, Z12.ckE l[k] = some r ∧ ((r = 0 ∧ k < i) ∨ (r ≠ 0 ∧ k = i)) := by
          rcases Nat.lt_or_ge k i with h | h
          · exact ⟨0, HBef.out k l[k] h (List.getElem?_eq_getElem hkk), .inl ⟨rfl, h⟩⟩
          · obtain rfl : k = i := by omega
            have hx := HX.out
            rw [List.getElem?_eq_getElem hkk] at hx
            obtain rfl := Option.some.inj hx
            exact ⟨f, HFf.out, .inr ⟨HF0.out, rfl⟩⟩
        obtain ⟨r, hck, hcs⟩ := hck
        obtain ⟨ev, hev2⟩ : ∃ ev, l[k] = ev := ⟨_, rfl⟩
        rw [hev2] at hev hck
        simp only [Int.toNat_natCast] at hev
        obtain ⟨e0, e1, e2, e3, e4, e5, e6, e7, e8, e9, e10, he1, he2⟩ := hev
        have HCk := Aside0.mk (fun w' (hb : Below wr.heap.size wr w') => grammar_Check.calls ev.f0 ev.f1 ev.f2 ev.f3.f0 ev.f3.f1 ev.f3.f2 ev.f3.f3.f0 ev.f3.f3.f1 ev.f4.f0 ev.f4.f1 Ae ce ev.f4.f2 r w' (Kd.C_below he2 hb) he1 hck)
        have b0 := decide_eq_true (show ((k : Nat) : Int) < (n : Int) by omega)
        have b1 : (0 : Int) ≤ (k : Int) := by omega
        have b2 : (k : Int) < (n : Int) := by omega
        clear hev2 hck he1 he2
        go_wp2_with fail
        refine (HCk.out _ (by repeat (first | exact Below.refl _ _ | apply pw_below_drewN | apply below_drew1))).mono ?_
        rintro e' w4 ⟨rfl, hb4⟩
        have HB4 := Aside0.mk (hB.out.trans (hb4.mono hB.out.size))
        clear hb4 e0 e1 e2 e3 e4 e5 e6 e7 e8 e9 e10 HCk
        rcases hcs with ⟨rfl, hki⟩ | ⟨hr0, rfl⟩
        · go_wp2
          go_roundg (gk - 1)
          case measure => have := hg.out; omega
          case rel => exact ⟨k + 1, by omega, ⟨by have := hg.out; omega⟩, by go_num, HB4⟩
        · have d0 : (r != 0) = true := bne_iff_ne.mpr hr0
          have d1 : (e != 0) = true := bne_iff_ne.mpr HE.out
          clear hr0
          go_wp2
          go_ret
          exact ⟨rfl, HB4.out⟩
end Go.Proofs.YtkjnbfjbdlcehaaGreatDoor.P
