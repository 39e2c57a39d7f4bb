/- armisticelaw03.made and NamesOrder: the order hangs on the names alone. -/
import Derived.Test.YtfnonbbakkcoaaaEAwake03
import Derived.Laws.Cover1
namespace Go.Proofs.Ytfnonbbakkcoaaa.P
open Go.RowKit Go.Proofs.YtfnonbbakkcoaaaW.PrintWords Go.Proofs.YtfnonbbakkcoaaaW.PrintLast Go.Proofs.YtfnonbbakkcoaaaW.PrintMore Go.Maps
set_option linter.unusedVariables false
set_option linter.unusedSimpArgs false
attribute [local go_sem ↓] Go.wp_at_zero Go.wp_at_succ
set_option maxHeartbeats 2000000 in
set_option maxRecDepth 100000 in
theorem made_calls (A : Option Addr) (c : Nat) (l : List ByteArray) (w : World) (hr : Kd.string.C w A l.length l) (hlen : l.length ≤ 80) (hsz : ∀ x ∈ l, x.size ≤ 60) :
    Calls Try.prog 27 #[.slice A l.length c] w fun e w' => ∃ p, e = .returned (.pointer (some ⟨p, 0, none⟩)) ∧ TbO w' p (fun k => w.heap.size ≤ k) (addsN l) ∧ Below w.heap.size w w' := by
  have HR := Aside0.mk hr
  have HSZ := Aside0.mk hsz
  clear hr hsz
  go_enter Try.func27, Try.ntmps27
  go_wp2_with fail
  refine (New_calls w).mono ?_
  rintro e w1 ⟨p, rfl, hp, hT, hb⟩
  have HT := Aside0.mk hT
  have HB := Aside0.mk hb
  clear hT hb
  go_wp2_with fail
  go_loopg [4] (l.length + 1) (fun g v4 wr => ∃ (k : Nat), k ≤ l.length ∧ Aside0 (k + g = l.length + 1) ∧ v4 = .int .i64 k ∧ Aside0 (TbO wr p (fun k => w.heap.size ≤ k) (addsN (l.take k))) ∧ Aside0 (Below w.heap.size w wr))
  case atStart => exact ⟨0, by omega, ⟨by omega⟩, rfl, HT, HB⟩
  case round =>
    clear HT HB
    obtain ⟨k, hk, hg, rfl, T, B⟩ := hrel
    by_cases c1 : k < l.length
    · obtain ⟨ad, rfl, hcell⟩ := Kd.at_string (Kd.C_below HR.out B.out) (k : Int) (by omega) (by omega)
      simp only [Int.toNat_natCast] at hcell
      have hxk : rdOf ByteArray.empty l (k : Int) = l[k] := by simp [rdOf, List.getD, c1]
      have hxl := HSZ.out _ (List.getElem_mem c1)
      have hat := Aside0.mk (adds_take c1)
      have hf := (adds_take_facts l k hk).2.1
      obtain ⟨x, hxx⟩ : ∃ x, Aside0 (l[k] = x) := ⟨_, ⟨rfl⟩⟩
      rw [hxx.out] at hxk hxl hat
      rw [hxk] at hcell
      have b0 := decide_eq_true (show ((k : Nat) : Int) < (l.length : Int) by omega)
      have b1 : (0 : Int) ≤ (k : Int) := by omega
      have b2 : (k : Int) < (l.length : Int) := by omega
      have HA := Aside0.mk (Add_calls p _ (addsN (l.take k)) x (by omega) (by omega) wr T.out)
      clear hxk
      go_wp2_with fail
      refine HA.out.mono ?_
      rintro e w2 ⟨rfl, hT, hC⟩
      have HT := Aside0.mk (show TbO w2 p (fun k => w.heap.size ≤ k) (addsN (l.take (k + 1))) from by
        rw [hat.out]
        exact hT.mono (fun k hk => by have := B.out.size; omega))
      have HB := Aside0.mk (B.out.trans (hC.below B.out.size (fun k hk => hk)))
      clear hT hC HA
      go_wp2
      go_roundg (gk - 1)
      case measure => have := hg.out; omega
      case rel => exact ⟨k + 1, by omega, ⟨by have := hg.out; omega⟩, by go_num, HT, HB⟩
    · have b0 := decide_eq_false (show ¬ ((k : Nat) : Int) < (l.length : Int) by omega)
      have HT := Aside0.mk (show TbO wr p (fun k => w.heap.size ≤ k) (addsN l) from by
        have e : l.take k = l := List.take_of_length_le (by omega)
        have := T.out
        rwa [e] at this)
      go_wp2
      go_ret
      exact ⟨p, rfl, HT.out, B.out⟩
/-- The name ahead of the k-th in an order; ahead of the first: no text. -/
def lastN (l : List ByteArray) (o : List Int) : Nat → ByteArray
  | 0 => ⟨#[]⟩
  | k + 1 => (namesOf l o).getD k ByteArray.empty
theorem order_step {l1 l2 : List ByteArray} (h1 : Nms l1) (h2 : l2.Nodup) (hm : ∀ x, x ∈ l1 ↔ x ∈ l2) {o1 o2 : List Int} (ho1 : IsOrd l1 o1) (ho2 : IsOrd l2 o2) {k : Nat} (hk : k < o1.length) (hk2 : k < o2.length) :
    ∃ s, nameV l1 (rd o1 (k : Int)) = .tuple #[.string s, .int .i64 0] ∧ nameV l2 (rd o2 (k : Int)) = .tuple #[.string s, .int .i64 0] ∧ lastN l1 o1 (k + 1) = s ∧ Op.bytesLess s.toList (lastN l1 o1 k).toList = false ∧ (s.toList == (lastN l1 o1 k).toList) = false := by
  have hag := orders_agree h1.nd h2 hm ho1 ho2
  have hn1 : k < (namesOf l1 o1).length := by simpa [namesOf] using hk
  have e1 : rd o1 (k : Int) = o1[k] := by simp [rd, List.getD, hk]
  have e2 : rd o2 (k : Int) = o2[k] := by simp [rd, List.getD, hk2]
  have g1 : (namesOf l1 o1)[k] = rdOf ByteArray.empty l1 o1[k] := by simp [namesOf]
  have g2 : (namesOf l1 o1)[k] = rdOf ByteArray.empty l2 o2[k] := (List.getElem_of_eq hag hn1).trans (by simp [namesOf])
  have hmem : (namesOf l1 o1)[k] ∈ l1 := ho1.names_perm.mem_iff.1 (List.getElem_mem hn1)
  have hs := ho1.names_sorted h1.nd
  refine ⟨(namesOf l1 o1)[k], ?_, ?_, by simp [lastN, List.getD, hn1], ?_⟩
  · rw [e1, g1]
    exact if_pos (mem_iota.1 (ho1.1.mem_iff.1 (List.getElem_mem hk)))
  · rw [e2, g2]
    exact if_pos (mem_iota.1 (ho2.1.mem_iff.1 (List.getElem_mem hk2)))
  · cases k with
    | zero =>
      have hb := h1.ok _ hmem
      have h0 : (namesOf l1 o1)[0].toList ≠ [] := by
        intro e
        rw [ByteArray.toList_eq] at e
        unfold nameB at hb
        have e3 : (namesOf l1 o1)[0].size = 0 := by
          show (namesOf l1 o1)[0].data.size = 0
          rw [← Array.length_toList, e]
          rfl
        rw [e3] at hb
        simp at hb
      have e4 : (lastN l1 o1 0).toList = [] := by
        rw [ByteArray.toList_eq]
        rfl
      rw [e4]
      refine ⟨?_, beq_eq_false_iff_ne.2 h0⟩
      cases (namesOf l1 o1)[0].toList <;> rfl
    | succ j =>
      have hj : j < (namesOf l1 o1).length := by omega
      have e4 : lastN l1 o1 (j + 1) = (namesOf l1 o1)[j] := by simp [lastN, List.getD, hj]
      have h3 := List.pairwise_iff_getElem.1 hs j (j + 1) hj hn1 (by omega)
      have h4 := cb_anti (namesOf l1 o1)[j].data.toList (namesOf l1 o1)[j + 1].data.toList
      rw [e4, bl_ba]
      refine ⟨decide_eq_false (by omega), beq_ba_false (fun e => ?_)⟩
      rw [e] at h3 h4
      omega
set_option maxHeartbeats 8000000 in
set_option maxRecDepth 100000 in
theorem OrderLaw_calls (A : Option Addr) (c : Nat) (l : List ByteArray) (w : World) (hr : Kd.string.C w A l.length l) (hc : l.length ≤ c) (hl : l.length ≤ 140737488355328) :
    Calls Try.prog 7 #[.slice A l.length c] w fun e w' => e = .returned (.bool true) ∧ Below w.heap.size w w' := by
  obtain ⟨r, hr1, hr2⟩ := long_f l hl
  have HL := Aside0.mk (fun w' (hb : Below w.heap.size w w') => armisticelaw03_long.calls 200 A c l r w' (Kd.C_below hr hb) hc hr1)
  have HR := Aside0.mk hr
  have HR2 := Aside0.mk hr2
  clear hr hr1 hr2 hl hc
  go_enter Try.func7, Try.ntmps7
  go_wp2_with fail
  refine (Known_calls w).mono ?_
  rintro e w1 ⟨rfl, hb⟩
  have HB1 := Aside0.mk hb
  clear hb
  go_wp2_with fail
  refine (HL.out w1 HB1.out).mono ?_
  rintro e w2 ⟨rfl, hd⟩
  have HB2 := Aside0.mk (HB1.out.trans (hd.below.mono HB1.out.size))
  clear hd HL HB1
  cases r with
  | true =>
    go_wp2
    go_ret
    exact ⟨rfl, HB2.out⟩
  | false =>
    obtain ⟨hlen, hsz⟩ := HR2.out rfl
    have HSZ := Aside0.mk hsz
    clear hsz HR2
    go_wp2_with fail
    go_loopg [4, 5] (l.length + 1) (fun g v4 v5 wr => ∃ (k : Nat) (z : Int), k ≤ l.length ∧ Aside0 (k + g = l.length + 1) ∧ Aside0 (z = (l.length : Int) - 1 - k) ∧ v5 = .int .i64 z ∧ Aside0 (Kd.string.R 9 wr w2.heap.size (fun _ => True) v4 (l.reverse.take k)) ∧ Aside0 (Below w2.heap.size w2 wr))
    case atStart => exact ⟨0, (l.length : Int) - 1, by omega, ⟨by omega⟩, ⟨by omega⟩, by go_num, ⟨Kd.R_nil _ _ _ _ _⟩, ⟨Below.refl _ _⟩⟩
    case round =>
      obtain ⟨k, z, hk, hg, hz, rfl, hR, hB⟩ := hrel
      have HBw := Aside0.mk (HB2.out.trans (hB.out.mono HB2.out.size))
      by_cases c1 : k < l.length
      · have hz1 := hz.out
        obtain ⟨j, rfl⟩ : ∃ j : Nat, z = (j : Int) := ⟨l.length - 1 - k, by omega⟩
        obtain ⟨ad, rfl, hcell⟩ := Kd.at_string (Kd.C_below HR.out HBw.out) (j : Int) (by omega) (by omega)
        simp only [Int.toNat_natCast] at hcell
        have hjl : j < l.length := by omega
        have hjk : l.length - 1 - k = j := by omega
        have hxk : rdOf ByteArray.empty l (j : Int) = l[j] := by simp [rdOf, List.getD, hjl]
        have htk : l.reverse.take (k + 1) = l.reverse.take k ++ [l[j]] := by
          rw [List.take_succ_eq_append_getElem (by simpa using c1), List.getElem_reverse]
          simp only [hjk]
        obtain ⟨x, hxx⟩ : ∃ x, Aside0 (l[j] = x) := ⟨_, ⟨rfl⟩⟩
        rw [hxx.out] at hxk htk
        rw [hxk] at hcell
        have HTK := Aside0.mk htk
        have b0 := decide_eq_true (show (0 : Int) ≤ (j : Int) by omega)
        have b1 : (0 : Int) ≤ (j : Int) := by omega
        have b2 : (j : Int) < (l.length : Int) := by omega
        have HM := Aside0.mk (show ∀ W : World, Kd.string.M W w2.heap.size (fun _ => False) x [.string x] from fun W => rfl)
        have HLen := Aside0.mk (show ((l.reverse.take k).length + 1) * 16 ≤ 140737488355328 by
          have := List.length_take_le k l.reverse
          omega)
        have hzn : IntKind.i64.wrap ((j : Int) - 1) = (j : Int) - 1 := IntWalk.i64_in _ (by omega)
        clear hxk htk hz1 hjk
        go_wp2_with ((with_reducible refine gate_builtin (b := .append) (xs := #[.tmp 27, .tmp 32]) rfl ?_); at_builtin; refine Kd.R_append Kd.string (w0 := w2) w2.heap.size rfl (.tmp 27) (.tmp 32) 22 9 (.string ⟨#[]⟩) 16 rfl Try.underlying22 infoS rfl (by decide) (by decide) _ (l.reverse.take k) x [.string x] (fun _ => True) (fun _ => False) rfl rfl (HM.out _) (fun _ h => h.elim) (fun _ _ => trivial) hR.out hB.out hB.out.size HLen.out ?_; intro v4 w4 hR4 hb4 _ _; rw [← HTK.out] at hR4; have HR4 := Aside0.mk hR4; have HB4 := Aside0.mk hb4; clear hR4 hb4)
        go_roundg (gk - 1)
        case measure => have := hg.out; omega
        case rel => exact ⟨k + 1, (j : Int) - 1, by omega, ⟨by have := hg.out; omega⟩, ⟨by have := hz.out; omega⟩, by go_num, HR4, HB4⟩
      · have b0 := decide_eq_false (show ¬ (0 : Int) ≤ z by have := hz.out; omega)
        have hRv := hR.out
        rw [show l.reverse.take k = l.reverse from List.take_of_length_le (by simp; omega)] at hRv
        obtain ⟨Ab, cb, rfl⟩ := Kd.R_slice hRv
        have HRV := Aside0.mk hRv
        rw [show l.reverse.length = l.length from List.length_reverse]
        clear hRv hR
        go_wp2_with fail
        refine (made_calls A c l wr (Kd.C_below HR.out HBw.out) hlen HSZ.out).mono ?_
        rintro e w3 ⟨p, rfl, hT, hb⟩
        have HT := Aside0.mk hT
        have HB3 := Aside0.mk (HBw.out.trans (hb.mono HBw.out.size))
        have hcv := (Kd.R_reads' HRV.out).2.2
        have HC3 := Aside0.mk (Kd.C_below hcv hb)
        clear hcv
        clear hT hb HRV
        go_wp2_with fail
        have HA := made_calls Ab cb l.reverse w3 HC3.out (by simpa using hlen) (fun x hx => HSZ.out x (List.mem_reverse.1 hx))
        rw [show l.reverse.length = l.length from List.length_reverse] at HA
        refine HA.mono ?_
        clear HA
        rintro e w4 ⟨q, rfl, hT2, hb⟩
        have HT1 := Aside0.mk (HT.out.below hb)
        have HT2 := Aside0.mk hT2
        have HB4 := Aside0.mk (HB3.out.trans (hb.mono HB3.out.size))
        clear hT2 hb HT HB3 HC3
        have hN1 := adds_nms l
        have hN2 := adds_nms l.reverse
        have hM : ∀ x, x ∈ addsN l ↔ x ∈ addsN l.reverse := fun x => by rw [mem_adds, mem_adds, List.mem_reverse]
        have hll := (perm_of_nodup hN1.nd hN2.nd hM).length_eq
        have hl1 := (adds_take_facts l l.length (Nat.le_refl _)).2.1
        rw [List.take_length] at hl1
        obtain ⟨l1, hl1e⟩ : ∃ l1, l1 = addsN l := ⟨_, rfl⟩
        obtain ⟨l2, hl2e⟩ : ∃ l2, l2 = addsN l.reverse := ⟨_, rfl⟩
        rw [← hl1e] at HT1 hN1 hM hll hl1
        rw [← hl2e] at HT2 hN2 hM hll
        have HN1 := Aside0.mk hN1
        have HN2 := Aside0.mk hN2
        have HM := Aside0.mk hM
        clear hN1 hN2 hM hl1e hl2e
        have HLn1 := Aside0.mk (fun w' (hb : Below w4.heap.size w4 w') => Len_calls p _ l1 w' (HT1.out.below hb))
        have HLn2 := Aside0.mk (fun w' (hb : Below w4.heap.size w4 w') => Len_calls q _ l2 w' (HT2.out.below hb))
        rw [← hll] at HLn2
        have HLL := Aside0.mk hll
        clear hll
        go_wp2_with fail
        refine (HLn1.out w4 (Below.refl _ _)).mono ?_
        rintro e w5 ⟨rfl, rfl⟩
        go_wp2_with fail
        refine (HLn2.out w5 (Below.refl _ _)).mono ?_
        rintro e w6 ⟨rfl, rfl⟩
        go_wp2_with fail
        refine (Order_calls p _ l1 (by omega) w6 HT1.out).mono ?_
        rintro e w7 ⟨v1, o1, rfl, hR1, hO1, hb1⟩
        obtain ⟨A1, c1v, rfl⟩ := Kd.R_slice hR1
        have HO1 := Aside0.mk hO1
        have ho1 := Aside0.mk hO1.len
        have HC1 := Aside0.mk (Kd.R_reads' hR1).2.2
        have HB7 := Aside0.mk hb1
        clear hR1 hO1 hb1
        go_wp2_with fail
        refine (Order_calls q _ l2 (by have := HLL.out; omega) w7 (HT2.out.below HB7.out)).mono ?_
        rintro e w8 ⟨v2, o2, rfl, hR2, hO2, hb2⟩
        obtain ⟨A2, c2v, rfl⟩ := Kd.R_slice hR2
        have HO2 := Aside0.mk hO2
        have ho2 := Aside0.mk (show o2.length = o1.length by rw [hO2.len, ho1.out, HLL.out])
        have HC2 := Aside0.mk (Kd.R_reads' hR2).2.2
        have HC1' := Aside0.mk (Kd.C_below HC1.out hb2)
        have HB8 := Aside0.mk (HB7.out.trans (hb2.mono HB7.out.size))
        clear hR2 hO2 hb2 HC1 HB7
        rw [← ho1.out] at HLn1
        go_wp2_with fail
        refine (HLn1.out w8 HB8.out).mono ?_
        rintro e w9 ⟨rfl, rfl⟩
        rw [ho2.out]
        go_wp2_with fail
        have HL1 := Aside0.mk (show o1.length ≤ 80 by have := ho1.out; omega)
        obtain ⟨n1, hn1⟩ : ∃ n1, Aside0 (o1.length = n1) := ⟨_, ⟨rfl⟩⟩
        rw [hn1.out] at HL1 HC1' ⊢
        have hc2 := HC2.out
        rw [ho2.out, hn1.out] at hc2
        have HC2 := Aside0.mk hc2
        clear hc2
        go_loopg [10, 11] (n1 + 1) (fun g v10 v11 wr2 => ∃ (i : Nat), i ≤ n1 ∧ Aside0 (i + g = n1 + 1) ∧ v10 = .string (lastN l1 o1 i) ∧ v11 = .int .i64 i ∧ Aside0 (Below w9.heap.size w9 wr2))
        case atStart => exact ⟨0, by omega, ⟨by omega⟩, rfl, rfl, ⟨Below.refl _ _⟩⟩
        case round =>
          obtain ⟨wb, rfl⟩ : ∃ wb : World, wb = wr := ⟨_, rfl⟩
          obtain ⟨i, hi, hgi, rfl, rfl, hD⟩ := hrel
          by_cases c2 : i < n1
          · obtain ⟨s, hs1, hs2, hs3, hs4, hs5⟩ := order_step HN1.out HN2.out.nd HM.out HO1.out HO2.out (k := i) (by have := hn1.out; omega) (by have := hn1.out; have := ho2.out; omega)
            obtain ⟨t, ht⟩ : ∃ t, lastN l1 o1 i = t := ⟨_, rfl⟩
            rw [ht] at hs4 hs5 ⊢
            obtain ⟨ad1, rfl, hcell1⟩ := Kd.at_int (Kd.C_below HC1'.out hD.out) (i : Int) (by omega) (by omega)
            obtain ⟨ad2, rfl, hcell2⟩ := Kd.at_int (Kd.C_below HC2.out hD.out) (i : Int) (by omega) (by omega)
            simp only [Int.toNat_natCast] at hcell1 hcell2
            have hbe : (s.toList == s.toList) = true := beq_ba_true rfl
            have hbf : (s.toList != s.toList) = false := bne_eq_false_iff_eq.2 rfl
            have b0 := decide_eq_true (show ((i : Nat) : Int) < (n1 : Int) by omega)
            have b1 : (0 : Int) ≤ (i : Int) := by omega
            have b2 : (i : Int) < (n1 : Int) := by omega
            have HNm1 := Aside0.mk (fun w' (hb : Below w6.heap.size w6 w') => Name_calls p _ l1 (rd o1 (i : Int)) w' (HT1.out.below hb))
            have HNm2 := Aside0.mk (fun w' (hb : Below w6.heap.size w6 w') => Name_calls q _ l2 (rd o2 (i : Int)) w' (HT2.out.below hb))
            rw [hs1] at HNm1
            rw [hs2] at HNm2
            have HS3 := Aside0.mk hs3
            have hBb := Aside0.mk (HB8.out.trans (hD.out.mono HB8.out.size))
            clear hs1 hs2 hs3 ht
            go_wp2_with fail
            refine (HNm1.out wb hBb.out).mono ?_
            rintro e w10 ⟨rfl, hd⟩
            have hcell2' := cell_later hd.below hcell2
            have hD2 := Aside0.mk (hD.out.trans (hd.below.mono hD.out.size))
            clear hd hcell1 hcell2
            go_wp2_with fail
            refine (HNm2.out w10 (HB8.out.trans (hD2.out.mono HB8.out.size))).mono ?_
            rintro e w11 ⟨rfl, hd⟩
            have hD3 := Aside0.mk (hD2.out.trans (hd.below.mono hD2.out.size))
            clear hd hcell2'
            go_wp2
            go_roundg (gk - 1)
            case measure => have := hgi.out; omega
            case rel => exact ⟨i + 1, by omega, ⟨by have := hgi.out; omega⟩, by rw [HS3.out], by rw [w64n i (by have := HL1.out; omega)], hD3⟩
          · have b0 := decide_eq_false (show ¬ ((i : Nat) : Int) < (n1 : Int) by omega)
            go_wp2
            go_ret
            exact ⟨rfl, HB4.out.trans ((HB8.out.trans (hD.out.mono HB8.out.size)).mono HB4.out.size)⟩
end Go.Proofs.Ytfnonbbakkcoaaa.P
