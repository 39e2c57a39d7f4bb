/- store.Store: Has, New. -/
import Derived.Test.YtapnegdigghomaaEStore
import Derived.Deep.DrawnRows
import Derived.Test.YtapnegdigghomaaPx0
namespace Go.Proofs.Ytapnegdigghomaa.P
open Go.RowKit Go.Proofs.YtapnegdigghomaaW.PrintWords Go.Proofs.YtapnegdigghomaaW.PrintLast Go.Proofs.YtapnegdigghomaaW.PrintMore Go.Maps
set_option linter.unusedVariables false
set_option linter.unusedSimpArgs false
attribute [local go_sem ↓] Go.wp_at_zero Go.wp_at_succ
def hasB (l : List (List Int)) (b : List Int) : Bool := l.any fun x => x == b
theorem Equal_calls (A : Option Addr) (c : Nat) (a : List Int) (A1 : Option Addr) (c1 : Nat) (b : List Int) (w : World) (hr : Kd.C (Kd.int .u8) w A a.length a) (hr1 : Kd.C (Kd.int .u8) w A1 b.length b) (ha : isU8 a = true) (hb : isU8 b = true) :
    Calls Try.prog 37 #[.slice A a.length c, .slice A1 b.length c1] w fun e w' => e = .returned (.bool (a == b)) ∧ w' = w := by
  have k0 := Kd.C_string (P := Try.prog) (c := c) Try.underlying22 Try.underlying5 Try.underlying9 hr
  have k1 := Kd.C_string (P := Try.prog) (c := c1) Try.underlying22 Try.underlying5 Try.underlying9 hr1
  have HE := Aside0.mk (eq_str ha hb)
  clear hr hr1 ha hb
  go_enter Try.func37, Try.ntmps37
  go_wp2
  go_ret
  exact ⟨by rw [HE.out]; rfl, rfl⟩
theorem Has1_calls (A : Option Addr) (c : Nat) (a : List Int) (Bb : Nat) (A1 : Option Addr) (c1 : Nat) (b : List Int) (w : World) (hr : Kd.C (Kd.int .u8) w A a.length a) (hr1 : Kd.C (Kd.int .u8) w A1 b.length b) (ha : isU8 a = true) (hb : isU8 b = true)
    (hB : Boxed w Bb 22 (.slice A1 b.length c1)) :
    Calls Try.prog 36 #[.agg #[.slice A a.length c], .pointer (some ⟨Bb, 0, none⟩)] w fun e w' => e = .returned (.bool (a == b)) ∧ Below w.heap.size w w' := by
  have hb1 := (Below.refl w.heap.size w).alloc (Nat.le_refl _) (.cells #[.slice A a.length c] 66)
  have HQ := Aside0.mk (Equal_calls A c a A1 c1 b (w.alloc (.cells #[.slice A a.length c] 66)) (Kd.C_below hr hb1) (Kd.C_below hr1 hb1) ha hb)
  have q0 := hB.cell
  have ql := hB.lt
  have HB := Aside0.mk hb1
  clear hr hr1 ha hb hB hb1
  go_enter Try.func36, Try.ntmps36
  go_wp2_with fail
  refine HQ.out.mono ?_
  rintro e w1 ⟨rfl, rfl⟩
  go_wp2
  go_ret
  exact ⟨rfl, HB.out⟩
theorem has_take (l : List (List Int)) (b : List Int) (k : Nat) (hk : k < l.length) : hasB (l.take (k + 1)) b = (hasB (l.take k) b || (l[k] == b)) := by
  unfold hasB
  rw [List.take_succ_eq_append_getElem hk, List.any_append]
  simp
set_option maxHeartbeats 1000000 in
theorem Index_calls (A : Option Addr) (c : Nat) (l : List (List Int)) (Bb : Nat) (A1 : Option Addr) (c1 : Nat) (b : List Int) (w : World) (hr : kB.C w A l.length l) (hr1 : Kd.C (Kd.int .u8) w A1 b.length b) (hu : ∀ x ∈ l, isU8 x = true) (hb : isU8 b = true)
    (hl : l.length ≤ 140737488355328) (hB : Boxed w Bb 22 (.slice A1 b.length c1)) :
    Calls Try.prog 40 #[.slice A l.length c, .func (.func 36) #[] #[.pointer (some ⟨Bb, 0, none⟩)]] w fun e w' => ∃ r : Int, e = .returned (.int .i64 r) ∧ decide (0 ≤ r) = hasB l b ∧ Below w.heap.size w w' := by
  have HR := Aside0.mk hr
  have HR1 := Aside0.mk hr1
  have HU := Aside0.mk hu
  have HB := Aside0.mk hB
  clear hr hr1 hu hB
  go_enter Try.func40, Try.ntmps40
  go_wp2
  go_loopg [8] (l.length + 1) (fun g v8 wr => ∃ k : Nat, k ≤ l.length ∧ Aside0 (k + g = l.length + 1) ∧ v8 = .int .i64 k ∧ Aside0 (hasB (l.take k) b = false) ∧ Aside0 (Below w.heap.size w wr))
  case atStart => exact ⟨0, by omega, ⟨by omega⟩, rfl, ⟨rfl⟩, ⟨Below.refl _ _⟩⟩
  case round =>
    obtain ⟨k, hk, hg, rfl, hn, hW⟩ := hrel
    by_cases c1' : k < l.length
    · obtain ⟨ad, A0, c0, e1, hcell, hcl, hcr⟩ := at_L2 (Kd.C_below HR.out hW.out) (k : Int) (by omega) (by omega)
      cases e1
      simp only [Int.toNat_natCast] at hcell
      have hx : rd_L2 l (k : Int) = l[k] := by simp [rd_L2, List.getD, c1']
      have hxu := HU.out _ (List.getElem_mem c1')
      have hst := has_take l b k c1'
      obtain ⟨x, hxx⟩ : ∃ x, Aside0 (l[k] = x) := ⟨_, ⟨rfl⟩⟩
      rw [hxx.out] at hx hxu hst
      rw [hx] at hcell hcl hcr
      have HC := Aside0.mk (Has1_calls A0 c0 x Bb A1 c1 b wr hcr (Kd.C_below HR1.out hW.out) hxu hb (blk_below HB.out hW.out))
      have HS := Aside0.mk hst
      clear hx hxu hst hcr
      by_cases ce : (x == b) = true
      · have HCE := Aside0.mk ce
        rw [ce] at HC
        clear ce
        go_wp2_with fail
        refine HC.out.mono ?_
        rintro e w2 ⟨rfl, hb2⟩
        go_wp2
        go_ret
        refine ⟨_, rfl, ?_, hW.out.trans (hb2.mono hW.out.size)⟩
        have : hasB l b = true := by
          have h1 := HS.out
          rw [HCE.out, Bool.or_true] at h1
          unfold hasB at h1 ⊢
          rw [List.any_eq_true] at h1 ⊢
          obtain ⟨y, hy, hy2⟩ := h1
          exact ⟨y, List.mem_of_mem_take hy, hy2⟩
        rw [this]
        exact decide_eq_true (by omega)
      · have ce2 : (x == b) = false := by simpa using ce
        have HCE := Aside0.mk ce2
        rw [ce2] at HC
        clear ce ce2
        go_wp2_with fail
        refine HC.out.mono ?_
        rintro e w2 ⟨rfl, hb2⟩
        have HB2 := Aside0.mk (hW.out.trans (hb2.mono hW.out.size))
        clear hb2
        go_wp2
        go_roundg (gk - 1)
        case measure => have := hg.out; omega
        case rel => exact ⟨k + 1, by omega, ⟨by have := hg.out; omega⟩, by go_num, ⟨by rw [HS.out, hn.out, HCE.out]; rfl⟩, HB2⟩
    · have ek : l.take k = l := List.take_of_length_le (by omega)
      have hn2 := hn.out
      rw [ek] at hn2
      have HN := Aside0.mk hn2
      clear ek hn2 hn
      go_wp2
      go_ret
      exact ⟨_, rfl, by rw [HN.out]; rfl, hW.out⟩
theorem Contains_calls (A : Option Addr) (c : Nat) (l : List (List Int)) (Bb : Nat) (A1 : Option Addr) (c1 : Nat) (b : List Int) (w : World) (hr : kB.C w A l.length l) (hr1 : Kd.C (Kd.int .u8) w A1 b.length b) (hu : ∀ x ∈ l, isU8 x = true) (hb : isU8 b = true)
    (hl : l.length ≤ 140737488355328) (hB : Boxed w Bb 22 (.slice A1 b.length c1)) :
    Calls Try.prog 34 #[.slice A l.length c, .func (.func 36) #[] #[.pointer (some ⟨Bb, 0, none⟩)]] w fun e w' => e = .returned (.bool (hasB l b)) ∧ Below w.heap.size w w' := by
  have HC := Aside0.mk (Index_calls A c l Bb A1 c1 b w hr hr1 hu hb hl hB)
  clear hr hr1 hu hB hl
  go_enter Try.func34, Try.ntmps34
  go_wp2_with fail
  refine HC.out.mono ?_
  rintro e w2 ⟨r, rfl, hd, hb2⟩
  have HD := Aside0.mk hd
  clear hd
  go_wp2
  go_ret
  exact ⟨by rw [HD.out]; rfl, hb2⟩
theorem rows_has (sd bk : Int) (l : List (List Int)) (b : List Int) : hasB (rowsOf sd bk l (bkt sd bk b)) b = hasB l b := by
  unfold hasB rowsOf
  rw [Bool.eq_iff_iff, List.any_eq_true, List.any_eq_true]
  constructor
  · rintro ⟨x, hx, he⟩
    exact ⟨x, (List.mem_filter.1 hx).1, he⟩
  · rintro ⟨x, hx, he⟩
    refine ⟨x, List.mem_filter.2 ⟨hx, ?_⟩, he⟩
    rw [beq_iff_eq.1 he]
    exact beq_self_eq_true _
theorem rows_len (sd bk : Int) (l : List (List Int)) (i : Int) : (rowsOf sd bk l i).length ≤ l.length := List.length_filter_le _ _
set_option maxHeartbeats 2000000 in
set_option maxRecDepth 100000 in
theorem Has_calls (p : Nat) (sd bk : Int) (S : Nat → Prop) (l : List (List Int)) (w : World) (h : StO w p sd bk S l) (hb0 : 1 ≤ bk) (hb1 : bk ≤ 65536) (hll : l.length ≤ 1000000)
    (A0 : Option Addr) (c0 : Nat) (bs : List Int) (hc0 : bs.length ≤ c0) (hl : bs.length ≤ 140737488355328) (hr : Kd.C (Kd.int .u8) w A0 bs.length bs) (hub : isU8 bs = true) :
    Calls Try.prog 18 #[.pointer (some ⟨p, 0, none⟩), .slice A0 bs.length c0] w fun e w' => e = .returned (.bool (hasB l bs)) ∧ Below w.heap.size w w' := by
  obtain ⟨m, h⟩ := h
  have hp := h.lt
  have hu := h.u8
  have hK := bkt_range sd bk bs hb0 hb1
  have hbn : bk ≠ 0 := by omega
  have HE := Aside0.mk (rows_has sd bk l bs)
  have hBC := fun w' (hb : Below w.heap.size w w') h0 h1 => bucket_calls p sd bk w' h0 h1 hb0 hb1 A0 c0 bs hc0 hl (Kd.C_below hr hb)
  have hLk := fun w' (h : StOm w' p sd bk S l m) => h.look (bkt sd bk bs)
  have hRl := rows_len sd bk l (bkt sd bk bs)
  have hRu : ∀ x ∈ rowsOf sd bk l (bkt sd bk bs), isU8 x = true := fun x hx => hu x (List.mem_filter.1 hx).1
  generalize bkt sd bk bs = i at *
  generalize rowsOf sd bk l i = rs at *
  have hwf : (Lit.int .i64 i).wf = true := WalkArith.wf_i64 (by omega)
  have HW := Aside0.mk hwf
  have HLk := Aside0.mk hLk
  have HBC := Aside0.mk hBC
  have HU := Aside0.mk hRu
  have HL := Aside0.mk (show rs.length ≤ 140737488355328 by omega)
  have hb := (Below.refl w.heap.size w).alloc (Nat.le_refl _) (.cells #[.slice A0 bs.length c0] 22)
  have H := Aside0.mk (h.below hb)
  have HX := Aside0.mk (Boxed.new w 22 (.slice A0 bs.length c0))
  have HB := Aside0.mk hb
  have HR := Aside0.mk (fun w' (hb : Below w.heap.size w w') => Kd.C_below hr hb)
  clear h hr hb hu hwf hll hK hBC hLk hRl hRu
  go_enter Try.func18, Try.ntmps18
  go_wp2
  refine wp_onlyQ fun K hK => ?_
  refine wp_region_held_drew (S := (fun w' => (StOm w' p sd bk S l m ∧ Boxed w' w.heap.size 22 (.slice A0 bs.length c0)) ∧ Below w.heap.size w w')) (by kernel_rfl) ?_ (fun hHeld => ?_)
  · exact ⟨⟨H.out.drew, HX.out⟩, HB.out.drew⟩
  refine wpAnyH_take (i := 0) (v := .pointer (some ⟨p, 0, none⟩)) rfl (by kernel_rfl) (by kernel_rfl) (by kernel_rfl) (fun _ _ _ h => h) (Or.inl ⟨by rfl, fun w' hSw => ?_⟩) (by assumption) ?_
  · go_simp
  simp only [Act.put, List.getElem_toArray, List.getElem_cons_zero, List.getElem_cons_succ, List.setIfInBounds_toArray, List.set_cons_zero, List.set_cons_succ]
  refine wpAnyH_ready (rs := [1]) (by kernel_rfl) (by simp) ?_
  refine AllReadyH.cons (o := _) rfl (fun K1 hK1 => ?_) AllReadyH.nil
  go_wp2_with (go_at_call 33; (refine (none_no p bk _ hHeld.1.1.c1 hbn).mono ?_); rintro e w2 ⟨rfl, rfl⟩)
  refine hK1.out _ _ ?_ (fun hHeld => ?_)
  · exact hHeld
  clear hK1 K1
  try simp only [Act.put, List.getElem_toArray, List.getElem_cons_zero, List.getElem_cons_succ, List.setIfInBounds_toArray, List.set_cons_zero, List.set_cons_succ]
  refine wpAnyH_take (i := 2) (v := .bool true) rfl (by kernel_rfl) (by kernel_rfl) (by kernel_rfl) (fun _ _ _ h => h) (Or.inl ⟨by rfl, fun w' hSw => ?_⟩) (by assumption) ?_
  · go_simp
  simp only [Act.put, List.getElem_toArray, List.getElem_cons_zero, List.getElem_cons_succ, List.setIfInBounds_toArray, List.set_cons_zero, List.set_cons_succ]
  refine wpAnyH_take (i := 3) (v := .bool true) rfl (by kernel_rfl) (by kernel_rfl) (by kernel_rfl) (fun _ _ _ h => h) (Or.inl ⟨by rfl, fun w' hSw => ?_⟩) (by assumption) ?_
  · go_simp
  simp only [Act.put, List.getElem_toArray, List.getElem_cons_zero, List.getElem_cons_succ, List.setIfInBounds_toArray, List.set_cons_zero, List.set_cons_succ]
  refine wpAnyH_take (i := 4) (v := .pointer (some ⟨p, 0, none⟩)) rfl (by kernel_rfl) (by kernel_rfl) (by kernel_rfl) (fun _ _ _ h => h) (Or.inl ⟨by rfl, fun w' hSw => ?_⟩) (by assumption) ?_
  · go_simp
  simp only [Act.put, List.getElem_toArray, List.getElem_cons_zero, List.getElem_cons_succ, List.setIfInBounds_toArray, List.set_cons_zero, List.set_cons_succ]
  refine wpAnyH_take (i := 5) (v := .pointer (some ⟨p, 0, none⟩)) rfl (by kernel_rfl) (by kernel_rfl) (by kernel_rfl) (fun _ _ _ h => h) (Or.inl ⟨by rfl, fun w' hSw => ?_⟩) (by assumption) ?_
  · (have hs := hSw.1.1.c1; go_simp)
  simp only [Act.put, List.getElem_toArray, List.getElem_cons_zero, List.getElem_cons_succ, List.setIfInBounds_toArray, List.set_cons_zero, List.set_cons_succ]
  refine wpAnyH_take (i := 6) (v := .pointer (some ⟨p, 2, none⟩)) rfl (by kernel_rfl) (by kernel_rfl) (by kernel_rfl) (fun _ _ _ h => h) (Or.inl ⟨by rfl, fun w' hSw => ?_⟩) (by assumption) ?_
  · go_simp
  simp only [Act.put, List.getElem_toArray, List.getElem_cons_zero, List.getElem_cons_succ, List.setIfInBounds_toArray, List.set_cons_zero, List.set_cons_succ]
  refine wpAnyH_take (i := 7) (v := .map m) rfl (by kernel_rfl) (by kernel_rfl) (by kernel_rfl) (fun _ _ _ h => h) (Or.inl ⟨by rfl, fun w' hSw => ?_⟩) (by assumption) ?_
  · (have hs := hSw.1.1.c2; go_simp)
  simp only [Act.put, List.getElem_toArray, List.getElem_cons_zero, List.getElem_cons_succ, List.setIfInBounds_toArray, List.set_cons_zero, List.set_cons_succ]
  refine wpAnyH_take (i := 8) (v := .pointer (some ⟨p, 0, none⟩)) rfl (by kernel_rfl) (by kernel_rfl) (by kernel_rfl) (fun _ _ _ h => h) (Or.inl ⟨by rfl, fun w' hSw => ?_⟩) (by assumption) ?_
  · go_simp
  simp only [Act.put, List.getElem_toArray, List.getElem_cons_zero, List.getElem_cons_succ, List.setIfInBounds_toArray, List.set_cons_zero, List.set_cons_succ]
  refine wpAnyH_take (i := 9) (v := .slice A0 bs.length c0) rfl (by kernel_rfl) (by kernel_rfl) (by kernel_rfl) (fun _ _ _ h => h) (Or.inl ⟨by rfl, fun w' hSw => ?_⟩) (by assumption) ?_
  · (have hs := hSw.1.2.cell; go_simp)
  simp only [Act.put, List.getElem_toArray, List.getElem_cons_zero, List.getElem_cons_succ, List.setIfInBounds_toArray, List.set_cons_zero, List.set_cons_succ]
  refine wpAnyH_take (i := 12) (v := .func (.func 36) #[] #[.pointer (some ⟨w.heap.size, 0, none⟩)]) rfl (by kernel_rfl) (by kernel_rfl) (by kernel_rfl) (fun _ _ _ h => h) (Or.inl ⟨by rfl, fun w' hSw => ?_⟩) (by assumption) ?_
  · go_simp
  simp only [Act.put, List.getElem_toArray, List.getElem_cons_zero, List.getElem_cons_succ, List.setIfInBounds_toArray, List.set_cons_zero, List.set_cons_succ]
  refine wpAnyH_ready (rs := [10]) (by kernel_rfl) (by simp) ?_
  refine AllReadyH.cons (o := _) rfl (fun K1 hK1 => ?_) AllReadyH.nil
  rw [if_pos (by rfl)]; go_wp2_with (go_at_call 35; (refine (HBC.out _ hHeld.2 hHeld.1.1.c0 hHeld.1.1.c1).mono ?_); rintro e w2 ⟨rfl, hb2⟩)
  refine hK1.out _ _ ?_ (fun hHeld => ?_)
  · exact ⟨⟨hHeld.1.1.below hb2, blk_below hHeld.1.2 hb2⟩, hHeld.2.trans (hb2.mono hHeld.2.size)⟩
  clear hK1 K1
  try simp only [Act.put, List.getElem_toArray, List.getElem_cons_zero, List.getElem_cons_succ, List.setIfInBounds_toArray, List.set_cons_zero, List.set_cons_succ]
  obtain ⟨v, hrun, hrow⟩ := HLk.out _ hHeld.1.1 HW.out
  have hRd := Kd.R_reads hrow
  obtain ⟨A2, c2, rfl, hc2, hC2⟩ := hRd
  have HC2 := Aside0.mk hC2
  clear hrow hC2
  refine wpAnyH_ready (rs := [11]) (by kernel_rfl) (by simp) ?_
  refine AllReadyH.cons (o := _) rfl (fun K1 hK1 => ?_) AllReadyH.nil
  rw [if_pos (by rfl)]; go_simp
  refine hK1.out _ _ ?_ (fun hHeld => ?_)
  · exact hHeld
  clear hK1 K1
  try simp only [Act.put, List.getElem_toArray, List.getElem_cons_zero, List.getElem_cons_succ, List.setIfInBounds_toArray, List.set_cons_zero, List.set_cons_succ]
  have HCC := Aside0.mk (Contains_calls A2 c2 rs w.heap.size A0 c0 bs w2 HC2.out (HR.out w2 hHeld.2) HU.out hub HL.out hHeld.1.2)
  clear hrun hc2 hub
  refine wpAnyH_ready (rs := [13]) (by kernel_rfl) (by simp) ?_
  refine AllReadyH.cons (o := _) rfl (fun K1 hK1 => ?_) AllReadyH.nil
  rw [if_pos (by rfl)]; go_wp2_with fail; refine HCC.out.mono ?_; rintro e w3 ⟨rfl, hb3⟩; go_wp2_with fail
  refine hK1.out _ _ ?_ (fun hHeld => ?_)
  · exact ⟨⟨hHeld.1.1.below hb3, blk_below hHeld.1.2 hb3⟩, hHeld.2.trans (hb3.mono hHeld.2.size)⟩
  clear hK1 K1
  try simp only [Act.put, List.getElem_toArray, List.getElem_cons_zero, List.getElem_cons_succ, List.setIfInBounds_toArray, List.set_cons_zero, List.set_cons_succ]
  refine wpAnyH_take (i := 14) (v := .bool (hasB rs bs)) rfl (by kernel_rfl) (by kernel_rfl) (by kernel_rfl) (fun _ _ _ h => h) (Or.inl ⟨by rfl, fun w' hSw => ?_⟩) (by assumption) ?_
  · go_simp
  simp only [Act.put, List.getElem_toArray, List.getElem_cons_zero, List.getElem_cons_succ, List.setIfInBounds_toArray, List.set_cons_zero, List.set_cons_succ]
  refine wpAnyH_ready (rs := [15]) (by kernel_rfl) (by simp) ?_
  refine AllReadyH.cons (o := _) rfl (fun K1 hK1 => ?_) AllReadyH.nil
  go_simp
  refine hK1.out _ _ ?_ (fun hHeld => ?_)
  · exact hHeld
  clear hK1 K1
  try simp only [Act.put, List.getElem_toArray, List.getElem_cons_zero, List.getElem_cons_succ, List.setIfInBounds_toArray, List.set_cons_zero, List.set_cons_succ]
  refine wpAnyH_done (by kernel_rfl) ?_ _
  show K _ _
  refine hK _ _ ?_
  clear hK K
  go_wp2
  go_ret
  exact ⟨by rw [HE.out]; rfl, hHeld.2⟩
end Go.Proofs.Ytapnegdigghomaa.P
