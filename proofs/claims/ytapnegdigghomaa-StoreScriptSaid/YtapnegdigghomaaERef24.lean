/- armisticeref24.Store: the document's store; New, Has, Put, Bucket. -/
import Derived.Test.YtapnegdigghomaaEStoreBkt
import Derived.Test.YtapnegdigghomaaEPuts24
import Derived.Test.YtapnegdigghomaaPx1
namespace Go.Proofs.Ytapnegdigghomaa.P
open Go.RowKit Go.Proofs.YtapnegdigghomaaW.PrintWords Go.Proofs.YtapnegdigghomaaW.PrintLast Go.Proofs.YtapnegdigghomaaW.PrintMore Go.Maps
set_option linter.unusedVariables false
set_option linter.unusedSimpArgs false
attribute [local go_sem ↓] Go.wp_at_zero Go.wp_at_succ
/-- Block p is the document's store that has l; its blocks are among S. -/
def RfO (w : World) (p : Nat) (sd bk : Int) (S : Nat → Prop) (l : List (List Int)) : Prop :=
  ∃ v : Value, w.heap[p]? = some (.cells #[.int .i64 sd, .int .i64 bk, v] 47 (0, 0)) ∧ S p ∧ (∀ x ∈ l, isU8 x = true) ∧ kB.R 22 w 0 (fun k => S k ∧ k ≠ p) v l
section
variable {w w' : World} {p : Nat} {sd bk : Int} {S S2 : Nat → Prop} {l : List (List Int)}
theorem RfO.mono (h : RfO w p sd bk S l) (hm : ∀ k, S k → S2 k) : RfO w p sd bk S2 l := by
  obtain ⟨v, h1, h2, hu, h3⟩ := h
  exact ⟨v, h1, hm p h2, hu, Kd.R_mono h3 (fun k hk => ⟨hm k hk.1, hk.2⟩)⟩
theorem RfO.bound (h : RfO w p sd bk S l) : RfO w p sd bk (fun k => S k ∧ k < w.heap.size) l := by
  obtain ⟨v, h1, h2, hu, h3⟩ := h
  exact ⟨v, h1, ⟨h2, blk_lt h1⟩, hu, Kd.R_mono (Kd.R_bound h3) (fun k hk => ⟨⟨hk.1.1, hk.2.2.1⟩, hk.1.2⟩)⟩
theorem RfO.step (h : RfO w p sd bk S l) (hm : ∀ k, S k → k < w.heap.size → w'.heap[k]? = w.heap[k]?) : RfO w' p sd bk S l := by
  obtain ⟨v, h1, h2, hu, h3⟩ := h
  exact ⟨v, (hm p h2 (blk_lt h1)).trans h1, h2, hu, Kd.R_step h3 (fun k hk hl => hm k hk.1 hl)⟩
theorem RfO.chg (h : RfO w p sd bk S l) (hc : Chg S2 w w') (hd : ∀ k, S k → ¬ S2 k) : RfO w' p sd bk S l := h.step (fun k hk hl => hc.block k hl (hd k hk))
theorem RfO.below (h : RfO w p sd bk S l) (hb : Below w.heap.size w w') : RfO w' p sd bk S l := h.step (fun k _ hl => hb.block k hl)
theorem RfO.made (w : World) (sd bk : Int) : RfO (w.alloc (.cells #[.int .i64 sd, .int .i64 bk, .slice none 0 0] 47)) w.heap.size sd bk (fun k => k = w.heap.size) [] :=
  ⟨_, blk_new w _, rfl, (fun _ h => by cases h), Kd.R_nil _ _ _ _ _⟩
end
theorem RNew_no (sd bk : Int) (w : World) (h : bk < 1 ∨ 65536 < bk) :
    Calls Try.prog 12 #[.int .i64 sd, .int .i64 bk] w fun e w' => e = .returned (.tuple #[.pointer none, .int .i64 3]) ∧ w' = w := by
  rcases h with h | h
  · have e1 : decide (bk < 1) = true := decide_eq_true h
    go_enter Try.func12, Try.ntmps12
    go_wp2
    go_ret2
    exact ⟨rfl, rfl⟩
  · have e1 : decide (bk < 1) = false := decide_eq_false (by omega)
    have e2 : decide (65536 < bk) = true := decide_eq_true h
    go_enter Try.func12, Try.ntmps12
    go_wp2
    go_ret2
    exact ⟨rfl, rfl⟩
theorem RNew_yes (sd bk : Int) (w : World) (h0 : 1 ≤ bk) (h1 : bk ≤ 65536) :
    Calls Try.prog 12 #[.int .i64 sd, .int .i64 bk] w fun e w' => e = .returned (.tuple #[.pointer (some ⟨w.heap.size, 0, none⟩), .int .i64 0]) ∧ RfO w' w.heap.size sd bk (fun k => w.heap.size ≤ k) [] ∧ Below w.heap.size w w' := by
  have e1 : decide (bk < 1) = false := decide_eq_false (by omega)
  have e2 : decide (65536 < bk) = false := decide_eq_false (by omega)
  have HM := Aside0.mk (RfO.made w sd bk)
  go_enter Try.func12, Try.ntmps12
  go_wp2
  go_ret2
  exact ⟨rfl, HM.out.mono (fun k hk => by rw [hk]; exact Nat.le_refl _), (Below.refl _ w).alloc (Nat.le_refl _) _⟩
/-- The document's hash is the program's. -/
theorem rhash_from (l : List Int) (hl : l.length ≤ 140737488355328) (d : Nat) : ∀ (k i : Nat) (h : Int), l.length - i = d → i ≤ l.length → d < k → armisticeref24_Hash.l0 k l h (i : Int) = some ((l.drop i).foldl hstep h) := by
  induction d with
  | zero =>
    intro k i h hd hi hk
    obtain ⟨k, rfl⟩ : ∃ m, k = m + 1 := ⟨k - 1, by omega⟩
    rw [armisticeref24_Hash.l0, if_neg (by omega), List.drop_eq_nil_of_le (by omega)]
    rfl
  | succ d ih =>
    intro k i h hd hi hk
    obtain ⟨k, rfl⟩ : ∃ m, k = m + 1 := ⟨k - 1, by omega⟩
    have hlt : i < l.length := by omega
    have ex : rd l (i : Int) = l[i] := by simp [rd, List.getD, hlt]
    have e2 : wrap64 ((i : Int) + 1) = ((i + 1 : Nat) : Int) := by unfold wrap64; omega
    rw [armisticeref24_Hash.l0, if_pos (by omega), if_pos (by omega), e2, ih k (i + 1) _ (by omega) (by omega) (by omega), ex, List.drop_eq_getElem_cons hlt]
    rfl
theorem rhash_f (sd : Int) (l : List Int) (hl : l.length ≤ 140737488355328) : armisticeref24_Hash.f (l.length + 1) sd l = some (hashI sd l) := by
  have := rhash_from l hl l.length (l.length + 1) 0 (hash0 sd) rfl (Nat.zero_le _) (by omega)
  exact this
theorem RHash_calls (sd : Int) (A0 : Option Addr) (c0 : Nat) (bs : List Int) (hc0 : bs.length ≤ c0) (hl : bs.length ≤ 140737488355328) (w : World) (hr : Kd.C (Kd.int .u8) w A0 bs.length bs) :
    Calls Try.prog 14 #[.int .i64 sd, .slice A0 bs.length c0] w fun e w' => e = .returned (.int .u64 (hashI sd bs)) ∧ Drawn0 w w' :=
  armisticeref24_Hash.calls (bs.length + 1) sd A0 c0 bs (hashI sd bs) w hr hc0 (rhash_f sd bs hl)
set_option maxHeartbeats 2000000 in
set_option maxRecDepth 100000 in
theorem RHas_calls (p : Nat) (sd bk : Int) (S : Nat → Prop) (l : List (List Int)) (w : World) (h : RfO w p sd bk S l) (hll : l.length ≤ 1000000)
    (A0 : Option Addr) (c0 : Nat) (bs : List Int) (hc0 : bs.length ≤ c0) (hr : Kd.C (Kd.int .u8) w A0 bs.length bs) (hub : isU8 bs = true) :
    Calls Try.prog 19 #[.pointer (some ⟨p, 0, none⟩), .slice A0 bs.length c0] w fun e w' => e = .returned (.bool (hasB l bs)) ∧ Drawn0 w w' := by
  obtain ⟨v, h1, _, hu, h3⟩ := h
  obtain ⟨A2, c2, rfl, hc2, hC2⟩ := Kd.R_reads h3
  have q0 := (blk_cell h1 0).trans rfl
  have q2 := (blk_cell h1 2).trans rfl
  have HC := Aside0.mk hC2
  have HU := Aside0.mk hu
  have hcv := fun m => Kd.C_string (P := Try.prog) (c := c0) Try.underlying22 Try.underlying5 Try.underlying9 (Kd.C_below hr (pw_below_drewN (Below.refl _ w) m))
  have HCV := Aside0.mk hcv
  clear h1 h3 hu hC2 hr hcv
  go_enter Try.func19, Try.ntmps19
  go_wp2
  go_loopg [5] (l.length + 1) (fun g v5 wr => ∃ k : Nat, k ≤ l.length ∧ Aside0 (k + g = l.length + 1) ∧ v5 = .int .i64 k ∧ Aside0 (hasB (l.take k) bs = false) ∧ Drawn0 w wr)
  case atStart => exact ⟨0, by omega, ⟨by omega⟩, rfl, ⟨rfl⟩, Drawn0.refl _⟩
  case round =>
    obtain ⟨k, hk, hg, rfl, hn, ⟨m, rfl⟩⟩ := hrel
    by_cases c1 : k < l.length
    · obtain ⟨ad, A3, c3, ea, hcell, hcl, hcr⟩ := at_L2 HC.out (k : Int) (by omega) (by omega)
      cases ea
      simp only [Int.toNat_natCast] at hcell
      have hxk : rd_L2 l (k : Int) = l[k] := by simp [rd_L2, List.getD, c1]
      have hxu := HU.out _ (List.getElem_mem c1)
      have hst := has_take l bs k c1
      obtain ⟨x, hxx⟩ : ∃ x, Aside0 (l[k] = x) := ⟨_, ⟨rfl⟩⟩
      rw [hxx.out] at hxk hxu hst
      rw [hxk] at hcell hcl hcr
      have HE := Aside0.mk (eq_str hxu hub)
      have HS := Aside0.mk hst
      have k1 := fun n => Kd.C_string (P := Try.prog) (c := c3) Try.underlying22 Try.underlying5 Try.underlying9 (Kd.C_below hcr (pw_below_drewN (Below.refl _ w) n))
      have k2 := HCV.out
      have b0 := decide_eq_true (show ((k : Nat) : Int) < (l.length : Int) by omega)
      have b1 : (0 : Int) ≤ (k : Int) := by omega
      have b2 : (k : Int) < (l.length : Int) := by omega
      clear hxk hxu hst hcr
      by_cases ce : (x == bs) = true
      · have e1 := HE.out.trans ce
        have HCE := Aside0.mk ce
        clear ce
        go_wp2
        go_quiet (fail)
        go_wp2
        go_ret
        have : hasB l bs = true := by
          have h1 := HS.out
          rw [HCE.out, Bool.or_true] at h1
          unfold hasB at h1 ⊢
          rw [List.any_eq_true] at h1 ⊢
          obtain ⟨y, hy, hy2⟩ := h1
          exact ⟨y, List.mem_of_mem_take hy, hy2⟩
        exact ⟨by rw [this]; rfl, by repeat (first | exact Drawn0.refl _ | apply Drawn0.step)⟩
      · have ce2 : (x == bs) = false := by simpa using ce
        have e1 := HE.out.trans ce2
        have HCE := Aside0.mk ce2
        clear ce ce2
        go_wp2
        go_quiet (fail)
        go_wp2
        go_roundg (gk - 1)
        case measure => have := hg.out; omega
        case rel => exact ⟨k + 1, by omega, ⟨by have := hg.out; omega⟩, by go_num, ⟨by rw [HS.out, hn.out, HCE.out]; rfl⟩, by repeat (first | exact Drawn0.refl _ | apply Drawn0.step)⟩
    · have ek : l.take k = l := List.take_of_length_le (by omega)
      have hn2 := hn.out
      rw [ek] at hn2
      have HN := Aside0.mk hn2
      have b0 := decide_eq_false (show ¬ ((k : Nat) : Int) < (l.length : Int) by omega)
      clear ek hn2 hn
      go_wp2
      go_ret
      exact ⟨by rw [HN.out]; rfl, by repeat (first | exact Drawn0.refl _ | apply Drawn0.step)⟩
set_option maxHeartbeats 2000000 in
set_option maxRecDepth 100000 in
theorem RPut_calls (p : Nat) (sd bk : Int) (S : Nat → Prop) (l : List (List Int)) (w : World) (h : RfO w p sd bk S l) (hll : l.length ≤ 1000000)
    (A0 : Option Addr) (c0 : Nat) (bs : List Int) (hc0 : bs.length ≤ c0) (hl : bs.length ≤ 1000000) (hr : Kd.C (Kd.int .u8) w A0 bs.length bs) (hub : isU8 bs = true) :
    Calls Try.prog 21 #[.pointer (some ⟨p, 0, none⟩), .slice A0 bs.length c0] w fun e w' => e = .returned (.tuple #[.bool (!hasB l bs), .int .i64 0]) ∧ RfO w' p sd bk (fun k => S k ∨ w.heap.size ≤ k) (putL l bs) ∧ Chg S w w' := by
  have HH := Aside0.mk (RHas_calls p sd bk S l w h hll A0 c0 bs hc0 hr hub)
  unfold putL
  cases hh : hasB l bs with
  | true =>
    rw [hh] at HH
    have HO := Aside0.mk h
    clear h hh
    go_enter Try.func21, Try.ntmps21
    go_wp2_with fail
    refine HH.out.mono ?_
    rintro e w2 ⟨rfl, hd⟩
    have HB := Aside0.mk hd.below
    clear hd
    go_wp2
    go_ret2
    exact ⟨rfl, by simpa using (HO.out.below HB.out).mono (fun k hk => .inl hk), Chg.of_below _ HB.out⟩
  | false =>
    rw [hh] at HH
    obtain ⟨v, h1, hp, hu, h3⟩ := h
    obtain ⟨A2, c2, rfl⟩ := Kd.R_slice h3
    have hpl := blk_lt h1
    have HP := Aside0.mk h1
    have HSp := Aside0.mk hp
    have HU := Aside0.mk hu
    have H3 := Aside0.mk h3
    have HR := Aside0.mk hr
    have HUB := Aside0.mk hub
    have HNe := Aside0.mk (show ∀ k, (Value.slice A2 l.length c2).ownBlock = some k → S k ∧ k ≠ p ∧ k < w.heap.size from fun k hk => by
      have h5 := (Kd.R_bound h3).1 k hk
      exact ⟨h5.1.1, h5.1.2, h5.2.2.1⟩)
    clear h1 hp hu h3 hr hub hh
    go_enter Try.func21, Try.ntmps21
    go_wp2_with fail
    refine HH.out.mono ?_
    rintro e w2 ⟨rfl, hd⟩
    have HB2 := Aside0.mk hd.below
    clear hd HH
    go_upto_region 3 with (fail)
    have hpd := Aside0.mk ((HB2.out.block p hpl).trans HP.out)
    refine wp_onlyQ fun K hK => ?_
    refine wp_region_last_drew (S := (fun w' => w'.heap[p]? = some (.cells #[.int .i64 sd, .int .i64 bk, .slice A2 l.length c2] 47 (0, 0)))) (ds := [12]) (by kernel_rfl) ?_ (fun hHeld => ?_)
    · exact hpd.out
    refine wpAnyLast_take (i := 0) (v := .pointer (some ⟨p, 0, none⟩)) rfl (by kernel_rfl) (by kernel_rfl) (by kernel_rfl) (by kernel_rfl) (by kernel_rfl) (fun _ _ _ h => h) (Or.inl ⟨by rfl, fun w' hSw => ?_⟩) (by assumption) ?_
    · go_simp
    simp only [Act.put, List.getElem_toArray, List.getElem_cons_zero, List.getElem_cons_succ, List.setIfInBounds_toArray, List.set_cons_zero, List.set_cons_succ]
    refine wpAnyLast_take (i := 1) (v := .pointer (some ⟨p, 0, none⟩)) rfl (by kernel_rfl) (by kernel_rfl) (by kernel_rfl) (by kernel_rfl) (by kernel_rfl) (fun _ _ _ h => h) (Or.inl ⟨by rfl, fun w' hSw => ?_⟩) (by assumption) ?_
    · go_simp
    simp only [Act.put, List.getElem_toArray, List.getElem_cons_zero, List.getElem_cons_succ, List.setIfInBounds_toArray, List.set_cons_zero, List.set_cons_succ]
    refine wpAnyLast_take (i := 2) (v := .pointer (some ⟨p, 0, none⟩)) rfl (by kernel_rfl) (by kernel_rfl) (by kernel_rfl) (by kernel_rfl) (by kernel_rfl) (fun _ _ _ h => h) (Or.inl ⟨by rfl, fun w' hSw => ?_⟩) (by assumption) ?_
    · (have hs := (blk_cell hSw 0).trans rfl; go_simp)
    simp only [Act.put, List.getElem_toArray, List.getElem_cons_zero, List.getElem_cons_succ, List.setIfInBounds_toArray, List.set_cons_zero, List.set_cons_succ]
    refine wpAnyLast_take (i := 3) (v := .pointer (some ⟨p, 2, none⟩)) rfl (by kernel_rfl) (by kernel_rfl) (by kernel_rfl) (by kernel_rfl) (by kernel_rfl) (fun _ _ _ h => h) (Or.inl ⟨by rfl, fun w' hSw => ?_⟩) (by assumption) ?_
    · go_simp
    simp only [Act.put, List.getElem_toArray, List.getElem_cons_zero, List.getElem_cons_succ, List.setIfInBounds_toArray, List.set_cons_zero, List.set_cons_succ]
    refine wpAnyLast_take (i := 4) (v := .slice A2 l.length c2) rfl (by kernel_rfl) (by kernel_rfl) (by kernel_rfl) (by kernel_rfl) (by kernel_rfl) (fun _ _ _ h => h) (Or.inl ⟨by rfl, fun w' hSw => ?_⟩) (by assumption) ?_
    · (have hs := (blk_cell hSw 2).trans rfl; go_simp)
    simp only [Act.put, List.getElem_toArray, List.getElem_cons_zero, List.getElem_cons_succ, List.setIfInBounds_toArray, List.set_cons_zero, List.set_cons_succ]
    refine wpAnyLast_take (i := 6) (v := .slice A0 bs.length c0) rfl (by kernel_rfl) (by kernel_rfl) (by kernel_rfl) (by kernel_rfl) (by kernel_rfl) (fun _ _ _ h => h) (Or.inl ⟨by rfl, fun w' hSw => ?_⟩) (by assumption) ?_
    · go_simp
    simp only [Act.put, List.getElem_toArray, List.getElem_cons_zero, List.getElem_cons_succ, List.setIfInBounds_toArray, List.set_cons_zero, List.set_cons_succ]
    refine wpAnyLast_ready (rs := [5]) (by kernel_rfl) (by simp) ?_
    refine AllReadyL.cons (o := _) rfl (by decide) (fun K1 hK1 => ?_) AllReadyL.nil
    go_simp
    refine hK1.out _ _ ?_ (fun hHeld => ?_)
    · exact blk_below hpd.out (below_alloc (Below.refl w2.heap.size w2).drew _)
    clear hK1 K1
    try simp only [Act.put, List.getElem_toArray, List.getElem_cons_zero, List.getElem_cons_succ, List.setIfInBounds_toArray, List.set_cons_zero, List.set_cons_succ]
    have hsz2 : w2.drew.heap.size = w2.heap.size := rfl
    have hO0 : Kd.R (Kd.int .u8) 5 (w2.drew.alloc (.cells #[] 5)) w2.heap.size (fun _ => True) (.slice (some ⟨w2.heap.size, 0, none⟩) 0 0) [] := ⟨fun _ _ => trivial, OwnRow.lit w2.drew w2.heap.size (ps := ([] : List Int)) (inner := []) (Reps.none _ _) (Nat.le_refl _) (by decide)⟩
    have HO0 := Aside0.mk hO0
    have HBa := Aside0.mk (below_alloc (Below.refl w2.heap.size w2).drew (.cells #[] 5))
    have HRa := Aside0.mk (Kd.C_below HR.out (HB2.out.trans (HBa.out.mono HB2.out.size)))
    clear hO0
    refine wpAnyLast_ready (rs := [7]) (by kernel_rfl) (by simp) ?_
    refine AllReadyL.cons (o := _) rfl (by decide) (fun K1 hK1 => ?_) AllReadyL.nil
    refine Kd.R_append_rows_step (Kd.int .u8) (w0 := w2) w2.heap.size (by rfl) (.tmp 14) (.tmp 15) 22 5 (.int .u8 0) 1 (by rfl) Try.underlying22 infoB (by rfl) (by decide) (by decide) (.slice (some ⟨w2.heap.size, 0, none⟩) 0 0) ([] : List Int) bs A0 bs.length c0 (fun _ => True) (fun _ => False) (by rfl) (by rfl) HO0.out HRa.out (fun _ _ h => h) (fun _ h => h.elim) (fun _ _ => trivial) HBa.out HBa.out.size (by simp only [List.length_nil]; omega) ?_
    intro v3 w3 hR3 hb3 _ _
    rw [List.nil_append] at hR3
    obtain ⟨A3, c3, rfl⟩ := Kd.R_slice hR3
    have HR3 := Aside0.mk hR3
    have HB3 := Aside0.mk hb3
    have hp3 := Aside0.mk ((hb3.block p (Nat.lt_of_lt_of_le hpl HB2.out.size)).trans hpd.out)
    clear hR3 hb3
    refine hK1.out _ _ ?_ (fun hHeld => ?_)
    · exact hp3.out
    clear hK1 K1
    try simp only [Act.put, List.getElem_toArray, List.getElem_cons_zero, List.getElem_cons_succ, List.setIfInBounds_toArray, List.set_cons_zero, List.set_cons_succ]
    refine wpAnyLast_ready (rs := [8]) (by kernel_rfl) (by simp) ?_
    refine AllReadyL.cons (o := _) rfl (by decide) (fun K1 hK1 => ?_) AllReadyL.nil
    go_simp
    refine hK1.out _ _ ?_ (fun hHeld => ?_)
    · exact blk_below hp3.out (below_alloc (Below.refl _ w3) _)
    clear hK1 K1
    try simp only [Act.put, List.getElem_toArray, List.getElem_cons_zero, List.getElem_cons_succ, List.setIfInBounds_toArray, List.set_cons_zero, List.set_cons_succ]
    have HB23 := Aside0.mk (HB2.out.trans (HB3.out.mono HB2.out.size))
    have hM : kB.M w3 0 (fun k => w2.heap.size ≤ k) bs [.slice A3 bs.length c3] := ⟨_, rfl, Kd.R_lower (Kd.R_mono (Kd.R_bound HR3.out) (fun k hk => hk.2.1)) (Nat.zero_le _)⟩
    have hap : ∀ k, w2.heap.size ≤ k → ((S k ∨ w.heap.size ≤ k) ∧ k ≠ p) ∧ some k ≠ (Value.slice A2 l.length c2).ownBlock := fun k hk => by
      have z := HB2.out.size
      exact ⟨⟨.inr (by omega), by omega⟩, fun e => by have := (HNe.out k e.symm).2.2; omega⟩
    have HM := Aside0.mk hM
    have HAP := Aside0.mk hap
    have HRow := Aside0.mk (Kd.R_below (Kd.R_mono H3.out (fun k hk => (⟨.inl hk.1, hk.2⟩ : (S k ∨ w.heap.size ≤ k) ∧ k ≠ p))) HB23.out)
    have HLen := Aside0.mk (show (l.length + 1) * 24 ≤ 140737488355328 by omega)
    have h34 := HB3.out.size
    clear hM hap
    refine wpAnyLast_ready (rs := [9]) (by kernel_rfl) (by simp) ?_
    refine AllReadyL.cons (o := _) rfl (by decide) (fun K1 hK1 => ?_) AllReadyL.nil
    refine Kd.R_append_step kB (w0 := w3) 0 (by rfl) (.tmp 13) (.tmp 17) 36 22 (.slice none 0 0) 24 (by rfl) Try.underlying36 infoR (by rfl) (by decide) (by decide) (.slice A2 l.length c2) l bs [.slice A3 bs.length c3] (fun k => (S k ∨ w.heap.size ≤ k) ∧ k ≠ p) (fun k => w2.heap.size ≤ k) (by rfl) (by rfl) HM.out HAP.out (fun k hk => (HAP.out k (Nat.le_trans h34 hk)).1) HRow.out (Below.refl _ _) (Nat.zero_le _) HLen.out ?_
    intro v4 w4 hR4 _ hg4 _
    have hp4 := Aside0.mk ((hg4.block p (Nat.lt_of_lt_of_le hpl HB23.out.size) (fun e => (HNe.out p e.symm).2.1 rfl)).trans ((HB23.out.block p hpl).trans HP.out))
    obtain ⟨A4, c4, rfl⟩ := Kd.R_slice hR4
    rw [show (l ++ [bs]).length = l.length + 1 by simp] at hR4
    have HR4 := Aside0.mk hR4
    have HC4 := Aside0.mk ((Chg.of_below S HB23.out).grown hg4 (fun k hk => .inl (HNe.out k hk).1))
    clear hR4 hg4
    refine hK1.out _ _ ?_ (fun hHeld => ?_)
    · exact hp4.out
    clear hK1 K1
    try simp only [Act.put, List.getElem_toArray, List.getElem_cons_zero, List.getElem_cons_succ, List.setIfInBounds_toArray, List.set_cons_zero, List.set_cons_succ]
    refine wpAnyLast_take (i := 10) (v := .pointer (some ⟨p, 0, none⟩)) rfl (by kernel_rfl) (by kernel_rfl) (by kernel_rfl) (by kernel_rfl) (by kernel_rfl) (fun _ _ _ h => h) (Or.inl ⟨by rfl, fun w' hSw => ?_⟩) (by assumption) ?_
    · (have hs := (blk_cell hSw 0).trans rfl; go_simp)
    simp only [Act.put, List.getElem_toArray, List.getElem_cons_zero, List.getElem_cons_succ, List.setIfInBounds_toArray, List.set_cons_zero, List.set_cons_succ]
    refine wpAnyLast_take (i := 11) (v := .pointer (some ⟨p, 2, none⟩)) rfl (by kernel_rfl) (by kernel_rfl) (by kernel_rfl) (by kernel_rfl) (by kernel_rfl) (fun _ _ _ h => h) (Or.inl ⟨by rfl, fun w' hSw => ?_⟩) (by assumption) ?_
    · go_simp
    simp only [Act.put, List.getElem_toArray, List.getElem_cons_zero, List.getElem_cons_succ, List.setIfInBounds_toArray, List.set_cons_zero, List.set_cons_succ]
    have q2 := (blk_cell hp4.out 2).trans rfl
    have f2 := blk_frozen hp4.out 2
    refine wpAnyLast_ready (rs := [12]) (by kernel_rfl) (by simp) ?_
    refine AllReadyL.cons_last (o := _) rfl (by decide) (fun K1 hK1 => ?_) AllReadyL.nil
    go_simp
    refine hK1.out _ _ ?_
    clear hK1 K1
    try simp only [Act.put, List.getElem_toArray, List.getElem_cons_zero, List.getElem_cons_succ, List.setIfInBounds_toArray, List.set_cons_zero, List.set_cons_succ]
    refine wpAnyLast_done (by kernel_rfl) ?_ _
    show K _ _
    refine hK _ _ ?_
    clear hK K
    go_wp2
    go_ret2
    refine ⟨rfl, ⟨.slice A4 (l.length + 1) c4, blk_put hp4.out 2 _ rfl, .inl HSp.out, ?_, Kd.R_far (p := ⟨p, 2, none⟩) HR4.out (fun k hk => hk.2) _⟩, HC4.out.set_ (p := ⟨p, 2, none⟩) (.inl HSp.out) _⟩
    intro x hx
    rcases List.mem_append.1 hx with hx | hx
    · exact HU.out x hx
    · rw [List.mem_singleton.1 hx]
      exact HUB.out
theorem RBucket_no (p : Nat) (sd bk : Int) (S : Nat → Prop) (l : List (List Int)) (w : World) (h : RfO w p sd bk S l) (i : Int) (hi : i < 0 ∨ bk ≤ i) :
    Calls Try.prog 25 #[.pointer (some ⟨p, 0, none⟩), .int .i64 i] w fun e w' => e = .returned (.tuple #[.slice none 0 0, .int .i64 3]) ∧ w' = w := by
  obtain ⟨v, h1, _⟩ := h
  have q1 := (blk_cell h1 1).trans rfl
  clear h1
  rcases hi with hi | hi
  · have e1 : decide (i < 0) = true := decide_eq_true hi
    go_enter Try.func25, Try.ntmps25
    go_wp2
    go_ret2
    exact ⟨rfl, rfl⟩
  · have e1 : decide (i < 0) = false ∨ True := .inr trivial
    by_cases c : i < 0
    · have e2 : decide (i < 0) = true := decide_eq_true c
      go_enter Try.func25, Try.ntmps25
      go_wp2
      go_ret2
      exact ⟨rfl, rfl⟩
    · have e2 : decide (i < 0) = false := decide_eq_false c
      have e3 : decide (bk ≤ i) = true := decide_eq_true hi
      go_enter Try.func25, Try.ntmps25
      go_wp2
      go_ret2
      exact ⟨rfl, rfl⟩
theorem rows_take (sd bk : Int) (l : List (List Int)) (i : Int) (k : Nat) (hk : k < l.length) : rowsOf sd bk (l.take (k + 1)) i = rowsOf sd bk (l.take k) i ++ (if (bkt sd bk l[k] == i) = true then [l[k]] else []) := by
  unfold rowsOf
  rw [List.take_succ_eq_append_getElem hk, List.filter_append]
  congr 1
  rw [List.filter_cons]
  split <;> rfl
set_option maxHeartbeats 4000000 in
set_option maxRecDepth 100000 in
theorem RBucket_yes (p : Nat) (sd bk : Int) (S : Nat → Prop) (l : List (List Int)) (w : World) (h : RfO w p sd bk S l) (hb1 : bk ≤ 65536) (hll : l.length ≤ 1000000) (hx : ∀ x ∈ l, x.length ≤ 1000000) (i : Int) (h0 : 0 ≤ i) (h1 : i < bk) :
    Calls Try.prog 25 #[.pointer (some ⟨p, 0, none⟩), .int .i64 i] w fun e w' => ∃ v, e = .returned (.tuple #[v, .int .i64 0]) ∧ Kd.S kB 22 w' w.heap.size (fun _ => True) v (rowsOf sd bk l i) ∧ Below w.heap.size w w' := by
  obtain ⟨v, hblk, _, hu, h3⟩ := h
  obtain ⟨A2, c2, rfl, hc2, hC2⟩ := Kd.R_reads h3
  have e1 : decide (i < 0) = false := decide_eq_false (by omega)
  have e2 : decide (bk ≤ i) = false := decide_eq_false (by omega)
  have e3 : IntKind.u64.wrap bk = bk := by simp only [IntKind.wrap_u64]; omega
  have e4 : IntKind.u64.wrap i = i := by simp only [IntKind.wrap_u64]; omega
  have z1 : ¬ bk = 0 := by omega
  have hpl := blk_lt hblk
  have HP := Aside0.mk hblk
  have HC := Aside0.mk hC2
  have HX := Aside0.mk hx
  have q0 := (blk_cell hblk 0).trans rfl
  have q1 := (blk_cell hblk 1).trans rfl
  clear hblk hu h3 hC2 hx
  go_enter Try.func25, Try.ntmps25
  go_wp2
  clear q0 q1 e1 e2
  go_loopg [6, 7] (l.length + 1) (fun g v6 v7 wr => ∃ (k : Nat) (vo : Value), k ≤ l.length ∧ Aside0 (k + g = l.length + 1) ∧ v7 = .int .i64 k ∧ vo = v6 ∧ Aside0 (Kd.S kB 22 wr w.heap.size (fun _ => True) vo (rowsOf sd bk (l.take k) i)) ∧ Aside0 (Below w.heap.size w wr))
  case atStart => exact ⟨0, _, by omega, ⟨by omega⟩, rfl, rfl, ⟨Kd.S_nil _ _ _ _ _⟩, ⟨Below.refl _ _⟩⟩
  case round =>
    obtain ⟨k, vo, hk, hg, rfl, rfl, hS, hW⟩ := hrel
    have hpw := (hW.out.block p hpl).trans HP.out
    have q0 := (blk_cell hpw 0).trans rfl
    have q1 := (blk_cell hpw 1).trans rfl
    have q2 := (blk_cell hpw 2).trans rfl
    have HPW := Aside0.mk hpw
    clear hpw
    by_cases c1 : k < l.length
    · obtain ⟨ad, A3, c3, ea, hcell, hcl, hcr⟩ := at_L2 (Kd.C_below HC.out hW.out) (k : Int) (by omega) (by omega)
      cases ea
      simp only [Int.toNat_natCast] at hcell
      have hxk : rd_L2 l (k : Int) = l[k] := by simp [rd_L2, List.getD, c1]
      have hxl := HX.out _ (List.getElem_mem c1)
      have hrt := rows_take sd bk l i k c1
      have hrl : (rowsOf sd bk (l.take k) i).length ≤ 1000000 := by
        have h1 := rows_len sd bk (l.take k) i
        rw [List.length_take] at h1
        omega
      unfold bkt at hrt
      obtain ⟨x, hxx⟩ : ∃ x, Aside0 (l[k] = x) := ⟨_, ⟨rfl⟩⟩
      rw [hxx.out] at hxk hxl hrt
      rw [hxk] at hcell hcl hcr
      have HRT := Aside0.mk hrt
      have hHn := fun n => RHash_calls sd A3 c3 x hcl (by omega) (wr.drewN n) (Kd.C_below hcr (pw_below_drewN (Below.refl _ wr) n))
      obtain ⟨h, hh⟩ : ∃ h, Aside0 (hashI sd x = h) := ⟨_, ⟨rfl⟩⟩
      have hhr := hashI_range sd x
      rw [hh.out] at hHn hhr HRT
      have z2 := Int.tmod_eq_emod_of_nonneg (b := bk) hhr.1
      have HHn := Aside0.mk hHn
      have b0 := decide_eq_true (show ((k : Nat) : Int) < (l.length : Int) by omega)
      have b1 : (0 : Int) ≤ (k : Int) := by omega
      have b2 : (k : Int) < (l.length : Int) := by omega
      have HCR := Aside0.mk hcr
      have HRL := Aside0.mk hrl
      have HL24 := Aside0.mk (show ((rowsOf sd bk (l.take k) i).length + 1) * 24 ≤ 140737488355328 by omega)
      have HNe := Aside0.mk (fun k (hk : wr.heap.size ≤ k) (he : some k = vo.ownBlock) => (absurd (Kd.S_lt hS.out k he.symm) (by omega) : False))
      clear hxk hrt hcr hHn hrl
      by_cases ce : (h % bk == i) = true
      · have HCE := Aside0.mk ce
        go_wp2
        go_quiet ((go_at_call 14; exact Calls.quiet_of ((HHn.out _).mono (fun e w' h => ⟨h.1, h.2.out⟩))))
        go_wp2_with (first | ((with_reducible refine gate_dst (N := 49) rfl ?_); refine Kd.R_lit (Kd.int .u8) _ 5 ?hg (N := 49) ?hd (xs := ([] : List Int)) (inner := []) (ok := fun _ => True) (okp := fun _ => True) ?hr ?hp (fun _ hk => hk) trivial (Below.refl _ _) (Nat.le_refl _) (by simp) ?_; (case hd => rfl); (case hg => rfl); (case hr => first | (go_simp; done) | (go_simp; rfl)); (case hp => exact (Reps.none _ _)); intro v104 w3 ho4 hb3 hg_ hnew_; clear hg_ hnew_; have HO4 := Aside0.mk ho4; have HB34 := Aside0.mk (show Below wr.heap.size wr w3 from (pw_below_drewN (Below.refl _ wr) _).trans hb3); have q0' := (blk_cell (blk_below HPW.out HB34.out) 0).trans rfl; have q2' := (blk_cell (blk_below HPW.out HB34.out) 2).trans rfl; have hcell' := cell_later HB34.out hcell; have HCR3 := Aside0.mk (Kd.C_below HCR.out HB34.out); clear hb3 ho4) | ((with_reducible refine gate_builtin (b := .append) (xs := #[.tmp 49, .tmp 56]) rfl ?_); at_builtin; refine Kd.R_append_rows (Kd.int .u8) (w0 := wr) wr.heap.size rfl (.tmp 49) (.tmp 56) 22 5 (.int .u8 0) 1 rfl Try.underlying22 infoB rfl (by decide) (by omega) v104 ([] : List Int) x _ _ _ (fun _ => True) (fun _ => False) rfl rfl HO4.out HCR3.out (fun _ _ h => h) (fun _ h => h.elim) (fun _ _ => trivial) HB34.out HB34.out.size (by simp only [List.length_nil]; omega) ?_; intro v107 w5 ho hb5 hg5 hat5; rw [List.nil_append] at ho; obtain ⟨A5, c5, rfl⟩ := Kd.R_slice ho; have HB5 := Aside0.mk hb5; have HM5 := Aside0.mk (show kB.M w5 w.heap.size (fun k => wr.heap.size ≤ k) x [.slice A5 x.length c5] from ⟨_, rfl, Kd.R_lower (Kd.R_mono (Kd.R_bound ho) (fun k hk => hk.2.1)) hW.out.size⟩); clear ho hb5 hg5 hat5) | ((with_reducible refine gate_builtin (b := .append) (xs := #[.tmp 48, .tmp 58]) rfl ?_); at_builtin; refine Kd.S_append kB (w0 := w) w.heap.size rfl (.tmp 48) (.tmp 58) 36 22 (.slice none 0 0) 24 rfl Try.underlying36 infoR rfl (by decide) (by decide) vo (rowsOf sd bk (l.take k) i) x [.slice A5 x.length c5] (fun _ => True) (fun k => wr.heap.size ≤ k) rfl rfl HM5.out (fun k hk => ⟨trivial, fun he => HNe.out k hk he⟩) (fun _ _ => trivial) (Kd.S_mono (Kd.S_old hS.out HB5.out) (fun k hk => ⟨trivial, Nat.not_le.2 hk.2⟩)) (hW.out.trans (HB5.out.mono hW.out.size)) (Nat.le_trans hW.out.size HB5.out.size) HL24.out ?_; intro v6 w6 hS6 hb6 _ _; have HS6 := Aside0.mk hS6; have HW6 := Aside0.mk hb6; clear hS6 hb6))
        go_roundg (gk - 1)
        case measure => have := hg.out; omega
        case rel => exact ⟨k + 1, _, by omega, ⟨by have := hg.out; omega⟩, by go_num, rfl, ⟨by rw [HRT.out, HCE.out]; exact HS6.out⟩, HW6⟩
      · have ce2 : (h % bk == i) = false := by simpa using ce
        have HCE := Aside0.mk ce2
        clear ce
        go_wp2
        go_quiet ((go_at_call 14; exact Calls.quiet_of ((HHn.out _).mono (fun e w' h => ⟨h.1, h.2.out⟩))))
        go_wp2
        go_roundg (gk - 1)
        case measure => have := hg.out; omega
        case rel => exact ⟨k + 1, _, by omega, ⟨by have := hg.out; omega⟩, by go_num, rfl, ⟨by rw [HRT.out, HCE.out]; simpa using Kd.S_drewN hS.out _⟩, ⟨pw_below_drewN hW.out _⟩⟩
    · have ek : l.take k = l := List.take_of_length_le (by omega)
      have hS2 := hS.out
      rw [ek] at hS2
      have HS2 := Aside0.mk hS2
      have b0 := decide_eq_false (show ¬ ((k : Nat) : Int) < (l.length : Int) by omega)
      clear ek hS2 hS
      go_wp2
      go_ret2
      exact ⟨_, rfl, HS2.out, hW.out⟩
end Go.Proofs.Ytapnegdigghomaa.P
