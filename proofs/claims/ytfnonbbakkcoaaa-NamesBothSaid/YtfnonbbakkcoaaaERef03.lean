/- The document's Table: what it is in memory; Of, Add, Name. -/
import Derived.Test.YtfnonbbakkcoaaaM03Px
import Derived.Test.YtfnonbbakkcoaaaEOrder
import Derived.Test.YtfnonbbakkcoaaaETabAdd
import Derived.Test.YtfnonbbakkcoaaaPx2
namespace Go.Proofs.Ytfnonbbakkcoaaa.P
open Go.RowKit Go.Proofs.YtfnonbbakkcoaaaW.PrintWords Go.Proofs.YtfnonbbakkcoaaaW.PrintLast Go.Proofs.YtfnonbbakkcoaaaW.PrintMore Go.Maps
set_option linter.unusedVariables false
set_option linter.unusedSimpArgs false
attribute [local go_sem ↓] Go.wp_at_zero Go.wp_at_succ
/-- Block p is a document's table of the names l. -/
def RtO (w : World) (p : Nat) (S : Nat → Prop) (l : List ByteArray) : Prop := ∃ v, w.heap[p]? = some (.cells #[v] 29 (0, 0)) ∧ S p ∧ Kd.string.R 9 w 0 (fun k => S k ∧ k ≠ p) v l
section
variable {w w' : World} {p : Nat} {S S2 : Nat → Prop} {l : List ByteArray}
theorem RtO.mono (h : RtO w p S l) (hm : ∀ k, S k → S2 k) : RtO w p S2 l := by
  obtain ⟨v, h1, h2, h3⟩ := h
  exact ⟨v, h1, hm p h2, Kd.R_mono h3 (fun k hk => ⟨hm k hk.1, hk.2⟩)⟩
theorem RtO.bound (h : RtO w p S l) : RtO w p (fun k => S k ∧ k < w.heap.size) l := by
  obtain ⟨v, h1, h2, h3⟩ := h
  exact ⟨v, h1, ⟨h2, blk_lt h1⟩, Kd.R_mono (Kd.R_bound h3) (fun k hk => ⟨⟨hk.1.1, hk.2.2.1⟩, hk.1.2⟩)⟩
theorem RtO.step (h : RtO w p S l) (hm : ∀ k, S k → k < w.heap.size → w'.heap[k]? = w.heap[k]?) : RtO w' p S l := by
  obtain ⟨v, h1, h2, h3⟩ := h
  exact ⟨v, (hm p h2 (blk_lt h1)).trans h1, h2, Kd.R_step h3 (fun k hk hl => hm k hk.1 hl)⟩
theorem RtO.chg (h : RtO w p S l) (hc : Chg S2 w w') (hd : ∀ k, S k → ¬ S2 k) : RtO w' p S l := h.step (fun k hk hl => hc.block k hl (hd k hk))
theorem RtO.below (h : RtO w p S l) (hb : Below w.heap.size w w') : RtO w' p S l := h.step (fun k _ hl => hb.block k hl)
theorem RtO.lt (h : RtO w p S l) : p < w.heap.size := by
  obtain ⟨v, h1, _⟩ := h
  exact blk_lt h1
end
/-- What Of answers. -/
def ofN (l : List ByteArray) (s : ByteArray) : Value := match nidx l s with | some i => .tuple #[.int .i64 (i : Int), .int .i64 0] | none => .tuple #[.int .i64 0, .int .i64 11]
set_option maxHeartbeats 2000000 in
set_option maxRecDepth 100000 in
theorem ROf_calls (p : Nat) (S : Nat → Prop) (l : List ByteArray) (s : ByteArray) (hl : l.length < 5000) (w : World) (h : RtO w p S l) :
    Calls Try.prog 17 #[.pointer (some ⟨p, 0, none⟩), .string s] w fun e w' => e = .returned (ofN l s) ∧ Drawn0 w w' := by
  obtain ⟨v, h1, _, h3⟩ := h
  obtain ⟨A, c, rfl, hc, hC⟩ := Kd.R_reads h3
  have q0 := (blk_cell h1 0).trans rfl
  have HC := Aside0.mk hC
  have HP := Aside0.mk h1
  clear h1 h3 hC
  go_enter Try.func17, Try.ntmps17
  go_wp2
  go_loopg [6] (l.length + 1) (fun g v6 wr => ∃ k : Nat, k ≤ l.length ∧ Aside0 (k + g = l.length + 1) ∧ v6 = .int .i64 k ∧ Aside0 (∀ j (hj : j < l.length), j < k → l[j] ≠ s) ∧ Aside0 (Drawn0 w wr))
  case atStart => exact ⟨0, by omega, ⟨by omega⟩, rfl, ⟨fun j hj h => absurd h (by omega)⟩, ⟨Drawn0.refl _⟩⟩
  case round =>
    obtain ⟨k, hk, hg, rfl, hn, hD⟩ := hrel
    have q0 := (hD.out.below.cell (p := ⟨p, 0, none⟩) (blk_lt HP.out)).trans ((blk_cell HP.out 0).trans rfl)
    by_cases c1 : k < l.length
    · obtain ⟨ad, rfl, hcell⟩ := Kd.at_string (Kd.C_below HC.out hD.out.below) (k : Int) (by omega) (by omega)
      have hxk : rdOf ByteArray.empty l (k : Int) = l[k] := by simp [rdOf, List.getD, c1]
      rw [hxk] at hcell
      simp only [Int.toNat_natCast] at hcell
      have b0 := decide_eq_true (show ((k : Nat) : Int) < (l.length : Int) by omega)
      have b1 : (0 : Int) ≤ (k : Int) := by omega
      have b2 : (k : Int) < (l.length : Int) := by omega
      obtain ⟨x, hxx⟩ : ∃ x, Aside0 (l[k] = x) := ⟨_, ⟨rfl⟩⟩
      rw [hxx.out] at hcell
      clear hxk
      by_cases cx : x = s
      · have cs := beq_ba_true cx
        have HN := Aside0.mk (show nidx l s = some k from nidx_some.2 ⟨c1, hxx.out.trans cx, fun j hj => hn.out j (by omega) hj⟩)
        clear cx
        go_wp2
        go_ret2
        exact ⟨by rw [show ofN l s = Value.tuple #[.int .i64 (k : Int), .int .i64 0] from by unfold ofN; rw [HN.out]]; rfl, by repeat (first | exact Drawn0.refl _ | exact hD.out | apply Drawn0.step)⟩
      · have cs := beq_ba_false cx
        have HX := Aside0.mk cx
        clear cx
        go_wp2
        go_roundg (gk - 1)
        case measure => have := hg.out; omega
        case rel => exact ⟨k + 1, by omega, ⟨by have := hg.out; omega⟩, by go_num, ⟨fun j hj h => by
          rcases Nat.lt_or_ge j k with h1 | h1
          · exact hn.out j hj h1
          · have e : j = k := by omega
            subst e
            rw [hxx.out]; exact HX.out⟩, ⟨by repeat (first | exact Drawn0.refl _ | exact hD.out | apply Drawn0.step)⟩⟩
    · have b0 := decide_eq_false (show ¬ ((k : Nat) : Int) < (l.length : Int) by omega)
      have HN := Aside0.mk (show nidx l s = none from nidx_none.2 (fun hm => by
        obtain ⟨j, hj, e⟩ := List.getElem_of_mem hm
        exact hn.out j hj (by omega) e))
      go_wp2
      go_ret2
      exact ⟨by rw [show ofN l s = Value.tuple #[.int .i64 0, .int .i64 11] from by unfold ofN; rw [HN.out]]; rfl, by repeat (first | exact Drawn0.refl _ | exact hD.out | apply Drawn0.step)⟩
/-- What Add answers. -/
def addV (l : List ByteArray) (s : ByteArray) : Value := if nameB s = true then (match nidx l s with | some _ => .tuple #[.int .i64 0, .int .i64 10] | none => .tuple #[.int .i64 (l.length : Int), .int .i64 0]) else .tuple #[.int .i64 0, .int .i64 7]
theorem addV_name {l : List ByteArray} {s : ByteArray} (hb : nameB s = false) : addV l s = .tuple #[.int .i64 0, .int .i64 7] ∧ addN l s = l := by
  unfold addV addN
  rw [hb]
  exact ⟨if_neg (by decide), if_neg (fun h => by cases h.1)⟩
theorem addV_has {l : List ByteArray} {s : ByteArray} (hb : nameB s = true) {i : Nat} (hn : nidx l s = some i) : addV l s = .tuple #[.int .i64 0, .int .i64 10] ∧ addN l s = l := by
  unfold addV addN
  rw [hb, hn]
  exact ⟨if_pos rfl, if_neg (fun h => by cases h.2)⟩
theorem addV_new {l : List ByteArray} {s : ByteArray} (hb : nameB s = true) (hn : nidx l s = none) : addV l s = .tuple #[.int .i64 (l.length : Int), .int .i64 0] ∧ addN l s = l ++ [s] := by
  unfold addV addN
  rw [hb, hn]
  exact ⟨if_pos rfl, if_pos ⟨rfl, rfl⟩⟩
/-- Add, whatever the text. -/
theorem Add_calls (p : Nat) (S : Nat → Prop) (l : List ByteArray) (s : ByteArray) (hs : s.size ≤ 140737488351232) (hl : l.length < 5000) (w : World) (h : TbO w p S l) :
    Calls Try.prog 12 #[.pointer (some ⟨p, 0, none⟩), .string s] w fun e w' => e = .returned (addV l s) ∧ TbO w' p (fun k => S k ∨ w.heap.size ≤ k) (addN l s) ∧ Chg S w w' := by
  cases hb : nameB s with
  | false =>
    rw [(addV_name hb).1, (addV_name hb).2]
    refine (Add_name p S l s hs hb w h).mono ?_
    rintro e w' ⟨rfl, hd⟩
    exact ⟨rfl, (h.below hd).mono (fun k hk => .inl hk), Chg.of_below S hd⟩
  | true =>
    cases hn : nidx l s with
    | some i =>
      rw [(addV_has hb hn).1, (addV_has hb hn).2]
      refine (Add_has p S l s hs hb i hn w h).mono ?_
      rintro e w' ⟨rfl, hd⟩
      exact ⟨rfl, (h.below hd).mono (fun k hk => .inl hk), Chg.of_below S hd⟩
    | none =>
      rw [(addV_new hb hn).1, (addV_new hb hn).2]
      exact Add_new p S l s hs hb hn hl w h
set_option maxHeartbeats 2000000 in
set_option maxRecDepth 100000 in
theorem RAdd_calls (p : Nat) (S : Nat → Prop) (l : List ByteArray) (s : ByteArray) (hs : s.size ≤ 140737488351232) (hl : l.length < 5000) (w : World) (h : RtO w p S l) :
    Calls Try.prog 13 #[.pointer (some ⟨p, 0, none⟩), .string s] w fun e w' => e = .returned (addV l s) ∧ RtO w' p (fun k => S k ∨ w.heap.size ≤ k) (addN l s) ∧ Chg S w w' := by
  have HC := Aside0.mk (fun w' => armisticeref03_Check.calls 100 s (errN (nameB s)) w' (rcheck_f s (by omega)))
  have HO := Aside0.mk (fun w' (hd : Below w.heap.size w w') => ROf_calls p S l s hl w' (h.below hd))
  have HT := Aside0.mk h
  cases hb : nameB s with
  | false =>
    rw [(addV_name hb).1, (addV_name hb).2]
    rw [hb] at HC
    clear h hb
    go_enter Try.func13, Try.ntmps13
    go_wp2_with fail
    refine (HC.out _).mono ?_
    rintro e w2 ⟨rfl, hd⟩
    simp only [errN, if_false, Bool.false_eq_true]
    have HB := Aside0.mk hd.below
    clear hd
    go_wp2_with fail
    go_ret2
    exact ⟨rfl, (HT.out.below HB.out).mono (fun k hk => .inl hk), Chg.of_below S HB.out⟩
  | true =>
    rw [hb] at HC
    cases hn : nidx l s with
    | some i =>
      rw [(addV_has hb hn).1, (addV_has hb hn).2]
      have HE := Aside0.mk (show ofN l s = .tuple #[.int .i64 (i : Int), .int .i64 0] from by unfold ofN; rw [hn])
      rw [HE.out] at HO
      clear h hb hn
      go_enter Try.func13, Try.ntmps13
      go_wp2_with fail
      refine (HC.out _).mono ?_
      rintro e w2 ⟨rfl, hd⟩
      simp only [errN, if_true]
      have HB := Aside0.mk hd.below
      clear hd
      go_wp2_with fail
      refine (HO.out _ HB.out).mono ?_
      rintro e w3 ⟨rfl, hd⟩
      have HB3 := Aside0.mk (HB.out.trans (hd.below.mono HB.out.size))
      clear hd
      go_wp2_with fail
      go_ret2
      exact ⟨rfl, (HT.out.below HB3.out).mono (fun k hk => .inl hk), Chg.of_below S HB3.out⟩
    | none =>
      rw [(addV_new hb hn).1, (addV_new hb hn).2]
      have HE := Aside0.mk (show ofN l s = .tuple #[.int .i64 0, .int .i64 11] from by unfold ofN; rw [hn])
      rw [HE.out] at HO
      obtain ⟨v, h1, hp, h3⟩ := h
      obtain ⟨A, c, rfl⟩ := Kd.R_slice h3
      have HP := Aside0.mk h1
      have HSp := Aside0.mk hp
      have H3 := Aside0.mk h3
      have d1 : decide (5000 ≤ (l.length : Int)) = false := decide_eq_false (by omega)
      clear h1 hp h3 hb hn
      go_enter Try.func13, Try.ntmps13
      go_wp2_with fail
      refine (HC.out _).mono ?_
      rintro e w2 ⟨rfl, hd⟩
      simp only [errN, if_true]
      have HB := Aside0.mk hd.below
      clear hd
      go_wp2_with fail
      refine (HO.out _ HB.out).mono ?_
      rintro e w3 ⟨rfl, hd⟩
      have HB3 := Aside0.mk (HB.out.trans (hd.below.mono HB.out.size))
      clear hd HB HO HC
      have hp3 := (HB3.out.block p (blk_lt HP.out)).trans HP.out
      have q0 := (blk_cell hp3 0).trans rfl
      have HP3 := Aside0.mk hp3
      have H33 := Aside0.mk (Kd.R_below (Kd.R_mono H3.out (fun k hk => (⟨.inl hk.1, hk.2⟩ : (S k ∨ w.heap.size ≤ k) ∧ k ≠ p))) HB3.out)
      have HFr := Aside0.mk (show ∀ k, w3.heap.size ≤ k → (S k ∨ w.heap.size ≤ k) ∧ k ≠ p from fun k hk => by
        have z1 := HB3.out.size
        have z2 := blk_lt HP.out
        exact ⟨.inr (by omega), by omega⟩)
      have HOw := Aside0.mk (show ∀ k, (Value.slice A l.length c).ownBlock = some k → S k ∧ k ≠ p from fun k hk => H3.out.1 k hk)
      have HM := Aside0.mk (show ∀ W : World, Kd.string.M W 0 (fun _ => False) s [.string s] from fun W => rfl)
      have HLen := Aside0.mk (show (l.length + 1) * 16 ≤ 140737488355328 by omega)
      clear hp3
      go_wp2_with ((with_reducible refine gate_builtin (b := .append) (xs := #[.tmp 31, .tmp 33]) rfl ?_); at_builtin; refine Kd.R_append Kd.string (w0 := w3) 0 rfl (.tmp 31) (.tmp 33) 22 9 (.string ⟨#[]⟩) 16 rfl Try.underlying22 infoS rfl (by decide) (by decide) (.slice A l.length c) l s [.string s] (fun k => (S k ∨ w.heap.size ≤ k) ∧ k ≠ p) (fun _ => False) rfl rfl (HM.out _) (fun _ h => h.elim) HFr.out H33.out (Below.refl _ _) (Nat.zero_le _) HLen.out ?_; intro v4 w4 hR4 _ hg4 _; obtain ⟨A4, c4, rfl⟩ := Kd.R_slice hR4; rw [show (l ++ [s]).length = l.length + 1 by simp] at hR4; have hp4 := (hg4.block p (blk_lt HP3.out) (fun e => (HOw.out p e.symm).2 rfl)).trans HP3.out; have HP4 := Aside0.mk hp4; have HG4 := Aside0.mk hg4; have HR4 := Aside0.mk hR4; have r2 := (blk_cell hp4 0).trans rfl; have f2 := blk_frozen hp4 0; clear q0 hR4 hg4 hp4)
      go_ret2
      exact ⟨rfl, ⟨.slice A4 (l.length + 1) c4, blk_put HP4.out 0 _ rfl, .inl HSp.out, Kd.R_far (p := ⟨p, 0, none⟩) HR4.out (fun k hk => hk.2) _⟩, ((Chg.of_below S HB3.out).grown HG4.out (fun k hk => .inl (HOw.out k hk).1)).set_ (p := ⟨p, 0, none⟩) (.inl HSp.out) _⟩
/-- how many of the first j are before the i-th -/
def rk (l : List ByteArray) (j : Nat) (i : Int) : Nat := (iotaL j).countP (fun k => ltN l k i)
theorem rk_zero (l : List ByteArray) (i : Int) : rk l 0 i = 0 := rfl
theorem rk_succ (l : List ByteArray) (j : Nat) (i : Int) : rk l (j + 1) i = rk l j i + if ltN l j i = true then 1 else 0 := by
  unfold rk
  rw [iotaL_succ, List.countP_append, List.countP_singleton]
theorem rk_le (l : List ByteArray) (i : Int) (j : Nat) : rk l j i ≤ j := by
  have := List.countP_le_length (p := fun k => ltN l k i) (l := iotaL j)
  rwa [iotaL_len] at this
theorem rank_lt (l : List ByteArray) {k : Nat} (hk : k < l.length) : rankN l k < l.length := by
  have h1 := List.countP_le_length (p := fun x => ltN l x k) (l := iotaL l.length)
  rw [iotaL_len] at h1
  rcases Nat.lt_or_ge (rankN l k) l.length with h | h
  · exact h
  · have h2 : (iotaL l.length).countP (fun x => ltN l x k) = (iotaL l.length).length := by
      rw [iotaL_len]
      exact Nat.le_antisymm h1 h
    have h3 := (List.countP_eq_length.1 h2) (k : Int) (mem_iota.2 ⟨by omega, by omega⟩)
    simp only [ltN, decide_eq_true_eq] at h3
    exact absurd h3 (cmp_irrefl l k)
set_option maxHeartbeats 4000000 in
set_option maxRecDepth 100000 in
theorem ROrder_calls (p : Nat) (S : Nat → Prop) (l : List ByteArray) (hl : l.length < 5000) (w : World) (h : RtO w p S l) :
    Calls Try.prog 22 #[.pointer (some ⟨p, 0, none⟩)] w fun e w' => ∃ v, e = .returned v ∧ (Kd.int .i64).R 3 w' w.heap.size (fun _ => True) v (refOrd l l.length) ∧ Below w.heap.size w w' := by
  obtain ⟨v, h1, _, h3⟩ := h
  obtain ⟨A, c, rfl, hc, hC⟩ := Kd.R_reads h3
  have q0 := (blk_cell h1 0).trans rfl
  have HC := Aside0.mk hC
  have HP := Aside0.mk h1
  have hpl := blk_lt h1
  clear h1 h3 hC
  go_enter Try.func22, Try.ntmps22
  go_wp2_with ((with_reducible refine gate_dst (N := 12) rfl ?_); refine Kd.R_make (Kd.int .i64) (w0 := w) w.heap.size 3 rfl (N := 12) rfl 37 (.tmp 11) (.tmp 11) rfl (l.length : Int) rfl rfl Try.underlying37 (.int .i64 0) 8 infoI rfl (by decide) (by decide) (0 : Int) (ok := fun _ => True) (okp := fun _ => False) rfl (fun _ h => h.elim) trivial (by omega) (by omega) (Below.refl _ _) (Nat.le_refl _) ?_; intro v3 w1 hR hb _ _; have HR := Aside0.mk (show (Kd.int .i64).R 3 w1 w.heap.size (fun _ => True) v3 (refOrd l 0) from hR); have HB := Aside0.mk hb; clear hR hb)
  go_loopg [4] (l.length + 1) (fun g v4 wr => ∃ k : Nat, k ≤ l.length ∧ Aside0 (k + g = l.length + 1) ∧ v4 = .int .i64 k ∧ Aside0 ((Kd.int .i64).R 3 wr w.heap.size (fun _ => True) v3 (refOrd l k)) ∧ Aside0 (Below w.heap.size w wr))
  case atStart => exact ⟨0, by omega, ⟨by omega⟩, rfl, HR, HB⟩
  case round =>
    obtain ⟨wa, rfl⟩ : ∃ wa : World, wa = wr := ⟨_, rfl⟩
    obtain ⟨ga, rfl⟩ : ∃ ga : Nat, ga = gk := ⟨_, rfl⟩
    clear HR HB q0
    obtain ⟨k, hk, hg, rfl, hR, hB⟩ := hrel
    have q0 := (hB.out.cell (p := ⟨p, 0, none⟩) hpl).trans ((blk_cell HP.out 0).trans rfl)
    by_cases c1 : k < l.length
    · obtain ⟨ad, rfl, hcell⟩ := Kd.at_string (Kd.C_below HC.out hB.out) (k : Int) (by omega) (by omega)
      simp only [Int.toNat_natCast] at hcell
      have hlen := refOrd_len l k
      obtain ⟨g, co, e2, hg1, hg2⟩ := row_at0 hR.out (by omega)
      rw [hlen] at e2
      subst e2
      obtain ⟨x, hxx⟩ : ∃ x, Aside0 (rdOf ByteArray.empty l (k : Int) = x) := ⟨_, ⟨rfl⟩⟩
      rw [hxx.out] at hcell
      have HCE := Aside0.mk hcell
      have b0 := decide_eq_true (show ((k : Nat) : Int) < (l.length : Int) by omega)
      clear hcell hlen
      go_wp2
      go_loopg [5, 6] (l.length + 1) (fun g2 v5 v6 wr2 => ∃ j : Nat, j ≤ l.length ∧ Aside0 (j + g2 = l.length + 1) ∧ v5 = .int .i64 (rk l j k : Nat) ∧ v6 = .int .i64 j ∧ Aside0 (Drawn0 wa wr2))
      case atStart => exact ⟨0, by omega, ⟨by omega⟩, rfl, rfl, ⟨Drawn0.refl _⟩⟩
      case round =>
        obtain ⟨j, hj, hgj, rfl, rfl, hD⟩ := hrel
        have q0' := (hD.out.below.cell (p := ⟨p, 0, none⟩) (Nat.lt_of_lt_of_le hpl hB.out.size)).trans q0
        by_cases c2 : j < l.length
        · obtain ⟨ad2, e3, hcell2⟩ := Kd.at_string (Kd.C_below HC.out (hB.out.trans (hD.out.below.mono hB.out.size))) (j : Int) (by omega) (by omega)
          cases e3
          simp only [Int.toNat_natCast] at hcell2
          have hcell := cell_later hD.out.below HCE.out
          have d0 := decide_eq_true (show ((j : Nat) : Int) < (l.length : Int) by omega)
          have d1 : (0 : Int) ≤ (k : Int) := by omega
          have d2 : (k : Int) < (l.length : Int) := by omega
          have d3 : (0 : Int) ≤ (j : Int) := by omega
          have d4 : (j : Int) < (l.length : Int) := by omega
          have hs := rk_succ l j k
          have hle := rk_le l k j
          have hlt : Op.bytesLess (rdOf ByteArray.empty l (j : Int)).toList x.toList = ltN l j k := by rw [bl_ba, ← hxx.out]; rfl
          obtain ⟨b, hb⟩ : ∃ b, ltN l j k = b := ⟨_, rfl⟩
          rw [hb] at hlt hs
          clear hb
          cases b with
          | true =>
            rw [if_pos rfl] at hs
            have HS := Aside0.mk hs
            clear hs
            go_wp2
            go_quiet (fail)
            go_wp2
            go_roundg (gk - 1)
            case measure => have := hgj.out; omega
            case rel => exact ⟨j + 1, by omega, ⟨by have := hgj.out; omega⟩, by rw [HS.out]; go_num, by go_num, ⟨by repeat (first | exact Drawn0.refl _ | exact hD.out | apply Drawn0.step)⟩⟩
          | false =>
            rw [if_neg (by decide)] at hs
            have HS := Aside0.mk hs
            clear hs
            go_wp2
            go_quiet (fail)
            go_wp2
            go_roundg (gk - 1)
            case measure => have := hgj.out; omega
            case rel => exact ⟨j + 1, by omega, ⟨by have := hgj.out; omega⟩, by rw [HS.out]; rfl, by go_num, ⟨by repeat (first | exact Drawn0.refl _ | exact hD.out | apply Drawn0.step)⟩⟩
        · have d0 := decide_eq_false (show ¬ ((j : Nat) : Int) < (l.length : Int) by omega)
          have ej : rk l j k = rankN l k := by
            have : j = l.length := by omega
            subst this
            rfl
          have hlt := rank_lt l c1
          rw [ej]
          obtain ⟨r, hr⟩ : ∃ r, Aside0 (rankN l k = r) := ⟨_, ⟨rfl⟩⟩
          rw [hr.out] at hlt ⊢
          have d1 : (0 : Int) ≤ (r : Int) := by omega
          have d2 : (r : Int) < (l.length : Int) := by omega
          have HR2 := Aside0.mk (Kd.R_below hR.out hD.out.below)
          have hcl := Kd.R_celln (0 : Int) HR2.out (r : Int) d1 d2
          simp only [Int.toNat_natCast] at hcl
          obtain ⟨hc1, hc2⟩ := hcl
          have hput := Kd.R_putg HR2.out (r : Int) (k : Int)
          simp only [Int.toNat_natCast] at hput
          have HPut := Aside0.mk hput
          clear hput ej
          go_wp2
          go_roundg (ga - 1)
          case measure => have := hg.out; omega
          case rel => exact ⟨k + 1, by omega, ⟨by have := hg.out; omega⟩, by go_num, ⟨by rw [refOrd_succ, hr.out]; exact HPut.out.1⟩, ⟨below_set (hB.out.trans (hD.out.below.mono hB.out.size)) hg1⟩⟩
    · have b0 := decide_eq_false (show ¬ ((k : Nat) : Int) < (l.length : Int) by omega)
      have ek : k = l.length := by omega
      subst ek
      go_wp2
      go_ret
      exact ⟨_, rfl, hR.out, hB.out⟩
end Go.Proofs.Ytfnonbbakkcoaaa.P
