/- store.Store: New, Put. -/
import Derived.Test.YtapnegdigghomaaEStoreHas
import Derived.WalkSpells
namespace Go.Proofs.Ytapnegdigghomaa.P
open Go.RowKit Go.Proofs.YtapnegdigghomaaW.PrintWords Go.Proofs.YtapnegdigghomaaW.PrintLast Go.Proofs.YtapnegdigghomaaW.PrintMore Go.Maps
set_option linter.unusedVariables false
set_option linter.unusedSimpArgs false
attribute [local go_sem ↓] Go.wp_at_zero Go.wp_at_succ
theorem New_no (sd bk : Int) (w : World) (h : bk < 1 ∨ 65536 < bk) :
    Calls Try.prog 11 #[.int .i64 sd, .int .i64 bk] w fun e w' => e = .returned (.tuple #[.pointer none, .int .i64 3]) ∧ w' = w := by
  rcases h with h | h
  · have e1 : decide (bk < 1) = true := decide_eq_true h
    go_enter Try.func11, Try.ntmps11
    go_wp2
    go_ret2
    exact ⟨rfl, rfl⟩
  · have e1 : decide (bk < 1) = false := decide_eq_false (by omega)
    have e2 : decide (65536 < bk) = true := decide_eq_true h
    go_enter Try.func11, Try.ntmps11
    go_wp2
    go_ret2
    exact ⟨rfl, rfl⟩
theorem New_yes (sd bk : Int) (w : World) (h0 : 1 ≤ bk) (h1 : bk ≤ 65536) :
    Calls Try.prog 11 #[.int .i64 sd, .int .i64 bk] w fun e w' => e = .returned (.tuple #[.pointer (some ⟨w.heap.size, 0, none⟩), .int .i64 0]) ∧ StO w' w.heap.size sd bk (fun k => w.heap.size ≤ k) [] ∧ Below w.heap.size w w' := by
  have e1 : decide (bk < 1) = false := decide_eq_false (by omega)
  have e2 : decide (65536 < bk) = false := decide_eq_false (by omega)
  have HM := Aside0.mk (StO.made w sd bk)
  go_enter Try.func11, Try.ntmps11
  go_wp2
  go_ret2
  exact ⟨rfl, HM.out.mono (fun k hk => by rw [hk]; exact Nat.le_refl _), (Below.refl _ w).alloc (Nat.le_refl _) _⟩
theorem infoB : (Try.prog.info? 5).map (fun i => (i.zero, i.size, i.bytes)) = some (some (.int .u8 0), 1, 1) := by kernel_rfl
theorem infoK : (Try.prog.info? 66).map (fun i => (i.zero, i.size, i.bytes)) = some (some (.agg #[.slice none 0 0]), 1, 24) := by kernel_rfl
set_option maxHeartbeats 1000000 in
theorem Clone_calls (A0 : Option Addr) (c0 : Nat) (l0 : List Int) (w : World) (hr0 : Kd.C (Kd.int .u8) w A0 l0.length l0) (hc0 : l0.length ≤ c0) (hl : l0.length < 140737488355328) :
    Calls Try.prog 38 #[.slice A0 l0.length c0] w fun e w' => ∃ v0_ : Value, e = .returned v0_ ∧ Kd.R (Kd.int .u8) 5 w' w.heap.size (fun _ => True) v0_ l0 ∧ Below w.heap.size w w' := by
  cases A0 with
  | none =>
    have hn : l0 = [] := by
      rcases Nat.eq_zero_or_pos l0.length with h | h
      · exact List.length_eq_zero_iff.1 h
      · obtain ⟨ad, e, _⟩ := hr0.2.2 h
        cases e
    subst hn
    have hq := Lib.run_eql_slice_nil (P := Try.prog) w 22 5 none 0 c0 0 0 Try.underlying22
    go_enter Try.func38, Try.ntmps38
    go_wp2
    go_ret
    exact ⟨_, rfl, Kd.R_nil _ _ _ _ _, Below.refl _ _⟩
  | some ad =>
    have hq := Lib.run_eql_slice_nil (P := Try.prog) w 22 5 (some ad) l0.length c0 0 0 Try.underlying22
    have HR0 := Aside0.mk hr0
    have HL := Aside0.mk hl
    have HB := Aside0.mk (Below.refl w.heap.size w)
    clear hr0 hl
    go_enter Try.func38, Try.ntmps38
    go_wp2_with (first | ((with_reducible refine gate_dst (N := 5) rfl ?_); refine Kd.R_lit (Kd.int .u8) _ 5 ?hg (N := 5) ?hd (xs := ([] : List Int)) (inner := []) (ok := fun _ => True) (okp := fun _ => True) ?hr ?hp (fun _ hk => hk) trivial (Below.refl _ _) (Nat.le_refl _) (by simp) ?_; (case hd => rfl); (case hg => rfl); (case hr => first | (go_simp; done) | (go_simp; rfl)); (case hp => exact (Reps.none _ _)); intro v104 w3 ho4 hb hg_ hnew_; clear hg_ hnew_; have HO4 := Aside0.mk ho4; have HB4 := Aside0.mk hb; clear HB hb ho4) | ((with_reducible refine gate_builtin (b := .append) (xs := #[.tmp 5, .tmp 6]) rfl ?_); at_builtin; refine Kd.R_append_rows (Kd.int .u8) (w0 := w) w.heap.size rfl (.tmp 5) (.tmp 6) 22 5 (.int .u8 0) 1 rfl Try.underlying22 infoB rfl (by decide) (by omega) v104 ([] : List Int) l0 _ _ _ (fun _ => True) (fun _ => False) rfl rfl HO4.out (Kd.C_below HR0.out HB4.out) (fun _ _ h => h) (fun _ h => h.elim) (fun _ _ => trivial) HB4.out HB4.out.size (by have := HL.out; simp only [List.length_nil]; omega) ?_; intro v107 w5 ho hb hg hat; rw [List.nil_append] at ho; have HO5 := Aside0.mk ho; have HB5 := Aside0.mk hb; clear ho hb hg hat HO4 HB4))
    go_ret
    exact ⟨_, rfl, HO5.out, HB5.out⟩
/-- A store whose map is made, laid open. -/
structure StX (w : World) (p q : Nat) (sd bk : Int) (S : Nat → Prop) (l : List (List Int)) (n : Nat) (F : Lit → Option Value) (own : Nat → Int) : Prop where
  blk : w.heap[p]? = some (.cells #[.int .i64 sd, .int .i64 bk, .map (some q), .int .i64 (l.length : Int)] 52 (0, 0))
  sp : S p
  sq : S q
  ne : q ≠ p
  u8 : ∀ x ∈ l, isU8 x = true
  le : n ≤ l.length
  map : MapF w Try.prog 3 q n F
  rows : ∀ i : Int, kB.R 66 w 0 (fun k => S k ∧ k ≠ p ∧ k ≠ q ∧ own k = i) ((F (.int .i64 i)).getD (.slice none 0 0)) (rowsOf sd bk l i)
theorem StOm.open_ {w : World} {p q : Nat} {sd bk : Int} {S : Nat → Prop} {l : List (List Int)} (h : StOm w p sd bk S l (some q)) : ∃ n F own, StX w p q sd bk S l n F own := by
  obtain ⟨h1, h2, hu, h4, h5, n, F, own, h6, h7, h8⟩ := h
  exact ⟨n, F, own, h1, h2, h4, h5, hu, h6, h7, h8⟩
theorem StX.shut {w : World} {p q n : Nat} {sd bk : Int} {S : Nat → Prop} {l : List (List Int)} {F : Lit → Option Value} {own : Nat → Int} (h : StX w p q sd bk S l n F own) : StOm w p sd bk S l (some q) :=
  ⟨h.blk, h.sp, h.u8, h.sq, h.ne, n, F, own, h.le, h.map, h.rows⟩
/-- Whose row a block is, behind a put into bucket i. -/
def own2 (B : Nat) (own : Nat → Int) (i : Int) (k : Nat) : Int := if k < B then own k else i
theorem rows_snoc (sd bk : Int) (l : List (List Int)) (b : List Int) (j : Int) : rowsOf sd bk (l ++ [b]) j = if bkt sd bk b = j then rowsOf sd bk l j ++ [b] else rowsOf sd bk l j := by
  unfold rowsOf
  rw [List.filter_append]
  by_cases c : bkt sd bk b = j
  · rw [if_pos c]
    simp [c]
  · rw [if_neg c]
    simp [c]
section
variable {w1 W2 w4 w5 : World} {p q n : Nat} {sd bk : Int} {S : Nat → Prop} {l : List (List Int)} {F : Lit → Option Value} {own : Nat → Int} {bs : List Int} {v v1 : Value} {i : Int}
/-- The row that is appended to, ahead of the append. -/
theorem put_row (h : StX w1 p q sd bk S l n F own) (hb : Below w1.heap.size w1 W2) (i : Int) :
    kB.R 66 W2 0 (fun k => (S k ∨ w1.heap.size ≤ k) ∧ k ≠ p ∧ k ≠ q ∧ own2 w1.heap.size own i k = i) ((F (.int .i64 i)).getD (.slice none 0 0)) (rowsOf sd bk l i) :=
  Kd.R_below (Kd.R_mono (Kd.R_bound (h.rows i)) (fun k hk => ⟨.inl hk.1.1, hk.1.2.1, hk.1.2.2.1, by unfold own2; rw [if_pos hk.2.2.1]; exact hk.1.2.2.2⟩)) hb
theorem put_apart (h : StX w1 p q sd bk S l n F own) (i : Int) (k : Nat) (hk : ((F (.int .i64 i)).getD (.slice none 0 0)).ownBlock = some k) : S k ∧ k ≠ p ∧ k ≠ q ∧ own k = i ∧ k < w1.heap.size := by
  have h1 := (Kd.R_bound (h.rows i)).1 k hk
  exact ⟨h1.1.1, h1.1.2.1, h1.1.2.2.1, h1.1.2.2.2, h1.2.2.1⟩
theorem put_blk (h : StX w1 p q sd bk S l n F own) (hb : Below w1.heap.size w1 W2) (hg : W2.grownBy w4 ((F (.int .i64 i)).getD (.slice none 0 0)).ownBlock) :
    w4.heap[p]? = some (.cells #[.int .i64 sd, .int .i64 bk, .map (some q), .int .i64 (l.length : Int)] 52 (0, 0)) ∧ MapF w4 Try.prog 3 q n F := by
  have hp := blk_lt h.blk
  have hq := h.map.lt
  refine ⟨((hg.block p (Nat.lt_of_lt_of_le hp hb.size) (fun e => (put_apart h i p e.symm).2.1 rfl)).trans (hb.block p hp)).trans h.blk, h.map.move ?_⟩
  exact (hg.block q (Nat.lt_of_lt_of_le hq hb.size) (fun e => (put_apart h i q e.symm).2.2.1 rfl)).trans (hb.block q hq)
open Classical in
theorem put_end (h : StX w1 p q sd bk S l n F own) (hub : isU8 bs = true) (hi : bkt sd bk bs = i) (hb : Below w1.heap.size w1 W2) (hg : W2.grownBy w4 ((F (.int .i64 i)).getD (.slice none 0 0)).ownBlock)
    (hR : kB.R 66 w4 0 (fun k => (S k ∨ w1.heap.size ≤ k) ∧ k ≠ p ∧ k ≠ q ∧ own2 w1.heap.size own i k = i) v1 (rowsOf sd bk l i ++ [bs]))
    (hM : MapF w5 Try.prog 3 q (n + 1) (fun x => if x = .int .i64 i then some v1 else F x)) (hg5 : w4.grownBy w5 (some q)) :
    StO (w5.setCell ⟨p, 3, none⟩ (.int .i64 (((l ++ [bs]).length : Nat) : Int))) p sd bk (fun k => S k ∨ w1.heap.size ≤ k) (l ++ [bs]) ∧ Chg S w1 (w5.setCell ⟨p, 3, none⟩ (.int .i64 (((l ++ [bs]).length : Nat) : Int))) := by
  obtain ⟨hp4, hm4⟩ := put_blk h hb hg
  have hp5 := (hg5.block p (blk_lt hp4) (fun e => h.ne (Option.some.inj e).symm)).trans hp4
  have hc5 : Chg S w1 w5 := ((Chg.of_below S hb).grown hg (fun k hk => .inl (put_apart h i k hk).1)).grown hg5 (fun k hk => .inl (by cases hk; exact h.sq))
  refine ⟨⟨some q, blk_put hp5 3 _ rfl, .inl h.sp, ?_, .inl h.sq, h.ne, n + 1, _, own2 w1.heap.size own i, ?_, hM.move (Below.heap_setCell _ _ _ q h.ne), ?_⟩, hc5.set_ (p := ⟨p, 3, none⟩) (.inl h.sp) _⟩
  · intro x hx
    rcases List.mem_append.1 hx with hx | hx
    · exact h.u8 x hx
    · rw [List.mem_singleton.1 hx]
      exact hub
  · rw [List.length_append]
    have := h.le
    simp
    omega
  · intro j
    rw [rows_snoc, hi]
    by_cases c : i = j
    · subst c
      simp only [if_true]
      exact Kd.R_far (p := ⟨p, 3, none⟩) (Kd.R_grown hR hg5 (fun k hk e => hk.2.2.1 (Option.some.inj e))) (fun k hk => hk.2.1) _
    · have cj : ¬ j = i := fun e => c e.symm
      have cl : ¬ (Lit.int .i64 j = Lit.int .i64 i) := fun e => cj (by injection e)
      simp only [if_neg c, if_neg cl]
      have h1 := Kd.R_below (Kd.R_bound (h.rows j)) hb
      have h2 := Kd.R_grown (Kd.R_bound h1) hg (fun k hk e => by
        have := put_apart h i k e.symm
        exact cj (hk.1.1.2.2.2.symm.trans this.2.2.2.1))
      have h3 := Kd.R_grown h2 hg5 (fun k hk e => hk.1.1.2.2.1 (Option.some.inj e))
      refine Kd.R_mono (Kd.R_far (p := ⟨p, 3, none⟩) h3 (fun k hk => hk.1.1.2.1) _) (fun k hk => ?_)
      obtain ⟨⟨⟨h1, h2, h3, h4⟩, h5, h6, _⟩, _⟩ := hk
      exact ⟨.inl h1, h2, h3, by unfold own2; rw [if_pos h6]; exact h4⟩
end
theorem put_made {w w2 : World} {p : Nat} {sd bk : Int} {S : Nat → Prop} {l : List (List Int)} (h : StOm w2 p sd bk S l none) (hb : Below w.heap.size w w2) :
    StOm ((w2.setCell ⟨p, 2, none⟩ (.map (some w2.heap.size))).alloc (.map #[] 0)) p sd bk (fun k => S k ∨ w.heap.size ≤ k) l (some w2.heap.size) ∧ Chg S w ((w2.setCell ⟨p, 2, none⟩ (.map (some w2.heap.size))).alloc (.map #[] 0)) := by
  have hl : l = [] := h.2.2.2
  have hp := h.lt
  have hb2 := below_alloc (Below.refl _ (w2.setCell ⟨p, 2, none⟩ (.map (some w2.heap.size)))) (.map #[] 0)
  have hM := MapF.made (w2.setCell ⟨p, 2, none⟩ (.map (some w2.heap.size))) Try.prog 3
  have hs : (w2.setCell ⟨p, 2, none⟩ (.map (some w2.heap.size))).heap.size = w2.heap.size := by simp [World.setCell]
  rw [hs] at hM
  refine ⟨⟨blk_below (blk_put h.1 2 _ rfl) hb2, .inl h.2.1, h.2.2.1, .inr hb.size, by omega, 0, _, fun _ => 0, Nat.zero_le _, hM, fun i => ?_⟩, (((Chg.of_below S hb).set_ (p := ⟨p, 2, none⟩) (.inl h.2.1) _).alloc _)⟩
  subst hl
  exact Kd.R_nil _ _ _ _ _
theorem Put_old (p : Nat) (sd bk : Int) (S : Nat → Prop) (l : List (List Int)) (w : World) (h : StO w p sd bk S l) (hb0 : 1 ≤ bk) (hb1 : bk ≤ 65536) (hll : l.length ≤ 1000000)
    (A0 : Option Addr) (c0 : Nat) (bs : List Int) (hc0 : bs.length ≤ c0) (hl : bs.length < 140737488355328) (hr : Kd.C (Kd.int .u8) w A0 bs.length bs) (hub : isU8 bs = true) (hh : hasB l bs = true) :
    Calls Try.prog 20 #[.pointer (some ⟨p, 0, none⟩), .slice A0 bs.length c0] w fun e w' => e = .returned (.tuple #[.bool false, .int .i64 0]) ∧ Below w.heap.size w w' := by
  have HC := Has_calls p sd bk S l w h hb0 hb1 hll A0 c0 bs hc0 (by omega) hr hub
  rw [hh] at HC
  have HC := Aside0.mk HC
  have hbn : bk ≠ 0 := by omega
  obtain ⟨m, h⟩ := h
  have HN := Aside0.mk (none_no p bk w h.c1 hbn)
  clear h hr hh hl hc0
  go_enter Try.func20, Try.ntmps20
  go_wp2_with fail
  refine HN.out.mono ?_
  rintro e w1 ⟨rfl, rfl⟩
  go_wp2_with fail
  refine HC.out.mono ?_
  rintro e w2 ⟨rfl, hb2⟩
  go_wp2
  go_ret2
  exact ⟨rfl, hb2⟩
set_option maxHeartbeats 2000000 in
set_option maxRecDepth 100000 in
theorem Put_new (p : Nat) (sd bk : Int) (S : Nat → Prop) (l : List (List Int)) (w : World) (h : StO w p sd bk S l) (hb0 : 1 ≤ bk) (hb1 : bk ≤ 65536) (hll : l.length ≤ 1000000)
    (A0 : Option Addr) (c0 : Nat) (bs : List Int) (hc0 : bs.length ≤ c0) (hl : bs.length < 140737488355328) (hr : ∀ w', Chg S w w' → Kd.C (Kd.int .u8) w' A0 bs.length bs) (hub : isU8 bs = true) (hh : hasB l bs = false) :
    Calls Try.prog 20 #[.pointer (some ⟨p, 0, none⟩), .slice A0 bs.length c0] w fun e w' => e = .returned (.tuple #[.bool true, .int .i64 0]) ∧ StO w' p sd bk (fun k => S k ∨ w.heap.size ≤ k) (l ++ [bs]) ∧ Chg S w w' := by
  have HC := Has_calls p sd bk S l w h hb0 hb1 hll A0 c0 bs hc0 (by omega) (hr w (Chg.refl _ _)) hub
  rw [hh] at HC
  have HC := Aside0.mk HC
  have hbn : bk ≠ 0 := by omega
  obtain ⟨m, h⟩ := h
  have HN := Aside0.mk (none_no p bk w h.c1 hbn)
  have HR := Aside0.mk hr
  have HH := Aside0.mk h
  have HU := Aside0.mk hub
  have HL := Aside0.mk hl
  clear hr hh h hub hl
  go_enter Try.func20, Try.ntmps20
  go_upto_region 5 with (first | (go_at_call 33; (refine HN.out.mono ?_); rintro e w ⟨rfl, rfl⟩) | (go_at_call 18; (refine HC.out.mono ?_); rintro e w2 ⟨rfl, hb2⟩))
  have H2 := Aside0.mk (HH.out.below hb2)
  have HB2 := Aside0.mk hb2
  clear hb2
  have m0 := H2.out.c2
  have f0 := H2.out.fr 2
  have q0 := run_eql_map_nil (P := Try.prog) w2 50 3 64 m Try.underlying50
  have p0 := H2.out.lt
  go_upto_if 16 with (fail)
  go_cut [] (fun wc => ∃ q, Aside0 (StOm wc p sd bk (fun k => S k ∨ w.heap.size ≤ k) l (some q)) ∧ Aside0 (Chg S w wc))
  case first =>
    cases m with
    | none =>
      have hmm := @run_makeMap Try.prog
      go_wp2
      go_meet
      case rel => exact ⟨_, ⟨(put_made H2.out HB2.out).1⟩, ⟨(put_made H2.out HB2.out).2⟩⟩
    | some q =>
      go_wp2
      go_meet
      case rel => exact ⟨q, ⟨H2.out.mono (fun k hk => .inl hk)⟩, ⟨Chg.of_below _ HB2.out⟩⟩
  case rest =>
    obtain ⟨q, HS, HC1⟩ := hcut
    have HCc := Aside0.mk (bucket_calls p sd bk wc HS.out.c0 HS.out.c1 hb0 hb1 A0 c0 bs hc0 (by have := HL.out; omega) (HR.out _ HC1.out))
    have hK := bkt_range sd bk bs hb0 hb1
    obtain ⟨i, hi⟩ : ∃ i, Aside0 (bkt sd bk bs = i) := ⟨_, ⟨rfl⟩⟩
    rw [hi.out] at hK HCc
    have hwf : (Lit.int .i64 i).wf = true := WalkArith.wf_i64 (by omega)
    have HW := Aside0.mk hwf
    clear hwf hK HC HN HH H2 HB2 m0 f0 q0 p0
    go_wp2_with fail
    refine HCc.out.mono ?_
    rintro e w3 ⟨rfl, hb3⟩
    obtain ⟨n, F, own, hX⟩ := (HS.out.below hb3).open_
    have HX := Aside0.mk hX
    have HC3 := Aside0.mk (HC1.out.then_below hb3)
    clear hX hb3 HS HCc
    go_upto_region 8 with (fail)
    obtain ⟨v, hv⟩ : ∃ v, Aside0 ((F (.int .i64 i)).getD (.slice none 0 0) = v) := ⟨_, ⟨rfl⟩⟩
    have HLk := Aside0.mk (fun W' (hb : Below w3.heap.size w3 W') => (HX.out.map.move (hb.block q HX.out.map.lt)).look (int_keyed Try.underlying3) Try.underlying50 (zeroK W') (keyI i HW.out) trivial)
    have HCl := Aside0.mk (fun W' (hb : Below w3.heap.size w3 W') => Clone_calls A0 c0 bs W' (HR.out _ (HC3.out.then_below hb)) hc0 HL.out)
    rw [hv.out] at HLk
    have HBd := Aside0.mk ((Below.refl w3.heap.size w3).drew)
    refine wp_onlyQ fun K hK => ?_
    refine wp_region_held_drew (S := (fun w' => w'.heap[p]? = some (.cells #[.int .i64 sd, .int .i64 bk, .map (some q), .int .i64 (l.length : Int)] 52 (0, 0)))) (by kernel_rfl) ?_ (fun hHeld => ?_)
    · exact HX.out.blk
    refine wpAnyH_take (i := 0) (v := .pointer (some ⟨p, 0, none⟩)) rfl (by kernel_rfl) (by kernel_rfl) (by kernel_rfl) (fun _ _ _ h => h) (Or.inl ⟨by rfl, fun w' hSw => ?_⟩) (by assumption) ?_
    · go_simp
    simp only [Act.put, List.getElem_toArray, List.getElem_cons_zero, List.getElem_cons_succ, List.setIfInBounds_toArray, List.set_cons_zero, List.set_cons_succ]
    refine wpAnyH_take (i := 1) (v := .pointer (some ⟨p, 0, none⟩)) rfl (by kernel_rfl) (by kernel_rfl) (by kernel_rfl) (fun _ _ _ h => h) (Or.inl ⟨by rfl, fun w' hSw => ?_⟩) (by assumption) ?_
    · (have hs := (blk_cell hSw 0).trans rfl; go_simp)
    simp only [Act.put, List.getElem_toArray, List.getElem_cons_zero, List.getElem_cons_succ, List.setIfInBounds_toArray, List.set_cons_zero, List.set_cons_succ]
    refine wpAnyH_take (i := 2) (v := .pointer (some ⟨p, 2, none⟩)) rfl (by kernel_rfl) (by kernel_rfl) (by kernel_rfl) (fun _ _ _ h => h) (Or.inl ⟨by rfl, fun w' hSw => ?_⟩) (by assumption) ?_
    · go_simp
    simp only [Act.put, List.getElem_toArray, List.getElem_cons_zero, List.getElem_cons_succ, List.setIfInBounds_toArray, List.set_cons_zero, List.set_cons_succ]
    refine wpAnyH_take (i := 3) (v := .map (some q)) rfl (by kernel_rfl) (by kernel_rfl) (by kernel_rfl) (fun _ _ _ h => h) (Or.inl ⟨by rfl, fun w' hSw => ?_⟩) (by assumption) ?_
    · (have hs := (blk_cell hSw 2).trans rfl; go_simp)
    simp only [Act.put, List.getElem_toArray, List.getElem_cons_zero, List.getElem_cons_succ, List.setIfInBounds_toArray, List.set_cons_zero, List.set_cons_succ]
    refine wpAnyH_take (i := 4) (v := .int .i64 i) rfl (by kernel_rfl) (by kernel_rfl) (by kernel_rfl) (fun _ _ _ h => h) (Or.inl ⟨by rfl, fun w' hSw => ?_⟩) (by assumption) ?_
    · go_simp
    simp only [Act.put, List.getElem_toArray, List.getElem_cons_zero, List.getElem_cons_succ, List.setIfInBounds_toArray, List.set_cons_zero, List.set_cons_succ]
    refine wpAnyH_take (i := 5) (v := .pointer (some ⟨p, 0, none⟩)) rfl (by kernel_rfl) (by kernel_rfl) (by kernel_rfl) (fun _ _ _ h => h) (Or.inl ⟨by rfl, fun w' hSw => ?_⟩) (by assumption) ?_
    · go_simp
    simp only [Act.put, List.getElem_toArray, List.getElem_cons_zero, List.getElem_cons_succ, List.setIfInBounds_toArray, List.set_cons_zero, List.set_cons_succ]
    refine wpAnyH_take (i := 6) (v := .pointer (some ⟨p, 0, none⟩)) rfl (by kernel_rfl) (by kernel_rfl) (by kernel_rfl) (fun _ _ _ h => h) (Or.inl ⟨by rfl, fun w' hSw => ?_⟩) (by assumption) ?_
    · (have hs := (blk_cell hSw 0).trans rfl; go_simp)
    simp only [Act.put, List.getElem_toArray, List.getElem_cons_zero, List.getElem_cons_succ, List.setIfInBounds_toArray, List.set_cons_zero, List.set_cons_succ]
    refine wpAnyH_take (i := 7) (v := .pointer (some ⟨p, 2, none⟩)) rfl (by kernel_rfl) (by kernel_rfl) (by kernel_rfl) (fun _ _ _ h => h) (Or.inl ⟨by rfl, fun w' hSw => ?_⟩) (by assumption) ?_
    · go_simp
    simp only [Act.put, List.getElem_toArray, List.getElem_cons_zero, List.getElem_cons_succ, List.setIfInBounds_toArray, List.set_cons_zero, List.set_cons_succ]
    refine wpAnyH_take (i := 8) (v := .map (some q)) rfl (by kernel_rfl) (by kernel_rfl) (by kernel_rfl) (fun _ _ _ h => h) (Or.inl ⟨by rfl, fun w' hSw => ?_⟩) (by assumption) ?_
    · (have hs := (blk_cell hSw 2).trans rfl; go_simp)
    simp only [Act.put, List.getElem_toArray, List.getElem_cons_zero, List.getElem_cons_succ, List.setIfInBounds_toArray, List.set_cons_zero, List.set_cons_succ]
    refine wpAnyH_take (i := 9) (v := .int .i64 i) rfl (by kernel_rfl) (by kernel_rfl) (by kernel_rfl) (fun _ _ _ h => h) (Or.inl ⟨by rfl, fun w' hSw => ?_⟩) (by assumption) ?_
    · go_simp
    simp only [Act.put, List.getElem_toArray, List.getElem_cons_zero, List.getElem_cons_succ, List.setIfInBounds_toArray, List.set_cons_zero, List.set_cons_succ]
    refine wpAnyH_take (i := 11) (v := .slice A0 bs.length c0) rfl (by kernel_rfl) (by kernel_rfl) (by kernel_rfl) (fun _ _ _ h => h) (Or.inl ⟨by rfl, fun w' hSw => ?_⟩) (by assumption) ?_
    · go_simp
    simp only [Act.put, List.getElem_toArray, List.getElem_cons_zero, List.getElem_cons_succ, List.setIfInBounds_toArray, List.set_cons_zero, List.set_cons_succ]
    refine wpAnyH_ready (rs := [10, 12]) (by kernel_rfl) (by simp) ?_
    refine AllReadyH.cons (o := _) rfl (fun K1 hK1 => ?_) (AllReadyH.cons (o := _) rfl (fun K1 hK1 => ?_) AllReadyH.nil)
    have hrun := HLk.out _ (HBd.out)
    go_simp
    refine hK1.out _ _ ?_ (fun hHeld => ?_)
    · exact HX.out.blk
    clear hK1 K1 hrun
    try simp only [Act.put, List.getElem_toArray, List.getElem_cons_zero, List.getElem_cons_succ, List.setIfInBounds_toArray, List.set_cons_zero, List.set_cons_succ]
    refine wpAnyH_ready (rs := [12]) (by kernel_rfl) (by simp) ?_
    refine AllReadyH.cons (o := _) rfl (fun K1 hK1 => ?_) AllReadyH.nil
    go_wp2_with fail
    refine (HCl.out _ HBd.out).mono ?_
    rintro e w4 ⟨v2, rfl, hR2, hb4⟩
    obtain ⟨A2, c2, rfl⟩ := Kd.R_slice hR2
    have HB4 := Aside0.mk (HBd.out.trans hb4)
    have HR2 := Aside0.mk hR2
    clear hR2 hb4
    go_wp2_with fail
    refine hK1.out _ _ ?_ (fun hHeld => ?_)
    · exact (HB4.out.block p (blk_lt HX.out.blk)).trans HX.out.blk
    clear hK1 K1
    try simp only [Act.put, List.getElem_toArray, List.getElem_cons_zero, List.getElem_cons_succ, List.setIfInBounds_toArray, List.set_cons_zero, List.set_cons_succ]
    refine wpAnyH_take (i := 13) (v := .agg #[.slice A2 bs.length c2]) rfl (by kernel_rfl) (by kernel_rfl) (by kernel_rfl) (fun _ _ _ h => h) (Or.inl ⟨by rfl, fun w' hSw => ?_⟩) (by assumption) ?_
    · go_simp
    simp only [Act.put, List.getElem_toArray, List.getElem_cons_zero, List.getElem_cons_succ, List.setIfInBounds_toArray, List.set_cons_zero, List.set_cons_succ]
    refine wpAnyH_ready (rs := [14]) (by kernel_rfl) (by simp) ?_
    refine AllReadyH.cons (o := _) rfl (fun K1 hK1 => ?_) AllReadyH.nil
    go_simp
    refine hK1.out _ _ ?_ (fun hHeld => ?_)
    · exact blk_below ((HB4.out.block p (blk_lt HX.out.blk)).trans HX.out.blk) (below_alloc (Below.refl _ w4) _)
    clear hK1 K1
    try simp only [Act.put, List.getElem_toArray, List.getElem_cons_zero, List.getElem_cons_succ, List.setIfInBounds_toArray, List.set_cons_zero, List.set_cons_succ]
    rotate_left 1
    go_wp2_with fail
    refine (HCl.out _ HBd.out).mono ?_
    rintro e w4 ⟨v2, rfl, hR2, hb4⟩
    obtain ⟨A2, c2, rfl⟩ := Kd.R_slice hR2
    have HB4 := Aside0.mk (HBd.out.trans hb4)
    have HR2 := Aside0.mk hR2
    clear hR2 hb4
    go_wp2_with fail
    refine hK1.out _ _ ?_ (fun hHeld => ?_)
    · exact (HB4.out.block p (blk_lt HX.out.blk)).trans HX.out.blk
    clear hK1 K1
    try simp only [Act.put, List.getElem_toArray, List.getElem_cons_zero, List.getElem_cons_succ, List.setIfInBounds_toArray, List.set_cons_zero, List.set_cons_succ]
    refine wpAnyH_take (i := 13) (v := .agg #[.slice A2 bs.length c2]) rfl (by kernel_rfl) (by kernel_rfl) (by kernel_rfl) (fun _ _ _ h => h) (Or.inl ⟨by rfl, fun w' hSw => ?_⟩) (by assumption) ?_
    · go_simp
    simp only [Act.put, List.getElem_toArray, List.getElem_cons_zero, List.getElem_cons_succ, List.setIfInBounds_toArray, List.set_cons_zero, List.set_cons_succ]
    refine wpAnyH_ready (rs := [10, 14]) (by kernel_rfl) (by simp) ?_
    refine AllReadyH.cons (o := _) rfl (fun K1 hK1 => ?_) (AllReadyH.cons (o := _) rfl (fun K1 hK1 => ?_) AllReadyH.nil)
    have hrun := HLk.out _ (HB4.out)
    go_simp
    refine hK1.out _ _ ?_ (fun hHeld => ?_)
    · exact (HB4.out.block p (blk_lt HX.out.blk)).trans HX.out.blk
    clear hK1 K1 hrun
    try simp only [Act.put, List.getElem_toArray, List.getElem_cons_zero, List.getElem_cons_succ, List.setIfInBounds_toArray, List.set_cons_zero, List.set_cons_succ]
    refine wpAnyH_ready (rs := [14]) (by kernel_rfl) (by simp) ?_
    refine AllReadyH.cons (o := _) rfl (fun K1 hK1 => ?_) AllReadyH.nil
    go_simp
    refine hK1.out _ _ ?_ (fun hHeld => ?_)
    · exact blk_below ((HB4.out.block p (blk_lt HX.out.blk)).trans HX.out.blk) (below_alloc (Below.refl _ w4) _)
    clear hK1 K1
    try simp only [Act.put, List.getElem_toArray, List.getElem_cons_zero, List.getElem_cons_succ, List.setIfInBounds_toArray, List.set_cons_zero, List.set_cons_succ]
    rotate_left 1
    go_simp
    refine hK1.out _ _ ?_ (fun hHeld => ?_)
    · exact blk_below ((HB4.out.block p (blk_lt HX.out.blk)).trans HX.out.blk) (below_alloc (Below.refl _ w4) _)
    clear hK1 K1
    try simp only [Act.put, List.getElem_toArray, List.getElem_cons_zero, List.getElem_cons_succ, List.setIfInBounds_toArray, List.set_cons_zero, List.set_cons_succ]
    refine wpAnyH_ready (rs := [10]) (by kernel_rfl) (by simp) ?_
    refine AllReadyH.cons (o := _) rfl (fun K1 hK1 => ?_) AllReadyH.nil
    have hrun := HLk.out _ (HB4.out.trans (below_alloc (Below.refl _ w4) (.cells #[.slice A2 bs.length c2] 66) |>.mono HB4.out.size))
    go_simp
    refine hK1.out _ _ ?_ (fun hHeld => ?_)
    · exact blk_below ((HB4.out.block p (blk_lt HX.out.blk)).trans HX.out.blk) (below_alloc (Below.refl _ w4) _)
    clear hK1 K1 hrun
    try simp only [Act.put, List.getElem_toArray, List.getElem_cons_zero, List.getElem_cons_succ, List.setIfInBounds_toArray, List.set_cons_zero, List.set_cons_succ]
    all_goals
      have HRow := Aside0.mk (put_row HX.out HB4.out i)
      rw [hv.out] at HRow
      have hpl := blk_lt HX.out.blk
      have hql := HX.out.map.lt
      have hap : ∀ k, w3.heap.size ≤ k → (((S k ∨ w.heap.size ≤ k) ∨ w3.heap.size ≤ k) ∧ k ≠ p ∧ k ≠ q ∧ own2 w3.heap.size own i k = i) ∧ some k ≠ v.ownBlock := fun k hk =>
        ⟨⟨.inr hk, by omega, by omega, by unfold own2; rw [if_neg (by omega)]⟩, fun e => by
          have h5 := put_apart HX.out i k (by rw [hv.out]; exact e.symm)
          omega⟩
      have HAP := Aside0.mk hap
      have hM : kB.M w4 0 (fun k => w3.heap.size ≤ k) bs [.slice A2 bs.length c2] := ⟨_, rfl, Kd.R_lower (Kd.R_mono (Kd.R_bound HR2.out) (fun k hk => hk.2.1)) (Nat.zero_le _)⟩
      have HM := Aside0.mk hM
      have HLen := Aside0.mk (show ((rowsOf sd bk l i).length + 1) * 24 ≤ 140737488355328 by have := rows_len sd bk l i; omega)
      have h34 := HB4.out.size
      clear hap hM hpl hql
      refine wpAnyH_ready (rs := [15]) (by kernel_rfl) (by simp) ?_
      refine AllReadyH.cons (o := _) rfl (fun K1 hK1 => ?_) AllReadyH.nil
      refine Kd.R_append_step kB (w0 := w4) 0 (by rfl) (.tmp 34) (.tmp 38) 64 66 (.agg #[.slice none 0 0]) 24 (by rfl) Try.underlying64 infoK (by rfl) (by decide) (by decide) v (rowsOf sd bk l i) bs [.slice A2 bs.length c2] _ (fun k => w3.heap.size ≤ k) (by rfl) (by rfl) HM.out HAP.out (fun k hk => (HAP.out k (Nat.le_trans h34 hk)).1) HRow.out (Below.refl _ _) (Nat.zero_le _) HLen.out ?_
      intro v1 w5 hR5 _ hg5 _
      have HR5 := Aside0.mk hR5
      have HG5 := Aside0.mk (show w4.grownBy w5 ((F (.int .i64 i)).getD (.slice none 0 0)).ownBlock by rw [hv.out]; exact hg5)
      clear hR5 hg5 HRow HM HAP
      have h5 := put_blk HX.out HB4.out HG5.out
      obtain ⟨w6, hrun, hM6, hg6⟩ := h5.2.put (int_keyed Try.underlying3) Try.underlying50 (v := v1) (by have := HX.out.le; simp only [maxLen]; omega) (keyI i HW.out) trivial
      have HP5 := Aside0.mk h5.1
      have HP6 := Aside0.mk ((hg6.block p (blk_lt h5.1) (fun e => HX.out.ne (Option.some.inj e).symm)).trans h5.1)
      have HM6 := Aside0.mk hM6
      have HG6 := Aside0.mk hg6
      clear h5 hM6 hg6
      refine hK1.out _ _ ?_ (fun hHeld => ?_)
      · exact HP5.out
      clear hK1 K1
      try simp only [Act.put, List.getElem_toArray, List.getElem_cons_zero, List.getElem_cons_succ, List.setIfInBounds_toArray, List.set_cons_zero, List.set_cons_succ]
      refine wpAnyH_ready (rs := [16]) (by kernel_rfl) (by simp) ?_
      refine AllReadyH.cons (o := _) rfl (fun K1 hK1 => ?_) AllReadyH.nil
      go_simp
      refine hK1.out _ _ ?_ (fun hHeld => ?_)
      · exact HP6.out
      clear hK1 K1
      try simp only [Act.put, List.getElem_toArray, List.getElem_cons_zero, List.getElem_cons_succ, List.setIfInBounds_toArray, List.set_cons_zero, List.set_cons_succ]
      refine wpAnyH_done (by kernel_rfl) ?_ _
      show K _ _
      refine hK _ _ ?_
      clear hK K
      have c3 := (blk_cell HP6.out 3).trans rfl
      have f3 := blk_frozen HP6.out 3
      clear hrun
      go_wp2
      go_ret2
      have e := put_end HX.out HU.out hi.out HB4.out HG5.out HR5.out HM6.out HG6.out
      have e2 : (((l ++ [bs]).length : Nat) : Int) = (l.length : Int) + 1 := by simp
      rw [e2] at e
      exact ⟨rfl, e.1.mono (fun k hk => hk.elim id (fun h => .inr (Nat.le_trans HC3.out.size h))), HC3.out.trans e.2 (fun k hk => hk)⟩
end Go.Proofs.Ytapnegdigghomaa.P
