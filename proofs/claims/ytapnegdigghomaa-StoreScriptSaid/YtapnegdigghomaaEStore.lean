/- store.Store: what a store is in memory; none, bucket, Len, New. -/
import Derived.Test.YtapnegdigghomaaKM
import Derived.Test.YtapnegdigghomaaKC
import Derived.Test.YtapnegdigghomaaKH
import Derived.Test.YtapnegdigghomaaEHash
import Derived.Test.YtapnegdigghomaaKU
import Derived.OpenShut
import Derived.Deep.QuietTactic
import Derived.BigQuiet
namespace Go.Proofs.Ytapnegdigghomaa.P
open Go.RowKit Go.Proofs.YtapnegdigghomaaW.PrintWords Go.Proofs.YtapnegdigghomaaW.PrintLast Go.Proofs.YtapnegdigghomaaW.PrintMore Go.Maps
set_option linter.unusedVariables false
set_option linter.unusedSimpArgs false
abbrev kB : Kd (List Int) := Kd.slice 5 (Kd.int .u8)
def bkt (sd bk : Int) (b : List Int) : Int := hashI sd b % bk
def rowsOf (sd bk : Int) (l : List (List Int)) (i : Int) : List (List Int) := l.filter (fun b => bkt sd bk b == i)
/-- The map of a store: bucket i's row holds those of l that have it; no two rows lie in one block. -/
def StM (w : World) (p : Nat) (sd bk : Int) (S : Nat → Prop) (l : List (List Int)) : Option Nat → Prop
  | none => l = []
  | some q => S q ∧ q ≠ p ∧ ∃ (n : Nat) (F : Lit → Option Value) (own : Nat → Int), n ≤ l.length ∧ MapF w Try.prog 3 q n F ∧
      ∀ i : Int, kB.R 66 w 0 (fun k => S k ∧ k ≠ p ∧ k ≠ q ∧ own k = i) ((F (.int .i64 i)).getD (.slice none 0 0)) (rowsOf sd bk l i)
/-- Block p is a store that keeps l, put in this order; its blocks are among S; its map is m. -/
def StOm (w : World) (p : Nat) (sd bk : Int) (S : Nat → Prop) (l : List (List Int)) (m : Option Nat) : Prop :=
  w.heap[p]? = some (.cells #[.int .i64 sd, .int .i64 bk, .map m, .int .i64 (l.length : Int)] 52 (0, 0)) ∧ S p ∧ (∀ x ∈ l, isU8 x = true) ∧ StM w p sd bk S l m
def StO (w : World) (p : Nat) (sd bk : Int) (S : Nat → Prop) (l : List (List Int)) : Prop := ∃ m : Option Nat, StOm w p sd bk S l m
section
variable {w w' : World} {p : Nat} {sd bk : Int} {S S2 : Nat → Prop} {l : List (List Int)} {m : Option Nat}
theorem StOm.move (h : StOm w p sd bk S l m) (hm : ∀ k, S k → w'.heap[k]? = w.heap[k]?) : StOm w' p sd bk S l m := by
  obtain ⟨h1, h2, hu, h3⟩ := h
  refine ⟨(hm p h2).trans h1, h2, hu, ?_⟩
  cases m with
  | none => exact h3
  | some q =>
    obtain ⟨h4, h5, n, F, own, h6, h7, h8⟩ := h3
    exact ⟨h4, h5, n, F, own, h6, h7.move (hm q h4), fun i => Kd.R_move (h8 i) (fun k hk => hm k hk.1)⟩
theorem StOm.mono (h : StOm w p sd bk S l m) (hm : ∀ k, S k → S2 k) : StOm w p sd bk S2 l m := by
  obtain ⟨h1, h2, hu, h3⟩ := h
  refine ⟨h1, hm p h2, hu, ?_⟩
  cases m with
  | none => exact h3
  | some q =>
    obtain ⟨h4, h5, n, F, own, h6, h7, h8⟩ := h3
    exact ⟨hm q h4, h5, n, F, own, h6, h7, fun i => Kd.R_mono (h8 i) (fun k hk => ⟨hm k hk.1, hk.2⟩)⟩
theorem StOm.bound (h : StOm w p sd bk S l m) : StOm w p sd bk (fun k => S k ∧ k < w.heap.size) l m := by
  obtain ⟨h1, h2, hu, h3⟩ := h
  refine ⟨h1, ⟨h2, blk_lt h1⟩, hu, ?_⟩
  cases m with
  | none => exact h3
  | some q =>
    obtain ⟨h4, h5, n, F, own, h6, h7, h8⟩ := h3
    exact ⟨⟨h4, h7.lt⟩, h5, n, F, own, h6, h7, fun i => Kd.R_mono (Kd.R_bound (h8 i)) (fun k hk => ⟨⟨hk.1.1, hk.2.2.1⟩, hk.1.2⟩)⟩
theorem StOm.step (h : StOm w p sd bk S l m) (hm : ∀ k, S k → k < w.heap.size → w'.heap[k]? = w.heap[k]?) : StOm w' p sd bk S l m :=
  (h.bound.move (fun k hk => hm k hk.1 hk.2)).mono (fun _ hk => hk.1)
theorem StOm.chg (h : StOm w p sd bk S l m) (hc : Chg S2 w w') (hd : ∀ k, S k → ¬ S2 k) : StOm w' p sd bk S l m := h.step (fun k hk hl => hc.block k hl (hd k hk))
theorem StOm.below (h : StOm w p sd bk S l m) (hb : Below w.heap.size w w') : StOm w' p sd bk S l m := h.step (fun k _ hl => hb.block k hl)
theorem StOm.drew (h : StOm w p sd bk S l m) : StOm w.drew p sd bk S l m := h.below (Below.refl _ _).drew
theorem StOm.lt (h : StOm w p sd bk S l m) : p < w.heap.size := blk_lt h.1
theorem StOm.mem (h : StOm w p sd bk S l m) : S p := h.2.1
theorem StOm.u8 (h : StOm w p sd bk S l m) : ∀ x ∈ l, isU8 x = true := h.2.2.1
theorem StOm.c0 (h : StOm w p sd bk S l m) : w.cell? ⟨p, 0, none⟩ = some (.int .i64 sd) := (blk_cell h.1 0).trans rfl
theorem StOm.c1 (h : StOm w p sd bk S l m) : w.cell? ⟨p, 1, none⟩ = some (.int .i64 bk) := (blk_cell h.1 1).trans rfl
theorem StOm.c2 (h : StOm w p sd bk S l m) : w.cell? ⟨p, 2, none⟩ = some (.map m) := (blk_cell h.1 2).trans rfl
theorem StOm.c3 (h : StOm w p sd bk S l m) : w.cell? ⟨p, 3, none⟩ = some (.int .i64 (l.length : Int)) := (blk_cell h.1 3).trans rfl
theorem StOm.fr (h : StOm w p sd bk S l m) (j : Nat) : w.frozen? ⟨p, j, none⟩ = false := blk_frozen h.1 j
theorem StO.chg (h : StO w p sd bk S l) (hc : Chg S2 w w') (hd : ∀ k, S k → ¬ S2 k) : StO w' p sd bk S l := by
  obtain ⟨m, h⟩ := h
  exact ⟨m, h.chg hc hd⟩
theorem StO.mono (h : StO w p sd bk S l) (hm : ∀ k, S k → S2 k) : StO w p sd bk S2 l := by
  obtain ⟨m, h⟩ := h
  exact ⟨m, h.mono hm⟩
theorem StO.bound (h : StO w p sd bk S l) : StO w p sd bk (fun k => S k ∧ k < w.heap.size) l := by
  obtain ⟨m, h⟩ := h
  exact ⟨m, h.bound⟩
theorem StO.below (h : StO w p sd bk S l) (hb : Below w.heap.size w w') : StO w' p sd bk S l := by
  obtain ⟨m, h⟩ := h
  exact ⟨m, h.below hb⟩
/-- A store that was just made. -/
theorem StO.made (w : World) (sd bk : Int) : StO (w.alloc (.cells #[.int .i64 sd, .int .i64 bk, .map none, .int .i64 0] 52)) w.heap.size sd bk (fun k => k = w.heap.size) [] :=
  ⟨none, blk_new w _, rfl, (fun _ h => by cases h), rfl⟩
theorem zeroK (w : World) : (zeroValue 64).run Try.prog w = .ok (.slice none 0 0) w := by kernel_rfl
theorem keyI (i : Int) (hi : (Lit.int .i64 i).wf = true) : keyOf Try.prog 3 (.int .i64 i) = some (.int .i64 i) := keyOf_int_mk Try.underlying3 hi
/-- What the map tells at a bucket's number. -/
theorem StOm.look (h : StOm w p sd bk S l m) (i : Int) (hi : (Lit.int .i64 i).wf = true) : ∃ v, (Instr.lookup 50 (.map m) (.int .i64 i) false).run Try.prog w = .ok v w ∧ kB.R 66 w 0 S v (rowsOf sd bk l i) := by
  obtain ⟨h1, h2, hu, h3⟩ := h
  cases m with
  | none =>
    have h3 : l = [] := h3
    subst h3
    exact ⟨_, Maps.look_nil false (int_keyed Try.underlying3) Try.underlying50 (zeroK w) (keyI i hi), Kd.R_nil _ _ _ _ _⟩
  | some q =>
    obtain ⟨h4, h5, n, F, own, h6, h7, h8⟩ := h3
    exact ⟨_, h7.look (int_keyed Try.underlying3) Try.underlying50 (zeroK w) (keyI i hi) trivial, Kd.R_mono (h8 i) (fun k hk => hk.1)⟩
end
theorem none_no (p : Nat) (bk : Int) (w : World) (h : w.cell? ⟨p, 1, none⟩ = some (.int .i64 bk)) (hb : bk ≠ 0) :
    Calls Try.prog 33 #[.pointer (some ⟨p, 0, none⟩)] w fun e w' => e = .returned (.bool false) ∧ w' = w := by
  have e1 : (bk == 0) = false := beq_eq_false_iff_ne.2 hb
  go_enter Try.func33, Try.ntmps33
  go_wp2
  go_ret
  exact ⟨rfl, rfl⟩
theorem none_zero (p : Nat) (w : World) (h : w.cell? ⟨p, 1, none⟩ = some (.int .i64 0)) :
    Calls Try.prog 33 #[.pointer (some ⟨p, 0, none⟩)] w fun e w' => e = .returned (.bool true) ∧ w' = w := by
  go_enter Try.func33, Try.ntmps33
  go_wp2
  go_ret
  exact ⟨rfl, rfl⟩
theorem none_nil (w : World) :
    Calls Try.prog 33 #[.pointer none] w fun e w' => e = .returned (.bool true) ∧ w' = w := by
  go_enter Try.func33, Try.ntmps33
  go_wp2
  go_ret
  exact ⟨rfl, rfl⟩
theorem Len_calls (p : Nat) (sd bk : Int) (S : Nat → Prop) (l : List (List Int)) (w : World) (h : StO w p sd bk S l) (hb : bk ≠ 0) :
    Calls Try.prog 26 #[.pointer (some ⟨p, 0, none⟩)] w fun e w' => e = .returned (.int .i64 (l.length : Int)) ∧ w' = w := by
  obtain ⟨m, h⟩ := h
  have q1 := h.c1
  have q3 := h.c3
  clear h
  go_enter Try.func26, Try.ntmps26
  go_wp2_with fail
  refine (none_no p bk w q1 hb).mono ?_
  rintro e w1 ⟨rfl, rfl⟩
  go_wp2
  go_ret
  exact ⟨rfl, rfl⟩
theorem u64_of_wf {n : Int} (h : (Lit.int .u64 n).wf = true) : 0 ≤ n ∧ n ≤ 18446744073709551615 := by
  simp [Lit.wf, IntKind.min, IntKind.max, IntKind.signed, IntKind.bits] at h
  omega
theorem hashI_range (sd : Int) (l : List Int) : 0 ≤ hashI sd l ∧ hashI sd l ≤ 18446744073709551615 := by
  have h0 : ∀ (l : List Int) (h : Int), (0 ≤ h ∧ h ≤ 18446744073709551615) → 0 ≤ l.foldl hstep h ∧ l.foldl hstep h ≤ 18446744073709551615 := by
    intro l
    induction l with
    | nil => exact fun h hh => hh
    | cons c l ih =>
      intro h _
      refine ih _ ?_
      unfold hstep
      simp only [IntKind.wrap_u64]
      omega
  exact h0 l _ (u64_of_wf (wf_bits _ _ _ _))
theorem bkt_range (sd bk : Int) (b : List Int) (h0 : 1 ≤ bk) (h1 : bk ≤ 65536) : 0 ≤ bkt sd bk b ∧ bkt sd bk b < bk := by
  unfold bkt
  exact ⟨Int.emod_nonneg _ (by omega), Int.emod_lt_of_pos _ (by omega)⟩
set_option maxHeartbeats 1000000 in
set_option maxRecDepth 100000 in
theorem bucket_calls (p : Nat) (sd bk : Int) (w : World) (h0 : w.cell? ⟨p, 0, none⟩ = some (.int .i64 sd)) (h1 : w.cell? ⟨p, 1, none⟩ = some (.int .i64 bk)) (hb0 : 1 ≤ bk) (hb1 : bk ≤ 65536)
    (A0 : Option Addr) (c0 : Nat) (bs : List Int) (hc0 : bs.length ≤ c0) (hl : bs.length ≤ 140737488355328) (hr : Kd.C (Kd.int .u8) w A0 bs.length bs) :
    Calls Try.prog 35 #[.pointer (some ⟨p, 0, none⟩), .slice A0 bs.length c0] w fun e w' => e = .returned (.int .i64 (bkt sd bk bs)) ∧ Below w.heap.size w w' := by
  have hp : p < w.heap.size := World.block_lt_of_cell? w _ h0
  have hR := hashI_range sd bs
  have hK := bkt_range sd bk bs hb0 hb1
  have e1 : IntKind.u64.wrap bk = bk := by simp only [IntKind.wrap_u64]; omega
  have e2 : IntKind.i64.wrap (hashI sd bs % bk) = hashI sd bs % bk := IntWalk.i64_in _ (by unfold bkt at hK; omega)
  have HC := Aside0.mk (fun w' (hb : Below w.heap.size w w') => Hash_calls sd A0 c0 bs hc0 hl w' (Kd.C_below hr hb))
  have HK := Aside0.mk hK
  have H0 := Aside0.mk h0
  have H1 := Aside0.mk h1
  clear hc0 hl hr hK
  go_enter Try.func35, Try.ntmps35
  go_wp2
  refine wp_onlyQ fun K hK => ?_
  refine wp_region_held_drew (S := (fun w' => (w'.cell? ⟨p, 0, none⟩ = some (.int .i64 sd) ∧ w'.cell? ⟨p, 1, none⟩ = some (.int .i64 bk)) ∧ Below w.heap.size w w')) (by kernel_rfl) ?_ (fun hHeld => ?_)
  · exact ⟨⟨H0.out, H1.out⟩, (Below.refl _ _).drew⟩
  refine wpAnyH_take (i := 0) (v := .pointer (some ⟨p, 0, none⟩)) rfl (by kernel_rfl) (by kernel_rfl) (by kernel_rfl) (fun _ _ _ h => h) (Or.inl ⟨by rfl, fun w' hSw => ?_⟩) (by assumption) ?_
  · go_simp
  simp only [Act.put, List.getElem_toArray, List.getElem_cons_zero, List.getElem_cons_succ, List.setIfInBounds_toArray, List.set_cons_zero, List.set_cons_succ]
  refine wpAnyH_take (i := 1) (v := .pointer (some ⟨p, 0, none⟩)) rfl (by kernel_rfl) (by kernel_rfl) (by kernel_rfl) (fun _ _ _ h => h) (Or.inl ⟨by rfl, fun w' hSw => ?_⟩) (by assumption) ?_
  · (obtain ⟨⟨hs1, hs2⟩, hs3⟩ := hSw; go_simp)
  simp only [Act.put, List.getElem_toArray, List.getElem_cons_zero, List.getElem_cons_succ, List.setIfInBounds_toArray, List.set_cons_zero, List.set_cons_succ]
  refine wpAnyH_take (i := 2) (v := .pointer (some ⟨p, 0, none⟩)) rfl (by kernel_rfl) (by kernel_rfl) (by kernel_rfl) (fun _ _ _ h => h) (Or.inl ⟨by rfl, fun w' hSw => ?_⟩) (by assumption) ?_
  · go_simp
  simp only [Act.put, List.getElem_toArray, List.getElem_cons_zero, List.getElem_cons_succ, List.setIfInBounds_toArray, List.set_cons_zero, List.set_cons_succ]
  refine wpAnyH_take (i := 3) (v := .int .i64 sd) rfl (by kernel_rfl) (by kernel_rfl) (by kernel_rfl) (fun _ _ _ h => h) (Or.inl ⟨by rfl, fun w' hSw => ?_⟩) (by assumption) ?_
  · (obtain ⟨⟨hs1, hs2⟩, hs3⟩ := hSw; go_simp)
  simp only [Act.put, List.getElem_toArray, List.getElem_cons_zero, List.getElem_cons_succ, List.setIfInBounds_toArray, List.set_cons_zero, List.set_cons_succ]
  refine wpAnyH_take (i := 4) (v := .slice A0 bs.length c0) rfl (by kernel_rfl) (by kernel_rfl) (by kernel_rfl) (fun _ _ _ h => h) (Or.inl ⟨by rfl, fun w' hSw => ?_⟩) (by assumption) ?_
  · go_simp
  simp only [Act.put, List.getElem_toArray, List.getElem_cons_zero, List.getElem_cons_succ, List.setIfInBounds_toArray, List.set_cons_zero, List.set_cons_succ]
  refine wpAnyH_take (i := 6) (v := .pointer (some ⟨p, 0, none⟩)) rfl (by kernel_rfl) (by kernel_rfl) (by kernel_rfl) (fun _ _ _ h => h) (Or.inl ⟨by rfl, fun w' hSw => ?_⟩) (by assumption) ?_
  · go_simp
  simp only [Act.put, List.getElem_toArray, List.getElem_cons_zero, List.getElem_cons_succ, List.setIfInBounds_toArray, List.set_cons_zero, List.set_cons_succ]
  refine wpAnyH_take (i := 7) (v := .pointer (some ⟨p, 0, none⟩)) rfl (by kernel_rfl) (by kernel_rfl) (by kernel_rfl) (fun _ _ _ h => h) (Or.inl ⟨by rfl, fun w' hSw => ?_⟩) (by assumption) ?_
  · (obtain ⟨⟨hs1, hs2⟩, hs3⟩ := hSw; go_simp)
  simp only [Act.put, List.getElem_toArray, List.getElem_cons_zero, List.getElem_cons_succ, List.setIfInBounds_toArray, List.set_cons_zero, List.set_cons_succ]
  refine wpAnyH_take (i := 8) (v := .pointer (some ⟨p, 1, none⟩)) rfl (by kernel_rfl) (by kernel_rfl) (by kernel_rfl) (fun _ _ _ h => h) (Or.inl ⟨by rfl, fun w' hSw => ?_⟩) (by assumption) ?_
  · go_simp
  simp only [Act.put, List.getElem_toArray, List.getElem_cons_zero, List.getElem_cons_succ, List.setIfInBounds_toArray, List.set_cons_zero, List.set_cons_succ]
  refine wpAnyH_take (i := 9) (v := .int .i64 bk) rfl (by kernel_rfl) (by kernel_rfl) (by kernel_rfl) (fun _ _ _ h => h) (Or.inl ⟨by rfl, fun w' hSw => ?_⟩) (by assumption) ?_
  · (obtain ⟨⟨hs1, hs2⟩, hs3⟩ := hSw; go_simp)
  simp only [Act.put, List.getElem_toArray, List.getElem_cons_zero, List.getElem_cons_succ, List.setIfInBounds_toArray, List.set_cons_zero, List.set_cons_succ]
  refine wpAnyH_take (i := 10) (v := .int .u64 bk) rfl (by kernel_rfl) (by kernel_rfl) (by kernel_rfl) (fun _ _ _ h => h) (Or.inl ⟨by rfl, fun w' hSw => ?_⟩) (by assumption) ?_
  · go_simp
  simp only [Act.put, List.getElem_toArray, List.getElem_cons_zero, List.getElem_cons_succ, List.setIfInBounds_toArray, List.set_cons_zero, List.set_cons_succ]
  refine wpAnyH_ready (rs := [5]) (by kernel_rfl) (by simp) ?_
  refine AllReadyH.cons (o := _) rfl (fun K1 hK1 => ?_) AllReadyH.nil
  go_wp2_with (go_at_call 13; (refine (HC.out _ hHeld.2).mono ?_); rintro e w2 ⟨rfl, hb2⟩)
  refine hK1.out _ _ ?_ (fun hHeld => ?_)
  · (obtain ⟨⟨hs1, hs2⟩, hs3⟩ := hHeld; exact ⟨⟨(hb2.cell (p := ⟨p, 0, none⟩) (Nat.lt_of_lt_of_le hp hs3.size)).trans hs1, (hb2.cell (p := ⟨p, 1, none⟩) (Nat.lt_of_lt_of_le hp hs3.size)).trans hs2⟩, hs3.trans (hb2.mono hs3.size)⟩)
  clear hK1 K1
  try simp only [Act.put, List.getElem_toArray, List.getElem_cons_zero, List.getElem_cons_succ, List.setIfInBounds_toArray, List.set_cons_zero, List.set_cons_succ]
  refine wpAnyH_take (i := 11) (v := .int .u64 (hashI sd bs % bk)) rfl (by kernel_rfl) (by kernel_rfl) (by kernel_rfl) (fun _ _ _ h => h) (Or.inl ⟨by rfl, fun w' hSw => ?_⟩) (by assumption) ?_
  · (have z1 : ¬ bk = 0 := (by omega); have z2 := Int.tmod_eq_emod_of_nonneg (b := bk) hR.1; go_simp)
  simp only [Act.put, List.getElem_toArray, List.getElem_cons_zero, List.getElem_cons_succ, List.setIfInBounds_toArray, List.set_cons_zero, List.set_cons_succ]
  refine wpAnyH_take (i := 12) (v := .int .i64 (hashI sd bs % bk)) rfl (by kernel_rfl) (by kernel_rfl) (by kernel_rfl) (fun _ _ _ h => h) (Or.inl ⟨by rfl, fun w' hSw => ?_⟩) (by assumption) ?_
  · go_simp
  simp only [Act.put, List.getElem_toArray, List.getElem_cons_zero, List.getElem_cons_succ, List.setIfInBounds_toArray, List.set_cons_zero, List.set_cons_succ]
  refine wpAnyH_ready (rs := [13]) (by kernel_rfl) (by simp) ?_
  refine AllReadyH.cons (o := _) rfl (fun K1 hK1 => ?_) AllReadyH.nil
  go_simp
  refine hK1.out _ _ ?_ (fun hHeld => ?_)
  · exact hHeld
  clear hK1 K1
  try simp only [Act.put, List.getElem_toArray, List.getElem_cons_zero, List.getElem_cons_succ, List.setIfInBounds_toArray, List.set_cons_zero, List.set_cons_succ]
  refine wpAnyH_done (by kernel_rfl) ?_ _
  show K _ _
  refine hK _ _ ?_
  clear hK K
  go_wp2
  go_ret
  exact ⟨rfl, hHeld.2⟩
end Go.Proofs.Ytapnegdigghomaa.P
