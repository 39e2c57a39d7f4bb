/- names.Table: Add. -/
import Derived.Test.YtfnonbbakkcoaaaETable
import Derived.Test.YtfnonbbakkcoaaaECheck03
import Derived.Deep.DrawnRows
namespace Go.Proofs.Ytfnonbbakkcoaaa.P
open Go.RowKit Go.Proofs.YtfnonbbakkcoaaaW.PrintWords Go.Proofs.YtfnonbbakkcoaaaW.PrintLast Go.Proofs.YtfnonbbakkcoaaaW.PrintMore Go.Maps
set_option linter.unusedVariables false
set_option linter.unusedSimpArgs false
attribute [local go_sem ↓] Go.wp_at_zero Go.wp_at_succ
set_option maxRecDepth 100000 in
set_option maxHeartbeats 1000000 in
theorem Add_name (p : Nat) (S : Nat → Prop) (l : List ByteArray) (s : ByteArray) (hs : s.size ≤ 140737488351232) (hb : nameB s = false) (w : World) (h : TbO w p S l) :
    Calls Try.prog 12 #[.pointer (some ⟨p, 0, none⟩), .string s] w fun e w' => e = .returned (.tuple #[.int .i64 0, .int .i64 7]) ∧ Below w.heap.size w w' := by
  obtain ⟨q, n, F, v, h⟩ := h
  have q1 := h.c1
  have hlk := h.look s (by simp only [maxLen]; omega)
  have HN := Aside0.mk (none_no p q w q1)
  have HC := Aside0.mk (fun w' => Check_calls s w' hs)
  rw [hb] at HC
  clear h hb
  cases hn : nidx l s with
  | some i =>
    rw [hn] at hlk
    have hlk2 : (Instr.lookup 42 (.map (some q)) (.string s) true).run Try.prog w = .ok (.tuple #[.agg #[.int .i64 (i : Int)], .bool true]) w := hlk
    clear hlk
    clear hn
    go_enter Try.func12, Try.ntmps12
    go_wp2_with fail
    refine HN.out.mono ?_
    rintro e w1 ⟨rfl, rfl⟩
    go_wp2_with (go_at_call 14; refine (HC.out _).mono ?_; rintro e w2 ⟨rfl, hd⟩; simp only [errN, if_true, if_false, Bool.false_eq_true])
    go_ret2
    exact ⟨rfl, by first | exact (below_alloc (Below.refl _ _) _).trans (hd.below.mono (by simp)) | (repeat (first | exact Below.refl _ _ | apply below_alloc | apply below_drew1 | apply pw_below_drewN))⟩
  | none =>
    rw [hn] at hlk
    have hlk2 : (Instr.lookup 42 (.map (some q)) (.string s) true).run Try.prog w = .ok (.tuple #[.agg #[.int .i64 0], .bool false]) w := hlk
    clear hlk
    clear hn
    go_enter Try.func12, Try.ntmps12
    go_wp2_with fail
    refine HN.out.mono ?_
    rintro e w1 ⟨rfl, rfl⟩
    go_wp2_with (go_at_call 14; refine (HC.out _).mono ?_; rintro e w2 ⟨rfl, hd⟩; simp only [errN, if_true, if_false, Bool.false_eq_true])
    go_ret2
    exact ⟨rfl, by first | exact (below_alloc (Below.refl _ _) _).trans (hd.below.mono (by simp)) | (repeat (first | exact Below.refl _ _ | apply below_alloc | apply below_drew1 | apply pw_below_drewN))⟩
set_option maxRecDepth 100000 in
set_option maxHeartbeats 1000000 in
theorem Add_has (p : Nat) (S : Nat → Prop) (l : List ByteArray) (s : ByteArray) (hs : s.size ≤ 140737488351232) (hb : nameB s = true) (i : Nat) (hn : nidx l s = some i) (w : World) (h : TbO w p S l) :
    Calls Try.prog 12 #[.pointer (some ⟨p, 0, none⟩), .string s] w fun e w' => e = .returned (.tuple #[.int .i64 0, .int .i64 10]) ∧ Below w.heap.size w w' := by
  obtain ⟨q, n, F, v, h⟩ := h
  have q1 := h.c1
  have hlk := h.look s (by simp only [maxLen]; omega)
  have HN := Aside0.mk (none_no p q w q1)
  have HC := Aside0.mk (fun w' => Check_calls s w' hs)
  rw [hb] at HC
  clear h hb
  rw [hn] at hlk
  have hlk2 : (Instr.lookup 42 (.map (some q)) (.string s) true).run Try.prog w = .ok (.tuple #[.agg #[.int .i64 (i : Int)], .bool true]) w := hlk
  clear hlk
  clear hn
  go_enter Try.func12, Try.ntmps12
  go_wp2_with fail
  refine HN.out.mono ?_
  rintro e w1 ⟨rfl, rfl⟩
  go_wp2_with (go_at_call 14; refine (HC.out _).mono ?_; rintro e w2 ⟨rfl, hd⟩; simp only [errN, if_true, if_false, Bool.false_eq_true])
  go_ret2
  exact ⟨rfl, by first | exact (below_alloc (Below.refl _ _) _).trans (hd.below.mono (by simp)) | (repeat (first | exact Below.refl _ _ | apply below_alloc | apply below_drew1 | apply pw_below_drewN))⟩
theorem nidx_snoc {l : List ByteArray} {s : ByteArray} (hn : nidx l s = none) (x : ByteArray) : nidx (l ++ [s]) x = if x.data.toList = s.data.toList then some l.length else nidx l x := by
  unfold nidx at hn ⊢
  rw [List.findIdx?_append]
  by_cases c : x.data.toList = s.data.toList
  · rw [if_pos c, c, hn]
    simp
  · rw [if_neg c]
    have e : ([s].findIdx? fun y => y.data.toList == x.data.toList) = none := by
      simp only [List.findIdx?_eq_none_iff, List.mem_singleton]
      rintro y rfl
      exact beq_eq_false_iff_ne.2 (fun h => c h.symm)
    rw [e]
    cases (l.findIdx? fun y => y.data.toList == x.data.toList) <;> rfl
theorem infoS : (Try.prog.info? 9).map (fun i => (i.zero, i.size, i.bytes)) = some (some (.string ⟨#[]⟩), 1, 16) := by kernel_rfl
set_option maxRecDepth 100000 in
set_option maxHeartbeats 2000000 in
theorem Add_new (p : Nat) (S : Nat → Prop) (l : List ByteArray) (s : ByteArray) (hs : s.size ≤ 140737488351232) (hb : nameB s = true) (hn : nidx l s = none) (hl : l.length < 5000) (w : World) (h : TbO w p S l) :
    Calls Try.prog 12 #[.pointer (some ⟨p, 0, none⟩), .string s] w fun e w' => e = .returned (.tuple #[.int .i64 (l.length : Int), .int .i64 0]) ∧ TbO w' p (fun k => S k ∨ w.heap.size ≤ k) (l ++ [s]) ∧ Chg S w w' := by
  obtain ⟨q, n, F, v, h⟩ := h
  obtain ⟨A, c, rfl⟩ := Kd.R_slice h.row
  have q1 := h.c1
  have hlk := h.look s (by simp only [maxLen]; omega)
  have HN := Aside0.mk (none_no p q w q1)
  have HC := Aside0.mk (fun w' => Check_calls s w' hs)
  rw [hb] at HC
  rw [hn] at hlk
  have hlk2 : (Instr.lookup 42 (.map (some q)) (.string s) true).run Try.prog w = .ok (.tuple #[.agg #[.int .i64 0], .bool false]) w := hlk
  have d1 : decide (5000 ≤ (l.length : Int)) = false := decide_eq_false (by omega)
  have HX := Aside0.mk h
  have HNi := Aside0.mk hn
  clear hlk h hb hn
  go_enter Try.func12, Try.ntmps12
  go_wp2_with fail
  refine HN.out.mono ?_
  rintro e w1 ⟨rfl, rfl⟩
  go_wp2_with fail
  refine (HC.out _).mono ?_
  rintro e w2 ⟨rfl, hd⟩
  have HB2 := Aside0.mk ((below_alloc (Below.refl w1.heap.size w1) (.cells #[.int .i64 0] 51)).trans (hd.below.mono (by simp)))
  have hx2 := HX.out.step (fun k _ hk => HB2.out.block k hk)
  have HX2 := Aside0.mk hx2
  have r0 := hx2.c0
  have r1 := hx2.c1
  simp only [errN, if_true]
  clear hd hx2 q1 hlk2
  go_upto_region 10 with (fail)
  have HXd := Aside0.mk (HX2.out.step (w' := w2.drew) (fun k _ _ => rfl))
  obtain ⟨w3, hput, hM3, hg3⟩ := HXd.out.map.put (string_keyed Try.underlying9) Try.underlying42 (v := placeV l.length) (by have := HX2.out.le; simp only [maxLen]; omega) (keyS s (by simp only [maxLen]; omega)) trivial
  unfold placeV at hput
  have HP2 := Aside0.mk HX2.out.blk
  have HM3 := Aside0.mk hM3
  have HG3 := Aside0.mk hg3
  have HP3 := Aside0.mk ((hg3.block p (blk_lt HXd.out.blk) (fun e => HX2.out.ne (Option.some.inj e).symm)).trans HXd.out.blk)
  have HR3 := Aside0.mk (Kd.R_grown HXd.out.row hg3 (fun k hk e => hk.2.2 (Option.some.inj e)))
  have HC3 := Aside0.mk (((Chg.of_below S HB2.out).drew).grown hg3 (fun k hk => .inl (by cases hk; exact HX.out.sq)))
  clear hM3 hg3
  refine wp_onlyQ fun K hK => ?_
  refine wp_region_held_drew (S := (fun w' => w'.heap[p]? = some (.cells #[.slice A l.length c, .map (some q)] 44 (0, 0)))) (by kernel_rfl) ?_ (fun hHeld => ?_)
  · exact HP2.out
  refine wpAnyH_take (i := 0) (v := .pointer (some ⟨p, 0, none⟩)) rfl (by kernel_rfl) (by kernel_rfl) (by kernel_rfl) (fun _ _ _ h => h) (Or.inl ⟨by rfl, fun w' hSw => ?_⟩) (by assumption) ?_
  · go_simp
  simp only [Act.put, List.getElem_toArray, List.getElem_cons_zero, List.getElem_cons_succ, List.setIfInBounds_toArray, List.set_cons_zero, List.set_cons_succ]
  refine wpAnyH_take (i := 1) (v := .pointer (some ⟨p, 0, none⟩)) rfl (by kernel_rfl) (by kernel_rfl) (by kernel_rfl) (fun _ _ _ h => h) (Or.inl ⟨by rfl, fun w' hSw => ?_⟩) (by assumption) ?_
  · (have hs := (blk_cell hSw 0).trans rfl; go_simp)
  simp only [Act.put, List.getElem_toArray, List.getElem_cons_zero, List.getElem_cons_succ, List.setIfInBounds_toArray, List.set_cons_zero, List.set_cons_succ]
  refine wpAnyH_take (i := 2) (v := .pointer (some ⟨p, 1, none⟩)) rfl (by kernel_rfl) (by kernel_rfl) (by kernel_rfl) (fun _ _ _ h => h) (Or.inl ⟨by rfl, fun w' hSw => ?_⟩) (by assumption) ?_
  · go_simp
  simp only [Act.put, List.getElem_toArray, List.getElem_cons_zero, List.getElem_cons_succ, List.setIfInBounds_toArray, List.set_cons_zero, List.set_cons_succ]
  refine wpAnyH_take (i := 3) (v := .map (some q)) rfl (by kernel_rfl) (by kernel_rfl) (by kernel_rfl) (fun _ _ _ h => h) (Or.inl ⟨by rfl, fun w' hSw => ?_⟩) (by assumption) ?_
  · (have hs := (blk_cell hSw 1).trans rfl; go_simp)
  simp only [Act.put, List.getElem_toArray, List.getElem_cons_zero, List.getElem_cons_succ, List.setIfInBounds_toArray, List.set_cons_zero, List.set_cons_succ]
  refine wpAnyH_take (i := 4) (v := .string s) rfl (by kernel_rfl) (by kernel_rfl) (by kernel_rfl) (fun _ _ _ h => h) (Or.inl ⟨by rfl, fun w' hSw => ?_⟩) (by assumption) ?_
  · go_simp
  simp only [Act.put, List.getElem_toArray, List.getElem_cons_zero, List.getElem_cons_succ, List.setIfInBounds_toArray, List.set_cons_zero, List.set_cons_succ]
  refine wpAnyH_take (i := 5) (v := .pointer (some ⟨p, 0, none⟩)) rfl (by kernel_rfl) (by kernel_rfl) (by kernel_rfl) (fun _ _ _ h => h) (Or.inl ⟨by rfl, fun w' hSw => ?_⟩) (by assumption) ?_
  · go_simp
  simp only [Act.put, List.getElem_toArray, List.getElem_cons_zero, List.getElem_cons_succ, List.setIfInBounds_toArray, List.set_cons_zero, List.set_cons_succ]
  refine wpAnyH_take (i := 6) (v := .pointer (some ⟨p, 0, none⟩)) rfl (by kernel_rfl) (by kernel_rfl) (by kernel_rfl) (fun _ _ _ h => h) (Or.inl ⟨by rfl, fun w' hSw => ?_⟩) (by assumption) ?_
  · (have hs := (blk_cell hSw 0).trans rfl; go_simp)
  simp only [Act.put, List.getElem_toArray, List.getElem_cons_zero, List.getElem_cons_succ, List.setIfInBounds_toArray, List.set_cons_zero, List.set_cons_succ]
  refine wpAnyH_take (i := 7) (v := .pointer (some ⟨p, 0, none⟩)) rfl (by kernel_rfl) (by kernel_rfl) (by kernel_rfl) (fun _ _ _ h => h) (Or.inl ⟨by rfl, fun w' hSw => ?_⟩) (by assumption) ?_
  · go_simp
  simp only [Act.put, List.getElem_toArray, List.getElem_cons_zero, List.getElem_cons_succ, List.setIfInBounds_toArray, List.set_cons_zero, List.set_cons_succ]
  refine wpAnyH_take (i := 8) (v := .slice A l.length c) rfl (by kernel_rfl) (by kernel_rfl) (by kernel_rfl) (fun _ _ _ h => h) (Or.inl ⟨by rfl, fun w' hSw => ?_⟩) (by assumption) ?_
  · (have hs := (blk_cell hSw 0).trans rfl; go_simp)
  simp only [Act.put, List.getElem_toArray, List.getElem_cons_zero, List.getElem_cons_succ, List.setIfInBounds_toArray, List.set_cons_zero, List.set_cons_succ]
  refine wpAnyH_take (i := 9) (v := .int .i64 (l.length : Int)) rfl (by kernel_rfl) (by kernel_rfl) (by kernel_rfl) (fun _ _ _ h => h) (Or.inl ⟨by rfl, fun w' hSw => ?_⟩) (by assumption) ?_
  · go_simp
  simp only [Act.put, List.getElem_toArray, List.getElem_cons_zero, List.getElem_cons_succ, List.setIfInBounds_toArray, List.set_cons_zero, List.set_cons_succ]
  refine wpAnyH_take (i := 10) (v := .agg #[.int .i64 (l.length : Int)]) rfl (by kernel_rfl) (by kernel_rfl) (by kernel_rfl) (fun _ _ _ h => h) (Or.inl ⟨by rfl, fun w' hSw => ?_⟩) (by assumption) ?_
  · go_simp
  simp only [Act.put, List.getElem_toArray, List.getElem_cons_zero, List.getElem_cons_succ, List.setIfInBounds_toArray, List.set_cons_zero, List.set_cons_succ]
  refine wpAnyH_ready (rs := [11]) (by kernel_rfl) (by simp) ?_
  refine AllReadyH.cons (o := _) rfl (fun K1 hK1 => ?_) AllReadyH.nil
  go_simp
  refine hK1.out _ _ ?_ (fun hHeld => ?_)
  · exact HP3.out
  clear hK1 K1
  try simp only [Act.put, List.getElem_toArray, List.getElem_cons_zero, List.getElem_cons_succ, List.setIfInBounds_toArray, List.set_cons_zero, List.set_cons_succ]
  refine wpAnyH_done (by kernel_rfl) ?_ _
  show K _ _
  refine hK _ _ ?_
  clear hK K
  clear hHeld hput r0 r1
  have r0 := (blk_cell HP3.out 0).trans rfl
  have r1 := (blk_cell HP3.out 1).trans rfl
  have hfr : ∀ k, w3.heap.size ≤ k → (S k ∨ w1.heap.size ≤ k) ∧ k ≠ p ∧ k ≠ q := fun k hk => by
    have z1 := HC3.out.size
    have z2 := blk_lt HX.out.blk
    have z3 := HX.out.map.lt
    exact ⟨.inr (by omega), by omega, by omega⟩
  have HFr := Aside0.mk hfr
  have HRow := Aside0.mk (Kd.R_mono HR3.out (fun k hk => (⟨.inl hk.1, hk.2⟩ : (S k ∨ w1.heap.size ≤ k) ∧ k ≠ p ∧ k ≠ q)))
  have HM := Aside0.mk (show ∀ W : World, Kd.string.M W 0 (fun _ => False) s [.string s] from fun W => rfl)
  have HLen := Aside0.mk (show (l.length + 1) * 16 ≤ 140737488355328 by omega)
  have HOw := Aside0.mk (show ∀ k, (Value.slice A l.length c).ownBlock = some k → S k ∧ k ≠ p ∧ k ≠ q from fun k hk => HX.out.row.1 k hk)
  clear hfr
  go_wp2_with ((with_reducible refine gate_builtin (b := .append) (xs := #[.tmp 47, .tmp 49]) rfl ?_); at_builtin; refine Kd.R_append Kd.string (w0 := w3) 0 rfl (.tmp 47) (.tmp 49) 22 9 (.string ⟨#[]⟩) 16 rfl Try.underlying22 infoS rfl (by decide) (by decide) (.slice A l.length c) l s [.string s] (fun k => (S k ∨ w1.heap.size ≤ k) ∧ k ≠ p ∧ k ≠ q) (fun _ => False) rfl rfl (HM.out _) (fun _ h => h.elim) HFr.out HRow.out (Below.refl _ _) (Nat.zero_le _) HLen.out ?_; intro v4 w4 hR4 _ hg4 _; obtain ⟨A4, c4, rfl⟩ := Kd.R_slice hR4; rw [show (l ++ [s]).length = l.length + 1 by simp] at hR4; have hp4 := (hg4.block p (blk_lt HP3.out) (fun e => (HOw.out p e.symm).2.1 rfl)).trans HP3.out; have HP4 := Aside0.mk hp4; have HG4 := Aside0.mk hg4; have HR4 := Aside0.mk hR4; have r2 := (blk_cell hp4 0).trans rfl; have f2 := blk_frozen hp4 0; clear r0 r1 hR4 hg4 hp4)
  go_ret2
  have hq4 : w4.heap[q]? = w3.heap[q]? := HG4.out.block q HM3.out.lt (fun e => (HOw.out q e.symm).2.2 rfl)
  refine ⟨rfl, ⟨q, n + 1, _, .slice A4 (l.length + 1) c4, blk_put HP4.out 0 _ rfl, .inl HX.out.sp, .inl HX.out.sq, HX.out.ne, ?_, (HM3.out.move hq4).move (Below.heap_setCell _ _ _ q HX.out.ne), ?_, Kd.R_far (p := ⟨p, 0, none⟩) HR4.out (fun k hk => hk.2.1) _⟩, (HC3.out.grown HG4.out (fun k hk => .inl (HOw.out k hk).1)).set_ (p := ⟨p, 0, none⟩) (.inl HX.out.sp) _⟩
  · have := HX.out.le
    simp only [List.length_append, List.length_cons, List.length_nil]
    omega
  · intro x
    rw [nidx_snoc HNi.out]
    by_cases cx : x.data.toList = s.data.toList
    · rw [if_pos cx, cx]
      simp
    · have cl : ¬ (Lit.string x.data.toList = Lit.string s.data.toList) := fun e => cx (by injection e)
      simp only [if_neg cx, if_neg cl]
      exact HX.out.tells x
end Go.Proofs.Ytfnonbbakkcoaaa.P
