/- state.Check, state.Word: why a state is not in its form; a type's word. -/
import Derived.Test.YtkjnbfjbdlcehaaGreatDoorZESTyped
import Derived.Test.YtkjnbfjbdlcehaaGreatDoorKH
import Derived.Test.YtkjnbfjbdlcehaaGreatDoorPx1
namespace Go.Proofs.YtkjnbfjbdlcehaaGreatDoor.P
open Go.RowKit Go.Proofs.YtkjnbfjbdlcehaaGreatDoorW.PrintWords Go.Proofs.YtkjnbfjbdlcehaaGreatDoorW.PrintLast Go.Proofs.YtkjnbfjbdlcehaaGreatDoorW.PrintMore
set_option linter.unusedVariables false
set_option linter.unusedSimpArgs false
def formF (t n : Int) (l : List Int) : Option Bool :=
  if t = 1 then state_form_alone.f t n l else if t = 2 then state_form_set.f (l.length + 1) t n l else if t = 3 then state_form_pairs.f (l.length + 1) t n l else if t = 4 then state_form_list.f t n l else state_form_money.f t n l
def formG (t : Int) : Nat :=
  if t = 1 then 88 else if t = 2 then 89 else if t = 3 then 90 else if t = 4 then 91 else 92
theorem form_calls (t n : Int) (A : Option Addr) (c : Nat) (l : List Int) (b : Bool) (w : World) (hr : Kd.C (Kd.int .i64) w A l.length l) (hc : l.length ≤ c) (h : formF t n l = some b) :
    Calls Tryz.prog (formG t) #[.agg #[.int .i64 t, .int .i64 n, .slice A l.length c]] w fun e w' => e = .returned (.bool b) ∧ Below w.heap.size w w' := by
  unfold formF at h
  unfold formG
  by_cases c1 : t = 1
  · rw [if_pos c1] at h ⊢
    exact state_form_alone.calls t n A c l b w hr hc h
  · rw [if_neg c1] at h ⊢
    by_cases c2 : t = 2
    · rw [if_pos c2] at h ⊢
      exact state_form_set.calls _ t n A c l b w hr hc h
    · rw [if_neg c2] at h ⊢
      by_cases c3 : t = 3
      · rw [if_pos c3] at h ⊢
        exact state_form_pairs.calls _ t n A c l b w hr hc h
      · rw [if_neg c3] at h ⊢
        by_cases c4 : t = 4
        · rw [if_pos c4] at h ⊢
          exact state_form_list.calls t n A c l b w hr hc h
        · rw [if_neg c4] at h ⊢
          exact state_form_money.calls t n A c l b w hr hc h
def state_Check.f (t n : Int) (l : List Int) : Option Int :=
  if 1 ≤ t ∧ t ≤ 5 then (formF t n l).bind fun b => some (if b = true then 0 else 5) else some 8
theorem typed_yes {t : Int} (h : 1 ≤ t ∧ t ≤ 5) (w : World) : Calls Tryz.prog 69 #[.int .i64 t] w fun e w' => e = .returned (.bool true) ∧ Below w.heap.size w w' :=
  state_typed.calls t true w (by unfold state_typed.f; rw [decide_eq_true h.1, decide_eq_true h.2]; rfl)
theorem typed_no {t : Int} (h : ¬ (1 ≤ t ∧ t ≤ 5)) (w : World) : Calls Tryz.prog 69 #[.int .i64 t] w fun e w' => e = .returned (.bool false) ∧ Below w.heap.size w w' :=
  state_typed.calls t false w (by unfold state_typed.f; rw [← Bool.decide_and]; exact congrArg some (decide_eq_false h))
set_option maxHeartbeats 4000000 in
set_option maxRecDepth 100000 in
theorem state_Check.calls (a0_0 : Int) (a0_1 : Int) (A0_2 : Option Addr) (c0_2 : Nat) (l0_2 : List Int) (r : Int) (w : World) (hr0_2 : Kd.C (Kd.int .i64) w A0_2 l0_2.length l0_2) (hc0_2 : l0_2.length ≤ c0_2) (h : state_Check.f a0_0 a0_1 l0_2 = some r) :
    Calls Tryz.prog 43 #[.agg #[.int .i64 a0_0, .int .i64 a0_1, .slice A0_2 l0_2.length c0_2]] w fun e w' => e = .returned (.int .i64 r) ∧ Below w.heap.size w w' := by
  unfold state_Check.f at h
  have hu27 := Tryz.underlying36
  by_cases ht : 1 ≤ a0_0 ∧ a0_0 ≤ 5
  · rw [if_pos ht] at h
    obtain ⟨b, hb, h⟩ := Option.bind_eq_some_iff.1 h
    obtain rfl := Option.some.inj h
    have HC := fun W (hB : Below w.heap.size w W) => form_calls a0_0 a0_1 A0_2 c0_2 l0_2 b W (Kd.C_below hr0_2 hB) hc0_2 hb
    have HT := Aside0.mk (typed_yes ht)
    have h5 : a0_0 = 1 ∨ a0_0 = 2 ∨ a0_0 = 3 ∨ a0_0 = 4 ∨ a0_0 = 5 := by omega
    clear h hb ht hr0_2 hc0_2
    rcases h5 with rfl | rfl | rfl | rfl | rfl
    · have HC := Aside0.mk HC
      go_enter Tryz.func43, Tryz.ntmps43
      go_wp2_with fail
      refine (HT.out _).mono ?_
      rintro e w1 ⟨rfl, hb1⟩
      have hz := blk_below (blk_new w _) hb1
      have c0 := (blk_cell hz 0).trans rfl
      have HZ := Aside0.mk hz
      have HB1 := Aside0.mk (((Below.refl _ w).alloc (Nat.le_refl _) _).trans (hb1.mono (by simp)))
      clear hz hb1
      go_wp2_with fail
      clear c0
      refine wp_onlyQ fun K hK => ?_
      refine wp_region_held_drew (S := (fun w' => w'.heap[w.heap.size]? = some (.cells #[.int .i64 1, .int .i64 a0_1, .slice A0_2 l0_2.length c0_2] 36) ∧ Below w.heap.size w w')) (by kernel_rfl) ?_ (fun hHeld => ?_)
      · exact ⟨HZ.out, below_drew HB1.out⟩
      refine wpAnyH_take (i := 1) (v := .pointer (some ⟨w.heap.size, 0, none⟩)) rfl (by kernel_rfl) (by kernel_rfl) (by kernel_rfl) (fun _ _ _ h => h) (Or.inl ⟨by rfl, fun w' hSw => ?_⟩) (by assumption) ?_
      · go_simp
      simp only [Act.put, List.getElem_toArray, List.getElem_cons_zero, List.getElem_cons_succ, List.setIfInBounds_toArray, List.set_cons_zero, List.set_cons_succ]
      refine wpAnyH_take (i := 2) (v := .int .i64 1) rfl (by kernel_rfl) (by kernel_rfl) (by kernel_rfl) (fun _ _ _ h => h) (Or.inl ⟨by rfl, fun w' hSw => ?_⟩) (by assumption) ?_
      · (obtain ⟨hs1, hs2⟩ := hSw; have c0 := (blk_cell hs1 0).trans rfl; have c1 := (blk_cell hs1 1).trans rfl; have c2 := (blk_cell hs1 2).trans rfl; go_simp)
      simp only [Act.put, List.getElem_toArray, List.getElem_cons_zero, List.getElem_cons_succ, List.setIfInBounds_toArray, List.set_cons_zero, List.set_cons_succ]
      refine wpAnyH_take (i := 3) (v := .int .i64 0) rfl (by kernel_rfl) (by kernel_rfl) (by kernel_rfl) (fun _ _ _ h => h) (Or.inl ⟨by rfl, fun w' hSw => ?_⟩) (by assumption) ?_
      · (go_simp; rfl)
      simp only [Act.put, List.getElem_toArray, List.getElem_cons_zero, List.getElem_cons_succ, List.setIfInBounds_toArray, List.set_cons_zero, List.set_cons_succ]
      refine wpAnyH_take (i := 6) (v := .agg #[.int .i64 1, .int .i64 a0_1, .slice A0_2 l0_2.length c0_2]) rfl (by kernel_rfl) (by kernel_rfl) (by kernel_rfl) (fun _ _ _ h => h) (Or.inl ⟨by rfl, fun w' hSw => ?_⟩) (by assumption) ?_
      · (obtain ⟨hs1, hs2⟩ := hSw; have c0 := (blk_cell hs1 0).trans rfl; have c1 := (blk_cell hs1 1).trans rfl; have c2 := (blk_cell hs1 2).trans rfl; go_simp)
      simp only [Act.put, List.getElem_toArray, List.getElem_cons_zero, List.getElem_cons_succ, List.setIfInBounds_toArray, List.set_cons_zero, List.set_cons_succ]
      refine wpAnyH_ready (rs := [0]) (by kernel_rfl) (by simp) ?_
      refine AllReadyH.cons (o := _) rfl (fun K1 hK1 => ?_) AllReadyH.nil
      go_wp2_with (go_at_call 58; (refine (kinds5_calls _).mono ?_); rintro e w2 ⟨rfl, hb2⟩)
      refine hK1.out _ _ ?_ (fun hHeld => ?_)
      · (obtain ⟨hs1, hs2⟩ := hHeld; exact ⟨blk_below hs1 hb2, hs2.trans (hb2.mono hs2.size)⟩)
      clear hK1 K1
      try simp only [Act.put, List.getElem_toArray, List.getElem_cons_zero, List.getElem_cons_succ, List.setIfInBounds_toArray, List.set_cons_zero, List.set_cons_succ]
      refine wpAnyH_take (i := 4) (v := .agg #[.string ⟨#[99, 111, 117, 110, 116, 101, 114]⟩, (.func (.func 88) #[] #[])]) rfl (by kernel_rfl) (by kernel_rfl) (by kernel_rfl) (fun _ _ _ h => h) (Or.inl ⟨by rfl, fun w' hSw => ?_⟩) (by assumption) ?_
      · (have hx := fun w' => (show (Instr.index 98 (.agg kindsA) (.int .i64 0)).run Tryz.prog w' = .ok (.agg #[.string ⟨#[99, 111, 117, 110, 116, 101, 114]⟩, (.func (.func 88) #[] #[])]) w' by kernel_rfl); go_simp)
      simp only [Act.put, List.getElem_toArray, List.getElem_cons_zero, List.getElem_cons_succ, List.setIfInBounds_toArray, List.set_cons_zero, List.set_cons_succ]
      refine wpAnyH_take (i := 5) (v := (.func (.func 88) #[] #[])) rfl (by kernel_rfl) (by kernel_rfl) (by kernel_rfl) (fun _ _ _ h => h) (Or.inl ⟨by rfl, fun w' hSw => ?_⟩) (by assumption) ?_
      · (have hx := fun w' => (show (Instr.field 97 (.agg #[.string ⟨#[99, 111, 117, 110, 116, 101, 114]⟩, (.func (.func 88) #[] #[])]) 1).run Tryz.prog w' = .ok (.func (.func 88) #[] #[]) w' by kernel_rfl); go_simp)
      simp only [Act.put, List.getElem_toArray, List.getElem_cons_zero, List.getElem_cons_succ, List.setIfInBounds_toArray, List.set_cons_zero, List.set_cons_succ]
      refine wpAnyH_ready (rs := [7]) (by kernel_rfl) (by simp) ?_
      refine AllReadyH.cons (o := _) rfl (fun K1 hK1 => ?_) AllReadyH.nil
      go_wp2_with (go_at_call 88; (refine (HC.out _ hHeld.2).mono ?_); rintro e w3 ⟨rfl, hb3⟩)
      refine hK1.out _ _ ?_ (fun hHeld => ?_)
      · (obtain ⟨hs1, hs2⟩ := hHeld; exact ⟨blk_below hs1 hb3, hs2.trans (hb3.mono hs2.size)⟩)
      clear hK1 K1
      try simp only [Act.put, List.getElem_toArray, List.getElem_cons_zero, List.getElem_cons_succ, List.setIfInBounds_toArray, List.set_cons_zero, List.set_cons_succ]
      refine wpAnyH_take (i := 8) (v := .bool (!b)) rfl (by kernel_rfl) (by kernel_rfl) (by kernel_rfl) (fun _ _ _ h => h) (Or.inl ⟨by rfl, fun w' hSw => ?_⟩) (by assumption) ?_
      · go_simp
      simp only [Act.put, List.getElem_toArray, List.getElem_cons_zero, List.getElem_cons_succ, List.setIfInBounds_toArray, List.set_cons_zero, List.set_cons_succ]
      refine wpAnyH_take (i := 9) (v := .bool (!b)) rfl (by kernel_rfl) (by kernel_rfl) (by kernel_rfl) (fun _ _ _ h => h) (Or.inl ⟨by rfl, fun w' hSw => ?_⟩) (by assumption) ?_
      · go_simp
      simp only [Act.put, List.getElem_toArray, List.getElem_cons_zero, List.getElem_cons_succ, List.setIfInBounds_toArray, List.set_cons_zero, List.set_cons_succ]
      refine wpAnyH_done (by kernel_rfl) ?_ _
      show K _ _
      refine hK _ _ ?_
      clear hK K
      have HB := Aside0.mk hHeld.2
      clear hHeld
      cases b with
      | true =>
        go_wp2
        refine bodyPost_ret (results_tmp rfl _ _ _) rfl ?_
        exact ⟨rfl, HB.out⟩
      | false =>
        go_wp2
        refine bodyPost_ret (results_tmp rfl _ _ _) rfl ?_
        exact ⟨rfl, HB.out⟩
    · have HC := Aside0.mk HC
      go_enter Tryz.func43, Tryz.ntmps43
      go_wp2_with fail
      refine (HT.out _).mono ?_
      rintro e w1 ⟨rfl, hb1⟩
      have hz := blk_below (blk_new w _) hb1
      have c0 := (blk_cell hz 0).trans rfl
      have HZ := Aside0.mk hz
      have HB1 := Aside0.mk (((Below.refl _ w).alloc (Nat.le_refl _) _).trans (hb1.mono (by simp)))
      clear hz hb1
      go_wp2_with fail
      clear c0
      refine wp_onlyQ fun K hK => ?_
      refine wp_region_held_drew (S := (fun w' => w'.heap[w.heap.size]? = some (.cells #[.int .i64 2, .int .i64 a0_1, .slice A0_2 l0_2.length c0_2] 36) ∧ Below w.heap.size w w')) (by kernel_rfl) ?_ (fun hHeld => ?_)
      · exact ⟨HZ.out, below_drew HB1.out⟩
      refine wpAnyH_take (i := 1) (v := .pointer (some ⟨w.heap.size, 0, none⟩)) rfl (by kernel_rfl) (by kernel_rfl) (by kernel_rfl) (fun _ _ _ h => h) (Or.inl ⟨by rfl, fun w' hSw => ?_⟩) (by assumption) ?_
      · go_simp
      simp only [Act.put, List.getElem_toArray, List.getElem_cons_zero, List.getElem_cons_succ, List.setIfInBounds_toArray, List.set_cons_zero, List.set_cons_succ]
      refine wpAnyH_take (i := 2) (v := .int .i64 2) rfl (by kernel_rfl) (by kernel_rfl) (by kernel_rfl) (fun _ _ _ h => h) (Or.inl ⟨by rfl, fun w' hSw => ?_⟩) (by assumption) ?_
      · (obtain ⟨hs1, hs2⟩ := hSw; have c0 := (blk_cell hs1 0).trans rfl; have c1 := (blk_cell hs1 1).trans rfl; have c2 := (blk_cell hs1 2).trans rfl; go_simp)
      simp only [Act.put, List.getElem_toArray, List.getElem_cons_zero, List.getElem_cons_succ, List.setIfInBounds_toArray, List.set_cons_zero, List.set_cons_succ]
      refine wpAnyH_take (i := 3) (v := .int .i64 1) rfl (by kernel_rfl) (by kernel_rfl) (by kernel_rfl) (fun _ _ _ h => h) (Or.inl ⟨by rfl, fun w' hSw => ?_⟩) (by assumption) ?_
      · (go_simp; rfl)
      simp only [Act.put, List.getElem_toArray, List.getElem_cons_zero, List.getElem_cons_succ, List.setIfInBounds_toArray, List.set_cons_zero, List.set_cons_succ]
      refine wpAnyH_take (i := 6) (v := .agg #[.int .i64 2, .int .i64 a0_1, .slice A0_2 l0_2.length c0_2]) rfl (by kernel_rfl) (by kernel_rfl) (by kernel_rfl) (fun _ _ _ h => h) (Or.inl ⟨by rfl, fun w' hSw => ?_⟩) (by assumption) ?_
      · (obtain ⟨hs1, hs2⟩ := hSw; have c0 := (blk_cell hs1 0).trans rfl; have c1 := (blk_cell hs1 1).trans rfl; have c2 := (blk_cell hs1 2).trans rfl; go_simp)
      simp only [Act.put, List.getElem_toArray, List.getElem_cons_zero, List.getElem_cons_succ, List.setIfInBounds_toArray, List.set_cons_zero, List.set_cons_succ]
      refine wpAnyH_ready (rs := [0]) (by kernel_rfl) (by simp) ?_
      refine AllReadyH.cons (o := _) rfl (fun K1 hK1 => ?_) AllReadyH.nil
      go_wp2_with (go_at_call 58; (refine (kinds5_calls _).mono ?_); rintro e w2 ⟨rfl, hb2⟩)
      refine hK1.out _ _ ?_ (fun hHeld => ?_)
      · (obtain ⟨hs1, hs2⟩ := hHeld; exact ⟨blk_below hs1 hb2, hs2.trans (hb2.mono hs2.size)⟩)
      clear hK1 K1
      try simp only [Act.put, List.getElem_toArray, List.getElem_cons_zero, List.getElem_cons_succ, List.setIfInBounds_toArray, List.set_cons_zero, List.set_cons_succ]
      refine wpAnyH_take (i := 4) (v := .agg #[.string ⟨#[115, 101, 116]⟩, (.func (.func 89) #[] #[])]) rfl (by kernel_rfl) (by kernel_rfl) (by kernel_rfl) (fun _ _ _ h => h) (Or.inl ⟨by rfl, fun w' hSw => ?_⟩) (by assumption) ?_
      · (have hx := fun w' => (show (Instr.index 98 (.agg kindsA) (.int .i64 1)).run Tryz.prog w' = .ok (.agg #[.string ⟨#[115, 101, 116]⟩, (.func (.func 89) #[] #[])]) w' by kernel_rfl); go_simp)
      simp only [Act.put, List.getElem_toArray, List.getElem_cons_zero, List.getElem_cons_succ, List.setIfInBounds_toArray, List.set_cons_zero, List.set_cons_succ]
      refine wpAnyH_take (i := 5) (v := (.func (.func 89) #[] #[])) rfl (by kernel_rfl) (by kernel_rfl) (by kernel_rfl) (fun _ _ _ h => h) (Or.inl ⟨by rfl, fun w' hSw => ?_⟩) (by assumption) ?_
      · (have hx := fun w' => (show (Instr.field 97 (.agg #[.string ⟨#[115, 101, 116]⟩, (.func (.func 89) #[] #[])]) 1).run Tryz.prog w' = .ok (.func (.func 89) #[] #[]) w' by kernel_rfl); go_simp)
      simp only [Act.put, List.getElem_toArray, List.getElem_cons_zero, List.getElem_cons_succ, List.setIfInBounds_toArray, List.set_cons_zero, List.set_cons_succ]
      refine wpAnyH_ready (rs := [7]) (by kernel_rfl) (by simp) ?_
      refine AllReadyH.cons (o := _) rfl (fun K1 hK1 => ?_) AllReadyH.nil
      go_wp2_with (go_at_call 89; (refine (HC.out _ hHeld.2).mono ?_); rintro e w3 ⟨rfl, hb3⟩)
      refine hK1.out _ _ ?_ (fun hHeld => ?_)
      · (obtain ⟨hs1, hs2⟩ := hHeld; exact ⟨blk_below hs1 hb3, hs2.trans (hb3.mono hs2.size)⟩)
      clear hK1 K1
      try simp only [Act.put, List.getElem_toArray, List.getElem_cons_zero, List.getElem_cons_succ, List.setIfInBounds_toArray, List.set_cons_zero, List.set_cons_succ]
      refine wpAnyH_take (i := 8) (v := .bool (!b)) rfl (by kernel_rfl) (by kernel_rfl) (by kernel_rfl) (fun _ _ _ h => h) (Or.inl ⟨by rfl, fun w' hSw => ?_⟩) (by assumption) ?_
      · go_simp
      simp only [Act.put, List.getElem_toArray, List.getElem_cons_zero, List.getElem_cons_succ, List.setIfInBounds_toArray, List.set_cons_zero, List.set_cons_succ]
      refine wpAnyH_take (i := 9) (v := .bool (!b)) rfl (by kernel_rfl) (by kernel_rfl) (by kernel_rfl) (fun _ _ _ h => h) (Or.inl ⟨by rfl, fun w' hSw => ?_⟩) (by assumption) ?_
      · go_simp
      simp only [Act.put, List.getElem_toArray, List.getElem_cons_zero, List.getElem_cons_succ, List.setIfInBounds_toArray, List.set_cons_zero, List.set_cons_succ]
      refine wpAnyH_done (by kernel_rfl) ?_ _
      show K _ _
      refine hK _ _ ?_
      clear hK K
      have HB := Aside0.mk hHeld.2
      clear hHeld
      cases b with
      | true =>
        go_wp2
        refine bodyPost_ret (results_tmp rfl _ _ _) rfl ?_
        exact ⟨rfl, HB.out⟩
      | false =>
        go_wp2
        refine bodyPost_ret (results_tmp rfl _ _ _) rfl ?_
        exact ⟨rfl, HB.out⟩
    · have HC := Aside0.mk HC
      go_enter Tryz.func43, Tryz.ntmps43
      go_wp2_with fail
      refine (HT.out _).mono ?_
      rintro e w1 ⟨rfl, hb1⟩
      have hz := blk_below (blk_new w _) hb1
      have c0 := (blk_cell hz 0).trans rfl
      have HZ := Aside0.mk hz
      have HB1 := Aside0.mk (((Below.refl _ w).alloc (Nat.le_refl _) _).trans (hb1.mono (by simp)))
      clear hz hb1
      go_wp2_with fail
      clear c0
      refine wp_onlyQ fun K hK => ?_
      refine wp_region_held_drew (S := (fun w' => w'.heap[w.heap.size]? = some (.cells #[.int .i64 3, .int .i64 a0_1, .slice A0_2 l0_2.length c0_2] 36) ∧ Below w.heap.size w w')) (by kernel_rfl) ?_ (fun hHeld => ?_)
      · exact ⟨HZ.out, below_drew HB1.out⟩
      refine wpAnyH_take (i := 1) (v := .pointer (some ⟨w.heap.size, 0, none⟩)) rfl (by kernel_rfl) (by kernel_rfl) (by kernel_rfl) (fun _ _ _ h => h) (Or.inl ⟨by rfl, fun w' hSw => ?_⟩) (by assumption) ?_
      · go_simp
      simp only [Act.put, List.getElem_toArray, List.getElem_cons_zero, List.getElem_cons_succ, List.setIfInBounds_toArray, List.set_cons_zero, List.set_cons_succ]
      refine wpAnyH_take (i := 2) (v := .int .i64 3) rfl (by kernel_rfl) (by kernel_rfl) (by kernel_rfl) (fun _ _ _ h => h) (Or.inl ⟨by rfl, fun w' hSw => ?_⟩) (by assumption) ?_
      · (obtain ⟨hs1, hs2⟩ := hSw; have c0 := (blk_cell hs1 0).trans rfl; have c1 := (blk_cell hs1 1).trans rfl; have c2 := (blk_cell hs1 2).trans rfl; go_simp)
      simp only [Act.put, List.getElem_toArray, List.getElem_cons_zero, List.getElem_cons_succ, List.setIfInBounds_toArray, List.set_cons_zero, List.set_cons_succ]
      refine wpAnyH_take (i := 3) (v := .int .i64 2) rfl (by kernel_rfl) (by kernel_rfl) (by kernel_rfl) (fun _ _ _ h => h) (Or.inl ⟨by rfl, fun w' hSw => ?_⟩) (by assumption) ?_
      · (go_simp; rfl)
      simp only [Act.put, List.getElem_toArray, List.getElem_cons_zero, List.getElem_cons_succ, List.setIfInBounds_toArray, List.set_cons_zero, List.set_cons_succ]
      refine wpAnyH_take (i := 6) (v := .agg #[.int .i64 3, .int .i64 a0_1, .slice A0_2 l0_2.length c0_2]) rfl (by kernel_rfl) (by kernel_rfl) (by kernel_rfl) (fun _ _ _ h => h) (Or.inl ⟨by rfl, fun w' hSw => ?_⟩) (by assumption) ?_
      · (obtain ⟨hs1, hs2⟩ := hSw; have c0 := (blk_cell hs1 0).trans rfl; have c1 := (blk_cell hs1 1).trans rfl; have c2 := (blk_cell hs1 2).trans rfl; go_simp)
      simp only [Act.put, List.getElem_toArray, List.getElem_cons_zero, List.getElem_cons_succ, List.setIfInBounds_toArray, List.set_cons_zero, List.set_cons_succ]
      refine wpAnyH_ready (rs := [0]) (by kernel_rfl) (by simp) ?_
      refine AllReadyH.cons (o := _) rfl (fun K1 hK1 => ?_) AllReadyH.nil
      go_wp2_with (go_at_call 58; (refine (kinds5_calls _).mono ?_); rintro e w2 ⟨rfl, hb2⟩)
      refine hK1.out _ _ ?_ (fun hHeld => ?_)
      · (obtain ⟨hs1, hs2⟩ := hHeld; exact ⟨blk_below hs1 hb2, hs2.trans (hb2.mono hs2.size)⟩)
      clear hK1 K1
      try simp only [Act.put, List.getElem_toArray, List.getElem_cons_zero, List.getElem_cons_succ, List.setIfInBounds_toArray, List.set_cons_zero, List.set_cons_succ]
      refine wpAnyH_take (i := 4) (v := .agg #[.string ⟨#[109, 97, 112]⟩, (.func (.func 90) #[] #[])]) rfl (by kernel_rfl) (by kernel_rfl) (by kernel_rfl) (fun _ _ _ h => h) (Or.inl ⟨by rfl, fun w' hSw => ?_⟩) (by assumption) ?_
      · (have hx := fun w' => (show (Instr.index 98 (.agg kindsA) (.int .i64 2)).run Tryz.prog w' = .ok (.agg #[.string ⟨#[109, 97, 112]⟩, (.func (.func 90) #[] #[])]) w' by kernel_rfl); go_simp)
      simp only [Act.put, List.getElem_toArray, List.getElem_cons_zero, List.getElem_cons_succ, List.setIfInBounds_toArray, List.set_cons_zero, List.set_cons_succ]
      refine wpAnyH_take (i := 5) (v := (.func (.func 90) #[] #[])) rfl (by kernel_rfl) (by kernel_rfl) (by kernel_rfl) (fun _ _ _ h => h) (Or.inl ⟨by rfl, fun w' hSw => ?_⟩) (by assumption) ?_
      · (have hx := fun w' => (show (Instr.field 97 (.agg #[.string ⟨#[109, 97, 112]⟩, (.func (.func 90) #[] #[])]) 1).run Tryz.prog w' = .ok (.func (.func 90) #[] #[]) w' by kernel_rfl); go_simp)
      simp only [Act.put, List.getElem_toArray, List.getElem_cons_zero, List.getElem_cons_succ, List.setIfInBounds_toArray, List.set_cons_zero, List.set_cons_succ]
      refine wpAnyH_ready (rs := [7]) (by kernel_rfl) (by simp) ?_
      refine AllReadyH.cons (o := _) rfl (fun K1 hK1 => ?_) AllReadyH.nil
      go_wp2_with (go_at_call 90; (refine (HC.out _ hHeld.2).mono ?_); rintro e w3 ⟨rfl, hb3⟩)
      refine hK1.out _ _ ?_ (fun hHeld => ?_)
      · (obtain ⟨hs1, hs2⟩ := hHeld; exact ⟨blk_below hs1 hb3, hs2.trans (hb3.mono hs2.size)⟩)
      clear hK1 K1
      try simp only [Act.put, List.getElem_toArray, List.getElem_cons_zero, List.getElem_cons_succ, List.setIfInBounds_toArray, List.set_cons_zero, List.set_cons_succ]
      refine wpAnyH_take (i := 8) (v := .bool (!b)) rfl (by kernel_rfl) (by kernel_rfl) (by kernel_rfl) (fun _ _ _ h => h) (Or.inl ⟨by rfl, fun w' hSw => ?_⟩) (by assumption) ?_
      · go_simp
      simp only [Act.put, List.getElem_toArray, List.getElem_cons_zero, List.getElem_cons_succ, List.setIfInBounds_toArray, List.set_cons_zero, List.set_cons_succ]
      refine wpAnyH_take (i := 9) (v := .bool (!b)) rfl (by kernel_rfl) (by kernel_rfl) (by kernel_rfl) (fun _ _ _ h => h) (Or.inl ⟨by rfl, fun w' hSw => ?_⟩) (by assumption) ?_
      · go_simp
      simp only [Act.put, List.getElem_toArray, List.getElem_cons_zero, List.getElem_cons_succ, List.setIfInBounds_toArray, List.set_cons_zero, List.set_cons_succ]
      refine wpAnyH_done (by kernel_rfl) ?_ _
      show K _ _
      refine hK _ _ ?_
      clear hK K
      have HB := Aside0.mk hHeld.2
      clear hHeld
      cases b with
      | true =>
        go_wp2
        refine bodyPost_ret (results_tmp rfl _ _ _) rfl ?_
        exact ⟨rfl, HB.out⟩
      | false =>
        go_wp2
        refine bodyPost_ret (results_tmp rfl _ _ _) rfl ?_
        exact ⟨rfl, HB.out⟩
    · have HC := Aside0.mk HC
      go_enter Tryz.func43, Tryz.ntmps43
      go_wp2_with fail
      refine (HT.out _).mono ?_
      rintro e w1 ⟨rfl, hb1⟩
      have hz := blk_below (blk_new w _) hb1
      have c0 := (blk_cell hz 0).trans rfl
      have HZ := Aside0.mk hz
      have HB1 := Aside0.mk (((Below.refl _ w).alloc (Nat.le_refl _) _).trans (hb1.mono (by simp)))
      clear hz hb1
      go_wp2_with fail
      clear c0
      refine wp_onlyQ fun K hK => ?_
      refine wp_region_held_drew (S := (fun w' => w'.heap[w.heap.size]? = some (.cells #[.int .i64 4, .int .i64 a0_1, .slice A0_2 l0_2.length c0_2] 36) ∧ Below w.heap.size w w')) (by kernel_rfl) ?_ (fun hHeld => ?_)
      · exact ⟨HZ.out, below_drew HB1.out⟩
      refine wpAnyH_take (i := 1) (v := .pointer (some ⟨w.heap.size, 0, none⟩)) rfl (by kernel_rfl) (by kernel_rfl) (by kernel_rfl) (fun _ _ _ h => h) (Or.inl ⟨by rfl, fun w' hSw => ?_⟩) (by assumption) ?_
      · go_simp
      simp only [Act.put, List.getElem_toArray, List.getElem_cons_zero, List.getElem_cons_succ, List.setIfInBounds_toArray, List.set_cons_zero, List.set_cons_succ]
      refine wpAnyH_take (i := 2) (v := .int .i64 4) rfl (by kernel_rfl) (by kernel_rfl) (by kernel_rfl) (fun _ _ _ h => h) (Or.inl ⟨by rfl, fun w' hSw => ?_⟩) (by assumption) ?_
      · (obtain ⟨hs1, hs2⟩ := hSw; have c0 := (blk_cell hs1 0).trans rfl; have c1 := (blk_cell hs1 1).trans rfl; have c2 := (blk_cell hs1 2).trans rfl; go_simp)
      simp only [Act.put, List.getElem_toArray, List.getElem_cons_zero, List.getElem_cons_succ, List.setIfInBounds_toArray, List.set_cons_zero, List.set_cons_succ]
      refine wpAnyH_take (i := 3) (v := .int .i64 3) rfl (by kernel_rfl) (by kernel_rfl) (by kernel_rfl) (fun _ _ _ h => h) (Or.inl ⟨by rfl, fun w' hSw => ?_⟩) (by assumption) ?_
      · (go_simp; rfl)
      simp only [Act.put, List.getElem_toArray, List.getElem_cons_zero, List.getElem_cons_succ, List.setIfInBounds_toArray, List.set_cons_zero, List.set_cons_succ]
      refine wpAnyH_take (i := 6) (v := .agg #[.int .i64 4, .int .i64 a0_1, .slice A0_2 l0_2.length c0_2]) rfl (by kernel_rfl) (by kernel_rfl) (by kernel_rfl) (fun _ _ _ h => h) (Or.inl ⟨by rfl, fun w' hSw => ?_⟩) (by assumption) ?_
      · (obtain ⟨hs1, hs2⟩ := hSw; have c0 := (blk_cell hs1 0).trans rfl; have c1 := (blk_cell hs1 1).trans rfl; have c2 := (blk_cell hs1 2).trans rfl; go_simp)
      simp only [Act.put, List.getElem_toArray, List.getElem_cons_zero, List.getElem_cons_succ, List.setIfInBounds_toArray, List.set_cons_zero, List.set_cons_succ]
      refine wpAnyH_ready (rs := [0]) (by kernel_rfl) (by simp) ?_
      refine AllReadyH.cons (o := _) rfl (fun K1 hK1 => ?_) AllReadyH.nil
      go_wp2_with (go_at_call 58; (refine (kinds5_calls _).mono ?_); rintro e w2 ⟨rfl, hb2⟩)
      refine hK1.out _ _ ?_ (fun hHeld => ?_)
      · (obtain ⟨hs1, hs2⟩ := hHeld; exact ⟨blk_below hs1 hb2, hs2.trans (hb2.mono hs2.size)⟩)
      clear hK1 K1
      try simp only [Act.put, List.getElem_toArray, List.getElem_cons_zero, List.getElem_cons_succ, List.setIfInBounds_toArray, List.set_cons_zero, List.set_cons_succ]
      refine wpAnyH_take (i := 4) (v := .agg #[.string ⟨#[113, 117, 101, 117, 101]⟩, (.func (.func 91) #[] #[])]) rfl (by kernel_rfl) (by kernel_rfl) (by kernel_rfl) (fun _ _ _ h => h) (Or.inl ⟨by rfl, fun w' hSw => ?_⟩) (by assumption) ?_
      · (have hx := fun w' => (show (Instr.index 98 (.agg kindsA) (.int .i64 3)).run Tryz.prog w' = .ok (.agg #[.string ⟨#[113, 117, 101, 117, 101]⟩, (.func (.func 91) #[] #[])]) w' by kernel_rfl); go_simp)
      simp only [Act.put, List.getElem_toArray, List.getElem_cons_zero, List.getElem_cons_succ, List.setIfInBounds_toArray, List.set_cons_zero, List.set_cons_succ]
      refine wpAnyH_take (i := 5) (v := (.func (.func 91) #[] #[])) rfl (by kernel_rfl) (by kernel_rfl) (by kernel_rfl) (fun _ _ _ h => h) (Or.inl ⟨by rfl, fun w' hSw => ?_⟩) (by assumption) ?_
      · (have hx := fun w' => (show (Instr.field 97 (.agg #[.string ⟨#[113, 117, 101, 117, 101]⟩, (.func (.func 91) #[] #[])]) 1).run Tryz.prog w' = .ok (.func (.func 91) #[] #[]) w' by kernel_rfl); go_simp)
      simp only [Act.put, List.getElem_toArray, List.getElem_cons_zero, List.getElem_cons_succ, List.setIfInBounds_toArray, List.set_cons_zero, List.set_cons_succ]
      refine wpAnyH_ready (rs := [7]) (by kernel_rfl) (by simp) ?_
      refine AllReadyH.cons (o := _) rfl (fun K1 hK1 => ?_) AllReadyH.nil
      go_wp2_with (go_at_call 91; (refine (HC.out _ hHeld.2).mono ?_); rintro e w3 ⟨rfl, hb3⟩)
      refine hK1.out _ _ ?_ (fun hHeld => ?_)
      · (obtain ⟨hs1, hs2⟩ := hHeld; exact ⟨blk_below hs1 hb3, hs2.trans (hb3.mono hs2.size)⟩)
      clear hK1 K1
      try simp only [Act.put, List.getElem_toArray, List.getElem_cons_zero, List.getElem_cons_succ, List.setIfInBounds_toArray, List.set_cons_zero, List.set_cons_succ]
      refine wpAnyH_take (i := 8) (v := .bool (!b)) rfl (by kernel_rfl) (by kernel_rfl) (by kernel_rfl) (fun _ _ _ h => h) (Or.inl ⟨by rfl, fun w' hSw => ?_⟩) (by assumption) ?_
      · go_simp
      simp only [Act.put, List.getElem_toArray, List.getElem_cons_zero, List.getElem_cons_succ, List.setIfInBounds_toArray, List.set_cons_zero, List.set_cons_succ]
      refine wpAnyH_take (i := 9) (v := .bool (!b)) rfl (by kernel_rfl) (by kernel_rfl) (by kernel_rfl) (fun _ _ _ h => h) (Or.inl ⟨by rfl, fun w' hSw => ?_⟩) (by assumption) ?_
      · go_simp
      simp only [Act.put, List.getElem_toArray, List.getElem_cons_zero, List.getElem_cons_succ, List.setIfInBounds_toArray, List.set_cons_zero, List.set_cons_succ]
      refine wpAnyH_done (by kernel_rfl) ?_ _
      show K _ _
      refine hK _ _ ?_
      clear hK K
      have HB := Aside0.mk hHeld.2
      clear hHeld
      cases b with
      | true =>
        go_wp2
        refine bodyPost_ret (results_tmp rfl _ _ _) rfl ?_
        exact ⟨rfl, HB.out⟩
      | false =>
        go_wp2
        refine bodyPost_ret (results_tmp rfl _ _ _) rfl ?_
        exact ⟨rfl, HB.out⟩
    · have HC := Aside0.mk HC
      go_enter Tryz.func43, Tryz.ntmps43
      go_wp2_with fail
      refine (HT.out _).mono ?_
      rintro e w1 ⟨rfl, hb1⟩
      have hz := blk_below (blk_new w _) hb1
      have c0 := (blk_cell hz 0).trans rfl
      have HZ := Aside0.mk hz
      have HB1 := Aside0.mk (((Below.refl _ w).alloc (Nat.le_refl _) _).trans (hb1.mono (by simp)))
      clear hz hb1
      go_wp2_with fail
      clear c0
      refine wp_onlyQ fun K hK => ?_
      refine wp_region_held_drew (S := (fun w' => w'.heap[w.heap.size]? = some (.cells #[.int .i64 5, .int .i64 a0_1, .slice A0_2 l0_2.length c0_2] 36) ∧ Below w.heap.size w w')) (by kernel_rfl) ?_ (fun hHeld => ?_)
      · exact ⟨HZ.out, below_drew HB1.out⟩
      refine wpAnyH_take (i := 1) (v := .pointer (some ⟨w.heap.size, 0, none⟩)) rfl (by kernel_rfl) (by kernel_rfl) (by kernel_rfl) (fun _ _ _ h => h) (Or.inl ⟨by rfl, fun w' hSw => ?_⟩) (by assumption) ?_
      · go_simp
      simp only [Act.put, List.getElem_toArray, List.getElem_cons_zero, List.getElem_cons_succ, List.setIfInBounds_toArray, List.set_cons_zero, List.set_cons_succ]
      refine wpAnyH_take (i := 2) (v := .int .i64 5) rfl (by kernel_rfl) (by kernel_rfl) (by kernel_rfl) (fun _ _ _ h => h) (Or.inl ⟨by rfl, fun w' hSw => ?_⟩) (by assumption) ?_
      · (obtain ⟨hs1, hs2⟩ := hSw; have c0 := (blk_cell hs1 0).trans rfl; have c1 := (blk_cell hs1 1).trans rfl; have c2 := (blk_cell hs1 2).trans rfl; go_simp)
      simp only [Act.put, List.getElem_toArray, List.getElem_cons_zero, List.getElem_cons_succ, List.setIfInBounds_toArray, List.set_cons_zero, List.set_cons_succ]
      refine wpAnyH_take (i := 3) (v := .int .i64 4) rfl (by kernel_rfl) (by kernel_rfl) (by kernel_rfl) (fun _ _ _ h => h) (Or.inl ⟨by rfl, fun w' hSw => ?_⟩) (by assumption) ?_
      · (go_simp; rfl)
      simp only [Act.put, List.getElem_toArray, List.getElem_cons_zero, List.getElem_cons_succ, List.setIfInBounds_toArray, List.set_cons_zero, List.set_cons_succ]
      refine wpAnyH_take (i := 6) (v := .agg #[.int .i64 5, .int .i64 a0_1, .slice A0_2 l0_2.length c0_2]) rfl (by kernel_rfl) (by kernel_rfl) (by kernel_rfl) (fun _ _ _ h => h) (Or.inl ⟨by rfl, fun w' hSw => ?_⟩) (by assumption) ?_
      · (obtain ⟨hs1, hs2⟩ := hSw; have c0 := (blk_cell hs1 0).trans rfl; have c1 := (blk_cell hs1 1).trans rfl; have c2 := (blk_cell hs1 2).trans rfl; go_simp)
      simp only [Act.put, List.getElem_toArray, List.getElem_cons_zero, List.getElem_cons_succ, List.setIfInBounds_toArray, List.set_cons_zero, List.set_cons_succ]
      refine wpAnyH_ready (rs := [0]) (by kernel_rfl) (by simp) ?_
      refine AllReadyH.cons (o := _) rfl (fun K1 hK1 => ?_) AllReadyH.nil
      go_wp2_with (go_at_call 58; (refine (kinds5_calls _).mono ?_); rintro e w2 ⟨rfl, hb2⟩)
      refine hK1.out _ _ ?_ (fun hHeld => ?_)
      · (obtain ⟨hs1, hs2⟩ := hHeld; exact ⟨blk_below hs1 hb2, hs2.trans (hb2.mono hs2.size)⟩)
      clear hK1 K1
      try simp only [Act.put, List.getElem_toArray, List.getElem_cons_zero, List.getElem_cons_succ, List.setIfInBounds_toArray, List.set_cons_zero, List.set_cons_succ]
      refine wpAnyH_take (i := 4) (v := .agg #[.string ⟨#[101, 115, 99, 114, 111, 119]⟩, (.func (.func 92) #[] #[])]) rfl (by kernel_rfl) (by kernel_rfl) (by kernel_rfl) (fun _ _ _ h => h) (Or.inl ⟨by rfl, fun w' hSw => ?_⟩) (by assumption) ?_
      · (have hx := fun w' => (show (Instr.index 98 (.agg kindsA) (.int .i64 4)).run Tryz.prog w' = .ok (.agg #[.string ⟨#[101, 115, 99, 114, 111, 119]⟩, (.func (.func 92) #[] #[])]) w' by kernel_rfl); go_simp)
      simp only [Act.put, List.getElem_toArray, List.getElem_cons_zero, List.getElem_cons_succ, List.setIfInBounds_toArray, List.set_cons_zero, List.set_cons_succ]
      refine wpAnyH_take (i := 5) (v := (.func (.func 92) #[] #[])) rfl (by kernel_rfl) (by kernel_rfl) (by kernel_rfl) (fun _ _ _ h => h) (Or.inl ⟨by rfl, fun w' hSw => ?_⟩) (by assumption) ?_
      · (have hx := fun w' => (show (Instr.field 97 (.agg #[.string ⟨#[101, 115, 99, 114, 111, 119]⟩, (.func (.func 92) #[] #[])]) 1).run Tryz.prog w' = .ok (.func (.func 92) #[] #[]) w' by kernel_rfl); go_simp)
      simp only [Act.put, List.getElem_toArray, List.getElem_cons_zero, List.getElem_cons_succ, List.setIfInBounds_toArray, List.set_cons_zero, List.set_cons_succ]
      refine wpAnyH_ready (rs := [7]) (by kernel_rfl) (by simp) ?_
      refine AllReadyH.cons (o := _) rfl (fun K1 hK1 => ?_) AllReadyH.nil
      go_wp2_with (go_at_call 92; (refine (HC.out _ hHeld.2).mono ?_); rintro e w3 ⟨rfl, hb3⟩)
      refine hK1.out _ _ ?_ (fun hHeld => ?_)
      · (obtain ⟨hs1, hs2⟩ := hHeld; exact ⟨blk_below hs1 hb3, hs2.trans (hb3.mono hs2.size)⟩)
      clear hK1 K1
      try simp only [Act.put, List.getElem_toArray, List.getElem_cons_zero, List.getElem_cons_succ, List.setIfInBounds_toArray, List.set_cons_zero, List.set_cons_succ]
      refine wpAnyH_take (i := 8) (v := .bool (!b)) rfl (by kernel_rfl) (by kernel_rfl) (by kernel_rfl) (fun _ _ _ h => h) (Or.inl ⟨by rfl, fun w' hSw => ?_⟩) (by assumption) ?_
      · go_simp
      simp only [Act.put, List.getElem_toArray, List.getElem_cons_zero, List.getElem_cons_succ, List.setIfInBounds_toArray, List.set_cons_zero, List.set_cons_succ]
      refine wpAnyH_take (i := 9) (v := .bool (!b)) rfl (by kernel_rfl) (by kernel_rfl) (by kernel_rfl) (fun _ _ _ h => h) (Or.inl ⟨by rfl, fun w' hSw => ?_⟩) (by assumption) ?_
      · go_simp
      simp only [Act.put, List.getElem_toArray, List.getElem_cons_zero, List.getElem_cons_succ, List.setIfInBounds_toArray, List.set_cons_zero, List.set_cons_succ]
      refine wpAnyH_done (by kernel_rfl) ?_ _
      show K _ _
      refine hK _ _ ?_
      clear hK K
      have HB := Aside0.mk hHeld.2
      clear hHeld
      cases b with
      | true =>
        go_wp2
        refine bodyPost_ret (results_tmp rfl _ _ _) rfl ?_
        exact ⟨rfl, HB.out⟩
      | false =>
        go_wp2
        refine bodyPost_ret (results_tmp rfl _ _ _) rfl ?_
        exact ⟨rfl, HB.out⟩
  · rw [if_neg ht] at h
    obtain rfl := Option.some.inj h
    have HT := Aside0.mk (typed_no ht)
    clear h ht hr0_2 hc0_2
    go_enter Tryz.func43, Tryz.ntmps43
    go_wp2_with fail
    refine (HT.out _).mono ?_
    rintro e w1 ⟨rfl, hb1⟩
    have HB1 := Aside0.mk (((Below.refl _ w).alloc (Nat.le_refl _) _).trans (hb1.mono (by simp)))
    clear hb1
    go_wp2
    refine bodyPost_ret (results_tmp rfl _ _ _) rfl ?_
    exact ⟨rfl, HB1.out⟩
end Go.Proofs.YtkjnbfjbdlcehaaGreatDoor.P
