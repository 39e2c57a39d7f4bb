/- grammar.Line: an event's line. -/
import Derived.Test.YtkjnbfjbdlcehaaGreatDoorECheck12
import Derived.Test.YtkjnbfjbdlcehaaGreatDoorEJoinS
import Derived.Test.YtkjnbfjbdlcehaaGreatDoorEText
import Derived.Test.YtkjnbfjbdlcehaaGreatDoorZESText
namespace Go.Proofs.YtkjnbfjbdlcehaaGreatDoor.P
open Go.RowKit Go.Proofs.YtkjnbfjbdlcehaaGreatDoorW.PrintWords Go.Proofs.YtkjnbfjbdlcehaaGreatDoorW.PrintLast Go.Proofs.YtkjnbfjbdlcehaaGreatDoorW.PrintMore
set_option linter.unusedVariables false
set_option linter.unusedSimpArgs false
def grammar_Line.f (x0 : Int) (x1 x2 : ByteArray) (x3 x4 x5 x6 x7 x8 x9 : Int) (l : List Int) : Option (ByteArray × Int) :=
  (grammar_Check.f x0 x1 x2 x3 x4 x5 x6 x7 x8 x9 l).bind fun e => if e = 0 then
    (grammar_word.f x0).bind fun t => if x0 = 1 then (state_Text.f x8 x9 l).bind fun b => (strings_Join.f ([t, x1] ++ [b.1]) (⟨#[32]⟩ : ByteArray)).bind fun s => some (s, 0)
      else if x0 = 3 then (operation_Text.f x3 x4 x5 x6 x7).bind fun b => (strings_Join.f ([t, x1] ++ [x2, b.1]) (⟨#[32]⟩ : ByteArray)).bind fun s => some (s, 0)
      else (strings_Join.f [t, x1] (⟨#[32]⟩ : ByteArray)).bind fun s => some (s, 0)
  else some (⟨#[]⟩, e)
theorem R_two {w : World} {base g : Nat} {a b : ByteArray} (hg : base ≤ g) (h : w.heap[g]? = some (.cells #[.string a, .string b] 9 (0, 0))) : Kd.R Kd.string 9 w base (fun _ => True) (.slice (some ⟨g, 0, none⟩) 2 2) [a, b] :=
  ⟨fun _ _ => trivial, [.string a, .string b], ⟨rfl, .inr ⟨g, 2, _, rfl, hg, h, Nat.le_refl _, by decide, rfl, rfl⟩⟩, Reps.one rfl (Reps.one rfl (Reps.none _ _))⟩
theorem infoSL : (Tryz.prog.info? 9).map (fun i => (i.zero, i.size, i.bytes)) = some (some (.string ⟨#[]⟩), 1, 16) := by kernel_rfl
theorem results_line (tmps : Array Value) (w : World) (a : ByteArray) (b : Int) (h2 : tmps.getD 2 undef = .string a) (h3 : tmps.getD 3 undef = .int .i64 b) :
    (results Tryz.f15 tmps).run Tryz.prog w = .ok (.tuple #[.string a, .int .i64 b]) w := by
  have e2 : tmps[2]?.getD undef = .string a := by simpa using h2
  have e3 : tmps[3]?.getD undef = .int .i64 b := by simpa using h3
  simp [results, Tryz.results15, e2, e3, go_sem]
set_option maxHeartbeats 4000000 in
set_option maxRecDepth 100000 in
theorem grammar_Line.calls (x0 : Int) (x1 x2 : ByteArray) (x3 x4 x5 x6 x7 x8 x9 : Int) (A : Option Addr) (c : Nat) (l : List Int) (r1 : ByteArray) (r2 : Int) (w : World) (hr : Kd.C (Kd.int .i64) w A l.length l) (hc : l.length ≤ c) (h : grammar_Line.f x0 x1 x2 x3 x4 x5 x6 x7 x8 x9 l = some (r1, r2)) :
    Calls Tryz.prog 15 #[.agg #[.int .i64 x0, .string x1, .string x2, .int .i64 x3, .int .i64 x4, .int .i64 x5, .int .i64 x6, .int .i64 x7, .int .i64 x8, .int .i64 x9, .slice A l.length c]] w fun e w' => e = .returned (.tuple #[.string r1, .int .i64 r2]) ∧ Below w.heap.size w w' := by
  unfold grammar_Line.f at h
  obtain ⟨e, he, h⟩ := Option.bind_eq_some_iff.1 h
  have HCk := Aside0.mk (fun w' (hb : Below w.heap.size w w') => grammar_Check.calls x0 x1 x2 x3 x4 x5 x6 x7 x8 x9 A c l e w' (Kd.C_below hr hb) hc he)
  have HST := Aside0.mk (fun r1 r2 w' (hb : Below w.heap.size w w') hh => state_Text.calls x8 x9 A c l r1 r2 w' (Kd.C_below hr hb) hc hh)
  have HOT := Aside0.mk (fun r1 r2 w' hh => operation_Text.calls x3 x4 x5 x6 x7 r1 r2 w' hh)
  have HH := Aside0.mk h
  obtain ⟨n, hn⟩ : ∃ n, l.length = n := ⟨_, rfl⟩
  rw [hn] at HCk HST ⊢
  clear hr hc h he hn
  go_enter Tryz.func15, Tryz.ntmps15
  go_upto_region 1 with (fail)
  have hbk := blk_new w (.cells #[.int .i64 x0, .string x1, .string x2, .int .i64 x3, .int .i64 x4, .int .i64 x5, .int .i64 x6, .int .i64 x7, .int .i64 x8, .int .i64 x9, .slice A n c] 38)
  have HB1 := Aside0.mk (below_alloc (Below.refl w.heap.size w) (.cells #[.int .i64 x0, .string x1, .string x2, .int .i64 x3, .int .i64 x4, .int .i64 x5, .int .i64 x6, .int .i64 x7, .int .i64 x8, .int .i64 x9, .slice A n c] 38))
  obtain ⟨w1, hw1⟩ : ∃ w1 : World, w.alloc (.cells #[.int .i64 x0, .string x1, .string x2, .int .i64 x3, .int .i64 x4, .int .i64 x5, .int .i64 x6, .int .i64 x7, .int .i64 x8, .int .i64 x9, .slice A n c] 38) = w1 := ⟨_, rfl⟩
  rw [hw1] at hbk HB1 ⊢
  have HX1 := Aside0.mk hbk
  have HZ1 := Aside0.mk (blk_lt hbk)
  have f0 := (blk_cell hbk 0).trans rfl
  have f1 := (blk_cell hbk 1).trans rfl
  have f2 := (blk_cell hbk 2).trans rfl
  have f3 := (blk_cell hbk 3).trans rfl
  have f4 := (blk_cell hbk 4).trans rfl
  have f5 := (blk_cell hbk 5).trans rfl
  have f6 := (blk_cell hbk 6).trans rfl
  have f7 := (blk_cell hbk 7).trans rfl
  have f8 := (blk_cell hbk 8).trans rfl
  have f9 := (blk_cell hbk 9).trans rfl
  have f10 := (blk_cell hbk 10).trans rfl
  clear hw1 hbk
  go_wp2_with fail
  refine (HCk.out w1 HB1.out).mono ?_
  rintro e' w2 ⟨rfl, hb2⟩
  have HB2 := Aside0.mk (HB1.out.trans (hb2.mono HB1.out.size))
  have HX2 := Aside0.mk (blk_below HX1.out hb2)
  clear hb2 HCk HX1 f0 f1 f2 f3 f4 f5 f6 f7 f8 f9 f10
  have h := HH.out
  by_cases ce : e = 0
  · subst ce
    rw [if_pos rfl] at h
    obtain ⟨t, ht, h⟩ := Option.bind_eq_some_iff.1 h
    have HT := Aside0.mk ht
    clear ht HH
    go_wp2_with fail
    refine wp_onlyQ fun K hK => ?_
    refine wp_region_held_drew (S := (fun w' => w'.heap[w.heap.size]? = some (.cells #[.int .i64 x0, .string x1, .string x2, .int .i64 x3, .int .i64 x4, .int .i64 x5, .int .i64 x6, .int .i64 x7, .int .i64 x8, .int .i64 x9, .slice A n c] 38 (0, 0)) ∧ Below w2.heap.size w2 w')) (by kernel_rfl) ?_ (fun hHeld => ?_)
    · exact ⟨HX2.out, (Below.refl _ _).drew⟩
    refine wpAnyH_take (i := 0) (v := .pointer (some ⟨w.heap.size, 0, none⟩)) rfl (by kernel_rfl) (by kernel_rfl) (by kernel_rfl) (fun _ _ _ h => h) (Or.inl ⟨by rfl, fun w' hSw => ?_⟩) (by assumption) ?_
    · go_simp
    simp only [Act.put, List.getElem_toArray, List.getElem_cons_zero, List.getElem_cons_succ, List.setIfInBounds_toArray, List.set_cons_zero, List.set_cons_succ]
    refine wpAnyH_take (i := 1) (v := .int .i64 x0) rfl (by kernel_rfl) (by kernel_rfl) (by kernel_rfl) (fun _ _ _ h => h) (Or.inl ⟨by rfl, fun w' hSw => ?_⟩) (by assumption) ?_
    · (have hs := (blk_cell hSw.1 0).trans rfl; go_simp)
    simp only [Act.put, List.getElem_toArray, List.getElem_cons_zero, List.getElem_cons_succ, List.setIfInBounds_toArray, List.set_cons_zero, List.set_cons_succ]
    refine wpAnyH_take (i := 3) (v := .pointer (some ⟨w.heap.size, 1, none⟩)) rfl (by kernel_rfl) (by kernel_rfl) (by kernel_rfl) (fun _ _ _ h => h) (Or.inl ⟨by rfl, fun w' hSw => ?_⟩) (by assumption) ?_
    · go_simp
    simp only [Act.put, List.getElem_toArray, List.getElem_cons_zero, List.getElem_cons_succ, List.setIfInBounds_toArray, List.set_cons_zero, List.set_cons_succ]
    refine wpAnyH_take (i := 4) (v := .string x1) rfl (by kernel_rfl) (by kernel_rfl) (by kernel_rfl) (fun _ _ _ h => h) (Or.inl ⟨by rfl, fun w' hSw => ?_⟩) (by assumption) ?_
    · (have hs := (blk_cell hSw.1 1).trans rfl; go_simp)
    simp only [Act.put, List.getElem_toArray, List.getElem_cons_zero, List.getElem_cons_succ, List.setIfInBounds_toArray, List.set_cons_zero, List.set_cons_succ]
    refine wpAnyH_ready (rs := [2]) (by kernel_rfl) (by simp) ?_
    refine AllReadyH.cons (o := _) rfl (fun K1 hK1 => ?_) AllReadyH.nil
    rw [if_pos (by rfl)]; go_wp2_with fail; refine (grammar_word.calls x0 t _ HT.out).mono ?_; rintro e' w3 ⟨rfl, hd⟩; go_wp2_with fail
    refine hK1.out _ _ ?_ (fun hHeld => ?_)
    · exact ⟨blk_below hHeld.1 hd.below, hHeld.2.trans (hd.below.mono hHeld.2.size)⟩
    clear hK1 K1
    try simp only [Act.put, List.getElem_toArray, List.getElem_cons_zero, List.getElem_cons_succ, List.setIfInBounds_toArray, List.set_cons_zero, List.set_cons_succ]
    have HX3 := Aside0.mk hHeld.1
    have HB23 := Aside0.mk hHeld.2
    refine wpAnyH_ready (rs := [5]) (by kernel_rfl) (by simp) ?_
    refine AllReadyH.cons (o := _) rfl (fun K1 hK1 => ?_) AllReadyH.nil
    go_simp
    refine hK1.out _ _ ?_ (fun hHeld => ?_)
    · exact ⟨blk_alloc hHeld.1 _, hHeld.2.alloc hHeld.2.size _⟩
    clear hK1 K1
    try simp only [Act.put, List.getElem_toArray, List.getElem_cons_zero, List.getElem_cons_succ, List.setIfInBounds_toArray, List.set_cons_zero, List.set_cons_succ]
    refine wpAnyH_ready (rs := [6]) (by kernel_rfl) (by simp) ?_
    refine AllReadyH.cons (o := _) rfl (fun K1 hK1 => ?_) AllReadyH.nil
    rw [if_pos (by rfl)]; go_simp
    refine hK1.out _ _ ?_ (fun hHeld => ?_)
    · exact hHeld
    clear hK1 K1
    try simp only [Act.put, List.getElem_toArray, List.getElem_cons_zero, List.getElem_cons_succ, List.setIfInBounds_toArray, List.set_cons_zero, List.set_cons_succ]
    refine wpAnyH_done (by kernel_rfl) ?_ _
    show K _ _
    refine hK _ _ ?_
    clear hK K
    have hba := below_alloc (Below.refl w3.heap.size w3) (.cells #[.string t, .string x1] 9)
    have hbx := blk_new w3 (.cells #[.string t, .string x1] 9)
    obtain ⟨w4, hw4⟩ : ∃ w4 : World, w3.alloc (.cells #[.string t, .string x1] 9) = w4 := ⟨_, rfl⟩
    rw [hw4] at hba hbx ⊢
    have HR4 := Aside0.mk (R_two (Nat.le_refl w3.heap.size) hbx)
    have HX4 := Aside0.mk (blk_below HX3.out hba)
    have HB34 := Aside0.mk hba
    clear hba hbx hw4 HX3 hd
    by_cases c1 : x0 = 1
    · subst c1
      rw [if_pos rfl] at h
      obtain ⟨⟨s, e2⟩, hs, h⟩ := Option.bind_eq_some_iff.1 h
      obtain ⟨z, hz, h⟩ := Option.bind_eq_some_iff.1 h
      simp only [Option.some.injEq, Prod.mk.injEq] at h
      obtain ⟨rfl, rfl⟩ := h
      have HS := Aside0.mk (HST.out s e2 w4 (HB2.out.trans ((HB23.out.trans (HB34.out.mono HB23.out.size)).mono HB2.out.size)) hs)
      have HZ := Aside0.mk hz
      clear hs hz
      have f0 := (blk_cell HX4.out 0).trans rfl
      have f8 := (blk_cell HX4.out 8).trans rfl
      have f9 := (blk_cell HX4.out 9).trans rfl
      have f10 := (blk_cell HX4.out 10).trans rfl
      go_wp2_with fail
      refine HS.out.mono ?_
      rintro e' w5 ⟨rfl, hb5⟩
      have HR5 := Aside0.mk (Kd.R_below HR4.out hb5)
      have HB35 := Aside0.mk (HB34.out.trans (hb5.mono HB34.out.size))
      clear hb5 HS HR4 f0 f8 f9 f10
      go_wp2_with ((with_reducible refine gate_builtin (b := .append) (xs := #[.tmp 31, .tmp 33]) rfl ?_); at_builtin; refine Kd.R_append Kd.string (w0 := w3) w3.heap.size rfl (.tmp 31) (.tmp 33) 50 9 (.string ⟨#[]⟩) 16 rfl Tryz.underlying50 infoSL rfl (by decide) (by decide) (.slice (some ⟨w3.heap.size, 0, none⟩) 2 2) [t, x1] s [.string s] (fun _ => True) (fun _ => False) rfl rfl rfl (fun _ hk => hk.elim) (fun _ _ => trivial) HR5.out HB35.out HB35.out.size (by simp) ?_; intro v6 w6 hR6 hb6 hg6 hat6; have HR6 := Aside0.mk hR6; have HB6 := Aside0.mk hb6; clear hR6 hb6 hg6 hat6 HR5 HB35; obtain ⟨A6, c6, e6⟩ := Kd.R_slice HR6.out; subst e6; rw [show ([t, x1] ++ [s]).length = 3 from rfl] at HR6 ⊢)
      have HJ := strings_Join.calls A6 c6 ([t, x1] ++ [s]) (⟨#[32]⟩ : ByteArray) z w6 (Kd.R_reads' HR6.out).2.2 (Kd.R_reads' HR6.out).2.1 HZ.out
      rw [show ([t, x1] ++ [s]).length = 3 from rfl] at HJ
      have HJ := Aside0.mk HJ
      go_wp2_with fail
      refine HJ.out.mono ?_
      rintro e' w7 ⟨rfl, hb7⟩
      have HB7 := Aside0.mk (HB2.out.trans ((HB23.out.trans ((HB6.out.trans (hb7.mono HB6.out.size)).mono HB23.out.size)).mono HB2.out.size))
      clear hb7 HJ
      go_wp2
      exact bodyPost_ret (results_line _ _ _ _ rfl rfl) rfl ⟨rfl, HB7.out⟩
    · rw [if_neg c1] at h
      have d1 : (x0 == 1) = false := beq_eq_false_iff_ne.mpr c1
      clear c1
      by_cases c3 : x0 = 3
      · subst c3
        rw [if_pos rfl] at h
        obtain ⟨⟨s, e2⟩, hs, h⟩ := Option.bind_eq_some_iff.1 h
        obtain ⟨z, hz, h⟩ := Option.bind_eq_some_iff.1 h
        simp only [Option.some.injEq, Prod.mk.injEq] at h
        obtain ⟨rfl, rfl⟩ := h
        have HS := Aside0.mk (HOT.out s e2 w4 hs)
        have HZ := Aside0.mk hz
        clear hs hz d1
        have f0 := (blk_cell HX4.out 0).trans rfl
        have f2 := (blk_cell HX4.out 2).trans rfl
        have f3 := (blk_cell HX4.out 3).trans rfl
        have f4 := (blk_cell HX4.out 4).trans rfl
        have f5 := (blk_cell HX4.out 5).trans rfl
        have f6 := (blk_cell HX4.out 6).trans rfl
        have f7 := (blk_cell HX4.out 7).trans rfl
        go_wp2_with fail
        refine HS.out.mono ?_
        rintro e' w5 ⟨rfl, hb5⟩
        have HR5 := Aside0.mk (Kd.R_below HR4.out hb5)
        have HB35 := Aside0.mk (HB34.out.trans (hb5.mono HB34.out.size))
        have HX5 := Aside0.mk (blk_below HX4.out hb5)
        clear hb5 HS HR4 f0 f2 f3 f4 f5 f6 f7
        have f2 := (blk_cell HX5.out 2).trans rfl
        have HR6 := Aside0.mk (Kd.R_alloc HR5.out (.cells #[.string x2, .string s] 9))
        have HB36 := Aside0.mk (HB35.out.alloc HB35.out.size (.cells #[.string x2, .string s] 9))
        have HRow := Aside0.mk (Kd.R_reads' (R_two (Nat.le_refl w5.heap.size) (blk_new w5 (.cells #[.string x2, .string s] 9)))).2.2
        go_wp2_with ((with_reducible refine gate_builtin (b := .append) (xs := #[.tmp 43, .tmp 47]) rfl ?_); at_builtin; refine Kd.R_append_rows Kd.string (w0 := w3) w3.heap.size rfl (.tmp 43) (.tmp 47) 50 9 (.string ⟨#[]⟩) 16 rfl Tryz.underlying50 infoSL rfl (by decide) (by decide) (.slice (some ⟨w3.heap.size, 0, none⟩) 2 2) [t, x1] [x2, s] (some ⟨w5.heap.size, 0, none⟩) 2 2 (fun _ => True) (fun _ => False) rfl rfl HR6.out HRow.out (fun _ _ h => h) (fun _ h => h.elim) (fun _ _ => trivial) HB36.out HB36.out.size (by simp) ?_; intro v6 w6 hR6 hb6 hg6 hat6; clear HR6; have HR6 := Aside0.mk hR6; have HB6 := Aside0.mk hb6; clear hR6 hb6 hg6 hat6 HR5 HB35 HB36 HRow; obtain ⟨A6, c6, e6⟩ := Kd.R_slice HR6.out; subst e6; rw [show ([t, x1] ++ [x2, s]).length = 4 from rfl] at HR6 ⊢)
        have HJ := strings_Join.calls A6 c6 ([t, x1] ++ [x2, s]) (⟨#[32]⟩ : ByteArray) z w6 (Kd.R_reads' HR6.out).2.2 (Kd.R_reads' HR6.out).2.1 HZ.out
        rw [show ([t, x1] ++ [x2, s]).length = 4 from rfl] at HJ
        have HJ := Aside0.mk HJ
        go_wp2_with fail
        refine HJ.out.mono ?_
        rintro e' w7 ⟨rfl, hb7⟩
        have HB7 := Aside0.mk (HB2.out.trans ((HB23.out.trans ((HB6.out.trans (hb7.mono HB6.out.size)).mono HB23.out.size)).mono HB2.out.size))
        clear hb7 HJ
        go_wp2
        exact bodyPost_ret (results_line _ _ _ _ rfl rfl) rfl ⟨rfl, HB7.out⟩
      · rw [if_neg c3] at h
        have d3 : (x0 == 3) = false := beq_eq_false_iff_ne.mpr c3
        clear c3
        obtain ⟨z, hz, h⟩ := Option.bind_eq_some_iff.1 h
        simp only [Option.some.injEq, Prod.mk.injEq] at h
        obtain ⟨rfl, rfl⟩ := h
        have HJ := strings_Join.calls (some ⟨w3.heap.size, 0, none⟩) 2 [t, x1] (⟨#[32]⟩ : ByteArray) z w4 (Kd.R_reads' HR4.out).2.2 (Kd.R_reads' HR4.out).2.1 hz
        rw [show [t, x1].length = 2 from rfl] at HJ
        have HJ := Aside0.mk HJ
        clear hz
        have f0 := (blk_cell HX4.out 0).trans rfl
        go_wp2_with fail
        refine HJ.out.mono ?_
        rintro e' w7 ⟨rfl, hb7⟩
        have HB7 := Aside0.mk (HB2.out.trans ((HB23.out.trans ((HB34.out.trans (hb7.mono HB34.out.size)).mono HB23.out.size)).mono HB2.out.size))
        clear hb7 HJ
        go_wp2
        exact bodyPost_ret (results_line _ _ _ _ rfl rfl) rfl ⟨rfl, HB7.out⟩
  · rw [if_neg ce] at h
    simp only [Option.some.injEq, Prod.mk.injEq] at h
    obtain ⟨rfl, rfl⟩ := h
    have d1 : (e != 0) = true := bne_iff_ne.mpr ce
    clear ce HH
    go_wp2
    exact bodyPost_ret (results_line _ _ _ _ rfl rfl) rfl ⟨rfl, HB2.out⟩
end Go.Proofs.YtkjnbfjbdlcehaaGreatDoor.P
