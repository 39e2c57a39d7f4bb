/- grammar.Parse's deferred closure: what it does when Parse returns, and when a fault is on its way up. -/
import Derived.Test.YtkjnbfjbdlcehaaGreatDoorEGram4
import Derived.Test.YtkjnbfjbdlcehaaGreatDoorKC
import Derived.Defers
import Derived.Recover
import Derived.Tactics2
import Derived.Laws.Pointers
import Derived.Test.YtkjnbfjbdlcehaaGreatDoorETokLines
namespace Go.Proofs.YtkjnbfjbdlcehaaGreatDoor.P
open Go.RowKit Go.Proofs.YtkjnbfjbdlcehaaGreatDoorW.PrintWords Go.Proofs.YtkjnbfjbdlcehaaGreatDoorW.PrintLast Go.Proofs.YtkjnbfjbdlcehaaGreatDoorW.PrintMore
set_option linter.unusedVariables false
set_option linter.unusedSimpArgs false
theorem catch_idle (bo bf : Addr) (w : World) :
    CallsD Tryz.prog 50 #[.pointer (some bo), .pointer (some bf)] .returning w fun e u' w' => e = .returned (.tuple #[]) ∧ u' = .returning ∧ w' = w := by
  refine callsD_of_wpS Tryz.func50 rfl fun c₀ cs hu => ?_
  simp only [Tryz.ntmps50, List.size_toArray, List.length_cons, List.length_nil, Nat.reduceAdd, Nat.reduceSub, Array.replicate_succ, Array.replicate_zero, List.push_toArray, List.append_toArray, List.nil_append, List.cons_append]
  apply wpS_seq
  apply wpS_region
  generalize hQ : Exit.thenS _ _ = QQ
  simp [wpOpsS, go_sem, recoverD, hu, Tryz.ntmps50]
  rw [← hQ]
  clear hQ QQ
  simp only [Exit.thenS]
  refine wpS_of_wp ?_
  generalize hQ2 : (fun e a' w' => bodyPostS _ _ _ _ _ e a' _ w') = Q2
  go_wp2
  rw [← hQ2]
  cases c₀
  simp_all [bodyPostS, results, Tryz.results50]
set_option maxHeartbeats 1000000 in
set_option maxRecDepth 100000 in
theorem catch_panicking (bo bf : Nat) (E A : Int) (v0 : Value) (f0 f1 : Value) (older : List PanicEntry) (w : World) (ho : w.heap[bo]? = some (.cells #[v0] 22 (0, 0))) (hf : w.heap[bf]? = some (.cells #[f0, f1] 44 (0, 0))) (hne : bo ≠ bf) :
    CallsD Tryz.prog 50 #[.pointer (some ⟨bo, 0, none⟩), .pointer (some ⟨bf, 0, none⟩)] (.panicking ({ v := .iface 80 (.agg #[.int .i64 E, .int .i64 A]), recovered := false } :: older)) w fun e u' w' =>
      e = .returned (.tuple #[]) ∧ u' = .panicking ({ v := .iface 80 (.agg #[.int .i64 E, .int .i64 A]), recovered := true } :: older) ∧ w'.heap[bo]? = some (.cells #[.slice none 0 0] 22 (0, 0)) ∧ w'.heap[bf]? = some (.cells #[.int .i64 E, .int .i64 A] 44 (0, 0)) ∧ Chg (fun k => k = bo ∨ k = bf) w w' := by
  refine callsD_of_wpS Tryz.func50 rfl fun c₀ cs hu => ?_
  simp only [Tryz.ntmps50, List.size_toArray, List.length_cons, List.length_nil, Nat.reduceAdd, Nat.reduceSub, Array.replicate_succ, Array.replicate_zero, List.push_toArray, List.append_toArray, List.nil_append, List.cons_append]
  apply wpS_seq
  apply wpS_region
  generalize hQ : Exit.thenS _ _ = QQ
  simp [wpOpsS, go_sem, recoverD, hu, Tryz.ntmps50]
  rw [← hQ]
  clear hQ QQ
  simp only [Exit.thenS]
  refine wpS_of_wp ?_
  generalize hQ2 : (fun e a' w' => bodyPostS _ _ _ _ _ e a' _ w') = Q2
  have hta : ∀ w : World, (Instr.typeAssert (.iface 80 (.agg #[.int .i64 E, .int .i64 A])) 20 80 true).run Tryz.prog w = .ok (.tuple #[.agg #[.int .i64 E, .int .i64 A], .bool true]) w := fun w => by kernel_rfl
  go_wp2_with fail
  have hbx := blk_new w (.cells #[.int .i64 E, .int .i64 A] 80)
  have hba := below_alloc (Below.refl w.heap.size w) (.cells #[.int .i64 E, .int .i64 A] 80)
  obtain ⟨w1, hw1⟩ : ∃ w1 : World, w.alloc (.cells #[.int .i64 E, .int .i64 A] 80) = w1 := ⟨_, rfl⟩
  rw [hw1] at hbx hba ⊢
  have HO := Aside0.mk ((hba.block bo (blk_lt ho)).trans ho)
  have HF := Aside0.mk ((hba.block bf (blk_lt hf)).trans hf)
  have HC1 := Aside0.mk (Chg.of_below (fun k => k = bo ∨ k = bf) hba)
  have HBX := Aside0.mk hbx
  have HX1 := Aside0.mk (show w.heap.size ≠ bo from fun e => by have := blk_lt ho; omega)
  have HNE := Aside0.mk hne
  clear hba hw1 ho hf hne hbx hta
  have qc := (blk_cell HO.out 0).trans rfl
  have qf := blk_frozen HO.out 0
  refine wp_onlyQ fun K hK => ?_
  refine wp_region_held_drew (S := (fun w' => w'.heap[w.heap.size]? = some (.cells #[.int .i64 E, .int .i64 A] 80 (0, 0)))) (by kernel_rfl) ?_ (fun hHeld => ?_)
  · exact HBX.out
  refine wpAnyH_take (i := 0) (v := .pointer (some ⟨w.heap.size, 0, none⟩)) rfl (by kernel_rfl) (by kernel_rfl) (by kernel_rfl) (fun _ _ _ h => h) (Or.inl ⟨by rfl, fun w' hSw => ?_⟩) (by assumption) ?_
  · go_simp
  simp only [Act.put, List.getElem_toArray, List.getElem_cons_zero, List.getElem_cons_succ, List.setIfInBounds_toArray, List.set_cons_zero, List.set_cons_succ]
  refine wpAnyH_take (i := 1) (v := .agg #[.int .i64 E, .int .i64 A]) rfl (by kernel_rfl) (by kernel_rfl) (by kernel_rfl) (fun _ _ _ h => h) (Or.inl ⟨by rfl, fun w' hSw => ?_⟩) (by assumption) ?_
  · (have hs0 := (blk_cell hSw 0).trans rfl; have hs1 := (blk_cell hSw 1).trans rfl; go_simp)
  simp only [Act.put, List.getElem_toArray, List.getElem_cons_zero, List.getElem_cons_succ, List.setIfInBounds_toArray, List.set_cons_zero, List.set_cons_succ]
  refine wpAnyH_ready (rs := [2]) (by kernel_rfl) (by simp) ?_
  refine AllReadyH.cons (o := _) rfl (fun K1 hK1 => ?_) AllReadyH.nil
  rw [if_pos (by rfl)]; go_simp
  refine hK1.out _ _ ?_ (fun hHeld => ?_)
  · exact (Below.heap_setCell _ ⟨bo, 0, none⟩ _ _ HX1.out).trans hHeld
  clear hK1 K1
  try simp only [Act.put, List.getElem_toArray, List.getElem_cons_zero, List.getElem_cons_succ, List.setIfInBounds_toArray, List.set_cons_zero, List.set_cons_succ]
  obtain ⟨w2, hw2⟩ : ∃ w2 : World, (w1.setCell ⟨bo, 0, none⟩ (.slice none 0 0)).drew = w2 := ⟨_, rfl⟩
  have hb2 : w2.heap[bo]? = some (.cells #[.slice none 0 0] 22 (0, 0)) := by rw [← hw2]; exact blk_put HO.out 0 _ rfl
  have hf2 : w2.heap[bf]? = some (.cells #[f0, f1] 44 (0, 0)) := by rw [← hw2]; exact (Below.heap_setCell w1 ⟨bo, 0, none⟩ _ bf (Ne.symm HNE.out)).trans HF.out
  have hc2 : Chg (fun k => k = bo ∨ k = bf) w w2 := by rw [← hw2]; exact (HC1.out.set_ (p := ⟨bo, 0, none⟩) (.inl (.inl rfl)) _).drew
  rw [hw2] at hHeld ⊢
  have HB2 := Aside0.mk hb2
  have HF2 := Aside0.mk hf2
  have HC2 := Aside0.mk hc2
  have k0 := (blk_cell hf2 0).trans rfl
  have l0 := blk_frozen hf2 0
  have hf3 := blk_put hf2 0 (.int .i64 E) rfl
  have k1 := (blk_cell hf3 1).trans rfl
  have l1 := blk_frozen hf3 1
  have HF4 := Aside0.mk (blk_put hf3 1 (.int .i64 A) rfl)
  have HX2 := Aside0.mk (show w.heap.size ≠ bf from fun e => by have := blk_lt HF.out; have h5 := HBX.out; rw [e, HF.out] at h5; cases h5)
  clear hb2 hf2 hc2 hf3 qc qf hw2
  refine wpAnyH_ready (rs := [3]) (by kernel_rfl) (by simp) ?_
  refine AllReadyH.cons (o := _) rfl (fun K1 hK1 => ?_) AllReadyH.nil
  rw [if_pos (by rfl)]; go_simp
  refine hK1.out _ _ ?_ (fun hHeld => ?_)
  · exact (Below.heap_setCell _ ⟨bf, 1, none⟩ _ _ HX2.out).trans ((Below.heap_setCell _ ⟨bf, 0, none⟩ _ _ HX2.out).trans hHeld)
  clear hK1 K1
  try simp only [Act.put, List.getElem_toArray, List.getElem_cons_zero, List.getElem_cons_succ, List.setIfInBounds_toArray, List.set_cons_zero, List.set_cons_succ]
  refine wpAnyH_done (by kernel_rfl) ?_ _
  show K _ _
  refine hK _ _ ?_
  clear hK K
  rw [← hQ2]
  exact ⟨rfl, _, rfl, _, results_none rfl _ _ _, rfl, rfl, (Below.heap_setCell _ ⟨bf, 1, none⟩ _ bo HNE.out).trans ((Below.heap_setCell _ ⟨bf, 0, none⟩ _ bo HNE.out).trans HB2.out), HF4.out, (HC2.out.set_ (p := ⟨bf, 0, none⟩) (.inl (.inr rfl)) _).set_ (p := ⟨bf, 1, none⟩) (.inl (.inr rfl)) _⟩
end Go.Proofs.YtkjnbfjbdlcehaaGreatDoor.P

/- grammar.Parse: a text's events, or its first fault. -/
namespace Go.Proofs.YtkjnbfjbdlcehaaGreatDoor.P
open Go.RowKit Go.Proofs.YtkjnbfjbdlcehaaGreatDoorW.PrintWords Go.Proofs.YtkjnbfjbdlcehaaGreatDoorW.PrintLast Go.Proofs.YtkjnbfjbdlcehaaGreatDoorW.PrintMore
set_option linter.unusedVariables false
set_option linter.unusedSimpArgs false
/-- The events of lines, or the first fault. -/
def evsL : List Ln → Option (Sum (List Ev) (Int × Int))
  | [] => some (.inl [])
  | x :: xs => match readL x.f1 with
    | none => none
    | some (.inr b) => some (.inr b)
    | some (.inl e) => match evsL xs with
      | none => none
      | some (.inr b) => some (.inr b)
      | some (.inl l) => some (.inl (e :: l))
theorem evsL_at : ∀ (ls : List Ln) (k : Nat) (es : List Ev) (r : Sum (List Ev) (Int × Int)), evsL ls = some r → evsL (ls.take k) = some (.inl es) → (h : k < ls.length) →
    (∃ b, readL ls[k].f1 = some (.inr b) ∧ r = .inr b) ∨ ∃ e, readL ls[k].f1 = some (.inl e) ∧ evsL (ls.take (k + 1)) = some (.inl (es ++ [e]))
  | [], k, _, _, _, _, h => absurd h (by simp)
  | x :: xs, 0, es, r, h1, h2, _ => by
    simp only [List.take_zero, evsL, Option.some.injEq, Sum.inl.injEq] at h2
    subst h2
    rw [evsL] at h1
    show (∃ b, readL x.f1 = some (.inr b) ∧ _) ∨ ∃ e, readL x.f1 = some (.inl e) ∧ evsL ([x]) = some (.inl ([] ++ [e]))
    cases hx : readL x.f1 with
    | none => rw [hx] at h1; cases h1
    | some y =>
      rw [hx] at h1
      cases y with
      | inr b =>
        simp only [Option.some.injEq] at h1
        exact .inl ⟨b, rfl, h1.symm⟩
      | inl e => exact .inr ⟨e, rfl, by simp [evsL, hx]⟩
  | x :: xs, k + 1, es, r, h1, h2, h => by
    have hk : k < xs.length := by simpa using h
    rw [evsL] at h1
    simp only [List.take_succ_cons] at h2 ⊢
    rw [evsL] at h2
    cases hx : readL x.f1 with
    | none => rw [hx] at h1; cases h1
    | some y =>
      rw [hx] at h1 h2
      cases y with
      | inr b => cases h2
      | inl e0 =>
        simp only at h1 h2
        cases h3 : evsL xs with
        | none => rw [h3] at h1; cases h1
        | some r3 =>
          rw [h3] at h1
          cases h4 : evsL (xs.take k) with
          | none => rw [h4] at h2; cases h2
          | some r4 =>
            rw [h4] at h2
            cases r4 with
            | inr b => cases h2
            | inl es4 =>
              simp only [Option.some.injEq, Sum.inl.injEq] at h2
              subst h2
              rcases evsL_at xs k es4 r3 h3 h4 hk with ⟨b, hb, hr⟩ | ⟨e, he, ht⟩
              · subst hr
                simp only [Option.some.injEq] at h1
                exact .inl ⟨b, hb, h1.symm⟩
              · refine .inr ⟨e, he, ?_⟩
                rw [evsL, hx]
                simp only [ht]
                rfl
def okLn (ws : List Wd) : Bool := decide (0 < ws.length ∧ ws.length ≤ 140737488355) && decide ((ws.map (fun x => x.f0.size + 1)).sum ≤ 140737488355328) && ws.all fun x => decide (0 ≤ x.f1 ∧ x.f1 ≤ 140737488355328 ∧ x.f0.size ≤ 140737488351232)
theorem okLn_ok {ws : List Wd} (h : okLn ws = true) : WsOk ws := by
  simp only [okLn, Bool.and_eq_true, decide_eq_true_eq, List.all_eq_true] at h
  exact ⟨h.1.1.1, h.1.1.2, h.1.2, h.2⟩
def okLns (ls : List Ln) : Bool := decide (ls.length ≤ 1000000000) && ls.all fun x => okLn x.f1
def grammar_Parse.f (l : List Int) : Option (List Ev × Int × Int) :=
  (token_Lines.f l).bind fun r => if r.2.1 = 0 then (if okLns r.1 = true then (match evsL r.1 with
    | none => none
    | some (.inl es) => some (es, 0, r.2.2)
    | some (.inr b) => some ([], b.1, b.2)) else none) else some ([], r.2.1, r.2.2)
def OnlyR (K : Act → World → Prop) (Rp : List PanicEntry → Value → Value → List Deferred → World → Prop) : Exit → Act → World → Prop
  | .normal, a, w => K a w
  | .panic ch, a, w => Rp ch (a.tmps.getD 2 undef) (a.tmps.getD 3 undef) a.defers w
  | _, _, _ => False
theorem wp_onlyR {P : Program} {c : Code} {Q : Exit → Act → World → Prop} {a : Act} {w : World} (h : ∀ (K : Act → World → Prop) (Rp : List PanicEntry → Value → Value → List Deferred → World → Prop), (∀ a w, Q .normal a w → K a w) → (∀ ch v2 v3 ds w, (∀ a : Act, a.tmps.getD 2 undef = v2 → a.tmps.getD 3 undef = v3 → a.defers = ds → Q (.panic ch) a w) → Rp ch v2 v3 ds w) → c.wp P (OnlyR K Rp) a w) : c.wp P Q a w :=
  Code.wp_mono (fun e a w h' => by cases e <;> first | exact h' | exact h' a rfl rfl rfl | exact (h' : False).elim) (h (Q .normal) (fun ch v2 v3 ds w => ∀ a : Act, a.tmps.getD 2 undef = v2 → a.tmps.getD 3 undef = v3 → a.defers = ds → Q (.panic ch) a w) (fun _ _ h' => h') (fun _ _ _ _ _ h' => h'))
theorem onlyR_put {K : Act → World → Prop} {Rp : List PanicEntry → Value → Value → List Deferred → World → Prop} {ch : List PanicEntry} {a : Act} {d : Nat} {v : Value} {w : World} (h2 : d ≠ 2) (h3 : d ≠ 3) (h : OnlyR K Rp (.panic ch) (a.put (some d) v) w) : OnlyR K Rp (.panic ch) a w := by
  simpa [OnlyR, Act.put, Array.getElem?_setIfInBounds, h2, h3] using h
def zeroEv : Value := .agg #[.int .i64 0, .string ⟨#[]⟩, .string ⟨#[]⟩, .int .i64 0, .int .i64 0, .int .i64 0, .int .i64 0, .int .i64 0, .int .i64 0, .int .i64 0, .slice none 0 0]
theorem infoEv : (Tryz.prog.info? 38).map (fun i => (i.zero, i.size, i.bytes)) = some (some zeroEv, 11, 120) := by kernel_rfl
theorem results_parse (tmps : Array Value) (w : World) (bo bf : Nat) (A : Option Addr) (n c : Nat) (a b : Int) (h2 : tmps.getD 2 undef = .pointer (some ⟨bo, 0, none⟩)) (h3 : tmps.getD 3 undef = .pointer (some ⟨bf, 0, none⟩)) (ho : w.heap[bo]? = some (.cells #[.slice A n c] 22 (0, 0))) (hf : w.heap[bf]? = some (.cells #[.int .i64 a, .int .i64 b] 44 (0, 0))) :
    (results Tryz.f21 tmps).run Tryz.prog w = .ok (.tuple #[.slice A n c, .agg #[.int .i64 a, .int .i64 b]]) w := by
  have e2 : tmps[2]?.getD undef = .pointer (some ⟨bo, 0, none⟩) := by simpa using h2
  have e3 : tmps[3]?.getD undef = .pointer (some ⟨bf, 0, none⟩) := by simpa using h3
  have c0 := (blk_cell ho 0).trans rfl
  have d0 := (blk_cell hf 0).trans rfl
  have d1 := (blk_cell hf 1).trans rfl
  simp [results, Tryz.results21, e2, e3, asAddr, go_sem, c0, d0, d1]
set_option maxRecDepth 100000 in
set_option maxHeartbeats 8000000 in
theorem grammar_Parse.calls (A0 : Option Addr) (c0 : Nat) (l0 : List Int) (r1 : List Ev) (r2 r3 : Int) (w : World) (hr0 : Kd.C (Kd.int .u8) w A0 l0.length l0) (hc0 : l0.length ≤ c0) (hG : GOk w) (h : grammar_Parse.f l0 = some (r1, r2, r3)) :
    Calls Tryz.prog 21 #[.slice A0 l0.length c0] w fun e w' => ∃ v, e = .returned (.tuple #[v, .agg #[.int .i64 r2, .int .i64 r3]]) ∧ Kd.S k38 38 w' w.heap.size (fun _ => True) v r1 ∧ Below w.heap.size w w' := by
  unfold grammar_Parse.f at h
  cases hT : token_Lines.f l0 with
  | none => rw [hT] at h; cases h
  | some y =>
    obtain ⟨ls, E, P⟩ := y
    rw [hT] at h
    simp only [Option.bind_some] at h
    obtain ⟨w0, hw0⟩ : ∃ w0 : World, (w.alloc (.cells #[.slice none 0 0] 22)).alloc (.cells #[.int .i64 0, .int .i64 0] 44) = w0 := ⟨_, rfl⟩
    have ho0 := heap_alloc2_old w (.cells #[.slice none 0 0] 22) (.cells #[.int .i64 0, .int .i64 0] 44)
    have hf0 := heap_alloc2_new w (.cells #[.slice none 0 0] 22) (.cells #[.int .i64 0, .int .i64 0] 44)
    have hb0 := below_alloc (below_alloc (Below.refl w.heap.size w) (.cells #[.slice none 0 0] 22)) (.cells #[.int .i64 0, .int .i64 0] 44)
    have hs0 : w0.heap.size = w.heap.size + 2 := by rw [← hw0]; simp
    rw [hw0] at ho0 hf0 hb0
    have HL := Aside0.mk (token_Lines.calls A0 c0 l0 ls E P w0 (Kd.C_below hr0 hb0) hc0 hT)
    have HO0 := Aside0.mk ho0
    have HF0 := Aside0.mk hf0
    have HB0 := Aside0.mk hb0
    have HS0 := Aside0.mk hs0
    have HG := Aside0.mk hG
    clear hr0 hc0 hT ho0 hf0 hb0 hs0 hG
    have hmf : ∀ (fn : Fn) (first cap : Array Value) (w : World), (Instr.makeFunc fn first cap).run Tryz.prog w = .ok (.func fn first cap) w := fun _ _ _ _ => rfl
    go_enter_defers Tryz.func21, Tryz.ntmps21
    go_wp2_with fail
    refine HL.out.mono ?_
    rintro e w1 ⟨v0, rfl, hS, hb1⟩
    obtain ⟨Al, cl, rfl⟩ := Kd.S_slice hS
    have HF1 := Aside0.mk ((hb1.block (w.heap.size + 1) (blk_lt HF0.out)).trans HF0.out)
    have HO1 := Aside0.mk ((hb1.block w.heap.size (blk_lt HO0.out)).trans HO0.out)
    have HB1 := Aside0.mk (HB0.out.trans (hb1.mono HB0.out.size))
    have HR1 := Aside0.mk (Kd.R_mono (Kd.R_bound (Kd.S_R hS)) (fun k hk => hk.2.1))
    have k0 := (blk_cell HF1.out 0).trans rfl
    have l0_ := blk_frozen HF1.out 0
    have hf2 := blk_put HF1.out 0 (.int .i64 E) rfl
    have k1 := (blk_cell hf2 1).trans rfl
    have l1_ := blk_frozen hf2 1
    clear hS hb1 HL hw0 hf2
    go_upto_region 2 with (fail)
    obtain ⟨w2, hw2⟩ : ∃ w2 : World, (w1.setCell ⟨w.heap.size + 1, 0, none⟩ (.int .i64 E)).setCell ⟨w.heap.size + 1, 1, none⟩ (.int .i64 P) = w2 := ⟨_, rfl⟩
    have hf2 : w2.heap[w.heap.size + 1]? = some (.cells #[.int .i64 E, .int .i64 P] 44 (0, 0)) := by rw [← hw2]; exact blk_put (blk_put HF1.out 0 _ rfl) 1 _ rfl
    have hfar : ∀ k, k ≠ w.heap.size + 1 → w2.heap[k]? = w1.heap[k]? := fun k hk => by rw [← hw2]; exact (Below.heap_setCell _ ⟨w.heap.size + 1, 1, none⟩ _ k hk).trans (Below.heap_setCell _ ⟨w.heap.size + 1, 0, none⟩ _ k hk)
    have HB2 := Aside0.mk (show Below w.heap.size w w2 from by rw [← hw2]; exact below_set (below_set HB1.out (by omega)) (by omega))
    have HO2 := Aside0.mk ((hfar w.heap.size (by omega)).trans HO1.out)
    have HF2 := Aside0.mk hf2
    have HR2 := Aside0.mk (Kd.R_step HR1.out (fun k hk _ => hfar k (by have := HS0.out; omega)))
    rw [hw2]
    have f0 := (blk_cell hf2 0).trans rfl
    clear hf2 hfar hw2 HF1 HO1 HB1 HR1 k0 k1 l0_ l1_ HO0 HF0 HB0
    by_cases ce : E = 0
    · rw [if_pos ce] at h
      by_cases hok : okLns ls = true
      · rw [if_pos hok] at h
        subst ce
        go_wp2_with fail
        obtain ⟨hlsl, hlok⟩ : ls.length ≤ 1000000000 ∧ ∀ x ∈ ls, okLn x.f1 = true := by
          simp only [okLns, Bool.and_eq_true, decide_eq_true_eq, List.all_eq_true] at hok
          exact hok
        cases hev : evsL ls with
        | none => rw [hev] at h; cases h
        | some res =>
          rw [hev] at h
          have HEV := Aside0.mk hev
          have HLOK := Aside0.mk hlok
          have HH := Aside0.mk h
          clear hev hlok hok h f0
          go_loopg [19] (ls.length + 1) (fun g v19 wr => ∃ (k : Nat) (es : List Ev) (vo : Value), k ≤ ls.length ∧ Aside0 (k + g = ls.length + 1) ∧ v19 = .int .i64 k ∧ Aside0 (evsL (ls.take k) = some (.inl es)) ∧ Aside0 (Kd.S k38 38 wr w.heap.size (fun j => w2.heap.size ≤ j) vo es) ∧ Aside0 (wr.heap[w.heap.size]? = some (.cells #[vo] 22 (0, 0))) ∧ Aside0 (wr.heap[w.heap.size + 1]? = some (.cells #[.int .i64 0, .int .i64 P] 44 (0, 0))) ∧ Aside0 (Below w.heap.size w wr) ∧ Aside0 (Chg (fun j => j = w.heap.size) w2 wr) ∧ Aside0 (es.length ≤ k))
          case atStart => exact ⟨0, [], .slice none 0 0, by omega, ⟨by omega⟩, rfl, ⟨by simp [evsL]⟩, ⟨Kd.S_nil _ _ _ _ _⟩, HO2, HF2, HB2, ⟨Chg.refl _ _⟩, ⟨Nat.le_refl _⟩⟩
          case round =>
            obtain ⟨k, es, vo, hk, hg, rfl, hes, hS, hO, hF, hB, hC, hel⟩ := hrel
            by_cases hkl : k < ls.length
            · have HRL := Aside0.mk (Kd.R_step HR2.out (fun j hj hl => hC.out.block j hl (by have := HS0.out; omega)))
              obtain ⟨ad, A1, c1, rfl, hx0, hx1, hx2, hx3⟩ := at_T84 (Kd.R_reads' HRL.out).2.2 (k : Int) (by omega) (by omega)
              simp only [Int.toNat_natCast] at hx0 hx1
              have hxk : rd_T84 ls (k : Int) = ls[k] := by simp [rd_T84, List.getD, hkl]
              rw [hxk] at hx0 hx1 hx2 hx3
              have hln := okLn_ok (HLOK.out _ (List.getElem_mem hkl))
              have hcase := evsL_at ls k es res HEV.out hes.out hkl
              obtain ⟨ln, hlne⟩ : ∃ ln, ls[k] = ln := ⟨_, rfl⟩
              rw [hlne] at hx0 hx1 hx2 hx3 hln hcase
              obtain ⟨Ao, co, rfl⟩ := Kd.S_slice hS.out
              have b0 := decide_eq_true (show ((k : Nat) : Int) < (ls.length : Int) by omega)
              have b1 : (0 : Int) ≤ (k : Int) := by omega
              have b2 : (k : Int) < (ls.length : Int) := by omega
              have HX3 := Aside0.mk hx3
              have HLN := Aside0.mk hln
              have HCase := Aside0.mk hcase
              clear hxk hlne hln hcase hx3
              go_upto_region 8 with (fail)
              have hbx := blk_new wr (.cells #[.int .i64 ln.f0, .slice A1 ln.f1.length c1] 84)
              have hba := below_alloc (Below.refl wr.heap.size wr) (.cells #[.int .i64 ln.f0, .slice A1 ln.f1.length c1] 84)
              obtain ⟨w3, hw3⟩ : ∃ w3 : World, wr.alloc (.cells #[.int .i64 ln.f0, .slice A1 ln.f1.length c1] 84) = w3 := ⟨_, rfl⟩
              have hz3 : w3.heap.size = wr.heap.size + 1 := by rw [← hw3]; simp
              rw [hw3] at hbx hba ⊢
              have HZ3 := Aside0.mk hz3
              have HBX := Aside0.mk hbx
              have HO3 := Aside0.mk ((hba.block w.heap.size (blk_lt hO.out)).trans hO.out)
              have HF3 := Aside0.mk ((hba.block (w.heap.size + 1) (blk_lt hF.out)).trans hF.out)
              have HBa := Aside0.mk hba
              obtain ⟨w4, hw4⟩ : ∃ w4 : World, Aside0 (w3.drew.alloc (.cells #[.int .i64 ln.f0, .slice A1 ln.f1.length c1, .int .i64 0, .string ⟨#[]⟩, .string ⟨#[]⟩, .int .i64 0, .int .i64 0, .int .i64 0, .int .i64 0, .int .i64 0, .int .i64 0, .int .i64 0, .slice none 0 0] 87) = w4) := ⟨_, ⟨rfl⟩⟩
              have HP4 := Aside0.mk (show w4.heap[w3.heap.size]? = some (rd0 (.int .i64 ln.f0) A1 ln.f1.length c1) from by rw [← hw4.out]; exact blk_new w3.drew _)
              have HB34 := Aside0.mk (show Below w3.heap.size w3 w4 from by rw [← hw4.out]; exact below_alloc (Below.refl w3.heap.size w3).drew _)
              have HB4 := Aside0.mk (show Below wr.heap.size wr w4 from HBa.out.trans (HB34.out.mono HBa.out.size))
              have HRd := Aside0.mk (fun r hr => read_calls w3.heap.size (.int .i64 ln.f0) A1 c1 ln.f1 wr w4 HP4.out (by have := HZ3.out; omega) HB4.out HX3.out hx2 HLN.out (HG.out.below hB.out) r hr)
              have hz4 : w4.heap.size = w3.heap.size + 1 := by rw [← hw4.out]; simp
              have HZ4 := Aside0.mk hz4
              clear hbx hba hw3 hx0 hx1 hx2 hz3 hz4
              rcases HCase.out with ⟨⟨E, A⟩, hrd, hres⟩ | ⟨ev, hrd, htk⟩
              · have HRd := Aside0.mk (HRd.out _ hrd)
                have HRes := Aside0.mk hres
                clear hrd hres
                refine wp_onlyR fun K Rp hK hRp => ?_
                refine wp_region_held_drew (S := (fun w' => w'.heap[w.heap.size]? = some (.cells #[.slice Ao es.length co] 22 (0, 0)) ∧ w'.heap[wr.heap.size]? = some (.cells #[.int .i64 ln.f0, .slice A1 ln.f1.length c1] 84 (0, 0)))) (by kernel_rfl) ?_ (fun hHeld => ?_)
                · exact ⟨HO3.out, HBX.out⟩
                refine wpAnyH_take (i := 0) (v := .slice Ao es.length co) rfl (by kernel_rfl) (by kernel_rfl) (by kernel_rfl) (fun _ _ _ h => onlyR_put (by decide) (by decide) h) (Or.inl ⟨by rfl, fun w' hSw => ?_⟩) (by assumption) ?_
                · (have hs0 := (blk_cell hSw.1 0).trans rfl; go_simp)
                simp only [Act.put, List.getElem_toArray, List.getElem_cons_zero, List.getElem_cons_succ, List.setIfInBounds_toArray, List.set_cons_zero, List.set_cons_succ]
                refine wpAnyH_take (i := 1) (v := .agg #[.int .i64 ln.f0, .slice A1 ln.f1.length c1]) rfl (by kernel_rfl) (by kernel_rfl) (by kernel_rfl) (fun _ _ _ h => onlyR_put (by decide) (by decide) h) (Or.inl ⟨by rfl, fun w' hSw => ?_⟩) (by assumption) ?_
                · (have hs0 := (blk_cell hSw.2 0).trans rfl; have hs1 := (blk_cell hSw.2 1).trans rfl; go_simp)
                simp only [Act.put, List.getElem_toArray, List.getElem_cons_zero, List.getElem_cons_succ, List.setIfInBounds_toArray, List.set_cons_zero, List.set_cons_succ]
                refine wpAnyH_take (i := 2) (v := .agg #[.int .i64 ln.f0, .slice A1 ln.f1.length c1, .int .i64 0, .string ⟨#[]⟩, .string ⟨#[]⟩, .int .i64 0, .int .i64 0, .int .i64 0, .int .i64 0, .int .i64 0, .int .i64 0, .int .i64 0, .slice none 0 0]) rfl (by kernel_rfl) (by kernel_rfl) (by kernel_rfl) (fun _ _ _ h => onlyR_put (by decide) (by decide) h) (Or.inl ⟨by rfl, fun w' hSw => ?_⟩) (by assumption) ?_
                · go_simp
                simp only [Act.put, List.getElem_toArray, List.getElem_cons_zero, List.getElem_cons_succ, List.setIfInBounds_toArray, List.set_cons_zero, List.set_cons_succ]
                refine wpAnyH_ready (rs := [3]) (by kernel_rfl) (by simp) ?_
                refine AllReadyH.cons (o := _) rfl (fun K1 hK1 => ?_) AllReadyH.nil
                rw [if_pos (by rfl)]; go_simp
                refine hK1.out _ _ ?_ (fun hHeld => ?_)
                · exact ⟨(Below.heap_alloc _ _ w.heap.size (blk_lt HO3.out)).trans HO3.out, (Below.heap_alloc _ _ wr.heap.size (blk_lt HBX.out)).trans HBX.out⟩
                clear hK1 K1
                try simp only [Act.put, List.getElem_toArray, List.getElem_cons_zero, List.getElem_cons_succ, List.setIfInBounds_toArray, List.set_cons_zero, List.set_cons_succ]
                rw [show (w3.alloc (.cells #[.int .i64 ln.f0, .slice A1 ln.f1.length c1, .int .i64 0, .string ⟨#[]⟩, .string ⟨#[]⟩, .int .i64 0, .int .i64 0, .int .i64 0, .int .i64 0, .int .i64 0, .int .i64 0, .int .i64 0, .slice none 0 0] 87)).drew = w4 from hw4.out] at hHeld ⊢
                refine wpAnyH_ready (rs := [4]) (by kernel_rfl) (by simp) ?_
                refine AllReadyH.cons (o := _) rfl (fun K1 hK1 => ?_) AllReadyH.nil
                rw [if_pos (by rfl)]
                go_wp2_with fail
                refine HRd.out.mono ?_
                rintro e w5 ⟨he, hc5⟩
                obtain rfl : e = .panicked (thrown E A) := he
                have hp4 : w.heap.size < wr.heap.size := blk_lt hO.out
                have hp5 : w.heap.size + 1 < wr.heap.size := blk_lt hF.out
                have HO5 := Aside0.mk ((hc5.block w.heap.size (by have := HZ4.out; have := HZ3.out; omega) (by have := HZ3.out; omega)).trans hHeld.1)
                have HF5 := Aside0.mk ((hc5.block (w.heap.size + 1) (by have := HZ4.out; have := HZ3.out; omega) (by have := HZ3.out; omega)).trans ((HB34.out.block (w.heap.size + 1) (by have := HZ3.out; omega)).trans HF3.out))
                have HW5 := Aside0.mk (show Below w.heap.size w w5 from hB.out.trans ((HB4.out.trans (hc5.below HB4.out.size (fun j hj => by have := HZ3.out; omega))).mono hB.out.size))
                refine hRp _ _ _ _ _ (fun a h2 h3 hd => ?_)
                show Leaves _ _ a.tmps _ a.defers _ _
                rw [hd]
                refine leaves_cons (f := 50) (args := #[.pointer (some ⟨w.heap.size, 0, none⟩), .pointer (some ⟨w.heap.size + 1, 0, none⟩)]) (by simp) (by simp [go_sem]) ?_
                refine (catch_panicking w.heap.size (w.heap.size + 1) E A _ _ _ [] w5 HO5.out HF5.out (by omega)).mono ?_
                rintro e u' w6 ⟨rfl, rfl, ho6, hf6, hc6⟩
                have hh := HH.out
                rw [HRes.out] at hh
                simp only [Option.some.injEq, Prod.mk.injEq] at hh
                obtain ⟨rfl, rfl, rfl⟩ := hh
                exact ⟨_, results_parse a.tmps w6 w.heap.size (w.heap.size + 1) none 0 0 _ _ h2 h3 ho6 hf6, _, rfl, Kd.S_nil _ _ _ _ _, HW5.out.trans (hc6.below HW5.out.size (fun j hj => by omega))⟩
              · have HRd := Aside0.mk (HRd.out _ hrd)
                have HTk := Aside0.mk htk
                clear hrd htk
                refine wp_onlyQ fun K hK => ?_
                refine wp_region_last_drew (S := (fun w' => w'.heap[w.heap.size]? = some (.cells #[.slice Ao es.length co] 22 (0, 0)) ∧ w'.heap[wr.heap.size]? = some (.cells #[.int .i64 ln.f0, .slice A1 ln.f1.length c1] 84 (0, 0)))) (ds := [7]) (by kernel_rfl) ?_ (fun hHeld => ?_)
                · exact ⟨HO3.out, HBX.out⟩
                refine wpAnyLast_take (i := 0) (v := .slice Ao es.length co) rfl (by kernel_rfl) (by kernel_rfl) (by kernel_rfl) (by kernel_rfl) (by kernel_rfl) (fun _ _ _ h => h) (Or.inl ⟨by rfl, fun w' hSw => ?_⟩) (by assumption) ?_
                · (have hs0 := (blk_cell hSw.1 0).trans rfl; go_simp)
                simp only [Act.put, List.getElem_toArray, List.getElem_cons_zero, List.getElem_cons_succ, List.setIfInBounds_toArray, List.set_cons_zero, List.set_cons_succ]
                refine wpAnyLast_take (i := 1) (v := .agg #[.int .i64 ln.f0, .slice A1 ln.f1.length c1]) rfl (by kernel_rfl) (by kernel_rfl) (by kernel_rfl) (by kernel_rfl) (by kernel_rfl) (fun _ _ _ h => h) (Or.inl ⟨by rfl, fun w' hSw => ?_⟩) (by assumption) ?_
                · (have hs0 := (blk_cell hSw.2 0).trans rfl; have hs1 := (blk_cell hSw.2 1).trans rfl; go_simp)
                simp only [Act.put, List.getElem_toArray, List.getElem_cons_zero, List.getElem_cons_succ, List.setIfInBounds_toArray, List.set_cons_zero, List.set_cons_succ]
                refine wpAnyLast_take (i := 2) (v := .agg #[.int .i64 ln.f0, .slice A1 ln.f1.length c1, .int .i64 0, .string ⟨#[]⟩, .string ⟨#[]⟩, .int .i64 0, .int .i64 0, .int .i64 0, .int .i64 0, .int .i64 0, .int .i64 0, .int .i64 0, .slice none 0 0]) rfl (by kernel_rfl) (by kernel_rfl) (by kernel_rfl) (by kernel_rfl) (by kernel_rfl) (fun _ _ _ h => h) (Or.inl ⟨by rfl, fun w' hSw => ?_⟩) (by assumption) ?_
                · go_simp
                simp only [Act.put, List.getElem_toArray, List.getElem_cons_zero, List.getElem_cons_succ, List.setIfInBounds_toArray, List.set_cons_zero, List.set_cons_succ]
                refine wpAnyLast_ready (rs := [3]) (by kernel_rfl) (by simp) ?_
                refine AllReadyL.cons (o := _) rfl (by decide) (fun K1 hK1 => ?_) AllReadyL.nil
                rw [if_pos (by rfl)]; go_simp
                refine hK1.out _ _ ?_ (fun hHeld => ?_)
                · exact ⟨(Below.heap_alloc _ _ w.heap.size (blk_lt HO3.out)).trans HO3.out, (Below.heap_alloc _ _ wr.heap.size (blk_lt HBX.out)).trans HBX.out⟩
                clear hK1 K1
                try simp only [Act.put, List.getElem_toArray, List.getElem_cons_zero, List.getElem_cons_succ, List.setIfInBounds_toArray, List.set_cons_zero, List.set_cons_succ]
                rw [show (w3.alloc (.cells #[.int .i64 ln.f0, .slice A1 ln.f1.length c1, .int .i64 0, .string ⟨#[]⟩, .string ⟨#[]⟩, .int .i64 0, .int .i64 0, .int .i64 0, .int .i64 0, .int .i64 0, .int .i64 0, .int .i64 0, .slice none 0 0] 87)).drew = w4 from hw4.out] at hHeld ⊢
                have hp4 : w.heap.size < wr.heap.size := blk_lt hO.out
                have hp5 : w.heap.size + 1 < wr.heap.size := blk_lt hF.out
                refine wpAnyLast_ready (rs := [4]) (by kernel_rfl) (by simp) ?_
                refine AllReadyL.cons (o := _) rfl (by decide) (fun K1 hK1 => ?_) AllReadyL.nil
                rw [if_pos (by rfl)]; go_wp2_with fail; refine HRd.out.mono ?_; rintro e w5 ⟨⟨v, he, hRv⟩, hc5⟩; subst he; obtain ⟨Av, cv, rfl⟩ := Kd.R_slice hRv; unfold evV; go_wp2_with fail
                refine hK1.out _ _ ?_ (fun hHeld => ?_)
                · exact ⟨(hc5.block w.heap.size (by have := HZ4.out; have := HZ3.out; omega) (by have := HZ3.out; omega)).trans hHeld.1, (hc5.block wr.heap.size (by have := HZ4.out; have := HZ3.out; omega) (by have := HZ3.out; omega)).trans hHeld.2⟩
                clear hK1 K1
                try simp only [Act.put, List.getElem_toArray, List.getElem_cons_zero, List.getElem_cons_succ, List.setIfInBounds_toArray, List.set_cons_zero, List.set_cons_succ]
                have HO5 := Aside0.mk hHeld.1
                have HX5 := Aside0.mk hHeld.2
                have HF5 := Aside0.mk ((hc5.block (w.heap.size + 1) (by have := HZ4.out; have := HZ3.out; omega) (by have := HZ3.out; omega)).trans ((HB34.out.block (w.heap.size + 1) (by have := HZ3.out; omega)).trans HF3.out))
                have HBr5 := Aside0.mk (show Below wr.heap.size wr w5 from HB4.out.trans (hc5.below HB4.out.size (fun j hj => by have := HZ3.out; omega)))
                have HM5 := Aside0.mk (show Kd.M k38 w5 w.heap.size (fun j => w4.heap.size ≤ j) ev [.int .i64 ev.f0, .string ev.f1, .string ev.f2, .int .i64 ev.f3.f0, .int .i64 ev.f3.f1, .int .i64 ev.f3.f2, .int .i64 ev.f3.f3.f0, .int .i64 ev.f3.f3.f1, .int .i64 ev.f4.f0, .int .i64 ev.f4.f1, .slice Av ev.f4.f2.length cv] from k38_mkM w5 w.heap.size _ ev (Kd.R_lower (Kd.R_mono (Kd.R_bound hRv) (fun j hj => hj.2.1)) (Nat.le_trans hB.out.size HB4.out.size)))
                have HOwn := Aside0.mk (fun j (hj : wr.heap.size ≤ j) (he : some j = (Value.slice Ao es.length co).ownBlock) => (absurd (Kd.S_lt hS.out j he.symm) (by omega) : False))
                have HS5 := Aside0.mk (show Kd.S k38 38 w5 w.heap.size (fun j => w2.heap.size ≤ j ∧ ¬ w4.heap.size ≤ j) (.slice Ao es.length co) es from Kd.S_mono (Kd.S_old hS.out HBr5.out) (fun j hj => ⟨hj.1, by have := HB4.out.size; have := hj.2; omega⟩))
                have HW5 := Aside0.mk (show Below w.heap.size w w5 from hB.out.trans (HBr5.out.mono hB.out.size))
                have HLen := Aside0.mk (show (es.length + 1) * 120 ≤ 140737488355328 by have := hel.out; omega)
                clear hRv hc5
                refine wpAnyLast_ready (rs := [5]) (by kernel_rfl) (by simp) ?_
                refine AllReadyL.cons (o := _) rfl (by decide) (fun K1 hK1 => ?_) AllReadyL.nil
                rw [if_pos (by rfl)]; go_simp
                refine hK1.out _ _ ?_ (fun hHeld => ?_)
                · exact ⟨(Below.heap_alloc _ _ w.heap.size (blk_lt HO5.out)).trans HO5.out, (Below.heap_alloc _ _ wr.heap.size (blk_lt HX5.out)).trans HX5.out⟩
                clear hK1 K1
                try simp only [Act.put, List.getElem_toArray, List.getElem_cons_zero, List.getElem_cons_succ, List.setIfInBounds_toArray, List.set_cons_zero, List.set_cons_succ]
                have hz5 : Aside0 ((w5.alloc (.cells ([.int .i64 ev.f0, .string ev.f1, .string ev.f2, .int .i64 ev.f3.f0, .int .i64 ev.f3.f1, .int .i64 ev.f3.f2, .int .i64 ev.f3.f3.f0, .int .i64 ev.f3.f3.f1, .int .i64 ev.f4.f0, .int .i64 ev.f4.f1, .slice Av ev.f4.f2.length cv] : List Value).toArray 38)) = w5.alloc (.cells ([.int .i64 ev.f0, .string ev.f1, .string ev.f2, .int .i64 ev.f3.f0, .int .i64 ev.f3.f1, .int .i64 ev.f3.f2, .int .i64 ev.f3.f3.f0, .int .i64 ev.f3.f3.f1, .int .i64 ev.f4.f0, .int .i64 ev.f4.f1, .slice Av ev.f4.f2.length cv] : List Value).toArray 38)) := ⟨rfl⟩
                refine wpAnyLast_ready (rs := [6]) (by kernel_rfl) (by simp) ?_
                refine AllReadyL.cons (o := _) rfl (by decide) (fun K1 hK1 => ?_) AllReadyL.nil
                refine Kd.S_append_step k38 (w0 := w) w.heap.size (by rfl) (.tmp 23) (.tmp 28) 22 38 zeroEv 120 (by rfl) Tryz.underlying22 infoEv (by rfl) (by decide) (by decide) (.slice Ao es.length co) es ev [.int .i64 ev.f0, .string ev.f1, .string ev.f2, .int .i64 ev.f3.f0, .int .i64 ev.f3.f1, .int .i64 ev.f3.f2, .int .i64 ev.f3.f3.f0, .int .i64 ev.f3.f3.f1, .int .i64 ev.f4.f0, .int .i64 ev.f4.f1, .slice Av ev.f4.f2.length cv] (fun j => w2.heap.size ≤ j) (fun j => w4.heap.size ≤ j) (by rfl) (by rfl) HM5.out (fun j hj => ⟨by have := HB4.out.size; have := hC.out.size; omega, fun he => HOwn.out j (Nat.le_trans HB4.out.size hj) he⟩) (fun j hj => by have := HBr5.out.size; have := hC.out.size; omega) HS5.out HW5.out HW5.out.size HLen.out ?_
                intro v6 w6 hS6 hb6 hg6 _
                obtain ⟨A6, c6, rfl⟩ := Kd.S_slice hS6
                rw [show (es ++ [ev]).length = es.length + 1 from by simp] at hS6
                have HS6 := Aside0.mk hS6
                have HB6 := Aside0.mk hb6
                have hO6 : w6.heap[w.heap.size]? = some (.cells #[.slice Ao es.length co] 22 (0, 0)) := (hg6.block w.heap.size (by have := HBr5.out.size; omega) (fun he => by have h7 := (Kd.S_R hS.out).1 w.heap.size he.symm; have := blk_lt HO2.out; omega)).trans HO5.out
                have HF6 := Aside0.mk ((hg6.block (w.heap.size + 1) (by have := HBr5.out.size; omega) (fun he => by have h7 := (Kd.S_R hS.out).1 (w.heap.size + 1) he.symm; have := blk_lt HF2.out; omega)).trans HF5.out)
                have HX6 := Aside0.mk ((hg6.block wr.heap.size (blk_lt HX5.out) (fun he => HOwn.out wr.heap.size (Nat.le_refl _) he)).trans HX5.out)
                have HC6 := Aside0.mk ((hC.out.then_below HBr5.out).grown hg6 (fun j hj => .inr ((Kd.S_R hS.out).1 j hj)))
                have HO6 := Aside0.mk hO6
                have qc := (blk_cell hO6 0).trans rfl
                have qf := blk_frozen hO6 0
                clear hS6 hb6 hg6 hO6
                refine hK1.out _ _ ?_ (fun hHeld => ?_)
                · exact ⟨HO6.out, HX6.out⟩
                clear hK1 K1
                try simp only [Act.put, List.getElem_toArray, List.getElem_cons_zero, List.getElem_cons_succ, List.setIfInBounds_toArray, List.set_cons_zero, List.set_cons_succ]
                refine wpAnyLast_ready (rs := [7]) (by kernel_rfl) (by simp) ?_
                refine AllReadyL.cons_last (o := _) rfl (by decide) (fun K1 hK1 => ?_) AllReadyL.nil
                go_simp
                refine hK1.out _ _ ?_
                clear hK1 K1
                try simp only [Act.put, List.getElem_toArray, List.getElem_cons_zero, List.getElem_cons_succ, List.setIfInBounds_toArray, List.set_cons_zero, List.set_cons_succ]
                refine wpAnyLast_done (by kernel_rfl) ?_ _
                show K _ _
                refine hK _ _ ?_
                clear hK K
                go_wp2
                go_roundg (gk - 1)
                case measure => have := hg.out; omega
                case rel => exact ⟨k + 1, es ++ [ev], .slice A6 (es.length + 1) c6, by omega, ⟨by have := hg.out; omega⟩, by go_num, HTk, ⟨Kd.S_step HS6.out (fun j hj _ => Below.heap_setCell _ ⟨w.heap.size, 0, none⟩ _ j (show j ≠ w.heap.size by have := blk_lt HO2.out; omega))⟩, ⟨blk_put HO6.out 0 _ rfl⟩, ⟨(Below.heap_setCell _ ⟨w.heap.size, 0, none⟩ _ (w.heap.size + 1) (by simp)).trans HF6.out⟩, ⟨below_set HB6.out (Nat.le_refl _)⟩, ⟨HC6.out.set_ (p := ⟨w.heap.size, 0, none⟩) (.inl rfl) _⟩, ⟨by have := hel.out; simp; omega⟩⟩
            · have b0 := decide_eq_false (show ¬ ((k : Nat) : Int) < (ls.length : Int) by omega)
              obtain ⟨Ao, co, rfl⟩ := Kd.S_slice hS.out
              have hfin := HH.out
              have het := hes.out
              rw [show ls.take k = ls from List.take_of_length_le (by omega), HEV.out] at het
              simp only [Option.some.injEq] at het
              rw [het] at hfin
              simp only [Option.some.injEq, Prod.mk.injEq] at hfin
              obtain ⟨rfl, rfl, rfl⟩ := hfin
              clear het
              go_wp2_with fail
              refine wp_onlyQ fun K hK => ?_
              refine wp_region_held_drew (S := (fun w' => w'.heap[w.heap.size]? = some (.cells #[.slice Ao es.length co] 22 (0, 0)) ∧ w'.heap[w.heap.size + 1]? = some (.cells #[.int .i64 0, .int .i64 P] 44 (0, 0)))) (by kernel_rfl) ?_ (fun hHeld => ?_)
              · exact ⟨hO.out, hF.out⟩
              refine wpAnyH_take (i := 0) (v := .slice Ao es.length co) rfl (by kernel_rfl) (by kernel_rfl) (by kernel_rfl) (fun _ _ _ h => h) (Or.inl ⟨by rfl, fun w' hSw => ?_⟩) (by assumption) ?_
              · (have hs0 := (blk_cell hSw.1 0).trans rfl; go_simp)
              simp only [Act.put, List.getElem_toArray, List.getElem_cons_zero, List.getElem_cons_succ, List.setIfInBounds_toArray, List.set_cons_zero, List.set_cons_succ]
              refine wpAnyH_take (i := 1) (v := .agg #[.int .i64 0, .int .i64 P]) rfl (by kernel_rfl) (by kernel_rfl) (by kernel_rfl) (fun _ _ _ h => h) (Or.inl ⟨by rfl, fun w' hSw => ?_⟩) (by assumption) ?_
              · (have hs0 := (blk_cell hSw.2 0).trans rfl; have hs1 := (blk_cell hSw.2 1).trans rfl; go_simp)
              simp only [Act.put, List.getElem_toArray, List.getElem_cons_zero, List.getElem_cons_succ, List.setIfInBounds_toArray, List.set_cons_zero, List.set_cons_succ]
              have qc := (blk_cell hO.out 0).trans rfl
              have qf := blk_frozen hO.out 0
              refine wpAnyH_ready (rs := [2]) (by kernel_rfl) (by simp) ?_
              refine AllReadyH.cons (o := _) rfl (fun K1 hK1 => ?_) AllReadyH.nil
              rw [if_pos (by rfl)]; go_simp
              refine hK1.out _ _ ?_ (fun hHeld => ?_)
              · exact ⟨blk_put hO.out 0 _ rfl, (Below.heap_setCell _ ⟨w.heap.size, 0, none⟩ _ (w.heap.size + 1) (by simp)).trans hHeld.2⟩
              clear hK1 K1
              try simp only [Act.put, List.getElem_toArray, List.getElem_cons_zero, List.getElem_cons_succ, List.setIfInBounds_toArray, List.set_cons_zero, List.set_cons_succ]
              obtain ⟨w3, hw3⟩ : ∃ w3 : World, (wr.setCell ⟨w.heap.size, 0, none⟩ (.slice Ao es.length co)).drew = w3 := ⟨_, rfl⟩
              have HB3 := Aside0.mk (show Below w.heap.size w w3 by rw [← hw3]; exact (below_set hB.out (Nat.le_refl _)).drew)
              have HS3 := Aside0.mk (show Kd.S k38 38 w3 w.heap.size (fun j => w2.heap.size ≤ j) (.slice Ao es.length co) es by rw [← hw3]; exact Kd.S_step hS.out (fun j hj _ => Below.heap_setCell wr ⟨w.heap.size, 0, none⟩ _ j (show j ≠ w.heap.size by have := blk_lt HO2.out; omega)))
              rw [hw3] at hHeld ⊢
              have HH3 := Aside0.mk hHeld
              have m0 := (blk_cell hHeld.2 0).trans rfl
              have n0 := blk_frozen hHeld.2 0
              have hf4 := blk_put hHeld.2 0 (.int .i64 0) rfl
              have m1 := (blk_cell hf4 1).trans rfl
              have n1 := blk_frozen hf4 1
              have HF5 := Aside0.mk (blk_put hf4 1 (.int .i64 P) rfl)
              clear hw3 qc qf hf4
              refine wpAnyH_ready (rs := [3]) (by kernel_rfl) (by simp) ?_
              refine AllReadyH.cons (o := _) rfl (fun K1 hK1 => ?_) AllReadyH.nil
              rw [if_pos (by rfl)]; go_simp
              refine hK1.out _ _ ?_ (fun hHeld => ?_)
              · exact ⟨(Below.heap_setCell _ ⟨w.heap.size + 1, 1, none⟩ _ w.heap.size (by simp)).trans ((Below.heap_setCell _ ⟨w.heap.size + 1, 0, none⟩ _ w.heap.size (by simp)).trans hHeld.1), HF5.out⟩
              clear hK1 K1
              try simp only [Act.put, List.getElem_toArray, List.getElem_cons_zero, List.getElem_cons_succ, List.setIfInBounds_toArray, List.set_cons_zero, List.set_cons_succ]
              refine wpAnyH_done (by kernel_rfl) ?_ _
              show K _ _
              refine hK _ _ ?_
              clear hK K
              go_wp2_with fail
              refine leaves_cons (f := 50) (args := #[.pointer (some ⟨w.heap.size, 0, none⟩), .pointer (some ⟨w.heap.size + 1, 0, none⟩)]) (by simp) (by simp [go_sem]) ?_
              refine (catch_idle ⟨w.heap.size, 0, none⟩ ⟨w.heap.size + 1, 0, none⟩ _).mono ?_
              rintro e u' w6 ⟨rfl, rfl, rfl⟩
              exact ⟨_, results_parse _ _ w.heap.size (w.heap.size + 1) Ao es.length co 0 P rfl rfl ((Below.heap_setCell _ ⟨w.heap.size + 1, 1, none⟩ _ w.heap.size (by simp)).trans ((Below.heap_setCell _ ⟨w.heap.size + 1, 0, none⟩ _ w.heap.size (by simp)).trans HH3.out.1)) HF5.out, _, rfl, Kd.S_mono (Kd.S_step HS3.out (fun j hj _ => (Below.heap_setCell _ ⟨w.heap.size + 1, 1, none⟩ _ j (show j ≠ w.heap.size + 1 by have := blk_lt HF2.out; omega)).trans (Below.heap_setCell _ ⟨w.heap.size + 1, 0, none⟩ _ j (show j ≠ w.heap.size + 1 by have := blk_lt HF2.out; omega)))) (fun _ _ => trivial), below_set (below_set HB3.out (by omega)) (by omega)⟩
      · rw [if_neg hok] at h
        cases h
    · rw [if_neg ce] at h
      simp only [Option.some.injEq, Prod.mk.injEq] at h
      obtain ⟨rfl, rfl, rfl⟩ := h
      go_wp2_with fail
      refine wp_onlyQ fun K hK => ?_
      refine wp_region_held_drew (S := (fun w' => w'.heap[w.heap.size + 1]? = some (.cells #[.int .i64 E, .int .i64 P] 44 (0, 0)))) (by kernel_rfl) ?_ (fun hHeld => ?_)
      · exact HF2.out
      refine wpAnyH_take (i := 0) (v := .agg #[.int .i64 E, .int .i64 P]) rfl (by kernel_rfl) (by kernel_rfl) (by kernel_rfl) (fun _ _ _ h => h) (Or.inl ⟨by rfl, fun w' hSw => ?_⟩) (by assumption) ?_
      · (have hs0 := (blk_cell hSw 0).trans rfl; have hs1 := (blk_cell hSw 1).trans rfl; go_simp)
      simp only [Act.put, List.getElem_toArray, List.getElem_cons_zero, List.getElem_cons_succ, List.setIfInBounds_toArray, List.set_cons_zero, List.set_cons_succ]
      have qc := (blk_cell HO2.out 0).trans rfl
      have qf := blk_frozen HO2.out 0
      refine wpAnyH_ready (rs := [1]) (by kernel_rfl) (by simp) ?_
      refine AllReadyH.cons (o := _) rfl (fun K1 hK1 => ?_) AllReadyH.nil
      rw [if_pos (by rfl)]; go_simp
      refine hK1.out _ _ ?_ (fun hHeld => ?_)
      · exact (Below.heap_setCell _ ⟨w.heap.size, 0, none⟩ _ (w.heap.size + 1) (by simp)).trans hHeld
      clear hK1 K1
      try simp only [Act.put, List.getElem_toArray, List.getElem_cons_zero, List.getElem_cons_succ, List.setIfInBounds_toArray, List.set_cons_zero, List.set_cons_succ]
      obtain ⟨w3, hw3⟩ : ∃ w3 : World, (w2.setCell ⟨w.heap.size, 0, none⟩ (.slice none 0 0)).drew = w3 := ⟨_, rfl⟩
      have HO3 := Aside0.mk (show w3.heap[w.heap.size]? = some (.cells #[.slice none 0 0] 22 (0, 0)) by rw [← hw3]; exact blk_put HO2.out 0 _ rfl)
      have HB3 := Aside0.mk (show Below w.heap.size w w3 by rw [← hw3]; exact (below_set HB2.out (Nat.le_refl _)).drew)
      rw [hw3] at hHeld ⊢
      have hf3 := hHeld
      clear hw3 qc qf
      have m0 := (blk_cell hf3 0).trans rfl
      have n0 := blk_frozen hf3 0
      have hf4 := blk_put hf3 0 (.int .i64 E) rfl
      have m1 := (blk_cell hf4 1).trans rfl
      have n1 := blk_frozen hf4 1
      have HF5 := Aside0.mk (blk_put hf4 1 (.int .i64 P) rfl)
      clear hf3 hf4
      refine wpAnyH_ready (rs := [2]) (by kernel_rfl) (by simp) ?_
      refine AllReadyH.cons (o := _) rfl (fun K1 hK1 => ?_) AllReadyH.nil
      rw [if_pos (by rfl)]; go_simp
      refine hK1.out _ _ ?_ (fun hHeld => ?_)
      · exact HF5.out
      clear hK1 K1
      try simp only [Act.put, List.getElem_toArray, List.getElem_cons_zero, List.getElem_cons_succ, List.setIfInBounds_toArray, List.set_cons_zero, List.set_cons_succ]
      refine wpAnyH_done (by kernel_rfl) ?_ _
      show K _ _
      refine hK _ _ ?_
      clear hK K
      go_wp2_with fail
      refine ⟨_, results_parse _ _ w.heap.size (w.heap.size + 1) none 0 0 E P rfl rfl ((Below.heap_setCell _ ⟨w.heap.size + 1, 1, none⟩ _ w.heap.size (by simp)).trans ((Below.heap_setCell _ ⟨w.heap.size + 1, 0, none⟩ _ w.heap.size (by simp)).trans HO3.out)) HF5.out, _, rfl, Kd.S_nil _ _ _ _ _, below_set (below_set HB3.out (by omega)) (by omega)⟩
end Go.Proofs.YtkjnbfjbdlcehaaGreatDoor.P
