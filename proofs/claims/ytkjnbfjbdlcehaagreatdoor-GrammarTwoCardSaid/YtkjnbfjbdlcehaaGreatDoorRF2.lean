/- Two range laws more: a loop whose body holds a loop (it is told of its own record), and a loop in a round of another; the iterator may keep a state of its own in memory. Over any program. -/
import Derived.Test.YtkjnbfjbdlcehaaGreatDoorRF
namespace Go.Proofs.YtkjnbfjbdlcehaaGreatDoor.P
open Go.RowKit

theorem range_lawH {α : Type} {P : Program} {n : Nat} {g : Operand} {ps : Array Tmp} {assign body : Code} {Q : Exit → Act → World → Prop} {a : Act} {w : World} {gf : Nat} {lb : Array Value}
    (hg : a.eval g = .func (.func gf) #[] lb) (eg : ∀ args w, (callFunc gf args).run P w = .ok (.enter gf args) w)
    {encs : α → Array Value} {Kp Tn : World → World → Prop} {R : List α → α → Prop} {S Sp : List α → Prop} {w0 : World} (hseq : SeqT P gf lb encs Kp Tn R S Sp w0) (hb0 : Below w0.heap.size w0 w)
    (hKt : ∀ {A B C : World}, Kp A B → Kp B C → Kp A C) (hKb : ∀ (W : World) (l : Nat) (o o' : Obj), w.heap.size ≤ l → W.heap[l]? = some o → o.isCells = false → o.isWalk = false → Kp W (W.putObj l o'))
    (hTn : ∀ A B, Tn A B → ∀ k o, w.heap.size ≤ k → A.heap[k]? = some o → B.heap[k]? = some o) (hps : ∀ x, (encs x).size = ps.size)
    (I : List α → World → Prop) (Ix : Code → List α → World → Prop) (hI : OwnFrom w.heap.size I) (hIx : ∀ c, OwnFrom w.heap.size (Ix c)) (hIT : ∀ s A B, I s A → Tn A B → I s B) (hIxT : ∀ c s A B, Ix c s A → Tn A B → Ix c s B) (h0 : I [] w) (a₁ : α → Act)
    (hassign : ∀ (l : Nat) (x : α) (W : World) (K : Act → World → Prop), K (a₁ x) W →
      assign.wpIn (Fence.wide.inRound l) 0 P (Exit.then K (fun _ _ _ => False)) { tmps := (ps.zip (encs x)).foldl (fun t (p, v) => t.setIfInBounds p v) a.tmps, defers := [] } W)
    (hbody : ∀ (l : Nat) (pre : List α) (x : α) (W : World), w.heap.size ≤ l → (∃ r, W.heap[l]? = some (.loop r)) → I pre W → R pre x → body.wpIn (Fence.wide.inRound l) 0 P (roundEnds w.heap.size Kp I Ix (pre ++ [x]) W) (a₁ x) W)
    (hdone : ∀ (D : Nat) (xs : List α) (W : World), w.heap.size ≤ D → S xs → I xs W → W.heap[D]? = some (.deferred (some [])) → Q .normal { a with defers := { target := .collected D, args := #[] } :: a.defers } W)
    (hstop : ∀ (D : Nat) (c : Code) (pre : List α) (W : World), w.heap.size ≤ D → Sp pre → Ix c pre W → W.heap[D]? = some (.deferred (some [])) → c.wpIn Fence.wide n P Q { a with defers := { target := .collected D, args := #[] } :: a.defers } W) :
    (Code.rangeFunc g ps assign body).wpIn Fence.wide n P Q a w := by
  refine wpIn_rangeFunc fun fn hfn => ?_
  obtain ⟨rec, hrec⟩ : ∃ rec : LoopState → Option Code → Loop, rec = fun st pe => { state := st, pending := pe, fn, tmps := a.tmps, params := ps, assign, body, defers := w.heap.size } := ⟨_, rfl⟩
  obtain ⟨W1, hW1⟩ : ∃ W1, (w.alloc (.deferred (some []))).alloc (.loop (rec .ready none)) = W1 := ⟨_, rfl⟩
  have hsz : w.heap.size + 1 = (w.alloc (.deferred (some []))).heap.size := by rw [World.size_alloc]
  have b1 : Booked rec w.heap.size .ready none W1 := by
    subst hW1
    constructor
    · rw [hsz]; exact World.alloc_heap_new _ _
    · exact (Below.heap_alloc _ _ _ (by simp)).trans (World.alloc_heap_new w _)
  have i1 : I [] W1 := by subst hW1; exact hI.alloc _ (hI.alloc _ h0)
  have hb1 : Below w0.heap.size w0 W1 := by
    subst hW1
    exact hb0.trans ((((Below.refl _ w).alloc (Nat.le_refl _) _).alloc (by simp) _).mono hb0.size)
  -- a record that is put anew
  have rebook : ∀ (st st' : LoopState) (pe pe' : Option Code) (W : World), Booked rec w.heap.size st pe W → Booked rec w.heap.size st' pe' (W.putObj (w.heap.size + 1) (.loop (rec st' pe'))) := fun st st' pe pe' W h =>
    ⟨World.putObj_heap_same (Array.getElem?_eq_some_iff.1 h.book).1, (World.putObj_heap_other (by omega)).trans h.defs⟩
  have abide : ∀ (st : LoopState) (pe : Option Code) (A B : World), Booked rec w.heap.size st pe A → Tn A B → Booked rec w.heap.size st pe B := fun st pe A B h t =>
    ⟨hTn A B t _ _ (by omega) h.book, hTn A B t _ _ (Nat.le_refl _) h.defs⟩
  have busy : ∀ st pe, ({ rec st pe with state := .busy } : Loop) = rec .busy pe := fun st pe => by rw [hrec]
  refine ⟨w.heap.size + 1, [{ target := .collected w.heap.size, args := #[] }], W1, { target := .fn (.func gf) lb, args := #[.func (.yield (w.heap.size + 1)) #[] #[]] }, W1, gf,
    #[.func (.yield (w.heap.size + 1)) #[] #[]] ++ lb, W1, ?_, ?_, fun _ _ => trivial, ?_, fun h => by simp [Fence.wide] at h, ?_⟩
  · subst hW1; subst hrec; exact run_enterLoop_outer _ _ _ _ _
  · simp only [resolve, hg]
    simp [go_sem]
  · simp [invoke, go_sem, eg]
  · refine (CallsIn.mono (callsIn_wide.2 (callsIn_wide.1 (hseq (w.heap.size + 1) (fun pre W => I pre W ∧ Booked rec w.heap.size .ready none W) (fun pre W => ∃ c, Ix c pre W ∧ Booked rec w.heap.size .done (some c) W) W1 hb1
      (fun s A B h t => ⟨hIT s A B h.1 t, abide _ _ A B h.2 t⟩) (fun s A B ⟨c, hc, hb⟩ t => ⟨c, hIxT c s A B hc t, abide _ _ A B hb t⟩) ?_ ⟨i1, b1⟩))) ?_)
    · rintro pre x W ⟨hi, hb⟩ hR
      have hy := run_yield (P := P) (args := encs x) hb.book (by rw [hrec]; exact hps x)
      rw [hrec] at hy
      refine ⟨fn, _, assign, body, hy, roundIn_of_wpIn trivial (hassign _ x W _ ⟨_, run_beginRound hb.book (by rw [hrec]), ?_⟩)⟩
      rw [busy]
      have hb2 := rebook _ .busy _ none W hb
      have kp2 : Kp W (W.putObj (w.heap.size + 1) (.loop (rec .busy none))) := hKb _ _ _ _ (by omega) hb.book rfl rfl
      refine wpIn_mono (hbody _ pre x _ (by omega) ⟨_, hb2.book⟩ (hI.putObj _ hi (by omega) hb.book rfl) hR) ?_
      have ends : ∀ (jump : Option Code) (W3 : World), KeepsFrom w.heap.size (W.putObj (w.heap.size + 1) (.loop (rec .busy none))) W3 →
          Booked rec w.heap.size .busy none W3 ∧ (Instr.endRound (w.heap.size + 1) jump).run P W3 = .ok (.bool jump.isNone) (W3.putObj (w.heap.size + 1) (.loop (rec (if jump.isNone then .ready else .done) jump))) := fun jump W3 hk => by
        have b3 : Booked rec w.heap.size .busy none W3 := ⟨hk.same _ _ (by omega) hb2.book rfl, hk.same _ _ (Nat.le_refl _) hb2.defs rfl⟩
        have := run_endRound (P := P) jump b3.book
        rw [hrec] at this ⊢
        exact ⟨by rw [hrec] at b3; exact b3, this⟩
      have leaves : ∀ (c : Code) (W3 : World), KeepsFrom w.heap.size (W.putObj (w.heap.size + 1) (.loop (rec .busy none))) W3 ∧ Ix c (pre ++ [x]) W3 →
          ∃ v w', (Instr.endRound (w.heap.size + 1) (some c)).run P W3 = .ok v w' ∧ ((Ending.returned v = .returned (.bool true) ∧ (I (pre ++ [x]) w' ∧ Booked rec w.heap.size .ready none w') ∧ Kp W w') ∨ (Ending.returned v = .returned (.bool false) ∧ ∃ c, Ix c (pre ++ [x]) w' ∧ Booked rec w.heap.size .done (some c) w')) := fun c W3 ⟨hk, hi3⟩ => by
        obtain ⟨b3, hr⟩ := ends (some c) W3 hk
        exact ⟨_, _, hr, .inr ⟨rfl, c, (hIx c).putObj _ hi3 (by omega) b3.book rfl, rebook _ .done _ (some c) W3 b3⟩⟩
      rintro e a3 W3 hp
      cases e with
      | normal =>
        obtain ⟨hk, hkp, hi3⟩ := hp
        obtain ⟨b3, hr⟩ := ends none W3 hk
        exact ⟨_, _, hr, .inl ⟨rfl, ⟨hI.putObj _ hi3 (by omega) b3.book rfl, rebook _ .ready _ none W3 b3⟩, hKt (hKt kp2 hkp) (hKb _ _ _ _ (by omega) b3.book rfl rfl)⟩⟩
      | ret => exact leaves _ W3 hp
      | exit id => exact leaves _ W3 hp
      | goto t => exact leaves _ W3 hp
      | panic ch => exact hp.elim
      | outgrown => exact hp.elim
    · have over : ∀ (st : LoopState) (pe : Option Code) (W : World), st ≠ .busy → Booked rec w.heap.size st pe W → (Instr.endLoop (w.heap.size + 1)).run P W = .ok pe (W.putObj (w.heap.size + 1) (.loop (rec .exhausted pe))) := fun st pe W hst hb => by
        have := run_endLoop (P := P) hb.book (by rw [hrec]; exact hst)
        rw [hrec] at this ⊢
        exact this
      rintro e W2 ⟨⟨v, rfl⟩, (⟨xs, hS, hi, hb⟩ | ⟨pre, hSp, c, hi, hb⟩)⟩
      · exact ⟨none, _, over _ _ W2 (by simp) hb, hdone _ xs _ (Nat.le_refl _) hS (hI.putObj _ hi (by omega) hb.book rfl) ((World.putObj_heap_other (by omega)).trans hb.defs)⟩
      · exact ⟨some c, _, over _ _ W2 (by simp) hb, hstop _ c pre _ (Nat.le_refl _) hSp ((hIx c).putObj _ hi (by omega) hb.book rfl) ((World.putObj_heap_other (by omega)).trans hb.defs)⟩

/-- The loop's record at block l (a loop within a round: its rounds' deferred calls are the outer loop's). -/
theorem range_lawN {α : Type} {P : Program} {n : Nat} {g : Operand} {ps : Array Tmp} {assign body : Code} {Q : Exit → Act → World → Prop} {a : Act} {w : World} {gf : Nat} {lb : Array Value} {l₀ : Nat} {r₀ : Loop} (hl₀ : w.heap[l₀]? = some (.loop r₀))
    (hg : a.eval g = .func (.func gf) #[] lb) (eg : ∀ args w, (callFunc gf args).run P w = .ok (.enter gf args) w)
    {encs : α → Array Value} {Kp Tn : World → World → Prop} {R : List α → α → Prop} {S Sp : List α → Prop} {w0 : World} (hseq : SeqT P gf lb encs Kp Tn R S Sp w0) (hb0 : Below w0.heap.size w0 w)
    (hKt : ∀ {A B C : World}, Kp A B → Kp B C → Kp A C) (hKb : ∀ (W : World) (l : Nat) (o o' : Obj), w.heap.size ≤ l → W.heap[l]? = some o → o.isCells = false → o.isWalk = false → Kp W (W.putObj l o'))
    (hTn : ∀ A B, Tn A B → ∀ k o, w.heap.size ≤ k → A.heap[k]? = some o → B.heap[k]? = some o) (hps : ∀ x, (encs x).size = ps.size)
    (I : List α → World → Prop) (Ix : Code → List α → World → Prop) (hI : OwnFrom w.heap.size I) (hIx : ∀ c, OwnFrom w.heap.size (Ix c)) (hIT : ∀ s A B, I s A → Tn A B → I s B) (hIxT : ∀ c s A B, Ix c s A → Tn A B → Ix c s B) (h0 : I [] w) (a₁ : α → Act)
    (hassign : ∀ (l : Nat) (x : α) (W : World) (K : Act → World → Prop), K (a₁ x) W →
      assign.wpIn (Fence.wide.inRound l) 0 P (Exit.then K (fun _ _ _ => False)) { tmps := (ps.zip (encs x)).foldl (fun t (p, v) => t.setIfInBounds p v) a.tmps, defers := [] } W)
    (hbody : ∀ (l : Nat) (pre : List α) (x : α) (W : World), I pre W → R pre x → body.wpIn (Fence.wide.inRound l) 0 P (roundEnds w.heap.size Kp I Ix (pre ++ [x]) W) (a₁ x) W)
    (hdone : ∀ (xs : List α) (W : World), S xs → I xs W → Q .normal a W)
    (hstop : ∀ (c : Code) (pre : List α) (W : World), Sp pre → Ix c pre W → c.wpIn (Fence.wide.inRound l₀) n P Q a W) :
    (Code.rangeFunc g ps assign body).wpIn (Fence.wide.inRound l₀) n P Q a w := by
  refine wpIn_rangeFunc fun fn hfn => ?_
  rw [show (Fence.wide.inRound l₀).round = some l₀ from rfl]
  obtain ⟨rec, hrec⟩ : ∃ rec : LoopState → Option Code → Loop, rec = fun st pe => { state := st, pending := pe, fn, tmps := a.tmps, params := ps, assign, body, defers := r₀.defers } := ⟨_, rfl⟩
  obtain ⟨W1, hW1⟩ : ∃ W1, w.alloc (.loop (rec .ready none)) = W1 := ⟨_, rfl⟩
  have b1 : W1.heap[w.heap.size]? = some (.loop (rec .ready none)) := by subst hW1; exact World.alloc_heap_new w _
  have i1 : I [] W1 := by subst hW1; exact hI.alloc _ h0
  have hb1 : Below w0.heap.size w0 W1 := by
    subst hW1
    exact hb0.trans (((Below.refl _ w).alloc (Nat.le_refl _) _).mono hb0.size)
  have rebook : ∀ (st st' : LoopState) (pe pe' : Option Code) (W : World), W.heap[w.heap.size]? = some (.loop (rec st pe)) → (W.putObj w.heap.size (.loop (rec st' pe'))).heap[w.heap.size]? = some (.loop (rec st' pe')) := fun st st' pe pe' W h =>
    World.putObj_heap_same (Array.getElem?_eq_some_iff.1 h).1
  have busy : ∀ st pe, ({ rec st pe with state := .busy } : Loop) = rec .busy pe := fun st pe => by rw [hrec]
  refine ⟨w.heap.size, [], W1, { target := .fn (.func gf) lb, args := #[.func (.yield w.heap.size) #[] #[]] }, W1, gf,
    #[.func (.yield w.heap.size) #[] #[]] ++ lb, W1, ?_, ?_, fun _ _ => trivial, ?_, fun h => by simp [Fence.wide, Fence.inRound] at h, ?_⟩
  · subst hW1; subst hrec; exact run_enterLoop_inner hl₀ _ _ _ _ _
  · simp only [resolve, hg]
    simp [go_sem]
  · simp [invoke, go_sem, eg]
  · refine (CallsIn.mono (CallsIn.inRound l₀ (callsIn_wide.2 (callsIn_wide.1 (hseq w.heap.size (fun pre W => I pre W ∧ W.heap[w.heap.size]? = some (.loop (rec .ready none))) (fun pre W => ∃ c, Ix c pre W ∧ W.heap[w.heap.size]? = some (.loop (rec .done (some c)))) W1 hb1
      (fun s A B h t => ⟨hIT s A B h.1 t, hTn A B t _ _ (Nat.le_refl _) h.2⟩) (fun s A B ⟨c, hc, hb⟩ t => ⟨c, hIxT c s A B hc t, hTn A B t _ _ (Nat.le_refl _) hb⟩) ?_ ⟨i1, b1⟩)))) ?_)
    · rintro pre x W ⟨hi, hb⟩ hR
      have hy := run_yield (P := P) (args := encs x) hb (by rw [hrec]; exact hps x)
      rw [hrec] at hy
      refine ⟨fn, _, assign, body, hy, roundIn_of_wpIn trivial (hassign _ x W _ ⟨_, run_beginRound hb (by rw [hrec]), ?_⟩)⟩
      rw [busy]
      have hb2 := rebook _ .busy _ none W hb
      have kp2 : Kp W (W.putObj w.heap.size (.loop (rec .busy none))) := hKb _ _ _ _ (Nat.le_refl _) hb rfl rfl
      refine wpIn_mono (hbody _ pre x _ (hI.putObj _ hi (Nat.le_refl _) hb rfl) hR) ?_
      have ends : ∀ (jump : Option Code) (W3 : World), KeepsFrom w.heap.size (W.putObj w.heap.size (.loop (rec .busy none))) W3 →
          W3.heap[w.heap.size]? = some (.loop (rec .busy none)) ∧ (Instr.endRound w.heap.size jump).run P W3 = .ok (.bool jump.isNone) (W3.putObj w.heap.size (.loop (rec (if jump.isNone then .ready else .done) jump))) := fun jump W3 hk => by
        have b3 : W3.heap[w.heap.size]? = some (.loop (rec .busy none)) := hk.same _ _ (Nat.le_refl _) hb2 rfl
        have := run_endRound (P := P) jump b3
        rw [hrec] at this ⊢
        exact ⟨by rw [hrec] at b3; exact b3, this⟩
      have leaves : ∀ (c : Code) (W3 : World), KeepsFrom w.heap.size (W.putObj w.heap.size (.loop (rec .busy none))) W3 ∧ Ix c (pre ++ [x]) W3 →
          ∃ v w', (Instr.endRound w.heap.size (some c)).run P W3 = .ok v w' ∧ ((Ending.returned v = .returned (.bool true) ∧ (I (pre ++ [x]) w' ∧ w'.heap[w.heap.size]? = some (.loop (rec .ready none))) ∧ Kp W w') ∨ (Ending.returned v = .returned (.bool false) ∧ ∃ c, Ix c (pre ++ [x]) w' ∧ w'.heap[w.heap.size]? = some (.loop (rec .done (some c))))) := fun c W3 ⟨hk, hi3⟩ => by
        obtain ⟨b3, hr⟩ := ends (some c) W3 hk
        exact ⟨_, _, hr, .inr ⟨rfl, c, (hIx c).putObj _ hi3 (Nat.le_refl _) b3 rfl, rebook _ .done _ (some c) W3 b3⟩⟩
      rintro e a3 W3 hp
      cases e with
      | normal =>
        obtain ⟨hk, hkp, hi3⟩ := hp
        obtain ⟨b3, hr⟩ := ends none W3 hk
        exact ⟨_, _, hr, .inl ⟨rfl, ⟨hI.putObj _ hi3 (Nat.le_refl _) b3 rfl, rebook _ .ready _ none W3 b3⟩, hKt (hKt kp2 hkp) (hKb _ _ _ _ (Nat.le_refl _) b3 rfl rfl)⟩⟩
      | ret => exact leaves _ W3 hp
      | exit id => exact leaves _ W3 hp
      | goto t => exact leaves _ W3 hp
      | panic ch => exact hp.elim
      | outgrown => exact hp.elim
    · have over : ∀ (st : LoopState) (pe : Option Code) (W : World), st ≠ .busy → W.heap[w.heap.size]? = some (.loop (rec st pe)) → (Instr.endLoop w.heap.size).run P W = .ok pe (W.putObj w.heap.size (.loop (rec .exhausted pe))) := fun st pe W hst hb => by
        have := run_endLoop (P := P) hb (by rw [hrec]; exact hst)
        rw [hrec] at this ⊢
        exact this
      rintro e W2 ⟨⟨v, rfl⟩, (⟨xs, hS, hi, hb⟩ | ⟨pre, hSp, c, hi, hb⟩)⟩
      · exact ⟨none, _, over _ _ W2 (by simp) hb, hdone xs _ hS (hI.putObj _ hi (Nat.le_refl _) hb rfl)⟩
      · exact ⟨some c, _, over _ _ W2 (by simp) hb, hstop c pre _ hSp ((hIx c).putObj _ hi (Nat.le_refl _) hb rfl)⟩
end Go.Proofs.YtkjnbfjbdlcehaaGreatDoor.P
