/- A range over a function whose iterator may keep a state of its own in memory: one law for the statement, and what an iterator's contract is. Over any program. -/
import Derived.RangeFuncNested
import Derived.RangeFuncBound
import Derived.RangeFuncCalls
import Derived.RangeFuncLeaves
import Derived.RangeFuncBox
import Derived.Shelf.Abstract
import Derived.WalkKit
import Derived.OwnWalkIn
import Derived.TacticsInMore
import Derived.LoopNIn
import Derived.LoopIn
import Derived.Maps.AppendAt
namespace Go.Proofs.YtkjnbfjbdlcehaaGreatDoor.P
open Go.RowKit

/-- How an iterator's call ends: all has come, or a round has left. -/
def IterEnds {α : Type} (S Sp : List α → Prop) (J Jx : List α → World → Prop) (e : Ending) (W' : World) : Prop := (∃ v, e = .returned v) ∧ ((∃ xs, S xs ∧ J xs W') ∨ (∃ pre, Sp pre ∧ Jx pre W'))
/-- What the iterator g, called with a yield, does: rounds in which x may come behind pre ('R'); the caller's facts J abide the iterator's own turns 'Tn'; a round keeps 'Kp'. -/
def SeqT {α : Type} (P : Program) (g : Nat) (lb : Array Value) (encs : α → Array Value) (Kp Tn : World → World → Prop) (R : List α → α → Prop) (S Sp : List α → Prop) (w : World) : Prop :=
  ∀ (l : Nat) (J Jx : List α → World → Prop) (W : World), Below w.heap.size w W → (∀ s A B, J s A → Tn A B → J s B) → (∀ s A B, Jx s A → Tn A B → Jx s B) →
    (∀ pre x W1, J pre W1 → R pre x → YieldAt Fence.wide 0 P l (encs x) W1 fun e W' =>
      (e = .returned (.bool true) ∧ J (pre ++ [x]) W' ∧ Kp W1 W') ∨ (e = .returned (.bool false) ∧ Jx (pre ++ [x]) W')) →
    J [] W →
    CallsIn Fence.wide 0 P g (#[.func (.yield l) #[] #[]] ++ lb) W (IterEnds S Sp J Jx)

/-- How a round's body may end. -/
def roundEnds {α : Type} (B : Nat) (Kp : World → World → Prop) (I : List α → World → Prop) (Ix : Code → List α → World → Prop) (xs : List α) (W : World) : Exit → Act → World → Prop
  | .normal, _, W' => KeepsFrom B W W' ∧ Kp W W' ∧ I xs W'
  | .ret, _, W' => KeepsFrom B W W' ∧ Ix .ret xs W'
  | .exit id, _, W' => KeepsFrom B W W' ∧ Ix (.exit id) xs W'
  | .goto t, _, W' => KeepsFrom B W W' ∧ Ix (.goto t) xs W'
  | .panic _, _, _ => False
  | .outgrown, _, _ => False

/-- The loop's record at block l, with the block D for what rounds defer. -/
structure Booked (rec : LoopState → Option Code → Loop) (D : Nat) (st : LoopState) (pe : Option Code) (W : World) : Prop where
  book : W.heap[D + 1]? = some (.loop (rec st pe))
  defs : W.heap[D]? = some (.deferred (some []))

theorem range_law {α : Type} {P : Program} {n : Nat} {g : Operand} {ps : Array Tmp} {assign body : Code} {Q : Exit → Act → World → Prop} {a : Act} {w : World} {gf : Nat} {lb : Array Value}
    (hg : a.eval g = .func (.func gf) #[] lb) (eg : ∀ args w, (callFunc gf args).run P w = .ok (.enter gf args) w)
    {encs : α → Array Value} {Kp Tn : World → World → Prop} {R : List α → α → Prop} {S Sp : List α → Prop} {w0 : World} (hseq : SeqT P gf lb encs Kp Tn R S Sp w0) (hb0 : Below w0.heap.size w0 w)
    (hKt : ∀ {A B C : World}, Kp A B → Kp B C → Kp A C) (hKb : ∀ (W : World) (l : Nat) (o o' : Obj), w.heap.size ≤ l → W.heap[l]? = some o → o.isCells = false → o.isWalk = false → Kp W (W.putObj l o'))
    (hTn : ∀ A B, Tn A B → ∀ k o, w.heap.size ≤ k → A.heap[k]? = some o → B.heap[k]? = some o) (hps : ∀ x, (encs x).size = ps.size)
    (I : List α → World → Prop) (Ix : Code → List α → World → Prop) (hI : OwnFrom w.heap.size I) (hIx : ∀ c, OwnFrom w.heap.size (Ix c)) (hIT : ∀ s A B, I s A → Tn A B → I s B) (hIxT : ∀ c s A B, Ix c s A → Tn A B → Ix c s B) (h0 : I [] w) (a₁ : α → Act)
    (hassign : ∀ (l : Nat) (x : α) (W : World) (K : Act → World → Prop), K (a₁ x) W →
      assign.wpIn (Fence.wide.inRound l) 0 P (Exit.then K (fun _ _ _ => False)) { tmps := (ps.zip (encs x)).foldl (fun t (p, v) => t.setIfInBounds p v) a.tmps, defers := [] } W)
    (hbody : ∀ (l : Nat) (pre : List α) (x : α) (W : World), I pre W → R pre x → body.wpIn (Fence.wide.inRound l) 0 P (roundEnds w.heap.size Kp I Ix (pre ++ [x]) W) (a₁ x) W)
    (hdone : ∀ (D : Nat) (xs : List α) (W : World), w.heap.size ≤ D → S xs → I xs W → W.heap[D]? = some (.deferred (some [])) → Q .normal { a with defers := { target := .collected D, args := #[] } :: a.defers } W)
    (hstop : ∀ (D : Nat) (c : Code) (pre : List α) (W : World), w.heap.size ≤ D → Sp pre → Ix c pre W → W.heap[D]? = some (.deferred (some [])) → c.wpIn Fence.wide n P Q { a with defers := { target := .collected D, args := #[] } :: a.defers } W) :
    (Code.rangeFunc g ps assign body).wpIn Fence.wide n P Q a w := by
  refine wpIn_rangeFunc fun fn hfn => ?_
  obtain ⟨rec, hrec⟩ : ∃ rec : LoopState → Option Code → Loop, rec = fun st pe => { state := st, pending := pe, fn, tmps := a.tmps, params := ps, assign, body, defers := w.heap.size } := ⟨_, rfl⟩
  obtain ⟨W1, hW1⟩ : ∃ W1, (w.alloc (.deferred (some []))).alloc (.loop (rec .ready none)) = W1 := ⟨_, rfl⟩
  have hsz : w.heap.size + 1 = (w.alloc (.deferred (some []))).heap.size := by rw [World.size_alloc]
  have b1 : Booked rec w.heap.size .ready none W1 := by
    subst hW1
    constructor
    · rw [hsz]; exact World.alloc_heap_new _ _
    · exact (Below.heap_alloc _ _ _ (by simp)).trans (World.alloc_heap_new w _)
  have i1 : I [] W1 := by subst hW1; exact hI.alloc _ (hI.alloc _ h0)
  have hb1 : Below w0.heap.size w0 W1 := by
    subst hW1
    exact hb0.trans ((((Below.refl _ w).alloc (Nat.le_refl _) _).alloc (by simp) _).mono hb0.size)
  -- a record that is put anew
  have rebook : ∀ (st st' : LoopState) (pe pe' : Option Code) (W : World), Booked rec w.heap.size st pe W → Booked rec w.heap.size st' pe' (W.putObj (w.heap.size + 1) (.loop (rec st' pe'))) := fun st st' pe pe' W h =>
    ⟨World.putObj_heap_same (Array.getElem?_eq_some_iff.1 h.book).1, (World.putObj_heap_other (by omega)).trans h.defs⟩
  have abide : ∀ (st : LoopState) (pe : Option Code) (A B : World), Booked rec w.heap.size st pe A → Tn A B → Booked rec w.heap.size st pe B := fun st pe A B h t =>
    ⟨hTn A B t _ _ (by omega) h.book, hTn A B t _ _ (Nat.le_refl _) h.defs⟩
  have busy : ∀ st pe, ({ rec st pe with state := .busy } : Loop) = rec .busy pe := fun st pe => by rw [hrec]
  refine ⟨w.heap.size + 1, [{ target := .collected w.heap.size, args := #[] }], W1, { target := .fn (.func gf) lb, args := #[.func (.yield (w.heap.size + 1)) #[] #[]] }, W1, gf,
    #[.func (.yield (w.heap.size + 1)) #[] #[]] ++ lb, W1, ?_, ?_, fun _ _ => trivial, ?_, fun h => by simp [Fence.wide] at h, ?_⟩
  · subst hW1; subst hrec; exact run_enterLoop_outer _ _ _ _ _
  · simp only [resolve, hg]
    simp [go_sem]
  · simp [invoke, go_sem, eg]
  · refine (CallsIn.mono (callsIn_wide.2 (callsIn_wide.1 (hseq (w.heap.size + 1) (fun pre W => I pre W ∧ Booked rec w.heap.size .ready none W) (fun pre W => ∃ c, Ix c pre W ∧ Booked rec w.heap.size .done (some c) W) W1 hb1
      (fun s A B h t => ⟨hIT s A B h.1 t, abide _ _ A B h.2 t⟩) (fun s A B ⟨c, hc, hb⟩ t => ⟨c, hIxT c s A B hc t, abide _ _ A B hb t⟩) ?_ ⟨i1, b1⟩))) ?_)
    · rintro pre x W ⟨hi, hb⟩ hR
      have hy := run_yield (P := P) (args := encs x) hb.book (by rw [hrec]; exact hps x)
      rw [hrec] at hy
      refine ⟨fn, _, assign, body, hy, roundIn_of_wpIn trivial (hassign _ x W _ ⟨_, run_beginRound hb.book (by rw [hrec]), ?_⟩)⟩
      rw [busy]
      have hb2 := rebook _ .busy _ none W hb
      have kp2 : Kp W (W.putObj (w.heap.size + 1) (.loop (rec .busy none))) := hKb _ _ _ _ (by omega) hb.book rfl rfl
      refine wpIn_mono (hbody _ pre x _ (hI.putObj _ hi (by omega) hb.book rfl) hR) ?_
      have ends : ∀ (jump : Option Code) (W3 : World), KeepsFrom w.heap.size (W.putObj (w.heap.size + 1) (.loop (rec .busy none))) W3 →
          Booked rec w.heap.size .busy none W3 ∧ (Instr.endRound (w.heap.size + 1) jump).run P W3 = .ok (.bool jump.isNone) (W3.putObj (w.heap.size + 1) (.loop (rec (if jump.isNone then .ready else .done) jump))) := fun jump W3 hk => by
        have b3 : Booked rec w.heap.size .busy none W3 := ⟨hk.same _ _ (by omega) hb2.book rfl, hk.same _ _ (Nat.le_refl _) hb2.defs rfl⟩
        have := run_endRound (P := P) jump b3.book
        rw [hrec] at this ⊢
        exact ⟨by rw [hrec] at b3; exact b3, this⟩
      have leaves : ∀ (c : Code) (W3 : World), KeepsFrom w.heap.size (W.putObj (w.heap.size + 1) (.loop (rec .busy none))) W3 ∧ Ix c (pre ++ [x]) W3 →
          ∃ v w', (Instr.endRound (w.heap.size + 1) (some c)).run P W3 = .ok v w' ∧ ((Ending.returned v = .returned (.bool true) ∧ (I (pre ++ [x]) w' ∧ Booked rec w.heap.size .ready none w') ∧ Kp W w') ∨ (Ending.returned v = .returned (.bool false) ∧ ∃ c, Ix c (pre ++ [x]) w' ∧ Booked rec w.heap.size .done (some c) w')) := fun c W3 ⟨hk, hi3⟩ => by
        obtain ⟨b3, hr⟩ := ends (some c) W3 hk
        exact ⟨_, _, hr, .inr ⟨rfl, c, (hIx c).putObj _ hi3 (by omega) b3.book rfl, rebook _ .done _ (some c) W3 b3⟩⟩
      rintro e a3 W3 hp
      cases e with
      | normal =>
        obtain ⟨hk, hkp, hi3⟩ := hp
        obtain ⟨b3, hr⟩ := ends none W3 hk
        exact ⟨_, _, hr, .inl ⟨rfl, ⟨hI.putObj _ hi3 (by omega) b3.book rfl, rebook _ .ready _ none W3 b3⟩, hKt (hKt kp2 hkp) (hKb _ _ _ _ (by omega) b3.book rfl rfl)⟩⟩
      | ret => exact leaves _ W3 hp
      | exit id => exact leaves _ W3 hp
      | goto t => exact leaves _ W3 hp
      | panic ch => exact hp.elim
      | outgrown => exact hp.elim
    · have over : ∀ (st : LoopState) (pe : Option Code) (W : World), st ≠ .busy → Booked rec w.heap.size st pe W → (Instr.endLoop (w.heap.size + 1)).run P W = .ok pe (W.putObj (w.heap.size + 1) (.loop (rec .exhausted pe))) := fun st pe W hst hb => by
        have := run_endLoop (P := P) hb.book (by rw [hrec]; exact hst)
        rw [hrec] at this ⊢
        exact this
      rintro e W2 ⟨⟨v, rfl⟩, (⟨xs, hS, hi, hb⟩ | ⟨pre, hSp, c, hi, hb⟩)⟩
      · exact ⟨none, _, over _ _ W2 (by simp) hb, hdone _ xs _ (Nat.le_refl _) hS (hI.putObj _ hi (by omega) hb.book rfl) ((World.putObj_heap_other (by omega)).trans hb.defs)⟩
      · exact ⟨some c, _, over _ _ W2 (by simp) hb, hstop _ c pre _ (Nat.le_refl _) hSp ((hIx c).putObj _ hi (by omega) hb.book rfl) ((World.putObj_heap_other (by omega)).trans hb.defs)⟩
end Go.Proofs.YtkjnbfjbdlcehaaGreatDoor.P
