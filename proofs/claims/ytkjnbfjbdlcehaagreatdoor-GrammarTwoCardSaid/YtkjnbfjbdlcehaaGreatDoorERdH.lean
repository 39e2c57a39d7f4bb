/- operation.Read: the operation that words are. -/
import Derived.Test.YtkjnbfjbdlcehaaGreatDoorERd
import Derived.LoopN
import Derived.WalkMore
import Derived.Deep.RegionHeld3
namespace Go.Proofs.YtkjnbfjbdlcehaaGreatDoor.P
open Go.RowKit Go.Proofs.YtkjnbfjbdlcehaaGreatDoorW.PrintWords Go.Proofs.YtkjnbfjbdlcehaaGreatDoorW.PrintLast Go.Proofs.YtkjnbfjbdlcehaaGreatDoorW.PrintMore
set_option linter.unusedVariables false
set_option linter.unusedSimpArgs false

def stepsOf (n : Int) : List StepK := if n = 0 then [.arrow, .result] else if n = 1 then [.first, .arrow, .result] else [.first, .second, .arrow, .result]
def runSteps (l : List ByteArray) : List StepK → Nat → Int × Int × Int × Int → Option ((Int × Int × Int × Int) × Nat × Int)
  | [], i, x => some (x, i, 0)
  | s :: ss, i, x => if i + 1 = l.length then some (x, i + 1, 5) else (stepF s (rdOf ByteArray.empty l ((i : Int) + 1)) x).bind fun r => if r.2 = 0 then runSteps l ss (i + 1) r.1 else some (r.1, i + 1, r.2)
/-- What Read tells when its words were read so far. -/
def endRead (l : List ByteArray) (m : Nat) (k : Int) (r : (Int × Int × Int × Int) × Nat × Int) : Option (Int × Int × Int × Int × Int × Int × Int) :=
  if r.2.2 ≠ 0 then some (0, 0, 0, 0, 0, (r.2.1 : Int), r.2.2)
  else if m + 1 < l.length then some (0, 0, 0, 0, 0, (m : Int) + 1, 5)
  else (operation_Check.f k r.1.1 r.1.2.1 r.1.2.2.1 r.1.2.2.2).bind fun c =>
    if c = 0 then some (k, r.1.1, r.1.2.1, r.1.2.2.1, r.1.2.2.2, 0, 0) else if c = 2 then some (0, 0, 0, 0, 0, 1, c) else if c = 9 then some (0, 0, 0, 0, 0, (m : Int), c) else some (0, 0, 0, 0, 0, 0, c)
def operation_Read.f (l : List ByteArray) : Option (Int × Int × Int × Int × Int × Int × Int) :=
  if l.length = 0 then some (0, 0, 0, 0, 0, 0, 5)
  else (operation_Kind.f (rdOf ByteArray.empty l 0)).bind fun ke =>
    if ke.2 ≠ 0 then some (0, 0, 0, 0, 0, 0, ke.2)
    else (runSteps l (stepsOf (kdOf ke.1).args) 0 (0, 0, 0, 0)).bind fun r => endRead l (stepsOf (kdOf ke.1).args).length ke.1 r
def OnlyN (K : Act → World → Prop) : Exit → Act → World → Prop
  | .normal, a, w => K a w
  | _, _, _ => False
theorem wp_onlyK {P : Program} {c : Code} {Q : Exit → Act → World → Prop} {a : Act} {w : World} (h : ∀ K : Act → World → Prop, (∀ a w, Q .normal a w → K a w) → c.wp P (OnlyN K) a w) : c.wp P Q a w :=
  Code.wp_mono (fun e a w h' => by cases e <;> first | exact h' | exact (h' : False).elim) (h (Q .normal) (fun _ _ h' => h'))
theorem keep3 {W : World} {a : Addr} {v : Value} (h : W.cell? a = some v) (o1 o2 o3 : Obj) : ((((W.alloc o1).alloc o2).alloc o3).drew.drew).cell? a = some v := by
  have hlt := World.block_lt_of_cell? W a h
  rw [World.cell?_drew, World.cell?_drew]
  exact ((((Below.refl W.heap.size W).alloc (Nat.le_refl _) o1).alloc (by simp) o2).alloc (by simp; omega) o3).cell hlt |>.trans h
theorem world2 (w w3 : World) (k : Int) (K R : Obj) (h : w.heap.size < w3.heap.size) (HB : Below w.heap.size w w3) (hz : w3.heap[w.heap.size]? = some (.cells (opCells 0 0 0 0 0) 33)) :
    (((w3.setCell ⟨w.heap.size, 0, none⟩ (.int .i64 k)).alloc K).alloc R).heap[w.heap.size]? = some (.cells (opCells k 0 0 0 0) 33) ∧ (((w3.setCell ⟨w.heap.size, 0, none⟩ (.int .i64 k)).alloc K).alloc R).heap[w3.heap.size]? = some K ∧ (((w3.setCell ⟨w.heap.size, 0, none⟩ (.int .i64 k)).alloc K).alloc R).heap[w3.heap.size + 1]? = some R ∧ Below w.heap.size w (((w3.setCell ⟨w.heap.size, 0, none⟩ (.int .i64 k)).alloc K).alloc R) := by
  have hs : (w3.setCell ⟨w.heap.size, 0, none⟩ (.int .i64 k)).heap.size = w3.heap.size := by simp
  have e1 := blk_new (w3.setCell ⟨w.heap.size, 0, none⟩ (.int .i64 k)) K
  have e2 := blk_new ((w3.setCell ⟨w.heap.size, 0, none⟩ (.int .i64 k)).alloc K) R
  rw [hs] at e1
  rw [World.size_alloc, hs] at e2
  refine ⟨?_, ?_, e2, ?_⟩
  · exact blk_below (blk_below (blk_put hz 0 (.int .i64 k) rfl) ((Below.refl _ _).alloc (Nat.le_refl _) _)) ((Below.refl _ _).alloc (Nat.le_refl _) _)
  · exact blk_below e1 ((Below.refl _ _).alloc (Nat.le_refl _) _)
  · exact ((HB.setCell (p := ⟨w.heap.size, 0, none⟩) (Nat.le_refl _) _).alloc (by simp; omega) _).alloc (by simp; omega) _
theorem steps_world (w W : World) (o1 o2 : Obj) (cs : Array Value) (t : TypeId) {k : Int} (hz : W.heap[w.heap.size]? = some (.cells (opCells k 0 0 0 0) 33)) (HB : Below w.heap.size w W) :
    (((W.alloc o1).alloc o2).alloc (.cells cs t)).drew.drew.heap[w.heap.size]? = some (.cells (opCells k 0 0 0 0) 33) ∧ (((W.alloc o1).alloc o2).alloc (.cells cs t)).drew.drew.heap[W.heap.size + 1 + 1]? = some (.cells cs t) ∧ Below w.heap.size w (((W.alloc o1).alloc o2).alloc (.cells cs t)).drew.drew := by
  have e := blk_new ((W.alloc o1).alloc o2) (.cells cs t)
  simp only [World.size_alloc] at e
  refine ⟨?_, e, ?_⟩
  · show (((W.alloc o1).alloc o2).alloc (.cells cs t)).heap[w.heap.size]? = _
    exact blk_below (blk_below (blk_below hz ((Below.refl _ _).alloc (Nat.le_refl _) o1)) ((Below.refl _ _).alloc (Nat.le_refl _) o2)) ((Below.refl _ _).alloc (Nat.le_refl _) (.cells cs t))
  · exact below_drew (below_drew (((HB.alloc HB.size o1).alloc (by have := HB.size; simp; omega) o2).alloc (by have := HB.size; simp; omega) _))
theorem then_world {T : Act → World → Prop} {a : Act} {w : World} (F : World → Prop) (h : F w) (k : ∀ w, F w → T a w) : T a w := k w h
theorem zero_blk {W : World} {B : Nat} {k a b rk rn : Int} (hz : W.heap[B]? = some (.cells (opCells k a b rk rn) 33)) : ((((((((((W.setCell ⟨B, 0, none⟩ (.int .i64 0)).setCell ⟨B, 1, none⟩ (.int .i64 0)).setCell ⟨B, 2, none⟩ (.int .i64 0)).setCell ⟨B, 3, none⟩ (.int .i64 0)).setCell ⟨B, 4, none⟩ (.int .i64 0)).setCell ⟨B, 0, none⟩ (.int .i64 0)).setCell ⟨B, 1, none⟩ (.int .i64 0)).setCell ⟨B, 2, none⟩ (.int .i64 0)).setCell ⟨B, 3, none⟩ (.int .i64 0)).setCell ⟨B, 4, none⟩ (.int .i64 0)).heap[B]? = some (.cells #[.int .i64 0, .int .i64 0, .int .i64 0, .int .i64 0, .int .i64 0] 33) := by
  have h0 : (W.setCell ⟨B, 0, none⟩ (.int .i64 0)).heap[B]? = some (.cells #[.int .i64 0, .int .i64 a, .int .i64 b, .int .i64 rk, .int .i64 rn] 33) := blk_put hz 0 (.int .i64 0) rfl
  have h1 : ((W.setCell ⟨B, 0, none⟩ (.int .i64 0)).setCell ⟨B, 1, none⟩ (.int .i64 0)).heap[B]? = some (.cells #[.int .i64 0, .int .i64 0, .int .i64 b, .int .i64 rk, .int .i64 rn] 33) := blk_put h0 1 (.int .i64 0) rfl
  have h2 : (((W.setCell ⟨B, 0, none⟩ (.int .i64 0)).setCell ⟨B, 1, none⟩ (.int .i64 0)).setCell ⟨B, 2, none⟩ (.int .i64 0)).heap[B]? = some (.cells #[.int .i64 0, .int .i64 0, .int .i64 0, .int .i64 rk, .int .i64 rn] 33) := blk_put h1 2 (.int .i64 0) rfl
  have h3 : ((((W.setCell ⟨B, 0, none⟩ (.int .i64 0)).setCell ⟨B, 1, none⟩ (.int .i64 0)).setCell ⟨B, 2, none⟩ (.int .i64 0)).setCell ⟨B, 3, none⟩ (.int .i64 0)).heap[B]? = some (.cells #[.int .i64 0, .int .i64 0, .int .i64 0, .int .i64 0, .int .i64 rn] 33) := blk_put h2 3 (.int .i64 0) rfl
  have h4 : (((((W.setCell ⟨B, 0, none⟩ (.int .i64 0)).setCell ⟨B, 1, none⟩ (.int .i64 0)).setCell ⟨B, 2, none⟩ (.int .i64 0)).setCell ⟨B, 3, none⟩ (.int .i64 0)).setCell ⟨B, 4, none⟩ (.int .i64 0)).heap[B]? = some (.cells #[.int .i64 0, .int .i64 0, .int .i64 0, .int .i64 0, .int .i64 0] 33) := blk_put h3 4 (.int .i64 0) rfl
  have h5 : ((((((W.setCell ⟨B, 0, none⟩ (.int .i64 0)).setCell ⟨B, 1, none⟩ (.int .i64 0)).setCell ⟨B, 2, none⟩ (.int .i64 0)).setCell ⟨B, 3, none⟩ (.int .i64 0)).setCell ⟨B, 4, none⟩ (.int .i64 0)).setCell ⟨B, 0, none⟩ (.int .i64 0)).heap[B]? = some (.cells #[.int .i64 0, .int .i64 0, .int .i64 0, .int .i64 0, .int .i64 0] 33) := blk_put h4 0 (.int .i64 0) rfl
  have h6 : (((((((W.setCell ⟨B, 0, none⟩ (.int .i64 0)).setCell ⟨B, 1, none⟩ (.int .i64 0)).setCell ⟨B, 2, none⟩ (.int .i64 0)).setCell ⟨B, 3, none⟩ (.int .i64 0)).setCell ⟨B, 4, none⟩ (.int .i64 0)).setCell ⟨B, 0, none⟩ (.int .i64 0)).setCell ⟨B, 1, none⟩ (.int .i64 0)).heap[B]? = some (.cells #[.int .i64 0, .int .i64 0, .int .i64 0, .int .i64 0, .int .i64 0] 33) := blk_put h5 1 (.int .i64 0) rfl
  have h7 : ((((((((W.setCell ⟨B, 0, none⟩ (.int .i64 0)).setCell ⟨B, 1, none⟩ (.int .i64 0)).setCell ⟨B, 2, none⟩ (.int .i64 0)).setCell ⟨B, 3, none⟩ (.int .i64 0)).setCell ⟨B, 4, none⟩ (.int .i64 0)).setCell ⟨B, 0, none⟩ (.int .i64 0)).setCell ⟨B, 1, none⟩ (.int .i64 0)).setCell ⟨B, 2, none⟩ (.int .i64 0)).heap[B]? = some (.cells #[.int .i64 0, .int .i64 0, .int .i64 0, .int .i64 0, .int .i64 0] 33) := blk_put h6 2 (.int .i64 0) rfl
  have h8 : (((((((((W.setCell ⟨B, 0, none⟩ (.int .i64 0)).setCell ⟨B, 1, none⟩ (.int .i64 0)).setCell ⟨B, 2, none⟩ (.int .i64 0)).setCell ⟨B, 3, none⟩ (.int .i64 0)).setCell ⟨B, 4, none⟩ (.int .i64 0)).setCell ⟨B, 0, none⟩ (.int .i64 0)).setCell ⟨B, 1, none⟩ (.int .i64 0)).setCell ⟨B, 2, none⟩ (.int .i64 0)).setCell ⟨B, 3, none⟩ (.int .i64 0)).heap[B]? = some (.cells #[.int .i64 0, .int .i64 0, .int .i64 0, .int .i64 0, .int .i64 0] 33) := blk_put h7 3 (.int .i64 0) rfl
  have h9 : ((((((((((W.setCell ⟨B, 0, none⟩ (.int .i64 0)).setCell ⟨B, 1, none⟩ (.int .i64 0)).setCell ⟨B, 2, none⟩ (.int .i64 0)).setCell ⟨B, 3, none⟩ (.int .i64 0)).setCell ⟨B, 4, none⟩ (.int .i64 0)).setCell ⟨B, 0, none⟩ (.int .i64 0)).setCell ⟨B, 1, none⟩ (.int .i64 0)).setCell ⟨B, 2, none⟩ (.int .i64 0)).setCell ⟨B, 3, none⟩ (.int .i64 0)).setCell ⟨B, 4, none⟩ (.int .i64 0)).heap[B]? = some (.cells #[.int .i64 0, .int .i64 0, .int .i64 0, .int .i64 0, .int .i64 0] 33) := blk_put h8 4 (.int .i64 0) rfl
  exact h9
theorem zero_below {w W : World} {B : Nat} (h : Below B w W) : Below B w ((((((((((W.setCell ⟨B, 0, none⟩ (.int .i64 0)).setCell ⟨B, 1, none⟩ (.int .i64 0)).setCell ⟨B, 2, none⟩ (.int .i64 0)).setCell ⟨B, 3, none⟩ (.int .i64 0)).setCell ⟨B, 4, none⟩ (.int .i64 0)).setCell ⟨B, 0, none⟩ (.int .i64 0)).setCell ⟨B, 1, none⟩ (.int .i64 0)).setCell ⟨B, 2, none⟩ (.int .i64 0)).setCell ⟨B, 3, none⟩ (.int .i64 0)).setCell ⟨B, 4, none⟩ (.int .i64 0)) := ((((((((((h.setCell (p := ⟨B, 0, none⟩) (Nat.le_refl _) (.int .i64 0)).setCell (p := ⟨B, 1, none⟩) (Nat.le_refl _) (.int .i64 0)).setCell (p := ⟨B, 2, none⟩) (Nat.le_refl _) (.int .i64 0)).setCell (p := ⟨B, 3, none⟩) (Nat.le_refl _) (.int .i64 0)).setCell (p := ⟨B, 4, none⟩) (Nat.le_refl _) (.int .i64 0)).setCell (p := ⟨B, 0, none⟩) (Nat.le_refl _) (.int .i64 0)).setCell (p := ⟨B, 1, none⟩) (Nat.le_refl _) (.int .i64 0)).setCell (p := ⟨B, 2, none⟩) (Nat.le_refl _) (.int .i64 0)).setCell (p := ⟨B, 3, none⟩) (Nat.le_refl _) (.int .i64 0)).setCell (p := ⟨B, 4, none⟩) (Nat.le_refl _) (.int .i64 0))
theorem same_blk {W : World} {B : Nat} {k a b rk rn : Int} (hz : W.heap[B]? = some (.cells (opCells k a b rk rn) 33)) : (((((W.setCell ⟨B, 0, none⟩ (.int .i64 k)).setCell ⟨B, 1, none⟩ (.int .i64 a)).setCell ⟨B, 2, none⟩ (.int .i64 b)).setCell ⟨B, 3, none⟩ (.int .i64 rk)).setCell ⟨B, 4, none⟩ (.int .i64 rn)).heap[B]? = some (.cells (opCells k a b rk rn) 33) := by
  have h0 : (W.setCell ⟨B, 0, none⟩ (.int .i64 k)).heap[B]? = some (.cells #[.int .i64 k, .int .i64 a, .int .i64 b, .int .i64 rk, .int .i64 rn] 33) := blk_put hz 0 (.int .i64 k) rfl
  have h1 : ((W.setCell ⟨B, 0, none⟩ (.int .i64 k)).setCell ⟨B, 1, none⟩ (.int .i64 a)).heap[B]? = some (.cells #[.int .i64 k, .int .i64 a, .int .i64 b, .int .i64 rk, .int .i64 rn] 33) := blk_put h0 1 (.int .i64 a) rfl
  have h2 : (((W.setCell ⟨B, 0, none⟩ (.int .i64 k)).setCell ⟨B, 1, none⟩ (.int .i64 a)).setCell ⟨B, 2, none⟩ (.int .i64 b)).heap[B]? = some (.cells #[.int .i64 k, .int .i64 a, .int .i64 b, .int .i64 rk, .int .i64 rn] 33) := blk_put h1 2 (.int .i64 b) rfl
  have h3 : ((((W.setCell ⟨B, 0, none⟩ (.int .i64 k)).setCell ⟨B, 1, none⟩ (.int .i64 a)).setCell ⟨B, 2, none⟩ (.int .i64 b)).setCell ⟨B, 3, none⟩ (.int .i64 rk)).heap[B]? = some (.cells #[.int .i64 k, .int .i64 a, .int .i64 b, .int .i64 rk, .int .i64 rn] 33) := blk_put h2 3 (.int .i64 rk) rfl
  have h4 : (((((W.setCell ⟨B, 0, none⟩ (.int .i64 k)).setCell ⟨B, 1, none⟩ (.int .i64 a)).setCell ⟨B, 2, none⟩ (.int .i64 b)).setCell ⟨B, 3, none⟩ (.int .i64 rk)).setCell ⟨B, 4, none⟩ (.int .i64 rn)).heap[B]? = some (.cells #[.int .i64 k, .int .i64 a, .int .i64 b, .int .i64 rk, .int .i64 rn] 33) := blk_put h3 4 (.int .i64 rn) rfl
  exact h4
theorem same_below {w W : World} {B : Nat} {k a b rk rn : Int} (h : Below B w W) : Below B w (((((W.setCell ⟨B, 0, none⟩ (.int .i64 k)).setCell ⟨B, 1, none⟩ (.int .i64 a)).setCell ⟨B, 2, none⟩ (.int .i64 b)).setCell ⟨B, 3, none⟩ (.int .i64 rk)).setCell ⟨B, 4, none⟩ (.int .i64 rn)) := (((((h.setCell (p := ⟨B, 0, none⟩) (Nat.le_refl _) (.int .i64 k)).setCell (p := ⟨B, 1, none⟩) (Nat.le_refl _) (.int .i64 a)).setCell (p := ⟨B, 2, none⟩) (Nat.le_refl _) (.int .i64 b)).setCell (p := ⟨B, 3, none⟩) (Nat.le_refl _) (.int .i64 rk)).setCell (p := ⟨B, 4, none⟩) (Nat.le_refl _) (.int .i64 rn))
end Go.Proofs.YtkjnbfjbdlcehaaGreatDoor.P
