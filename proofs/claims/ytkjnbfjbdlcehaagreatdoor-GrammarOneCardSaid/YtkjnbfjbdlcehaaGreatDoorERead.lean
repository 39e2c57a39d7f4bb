/- operation: how one word is read into an operation. -/
import Derived.Test.YtkjnbfjbdlcehaaGreatDoorECheck
import Derived.Test.YtkjnbfjbdlcehaaGreatDoorEGet
import Derived.LoopN
import Derived.WalkMore
import Derived.Deep.RegionHeld3
namespace Go.Proofs.YtkjnbfjbdlcehaaGreatDoor.P
open Go.RowKit Go.Proofs.YtkjnbfjbdlcehaaGreatDoorW.PrintWords Go.Proofs.YtkjnbfjbdlcehaaGreatDoorW.PrintLast Go.Proofs.YtkjnbfjbdlcehaaGreatDoorW.PrintMore
set_option linter.unusedVariables false
set_option linter.unusedSimpArgs false

theorem gSet (W : World) (b i : Nat) (v : Value) : W.grownBy (W.setCell ⟨b, i, none⟩ v) (some b) :=
  have h := (Below.refl b W).setCell (p := ⟨b, i, none⟩) (Nat.le_refl _) v
  ⟨h.os, h.tape, h.output, h.size, fun k _ hne => Below.heap_setCell W ⟨b, i, none⟩ v k (fun e => hne (by rw [e]))⟩
theorem gAlloc (W : World) (o : Obj) (r : Option Nat) : W.grownBy (W.alloc o) r := grown_of_below ((Below.refl _ W).alloc (Nat.le_refl _) o) r
theorem gBelow {W w' : World} {B : Nat} (h : W.grownBy w' (some B)) (hB : B < W.heap.size) : Below B W w' := ⟨h.os, h.tape, h.output, h.size, fun k hk => h.block k (by omega) (by intro e; injection e with e; omega)⟩
/-- The number of a word, and whether it is one. -/
def wholeF (s : ByteArray) : Option (Int × Int) := (number_Get.f s).bind fun x => some (x.1, if x.2.1 = 0 then 0 else 5)
set_option maxHeartbeats 1000000 in
set_option maxRecDepth 100000 in
theorem whole_calls (s : ByteArray) (B i : Nat) (cs : Array Value) (old n e0 : Int) (W : World) (hG : GOk W) (hz : W.heap[B]? = some (.cells cs 33)) (hi : cs[i]? = some (.int .i64 old)) (h : wholeF s = some (n, e0)) :
    Calls Tryz.prog 163 #[.string s, .pointer (some ⟨B, i, none⟩)] W fun e w' => e = .returned (.int .i64 e0) ∧ w'.heap[B]? = some (.cells (cs.set! i (.int .i64 n)) 33) ∧ W.grownBy w' (some B) := by
  obtain ⟨⟨g1, g2, g3⟩, hg, h⟩ := Option.bind_eq_some_iff.1 h
  simp only [Option.some.injEq, Prod.mk.injEq] at h
  obtain ⟨rfl, rfl⟩ := h
  have HGet := Aside0.mk (fun hG => number_Get.calls s g1 g2 g3 W hG hg)
  have HG := Aside0.mk hG
  have hlt := blk_lt hz
  have HZ := Aside0.mk hz
  have HI := Aside0.mk hi
  clear hz hG hg hi
  have key : ∀ w2 : World, Below W.heap.size W w2 → ∀ o : Obj, ((w2.setCell ⟨B, i, none⟩ (.int .i64 g1)).alloc o).heap[B]? = some (.cells (cs.set! i (.int .i64 g1)) 33) ∧ W.grownBy ((w2.setCell ⟨B, i, none⟩ (.int .i64 g1)).alloc o) (some B) := by
    intro w2 hb2 o
    have hz2 := blk_below HZ.out hb2
    have hp := blk_put hz2 i (.int .i64 g1) rfl
    exact ⟨blk_below hp ((Below.refl _ _).alloc (Nat.le_refl _) _), ((grown_of_below hb2 (some B)).trans (gSet w2 B i _)).trans (gAlloc _ _ _)⟩
  have KEY := Aside0.mk key
  clear key
  by_cases c : g2 = 0
  · subst c
    rw [if_pos rfl]
    go_enter Tryz.func163, Tryz.ntmps163
    go_wp2_with fail
    refine (HGet.out HG.out).mono ?_
    rintro e w2 ⟨rfl, hb2⟩
    have hc2 := (blk_cell (blk_below HZ.out hb2) i).trans HI.out
    have hf2 := blk_frozen (blk_below HZ.out hb2) i
    have hlt2 : B < w2.heap.size := Nat.lt_of_lt_of_le hlt hb2.size
    have HB2 := Aside0.mk hb2
    clear hb2
    go_wp2
    refine bodyPost_ret (results_tmp rfl _ _ _) rfl ?_
    exact ⟨rfl, KEY.out w2 HB2.out _⟩
  · rw [if_neg c]
    have h1 : (g2 != 0) = true := bne_iff_ne.2 c
    have h2 : (g2 == 0) = false := beq_eq_false_iff_ne.2 c
    clear c
    go_enter Tryz.func163, Tryz.ntmps163
    go_wp2_with fail
    refine (HGet.out HG.out).mono ?_
    rintro e w2 ⟨rfl, hb2⟩
    have hc2 := (blk_cell (blk_below HZ.out hb2) i).trans HI.out
    have hf2 := blk_frozen (blk_below HZ.out hb2) i
    have hlt2 : B < w2.heap.size := Nat.lt_of_lt_of_le hlt hb2.size
    have HB2 := Aside0.mk hb2
    clear hb2
    go_wp2
    refine bodyPost_ret (results_tmp rfl _ _ _) rfl ?_
    exact ⟨rfl, KEY.out w2 HB2.out _⟩
abbrev opCells (k a b rk rn : Int) : Array Value := #[.int .i64 k, .int .i64 a, .int .i64 b, .int .i64 rk, .int .i64 rn]
set_option maxHeartbeats 1000000 in
set_option maxRecDepth 100000 in
theorem first_calls (s : ByteArray) (B : Nat) (k a b rk rn n e0 : Int) (W : World) (hG : GOk W) (hz : W.heap[B]? = some (.cells (opCells k a b rk rn) 33)) (h : wholeF s = some (n, e0)) :
    Calls Tryz.prog 150 #[.agg #[.pointer (some ⟨B, 0, none⟩)], .string s] W fun e w' => e = .returned (.int .i64 e0) ∧ w'.heap[B]? = some (.cells (opCells k n b rk rn) 33) ∧ W.grownBy w' (some B) := by
  have hlt := blk_lt hz
  have HW := Aside0.mk (fun W' hG' hz' => whole_calls s B 1 (opCells k a b rk rn) a n e0 W' hG' hz' rfl h)
  have HG := Aside0.mk hG
  have HZ := Aside0.mk hz
  clear hz hG h
  go_enter Tryz.func150, Tryz.ntmps150
  go_wp2_with fail
  refine (HW.out _ (GOk.below HG.out ((Below.refl _ _).alloc (Nat.le_refl _) _)) (blk_below HZ.out ((Below.refl _ _).alloc (Nat.le_refl _) _))).mono ?_
  rintro e w2 ⟨rfl, hz2, hb2⟩
  have HZ2 := Aside0.mk hz2
  have HB2 := Aside0.mk ((gAlloc W _ _).trans hb2)
  clear hz2 hb2
  go_wp2
  refine bodyPost_ret (results_tmp rfl _ _ _) rfl ?_
  exact ⟨rfl, HZ2.out, HB2.out⟩
set_option maxHeartbeats 1000000 in
set_option maxRecDepth 100000 in
theorem second_calls (s : ByteArray) (B : Nat) (k a b rk rn n e0 : Int) (W : World) (hG : GOk W) (hz : W.heap[B]? = some (.cells (opCells k a b rk rn) 33)) (h : wholeF s = some (n, e0)) :
    Calls Tryz.prog 151 #[.agg #[.pointer (some ⟨B, 0, none⟩)], .string s] W fun e w' => e = .returned (.int .i64 e0) ∧ w'.heap[B]? = some (.cells (opCells k a n rk rn) 33) ∧ W.grownBy w' (some B) := by
  have hlt := blk_lt hz
  have HW := Aside0.mk (fun W' hG' hz' => whole_calls s B 2 (opCells k a b rk rn) b n e0 W' hG' hz' rfl h)
  have HG := Aside0.mk hG
  have HZ := Aside0.mk hz
  clear hz hG h
  go_enter Tryz.func151, Tryz.ntmps151
  go_wp2_with fail
  refine (HW.out _ (GOk.below HG.out ((Below.refl _ _).alloc (Nat.le_refl _) _)) (blk_below HZ.out ((Below.refl _ _).alloc (Nat.le_refl _) _))).mono ?_
  rintro e w2 ⟨rfl, hz2, hb2⟩
  have HZ2 := Aside0.mk hz2
  have HB2 := Aside0.mk ((gAlloc W _ _).trans hb2)
  clear hz2 hb2
  go_wp2
  refine bodyPost_ret (results_tmp rfl _ _ _) rfl ?_
  exact ⟨rfl, HZ2.out, HB2.out⟩
set_option maxHeartbeats 1000000 in
set_option maxRecDepth 100000 in
theorem arrow_calls (s : ByteArray) (B : Nat) (k a b rk rn : Int) (W : World) (hz : W.heap[B]? = some (.cells (opCells k a b rk rn) 33)) :
    Calls Tryz.prog 152 #[.agg #[.pointer (some ⟨B, 0, none⟩)], .string s] W fun e w' => e = .returned (.int .i64 (if s.toList = [45, 62] then 0 else 5)) ∧ w'.heap[B]? = some (.cells (opCells k a b rk rn) 33) ∧ W.grownBy w' (some B) := by
  have hlt := blk_lt hz
  have HZ := Aside0.mk hz
  clear hz
  by_cases c : s.toList = [45, 62]
  · rw [if_pos c]
    have c1 : (s.toList != [45, 62]) = false := bne_eq_false_iff_eq.2 c
    have c2 : (s.toList == [45, 62]) = true := beq_iff_eq.2 c
    clear c
    go_enter Tryz.func152, Tryz.ntmps152
    go_wp2
    refine bodyPost_ret (results_tmp rfl _ _ _) rfl ?_
    exact ⟨rfl, blk_below HZ.out ((Below.refl _ _).alloc (Nat.le_refl _) _), gAlloc W _ _⟩
  · rw [if_neg c]
    have c1 : (s.toList != [45, 62]) = true := bne_iff_ne.2 c
    have c2 : (s.toList == [45, 62]) = false := beq_eq_false_iff_ne.2 c
    clear c
    go_enter Tryz.func152, Tryz.ntmps152
    go_wp2
    refine bodyPost_ret (results_tmp rfl _ _ _) rfl ?_
    exact ⟨rfl, blk_below HZ.out ((Below.refl _ _).alloc (Nat.le_refl _) _), gAlloc W _ _⟩
set_option maxHeartbeats 1000000 in
set_option maxRecDepth 100000 in
theorem result_ok_calls (s : ByteArray) (B : Nat) (k a b rk rn : Int) (W : World) (hz : W.heap[B]? = some (.cells (opCells k a b rk rn) 33)) (c : s.toList = [111, 107]) :
    Calls Tryz.prog 153 #[.agg #[.pointer (some ⟨B, 0, none⟩)], .string s] W fun e w' => e = .returned (.int .i64 0) ∧ w'.heap[B]? = some (.cells (opCells k a b 0 0) 33) ∧ W.grownBy w' (some B) := by
  have hlt := blk_lt hz
  have HZ := Aside0.mk hz
  have c0 := (blk_cell hz 0).trans rfl
  have c1 := (blk_cell hz 1).trans rfl
  have c2 := (blk_cell hz 2).trans rfl
  have c3 := (blk_cell hz 3).trans rfl
  have c4 := (blk_cell hz 4).trans rfl
  have f3 := blk_frozen hz 3
  have f4 := blk_frozen hz 4
  have d2 : (s.toList == [111, 107]) = true := beq_iff_eq.2 c
  clear hz c
  go_enter Tryz.func153, Tryz.ntmps153
  go_wp2
  refine bodyPost_ret (results_tmp rfl _ _ _) rfl ?_
  refine ⟨rfl, ?_, ?_⟩
  · exact blk_below (blk_put (blk_put HZ.out 3 (.int .i64 0) rfl) 4 (.int .i64 0) rfl) ((Below.refl _ _).alloc (Nat.le_refl _) _)
  · exact ((gSet W B 3 _).trans (gSet _ B 4 _)).trans (gAlloc _ _ _)
set_option maxHeartbeats 1000000 in
set_option maxRecDepth 100000 in
theorem result_none_calls (s : ByteArray) (B : Nat) (k a b rk rn : Int) (W : World) (hz : W.heap[B]? = some (.cells (opCells k a b rk rn) 33)) (c : s.toList = [110, 111, 110, 101]) :
    Calls Tryz.prog 153 #[.agg #[.pointer (some ⟨B, 0, none⟩)], .string s] W fun e w' => e = .returned (.int .i64 0) ∧ w'.heap[B]? = some (.cells (opCells k a b 1 0) 33) ∧ W.grownBy w' (some B) := by
  have hlt := blk_lt hz
  have HZ := Aside0.mk hz
  have c0 := (blk_cell hz 0).trans rfl
  have c1 := (blk_cell hz 1).trans rfl
  have c2 := (blk_cell hz 2).trans rfl
  have c3 := (blk_cell hz 3).trans rfl
  have c4 := (blk_cell hz 4).trans rfl
  have f3 := blk_frozen hz 3
  have f4 := blk_frozen hz 4
  have d2 : (s.toList == [110, 111, 110, 101]) = true := beq_iff_eq.2 c
  have d1 : (s.toList == [111, 107]) = false := beq_eq_false_iff_ne.2 (by rw [c]; decide)
  clear hz c
  go_enter Tryz.func153, Tryz.ntmps153
  go_wp2
  refine bodyPost_ret (results_tmp rfl _ _ _) rfl ?_
  refine ⟨rfl, ?_, ?_⟩
  · exact blk_below (blk_put (blk_put HZ.out 3 (.int .i64 1) rfl) 4 (.int .i64 0) rfl) ((Below.refl _ _).alloc (Nat.le_refl _) _)
  · exact ((gSet W B 3 _).trans (gSet _ B 4 _)).trans (gAlloc _ _ _)
set_option maxHeartbeats 1000000 in
set_option maxRecDepth 100000 in
theorem result_num_calls (s : ByteArray) (B : Nat) (k a b rk rn n e0 : Int) (W : World) (hG : GOk W) (hgB : 4 < B) (hz : W.heap[B]? = some (.cells (opCells k a b rk rn) 33)) (h1 : s.toList ≠ [111, 107]) (h2 : s.toList ≠ [110, 111, 110, 101]) (h : wholeF s = some (n, e0)) :
    Calls Tryz.prog 153 #[.agg #[.pointer (some ⟨B, 0, none⟩)], .string s] W fun e w' => e = .returned (.int .i64 (if e0 = 0 then 0 else 9)) ∧ w'.heap[B]? = some (.cells (opCells k a b 2 n) 33) ∧ W.grownBy w' (some B) := by
  have hlt := blk_lt hz
  have HW := Aside0.mk (fun W' hG' hz' => whole_calls s B 4 (opCells k a b 2 rn) rn n e0 W' hG' hz' rfl h)
  have HG := Aside0.mk hG
  have HZ := Aside0.mk hz
  have c3 := (blk_cell hz 3).trans rfl
  have c4 := (blk_cell hz 4).trans rfl
  have f3 := blk_frozen hz 3
  have f4 := blk_frozen hz 4
  have d1 : (s.toList == [111, 107]) = false := beq_eq_false_iff_ne.2 h1
  have d2 : (s.toList == [110, 111, 110, 101]) = false := beq_eq_false_iff_ne.2 h2
  clear hz hG h h1 h2
  have key : ∀ o, ((W.setCell ⟨B, 3, none⟩ (.int .i64 2)).alloc o).heap[B]? = some (.cells (opCells k a b 2 rn) 33) ∧ GOk ((W.setCell ⟨B, 3, none⟩ (.int .i64 2)).alloc o) ∧ W.grownBy ((W.setCell ⟨B, 3, none⟩ (.int .i64 2)).alloc o) (some B) := by
    intro o
    have hb : W.grownBy ((W.setCell ⟨B, 3, none⟩ (.int .i64 2)).alloc o) (some B) := (gSet W B 3 _).trans (gAlloc _ _ _)
    refine ⟨blk_below (blk_put HZ.out 3 (.int .i64 2) rfl) ((Below.refl _ _).alloc (Nat.le_refl _) _), ?_, hb⟩
    obtain ⟨ev, he, h'⟩ := HG.out
    exact ⟨ev, ((gBelow hb hlt).cell (p := ⟨4, 0, none⟩) hgB).trans he, h'⟩
  have KEY := Aside0.mk key
  clear key
  by_cases c : e0 = 0
  · subst c
    rw [if_pos rfl]
    go_enter Tryz.func153, Tryz.ntmps153
    go_wp2_with fail
    refine (HW.out _ (KEY.out _).2.1 (KEY.out _).1).mono ?_
    rintro e w2 ⟨rfl, hz2, hb2⟩
    have HZ2 := Aside0.mk hz2
    have HB2 := Aside0.mk ((KEY.out _).2.2.trans hb2)
    clear hz2 hb2
    go_wp2
    refine bodyPost_ret (results_tmp rfl _ _ _) rfl ?_
    exact ⟨rfl, HZ2.out, HB2.out⟩
  · rw [if_neg c]
    have h1 : (e0 != 0) = true := bne_iff_ne.2 c
    have h2 : (e0 == 0) = false := beq_eq_false_iff_ne.2 c
    clear c
    go_enter Tryz.func153, Tryz.ntmps153
    go_wp2_with fail
    refine (HW.out _ (KEY.out _).2.1 (KEY.out _).1).mono ?_
    rintro e w2 ⟨rfl, hz2, hb2⟩
    have HZ2 := Aside0.mk hz2
    have HB2 := Aside0.mk ((KEY.out _).2.2.trans hb2)
    clear hz2 hb2
    go_wp2
    refine bodyPost_ret (results_tmp rfl _ _ _) rfl ?_
    exact ⟨rfl, HZ2.out, HB2.out⟩
/-- How a word is read: into the first argument, the second one; an arrow; what was returned. -/
inductive StepK where
  | first
  | second
  | arrow
  | result
def StepK.fn : StepK → Nat
  | .first => 150
  | .second => 151
  | .arrow => 152
  | .result => 153
def stepF (st : StepK) (s : ByteArray) (x : Int × Int × Int × Int) : Option ((Int × Int × Int × Int) × Int) := match st with
  | .first => (wholeF s).bind fun r => some ((r.1, x.2.1, x.2.2.1, x.2.2.2), r.2)
  | .second => (wholeF s).bind fun r => some ((x.1, r.1, x.2.2.1, x.2.2.2), r.2)
  | .arrow => some (x, if s.toList = [45, 62] then 0 else 5)
  | .result => if s.toList = [111, 107] then some ((x.1, x.2.1, 0, 0), 0) else if s.toList = [110, 111, 110, 101] then some ((x.1, x.2.1, 1, 0), 0) else (wholeF s).bind fun r => some ((x.1, x.2.1, 2, r.1), if r.2 = 0 then 0 else 9)
theorem step_calls (st : StepK) (s : ByteArray) (B : Nat) (k : Int) (x y : Int × Int × Int × Int) (e0 : Int) (W : World) (hG : GOk W) (hgB : 4 < B) (hz : W.heap[B]? = some (.cells (opCells k x.1 x.2.1 x.2.2.1 x.2.2.2) 33)) (h : stepF st s x = some (y, e0)) :
    Calls Tryz.prog st.fn #[.agg #[.pointer (some ⟨B, 0, none⟩)], .string s] W fun e w' => e = .returned (.int .i64 e0) ∧ w'.heap[B]? = some (.cells (opCells k y.1 y.2.1 y.2.2.1 y.2.2.2) 33) ∧ W.grownBy w' (some B) := by
  cases st with
  | first =>
    obtain ⟨⟨n, e1⟩, hw, h⟩ := Option.bind_eq_some_iff.1 h
    simp only [Option.some.injEq, Prod.mk.injEq] at h
    obtain ⟨rfl, rfl⟩ := h
    exact first_calls s B k _ _ _ _ n e1 W hG hz hw
  | second =>
    obtain ⟨⟨n, e1⟩, hw, h⟩ := Option.bind_eq_some_iff.1 h
    simp only [Option.some.injEq, Prod.mk.injEq] at h
    obtain ⟨rfl, rfl⟩ := h
    exact second_calls s B k _ _ _ _ n e1 W hG hz hw
  | arrow =>
    unfold stepF at h
    simp only [Option.some.injEq, Prod.mk.injEq] at h
    obtain ⟨rfl, rfl⟩ := h
    exact arrow_calls s B k _ _ _ _ W hz
  | result =>
    unfold stepF at h
    simp only at h
    by_cases c1 : s.toList = [111, 107]
    · rw [if_pos c1] at h
      simp only [Option.some.injEq, Prod.mk.injEq] at h
      obtain ⟨rfl, rfl⟩ := h
      exact result_ok_calls s B k _ _ _ _ W hz c1
    · rw [if_neg c1] at h
      by_cases c2 : s.toList = [110, 111, 110, 101]
      · rw [if_pos c2] at h
        simp only [Option.some.injEq, Prod.mk.injEq] at h
        obtain ⟨rfl, rfl⟩ := h
        exact result_none_calls s B k _ _ _ _ W hz c2
      · rw [if_neg c2] at h
        obtain ⟨⟨n, e1⟩, hw, h⟩ := Option.bind_eq_some_iff.1 h
        simp only [Option.some.injEq, Prod.mk.injEq] at h
        obtain ⟨rfl, rfl⟩ := h
        exact result_num_calls s B k _ _ _ _ n e1 W hG hgB hz c1 c2 hw
end Go.Proofs.YtkjnbfjbdlcehaaGreatDoor.P

/- operation.Read: the operation that words are. -/
namespace Go.Proofs.YtkjnbfjbdlcehaaGreatDoor.P
open Go.RowKit Go.Proofs.YtkjnbfjbdlcehaaGreatDoorW.PrintWords Go.Proofs.YtkjnbfjbdlcehaaGreatDoorW.PrintLast Go.Proofs.YtkjnbfjbdlcehaaGreatDoorW.PrintMore
set_option linter.unusedVariables false
set_option linter.unusedSimpArgs false

def stepsOf (n : Int) : List StepK := if n = 0 then [.arrow, .result] else if n = 1 then [.first, .arrow, .result] else [.first, .second, .arrow, .result]
def runSteps (l : List ByteArray) : List StepK → Nat → Int × Int × Int × Int → Option ((Int × Int × Int × Int) × Nat × Int)
  | [], i, x => some (x, i, 0)
  | s :: ss, i, x => if i + 1 = l.length then some (x, i + 1, 5) else (stepF s (rdOf ByteArray.empty l ((i : Int) + 1)) x).bind fun r => if r.2 = 0 then runSteps l ss (i + 1) r.1 else some (r.1, i + 1, r.2)
/-- What Read tells when its words were read so far. -/
def endRead (l : List ByteArray) (m : Nat) (k : Int) (r : (Int × Int × Int × Int) × Nat × Int) : Option (Int × Int × Int × Int × Int × Int × Int) :=
  if r.2.2 ≠ 0 then some (0, 0, 0, 0, 0, (r.2.1 : Int), r.2.2)
  else if m + 1 < l.length then some (0, 0, 0, 0, 0, (m : Int) + 1, 5)
  else (operation_Check.f k r.1.1 r.1.2.1 r.1.2.2.1 r.1.2.2.2).bind fun c =>
    if c = 0 then some (k, r.1.1, r.1.2.1, r.1.2.2.1, r.1.2.2.2, 0, 0) else if c = 2 then some (0, 0, 0, 0, 0, 1, c) else if c = 9 then some (0, 0, 0, 0, 0, (m : Int), c) else some (0, 0, 0, 0, 0, 0, c)
def operation_Read.f (l : List ByteArray) : Option (Int × Int × Int × Int × Int × Int × Int) :=
  if l.length = 0 then some (0, 0, 0, 0, 0, 0, 5)
  else (operation_Kind.f (rdOf ByteArray.empty l 0)).bind fun ke =>
    if ke.2 ≠ 0 then some (0, 0, 0, 0, 0, 0, ke.2)
    else (runSteps l (stepsOf (kdOf ke.1).args) 0 (0, 0, 0, 0)).bind fun r => endRead l (stepsOf (kdOf ke.1).args).length ke.1 r
def OnlyN (K : Act → World → Prop) : Exit → Act → World → Prop
  | .normal, a, w => K a w
  | _, _, _ => False
theorem wp_onlyK {P : Program} {c : Code} {Q : Exit → Act → World → Prop} {a : Act} {w : World} (h : ∀ K : Act → World → Prop, (∀ a w, Q .normal a w → K a w) → c.wp P (OnlyN K) a w) : c.wp P Q a w :=
  Code.wp_mono (fun e a w h' => by cases e <;> first | exact h' | exact (h' : False).elim) (h (Q .normal) (fun _ _ h' => h'))
theorem keep3 {W : World} {a : Addr} {v : Value} (h : W.cell? a = some v) (o1 o2 o3 : Obj) : ((((W.alloc o1).alloc o2).alloc o3).drew.drew).cell? a = some v := by
  have hlt := World.block_lt_of_cell? W a h
  rw [World.cell?_drew, World.cell?_drew]
  exact ((((Below.refl W.heap.size W).alloc (Nat.le_refl _) o1).alloc (by simp) o2).alloc (by simp; omega) o3).cell hlt |>.trans h
theorem world2 (w w3 : World) (k : Int) (K R : Obj) (h : w.heap.size < w3.heap.size) (HB : Below w.heap.size w w3) (hz : w3.heap[w.heap.size]? = some (.cells (opCells 0 0 0 0 0) 33)) :
    (((w3.setCell ⟨w.heap.size, 0, none⟩ (.int .i64 k)).alloc K).alloc R).heap[w.heap.size]? = some (.cells (opCells k 0 0 0 0) 33) ∧ (((w3.setCell ⟨w.heap.size, 0, none⟩ (.int .i64 k)).alloc K).alloc R).heap[w3.heap.size]? = some K ∧ (((w3.setCell ⟨w.heap.size, 0, none⟩ (.int .i64 k)).alloc K).alloc R).heap[w3.heap.size + 1]? = some R ∧ Below w.heap.size w (((w3.setCell ⟨w.heap.size, 0, none⟩ (.int .i64 k)).alloc K).alloc R) := by
  have hs : (w3.setCell ⟨w.heap.size, 0, none⟩ (.int .i64 k)).heap.size = w3.heap.size := by simp
  have e1 := blk_new (w3.setCell ⟨w.heap.size, 0, none⟩ (.int .i64 k)) K
  have e2 := blk_new ((w3.setCell ⟨w.heap.size, 0, none⟩ (.int .i64 k)).alloc K) R
  rw [hs] at e1
  rw [World.size_alloc, hs] at e2
  refine ⟨?_, ?_, e2, ?_⟩
  · exact blk_below (blk_below (blk_put hz 0 (.int .i64 k) rfl) ((Below.refl _ _).alloc (Nat.le_refl _) _)) ((Below.refl _ _).alloc (Nat.le_refl _) _)
  · exact blk_below e1 ((Below.refl _ _).alloc (Nat.le_refl _) _)
  · exact ((HB.setCell (p := ⟨w.heap.size, 0, none⟩) (Nat.le_refl _) _).alloc (by simp; omega) _).alloc (by simp; omega) _
theorem steps_world (w W : World) (o1 o2 : Obj) (cs : Array Value) (t : TypeId) {k : Int} (hz : W.heap[w.heap.size]? = some (.cells (opCells k 0 0 0 0) 33)) (HB : Below w.heap.size w W) :
    (((W.alloc o1).alloc o2).alloc (.cells cs t)).drew.drew.heap[w.heap.size]? = some (.cells (opCells k 0 0 0 0) 33) ∧ (((W.alloc o1).alloc o2).alloc (.cells cs t)).drew.drew.heap[W.heap.size + 1 + 1]? = some (.cells cs t) ∧ Below w.heap.size w (((W.alloc o1).alloc o2).alloc (.cells cs t)).drew.drew := by
  have e := blk_new ((W.alloc o1).alloc o2) (.cells cs t)
  simp only [World.size_alloc] at e
  refine ⟨?_, e, ?_⟩
  · show (((W.alloc o1).alloc o2).alloc (.cells cs t)).heap[w.heap.size]? = _
    exact blk_below (blk_below (blk_below hz ((Below.refl _ _).alloc (Nat.le_refl _) o1)) ((Below.refl _ _).alloc (Nat.le_refl _) o2)) ((Below.refl _ _).alloc (Nat.le_refl _) (.cells cs t))
  · exact below_drew (below_drew (((HB.alloc HB.size o1).alloc (by have := HB.size; simp; omega) o2).alloc (by have := HB.size; simp; omega) _))
theorem then_world {T : Act → World → Prop} {a : Act} {w : World} (F : World → Prop) (h : F w) (k : ∀ w, F w → T a w) : T a w := k w h
theorem zero_blk {W : World} {B : Nat} {k a b rk rn : Int} (hz : W.heap[B]? = some (.cells (opCells k a b rk rn) 33)) : ((((((((((W.setCell ⟨B, 0, none⟩ (.int .i64 0)).setCell ⟨B, 1, none⟩ (.int .i64 0)).setCell ⟨B, 2, none⟩ (.int .i64 0)).setCell ⟨B, 3, none⟩ (.int .i64 0)).setCell ⟨B, 4, none⟩ (.int .i64 0)).setCell ⟨B, 0, none⟩ (.int .i64 0)).setCell ⟨B, 1, none⟩ (.int .i64 0)).setCell ⟨B, 2, none⟩ (.int .i64 0)).setCell ⟨B, 3, none⟩ (.int .i64 0)).setCell ⟨B, 4, none⟩ (.int .i64 0)).heap[B]? = some (.cells #[.int .i64 0, .int .i64 0, .int .i64 0, .int .i64 0, .int .i64 0] 33) := by
  have h0 : (W.setCell ⟨B, 0, none⟩ (.int .i64 0)).heap[B]? = some (.cells #[.int .i64 0, .int .i64 a, .int .i64 b, .int .i64 rk, .int .i64 rn] 33) := blk_put hz 0 (.int .i64 0) rfl
  have h1 : ((W.setCell ⟨B, 0, none⟩ (.int .i64 0)).setCell ⟨B, 1, none⟩ (.int .i64 0)).heap[B]? = some (.cells #[.int .i64 0, .int .i64 0, .int .i64 b, .int .i64 rk, .int .i64 rn] 33) := blk_put h0 1 (.int .i64 0) rfl
  have h2 : (((W.setCell ⟨B, 0, none⟩ (.int .i64 0)).setCell ⟨B, 1, none⟩ (.int .i64 0)).setCell ⟨B, 2, none⟩ (.int .i64 0)).heap[B]? = some (.cells #[.int .i64 0, .int .i64 0, .int .i64 0, .int .i64 rk, .int .i64 rn] 33) := blk_put h1 2 (.int .i64 0) rfl
  have h3 : ((((W.setCell ⟨B, 0, none⟩ (.int .i64 0)).setCell ⟨B, 1, none⟩ (.int .i64 0)).setCell ⟨B, 2, none⟩ (.int .i64 0)).setCell ⟨B, 3, none⟩ (.int .i64 0)).heap[B]? = some (.cells #[.int .i64 0, .int .i64 0, .int .i64 0, .int .i64 0, .int .i64 rn] 33) := blk_put h2 3 (.int .i64 0) rfl
  have h4 : (((((W.setCell ⟨B, 0, none⟩ (.int .i64 0)).setCell ⟨B, 1, none⟩ (.int .i64 0)).setCell ⟨B, 2, none⟩ (.int .i64 0)).setCell ⟨B, 3, none⟩ (.int .i64 0)).setCell ⟨B, 4, none⟩ (.int .i64 0)).heap[B]? = some (.cells #[.int .i64 0, .int .i64 0, .int .i64 0, .int .i64 0, .int .i64 0] 33) := blk_put h3 4 (.int .i64 0) rfl
  have h5 : ((((((W.setCell ⟨B, 0, none⟩ (.int .i64 0)).setCell ⟨B, 1, none⟩ (.int .i64 0)).setCell ⟨B, 2, none⟩ (.int .i64 0)).setCell ⟨B, 3, none⟩ (.int .i64 0)).setCell ⟨B, 4, none⟩ (.int .i64 0)).setCell ⟨B, 0, none⟩ (.int .i64 0)).heap[B]? = some (.cells #[.int .i64 0, .int .i64 0, .int .i64 0, .int .i64 0, .int .i64 0] 33) := blk_put h4 0 (.int .i64 0) rfl
  have h6 : (((((((W.setCell ⟨B, 0, none⟩ (.int .i64 0)).setCell ⟨B, 1, none⟩ (.int .i64 0)).setCell ⟨B, 2, none⟩ (.int .i64 0)).setCell ⟨B, 3, none⟩ (.int .i64 0)).setCell ⟨B, 4, none⟩ (.int .i64 0)).setCell ⟨B, 0, none⟩ (.int .i64 0)).setCell ⟨B, 1, none⟩ (.int .i64 0)).heap[B]? = some (.cells #[.int .i64 0, .int .i64 0, .int .i64 0, .int .i64 0, .int .i64 0] 33) := blk_put h5 1 (.int .i64 0) rfl
  have h7 : ((((((((W.setCell ⟨B, 0, none⟩ (.int .i64 0)).setCell ⟨B, 1, none⟩ (.int .i64 0)).setCell ⟨B, 2, none⟩ (.int .i64 0)).setCell ⟨B, 3, none⟩ (.int .i64 0)).setCell ⟨B, 4, none⟩ (.int .i64 0)).setCell ⟨B, 0, none⟩ (.int .i64 0)).setCell ⟨B, 1, none⟩ (.int .i64 0)).setCell ⟨B, 2, none⟩ (.int .i64 0)).heap[B]? = some (.cells #[.int .i64 0, .int .i64 0, .int .i64 0, .int .i64 0, .int .i64 0] 33) := blk_put h6 2 (.int .i64 0) rfl
  have h8 : (((((((((W.setCell ⟨B, 0, none⟩ (.int .i64 0)).setCell ⟨B, 1, none⟩ (.int .i64 0)).setCell ⟨B, 2, none⟩ (.int .i64 0)).setCell ⟨B, 3, none⟩ (.int .i64 0)).setCell ⟨B, 4, none⟩ (.int .i64 0)).setCell ⟨B, 0, none⟩ (.int .i64 0)).setCell ⟨B, 1, none⟩ (.int .i64 0)).setCell ⟨B, 2, none⟩ (.int .i64 0)).setCell ⟨B, 3, none⟩ (.int .i64 0)).heap[B]? = some (.cells #[.int .i64 0, .int .i64 0, .int .i64 0, .int .i64 0, .int .i64 0] 33) := blk_put h7 3 (.int .i64 0) rfl
  have h9 : ((((((((((W.setCell ⟨B, 0, none⟩ (.int .i64 0)).setCell ⟨B, 1, none⟩ (.int .i64 0)).setCell ⟨B, 2, none⟩ (.int .i64 0)).setCell ⟨B, 3, none⟩ (.int .i64 0)).setCell ⟨B, 4, none⟩ (.int .i64 0)).setCell ⟨B, 0, none⟩ (.int .i64 0)).setCell ⟨B, 1, none⟩ (.int .i64 0)).setCell ⟨B, 2, none⟩ (.int .i64 0)).setCell ⟨B, 3, none⟩ (.int .i64 0)).setCell ⟨B, 4, none⟩ (.int .i64 0)).heap[B]? = some (.cells #[.int .i64 0, .int .i64 0, .int .i64 0, .int .i64 0, .int .i64 0] 33) := blk_put h8 4 (.int .i64 0) rfl
  exact h9
theorem zero_below {w W : World} {B : Nat} (h : Below B w W) : Below B w ((((((((((W.setCell ⟨B, 0, none⟩ (.int .i64 0)).setCell ⟨B, 1, none⟩ (.int .i64 0)).setCell ⟨B, 2, none⟩ (.int .i64 0)).setCell ⟨B, 3, none⟩ (.int .i64 0)).setCell ⟨B, 4, none⟩ (.int .i64 0)).setCell ⟨B, 0, none⟩ (.int .i64 0)).setCell ⟨B, 1, none⟩ (.int .i64 0)).setCell ⟨B, 2, none⟩ (.int .i64 0)).setCell ⟨B, 3, none⟩ (.int .i64 0)).setCell ⟨B, 4, none⟩ (.int .i64 0)) := ((((((((((h.setCell (p := ⟨B, 0, none⟩) (Nat.le_refl _) (.int .i64 0)).setCell (p := ⟨B, 1, none⟩) (Nat.le_refl _) (.int .i64 0)).setCell (p := ⟨B, 2, none⟩) (Nat.le_refl _) (.int .i64 0)).setCell (p := ⟨B, 3, none⟩) (Nat.le_refl _) (.int .i64 0)).setCell (p := ⟨B, 4, none⟩) (Nat.le_refl _) (.int .i64 0)).setCell (p := ⟨B, 0, none⟩) (Nat.le_refl _) (.int .i64 0)).setCell (p := ⟨B, 1, none⟩) (Nat.le_refl _) (.int .i64 0)).setCell (p := ⟨B, 2, none⟩) (Nat.le_refl _) (.int .i64 0)).setCell (p := ⟨B, 3, none⟩) (Nat.le_refl _) (.int .i64 0)).setCell (p := ⟨B, 4, none⟩) (Nat.le_refl _) (.int .i64 0))
theorem same_blk {W : World} {B : Nat} {k a b rk rn : Int} (hz : W.heap[B]? = some (.cells (opCells k a b rk rn) 33)) : (((((W.setCell ⟨B, 0, none⟩ (.int .i64 k)).setCell ⟨B, 1, none⟩ (.int .i64 a)).setCell ⟨B, 2, none⟩ (.int .i64 b)).setCell ⟨B, 3, none⟩ (.int .i64 rk)).setCell ⟨B, 4, none⟩ (.int .i64 rn)).heap[B]? = some (.cells (opCells k a b rk rn) 33) := by
  have h0 : (W.setCell ⟨B, 0, none⟩ (.int .i64 k)).heap[B]? = some (.cells #[.int .i64 k, .int .i64 a, .int .i64 b, .int .i64 rk, .int .i64 rn] 33) := blk_put hz 0 (.int .i64 k) rfl
  have h1 : ((W.setCell ⟨B, 0, none⟩ (.int .i64 k)).setCell ⟨B, 1, none⟩ (.int .i64 a)).heap[B]? = some (.cells #[.int .i64 k, .int .i64 a, .int .i64 b, .int .i64 rk, .int .i64 rn] 33) := blk_put h0 1 (.int .i64 a) rfl
  have h2 : (((W.setCell ⟨B, 0, none⟩ (.int .i64 k)).setCell ⟨B, 1, none⟩ (.int .i64 a)).setCell ⟨B, 2, none⟩ (.int .i64 b)).heap[B]? = some (.cells #[.int .i64 k, .int .i64 a, .int .i64 b, .int .i64 rk, .int .i64 rn] 33) := blk_put h1 2 (.int .i64 b) rfl
  have h3 : ((((W.setCell ⟨B, 0, none⟩ (.int .i64 k)).setCell ⟨B, 1, none⟩ (.int .i64 a)).setCell ⟨B, 2, none⟩ (.int .i64 b)).setCell ⟨B, 3, none⟩ (.int .i64 rk)).heap[B]? = some (.cells #[.int .i64 k, .int .i64 a, .int .i64 b, .int .i64 rk, .int .i64 rn] 33) := blk_put h2 3 (.int .i64 rk) rfl
  have h4 : (((((W.setCell ⟨B, 0, none⟩ (.int .i64 k)).setCell ⟨B, 1, none⟩ (.int .i64 a)).setCell ⟨B, 2, none⟩ (.int .i64 b)).setCell ⟨B, 3, none⟩ (.int .i64 rk)).setCell ⟨B, 4, none⟩ (.int .i64 rn)).heap[B]? = some (.cells #[.int .i64 k, .int .i64 a, .int .i64 b, .int .i64 rk, .int .i64 rn] 33) := blk_put h3 4 (.int .i64 rn) rfl
  exact h4
theorem same_below {w W : World} {B : Nat} {k a b rk rn : Int} (h : Below B w W) : Below B w (((((W.setCell ⟨B, 0, none⟩ (.int .i64 k)).setCell ⟨B, 1, none⟩ (.int .i64 a)).setCell ⟨B, 2, none⟩ (.int .i64 b)).setCell ⟨B, 3, none⟩ (.int .i64 rk)).setCell ⟨B, 4, none⟩ (.int .i64 rn)) := (((((h.setCell (p := ⟨B, 0, none⟩) (Nat.le_refl _) (.int .i64 k)).setCell (p := ⟨B, 1, none⟩) (Nat.le_refl _) (.int .i64 a)).setCell (p := ⟨B, 2, none⟩) (Nat.le_refl _) (.int .i64 b)).setCell (p := ⟨B, 3, none⟩) (Nat.le_refl _) (.int .i64 rk)).setCell (p := ⟨B, 4, none⟩) (Nat.le_refl _) (.int .i64 rn))
end Go.Proofs.YtkjnbfjbdlcehaaGreatDoor.P

/- operation.Read where the kind has so many arguments. -/
namespace Go.Proofs.YtkjnbfjbdlcehaaGreatDoor.P
open Go.RowKit Go.Proofs.YtkjnbfjbdlcehaaGreatDoorW.PrintWords Go.Proofs.YtkjnbfjbdlcehaaGreatDoorW.PrintLast Go.Proofs.YtkjnbfjbdlcehaaGreatDoorW.PrintMore
set_option linter.unusedVariables false
set_option linter.unusedSimpArgs false
set_option maxHeartbeats 4000000 in
set_option maxRecDepth 100000 in
theorem read_0 (n typ : Int) (word : ByteArray) (ret arg : Nat) (done nothing : Bool) (ad : Addr) (c0 : Nat) (l : List ByteArray) (hl : 0 < l.length) (hl2 : l.length ≤ 9223372036854775807) (hc0 : l.length ≤ c0) (k : Int) (w : World) (had : ad.block < w.heap.size) (hG : GOk w)
    (hcell : ∀ i : Int, 0 ≤ i → i < l.length → w.cell? (ad.add i.toNat) = some (.string (rdOf ByteArray.empty l i)))
    (hkind : ∀ W, Calls Tryz.prog 149 #[.string (rdOf ByteArray.empty l 0)] W fun e w' => e = .returned (.tuple #[.int .i64 k, .int .i64 0]) ∧ Below W.heap.size W w')
    (hby : ∀ W, Calls Tryz.prog 60 #[.int .i64 k] W fun e w' => e = .returned (.tuple #[.agg #[.int .i64 n, .int .i64 typ, .string word, .int .i64 0, .func (.func ret) #[] #[], .func (.func arg) #[] #[], .bool done, .bool nothing], .int .i64 0]) ∧ Below W.heap.size W w')
    (R : (Int × Int × Int × Int) × Nat × Int) (hR : runSteps l [.arrow, .result] 0 (0, 0, 0, 0) = some R) (r1 r2 r3 r4 r5 r6 r7 : Int) (hE : endRead l 2 k R = some (r1, r2, r3, r4, r5, r6, r7)) :
    Calls Tryz.prog 123 #[.slice (some ad) l.length c0] w fun e w' => e = .returned (.tuple #[.agg #[.int .i64 r1, .int .i64 r2, .int .i64 r3, .int .i64 r4, .int .i64 r5], .int .i64 r6, .int .i64 r7]) ∧ Below w.heap.size w w' := by
  have HK := Aside0.mk hkind
  have HY := Aside0.mk hby
  have HC := Aside0.mk hcell
  have HR := Aside0.mk hR
  have HE := Aside0.mk hE
  have HGG := Aside0.mk hG
  have hgB : 4 < w.heap.size := by
    obtain ⟨ev, he, _⟩ := hG
    exact World.block_lt_of_cell? w _ he
  clear hkind hby hcell hR hE hG
  have p1 : ((l.length : Int) == 0) = false := beq_eq_false_iff_ne.2 (by omega)
  have p2 : (0 : Int) < (l.length : Int) := by omega
  have p3 := eq_true p2
  go_enter Tryz.func123, Tryz.ntmps123
  have hcw : w.cell? ad = some (.string (rdOf ByteArray.empty l 0)) := by
    have := HC.out 0 (by omega) (by omega)
    simpa [Addr.add] using this
  go_wp2_with fail
  go_step3
  go_wp2_with fail
  refine (HK.out _).mono ?_
  rintro e w2 ⟨rfl, hb2⟩
  have hz := blk_below (blk_new w _) hb2
  have c0 := (blk_cell hz 0).trans rfl
  have f0 := blk_frozen hz 0
  have HZ2 := Aside0.mk hz
  have hBW : w.heap.size < w2.heap.size := blk_lt hz
  have HB2 := Aside0.mk (((Below.refl _ w).alloc (Nat.le_refl _) _).trans (hb2.mono (by simp)))
  clear hz hb2
  go_wp2_with fail
  refine (HY.out _).mono ?_
  rintro e w3 ⟨rfl, hb3⟩
  have hz := blk_below HZ2.out hb3
  clear c0 f0
  have c0 := (blk_cell hz 0).trans rfl
  have f0 := blk_frozen hz 0
  have HZ3 := Aside0.mk hz
  have hBW3 : w.heap.size < w3.heap.size := blk_lt hz
  have hBW4 : w.heap.size < w3.heap.size + 1 := by omega
  have HB3 := Aside0.mk (HB2.out.trans (hb3.mono HB2.out.size))
  clear hz hb3
  go_wp2_with fail
  clear c0 f0 hcw
  have HF := world2 w w3 k (.cells #[.int .i64 n, .int .i64 typ, .string word, .int .i64 0, .func (.func ret) #[] #[], .func (.func arg) #[] #[], .bool done, .bool nothing] 101) (.cells #[.pointer (some ⟨w.heap.size, 0, none⟩)] 195) hBW3 HB3.out HZ3.out
  generalize ((w3.setCell ⟨w.heap.size, 0, none⟩ (.int .i64 k)).alloc (.cells #[.int .i64 n, .int .i64 typ, .string word, .int .i64 0, .func (.func ret) #[] #[], .func (.func arg) #[] #[], .bool done, .bool nothing] 101)).alloc (.cells #[.pointer (some ⟨w.heap.size, 0, none⟩)] 195) = W at HF ⊢
  clear hBW3 hBW4 HB3 HZ3 HZ2 HB2 hBW
  generalize hgr : w3.heap.size + 1 = gr at HF ⊢
  generalize w3.heap.size = gk at HF hgr ⊢
  obtain ⟨hz, hkd, hrd, hB⟩ := HF
  have HZ := Aside0.mk hz
  have HB := Aside0.mk hB
  have k1 := (blk_cell hkd 3).trans rfl
  have r1c := (blk_cell hrd 0).trans rfl
  have l1 := blk_lt hkd
  have l2 := blk_lt hrd
  have l1a : gk < W.heap.size + 1 := by omega
  have l1b : gk < W.heap.size + 1 + 1 := by omega
  have l2a : gr < W.heap.size + 1 := by omega
  have l2b : gr < W.heap.size + 1 + 1 := by omega
  have m1 : gk ≠ W.heap.size := by omega
  have m1a : gk ≠ W.heap.size + 1 := by omega
  have m1b : gk ≠ W.heap.size + 1 + 1 := by omega
  have m2 : gr ≠ W.heap.size := by omega
  have m2a : gr ≠ W.heap.size + 1 := by omega
  have m2b : gr ≠ W.heap.size + 1 + 1 := by omega
  clear hz hB hkd hrd hgr
  refine wp_onlyK fun K hK => ?_
  refine wp_region_held_drew (S := fun w' => w'.cell? ⟨gr, 0, none⟩ = some (.pointer (some ⟨w.heap.size, 0, none⟩)) ∧ w'.cell? ⟨gk, 3, none⟩ = some (.int .i64 0)) (by kernel_rfl) ?_ (fun hHeld => ?_)
  · go_keep
  refine wpAnyH_take (i := 0) (v := .agg #[.pointer (some ⟨w.heap.size, 0, none⟩)]) rfl (by kernel_rfl) (by kernel_rfl) (by kernel_rfl) (fun _ _ _ h => h) (Or.inl ⟨by rfl, fun w' hSw => ?_⟩) (by assumption) ?_
  · obtain ⟨hs1, hs2⟩ := hSw
    go_simp
  simp only [Act.put, List.getElem_toArray, List.getElem_cons_zero, List.getElem_cons_succ, List.setIfInBounds_toArray, List.set_cons_zero, List.set_cons_succ]
  refine wpAnyH_take (i := 1) (v := .func (.func 150) #[.agg #[.pointer (some ⟨w.heap.size, 0, none⟩)]] #[]) rfl (by kernel_rfl) (by kernel_rfl) (by kernel_rfl) (fun _ _ _ h => h) (Or.inl ⟨by rfl, fun w' hSw => ?_⟩) (by assumption) ?_
  · obtain ⟨hs1, hs2⟩ := hSw
    go_simp
  simp only [Act.put, List.getElem_toArray, List.getElem_cons_zero, List.getElem_cons_succ, List.setIfInBounds_toArray, List.set_cons_zero, List.set_cons_succ]
  refine wpAnyH_take (i := 2) (v := .agg #[.pointer (some ⟨w.heap.size, 0, none⟩)]) rfl (by kernel_rfl) (by kernel_rfl) (by kernel_rfl) (fun _ _ _ h => h) (Or.inl ⟨by rfl, fun w' hSw => ?_⟩) (by assumption) ?_
  · obtain ⟨hs1, hs2⟩ := hSw
    go_simp
  simp only [Act.put, List.getElem_toArray, List.getElem_cons_zero, List.getElem_cons_succ, List.setIfInBounds_toArray, List.set_cons_zero, List.set_cons_succ]
  refine wpAnyH_take (i := 3) (v := .func (.func 151) #[.agg #[.pointer (some ⟨w.heap.size, 0, none⟩)]] #[]) rfl (by kernel_rfl) (by kernel_rfl) (by kernel_rfl) (fun _ _ _ h => h) (Or.inl ⟨by rfl, fun w' hSw => ?_⟩) (by assumption) ?_
  · obtain ⟨hs1, hs2⟩ := hSw
    go_simp
  simp only [Act.put, List.getElem_toArray, List.getElem_cons_zero, List.getElem_cons_succ, List.setIfInBounds_toArray, List.set_cons_zero, List.set_cons_succ]
  refine wpAnyH_take (i := 5) (v := .pointer (some ⟨gk, 3, none⟩)) rfl (by kernel_rfl) (by kernel_rfl) (by kernel_rfl) (fun _ _ _ h => h) (Or.inl ⟨by rfl, fun w' hSw => ?_⟩) (by assumption) ?_
  · obtain ⟨hs1, hs2⟩ := hSw
    go_simp
  simp only [Act.put, List.getElem_toArray, List.getElem_cons_zero, List.getElem_cons_succ, List.setIfInBounds_toArray, List.set_cons_zero, List.set_cons_succ]
  refine wpAnyH_take (i := 6) (v := .int .i64 0) rfl (by kernel_rfl) (by kernel_rfl) (by kernel_rfl) (fun _ _ _ h => h) (Or.inl ⟨by rfl, fun w' hSw => ?_⟩) (by assumption) ?_
  · obtain ⟨hs1, hs2⟩ := hSw
    go_simp
  simp only [Act.put, List.getElem_toArray, List.getElem_cons_zero, List.getElem_cons_succ, List.setIfInBounds_toArray, List.set_cons_zero, List.set_cons_succ]
  refine wpAnyH_take (i := 7) (v := .pointer (some ⟨gk, 3, none⟩)) rfl (by kernel_rfl) (by kernel_rfl) (by kernel_rfl) (fun _ _ _ h => h) (Or.inl ⟨by rfl, fun w' hSw => ?_⟩) (by assumption) ?_
  · obtain ⟨hs1, hs2⟩ := hSw
    go_simp
  simp only [Act.put, List.getElem_toArray, List.getElem_cons_zero, List.getElem_cons_succ, List.setIfInBounds_toArray, List.set_cons_zero, List.set_cons_succ]
  refine wpAnyH_take (i := 8) (v := .int .i64 0) rfl (by kernel_rfl) (by kernel_rfl) (by kernel_rfl) (fun _ _ _ h => h) (Or.inl ⟨by rfl, fun w' hSw => ?_⟩) (by assumption) ?_
  · obtain ⟨hs1, hs2⟩ := hSw
    go_simp
  simp only [Act.put, List.getElem_toArray, List.getElem_cons_zero, List.getElem_cons_succ, List.setIfInBounds_toArray, List.set_cons_zero, List.set_cons_succ]
  refine wpAnyH_take (i := 10) (v := .agg #[.pointer (some ⟨w.heap.size, 0, none⟩)]) rfl (by kernel_rfl) (by kernel_rfl) (by kernel_rfl) (fun _ _ _ h => h) (Or.inl ⟨by rfl, fun w' hSw => ?_⟩) (by assumption) ?_
  · obtain ⟨hs1, hs2⟩ := hSw
    go_simp
  simp only [Act.put, List.getElem_toArray, List.getElem_cons_zero, List.getElem_cons_succ, List.setIfInBounds_toArray, List.set_cons_zero, List.set_cons_succ]
  refine wpAnyH_take (i := 11) (v := .func (.func 152) #[.agg #[.pointer (some ⟨w.heap.size, 0, none⟩)]] #[]) rfl (by kernel_rfl) (by kernel_rfl) (by kernel_rfl) (fun _ _ _ h => h) (Or.inl ⟨by rfl, fun w' hSw => ?_⟩) (by assumption) ?_
  · obtain ⟨hs1, hs2⟩ := hSw
    go_simp
  simp only [Act.put, List.getElem_toArray, List.getElem_cons_zero, List.getElem_cons_succ, List.setIfInBounds_toArray, List.set_cons_zero, List.set_cons_succ]
  refine wpAnyH_take (i := 12) (v := .agg #[.pointer (some ⟨w.heap.size, 0, none⟩)]) rfl (by kernel_rfl) (by kernel_rfl) (by kernel_rfl) (fun _ _ _ h => h) (Or.inl ⟨by rfl, fun w' hSw => ?_⟩) (by assumption) ?_
  · obtain ⟨hs1, hs2⟩ := hSw
    go_simp
  simp only [Act.put, List.getElem_toArray, List.getElem_cons_zero, List.getElem_cons_succ, List.setIfInBounds_toArray, List.set_cons_zero, List.set_cons_succ]
  refine wpAnyH_take (i := 13) (v := .func (.func 153) #[.agg #[.pointer (some ⟨w.heap.size, 0, none⟩)]] #[]) rfl (by kernel_rfl) (by kernel_rfl) (by kernel_rfl) (fun _ _ _ h => h) (Or.inl ⟨by rfl, fun w' hSw => ?_⟩) (by assumption) ?_
  · obtain ⟨hs1, hs2⟩ := hSw
    go_simp
  simp only [Act.put, List.getElem_toArray, List.getElem_cons_zero, List.getElem_cons_succ, List.setIfInBounds_toArray, List.set_cons_zero, List.set_cons_succ]
  refine wpAnyH_ready (rs := [4, 14]) (by kernel_rfl) (by simp) ?_
  refine AllReadyH.cons (o := _) rfl (fun K1 hK1 => ?wa) (AllReadyH.cons (o := _) rfl (fun K1 hK1 => ?wb) AllReadyH.nil)
  case' wa =>
    go_simp
    refine hK1.out _ _ ?_ (fun hHeld => ?_)
    · first | (go_keep; done) | (exact ⟨keep3 r1c _ _ _, keep3 k1 _ _ _⟩)
    clear hK1 K1
    try simp only [Act.put, List.getElem_toArray, List.getElem_cons_zero, List.getElem_cons_succ, List.setIfInBounds_toArray, List.set_cons_zero, List.set_cons_succ]
    refine wpAnyH_take (i := 9) (v := .slice (some ⟨W.heap.size, 0, none⟩) 0 0) rfl (by kernel_rfl) (by kernel_rfl) (by kernel_rfl) (fun _ _ _ h => h) (Or.inl ⟨by rfl, fun w' hSw => ?_⟩) (by assumption) ?_
    · go_simp
    simp only [Act.put, List.getElem_toArray, List.getElem_cons_zero, List.getElem_cons_succ, List.setIfInBounds_toArray, List.set_cons_zero, List.set_cons_succ]
    refine wpAnyH_ready (rs := [14]) (by kernel_rfl) (by simp) ?_
    refine AllReadyH.cons (o := _) rfl (fun K1 hK1 => ?_) AllReadyH.nil
    go_simp
    refine hK1.out _ _ ?_ (fun hHeld => ?_)
    · first | (go_keep; done) | (exact ⟨keep3 r1c _ _ _, keep3 k1 _ _ _⟩)
    clear hK1 K1
    try simp only [Act.put, List.getElem_toArray, List.getElem_cons_zero, List.getElem_cons_succ, List.setIfInBounds_toArray, List.set_cons_zero, List.set_cons_succ]
    refine wpAnyH_ready (rs := [15]) (by kernel_rfl) (by simp) ?_
    refine AllReadyH.cons (o := _) rfl (fun K1 hK1 => ?_) AllReadyH.nil
    go_wp2_with fail
    refine hK1.out _ _ ?_ (fun hHeld => ?_)
    · first | (go_keep; done) | (exact ⟨keep3 r1c _ _ _, keep3 k1 _ _ _⟩)
    clear hK1 K1
    try simp only [Act.put, List.getElem_toArray, List.getElem_cons_zero, List.getElem_cons_succ, List.setIfInBounds_toArray, List.set_cons_zero, List.set_cons_succ]
    refine wpAnyH_take (i := 16) (v := ?va) rfl (by kernel_rfl) (by kernel_rfl) (by kernel_rfl) (fun _ _ _ h => h) (Or.inl ⟨by rfl, ?hya⟩) (by assumption) ?resta
    case hya =>
      intro w' hSw
      go_simp
      with_reducible rfl
    simp only [Act.put, List.getElem_toArray, List.getElem_cons_zero, List.getElem_cons_succ, List.setIfInBounds_toArray, List.set_cons_zero, List.set_cons_succ]
    refine wpAnyH_done (by kernel_rfl) ?_ _
    show K _ _
    refine hK _ _ ?_
    clear hK K
  case' wb =>
    go_simp
    refine hK1.out _ _ ?_ (fun hHeld => ?_)
    · first | (go_keep; done) | (exact ⟨keep3 r1c _ _ _, keep3 k1 _ _ _⟩)
    clear hK1 K1
    try simp only [Act.put, List.getElem_toArray, List.getElem_cons_zero, List.getElem_cons_succ, List.setIfInBounds_toArray, List.set_cons_zero, List.set_cons_succ]
    refine wpAnyH_ready (rs := [4]) (by kernel_rfl) (by simp) ?_
    refine AllReadyH.cons (o := _) rfl (fun K1 hK1 => ?_) AllReadyH.nil
    go_simp
    refine hK1.out _ _ ?_ (fun hHeld => ?_)
    · first | (go_keep; done) | (exact ⟨keep3 r1c _ _ _, keep3 k1 _ _ _⟩)
    clear hK1 K1
    try simp only [Act.put, List.getElem_toArray, List.getElem_cons_zero, List.getElem_cons_succ, List.setIfInBounds_toArray, List.set_cons_zero, List.set_cons_succ]
    refine wpAnyH_take (i := 9) (v := .slice (some ⟨W.heap.size + 1, 0, none⟩) 0 0) rfl (by kernel_rfl) (by kernel_rfl) (by kernel_rfl) (fun _ _ _ h => h) (Or.inl ⟨by rfl, fun w' hSw => ?_⟩) (by assumption) ?_
    · go_simp
    simp only [Act.put, List.getElem_toArray, List.getElem_cons_zero, List.getElem_cons_succ, List.setIfInBounds_toArray, List.set_cons_zero, List.set_cons_succ]
    refine wpAnyH_ready (rs := [15]) (by kernel_rfl) (by simp) ?_
    refine AllReadyH.cons (o := _) rfl (fun K1 hK1 => ?_) AllReadyH.nil
    go_wp2_with fail
    refine hK1.out _ _ ?_ (fun hHeld => ?_)
    · first | (go_keep; done) | (exact ⟨keep3 r1c _ _ _, keep3 k1 _ _ _⟩)
    clear hK1 K1
    try simp only [Act.put, List.getElem_toArray, List.getElem_cons_zero, List.getElem_cons_succ, List.setIfInBounds_toArray, List.set_cons_zero, List.set_cons_succ]
    refine wpAnyH_take (i := 16) (v := ?vb) rfl (by kernel_rfl) (by kernel_rfl) (by kernel_rfl) (fun _ _ _ h => h) (Or.inl ⟨by rfl, ?hyb⟩) (by assumption) ?restb
    case hyb =>
      intro w' hSw
      go_simp
      with_reducible rfl
    simp only [Act.put, List.getElem_toArray, List.getElem_cons_zero, List.getElem_cons_succ, List.setIfInBounds_toArray, List.set_cons_zero, List.set_cons_succ]
    refine wpAnyH_done (by kernel_rfl) ?_ _
    show K _ _
    refine hK _ _ ?_
    clear hK K
  all_goals
    clear hHeld k1 r1c l1 l2 l1a l1b l2a l2b m1 m1a m1b m2 m2a m2b
    generalize (Question.appendCap 2 0 71).cut (W.tape (W.drawn + 1) (Question.appendCap 2 0 71)) = cap9
    refine then_world (fun WW => WW.heap[w.heap.size]? = some (.cells (opCells k 0 0 0 0) 33) ∧ (∃ cs, WW.heap[W.heap.size + 1 + 1]? = some (.cells cs 71) ∧ cs[0]? = some (.func (.func 152) #[.agg #[.pointer (some ⟨w.heap.size, 0, none⟩)]] #[]) ∧ cs[1]? = some (.func (.func 153) #[.agg #[.pointer (some ⟨w.heap.size, 0, none⟩)]] #[])) ∧ Below w.heap.size w WW) ⟨(steps_world w W _ _ _ _ HZ.out HB.out).1, ⟨_, (steps_world w W _ _ _ _ HZ.out HB.out).2.1, (by rw [Array.getElem?_append_left (by simp)]; rfl), (by rw [Array.getElem?_append_left (by simp)]; rfl)⟩, (steps_world w W _ _ _ _ HZ.out HB.out).2.2⟩ fun W0 HF => ?_
    clear HZ HB
    generalize W.heap.size + 1 + 1 = gs at HF ⊢
    obtain ⟨hz, ⟨cs, hst, q0, q1⟩, hB⟩ := HF
    have HZ := Aside0.mk hz
    have HS := Aside0.mk hst
    have HB := Aside0.mk hB
    clear hz hst hB
    have Q0 := Aside0.mk q0
    have Q1 := Aside0.mk q1
    clear q0 q1
    go_wp2_with fail
    go_step3
    go_wp2_with fail
    refine wp_loop_rounds 3 ?_
    have HL := Aside0.mk hl
    rw [rounds_succ]
    have st0 := (blk_cell HS.out 0).trans Q0.out
    have gl0 := blk_lt HS.out
    by_cases cj0 : 0 + 1 = l.length
    · have e1 : ((1 : Int) == (l.length : Int)) = true := beq_iff_eq.2 (by omega)
      have hR := HR.out
      unfold runSteps at hR
      rw [if_pos cj0] at hR
      have hR := (Option.some.inj hR).symm
      have hE := HE.out
      rw [hR] at hE
      unfold endRead at hE
      rw [if_pos (show (5 : Int) ≠ 0 by decide)] at hE
      simp only [Option.some.injEq, Prod.mk.injEq] at hE
      obtain ⟨rfl, rfl, rfl, rfl, rfl, rfl, rfl⟩ := hE
      clear cj0
      have c0' := (blk_cell HZ.out 0).trans rfl
      have c1' := (blk_cell HZ.out 1).trans rfl
      have c2' := (blk_cell HZ.out 2).trans rfl
      have c3' := (blk_cell HZ.out 3).trans rfl
      have c4' := (blk_cell HZ.out 4).trans rfl
      have f0' := blk_frozen HZ.out 0
      have f1' := blk_frozen HZ.out 1
      have f2' := blk_frozen HZ.out 2
      have f3' := blk_frozen HZ.out 3
      have f4' := blk_frozen HZ.out 4
      have s1 := blk_lt HZ.out
      go_wp2
      try rw [Exit.noGoto_ret]
      refine bodyPost_ret (results_ctt rfl _ _ w.heap.size 33 #[.int .i64 0, .int .i64 0, .int .i64 0, .int .i64 0, .int .i64 0] (0, 0) _ rfl (zero_blk HZ.out) Tryz.underlying33 rfl (by kernel_rfl)) rfl ?_
      exact ⟨rfl, zero_below HB.out⟩
    have e1 : ((1 : Int) == (l.length : Int)) = false := beq_eq_false_iff_ne.2 (by omega)
    have pj0 : (1 : Int) < (l.length : Int) := by have := HL.out; omega
    have HL' := Aside0.mk (show 1 < l.length by omega)
    clear HL
    have HL := HL'
    clear HL'
    have pk0 := eq_true pj0
    have hcw : W0.cell? ⟨ad.block, ad.off + 1, none⟩ = some (.string (rdOf ByteArray.empty l 1)) := by
      have h := HC.out 1 (by omega) (by omega)
      exact (HB.out.cell (p := ⟨ad.block, ad.off + 1, none⟩) had).trans (by simpa [Addr.add] using h)
    have hR := HR.out
    unfold runSteps at hR
    rw [if_neg cj0] at hR
    obtain ⟨⟨y0, e0v⟩, hs, hR⟩ := Option.bind_eq_some_iff.1 hR
    have HT := Aside0.mk (show stepF .arrow (rdOf ByteArray.empty l 1) (0, 0, 0, 0) = some (y0, e0v) from hs)
    have HR' := Aside0.mk hR
    clear hR hs HR cj0
    go_wp2_with fail
    refine (step_calls .arrow _ w.heap.size k (0, 0, 0, 0) y0 e0v _ (GOk.below HGG.out HB.out) hgB HZ.out HT.out).mono ?_
    rintro e W1 ⟨rfl, hz, hg⟩
    have HB' := Aside0.mk (HB.out.trans (gBelow hg (blk_lt HZ.out)))
    have HS' := Aside0.mk (blk_grown HS.out hg (by intro e; injection e with e; subst e; exact absurd (HZ.out.symm.trans HS.out) (by simp)))
    have HZ' := Aside0.mk hz
    clear hz hg HZ HS HB hcw pj0 pk0 e1 st0 gl0 HT
    have HZ := HZ'
    have HS := HS'
    have HB := HB'
    clear HZ' HS' HB'
    by_cases ce : e0v = 0
    rotate_left 1
    · have he1 : (e0v == 0) = false := beq_eq_false_iff_ne.2 ce
      have he2 : (e0v != 0) = true := bne_iff_ne.2 ce
      have hR := HR'.out
      rw [if_neg ce] at hR
      have hR := (Option.some.inj hR).symm
      have hE := HE.out
      rw [hR] at hE
      unfold endRead at hE
      rw [if_pos (ce)] at hE
      simp only [Option.some.injEq, Prod.mk.injEq] at hE
      obtain ⟨rfl, rfl, rfl, rfl, rfl, rfl, rfl⟩ := hE
      have c0' := (blk_cell HZ.out 0).trans rfl
      have c1' := (blk_cell HZ.out 1).trans rfl
      have c2' := (blk_cell HZ.out 2).trans rfl
      have c3' := (blk_cell HZ.out 3).trans rfl
      have c4' := (blk_cell HZ.out 4).trans rfl
      have f0' := blk_frozen HZ.out 0
      have f1' := blk_frozen HZ.out 1
      have f2' := blk_frozen HZ.out 2
      have f3' := blk_frozen HZ.out 3
      have f4' := blk_frozen HZ.out 4
      have s1 := blk_lt HZ.out
      go_wp2
      try rw [Exit.noGoto_ret]
      refine bodyPost_ret (results_ctt rfl _ _ w.heap.size 33 #[.int .i64 0, .int .i64 0, .int .i64 0, .int .i64 0, .int .i64 0] (0, 0) _ rfl (zero_blk HZ.out) Tryz.underlying33 rfl (by kernel_rfl)) rfl ?_
      exact ⟨rfl, zero_below HB.out⟩
    subst ce
    have hR := HR'.out
    rw [if_pos rfl] at hR
    have HR := Aside0.mk (show runSteps l [.result] 1 y0 = some R from hR)
    clear HR' hR
    go_wp2_with fail
    rw [rounds_succ]
    have st1 := (blk_cell HS.out 1).trans Q1.out
    have gl1 := blk_lt HS.out
    by_cases cj1 : 1 + 1 = l.length
    · have e1 : ((2 : Int) == (l.length : Int)) = true := beq_iff_eq.2 (by omega)
      have hR := HR.out
      unfold runSteps at hR
      rw [if_pos cj1] at hR
      have hR := (Option.some.inj hR).symm
      have hE := HE.out
      rw [hR] at hE
      unfold endRead at hE
      rw [if_pos (show (5 : Int) ≠ 0 by decide)] at hE
      simp only [Option.some.injEq, Prod.mk.injEq] at hE
      obtain ⟨rfl, rfl, rfl, rfl, rfl, rfl, rfl⟩ := hE
      clear cj1
      have c0' := (blk_cell HZ.out 0).trans rfl
      have c1' := (blk_cell HZ.out 1).trans rfl
      have c2' := (blk_cell HZ.out 2).trans rfl
      have c3' := (blk_cell HZ.out 3).trans rfl
      have c4' := (blk_cell HZ.out 4).trans rfl
      have f0' := blk_frozen HZ.out 0
      have f1' := blk_frozen HZ.out 1
      have f2' := blk_frozen HZ.out 2
      have f3' := blk_frozen HZ.out 3
      have f4' := blk_frozen HZ.out 4
      have s1 := blk_lt HZ.out
      go_wp2
      try rw [Exit.noGoto_ret]
      refine bodyPost_ret (results_ctt rfl _ _ w.heap.size 33 #[.int .i64 0, .int .i64 0, .int .i64 0, .int .i64 0, .int .i64 0] (0, 0) _ rfl (zero_blk HZ.out) Tryz.underlying33 rfl (by kernel_rfl)) rfl ?_
      exact ⟨rfl, zero_below HB.out⟩
    have e1 : ((2 : Int) == (l.length : Int)) = false := beq_eq_false_iff_ne.2 (by omega)
    have pj1 : (2 : Int) < (l.length : Int) := by have := HL.out; omega
    have HL' := Aside0.mk (show 2 < l.length by omega)
    clear HL
    have HL := HL'
    clear HL'
    have pk1 := eq_true pj1
    have hcw : W1.cell? ⟨ad.block, ad.off + 2, none⟩ = some (.string (rdOf ByteArray.empty l 2)) := by
      have h := HC.out 2 (by omega) (by omega)
      exact (HB.out.cell (p := ⟨ad.block, ad.off + 2, none⟩) had).trans (by simpa [Addr.add] using h)
    have hR := HR.out
    unfold runSteps at hR
    rw [if_neg cj1] at hR
    obtain ⟨⟨y1, e1v⟩, hs, hR⟩ := Option.bind_eq_some_iff.1 hR
    have HT := Aside0.mk (show stepF .result (rdOf ByteArray.empty l 2) y0 = some (y1, e1v) from hs)
    have HR' := Aside0.mk hR
    clear hR hs HR cj1
    go_wp2_with fail
    refine (step_calls .result _ w.heap.size k y0 y1 e1v _ (GOk.below HGG.out HB.out) hgB HZ.out HT.out).mono ?_
    rintro e W2 ⟨rfl, hz, hg⟩
    have HB' := Aside0.mk (HB.out.trans (gBelow hg (blk_lt HZ.out)))
    have HS' := Aside0.mk (blk_grown HS.out hg (by intro e; injection e with e; subst e; exact absurd (HZ.out.symm.trans HS.out) (by simp)))
    have HZ' := Aside0.mk hz
    clear hz hg HZ HS HB hcw pj1 pk1 e1 st1 gl1 HT
    have HZ := HZ'
    have HS := HS'
    have HB := HB'
    clear HZ' HS' HB'
    by_cases ce : e1v = 0
    rotate_left 1
    · have he1 : (e1v == 0) = false := beq_eq_false_iff_ne.2 ce
      have he2 : (e1v != 0) = true := bne_iff_ne.2 ce
      have hR := HR'.out
      rw [if_neg ce] at hR
      have hR := (Option.some.inj hR).symm
      have hE := HE.out
      rw [hR] at hE
      unfold endRead at hE
      rw [if_pos (ce)] at hE
      simp only [Option.some.injEq, Prod.mk.injEq] at hE
      obtain ⟨rfl, rfl, rfl, rfl, rfl, rfl, rfl⟩ := hE
      have c0' := (blk_cell HZ.out 0).trans rfl
      have c1' := (blk_cell HZ.out 1).trans rfl
      have c2' := (blk_cell HZ.out 2).trans rfl
      have c3' := (blk_cell HZ.out 3).trans rfl
      have c4' := (blk_cell HZ.out 4).trans rfl
      have f0' := blk_frozen HZ.out 0
      have f1' := blk_frozen HZ.out 1
      have f2' := blk_frozen HZ.out 2
      have f3' := blk_frozen HZ.out 3
      have f4' := blk_frozen HZ.out 4
      have s1 := blk_lt HZ.out
      go_wp2
      try rw [Exit.noGoto_ret]
      refine bodyPost_ret (results_ctt rfl _ _ w.heap.size 33 #[.int .i64 0, .int .i64 0, .int .i64 0, .int .i64 0, .int .i64 0] (0, 0) _ rfl (zero_blk HZ.out) Tryz.underlying33 rfl (by kernel_rfl)) rfl ?_
      exact ⟨rfl, zero_below HB.out⟩
    subst ce
    have hR := HR'.out
    rw [if_pos rfl] at hR
    have HR := Aside0.mk (show runSteps l [] 2 y1 = some R from hR)
    clear HR' hR
    go_wp2_with fail
    rw [rounds_succ]
    have hR := (Option.some.inj HR.out).symm
    have hE := HE.out
    rw [hR] at hE
    unfold endRead at hE
    rw [if_neg (show ¬ (0 : Int) ≠ 0 by decide)] at hE
    clear hR HR HE
    by_cases cl : 2 + 1 < l.length
    · have g1 : decide ((3 : Int) < (l.length : Int)) = true := decide_eq_true (by omega)
      rw [if_pos cl] at hE
      simp only [Option.some.injEq, Prod.mk.injEq] at hE
      obtain ⟨rfl, rfl, rfl, rfl, rfl, rfl, rfl⟩ := hE
      clear cl
      have c0' := (blk_cell HZ.out 0).trans rfl
      have c1' := (blk_cell HZ.out 1).trans rfl
      have c2' := (blk_cell HZ.out 2).trans rfl
      have c3' := (blk_cell HZ.out 3).trans rfl
      have c4' := (blk_cell HZ.out 4).trans rfl
      have f0' := blk_frozen HZ.out 0
      have f1' := blk_frozen HZ.out 1
      have f2' := blk_frozen HZ.out 2
      have f3' := blk_frozen HZ.out 3
      have f4' := blk_frozen HZ.out 4
      have s1 := blk_lt HZ.out
      go_wp2
      try rw [Exit.noGoto_ret]
      refine bodyPost_ret (results_ctt rfl _ _ w.heap.size 33 #[.int .i64 0, .int .i64 0, .int .i64 0, .int .i64 0, .int .i64 0] (0, 0) _ rfl (zero_blk HZ.out) Tryz.underlying33 rfl (by kernel_rfl)) rfl ?_
      exact ⟨rfl, zero_below HB.out⟩
    have g1 : decide ((3 : Int) < (l.length : Int)) = false := decide_eq_false (by omega)
    rw [if_neg cl] at hE
    clear cl
    obtain ⟨c, hck, hE⟩ := Option.bind_eq_some_iff.1 hE
    have HE := Aside0.mk hE
    have HCK := Aside0.mk hck
    clear hE hck
    have c0' := (blk_cell HZ.out 0).trans rfl
    have c1' := (blk_cell HZ.out 1).trans rfl
    have c2' := (blk_cell HZ.out 2).trans rfl
    have c3' := (blk_cell HZ.out 3).trans rfl
    have c4' := (blk_cell HZ.out 4).trans rfl
    go_wp2_with fail
    refine (operation_Check.calls k _ _ _ _ c _ HCK.out).mono ?_
    rintro e W9 ⟨rfl, hb⟩
    have HZ' := Aside0.mk (blk_below HZ.out hb)
    have HB' := Aside0.mk (HB.out.trans (hb.mono HB.out.size))
    clear hb HZ HB c0' c1' c2' c3' c4'
    have HZ := HZ'
    have HB := HB'
    clear HZ' HB'
    have hE := HE.out
    have c0' := (blk_cell HZ.out 0).trans rfl
    have c1' := (blk_cell HZ.out 1).trans rfl
    have c2' := (blk_cell HZ.out 2).trans rfl
    have c3' := (blk_cell HZ.out 3).trans rfl
    have c4' := (blk_cell HZ.out 4).trans rfl
    have f0' := blk_frozen HZ.out 0
    have f1' := blk_frozen HZ.out 1
    have f2' := blk_frozen HZ.out 2
    have f3' := blk_frozen HZ.out 3
    have f4' := blk_frozen HZ.out 4
    have s1 := blk_lt HZ.out
    by_cases d0 : c = 0
    · subst d0
      rw [if_pos rfl] at hE
      simp only [Option.some.injEq, Prod.mk.injEq] at hE
      obtain ⟨rfl, rfl, rfl, rfl, rfl, rfl, rfl⟩ := hE
      go_wp2
      try rw [Exit.noGoto_ret]
      refine bodyPost_ret (results_ctt rfl _ _ w.heap.size 33 (opCells k y1.1 y1.2.1 y1.2.2.1 y1.2.2.2) (0, 0) _ rfl (same_blk HZ.out) Tryz.underlying33 rfl (by kernel_rfl)) rfl ?_
      exact ⟨rfl, same_below HB.out⟩
    rw [if_neg d0] at hE
    have d0a : (c == 0) = false := beq_eq_false_iff_ne.2 d0
    have d0b : (c != 0) = true := bne_iff_ne.2 d0
    by_cases d2 : c = 2
    · subst d2
      rw [if_pos rfl] at hE
      simp only [Option.some.injEq, Prod.mk.injEq] at hE
      obtain ⟨rfl, rfl, rfl, rfl, rfl, rfl, rfl⟩ := hE
      go_wp2
      try rw [Exit.noGoto_ret]
      refine bodyPost_ret (results_ctt rfl _ _ w.heap.size 33 #[.int .i64 0, .int .i64 0, .int .i64 0, .int .i64 0, .int .i64 0] (0, 0) _ rfl (zero_blk HZ.out) Tryz.underlying33 rfl (by kernel_rfl)) rfl ?_
      exact ⟨rfl, zero_below HB.out⟩
    rw [if_neg d2] at hE
    have d2a : (c == 2) = false := beq_eq_false_iff_ne.2 d2
    by_cases d9 : c = 9
    · subst d9
      rw [if_pos rfl] at hE
      simp only [Option.some.injEq, Prod.mk.injEq] at hE
      obtain ⟨rfl, rfl, rfl, rfl, rfl, rfl, rfl⟩ := hE
      go_wp2
      try rw [Exit.noGoto_ret]
      refine bodyPost_ret (results_ctt rfl _ _ w.heap.size 33 #[.int .i64 0, .int .i64 0, .int .i64 0, .int .i64 0, .int .i64 0] (0, 0) _ rfl (zero_blk HZ.out) Tryz.underlying33 rfl (by kernel_rfl)) rfl ?_
      exact ⟨rfl, zero_below HB.out⟩
    rw [if_neg d9] at hE
    have d9a : (c == 9) = false := beq_eq_false_iff_ne.2 d9
    simp only [Option.some.injEq, Prod.mk.injEq] at hE
    obtain ⟨rfl, rfl, rfl, rfl, rfl, rfl, rfl⟩ := hE
    go_wp2
    try rw [Exit.noGoto_ret]
    refine bodyPost_ret (results_ctt rfl _ _ w.heap.size 33 #[.int .i64 0, .int .i64 0, .int .i64 0, .int .i64 0, .int .i64 0] (0, 0) _ rfl (zero_blk HZ.out) Tryz.underlying33 rfl (by kernel_rfl)) rfl ?_
    exact ⟨rfl, zero_below HB.out⟩
end Go.Proofs.YtkjnbfjbdlcehaaGreatDoor.P

/- operation.Read where the kind has so many arguments. -/
namespace Go.Proofs.YtkjnbfjbdlcehaaGreatDoor.P
open Go.RowKit Go.Proofs.YtkjnbfjbdlcehaaGreatDoorW.PrintWords Go.Proofs.YtkjnbfjbdlcehaaGreatDoorW.PrintLast Go.Proofs.YtkjnbfjbdlcehaaGreatDoorW.PrintMore
set_option linter.unusedVariables false
set_option linter.unusedSimpArgs false
set_option maxHeartbeats 4000000 in
set_option maxRecDepth 100000 in
theorem read_1 (n typ : Int) (word : ByteArray) (ret arg : Nat) (done nothing : Bool) (ad : Addr) (c0 : Nat) (l : List ByteArray) (hl : 0 < l.length) (hl2 : l.length ≤ 9223372036854775807) (hc0 : l.length ≤ c0) (k : Int) (w : World) (had : ad.block < w.heap.size) (hG : GOk w)
    (hcell : ∀ i : Int, 0 ≤ i → i < l.length → w.cell? (ad.add i.toNat) = some (.string (rdOf ByteArray.empty l i)))
    (hkind : ∀ W, Calls Tryz.prog 149 #[.string (rdOf ByteArray.empty l 0)] W fun e w' => e = .returned (.tuple #[.int .i64 k, .int .i64 0]) ∧ Below W.heap.size W w')
    (hby : ∀ W, Calls Tryz.prog 60 #[.int .i64 k] W fun e w' => e = .returned (.tuple #[.agg #[.int .i64 n, .int .i64 typ, .string word, .int .i64 1, .func (.func ret) #[] #[], .func (.func arg) #[] #[], .bool done, .bool nothing], .int .i64 0]) ∧ Below W.heap.size W w')
    (R : (Int × Int × Int × Int) × Nat × Int) (hR : runSteps l [.first, .arrow, .result] 0 (0, 0, 0, 0) = some R) (r1 r2 r3 r4 r5 r6 r7 : Int) (hE : endRead l 3 k R = some (r1, r2, r3, r4, r5, r6, r7)) :
    Calls Tryz.prog 123 #[.slice (some ad) l.length c0] w fun e w' => e = .returned (.tuple #[.agg #[.int .i64 r1, .int .i64 r2, .int .i64 r3, .int .i64 r4, .int .i64 r5], .int .i64 r6, .int .i64 r7]) ∧ Below w.heap.size w w' := by
  have HK := Aside0.mk hkind
  have HY := Aside0.mk hby
  have HC := Aside0.mk hcell
  have HR := Aside0.mk hR
  have HE := Aside0.mk hE
  have HGG := Aside0.mk hG
  have hgB : 4 < w.heap.size := by
    obtain ⟨ev, he, _⟩ := hG
    exact World.block_lt_of_cell? w _ he
  clear hkind hby hcell hR hE hG
  have p1 : ((l.length : Int) == 0) = false := beq_eq_false_iff_ne.2 (by omega)
  have p2 : (0 : Int) < (l.length : Int) := by omega
  have p3 := eq_true p2
  go_enter Tryz.func123, Tryz.ntmps123
  have hcw : w.cell? ad = some (.string (rdOf ByteArray.empty l 0)) := by
    have := HC.out 0 (by omega) (by omega)
    simpa [Addr.add] using this
  go_wp2_with fail
  go_step3
  go_wp2_with fail
  refine (HK.out _).mono ?_
  rintro e w2 ⟨rfl, hb2⟩
  have hz := blk_below (blk_new w _) hb2
  have c0 := (blk_cell hz 0).trans rfl
  have f0 := blk_frozen hz 0
  have HZ2 := Aside0.mk hz
  have hBW : w.heap.size < w2.heap.size := blk_lt hz
  have HB2 := Aside0.mk (((Below.refl _ w).alloc (Nat.le_refl _) _).trans (hb2.mono (by simp)))
  clear hz hb2
  go_wp2_with fail
  refine (HY.out _).mono ?_
  rintro e w3 ⟨rfl, hb3⟩
  have hz := blk_below HZ2.out hb3
  clear c0 f0
  have c0 := (blk_cell hz 0).trans rfl
  have f0 := blk_frozen hz 0
  have HZ3 := Aside0.mk hz
  have hBW3 : w.heap.size < w3.heap.size := blk_lt hz
  have hBW4 : w.heap.size < w3.heap.size + 1 := by omega
  have HB3 := Aside0.mk (HB2.out.trans (hb3.mono HB2.out.size))
  clear hz hb3
  go_wp2_with fail
  clear c0 f0 hcw
  have HF := world2 w w3 k (.cells #[.int .i64 n, .int .i64 typ, .string word, .int .i64 1, .func (.func ret) #[] #[], .func (.func arg) #[] #[], .bool done, .bool nothing] 101) (.cells #[.pointer (some ⟨w.heap.size, 0, none⟩)] 195) hBW3 HB3.out HZ3.out
  generalize ((w3.setCell ⟨w.heap.size, 0, none⟩ (.int .i64 k)).alloc (.cells #[.int .i64 n, .int .i64 typ, .string word, .int .i64 1, .func (.func ret) #[] #[], .func (.func arg) #[] #[], .bool done, .bool nothing] 101)).alloc (.cells #[.pointer (some ⟨w.heap.size, 0, none⟩)] 195) = W at HF ⊢
  clear hBW3 hBW4 HB3 HZ3 HZ2 HB2 hBW
  generalize hgr : w3.heap.size + 1 = gr at HF ⊢
  generalize w3.heap.size = gk at HF hgr ⊢
  obtain ⟨hz, hkd, hrd, hB⟩ := HF
  have HZ := Aside0.mk hz
  have HB := Aside0.mk hB
  have k1 := (blk_cell hkd 3).trans rfl
  have r1c := (blk_cell hrd 0).trans rfl
  have l1 := blk_lt hkd
  have l2 := blk_lt hrd
  have l1a : gk < W.heap.size + 1 := by omega
  have l1b : gk < W.heap.size + 1 + 1 := by omega
  have l2a : gr < W.heap.size + 1 := by omega
  have l2b : gr < W.heap.size + 1 + 1 := by omega
  have m1 : gk ≠ W.heap.size := by omega
  have m1a : gk ≠ W.heap.size + 1 := by omega
  have m1b : gk ≠ W.heap.size + 1 + 1 := by omega
  have m2 : gr ≠ W.heap.size := by omega
  have m2a : gr ≠ W.heap.size + 1 := by omega
  have m2b : gr ≠ W.heap.size + 1 + 1 := by omega
  clear hz hB hkd hrd hgr
  refine wp_onlyK fun K hK => ?_
  refine wp_region_held_drew (S := fun w' => w'.cell? ⟨gr, 0, none⟩ = some (.pointer (some ⟨w.heap.size, 0, none⟩)) ∧ w'.cell? ⟨gk, 3, none⟩ = some (.int .i64 1)) (by kernel_rfl) ?_ (fun hHeld => ?_)
  · go_keep
  refine wpAnyH_take (i := 0) (v := .agg #[.pointer (some ⟨w.heap.size, 0, none⟩)]) rfl (by kernel_rfl) (by kernel_rfl) (by kernel_rfl) (fun _ _ _ h => h) (Or.inl ⟨by rfl, fun w' hSw => ?_⟩) (by assumption) ?_
  · obtain ⟨hs1, hs2⟩ := hSw
    go_simp
  simp only [Act.put, List.getElem_toArray, List.getElem_cons_zero, List.getElem_cons_succ, List.setIfInBounds_toArray, List.set_cons_zero, List.set_cons_succ]
  refine wpAnyH_take (i := 1) (v := .func (.func 150) #[.agg #[.pointer (some ⟨w.heap.size, 0, none⟩)]] #[]) rfl (by kernel_rfl) (by kernel_rfl) (by kernel_rfl) (fun _ _ _ h => h) (Or.inl ⟨by rfl, fun w' hSw => ?_⟩) (by assumption) ?_
  · obtain ⟨hs1, hs2⟩ := hSw
    go_simp
  simp only [Act.put, List.getElem_toArray, List.getElem_cons_zero, List.getElem_cons_succ, List.setIfInBounds_toArray, List.set_cons_zero, List.set_cons_succ]
  refine wpAnyH_take (i := 2) (v := .agg #[.pointer (some ⟨w.heap.size, 0, none⟩)]) rfl (by kernel_rfl) (by kernel_rfl) (by kernel_rfl) (fun _ _ _ h => h) (Or.inl ⟨by rfl, fun w' hSw => ?_⟩) (by assumption) ?_
  · obtain ⟨hs1, hs2⟩ := hSw
    go_simp
  simp only [Act.put, List.getElem_toArray, List.getElem_cons_zero, List.getElem_cons_succ, List.setIfInBounds_toArray, List.set_cons_zero, List.set_cons_succ]
  refine wpAnyH_take (i := 3) (v := .func (.func 151) #[.agg #[.pointer (some ⟨w.heap.size, 0, none⟩)]] #[]) rfl (by kernel_rfl) (by kernel_rfl) (by kernel_rfl) (fun _ _ _ h => h) (Or.inl ⟨by rfl, fun w' hSw => ?_⟩) (by assumption) ?_
  · obtain ⟨hs1, hs2⟩ := hSw
    go_simp
  simp only [Act.put, List.getElem_toArray, List.getElem_cons_zero, List.getElem_cons_succ, List.setIfInBounds_toArray, List.set_cons_zero, List.set_cons_succ]
  refine wpAnyH_take (i := 5) (v := .pointer (some ⟨gk, 3, none⟩)) rfl (by kernel_rfl) (by kernel_rfl) (by kernel_rfl) (fun _ _ _ h => h) (Or.inl ⟨by rfl, fun w' hSw => ?_⟩) (by assumption) ?_
  · obtain ⟨hs1, hs2⟩ := hSw
    go_simp
  simp only [Act.put, List.getElem_toArray, List.getElem_cons_zero, List.getElem_cons_succ, List.setIfInBounds_toArray, List.set_cons_zero, List.set_cons_succ]
  refine wpAnyH_take (i := 6) (v := .int .i64 1) rfl (by kernel_rfl) (by kernel_rfl) (by kernel_rfl) (fun _ _ _ h => h) (Or.inl ⟨by rfl, fun w' hSw => ?_⟩) (by assumption) ?_
  · obtain ⟨hs1, hs2⟩ := hSw
    go_simp
  simp only [Act.put, List.getElem_toArray, List.getElem_cons_zero, List.getElem_cons_succ, List.setIfInBounds_toArray, List.set_cons_zero, List.set_cons_succ]
  refine wpAnyH_take (i := 7) (v := .pointer (some ⟨gk, 3, none⟩)) rfl (by kernel_rfl) (by kernel_rfl) (by kernel_rfl) (fun _ _ _ h => h) (Or.inl ⟨by rfl, fun w' hSw => ?_⟩) (by assumption) ?_
  · obtain ⟨hs1, hs2⟩ := hSw
    go_simp
  simp only [Act.put, List.getElem_toArray, List.getElem_cons_zero, List.getElem_cons_succ, List.setIfInBounds_toArray, List.set_cons_zero, List.set_cons_succ]
  refine wpAnyH_take (i := 8) (v := .int .i64 1) rfl (by kernel_rfl) (by kernel_rfl) (by kernel_rfl) (fun _ _ _ h => h) (Or.inl ⟨by rfl, fun w' hSw => ?_⟩) (by assumption) ?_
  · obtain ⟨hs1, hs2⟩ := hSw
    go_simp
  simp only [Act.put, List.getElem_toArray, List.getElem_cons_zero, List.getElem_cons_succ, List.setIfInBounds_toArray, List.set_cons_zero, List.set_cons_succ]
  refine wpAnyH_take (i := 10) (v := .agg #[.pointer (some ⟨w.heap.size, 0, none⟩)]) rfl (by kernel_rfl) (by kernel_rfl) (by kernel_rfl) (fun _ _ _ h => h) (Or.inl ⟨by rfl, fun w' hSw => ?_⟩) (by assumption) ?_
  · obtain ⟨hs1, hs2⟩ := hSw
    go_simp
  simp only [Act.put, List.getElem_toArray, List.getElem_cons_zero, List.getElem_cons_succ, List.setIfInBounds_toArray, List.set_cons_zero, List.set_cons_succ]
  refine wpAnyH_take (i := 11) (v := .func (.func 152) #[.agg #[.pointer (some ⟨w.heap.size, 0, none⟩)]] #[]) rfl (by kernel_rfl) (by kernel_rfl) (by kernel_rfl) (fun _ _ _ h => h) (Or.inl ⟨by rfl, fun w' hSw => ?_⟩) (by assumption) ?_
  · obtain ⟨hs1, hs2⟩ := hSw
    go_simp
  simp only [Act.put, List.getElem_toArray, List.getElem_cons_zero, List.getElem_cons_succ, List.setIfInBounds_toArray, List.set_cons_zero, List.set_cons_succ]
  refine wpAnyH_take (i := 12) (v := .agg #[.pointer (some ⟨w.heap.size, 0, none⟩)]) rfl (by kernel_rfl) (by kernel_rfl) (by kernel_rfl) (fun _ _ _ h => h) (Or.inl ⟨by rfl, fun w' hSw => ?_⟩) (by assumption) ?_
  · obtain ⟨hs1, hs2⟩ := hSw
    go_simp
  simp only [Act.put, List.getElem_toArray, List.getElem_cons_zero, List.getElem_cons_succ, List.setIfInBounds_toArray, List.set_cons_zero, List.set_cons_succ]
  refine wpAnyH_take (i := 13) (v := .func (.func 153) #[.agg #[.pointer (some ⟨w.heap.size, 0, none⟩)]] #[]) rfl (by kernel_rfl) (by kernel_rfl) (by kernel_rfl) (fun _ _ _ h => h) (Or.inl ⟨by rfl, fun w' hSw => ?_⟩) (by assumption) ?_
  · obtain ⟨hs1, hs2⟩ := hSw
    go_simp
  simp only [Act.put, List.getElem_toArray, List.getElem_cons_zero, List.getElem_cons_succ, List.setIfInBounds_toArray, List.set_cons_zero, List.set_cons_succ]
  refine wpAnyH_ready (rs := [4, 14]) (by kernel_rfl) (by simp) ?_
  refine AllReadyH.cons (o := _) rfl (fun K1 hK1 => ?wa) (AllReadyH.cons (o := _) rfl (fun K1 hK1 => ?wb) AllReadyH.nil)
  case' wa =>
    go_simp
    refine hK1.out _ _ ?_ (fun hHeld => ?_)
    · first | (go_keep; done) | (exact ⟨keep3 r1c _ _ _, keep3 k1 _ _ _⟩)
    clear hK1 K1
    try simp only [Act.put, List.getElem_toArray, List.getElem_cons_zero, List.getElem_cons_succ, List.setIfInBounds_toArray, List.set_cons_zero, List.set_cons_succ]
    refine wpAnyH_take (i := 9) (v := .slice (some ⟨W.heap.size, 0, none⟩) 1 1) rfl (by kernel_rfl) (by kernel_rfl) (by kernel_rfl) (fun _ _ _ h => h) (Or.inl ⟨by rfl, fun w' hSw => ?_⟩) (by assumption) ?_
    · go_simp
    simp only [Act.put, List.getElem_toArray, List.getElem_cons_zero, List.getElem_cons_succ, List.setIfInBounds_toArray, List.set_cons_zero, List.set_cons_succ]
    refine wpAnyH_ready (rs := [14]) (by kernel_rfl) (by simp) ?_
    refine AllReadyH.cons (o := _) rfl (fun K1 hK1 => ?_) AllReadyH.nil
    go_simp
    refine hK1.out _ _ ?_ (fun hHeld => ?_)
    · first | (go_keep; done) | (exact ⟨keep3 r1c _ _ _, keep3 k1 _ _ _⟩)
    clear hK1 K1
    try simp only [Act.put, List.getElem_toArray, List.getElem_cons_zero, List.getElem_cons_succ, List.setIfInBounds_toArray, List.set_cons_zero, List.set_cons_succ]
    refine wpAnyH_ready (rs := [15]) (by kernel_rfl) (by simp) ?_
    refine AllReadyH.cons (o := _) rfl (fun K1 hK1 => ?_) AllReadyH.nil
    go_wp2_with fail
    refine hK1.out _ _ ?_ (fun hHeld => ?_)
    · first | (go_keep; done) | (exact ⟨keep3 r1c _ _ _, keep3 k1 _ _ _⟩)
    clear hK1 K1
    try simp only [Act.put, List.getElem_toArray, List.getElem_cons_zero, List.getElem_cons_succ, List.setIfInBounds_toArray, List.set_cons_zero, List.set_cons_succ]
    refine wpAnyH_take (i := 16) (v := ?va) rfl (by kernel_rfl) (by kernel_rfl) (by kernel_rfl) (fun _ _ _ h => h) (Or.inl ⟨by rfl, ?hya⟩) (by assumption) ?resta
    case hya =>
      intro w' hSw
      go_simp
      with_reducible rfl
    simp only [Act.put, List.getElem_toArray, List.getElem_cons_zero, List.getElem_cons_succ, List.setIfInBounds_toArray, List.set_cons_zero, List.set_cons_succ]
    refine wpAnyH_done (by kernel_rfl) ?_ _
    show K _ _
    refine hK _ _ ?_
    clear hK K
  case' wb =>
    go_simp
    refine hK1.out _ _ ?_ (fun hHeld => ?_)
    · first | (go_keep; done) | (exact ⟨keep3 r1c _ _ _, keep3 k1 _ _ _⟩)
    clear hK1 K1
    try simp only [Act.put, List.getElem_toArray, List.getElem_cons_zero, List.getElem_cons_succ, List.setIfInBounds_toArray, List.set_cons_zero, List.set_cons_succ]
    refine wpAnyH_ready (rs := [4]) (by kernel_rfl) (by simp) ?_
    refine AllReadyH.cons (o := _) rfl (fun K1 hK1 => ?_) AllReadyH.nil
    go_simp
    refine hK1.out _ _ ?_ (fun hHeld => ?_)
    · first | (go_keep; done) | (exact ⟨keep3 r1c _ _ _, keep3 k1 _ _ _⟩)
    clear hK1 K1
    try simp only [Act.put, List.getElem_toArray, List.getElem_cons_zero, List.getElem_cons_succ, List.setIfInBounds_toArray, List.set_cons_zero, List.set_cons_succ]
    refine wpAnyH_take (i := 9) (v := .slice (some ⟨W.heap.size + 1, 0, none⟩) 1 1) rfl (by kernel_rfl) (by kernel_rfl) (by kernel_rfl) (fun _ _ _ h => h) (Or.inl ⟨by rfl, fun w' hSw => ?_⟩) (by assumption) ?_
    · go_simp
    simp only [Act.put, List.getElem_toArray, List.getElem_cons_zero, List.getElem_cons_succ, List.setIfInBounds_toArray, List.set_cons_zero, List.set_cons_succ]
    refine wpAnyH_ready (rs := [15]) (by kernel_rfl) (by simp) ?_
    refine AllReadyH.cons (o := _) rfl (fun K1 hK1 => ?_) AllReadyH.nil
    go_wp2_with fail
    refine hK1.out _ _ ?_ (fun hHeld => ?_)
    · first | (go_keep; done) | (exact ⟨keep3 r1c _ _ _, keep3 k1 _ _ _⟩)
    clear hK1 K1
    try simp only [Act.put, List.getElem_toArray, List.getElem_cons_zero, List.getElem_cons_succ, List.setIfInBounds_toArray, List.set_cons_zero, List.set_cons_succ]
    refine wpAnyH_take (i := 16) (v := ?vb) rfl (by kernel_rfl) (by kernel_rfl) (by kernel_rfl) (fun _ _ _ h => h) (Or.inl ⟨by rfl, ?hyb⟩) (by assumption) ?restb
    case hyb =>
      intro w' hSw
      go_simp
      with_reducible rfl
    simp only [Act.put, List.getElem_toArray, List.getElem_cons_zero, List.getElem_cons_succ, List.setIfInBounds_toArray, List.set_cons_zero, List.set_cons_succ]
    refine wpAnyH_done (by kernel_rfl) ?_ _
    show K _ _
    refine hK _ _ ?_
    clear hK K
  all_goals
    clear hHeld k1 r1c l1 l2 l1a l1b l2a l2b m1 m1a m1b m2 m2a m2b
    generalize (Question.appendCap 3 1 71).cut (W.tape (W.drawn + 1) (Question.appendCap 3 1 71)) = cap9
    refine then_world (fun WW => WW.heap[w.heap.size]? = some (.cells (opCells k 0 0 0 0) 33) ∧ (∃ cs, WW.heap[W.heap.size + 1 + 1]? = some (.cells cs 71) ∧ cs[0]? = some (.func (.func 150) #[.agg #[.pointer (some ⟨w.heap.size, 0, none⟩)]] #[]) ∧ cs[1]? = some (.func (.func 152) #[.agg #[.pointer (some ⟨w.heap.size, 0, none⟩)]] #[]) ∧ cs[2]? = some (.func (.func 153) #[.agg #[.pointer (some ⟨w.heap.size, 0, none⟩)]] #[])) ∧ Below w.heap.size w WW) ⟨(steps_world w W _ _ _ _ HZ.out HB.out).1, ⟨_, (steps_world w W _ _ _ _ HZ.out HB.out).2.1, (by rw [Array.getElem?_append_left (by simp)]; rfl), (by rw [Array.getElem?_append_right (by simp), Array.getElem?_append_left (by simp)]; rfl), (by rw [Array.getElem?_append_right (by simp), Array.getElem?_append_left (by simp)]; rfl)⟩, (steps_world w W _ _ _ _ HZ.out HB.out).2.2⟩ fun W0 HF => ?_
    clear HZ HB
    generalize W.heap.size + 1 + 1 = gs at HF ⊢
    obtain ⟨hz, ⟨cs, hst, q0, q1, q2⟩, hB⟩ := HF
    have HZ := Aside0.mk hz
    have HS := Aside0.mk hst
    have HB := Aside0.mk hB
    clear hz hst hB
    have Q0 := Aside0.mk q0
    have Q1 := Aside0.mk q1
    have Q2 := Aside0.mk q2
    clear q0 q1 q2
    go_wp2_with fail
    go_step3
    go_wp2_with fail
    refine wp_loop_rounds 4 ?_
    have HL := Aside0.mk hl
    rw [rounds_succ]
    have st0 := (blk_cell HS.out 0).trans Q0.out
    have gl0 := blk_lt HS.out
    by_cases cj0 : 0 + 1 = l.length
    · have e1 : ((1 : Int) == (l.length : Int)) = true := beq_iff_eq.2 (by omega)
      have hR := HR.out
      unfold runSteps at hR
      rw [if_pos cj0] at hR
      have hR := (Option.some.inj hR).symm
      have hE := HE.out
      rw [hR] at hE
      unfold endRead at hE
      rw [if_pos (show (5 : Int) ≠ 0 by decide)] at hE
      simp only [Option.some.injEq, Prod.mk.injEq] at hE
      obtain ⟨rfl, rfl, rfl, rfl, rfl, rfl, rfl⟩ := hE
      clear cj0
      have c0' := (blk_cell HZ.out 0).trans rfl
      have c1' := (blk_cell HZ.out 1).trans rfl
      have c2' := (blk_cell HZ.out 2).trans rfl
      have c3' := (blk_cell HZ.out 3).trans rfl
      have c4' := (blk_cell HZ.out 4).trans rfl
      have f0' := blk_frozen HZ.out 0
      have f1' := blk_frozen HZ.out 1
      have f2' := blk_frozen HZ.out 2
      have f3' := blk_frozen HZ.out 3
      have f4' := blk_frozen HZ.out 4
      have s1 := blk_lt HZ.out
      go_wp2
      try rw [Exit.noGoto_ret]
      refine bodyPost_ret (results_ctt rfl _ _ w.heap.size 33 #[.int .i64 0, .int .i64 0, .int .i64 0, .int .i64 0, .int .i64 0] (0, 0) _ rfl (zero_blk HZ.out) Tryz.underlying33 rfl (by kernel_rfl)) rfl ?_
      exact ⟨rfl, zero_below HB.out⟩
    have e1 : ((1 : Int) == (l.length : Int)) = false := beq_eq_false_iff_ne.2 (by omega)
    have pj0 : (1 : Int) < (l.length : Int) := by have := HL.out; omega
    have HL' := Aside0.mk (show 1 < l.length by omega)
    clear HL
    have HL := HL'
    clear HL'
    have pk0 := eq_true pj0
    have hcw : W0.cell? ⟨ad.block, ad.off + 1, none⟩ = some (.string (rdOf ByteArray.empty l 1)) := by
      have h := HC.out 1 (by omega) (by omega)
      exact (HB.out.cell (p := ⟨ad.block, ad.off + 1, none⟩) had).trans (by simpa [Addr.add] using h)
    have hR := HR.out
    unfold runSteps at hR
    rw [if_neg cj0] at hR
    obtain ⟨⟨y0, e0v⟩, hs, hR⟩ := Option.bind_eq_some_iff.1 hR
    have HT := Aside0.mk (show stepF .first (rdOf ByteArray.empty l 1) (0, 0, 0, 0) = some (y0, e0v) from hs)
    have HR' := Aside0.mk hR
    clear hR hs HR cj0
    go_wp2_with fail
    refine (step_calls .first _ w.heap.size k (0, 0, 0, 0) y0 e0v _ (GOk.below HGG.out HB.out) hgB HZ.out HT.out).mono ?_
    rintro e W1 ⟨rfl, hz, hg⟩
    have HB' := Aside0.mk (HB.out.trans (gBelow hg (blk_lt HZ.out)))
    have HS' := Aside0.mk (blk_grown HS.out hg (by intro e; injection e with e; subst e; exact absurd (HZ.out.symm.trans HS.out) (by simp)))
    have HZ' := Aside0.mk hz
    clear hz hg HZ HS HB hcw pj0 pk0 e1 st0 gl0 HT
    have HZ := HZ'
    have HS := HS'
    have HB := HB'
    clear HZ' HS' HB'
    by_cases ce : e0v = 0
    rotate_left 1
    · have he1 : (e0v == 0) = false := beq_eq_false_iff_ne.2 ce
      have he2 : (e0v != 0) = true := bne_iff_ne.2 ce
      have hR := HR'.out
      rw [if_neg ce] at hR
      have hR := (Option.some.inj hR).symm
      have hE := HE.out
      rw [hR] at hE
      unfold endRead at hE
      rw [if_pos (ce)] at hE
      simp only [Option.some.injEq, Prod.mk.injEq] at hE
      obtain ⟨rfl, rfl, rfl, rfl, rfl, rfl, rfl⟩ := hE
      have c0' := (blk_cell HZ.out 0).trans rfl
      have c1' := (blk_cell HZ.out 1).trans rfl
      have c2' := (blk_cell HZ.out 2).trans rfl
      have c3' := (blk_cell HZ.out 3).trans rfl
      have c4' := (blk_cell HZ.out 4).trans rfl
      have f0' := blk_frozen HZ.out 0
      have f1' := blk_frozen HZ.out 1
      have f2' := blk_frozen HZ.out 2
      have f3' := blk_frozen HZ.out 3
      have f4' := blk_frozen HZ.out 4
      have s1 := blk_lt HZ.out
      go_wp2
      try rw [Exit.noGoto_ret]
      refine bodyPost_ret (results_ctt rfl _ _ w.heap.size 33 #[.int .i64 0, .int .i64 0, .int .i64 0, .int .i64 0, .int .i64 0] (0, 0) _ rfl (zero_blk HZ.out) Tryz.underlying33 rfl (by kernel_rfl)) rfl ?_
      exact ⟨rfl, zero_below HB.out⟩
    subst ce
    have hR := HR'.out
    rw [if_pos rfl] at hR
    have HR := Aside0.mk (show runSteps l [.arrow, .result] 1 y0 = some R from hR)
    clear HR' hR
    go_wp2_with fail
    rw [rounds_succ]
    have st1 := (blk_cell HS.out 1).trans Q1.out
    have gl1 := blk_lt HS.out
    by_cases cj1 : 1 + 1 = l.length
    · have e1 : ((2 : Int) == (l.length : Int)) = true := beq_iff_eq.2 (by omega)
      have hR := HR.out
      unfold runSteps at hR
      rw [if_pos cj1] at hR
      have hR := (Option.some.inj hR).symm
      have hE := HE.out
      rw [hR] at hE
      unfold endRead at hE
      rw [if_pos (show (5 : Int) ≠ 0 by decide)] at hE
      simp only [Option.some.injEq, Prod.mk.injEq] at hE
      obtain ⟨rfl, rfl, rfl, rfl, rfl, rfl, rfl⟩ := hE
      clear cj1
      have c0' := (blk_cell HZ.out 0).trans rfl
      have c1' := (blk_cell HZ.out 1).trans rfl
      have c2' := (blk_cell HZ.out 2).trans rfl
      have c3' := (blk_cell HZ.out 3).trans rfl
      have c4' := (blk_cell HZ.out 4).trans rfl
      have f0' := blk_frozen HZ.out 0
      have f1' := blk_frozen HZ.out 1
      have f2' := blk_frozen HZ.out 2
      have f3' := blk_frozen HZ.out 3
      have f4' := blk_frozen HZ.out 4
      have s1 := blk_lt HZ.out
      go_wp2
      try rw [Exit.noGoto_ret]
      refine bodyPost_ret (results_ctt rfl _ _ w.heap.size 33 #[.int .i64 0, .int .i64 0, .int .i64 0, .int .i64 0, .int .i64 0] (0, 0) _ rfl (zero_blk HZ.out) Tryz.underlying33 rfl (by kernel_rfl)) rfl ?_
      exact ⟨rfl, zero_below HB.out⟩
    have e1 : ((2 : Int) == (l.length : Int)) = false := beq_eq_false_iff_ne.2 (by omega)
    have pj1 : (2 : Int) < (l.length : Int) := by have := HL.out; omega
    have HL' := Aside0.mk (show 2 < l.length by omega)
    clear HL
    have HL := HL'
    clear HL'
    have pk1 := eq_true pj1
    have hcw : W1.cell? ⟨ad.block, ad.off + 2, none⟩ = some (.string (rdOf ByteArray.empty l 2)) := by
      have h := HC.out 2 (by omega) (by omega)
      exact (HB.out.cell (p := ⟨ad.block, ad.off + 2, none⟩) had).trans (by simpa [Addr.add] using h)
    have hR := HR.out
    unfold runSteps at hR
    rw [if_neg cj1] at hR
    obtain ⟨⟨y1, e1v⟩, hs, hR⟩ := Option.bind_eq_some_iff.1 hR
    have HT := Aside0.mk (show stepF .arrow (rdOf ByteArray.empty l 2) y0 = some (y1, e1v) from hs)
    have HR' := Aside0.mk hR
    clear hR hs HR cj1
    go_wp2_with fail
    refine (step_calls .arrow _ w.heap.size k y0 y1 e1v _ (GOk.below HGG.out HB.out) hgB HZ.out HT.out).mono ?_
    rintro e W2 ⟨rfl, hz, hg⟩
    have HB' := Aside0.mk (HB.out.trans (gBelow hg (blk_lt HZ.out)))
    have HS' := Aside0.mk (blk_grown HS.out hg (by intro e; injection e with e; subst e; exact absurd (HZ.out.symm.trans HS.out) (by simp)))
    have HZ' := Aside0.mk hz
    clear hz hg HZ HS HB hcw pj1 pk1 e1 st1 gl1 HT
    have HZ := HZ'
    have HS := HS'
    have HB := HB'
    clear HZ' HS' HB'
    by_cases ce : e1v = 0
    rotate_left 1
    · have he1 : (e1v == 0) = false := beq_eq_false_iff_ne.2 ce
      have he2 : (e1v != 0) = true := bne_iff_ne.2 ce
      have hR := HR'.out
      rw [if_neg ce] at hR
      have hR := (Option.some.inj hR).symm
      have hE := HE.out
      rw [hR] at hE
      unfold endRead at hE
      rw [if_pos (ce)] at hE
      simp only [Option.some.injEq, Prod.mk.injEq] at hE
      obtain ⟨rfl, rfl, rfl, rfl, rfl, rfl, rfl⟩ := hE
      have c0' := (blk_cell HZ.out 0).trans rfl
      have c1' := (blk_cell HZ.out 1).trans rfl
      have c2' := (blk_cell HZ.out 2).trans rfl
      have c3' := (blk_cell HZ.out 3).trans rfl
      have c4' := (blk_cell HZ.out 4).trans rfl
      have f0' := blk_frozen HZ.out 0
      have f1' := blk_frozen HZ.out 1
      have f2' := blk_frozen HZ.out 2
      have f3' := blk_frozen HZ.out 3
      have f4' := blk_frozen HZ.out 4
      have s1 := blk_lt HZ.out
      go_wp2
      try rw [Exit.noGoto_ret]
      refine bodyPost_ret (results_ctt rfl _ _ w.heap.size 33 #[.int .i64 0, .int .i64 0, .int .i64 0, .int .i64 0, .int .i64 0] (0, 0) _ rfl (zero_blk HZ.out) Tryz.underlying33 rfl (by kernel_rfl)) rfl ?_
      exact ⟨rfl, zero_below HB.out⟩
    subst ce
    have hR := HR'.out
    rw [if_pos rfl] at hR
    have HR := Aside0.mk (show runSteps l [.result] 2 y1 = some R from hR)
    clear HR' hR
    go_wp2_with fail
    rw [rounds_succ]
    have st2 := (blk_cell HS.out 2).trans Q2.out
    have gl2 := blk_lt HS.out
    by_cases cj2 : 2 + 1 = l.length
    · have e1 : ((3 : Int) == (l.length : Int)) = true := beq_iff_eq.2 (by omega)
      have hR := HR.out
      unfold runSteps at hR
      rw [if_pos cj2] at hR
      have hR := (Option.some.inj hR).symm
      have hE := HE.out
      rw [hR] at hE
      unfold endRead at hE
      rw [if_pos (show (5 : Int) ≠ 0 by decide)] at hE
      simp only [Option.some.injEq, Prod.mk.injEq] at hE
      obtain ⟨rfl, rfl, rfl, rfl, rfl, rfl, rfl⟩ := hE
      clear cj2
      have c0' := (blk_cell HZ.out 0).trans rfl
      have c1' := (blk_cell HZ.out 1).trans rfl
      have c2' := (blk_cell HZ.out 2).trans rfl
      have c3' := (blk_cell HZ.out 3).trans rfl
      have c4' := (blk_cell HZ.out 4).trans rfl
      have f0' := blk_frozen HZ.out 0
      have f1' := blk_frozen HZ.out 1
      have f2' := blk_frozen HZ.out 2
      have f3' := blk_frozen HZ.out 3
      have f4' := blk_frozen HZ.out 4
      have s1 := blk_lt HZ.out
      go_wp2
      try rw [Exit.noGoto_ret]
      refine bodyPost_ret (results_ctt rfl _ _ w.heap.size 33 #[.int .i64 0, .int .i64 0, .int .i64 0, .int .i64 0, .int .i64 0] (0, 0) _ rfl (zero_blk HZ.out) Tryz.underlying33 rfl (by kernel_rfl)) rfl ?_
      exact ⟨rfl, zero_below HB.out⟩
    have e1 : ((3 : Int) == (l.length : Int)) = false := beq_eq_false_iff_ne.2 (by omega)
    have pj2 : (3 : Int) < (l.length : Int) := by have := HL.out; omega
    have HL' := Aside0.mk (show 3 < l.length by omega)
    clear HL
    have HL := HL'
    clear HL'
    have pk2 := eq_true pj2
    have hcw : W2.cell? ⟨ad.block, ad.off + 3, none⟩ = some (.string (rdOf ByteArray.empty l 3)) := by
      have h := HC.out 3 (by omega) (by omega)
      exact (HB.out.cell (p := ⟨ad.block, ad.off + 3, none⟩) had).trans (by simpa [Addr.add] using h)
    have hR := HR.out
    unfold runSteps at hR
    rw [if_neg cj2] at hR
    obtain ⟨⟨y2, e2v⟩, hs, hR⟩ := Option.bind_eq_some_iff.1 hR
    have HT := Aside0.mk (show stepF .result (rdOf ByteArray.empty l 3) y1 = some (y2, e2v) from hs)
    have HR' := Aside0.mk hR
    clear hR hs HR cj2
    go_wp2_with fail
    refine (step_calls .result _ w.heap.size k y1 y2 e2v _ (GOk.below HGG.out HB.out) hgB HZ.out HT.out).mono ?_
    rintro e W3 ⟨rfl, hz, hg⟩
    have HB' := Aside0.mk (HB.out.trans (gBelow hg (blk_lt HZ.out)))
    have HS' := Aside0.mk (blk_grown HS.out hg (by intro e; injection e with e; subst e; exact absurd (HZ.out.symm.trans HS.out) (by simp)))
    have HZ' := Aside0.mk hz
    clear hz hg HZ HS HB hcw pj2 pk2 e1 st2 gl2 HT
    have HZ := HZ'
    have HS := HS'
    have HB := HB'
    clear HZ' HS' HB'
    by_cases ce : e2v = 0
    rotate_left 1
    · have he1 : (e2v == 0) = false := beq_eq_false_iff_ne.2 ce
      have he2 : (e2v != 0) = true := bne_iff_ne.2 ce
      have hR := HR'.out
      rw [if_neg ce] at hR
      have hR := (Option.some.inj hR).symm
      have hE := HE.out
      rw [hR] at hE
      unfold endRead at hE
      rw [if_pos (ce)] at hE
      simp only [Option.some.injEq, Prod.mk.injEq] at hE
      obtain ⟨rfl, rfl, rfl, rfl, rfl, rfl, rfl⟩ := hE
      have c0' := (blk_cell HZ.out 0).trans rfl
      have c1' := (blk_cell HZ.out 1).trans rfl
      have c2' := (blk_cell HZ.out 2).trans rfl
      have c3' := (blk_cell HZ.out 3).trans rfl
      have c4' := (blk_cell HZ.out 4).trans rfl
      have f0' := blk_frozen HZ.out 0
      have f1' := blk_frozen HZ.out 1
      have f2' := blk_frozen HZ.out 2
      have f3' := blk_frozen HZ.out 3
      have f4' := blk_frozen HZ.out 4
      have s1 := blk_lt HZ.out
      go_wp2
      try rw [Exit.noGoto_ret]
      refine bodyPost_ret (results_ctt rfl _ _ w.heap.size 33 #[.int .i64 0, .int .i64 0, .int .i64 0, .int .i64 0, .int .i64 0] (0, 0) _ rfl (zero_blk HZ.out) Tryz.underlying33 rfl (by kernel_rfl)) rfl ?_
      exact ⟨rfl, zero_below HB.out⟩
    subst ce
    have hR := HR'.out
    rw [if_pos rfl] at hR
    have HR := Aside0.mk (show runSteps l [] 3 y2 = some R from hR)
    clear HR' hR
    go_wp2_with fail
    rw [rounds_succ]
    have hR := (Option.some.inj HR.out).symm
    have hE := HE.out
    rw [hR] at hE
    unfold endRead at hE
    rw [if_neg (show ¬ (0 : Int) ≠ 0 by decide)] at hE
    clear hR HR HE
    by_cases cl : 3 + 1 < l.length
    · have g1 : decide ((4 : Int) < (l.length : Int)) = true := decide_eq_true (by omega)
      rw [if_pos cl] at hE
      simp only [Option.some.injEq, Prod.mk.injEq] at hE
      obtain ⟨rfl, rfl, rfl, rfl, rfl, rfl, rfl⟩ := hE
      clear cl
      have c0' := (blk_cell HZ.out 0).trans rfl
      have c1' := (blk_cell HZ.out 1).trans rfl
      have c2' := (blk_cell HZ.out 2).trans rfl
      have c3' := (blk_cell HZ.out 3).trans rfl
      have c4' := (blk_cell HZ.out 4).trans rfl
      have f0' := blk_frozen HZ.out 0
      have f1' := blk_frozen HZ.out 1
      have f2' := blk_frozen HZ.out 2
      have f3' := blk_frozen HZ.out 3
      have f4' := blk_frozen HZ.out 4
      have s1 := blk_lt HZ.out
      go_wp2
      try rw [Exit.noGoto_ret]
      refine bodyPost_ret (results_ctt rfl _ _ w.heap.size 33 #[.int .i64 0, .int .i64 0, .int .i64 0, .int .i64 0, .int .i64 0] (0, 0) _ rfl (zero_blk HZ.out) Tryz.underlying33 rfl (by kernel_rfl)) rfl ?_
      exact ⟨rfl, zero_below HB.out⟩
    have g1 : decide ((4 : Int) < (l.length : Int)) = false := decide_eq_false (by omega)
    rw [if_neg cl] at hE
    clear cl
    obtain ⟨c, hck, hE⟩ := Option.bind_eq_some_iff.1 hE
    have HE := Aside0.mk hE
    have HCK := Aside0.mk hck
    clear hE hck
    have c0' := (blk_cell HZ.out 0).trans rfl
    have c1' := (blk_cell HZ.out 1).trans rfl
    have c2' := (blk_cell HZ.out 2).trans rfl
    have c3' := (blk_cell HZ.out 3).trans rfl
    have c4' := (blk_cell HZ.out 4).trans rfl
    go_wp2_with fail
    refine (operation_Check.calls k _ _ _ _ c _ HCK.out).mono ?_
    rintro e W9 ⟨rfl, hb⟩
    have HZ' := Aside0.mk (blk_below HZ.out hb)
    have HB' := Aside0.mk (HB.out.trans (hb.mono HB.out.size))
    clear hb HZ HB c0' c1' c2' c3' c4'
    have HZ := HZ'
    have HB := HB'
    clear HZ' HB'
    have hE := HE.out
    have c0' := (blk_cell HZ.out 0).trans rfl
    have c1' := (blk_cell HZ.out 1).trans rfl
    have c2' := (blk_cell HZ.out 2).trans rfl
    have c3' := (blk_cell HZ.out 3).trans rfl
    have c4' := (blk_cell HZ.out 4).trans rfl
    have f0' := blk_frozen HZ.out 0
    have f1' := blk_frozen HZ.out 1
    have f2' := blk_frozen HZ.out 2
    have f3' := blk_frozen HZ.out 3
    have f4' := blk_frozen HZ.out 4
    have s1 := blk_lt HZ.out
    by_cases d0 : c = 0
    · subst d0
      rw [if_pos rfl] at hE
      simp only [Option.some.injEq, Prod.mk.injEq] at hE
      obtain ⟨rfl, rfl, rfl, rfl, rfl, rfl, rfl⟩ := hE
      go_wp2
      try rw [Exit.noGoto_ret]
      refine bodyPost_ret (results_ctt rfl _ _ w.heap.size 33 (opCells k y2.1 y2.2.1 y2.2.2.1 y2.2.2.2) (0, 0) _ rfl (same_blk HZ.out) Tryz.underlying33 rfl (by kernel_rfl)) rfl ?_
      exact ⟨rfl, same_below HB.out⟩
    rw [if_neg d0] at hE
    have d0a : (c == 0) = false := beq_eq_false_iff_ne.2 d0
    have d0b : (c != 0) = true := bne_iff_ne.2 d0
    by_cases d2 : c = 2
    · subst d2
      rw [if_pos rfl] at hE
      simp only [Option.some.injEq, Prod.mk.injEq] at hE
      obtain ⟨rfl, rfl, rfl, rfl, rfl, rfl, rfl⟩ := hE
      go_wp2
      try rw [Exit.noGoto_ret]
      refine bodyPost_ret (results_ctt rfl _ _ w.heap.size 33 #[.int .i64 0, .int .i64 0, .int .i64 0, .int .i64 0, .int .i64 0] (0, 0) _ rfl (zero_blk HZ.out) Tryz.underlying33 rfl (by kernel_rfl)) rfl ?_
      exact ⟨rfl, zero_below HB.out⟩
    rw [if_neg d2] at hE
    have d2a : (c == 2) = false := beq_eq_false_iff_ne.2 d2
    by_cases d9 : c = 9
    · subst d9
      rw [if_pos rfl] at hE
      simp only [Option.some.injEq, Prod.mk.injEq] at hE
      obtain ⟨rfl, rfl, rfl, rfl, rfl, rfl, rfl⟩ := hE
      go_wp2
      try rw [Exit.noGoto_ret]
      refine bodyPost_ret (results_ctt rfl _ _ w.heap.size 33 #[.int .i64 0, .int .i64 0, .int .i64 0, .int .i64 0, .int .i64 0] (0, 0) _ rfl (zero_blk HZ.out) Tryz.underlying33 rfl (by kernel_rfl)) rfl ?_
      exact ⟨rfl, zero_below HB.out⟩
    rw [if_neg d9] at hE
    have d9a : (c == 9) = false := beq_eq_false_iff_ne.2 d9
    simp only [Option.some.injEq, Prod.mk.injEq] at hE
    obtain ⟨rfl, rfl, rfl, rfl, rfl, rfl, rfl⟩ := hE
    go_wp2
    try rw [Exit.noGoto_ret]
    refine bodyPost_ret (results_ctt rfl _ _ w.heap.size 33 #[.int .i64 0, .int .i64 0, .int .i64 0, .int .i64 0, .int .i64 0] (0, 0) _ rfl (zero_blk HZ.out) Tryz.underlying33 rfl (by kernel_rfl)) rfl ?_
    exact ⟨rfl, zero_below HB.out⟩
end Go.Proofs.YtkjnbfjbdlcehaaGreatDoor.P

/- operation.Read where the kind has so many arguments. -/
namespace Go.Proofs.YtkjnbfjbdlcehaaGreatDoor.P
open Go.RowKit Go.Proofs.YtkjnbfjbdlcehaaGreatDoorW.PrintWords Go.Proofs.YtkjnbfjbdlcehaaGreatDoorW.PrintLast Go.Proofs.YtkjnbfjbdlcehaaGreatDoorW.PrintMore
set_option linter.unusedVariables false
set_option linter.unusedSimpArgs false
set_option maxHeartbeats 4000000 in
set_option maxRecDepth 100000 in
theorem read_2 (n typ : Int) (word : ByteArray) (ret arg : Nat) (done nothing : Bool) (ad : Addr) (c0 : Nat) (l : List ByteArray) (hl : 0 < l.length) (hl2 : l.length ≤ 9223372036854775807) (hc0 : l.length ≤ c0) (k : Int) (w : World) (had : ad.block < w.heap.size) (hG : GOk w)
    (hcell : ∀ i : Int, 0 ≤ i → i < l.length → w.cell? (ad.add i.toNat) = some (.string (rdOf ByteArray.empty l i)))
    (hkind : ∀ W, Calls Tryz.prog 149 #[.string (rdOf ByteArray.empty l 0)] W fun e w' => e = .returned (.tuple #[.int .i64 k, .int .i64 0]) ∧ Below W.heap.size W w')
    (hby : ∀ W, Calls Tryz.prog 60 #[.int .i64 k] W fun e w' => e = .returned (.tuple #[.agg #[.int .i64 n, .int .i64 typ, .string word, .int .i64 2, .func (.func ret) #[] #[], .func (.func arg) #[] #[], .bool done, .bool nothing], .int .i64 0]) ∧ Below W.heap.size W w')
    (R : (Int × Int × Int × Int) × Nat × Int) (hR : runSteps l [.first, .second, .arrow, .result] 0 (0, 0, 0, 0) = some R) (r1 r2 r3 r4 r5 r6 r7 : Int) (hE : endRead l 4 k R = some (r1, r2, r3, r4, r5, r6, r7)) :
    Calls Tryz.prog 123 #[.slice (some ad) l.length c0] w fun e w' => e = .returned (.tuple #[.agg #[.int .i64 r1, .int .i64 r2, .int .i64 r3, .int .i64 r4, .int .i64 r5], .int .i64 r6, .int .i64 r7]) ∧ Below w.heap.size w w' := by
  have HK := Aside0.mk hkind
  have HY := Aside0.mk hby
  have HC := Aside0.mk hcell
  have HR := Aside0.mk hR
  have HE := Aside0.mk hE
  have HGG := Aside0.mk hG
  have hgB : 4 < w.heap.size := by
    obtain ⟨ev, he, _⟩ := hG
    exact World.block_lt_of_cell? w _ he
  clear hkind hby hcell hR hE hG
  have p1 : ((l.length : Int) == 0) = false := beq_eq_false_iff_ne.2 (by omega)
  have p2 : (0 : Int) < (l.length : Int) := by omega
  have p3 := eq_true p2
  go_enter Tryz.func123, Tryz.ntmps123
  have hcw : w.cell? ad = some (.string (rdOf ByteArray.empty l 0)) := by
    have := HC.out 0 (by omega) (by omega)
    simpa [Addr.add] using this
  go_wp2_with fail
  go_step3
  go_wp2_with fail
  refine (HK.out _).mono ?_
  rintro e w2 ⟨rfl, hb2⟩
  have hz := blk_below (blk_new w _) hb2
  have c0 := (blk_cell hz 0).trans rfl
  have f0 := blk_frozen hz 0
  have HZ2 := Aside0.mk hz
  have hBW : w.heap.size < w2.heap.size := blk_lt hz
  have HB2 := Aside0.mk (((Below.refl _ w).alloc (Nat.le_refl _) _).trans (hb2.mono (by simp)))
  clear hz hb2
  go_wp2_with fail
  refine (HY.out _).mono ?_
  rintro e w3 ⟨rfl, hb3⟩
  have hz := blk_below HZ2.out hb3
  clear c0 f0
  have c0 := (blk_cell hz 0).trans rfl
  have f0 := blk_frozen hz 0
  have HZ3 := Aside0.mk hz
  have hBW3 : w.heap.size < w3.heap.size := blk_lt hz
  have hBW4 : w.heap.size < w3.heap.size + 1 := by omega
  have HB3 := Aside0.mk (HB2.out.trans (hb3.mono HB2.out.size))
  clear hz hb3
  go_wp2_with fail
  clear c0 f0 hcw
  have HF := world2 w w3 k (.cells #[.int .i64 n, .int .i64 typ, .string word, .int .i64 2, .func (.func ret) #[] #[], .func (.func arg) #[] #[], .bool done, .bool nothing] 101) (.cells #[.pointer (some ⟨w.heap.size, 0, none⟩)] 195) hBW3 HB3.out HZ3.out
  generalize ((w3.setCell ⟨w.heap.size, 0, none⟩ (.int .i64 k)).alloc (.cells #[.int .i64 n, .int .i64 typ, .string word, .int .i64 2, .func (.func ret) #[] #[], .func (.func arg) #[] #[], .bool done, .bool nothing] 101)).alloc (.cells #[.pointer (some ⟨w.heap.size, 0, none⟩)] 195) = W at HF ⊢
  clear hBW3 hBW4 HB3 HZ3 HZ2 HB2 hBW
  generalize hgr : w3.heap.size + 1 = gr at HF ⊢
  generalize w3.heap.size = gk at HF hgr ⊢
  obtain ⟨hz, hkd, hrd, hB⟩ := HF
  have HZ := Aside0.mk hz
  have HB := Aside0.mk hB
  have k1 := (blk_cell hkd 3).trans rfl
  have r1c := (blk_cell hrd 0).trans rfl
  have l1 := blk_lt hkd
  have l2 := blk_lt hrd
  have l1a : gk < W.heap.size + 1 := by omega
  have l1b : gk < W.heap.size + 1 + 1 := by omega
  have l2a : gr < W.heap.size + 1 := by omega
  have l2b : gr < W.heap.size + 1 + 1 := by omega
  have m1 : gk ≠ W.heap.size := by omega
  have m1a : gk ≠ W.heap.size + 1 := by omega
  have m1b : gk ≠ W.heap.size + 1 + 1 := by omega
  have m2 : gr ≠ W.heap.size := by omega
  have m2a : gr ≠ W.heap.size + 1 := by omega
  have m2b : gr ≠ W.heap.size + 1 + 1 := by omega
  clear hz hB hkd hrd hgr
  refine wp_onlyK fun K hK => ?_
  refine wp_region_held_drew (S := fun w' => w'.cell? ⟨gr, 0, none⟩ = some (.pointer (some ⟨w.heap.size, 0, none⟩)) ∧ w'.cell? ⟨gk, 3, none⟩ = some (.int .i64 2)) (by kernel_rfl) ?_ (fun hHeld => ?_)
  · go_keep
  refine wpAnyH_take (i := 0) (v := .agg #[.pointer (some ⟨w.heap.size, 0, none⟩)]) rfl (by kernel_rfl) (by kernel_rfl) (by kernel_rfl) (fun _ _ _ h => h) (Or.inl ⟨by rfl, fun w' hSw => ?_⟩) (by assumption) ?_
  · obtain ⟨hs1, hs2⟩ := hSw
    go_simp
  simp only [Act.put, List.getElem_toArray, List.getElem_cons_zero, List.getElem_cons_succ, List.setIfInBounds_toArray, List.set_cons_zero, List.set_cons_succ]
  refine wpAnyH_take (i := 1) (v := .func (.func 150) #[.agg #[.pointer (some ⟨w.heap.size, 0, none⟩)]] #[]) rfl (by kernel_rfl) (by kernel_rfl) (by kernel_rfl) (fun _ _ _ h => h) (Or.inl ⟨by rfl, fun w' hSw => ?_⟩) (by assumption) ?_
  · obtain ⟨hs1, hs2⟩ := hSw
    go_simp
  simp only [Act.put, List.getElem_toArray, List.getElem_cons_zero, List.getElem_cons_succ, List.setIfInBounds_toArray, List.set_cons_zero, List.set_cons_succ]
  refine wpAnyH_take (i := 2) (v := .agg #[.pointer (some ⟨w.heap.size, 0, none⟩)]) rfl (by kernel_rfl) (by kernel_rfl) (by kernel_rfl) (fun _ _ _ h => h) (Or.inl ⟨by rfl, fun w' hSw => ?_⟩) (by assumption) ?_
  · obtain ⟨hs1, hs2⟩ := hSw
    go_simp
  simp only [Act.put, List.getElem_toArray, List.getElem_cons_zero, List.getElem_cons_succ, List.setIfInBounds_toArray, List.set_cons_zero, List.set_cons_succ]
  refine wpAnyH_take (i := 3) (v := .func (.func 151) #[.agg #[.pointer (some ⟨w.heap.size, 0, none⟩)]] #[]) rfl (by kernel_rfl) (by kernel_rfl) (by kernel_rfl) (fun _ _ _ h => h) (Or.inl ⟨by rfl, fun w' hSw => ?_⟩) (by assumption) ?_
  · obtain ⟨hs1, hs2⟩ := hSw
    go_simp
  simp only [Act.put, List.getElem_toArray, List.getElem_cons_zero, List.getElem_cons_succ, List.setIfInBounds_toArray, List.set_cons_zero, List.set_cons_succ]
  refine wpAnyH_take (i := 5) (v := .pointer (some ⟨gk, 3, none⟩)) rfl (by kernel_rfl) (by kernel_rfl) (by kernel_rfl) (fun _ _ _ h => h) (Or.inl ⟨by rfl, fun w' hSw => ?_⟩) (by assumption) ?_
  · obtain ⟨hs1, hs2⟩ := hSw
    go_simp
  simp only [Act.put, List.getElem_toArray, List.getElem_cons_zero, List.getElem_cons_succ, List.setIfInBounds_toArray, List.set_cons_zero, List.set_cons_succ]
  refine wpAnyH_take (i := 6) (v := .int .i64 2) rfl (by kernel_rfl) (by kernel_rfl) (by kernel_rfl) (fun _ _ _ h => h) (Or.inl ⟨by rfl, fun w' hSw => ?_⟩) (by assumption) ?_
  · obtain ⟨hs1, hs2⟩ := hSw
    go_simp
  simp only [Act.put, List.getElem_toArray, List.getElem_cons_zero, List.getElem_cons_succ, List.setIfInBounds_toArray, List.set_cons_zero, List.set_cons_succ]
  refine wpAnyH_take (i := 7) (v := .pointer (some ⟨gk, 3, none⟩)) rfl (by kernel_rfl) (by kernel_rfl) (by kernel_rfl) (fun _ _ _ h => h) (Or.inl ⟨by rfl, fun w' hSw => ?_⟩) (by assumption) ?_
  · obtain ⟨hs1, hs2⟩ := hSw
    go_simp
  simp only [Act.put, List.getElem_toArray, List.getElem_cons_zero, List.getElem_cons_succ, List.setIfInBounds_toArray, List.set_cons_zero, List.set_cons_succ]
  refine wpAnyH_take (i := 8) (v := .int .i64 2) rfl (by kernel_rfl) (by kernel_rfl) (by kernel_rfl) (fun _ _ _ h => h) (Or.inl ⟨by rfl, fun w' hSw => ?_⟩) (by assumption) ?_
  · obtain ⟨hs1, hs2⟩ := hSw
    go_simp
  simp only [Act.put, List.getElem_toArray, List.getElem_cons_zero, List.getElem_cons_succ, List.setIfInBounds_toArray, List.set_cons_zero, List.set_cons_succ]
  refine wpAnyH_take (i := 10) (v := .agg #[.pointer (some ⟨w.heap.size, 0, none⟩)]) rfl (by kernel_rfl) (by kernel_rfl) (by kernel_rfl) (fun _ _ _ h => h) (Or.inl ⟨by rfl, fun w' hSw => ?_⟩) (by assumption) ?_
  · obtain ⟨hs1, hs2⟩ := hSw
    go_simp
  simp only [Act.put, List.getElem_toArray, List.getElem_cons_zero, List.getElem_cons_succ, List.setIfInBounds_toArray, List.set_cons_zero, List.set_cons_succ]
  refine wpAnyH_take (i := 11) (v := .func (.func 152) #[.agg #[.pointer (some ⟨w.heap.size, 0, none⟩)]] #[]) rfl (by kernel_rfl) (by kernel_rfl) (by kernel_rfl) (fun _ _ _ h => h) (Or.inl ⟨by rfl, fun w' hSw => ?_⟩) (by assumption) ?_
  · obtain ⟨hs1, hs2⟩ := hSw
    go_simp
  simp only [Act.put, List.getElem_toArray, List.getElem_cons_zero, List.getElem_cons_succ, List.setIfInBounds_toArray, List.set_cons_zero, List.set_cons_succ]
  refine wpAnyH_take (i := 12) (v := .agg #[.pointer (some ⟨w.heap.size, 0, none⟩)]) rfl (by kernel_rfl) (by kernel_rfl) (by kernel_rfl) (fun _ _ _ h => h) (Or.inl ⟨by rfl, fun w' hSw => ?_⟩) (by assumption) ?_
  · obtain ⟨hs1, hs2⟩ := hSw
    go_simp
  simp only [Act.put, List.getElem_toArray, List.getElem_cons_zero, List.getElem_cons_succ, List.setIfInBounds_toArray, List.set_cons_zero, List.set_cons_succ]
  refine wpAnyH_take (i := 13) (v := .func (.func 153) #[.agg #[.pointer (some ⟨w.heap.size, 0, none⟩)]] #[]) rfl (by kernel_rfl) (by kernel_rfl) (by kernel_rfl) (fun _ _ _ h => h) (Or.inl ⟨by rfl, fun w' hSw => ?_⟩) (by assumption) ?_
  · obtain ⟨hs1, hs2⟩ := hSw
    go_simp
  simp only [Act.put, List.getElem_toArray, List.getElem_cons_zero, List.getElem_cons_succ, List.setIfInBounds_toArray, List.set_cons_zero, List.set_cons_succ]
  refine wpAnyH_ready (rs := [4, 14]) (by kernel_rfl) (by simp) ?_
  refine AllReadyH.cons (o := _) rfl (fun K1 hK1 => ?wa) (AllReadyH.cons (o := _) rfl (fun K1 hK1 => ?wb) AllReadyH.nil)
  case' wa =>
    go_simp
    refine hK1.out _ _ ?_ (fun hHeld => ?_)
    · first | (go_keep; done) | (exact ⟨keep3 r1c _ _ _, keep3 k1 _ _ _⟩)
    clear hK1 K1
    try simp only [Act.put, List.getElem_toArray, List.getElem_cons_zero, List.getElem_cons_succ, List.setIfInBounds_toArray, List.set_cons_zero, List.set_cons_succ]
    refine wpAnyH_take (i := 9) (v := .slice (some ⟨W.heap.size, 0, none⟩) 2 2) rfl (by kernel_rfl) (by kernel_rfl) (by kernel_rfl) (fun _ _ _ h => h) (Or.inl ⟨by rfl, fun w' hSw => ?_⟩) (by assumption) ?_
    · go_simp
    simp only [Act.put, List.getElem_toArray, List.getElem_cons_zero, List.getElem_cons_succ, List.setIfInBounds_toArray, List.set_cons_zero, List.set_cons_succ]
    refine wpAnyH_ready (rs := [14]) (by kernel_rfl) (by simp) ?_
    refine AllReadyH.cons (o := _) rfl (fun K1 hK1 => ?_) AllReadyH.nil
    go_simp
    refine hK1.out _ _ ?_ (fun hHeld => ?_)
    · first | (go_keep; done) | (exact ⟨keep3 r1c _ _ _, keep3 k1 _ _ _⟩)
    clear hK1 K1
    try simp only [Act.put, List.getElem_toArray, List.getElem_cons_zero, List.getElem_cons_succ, List.setIfInBounds_toArray, List.set_cons_zero, List.set_cons_succ]
    refine wpAnyH_ready (rs := [15]) (by kernel_rfl) (by simp) ?_
    refine AllReadyH.cons (o := _) rfl (fun K1 hK1 => ?_) AllReadyH.nil
    go_wp2_with fail
    refine hK1.out _ _ ?_ (fun hHeld => ?_)
    · first | (go_keep; done) | (exact ⟨keep3 r1c _ _ _, keep3 k1 _ _ _⟩)
    clear hK1 K1
    try simp only [Act.put, List.getElem_toArray, List.getElem_cons_zero, List.getElem_cons_succ, List.setIfInBounds_toArray, List.set_cons_zero, List.set_cons_succ]
    refine wpAnyH_take (i := 16) (v := ?va) rfl (by kernel_rfl) (by kernel_rfl) (by kernel_rfl) (fun _ _ _ h => h) (Or.inl ⟨by rfl, ?hya⟩) (by assumption) ?resta
    case hya =>
      intro w' hSw
      go_simp
      with_reducible rfl
    simp only [Act.put, List.getElem_toArray, List.getElem_cons_zero, List.getElem_cons_succ, List.setIfInBounds_toArray, List.set_cons_zero, List.set_cons_succ]
    refine wpAnyH_done (by kernel_rfl) ?_ _
    show K _ _
    refine hK _ _ ?_
    clear hK K
  case' wb =>
    go_simp
    refine hK1.out _ _ ?_ (fun hHeld => ?_)
    · first | (go_keep; done) | (exact ⟨keep3 r1c _ _ _, keep3 k1 _ _ _⟩)
    clear hK1 K1
    try simp only [Act.put, List.getElem_toArray, List.getElem_cons_zero, List.getElem_cons_succ, List.setIfInBounds_toArray, List.set_cons_zero, List.set_cons_succ]
    refine wpAnyH_ready (rs := [4]) (by kernel_rfl) (by simp) ?_
    refine AllReadyH.cons (o := _) rfl (fun K1 hK1 => ?_) AllReadyH.nil
    go_simp
    refine hK1.out _ _ ?_ (fun hHeld => ?_)
    · first | (go_keep; done) | (exact ⟨keep3 r1c _ _ _, keep3 k1 _ _ _⟩)
    clear hK1 K1
    try simp only [Act.put, List.getElem_toArray, List.getElem_cons_zero, List.getElem_cons_succ, List.setIfInBounds_toArray, List.set_cons_zero, List.set_cons_succ]
    refine wpAnyH_take (i := 9) (v := .slice (some ⟨W.heap.size + 1, 0, none⟩) 2 2) rfl (by kernel_rfl) (by kernel_rfl) (by kernel_rfl) (fun _ _ _ h => h) (Or.inl ⟨by rfl, fun w' hSw => ?_⟩) (by assumption) ?_
    · go_simp
    simp only [Act.put, List.getElem_toArray, List.getElem_cons_zero, List.getElem_cons_succ, List.setIfInBounds_toArray, List.set_cons_zero, List.set_cons_succ]
    refine wpAnyH_ready (rs := [15]) (by kernel_rfl) (by simp) ?_
    refine AllReadyH.cons (o := _) rfl (fun K1 hK1 => ?_) AllReadyH.nil
    go_wp2_with fail
    refine hK1.out _ _ ?_ (fun hHeld => ?_)
    · first | (go_keep; done) | (exact ⟨keep3 r1c _ _ _, keep3 k1 _ _ _⟩)
    clear hK1 K1
    try simp only [Act.put, List.getElem_toArray, List.getElem_cons_zero, List.getElem_cons_succ, List.setIfInBounds_toArray, List.set_cons_zero, List.set_cons_succ]
    refine wpAnyH_take (i := 16) (v := ?vb) rfl (by kernel_rfl) (by kernel_rfl) (by kernel_rfl) (fun _ _ _ h => h) (Or.inl ⟨by rfl, ?hyb⟩) (by assumption) ?restb
    case hyb =>
      intro w' hSw
      go_simp
      with_reducible rfl
    simp only [Act.put, List.getElem_toArray, List.getElem_cons_zero, List.getElem_cons_succ, List.setIfInBounds_toArray, List.set_cons_zero, List.set_cons_succ]
    refine wpAnyH_done (by kernel_rfl) ?_ _
    show K _ _
    refine hK _ _ ?_
    clear hK K
  all_goals
    clear hHeld k1 r1c l1 l2 l1a l1b l2a l2b m1 m1a m1b m2 m2a m2b
    generalize (Question.appendCap 4 2 71).cut (W.tape (W.drawn + 1) (Question.appendCap 4 2 71)) = cap9
    refine then_world (fun WW => WW.heap[w.heap.size]? = some (.cells (opCells k 0 0 0 0) 33) ∧ (∃ cs, WW.heap[W.heap.size + 1 + 1]? = some (.cells cs 71) ∧ cs[0]? = some (.func (.func 150) #[.agg #[.pointer (some ⟨w.heap.size, 0, none⟩)]] #[]) ∧ cs[1]? = some (.func (.func 151) #[.agg #[.pointer (some ⟨w.heap.size, 0, none⟩)]] #[]) ∧ cs[2]? = some (.func (.func 152) #[.agg #[.pointer (some ⟨w.heap.size, 0, none⟩)]] #[]) ∧ cs[3]? = some (.func (.func 153) #[.agg #[.pointer (some ⟨w.heap.size, 0, none⟩)]] #[])) ∧ Below w.heap.size w WW) ⟨(steps_world w W _ _ _ _ HZ.out HB.out).1, ⟨_, (steps_world w W _ _ _ _ HZ.out HB.out).2.1, (by rw [Array.getElem?_append_left (by simp)]; rfl), (by rw [Array.getElem?_append_left (by simp)]; rfl), (by rw [Array.getElem?_append_right (by simp), Array.getElem?_append_left (by simp)]; rfl), (by rw [Array.getElem?_append_right (by simp), Array.getElem?_append_left (by simp)]; rfl)⟩, (steps_world w W _ _ _ _ HZ.out HB.out).2.2⟩ fun W0 HF => ?_
    clear HZ HB
    generalize W.heap.size + 1 + 1 = gs at HF ⊢
    obtain ⟨hz, ⟨cs, hst, q0, q1, q2, q3⟩, hB⟩ := HF
    have HZ := Aside0.mk hz
    have HS := Aside0.mk hst
    have HB := Aside0.mk hB
    clear hz hst hB
    have Q0 := Aside0.mk q0
    have Q1 := Aside0.mk q1
    have Q2 := Aside0.mk q2
    have Q3 := Aside0.mk q3
    clear q0 q1 q2 q3
    go_wp2_with fail
    go_step3
    go_wp2_with fail
    refine wp_loop_rounds 5 ?_
    have HL := Aside0.mk hl
    rw [rounds_succ]
    have st0 := (blk_cell HS.out 0).trans Q0.out
    have gl0 := blk_lt HS.out
    by_cases cj0 : 0 + 1 = l.length
    · have e1 : ((1 : Int) == (l.length : Int)) = true := beq_iff_eq.2 (by omega)
      have hR := HR.out
      unfold runSteps at hR
      rw [if_pos cj0] at hR
      have hR := (Option.some.inj hR).symm
      have hE := HE.out
      rw [hR] at hE
      unfold endRead at hE
      rw [if_pos (show (5 : Int) ≠ 0 by decide)] at hE
      simp only [Option.some.injEq, Prod.mk.injEq] at hE
      obtain ⟨rfl, rfl, rfl, rfl, rfl, rfl, rfl⟩ := hE
      clear cj0
      have c0' := (blk_cell HZ.out 0).trans rfl
      have c1' := (blk_cell HZ.out 1).trans rfl
      have c2' := (blk_cell HZ.out 2).trans rfl
      have c3' := (blk_cell HZ.out 3).trans rfl
      have c4' := (blk_cell HZ.out 4).trans rfl
      have f0' := blk_frozen HZ.out 0
      have f1' := blk_frozen HZ.out 1
      have f2' := blk_frozen HZ.out 2
      have f3' := blk_frozen HZ.out 3
      have f4' := blk_frozen HZ.out 4
      have s1 := blk_lt HZ.out
      go_wp2
      try rw [Exit.noGoto_ret]
      refine bodyPost_ret (results_ctt rfl _ _ w.heap.size 33 #[.int .i64 0, .int .i64 0, .int .i64 0, .int .i64 0, .int .i64 0] (0, 0) _ rfl (zero_blk HZ.out) Tryz.underlying33 rfl (by kernel_rfl)) rfl ?_
      exact ⟨rfl, zero_below HB.out⟩
    have e1 : ((1 : Int) == (l.length : Int)) = false := beq_eq_false_iff_ne.2 (by omega)
    have pj0 : (1 : Int) < (l.length : Int) := by have := HL.out; omega
    have HL' := Aside0.mk (show 1 < l.length by omega)
    clear HL
    have HL := HL'
    clear HL'
    have pk0 := eq_true pj0
    have hcw : W0.cell? ⟨ad.block, ad.off + 1, none⟩ = some (.string (rdOf ByteArray.empty l 1)) := by
      have h := HC.out 1 (by omega) (by omega)
      exact (HB.out.cell (p := ⟨ad.block, ad.off + 1, none⟩) had).trans (by simpa [Addr.add] using h)
    have hR := HR.out
    unfold runSteps at hR
    rw [if_neg cj0] at hR
    obtain ⟨⟨y0, e0v⟩, hs, hR⟩ := Option.bind_eq_some_iff.1 hR
    have HT := Aside0.mk (show stepF .first (rdOf ByteArray.empty l 1) (0, 0, 0, 0) = some (y0, e0v) from hs)
    have HR' := Aside0.mk hR
    clear hR hs HR cj0
    go_wp2_with fail
    refine (step_calls .first _ w.heap.size k (0, 0, 0, 0) y0 e0v _ (GOk.below HGG.out HB.out) hgB HZ.out HT.out).mono ?_
    rintro e W1 ⟨rfl, hz, hg⟩
    have HB' := Aside0.mk (HB.out.trans (gBelow hg (blk_lt HZ.out)))
    have HS' := Aside0.mk (blk_grown HS.out hg (by intro e; injection e with e; subst e; exact absurd (HZ.out.symm.trans HS.out) (by simp)))
    have HZ' := Aside0.mk hz
    clear hz hg HZ HS HB hcw pj0 pk0 e1 st0 gl0 HT
    have HZ := HZ'
    have HS := HS'
    have HB := HB'
    clear HZ' HS' HB'
    by_cases ce : e0v = 0
    rotate_left 1
    · have he1 : (e0v == 0) = false := beq_eq_false_iff_ne.2 ce
      have he2 : (e0v != 0) = true := bne_iff_ne.2 ce
      have hR := HR'.out
      rw [if_neg ce] at hR
      have hR := (Option.some.inj hR).symm
      have hE := HE.out
      rw [hR] at hE
      unfold endRead at hE
      rw [if_pos (ce)] at hE
      simp only [Option.some.injEq, Prod.mk.injEq] at hE
      obtain ⟨rfl, rfl, rfl, rfl, rfl, rfl, rfl⟩ := hE
      have c0' := (blk_cell HZ.out 0).trans rfl
      have c1' := (blk_cell HZ.out 1).trans rfl
      have c2' := (blk_cell HZ.out 2).trans rfl
      have c3' := (blk_cell HZ.out 3).trans rfl
      have c4' := (blk_cell HZ.out 4).trans rfl
      have f0' := blk_frozen HZ.out 0
      have f1' := blk_frozen HZ.out 1
      have f2' := blk_frozen HZ.out 2
      have f3' := blk_frozen HZ.out 3
      have f4' := blk_frozen HZ.out 4
      have s1 := blk_lt HZ.out
      go_wp2
      try rw [Exit.noGoto_ret]
      refine bodyPost_ret (results_ctt rfl _ _ w.heap.size 33 #[.int .i64 0, .int .i64 0, .int .i64 0, .int .i64 0, .int .i64 0] (0, 0) _ rfl (zero_blk HZ.out) Tryz.underlying33 rfl (by kernel_rfl)) rfl ?_
      exact ⟨rfl, zero_below HB.out⟩
    subst ce
    have hR := HR'.out
    rw [if_pos rfl] at hR
    have HR := Aside0.mk (show runSteps l [.second, .arrow, .result] 1 y0 = some R from hR)
    clear HR' hR
    go_wp2_with fail
    rw [rounds_succ]
    have st1 := (blk_cell HS.out 1).trans Q1.out
    have gl1 := blk_lt HS.out
    by_cases cj1 : 1 + 1 = l.length
    · have e1 : ((2 : Int) == (l.length : Int)) = true := beq_iff_eq.2 (by omega)
      have hR := HR.out
      unfold runSteps at hR
      rw [if_pos cj1] at hR
      have hR := (Option.some.inj hR).symm
      have hE := HE.out
      rw [hR] at hE
      unfold endRead at hE
      rw [if_pos (show (5 : Int) ≠ 0 by decide)] at hE
      simp only [Option.some.injEq, Prod.mk.injEq] at hE
      obtain ⟨rfl, rfl, rfl, rfl, rfl, rfl, rfl⟩ := hE
      clear cj1
      have c0' := (blk_cell HZ.out 0).trans rfl
      have c1' := (blk_cell HZ.out 1).trans rfl
      have c2' := (blk_cell HZ.out 2).trans rfl
      have c3' := (blk_cell HZ.out 3).trans rfl
      have c4' := (blk_cell HZ.out 4).trans rfl
      have f0' := blk_frozen HZ.out 0
      have f1' := blk_frozen HZ.out 1
      have f2' := blk_frozen HZ.out 2
      have f3' := blk_frozen HZ.out 3
      have f4' := blk_frozen HZ.out 4
      have s1 := blk_lt HZ.out
      go_wp2
      try rw [Exit.noGoto_ret]
      refine bodyPost_ret (results_ctt rfl _ _ w.heap.size 33 #[.int .i64 0, .int .i64 0, .int .i64 0, .int .i64 0, .int .i64 0] (0, 0) _ rfl (zero_blk HZ.out) Tryz.underlying33 rfl (by kernel_rfl)) rfl ?_
      exact ⟨rfl, zero_below HB.out⟩
    have e1 : ((2 : Int) == (l.length : Int)) = false := beq_eq_false_iff_ne.2 (by omega)
    have pj1 : (2 : Int) < (l.length : Int) := by have := HL.out; omega
    have HL' := Aside0.mk (show 2 < l.length by omega)
    clear HL
    have HL := HL'
    clear HL'
    have pk1 := eq_true pj1
    have hcw : W1.cell? ⟨ad.block, ad.off + 2, none⟩ = some (.string (rdOf ByteArray.empty l 2)) := by
      have h := HC.out 2 (by omega) (by omega)
      exact (HB.out.cell (p := ⟨ad.block, ad.off + 2, none⟩) had).trans (by simpa [Addr.add] using h)
    have hR := HR.out
    unfold runSteps at hR
    rw [if_neg cj1] at hR
    obtain ⟨⟨y1, e1v⟩, hs, hR⟩ := Option.bind_eq_some_iff.1 hR
    have HT := Aside0.mk (show stepF .second (rdOf ByteArray.empty l 2) y0 = some (y1, e1v) from hs)
    have HR' := Aside0.mk hR
    clear hR hs HR cj1
    go_wp2_with fail
    refine (step_calls .second _ w.heap.size k y0 y1 e1v _ (GOk.below HGG.out HB.out) hgB HZ.out HT.out).mono ?_
    rintro e W2 ⟨rfl, hz, hg⟩
    have HB' := Aside0.mk (HB.out.trans (gBelow hg (blk_lt HZ.out)))
    have HS' := Aside0.mk (blk_grown HS.out hg (by intro e; injection e with e; subst e; exact absurd (HZ.out.symm.trans HS.out) (by simp)))
    have HZ' := Aside0.mk hz
    clear hz hg HZ HS HB hcw pj1 pk1 e1 st1 gl1 HT
    have HZ := HZ'
    have HS := HS'
    have HB := HB'
    clear HZ' HS' HB'
    by_cases ce : e1v = 0
    rotate_left 1
    · have he1 : (e1v == 0) = false := beq_eq_false_iff_ne.2 ce
      have he2 : (e1v != 0) = true := bne_iff_ne.2 ce
      have hR := HR'.out
      rw [if_neg ce] at hR
      have hR := (Option.some.inj hR).symm
      have hE := HE.out
      rw [hR] at hE
      unfold endRead at hE
      rw [if_pos (ce)] at hE
      simp only [Option.some.injEq, Prod.mk.injEq] at hE
      obtain ⟨rfl, rfl, rfl, rfl, rfl, rfl, rfl⟩ := hE
      have c0' := (blk_cell HZ.out 0).trans rfl
      have c1' := (blk_cell HZ.out 1).trans rfl
      have c2' := (blk_cell HZ.out 2).trans rfl
      have c3' := (blk_cell HZ.out 3).trans rfl
      have c4' := (blk_cell HZ.out 4).trans rfl
      have f0' := blk_frozen HZ.out 0
      have f1' := blk_frozen HZ.out 1
      have f2' := blk_frozen HZ.out 2
      have f3' := blk_frozen HZ.out 3
      have f4' := blk_frozen HZ.out 4
      have s1 := blk_lt HZ.out
      go_wp2
      try rw [Exit.noGoto_ret]
      refine bodyPost_ret (results_ctt rfl _ _ w.heap.size 33 #[.int .i64 0, .int .i64 0, .int .i64 0, .int .i64 0, .int .i64 0] (0, 0) _ rfl (zero_blk HZ.out) Tryz.underlying33 rfl (by kernel_rfl)) rfl ?_
      exact ⟨rfl, zero_below HB.out⟩
    subst ce
    have hR := HR'.out
    rw [if_pos rfl] at hR
    have HR := Aside0.mk (show runSteps l [.arrow, .result] 2 y1 = some R from hR)
    clear HR' hR
    go_wp2_with fail
    rw [rounds_succ]
    have st2 := (blk_cell HS.out 2).trans Q2.out
    have gl2 := blk_lt HS.out
    by_cases cj2 : 2 + 1 = l.length
    · have e1 : ((3 : Int) == (l.length : Int)) = true := beq_iff_eq.2 (by omega)
      have hR := HR.out
      unfold runSteps at hR
      rw [if_pos cj2] at hR
      have hR := (Option.some.inj hR).symm
      have hE := HE.out
      rw [hR] at hE
      unfold endRead at hE
      rw [if_pos (show (5 : Int) ≠ 0 by decide)] at hE
      simp only [Option.some.injEq, Prod.mk.injEq] at hE
      obtain ⟨rfl, rfl, rfl, rfl, rfl, rfl, rfl⟩ := hE
      clear cj2
      have c0' := (blk_cell HZ.out 0).trans rfl
      have c1' := (blk_cell HZ.out 1).trans rfl
      have c2' := (blk_cell HZ.out 2).trans rfl
      have c3' := (blk_cell HZ.out 3).trans rfl
      have c4' := (blk_cell HZ.out 4).trans rfl
      have f0' := blk_frozen HZ.out 0
      have f1' := blk_frozen HZ.out 1
      have f2' := blk_frozen HZ.out 2
      have f3' := blk_frozen HZ.out 3
      have f4' := blk_frozen HZ.out 4
      have s1 := blk_lt HZ.out
      go_wp2
      try rw [Exit.noGoto_ret]
      refine bodyPost_ret (results_ctt rfl _ _ w.heap.size 33 #[.int .i64 0, .int .i64 0, .int .i64 0, .int .i64 0, .int .i64 0] (0, 0) _ rfl (zero_blk HZ.out) Tryz.underlying33 rfl (by kernel_rfl)) rfl ?_
      exact ⟨rfl, zero_below HB.out⟩
    have e1 : ((3 : Int) == (l.length : Int)) = false := beq_eq_false_iff_ne.2 (by omega)
    have pj2 : (3 : Int) < (l.length : Int) := by have := HL.out; omega
    have HL' := Aside0.mk (show 3 < l.length by omega)
    clear HL
    have HL := HL'
    clear HL'
    have pk2 := eq_true pj2
    have hcw : W2.cell? ⟨ad.block, ad.off + 3, none⟩ = some (.string (rdOf ByteArray.empty l 3)) := by
      have h := HC.out 3 (by omega) (by omega)
      exact (HB.out.cell (p := ⟨ad.block, ad.off + 3, none⟩) had).trans (by simpa [Addr.add] using h)
    have hR := HR.out
    unfold runSteps at hR
    rw [if_neg cj2] at hR
    obtain ⟨⟨y2, e2v⟩, hs, hR⟩ := Option.bind_eq_some_iff.1 hR
    have HT := Aside0.mk (show stepF .arrow (rdOf ByteArray.empty l 3) y1 = some (y2, e2v) from hs)
    have HR' := Aside0.mk hR
    clear hR hs HR cj2
    go_wp2_with fail
    refine (step_calls .arrow _ w.heap.size k y1 y2 e2v _ (GOk.below HGG.out HB.out) hgB HZ.out HT.out).mono ?_
    rintro e W3 ⟨rfl, hz, hg⟩
    have HB' := Aside0.mk (HB.out.trans (gBelow hg (blk_lt HZ.out)))
    have HS' := Aside0.mk (blk_grown HS.out hg (by intro e; injection e with e; subst e; exact absurd (HZ.out.symm.trans HS.out) (by simp)))
    have HZ' := Aside0.mk hz
    clear hz hg HZ HS HB hcw pj2 pk2 e1 st2 gl2 HT
    have HZ := HZ'
    have HS := HS'
    have HB := HB'
    clear HZ' HS' HB'
    by_cases ce : e2v = 0
    rotate_left 1
    · have he1 : (e2v == 0) = false := beq_eq_false_iff_ne.2 ce
      have he2 : (e2v != 0) = true := bne_iff_ne.2 ce
      have hR := HR'.out
      rw [if_neg ce] at hR
      have hR := (Option.some.inj hR).symm
      have hE := HE.out
      rw [hR] at hE
      unfold endRead at hE
      rw [if_pos (ce)] at hE
      simp only [Option.some.injEq, Prod.mk.injEq] at hE
      obtain ⟨rfl, rfl, rfl, rfl, rfl, rfl, rfl⟩ := hE
      have c0' := (blk_cell HZ.out 0).trans rfl
      have c1' := (blk_cell HZ.out 1).trans rfl
      have c2' := (blk_cell HZ.out 2).trans rfl
      have c3' := (blk_cell HZ.out 3).trans rfl
      have c4' := (blk_cell HZ.out 4).trans rfl
      have f0' := blk_frozen HZ.out 0
      have f1' := blk_frozen HZ.out 1
      have f2' := blk_frozen HZ.out 2
      have f3' := blk_frozen HZ.out 3
      have f4' := blk_frozen HZ.out 4
      have s1 := blk_lt HZ.out
      go_wp2
      try rw [Exit.noGoto_ret]
      refine bodyPost_ret (results_ctt rfl _ _ w.heap.size 33 #[.int .i64 0, .int .i64 0, .int .i64 0, .int .i64 0, .int .i64 0] (0, 0) _ rfl (zero_blk HZ.out) Tryz.underlying33 rfl (by kernel_rfl)) rfl ?_
      exact ⟨rfl, zero_below HB.out⟩
    subst ce
    have hR := HR'.out
    rw [if_pos rfl] at hR
    have HR := Aside0.mk (show runSteps l [.result] 3 y2 = some R from hR)
    clear HR' hR
    go_wp2_with fail
    rw [rounds_succ]
    have st3 := (blk_cell HS.out 3).trans Q3.out
    have gl3 := blk_lt HS.out
    by_cases cj3 : 3 + 1 = l.length
    · have e1 : ((4 : Int) == (l.length : Int)) = true := beq_iff_eq.2 (by omega)
      have hR := HR.out
      unfold runSteps at hR
      rw [if_pos cj3] at hR
      have hR := (Option.some.inj hR).symm
      have hE := HE.out
      rw [hR] at hE
      unfold endRead at hE
      rw [if_pos (show (5 : Int) ≠ 0 by decide)] at hE
      simp only [Option.some.injEq, Prod.mk.injEq] at hE
      obtain ⟨rfl, rfl, rfl, rfl, rfl, rfl, rfl⟩ := hE
      clear cj3
      have c0' := (blk_cell HZ.out 0).trans rfl
      have c1' := (blk_cell HZ.out 1).trans rfl
      have c2' := (blk_cell HZ.out 2).trans rfl
      have c3' := (blk_cell HZ.out 3).trans rfl
      have c4' := (blk_cell HZ.out 4).trans rfl
      have f0' := blk_frozen HZ.out 0
      have f1' := blk_frozen HZ.out 1
      have f2' := blk_frozen HZ.out 2
      have f3' := blk_frozen HZ.out 3
      have f4' := blk_frozen HZ.out 4
      have s1 := blk_lt HZ.out
      go_wp2
      try rw [Exit.noGoto_ret]
      refine bodyPost_ret (results_ctt rfl _ _ w.heap.size 33 #[.int .i64 0, .int .i64 0, .int .i64 0, .int .i64 0, .int .i64 0] (0, 0) _ rfl (zero_blk HZ.out) Tryz.underlying33 rfl (by kernel_rfl)) rfl ?_
      exact ⟨rfl, zero_below HB.out⟩
    have e1 : ((4 : Int) == (l.length : Int)) = false := beq_eq_false_iff_ne.2 (by omega)
    have pj3 : (4 : Int) < (l.length : Int) := by have := HL.out; omega
    have HL' := Aside0.mk (show 4 < l.length by omega)
    clear HL
    have HL := HL'
    clear HL'
    have pk3 := eq_true pj3
    have hcw : W3.cell? ⟨ad.block, ad.off + 4, none⟩ = some (.string (rdOf ByteArray.empty l 4)) := by
      have h := HC.out 4 (by omega) (by omega)
      exact (HB.out.cell (p := ⟨ad.block, ad.off + 4, none⟩) had).trans (by simpa [Addr.add] using h)
    have hR := HR.out
    unfold runSteps at hR
    rw [if_neg cj3] at hR
    obtain ⟨⟨y3, e3v⟩, hs, hR⟩ := Option.bind_eq_some_iff.1 hR
    have HT := Aside0.mk (show stepF .result (rdOf ByteArray.empty l 4) y2 = some (y3, e3v) from hs)
    have HR' := Aside0.mk hR
    clear hR hs HR cj3
    go_wp2_with fail
    refine (step_calls .result _ w.heap.size k y2 y3 e3v _ (GOk.below HGG.out HB.out) hgB HZ.out HT.out).mono ?_
    rintro e W4 ⟨rfl, hz, hg⟩
    have HB' := Aside0.mk (HB.out.trans (gBelow hg (blk_lt HZ.out)))
    have HS' := Aside0.mk (blk_grown HS.out hg (by intro e; injection e with e; subst e; exact absurd (HZ.out.symm.trans HS.out) (by simp)))
    have HZ' := Aside0.mk hz
    clear hz hg HZ HS HB hcw pj3 pk3 e1 st3 gl3 HT
    have HZ := HZ'
    have HS := HS'
    have HB := HB'
    clear HZ' HS' HB'
    by_cases ce : e3v = 0
    rotate_left 1
    · have he1 : (e3v == 0) = false := beq_eq_false_iff_ne.2 ce
      have he2 : (e3v != 0) = true := bne_iff_ne.2 ce
      have hR := HR'.out
      rw [if_neg ce] at hR
      have hR := (Option.some.inj hR).symm
      have hE := HE.out
      rw [hR] at hE
      unfold endRead at hE
      rw [if_pos (ce)] at hE
      simp only [Option.some.injEq, Prod.mk.injEq] at hE
      obtain ⟨rfl, rfl, rfl, rfl, rfl, rfl, rfl⟩ := hE
      have c0' := (blk_cell HZ.out 0).trans rfl
      have c1' := (blk_cell HZ.out 1).trans rfl
      have c2' := (blk_cell HZ.out 2).trans rfl
      have c3' := (blk_cell HZ.out 3).trans rfl
      have c4' := (blk_cell HZ.out 4).trans rfl
      have f0' := blk_frozen HZ.out 0
      have f1' := blk_frozen HZ.out 1
      have f2' := blk_frozen HZ.out 2
      have f3' := blk_frozen HZ.out 3
      have f4' := blk_frozen HZ.out 4
      have s1 := blk_lt HZ.out
      go_wp2
      try rw [Exit.noGoto_ret]
      refine bodyPost_ret (results_ctt rfl _ _ w.heap.size 33 #[.int .i64 0, .int .i64 0, .int .i64 0, .int .i64 0, .int .i64 0] (0, 0) _ rfl (zero_blk HZ.out) Tryz.underlying33 rfl (by kernel_rfl)) rfl ?_
      exact ⟨rfl, zero_below HB.out⟩
    subst ce
    have hR := HR'.out
    rw [if_pos rfl] at hR
    have HR := Aside0.mk (show runSteps l [] 4 y3 = some R from hR)
    clear HR' hR
    go_wp2_with fail
    rw [rounds_succ]
    have hR := (Option.some.inj HR.out).symm
    have hE := HE.out
    rw [hR] at hE
    unfold endRead at hE
    rw [if_neg (show ¬ (0 : Int) ≠ 0 by decide)] at hE
    clear hR HR HE
    by_cases cl : 4 + 1 < l.length
    · have g1 : decide ((5 : Int) < (l.length : Int)) = true := decide_eq_true (by omega)
      rw [if_pos cl] at hE
      simp only [Option.some.injEq, Prod.mk.injEq] at hE
      obtain ⟨rfl, rfl, rfl, rfl, rfl, rfl, rfl⟩ := hE
      clear cl
      have c0' := (blk_cell HZ.out 0).trans rfl
      have c1' := (blk_cell HZ.out 1).trans rfl
      have c2' := (blk_cell HZ.out 2).trans rfl
      have c3' := (blk_cell HZ.out 3).trans rfl
      have c4' := (blk_cell HZ.out 4).trans rfl
      have f0' := blk_frozen HZ.out 0
      have f1' := blk_frozen HZ.out 1
      have f2' := blk_frozen HZ.out 2
      have f3' := blk_frozen HZ.out 3
      have f4' := blk_frozen HZ.out 4
      have s1 := blk_lt HZ.out
      go_wp2
      try rw [Exit.noGoto_ret]
      refine bodyPost_ret (results_ctt rfl _ _ w.heap.size 33 #[.int .i64 0, .int .i64 0, .int .i64 0, .int .i64 0, .int .i64 0] (0, 0) _ rfl (zero_blk HZ.out) Tryz.underlying33 rfl (by kernel_rfl)) rfl ?_
      exact ⟨rfl, zero_below HB.out⟩
    have g1 : decide ((5 : Int) < (l.length : Int)) = false := decide_eq_false (by omega)
    rw [if_neg cl] at hE
    clear cl
    obtain ⟨c, hck, hE⟩ := Option.bind_eq_some_iff.1 hE
    have HE := Aside0.mk hE
    have HCK := Aside0.mk hck
    clear hE hck
    have c0' := (blk_cell HZ.out 0).trans rfl
    have c1' := (blk_cell HZ.out 1).trans rfl
    have c2' := (blk_cell HZ.out 2).trans rfl
    have c3' := (blk_cell HZ.out 3).trans rfl
    have c4' := (blk_cell HZ.out 4).trans rfl
    go_wp2_with fail
    refine (operation_Check.calls k _ _ _ _ c _ HCK.out).mono ?_
    rintro e W9 ⟨rfl, hb⟩
    have HZ' := Aside0.mk (blk_below HZ.out hb)
    have HB' := Aside0.mk (HB.out.trans (hb.mono HB.out.size))
    clear hb HZ HB c0' c1' c2' c3' c4'
    have HZ := HZ'
    have HB := HB'
    clear HZ' HB'
    have hE := HE.out
    have c0' := (blk_cell HZ.out 0).trans rfl
    have c1' := (blk_cell HZ.out 1).trans rfl
    have c2' := (blk_cell HZ.out 2).trans rfl
    have c3' := (blk_cell HZ.out 3).trans rfl
    have c4' := (blk_cell HZ.out 4).trans rfl
    have f0' := blk_frozen HZ.out 0
    have f1' := blk_frozen HZ.out 1
    have f2' := blk_frozen HZ.out 2
    have f3' := blk_frozen HZ.out 3
    have f4' := blk_frozen HZ.out 4
    have s1 := blk_lt HZ.out
    by_cases d0 : c = 0
    · subst d0
      rw [if_pos rfl] at hE
      simp only [Option.some.injEq, Prod.mk.injEq] at hE
      obtain ⟨rfl, rfl, rfl, rfl, rfl, rfl, rfl⟩ := hE
      go_wp2
      try rw [Exit.noGoto_ret]
      refine bodyPost_ret (results_ctt rfl _ _ w.heap.size 33 (opCells k y3.1 y3.2.1 y3.2.2.1 y3.2.2.2) (0, 0) _ rfl (same_blk HZ.out) Tryz.underlying33 rfl (by kernel_rfl)) rfl ?_
      exact ⟨rfl, same_below HB.out⟩
    rw [if_neg d0] at hE
    have d0a : (c == 0) = false := beq_eq_false_iff_ne.2 d0
    have d0b : (c != 0) = true := bne_iff_ne.2 d0
    by_cases d2 : c = 2
    · subst d2
      rw [if_pos rfl] at hE
      simp only [Option.some.injEq, Prod.mk.injEq] at hE
      obtain ⟨rfl, rfl, rfl, rfl, rfl, rfl, rfl⟩ := hE
      go_wp2
      try rw [Exit.noGoto_ret]
      refine bodyPost_ret (results_ctt rfl _ _ w.heap.size 33 #[.int .i64 0, .int .i64 0, .int .i64 0, .int .i64 0, .int .i64 0] (0, 0) _ rfl (zero_blk HZ.out) Tryz.underlying33 rfl (by kernel_rfl)) rfl ?_
      exact ⟨rfl, zero_below HB.out⟩
    rw [if_neg d2] at hE
    have d2a : (c == 2) = false := beq_eq_false_iff_ne.2 d2
    by_cases d9 : c = 9
    · subst d9
      rw [if_pos rfl] at hE
      simp only [Option.some.injEq, Prod.mk.injEq] at hE
      obtain ⟨rfl, rfl, rfl, rfl, rfl, rfl, rfl⟩ := hE
      go_wp2
      try rw [Exit.noGoto_ret]
      refine bodyPost_ret (results_ctt rfl _ _ w.heap.size 33 #[.int .i64 0, .int .i64 0, .int .i64 0, .int .i64 0, .int .i64 0] (0, 0) _ rfl (zero_blk HZ.out) Tryz.underlying33 rfl (by kernel_rfl)) rfl ?_
      exact ⟨rfl, zero_below HB.out⟩
    rw [if_neg d9] at hE
    have d9a : (c == 9) = false := beq_eq_false_iff_ne.2 d9
    simp only [Option.some.injEq, Prod.mk.injEq] at hE
    obtain ⟨rfl, rfl, rfl, rfl, rfl, rfl, rfl⟩ := hE
    go_wp2
    try rw [Exit.noGoto_ret]
    refine bodyPost_ret (results_ctt rfl _ _ w.heap.size 33 #[.int .i64 0, .int .i64 0, .int .i64 0, .int .i64 0, .int .i64 0] (0, 0) _ rfl (zero_blk HZ.out) Tryz.underlying33 rfl (by kernel_rfl)) rfl ?_
    exact ⟨rfl, zero_below HB.out⟩
end Go.Proofs.YtkjnbfjbdlcehaaGreatDoor.P

/- operation.Read: the operation that words are. -/
namespace Go.Proofs.YtkjnbfjbdlcehaaGreatDoor.P
open Go.RowKit Go.Proofs.YtkjnbfjbdlcehaaGreatDoorW.PrintWords Go.Proofs.YtkjnbfjbdlcehaaGreatDoorW.PrintLast Go.Proofs.YtkjnbfjbdlcehaaGreatDoorW.PrintMore
set_option linter.unusedVariables false
set_option linter.unusedSimpArgs false

theorem kinds_args2 : ∀ x ∈ kinds15, x.args = 0 ∨ x.args = 1 ∨ x.args = 2 := by decide
set_option maxHeartbeats 2000000 in
set_option maxRecDepth 100000 in
theorem read_nil (A : Option Addr) (c : Nat) (w : World) :
    Calls Tryz.prog 123 #[.slice A 0 c] w fun e w' => e = .returned (.tuple #[.agg #[.int .i64 0, .int .i64 0, .int .i64 0, .int .i64 0, .int .i64 0], .int .i64 0, .int .i64 5]) ∧ Below w.heap.size w w' := by
  go_enter Tryz.func123, Tryz.ntmps123
  go_wp2_with fail
  go_step3
  go_wp2
  try rw [Exit.noGoto_ret]
  refine bodyPost_ret (results_ctt rfl _ _ w.heap.size 33 (opCells 0 0 0 0 0) (0, 0) _ rfl (blk_new w _) Tryz.underlying33 rfl (by kernel_rfl)) rfl ?_
  exact ⟨rfl, (Below.refl _ w).alloc (Nat.le_refl _) _⟩
set_option maxHeartbeats 2000000 in
set_option maxRecDepth 100000 in
theorem read_bad (s : ByteArray) (e0 : Int) (he : e0 ≠ 0) (ad : Addr) (c : Nat) (l : List ByteArray) (hl : 0 < l.length) (w : World) (had : ad.block < w.heap.size) (hcw : w.cell? ad = some (.string s))
    (hkind : ∀ W, Calls Tryz.prog 149 #[.string s] W fun e w' => (∃ k, e = .returned (.tuple #[.int .i64 k, .int .i64 e0])) ∧ Below W.heap.size W w') :
    Calls Tryz.prog 123 #[.slice (some ad) l.length c] w fun e w' => e = .returned (.tuple #[.agg #[.int .i64 0, .int .i64 0, .int .i64 0, .int .i64 0, .int .i64 0], .int .i64 0, .int .i64 e0]) ∧ Below w.heap.size w w' := by
  have HK := Aside0.mk hkind
  clear hkind
  have p1 : ((l.length : Int) == 0) = false := beq_eq_false_iff_ne.2 (by omega)
  have p2 : (0 : Int) < (l.length : Int) := by omega
  have p3 := eq_true p2
  have h1 : (e0 != 0) = true := bne_iff_ne.2 he
  have h2 : (e0 == 0) = false := beq_eq_false_iff_ne.2 he
  clear he
  go_enter Tryz.func123, Tryz.ntmps123
  go_wp2_with fail
  go_step3
  go_wp2_with fail
  refine (HK.out _).mono ?_
  rintro e w2 ⟨⟨k, rfl⟩, hb2⟩
  have hz : w2.heap[w.heap.size]? = some (.cells (opCells 0 0 0 0 0) 33) := blk_below (blk_new w _) hb2
  have HZ := Aside0.mk hz
  have HB := Aside0.mk (((Below.refl _ w).alloc (Nat.le_refl _) _).trans (hb2.mono (by simp)))
  clear hb2 hz
  have c0' := (blk_cell HZ.out 0).trans rfl
  have c1' := (blk_cell HZ.out 1).trans rfl
  have c2' := (blk_cell HZ.out 2).trans rfl
  have c3' := (blk_cell HZ.out 3).trans rfl
  have c4' := (blk_cell HZ.out 4).trans rfl
  have f0' := blk_frozen HZ.out 0
  have f1' := blk_frozen HZ.out 1
  have f2' := blk_frozen HZ.out 2
  have f3' := blk_frozen HZ.out 3
  have f4' := blk_frozen HZ.out 4
  have s1 := blk_lt HZ.out
  go_wp2
  try rw [Exit.noGoto_ret]
  refine bodyPost_ret (results_ctt rfl _ _ w.heap.size 33 (opCells 0 0 0 0 0) (0, 0) _ rfl (same_blk HZ.out) Tryz.underlying33 rfl (by kernel_rfl)) rfl ?_
  exact ⟨rfl, same_below HB.out⟩
theorem operation_Read.calls (A0 : Option Addr) (c0 : Nat) (l0 : List ByteArray) (r1 r2 r3 r4 r5 r6 r7 : Int) (w : World) (hr0 : Kd.C Kd.string w A0 l0.length l0) (hc0 : l0.length ≤ c0) (hG : GOk w) (h : operation_Read.f l0 = some (r1, r2, r3, r4, r5, r6, r7)) :
    Calls Tryz.prog 123 #[.slice A0 l0.length c0] w fun e w' => e = .returned (.tuple #[.agg #[.int .i64 r1, .int .i64 r2, .int .i64 r3, .int .i64 r4, .int .i64 r5], .int .i64 r6, .int .i64 r7]) ∧ Below w.heap.size w w' := by
  unfold operation_Read.f at h
  by_cases hl : l0.length = 0
  · rw [if_pos hl] at h
    simp only [Option.some.injEq, Prod.mk.injEq] at h
    obtain ⟨rfl, rfl, rfl, rfl, rfl, rfl, rfl⟩ := h
    rw [hl]
    exact read_nil A0 c0 w
  · rw [if_neg hl] at h
    obtain ⟨⟨k, e0⟩, hk, h⟩ := Option.bind_eq_some_iff.1 h
    have hp : 0 < l0.length := by omega
    obtain ⟨ad, rfl, h0⟩ := Kd.at_string hr0 0 (by omega) (by omega)
    have had : ad.block < w.heap.size := World.block_lt_of_cell? w (ad.add (0 : Int).toNat) h0
    have hcell : ∀ i : Int, 0 ≤ i → i < l0.length → w.cell? (ad.add i.toNat) = some (.string (rdOf ByteArray.empty l0 i)) := fun i h1 h2 => by
      obtain ⟨ad', e, hc⟩ := Kd.at_string hr0 i h1 h2
      cases e
      exact hc
    have hK := fun W => operation_Kind.calls _ k e0 W hk
    by_cases he : e0 = 0
    · subst he
      rw [if_neg (show ¬ (0 : Int) ≠ 0 by decide)] at h
      obtain ⟨R, hR, hE⟩ := Option.bind_eq_some_iff.1 h
      have hin : 1 ≤ k ∧ k ≤ 15 := by
        unfold operation_Kind.f at hk
        simp only [Option.some.injEq, Prod.mk.injEq] at hk
        rcases kindIdx_cases (rdOf ByteArray.empty l0 0) with ⟨i, hi, hx⟩ | hx
        · omega
        · rw [if_pos hx] at hk
          omega
      have HY := fun W => by_calls k W
      unfold byK byE at HY
      unfold kdOf at hR hE
      simp only [if_pos hin] at HY hR hE
      have hm := kdOf_mem k hin
      have h3 := kinds_args2 _ hm
      generalize kinds15[(k - 1).toNat]! = x at HY h3 hR hE
      obtain ⟨n, typ, word, args, ret, arg, done, nothing⟩ := x
      simp only at h3 hR hE
      unfold aggK encK at HY
      rcases h3 with rfl | rfl | rfl
      · exact read_0 n typ word ret arg done nothing ad c0 l0 hp hr0.2.1 hc0 k w had hG hcell hK HY R hR r1 r2 r3 r4 r5 r6 r7 hE
      · exact read_1 n typ word ret arg done nothing ad c0 l0 hp hr0.2.1 hc0 k w had hG hcell hK HY R hR r1 r2 r3 r4 r5 r6 r7 hE
      · exact read_2 n typ word ret arg done nothing ad c0 l0 hp hr0.2.1 hc0 k w had hG hcell hK HY R hR r1 r2 r3 r4 r5 r6 r7 hE
    · rw [if_pos he] at h
      simp only [Option.some.injEq, Prod.mk.injEq] at h
      obtain ⟨rfl, rfl, rfl, rfl, rfl, rfl, rfl⟩ := h
      exact read_bad _ e0 he ad c0 l0 hp w had (by simpa [Addr.add] using h0) (fun W => (hK W).mono fun e w' h => ⟨⟨_, h.1⟩, h.2⟩)
end Go.Proofs.YtkjnbfjbdlcehaaGreatDoor.P
