/- operation: how one word is read into an operation. -/
import Derived.Test.YtkjnbfjbdlcehaaGreatDoorECheck
import Derived.Test.YtkjnbfjbdlcehaaGreatDoorEKind
import Derived.Test.YtkjnbfjbdlcehaaGreatDoorEGet
namespace Go.Proofs.YtkjnbfjbdlcehaaGreatDoor.P
open Go.RowKit Go.Proofs.YtkjnbfjbdlcehaaGreatDoorW.PrintWords Go.Proofs.YtkjnbfjbdlcehaaGreatDoorW.PrintLast Go.Proofs.YtkjnbfjbdlcehaaGreatDoorW.PrintMore
set_option linter.unusedVariables false
set_option linter.unusedSimpArgs false

theorem gSet (W : World) (b i : Nat) (v : Value) : W.grownBy (W.setCell ⟨b, i, none⟩ v) (some b) :=
  have h := (Below.refl b W).setCell (p := ⟨b, i, none⟩) (Nat.le_refl _) v
  ⟨h.os, h.tape, h.output, h.size, fun k _ hne => Below.heap_setCell W ⟨b, i, none⟩ v k (fun e => hne (by rw [e]))⟩
theorem gAlloc (W : World) (o : Obj) (r : Option Nat) : W.grownBy (W.alloc o) r := grown_of_below ((Below.refl _ W).alloc (Nat.le_refl _) o) r
theorem gBelow {W w' : World} {B : Nat} (h : W.grownBy w' (some B)) (hB : B < W.heap.size) : Below B W w' := ⟨h.os, h.tape, h.output, h.size, fun k hk => h.block k (by omega) (by intro e; injection e with e; omega)⟩
/-- The number of a word, and whether it is one. -/
def wholeF (s : ByteArray) : Option (Int × Int) := (number_Get.f s).bind fun x => some (x.1, if x.2.1 = 0 then 0 else 5)
set_option maxHeartbeats 1000000 in
set_option maxRecDepth 100000 in
theorem whole_calls (s : ByteArray) (B i : Nat) (cs : Array Value) (old n e0 : Int) (W : World) (hG : GOk W) (hz : W.heap[B]? = some (.cells cs 33)) (hi : cs[i]? = some (.int .i64 old)) (h : wholeF s = some (n, e0)) :
    Calls Tryz.prog 163 #[.string s, .pointer (some ⟨B, i, none⟩)] W fun e w' => e = .returned (.int .i64 e0) ∧ w'.heap[B]? = some (.cells (cs.set! i (.int .i64 n)) 33) ∧ W.grownBy w' (some B) := by
  obtain ⟨⟨g1, g2, g3⟩, hg, h⟩ := Option.bind_eq_some_iff.1 h
  simp only [Option.some.injEq, Prod.mk.injEq] at h
  obtain ⟨rfl, rfl⟩ := h
  have HGet := Aside0.mk (fun hG => number_Get.calls s g1 g2 g3 W hG hg)
  have HG := Aside0.mk hG
  have hlt := blk_lt hz
  have HZ := Aside0.mk hz
  have HI := Aside0.mk hi
  clear hz hG hg hi
  have key : ∀ w2 : World, Below W.heap.size W w2 → ∀ o : Obj, ((w2.setCell ⟨B, i, none⟩ (.int .i64 g1)).alloc o).heap[B]? = some (.cells (cs.set! i (.int .i64 g1)) 33) ∧ W.grownBy ((w2.setCell ⟨B, i, none⟩ (.int .i64 g1)).alloc o) (some B) := by
    intro w2 hb2 o
    have hz2 := blk_below HZ.out hb2
    have hp := blk_put hz2 i (.int .i64 g1) rfl
    exact ⟨blk_below hp ((Below.refl _ _).alloc (Nat.le_refl _) _), ((grown_of_below hb2 (some B)).trans (gSet w2 B i _)).trans (gAlloc _ _ _)⟩
  have KEY := Aside0.mk key
  clear key
  by_cases c : g2 = 0
  · subst c
    rw [if_pos rfl]
    go_enter Tryz.func163, Tryz.ntmps163
    go_wp2_with fail
    refine (HGet.out HG.out).mono ?_
    rintro e w2 ⟨rfl, hb2⟩
    have hc2 := (blk_cell (blk_below HZ.out hb2) i).trans HI.out
    have hf2 := blk_frozen (blk_below HZ.out hb2) i
    have hlt2 : B < w2.heap.size := Nat.lt_of_lt_of_le hlt hb2.size
    have HB2 := Aside0.mk hb2
    clear hb2
    go_wp2
    refine bodyPost_ret (results_tmp rfl _ _ _) rfl ?_
    exact ⟨rfl, KEY.out w2 HB2.out _⟩
  · rw [if_neg c]
    have h1 : (g2 != 0) = true := bne_iff_ne.2 c
    have h2 : (g2 == 0) = false := beq_eq_false_iff_ne.2 c
    clear c
    go_enter Tryz.func163, Tryz.ntmps163
    go_wp2_with fail
    refine (HGet.out HG.out).mono ?_
    rintro e w2 ⟨rfl, hb2⟩
    have hc2 := (blk_cell (blk_below HZ.out hb2) i).trans HI.out
    have hf2 := blk_frozen (blk_below HZ.out hb2) i
    have hlt2 : B < w2.heap.size := Nat.lt_of_lt_of_le hlt hb2.size
    have HB2 := Aside0.mk hb2
    clear hb2
    go_wp2
    refine bodyPost_ret (results_tmp rfl _ _ _) rfl ?_
    exact ⟨rfl, KEY.out w2 HB2.out _⟩
abbrev opCells (k a b rk rn : Int) : Array Value := #[.int .i64 k, .int .i64 a, .int .i64 b, .int .i64 rk, .int .i64 rn]
set_option maxHeartbeats 1000000 in
set_option maxRecDepth 100000 in
theorem first_calls (s : ByteArray) (B : Nat) (k a b rk rn n e0 : Int) (W : World) (hG : GOk W) (hz : W.heap[B]? = some (.cells (opCells k a b rk rn) 33)) (h : wholeF s = some (n, e0)) :
    Calls Tryz.prog 150 #[.agg #[.pointer (some ⟨B, 0, none⟩)], .string s] W fun e w' => e = .returned (.int .i64 e0) ∧ w'.heap[B]? = some (.cells (opCells k n b rk rn) 33) ∧ W.grownBy w' (some B) := by
  have hlt := blk_lt hz
  have HW := Aside0.mk (fun W' hG' hz' => whole_calls s B 1 (opCells k a b rk rn) a n e0 W' hG' hz' rfl h)
  have HG := Aside0.mk hG
  have HZ := Aside0.mk hz
  clear hz hG h
  go_enter Tryz.func150, Tryz.ntmps150
  go_wp2_with fail
  refine (HW.out _ (GOk.below HG.out ((Below.refl _ _).alloc (Nat.le_refl _) _)) (blk_below HZ.out ((Below.refl _ _).alloc (Nat.le_refl _) _))).mono ?_
  rintro e w2 ⟨rfl, hz2, hb2⟩
  have HZ2 := Aside0.mk hz2
  have HB2 := Aside0.mk ((gAlloc W _ _).trans hb2)
  clear hz2 hb2
  go_wp2
  refine bodyPost_ret (results_tmp rfl _ _ _) rfl ?_
  exact ⟨rfl, HZ2.out, HB2.out⟩
set_option maxHeartbeats 1000000 in
set_option maxRecDepth 100000 in
theorem second_calls (s : ByteArray) (B : Nat) (k a b rk rn n e0 : Int) (W : World) (hG : GOk W) (hz : W.heap[B]? = some (.cells (opCells k a b rk rn) 33)) (h : wholeF s = some (n, e0)) :
    Calls Tryz.prog 151 #[.agg #[.pointer (some ⟨B, 0, none⟩)], .string s] W fun e w' => e = .returned (.int .i64 e0) ∧ w'.heap[B]? = some (.cells (opCells k a n rk rn) 33) ∧ W.grownBy w' (some B) := by
  have hlt := blk_lt hz
  have HW := Aside0.mk (fun W' hG' hz' => whole_calls s B 2 (opCells k a b rk rn) b n e0 W' hG' hz' rfl h)
  have HG := Aside0.mk hG
  have HZ := Aside0.mk hz
  clear hz hG h
  go_enter Tryz.func151, Tryz.ntmps151
  go_wp2_with fail
  refine (HW.out _ (GOk.below HG.out ((Below.refl _ _).alloc (Nat.le_refl _) _)) (blk_below HZ.out ((Below.refl _ _).alloc (Nat.le_refl _) _))).mono ?_
  rintro e w2 ⟨rfl, hz2, hb2⟩
  have HZ2 := Aside0.mk hz2
  have HB2 := Aside0.mk ((gAlloc W _ _).trans hb2)
  clear hz2 hb2
  go_wp2
  refine bodyPost_ret (results_tmp rfl _ _ _) rfl ?_
  exact ⟨rfl, HZ2.out, HB2.out⟩
set_option maxHeartbeats 1000000 in
set_option maxRecDepth 100000 in
theorem arrow_calls (s : ByteArray) (B : Nat) (k a b rk rn : Int) (W : World) (hz : W.heap[B]? = some (.cells (opCells k a b rk rn) 33)) :
    Calls Tryz.prog 152 #[.agg #[.pointer (some ⟨B, 0, none⟩)], .string s] W fun e w' => e = .returned (.int .i64 (if s.toList = [45, 62] then 0 else 5)) ∧ w'.heap[B]? = some (.cells (opCells k a b rk rn) 33) ∧ W.grownBy w' (some B) := by
  have hlt := blk_lt hz
  have HZ := Aside0.mk hz
  clear hz
  by_cases c : s.toList = [45, 62]
  · rw [if_pos c]
    have c1 : (s.toList != [45, 62]) = false := bne_eq_false_iff_eq.2 c
    have c2 : (s.toList == [45, 62]) = true := beq_iff_eq.2 c
    clear c
    go_enter Tryz.func152, Tryz.ntmps152
    go_wp2
    refine bodyPost_ret (results_tmp rfl _ _ _) rfl ?_
    exact ⟨rfl, blk_below HZ.out ((Below.refl _ _).alloc (Nat.le_refl _) _), gAlloc W _ _⟩
  · rw [if_neg c]
    have c1 : (s.toList != [45, 62]) = true := bne_iff_ne.2 c
    have c2 : (s.toList == [45, 62]) = false := beq_eq_false_iff_ne.2 c
    clear c
    go_enter Tryz.func152, Tryz.ntmps152
    go_wp2
    refine bodyPost_ret (results_tmp rfl _ _ _) rfl ?_
    exact ⟨rfl, blk_below HZ.out ((Below.refl _ _).alloc (Nat.le_refl _) _), gAlloc W _ _⟩
set_option maxHeartbeats 1000000 in
set_option maxRecDepth 100000 in
theorem result_ok_calls (s : ByteArray) (B : Nat) (k a b rk rn : Int) (W : World) (hz : W.heap[B]? = some (.cells (opCells k a b rk rn) 33)) (c : s.toList = [111, 107]) :
    Calls Tryz.prog 153 #[.agg #[.pointer (some ⟨B, 0, none⟩)], .string s] W fun e w' => e = .returned (.int .i64 0) ∧ w'.heap[B]? = some (.cells (opCells k a b 0 0) 33) ∧ W.grownBy w' (some B) := by
  have hlt := blk_lt hz
  have HZ := Aside0.mk hz
  have c0 := (blk_cell hz 0).trans rfl
  have c1 := (blk_cell hz 1).trans rfl
  have c2 := (blk_cell hz 2).trans rfl
  have c3 := (blk_cell hz 3).trans rfl
  have c4 := (blk_cell hz 4).trans rfl
  have f3 := blk_frozen hz 3
  have f4 := blk_frozen hz 4
  have d2 : (s.toList == [111, 107]) = true := beq_iff_eq.2 c
  clear hz c
  go_enter Tryz.func153, Tryz.ntmps153
  go_wp2
  refine bodyPost_ret (results_tmp rfl _ _ _) rfl ?_
  refine ⟨rfl, ?_, ?_⟩
  · exact blk_below (blk_put (blk_put HZ.out 3 (.int .i64 0) rfl) 4 (.int .i64 0) rfl) ((Below.refl _ _).alloc (Nat.le_refl _) _)
  · exact ((gSet W B 3 _).trans (gSet _ B 4 _)).trans (gAlloc _ _ _)
set_option maxHeartbeats 1000000 in
set_option maxRecDepth 100000 in
theorem result_none_calls (s : ByteArray) (B : Nat) (k a b rk rn : Int) (W : World) (hz : W.heap[B]? = some (.cells (opCells k a b rk rn) 33)) (c : s.toList = [110, 111, 110, 101]) :
    Calls Tryz.prog 153 #[.agg #[.pointer (some ⟨B, 0, none⟩)], .string s] W fun e w' => e = .returned (.int .i64 0) ∧ w'.heap[B]? = some (.cells (opCells k a b 1 0) 33) ∧ W.grownBy w' (some B) := by
  have hlt := blk_lt hz
  have HZ := Aside0.mk hz
  have c0 := (blk_cell hz 0).trans rfl
  have c1 := (blk_cell hz 1).trans rfl
  have c2 := (blk_cell hz 2).trans rfl
  have c3 := (blk_cell hz 3).trans rfl
  have c4 := (blk_cell hz 4).trans rfl
  have f3 := blk_frozen hz 3
  have f4 := blk_frozen hz 4
  have d2 : (s.toList == [110, 111, 110, 101]) = true := beq_iff_eq.2 c
  have d1 : (s.toList == [111, 107]) = false := beq_eq_false_iff_ne.2 (by rw [c]; decide)
  clear hz c
  go_enter Tryz.func153, Tryz.ntmps153
  go_wp2
  refine bodyPost_ret (results_tmp rfl _ _ _) rfl ?_
  refine ⟨rfl, ?_, ?_⟩
  · exact blk_below (blk_put (blk_put HZ.out 3 (.int .i64 1) rfl) 4 (.int .i64 0) rfl) ((Below.refl _ _).alloc (Nat.le_refl _) _)
  · exact ((gSet W B 3 _).trans (gSet _ B 4 _)).trans (gAlloc _ _ _)
set_option maxHeartbeats 1000000 in
set_option maxRecDepth 100000 in
theorem result_num_calls (s : ByteArray) (B : Nat) (k a b rk rn n e0 : Int) (W : World) (hG : GOk W) (hgB : 4 < B) (hz : W.heap[B]? = some (.cells (opCells k a b rk rn) 33)) (h1 : s.toList ≠ [111, 107]) (h2 : s.toList ≠ [110, 111, 110, 101]) (h : wholeF s = some (n, e0)) :
    Calls Tryz.prog 153 #[.agg #[.pointer (some ⟨B, 0, none⟩)], .string s] W fun e w' => e = .returned (.int .i64 (if e0 = 0 then 0 else 9)) ∧ w'.heap[B]? = some (.cells (opCells k a b 2 n) 33) ∧ W.grownBy w' (some B) := by
  have hlt := blk_lt hz
  have HW := Aside0.mk (fun W' hG' hz' => whole_calls s B 4 (opCells k a b 2 rn) rn n e0 W' hG' hz' rfl h)
  have HG := Aside0.mk hG
  have HZ := Aside0.mk hz
  have c3 := (blk_cell hz 3).trans rfl
  have c4 := (blk_cell hz 4).trans rfl
  have f3 := blk_frozen hz 3
  have f4 := blk_frozen hz 4
  have d1 : (s.toList == [111, 107]) = false := beq_eq_false_iff_ne.2 h1
  have d2 : (s.toList == [110, 111, 110, 101]) = false := beq_eq_false_iff_ne.2 h2
  clear hz hG h h1 h2
  have key : ∀ o, ((W.setCell ⟨B, 3, none⟩ (.int .i64 2)).alloc o).heap[B]? = some (.cells (opCells k a b 2 rn) 33) ∧ GOk ((W.setCell ⟨B, 3, none⟩ (.int .i64 2)).alloc o) ∧ W.grownBy ((W.setCell ⟨B, 3, none⟩ (.int .i64 2)).alloc o) (some B) := by
    intro o
    have hb : W.grownBy ((W.setCell ⟨B, 3, none⟩ (.int .i64 2)).alloc o) (some B) := (gSet W B 3 _).trans (gAlloc _ _ _)
    refine ⟨blk_below (blk_put HZ.out 3 (.int .i64 2) rfl) ((Below.refl _ _).alloc (Nat.le_refl _) _), ?_, hb⟩
    obtain ⟨ev, he, h'⟩ := HG.out
    exact ⟨ev, ((gBelow hb hlt).cell (p := ⟨4, 0, none⟩) hgB).trans he, h'⟩
  have KEY := Aside0.mk key
  clear key
  by_cases c : e0 = 0
  · subst c
    rw [if_pos rfl]
    go_enter Tryz.func153, Tryz.ntmps153
    go_wp2_with fail
    refine (HW.out _ (KEY.out _).2.1 (KEY.out _).1).mono ?_
    rintro e w2 ⟨rfl, hz2, hb2⟩
    have HZ2 := Aside0.mk hz2
    have HB2 := Aside0.mk ((KEY.out _).2.2.trans hb2)
    clear hz2 hb2
    go_wp2
    refine bodyPost_ret (results_tmp rfl _ _ _) rfl ?_
    exact ⟨rfl, HZ2.out, HB2.out⟩
  · rw [if_neg c]
    have h1 : (e0 != 0) = true := bne_iff_ne.2 c
    have h2 : (e0 == 0) = false := beq_eq_false_iff_ne.2 c
    clear c
    go_enter Tryz.func153, Tryz.ntmps153
    go_wp2_with fail
    refine (HW.out _ (KEY.out _).2.1 (KEY.out _).1).mono ?_
    rintro e w2 ⟨rfl, hz2, hb2⟩
    have HZ2 := Aside0.mk hz2
    have HB2 := Aside0.mk ((KEY.out _).2.2.trans hb2)
    clear hz2 hb2
    go_wp2
    refine bodyPost_ret (results_tmp rfl _ _ _) rfl ?_
    exact ⟨rfl, HZ2.out, HB2.out⟩
/-- How a word is read: into the first argument, the second one; an arrow; what was returned. -/
inductive StepK where
  | first
  | second
  | arrow
  | result
def StepK.fn : StepK → Nat
  | .first => 150
  | .second => 151
  | .arrow => 152
  | .result => 153
def stepF (st : StepK) (s : ByteArray) (x : Int × Int × Int × Int) : Option ((Int × Int × Int × Int) × Int) := match st with
  | .first => (wholeF s).bind fun r => some ((r.1, x.2.1, x.2.2.1, x.2.2.2), r.2)
  | .second => (wholeF s).bind fun r => some ((x.1, r.1, x.2.2.1, x.2.2.2), r.2)
  | .arrow => some (x, if s.toList = [45, 62] then 0 else 5)
  | .result => if s.toList = [111, 107] then some ((x.1, x.2.1, 0, 0), 0) else if s.toList = [110, 111, 110, 101] then some ((x.1, x.2.1, 1, 0), 0) else (wholeF s).bind fun r => some ((x.1, x.2.1, 2, r.1), if r.2 = 0 then 0 else 9)
theorem step_calls (st : StepK) (s : ByteArray) (B : Nat) (k : Int) (x y : Int × Int × Int × Int) (e0 : Int) (W : World) (hG : GOk W) (hgB : 4 < B) (hz : W.heap[B]? = some (.cells (opCells k x.1 x.2.1 x.2.2.1 x.2.2.2) 33)) (h : stepF st s x = some (y, e0)) :
    Calls Tryz.prog st.fn #[.agg #[.pointer (some ⟨B, 0, none⟩)], .string s] W fun e w' => e = .returned (.int .i64 e0) ∧ w'.heap[B]? = some (.cells (opCells k y.1 y.2.1 y.2.2.1 y.2.2.2) 33) ∧ W.grownBy w' (some B) := by
  cases st with
  | first =>
    obtain ⟨⟨n, e1⟩, hw, h⟩ := Option.bind_eq_some_iff.1 h
    simp only [Option.some.injEq, Prod.mk.injEq] at h
    obtain ⟨rfl, rfl⟩ := h
    exact first_calls s B k _ _ _ _ n e1 W hG hz hw
  | second =>
    obtain ⟨⟨n, e1⟩, hw, h⟩ := Option.bind_eq_some_iff.1 h
    simp only [Option.some.injEq, Prod.mk.injEq] at h
    obtain ⟨rfl, rfl⟩ := h
    exact second_calls s B k _ _ _ _ n e1 W hG hz hw
  | arrow =>
    unfold stepF at h
    simp only [Option.some.injEq, Prod.mk.injEq] at h
    obtain ⟨rfl, rfl⟩ := h
    exact arrow_calls s B k _ _ _ _ W hz
  | result =>
    unfold stepF at h
    simp only at h
    by_cases c1 : s.toList = [111, 107]
    · rw [if_pos c1] at h
      simp only [Option.some.injEq, Prod.mk.injEq] at h
      obtain ⟨rfl, rfl⟩ := h
      exact result_ok_calls s B k _ _ _ _ W hz c1
    · rw [if_neg c1] at h
      by_cases c2 : s.toList = [110, 111, 110, 101]
      · rw [if_pos c2] at h
        simp only [Option.some.injEq, Prod.mk.injEq] at h
        obtain ⟨rfl, rfl⟩ := h
        exact result_none_calls s B k _ _ _ _ W hz c2
      · rw [if_neg c2] at h
        obtain ⟨⟨n, e1⟩, hw, h⟩ := Option.bind_eq_some_iff.1 h
        simp only [Option.some.injEq, Prod.mk.injEq] at h
        obtain ⟨rfl, rfl⟩ := h
        exact result_num_calls s B k _ _ _ _ n e1 W hG hgB hz c1 c2 hw
end Go.Proofs.YtkjnbfjbdlcehaaGreatDoor.P
