/- operation.Kind: which kind a word is. -/
import Derived.Test.YtkjnbfjbdlcehaaGreatDoorEBy2
namespace Go.Proofs.YtkjnbfjbdlcehaaGreatDoor.P
open Go.RowKit Go.Proofs.YtkjnbfjbdlcehaaGreatDoorW.PrintWords Go.Proofs.YtkjnbfjbdlcehaaGreatDoorW.PrintLast Go.Proofs.YtkjnbfjbdlcehaaGreatDoorW.PrintMore
set_option linter.unusedVariables false
set_option linter.unusedSimpArgs false

theorem bl_eq (a b : ByteArray) : (a.toList == b.toList) = decide (a = b) := by
  rw [Bool.eq_iff_iff, beq_iff_eq, decide_eq_true_iff]
  constructor
  · intro h
    rw [ByteArray.toList_eq, ByteArray.toList_eq] at h
    cases a
    cases b
    exact congrArg ByteArray.mk (Array.toList_inj.1 h)
  · rintro rfl
    rfl
set_option maxHeartbeats 1000000 in
set_option maxRecDepth 100000 in
theorem word1_calls (x : Kd1) (Bn : Nat) (s : ByteArray) (w0 W : World) (hb : Below w0.heap.size w0 W) (hB : Bn < w0.heap.size) (hc : w0.cell? ⟨Bn, 0, none⟩ = some (.string s)) :
    Calls Tryz.prog 162 #[aggK x, .pointer (some ⟨Bn, 0, none⟩)] W fun e w' => e = .returned (.bool (decide (x.word = s))) ∧ Below w0.heap.size w0 w' := by
  have hc' : W.cell? ⟨Bn, 0, none⟩ = some (.string s) := (hb.cell (p := ⟨Bn, 0, none⟩) hB).trans hc
  have HB := Aside0.mk hb
  have hsz := hb.size
  have hBW : Bn < W.heap.size := Nat.lt_of_lt_of_le hB hsz
  clear hb hc
  unfold aggK encK
  go_enter Tryz.func162, Tryz.ntmps162
  go_wp2
  refine bodyPost_ret (results_tmp rfl _ _ _) rfl ?_
  refine ⟨?_, HB.out.alloc hsz _⟩
  exact congrArg (fun b => Ending.returned (Value.bool b)) (bl_eq x.word s)
/-- Where a word's kind stands. -/
def kindIdx (s : ByteArray) : Int := Lib.idxBy (fun _ y => decide (y.word = s)) (kinds15.take 15) default
theorem kindIdx_cases (s : ByteArray) : (∃ i : Nat, i < 15 ∧ kindIdx s = (i : Int)) ∨ kindIdx s = -1 := by
  have hgen : ∀ (l : List Kd1) (k : Nat), Lib.idxByFrom (fun _ y => decide (y.word = s)) default l k = -1 ∨ ∃ i : Nat, i < k + l.length ∧ Lib.idxByFrom (fun _ y => decide (y.word = s)) default l k = (i : Int) := by
    intro l
    induction l with
    | nil => intro k; exact .inl rfl
    | cons y l ih =>
      intro k
      unfold Lib.idxByFrom
      split
      · exact .inr ⟨k, by simp, rfl⟩
      · rcases ih (k + 1) with h | ⟨i, hi, h⟩
        · exact .inl h
        · exact .inr ⟨i, by simp only [List.length_cons]; omega, h⟩
  rcases hgen (kinds15.take 15) 0 with h | ⟨i, hi, h⟩
  · exact .inr h
  · exact .inl ⟨i, by simpa [kinds15] using hi, h⟩
def operation_Kind.f (s : ByteArray) : Option (Int × Int) := some (kindIdx s + 1, if kindIdx s = -1 then 6 else 0)
theorem kinds_n : ∀ i : Nat, i < 15 → (kinds15[i]!).n = (i : Int) + 1 := by
  intro i hi
  have : i = 0 ∨ i = 1 ∨ i = 2 ∨ i = 3 ∨ i = 4 ∨ i = 5 ∨ i = 6 ∨ i = 7 ∨ i = 8 ∨ i = 9 ∨ i = 10 ∨ i = 11 ∨ i = 12 ∨ i = 13 ∨ i = 14 := by omega
  rcases this with rfl | rfl | rfl | rfl | rfl | rfl | rfl | rfl | rfl | rfl | rfl | rfl | rfl | rfl | rfl <;> rfl
set_option maxHeartbeats 2000000 in
set_option maxRecDepth 100000 in
theorem operation_Kind.calls (s : ByteArray) (r1 r2 : Int) (w : World) (h : operation_Kind.f s = some (r1, r2)) :
    Calls Tryz.prog 149 #[.string s] w fun e w' => e = .returned (.tuple #[.int .i64 r1, .int .i64 r2]) ∧ Below w.heap.size w w' := by
  unfold operation_Kind.f at h
  simp only [Option.some.injEq, Prod.mk.injEq] at h
  obtain ⟨rfl, rfl⟩ := h
  have hp : ∀ o : Obj, ((w.alloc o).cell? ⟨w.heap.size, 0, none⟩ = some (.string s)) → ∀ W, Below (w.alloc o).heap.size (w.alloc o) W → PredBelow Tryz.prog 162 #[.pointer (some ⟨w.heap.size, 0, none⟩)] (fun x => .agg (encK x).toArray) (fun y => decide (y.word = s)) W := fun o hc W hb W' x hb' =>
    word1_calls x w.heap.size s W W' hb' (Nat.lt_of_lt_of_le (by simp) hb.size) ((hb.cell (p := ⟨w.heap.size, 0, none⟩) (by simp)).trans hc)
  rcases kindIdx_cases s with ⟨i, hi, hx⟩ | hx
  · rw [hx, if_neg (by omega)]
    have HF := Aside0.mk (fun o hc => find_some (fun y => decide (y.word = s)) 162 _ (enters_of Tryz.func162 (by kernel_rfl) rfl) (w.alloc o) i hi hx (hp o hc))
    obtain ⟨x, hx'⟩ : ∃ x, Aside0 (kinds15[i]! = x) := ⟨_, ⟨rfl⟩⟩
    have hn := kinds_n i hi
    rw [hx'.out] at HF hn
    rw [← hn]
    clear hp hx hn
    unfold aggK encK at HF
    go_enter Tryz.func149, Tryz.ntmps149
    go_wp2_with fail
    refine (HF.out _ (blk_cell (blk_new w _) 0)).mono ?_
    rintro e w2 ⟨rfl, hb2⟩
    have HB2 := Aside0.mk (((Below.refl _ w).alloc (Nat.le_refl _) _).trans (hb2.mono (by simp)))
    clear hb2
    go_wp2
    refine bodyPost_ret (results_tmp2 rfl _ _ _) rfl ?_
    exact ⟨rfl, HB2.out.alloc HB2.out.size _⟩
  · rw [hx, if_pos rfl]
    have HF := Aside0.mk (fun o hc => find_none (fun y => decide (y.word = s)) 162 _ (enters_of Tryz.func162 (by kernel_rfl) rfl) (w.alloc o) hx (hp o hc))
    clear hp hx
    unfold zeroK at HF
    go_enter Tryz.func149, Tryz.ntmps149
    go_wp2_with fail
    refine (HF.out _ (blk_cell (blk_new w _) 0)).mono ?_
    rintro e w2 ⟨rfl, hb2⟩
    have HB2 := Aside0.mk (((Below.refl _ w).alloc (Nat.le_refl _) _).trans (hb2.mono (by simp)))
    clear hb2
    go_wp2
    refine bodyPost_ret (results_tmp2 rfl _ _ _) rfl ?_
    exact ⟨rfl, HB2.out.alloc HB2.out.size _⟩
end Go.Proofs.YtkjnbfjbdlcehaaGreatDoor.P
