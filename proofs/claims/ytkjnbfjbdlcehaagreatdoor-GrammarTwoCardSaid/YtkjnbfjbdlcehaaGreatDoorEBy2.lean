/- operation.by, walked; the kind of a number. -/
import Derived.Test.YtkjnbfjbdlcehaaGreatDoorEBy
namespace Go.Proofs.YtkjnbfjbdlcehaaGreatDoor.P
open Go.RowKit Go.Proofs.YtkjnbfjbdlcehaaGreatDoorW.PrintWords Go.Proofs.YtkjnbfjbdlcehaaGreatDoorW.PrintLast Go.Proofs.YtkjnbfjbdlcehaaGreatDoorW.PrintMore
set_option linter.unusedVariables false
set_option linter.unusedSimpArgs false

set_option maxHeartbeats 2000000 in
set_option maxRecDepth 100000 in
theorem by_calls (N : Int) (w : World) :
    Calls Tryz.prog 60 #[.int .i64 N] w fun e w' => e = .returned (.tuple #[byK N, .int .i64 (byE N)]) ∧ Below w.heap.size w w' := by
  have HF := fun W hB hc => find_by N w.heap.size W hB hc
  unfold byK byE at HF ⊢
  have hb1 : ∀ o o', (((w.alloc o).alloc o').heap[w.heap.size]? = some o) := fun o o' => blk_below (blk_new w o) ((Below.refl _ (w.alloc o)).alloc (by simp) o')
  by_cases h : 1 ≤ N ∧ N ≤ 15
  · simp only [if_pos h] at HF ⊢
    obtain ⟨x, hx⟩ : ∃ x, Aside0 (kinds15[(N - 1).toNat]! = x) := ⟨_, ⟨rfl⟩⟩
    rw [hx.out] at HF ⊢
    have HH := Aside0.mk HF
    clear HF h
    unfold aggK encK at HH ⊢
    go_enter Tryz.func60, Tryz.ntmps60
    go_wp2_with fail
    refine (HH.out _ (by simp; omega) (blk_cell (hb1 _ _) 0)).mono ?_
    rintro e w2 ⟨rfl, hb2⟩
    have hz := blk_below (blk_new2 w _ _) hb2
    have HB2 := Aside0.mk hb2
    have c0 := (blk_cell hz 0).trans rfl
    have c1 := (blk_cell hz 1).trans rfl
    have c2 := (blk_cell hz 2).trans rfl
    have c3 := (blk_cell hz 3).trans rfl
    have c4 := (blk_cell hz 4).trans rfl
    have c5 := (blk_cell hz 5).trans rfl
    have c6 := (blk_cell hz 6).trans rfl
    have c7 := (blk_cell hz 7).trans rfl
    have f0 := blk_frozen hz 0
    have f1 := blk_frozen hz 1
    have f2 := blk_frozen hz 2
    have f3 := blk_frozen hz 3
    have f4 := blk_frozen hz 4
    have f5 := blk_frozen hz 5
    have f6 := blk_frozen hz 6
    have f7 := blk_frozen hz 7
    have HZ2 := Aside0.mk hz
    clear hz hb2
    go_wp2
    have hb8 := blk_put (blk_put (blk_put (blk_put (blk_put (blk_put (blk_put (blk_put HZ2.out 0 (.int .i64 x.n) rfl) 1 (.int .i64 x.typ) rfl) 2 (.string x.word) rfl) 3 (.int .i64 x.args) rfl) 4 (.func (.func x.ret) #[] #[]) rfl) 5 (.func (.func x.arg) #[] #[]) rfl) 6 (.bool x.done) rfl) 7 (.bool x.nothing) rfl
    refine bodyPost_ret (results_ct rfl _ _ (w.heap.size + 1) 101 _ (0, 0) _ rfl hb8 Tryz.underlying101 rfl (by kernel_rfl)) rfl ?_
    refine ⟨rfl, ?_⟩
    have hbb : Below w.heap.size w w2 := (((Below.refl _ w).alloc (Nat.le_refl _) _).alloc (by simp) _).trans (HB2.out.mono (by simp; omega))
    exact (((((((hbb.setCell (p := ⟨w.heap.size + 1, 0, none⟩) (Nat.le_succ _) _).setCell (p := ⟨w.heap.size + 1, 1, none⟩) (Nat.le_succ _) _).setCell (p := ⟨w.heap.size + 1, 2, none⟩) (Nat.le_succ _) _).setCell (p := ⟨w.heap.size + 1, 3, none⟩) (Nat.le_succ _) _).setCell (p := ⟨w.heap.size + 1, 4, none⟩) (Nat.le_succ _) _).setCell (p := ⟨w.heap.size + 1, 5, none⟩) (Nat.le_succ _) _).setCell (p := ⟨w.heap.size + 1, 6, none⟩) (Nat.le_succ _) _).setCell (p := ⟨w.heap.size + 1, 7, none⟩) (Nat.le_succ _) _
  · simp only [if_neg h] at HF ⊢
    have HH := Aside0.mk HF
    clear HF h
    unfold zeroK at HH ⊢
    go_enter Tryz.func60, Tryz.ntmps60
    go_wp2_with fail
    refine (HH.out _ (by simp; omega) (blk_cell (hb1 _ _) 0)).mono ?_
    rintro e w2 ⟨rfl, hb2⟩
    have hz := blk_below (blk_new2 w _ _) hb2
    have HB2 := Aside0.mk hb2
    have c0 := (blk_cell hz 0).trans rfl
    have c1 := (blk_cell hz 1).trans rfl
    have c2 := (blk_cell hz 2).trans rfl
    have c3 := (blk_cell hz 3).trans rfl
    have c4 := (blk_cell hz 4).trans rfl
    have c5 := (blk_cell hz 5).trans rfl
    have c6 := (blk_cell hz 6).trans rfl
    have c7 := (blk_cell hz 7).trans rfl
    have f0 := blk_frozen hz 0
    have f1 := blk_frozen hz 1
    have f2 := blk_frozen hz 2
    have f3 := blk_frozen hz 3
    have f4 := blk_frozen hz 4
    have f5 := blk_frozen hz 5
    have f6 := blk_frozen hz 6
    have f7 := blk_frozen hz 7
    have HZ2 := Aside0.mk hz
    clear hz hb2
    go_wp2
    have hb8 := blk_put (blk_put (blk_put (blk_put (blk_put (blk_put (blk_put (blk_put HZ2.out 0 (.int .i64 0) rfl) 1 (.int .i64 0) rfl) 2 (.string ⟨#[]⟩) rfl) 3 (.int .i64 0) rfl) 4 .nilFunc rfl) 5 .nilFunc rfl) 6 (.bool false) rfl) 7 (.bool false) rfl
    refine bodyPost_ret (results_ct rfl _ _ (w.heap.size + 1) 101 _ (0, 0) _ rfl hb8 Tryz.underlying101 rfl (by kernel_rfl)) rfl ?_
    refine ⟨rfl, ?_⟩
    have hbb : Below w.heap.size w w2 := (((Below.refl _ w).alloc (Nat.le_refl _) _).alloc (by simp) _).trans (HB2.out.mono (by simp; omega))
    exact (((((((hbb.setCell (p := ⟨w.heap.size + 1, 0, none⟩) (Nat.le_succ _) _).setCell (p := ⟨w.heap.size + 1, 1, none⟩) (Nat.le_succ _) _).setCell (p := ⟨w.heap.size + 1, 2, none⟩) (Nat.le_succ _) _).setCell (p := ⟨w.heap.size + 1, 3, none⟩) (Nat.le_succ _) _).setCell (p := ⟨w.heap.size + 1, 4, none⟩) (Nat.le_succ _) _).setCell (p := ⟨w.heap.size + 1, 5, none⟩) (Nat.le_succ _) _).setCell (p := ⟨w.heap.size + 1, 6, none⟩) (Nat.le_succ _) _).setCell (p := ⟨w.heap.size + 1, 7, none⟩) (Nat.le_succ _) _

/-- Which kind a number is. -/
def kdOf (N : Int) : Kd1 := if 1 ≤ N ∧ N ≤ 15 then kinds15[(N - 1).toNat]! else ⟨0, 0, ⟨#[]⟩, 0, 0, 0, false, false⟩
theorem below2 {w w2 : World} {n : Nat} (HB : Below n w w2) (o : Obj) (hs : n ≤ w2.heap.size) : Below n w (w2.alloc o) := HB.alloc hs o
end Go.Proofs.YtkjnbfjbdlcehaaGreatDoor.P
