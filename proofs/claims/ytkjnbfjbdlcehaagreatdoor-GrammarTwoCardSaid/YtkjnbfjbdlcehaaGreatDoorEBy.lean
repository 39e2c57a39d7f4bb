/- operation.by, Type, Word, Kind: which kind has a number, a word. -/
import Derived.Test.YtkjnbfjbdlcehaaGreatDoorEKinds
import Derived.Test.YtkjnbfjbdlcehaaGreatDoorShelfP
import Derived.Test.YtkjnbfjbdlcehaaGreatDoorEOpIdx
import Derived.RangeFuncCalls
namespace Go.Proofs.YtkjnbfjbdlcehaaGreatDoor.P
open Go.RowKit Go.Proofs.YtkjnbfjbdlcehaaGreatDoorW.PrintWords Go.Proofs.YtkjnbfjbdlcehaaGreatDoorW.PrintLast Go.Proofs.YtkjnbfjbdlcehaaGreatDoorW.PrintMore
set_option linter.unusedVariables false
set_option linter.unusedSimpArgs false

set_option maxHeartbeats 1000000 in
set_option maxRecDepth 100000 in
theorem is_calls (x : Kd1) (N : Int) (w : World) :
    Calls Tryz.prog 97 #[aggK x, .int .i64 N] w fun e w' => e = .returned (.bool (x.n == N)) ∧ Below w.heap.size w w' := by
  unfold aggK encK
  go_enter Tryz.func97, Tryz.ntmps97
  go_wp2
  refine bodyPost_ret (results_tmp rfl _ _ _) rfl ?_
  exact ⟨rfl, (Below.refl _ w).alloc (Nat.le_refl _) _⟩
set_option maxHeartbeats 1000000 in
set_option maxRecDepth 100000 in
theorem by1_calls (x : Kd1) (Bn : Nat) (N : Int) (w0 W : World) (hb : Below w0.heap.size w0 W) (hB : Bn < w0.heap.size) (hc : w0.cell? ⟨Bn, 0, none⟩ = some (.int .i64 N)) :
    Calls Tryz.prog 96 #[aggK x, .pointer (some ⟨Bn, 0, none⟩)] W fun e w' => e = .returned (.bool (x.n == N)) ∧ Below w0.heap.size w0 w' := by
  have hc' : W.cell? ⟨Bn, 0, none⟩ = some (.int .i64 N) := (hb.cell (p := ⟨Bn, 0, none⟩) hB).trans hc
  have HB := Aside0.mk hb
  have hsz := hb.size
  have hBW : Bn < W.heap.size := Nat.lt_of_lt_of_le hB hsz
  clear hb hc
  have HI := fun W' => is_calls x N W'
  unfold aggK encK at HI ⊢
  go_enter Tryz.func96, Tryz.ntmps96
  go_wp2_with fail
  refine (HI _).mono ?_
  rintro e w2 ⟨rfl, hb2⟩
  have HB2 := Aside0.mk ((HB.out.alloc (Nat.le_trans hsz (Nat.le_refl _)) _).trans (hb2.mono (by simp; omega)))
  clear hb2
  go_wp2
  refine bodyPost_ret (results_tmp rfl _ _ _) rfl ?_
  exact ⟨rfl, HB2.out⟩
theorem flat_get (l : List Kd1) : ∀ (j i : Nat), j < l.length → i < 8 → (l.flatMap encK)[0 + j * 8 + i]? = (encK l[j]!)[i]? := by
  induction l with
  | nil => intro j i h; simp at h
  | cons x l ih =>
    intro j i hj hi
    have h8 : (encK x).length = 8 := rfl
    cases j with
    | zero =>
      rw [List.flatMap_cons, List.getElem?_append_left (by omega)]
      simp
    | succ j =>
      rw [List.flatMap_cons, List.getElem?_append_right (by omega)]
      have := ih j i (by simpa using hj) hi
      rw [h8, show 0 + (j + 1) * 8 + i - 8 = 0 + j * 8 + i by omega, this]
      simp
theorem kinds_cells (w1 : World) (g1 : Nat) (hblk : w1.heap[g1]? = some (.cells (kinds15.flatMap encK).toArray 101)) : ∀ j, j < kinds15.length → ∀ i v, (encK kinds15[j]!)[i]? = some v → w1.cell? ⟨g1, 0 + j * 8 + i, none⟩ = some v := by
  intro j hj i v hv
  have hi : i < 8 := (List.getElem?_eq_some_iff.1 hv).1
  rw [blk_cell hblk, List.getElem?_toArray, flat_get kinds15 j i hj hi]
  exact hv
/-- What find tells. -/
def foundK (p : Kd1 → Bool) : Kd1 := (kinds15.find? p).getD ⟨0, 0, ⟨#[]⟩, 0, 0, 0, false, false⟩
set_option maxHeartbeats 2000000 in
set_option maxRecDepth 100000 in
theorem find_some (p : Kd1 → Bool) (g : Nat) (lb : Array Value) (eg : ∀ args w, (callFunc g args).run Tryz.prog w = .ok (.enter g args) w) (w : World) (i : Nat) (hi : i < 15)
    (hidx : Lib.idxBy (fun _ y => p y) (kinds15.take 15) default = (i : Int))
    (hp : ∀ W, Below w.heap.size w W → PredBelow Tryz.prog g lb (fun x => .agg (encK x).toArray) p W) :
    Calls Tryz.prog 95 #[.func (.func g) #[] lb] w fun e w' => e = .returned (.tuple #[aggK (kinds15[i]!), .int .i64 0]) ∧ Below w.heap.size w w' := by
  have HP := Aside0.mk hp
  have HX := Aside0.mk hidx
  have HE := Aside0.mk eg
  clear hp hidx eg
  go_enter Tryz.func95, Tryz.ntmps95
  go_wp2_with fail
  refine (kinds_calls _).mono ?_
  rintro e w1 ⟨g1, rfl, hg1, hblk, hb1⟩
  have HZ := Aside0.mk (blk_below (blk_new w _) hb1)
  have HB1 := Aside0.mk hb1
  have HK := Aside0.mk hblk
  have HG := Aside0.mk hg1
  clear hb1 hblk hg1
  go_wp2_with fail
  refine (AnyQ.slices_IndexFunc Tryz.laysIdx 8 (fun w => Tryz.isAgg101 w) (fun w => Tryz.sizeOf101 w) encK (fun _ => rfl) p g lb HE.out g1 0 15 15 kinds15 w1 (HP.out w1 ?below) (by decide) (by omega) (blk_lt HK.out) (kinds_cells w1 g1 HK.out)).mono ?_
  case below => exact ((Below.refl _ w).alloc (Nat.le_refl _) _).trans (HB1.out.mono (by simp))
  rintro e w2 ⟨rfl, hb2⟩
  rw [HX.out]
  have HK2 := Aside0.mk (blk_below HK.out hb2)
  have HB2 := Aside0.mk hb2
  clear hb2
  have hlt : decide ((i : Int) < 0) = false := decide_eq_false (by omega)
  have hKx : ∀ k v, (encK kinds15[i]!)[k]? = some v → w2.cell? ⟨g1, 0 + i * 8 + k, none⟩ = some v := fun k v h => kinds_cells w2 g1 HK2.out i (by simpa [kinds15] using hi) k v h
  obtain ⟨x, hx⟩ : ∃ x, Aside0 (kinds15[i]! = x) := ⟨_, ⟨rfl⟩⟩
  rw [hx.out] at hKx
  have h0 := hKx 0 _ rfl
  have h1 := hKx 1 _ rfl
  have h2 := hKx 2 _ rfl
  have h3 := hKx 3 _ rfl
  have h4 := hKx 4 _ rfl
  have h5 := hKx 5 _ rfl
  have h6 := hKx 6 _ rfl
  have h7 := hKx 7 _ rfl
  clear hKx
  simp only [Nat.zero_add, Nat.add_zero] at h0 h1 h2 h3 h4 h5 h6 h7
  have hz := blk_below HZ.out HB2.out
  have c0 := (blk_cell hz 0).trans rfl
  have c1 := (blk_cell hz 1).trans rfl
  have c2 := (blk_cell hz 2).trans rfl
  have c3 := (blk_cell hz 3).trans rfl
  have c4 := (blk_cell hz 4).trans rfl
  have c5 := (blk_cell hz 5).trans rfl
  have c6 := (blk_cell hz 6).trans rfl
  have c7 := (blk_cell hz 7).trans rfl
  have f0 := blk_frozen hz 0
  have f1 := blk_frozen hz 1
  have f2 := blk_frozen hz 2
  have f3 := blk_frozen hz 3
  have f4 := blk_frozen hz 4
  have f5 := blk_frozen hz 5
  have f6 := blk_frozen hz 6
  have f7 := blk_frozen hz 7
  have HZ2 := Aside0.mk hz
  clear hz
  go_wp2
  have hb8 := blk_put (blk_put (blk_put (blk_put (blk_put (blk_put (blk_put (blk_put HZ2.out 0 (.int .i64 x.n) rfl) 1 (.int .i64 x.typ) rfl) 2 (.string x.word) rfl) 3 (.int .i64 x.args) rfl) 4 (.func (.func x.ret) #[] #[]) rfl) 5 (.func (.func x.arg) #[] #[]) rfl) 6 (.bool x.done) rfl) 7 (.bool x.nothing) rfl
  refine bodyPost_ret (results_ct rfl _ _ w.heap.size 101 _ (0, 0) _ rfl hb8 Tryz.underlying101 rfl (by kernel_rfl)) rfl ?_
  rw [hx.out]
  refine ⟨rfl, ?_⟩
  have hbb : Below w.heap.size w w2 := (((Below.refl _ w).alloc (Nat.le_refl _) _).trans (HB1.out.mono (by simp))).trans (HB2.out.mono (by have := HB1.out.size; simp at this; omega))
  exact (((((((hbb.setCell (p := ⟨w.heap.size, 0, none⟩) (Nat.le_refl _) _).setCell (p := ⟨w.heap.size, 1, none⟩) (Nat.le_refl _) _).setCell (p := ⟨w.heap.size, 2, none⟩) (Nat.le_refl _) _).setCell (p := ⟨w.heap.size, 3, none⟩) (Nat.le_refl _) _).setCell (p := ⟨w.heap.size, 4, none⟩) (Nat.le_refl _) _).setCell (p := ⟨w.heap.size, 5, none⟩) (Nat.le_refl _) _).setCell (p := ⟨w.heap.size, 6, none⟩) (Nat.le_refl _) _).setCell (p := ⟨w.heap.size, 7, none⟩) (Nat.le_refl _) _
def zeroK : Value := .agg #[.int .i64 0, .int .i64 0, .string ⟨#[]⟩, .int .i64 0, .nilFunc, .nilFunc, .bool false, .bool false]
set_option maxHeartbeats 2000000 in
set_option maxRecDepth 100000 in
theorem find_none (p : Kd1 → Bool) (g : Nat) (lb : Array Value) (eg : ∀ args w, (callFunc g args).run Tryz.prog w = .ok (.enter g args) w) (w : World)
    (hidx : Lib.idxBy (fun _ y => p y) (kinds15.take 15) default = -1)
    (hp : ∀ W, Below w.heap.size w W → PredBelow Tryz.prog g lb (fun x => .agg (encK x).toArray) p W) :
    Calls Tryz.prog 95 #[.func (.func g) #[] lb] w fun e w' => e = .returned (.tuple #[zeroK, .int .i64 6]) ∧ Below w.heap.size w w' := by
  have HP := Aside0.mk hp
  have HX := Aside0.mk hidx
  have HE := Aside0.mk eg
  clear hp hidx eg
  go_enter Tryz.func95, Tryz.ntmps95
  go_wp2_with fail
  refine (kinds_calls _).mono ?_
  rintro e w1 ⟨g1, rfl, hg1, hblk, hb1⟩
  have HZ := Aside0.mk (blk_below (blk_new w _) hb1)
  have HB1 := Aside0.mk hb1
  have HK := Aside0.mk hblk
  have HG := Aside0.mk hg1
  clear hb1 hblk hg1
  go_wp2_with fail
  refine (AnyQ.slices_IndexFunc Tryz.laysIdx 8 (fun w => Tryz.isAgg101 w) (fun w => Tryz.sizeOf101 w) encK (fun _ => rfl) p g lb HE.out g1 0 15 15 kinds15 w1 (HP.out w1 ?below) (by decide) (by omega) (blk_lt HK.out) (kinds_cells w1 g1 HK.out)).mono ?_
  case below => exact ((Below.refl _ w).alloc (Nat.le_refl _) _).trans (HB1.out.mono (by simp))
  rintro e w2 ⟨rfl, hb2⟩
  rw [HX.out]
  have HB2 := Aside0.mk hb2
  clear hb2
  have hz := blk_below HZ.out HB2.out
  have c0 := (blk_cell hz 0).trans rfl
  have c1 := (blk_cell hz 1).trans rfl
  have c2 := (blk_cell hz 2).trans rfl
  have c3 := (blk_cell hz 3).trans rfl
  have c4 := (blk_cell hz 4).trans rfl
  have c5 := (blk_cell hz 5).trans rfl
  have c6 := (blk_cell hz 6).trans rfl
  have c7 := (blk_cell hz 7).trans rfl
  have f0 := blk_frozen hz 0
  have f1 := blk_frozen hz 1
  have f2 := blk_frozen hz 2
  have f3 := blk_frozen hz 3
  have f4 := blk_frozen hz 4
  have f5 := blk_frozen hz 5
  have f6 := blk_frozen hz 6
  have f7 := blk_frozen hz 7
  have HZ2 := Aside0.mk hz
  clear hz
  go_wp2
  have hb8 := blk_put (blk_put (blk_put (blk_put (blk_put (blk_put (blk_put (blk_put HZ2.out 0 (.int .i64 0) rfl) 1 (.int .i64 0) rfl) 2 (.string ⟨#[]⟩) rfl) 3 (.int .i64 0) rfl) 4 .nilFunc rfl) 5 .nilFunc rfl) 6 (.bool false) rfl) 7 (.bool false) rfl
  refine bodyPost_ret (results_ct rfl _ _ w.heap.size 101 _ (0, 0) _ rfl hb8 Tryz.underlying101 rfl (by kernel_rfl)) rfl ?_
  refine ⟨rfl, ?_⟩
  have hbb : Below w.heap.size w w2 := (((Below.refl _ w).alloc (Nat.le_refl _) _).trans (HB1.out.mono (by simp))).trans (HB2.out.mono (by have := HB1.out.size; simp at this; omega))
  exact (((((((hbb.setCell (p := ⟨w.heap.size, 0, none⟩) (Nat.le_refl _) _).setCell (p := ⟨w.heap.size, 1, none⟩) (Nat.le_refl _) _).setCell (p := ⟨w.heap.size, 2, none⟩) (Nat.le_refl _) _).setCell (p := ⟨w.heap.size, 3, none⟩) (Nat.le_refl _) _).setCell (p := ⟨w.heap.size, 4, none⟩) (Nat.le_refl _) _).setCell (p := ⟨w.heap.size, 5, none⟩) (Nat.le_refl _) _).setCell (p := ⟨w.heap.size, 6, none⟩) (Nat.le_refl _) _).setCell (p := ⟨w.heap.size, 7, none⟩) (Nat.le_refl _) _
theorem idx_num (N : Int) : (∃ i : Nat, i < 15 ∧ N = (i : Int) + 1 ∧ Lib.idxBy (fun _ y => y.n == N) (kinds15.take 15) default = (i : Int)) ∨ ((N < 1 ∨ 15 < N) ∧ Lib.idxBy (fun _ y => y.n == N) (kinds15.take 15) default = -1) := by
  by_cases h : 1 ≤ N ∧ N ≤ 15
  · obtain ⟨i, rfl⟩ : ∃ i : Nat, N = (i : Int) + 1 := ⟨(N - 1).toNat, by omega⟩
    have hi : i < 15 := by omega
    refine .inl ⟨i, hi, rfl, ?_⟩
    have : i = 0 ∨ i = 1 ∨ i = 2 ∨ i = 3 ∨ i = 4 ∨ i = 5 ∨ i = 6 ∨ i = 7 ∨ i = 8 ∨ i = 9 ∨ i = 10 ∨ i = 11 ∨ i = 12 ∨ i = 13 ∨ i = 14 := by omega
    rcases this with rfl | rfl | rfl | rfl | rfl | rfl | rfl | rfl | rfl | rfl | rfl | rfl | rfl | rfl | rfl <;> rfl
  · refine .inr ⟨by omega, ?_⟩
    have hne : ∀ x ∈ kinds15, (x.n == N) = false := by
      intro x hx
      simp only [kinds15, List.mem_cons, List.not_mem_nil, or_false] at hx
      rcases hx with rfl | rfl | rfl | rfl | rfl | rfl | rfl | rfl | rfl | rfl | rfl | rfl | rfl | rfl | rfl <;> (refine beq_eq_false_iff_ne.2 ?_; dsimp only; omega)
    have hgen : ∀ (l : List Kd1) (k : Nat), (∀ x ∈ l, (x.n == N) = false) → Lib.idxByFrom (fun _ y => y.n == N) default l k = -1 := by
      intro l
      induction l with
      | nil => intro k _; rfl
      | cons y l ih =>
        intro k h'
        unfold Lib.idxByFrom
        rw [if_neg (by simp [h' y List.mem_cons_self])]
        exact ih (k + 1) (fun x hx => h' x (List.mem_cons_of_mem _ hx))
    exact hgen _ 0 (fun x hx => hne x (List.mem_of_mem_take hx))
/-- What by tells. -/
def byK (N : Int) : Value := if 1 ≤ N ∧ N ≤ 15 then aggK (kinds15[(N - 1).toNat]!) else zeroK
def byE (N : Int) : Int := if 1 ≤ N ∧ N ≤ 15 then 0 else 6
theorem find_by (N : Int) (Bn : Nat) (w : World) (hB : Bn < w.heap.size) (hc : w.cell? ⟨Bn, 0, none⟩ = some (.int .i64 N)) :
    Calls Tryz.prog 95 #[.func (.func 96) #[] #[.pointer (some ⟨Bn, 0, none⟩)]] w fun e w' => e = .returned (.tuple #[byK N, .int .i64 (byE N)]) ∧ Below w.heap.size w w' := by
  have hp : ∀ W, Below w.heap.size w W → PredBelow Tryz.prog 96 #[.pointer (some ⟨Bn, 0, none⟩)] (fun x => .agg (encK x).toArray) (fun y => y.n == N) W := fun W hb W' x hb' =>
    by1_calls x Bn N W W' hb' (Nat.lt_of_lt_of_le hB hb.size) ((hb.cell (p := ⟨Bn, 0, none⟩) hB).trans hc)
  rcases idx_num N with ⟨i, hi, rfl, hx⟩ | ⟨hn, hx⟩
  · have h := find_some (fun y => y.n == (i : Int) + 1) 96 _ (enters_of Tryz.func96 (by kernel_rfl) rfl) w i hi hx hp
    unfold byK byE
    rw [if_pos (by omega), if_pos (by omega), show ((i : Int) + 1 - 1).toNat = i by omega]
    exact h
  · have h := find_none (fun y => y.n == N) 96 _ (enters_of Tryz.func96 (by kernel_rfl) rfl) w hx hp
    unfold byK byE
    rw [if_neg (by omega), if_neg (by omega)]
    exact h
end Go.Proofs.YtkjnbfjbdlcehaaGreatDoor.P
