/- state.Read's words: the row of kinds, the split text, which kind a word is. -/
import Derived.Test.YtdimbcabkikcoaaDoorESCheck
import Derived.Test.YtdimbcabkikcoaaDoorKH
import Derived.Test.YtdimbcabkikcoaaDoorEGet
import Derived.Test.YtdimbcabkikcoaaDoorShelfP
import Derived.Shelf.SlicesQ.IndexFunc
import Derived.RangeFuncCalls
namespace Go.Proofs
def Tryd.laysIdx_ren : Go.Shelf.Ren := ⟨fun | 6 => 32 | n => n, fun | 22 => 60 | 23 => 56 | 25 => 61 | 3 => 3 | 0 => 0 | 4 => 4 | n => n, fun | n => n⟩
theorem Tryd.laysIdx : Go.Proofs.SlLaysH0.n6 Tryd.prog Tryd.laysIdx_ren := {
  mixed := by kernel_rfl
  f6 := ⟨Tryd.f32.name, by decide, Tryd.func32.trans (congrArg some (by kernel_rfl))⟩
  t0 := Tryd.underlying0
  a0 := Tryd.isAgg0
  z0 := Tryd.sizeOf0
  v0 := Tryd.zeroValue0
  t3 := Tryd.underlying3
  a3 := Tryd.isAgg3
  z3 := Tryd.sizeOf3
  v3 := Tryd.zeroValue3
  t4 := Tryd.underlying4
  a4 := Tryd.isAgg4
  z4 := Tryd.sizeOf4
  v4 := Tryd.zeroValue4
  t22 := Tryd.underlying60
  a22 := Tryd.isAgg60
  z22 := Tryd.sizeOf60
  v22 := Tryd.zeroValue60
  t25 := Tryd.underlying61
  a25 := Tryd.isAgg61
  z25 := Tryd.sizeOf61
  v25 := Tryd.zeroValue61 }
end Go.Proofs
namespace Go.Proofs.YtdimbcabkikcoaaDoor.P
open Go.RowKit Go.Proofs.YtdimbcabkikcoaaDoorW.PrintWords Go.Proofs.YtdimbcabkikcoaaDoorW.PrintLast Go.Proofs.YtdimbcabkikcoaaDoorW.PrintMore
set_option linter.unusedVariables false
set_option linter.unusedSimpArgs false
theorem infoStr : (Tryd.prog.info? 9).map (fun i => (i.zero, i.size, i.bytes)) = some (some (.string ⟨#[]⟩), 1, 16) := by kernel_rfl
theorem infoInt : (Tryd.prog.info? 3).map (fun i => (i.zero, i.size, i.bytes)) = some (some (.int .i64 0), 1, 8) := by kernel_rfl
/-- A kind's word, and which function asks. -/
structure KD where
  word : ByteArray
  fn : Nat
instance : Inhabited KD := ⟨⟨⟨#[]⟩, 0⟩⟩
def encD (x : KD) : List Value := [.string x.word, .func (.func x.fn) #[] #[]]
def kinds5 : List KD := [⟨⟨#[99, 111, 117, 110, 116, 101, 114]⟩, 48⟩, ⟨⟨#[115, 101, 116]⟩, 49⟩, ⟨⟨#[109, 97, 112]⟩, 50⟩, ⟨⟨#[113, 117, 101, 117, 101]⟩, 51⟩, ⟨⟨#[101, 115, 99, 114, 111, 119]⟩, 52⟩]
theorem kinds5_A : kindsA = (kinds5.flatMap encD).toArray := rfl
theorem kinds5_cells (w1 : World) (g1 : Nat) (hblk : w1.heap[g1]? = some (.cells kindsA 57)) : ∀ j, j < kinds5.length → ∀ i v, (encD kinds5[j]!)[i]? = some v → w1.cell? ⟨g1, 0 + j * 2 + i, none⟩ = some v := by
  intro j hj i v hv
  have hi : i < 2 := (List.getElem?_eq_some_iff.1 hv).1
  rw [blk_cell hblk]
  have hj5 : j = 0 ∨ j = 1 ∨ j = 2 ∨ j = 3 ∨ j = 4 := by simp [kinds5] at hj; omega
  have hi2 : i = 0 ∨ i = 1 := by omega
  rcases hj5 with rfl | rfl | rfl | rfl | rfl <;> rcases hi2 with rfl | rfl <;> exact hv
/-- Where a word's kind stands. -/
def wIdx (s : ByteArray) : Int := Lib.idxBy (fun _ y => decide (y.word = s)) (kinds5.take 5) default
theorem bl_eq (a b : ByteArray) : (a.toList == b.toList) = decide (a = b) := by
  rw [Bool.eq_iff_iff, beq_iff_eq, decide_eq_true_iff]
  constructor
  · intro h
    rw [ByteArray.toList_eq, ByteArray.toList_eq] at h
    cases a
    cases b
    exact congrArg ByteArray.mk (Array.toList_inj.1 h)
  · rintro rfl
    rfl
set_option maxHeartbeats 1000000 in
set_option maxRecDepth 100000 in
theorem rd1_calls (x : KD) (Bp Bs N : Nat) (p0 : ByteArray) (w0 W : World) (hb : Below w0.heap.size w0 W) (hB : Bp < w0.heap.size) (hBs : Bs < w0.heap.size) (hc : w0.cell? ⟨Bp, 0, none⟩ = some (.slice (some ⟨Bs, 0, none⟩) N N)) (hs : w0.cell? ⟨Bs, 0, none⟩ = some (.string p0)) (hN : 0 < N) :
    Calls Tryd.prog 33 #[.agg (encD x).toArray, .pointer (some ⟨Bp, 0, none⟩)] W fun e w' => e = .returned (.bool (decide (x.word = p0))) ∧ Below w0.heap.size w0 w' := by
  have hc' : W.cell? ⟨Bp, 0, none⟩ = some (.slice (some ⟨Bs, 0, none⟩) N N) := (hb.cell (p := ⟨Bp, 0, none⟩) hB).trans hc
  have hs' : W.cell? ⟨Bs, 0, none⟩ = some (.string p0) := (hb.cell (p := ⟨Bs, 0, none⟩) hBs).trans hs
  have HB := Aside0.mk hb
  have hsz := hb.size
  have hBW : Bp < W.heap.size := Nat.lt_of_lt_of_le hB hsz
  have hBW2 : Bs < W.heap.size := Nat.lt_of_lt_of_le hBs hsz
  have p1 : (0 : Int) < (N : Int) := by omega
  have p2 := eq_true p1
  clear hb hc hs hB hBs
  unfold encD
  go_enter Tryd.func33, Tryd.ntmps33
  go_wp2
  go_quiet (fail)
  go_wp2
  refine bodyPost_ret (results_tmp rfl _ _ _) rfl ?_
  refine ⟨?_, ?_⟩
  · exact congrArg (fun b => Ending.returned (Value.bool b)) (bl_eq x.word p0)
  · first | exact HB.out.alloc hsz _ | exact pw_below_drewN (HB.out.alloc hsz _) _
def spl (s : ByteArray) : List ByteArray := Lib.splitB ⟨#[32]⟩ 0 (Lib.countB s ⟨#[32]⟩) s
theorem split_calls (s : ByteArray) (w : World) (hs : s.size < 4294967281) :
    Calls Tryd.prog 30 #[.string s, .string ⟨#[32]⟩] w fun e w' => e = .returned (.slice (some ⟨w.heap.size, 0, none⟩) (spl s).length (spl s).length) ∧ w' = w.alloc (.cells ((spl s).map Value.string).toArray 9) := by
  have h1 : 1 ≤ (⟨#[32]⟩ : ByteArray).size := by decide
  have hle := Lib.countB_le ⟨#[32]⟩ h1 s.size s (Nat.le_refl _)
  have hlen := Lib.splitB_all ⟨#[32]⟩ h1 0 _ s rfl
  have c := Any.strings_genSplit_core (P := Tryd.prog) (ρ := Tryd.lays146_ren) { Tryd.lays146 with } (by kernel_rfl) s ⟨#[32]⟩ 0 (-1) (Lib.countB s ⟨#[32]⟩ + 1) w hs h1 (Nat.zero_le _)
    (fun x c hx => (Any.strings_Index_one { Tryd.lays146 with } x 32 _).mono fun e w' ⟨he, hw⟩ => ⟨by
      rw [he]
      show _ = Ending.returned (Value.int .i64 (Lib.index x.data.toList [32]))
      rw [Lib.index_one], hw⟩)
    ((Any.strings_Count_one { Tryd.lays146 with } s 32 w).mono fun e w' ⟨he, hw⟩ => ⟨by
      rw [he]
      show _ = Ending.returned (Value.int .i64 ((Lib.count s.data.toList [32] : Nat) : Int))
      rw [Lib.count_one]
      rfl, hw⟩)
    (by decide) (by decide) (by rw [if_pos (by decide)]; omega)
  rw [Nat.add_sub_cancel, hlen] at c
  have e2 : Lib.cellsOf (spl s) (Lib.countB s ⟨#[32]⟩ + 1) = ((spl s).map Value.string).toArray := by
    unfold spl
    rw [← hlen]
    exact Lib.cellsOf_full _
  have c' := Aside0.mk c
  clear c
  go_enter Tryd.func30, Tryd.ntmps30
  go_wp2_with fail
  refine c'.out.mono ?_
  rintro e w' ⟨rfl, hw⟩
  rw [hw]
  go_wp2
  refine bodyPost_ret (results_tmp rfl _ _ _) rfl ?_
  refine ⟨?_, ?_⟩
  · unfold spl
    rw [hlen]
    rfl
  · rw [← e2]
    rfl
end Go.Proofs.YtdimbcabkikcoaaDoor.P
