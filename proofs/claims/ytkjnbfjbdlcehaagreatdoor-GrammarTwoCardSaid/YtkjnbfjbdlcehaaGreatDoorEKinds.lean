/- operation.kinds: the fifteen kinds, in a row of their own. -/
import Derived.Test.YtkjnbfjbdlcehaaGreatDoorKW
import Derived.WalkMore
import Derived.Laws.EntriesVeiled
import Derived.Deep.QuietTactic
import Derived.BigQuiet
import Derived.StillTailTactics
import Derived.Test.YtkjnbfjbdlcehaaGreatDoorProg
namespace Go.Proofs.YtkjnbfjbdlcehaaGreatDoor.P
open Go.RowKit Go.Proofs.YtkjnbfjbdlcehaaGreatDoorW.PrintWords Go.Proofs.YtkjnbfjbdlcehaaGreatDoorW.PrintLast Go.Proofs.YtkjnbfjbdlcehaaGreatDoorW.PrintMore
set_option linter.unusedVariables false
set_option linter.unusedSimpArgs false

theorem blk_new2 (w : World) (o o' : Obj) : ((w.alloc o).alloc o').heap[w.heap.size + 1]? = some o' := by
  have := blk_new (w.alloc o) o'
  rwa [World.size_alloc] at this
/-- A kind: its number, type, word, how many arguments; which functions tell its returns, its argument; whether it is just done, whether it may find nothing. -/
structure Kd1 where
  n : Int
  typ : Int
  word : ByteArray
  args : Int
  ret : Nat
  arg : Nat
  done : Bool
  nothing : Bool
instance : Inhabited Kd1 := ⟨⟨0, 0, ⟨#[]⟩, 0, 0, 0, false, false⟩⟩
def encK (x : Kd1) : List Value := [.int .i64 x.n, .int .i64 x.typ, .string x.word, .int .i64 x.args, .func (.func x.ret) #[] #[], .func (.func x.arg) #[] #[], .bool x.done, .bool x.nothing]
def aggK (x : Kd1) : Value := .agg (encK x).toArray

set_option maxHeartbeats 1000000 in
set_option maxRecDepth 100000 in
theorem plain_calls (n typ : Int) (word : ByteArray) (args : Int) (ret : Nat) (w : World) :
    Calls Tryz.prog 129 #[.int .i64 n, .int .i64 typ, .string word, .int .i64 args, .func (.func ret) #[] #[]] w fun e w' => e = .returned (aggK ⟨n, typ, word, args, ret, 130, false, false⟩) ∧ Below w.heap.size w w' := by
  have hu48 := Tryz.underlying101
  go_enter Tryz.func129, Tryz.ntmps129
  go_wp2
  refine bodyPost_ret (results_cell_row rfl _ _ w.heap.size 101 _ (0, 0) _ rfl (blk_new w _) hu48 rfl (by kernel_rfl)) rfl ?_
  exact ⟨rfl, (Below.refl _ w).alloc (Nat.le_refl _) _⟩
set_option maxHeartbeats 1000000 in
set_option maxRecDepth 100000 in
theorem just_calls (x : Kd1) (w : World) :
    Calls Tryz.prog 132 #[aggK x] w fun e w' => e = .returned (aggK { x with done := true }) ∧ Below w.heap.size w w' := by
  have hu48 := Tryz.underlying101
  unfold aggK encK
  go_enter Tryz.func132, Tryz.ntmps132
  go_wp2
  refine bodyPost_ret (results_cell_row rfl _ _ (w.heap.size + 1) 101 _ (0, 0) _ rfl (blk_new2 w _ _) hu48 rfl (by kernel_rfl)) rfl ?_
  exact ⟨rfl, ((Below.refl _ w).alloc (Nat.le_refl _) _).alloc (by simp) _⟩
set_option maxHeartbeats 1000000 in
set_option maxRecDepth 100000 in
theorem maybe_calls (x : Kd1) (w : World) :
    Calls Tryz.prog 135 #[aggK x] w fun e w' => e = .returned (aggK { x with nothing := true }) ∧ Below w.heap.size w w' := by
  have hu48 := Tryz.underlying101
  unfold aggK encK
  go_enter Tryz.func135, Tryz.ntmps135
  go_wp2
  refine bodyPost_ret (results_cell_row rfl _ _ (w.heap.size + 1) 101 _ (0, 0) _ rfl (blk_new2 w _ _) hu48 rfl (by kernel_rfl)) rfl ?_
  exact ⟨rfl, ((Below.refl _ w).alloc (Nat.le_refl _) _).alloc (by simp) _⟩
set_option maxHeartbeats 1000000 in
set_option maxRecDepth 100000 in
theorem of_calls (x : Kd1) (fn : Nat) (w : World) :
    Calls Tryz.prog 136 #[aggK x, .func (.func fn) #[] #[]] w fun e w' => e = .returned (aggK { x with arg := fn }) ∧ Below w.heap.size w w' := by
  have hu48 := Tryz.underlying101
  unfold aggK encK
  go_enter Tryz.func136, Tryz.ntmps136
  go_wp2
  refine bodyPost_ret (results_cell_row rfl _ _ (w.heap.size + 1) 101 _ (0, 0) _ rfl (blk_new2 w _ _) hu48 rfl (by kernel_rfl)) rfl ?_
  exact ⟨rfl, ((Below.refl _ w).alloc (Nat.le_refl _) _).alloc (by simp) _⟩
/-- The kinds. -/
def kinds15 : List Kd1 := [
  ⟨1, 1, ⟨#[97, 100, 100]⟩, 1, 131, 130, true, false⟩,
  ⟨2, 1, ⟨#[114, 101, 97, 100]⟩, 0, 130, 130, false, false⟩,
  ⟨3, 2, ⟨#[105, 110, 115, 101, 114, 116]⟩, 1, 133, 130, false, false⟩,
  ⟨4, 2, ⟨#[114, 101, 109, 111, 118, 101]⟩, 1, 133, 130, false, false⟩,
  ⟨5, 2, ⟨#[104, 97, 115]⟩, 1, 133, 130, false, false⟩,
  ⟨6, 2, ⟨#[115, 105, 122, 101]⟩, 0, 134, 130, false, false⟩,
  ⟨7, 3, ⟨#[112, 117, 116]⟩, 2, 130, 130, false, true⟩,
  ⟨8, 3, ⟨#[103, 101, 116]⟩, 1, 130, 130, false, true⟩,
  ⟨9, 3, ⟨#[100, 101, 108]⟩, 1, 130, 130, false, true⟩,
  ⟨10, 4, ⟨#[101, 110, 113]⟩, 1, 131, 130, true, false⟩,
  ⟨11, 4, ⟨#[100, 101, 113]⟩, 0, 130, 130, false, true⟩,
  ⟨12, 4, ⟨#[108, 101, 110]⟩, 0, 134, 130, false, false⟩,
  ⟨13, 5, ⟨#[100, 101, 112, 111, 115, 105, 116]⟩, 1, 133, 137, false, false⟩,
  ⟨14, 5, ⟨#[119, 105, 116, 104, 100, 114, 97, 119]⟩, 1, 133, 137, false, false⟩,
  ⟨15, 5, ⟨#[98, 97, 108, 97, 110, 99, 101]⟩, 0, 137, 130, false, false⟩]

def parts15 : Array (Nat × Value) := ((List.range 15).zip (kinds15.map aggK)).toArray
set_option maxRecDepth 100000 in
theorem built (W : World) : (Instr.buildSlice 164 15 parts15).run Tryz.prog W = .ok (.slice (some ⟨W.heap.size, 0, none⟩) 15 15) (W.alloc (.cells (kinds15.flatMap encK).toArray 101)) := by
  kernel_rfl
set_option maxHeartbeats 4000000 in
set_option maxRecDepth 100000 in
theorem kinds_calls (w : World) :
    Calls Tryz.prog 114 #[] w fun e w' => ∃ g, e = .returned (.slice (some ⟨g, 0, none⟩) 15 15) ∧ w.heap.size ≤ g ∧ w'.heap[g]? = some (.cells (kinds15.flatMap encK).toArray 101) ∧ Below w.heap.size w w' := by
  have HB := Aside0.mk (Below.refl w.heap.size w)
  go_enter Tryz.func114, Tryz.ntmps114
  go_wp2_with fail
  refine (plain_calls _ _ _ _ _ _).mono ?_
  rintro e w1 ⟨rfl, hb1⟩
  have HB' := Aside0.mk (HB.out.trans (hb1.mono HB.out.size))
  clear hb1 HB
  have HB := HB'
  clear HB'
  go_wp2_with fail
  refine (just_calls _ _).mono ?_
  rintro e w2 ⟨rfl, hb1⟩
  have HB' := Aside0.mk (HB.out.trans (hb1.mono HB.out.size))
  clear hb1 HB
  have HB := HB'
  clear HB'
  go_wp2_with fail
  refine (plain_calls _ _ _ _ _ _).mono ?_
  rintro e w3 ⟨rfl, hb1⟩
  have HB' := Aside0.mk (HB.out.trans (hb1.mono HB.out.size))
  clear hb1 HB
  have HB := HB'
  clear HB'
  go_wp2_with fail
  refine (plain_calls _ _ _ _ _ _).mono ?_
  rintro e w4 ⟨rfl, hb1⟩
  have HB' := Aside0.mk (HB.out.trans (hb1.mono HB.out.size))
  clear hb1 HB
  have HB := HB'
  clear HB'
  go_wp2_with fail
  refine (plain_calls _ _ _ _ _ _).mono ?_
  rintro e w5 ⟨rfl, hb1⟩
  have HB' := Aside0.mk (HB.out.trans (hb1.mono HB.out.size))
  clear hb1 HB
  have HB := HB'
  clear HB'
  go_wp2_with fail
  refine (plain_calls _ _ _ _ _ _).mono ?_
  rintro e w6 ⟨rfl, hb1⟩
  have HB' := Aside0.mk (HB.out.trans (hb1.mono HB.out.size))
  clear hb1 HB
  have HB := HB'
  clear HB'
  go_wp2_with fail
  refine (plain_calls _ _ _ _ _ _).mono ?_
  rintro e w7 ⟨rfl, hb1⟩
  have HB' := Aside0.mk (HB.out.trans (hb1.mono HB.out.size))
  clear hb1 HB
  have HB := HB'
  clear HB'
  go_wp2_with fail
  refine (plain_calls _ _ _ _ _ _).mono ?_
  rintro e w8 ⟨rfl, hb1⟩
  have HB' := Aside0.mk (HB.out.trans (hb1.mono HB.out.size))
  clear hb1 HB
  have HB := HB'
  clear HB'
  go_wp2_with fail
  refine (maybe_calls _ _).mono ?_
  rintro e w9 ⟨rfl, hb1⟩
  have HB' := Aside0.mk (HB.out.trans (hb1.mono HB.out.size))
  clear hb1 HB
  have HB := HB'
  clear HB'
  go_wp2_with fail
  refine (plain_calls _ _ _ _ _ _).mono ?_
  rintro e w10 ⟨rfl, hb1⟩
  have HB' := Aside0.mk (HB.out.trans (hb1.mono HB.out.size))
  clear hb1 HB
  have HB := HB'
  clear HB'
  go_wp2_with fail
  refine (maybe_calls _ _).mono ?_
  rintro e w11 ⟨rfl, hb1⟩
  have HB' := Aside0.mk (HB.out.trans (hb1.mono HB.out.size))
  clear hb1 HB
  have HB := HB'
  clear HB'
  go_wp2_with fail
  refine (plain_calls _ _ _ _ _ _).mono ?_
  rintro e w12 ⟨rfl, hb1⟩
  have HB' := Aside0.mk (HB.out.trans (hb1.mono HB.out.size))
  clear hb1 HB
  have HB := HB'
  clear HB'
  go_wp2_with fail
  refine (maybe_calls _ _).mono ?_
  rintro e w13 ⟨rfl, hb1⟩
  have HB' := Aside0.mk (HB.out.trans (hb1.mono HB.out.size))
  clear hb1 HB
  have HB := HB'
  clear HB'
  go_wp2_with fail
  refine (plain_calls _ _ _ _ _ _).mono ?_
  rintro e w14 ⟨rfl, hb1⟩
  have HB' := Aside0.mk (HB.out.trans (hb1.mono HB.out.size))
  clear hb1 HB
  have HB := HB'
  clear HB'
  go_wp2_with fail
  refine (just_calls _ _).mono ?_
  rintro e w15 ⟨rfl, hb1⟩
  have HB' := Aside0.mk (HB.out.trans (hb1.mono HB.out.size))
  clear hb1 HB
  have HB := HB'
  clear HB'
  go_wp2_with fail
  refine (plain_calls _ _ _ _ _ _).mono ?_
  rintro e w16 ⟨rfl, hb1⟩
  have HB' := Aside0.mk (HB.out.trans (hb1.mono HB.out.size))
  clear hb1 HB
  have HB := HB'
  clear HB'
  go_wp2_with fail
  refine (maybe_calls _ _).mono ?_
  rintro e w17 ⟨rfl, hb1⟩
  have HB' := Aside0.mk (HB.out.trans (hb1.mono HB.out.size))
  clear hb1 HB
  have HB := HB'
  clear HB'
  go_wp2_with fail
  refine (plain_calls _ _ _ _ _ _).mono ?_
  rintro e w18 ⟨rfl, hb1⟩
  have HB' := Aside0.mk (HB.out.trans (hb1.mono HB.out.size))
  clear hb1 HB
  have HB := HB'
  clear HB'
  go_wp2_with fail
  refine (plain_calls _ _ _ _ _ _).mono ?_
  rintro e w19 ⟨rfl, hb1⟩
  have HB' := Aside0.mk (HB.out.trans (hb1.mono HB.out.size))
  clear hb1 HB
  have HB := HB'
  clear HB'
  go_wp2_with fail
  refine (of_calls _ _ _).mono ?_
  rintro e w20 ⟨rfl, hb1⟩
  have HB' := Aside0.mk (HB.out.trans (hb1.mono HB.out.size))
  clear hb1 HB
  have HB := HB'
  clear HB'
  go_wp2_with fail
  refine (plain_calls _ _ _ _ _ _).mono ?_
  rintro e w21 ⟨rfl, hb1⟩
  have HB' := Aside0.mk (HB.out.trans (hb1.mono HB.out.size))
  clear hb1 HB
  have HB := HB'
  clear HB'
  go_wp2_with fail
  refine (of_calls _ _ _).mono ?_
  rintro e w22 ⟨rfl, hb1⟩
  have HB' := Aside0.mk (HB.out.trans (hb1.mono HB.out.size))
  clear hb1 HB
  have HB := HB'
  clear HB'
  go_wp2_with fail
  refine (plain_calls _ _ _ _ _ _).mono ?_
  rintro e w23 ⟨rfl, hb1⟩
  have HB' := Aside0.mk (HB.out.trans (hb1.mono HB.out.size))
  clear hb1 HB
  have HB := HB'
  clear HB'
  show (_ : Act → World → Prop) _ _
  rename_i hK
  refine hK _ _ ?_
  clear hK
  refine Kd.event_run rfl (v := .slice (some ⟨w23.heap.size, 0, none⟩) 15 15) (w1 := w23.alloc (.cells (kinds15.flatMap encK).toArray 101)) ?hr ?_
  case hr => kernel_rfl
  have HN := Aside0.mk (blk_new w23 (.cells (kinds15.flatMap encK).toArray 101))
  generalize hWW : w23.alloc (.cells (kinds15.flatMap encK).toArray 101) = WW at HN
  have HB2 := Aside0.mk (show Below w.heap.size w WW from hWW ▸ HB.out.alloc HB.out.size _)
  have HS := Aside0.mk HB.out.size
  clear hWW HB
  go_wp2
  refine bodyPost_ret (results_tmp rfl _ _ _) rfl ?_
  exact ⟨_, rfl, HS.out, HN.out, HB2.out⟩
end Go.Proofs.YtkjnbfjbdlcehaaGreatDoor.P
