/- state: the five kinds, typed. -/
import Derived.Test.YtkjnbfjbdlcehaaGreatDoorKW
import Derived.WalkMore
import Derived.Deep.QuietTactic
import Derived.BigQuiet
import Derived.Laws.EntriesVeiled
import Derived.Test.YtkjnbfjbdlcehaaGreatDoorProg
namespace Go.Proofs.YtkjnbfjbdlcehaaGreatDoor.P
open Go.RowKit Go.Proofs.YtkjnbfjbdlcehaaGreatDoorW.PrintWords Go.Proofs.YtkjnbfjbdlcehaaGreatDoorW.PrintLast Go.Proofs.YtkjnbfjbdlcehaaGreatDoorW.PrintMore
set_option linter.unusedVariables false
set_option linter.unusedSimpArgs false
def kindsA : Array Value := #[.string ⟨#[99, 111, 117, 110, 116, 101, 114]⟩, .func (.func 88) #[] #[], .string ⟨#[115, 101, 116]⟩, .func (.func 89) #[] #[], .string ⟨#[109, 97, 112]⟩, .func (.func 90) #[] #[], .string ⟨#[113, 117, 101, 117, 101]⟩, .func (.func 91) #[] #[], .string ⟨#[101, 115, 99, 114, 111, 119]⟩, .func (.func 92) #[] #[]]
set_option maxHeartbeats 1000000 in
set_option maxRecDepth 100000 in
theorem kinds5_calls (w : World) :
    Calls Tryz.prog 58 #[] w fun e w' => e = .returned (.agg kindsA) ∧ Below w.heap.size w w' := by
  go_enter Tryz.func58, Tryz.ntmps58
  go_wp2
  refine bodyPost_ret (results_cell_row rfl _ _ w.heap.size 98 kindsA (0, 0) _ rfl (blk_new w _) Tryz.underlying98 rfl (by kernel_rfl)) rfl ?_
  exact ⟨rfl, (Below.refl _ w).alloc (Nat.le_refl _) _⟩
def state_typed.f (n : Int) : Option Bool := some (decide (1 ≤ n) && decide (n ≤ 5))
set_option maxHeartbeats 1000000 in
set_option maxRecDepth 100000 in
theorem state_typed.calls (n : Int) (r : Bool) (w : World) (h : state_typed.f n = some r) :
    Calls Tryz.prog 69 #[.int .i64 n] w fun e w' => e = .returned (.bool r) ∧ Below w.heap.size w w' := by
  obtain rfl := Option.some.inj h
  by_cases c : 1 ≤ n
  · have d1 : decide (1 ≤ n) = true := decide_eq_true c
    have D1 := Aside0.mk d1
    clear h c
    go_enter Tryz.func69, Tryz.ntmps69
    go_wp2_with fail
    refine (kinds5_calls w).mono ?_
    rintro e w2 ⟨rfl, hb2⟩
    have HB2 := Aside0.mk hb2
    clear hb2
    go_wp2
    refine bodyPost_ret (results_tmp rfl _ _ _) rfl ?_
    exact ⟨by rw [D1.out]; rfl, HB2.out⟩
  · have d1 : decide (1 ≤ n) = false := decide_eq_false c
    have D1 := Aside0.mk d1
    clear h c
    go_enter Tryz.func69, Tryz.ntmps69
    go_wp2
    refine bodyPost_ret (results_tmp rfl _ _ _) rfl ?_
    exact ⟨by rw [D1.out]; rfl, Below.refl _ _⟩
end Go.Proofs.YtkjnbfjbdlcehaaGreatDoor.P
