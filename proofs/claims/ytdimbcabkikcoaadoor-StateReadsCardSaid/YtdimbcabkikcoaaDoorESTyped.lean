/- state: the five kinds, typed. -/
import Derived.Test.YtdimbcabkikcoaaDoorWMore
import Derived.WalkMore
import Derived.Deep.QuietTactic
import Derived.BigQuiet
import Derived.Laws.EntriesVeiled
import Derived.Test.YtdimbcabkikcoaaDoorProg
namespace Go.Proofs.YtdimbcabkikcoaaDoor.P
open Go.RowKit Go.Proofs.YtdimbcabkikcoaaDoorW.PrintWords Go.Proofs.YtdimbcabkikcoaaDoorW.PrintLast Go.Proofs.YtdimbcabkikcoaaDoorW.PrintMore
set_option linter.unusedVariables false
set_option linter.unusedSimpArgs false
def kindsA : Array Value := #[.string ⟨#[99, 111, 117, 110, 116, 101, 114]⟩, .func (.func 48) #[] #[], .string ⟨#[115, 101, 116]⟩, .func (.func 49) #[] #[], .string ⟨#[109, 97, 112]⟩, .func (.func 50) #[] #[], .string ⟨#[113, 117, 101, 117, 101]⟩, .func (.func 51) #[] #[], .string ⟨#[101, 115, 99, 114, 111, 119]⟩, .func (.func 52) #[] #[]]
set_option maxHeartbeats 1000000 in
set_option maxRecDepth 100000 in
theorem kinds_calls (w : World) :
    Calls Tryd.prog 31 #[] w fun e w' => e = .returned (.agg kindsA) ∧ Below w.heap.size w w' := by
  go_enter Tryd.func31, Tryd.ntmps31
  go_wp2
  refine bodyPost_ret (results_cell_row rfl _ _ w.heap.size 57 kindsA (0, 0) _ rfl (blk_new w _) Tryd.underlying57 rfl (by kernel_rfl)) rfl ?_
  exact ⟨rfl, (Below.refl _ w).alloc (Nat.le_refl _) _⟩
def state_typed.f (n : Int) : Option Bool := some (decide (1 ≤ n) && decide (n ≤ 5))
set_option maxHeartbeats 1000000 in
set_option maxRecDepth 100000 in
theorem state_typed.calls (n : Int) (r : Bool) (w : World) (h : state_typed.f n = some r) :
    Calls Tryd.prog 41 #[.int .i64 n] w fun e w' => e = .returned (.bool r) ∧ Below w.heap.size w w' := by
  obtain rfl := Option.some.inj h
  by_cases c : 1 ≤ n
  · have d1 : decide (1 ≤ n) = true := decide_eq_true c
    have D1 := Aside0.mk d1
    clear h c
    go_enter Tryd.func41, Tryd.ntmps41
    go_wp2_with fail
    refine (kinds_calls w).mono ?_
    rintro e w2 ⟨rfl, hb2⟩
    have HB2 := Aside0.mk hb2
    clear hb2
    go_wp2
    refine bodyPost_ret (results_tmp rfl _ _ _) rfl ?_
    exact ⟨by rw [D1.out]; rfl, HB2.out⟩
  · have d1 : decide (1 ≤ n) = false := decide_eq_false c
    have D1 := Aside0.mk d1
    clear h c
    go_enter Tryd.func41, Tryd.ntmps41
    go_wp2
    refine bodyPost_ret (results_tmp rfl _ _ _) rfl ?_
    exact ⟨by rw [D1.out]; rfl, Below.refl _ _⟩
end Go.Proofs.YtdimbcabkikcoaaDoor.P
