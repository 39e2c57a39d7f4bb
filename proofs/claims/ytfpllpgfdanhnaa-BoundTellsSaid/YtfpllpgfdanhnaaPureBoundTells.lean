/- The layer's products, tries and bounds are those of the document, or too great, at any two numbers. -/
import Derived.Test.YtfpllpgfdanhnaaM26
import Derived.Test.YtfpllpgfdanhnaaPx2
namespace Go.Proofs.Ytfpllpgfdanhnaa.Pure
open Go.RowKit Go.Proofs.Ytfpllpgfdanhnaa.P Go.Proofs.YtfpllpgfdanhnaaW.PrintWords Go.Proofs.YtfpllpgfdanhnaaW.PrintLast
set_option linter.unusedVariables false
set_option linter.unusedSimpArgs false

theorem BoundTells : armisticelaw26_BoundTells.Pure := by
  intro a0 a1 _ _
  refine Ev.rounds (g := fun k => armisticelaw26_BoundTells.f k a0 a1) ?_
  unfold armisticelaw26_BoundTells.f
  rw [show bound_Fact.f a0 = some (factS a0) from rfl, show bound_Tries.f a0 = some (triesS a0) from rfl]
  simp only [Option.bind_some]
  refine Ev.bind (ref_fact a0) ?_
  refine Ev.bind (ref_tries a0) ?_
  refine Ev.bind (of_eq a0 a1) ?_
  refine Ev.bind (ref_of a0 a1) ?_
  simp only [if_true, beq_self_eq_true]
  exact Ev.bind (f := fun _ t => some t) awake_eq (Ev.now _)

end Go.Proofs.Ytfpllpgfdanhnaa.Pure
