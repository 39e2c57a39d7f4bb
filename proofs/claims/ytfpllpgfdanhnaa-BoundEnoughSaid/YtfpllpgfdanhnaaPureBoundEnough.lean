/- A budget is enough just if the document says so, and of as many transactions, at any three numbers. -/
import Derived.Test.YtfpllpgfdanhnaaM26
import Derived.Test.YtfpllpgfdanhnaaPx2
namespace Go.Proofs.Ytfpllpgfdanhnaa.Pure
open Go.RowKit Go.Proofs.Ytfpllpgfdanhnaa.P Go.Proofs.YtfpllpgfdanhnaaW.PrintWords Go.Proofs.YtfpllpgfdanhnaaW.PrintLast
set_option linter.unusedVariables false
set_option linter.unusedSimpArgs false

theorem BoundEnough : armisticelaw26_BoundEnough.Pure := by
  intro a0 a1 a2 _ _ _
  refine Ev.rounds (g := fun k => armisticelaw26_BoundEnough.f k a0 a1 a2) ?_
  unfold armisticelaw26_BoundEnough.f
  refine Ev.bind (enough_eq a0 a1 a2) ?_
  refine Ev.bind (ref_enough a0 a1 a2) ?_
  simp only [if_true, beq_self_eq_true]
  obtain ⟨m, h1, h2, h3, h4, h5⟩ := most_eq a0 a2
  refine Ev.bind h4 ?_
  refine Ev.bind h5 ?_
  simp only [if_true]
  exact Ev.bind (f := fun _ t => some t) awake_eq (Ev.now _)

end Go.Proofs.Ytfpllpgfdanhnaa.Pure
