import Derived.Test.YtnefpmgaklegnaaDoorMSums
import Derived.Test.YtnefpmgaklegnaaDoorMKnown
namespace Go.Proofs.YtnefpmgaklegnaaDoor.Pure
open Go.RowKit Go.Proofs.YtnefpmgaklegnaaDoor.P Go.Proofs.YtnefpmgaklegnaaDoorW.PrintWords Go.Proofs.YtnefpmgaklegnaaDoorW.PrintLast

theorem NumberSums : armisticelaw01_NumberSums.Pure := by
  intro a0 a1 l2 w0 w1 _ _ w2
  refine ⟨102, ?_⟩
  unfold armisticelaw01_NumberSums.f
  by_cases c : (l2.length : Int) > 100
  · rw [if_pos c, awake_true]
    rfl
  · rw [if_neg c]
    have h0 := isI64_of_wf w0
    have h1 := isI64_of_wf w1
    have h2 : ∀ x ∈ l2, isI64 x := fun x hx => isI64_of_wf (w2 x hx)
    have hlen : l2.length ≤ 100 := by omega
    obtain ⟨r, e1, e2⟩ := refAll_eq l2 h2 hlen 102 (by omega)
    have e3 : armisticeref01_Wrap.f a0 a1 = number_Wrap.f a0 a1 := rfl
    have e4 : armisticekit_SameInts.f 102 l2 l2 = some true := by
      unfold armisticekit_SameInts.f
      rw [if_pos rfl]
      exact same_l0 l2 (by omega) 102 0 (by omega) (by omega)
    rw [copy_f l2 (by omega), Option.bind_some, sum_f a0 a1 h0 h1, refSum_eq a0 a1 h0 h1, e1, e2, e3, wrap_f]
    simp only [Option.bind_some]
    rw [e4]
    simp only [Option.bind_some, if_true]
    rw [awake_true]
    rfl

end Go.Proofs.YtnefpmgaklegnaaDoor.Pure
