import Derived.Test.YtnefpmgaklegnaaDoorMRef
import Derived.Test.YtnefpmgaklegnaaDoorMPut
import Derived.Test.YtnefpmgaklegnaaDoorMKnown
namespace Go.Proofs.YtnefpmgaklegnaaDoor.Pure
open Go.RowKit Go.Proofs.YtnefpmgaklegnaaDoor.P Go.Proofs.YtnefpmgaklegnaaDoorW.PrintWords Go.Proofs.YtnefpmgaklegnaaDoorW.PrintLast

theorem NumberTexts : armisticelaw01_NumberTexts.Pure := by
  intro a0 a1 w0 w1
  refine ⟨24, ?_⟩
  unfold armisticelaw01_NumberTexts.f
  by_cases c : (a1.size : Int) > 60
  · rw [if_pos c, awake_true]
    rfl
  · rw [if_neg c]
    obtain ⟨r, h1, h2⟩ := refGet_eq a1 22 rfl
    obtain ⟨t, h3, h4⟩ := refPut_eq a0 (isI64_of_wf w0) 23 (by omega)
    have h1' : armisticeref01_Get.f 24 a1 = some r := h1
    have h3' : armisticeref01_Put.f 24 a0 = some t := h3
    rw [h1', h2, h3', h4]
    simp only [Option.bind_some]
    rw [if_pos True.intro, if_pos True.intro, if_pos (by simp), awake_true]
    rfl

end Go.Proofs.YtnefpmgaklegnaaDoor.Pure
