/- GrammarKnown: the chapter's examples are answered as it says. -/
import Derived.Test.YtkjnbfjbdlcehaaGreatDoorPx4
namespace Go.Proofs.YtkjnbfjbdlcehaaGreatDoor.Pure
open Go.RowKit Go.Proofs.YtkjnbfjbdlcehaaGreatDoor.P Go.Proofs.YtkjnbfjbdlcehaaGreatDoorW.PrintWords Go.Proofs.YtkjnbfjbdlcehaaGreatDoorW.PrintLast
theorem GrammarKnown : armisticelaw12_GrammarKnown.Pure := ⟨40, by kernel_rfl⟩
end Go.Proofs.YtkjnbfjbdlcehaaGreatDoor.Pure
