/- The chapter's examples are answered as it says. -/
import Derived.Test.YtfpllpgfdanhnaaM26
import Derived.Test.YtfpllpgfdanhnaaPx3
namespace Go.Proofs.Ytfpllpgfdanhnaa.Pure
open Go.RowKit Go.Proofs.Ytfpllpgfdanhnaa.P Go.Proofs.YtfpllpgfdanhnaaW.PrintWords Go.Proofs.YtfpllpgfdanhnaaW.PrintLast
set_option linter.unusedVariables false
set_option linter.unusedSimpArgs false

theorem BoundKnown : armisticelaw26_BoundKnown.Pure := ⟨40, by kernel_rfl⟩

end Go.Proofs.Ytfpllpgfdanhnaa.Pure
