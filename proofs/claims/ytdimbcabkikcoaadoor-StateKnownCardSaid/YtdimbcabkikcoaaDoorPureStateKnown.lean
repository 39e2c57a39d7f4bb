/- StateKnown: the chapter's examples are answered as it says. -/
import Derived.Test.YtdimbcabkikcoaaDoorPx7
namespace Go.Proofs.YtdimbcabkikcoaaDoor.Pure
open Go.RowKit Go.Proofs.YtdimbcabkikcoaaDoor.P Go.Proofs.YtdimbcabkikcoaaDoorW.PrintWords Go.Proofs.YtdimbcabkikcoaaDoorW.PrintLast
theorem known_at : armisticelaw05_StateKnown.f 40 = some true := by kernel_rfl
theorem StateKnown : armisticelaw05_StateKnown.Pure := ⟨40, known_at⟩
end Go.Proofs.YtdimbcabkikcoaaDoor.Pure
