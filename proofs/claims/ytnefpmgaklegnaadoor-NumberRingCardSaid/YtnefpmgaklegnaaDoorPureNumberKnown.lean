import Derived.Test.YtnefpmgaklegnaaDoorPx6
namespace Go.Proofs.YtnefpmgaklegnaaDoor.Pure
open Go.RowKit Go.Proofs.YtnefpmgaklegnaaDoor.P Go.Proofs.YtnefpmgaklegnaaDoorW.PrintWords Go.Proofs.YtnefpmgaklegnaaDoorW.PrintLast

theorem NumberKnown : armisticelaw01_NumberKnown.Pure := ⟨10, by kernel_rfl⟩

end Go.Proofs.YtnefpmgaklegnaaDoor.Pure
