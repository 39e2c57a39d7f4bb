import Derived.Test.YtoenklncjbcgiaaDoorPx3
namespace Go.Proofs.YtoenklncjbcgiaaDoor.Pure
open Go.RowKit Go.Proofs.YtoenklncjbcgiaaDoor.P Go.Proofs.YtoenklncjbcgiaaDoorW.PrintWords Go.Proofs.YtoenklncjbcgiaaDoorW.PrintLast

theorem OperationKnown : armisticelaw04_OperationKnown.Pure := ⟨30, by kernel_rfl⟩

end Go.Proofs.YtoenklncjbcgiaaDoor.Pure
