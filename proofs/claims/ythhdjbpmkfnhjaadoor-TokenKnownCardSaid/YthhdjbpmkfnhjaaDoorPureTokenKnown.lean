/- The chapter's examples are answered as it says: a closed statement, reckoned out by the kernel. No condition. -/
import Derived.Test.YthhdjbpmkfnhjaaDoorPx5
namespace Go.Proofs.YthhdjbpmkfnhjaaDoor.Pure
open Go.RowKit Go.Proofs.YthhdjbpmkfnhjaaDoor.P Go.Proofs.YthhdjbpmkfnhjaaDoorW.PrintWords Go.Proofs.YthhdjbpmkfnhjaaDoorW.PrintLast

theorem TokenKnown : armisticelaw02_TokenKnown.Pure := by
  unfold armisticelaw02_TokenKnown.Pure
  kernel_rfl

end Go.Proofs.YthhdjbpmkfnhjaaDoor.Pure
