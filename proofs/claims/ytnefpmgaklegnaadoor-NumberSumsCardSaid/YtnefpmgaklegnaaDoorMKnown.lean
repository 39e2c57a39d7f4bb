/- What the closed parts of this layer's laws come to. -/
import Derived.Test.YtnefpmgaklegnaaDoorPx5
namespace Go.Proofs.YtnefpmgaklegnaaDoor.P
theorem awake_true : armisticelaw01_awake.f = some true := by kernel_rfl
end Go.Proofs.YtnefpmgaklegnaaDoor.P
