/- Laid by a program of this session (wip/tools/xprint.py) after the kit's printer: functions of the translation as plain Lean functions, each with the proof that its call comes to just that. -/
import Derived.Test.YtfpllpgfdanhnaaProg
import Derived.Below
import Derived.Deep.Draws
import Derived.Deep.AppendLies
import Derived.Maps.AppendAt
import Derived.OwnWalk
import Derived.Laws.BytesArg
import Derived.Laws.MakeOwn
import Derived.Laws.OwnMore
import Derived.Deep.OwnRows
import Derived.Tactics
import Derived.Lib.ConvBytes
import Derived.Laws.Slices
import Derived.WalkKit
import Derived.KernelRfl
import Derived.RowKit3
import Derived.Deep.LoopGhost
import Derived.Deep.QuietTactic
import Derived.BigQuiet
import Derived.WideLaws
import Derived.Deep.DeepCutAuto
import Derived.Deep.CutBlock
import Derived.Deep.RegionHeld3
import Derived.Laws.Rows
import Derived.Lib.AppendStr
import Derived.ArgAppend
import Derived.Laws.IdiomCopy
import Derived.OrdersHeld
import Derived.Laws.BitsLemmas
import Derived.RowKit
import Derived.Test.YtfpllpgfdanhnaaWWords
import Derived.Test.YtfpllpgfdanhnaaWLast
import Derived.Test.YtfpllpgfdanhnaaWTab
import Derived.Test.YtfpllpgfdanhnaaWFour
import Derived.Test.YtfpllpgfdanhnaaWQPut
import Derived.Test.YtfpllpgfdanhnaaWApart
import Derived.Test.YtfpllpgfdanhnaaWArr
import Derived.Test.YtfpllpgfdanhnaaWZeros
import Derived.Test.YtfpllpgfdanhnaaWFoot
import Derived.Test.YtfpllpgfdanhnaaWKept
import Derived.Test.YtfpllpgfdanhnaaWShare
import Derived.Test.YtfpllpgfdanhnaaWN
import Derived.Test.YtfpllpgfdanhnaaWFootNe
import Derived.Test.YtfpllpgfdanhnaaWAt
import Derived.Test.YtfpllpgfdanhnaaWEqStruct
import Derived.Test.YtfpllpgfdanhnaaWRepsOne
import Derived.Test.YtfpllpgfdanhnaaWInv
import Derived.Test.YtfpllpgfdanhnaaWInvWords
import Derived.Test.YtfpllpgfdanhnaaWGuard
import Derived.Test.YtfpllpgfdanhnaaWNEv
import Derived.Test.YtfpllpgfdanhnaaWMore
namespace Go.Proofs.Ytfpllpgfdanhnaa.P
open Go.RowKit Go.Proofs.YtfpllpgfdanhnaaW.PrintWords Go.Proofs.YtfpllpgfdanhnaaW.PrintLast Go.Proofs.YtfpllpgfdanhnaaW.PrintMore
attribute [local go_sem] max2_int min2_int max_two min_two max_three min_three max_four min_four   -- for this text's walks alone
set_option linter.unusedVariables false
set_option linter.unusedSimpArgs false



def errW : Option Int → Value
  | none => .nilIface
  | some c => .iface 0 (.int .i64 c)
theorem errW_none : errW none = .nilIface := rfl
theorem errW_some (c : Int) : errW (some c) = .iface 0 (.int .i64 c) := rfl

theorem info3 : (Try.prog.info? 3).map (fun i => (i.zero, i.size, i.bytes)) = some (some (.int .i64 0), 1, 8) := by kernel_rfl
-- the values' own types

end Go.Proofs.Ytfpllpgfdanhnaa.P
