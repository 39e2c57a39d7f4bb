/- Laid by a program of this session (wip/tools/xprint.py) after the kit's printer: functions of the translation as plain Lean functions, each with the proof that its call comes to just that. -/
import Derived.Test.YtfnonbbakkcoaaaProg
import Derived.Below
import Derived.Deep.Draws
import Derived.Deep.AppendLies
import Derived.Maps.AppendAt
import Derived.OwnWalk
import Derived.Laws.BytesArg
import Derived.Laws.MakeOwn
import Derived.Laws.OwnMore
import Derived.Deep.OwnRows
import Derived.Tactics
import Derived.Lib.ConvBytes
import Derived.Laws.Slices
import Derived.WalkKit
import Derived.KernelRfl
import Derived.RowKit3
import Derived.Deep.LoopGhost
import Derived.Deep.QuietTactic
import Derived.BigQuiet
import Derived.WideLaws
import Derived.Deep.DeepCutAuto
import Derived.Deep.CutBlock
import Derived.Deep.RegionHeld3
import Derived.Laws.Rows
import Derived.Lib.AppendStr
import Derived.ArgAppend
import Derived.Laws.IdiomCopy
import Derived.OrdersHeld
import Derived.Laws.BitsLemmas
import Derived.RowKit
import Derived.Test.YtfnonbbakkcoaaaWWords
import Derived.Test.YtfnonbbakkcoaaaWLast
import Derived.Test.YtfnonbbakkcoaaaWTab
import Derived.Test.YtfnonbbakkcoaaaWFour
import Derived.Test.YtfnonbbakkcoaaaWQPut
import Derived.Test.YtfnonbbakkcoaaaWApart
import Derived.Test.YtfnonbbakkcoaaaWArr
import Derived.Test.YtfnonbbakkcoaaaWZeros
import Derived.Test.YtfnonbbakkcoaaaWFoot
import Derived.Test.YtfnonbbakkcoaaaWKept
import Derived.Test.YtfnonbbakkcoaaaWShare
import Derived.Test.YtfnonbbakkcoaaaWN
import Derived.Test.YtfnonbbakkcoaaaWFootNe
import Derived.Test.YtfnonbbakkcoaaaWAt
import Derived.Test.YtfnonbbakkcoaaaWEqStruct
import Derived.Test.YtfnonbbakkcoaaaWRepsOne
import Derived.Test.YtfnonbbakkcoaaaWInv
import Derived.Test.YtfnonbbakkcoaaaWInvWords
import Derived.Test.YtfnonbbakkcoaaaWGuard
import Derived.Test.YtfnonbbakkcoaaaWNEv
import Derived.Test.YtfnonbbakkcoaaaWMore
namespace Go.Proofs.Ytfnonbbakkcoaaa.P
open Go.RowKit Go.Proofs.YtfnonbbakkcoaaaW.PrintWords Go.Proofs.YtfnonbbakkcoaaaW.PrintLast Go.Proofs.YtfnonbbakkcoaaaW.PrintMore
attribute [local go_sem] max2_int min2_int max_two min_two max_three min_three max_four min_four   -- for this text's walks alone
set_option linter.unusedVariables false
set_option linter.unusedSimpArgs false



def errW : Option Int → Value
  | none => .nilIface
  | some c => .iface 0 (.int .i64 c)
theorem errW_none : errW none = .nilIface := rfl
theorem errW_some (c : Int) : errW (some c) = .iface 0 (.int .i64 c) := rfl

theorem info3 : (Try.prog.info? 3).map (fun i => (i.zero, i.size, i.bytes)) = some (some (.int .i64 0), 1, 8) := by kernel_rfl
-- the values' own types

end Go.Proofs.Ytfnonbbakkcoaaa.P
