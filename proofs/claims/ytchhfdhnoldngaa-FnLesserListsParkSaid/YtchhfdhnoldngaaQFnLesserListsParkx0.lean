/- Proved here: each Go function named below, when called, returns what the Lean function of its name computes, wherever that function answers. Text written by this session's program over the kit's print; law FnLesserListsPark. -/
import Derived.Test.YtchhfdhnoldngaaProg
import Derived.Below
import Derived.Deep.Draws
import Derived.Deep.AppendLies
import Derived.Maps.AppendAt
import Derived.OwnWalk
import Derived.Laws.BytesArg
import Derived.Laws.MakeOwn
import Derived.Laws.OwnMore
import Derived.Deep.OwnRows
import Derived.Tactics
import Derived.Lib.ConvBytes
import Derived.Laws.Slices
import Derived.WalkKit
import Derived.KernelRfl
import Derived.RowKit3
import Derived.Deep.LoopGhost
import Derived.Deep.QuietTactic
import Derived.BigQuiet
import Derived.WideLaws
import Derived.Deep.DeepCutAuto
import Derived.Deep.CutBlock
import Derived.Deep.RegionHeld3
import Derived.Laws.Rows
import Derived.Lib.AppendStr
import Derived.ArgAppend
import Derived.Laws.IdiomCopy
import Derived.OrdersHeld
import Derived.Laws.BitsLemmas
import Derived.RowKit
import Derived.Lib.Hide
import Derived.OneCell
import Derived.Lib.SliceRun
import Derived.Test.YtchhfdhnoldngaaWWords
import Derived.Test.YtchhfdhnoldngaaWLast
import Derived.Test.YtchhfdhnoldngaaWTab
import Derived.Test.YtchhfdhnoldngaaWFour
import Derived.Test.YtchhfdhnoldngaaWQPut
import Derived.Test.YtchhfdhnoldngaaWApart
import Derived.Test.YtchhfdhnoldngaaWArr
import Derived.Test.YtchhfdhnoldngaaWZeros
import Derived.Test.YtchhfdhnoldngaaWFoot
import Derived.Test.YtchhfdhnoldngaaWKept
import Derived.Test.YtchhfdhnoldngaaWShare
import Derived.Test.YtchhfdhnoldngaaWN
import Derived.Test.YtchhfdhnoldngaaWFootNe
import Derived.Test.YtchhfdhnoldngaaWAt
import Derived.Test.YtchhfdhnoldngaaWEqStruct
import Derived.Test.YtchhfdhnoldngaaWRepsOne
import Derived.Test.YtchhfdhnoldngaaWInv
import Derived.Test.YtchhfdhnoldngaaWInvWords
import Derived.Test.YtchhfdhnoldngaaWGuard
import Derived.Test.YtchhfdhnoldngaaWNEv
import Derived.Test.YtchhfdhnoldngaaWMore
namespace Go.Proofs.Ytchhfdhnoldngaa.QFnLesserListsPark
open Go.RowKit Go.Proofs.YtchhfdhnoldngaaW.PrintWords Go.Proofs.YtchhfdhnoldngaaW.PrintLast Go.Proofs.YtchhfdhnoldngaaW.PrintMore
attribute [local go_sem] max2_int min2_int max_two min_two max_three min_three max_four min_four   -- for this text's walks alone
set_option linter.unusedVariables false
set_option linter.unusedSimpArgs false



def errW : Option Int → Value
  | none => .nilIface
  | some c => .iface 0 (.int .i64 c)
theorem errW_none : errW none = .nilIface := rfl
theorem errW_some (c : Int) : errW (some c) = .iface 0 (.int .i64 c) := rfl

theorem info3 : (Try.prog.info? 3).map (fun i => (i.zero, i.size, i.bytes)) = some (some (.int .i64 0), 1, 8) := by kernel_rfl
theorem info4 : (Try.prog.info? 4).map (fun i => (i.zero, i.size, i.bytes)) = some (some (.bool false), 1, 1) := by kernel_rfl
-- the values' own types

end Go.Proofs.Ytchhfdhnoldngaa.QFnLesserListsPark
