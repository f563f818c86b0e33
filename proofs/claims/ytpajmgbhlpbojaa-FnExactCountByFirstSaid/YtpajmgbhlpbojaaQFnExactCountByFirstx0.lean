/- Proved here: each Go function named below, when called, returns what the Lean function of its name computes, wherever that function answers. Text written by this session's program over the kit's print; law FnExactCountByFirst. -/
import Derived.Test.YtpajmgbhlpbojaaProg
import Derived.Below
import Derived.Deep.Draws
import Derived.Deep.AppendLies
import Derived.Maps.AppendAt
import Derived.OwnWalk
import Derived.Laws.BytesArg
import Derived.Laws.MakeOwn
import Derived.Laws.OwnMore
import Derived.Deep.OwnRows
import Derived.Tactics
import Derived.Lib.ConvBytes
import Derived.Laws.Slices
import Derived.WalkKit
import Derived.KernelRfl
import Derived.RowKit3
import Derived.Deep.LoopGhost
import Derived.Deep.QuietTactic
import Derived.BigQuiet
import Derived.WideLaws
import Derived.Deep.DeepCutAuto
import Derived.Deep.CutBlock
import Derived.Deep.RegionHeld3
import Derived.Laws.Rows
import Derived.Lib.AppendStr
import Derived.ArgAppend
import Derived.Laws.IdiomCopy
import Derived.OrdersHeld
import Derived.Laws.BitsLemmas
import Derived.RowKit
import Derived.Lib.Hide
import Derived.OneCell
import Derived.Lib.SliceRun
import Derived.Test.YtpajmgbhlpbojaaWWords
import Derived.Test.YtpajmgbhlpbojaaWLast
import Derived.Test.YtpajmgbhlpbojaaWTab
import Derived.Test.YtpajmgbhlpbojaaWFour
import Derived.Test.YtpajmgbhlpbojaaWQPut
import Derived.Test.YtpajmgbhlpbojaaWApart
import Derived.Test.YtpajmgbhlpbojaaWArr
import Derived.Test.YtpajmgbhlpbojaaWZeros
import Derived.Test.YtpajmgbhlpbojaaWFoot
import Derived.Test.YtpajmgbhlpbojaaWKept
import Derived.Test.YtpajmgbhlpbojaaWShare
import Derived.Test.YtpajmgbhlpbojaaWN
import Derived.Test.YtpajmgbhlpbojaaWFootNe
import Derived.Test.YtpajmgbhlpbojaaWAt
import Derived.Test.YtpajmgbhlpbojaaWEqStruct
import Derived.Test.YtpajmgbhlpbojaaWRepsOne
import Derived.Test.YtpajmgbhlpbojaaWInv
import Derived.Test.YtpajmgbhlpbojaaWInvWords
import Derived.Test.YtpajmgbhlpbojaaWGuard
import Derived.Test.YtpajmgbhlpbojaaWNEv
import Derived.Test.YtpajmgbhlpbojaaWMore
namespace Go.Proofs.Ytpajmgbhlpbojaa.QFnExactCountByFirst
open Go.RowKit Go.Proofs.YtpajmgbhlpbojaaW.PrintWords Go.Proofs.YtpajmgbhlpbojaaW.PrintLast Go.Proofs.YtpajmgbhlpbojaaW.PrintMore
attribute [local go_sem] max2_int min2_int max_two min_two max_three min_three max_four min_four   -- for this text's walks alone
set_option linter.unusedVariables false
set_option linter.unusedSimpArgs false



def errW : Option Int → Value
  | none => .nilIface
  | some c => .iface 0 (.int .i64 c)
theorem errW_none : errW none = .nilIface := rfl
theorem errW_some (c : Int) : errW (some c) = .iface 0 (.int .i64 c) := rfl

theorem info3 : (Try.prog.info? 3).map (fun i => (i.zero, i.size, i.bytes)) = some (some (.int .i64 0), 1, 8) := by kernel_rfl
-- the values' own types

end Go.Proofs.Ytpajmgbhlpbojaa.QFnExactCountByFirst
