/- Proved here: each Go function named below, when called, returns what the Lean function of its name computes, wherever that function answers. Text written by this session's program over the kit's print; law FnExactParsePark. -/
import Derived.Test.YtjnchdccefdjmaaDoorProg
import Derived.Below
import Derived.Deep.Draws
import Derived.Deep.AppendLies
import Derived.Maps.AppendAt
import Derived.OwnWalk
import Derived.Laws.BytesArg
import Derived.Laws.MakeOwn
import Derived.Laws.OwnMore
import Derived.Deep.OwnRows
import Derived.Tactics
import Derived.Lib.ConvBytes
import Derived.Laws.Slices
import Derived.WalkKit
import Derived.KernelRfl
import Derived.RowKit3
import Derived.Deep.LoopGhost
import Derived.Deep.QuietTactic
import Derived.BigQuiet
import Derived.WideLaws
import Derived.Deep.DeepCutAuto
import Derived.Deep.CutBlock
import Derived.Deep.RegionHeld3
import Derived.Laws.Rows
import Derived.Lib.AppendStr
import Derived.ArgAppend
import Derived.Laws.IdiomCopy
import Derived.OrdersHeld
import Derived.Laws.BitsLemmas
import Derived.RowKit
import Derived.Lib.Hide
import Derived.OneCell
import Derived.Lib.SliceRun
import Derived.Test.YtjnchdccefdjmaaDoorSh
import Derived.Shelf.Strconv.ErrVarAll
import Derived.Test.YtjnchdccefdjmaaDoorWWords
import Derived.Test.YtjnchdccefdjmaaDoorWLast
import Derived.Test.YtjnchdccefdjmaaDoorWTab
import Derived.Test.YtjnchdccefdjmaaDoorWFour
import Derived.Test.YtjnchdccefdjmaaDoorWQPut
import Derived.Test.YtjnchdccefdjmaaDoorWApart
import Derived.Test.YtjnchdccefdjmaaDoorWArr
import Derived.Test.YtjnchdccefdjmaaDoorWZeros
import Derived.Test.YtjnchdccefdjmaaDoorWFoot
import Derived.Test.YtjnchdccefdjmaaDoorWKept
import Derived.Test.YtjnchdccefdjmaaDoorWShare
import Derived.Test.YtjnchdccefdjmaaDoorWN
import Derived.Test.YtjnchdccefdjmaaDoorWFootNe
import Derived.Test.YtjnchdccefdjmaaDoorWAt
import Derived.Test.YtjnchdccefdjmaaDoorWEqStruct
import Derived.Test.YtjnchdccefdjmaaDoorWRepsOne
import Derived.Test.YtjnchdccefdjmaaDoorWInv
import Derived.Test.YtjnchdccefdjmaaDoorWInvWords
import Derived.Test.YtjnchdccefdjmaaDoorWGuard
import Derived.Test.YtjnchdccefdjmaaDoorWNEv
import Derived.Test.YtjnchdccefdjmaaDoorWMore
namespace Go.Proofs.YtjnchdccefdjmaaDoor.QFnExactParsePark
open Go.RowKit Go.Proofs.YtjnchdccefdjmaaDoorW.PrintWords Go.Proofs.YtjnchdccefdjmaaDoorW.PrintLast Go.Proofs.YtjnchdccefdjmaaDoorW.PrintMore
attribute [local go_sem] max2_int min2_int max_two min_two max_three min_three max_four min_four   -- for this text's walks alone
set_option linter.unusedVariables false
set_option linter.unusedSimpArgs false



def errW : Option Int → Value
  | none => .nilIface
  | some c => .iface 0 (.int .i64 c)
theorem errW_none : errW none = .nilIface := rfl
theorem errW_some (c : Int) : errW (some c) = .iface 0 (.int .i64 c) := rfl

theorem info3 : (Tryd.prog.info? 3).map (fun i => (i.zero, i.size, i.bytes)) = some (some (.int .i64 0), 1, 8) := by kernel_rfl
theorem info4 : (Tryd.prog.info? 4).map (fun i => (i.zero, i.size, i.bytes)) = some (some (.bool false), 1, 1) := by kernel_rfl
theorem info5 : (Tryd.prog.info? 5).map (fun i => (i.zero, i.size, i.bytes)) = some (some (.int .u8 0), 1, 1) := by kernel_rfl
theorem info9 : (Tryd.prog.info? 9).map (fun i => (i.zero, i.size, i.bytes)) = some (some (.string ⟨#[]⟩), 1, 16) := by kernel_rfl
-- the values' own types

end Go.Proofs.YtjnchdccefdjmaaDoor.QFnExactParsePark
