/- Proved here: each Go function named below, when called, returns what the Lean function of its name computes, wherever that function answers. Text written by this session's program over the kit's print; law FnCutsAndJoins. -/
import Derived.Test.YtjnchdccefdjmaaGreatDoorProg
import Derived.Below
import Derived.Deep.Draws
import Derived.Deep.AppendLies
import Derived.Maps.AppendAt
import Derived.OwnWalk
import Derived.Laws.BytesArg
import Derived.Laws.MakeOwn
import Derived.Laws.OwnMore
import Derived.Deep.OwnRows
import Derived.Tactics
import Derived.Lib.ConvBytes
import Derived.Laws.Slices
import Derived.WalkKit
import Derived.KernelRfl
import Derived.RowKit3
import Derived.Deep.LoopGhost
import Derived.Deep.QuietTactic
import Derived.BigQuiet
import Derived.WideLaws
import Derived.Deep.DeepCutAuto
import Derived.Deep.CutBlock
import Derived.Deep.RegionHeld3
import Derived.Laws.Rows
import Derived.Lib.AppendStr
import Derived.ArgAppend
import Derived.Laws.IdiomCopy
import Derived.OrdersHeld
import Derived.Laws.BitsLemmas
import Derived.RowKit
import Derived.Lib.Hide
import Derived.OneCell
import Derived.Lib.SliceRun
import Derived.Test.YtjnchdccefdjmaaGreatDoorSh
import Derived.Shelf.Strconv.ErrVarAll
import Derived.Test.YtjnchdccefdjmaaGreatDoorWWords
import Derived.Test.YtjnchdccefdjmaaGreatDoorWLast
import Derived.Test.YtjnchdccefdjmaaGreatDoorWTab
import Derived.Test.YtjnchdccefdjmaaGreatDoorWFour
import Derived.Test.YtjnchdccefdjmaaGreatDoorWQPut
import Derived.Test.YtjnchdccefdjmaaGreatDoorWApart
import Derived.Test.YtjnchdccefdjmaaGreatDoorWArr
import Derived.Test.YtjnchdccefdjmaaGreatDoorWZeros
import Derived.Test.YtjnchdccefdjmaaGreatDoorWFoot
import Derived.Test.YtjnchdccefdjmaaGreatDoorWKept
import Derived.Test.YtjnchdccefdjmaaGreatDoorWShare
import Derived.Test.YtjnchdccefdjmaaGreatDoorWN
import Derived.Test.YtjnchdccefdjmaaGreatDoorWFootNe
import Derived.Test.YtjnchdccefdjmaaGreatDoorWAt
import Derived.Test.YtjnchdccefdjmaaGreatDoorWEqStruct
import Derived.Test.YtjnchdccefdjmaaGreatDoorWRepsOne
import Derived.Test.YtjnchdccefdjmaaGreatDoorWInv
import Derived.Test.YtjnchdccefdjmaaGreatDoorWInvWords
import Derived.Test.YtjnchdccefdjmaaGreatDoorWGuard
import Derived.Test.YtjnchdccefdjmaaGreatDoorWNEv
import Derived.Test.YtjnchdccefdjmaaGreatDoorWMore
namespace Go.Proofs.YtjnchdccefdjmaaGreatDoor.QFnCutsAndJoins
open Go.RowKit Go.Proofs.YtjnchdccefdjmaaGreatDoorW.PrintWords Go.Proofs.YtjnchdccefdjmaaGreatDoorW.PrintLast Go.Proofs.YtjnchdccefdjmaaGreatDoorW.PrintMore
attribute [local go_sem] max2_int min2_int max_two min_two max_three min_three max_four min_four   -- for this text's walks alone
set_option linter.unusedVariables false
set_option linter.unusedSimpArgs false



def errW : Option Int → Value
  | none => .nilIface
  | some c => .iface 0 (.int .i64 c)
theorem errW_none : errW none = .nilIface := rfl
theorem errW_some (c : Int) : errW (some c) = .iface 0 (.int .i64 c) := rfl

theorem info3 : (Tryz.prog.info? 3).map (fun i => (i.zero, i.size, i.bytes)) = some (some (.int .i64 0), 1, 8) := by kernel_rfl
theorem info4 : (Tryz.prog.info? 4).map (fun i => (i.zero, i.size, i.bytes)) = some (some (.bool false), 1, 1) := by kernel_rfl
theorem info5 : (Tryz.prog.info? 5).map (fun i => (i.zero, i.size, i.bytes)) = some (some (.int .u8 0), 1, 1) := by kernel_rfl
theorem info9 : (Tryz.prog.info? 9).map (fun i => (i.zero, i.size, i.bytes)) = some (some (.string ⟨#[]⟩), 1, 16) := by kernel_rfl
-- the values' own types

end Go.Proofs.YtjnchdccefdjmaaGreatDoor.QFnCutsAndJoins
