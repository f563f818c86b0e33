/- Proved here: each Go function named below, when called, returns what the Lean function of its name computes, wherever that function answers. Text written by this session's program over the kit's print; law FnCutsAndJoins. -/
import Derived.Test.YtjnchdccefdjmaaGreatDoorQFnCutsAndJoinsx0
import Derived.Test.YtjnchdccefdjmaaGreatDoorQFnCutsAndJoinsx1
import Derived.Test.YtjnchdccefdjmaaGreatDoorQFnCutsAndJoinsx2
import Derived.Test.YtjnchdccefdjmaaGreatDoorQFnCutsAndJoinsx3
import Derived.Test.YtjnchdccefdjmaaGreatDoorQFnCutsAndJoinsx4
import Derived.Test.YtjnchdccefdjmaaGreatDoorQFnCutsAndJoinsx5
import Derived.Test.YtjnchdccefdjmaaGreatDoorQFnCutsAndJoinsx6
import Derived.Test.YtjnchdccefdjmaaGreatDoorQFnCutsAndJoinsx7
import Derived.Test.YtjnchdccefdjmaaGreatDoorQFnCutsAndJoinsx8
namespace Go.Proofs.YtjnchdccefdjmaaGreatDoor.QFnCutsAndJoins
open Go.RowKit Go.Proofs.YtjnchdccefdjmaaGreatDoorW.PrintWords Go.Proofs.YtjnchdccefdjmaaGreatDoorW.PrintLast Go.Proofs.YtjnchdccefdjmaaGreatDoorW.PrintMore
attribute [local go_sem] max2_int min2_int max_two min_two max_three min_three max_four min_four   -- for this text's walks alone
set_option linter.unusedVariables false
set_option linter.unusedSimpArgs false

end Go.Proofs.YtjnchdccefdjmaaGreatDoor.QFnCutsAndJoins
