/- Proved here: each Go function named below, when called, returns what the Lean function of its name computes, wherever that function answers. Text written by this session's program over the kit's print; law FnExactParkText. -/
import Derived.Test.YtjnchdccefdjmaaDoorQFnExactParkTextx0
import Derived.Test.YtjnchdccefdjmaaDoorQFnExactParkTextx1
import Derived.Test.YtjnchdccefdjmaaDoorQFnExactParkTextx2
import Derived.Test.YtjnchdccefdjmaaDoorQFnExactParkTextx3
namespace Go.Proofs.YtjnchdccefdjmaaDoor.QFnExactParkText
open Go.RowKit Go.Proofs.YtjnchdccefdjmaaDoorW.PrintWords Go.Proofs.YtjnchdccefdjmaaDoorW.PrintLast Go.Proofs.YtjnchdccefdjmaaDoorW.PrintMore
attribute [local go_sem] max2_int min2_int max_two min_two max_three min_three max_four min_four   -- for this text's walks alone
set_option linter.unusedVariables false
set_option linter.unusedSimpArgs false

end Go.Proofs.YtjnchdccefdjmaaDoor.QFnExactParkText
