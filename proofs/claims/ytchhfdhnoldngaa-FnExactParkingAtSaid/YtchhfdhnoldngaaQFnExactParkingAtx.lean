/- Proved here: each Go function named below, when called, returns what the Lean function of its name computes, wherever that function answers. Text written by this session's program over the kit's print; law FnExactParkingAt. -/
import Derived.Test.YtchhfdhnoldngaaQFnExactParkingAtx0
import Derived.Test.YtchhfdhnoldngaaQFnExactParkingAtx1
import Derived.Test.YtchhfdhnoldngaaQFnExactParkingAtx2
import Derived.Test.YtchhfdhnoldngaaQFnExactParkingAtx3
import Derived.Test.YtchhfdhnoldngaaQFnExactParkingAtx4
import Derived.Test.YtchhfdhnoldngaaQFnExactParkingAtx5
namespace Go.Proofs.Ytchhfdhnoldngaa.QFnExactParkingAt
open Go.RowKit Go.Proofs.YtchhfdhnoldngaaW.PrintWords Go.Proofs.YtchhfdhnoldngaaW.PrintLast Go.Proofs.YtchhfdhnoldngaaW.PrintMore
attribute [local go_sem] max2_int min2_int max_two min_two max_three min_three max_four min_four   -- for this text's walks alone
set_option linter.unusedVariables false
set_option linter.unusedSimpArgs false

end Go.Proofs.Ytchhfdhnoldngaa.QFnExactParkingAt
