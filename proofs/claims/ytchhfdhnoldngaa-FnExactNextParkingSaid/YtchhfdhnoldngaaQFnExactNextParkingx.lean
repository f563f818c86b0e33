/- Proved here: each Go function named below, when called, returns what the Lean function of its name computes, wherever that function answers. Text written by this session's program over the kit's print; law FnExactNextParking. -/
import Derived.Test.YtchhfdhnoldngaaQFnExactNextParkingx0
import Derived.Test.YtchhfdhnoldngaaQFnExactNextParkingx1
import Derived.Test.YtchhfdhnoldngaaQFnExactNextParkingx2
import Derived.Test.YtchhfdhnoldngaaQFnExactNextParkingx3
import Derived.Test.YtchhfdhnoldngaaQFnExactNextParkingx4
import Derived.Test.YtchhfdhnoldngaaQFnExactNextParkingx5
import Derived.Test.YtchhfdhnoldngaaQFnExactNextParkingx6
import Derived.Test.YtchhfdhnoldngaaQFnExactNextParkingx7
namespace Go.Proofs.Ytchhfdhnoldngaa.QFnExactNextParking
open Go.RowKit Go.Proofs.YtchhfdhnoldngaaW.PrintWords Go.Proofs.YtchhfdhnoldngaaW.PrintLast Go.Proofs.YtchhfdhnoldngaaW.PrintMore
attribute [local go_sem] max2_int min2_int max_two min_two max_three min_three max_four min_four   -- for this text's walks alone
set_option linter.unusedVariables false
set_option linter.unusedSimpArgs false

end Go.Proofs.Ytchhfdhnoldngaa.QFnExactNextParking
