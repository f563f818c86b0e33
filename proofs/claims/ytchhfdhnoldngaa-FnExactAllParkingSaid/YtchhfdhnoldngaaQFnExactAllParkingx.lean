/- Proved here: each Go function named below, when called, returns what the Lean function of its name computes, wherever that function answers. Text written by this session's program over the kit's print; law FnExactAllParking. -/
import Derived.Test.YtchhfdhnoldngaaQFnExactAllParkingx0
import Derived.Test.YtchhfdhnoldngaaQFnExactAllParkingx1
import Derived.Test.YtchhfdhnoldngaaQFnExactAllParkingx2
import Derived.Test.YtchhfdhnoldngaaQFnExactAllParkingx3
import Derived.Test.YtchhfdhnoldngaaQFnExactAllParkingx4
import Derived.Test.YtchhfdhnoldngaaQFnExactAllParkingx5
namespace Go.Proofs.Ytchhfdhnoldngaa.QFnExactAllParking
open Go.RowKit Go.Proofs.YtchhfdhnoldngaaW.PrintWords Go.Proofs.YtchhfdhnoldngaaW.PrintLast Go.Proofs.YtchhfdhnoldngaaW.PrintMore
attribute [local go_sem] max2_int min2_int max_two min_two max_three min_three max_four min_four   -- for this text's walks alone
set_option linter.unusedVariables false
set_option linter.unusedSimpArgs false

end Go.Proofs.Ytchhfdhnoldngaa.QFnExactAllParking
