/- Proved here: each Go function named below, when called, returns what the Lean function of its name computes, wherever that function answers. Text written by this session's program over the kit's print; law FnExactCountByDistance. -/
import Derived.Test.YtchhfdhnoldngaaQFnExactCountByDistancex0
import Derived.Test.YtchhfdhnoldngaaQFnExactCountByDistancex1
import Derived.Test.YtchhfdhnoldngaaQFnExactCountByDistancex2
import Derived.Test.YtchhfdhnoldngaaQFnExactCountByDistancex3
import Derived.Test.YtchhfdhnoldngaaQFnExactCountByDistancex4
import Derived.Test.YtchhfdhnoldngaaQFnExactCountByDistancex5
import Derived.Test.YtchhfdhnoldngaaQFnExactCountByDistancex6
namespace Go.Proofs.Ytchhfdhnoldngaa.QFnExactCountByDistance
open Go.RowKit Go.Proofs.YtchhfdhnoldngaaW.PrintWords Go.Proofs.YtchhfdhnoldngaaW.PrintLast Go.Proofs.YtchhfdhnoldngaaW.PrintMore
attribute [local go_sem] max2_int min2_int max_two min_two max_three min_three max_four min_four   -- for this text's walks alone
set_option linter.unusedVariables false
set_option linter.unusedSimpArgs false

end Go.Proofs.Ytchhfdhnoldngaa.QFnExactCountByDistance
