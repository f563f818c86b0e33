/- Proved here: each Go function named below, when called, returns what the Lean function of its name computes, wherever that function answers. Text written by this session's program over the kit's print; law FnLesserListsPark. -/
import Derived.Test.YtchhfdhnoldngaaQFnLesserListsParkx0
import Derived.Test.YtchhfdhnoldngaaQFnLesserListsParkx1
import Derived.Test.YtchhfdhnoldngaaQFnLesserListsParkx2
import Derived.Test.YtchhfdhnoldngaaQFnLesserListsParkx3
import Derived.Test.YtchhfdhnoldngaaQFnLesserListsParkx4
import Derived.Test.YtchhfdhnoldngaaQFnLesserListsParkx5
import Derived.Test.YtchhfdhnoldngaaQFnLesserListsParkx6
namespace Go.Proofs.Ytchhfdhnoldngaa.QFnLesserListsPark
open Go.RowKit Go.Proofs.YtchhfdhnoldngaaW.PrintWords Go.Proofs.YtchhfdhnoldngaaW.PrintLast Go.Proofs.YtchhfdhnoldngaaW.PrintMore
attribute [local go_sem] max2_int min2_int max_two min_two max_three min_three max_four min_four   -- for this text's walks alone
set_option linter.unusedVariables false
set_option linter.unusedSimpArgs false

end Go.Proofs.Ytchhfdhnoldngaa.QFnLesserListsPark
