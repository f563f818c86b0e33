/- Proved here: each Go function named below, when called, returns what the Lean function of its name computes, wherever that function answers. Text written by this session's program over the kit's print; law FnExactCutsOf. -/
import Derived.Test.YtchhfdhnoldngaaQFnExactCutsOfx0
import Derived.Test.YtchhfdhnoldngaaQFnExactCutsOfx1
import Derived.Test.YtchhfdhnoldngaaQFnExactCutsOfx2
import Derived.Test.YtchhfdhnoldngaaQFnExactCutsOfx3
import Derived.Test.YtchhfdhnoldngaaQFnExactCutsOfx4
namespace Go.Proofs.Ytchhfdhnoldngaa.QFnExactCutsOf
open Go.RowKit Go.Proofs.YtchhfdhnoldngaaW.PrintWords Go.Proofs.YtchhfdhnoldngaaW.PrintLast Go.Proofs.YtchhfdhnoldngaaW.PrintMore
attribute [local go_sem] max2_int min2_int max_two min_two max_three min_three max_four min_four   -- for this text's walks alone
set_option linter.unusedVariables false
set_option linter.unusedSimpArgs false

end Go.Proofs.Ytchhfdhnoldngaa.QFnExactCutsOf
