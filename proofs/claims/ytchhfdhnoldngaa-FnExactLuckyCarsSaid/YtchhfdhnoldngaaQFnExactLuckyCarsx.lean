/- Proved here: each Go function named below, when called, returns what the Lean function of its name computes, wherever that function answers. Text written by this session's program over the kit's print; law FnExactLuckyCars. -/
import Derived.Test.YtchhfdhnoldngaaQFnExactLuckyCarsx0
import Derived.Test.YtchhfdhnoldngaaQFnExactLuckyCarsx1
import Derived.Test.YtchhfdhnoldngaaQFnExactLuckyCarsx2
import Derived.Test.YtchhfdhnoldngaaQFnExactLuckyCarsx3
import Derived.Test.YtchhfdhnoldngaaQFnExactLuckyCarsx4
namespace Go.Proofs.Ytchhfdhnoldngaa.QFnExactLuckyCars
open Go.RowKit Go.Proofs.YtchhfdhnoldngaaW.PrintWords Go.Proofs.YtchhfdhnoldngaaW.PrintLast Go.Proofs.YtchhfdhnoldngaaW.PrintMore
attribute [local go_sem] max2_int min2_int max_two min_two max_three min_three max_four min_four   -- for this text's walks alone
set_option linter.unusedVariables false
set_option linter.unusedSimpArgs false

end Go.Proofs.Ytchhfdhnoldngaa.QFnExactLuckyCars
