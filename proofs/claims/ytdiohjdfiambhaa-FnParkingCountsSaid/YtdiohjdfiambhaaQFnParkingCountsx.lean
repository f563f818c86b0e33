/- Proved here: each Go function named below, when called, returns what the Lean function of its name computes, wherever that function answers. Text written by this session's program over the kit's print; law FnParkingCounts. -/
import Derived.Test.YtdiohjdfiambhaaQFnParkingCountsx0
import Derived.Test.YtdiohjdfiambhaaQFnParkingCountsx1
import Derived.Test.YtdiohjdfiambhaaQFnParkingCountsx2
import Derived.Test.YtdiohjdfiambhaaQFnParkingCountsx3
import Derived.Test.YtdiohjdfiambhaaQFnParkingCountsx4
import Derived.Test.YtdiohjdfiambhaaQFnParkingCountsx5
import Derived.Test.YtdiohjdfiambhaaQFnParkingCountsx6
import Derived.Test.YtdiohjdfiambhaaQFnParkingCountsx7
import Derived.Test.YtdiohjdfiambhaaQFnParkingCountsx8
import Derived.Test.YtdiohjdfiambhaaQFnParkingCountsx9
import Derived.Test.YtdiohjdfiambhaaQFnParkingCountsx10
namespace Go.Proofs.Ytdiohjdfiambhaa.QFnParkingCounts
open Go.RowKit Go.Proofs.YtdiohjdfiambhaaW.PrintWords Go.Proofs.YtdiohjdfiambhaaW.PrintLast Go.Proofs.YtdiohjdfiambhaaW.PrintMore
attribute [local go_sem] max2_int min2_int max_two min_two max_three min_three max_four min_four   -- for this text's walks alone
set_option linter.unusedVariables false
set_option linter.unusedSimpArgs false

end Go.Proofs.Ytdiohjdfiambhaa.QFnParkingCounts
