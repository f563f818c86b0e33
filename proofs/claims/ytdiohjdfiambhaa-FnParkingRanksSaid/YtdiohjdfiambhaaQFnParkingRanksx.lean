/- Proved here: each Go function named below, when called, returns what the Lean function of its name computes, wherever that function answers. Text written by this session's program over the kit's print; law FnParkingRanks. -/
import Derived.Test.YtdiohjdfiambhaaQFnParkingRanksx0
import Derived.Test.YtdiohjdfiambhaaQFnParkingRanksx1
import Derived.Test.YtdiohjdfiambhaaQFnParkingRanksx2
import Derived.Test.YtdiohjdfiambhaaQFnParkingRanksx3
import Derived.Test.YtdiohjdfiambhaaQFnParkingRanksx4
import Derived.Test.YtdiohjdfiambhaaQFnParkingRanksx5
import Derived.Test.YtdiohjdfiambhaaQFnParkingRanksx6
import Derived.Test.YtdiohjdfiambhaaQFnParkingRanksx7
import Derived.Test.YtdiohjdfiambhaaQFnParkingRanksx8
import Derived.Test.YtdiohjdfiambhaaQFnParkingRanksx9
import Derived.Test.YtdiohjdfiambhaaQFnParkingRanksx10
namespace Go.Proofs.Ytdiohjdfiambhaa.QFnParkingRanks
open Go.RowKit Go.Proofs.YtdiohjdfiambhaaW.PrintWords Go.Proofs.YtdiohjdfiambhaaW.PrintLast Go.Proofs.YtdiohjdfiambhaaW.PrintMore
attribute [local go_sem] max2_int min2_int max_two min_two max_three min_three max_four min_four   -- for this text's walks alone
set_option linter.unusedVariables false
set_option linter.unusedSimpArgs false

end Go.Proofs.Ytdiohjdfiambhaa.QFnParkingRanks
