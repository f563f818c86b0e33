/- Proved here: each Go function named below, when called, returns what the Lean function of its name computes, wherever that function answers. Text written by this session's program over the kit's print; law FnOutcomesCounted. -/
import Derived.Test.YtdiohjdfiambhaaQFnOutcomesCountedx0
import Derived.Test.YtdiohjdfiambhaaQFnOutcomesCountedx1
import Derived.Test.YtdiohjdfiambhaaQFnOutcomesCountedx2
import Derived.Test.YtdiohjdfiambhaaQFnOutcomesCountedx3
import Derived.Test.YtdiohjdfiambhaaQFnOutcomesCountedx4
import Derived.Test.YtdiohjdfiambhaaQFnOutcomesCountedx5
import Derived.Test.YtdiohjdfiambhaaQFnOutcomesCountedx6
import Derived.Test.YtdiohjdfiambhaaQFnOutcomesCountedx7
namespace Go.Proofs.Ytdiohjdfiambhaa.QFnOutcomesCounted
open Go.RowKit Go.Proofs.YtdiohjdfiambhaaW.PrintWords Go.Proofs.YtdiohjdfiambhaaW.PrintLast Go.Proofs.YtdiohjdfiambhaaW.PrintMore
attribute [local go_sem] max2_int min2_int max_two min_two max_three min_three max_four min_four   -- for this text's walks alone
set_option linter.unusedVariables false
set_option linter.unusedSimpArgs false

end Go.Proofs.Ytdiohjdfiambhaa.QFnOutcomesCounted
