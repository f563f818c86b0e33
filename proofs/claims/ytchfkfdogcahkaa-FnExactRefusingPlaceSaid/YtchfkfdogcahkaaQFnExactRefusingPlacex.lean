/- Proved here: each Go function named below, when called, returns what the Lean function of its name computes, wherever that function answers. Text written by this session's program over the kit's print; law FnExactRefusingPlace. -/
import Derived.Test.YtchfkfdogcahkaaQFnExactRefusingPlacex0
import Derived.Test.YtchfkfdogcahkaaQFnExactRefusingPlacex1
import Derived.Test.YtchfkfdogcahkaaQFnExactRefusingPlacex2
namespace Go.Proofs.Ytchfkfdogcahkaa.QFnExactRefusingPlace
open Go.RowKit Go.Proofs.YtchfkfdogcahkaaW.PrintWords Go.Proofs.YtchfkfdogcahkaaW.PrintLast Go.Proofs.YtchfkfdogcahkaaW.PrintMore
attribute [local go_sem] max2_int min2_int max_two min_two max_three min_three max_four min_four   -- for this text's walks alone
set_option linter.unusedVariables false
set_option linter.unusedSimpArgs false

end Go.Proofs.Ytchfkfdogcahkaa.QFnExactRefusingPlace
