/- Proved here: each Go function named below, when called, returns what the Lean function of its name computes, wherever that function answers. Text written by this session's program over the kit's print; law FnExactAllSorted. -/
import Derived.Test.YtjnchdccefdjmaaQFnExactAllSortedx0
import Derived.Test.YtjnchdccefdjmaaQFnExactAllSortedx1
import Derived.Test.YtjnchdccefdjmaaQFnExactAllSortedx2
namespace Go.Proofs.Ytjnchdccefdjmaa.QFnExactAllSorted
open Go.RowKit Go.Proofs.YtjnchdccefdjmaaW.PrintWords Go.Proofs.YtjnchdccefdjmaaW.PrintLast Go.Proofs.YtjnchdccefdjmaaW.PrintMore
attribute [local go_sem] max2_int min2_int max_two min_two max_three min_three max_four min_four   -- for this text's walks alone
set_option linter.unusedVariables false
set_option linter.unusedSimpArgs false

end Go.Proofs.Ytjnchdccefdjmaa.QFnExactAllSorted
