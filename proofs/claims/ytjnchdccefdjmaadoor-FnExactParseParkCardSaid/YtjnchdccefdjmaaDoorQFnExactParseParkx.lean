/- Proved here: each Go function named below, when called, returns what the Lean function of its name computes, wherever that function answers. Text written by this session's program over the kit's print; law FnExactParsePark. -/
import Derived.Test.YtjnchdccefdjmaaDoorQFnExactParseParkx0
import Derived.Test.YtjnchdccefdjmaaDoorQFnExactParseParkx1
import Derived.Test.YtjnchdccefdjmaaDoorQFnExactParseParkx2
import Derived.Test.YtjnchdccefdjmaaDoorQFnExactParseParkx3
import Derived.Test.YtjnchdccefdjmaaDoorQFnExactParseParkx4
import Derived.Test.YtjnchdccefdjmaaDoorQFnExactParseParkx5
namespace Go.Proofs.YtjnchdccefdjmaaDoor.QFnExactParsePark
open Go.RowKit Go.Proofs.YtjnchdccefdjmaaDoorW.PrintWords Go.Proofs.YtjnchdccefdjmaaDoorW.PrintLast Go.Proofs.YtjnchdccefdjmaaDoorW.PrintMore
attribute [local go_sem] max2_int min2_int max_two min_two max_three min_three max_four min_four   -- for this text's walks alone
set_option linter.unusedVariables false
set_option linter.unusedSimpArgs false

end Go.Proofs.YtjnchdccefdjmaaDoor.QFnExactParsePark
