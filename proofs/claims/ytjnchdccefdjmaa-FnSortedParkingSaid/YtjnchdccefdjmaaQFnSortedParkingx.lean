/- Proved here: each Go function named below, when called, returns what the Lean function of its name computes, wherever that function answers. Text written by this session's program over the kit's print; law FnSortedParking. -/
import Derived.Test.YtjnchdccefdjmaaQFnSortedParkingx0
import Derived.Test.YtjnchdccefdjmaaQFnSortedParkingx1
import Derived.Test.YtjnchdccefdjmaaQFnSortedParkingx2
import Derived.Test.YtjnchdccefdjmaaQFnSortedParkingx3
import Derived.Test.YtjnchdccefdjmaaQFnSortedParkingx4
import Derived.Test.YtjnchdccefdjmaaQFnSortedParkingx5
import Derived.Test.YtjnchdccefdjmaaQFnSortedParkingx6
import Derived.Test.YtjnchdccefdjmaaQFnSortedParkingx7
namespace Go.Proofs.Ytjnchdccefdjmaa.QFnSortedParking
open Go.RowKit Go.Proofs.YtjnchdccefdjmaaW.PrintWords Go.Proofs.YtjnchdccefdjmaaW.PrintLast Go.Proofs.YtjnchdccefdjmaaW.PrintMore
attribute [local go_sem] max2_int min2_int max_two min_two max_three min_three max_four min_four   -- for this text's walks alone
set_option linter.unusedVariables false
set_option linter.unusedSimpArgs false

end Go.Proofs.Ytjnchdccefdjmaa.QFnSortedParking
