/- Proved here: each Go function named below, when called, returns what the Lean function of its name computes, wherever that function answers. Text written by this session's program over the kit's print; law FnExactTotalDistance. -/
import Derived.Test.YtpajmgbhlpbojaaQFnExactTotalDistancex0
import Derived.Test.YtpajmgbhlpbojaaQFnExactTotalDistancex1
import Derived.Test.YtpajmgbhlpbojaaQFnExactTotalDistancex2
import Derived.Test.YtpajmgbhlpbojaaQFnExactTotalDistancex3
import Derived.Test.YtpajmgbhlpbojaaQFnExactTotalDistancex4
namespace Go.Proofs.Ytpajmgbhlpbojaa.QFnExactTotalDistance
open Go.RowKit Go.Proofs.YtpajmgbhlpbojaaW.PrintWords Go.Proofs.YtpajmgbhlpbojaaW.PrintLast Go.Proofs.YtpajmgbhlpbojaaW.PrintMore
attribute [local go_sem] max2_int min2_int max_two min_two max_three min_three max_four min_four   -- for this text's walks alone
set_option linter.unusedVariables false
set_option linter.unusedSimpArgs false

end Go.Proofs.Ytpajmgbhlpbojaa.QFnExactTotalDistance
