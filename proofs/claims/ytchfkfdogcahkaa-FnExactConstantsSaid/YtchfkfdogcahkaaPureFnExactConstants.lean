/- Law FnExactConstants, pure part: the Lean function printed for it answers true. -/
import Derived.Test.YtchfkfdogcahkaaPFnExactConstantsx1
namespace Go.Proofs.Ytchfkfdogcahkaa.Pure
open Go.RowKit Go.Proofs.Ytchfkfdogcahkaa.PFnExactConstants Go.Proofs.YtchfkfdogcahkaaW.PrintWords Go.Proofs.YtchfkfdogcahkaaW.PrintLast

theorem FnExactConstants : laws_FnExactConstants.Pure := rfl

end Go.Proofs.Ytchfkfdogcahkaa.Pure
