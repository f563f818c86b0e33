/- Proved here: the pure part of law FnExactCountOrders: the Lean function printed for it answers true at all its inputs. -/
import Derived.Test.YtdiohjdfiambhaaBFnExactCountOrders
namespace Go.Proofs.Ytdiohjdfiambhaa.Pure
open Go.RowKit Go.Proofs.Ytdiohjdfiambhaa.QFnExactCountOrders Go.Proofs.YtdiohjdfiambhaaW.PrintWords Go.Proofs.YtdiohjdfiambhaaW.PrintLast Go.Proofs.Ytdiohjdfiambhaa.Math
set_option linter.unusedVariables false
set_option linter.unusedSimpArgs false

set_option maxHeartbeats 4000000 in
theorem FnExactCountOrders : laws_FnExactCountOrders.Pure := by
  intro l0 _ _ _
  refine Ev.rounds ?_
  simp only [laws_FnExactCountOrders.f]
  by_cases hl0 : (l0.length : Int) > 1048576
  · repeat' first | exact Ev.now _ | refine ev_pos (by assumption) ?_ | refine ev_neg (by assumption) ?_
  have Tl0 := laws_toIntS.ev l0 (by omega)
  have El0 := laws_eqIntS.ev_self l0 (by omega)
  have S := spec_CountOrders.ev l0 (by omega)
  have I := impl_CountOrders.ev l0 (by omega)
  generalize hgen : ordersR l0 = r at S I
  refine ev_neg (by assumption) ?_
  repeat' first
    | exact Ev.now _
    | (with_reducible refine Ev.bind S ?_)
    | (with_reducible refine Ev.bind I ?_)
    | (with_reducible refine Ev.bind Tl0 ?_)
    | (with_reducible refine Ev.bind El0 ?_)
    | (with_reducible refine Ev.step (fun k => laws_FnExactCountOrders.j0.eq_2 ..) ?_)
    | refine ev_pos (by with_reducible rfl) ?_
    | refine ev_neg (by omega) ?_
    | refine ev_neg (by simp; done) ?_
    | refine ev_pos (by omega) ?_

end Go.Proofs.Ytdiohjdfiambhaa.Pure
