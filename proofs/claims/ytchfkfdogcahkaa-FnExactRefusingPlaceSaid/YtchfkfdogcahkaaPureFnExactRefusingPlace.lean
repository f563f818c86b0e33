/- Proved here: the pure part of law FnExactRefusingPlace: the Lean function printed for it answers true at all its inputs. -/
import Derived.Test.YtchfkfdogcahkaaBFnExactRefusingPlace
namespace Go.Proofs.Ytchfkfdogcahkaa.Pure
open Go.RowKit Go.Proofs.Ytchfkfdogcahkaa.QFnExactRefusingPlace Go.Proofs.YtchfkfdogcahkaaW.PrintWords Go.Proofs.YtchfkfdogcahkaaW.PrintLast Go.Proofs.Ytchfkfdogcahkaa.Math
set_option linter.unusedVariables false

set_option maxHeartbeats 4000000 in
theorem FnExactRefusingPlace : laws_FnExactRefusingPlace.Pure := by
  intro l0 a1 _ _ _ _
  refine Ev.rounds ?_
  simp only [laws_FnExactRefusingPlace.f]
  by_cases hl0 : (l0.length : Int) > 1048576
  · repeat' first | exact Ev.now _ | refine ev_pos (by assumption) ?_ | refine ev_neg (by assumption) ?_
  have Tl0 := laws_toIntS.ev l0 (by omega)
  have El0 := laws_eqIntS.ev_self l0 (by omega)
  have S := spec_RefusingPlace.ev l0 a1 (by omega)
  have I := ev_eq (impl_RefusingPlace.is l0 a1 (by omega))
  generalize hgen : refuseR l0 a1 = r at S I
  refine ev_neg (by assumption) ?_
  repeat' first
    | exact Ev.now _
    | (with_reducible refine Ev.bind S ?_)
    | (with_reducible refine Ev.bind I ?_)
    | (with_reducible refine Ev.bind Tl0 ?_)
    | (with_reducible refine Ev.bind El0 ?_)
    | (with_reducible refine Ev.step (fun k => laws_FnExactRefusingPlace.j0.eq_2 ..) ?_)
    | refine ev_pos (by with_reducible rfl) ?_
    | refine ev_neg (by omega) ?_
    | refine ev_neg (by simp; done) ?_
    | refine ev_pos (by omega) ?_

end Go.Proofs.Ytchfkfdogcahkaa.Pure
