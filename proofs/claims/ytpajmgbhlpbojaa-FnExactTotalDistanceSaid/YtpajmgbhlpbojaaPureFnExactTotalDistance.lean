/- Proved here: the pure part of law FnExactTotalDistance: the Lean function printed for it answers true at all its inputs. -/
import Derived.Test.YtpajmgbhlpbojaaBFnExactTotalDistance
namespace Go.Proofs.Ytpajmgbhlpbojaa.Pure
open Go.RowKit Go.Proofs.Ytpajmgbhlpbojaa.QFnExactTotalDistance Go.Proofs.YtpajmgbhlpbojaaW.PrintWords Go.Proofs.YtpajmgbhlpbojaaW.PrintLast Go.Proofs.Ytpajmgbhlpbojaa.Math
set_option linter.unusedVariables false
set_option linter.unusedSimpArgs false

set_option maxHeartbeats 4000000 in
theorem FnExactTotalDistance : laws_FnExactTotalDistance.Pure := by
  intro l0 a1 _ _ _ _
  refine Ev.rounds ?_
  simp only [laws_FnExactTotalDistance.f]
  by_cases hl0 : (l0.length : Int) > 1048576
  · repeat' first | exact Ev.now _ | refine ev_pos (by assumption) ?_ | refine ev_neg (by assumption) ?_
  have Tl0 := laws_toIntS.ev l0 (by omega)
  have El0 := laws_eqIntS.ev_self l0 (by omega)
  have S := spec_TotalDistance.ev l0 a1 (by omega)
  have I := impl_TotalDistance.ev l0 a1 (by omega)
  generalize hgen : totR l0 a1 = r at S I
  refine ev_neg (by assumption) ?_
  repeat' first
    | exact Ev.now _
    | (with_reducible refine Ev.bind S ?_)
    | (with_reducible refine Ev.bind I ?_)
    | (with_reducible refine Ev.bind Tl0 ?_)
    | (with_reducible refine Ev.bind El0 ?_)
    | (with_reducible refine Ev.step (fun k => laws_FnExactTotalDistance.j0.eq_2 ..) ?_)
    | refine ev_pos (by with_reducible rfl) ?_
    | refine ev_neg (by omega) ?_
    | refine ev_neg (by simp; done) ?_
    | refine ev_pos (by omega) ?_

end Go.Proofs.Ytpajmgbhlpbojaa.Pure
