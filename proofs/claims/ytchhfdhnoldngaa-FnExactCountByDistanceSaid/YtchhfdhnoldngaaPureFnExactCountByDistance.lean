/- Proved here: the pure part of law FnExactCountByDistance: the Lean function printed for it answers true at all its inputs. -/
import Derived.Test.YtchhfdhnoldngaaBFnExactCountByDistance
namespace Go.Proofs.Ytchhfdhnoldngaa.Pure
open Go.RowKit Go.Proofs.Ytchhfdhnoldngaa.QFnExactCountByDistance Go.Proofs.YtchhfdhnoldngaaW.PrintWords Go.Proofs.YtchhfdhnoldngaaW.PrintLast Go.Proofs.Ytchhfdhnoldngaa.Math
set_option linter.unusedVariables false
set_option linter.unusedSimpArgs false

set_option maxHeartbeats 4000000 in
theorem FnExactCountByDistance : laws_FnExactCountByDistance.Pure := by
  intro a0 _
  refine Ev.rounds ?_
  simp only [laws_FnExactCountByDistance.f]
  have hlen := byDistR_len a0
  have S := spec_CountByDistance.ev a0
  have I := impl_CountByDistance.ev a0
  generalize hgen : byDistR a0 = r at S I
  have R := laws_eqIntS.ev_self (r.1) (by subst hgen; omega)
  have MR := laws_markIntS.ev (r.1) (by subst hgen; omega)
  have HR := laws_heldIntS.ev (r.1).length (by subst hgen; omega)
  repeat' first
    | exact Ev.now _
    | (with_reducible refine Ev.bind S ?_)
    | (with_reducible refine Ev.bind I ?_)
    | (with_reducible refine Ev.bind R ?_)
    | (with_reducible refine Ev.bind MR ?_)
    | (with_reducible refine Ev.bind HR ?_)
    | (with_reducible refine Ev.step (fun k => laws_FnExactCountByDistance.j0.eq_2 ..) ?_)
    | (with_reducible refine Ev.step (fun k => laws_FnExactCountByDistance.j1.eq_2 ..) ?_)
    | refine ev_pos (by with_reducible rfl) ?_
    | refine ev_neg (by omega) ?_
    | refine ev_neg (by simp; done) ?_
    | refine ev_pos (by omega) ?_

end Go.Proofs.Ytchhfdhnoldngaa.Pure
