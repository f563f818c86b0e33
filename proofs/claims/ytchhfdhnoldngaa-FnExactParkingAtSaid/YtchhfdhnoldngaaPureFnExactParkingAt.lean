/- Proved here: the pure part of law FnExactParkingAt: the Lean function printed for it answers true at all its inputs. -/
import Derived.Test.YtchhfdhnoldngaaBFnExactParkingAt
namespace Go.Proofs.Ytchhfdhnoldngaa.Pure
open Go.RowKit Go.Proofs.Ytchhfdhnoldngaa.QFnExactParkingAt Go.Proofs.YtchhfdhnoldngaaW.PrintWords Go.Proofs.YtchhfdhnoldngaaW.PrintLast Go.Proofs.Ytchhfdhnoldngaa.Math
set_option linter.unusedVariables false
set_option linter.unusedSimpArgs false

set_option maxHeartbeats 4000000 in
theorem FnExactParkingAt : laws_FnExactParkingAt.Pure := by
  intro a0 a1 _ _
  refine Ev.rounds ?_
  simp only [laws_FnExactParkingAt.f]
  have hlen := atR_len a0 a1
  have S := spec_ParkingAt.ev a0 a1
  have I := impl_ParkingAt.ev a0 a1
  generalize hgen : atR a0 a1 = r at S I
  have R := laws_eqIntS.ev_self (r.1) (by subst hgen; omega)
  have MR := laws_markIntS.ev (r.1) (by subst hgen; omega)
  have HR := laws_heldIntS.ev (r.1).length (by subst hgen; omega)
  repeat' first
    | exact Ev.now _
    | (with_reducible refine Ev.bind S ?_)
    | (with_reducible refine Ev.bind I ?_)
    | (with_reducible refine Ev.bind R ?_)
    | (with_reducible refine Ev.bind MR ?_)
    | (with_reducible refine Ev.bind HR ?_)
    | (with_reducible refine Ev.step (fun k => laws_FnExactParkingAt.j0.eq_2 ..) ?_)
    | (with_reducible refine Ev.step (fun k => laws_FnExactParkingAt.j1.eq_2 ..) ?_)
    | refine ev_pos (by with_reducible rfl) ?_
    | refine ev_neg (by omega) ?_
    | refine ev_neg (by simp; done) ?_
    | refine ev_pos (by omega) ?_

end Go.Proofs.Ytchhfdhnoldngaa.Pure
