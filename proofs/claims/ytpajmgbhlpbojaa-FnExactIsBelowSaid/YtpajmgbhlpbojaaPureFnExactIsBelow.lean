/- Proved here: the pure part of law FnExactIsBelow: the Lean function printed for it answers true at all its inputs. -/
import Derived.Test.YtpajmgbhlpbojaaBFnExactIsBelow
namespace Go.Proofs.Ytpajmgbhlpbojaa.Pure
open Go.RowKit Go.Proofs.Ytpajmgbhlpbojaa.QFnExactIsBelow Go.Proofs.YtpajmgbhlpbojaaW.PrintWords Go.Proofs.YtpajmgbhlpbojaaW.PrintLast Go.Proofs.Ytpajmgbhlpbojaa.Math
set_option linter.unusedVariables false
set_option linter.unusedSimpArgs false

set_option maxHeartbeats 4000000 in
theorem FnExactIsBelow : laws_FnExactIsBelow.Pure := by
  intro l0 l1 _ _ _ _ _ _
  refine Ev.rounds ?_
  simp only [laws_FnExactIsBelow.f]
  by_cases hl0 : (l0.length : Int) > 1048576
  · repeat' first | exact Ev.now _ | refine ev_pos (by assumption) ?_ | refine ev_neg (by assumption) ?_
  by_cases hl1 : (l1.length : Int) > 1048576
  · repeat' first | exact Ev.now _ | refine ev_pos (by assumption) ?_ | refine ev_neg (by assumption) ?_
  have Tl0 := laws_toIntS.ev l0 (by omega)
  have El0 := laws_eqIntS.ev_self l0 (by omega)
  have Tl1 := laws_toIntS.ev l1 (by omega)
  have El1 := laws_eqIntS.ev_self l1 (by omega)
  have S := spec_IsBelow.ev l0 l1 (by omega) (by omega)
  have I := impl_IsBelow.ev l0 l1 (by omega) (by omega)
  generalize hgen : isBelowR l0 l1 = r at S I
  refine ev_neg (by assumption) ?_
  refine ev_neg (by assumption) ?_
  repeat' first
    | exact Ev.now _
    | (with_reducible refine Ev.bind S ?_)
    | (with_reducible refine Ev.bind I ?_)
    | (with_reducible refine Ev.bind Tl0 ?_)
    | (with_reducible refine Ev.bind El0 ?_)
    | (with_reducible refine Ev.bind Tl1 ?_)
    | (with_reducible refine Ev.bind El1 ?_)
    | (with_reducible refine Ev.step (fun k => laws_FnExactIsBelow.j0.eq_2 ..) ?_)
    | refine ev_pos (by with_reducible rfl) ?_
    | refine ev_neg (by omega) ?_
    | refine ev_neg (by simp; done) ?_
    | refine ev_pos (by omega) ?_

end Go.Proofs.Ytpajmgbhlpbojaa.Pure
