/- Proved here: the pure part of law FnExactTakenPlaces: the Lean function printed for it answers true at all its inputs. -/
import Derived.Test.YtdiohjdfiambhaaBFnExactTakenPlaces
namespace Go.Proofs.Ytdiohjdfiambhaa.Pure
open Go.RowKit Go.Proofs.Ytdiohjdfiambhaa.QFnExactTakenPlaces Go.Proofs.YtdiohjdfiambhaaW.PrintWords Go.Proofs.YtdiohjdfiambhaaW.PrintLast Go.Proofs.Ytdiohjdfiambhaa.Math
set_option linter.unusedVariables false
set_option linter.unusedSimpArgs false

set_option maxHeartbeats 4000000 in
theorem FnExactTakenPlaces : laws_FnExactTakenPlaces.Pure := by
  intro l0 a1 _ _ _ _
  refine Ev.rounds ?_
  simp only [laws_FnExactTakenPlaces.f]
  by_cases hl0 : (l0.length : Int) > 1048576
  · repeat' first | exact Ev.now _ | refine ev_pos (by assumption) ?_ | refine ev_neg (by assumption) ?_
  have Tl0 := laws_toIntS.ev l0 (by omega)
  have El0 := laws_eqIntS.ev_self l0 (by omega)
  have Ml0 := laws_markIntS.ev l0 (by omega)
  have hlen := takenR_len l0 a1
  have S := spec_TakenPlaces.ev l0 a1 (by omega)
  have I := impl_TakenPlaces.ev l0 a1 (by omega)
  generalize hgen : takenR l0 a1 = r at S I
  have R := laws_eqIntS.ev_self (r.1) (by subst hgen; omega)
  have MR := laws_markIntS.ev (r.1) (by subst hgen; omega)
  have HR := laws_heldIntS.ev (r.1).length (by subst hgen; omega)
  refine ev_neg (by assumption) ?_
  repeat' first
    | exact Ev.now _
    | (with_reducible refine Ev.bind S ?_)
    | (with_reducible refine Ev.bind I ?_)
    | (with_reducible refine Ev.bind Tl0 ?_)
    | (with_reducible refine Ev.bind El0 ?_)
    | (with_reducible refine Ev.bind Ml0 ?_)
    | (with_reducible refine Ev.bind R ?_)
    | (with_reducible refine Ev.bind MR ?_)
    | (with_reducible refine Ev.bind HR ?_)
    | (with_reducible refine Ev.step (fun k => laws_FnExactTakenPlaces.j0.eq_2 ..) ?_)
    | (with_reducible refine Ev.step (fun k => laws_FnExactTakenPlaces.j1.eq_2 ..) ?_)
    | (with_reducible refine Ev.step (fun k => laws_FnExactTakenPlaces.j2.eq_2 ..) ?_)
    | refine ev_pos (by with_reducible rfl) ?_
    | refine ev_neg (by omega) ?_
    | refine ev_neg (by simp; done) ?_
    | refine ev_pos (by omega) ?_

end Go.Proofs.Ytdiohjdfiambhaa.Pure
