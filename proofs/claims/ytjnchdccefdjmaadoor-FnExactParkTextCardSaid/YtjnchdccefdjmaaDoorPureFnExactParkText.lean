/- Proved here: the pure part of law FnExactParkText: the Lean function printed for it answers true at all its inputs. -/
import Derived.Test.YtjnchdccefdjmaaDoorBFnExactParkText
namespace Go.Proofs.YtjnchdccefdjmaaDoor.Pure
open Go.RowKit Go.Proofs.YtjnchdccefdjmaaDoor.QFnExactParkText Go.Proofs.YtjnchdccefdjmaaDoorW.PrintWords Go.Proofs.YtjnchdccefdjmaaDoorW.PrintLast Go.Proofs.YtjnchdccefdjmaaDoor.Math
set_option linter.unusedVariables false
set_option linter.unusedSimpArgs false

theorem FnExactParkText : laws_FnExactParkText.Pure := by
  intro l0 _ _ _
  refine Ev.rounds ?_
  simp only [laws_FnExactParkText.f]
  by_cases hl0 : (l0.length : Int) > 1048576
  · exact ev_pos hl0 (Ev.now _)
  have Tl0 := laws_toIntS.ev l0 (by omega)
  have El0 := laws_eqIntS.ev_self l0 (by omega)
  have S := spec_ParkText.ev l0 (by omega)
  have I := impl_ParkText.ev l0 (by omega)
  exact ev_neg hl0 (Ev.bind Tl0 (Ev.bind S (Ev.bind Tl0 (Ev.bind I (ev_pos rfl (Ev.step (fun k => laws_FnExactParkText.j0.eq_2 ..) (ev_neg (by simp) (Ev.bind Tl0 (Ev.bind El0 (ev_pos rfl (Ev.now _)))))))))))

end Go.Proofs.YtjnchdccefdjmaaDoor.Pure
