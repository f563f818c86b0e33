/- Proved here: the pure part of law FnExactParsePark: the Lean function printed for it answers true at all its inputs. -/
import Derived.Test.YtjnchdccefdjmaaDoorBFnExactParsePark
namespace Go.Proofs.YtjnchdccefdjmaaDoor.Pure
open Go.RowKit Go.Proofs.YtjnchdccefdjmaaDoor.QFnExactParsePark Go.Proofs.YtjnchdccefdjmaaDoorW.PrintWords Go.Proofs.YtjnchdccefdjmaaDoorW.PrintLast Go.Proofs.YtjnchdccefdjmaaDoor.Math
set_option linter.unusedVariables false
set_option linter.unusedSimpArgs false

set_option maxHeartbeats 4000000 in
theorem FnExactParsePark : laws_FnExactParsePark.Pure := by
  intro a0 _
  refine Ev.rounds ?_
  simp only [laws_FnExactParsePark.f]
  by_cases hl0 : (a0.size : Int) > 1048576
  · exact ev_pos hl0 (Ev.now _)
  have S := spec_ParsePark.ev a0 (by omega)
  have I := impl_ParsePark.ev a0 (by omega)
  have hb := ppR_len a0.data.toList
  generalize ppR a0.data.toList = r at S I hb
  have E1 := laws_eqIntS.ev_self r.1 (by omega)
  have M1 := laws_markIntS.ev r.1 (by omega)
  have H1 := laws_heldIntS.ev r.1.length (by omega)
  exact ev_neg hl0 (Ev.bind S (Ev.bind I (Ev.bind E1 (ev_pos rfl (Ev.step (fun k => laws_FnExactParsePark.j0.eq_2 ..) (ev_neg (by simp) (Ev.bind M1 (Ev.bind H1 (ev_neg (by omega) (ev_pos rfl (Ev.bind I (Ev.bind E1 (ev_pos rfl (Ev.step (fun k => laws_FnExactParsePark.j1.eq_2 ..) (ev_neg (by simp) (Ev.bind H1 (ev_neg (by omega) (ev_pos rfl (Ev.now _)))))))))))))))))))

end Go.Proofs.YtjnchdccefdjmaaDoor.Pure
