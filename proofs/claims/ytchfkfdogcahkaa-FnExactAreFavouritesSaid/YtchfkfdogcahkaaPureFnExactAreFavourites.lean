/- Proved here: the pure part of law FnExactAreFavourites: the Lean function printed for it answers true at all its inputs. -/
import Derived.Test.YtchfkfdogcahkaaBFnExactAreFavourites
namespace Go.Proofs.Ytchfkfdogcahkaa.Pure
open Go.RowKit Go.Proofs.Ytchfkfdogcahkaa.QFnExactAreFavourites Go.Proofs.YtchfkfdogcahkaaW.PrintWords Go.Proofs.YtchfkfdogcahkaaW.PrintLast

theorem FnExactAreFavourites : laws_FnExactAreFavourites.Pure := by
  intro l0 a1 _ _ _ _
  refine Ev.rounds ?_
  simp only [laws_FnExactAreFavourites.f]
  by_cases h : (l0.length : Int) > 1048576
  · exact ev_pos h (Ev.now _)
  have T := laws_toIntS.ev l0 (by omega)
  have S := spec_AreFavourites.ev l0 a1 (by omega)
  have I := ev_eq (impl_AreFavourites.is l0 a1 (by omega))
  have E := laws_eqIntS.ev_self l0 (by omega)
  refine ev_neg h (Ev.bind T (Ev.bind S (Ev.bind T (Ev.bind I (ev_neg (by simp) (Ev.bind T (Ev.bind E ?_)))))))
  exact ev_pos rfl (Ev.now _)

end Go.Proofs.Ytchfkfdogcahkaa.Pure
