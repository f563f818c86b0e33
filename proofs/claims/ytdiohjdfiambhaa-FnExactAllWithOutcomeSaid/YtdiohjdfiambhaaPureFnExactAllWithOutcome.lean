/- Proved here: the pure part of law FnExactAllWithOutcome: the Lean function printed for it answers true at all its inputs. -/
import Derived.Test.YtdiohjdfiambhaaBFnExactAllWithOutcome
namespace Go.Proofs.Ytdiohjdfiambhaa.Pure
open Go.RowKit Go.Proofs.Ytdiohjdfiambhaa.QFnExactAllWithOutcome Go.Proofs.YtdiohjdfiambhaaW.PrintWords Go.Proofs.YtdiohjdfiambhaaW.PrintLast Go.Proofs.Ytdiohjdfiambhaa.Math
set_option linter.unusedVariables false
set_option linter.unusedSimpArgs false

set_option maxHeartbeats 4000000 in
theorem FnExactAllWithOutcome : laws_FnExactAllWithOutcome.Pure := by
  intro l0 _ _ _
  refine Ev.rounds ?_
  simp only [laws_FnExactAllWithOutcome.f]
  by_cases hl0 : (l0.length : Int) > 1048576
  · exact ev_pos hl0 (Ev.now _)
  have Tl0 := laws_toIntS.ev l0 (by omega)
  have El0 := laws_eqIntS.ev_self l0 (by omega)
  have Ml0 := laws_markIntS.ev l0 (by omega)
  have S := spec_AllWithOutcome.ev l0 (by omega)
  have I := impl_AllWithOutcome.ev l0 (by omega)
  have hb := awoR_len l0
  generalize awoR l0 = r at S I hb
  have ht := totLen_le 8 r.1 hb.2
  have E1 := laws_eqIntSS.ev_self r.1 (by omega) (fun x hx => by have := hb.2 x hx; omega)
  have M1 := laws_markIntSS.ev r.1 1 (by omega) (by omega)
  have H1 := laws_heldIntSS.ev r.1 1 (by omega) (by omega) (by omega)
  exact ev_neg hl0 (Ev.bind Tl0 (ev_pos rfl (Ev.bind S (Ev.bind I (ev_pos ⟨rfl, by omega⟩ (Ev.bind E1 (Ev.bind El0 (Ev.bind Ml0 (ev_pos ⟨rfl, rfl, by dsimp only; omega⟩ (Ev.bind M1 (Ev.bind H1 (ev_pos ⟨by omega, rfl⟩ (Ev.now _)))))))))))))

end Go.Proofs.Ytdiohjdfiambhaa.Pure
