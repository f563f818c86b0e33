/- Proved here: the pure part of law FnExactAllSorted: the Lean function printed for it answers true at all its inputs. -/
import Derived.Test.YtjnchdccefdjmaaBFnExactAllSorted
namespace Go.Proofs.Ytjnchdccefdjmaa.Pure
open Go.RowKit Go.Proofs.Ytjnchdccefdjmaa.QFnExactAllSorted Go.Proofs.YtjnchdccefdjmaaW.PrintWords Go.Proofs.YtjnchdccefdjmaaW.PrintLast
set_option linter.unusedVariables false
set_option linter.unusedSimpArgs false

theorem FnExactAllSorted : laws_FnExactAllSorted.Pure := by
  intro a0 _
  refine Ev.rounds ?_
  have S := spec_AllSorted.ev a0
  have I := impl_AllSorted.ev a0
  have hb : (allSR a0).1.length ≤ 16777216 ∧ ∀ x ∈ (allSR a0).1, x.length ≤ 8 := by
    unfold allSR
    split
    · rename_i h
      have h1 := tabS_len a0.toNat (by omega)
      exact ⟨by have := h1.1; simp only; omega, fun x hx => by have := (h1.2 x hx).1; omega⟩
    · exact ⟨by simp, fun x hx => by cases hx⟩
  generalize allSR a0 = r at S I hb
  have ht := totLen_le 8 r.1 hb.2
  have E1 := laws_eqIntSS.ev_self r.1 (by omega) (fun x hx => by have := hb.2 x hx; omega)
  have M1 := laws_markIntSS.ev r.1 1 (by omega) (by omega)
  have H1 := laws_heldIntSS.ev r.1 1 (by omega) (by omega) (by omega)
  simp only [laws_FnExactAllSorted.f]
  refine Ev.bind S (Ev.bind I (ev_pos ⟨rfl, by omega⟩ (Ev.bind E1 (ev_pos rfl (Ev.bind M1 (Ev.bind H1 (ev_pos ⟨by omega, rfl⟩ (Ev.now _))))))))

end Go.Proofs.Ytjnchdccefdjmaa.Pure
