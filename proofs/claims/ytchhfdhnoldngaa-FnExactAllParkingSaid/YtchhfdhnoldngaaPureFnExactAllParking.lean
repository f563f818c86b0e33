/- Proved here: the pure part of law FnExactAllParking: the Lean function printed for it answers true at all its inputs. -/
import Derived.Test.YtchhfdhnoldngaaBFnExactAllParking
namespace Go.Proofs.Ytchhfdhnoldngaa.Pure
open Go.RowKit Go.Proofs.Ytchhfdhnoldngaa.QFnExactAllParking Go.Proofs.YtchhfdhnoldngaaW.PrintWords Go.Proofs.YtchhfdhnoldngaaW.PrintLast Go.Proofs.Ytchhfdhnoldngaa.Math
set_option linter.unusedVariables false
set_option linter.unusedSimpArgs false

theorem FnExactAllParking : laws_FnExactAllParking.Pure := by
  intro a0 _
  refine Ev.rounds ?_
  have S := spec_AllParking.ev a0
  have I := impl_AllParking.ev a0
  have hb : (allPR a0).1.length ≤ 16777216 ∧ ∀ x ∈ (allPR a0).1, x.length ≤ 8 := by
    unfold allPR
    split
    · rename_i h
      refine ⟨ext_len _ (by omega) _ _ (by simp) (fun x hx => by cases hx), fun x hx => ?_⟩
      obtain ⟨s, rfl, hs, _⟩ := ext_prefix a0.toNat a0.toNat [] x hx
      omega
    · exact ⟨by simp, fun x hx => by cases hx⟩
  generalize allPR a0 = r at S I hb
  have ht := totLen_le 8 r.1 hb.2
  have E1 := laws_eqIntSS.ev_self r.1 (by omega) (fun x hx => by have := hb.2 x hx; omega)
  have M1 := laws_markIntSS.ev r.1 1 (by omega) (by omega)
  have H1 := laws_heldIntSS.ev r.1 1 (by omega) (by omega) (by omega)
  simp only [laws_FnExactAllParking.f]
  refine Ev.bind S (Ev.bind I (ev_pos ⟨rfl, by omega⟩ (Ev.bind E1 (ev_pos rfl (Ev.bind M1 (Ev.bind H1 (ev_pos ⟨by omega, rfl⟩ (Ev.now _))))))))

end Go.Proofs.Ytchhfdhnoldngaa.Pure
