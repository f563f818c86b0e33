/- Proved here: the pure part of law FnExactCountByLucky: the Lean function printed for it answers true at all its inputs. -/
import Derived.Test.YtchfkfdogcahkaaBFnExactCountByLucky
namespace Go.Proofs.Ytchfkfdogcahkaa.Pure
open Go.RowKit Go.Proofs.Ytchfkfdogcahkaa.QFnExactCountByLucky Go.Proofs.YtchfkfdogcahkaaW.PrintWords Go.Proofs.YtchfkfdogcahkaaW.PrintLast
set_option linter.unusedVariables false

theorem all_in : ∀ i : Fin 8, laws_FnExactCountByLucky.f 120 (((i.val : Nat) : Int) + 1) = some true := by decide +kernel

theorem FnExactCountByLucky : laws_FnExactCountByLucky.Pure := by
  intro a0 _
  by_cases h : 1 ≤ a0 ∧ a0 ≤ 8
  · refine ⟨120, ?_⟩
    have hc := all_in ⟨(a0 - 1).toNat, by omega⟩
    have e : ((((⟨(a0 - 1).toNat, by omega⟩ : Fin 8).val : Nat) : Int) + 1) = a0 := by
      show (((a0 - 1).toNat : Nat) : Int) + 1 = a0
      omega
    rw [e] at hc
    exact hc
  · refine Ev.rounds ?_
    have hb : (decide (1 ≤ a0) && decide (a0 ≤ 8)) = false := by simp; omega
    have S : Ev (fun k => spec_CountByLucky.f k a0) ([], false) := by
      simp only [spec_CountByLucky.f]
      refine Ev.bind (ev_eq (spec_l1In.is a0 1 8)) ?_
      rw [hb]
      exact ev_neg (by decide) (Ev.now _)
    have I : Ev (fun k => impl_CountByLucky.f k a0) ([], false) := by
      simp only [impl_CountByLucky.f]
      refine Ev.bind (ev_eq (impl_between.is a0 1 8)) ?_
      rw [hb]
      exact ev_neg (by decide) (Ev.now _)
    have R := laws_eqIntS.ev_self [] (by simp)
    have MR := laws_markIntS.ev [] (by simp)
    have HR := laws_heldIntS.ev ([] : List Int).length (by simp)
    simp only [laws_FnExactCountByLucky.f]
    repeat' first
      | exact Ev.now _
      | (with_reducible refine Ev.bind S ?_)
      | (with_reducible refine Ev.bind I ?_)
      | (with_reducible refine Ev.bind R ?_)
      | (with_reducible refine Ev.bind MR ?_)
      | (with_reducible refine Ev.bind HR ?_)
      | (with_reducible refine Ev.step (fun k => laws_FnExactCountByLucky.j0.eq_2 ..) ?_)
      | (with_reducible refine Ev.step (fun k => laws_FnExactCountByLucky.j1.eq_2 ..) ?_)
      | refine ev_pos (by with_reducible rfl) ?_
      | refine ev_neg (by omega) ?_
      | refine ev_neg (by simp; done) ?_
      | refine ev_pos (by omega) ?_

end Go.Proofs.Ytchfkfdogcahkaa.Pure
