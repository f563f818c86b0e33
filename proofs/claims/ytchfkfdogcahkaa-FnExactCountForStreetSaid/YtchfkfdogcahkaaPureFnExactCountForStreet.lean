/- Law FnExactCountForStreet, pure part: the Lean function printed for it answers true for every two whole numbers. -/
import Derived.Test.YtchfkfdogcahkaaPFnExactCountForStreetx1
namespace Go.Proofs.Ytchfkfdogcahkaa.Pure
open Go.RowKit Go.Proofs.Ytchfkfdogcahkaa.PFnExactCountForStreet Go.Proofs.YtchfkfdogcahkaaW.PrintWords Go.Proofs.YtchfkfdogcahkaaW.PrintLast

theorem in_no {f : Int → Int → Int → Option Bool} (hf : ∀ a b c, f a b c = if a ≥ b then (some (decide (a ≤ c))) else (some false)) (a b c : Int) (h : ¬ (b ≤ a ∧ a ≤ c)) : f a b c = some false := by
  rw [hf]
  by_cases h1 : a ≥ b
  · rw [if_pos h1, decide_eq_false (by omega)]
  · rw [if_neg h1]

theorem all_in : ∀ i : Fin 9, ∀ j : Fin 12, laws_FnExactCountForStreet.f 60 ((i.val : Nat) : Int) (((j.val : Nat) : Int) + 1) = some true := by decide +kernel

theorem FnExactCountForStreet : laws_FnExactCountForStreet.Pure := by
  intro a0 a1 _ _
  refine ⟨60, ?_⟩
  by_cases h : 0 ≤ a0 ∧ a0 ≤ 8
  · by_cases g : 1 ≤ a1 ∧ a1 ≤ 12
    · have hc := all_in ⟨a0.toNat, by omega⟩ ⟨(a1 - 1).toNat, by omega⟩
      have e : (((⟨a0.toNat, by omega⟩ : Fin 9).val : Nat) : Int) = a0 := by
        show ((a0.toNat : Nat) : Int) = a0
        omega
      have e' : ((((⟨(a1 - 1).toNat, by omega⟩ : Fin 12).val : Nat) : Int) + 1) = a1 := by
        show (((a1 - 1).toNat : Nat) : Int) + 1 = a1
        omega
      rw [e, e'] at hc
      exact hc
    · have g1 := in_no (f := spec_l1In.f) (fun _ _ _ => rfl) a1 1 12 g
      have g2 := in_no (f := impl_between.f) (fun _ _ _ => rfl) a1 1 12 g
      have h1 : spec_l1In.f a0 0 8 = some true := by unfold spec_l1In.f; rw [if_pos (by omega), decide_eq_true (by omega)]
      have h2 : impl_between.f a0 0 8 = some true := by unfold impl_between.f; rw [if_pos (by omega), decide_eq_true (by omega)]
      simp [laws_FnExactCountForStreet.f, spec_CountForStreet.f, impl_CountForStreet.f, spec_cnCars.f, impl_isCars.f, spec_paStreet.f, spec_CountForStreet.j0, impl_CountForStreet.j0, h1, h2, g1, g2]
  · have h1 := in_no (f := spec_l1In.f) (fun _ _ _ => rfl) a0 0 8 h
    have h2 := in_no (f := impl_between.f) (fun _ _ _ => rfl) a0 0 8 h
    simp [laws_FnExactCountForStreet.f, spec_CountForStreet.f, impl_CountForStreet.f, spec_cnCars.f, impl_isCars.f, spec_CountForStreet.j0, impl_CountForStreet.j0, h1, h2]

end Go.Proofs.Ytchfkfdogcahkaa.Pure
