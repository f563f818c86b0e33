/- Law FnExactCountTrees, pure part: the Lean function printed for it answers true for every whole number. -/
import Derived.Test.YtchfkfdogcahkaaPFnExactCountTreesx1
namespace Go.Proofs.Ytchfkfdogcahkaa.Pure
open Go.RowKit Go.Proofs.Ytchfkfdogcahkaa.PFnExactCountTrees Go.Proofs.YtchfkfdogcahkaaW.PrintWords Go.Proofs.YtchfkfdogcahkaaW.PrintLast

theorem in_no {f : Int → Int → Int → Option Bool} (hf : ∀ a b c, f a b c = if a ≥ b then (some (decide (a ≤ c))) else (some false)) (a b c : Int) (h : ¬ (b ≤ a ∧ a ≤ c)) : f a b c = some false := by
  rw [hf]
  by_cases h1 : a ≥ b
  · rw [if_pos h1, decide_eq_false (by omega)]
  · rw [if_neg h1]

theorem all_in : ∀ i : Fin 9, laws_FnExactCountTrees.f 60 (((i.val : Nat) : Int) + 0) = some true := by decide +kernel

theorem FnExactCountTrees : laws_FnExactCountTrees.Pure := by
  intro a0 _
  refine ⟨60, ?_⟩
  by_cases h : 0 ≤ a0 ∧ a0 ≤ 8
  · have hc := all_in ⟨(a0 - 0).toNat, by omega⟩
    have e : ((((⟨(a0 - 0).toNat, by omega⟩ : Fin 9).val : Nat) : Int) + 0) = a0 := by
      show (((a0 - 0).toNat : Nat) : Int) + 0 = a0
      omega
    rw [e] at hc
    exact hc
  · have h1 := in_no (f := spec_l1In.f) (fun _ _ _ => rfl) a0 0 8 h
    have h2 := in_no (f := impl_between.f) (fun _ _ _ => rfl) a0 0 8 h
    simp [laws_FnExactCountTrees.f, spec_CountTrees.f, impl_CountTrees.f, impl_CountParking.f, impl_isCars.f, h1, h2]

end Go.Proofs.Ytchfkfdogcahkaa.Pure
