/- Law FnExactCountByFirst, pure part: the Lean function printed for it answers true for every whole number. -/
import Derived.Test.YtpajmgbhlpbojaaQFnExactCountByFirstx5
namespace Go.Proofs.Ytpajmgbhlpbojaa.Pure
open Go.RowKit Go.Proofs.Ytpajmgbhlpbojaa.QFnExactCountByFirst Go.Proofs.YtpajmgbhlpbojaaW.PrintWords Go.Proofs.YtpajmgbhlpbojaaW.PrintLast

theorem in_no {f : Int → Int → Int → Option Bool} (hf : ∀ a b c, f a b c = if a ≥ b then (some (decide (a ≤ c))) else (some false)) (a b c : Int) (h : ¬ (b ≤ a ∧ a ≤ c)) : f a b c = some false := by
  rw [hf]
  by_cases h1 : a ≥ b
  · rw [if_pos h1, decide_eq_false (by omega)]
  · rw [if_neg h1]

theorem all_in : ∀ i : Fin 8, laws_FnExactCountByFirst.f 1000 (((i.val : Nat) : Int) + 1) = some true := by decide +kernel

theorem FnExactCountByFirst : laws_FnExactCountByFirst.Pure := by
  intro a0 _
  refine ⟨1000, ?_⟩
  by_cases h : 1 ≤ a0 ∧ a0 ≤ 8
  · have hc := all_in ⟨(a0 - 1).toNat, by omega⟩
    have e : ((((⟨(a0 - 1).toNat, by omega⟩ : Fin 8).val : Nat) : Int) + 1) = a0 := by
      show (((a0 - 1).toNat : Nat) : Int) + 1 = a0
      omega
    rw [e] at hc
    exact hc
  · have h1 := in_no (f := spec_l1In.f) (fun _ _ _ => rfl) a0 1 8 h
    have h2 := in_no (f := impl_between.f) (fun _ _ _ => rfl) a0 1 8 h
    have e1 : laws_eqIntS.f 1000 [] [] = some true := rfl
    have e2 : laws_eqIntS.f 999 [] [] = some true := rfl
    have e3 : laws_markIntS.f 999 [] 1 = laws_markIntS.f 999 [] 1 := rfl
    have s1 : spec_CountByFirst.f 1000 a0 = some ([], false) := by unfold spec_CountByFirst.f; rw [h1]; rfl
    have s2 : impl_CountByFirst.f 1000 a0 = some ([], false) := by unfold impl_CountByFirst.f; rw [h2]; rfl
    have s3 : impl_CountByFirst.f 999 a0 = some ([], false) := by unfold impl_CountByFirst.f; rw [h2]; rfl
    unfold laws_FnExactCountByFirst.f
    rw [s1, Option.bind_some, s2, Option.bind_some]
    dsimp only
    rw [e1, Option.bind_some, if_pos rfl]
    show laws_FnExactCountByFirst.j0 (999 + 1) a0 [] false [] false = some true
    rw [laws_FnExactCountByFirst.j0]
    generalize impl_CountByFirst.f 999 a0 = o at s3 ⊢
    subst s3
    rfl

end Go.Proofs.Ytpajmgbhlpbojaa.Pure
