/- Plain law: two neighbouring cars that come in the other order leave the same places taken. -/
import Derived.Test.YtdiohjdfiambhaaMDrive
namespace Go.Proofs.Ytdiohjdfiambhaa.Math
open Go.RowKit
set_option linter.unusedVariables false
set_option linter.unusedSimpArgs false

theorem land_eq (out : List Int) (p : Int) : ∀ (d : Nat) (x y : Int), x + d = y → (∀ z, x ≤ z → z < y → z ∈ out ∧ z < p) → ¬ (y < p ∧ y ∈ out) → land out p x = y
  | 0, x, y, e, _, hn => by
    rw [show x = y by omega]
    exact land_stop out p y hn
  | d + 1, x, y, e, hb, hn => by
    have h := hb x (Int.le_refl x) (by omega)
    rw [land_go out p x h.2 h.1]
    exact land_eq out p d (x + 1) y (by omega) (fun z a b => hb z (by omega) b) hn
theorem land_eq' (out : List Int) (p x y : Int) (h : x ≤ y) (hb : ∀ z, x ≤ z → z < y → z ∈ out ∧ z < p) (hn : ¬ (y < p ∧ y ∈ out)) : land out p x = y := land_eq out p (y - x).toNat x y (by omega) hb hn
/-- nothing before the landing place lies beyond the end -/
theorem land_inside (out : List Int) (p : Int) : ∀ (d : Nat) (x : Int), (p - x).toNat = d → ∀ z, x ≤ z → z < land out p x → z < p
  | 0, x, h, z, h1, h2 => by
    rw [land_stop out p x (by omega)] at h2
    omega
  | d + 1, x, h, z, h1, h2 => by
    by_cases hm : x ∈ out
    · rw [land_go out p x (by omega) hm] at h2
      by_cases e : z = x
      · omega
      · exact land_inside out p d (x + 1) (by omega) z (by omega) h2
    · rw [land_stop out p x (fun h => hm h.2)] at h2
      omega
theorem land_congr {a b : List Int} (h : ∀ y, y ∈ a ↔ y ∈ b) (p x : Int) : land a p x = land b p x := by
  refine land_eq' a p x _ (land_ge b p x) (fun z h1 h2 => ⟨(h z).mpr (land_between b p _ x rfl z h1 h2), land_inside b p _ x rfl z h1 h2⟩) (fun hc => ?_)
  exact land_notin b p x hc.1 ((h _).mp hc.2)
theorem drv_congr (p : Int) : ∀ (l : List Int) {a b : List Int}, (∀ y, y ∈ a ↔ y ∈ b) → ∀ r, drv p a l = some r → ∃ s, r = a ++ s ∧ drv p b l = some (b ++ s)
  | [], a, b, h, r, hr => by
    simp only [drv, Option.some.injEq] at hr
    exact ⟨[], by simp [hr], by simp [drv]⟩
  | x :: l, a, b, h, r, hr => by
    simp only [drv] at hr ⊢
    rw [land_congr h] at hr
    by_cases hl : land b p x < p
    · rw [if_pos hl] at hr ⊢
      have h2 : ∀ y, y ∈ a ++ [land b p x] ↔ y ∈ b ++ [land b p x] := fun y => by simp [h y]
      obtain ⟨s, e1, e2⟩ := drv_congr p l h2 r hr
      exact ⟨land b p x :: s, by rw [e1, List.append_assoc]; rfl, by rw [e2, List.append_assoc]; rfl⟩
    · rw [if_neg hl] at hr
      cases hr
theorem drv_append (p : Int) : ∀ (l m out : List Int), drv p out (l ++ m) = (drv p out l).bind fun r => drv p r m
  | [], m, out => rfl
  | x :: l, m, out => by
    simp only [drv, List.cons_append]
    by_cases hl : land out p x < p
    · rw [if_pos hl, if_pos hl]
      exact drv_append p l m _
    · rw [if_neg hl, if_neg hl]
      rfl
theorem land_more (out : List Int) (p x c : Int) (ha : land out p x < p) (hne : land out p x ≠ c) : land (out ++ [c]) p x = land out p x := by
  refine land_eq' _ p x _ (land_ge out p x) (fun z h1 h2 => ⟨List.mem_append.mpr (.inl (land_between out p _ x rfl z h1 h2)), by omega⟩) (fun hc => ?_)
  rcases List.mem_append.mp hc.2 with h | h
  · exact land_notin out p x ha h
  · exact hne (by simpa using h)
theorem land_past (out : List Int) (p x c : Int) (h : ¬ land out p x < p) : ¬ land (out ++ [c]) p x < p := by
  intro hc
  have h1 := land_notin _ p x hc
  exact h1 (List.mem_append.mpr (.inl (land_between out p _ x rfl _ (land_ge _ p x) (by omega))))
theorem land_same (out : List Int) (p x y : Int) (hx : land out p x < p) (h : land out p x = land out p y) : land (out ++ [land out p x]) p x = land (out ++ [land out p x]) p (land out p x + 1) := by
  have hb := land_ge (out ++ [land out p x]) p (land out p x + 1)
  refine land_eq' _ p x _ (by have := land_ge out p x; omega) (fun z h1 h2 => ?_) (fun hc => land_notin _ p _ hc.1 hc.2)
  by_cases e : z < land out p x
  · exact ⟨List.mem_append.mpr (.inl (land_between out p _ x rfl z h1 e)), by omega⟩
  · by_cases e2 : z = land out p x
    · exact ⟨List.mem_append.mpr (.inr (by simp [e2])), by omega⟩
    · exact ⟨land_between _ p _ (land out p x + 1) rfl z (by omega) h2, land_inside _ p _ (land out p x + 1) rfl z (by omega) h2⟩
theorem drv_two (p : Int) (x y : Int) (out r : List Int) (h : drv p out [x, y] = some r) : ∃ a b, r = out ++ [a, b] ∧ (drv p out [y, x] = some (out ++ [a, b]) ∨ drv p out [y, x] = some (out ++ [b, a])) := by
  simp only [drv] at h ⊢
  by_cases hx : land out p x < p
  · rw [if_pos hx] at h
    by_cases hy : land out p y < p
    · rw [if_pos hy]
      by_cases e : land out p x = land out p y
      · by_cases h2 : land (out ++ [land out p x]) p y < p
        · rw [if_pos h2, Option.some.injEq] at h
          refine ⟨land out p x, land (out ++ [land out p x]) p y, by rw [← h, List.append_assoc]; rfl, .inl ?_⟩
          have e1 := land_same out p x y hx e
          have e2 := land_same out p y x hy e.symm
          rw [← e] at e2 ⊢
          rw [e2] at h2 ⊢
          rw [e1, if_pos h2, List.append_assoc]
          rfl
        · rw [if_neg h2] at h
          cases h
      · have m1 := land_more out p y (land out p x) hy (fun h => e h.symm)
        have m2 := land_more out p x (land out p y) hx e
        rw [m1, if_pos hy, Option.some.injEq] at h
        refine ⟨land out p x, land out p y, by rw [← h, List.append_assoc]; rfl, .inr ?_⟩
        rw [m2, if_pos hx, List.append_assoc]
        rfl
    · rw [if_neg (land_past out p y _ hy)] at h
      cases h
  · rw [if_neg hx] at h
    cases h
theorem drv_swap (p : Int) (l m : List Int) (x y : Int) (r : List Int) (h : drv p [] (l ++ x :: y :: m) = some r) : ∃ r', drv p [] (l ++ y :: x :: m) = some r' ∧ r.Perm r' := by
  rw [show l ++ x :: y :: m = (l ++ [x, y]) ++ m by simp, drv_append, drv_append] at h
  obtain ⟨q, hq, h⟩ := Option.bind_eq_some_iff.mp h
  obtain ⟨o, ho, hq⟩ := Option.bind_eq_some_iff.mp hq
  obtain ⟨a, b, e, h2⟩ := drv_two p x y o q hq
  rw [show l ++ y :: x :: m = (l ++ [y, x]) ++ m by simp, drv_append, drv_append, ho]
  rcases h2 with h2 | h2
  · exact ⟨r, by simp only [Option.bind_some, h2]; rw [← e]; exact h, List.Perm.refl r⟩
  · subst e
    have hm : ∀ z, z ∈ o ++ [a, b] ↔ z ∈ o ++ [b, a] := fun z => by simp [or_comm]
    obtain ⟨s, e1, e2⟩ := drv_congr p m hm r h
    refine ⟨o ++ [b, a] ++ s, by simp only [Option.bind_some, h2]; exact e2, ?_⟩
    rw [e1]
    exact (List.Perm.append_left o (List.Perm.swap b a [])).append_right s

end Go.Proofs.Ytdiohjdfiambhaa.Math
