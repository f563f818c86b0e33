/- Plain law on cars on a circle of places: where a car comes to stand, and that it does where a place is free. -/
import Derived.Test.YtdiohjdfiambhaaMDrive
import Derived.Test.YtdiohjdfiambhaaMCrit
namespace Go.Proofs.Ytdiohjdfiambhaa.Math
open Go.RowKit
set_option linter.unusedVariables false
set_option linter.unusedSimpArgs false

/-- on a circle of p places: the first free place from x on, looked for d times -/
def clandF (out : List Int) (p : Int) : Nat → Int → Int
  | 0, x => x
  | d + 1, x => if x ∈ out then clandF out p d ((x + 1) % p) else x
def cland (out : List Int) (p x : Int) : Int := clandF out p p.toNat x
theorem clandF_stop (out : List Int) (p : Int) : ∀ (d e : Nat) (x : Int), clandF out p d x ∉ out → clandF out p (d + e) x = clandF out p d x
  | 0, 0, _, _ => rfl
  | 0, e + 1, x, h => by
    have h' : x ∉ out := h
    simp only [Nat.zero_add, clandF, if_neg h']
  | d + 1, e, x, h => by
    rw [show d + 1 + e = (d + e) + 1 by omega]
    simp only [clandF] at h ⊢
    by_cases hm : x ∈ out
    · rw [if_pos hm] at h ⊢
      rw [if_pos hm]
      exact clandF_stop out p d e _ h
    · rw [if_neg hm, if_neg hm]
theorem mod_step (p x y : Int) (hx0 : 0 ≤ x) (hx1 : x < p) (hy0 : 0 ≤ y) (hy1 : y < p) (hne : x ≠ y) : ((y - (x + 1) % p) % p).toNat + 1 = ((y - x) % p).toNat := by
  by_cases h : x < y
  · rw [Int.emod_eq_of_lt (show 0 ≤ x + 1 by omega) (by omega), Int.emod_eq_of_lt (by omega) (by omega), Int.emod_eq_of_lt (by omega) (by omega)]
    omega
  · have e1 : (y - x) % p = y - x + p := by
      rw [← Int.add_emod_right, Int.emod_eq_of_lt (by omega) (by omega)]
    rw [e1]
    by_cases h2 : x + 1 = p
    · rw [h2, Int.emod_self, Int.sub_zero, Int.emod_eq_of_lt (by omega) (by omega)]
      omega
    · rw [Int.emod_eq_of_lt (show 0 ≤ x + 1 by omega) (by omega)]
      have e2 : (y - (x + 1)) % p = y - (x + 1) + p := by
        rw [← Int.add_emod_right, Int.emod_eq_of_lt (by omega) (by omega)]
      rw [e2]
      omega
theorem mod_range (p x : Int) (hp : 0 < p) : 0 ≤ (x + 1) % p ∧ (x + 1) % p < p := ⟨Int.emod_nonneg _ (by omega), Int.emod_lt_of_pos _ hp⟩
theorem clandF_free (out : List Int) (p y : Int) (hy0 : 0 ≤ y) (hy1 : y < p) (hy : y ∉ out) : ∀ (m : Nat) (x : Int), 0 ≤ x → x < p → ((y - x) % p).toNat = m → clandF out p m x ∉ out
  | 0, x, h0, h1, e => by
    by_cases hxy : x = y
    · subst hxy
      exact hy
    · have := mod_step p x y h0 h1 hy0 hy1 hxy
      omega
  | m + 1, x, h0, h1, e => by
    simp only [clandF]
    by_cases hm : x ∈ out
    · rw [if_pos hm]
      have hne : x ≠ y := fun h => hy (h ▸ hm)
      have h2 := mod_step p x y h0 h1 hy0 hy1 hne
      have h3 := mod_range p x (by omega)
      exact clandF_free out p y hy0 hy1 hy m _ h3.1 h3.2 (by omega)
    · rw [if_neg hm]
      exact hm
theorem dist_lt (p x y : Int) (hp : 0 < p) : ((y - x) % p).toNat < p.toNat := by
  have h1 := Int.emod_nonneg (y - x) (show p ≠ 0 by omega)
  have h2 := Int.emod_lt_of_pos (y - x) hp
  omega
theorem cland_free (out : List Int) (p y : Int) (hy0 : 0 ≤ y) (hy1 : y < p) (hy : y ∉ out) (x : Int) (h0 : 0 ≤ x) (h1 : x < p) : cland out p x ∉ out := by
  unfold cland
  have h := clandF_free out p y hy0 hy1 hy _ x h0 h1 rfl
  have hd := dist_lt p x y (by omega)
  rw [show p.toNat = ((y - x) % p).toNat + (p.toNat - ((y - x) % p).toNat) by omega, clandF_stop out p _ _ x h]
  exact h
theorem cland_stop (out : List Int) (p x : Int) (h : x ∉ out) : cland out p x = x := by
  unfold cland
  cases p.toNat with
  | zero => rfl
  | succ d => simp only [clandF, if_neg h]
theorem cland_go (out : List Int) (p y : Int) (hy0 : 0 ≤ y) (hy1 : y < p) (hy : y ∉ out) (x : Int) (h0 : 0 ≤ x) (h1 : x < p) (hm : x ∈ out) : cland out p x = cland out p ((x + 1) % p) := by
  have hne : x ≠ y := fun h => hy (h ▸ hm)
  have h2 := mod_step p x y h0 h1 hy0 hy1 hne
  have h3 := mod_range p x (by omega)
  have ha := clandF_free out p y hy0 hy1 hy _ x h0 h1 rfl
  have hb := clandF_free out p y hy0 hy1 hy _ _ h3.1 h3.2 rfl
  have da := dist_lt p x y (by omega)
  have db := dist_lt p ((x + 1) % p) y (by omega)
  unfold cland
  rw [show p.toNat = ((y - x) % p).toNat + (p.toNat - ((y - x) % p).toNat) by omega, clandF_stop out p _ _ x ha]
  rw [show ((y - x) % p).toNat + (p.toNat - ((y - x) % p).toNat) = ((y - (x + 1) % p) % p).toNat + (p.toNat - ((y - (x + 1) % p) % p).toNat) by omega, clandF_stop out p _ _ _ hb]
  rw [← h2]
  simp only [clandF, if_pos hm]
theorem clandF_range (out : List Int) (p : Int) (hp : 0 < p) : ∀ (d : Nat) (x : Int), 0 ≤ x → x < p → 0 ≤ clandF out p d x ∧ clandF out p d x < p
  | 0, x, h0, h1 => ⟨h0, h1⟩
  | d + 1, x, h0, h1 => by
    simp only [clandF]
    by_cases hm : x ∈ out
    · rw [if_pos hm]
      have h3 := mod_range p x hp
      exact clandF_range out p hp d _ h3.1 h3.2
    · rw [if_neg hm]
      exact ⟨h0, h1⟩
theorem cland_range (out : List Int) (p x : Int) (h0 : 0 ≤ x) (h1 : x < p) : 0 ≤ cland out p x ∧ cland out p x < p := clandF_range out p (by omega) _ x h0 h1
/-- fewer cars than places: one is free -/
theorem free_place (out : List Int) (p : Int) (hp : 0 < p) (h : (out.length : Int) < p) : ∃ y, 0 ≤ y ∧ y < p ∧ y ∉ out := by
  apply Classical.byContradiction
  intro hn
  have full : ∀ y, 0 ≤ y → y < p → y ∈ out := fun y a b => by
    apply Classical.byContradiction
    intro hm
    exact hn ⟨y, a, b, hm⟩
  have h1 := ge_full out p p.toNat 0 (by omega) full
  have h2 : ge out 0 ≤ out.length := List.countP_le_length
  omega
/-- the places of cars on a circle -/
def cdrv (p : Int) : List Int → List Int → List Int
  | out, [] => out
  | out, x :: l => cdrv p (out ++ [cland out p x]) l
theorem cdrv_length (p : Int) : ∀ (l out : List Int), (cdrv p out l).length = out.length + l.length
  | [], out => rfl
  | x :: l, out => by
    simp only [cdrv, cdrv_length p l, List.length_append, List.length_cons, List.length_nil]
    omega

end Go.Proofs.Ytdiohjdfiambhaa.Math
