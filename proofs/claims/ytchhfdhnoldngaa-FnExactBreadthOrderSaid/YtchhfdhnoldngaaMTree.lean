/- Plain law on lists of parents: a walk up reaches the root in as many steps as there are nodes, or never. -/
import Derived.WalkKit
namespace Go.Proofs.Ytchhfdhnoldngaa.Math
open Go.RowKit
set_option linter.unusedVariables false
set_option linter.unusedSimpArgs false

/-- the parent of node x -/
def up (l : List Int) (x : Int) : Int := l.getD (x - 1).toNat 0
/-- is a number that is not positive reached within d moves -/
def reach (l : List Int) : Nat → Int → Bool
  | 0, x => decide (¬ x > 0)
  | d + 1, x => if x > 0 then reach l d (up l x) else true
/-- t moves up; what is not positive stays -/
def climb (l : List Int) : Nat → Int → Int
  | 0, x => x
  | t + 1, x => climb l t (if x > 0 then up l x else x)
theorem climb_add (l : List Int) : ∀ (s t : Nat) (x : Int), climb l (s + t) x = climb l t (climb l s x)
  | 0, t, x => by rw [Nat.zero_add]; rfl
  | s + 1, t, x => by
    rw [show s + 1 + t = (s + t) + 1 by omega]
    exact climb_add l s t _
theorem climb_low (l : List Int) : ∀ (t : Nat) (x : Int), ¬ x > 0 → climb l t x = x
  | 0, _, _ => rfl
  | t + 1, x, h => by
    simp only [climb, if_neg h]
    exact climb_low l t x h
theorem reach_iff (l : List Int) : ∀ (d : Nat) (x : Int), reach l d x = true ↔ ¬ climb l d x > 0
  | 0, x => by simp [reach, climb]
  | d + 1, x => by
    simp only [reach, climb]
    by_cases h : x > 0
    · rw [if_pos h, if_pos h]
      exact reach_iff l d _
    · rw [if_neg h, if_neg h, climb_low l d x h]
      simpa using h
/-- among n + 1 numbers from 1 to n two are alike -/
theorem alike : ∀ (n : Nat) (a : Nat → Int), (∀ t, t ≤ n → 1 ≤ a t ∧ a t ≤ n) → ∃ i j, i < j ∧ j ≤ n ∧ a i = a j
  | 0, a, h => by
    have := h 0 (Nat.le_refl 0)
    omega
  | n + 1, a, h => by
    by_cases e : ∃ t, t ≤ n ∧ a t = a (n + 1)
    · obtain ⟨t, ht, e⟩ := e
      exact ⟨t, n + 1, by omega, Nat.le_refl _, e⟩
    · have ne : ∀ t, t ≤ n → a t ≠ a (n + 1) := fun t ht h => e ⟨t, ht, h⟩
      obtain ⟨i, j, hij, hj, hb⟩ := alike n (fun t => if a t = n + 1 then a (n + 1) else a t) (fun t ht => by
        have h1 := h t (by omega)
        have h2 := h (n + 1) (Nat.le_refl _)
        have h3 := ne t ht
        split
        · omega
        · omega)
      refine ⟨i, j, hij, by omega, ?_⟩
      have ni := ne i (by omega)
      have nj := ne j hj
      split at hb
      · split at hb
        · omega
        · exact absurd hb.symm nj
      · split at hb
        · exact absurd hb ni
        · exact hb
theorem up_range (l : List Int) (h : ∀ x ∈ l, 0 ≤ x ∧ x ≤ l.length) (x : Int) (h0 : 0 < x) (h1 : x ≤ l.length) : 0 ≤ up l x ∧ up l x ≤ l.length := by
  unfold up
  rw [List.getD_eq_getElem?_getD, List.getElem?_eq_getElem (show (x - 1).toNat < l.length by omega)]
  exact h _ (List.getElem_mem _)
theorem climb_range (l : List Int) (h : ∀ x ∈ l, 0 ≤ x ∧ x ≤ l.length) : ∀ (t : Nat) (x : Int), 0 ≤ x → x ≤ l.length → 0 ≤ climb l t x ∧ climb l t x ≤ l.length
  | 0, x, h0, h1 => ⟨h0, h1⟩
  | t + 1, x, h0, h1 => by
    simp only [climb]
    by_cases hx : x > 0
    · rw [if_pos hx]
      have := up_range l h x hx h1
      exact climb_range l h t _ this.1 this.2
    · rw [if_neg hx]
      exact climb_range l h t x h0 h1
/-- once not positive, ever so -/
theorem climb_later (l : List Int) (s t : Nat) (x : Int) (h : ¬ climb l s x > 0) (hst : s ≤ t) : ¬ climb l t x > 0 := by
  rw [show t = s + (t - s) by omega, climb_add, climb_low l _ _ h]
  exact h
theorem reach_more (l : List Int) (h : ∀ x ∈ l, 0 ≤ x ∧ x ≤ l.length) (x : Int) (h0 : 0 ≤ x) (h1 : x ≤ l.length) : reach l (l.length + 1) x = reach l l.length x := by
  rw [Bool.eq_iff_iff, reach_iff, reach_iff]
  constructor
  · intro hn hp
    have pos : ∀ t, t ≤ l.length → climb l t x > 0 := fun t ht => by
      apply Classical.byContradiction
      intro hc
      exact climb_later l t l.length x hc ht hp
    obtain ⟨i, j, hij, hj, e⟩ := alike l.length (fun t => climb l t x) (fun t ht => by
      have h2 := climb_range l h t x h0 h1
      have h3 := pos t ht
      omega)
    apply hn
    rw [show l.length + 1 = j + (l.length + 1 - j) by omega, climb_add, ← e, ← climb_add]
    exact pos _ (by omega)
  · exact fun hc => climb_later l l.length (l.length + 1) x hc (by omega)
/-- P at i, .., i + d - 1 -/
def allV (P : Nat → Bool) : Nat → Nat → Bool
  | _, 0 => true
  | i, d + 1 => P i && allV P (i + 1) d
theorem allV_congr (P Q : Nat → Bool) : ∀ (d i : Nat), (∀ j, i ≤ j → j < i + d → P j = Q j) → allV P i d = allV Q i d
  | 0, _, _ => rfl
  | d + 1, i, h => by
    simp only [allV]
    rw [h i (Nat.le_refl i) (by omega), allV_congr P Q d (i + 1) (fun j h1 h2 => h j (by omega) (by omega))]
/-- does a list tell a tree of at most 8 nodes -/
def isTr (l : List Int) : Bool := decide (l.length ≤ 8) && (l.all fun x => decide (0 ≤ x) && decide (x ≤ (l.length : Int))) && allV (fun v => reach l l.length ((v : Int) + 1)) 0 l.length

end Go.Proofs.Ytchhfdhnoldngaa.Math
