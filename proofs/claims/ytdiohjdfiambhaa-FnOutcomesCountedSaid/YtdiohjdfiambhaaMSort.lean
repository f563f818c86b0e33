/- Plain law: the numbers of a list in increasing order stand at places that are not less than they are just where the list is a parking function. -/
import Derived.Test.YtdiohjdfiambhaaMRing
import Derived.Test.YtdiohjdfiambhaaMLesser
namespace Go.Proofs.Ytdiohjdfiambhaa.Math
open Go.RowKit
set_option linter.unusedVariables false
set_option linter.unusedSimpArgs false

/-- in increasing order -/
def up2 : List Int → Prop
  | [] => True
  | x :: l => (∀ y ∈ l, x ≤ y) ∧ up2 l
theorem up2_get : ∀ (l : List Int), up2 l → ∀ i j (h1 : i < l.length) (h2 : j < l.length), i ≤ j → l[i] ≤ l[j]
  | [], _, i, _, h1, _, _ => by simp at h1
  | x :: l, h, 0, 0, _, _, _ => Int.le_refl _
  | x :: l, h, 0, j + 1, _, h2, _ => h.1 _ (List.getElem_mem _)
  | x :: l, h, i + 1, 0, _, _, hij => by omega
  | x :: l, h, i + 1, j + 1, h1, h2, hij => up2_get l h.2 i j (by simpa using h1) (by simpa using h2) (by omega)
theorem up2_pairwise : ∀ (l : List Int), up2 l ↔ l.Pairwise (fun a b => a ≤ b)
  | [] => by simp [up2]
  | x :: l => by
    rw [List.pairwise_cons, ← up2_pairwise l]
    rfl
/-- two lists of the same numbers in increasing order are one -/
theorem up2_eq : ∀ (l m : List Int), up2 l → up2 m → l.Perm m → l = m
  | [], m, _, _, h => (h.nil_eq)
  | x :: l, [], _, _, h => by have := h.length_eq; simp at this
  | x :: l, y :: m, hl, hm, h => by
    have hx : x ∈ y :: m := h.mem_iff.mp List.mem_cons_self
    have hy : y ∈ x :: l := h.mem_iff.mpr List.mem_cons_self
    have e : x = y := by
      rcases List.mem_cons.mp hx with e | hx
      · exact e
      · rcases List.mem_cons.mp hy with e | hy
        · exact e.symm
        · have := hm.1 x hx
          have := hl.1 y hy
          omega
    subst e
    rw [up2_eq l m hl.2 hm.2 (List.perm_cons x |>.mp h)]
theorem ge_from : ∀ (l : List Int) (j : Int) (i : Nat), (∀ x ∈ l.take i, x < j) → ge l j ≤ l.length - i
  | l, j, 0, _ => by unfold ge; exact List.countP_le_length
  | [], j, i + 1, _ => by simp [ge]
  | x :: l, j, i + 1, h => by
    have h1 := h x (by simp)
    have h2 := ge_from l j i (fun y hy => h y (by simp; exact .inr hy))
    rw [ge_cons, if_neg (by omega)]
    simp only [List.length_cons]
    omega
theorem ge_to : ∀ (l : List Int) (j : Int) (i : Nat), (∀ x ∈ l.drop i, j ≤ x) → l.length - i ≤ ge l j
  | [], j, i, _ => by simp
  | x :: l, j, 0, h => by
    have h1 := h x (by simp)
    have h2 := ge_to l j 0 (fun y hy => h y (by simp at hy ⊢; exact .inr hy))
    rw [ge_cons, if_pos h1]
    simp only [List.length_cons]
    omega
  | x :: l, j, i + 1, h => by
    have h2 := ge_to l j i (fun y hy => h y (by simpa using hy))
    rw [ge_cons]
    simp only [List.length_cons]
    omega
/-- each number at most its index -/
def fits (s : List Int) : Prop := ∀ i (h : i < s.length), s[i] ≤ (i : Int)
theorem fits_noRefuse (s : List Int) (hs : up2 s) : fits s ↔ ∀ j : Int, 0 ≤ j → j ≤ s.length → (ge s j : Int) ≤ s.length - j := by
  constructor
  · intro h j j0 j1
    have h1 := ge_from s j j.toNat (fun x hx => by
      obtain ⟨i, hi, rfl⟩ := List.getElem_of_mem hx
      rw [List.length_take] at hi
      rw [List.getElem_take]
      have := h i (by omega)
      omega)
    omega
  · intro h i hi
    apply Classical.byContradiction
    intro hc
    have h1 := ge_to s ((i : Int) + 1) i (fun x hx => by
      obtain ⟨k, hk, rfl⟩ := List.getElem_of_mem hx
      rw [List.length_drop] at hk
      rw [List.getElem_drop]
      have := up2_get s hs i (i + k) hi (by omega) (by omega)
      omega)
    have h2 := h ((i : Int) + 1) (by omega) (by omega)
    omega
/-- a list is a parking function where its numbers in increasing order fit -/
theorem isPk_fits (l s : List Int) (hp : s.Perm l) (hs : up2 s) (h8 : l.length ≤ 8) (h0 : ∀ x ∈ l, 0 ≤ x) : isPk l = true ↔ fits s := by
  have hlen := hp.length_eq
  rw [fits_noRefuse s hs]
  constructor
  · intro h j j0 j1
    obtain ⟨_, hx, hk⟩ := (isPk_parts l).mp h
    rw [ge_perm hp j, hlen]
    by_cases e : j = l.length
    · rw [e, ge_top l _ (fun x hx2 => (hx x hx2).2)]
      omega
    · exact (park_iff l l.length hx).mp hk j j0 (by omega)
  · intro h
    have hx : ∀ x ∈ l, 0 ≤ x ∧ x < (l.length : Int) := by
      intro x hx
      refine ⟨h0 x hx, ?_⟩
      apply Classical.byContradiction
      intro hc
      have h1 := h s.length (by omega) (by omega)
      have h2 : 0 < ge s s.length := List.countP_pos_iff.mpr ⟨x, hp.mem_iff.mpr hx, decide_eq_true (by omega)⟩
      omega
    refine (isPk_parts l).mpr ⟨h8, hx, (park_iff l l.length hx).mpr (fun j j0 j1 => ?_)⟩
    have := h j j0 (by omega)
    rw [← ge_perm hp j]
    omega

end Go.Proofs.Ytdiohjdfiambhaa.Math
