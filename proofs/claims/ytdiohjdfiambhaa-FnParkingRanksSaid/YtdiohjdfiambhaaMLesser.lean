/- Plain law: a list that is nowhere greater than a parking function is one. -/
import Derived.Test.YtdiohjdfiambhaaMCrit
namespace Go.Proofs.Ytdiohjdfiambhaa.Math
open Go.RowKit
set_option linter.unusedVariables false
set_option linter.unusedSimpArgs false

/-- as long, and nowhere greater -/
def ptLe : List Int → List Int → Prop
  | [], [] => True
  | x :: a, y :: b => x ≤ y ∧ ptLe a b
  | _, _ => False
theorem ptLe_len : ∀ (a b : List Int), ptLe a b → a.length = b.length
  | [], [], _ => rfl
  | x :: a, y :: b, h => by
    have := ptLe_len a b h.2
    simp only [List.length_cons, this]
  | [], y :: b, h => h.elim
  | x :: a, [], h => h.elim
theorem ptLe_of_get : ∀ (a b : List Int), a.length = b.length → (∀ i (h1 : i < a.length) (h2 : i < b.length), a[i] ≤ b[i]) → ptLe a b
  | [], [], _, _ => trivial
  | x :: a, y :: b, hl, h => ⟨h 0 (by simp) (by simp), ptLe_of_get a b (by simpa using hl) (fun i h1 h2 => h (i + 1) (by simp; omega) (by simp; omega))⟩
  | [], y :: b, hl, _ => by simp at hl
  | x :: a, [], hl, _ => by simp at hl
theorem ptLe_get : ∀ (a b : List Int), ptLe a b → ∀ i (h1 : i < a.length) (h2 : i < b.length), a[i] ≤ b[i]
  | x :: a, y :: b, h, 0, _, _ => h.1
  | x :: a, y :: b, h, i + 1, h1, h2 => ptLe_get a b h.2 i (by simpa using h1) (by simpa using h2)
  | [], _, _, i, h1, _ => by simp at h1
  | x :: a, [], h, _, _, _ => h.elim
theorem ge_ptLe : ∀ (a b : List Int), ptLe a b → ∀ j : Int, ge a j ≤ ge b j
  | [], [], _, _ => Nat.le_refl _
  | x :: a, y :: b, h, j => by
    have ih := ge_ptLe a b h.2 j
    have h1 := h.1
    rw [ge_cons, ge_cons]
    by_cases c : j ≤ x
    · rw [if_pos c, if_pos (by omega)]
      omega
    · rw [if_neg c]
      omega
  | [], y :: b, h, _ => h.elim
  | x :: a, [], h, _ => h.elim
theorem isPk_parts (l : List Int) : isPk l = true ↔ l.length ≤ 8 ∧ (∀ x ∈ l, 0 ≤ x ∧ x < (l.length : Int)) ∧ allPark l l.length = true := by
  unfold isPk
  rw [Bool.and_eq_true, Bool.and_eq_true, decide_eq_true_eq, List.all_eq_true]
  constructor
  · rintro ⟨⟨a, b⟩, c⟩
    refine ⟨a, fun x hx => ?_, c⟩
    have := b x hx
    rw [Bool.and_eq_true, decide_eq_true_eq, decide_eq_true_eq] at this
    omega
  · rintro ⟨a, b, c⟩
    refine ⟨⟨a, fun x hx => ?_⟩, c⟩
    have := b x hx
    rw [Bool.and_eq_true, decide_eq_true_eq, decide_eq_true_eq]
    omega
theorem isPk_ptLe (a b : List Int) (h : ptLe a b) (h0 : ∀ x ∈ a, 0 ≤ x) (hb : isPk b = true) : isPk a = true := by
  have hl := ptLe_len a b h
  obtain ⟨b8, bx, bp⟩ := (isPk_parts b).mp hb
  have hg := ge_ptLe a b h
  have hx : ∀ x ∈ a, 0 ≤ x ∧ x < (a.length : Int) := by
    intro x hx
    refine ⟨h0 x hx, ?_⟩
    apply Classical.byContradiction
    intro hc
    have h1 := hg a.length
    rw [ge_top b a.length (fun y hy => by rw [hl]; exact (bx y hy).2)] at h1
    have h2 : 0 < ge a a.length := List.countP_pos_iff.mpr ⟨x, hx, decide_eq_true (by omega)⟩
    omega
  refine (isPk_parts a).mpr ⟨by omega, hx, (park_iff a a.length hx).mpr (fun j j0 j1 => ?_)⟩
  have h1 := (park_iff b b.length bx).mp bp j j0 (by omega)
  have h2 := hg j
  omega

end Go.Proofs.Ytdiohjdfiambhaa.Math
