/- Plain law: a list with each of the first numbers once; rows of places up to a place. -/
import Derived.Test.YtdiohjdfiambhaaMSort
namespace Go.Proofs.Ytdiohjdfiambhaa.Math
open Go.RowKit
set_option linter.unusedVariables false
set_option linter.unusedSimpArgs false

theorem up_strict (s : List Int) (hs : up2 s) (hn : s.Nodup) : ∀ (d i : Nat) (h : i + d < s.length), (s[i]'(by omega)) + (d : Int) ≤ s[i + d]
  | 0, i, h => by simp
  | d + 1, i, h => by
    have h1 := up_strict s hs hn d i (by omega)
    have h2 := up2_get s hs (i + d) (i + d + 1) (by omega) (by omega) (by omega)
    have h3 := (List.pairwise_iff_getElem.mp hn) (i + d) (i + d + 1) (by omega) (by omega) (by omega)
    have e : s[i + (d + 1)] = s[i + d + 1]'(by omega) := by congr 1
    rw [e]
    omega
theorem ord_iff (l s : List Int) (hp : s.Perm l) (hs : up2 s) : (∀ i (h : i < s.length), s[i] = (i : Int)) ↔ (∀ x ∈ l, 0 ≤ x ∧ x ≤ (l.length : Int) - 1) ∧ l.Nodup := by
  have hlen := hp.length_eq
  constructor
  · intro h
    refine ⟨fun x hx => ?_, ?_⟩
    · obtain ⟨i, hi, rfl⟩ := List.getElem_of_mem (hp.mem_iff.mpr hx)
      rw [h i hi]
      omega
    · rw [← hp.nodup_iff]
      refine List.pairwise_iff_getElem.mpr (fun i j hi hj hij e => ?_)
      rw [h i hi, h j hj] at e
      omega
  · rintro ⟨hx, hn⟩ i hi
    have hn' := hp.nodup_iff.mpr hn
    have h1 := up_strict s hs hn' i 0 (by omega)
    have h2 := up_strict s hs hn' (s.length - 1 - i) i (by omega)
    have h3 := hx _ (hp.mem_iff.mp (List.getElem_mem (l := s) (n := 0) (by omega)))
    have h4 := hx _ (hp.mem_iff.mp (List.getElem_mem (l := s) (n := i + (s.length - 1 - i)) (by omega)))
    have e : s[0 + i]'(by omega) = s[i] := by congr 1; omega
    rw [e] at h1
    omega
/-- how many places in a row, from x down, are in m; looked for d times -/
def runF (m : List Int) : Nat → Int → Nat
  | 0, _ => 0
  | d + 1, x => if x ∈ m then runF m d (x - 1) + 1 else 0
def run (m : List Int) (x : Int) : Nat := runF m (x + 1).toNat x
theorem run_go (m : List Int) (x : Int) (h0 : 0 ≤ x) (h : x ∈ m) : run m x = run m (x - 1) + 1 := by
  unfold run
  rw [show (x + 1).toNat = (x - 1 + 1).toNat + 1 by omega]
  simp only [runF, if_pos h]
theorem run_stop (m : List Int) (x : Int) (h : x < 0 ∨ x ∉ m) : run m x = 0 := by
  unfold run
  by_cases h0 : x < 0
  · rw [show (x + 1).toNat = 0 by omega]
    rfl
  · rw [show (x + 1).toNat = (x - 1 + 1).toNat + 1 by omega]
    simp only [runF]
    rw [if_neg (h.resolve_left h0)]
theorem runF_more (m : List Int) (y : Int) : ∀ (d : Nat) (x : Int), x < y → runF (m ++ [y]) d x = runF m d x
  | 0, _, _ => rfl
  | d + 1, x, h => by
    simp only [runF]
    rw [runF_more m y d (x - 1) (by omega)]
    have e : x ∈ m ++ [y] ↔ x ∈ m := by
      rw [List.mem_append, List.mem_singleton]
      exact ⟨fun h2 => h2.elim (fun h => h) (fun h => by omega), fun h => .inl h⟩
    by_cases hm : x ∈ m
    · rw [if_pos hm, if_pos (e.mpr hm)]
    · rw [if_neg hm, if_neg (fun h => hm (e.mp h))]
theorem run_more (m : List Int) (y x : Int) (h : x < y) : run (m ++ [y]) x = run m x := runF_more m y _ x h
theorem runF_le (m : List Int) : ∀ (d : Nat) (x : Int), runF m d x ≤ d
  | 0, _ => Nat.le_refl _
  | d + 1, x => by
    simp only [runF]
    split
    · have := runF_le m d (x - 1)
      omega
    · omega
theorem run_le (m : List Int) (x : Int) : run m x ≤ (x + 1).toNat := runF_le m _ x
/-- for each car of an outcome: how long the row of places is that are taken when it stands, up to its own -/
def rowsL : List Int → List Int → List Int
  | _, [] => []
  | m, x :: r => ((run m (x - 1) + 1 : Nat) : Int) :: rowsL (m ++ [x]) r
theorem rowsL_len : ∀ (r m : List Int), (rowsL m r).length = r.length
  | [], _ => rfl
  | x :: r, m => by simp only [rowsL, List.length_cons, rowsL_len r]
/-- no number stands among those ahead of it -/
def ndB (m : List Int) : List Int → Bool
  | [] => true
  | x :: r => !decide (x ∈ m) && ndB (m ++ [x]) r
theorem ndB_iff : ∀ (r m : List Int), m.Nodup → (ndB m r = true ↔ (m ++ r).Nodup)
  | [], m, h => by simp [ndB, h]
  | x :: r, m, h => by
    simp only [ndB, Bool.and_eq_true, Bool.not_eq_true', decide_eq_false_iff_not]
    have e : m ++ x :: r = (m ++ [x]) ++ r := by simp
    rw [e]
    constructor
    · rintro ⟨h1, h2⟩
      have h3 : (m ++ [x]).Nodup := by
        rw [List.nodup_append]
        refine ⟨h, by simp, fun a ha b hb e => ?_⟩
        simp only [List.mem_singleton] at hb
        rw [e, hb] at ha
        exact h1 ha
      exact (ndB_iff r (m ++ [x]) h3).mp h2
    · intro h2
      have h3 : (m ++ [x]).Nodup := (List.nodup_append.mp h2).1
      refine ⟨fun hm => ?_, (ndB_iff r (m ++ [x]) h3).mpr h2⟩
      exact (List.nodup_append.mp h3).2.2 x hm x (by simp) rfl
/-- a product of 64 bits -/
def prodW (a : Int) (l : List Int) : Int := l.foldl (fun s x => wrap64 (s * x)) a
theorem prodW_cons (a x : Int) (l : List Int) : prodW a (x :: l) = prodW (wrap64 (a * x)) l := rfl

end Go.Proofs.Ytdiohjdfiambhaa.Math
