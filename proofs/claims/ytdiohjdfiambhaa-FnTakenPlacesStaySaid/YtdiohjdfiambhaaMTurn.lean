/- Plain law: two neighbours of a list exchanged leave the same numbers; a number turned on a circle by Go's rest. -/
import Derived.Test.YtdiohjdfiambhaaMRing
namespace Go.Proofs.Ytdiohjdfiambhaa.Math
open Go.RowKit
set_option linter.unusedVariables false
set_option linter.unusedSimpArgs false

theorem swap_perm : ∀ (l : List Int) (i : Nat) (h : i + 1 < l.length), ((l.set i (l[i + 1]'h)).set (i + 1) (l[i]'(by omega))).Perm l
  | x :: y :: l, 0, _ => by
    simp only [List.set_cons_zero, List.set_cons_succ, List.getElem_cons_zero, List.getElem_cons_succ, Nat.zero_add]
    exact List.Perm.swap x y l
  | [x], 0, h => by simp at h
  | x :: l, i + 1, h => by
    simp only [List.set_cons_succ, List.getElem_cons_succ]
    exact (swap_perm l i (by simpa using h)).cons x
  | [], _, h => by simp at h
theorem tmod_sh (p b x : Int) (hp : 0 < p) : Int.tmod (Int.tmod (x + b) p + p) p = sh p b x := by
  have h1 := Int.tmod_lt_of_pos (x + b) hp
  have h2 : -p < Int.tmod (x + b) p := by
    have := Int.lt_tmod_of_pos (x + b) hp
    omega
  rw [Int.tmod_eq_emod_of_nonneg (by omega), Int.tmod_def]
  unfold sh
  rw [show x + b - p * Int.tdiv (x + b) p + p = (x + b) + p * (1 - Int.tdiv (x + b) p) by rw [Int.mul_sub, Int.mul_one]; omega]
  exact Int.add_mul_emod_self_left _ _ _

end Go.Proofs.Ytdiohjdfiambhaa.Math
