/- Plain law: the program's table of cways, kept as numbers of 64 bits, holds Pascal's numbers times the cways of the law on counts. -/
import Derived.Test.YtdiohjdfiambhaaMRank
namespace Go.Proofs.Ytdiohjdfiambhaa.Math
open Go.RowKit
set_option linter.unusedVariables false
set_option linter.unusedSimpArgs false

theorem wrap_mod (x : Int) : ∃ q : Int, wrap64 x = x + q * 18446744073709551616 := by
  unfold wrap64
  exact ⟨-((x + 9223372036854775808) / 18446744073709551616), by omega⟩
theorem wrap_shift (x q : Int) : wrap64 (x + q * 18446744073709551616) = wrap64 x := by
  unfold wrap64
  omega
theorem wrap_wrap (x : Int) : wrap64 (wrap64 x) = wrap64 x := by
  obtain ⟨q, e⟩ := wrap_mod x
  rw [e, wrap_shift]
  exact e
theorem wrap_add (a b : Int) : wrap64 (wrap64 a + wrap64 b) = wrap64 (a + b) := by
  obtain ⟨q, e⟩ := wrap_mod a
  obtain ⟨r, f⟩ := wrap_mod b
  rw [e, f, show a + q * 18446744073709551616 + (b + r * 18446744073709551616) = (a + b) + (q + r) * 18446744073709551616 by rw [Int.add_mul]; omega, wrap_shift]
theorem wrap_mul (a c : Int) : wrap64 (wrap64 a * c) = wrap64 (a * c) := by
  obtain ⟨q, e⟩ := wrap_mod a
  rw [e, Int.add_mul, show q * 18446744073709551616 * c = (q * c) * 18446744073709551616 by rw [Int.mul_assoc, Int.mul_comm 18446744073709551616 c, ← Int.mul_assoc], wrap_shift]
/-- numbers g 0, .., g (n - 1) as 64 bits -/
def tab (n : Nat) (g : Nat → Nat) : List Int := (List.range n).map fun t => wrap64 (g t : Int)
theorem tab_len (n : Nat) (g : Nat → Nat) : (tab n g).length = n := by simp [tab]
theorem tab_get (n : Nat) (g : Nat → Nat) (i : Nat) (h : i < (tab n g).length) : (tab n g)[i] = wrap64 (g i : Int) := by simp [tab]
theorem tab_congr (n : Nat) {g h : Nat → Nat} (e : ∀ i, i < n → g i = h i) : tab n g = tab n h := by
  unfold tab
  refine List.map_congr_left (fun i hi => ?_)
  rw [e i (by simpa using hi)]
theorem tab_set (n : Nat) (g : Nat → Nat) (i v : Nat) (hi : i < n) : (tab n g).set i (wrap64 (v : Int)) = tab n (fun t => if t = i then v else g t) := by
  refine List.ext_getElem (by rw [List.length_set, tab_len, tab_len]) (fun j h1 h2 => ?_)
  rw [List.getElem_set, tab_get n (fun t => if t = i then v else g t)]
  by_cases e : i = j
  · subst e
    rw [if_pos rfl, if_pos rfl]
  · rw [if_neg e, tab_get n g, if_neg (fun h => e h.symm)]
theorem ch_id : ∀ (l k t : Fin 9), k.val ≤ t.val → t.val ≤ l.val → ch l.val k.val * ch (l.val - k.val) (t.val - k.val) = ch l.val t.val * ch t.val (t.val - k.val) := by decide +kernel
theorem ch_id' (l k t : Nat) (h1 : k ≤ t) (h2 : t ≤ l) (h3 : l ≤ 8) : ch l k * ch (l - k) (t - k) = ch l t * ch t (t - k) := ch_id ⟨l, by omega⟩ ⟨k, by omega⟩ ⟨t, by omega⟩ h1 h2
/-- what place j adds to entry t out of entry k -/
def cell (own j left : Nat) (g : Nat → Nat) (k t : Nat) : Nat := if k ≤ t ∧ own + t > j then g k * ch (left - k) (t - k) else 0
theorem cell_sum (own : Nat → Nat) (j left : Nat) (h8 : left ≤ 8) (t : Nat) (ht : t ≤ left) : sumTo (fun k => cell (own j) j left (fun k => ch left k * cways own j k) k t) (left + 1) = ch left t * cways own (j + 1) t := by
  have h1 := sumTo_split (fun k => cell (own j) j left (fun k => ch left k * cways own j k) k t) (t + 1) (left - t)
  rw [show t + 1 + (left - t) = left + 1 by omega] at h1
  rw [h1]
  have h2 : sumTo (fun i => cell (own j) j left (fun k => ch left k * cways own j k) (t + 1 + i) t) (left - t) = 0 := by
    rw [← sumTo_zero (left - t)]
    refine sumTo_congr _ (fun i _ => ?_)
    unfold cell
    rw [if_neg (by omega)]
  rw [h2, Nat.add_zero]
  simp only [cways]
  by_cases e : own j + t > j
  · rw [if_pos e, bt_sumTo, ← sumTo_mul, sumTo_rev]
    refine sumTo_congr _ (fun i hi => ?_)
    unfold cell
    rw [if_pos ⟨by omega, e⟩, show t + 1 - 1 - i = t - i by omega]
    have h3 := ch_id' left (t - i) t (by omega) ht h8
    rw [show t - (t - i) = i by omega] at h3 ⊢
    rw [Nat.mul_right_comm, h3, Nat.mul_assoc]
  · rw [if_neg e, Nat.mul_zero, ← sumTo_zero (t + 1)]
    refine sumTo_congr _ (fun i hi => ?_)
    unfold cell
    rw [if_neg (fun h => e h.2)]

end Go.Proofs.Ytdiohjdfiambhaa.Math
