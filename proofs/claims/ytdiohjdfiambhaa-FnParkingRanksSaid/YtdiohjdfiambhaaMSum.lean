/- Plain law on finite sums of whole numbers that are not negative, and on the sums that a choice of some of k things gives. -/
import Derived.WalkKit
namespace Go.Proofs.Ytdiohjdfiambhaa.Math
open Go.RowKit
set_option linter.unusedVariables false
set_option linter.unusedSimpArgs false

/-- f 0 + .. + f (n - 1) -/
def sumTo (f : Nat → Nat) : Nat → Nat
  | 0 => 0
  | n + 1 => sumTo f n + f n
theorem sumTo_congr {f g : Nat → Nat} : ∀ (n : Nat), (∀ i, i < n → f i = g i) → sumTo f n = sumTo g n
  | 0, _ => rfl
  | n + 1, h => by
    simp only [sumTo]
    rw [sumTo_congr n (fun i hi => h i (by omega)), h n (by omega)]
theorem sumTo_zero : ∀ (n : Nat), sumTo (fun _ => 0) n = 0
  | 0 => rfl
  | n + 1 => by simp only [sumTo, sumTo_zero n]
theorem sumTo_add (f g : Nat → Nat) : ∀ (n : Nat), sumTo (fun i => f i + g i) n = sumTo f n + sumTo g n
  | 0 => rfl
  | n + 1 => by
    simp only [sumTo, sumTo_add f g n]
    omega
theorem sumTo_mul (c : Nat) (f : Nat → Nat) : ∀ (n : Nat), sumTo (fun i => c * f i) n = c * sumTo f n
  | 0 => rfl
  | n + 1 => by
    simp only [sumTo, sumTo_mul c f n, Nat.mul_add]
theorem sumTo_head (f : Nat → Nat) : ∀ (n : Nat), sumTo f (n + 1) = f 0 + sumTo (fun i => f (i + 1)) n
  | 0 => by simp [sumTo]
  | n + 1 => by
    have h := sumTo_head f n
    simp only [sumTo] at h ⊢
    omega
theorem sumTo_split (f : Nat → Nat) (a : Nat) : ∀ (b : Nat), sumTo f (a + b) = sumTo f a + sumTo (fun i => f (a + i)) b
  | 0 => rfl
  | b + 1 => by
    have h := sumTo_split f a b
    rw [show a + (b + 1) = (a + b) + 1 by omega]
    simp only [sumTo]
    omega
theorem sumTo_le {f g : Nat → Nat} : ∀ (n : Nat), (∀ i, i < n → f i ≤ g i) → sumTo f n ≤ sumTo g n
  | 0, _ => Nat.le_refl _
  | n + 1, h => by
    have h1 := sumTo_le n (fun i hi => h i (by omega) : ∀ i, i < n → f i ≤ g i)
    have h2 := h n (by omega)
    simp only [sumTo]
    omega
theorem sumTo_rev (f : Nat → Nat) : ∀ (n : Nat), sumTo f n = sumTo (fun i => f (n - 1 - i)) n
  | 0 => rfl
  | n + 1 => by
    rw [sumTo_head (fun i => f (n + 1 - 1 - i)) n]
    simp only [sumTo]
    rw [sumTo_rev f n, show n + 1 - 1 - 0 = n by omega]
    rw [sumTo_congr n (fun i hi => by rw [show n - 1 - i = n + 1 - 1 - (i + 1) by omega] : ∀ i, i < n → f (n - 1 - i) = f (n + 1 - 1 - (i + 1)))]
    omega
/-- Pascal's numbers -/
def ch : Nat → Nat → Nat
  | _, 0 => 1
  | 0, _ + 1 => 0
  | n + 1, k + 1 => ch n k + ch n (k + 1)
theorem ch_zero (n : Nat) : ch n 0 = 1 := by cases n <;> rfl
theorem ch_over : ∀ (n k : Nat), n < k → ch n k = 0
  | _, 0, h => by omega
  | 0, _ + 1, _ => rfl
  | n + 1, k + 1, h => by
    simp only [ch]
    rw [ch_over n k (by omega), ch_over n (k + 1) (by omega)]
/-- over all choices of m of k things: b of how many are left -/
def bt (b : Nat → Nat) : Nat → Nat
  | 0 => b 0
  | k + 1 => bt (fun i => b (i + 1)) k + bt b k
theorem bt_congr : ∀ (k : Nat) (b c : Nat → Nat), (∀ i, i ≤ k → b i = c i) → bt b k = bt c k
  | 0, b, c, h => h 0 (Nat.le_refl 0)
  | k + 1, b, c, h => by
    simp only [bt]
    rw [bt_congr k (fun i => b (i + 1)) (fun i => c (i + 1)) (fun i hi => h (i + 1) (by omega)), bt_congr k b c (fun i hi => h i (by omega))]
theorem bt_add : ∀ (k : Nat) (b c : Nat → Nat), bt (fun i => b i + c i) k = bt b k + bt c k
  | 0, _, _ => rfl
  | k + 1, b, c => by
    simp only [bt]
    rw [bt_add k (fun i => b (i + 1)) (fun i => c (i + 1)), bt_add k b c]
    omega
theorem bt_nil : ∀ (k : Nat), bt (fun _ => 0) k = 0
  | 0 => rfl
  | k + 1 => by simp only [bt, bt_nil k]
theorem bt_sum (g : Nat → Nat → Nat) (k : Nat) : ∀ (n : Nat), bt (fun i => sumTo (fun f => g f i) n) k = sumTo (fun f => bt (g f) k) n
  | 0 => by simp only [sumTo, bt_nil]
  | n + 1 => by
    simp only [sumTo]
    rw [bt_add, bt_sum g k n]
theorem bt_sumTo : ∀ (k : Nat) (b : Nat → Nat), bt b k = sumTo (fun m => ch k m * b (k - m)) (k + 1)
  | 0, b => by simp [bt, sumTo, ch]
  | k + 1, b => by
    simp only [bt]
    rw [bt_sumTo k (fun i => b (i + 1)), bt_sumTo k b]
    have h1 : sumTo (fun m => ch k m * b (k - m + 1)) (k + 1) = sumTo (fun m => ch k m * b (k + 1 - m)) (k + 1) := sumTo_congr _ (fun i hi => by rw [show k - i + 1 = k + 1 - i by omega])
    rw [h1, sumTo_head _ k, sumTo_head _ (k + 1)]
    have h2 : sumTo (fun i => ch (k + 1) (i + 1) * b (k + 1 - (i + 1))) (k + 1) = sumTo (fun i => ch k i * b (k - i)) (k + 1) + sumTo (fun i => ch k (i + 1) * b (k + 1 - (i + 1))) (k + 1) := by
      rw [← sumTo_add]
      refine sumTo_congr _ (fun i _ => ?_)
      simp only [ch]
      rw [Nat.add_mul, show k + 1 - (i + 1) = k - i by omega]
    rw [h2]
    have h3 : sumTo (fun i => ch k (i + 1) * b (k + 1 - (i + 1))) (k + 1) = sumTo (fun i => ch k (i + 1) * b (k + 1 - (i + 1))) k := by
      simp only [sumTo]
      rw [ch_over k (k + 1) (by omega)]
      omega
    rw [h3, ch_zero, ch_zero]
    omega
/-- cways to place k further cars, own of which have a favourite up to place i already -/
def cways (own : Nat → Nat) : Nat → Nat → Nat
  | 0, k => if k = 0 then 1 else 0
  | j + 1, k => if own j + k > j then bt (cways own j) k else 0
/-- one more car with favourite f -/
def more (own : Nat → Nat) (f : Nat) (j : Nat) : Nat := own j + if f ≤ j then 1 else 0
theorem cways_far (own : Nat → Nat) (f : Nat) : ∀ (j k : Nat), j ≤ f → cways (more own f) j k = cways own j k
  | 0, _, _ => rfl
  | j + 1, k, h => by
    simp only [cways]
    rw [show more own f j = own j by unfold more; rw [if_neg (by omega)]; rfl]
    rw [bt_congr k _ _ (fun i _ => cways_far own f j i (by omega))]
theorem cways_child (own : Nat → Nat) : ∀ (j k : Nat), cways own j (k + 1) = sumTo (fun f => cways (more own f) j k) j
  | 0, k => by simp [cways, sumTo]
  | j + 1, k => by
    have e : sumTo (fun f => cways (more own f) (j + 1) k) (j + 1) = if own j + (k + 1) > j then sumTo (fun f => bt (cways (more own f) j) k) (j + 1) else 0 := by
      by_cases h : own j + (k + 1) > j
      · rw [if_pos h]
        refine sumTo_congr _ (fun f hf => ?_)
        simp only [cways]
        rw [show more own f j = own j + 1 by unfold more; rw [if_pos (by omega)], if_pos (by omega)]
      · rw [if_neg h, ← sumTo_zero (j + 1)]
        refine sumTo_congr _ (fun f hf => ?_)
        simp only [cways]
        rw [show more own f j = own j + 1 by unfold more; rw [if_pos (by omega)], if_neg (by omega)]
    rw [e]
    simp only [cways]
    by_cases h : own j + (k + 1) > j
    · rw [if_pos h, if_pos h]
      simp only [bt, sumTo]
      rw [bt_congr k (fun i => cways own j (i + 1)) _ (fun i _ => cways_child own j i), bt_sum (fun f i => cways (more own f) j i) k j]
      rw [bt_congr k _ _ (fun i _ => cways_far own j j i (Nat.le_refl j))]
    · rw [if_neg h, if_neg h]
theorem cways_none (own : Nat → Nat) : ∀ (j : Nat), cways own j 0 = if ∀ i, i < j → own i > i then 1 else 0
  | 0 => by simp [cways]
  | j + 1 => by
    simp only [cways, bt]
    rw [cways_none own j]
    by_cases h : ∀ i, i < j → own i > i
    · by_cases g : own j + 0 > j
      · rw [if_pos g, if_pos h, if_pos (fun i hi => by
          by_cases e : i = j
          · rw [e]; omega
          · exact h i (by omega))]
      · rw [if_neg g, if_neg (fun hh => g (by have := hh j (by omega); omega))]
    · have h2 : ¬ ∀ i, i < j + 1 → own i > i := fun hh => h (fun i hi => hh i (by omega))
      rw [if_neg h, if_neg h2]
      split <;> rfl
theorem bt_bound (c : Nat) : ∀ (k : Nat) (b : Nat → Nat) (a : Nat), (∀ i, i ≤ k → b i ≤ a * c ^ i) → bt b k ≤ a * (c + 1) ^ k
  | 0, b, a, h => by
    have := h 0 (Nat.le_refl 0)
    simpa [bt] using this
  | k + 1, b, a, h => by
    simp only [bt]
    have h1 := bt_bound c k (fun i => b (i + 1)) (a * c) (fun i hi => by
      have := h (i + 1) (by omega)
      rw [Nat.pow_succ, Nat.mul_comm (c ^ i) c, ← Nat.mul_assoc] at this
      exact this)
    have h2 := bt_bound c k b a (fun i hi => h i (by omega))
    have e : a * (c + 1) ^ (k + 1) = a * c * (c + 1) ^ k + a * (c + 1) ^ k := by
      rw [Nat.pow_succ, Nat.mul_comm ((c + 1) ^ k) (c + 1), ← Nat.mul_assoc, Nat.mul_add, Nat.mul_one, Nat.add_mul]
    omega
theorem cways_bound (own : Nat → Nat) : ∀ (j k : Nat), cways own j k ≤ j ^ k
  | 0, k => by
    simp only [cways]
    split
    · rename_i h; subst h; exact Nat.le_refl _
    · exact Nat.zero_le _
  | j + 1, k => by
    simp only [cways]
    split
    · have := bt_bound j k (cways own j) 1 (fun i _ => by have := cways_bound own j i; omega)
      omega
    · exact Nat.zero_le _

end Go.Proofs.Ytdiohjdfiambhaa.Math
