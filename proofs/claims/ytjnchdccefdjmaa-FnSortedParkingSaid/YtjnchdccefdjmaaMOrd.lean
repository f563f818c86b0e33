/- Plain law: in how many orders the numbers of a list stand: the product of the ways to choose, value by value, grows by the next number as the quotient of the places and the equal ones. -/
import Derived.Test.YtjnchdccefdjmaaMSort
import Derived.Test.YtjnchdccefdjmaaMSum
namespace Go.Proofs.Ytjnchdccefdjmaa.Math
open Go.RowKit
set_option linter.unusedVariables false
set_option linter.unusedSimpArgs false

def prodTo (f : Nat → Nat) : Nat → Nat
  | 0 => 1
  | n + 1 => prodTo f n * f n
theorem prodTo_congr {f g : Nat → Nat} : ∀ (n : Nat), (∀ i, i < n → f i = g i) → prodTo f n = prodTo g n
  | 0, _ => rfl
  | n + 1, h => by
    simp only [prodTo]
    rw [prodTo_congr n (fun i hi => h i (by omega)), h n (by omega)]
theorem prodTo_pos (f : Nat → Nat) : ∀ (n : Nat), (∀ i, i < n → 0 < f i) → 0 < prodTo f n
  | 0, _ => by simp [prodTo]
  | n + 1, h => by
    simp only [prodTo]
    exact Nat.mul_pos (prodTo_pos f n (fun i hi => h i (by omega))) (h n (by omega))
/-- one factor grows -/
theorem prodTo_one (f g : Nat → Nat) (a s : Nat) (hs : g a = f a * s) : ∀ (n : Nat), a < n → (∀ i, i < n → i ≠ a → g i = f i) → prodTo g n = prodTo f n * s
  | 0, h, _ => by omega
  | n + 1, h, he => by
    simp only [prodTo]
    by_cases e : a = n
    · subst e
      rw [prodTo_congr (g := f) a (fun i hi => he i (by omega) (by omega)), hs, Nat.mul_assoc]
    · rw [prodTo_one f g a s hs n (by omega) (fun i hi hne => he i (by omega) hne), he n (by omega) (fun h => e h.symm), Nat.mul_right_comm]
def fct : Nat → Nat
  | 0 => 1
  | n + 1 => (n + 1) * fct n
theorem fct_pos : ∀ n, 0 < fct n
  | 0 => by simp [fct]
  | n + 1 => Nat.mul_pos (by omega) (fct_pos n)
theorem ch_fct_fin : ∀ L m : Fin 9, m.val ≤ L.val → ch L.val m.val * fct m.val * fct (L.val - m.val) = fct L.val := by decide +kernel
theorem ch_fct (L m : Nat) (h8 : L ≤ 8) (h : m ≤ L) : ch L m * fct m * fct (L - m) = fct L := ch_fct_fin ⟨L, by omega⟩ ⟨m, by omega⟩ h
/-- how often a value stands in a list -/
def cv (l : List Int) (v : Nat) : Nat := l.count (v : Int)
/-- the product of the ways to choose, for the values below a, of n things -/
def waysTo (m : Nat → Nat) (n : Nat) (a : Nat) : Nat := prodTo (fun v => ch (n - sumTo m v) (m v)) a
theorem ways_fct (m : Nat → Nat) (n : Nat) (h8 : n ≤ 8) : ∀ (a : Nat), sumTo m a ≤ n → waysTo m n a * prodTo (fun v => fct (m v)) a * fct (n - sumTo m a) = fct n
  | 0, _ => by simp [waysTo, prodTo, sumTo]
  | a + 1, h => by
    simp only [sumTo] at h ⊢
    have ih := ways_fct m n h8 a (by omega)
    have hc := ch_fct (n - sumTo m a) (m a) (by omega) (by omega)
    rw [show n - (sumTo m a + m a) = n - sumTo m a - m a by omega]
    unfold waysTo at ih ⊢
    simp only [prodTo]
    rw [← ih, ← hc]
    simp only [Nat.mul_comm, Nat.mul_left_comm, Nat.mul_assoc]
/-- all numbers lie from 0 on below b: each is counted once -/
theorem sum_cv (b : Nat) : ∀ (l : List Int), (∀ x ∈ l, 0 ≤ x ∧ x < (b : Int)) → sumTo (cv l) b = l.length
  | [], _ => by
    have : ∀ n, sumTo (cv []) n = 0 := fun n => by
      induction n with
      | zero => rfl
      | succ n ih => simp only [sumTo, ih]; simp [cv]
    simpa using this b
  | x :: l, h => by
    have ih := sum_cv b l (fun y hy => h y (List.mem_cons_of_mem _ hy))
    have hx := h x List.mem_cons_self
    have one : ∀ n, sumTo (cv (x :: l)) n = sumTo (cv l) n + if x < (n : Int) then 1 else 0 := fun n => by
      induction n with
      | zero => simp only [sumTo]; rw [if_neg (by omega)]
      | succ n ihn =>
        simp only [sumTo, ihn]
        have hc : cv (x :: l) n = cv l n + if x = (n : Int) then 1 else 0 := by
          unfold cv
          rw [List.count_cons]
          by_cases e : x = (n : Int)
          · rw [if_pos e, if_pos (by simp [e])]
          · rw [if_neg e, if_neg (by simp [e])]
        rw [hc]
        by_cases e1 : x < (n : Int)
        · rw [if_pos e1, if_neg (by omega), if_pos (by omega)]
          omega
        · by_cases e2 : x = (n : Int)
          · rw [if_neg e1, if_pos e2, if_pos (by omega)]
            omega
          · rw [if_neg e1, if_neg e2, if_neg (by omega)]
            omega
    rw [one, ih, if_pos hx.2]
    rfl
/-- in how many orders the numbers of a list stand -/
def ordD (l : List Int) : Nat := waysTo (cv l) l.length 8
theorem ordD_fct (l : List Int) (h8 : l.length ≤ 8) (hx : ∀ x ∈ l, 0 ≤ x ∧ x < 8) : ordD l * prodTo (fun v => fct (cv l v)) 8 = fct l.length := by
  have hs := sum_cv 8 l (fun x h => by have := hx x h; omega)
  have h := ways_fct (cv l) l.length h8 8 (by omega)
  rw [hs, Nat.sub_self] at h
  unfold ordD
  simpa [fct] using h
theorem ordD_snoc (l : List Int) (x : Int) (h8 : l.length + 1 ≤ 8) (hx : ∀ y ∈ l ++ [x], 0 ≤ y ∧ y < 8) : ordD (l ++ [x]) * (l.count x + 1) = ordD l * (l.length + 1) := by
  have hx0 := hx x (by simp)
  have h1 := ordD_fct l (by omega) (fun y hy => hx y (by simp [hy]))
  have h2 := ordD_fct (l ++ [x]) (by simpa using h8) hx
  have ex : ((x.toNat : Nat) : Int) = x := by omega
  have hp := prodTo_one (fun v => fct (cv l v)) (fun v => fct (cv (l ++ [x]) v)) x.toNat (l.count x + 1) (by
    have : cv (l ++ [x]) x.toNat = l.count x + 1 := by
      unfold cv
      rw [ex, List.count_append]
      simp
    have e0 : cv l x.toNat = l.count x := by unfold cv; rw [ex]
    show fct (cv (l ++ [x]) x.toNat) = fct (cv l x.toNat) * (l.count x + 1)
    rw [this, e0]
    simp only [fct]
    rw [Nat.mul_comm]) 8 (by omega) (fun i hi hne => by
    have : cv (l ++ [x]) i = cv l i := by
      unfold cv
      rw [List.count_append, List.count_singleton]
      have : ¬ (x == (i : Int)) = true := by simp; omega
      rw [if_neg this]
      rfl
    show fct (cv (l ++ [x]) i) = fct (cv l i)
    rw [this])
  rw [hp] at h2
  have hpos : 0 < prodTo (fun v => fct (cv l v)) 8 := prodTo_pos _ 8 (fun i _ => fct_pos _)
  have e : (l ++ [x]).length = l.length + 1 := by simp
  rw [e] at h2
  simp only [fct] at h2
  rw [← h1] at h2
  refine Nat.eq_of_mul_eq_mul_right hpos ?_
  calc ordD (l ++ [x]) * (l.count x + 1) * prodTo (fun v => fct (cv l v)) 8 = ordD (l ++ [x]) * (prodTo (fun v => fct (cv l v)) 8 * (l.count x + 1)) := by simp only [Nat.mul_comm, Nat.mul_left_comm, Nat.mul_assoc]
    _ = (l.length + 1) * (ordD l * prodTo (fun v => fct (cv l v)) 8) := h2
    _ = ordD l * (l.length + 1) * prodTo (fun v => fct (cv l v)) 8 := by simp only [Nat.mul_comm, Nat.mul_left_comm, Nat.mul_assoc]
theorem fct_fin : ∀ n : Fin 9, fct n.val ≤ 40320 := by decide +kernel
theorem ordD_le (l : List Int) (h8 : l.length ≤ 8) (hx : ∀ x ∈ l, 0 ≤ x ∧ x < 8) : ordD l ≤ 40320 := by
  have h := ordD_fct l h8 hx
  have hpos : 0 < prodTo (fun v => fct (cv l v)) 8 := prodTo_pos _ 8 (fun i _ => fct_pos _)
  have h2 := fct_fin ⟨l.length, by omega⟩
  have h3 : ordD l ≤ ordD l * prodTo (fun v => fct (cv l v)) 8 := Nat.le_mul_of_pos_right _ hpos
  have h4 : fct l.length ≤ 40320 := h2
  omega
theorem waysTo_le (m : Nat → Nat) (n : Nat) (h8 : n ≤ 8) (a : Nat) (h : sumTo m a ≤ n) : waysTo m n a ≤ 40320 := by
  have h1 := ways_fct m n h8 a h
  have hpos : 0 < prodTo (fun v => fct (m v)) a * fct (n - sumTo m a) := Nat.mul_pos (prodTo_pos _ a (fun i _ => fct_pos _)) (fct_pos _)
  have h2 : fct n ≤ 40320 := fct_fin ⟨n, by omega⟩
  rw [Nat.mul_assoc] at h1
  have h3 := Nat.le_mul_of_pos_right (waysTo m n a) hpos
  omega
/-- the values of a list below 8, from a on -/
def valsFrom (l : List Int) : Nat → Nat → List Int
  | _, 0 => []
  | a, d + 1 => if 0 < cv l a then (a : Int) :: valsFrom l (a + 1) d else valsFrom l (a + 1) d
theorem valsFrom_mem (l : List Int) : ∀ (d a : Nat) (x : Int), x ∈ valsFrom l a d ↔ (a : Int) ≤ x ∧ x < (a : Int) + d ∧ x ∈ l
  | 0, a, x => by simp [valsFrom]; omega
  | d + 1, a, x => by
    have hm : 0 < cv l a ↔ (a : Int) ∈ l := List.count_pos_iff
    simp only [valsFrom]
    by_cases c : 0 < cv l a
    · rw [if_pos c, List.mem_cons, valsFrom_mem l d (a + 1) x]
      constructor
      · rintro (h | ⟨h1, h2, h3⟩)
        · subst h
          exact ⟨by omega, by omega, hm.mp c⟩
        · exact ⟨by omega, by omega, h3⟩
      · rintro ⟨h1, h2, h3⟩
        by_cases e : x = (a : Int)
        · exact .inl e
        · exact .inr ⟨by omega, by omega, h3⟩
    · rw [if_neg c, valsFrom_mem l d (a + 1) x]
      constructor
      · rintro ⟨h1, h2, h3⟩
        exact ⟨by omega, by omega, h3⟩
      · rintro ⟨h1, h2, h3⟩
        refine ⟨?_, by omega, h3⟩
        by_cases e : x = (a : Int)
        · subst e
          exact absurd (hm.mpr h3) c
        · omega
theorem valsFrom_lt (l : List Int) : ∀ (d a : Nat), (valsFrom l a d).Pairwise (fun x y => x < y)
  | 0, a => by simp [valsFrom]
  | d + 1, a => by
    simp only [valsFrom]
    split
    · refine List.pairwise_cons.mpr ⟨fun y hy => ?_, valsFrom_lt l d (a + 1)⟩
      have := (valsFrom_mem l d (a + 1) y).mp hy
      omega
    · exact valsFrom_lt l d (a + 1)
/-- two lists that rise and have the same members are one -/
theorem rise_eq (a b : List Int) (ha : a.Pairwise (fun x y => x < y)) (hb : b.Pairwise (fun x y => x < y)) (h : ∀ x, x ∈ a ↔ x ∈ b) : a = b := by
  refine up2_eq a b ((up2_pairwise a).mpr (ha.imp (fun h => by omega))) ((up2_pairwise b).mpr (hb.imp (fun h => by omega))) ?_
  exact (List.perm_ext_iff_of_nodup (ha.imp (fun h => by omega)) (hb.imp (fun h => by omega))).mpr h

end Go.Proofs.Ytjnchdccefdjmaa.Math
