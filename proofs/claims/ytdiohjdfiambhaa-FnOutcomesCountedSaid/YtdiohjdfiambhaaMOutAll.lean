/- Plain law: all lists with an outcome: from the beginnings of the rows up to the outcome itself; each of them drives to it, and there are as many as the product of the rows' lengths. -/
import Derived.Test.YtdiohjdfiambhaaMOut
import Derived.Test.YtdiohjdfiambhaaMDrive
import Derived.Test.YtdiohjdfiambhaaMBox
import Derived.Test.YtdiohjdfiambhaaMOrder
namespace Go.Proofs.Ytdiohjdfiambhaa.Math
open Go.RowKit
set_option linter.unusedVariables false
set_option linter.unusedSimpArgs false

theorem runF_mem (m : List Int) : ∀ (d : Nat) (x y : Int), x - (runF m d x : Int) < y → y ≤ x → y ∈ m
  | 0, x, y, h1, h2 => by
    simp only [runF] at h1
    omega
  | d + 1, x, y, h1, h2 => by
    simp only [runF] at h1
    by_cases hm : x ∈ m
    · rw [if_pos hm] at h1
      by_cases e : y = x
      · rw [e]; exact hm
      · exact runF_mem m d (x - 1) y (by omega) (by omega)
    · rw [if_neg hm] at h1
      omega
theorem run_mem (m : List Int) (x y : Int) (h1 : x - (run m x : Int) < y) (h2 : y ≤ x) : y ∈ m := runF_mem m _ x y h1 h2
/-- the least favourite of each car of an outcome -/
def lowL : List Int → List Int → List Int
  | _, [] => []
  | m, x :: r => (x - ((run m (x - 1) : Nat) : Int)) :: lowL (m ++ [x]) r
theorem lowL_len : ∀ (r m : List Int), (lowL m r).length = r.length
  | [], _ => rfl
  | x :: r, m => by simp only [lowL, List.length_cons, lowL_len r]
theorem lowL_le : ∀ (r m : List Int), ptLe (lowL m r) r
  | [], _ => trivial
  | x :: r, m => ⟨by omega, lowL_le r _⟩
theorem lowL_nonneg : ∀ (r m : List Int), (∀ x ∈ r, 0 ≤ x) → ∀ y ∈ lowL m r, 0 ≤ y
  | [], _, _, y, h => by simp [lowL] at h
  | x :: r, m, h0, y, h => by
    simp only [lowL, List.mem_cons] at h
    have hx := h0 x List.mem_cons_self
    rcases h with h | h
    · have := run_le m (x - 1)
      omega
    · exact lowL_nonneg r _ (fun z hz => h0 z (List.mem_cons_of_mem _ hz)) y h
theorem land_to (m : List Int) (p x : Int) (hx : x ∉ m) (hp : x < p) : ∀ (d : Nat) (y : Int), y + (d : Int) = x → (∀ z, y ≤ z → z < x → z ∈ m) → land m p y = x
  | 0, y, h, _ => by
    have e : y = x := by omega
    subst e
    exact land_stop m p y (fun h => hx h.2)
  | d + 1, y, h, hz => by
    rw [land_go m p y (by omega) (hz y (by omega) (by omega))]
    exact land_to m p x hx hp d (y + 1) (by omega) (fun z h1 h2 => hz z (by omega) h2)
theorem drv_box (p : Int) : ∀ (r m l : List Int), (m ++ r).Nodup → (∀ x ∈ r, x < p) → ptLe (lowL m r) l → ptLe l r → drv p m l = some (m ++ r)
  | [], m, [], _, _, _, _ => by simp [drv]
  | x :: r, m, y :: l, hn, hp, h1, h2 => by
    have e : m ++ x :: r = (m ++ [x]) ++ r := by simp
    have hx : x ∉ m := fun hm => (List.nodup_append.mp hn).2.2 x hm x List.mem_cons_self rfl
    have hl : land m p y = x := land_to m p x hx (hp x List.mem_cons_self) (x - y).toNat y (by have := h2.1; omega) (fun z a b => run_mem m (x - 1) z (by have := h1.1; omega) (by omega))
    simp only [drv]
    rw [hl, if_pos (hp x List.mem_cons_self), e]
    exact drv_box p r (m ++ [x]) l (by rw [← e]; exact hn) (fun z hz => hp z (List.mem_cons_of_mem _ hz)) h1.2 h2.2
  | [], m, y :: l, _, _, _, h2 => h2.elim
  | x :: r, m, [], _, _, _, h2 => h2.elim
theorem boxN_out : ∀ (r m : List Int) (b : Nat), (∀ x ∈ r, 0 ≤ x ∧ x < (b : Int)) → 1 ≤ boxN (lowL m r) r ∧ boxN (lowL m r) r ≤ b ^ r.length
  | [], _, b, _ => by simp [lowL, boxN]
  | x :: r, m, b, h => by
    have ih := boxN_out r (m ++ [x]) b (fun y hy => h y (List.mem_cons_of_mem _ hy))
    have hx := h x List.mem_cons_self
    have hr := run_le m (x - 1)
    simp only [lowL, boxN, List.length_cons, Nat.pow_succ]
    have h1 : 1 ≤ (x + 1 - (x - ((run m (x - 1) : Nat) : Int))).toNat := by omega
    have h2 : (x + 1 - (x - ((run m (x - 1) : Nat) : Int))).toNat ≤ b := by omega
    exact ⟨Nat.mul_pos h1 ih.1, by rw [Nat.mul_comm]; exact Nat.mul_le_mul ih.2 h2⟩
theorem prodW_box : ∀ (r m : List Int) (a : Nat) (b : Nat), (∀ x ∈ r, 0 ≤ x ∧ x < (b : Int)) → a * boxN (lowL m r) r ≤ 4611686018427387904 → prodW (a : Int) (rowsL m r) = ((a * boxN (lowL m r) r : Nat) : Int)
  | [], m, a, b, _, _ => by simp [rowsL, prodW, lowL, boxN]
  | x :: r, m, a, b, hb, h => by
    have hb2 : ∀ y ∈ r, 0 ≤ y ∧ y < (b : Int) := fun y hy => hb y (List.mem_cons_of_mem _ hy)
    have h1 := (boxN_out r (m ++ [x]) b hb2).1
    simp only [lowL, boxN] at h ⊢
    rw [show (x + 1 - (x - ((run m (x - 1) : Nat) : Int))).toNat = run m (x - 1) + 1 by omega] at h ⊢
    rw [← Nat.mul_assoc] at h ⊢
    have h2 : a * (run m (x - 1) + 1) ≤ a * (run m (x - 1) + 1) * boxN (lowL (m ++ [x]) r) r := Nat.le_mul_of_pos_right _ h1
    simp only [rowsL]
    rw [prodW_cons]
    have e : wrap64 ((a : Int) * ((run m (x - 1) + 1 : Nat) : Int)) = ((a * (run m (x - 1) + 1) : Nat) : Int) := by
      rw [← Int.natCast_mul]
      unfold wrap64
      omega
    rw [e]
    exact prodW_box r (m ++ [x]) _ b hb2 h
theorem boxes_lex : ∀ (low high : List Int), (boxes low high).Pairwise lexLt
  | a :: s, b :: t => by
    simp only [boxes]
    rw [List.pairwise_flatMap]
    refine ⟨fun x _ => ?_, (spanI_up _ _).imp (fun {x y} hxy u hu v hv => ?_)⟩
    · rw [List.pairwise_map]
      exact (boxes_lex s t).imp (fun h => .inr ⟨rfl, h⟩)
    · obtain ⟨u', _, rfl⟩ := List.mem_map.mp hu
      obtain ⟨v', _, rfl⟩ := List.mem_map.mp hv
      exact .inl hxy
  | [], [] => by simp [boxes]
  | [], _ :: _ => by simp [boxes]
  | _ :: _, [] => by simp [boxes]

end Go.Proofs.Ytdiohjdfiambhaa.Math
