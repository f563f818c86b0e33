/- Plain law: all lists of numbers from low ones to high ones, in order; the list that comes next. -/
import Derived.Test.YtdiohjdfiambhaaMLesser
namespace Go.Proofs.Ytdiohjdfiambhaa.Math
open Go.RowKit
set_option linter.unusedVariables false
set_option linter.unusedSimpArgs false

/-- a, a + 1, .., m of them -/
def spanI : Int → Nat → List Int
  | _, 0 => []
  | a, m + 1 => a :: spanI (a + 1) m
theorem spanI_mem : ∀ (m : Nat) (a x : Int), x ∈ spanI a m ↔ a ≤ x ∧ x < a + (m : Int)
  | 0, a, x => by
    simp only [spanI, List.not_mem_nil, false_iff]
    omega
  | m + 1, a, x => by
    simp only [spanI, List.mem_cons, spanI_mem m]
    omega
theorem spanI_len : ∀ (m : Nat) (a : Int), (spanI a m).length = m
  | 0, _ => rfl
  | m + 1, a => by simp [spanI, spanI_len m]
theorem spanI_end : ∀ (m : Nat) (a : Int), spanI a (m + 1) = spanI a m ++ [a + (m : Int)]
  | 0, a => by simp [spanI]
  | m + 1, a => by
    rw [spanI, spanI_end m (a + 1)]
    simp only [spanI, List.cons_append]
    rw [show a + 1 + (m : Int) = a + ((m + 1 : Nat) : Int) by omega]
theorem spanI_up : ∀ (m : Nat) (a : Int), (spanI a m).Pairwise (fun x y => x < y)
  | 0, _ => List.Pairwise.nil
  | m + 1, a => by
    rw [spanI, List.pairwise_cons]
    exact ⟨fun y hy => by have := (spanI_mem m (a + 1) y).mp hy; omega, spanI_up m (a + 1)⟩
/-- all lists from the low ones to the high ones -/
def boxes : List Int → List Int → List (List Int)
  | a :: s, b :: t => (spanI a (b + 1 - a).toNat).flatMap fun x => (boxes s t).map (x :: ·)
  | _, _ => [[]]
/-- those of them from a list on -/
def restB : List Int → List Int → List Int → List (List Int)
  | a :: s, b :: t, c :: u => (restB s t u).map (c :: ·) ++ (spanI (c + 1) (b - c).toNat).flatMap fun x => (boxes s t).map (x :: ·)
  | _, _, _ => [[]]
theorem restB_low : ∀ (low high : List Int), ptLe low high → restB low high low = boxes low high
  | [], [], _ => rfl
  | a :: s, b :: t, h => by
    simp only [restB, boxes]
    rw [restB_low s t h.2, show (b + 1 - a).toNat = (b - a).toNat + 1 by have := h.1; omega, spanI, List.flatMap_cons]
  | [], _ :: _, h => h.elim
  | _ :: _, [], h => h.elim
theorem restB_high : ∀ (low high : List Int), ptLe low high → restB low high high = [high]
  | [], [], _ => rfl
  | a :: s, b :: t, h => by
    simp only [restB]
    rw [restB_high s t h.2, show (b - b).toNat = 0 by omega]
    simp [spanI]
  | [], _ :: _, h => h.elim
  | _ :: _, [], h => h.elim
theorem restB_step : ∀ (low high cur : List Int) (i : Nat) (hi : i < cur.length) (hh : i < high.length), ptLe low high → cur.length = high.length → cur.drop (i + 1) = high.drop (i + 1) → cur[i] < high[i] → restB low high cur = cur :: restB low high (cur.take i ++ (cur[i] + 1) :: low.drop (i + 1))
  | a :: s, b :: t, c :: u, 0, _, _, h, hl, hd, hc => by
    simp only [List.drop_succ_cons, List.drop_zero] at hd
    subst hd
    simp only [List.getElem_cons_zero] at hc
    simp only [List.take_zero, List.nil_append, List.getElem_cons_zero, List.drop_succ_cons, List.drop_zero, restB]
    rw [restB_high s u h.2, restB_low s u h.2, show (b - c).toNat = (b - (c + 1)).toNat + 1 by omega, spanI, List.flatMap_cons]
    rfl
  | a :: s, b :: t, c :: u, i + 1, hi, hh, h, hl, hd, hc => by
    simp only [List.drop_succ_cons] at hd
    simp only [List.getElem_cons_succ] at hc
    have ih := restB_step s t u i (by simpa using hi) (by simpa using hh) h.2 (by simpa using hl) hd hc
    simp only [List.take_succ_cons, List.cons_append, List.getElem_cons_succ, List.drop_succ_cons, restB]
    rw [ih]
    rfl
  | [], _, c :: u, i, hi, _, h, hl, _, _ => by
    have := ptLe_len _ _ h
    simp only [List.length_cons, List.length_nil] at this hl
    omega
  | _, _, [], i, hi, _, _, _, _, _ => by simp at hi
  | _ :: _, [], c :: u, i, hi, _, h, hl, _, _ => h.elim
theorem boxes_mem : ∀ (low high l : List Int), low.length = high.length → (l ∈ boxes low high ↔ ptLe low l ∧ ptLe l high)
  | [], [], l, _ => by
    cases l <;> simp [boxes, ptLe]
  | a :: s, b :: t, l, hl => by
    simp only [boxes, List.mem_flatMap, List.mem_map]
    constructor
    · rintro ⟨x, hx, u, hu, rfl⟩
      have h1 := (boxes_mem s t u (by simpa using hl)).mp hu
      have h2 := (spanI_mem _ _ _).mp hx
      exact ⟨⟨h2.1, h1.1⟩, ⟨by omega, h1.2⟩⟩
    · intro h
      cases l with
      | nil => exact h.1.elim
      | cons x u =>
        obtain ⟨⟨h1, h2⟩, h3, h4⟩ := h
        exact ⟨x, (spanI_mem _ _ _).mpr ⟨h1, by omega⟩, u, (boxes_mem s t u (by simpa using hl)).mpr ⟨h2, h4⟩, rfl⟩
  | [], _ :: _, _, hl => by simp at hl
  | _ :: _, [], _, hl => by simp at hl
theorem boxes_lens (low high : List Int) (hl : low.length = high.length) (l : List Int) (h : l ∈ boxes low high) : l.length = high.length :=
  ptLe_len _ _ ((boxes_mem low high l hl).mp h).2
/-- the last one is the highest -/
theorem boxes_last : ∀ (low high : List Int), ptLe low high → ∃ X, boxes low high = X ++ [high]
  | [], [], _ => ⟨[], rfl⟩
  | a :: s, b :: t, h => by
    obtain ⟨X, hX⟩ := boxes_last s t h.2
    simp only [boxes]
    refine ⟨((spanI a (b - a).toNat).flatMap fun x => (boxes s t).map (x :: ·)) ++ X.map (b :: ·), ?_⟩
    rw [show (b + 1 - a).toNat = (b - a).toNat + 1 by have := h.1; omega, spanI_end, List.flatMap_append]
    rw [show a + (((b - a).toNat : Nat) : Int) = b by have := h.1; omega]
    simp [hX]
  | [], _ :: _, h => h.elim
  | _ :: _, [], h => h.elim
/-- how many there are -/
def boxN : List Int → List Int → Nat
  | a :: s, b :: t => (b + 1 - a).toNat * boxN s t
  | _, _ => 1
theorem flat_len (L : List (List Int)) : ∀ (S : List Int), (S.flatMap fun x => L.map (x :: ·)).length = S.length * L.length
  | [] => by simp
  | x :: S => by
    rw [List.flatMap_cons, List.length_append, flat_len L S, List.length_map, List.length_cons, Nat.succ_mul, Nat.add_comm]
theorem boxes_length : ∀ (low high : List Int), (boxes low high).length = boxN low high
  | a :: s, b :: t => by
    simp only [boxes, boxN]
    rw [flat_len, spanI_len, boxes_length s t]
  | [], [] => rfl
  | [], _ :: _ => rfl
  | _ :: _, [] => rfl

end Go.Proofs.Ytdiohjdfiambhaa.Math
