/- Plain law: all cars park just where no place refuses, that is where no place j has more favourites from it on than places from it on. -/
import Derived.Test.YtdiohjdfiambhaaMDrive
namespace Go.Proofs.Ytdiohjdfiambhaa.Math
open Go.RowKit
set_option linter.unusedVariables false
set_option linter.unusedSimpArgs false

def ge (l : List Int) (j : Int) : Nat := l.countP fun x => decide (j ≤ x)
theorem ge_append (a b : List Int) (j : Int) : ge (a ++ b) j = ge a j + ge b j := by simp [ge, List.countP_append]
theorem ge_one (x j : Int) : ge [x] j = if j ≤ x then 1 else 0 := by
  unfold ge
  rw [List.countP_cons, List.countP_nil]
  by_cases h : j ≤ x <;> simp [h]
theorem ge_cons (x : Int) (l : List Int) (j : Int) : ge (x :: l) j = ge l j + if j ≤ x then 1 else 0 := by
  rw [show x :: l = [x] ++ l from rfl, ge_append, ge_one]
  omega
theorem ge_succ (l : List Int) (j : Int) : ge l j = ge l (j + 1) + l.count j := by
  induction l with
  | nil => rfl
  | cons x l ih =>
    rw [ge_cons, ge_cons, ih, List.count_cons]
    by_cases h1 : j ≤ x
    · by_cases h2 : j + 1 ≤ x
      · rw [if_pos h1, if_pos h2]
        have : ¬ (x == j) = true := by simp; omega
        rw [if_neg this]
        omega
      · rw [if_pos h1, if_neg h2]
        have : (x == j) = true := by simp; omega
        rw [if_pos this]
        omega
    · rw [if_neg h1, if_neg (by omega)]
      have : ¬ (x == j) = true := by simp; omega
      rw [if_neg this]
      omega
theorem ge_top (l : List Int) (p : Int) (h : ∀ x ∈ l, x < p) : ge l p = 0 := by
  unfold ge
  rw [List.countP_eq_zero]
  intro x hx
  have := h x hx
  simp
  omega
/-- different numbers below p: no more than places from j on -/
theorem ge_nodup (l : List Int) (p : Int) (hn : l.Nodup) (h : ∀ x ∈ l, x < p) : ∀ (d : Nat) (j : Int), j + d = p → ge l j ≤ d
  | 0, j, e => by
    rw [show j = p by omega, ge_top l p h]
    exact Nat.le_refl _
  | d + 1, j, e => by
    have h1 := ge_nodup l p hn h d (j + 1) (by omega)
    have h2 := List.nodup_iff_count.mp hn j
    rw [ge_succ]
    omega
/-- all places from j on are there: as many at least -/
theorem ge_full (l : List Int) (p : Int) : ∀ (d : Nat) (j : Int), j + d = p → (∀ y, j ≤ y → y < p → y ∈ l) → d ≤ ge l j
  | 0, _, _, _ => Nat.zero_le _
  | d + 1, j, e, h => by
    have h1 := ge_full l p d (j + 1) (by omega) (fun y a b => h y (by omega) b)
    have h2 := List.count_pos_iff.mpr (h j (by omega) (by omega))
    rw [ge_succ]
    omega
/-- what holds of the places out of cars with the favourites l -/
structure Park (p : Int) (l out : List Int) : Prop where
  nodup : out.Nodup
  low : ∀ y ∈ out, 0 ≤ y
  high : ∀ y ∈ out, y < p
  le : ∀ j, ge l j ≤ ge out j
  eq : ∀ j, j - 1 ∉ out → ge l j = ge out j
theorem Park.nil (p : Int) : Park p [] [] := ⟨List.nodup_nil, by simp, by simp, fun _ => Nat.le_refl _, fun _ _ => rfl⟩
theorem Park.step {p : Int} {l out : List Int} (h : Park p l out) (x : Int) (h0 : 0 ≤ x) (hl : land out p x < p) : Park p (l ++ [x]) (out ++ [land out p x]) := by
  have hge := land_ge out p x
  have hnot := land_notin out p x hl
  refine ⟨?_, ?_, ?_, ?_, ?_⟩
  · rw [List.nodup_append]
    refine ⟨h.nodup, by simp, ?_⟩
    intro a ha b hb e
    simp only [List.mem_singleton] at hb
    rw [e, hb] at ha
    exact hnot ha
  · intro y hy
    rcases List.mem_append.mp hy with hy | hy
    · exact h.low y hy
    · simp only [List.mem_singleton] at hy
      omega
  · intro y hy
    rcases List.mem_append.mp hy with hy | hy
    · exact h.high y hy
    · simp only [List.mem_singleton] at hy
      omega
  · intro j
    have h1 := h.le j
    rw [ge_append, ge_append, ge_one, ge_one]
    by_cases a : j ≤ x
    · rw [if_pos a, if_pos (by omega)]
      omega
    · rw [if_neg a]
      omega
  · intro j hj
    have hj1 : j - 1 ∉ out := fun hm => hj (List.mem_append.mpr (.inl hm))
    have hj2 : j - 1 ≠ land out p x := fun e => hj (List.mem_append.mpr (.inr (by simp [e])))
    rw [ge_append, ge_append, ge_one, ge_one, h.eq j hj1]
    by_cases a : j ≤ x
    · rw [if_pos a, if_pos (by omega)]
    · by_cases b : j ≤ land out p x
      · exact absurd (land_between out p _ x rfl (j - 1) (by omega) (by omega)) hj1
      · rw [if_neg a, if_neg b]
/-- places from x to the end are taken: from where on are all taken -/
theorem block (out : List Int) (hlow : ∀ y ∈ out, 0 ≤ y) (p : Int) : ∀ (d : Nat) (x : Int), 0 ≤ x → x = d → (∀ y, x ≤ y → y < p → y ∈ out) → ∃ j, 0 ≤ j ∧ j ≤ x ∧ j - 1 ∉ out ∧ ∀ y, j ≤ y → y < p → y ∈ out
  | 0, x, h0, e, h => ⟨x, h0, Int.le_refl _, fun hm => by have := hlow _ hm; omega, h⟩
  | d + 1, x, h0, e, h => by
    by_cases hm : x - 1 ∈ out
    · obtain ⟨j, a, b, c, f⟩ := block out hlow p d (x - 1) (by omega) (by omega) (fun y h1 h2 => by
        by_cases e : y = x - 1
        · rw [e]; exact hm
        · exact h y (by omega) h2)
      exact ⟨j, a, by omega, c, f⟩
    · exact ⟨x, h0, Int.le_refl _, hm, h⟩
theorem drv_park (p : Int) : ∀ (l l0 out r : List Int), (∀ x ∈ l, 0 ≤ x) → Park p l0 out → drv p out l = some r → Park p (l0 ++ l) r
  | [], l0, out, r, _, hP, h => by
    simp only [drv, Option.some.injEq] at h
    subst h
    rw [List.append_nil]
    exact hP
  | x :: l, l0, out, r, hx, hP, h => by
    simp only [drv] at h
    by_cases hl : land out p x < p
    · rw [if_pos hl] at h
      have := drv_park p l (l0 ++ [x]) _ r (fun y hy => hx y (List.mem_cons_of_mem _ hy)) (hP.step x (hx x List.mem_cons_self) hl) h
      rwa [List.append_assoc] at this
    · rw [if_neg hl] at h
      cases h
/-- some place refuses -/
theorem drv_fails (p : Int) : ∀ (l l0 out : List Int), (∀ x ∈ l, 0 ≤ x ∧ x < p) → Park p l0 out → drv p out l = none → ∃ j, 0 ≤ j ∧ j < p ∧ p - j < (ge (l0 ++ l) j : Int)
  | [], _, _, _, _, h => by simp [drv] at h
  | x :: l, l0, out, hx, hP, h => by
    simp only [drv] at h
    have hx0 := hx x List.mem_cons_self
    by_cases hl : land out p x < p
    · rw [if_pos hl] at h
      have := drv_fails p l (l0 ++ [x]) _ (fun y hy => hx y (List.mem_cons_of_mem _ hy)) (hP.step x hx0.1 hl) h
      rwa [List.append_assoc] at this
    · have full : ∀ y, x ≤ y → y < p → y ∈ out := fun y a b => land_between out p _ x rfl y a (by omega)
      obtain ⟨j, j0, jx, jn, jf⟩ := block out hP.low p x.toNat x hx0.1 (by omega) full
      refine ⟨j, j0, by omega, ?_⟩
      have h1 := ge_full out p (p - j).toNat j (by omega) jf
      have h2 := hP.eq j jn
      rw [ge_append, ge_cons, if_pos jx]
      omega
/-- no place refuses -/
def noRefuse (l : List Int) (p : Int) : Prop := ∀ j : Int, 0 ≤ j → j < p → (ge l j : Int) ≤ p - j
theorem park_iff (l : List Int) (p : Int) (hx : ∀ x ∈ l, 0 ≤ x ∧ x < p) : allPark l p = true ↔ noRefuse l p := by
  unfold allPark
  constructor
  · intro h j j0 j1
    obtain ⟨r, hr⟩ := Option.isSome_iff_exists.mp h
    have hP := drv_park p l [] [] r (fun x h => (hx x h).1) (Park.nil p) hr
    have h1 := hP.le j
    have h2 := ge_nodup r p hP.nodup hP.high (p - j).toNat j (by omega)
    rw [List.nil_append] at h1
    omega
  · intro h
    cases e : drv p [] l with
    | some r => rfl
    | none =>
      obtain ⟨j, j0, j1, hj⟩ := drv_fails p l [] [] hx (Park.nil p) e
      have := h j j0 j1
      rw [List.nil_append] at hj
      omega

end Go.Proofs.Ytdiohjdfiambhaa.Math
