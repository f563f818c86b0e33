/- Plain law on cars that take the next free place: what the program's walk over a table of taken places and the reference's walk over a list of places compute. -/
import Derived.WalkKit
namespace Go.Proofs.Ytdiohjdfiambhaa.Math
open Go.RowKit
set_option linter.unusedVariables false
set_option linter.unusedSimpArgs false

/-- the first place from x on that is not in out, or x where the street ends -/
def landF (out : List Int) (p : Int) : Nat → Int → Int
  | 0, x => x
  | d + 1, x => if x < p ∧ x ∈ out then landF out p d (x + 1) else x
def land (out : List Int) (p x : Int) : Int := landF out p (p - x).toNat x
theorem land_go (out : List Int) (p x : Int) (h : x < p) (hm : x ∈ out) : land out p x = land out p (x + 1) := by
  unfold land
  rw [show (p - x).toNat = (p - (x + 1)).toNat + 1 by omega]
  simp only [landF, if_pos (And.intro h hm)]
theorem land_stop (out : List Int) (p x : Int) (h : ¬ (x < p ∧ x ∈ out)) : land out p x = x := by
  unfold land
  cases (p - x).toNat with
  | zero => rfl
  | succ d => simp only [landF, if_neg h]
theorem landF_ge (out : List Int) (p : Int) : ∀ (d : Nat) (x : Int), x ≤ landF out p d x
  | 0, _ => Int.le_refl _
  | d + 1, x => by
    simp only [landF]
    split
    · have := landF_ge out p d (x + 1); omega
    · exact Int.le_refl _
theorem land_ge (out : List Int) (p x : Int) : x ≤ land out p x := landF_ge out p _ x
theorem land_free (out : List Int) (p : Int) : ∀ (d : Nat) (x : Int), (p - x).toNat = d → land out p x < p → land out p x ∉ out
  | 0, x, h, hl => by
    have := land_ge out p x
    omega
  | d + 1, x, h, hl => by
    by_cases hm : x ∈ out
    · rw [land_go out p x (by omega) hm] at hl ⊢
      exact land_free out p d (x + 1) (by omega) hl
    · rw [land_stop out p x (fun h => hm h.2)]
      exact hm
theorem land_notin (out : List Int) (p x : Int) (h : land out p x < p) : land out p x ∉ out := land_free out p _ x rfl h
/-- all between x and where it lands is taken -/
theorem land_between (out : List Int) (p : Int) : ∀ (d : Nat) (x : Int), (p - x).toNat = d → ∀ y, x ≤ y → y < land out p x → y ∈ out
  | 0, x, h, y, h1, h2 => by
    rw [land_stop out p x (by omega)] at h2
    omega
  | d + 1, x, h, y, h1, h2 => by
    by_cases hm : x ∈ out
    · rw [land_go out p x (by omega) hm] at h2
      by_cases e : y = x
      · rw [e]; exact hm
      · exact land_between out p d (x + 1) (by omega) y (by omega) h2
    · rw [land_stop out p x (fun h => hm h.2)] at h2
      omega
/-- the places of cars, if all park -/
def drv (p : Int) : List Int → List Int → Option (List Int)
  | out, [] => some out
  | out, x :: l => if land out p x < p then drv p (out ++ [land out p x]) l else none
/-- the places of cars, -1 for those that fail -/
def paD (p : Int) : List Int → List Int → List Int
  | out, [] => out
  | out, x :: l => paD p (out ++ [if land out p x < p then land out p x else -1]) l
theorem paD_keeps (p : Int) : ∀ (l out : List Int) (y : Int), y ∈ out → y ∈ paD p out l
  | [], _, _, h => h
  | x :: l, out, y, h => paD_keeps p l _ y (List.mem_append.mpr (.inl h))
theorem drv_some (p : Int) : ∀ (l out r : List Int), (∀ x ∈ l, 0 ≤ x) → -1 ∉ out → drv p out l = some r → paD p out l = r ∧ -1 ∉ r
  | [], out, r, _, hn, h => by
    simp only [drv, Option.some.injEq] at h
    subst h
    exact ⟨rfl, hn⟩
  | x :: l, out, r, hx, hn, h => by
    simp only [drv] at h
    by_cases hl : land out p x < p
    · rw [if_pos hl] at h
      simp only [paD, if_pos hl]
      refine drv_some p l _ r (fun y hy => hx y (List.mem_cons_of_mem _ hy)) ?_ h
      have h1 := land_ge out p x
      have h2 := hx x List.mem_cons_self
      intro hm
      rcases List.mem_append.mp hm with hm | hm
      · exact hn hm
      · simp only [List.mem_singleton] at hm
        omega
    · rw [if_neg hl] at h
      cases h
theorem drv_none (p : Int) : ∀ (l out : List Int), drv p out l = none → -1 ∈ paD p out l
  | [], out, h => by simp [drv] at h
  | x :: l, out, h => by
    simp only [drv] at h
    by_cases hl : land out p x < p
    · rw [if_pos hl] at h
      simp only [paD, if_pos hl]
      exact drv_none p l _ h
    · simp only [paD, if_neg hl]
      exact paD_keeps p l _ _ (by simp)
theorem drv_lt (p : Int) : ∀ (l out r : List Int), drv p out l = some r → ∀ x ∈ l, x < p
  | [], _, _, _, x, hx => by cases hx
  | y :: l, out, r, h, x, hx => by
    simp only [drv] at h
    by_cases hl : land out p y < p
    · rw [if_pos hl] at h
      rcases List.mem_cons.mp hx with e | hx
      · have := land_ge out p y
        omega
      · exact drv_lt p l _ r h x hx
    · rw [if_neg hl] at h
      cases h
theorem drv_length (p : Int) : ∀ (l out r : List Int), drv p out l = some r → r.length = out.length + l.length
  | [], out, r, h => by
    simp only [drv, Option.some.injEq] at h
    subst h; simp
  | x :: l, out, r, h => by
    simp only [drv] at h
    by_cases hl : land out p x < p
    · rw [if_pos hl] at h
      have := drv_length p l _ r h
      simp at this ⊢
      omega
    · rw [if_neg hl] at h
      cases h
/-- do all cars park -/
def allPark (l : List Int) (p : Int) : Bool := (drv p [] l).isSome
theorem allPark_paD (l : List Int) (p : Int) (hx : ∀ x ∈ l, 0 ≤ x) : decide (-1 ∈ paD p [] l) = !allPark l p := by
  unfold allPark
  cases h : drv p [] l with
  | none => simpa using drv_none p l [] h
  | some r =>
    have ⟨h1, h2⟩ := drv_some p l [] r hx (by simp) h
    rw [h1]
    simpa using h2
/-- is a list a parking function of at most 8 cars -/
def isPk (l : List Int) : Bool := decide (l.length ≤ 8) && (l.all fun x => decide (0 ≤ x) && decide (x ≤ (l.length : Int) - 1)) && allPark l l.length

end Go.Proofs.Ytdiohjdfiambhaa.Math
