/- Plain law: two neighbouring cars exchanged: the same places are taken, and the sum of distances is the same; where each car stands. -/
import Derived.Test.YtdiohjdfiambhaaMSwap
import Derived.Test.YtdiohjdfiambhaaMSort
import Derived.Test.YtdiohjdfiambhaaMTurn
import Derived.Test.YtdiohjdfiambhaaMLesser
import Derived.Test.YtdiohjdfiambhaaMCrit
namespace Go.Proofs.Ytdiohjdfiambhaa.Math
open Go.RowKit
set_option linter.unusedVariables false
set_option linter.unusedSimpArgs false

theorem swap_form : ∀ (l : List Int) (i : Nat) (h : i + 1 < l.length), ∃ a b x y, l = a ++ x :: y :: b ∧ (l.set i (l[i + 1]'h)).set (i + 1) (l[i]'(by omega)) = a ++ y :: x :: b
  | x :: y :: l, 0, _ => ⟨[], l, x, y, rfl, rfl⟩
  | [x], 0, h => by simp at h
  | z :: l, i + 1, h => by
    obtain ⟨a, b, x, y, e1, e2⟩ := swap_form l i (by simpa using h)
    refine ⟨z :: a, b, x, y, by rw [e1]; rfl, ?_⟩
    simp only [List.set_cons_succ, List.getElem_cons_succ]
    rw [e2]
    rfl
  | [], _, h => by simp at h
theorem swap_drv (p : Int) (l : List Int) (i : Nat) (h : i + 1 < l.length) : (∀ r, drv p [] l = some r → ∃ r', drv p [] ((l.set i (l[i + 1]'h)).set (i + 1) (l[i]'(by omega))) = some r' ∧ r.Perm r') ∧ (drv p [] l = none → drv p [] ((l.set i (l[i + 1]'h)).set (i + 1) (l[i]'(by omega))) = none) := by
  obtain ⟨a, b, x, y, e1, e2⟩ := swap_form l i h
  rw [e2]
  constructor
  · intro r hr
    rw [e1] at hr
    exact drv_swap p a b x y r hr
  · intro hn
    cases hd : drv p [] (a ++ y :: x :: b) with
    | none => rfl
    | some r =>
      obtain ⟨r', h1, _⟩ := drv_swap p a b y x r hd
      rw [e1, h1] at hn
      cases hn
/-- the sum of a list -/
def isum : List Int → Int
  | [] => 0
  | x :: l => x + isum l
theorem isum_perm {l m : List Int} (h : l.Perm m) : isum l = isum m := by
  induction h with
  | nil => rfl
  | cons x _ ih => simp only [isum, ih]
  | swap x y l => simp only [isum]; omega
  | trans _ _ h1 h2 => exact h1.trans h2
theorem isum_zip : ∀ (r l : List Int), r.length = l.length → isum (List.zipWith (fun a b => a - b) r l) = isum r - isum l
  | [], [], _ => rfl
  | x :: r, y :: l, h => by
    have ih := isum_zip r l (by simpa using h)
    simp only [List.zipWith_cons_cons, isum, ih]
    omega
  | [], y :: l, h => by simp at h
  | x :: r, [], h => by simp at h
/-- each car stands at the first free place from its favourite on -/
theorem drv_at (p : Int) : ∀ (l out r : List Int), drv p out l = some r → ∀ i (h : i < l.length) (h2 : out.length + i < r.length), r[out.length + i] = land (r.take (out.length + i)) p l[i] ∧ r[out.length + i] < p
  | [], _, _, _, i, h, _ => by simp at h
  | x :: l, out, r, hd, i, h, h2 => by
    simp only [drv] at hd
    by_cases hl : land out p x < p
    · rw [if_pos hl] at hd
      obtain ⟨s, es, _⟩ : ∃ s, r = (out ++ [land out p x]) ++ s ∧ True := by
        have key : ∀ (l out r : List Int), drv p out l = some r → ∃ s, r = out ++ s := by
          intro l
          induction l with
          | nil =>
            intro out r h
            simp only [drv, Option.some.injEq] at h
            exact ⟨[], by simp [h]⟩
          | cons y l ih =>
            intro out r h
            simp only [drv] at h
            by_cases c : land out p y < p
            · rw [if_pos c] at h
              obtain ⟨s, e⟩ := ih _ _ h
              exact ⟨land out p y :: s, by rw [e, List.append_assoc]; rfl⟩
            · rw [if_neg c] at h
              cases h
        obtain ⟨s, e⟩ := key l _ r hd
        exact ⟨s, e, trivial⟩
      cases i with
      | zero =>
        have e1 : r.take (out.length + 0) = out := by rw [es, List.append_assoc, Nat.add_zero, List.take_left]
        have e2 : r[out.length + 0]'h2 = land out p x := by
          simp only [es, Nat.add_zero]
          rw [List.getElem_append_left (by simp), List.getElem_append_right (by omega)]
          simp
        rw [e1, e2]
        exact ⟨rfl, hl⟩
      | succ i =>
        have ih := drv_at p l (out ++ [land out p x]) r hd i (by simpa using h) (by simp; omega)
        have e : (out ++ [land out p x]).length + i = out.length + (i + 1) := by simp; omega
        simp only [e] at ih
        simpa using ih
    · rw [if_neg hl] at hd
      cases hd

end Go.Proofs.Ytdiohjdfiambhaa.Math
