/- Plain law: the list with a number has that number, and lists stand in the order of their numbers. -/
import Derived.Test.YtdiohjdfiambhaaMUnrank
namespace Go.Proofs.Ytdiohjdfiambhaa.Math
open Go.RowKit
set_option linter.unusedVariables false
set_option linter.unusedSimpArgs false

/-- the order of lists by their first places that differ -/
def lexLt : List Int → List Int → Prop
  | x :: s, y :: t => x < y ∨ (x = y ∧ lexLt s t)
  | _, _ => False
theorem lexLt_pre : ∀ (L s t : List Int), lexLt s t → lexLt (L ++ s) (L ++ t)
  | [], _, _, h => h
  | x :: L, s, t, h => .inr ⟨rfl, lexLt_pre L s t h⟩
theorem unrank_tail (n : Nat) (h8 : n ≤ 8) : ∀ (d : Nat) (L : List Int) (r : Nat), L.length + d = n → r < comp n L → ∃ s, unrank n d L r = L ++ s ∧ s.length = d ∧ rankFrom n L s = r ∧ inStreet n s ∧ (inStreet n L → isPk (L ++ s) = true)
  | 0, L, r, h, hr => by
    refine ⟨[], by simp [unrank], rfl, ?_, ?_, ?_⟩
    rotate_left
    · intro x hx
      cases hx
    · intro hs
      rw [comp_full n L (by omega) h8 hs] at hr
      rw [List.append_nil]
      by_cases e : isPk L = true
      · exact e
      · rw [if_neg e] at hr
        omega
    · by_cases hs : comp n L = 1
      · simp only [rankFrom]
        omega
      · unfold comp at hr hs
        rw [show n - L.length = 0 by omega, cways_none] at hr hs
        split at hr
        · rename_i hc
          rw [if_pos hc] at hs
          omega
        · omega
  | d + 1, L, r, h, hr => by
    rw [comp_child n L (by omega)] at hr
    obtain ⟨h1, h2, h3⟩ := pick_spec (fun x => comp n (L ++ [(x : Int)])) n n 0 r (by omega) (by simpa [sumTo] using hr)
    simp only [unrank]
    generalize pick (fun x => comp n (L ++ [(x : Int)])) n 0 r = q at h1 h2 h3
    simp only [sumTo, Nat.zero_add] at h2
    obtain ⟨s, e1, e2, e3, e4, e5⟩ := unrank_tail n h8 d (L ++ [(q.1 : Int)]) q.2 (by simp; omega) h3
    refine ⟨(q.1 : Int) :: s, by rw [e1, List.append_assoc]; rfl, by simp [e2], ?_, ?_, fun hs => ?_⟩
    · simp only [rankFrom, Int.toNat_natCast]
      rw [e3]
      exact h2
    · intro x hx
      rcases List.mem_cons.mp hx with hx | hx
      · omega
      · exact e4 x hx
    · have := e5 (inStreet_snoc hs h1)
      rw [List.append_assoc] at this
      exact this
theorem unrank_less (n : Nat) (h8 : n ≤ 8) : ∀ (d : Nat) (L : List Int) (r q : Nat), L.length + d = n → r < q → q < comp n L → inStreet n L → ∃ s t, unrank n d L r = L ++ s ∧ unrank n d L q = L ++ t ∧ lexLt s t
  | 0, L, r, q, h, hrq, hq, hs => by
    rw [comp_full n L (by omega) h8 hs] at hq
    split at hq <;> omega
  | d + 1, L, r, q, h, hrq, hq, hs => by
    rw [comp_child n L (by omega)] at hq
    obtain ⟨a1, a2, a3⟩ := pick_spec (fun x => comp n (L ++ [(x : Int)])) n n 0 r (by omega) (by simp only [sumTo]; omega)
    obtain ⟨b1, b2, b3⟩ := pick_spec (fun x => comp n (L ++ [(x : Int)])) n n 0 q (by omega) (by simpa [sumTo] using hq)
    simp only [unrank]
    generalize pick (fun x => comp n (L ++ [(x : Int)])) n 0 r = u at a1 a2 a3
    generalize pick (fun x => comp n (L ++ [(x : Int)])) n 0 q = v at b1 b2 b3
    simp only [sumTo, Nat.zero_add] at a2 b2
    by_cases e : u.1 = v.1
    · rw [← e] at b2 b3 ⊢
      obtain ⟨s, t, g1, g2, g3⟩ := unrank_less n h8 d (L ++ [(u.1 : Int)]) u.2 v.2 (by simp; omega) (by omega) b3 (inStreet_snoc hs a1)
      exact ⟨(u.1 : Int) :: s, (u.1 : Int) :: t, by rw [g1, List.append_assoc]; rfl, by rw [g2, List.append_assoc]; rfl, .inr ⟨rfl, g3⟩⟩
    · have hlt : u.1 < v.1 := by
        apply Classical.byContradiction
        intro hne
        have hsp := sumTo_split (fun x => comp n (L ++ [(x : Int)])) (v.1 + 1) (u.1 - (v.1 + 1))
        rw [show v.1 + 1 + (u.1 - (v.1 + 1)) = u.1 by omega] at hsp
        have h5 : sumTo (fun x => comp n (L ++ [(x : Int)])) (v.1 + 1) = sumTo (fun x => comp n (L ++ [(x : Int)])) v.1 + comp n (L ++ [(v.1 : Int)]) := rfl
        omega
      obtain ⟨s, e1, _⟩ := unrank_tail n h8 d (L ++ [(u.1 : Int)]) u.2 (by simp; omega) a3
      obtain ⟨t, f1, _⟩ := unrank_tail n h8 d (L ++ [(v.1 : Int)]) v.2 (by simp; omega) b3
      exact ⟨(u.1 : Int) :: s, (v.1 : Int) :: t, by rw [e1, List.append_assoc]; rfl, by rw [f1, List.append_assoc]; rfl, .inl (by omega)⟩

end Go.Proofs.Ytdiohjdfiambhaa.Math
