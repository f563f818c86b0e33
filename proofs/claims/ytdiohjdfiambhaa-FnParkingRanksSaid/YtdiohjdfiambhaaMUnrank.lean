/- Plain law: the list with a number among the lists that go on a list, found place by place, and back. -/
import Derived.Test.YtdiohjdfiambhaaMRank
namespace Go.Proofs.Ytdiohjdfiambhaa.Math
open Go.RowKit
set_option linter.unusedVariables false
set_option linter.unusedSimpArgs false

/-- the first x whose part holds place r, and the place within, looked for among d more from x on -/
def pick (c : Nat → Nat) : Nat → Nat → Nat → Nat × Nat
  | 0, x, r => (x, r)
  | d + 1, x, r => if r < c x then (x, r) else pick c d (x + 1) (r - c x)
theorem pick_spec (c : Nat → Nat) (n : Nat) : ∀ (d x r : Nat), x + d = n → sumTo c x + r < sumTo c n → (pick c d x r).1 < n ∧ sumTo c (pick c d x r).1 + (pick c d x r).2 = sumTo c x + r ∧ (pick c d x r).2 < c (pick c d x r).1
  | 0, x, r, h, hr => by
    rw [show x = n by omega] at hr
    omega
  | d + 1, x, r, h, hr => by
    simp only [pick]
    by_cases e : r < c x
    · rw [if_pos e]
      exact ⟨by omega, rfl, e⟩
    · rw [if_neg e]
      have h1 : sumTo c (x + 1) = sumTo c x + c x := rfl
      have := pick_spec c n d (x + 1) (r - c x) (by omega) (by omega)
      refine ⟨this.1, ?_, this.2.2⟩
      omega
/-- the list with number r among those that go on L by d more -/
def unrank (n : Nat) : Nat → List Int → Nat → List Int
  | 0, L, _ => L
  | d + 1, L, r => unrank n d (L ++ [((pick (fun x => comp n (L ++ [(x : Int)])) n 0 r).1 : Int)]) (pick (fun x => comp n (L ++ [(x : Int)])) n 0 r).2
theorem unrank_at (n : Nat) (h8 : n ≤ 8) : ∀ (d : Nat) (L : List Int) (r : Nat), L.length + d = n → inStreet n L → r < comp n L → (ext n d L)[r]? = some (unrank n d L r)
  | 0, L, r, h, hs, hr => by
    rw [comp_full n L (by omega) h8 hs] at hr
    simp only [ext, unrank]
    by_cases e : isPk L = true
    · rw [if_pos e] at hr ⊢
      rw [show r = 0 by omega]
      rfl
    · rw [if_neg e] at hr
      omega
  | d + 1, L, r, h, hs, hr => by
    rw [comp_child n L (by omega)] at hr
    obtain ⟨h1, h2, h3⟩ := pick_spec (fun x => comp n (L ++ [(x : Int)])) n n 0 r (by omega) (by simpa [sumTo] using hr)
    simp only [ext, unrank]
    generalize pick (fun x => comp n (L ++ [(x : Int)])) n 0 r = q at h1 h2 h3
    simp only [sumTo, Nat.zero_add] at h2
    have hl : ∀ i, i < n → (ext n d (L ++ [(i : Int)])).length = comp n (L ++ [(i : Int)]) := fun i hi => ext_length n h8 d _ (by simp; omega) (inStreet_snoc hs hi)
    have hsum : sumTo (fun i => (ext n d (L ++ [(i : Int)])).length) q.1 = sumTo (fun x => comp n (L ++ [(x : Int)])) q.1 := sumTo_congr _ (fun i hi => hl i (by omega))
    have hsum2 : sumTo (fun i => (ext n d (L ++ [(i : Int)])).length) (q.1 + 1) = sumTo (fun x => comp n (L ++ [(x : Int)])) (q.1 + 1) := sumTo_congr _ (fun i hi => hl i (by omega))
    rw [catTo_at _ r n q.1 h1 (by rw [hsum]; omega) (by rw [hsum2]; simp only [sumTo]; omega), hsum]
    rw [show r - sumTo (fun x => comp n (L ++ [(x : Int)])) q.1 = q.2 by omega]
    exact unrank_at n h8 d _ q.2 (by simp; omega) (inStreet_snoc hs h1) h3
/-- the number of a list among those that go on L -/
def rankFrom (n : Nat) : List Int → List Int → Nat
  | _, [] => 0
  | L, x :: s => sumTo (fun f => comp n (L ++ [(f : Int)])) x.toNat + rankFrom n (L ++ [x]) s
theorem rank_at (n : Nat) (h8 : n ≤ 8) : ∀ (d : Nat) (L s : List Int), s.length = d → L.length + d = n → inStreet n L → inStreet n s → isPk (L ++ s) = true → rankFrom n L s < comp n L ∧ unrank n d L (rankFrom n L s) = L ++ s
  | 0, L, s, hl, h, hs, _, hp => by
    have : s = [] := List.length_eq_zero_iff.mp hl
    subst this
    rw [List.append_nil] at hp ⊢
    rw [comp_full n L (by omega) h8 hs, if_pos hp]
    exact ⟨by simp [rankFrom], rfl⟩
  | d + 1, L, [], hl, _, _, _, _ => by cases hl
  | d + 1, L, x :: s, hl, h, hs, hss, hp => by
    have hx := hss x List.mem_cons_self
    have ex : ((x.toNat : Nat) : Int) = x := by omega
    have e : L ++ x :: s = (L ++ [x]) ++ s := by
      rw [List.append_assoc]
      rfl
    rw [e] at hp ⊢
    have hs2 : inStreet n (L ++ [x]) := by
      rw [← ex]
      exact inStreet_snoc hs (by omega)
    obtain ⟨g1, g2⟩ := rank_at n h8 d (L ++ [x]) s (by simpa using hl) (by simp; omega) hs2 (fun y hy => hss y (List.mem_cons_of_mem _ hy)) hp
    have hc : comp n (L ++ [((x.toNat : Nat) : Int)]) = comp n (L ++ [x]) := by rw [ex]
    have hsp := sumTo_split (fun f => comp n (L ++ [(f : Int)])) (x.toNat + 1) (n - (x.toNat + 1))
    rw [show x.toNat + 1 + (n - (x.toNat + 1)) = n by omega] at hsp
    have h1 : sumTo (fun f => comp n (L ++ [(f : Int)])) (x.toNat + 1) = sumTo (fun f => comp n (L ++ [(f : Int)])) x.toNat + comp n (L ++ [x]) := by
      simp only [sumTo]
      rw [hc]
    have hlt : sumTo (fun f => comp n (L ++ [(f : Int)])) x.toNat + rankFrom n (L ++ [x]) s < sumTo (fun f => comp n (L ++ [(f : Int)])) n := by omega
    refine ⟨by simp only [rankFrom]; rw [comp_child n L (by omega)]; exact hlt, ?_⟩
    simp only [rankFrom, unrank]
    obtain ⟨p1, p2, p3⟩ := pick_spec (fun x => comp n (L ++ [(x : Int)])) n n 0 _ (by omega) (by simpa [sumTo] using hlt)
    generalize pick (fun x => comp n (L ++ [(x : Int)])) n 0 (sumTo (fun f => comp n (L ++ [(f : Int)])) x.toNat + rankFrom n (L ++ [x]) s) = q at p1 p2 p3
    simp only [sumTo, Nat.zero_add] at p2
    have eq1 : q.1 = x.toNat := by
      apply Classical.byContradiction
      intro hne
      by_cases hlt2 : q.1 < x.toNat
      · have hq := sumTo_split (fun f => comp n (L ++ [(f : Int)])) (q.1 + 1) (x.toNat - (q.1 + 1))
        rw [show q.1 + 1 + (x.toNat - (q.1 + 1)) = x.toNat by omega] at hq
        have h5 : sumTo (fun f => comp n (L ++ [(f : Int)])) (q.1 + 1) = sumTo (fun f => comp n (L ++ [(f : Int)])) q.1 + comp n (L ++ [(q.1 : Int)]) := rfl
        omega
      · have hq := sumTo_split (fun f => comp n (L ++ [(f : Int)])) (x.toNat + 1) (q.1 - (x.toNat + 1))
        rw [show x.toNat + 1 + (q.1 - (x.toNat + 1)) = q.1 by omega] at hq
        omega
    rw [eq1] at p2 ⊢
    rw [ex, show q.2 = rankFrom n (L ++ [x]) s by omega]
    exact g2
theorem unrank_ext (n : Nat) (h8 : n ≤ 8) (d : Nat) (L : List Int) (r : Nat) (h : L.length + d = n) (hs : inStreet n L) (hr : r < comp n L) : unrank n d L r ∈ ext n d L := List.mem_of_getElem? (unrank_at n h8 d L r h hs hr)

end Go.Proofs.Ytdiohjdfiambhaa.Math
