/- Proved here: what the Lean functions printed for the Go functions of law FnExactRefusingPlace compute, in words of lists and whole numbers, for lists shorter than 2^62. -/
import Derived.Test.YtchfkfdogcahkaaQFnExactRefusingPlacex
import Derived.Test.YtchfkfdogcahkaaMDrive
import Derived.Test.YtchfkfdogcahkaaMCrit
namespace Go.Proofs.Ytchfkfdogcahkaa.QFnExactRefusingPlace
open Go.RowKit Go.Proofs.YtchfkfdogcahkaaW.PrintWords Go.Proofs.YtchfkfdogcahkaaW.PrintLast Go.Proofs.Ytchfkfdogcahkaa.Math
set_option linter.unusedVariables false

theorem ev_pos {α : Type} {c : Prop} [Decidable c] {g f : Nat → Option α} {r : α} (h : c) (k : Ev g r) : Ev (fun n => if c then g n else f n) r := by
  obtain ⟨K, hK⟩ := k
  exact ⟨K, fun n hn => by simp only [if_pos h]; exact hK n hn⟩
theorem ev_neg {α : Type} {c : Prop} [Decidable c] {g f : Nat → Option α} {r : α} (h : ¬ c) (k : Ev f r) : Ev (fun n => if c then g n else f n) r := by
  obtain ⟨K, hK⟩ := k
  exact ⟨K, fun n hn => by simp only [if_neg h]; exact hK n hn⟩
theorem ev_eq {α : Type} {g : Option α} {r : α} (h : g = some r) : Ev (fun _ => g) r := ⟨0, fun _ _ => h⟩
theorem ev_val {α : Type} {g : Nat → Option α} {r q : α} (h : Ev g r) (e : r = q) : Ev g q := e ▸ h
theorem wrap_nat (i : Nat) (h : i < 4611686018427387904) : wrap64 ((i : Int) + 1) = ((i + 1 : Nat) : Int) := by
  unfold wrap64
  omega
theorem wrap_id (x : Int) (h : -9223372036854775808 ≤ x) (h' : x ≤ 9223372036854775807) : wrap64 x = x := by
  unfold wrap64
  omega
theorem rd_nat (l : List Int) (i : Nat) (h : i < l.length) : rd l (i : Int) = l[i] := by
  simp [rd, List.getD_eq_getElem?_getD, h]
theorem rd_int (l : List Int) (x : Int) (h0 : 0 ≤ x) (h : x < l.length) : rd l x = l[x.toNat]'(by omega) := by
  have e : x = ((x.toNat : Nat) : Int) := by omega
  have h2 : x.toNat < l.length := by omega
  rw [show rd l x = rd l ((x.toNat : Nat) : Int) by rw [← e]]
  exact rd_nat l x.toNat h2
/-- m, m + 1, .., n numbers -/
def marks : Int → Nat → List Int
  | _, 0 => []
  | m, n + 1 => m :: marks (m + 1) n
theorem marks_len : ∀ (n : Nat) (m : Int), (marks m n).length = n
  | 0, _ => rfl
  | n + 1, m => by simp [marks, marks_len n]
theorem take_set_succ (y l : List Int) (i : Nat) (hi : i < l.length) (hy : y.length = l.length) (h : y.take i = l.take i) : (y.set i l[i]).take (i + 1) = l.take (i + 1) := by
  rw [List.take_succ_eq_append_getElem (by simp; omega), List.take_succ_eq_append_getElem hi, List.take_set_of_le (Nat.le_refl i), h, List.getElem_set_self]
/-- all numbers lie from lo to hi -/
def inAll (lo hi : Int) (l : List Int) : Bool := l.all fun x => decide (lo ≤ x) && decide (x ≤ hi)
theorem inAll_iff (lo hi : Int) (l : List Int) : inAll lo hi l = true ↔ ∀ x ∈ l, lo ≤ x ∧ x ≤ hi := by
  simp [inAll]

theorem laws_toIntS.evl (l : List Int) (hl : l.length < 4611686018427387904) (d : Nat) : ∀ (i : Nat) (y : List Int), i + d = l.length → y.length = l.length → y.take i = l.take i → Ev (fun k => laws_toIntS.l0 k l y (i : Int)) l := by
  induction d with
  | zero =>
    intro i y hi hy ht
    refine Ev.step (fun k => laws_toIntS.l0.eq_2 ..) ?_
    refine ev_neg (by omega) ?_
    refine ev_val (Ev.now _) ?_
    rw [show i = l.length by omega] at ht
    rw [List.take_of_length_le (by omega), List.take_of_length_le (by omega)] at ht
    exact ht
  | succ d ih =>
    intro i y hi hy ht
    refine Ev.step (fun k => laws_toIntS.l0.eq_2 ..) ?_
    refine ev_pos (by omega) (ev_pos (by omega) (ev_pos (by omega) ?_))
    rw [wrap_nat i (by omega), rd_nat l i (by omega), Int.toNat_natCast]
    exact ih (i + 1) _ (by omega) (by simp; omega) (take_set_succ y l i (by omega) hy ht)
theorem laws_toIntS.ev (l : List Int) (hl : l.length ≤ 1048576) : Ev (fun k => laws_toIntS.f k l) l := by
  simp only [laws_toIntS.f]
  refine ev_pos (by omega) (ev_pos (by omega) ?_)
  exact laws_toIntS.evl l (by omega) l.length 0 _ (by omega) (by simp) (by simp)

theorem laws_eqIntS.evl (a b : List Int) (hl : a.length < 4611686018427387904) (h : a.length = b.length) (d : Nat) : ∀ (i : Nat), i + d = a.length → Ev (fun k => laws_eqIntS.l0 k a b (i : Int)) (decide (a.drop i = b.drop i)) := by
  induction d with
  | zero =>
    intro i hi
    refine Ev.step (fun k => laws_eqIntS.l0.eq_2 ..) ?_
    refine ev_neg (by omega) ?_
    refine ev_val (Ev.now _) ?_
    rw [List.drop_of_length_le (by omega), List.drop_of_length_le (by omega)]
    rfl
  | succ d ih =>
    intro i hi
    refine Ev.step (fun k => laws_eqIntS.l0.eq_2 ..) ?_
    refine ev_pos (by omega) (ev_pos (by omega) (ev_pos (by omega) ?_))
    rw [wrap_nat i (by omega), rd_nat a i (by omega), rd_nat b i (by omega)]
    rw [List.drop_eq_getElem_cons (l := a) (by omega), List.drop_eq_getElem_cons (l := b) (by omega)]
    by_cases e : a[i] = b[i]'(by omega)
    · refine ev_pos e (ev_val (ih (i + 1) (by omega)) ?_)
      simp only [List.cons.injEq, e, true_and]
    · refine ev_neg e (ev_val (Ev.now _) ?_)
      simp only [List.cons.injEq, e, false_and, decide_false]
theorem laws_eqIntS.ev (a b : List Int) (hl : a.length < 4611686018427387904) : Ev (fun k => laws_eqIntS.f k a b) (decide (a = b)) := by
  simp only [laws_eqIntS.f]
  by_cases h : a.length = b.length
  · refine ev_pos (by omega) (ev_val (laws_eqIntS.evl a b hl h a.length 0 (by omega)) ?_)
    simp
  · refine ev_neg (by omega) (ev_val (Ev.now _) ?_)
    exact (decide_eq_false (fun e => h (by rw [e]))).symm
theorem laws_eqIntS.ev_self (a : List Int) (hl : a.length < 4611686018427387904) : Ev (fun k => laws_eqIntS.f k a a) true := ev_val (laws_eqIntS.ev a a hl) (by simp)

theorem spec_l1In.is (x lo hi : Int) : spec_l1In.f x lo hi = some (decide (lo ≤ x) && decide (x ≤ hi)) := by
  unfold spec_l1In.f
  by_cases h : x ≥ lo
  · rw [if_pos h, decide_eq_true (show lo ≤ x from h), Bool.true_and]
  · rw [if_neg h, decide_eq_false (show ¬ lo ≤ x from h), Bool.false_and]

theorem spec_paStreet.is (p : Int) : spec_paStreet.f p = some (decide (1 ≤ p) && decide (p ≤ 12)) := by
  simp only [spec_paStreet.f, spec_l1In.is, Option.bind_some]

theorem spec_l1All.evl (lo hi : Int) (l : List Int) (hl : l.length < 4611686018427387904) (d : Nat) : ∀ (i : Nat), i + d = l.length → Ev (fun k => spec_l1All.l0 k lo hi l (l.length : Int) (i : Int)) (inAll lo hi (l.drop i)) := by
  induction d with
  | zero =>
    intro i hi0
    refine Ev.step (fun k => spec_l1All.l0.eq_2 ..) ?_
    refine ev_neg (by omega) ?_
    refine ev_val (Ev.now _) ?_
    rw [List.drop_of_length_le (by omega)]
    rfl
  | succ d ih =>
    intro i hi0
    refine Ev.step (fun k => spec_l1All.l0.eq_2 ..) ?_
    refine ev_pos (by omega) (ev_pos (by omega) (ev_pos (by omega) ?_))
    rw [wrap_nat i (by omega), rd_nat l i (by omega), List.drop_eq_getElem_cons (by omega), spec_l1In.is]
    refine Ev.bind (Ev.now _) ?_
    have u : inAll lo hi (l[i] :: l.drop (i + 1)) = ((decide (lo ≤ l[i]) && decide (l[i] ≤ hi)) && inAll lo hi (l.drop (i + 1))) := rfl
    rw [u]
    generalize (decide (lo ≤ l[i]) && decide (l[i] ≤ hi)) = b
    cases b with
    | true => exact ev_pos rfl (ih (i + 1) (by omega))
    | false => exact ev_neg (by decide) (Ev.now _)
theorem spec_l1All.ev (l : List Int) (lo hi : Int) (hl : l.length < 4611686018427387904) : Ev (fun k => spec_l1All.f k l lo hi) (inAll lo hi l) := by
  simp only [spec_l1All.f]
  exact spec_l1All.evl lo hi l hl l.length 0 (by omega)

/-- favourites for a street of p places -/
def fav (l : List Int) (p : Int) : Bool := decide (1 ≤ p) && decide (p ≤ 12) && decide (l.length ≤ 8) && inAll 0 (p - 1) l
theorem fav_iff (l : List Int) (p : Int) : fav l p = true ↔ 1 ≤ p ∧ p ≤ 12 ∧ l.length ≤ 8 ∧ ∀ x ∈ l, 0 ≤ x ∧ x < p := by
  unfold fav
  simp only [Bool.and_eq_true, decide_eq_true_eq, inAll_iff]
  constructor
  · rintro ⟨⟨⟨h1, h2⟩, h3⟩, h4⟩
    exact ⟨h1, h2, h3, fun x hx => by have := h4 x hx; omega⟩
  · rintro ⟨h1, h2, h3, h4⟩
    exact ⟨⟨⟨h1, h2⟩, h3⟩, fun x hx => by have := h4 x hx; omega⟩

theorem spec_paGood.ev (l : List Int) (p : Int) (hl : l.length < 4611686018427387904) : Ev (fun k => spec_paGood.f k l p) (fav l p) := by
  simp only [spec_paGood.f, spec_paStreet.is, Option.bind_some]
  unfold fav
  by_cases h : 1 ≤ p ∧ p ≤ 12
  · rw [wrap_id (p - 1) (by omega) (by omega), decide_eq_true h.1, decide_eq_true h.2]
    refine ev_pos rfl ?_
    by_cases h8 : l.length ≤ 8
    · rw [decide_eq_true h8]
      refine ev_pos (by omega) (Ev.bind (spec_l1All.ev l 0 (p - 1) hl) ?_)
      exact Ev.now _
    · rw [decide_eq_false h8]
      exact ev_neg (by omega) (Ev.now _)
  · have e : (decide (1 ≤ p) && decide (p ≤ 12)) = false := by simp; omega
    rw [e]
    exact ev_neg (by decide) (Ev.now _)

theorem spec_paFrom.evl (j : Int) (l : List Int) (hl : l.length ≤ 1048576) (d : Nat) : ∀ (i m : Nat), i + d = l.length → m ≤ i → Ev (fun k => spec_paFrom.l0 k j (m : Int) l (l.length : Int) (i : Int)) ((m : Int) + (ge (l.drop i) j : Int)) := by
  induction d with
  | zero =>
    intro i m hi hm
    refine Ev.step (fun k => spec_paFrom.l0.eq_2 ..) ?_
    refine ev_neg (by omega) ?_
    refine ev_val (Ev.now _) ?_
    rw [List.drop_of_length_le (by omega)]
    simp [ge]
  | succ d ih =>
    intro i m hi hm
    refine Ev.step (fun k => spec_paFrom.l0.eq_2 ..) ?_
    refine ev_pos (by omega) (ev_pos (by omega) (ev_pos (by omega) ?_))
    rw [wrap_nat i (by omega), wrap_nat m (by omega), rd_nat l i (by omega), List.drop_eq_getElem_cons (by omega), ge_cons]
    by_cases e : l[i] ≥ j
    · refine ev_pos e (ev_val (ih (i + 1) (m + 1) (by omega) (by omega)) ?_)
      rw [if_pos e]
      omega
    · refine ev_neg e (ev_val (ih (i + 1) m (by omega) (by omega)) ?_)
      rw [if_neg e]
      omega
theorem spec_paFrom.ev (l : List Int) (j : Int) (hl : l.length ≤ 1048576) : Ev (fun k => spec_paFrom.f k l j) (ge l j : Int) := by
  simp only [spec_paFrom.f]
  have h := spec_paFrom.evl j l hl l.length 0 0 (by omega) (Nat.le_refl 0)
  simpa using h

def refuseR (l : List Int) (p : Int) : Int × Bool := if fav l p = true then refuse l p p.toNat else (0, false)

theorem spec_RefusingPlace.evl (l : List Int) (p : Int) (hp : p ≤ 12) (hl : l.length ≤ 8) : ∀ (n : Nat), (n : Int) ≤ p → Ev (fun k => spec_RefusingPlace.l0 k l p ((n : Int) - 1)) (refuse l p n)
  | 0, _ => by
    refine Ev.step (fun k => spec_RefusingPlace.l0.eq_2 ..) ?_
    exact ev_neg (by omega) (Ev.now _)
  | n + 1, h => by
    refine Ev.step (fun k => spec_RefusingPlace.l0.eq_2 ..) ?_
    rw [show ((n + 1 : Nat) : Int) - 1 = (n : Int) by omega]
    refine ev_pos (by omega) (Ev.bind (spec_paFrom.ev l n (by omega)) ?_)
    rw [wrap_id (p - n) (by omega) (by omega), wrap_id ((n : Int) - 1) (by omega) (by omega)]
    simp only [refuse]
    by_cases e : (ge l n : Int) > p - n
    · refine ev_pos e (ev_val (Ev.now _) ?_)
      rw [if_pos (show p - (n : Int) < ((l.countP fun x => decide ((n : Int) ≤ x) : Nat) : Int) from e)]
    · refine ev_neg e (ev_val (spec_RefusingPlace.evl l p hp hl n (by omega)) ?_)
      rw [if_neg (show ¬ p - (n : Int) < ((l.countP fun x => decide ((n : Int) ≤ x) : Nat) : Int) from e)]
theorem spec_RefusingPlace.ev (l : List Int) (p : Int) (hl : l.length ≤ 1048576) : Ev (fun k => spec_RefusingPlace.f k l p) (refuseR l p) := by
  simp only [spec_RefusingPlace.f]
  unfold refuseR
  refine Ev.bind (spec_paGood.ev l p (by omega)) ?_
  cases e : fav l p with
  | true =>
    have h := (fav_iff l p).mp e
    rw [wrap_id (p - 1) (by omega) (by omega)]
    have g := spec_RefusingPlace.evl l p h.2.1 h.2.2.1 p.toNat (by omega)
    rw [show ((p.toNat : Nat) : Int) = p by omega] at g
    exact ev_pos rfl g
  | false => exact ev_neg (by decide) (Ev.now _)

theorem impl_between.is (x lo hi : Int) : impl_between.f x lo hi = some (decide (lo ≤ x) && decide (x ≤ hi)) := by
  unfold impl_between.f
  by_cases h : x ≥ lo
  · rw [if_pos h, decide_eq_true (show lo ≤ x from h), Bool.true_and]
  · rw [if_neg h, decide_eq_false (show ¬ lo ≤ x from h), Bool.false_and]

theorem impl_areBetween.is (l : List Int) (lo hi : Int) (hl : l.length ≤ 35184372088832) : impl_areBetween.f l lo hi = some (inAll lo hi l) := by
  unfold impl_areBetween.f
  rw [if_pos hl]
  congr 1
  unfold inAll out_b
  induction l with
  | nil => rfl
  | cons x l ih =>
    rw [List.any_cons, List.all_cons, ← ih (by simp at hl; omega)]
    cases (decide (lo ≤ x) && decide (x ≤ hi)) <;> simp

theorem impl_AreFavourites.is (l : List Int) (p : Int) (hl : l.length ≤ 35184372088832) : impl_AreFavourites.f l p = some (fav l p) := by
  simp only [impl_AreFavourites.f, impl_between.is, Option.bind_some]
  unfold fav
  by_cases h : 1 ≤ p ∧ p ≤ 12
  · rw [wrap_id (p - 1) (by omega) (by omega), decide_eq_true h.1, decide_eq_true h.2]
    rw [if_pos (by rfl)]
    by_cases h8 : l.length ≤ 8
    · rw [decide_eq_true h8, if_pos (by omega), impl_areBetween.is l 0 (p - 1) hl]
      rfl
    · rw [decide_eq_false h8, if_neg (by omega)]
      rfl
  · have e : (decide (1 ≤ p) && decide (p ≤ 12)) = false := by simp; omega
    rw [e]
    rfl

theorem impl_RefusingPlace.is (l : List Int) (p : Int) (hl : l.length ≤ 1048576) : impl_RefusingPlace.f l p = some (refuseR l p) := by
  unfold impl_RefusingPlace.f refuseR
  rw [impl_AreFavourites.is l p (by omega)]
  cases e : fav l p with
  | true =>
    have h := (fav_iff l p).mp e
    rw [Option.bind_some, if_pos rfl, if_pos h.2.2.1, if_pos (by omega), if_pos h.2.1]
    rfl
  | false => rfl

end Go.Proofs.Ytchfkfdogcahkaa.QFnExactRefusingPlace
