/- Proved here: what the Lean functions printed for the Go functions of law FnTakenPlacesStay compute, in words of lists and whole numbers, for lists shorter than 2^62. -/
import Derived.Test.YtdiohjdfiambhaaQFnTakenPlacesStayx
import Derived.Test.YtdiohjdfiambhaaMDrive
import Derived.Test.YtdiohjdfiambhaaMCrit
import Derived.Test.YtdiohjdfiambhaaMCircle
import Derived.Test.YtdiohjdfiambhaaMRing
import Derived.Test.YtdiohjdfiambhaaMTurn
import Derived.Test.YtdiohjdfiambhaaMLesser
import Derived.Test.YtdiohjdfiambhaaMSort
import Derived.Test.YtdiohjdfiambhaaMSwap
import Derived.Test.YtdiohjdfiambhaaMStay
namespace Go.Proofs.Ytdiohjdfiambhaa.QFnTakenPlacesStay
open Go.RowKit Go.Proofs.YtdiohjdfiambhaaW.PrintWords Go.Proofs.YtdiohjdfiambhaaW.PrintLast Go.Proofs.Ytdiohjdfiambhaa.Math
set_option linter.unusedVariables false
set_option linter.unusedSimpArgs false

theorem ev_pos {α : Type} {c : Prop} [Decidable c] {g f : Nat → Option α} {r : α} (h : c) (k : Ev g r) : Ev (fun n => if c then g n else f n) r := by
  obtain ⟨K, hK⟩ := k
  exact ⟨K, fun n hn => by simp only [if_pos h]; exact hK n hn⟩
theorem ev_neg {α : Type} {c : Prop} [Decidable c] {g f : Nat → Option α} {r : α} (h : ¬ c) (k : Ev f r) : Ev (fun n => if c then g n else f n) r := by
  obtain ⟨K, hK⟩ := k
  exact ⟨K, fun n hn => by simp only [if_neg h]; exact hK n hn⟩
theorem ev_eq {α : Type} {g : Option α} {r : α} (h : g = some r) : Ev (fun _ => g) r := ⟨0, fun _ _ => h⟩
theorem ev_val {α : Type} {g : Nat → Option α} {r q : α} (h : Ev g r) (e : r = q) : Ev g q := e ▸ h
theorem wrap_nat (i : Nat) (h : i < 4611686018427387904) : wrap64 ((i : Int) + 1) = ((i + 1 : Nat) : Int) := by
  unfold wrap64
  omega
theorem wrap_id (x : Int) (h : -9223372036854775808 ≤ x) (h' : x ≤ 9223372036854775807) : wrap64 x = x := by
  unfold wrap64
  omega
theorem rd_nat (l : List Int) (i : Nat) (h : i < l.length) : rd l (i : Int) = l[i] := by
  simp [rd, List.getD_eq_getElem?_getD, h]
theorem rd_int (l : List Int) (x : Int) (h0 : 0 ≤ x) (h : x < l.length) : rd l x = l[x.toNat]'(by omega) := by
  have e : x = ((x.toNat : Nat) : Int) := by omega
  have h2 : x.toNat < l.length := by omega
  rw [show rd l x = rd l ((x.toNat : Nat) : Int) by rw [← e]]
  exact rd_nat l x.toNat h2
/-- m, m + 1, .., n numbers -/
def marks : Int → Nat → List Int
  | _, 0 => []
  | m, n + 1 => m :: marks (m + 1) n
theorem marks_len : ∀ (n : Nat) (m : Int), (marks m n).length = n
  | 0, _ => rfl
  | n + 1, m => by simp [marks, marks_len n]
theorem take_set_succ (y l : List Int) (i : Nat) (hi : i < l.length) (hy : y.length = l.length) (h : y.take i = l.take i) : (y.set i l[i]).take (i + 1) = l.take (i + 1) := by
  rw [List.take_succ_eq_append_getElem (by simp; omega), List.take_succ_eq_append_getElem hi, List.take_set_of_le (Nat.le_refl i), h, List.getElem_set_self]
/-- all numbers lie from lo to hi -/
def inAll (lo hi : Int) (l : List Int) : Bool := l.all fun x => decide (lo ≤ x) && decide (x ≤ hi)
theorem inAll_iff (lo hi : Int) (l : List Int) : inAll lo hi l = true ↔ ∀ x ∈ l, lo ≤ x ∧ x ≤ hi := by
  simp [inAll]

theorem laws_big.is (a b : List Int) : laws_big.f a b = some true ∨ (laws_big.f a b = some false ∧ a.length + b.length ≤ 1048576) := by
  unfold laws_big.f
  by_cases c : (a.length : Int) > 1048576
  · rw [if_pos c]
    exact .inl rfl
  · rw [if_neg c, wrap_id _ (by omega) (by omega)]
    by_cases d : (b.length : Int) > 1048576 - (a.length : Int)
    · rw [decide_eq_true d]
      exact .inl rfl
    · rw [decide_eq_false d]
      exact .inr ⟨rfl, by omega⟩

theorem laws_jSame.evl (a b : List Int) (hl : a.length ≤ 1048576) (h : a.length = b.length) (d : Nat) : ∀ (i : Nat), i + d = a.length → Ev (fun k => laws_jSame.l0 k a b (a.length : Int) (i : Int)) (decide (a.drop i = b.drop i)) := by
  induction d with
  | zero =>
    intro i hi
    refine Ev.step (fun k => laws_jSame.l0.eq_2 ..) ?_
    refine ev_neg (by omega) (ev_val (Ev.now _) ?_)
    rw [List.drop_of_length_le (by omega), List.drop_of_length_le (by omega)]
    rfl
  | succ d ih =>
    intro i hi
    refine Ev.step (fun k => laws_jSame.l0.eq_2 ..) ?_
    refine ev_pos (by omega) (ev_pos (by omega) (ev_pos (by omega) (ev_pos (by omega) ?_)))
    rw [rd_nat a i (by omega), rd_nat b i (by omega), List.drop_eq_getElem_cons (l := a) (by omega), List.drop_eq_getElem_cons (l := b) (by omega)]
    by_cases e : a[i]'(by omega) = b[i]'(by omega)
    · refine ev_pos e ?_
      rw [wrap_nat i (by omega)]
      refine ev_val (ih (i + 1) (by omega)) ?_
      simp only [List.cons.injEq, e, true_and]
    · refine ev_neg e (ev_val (Ev.now _) ?_)
      simp only [List.cons.injEq, e, false_and, decide_false]
theorem laws_jSame.ev (a b : List Int) (hl : a.length ≤ 1048576) : Ev (fun k => laws_jSame.f k a b) (decide (a = b)) := by
  simp only [laws_jSame.f]
  by_cases h : a.length = b.length
  · refine ev_pos (by omega) ?_
    exact laws_jSame.evl a b hl h a.length 0 (by omega)
  · refine ev_neg (by omega) (ev_val (Ev.now _) ?_)
    rw [decide_eq_false (fun e => h (by rw [e]))]
theorem laws_jSame.ev_self (a : List Int) (hl : a.length ≤ 1048576) : Ev (fun k => laws_jSame.f k a a) true := ev_val (laws_jSame.ev a a hl) (by simp)

theorem laws_jSwapped.ev (l : List Int) (i : Nat) (h : i + 1 < l.length) (hl : l.length ≤ 1048576) : Ev (fun _ => laws_jSwapped.f l (i : Int)) ((l.set i (l[i + 1]'h)).set (i + 1) (l[i]'(by omega))) := by
  have e1 : wrap64 ((i : Int) + 1) = ((i + 1 : Nat) : Int) := wrap_nat i (by omega)
  have r1 := rd_nat l i (by omega)
  have r2 := rd_nat l (i + 1) h
  simp only [laws_jSwapped.f]
  rw [e1]
  refine Ev.bind (a := []) (ev_eq rfl) (ev_pos (by rw [List.length_nil]; omega) (Ev.bind (a := l) (ev_eq rfl) ?_))
  refine ev_pos (by omega) (ev_pos (by omega) (ev_pos (by omega) (ev_pos (by omega) (ev_val (Ev.now _) ?_))))
  rw [r1, r2, Int.toNat_natCast, Int.toNat_natCast]

theorem laws_numberOf.evl (l : List Int) (hl : l.length ≤ 1048576) (hb : ∀ x ∈ l, 0 ≤ x ∧ x ≤ 255) (d : Nat) : ∀ (i : Nat) (a : Int), i + d = l.length → 0 ≤ a → a < 1000003 → ∃ r, Ev (fun k => laws_numberOf.l0 k a l (l.length : Int) (i : Int)) r ∧ 0 ≤ r ∧ r < 1000003 := by
  induction d with
  | zero =>
    intro i a hi h0 h1
    exact ⟨a, Ev.step (fun k => laws_numberOf.l0.eq_2 ..) (ev_neg (by omega) (Ev.now _)), h0, h1⟩
  | succ d ih =>
    intro i a hi h0 h1
    have hx := hb (l[i]'(by omega)) (List.getElem_mem _)
    have e1 : wrap64 (31 * a) = 31 * a := wrap_id _ (by omega) (by omega)
    have e2 : wrap64 (l[i]'(by omega)) = l[i]'(by omega) := wrap_id _ (by omega) (by omega)
    have e3 : wrap64 (31 * a + l[i]'(by omega)) = 31 * a + l[i]'(by omega) := wrap_id _ (by omega) (by omega)
    obtain ⟨r, hr, r0, r1⟩ := ih (i + 1) (Int.tmod (31 * a + l[i]'(by omega)) 1000003) (by omega) (Int.tmod_nonneg _ (by omega)) (Int.tmod_lt_of_pos _ (by omega))
    refine ⟨r, Ev.step (fun k => laws_numberOf.l0.eq_2 ..) ?_, r0, r1⟩
    refine ev_pos (by omega) (ev_pos (by omega) (ev_pos (by omega) ?_))
    rw [rd_nat l i (by omega), wrap_nat i (by omega), e1, e2, e3]
    exact hr
theorem laws_numberOf.ev (l : List Int) (hl : l.length ≤ 1048576) (hb : ∀ x ∈ l, 0 ≤ x ∧ x ≤ 255) : ∃ r, Ev (fun k => laws_numberOf.f k l) r ∧ 0 ≤ r ∧ r < 1000003 := by
  simp only [laws_numberOf.f]
  exact laws_numberOf.evl l hl hb l.length 0 0 (by omega) (by omega) (by omega)

theorem impl_between.is (x lo hi : Int) : impl_between.f x lo hi = some (decide (lo ≤ x) && decide (x ≤ hi)) := by
  unfold impl_between.f
  by_cases h : x ≥ lo
  · rw [if_pos h, decide_eq_true (show lo ≤ x from h), Bool.true_and]
  · rw [if_neg h, decide_eq_false (show ¬ lo ≤ x from h), Bool.false_and]

theorem impl_areBetween.is (l : List Int) (lo hi : Int) (hl : l.length ≤ 35184372088832) : impl_areBetween.f l lo hi = some (inAll lo hi l) := by
  unfold impl_areBetween.f
  rw [if_pos hl]
  congr 1
  unfold inAll out_b
  induction l with
  | nil => rfl
  | cons x l ih =>
    rw [List.any_cons, List.all_cons, ← ih (by simp at hl; omega)]
    cases (decide (lo ≤ x) && decide (x ≤ hi)) <;> simp

/-- favourites for a street of p places -/
def fav (l : List Int) (p : Int) : Bool := decide (1 ≤ p) && decide (p ≤ 12) && decide (l.length ≤ 8) && inAll 0 (p - 1) l
theorem fav_iff (l : List Int) (p : Int) : fav l p = true ↔ 1 ≤ p ∧ p ≤ 12 ∧ l.length ≤ 8 ∧ ∀ x ∈ l, 0 ≤ x ∧ x < p := by
  unfold fav
  simp only [Bool.and_eq_true, decide_eq_true_eq, inAll_iff]
  constructor
  · rintro ⟨⟨⟨h1, h2⟩, h3⟩, h4⟩
    exact ⟨h1, h2, h3, fun x hx => by have := h4 x hx; omega⟩
  · rintro ⟨h1, h2, h3, h4⟩
    exact ⟨⟨⟨h1, h2⟩, h3⟩, fun x hx => by have := h4 x hx; omega⟩

theorem impl_AreFavourites.is (l : List Int) (p : Int) (hl : l.length ≤ 35184372088832) : impl_AreFavourites.f l p = some (fav l p) := by
  simp only [impl_AreFavourites.f, impl_between.is, Option.bind_some]
  unfold fav
  by_cases h : 1 ≤ p ∧ p ≤ 12
  · rw [wrap_id (p - 1) (by omega) (by omega), decide_eq_true h.1, decide_eq_true h.2]
    rw [if_pos (by rfl)]
    by_cases h8 : l.length ≤ 8
    · rw [decide_eq_true h8, if_pos (by omega), impl_areBetween.is l 0 (p - 1) hl]
      rfl
    · rw [decide_eq_false h8, if_neg (by omega)]
      rfl
  · have e : (decide (1 ≤ p) && decide (p ≤ 12)) = false := by simp; omega
    rw [e]
    rfl

def drvR (o : Option (List Int)) : List Int × Bool := match o with
  | some r => (r, true)
  | none => ([], false)
theorem drvR_snd (l : List Int) (p : Int) : (drvR (drv p [] l)).2 = allPark l p := by
  unfold drvR allPark
  cases drv p [] l <;> rfl

/-- the table t tells which places are in out -/
def Tk (p : Int) (out : List Int) (t : List Bool) : Prop := t.length = p.toNat ∧ ∀ j : Int, 0 ≤ j → j < p → (rdOf false t j = true ↔ j ∈ out)
theorem Tk_set (p : Int) (out : List Int) (t : List Bool) (h : Tk p out t) (x : Int) (h0 : 0 ≤ x) (h1 : x < p) : Tk p (out ++ [x]) (t.set x.toNat true) := by
  refine ⟨by rw [List.length_set]; exact h.1, fun j j0 j1 => ?_⟩
  have hl := h.1
  have hj := h.2 j j0 j1
  unfold rdOf at hj ⊢
  rw [List.getD_eq_getElem?_getD] at hj ⊢
  rw [List.getElem?_set]
  by_cases e : x.toNat = j.toNat
  · have e' : j = x := by omega
    subst e'
    rw [if_pos rfl, if_pos (by omega)]
    simp
  · rw [if_neg e]
    rw [hj]
    have e' : ¬ j = x := by omega
    simp [e']

theorem impl_drive.evl (p : Int) (hp : p ≤ 1048576) (l : List Int) (hl : l.length ≤ 1048576) (hx : ∀ x ∈ l, 0 ≤ x ∧ x ≤ 1048576) (d : Nat) : ∀ (i : Nat) (out : List Int) (t : List Bool), i + d = l.length → out.length = i → Tk p out t → Ev (fun k => impl_drive.l0 k p t out l (l.length : Int) (i : Int)) (drvR (drv p out (l.drop i))) := by
  induction d with
  | zero =>
    intro i out t hi ho ht
    refine Ev.step (fun k => impl_drive.l0.eq_2 ..) ?_
    refine ev_neg (by omega) ?_
    refine ev_val (Ev.now _) ?_
    rw [List.drop_of_length_le (by omega)]
    rfl
  | succ d ih =>
    intro i out t hi ho ht
    refine Ev.step (fun k => impl_drive.l0.eq_2 ..) ?_
    refine ev_pos (by omega) (ev_pos (by omega) (ev_pos (by omega) ?_))
    rw [rd_nat l i (by omega), List.drop_eq_getElem_cons (by omega)]
    have hxi := hx l[i] (List.getElem_mem _)
    have inner : ∀ (m : Nat) (x : Int), (p - x).toNat = m → 0 ≤ x → x ≤ 1048576 → Ev (fun k => impl_drive.l1 k p t out x l (l.length : Int) (i : Int)) (drvR (drv p out (x :: l.drop (i + 1)))) := by
      intro m
      induction m with
      | zero =>
        intro x hm hx0 hx1
        refine Ev.step (fun k => impl_drive.l1.eq_2 ..) ?_
        refine ev_neg (by omega) (ev_pos (by omega) ?_)
        refine ev_val (Ev.now _) ?_
        simp only [drv]
        rw [land_stop out p x (by omega), if_neg (by omega)]
        rfl
      | succ m ihm =>
        intro x hm hx0 hx1
        have hlen := ht.1
        refine Ev.step (fun k => impl_drive.l1.eq_2 ..) ?_
        refine ev_pos (by omega) (ev_pos (by omega) (ev_pos (by omega) ?_))
        by_cases hh : x ∈ out
        · refine ev_pos ((ht.2 x hx0 (by omega)).mpr hh) ?_
          rw [wrap_id (x + 1) (by omega) (by omega)]
          refine ev_val (ihm (x + 1) (by omega) (by omega) (by omega)) ?_
          simp only [drv]
          rw [land_go out p x (by omega) hh]
        · refine ev_neg (fun h => hh ((ht.2 x hx0 (by omega)).mp h)) (ev_neg (by omega) (ev_pos (by omega) ?_))
          rw [wrap_nat i (by omega)]
          refine ev_val (ih (i + 1) _ _ (by omega) (by simp; omega) (Tk_set p out t ht x hx0 (by omega))) ?_
          simp only [drv]
          rw [land_stop out p x (fun h => hh h.2), if_pos (by omega)]
    exact inner _ l[i] rfl hxi.1 hxi.2
theorem impl_drive.ev (l : List Int) (p : Int) (hp0 : 0 ≤ p) (hp : p ≤ 1048576) (hl : l.length ≤ 1048576) (hx : ∀ x ∈ l, 0 ≤ x ∧ x ≤ 1048576) : Ev (fun k => impl_drive.f k l p) (drvR (drv p [] l)) := by
  simp only [impl_drive.f]
  refine ev_pos hp0 (ev_pos (by omega) ?_)
  refine impl_drive.evl p hp l hl hx l.length 0 [] _ (by omega) rfl ⟨by simp, fun j j0 j1 => ?_⟩
  unfold rdOf
  rw [List.getD_eq_getElem?_getD, List.getElem?_replicate]
  split <;> simp

/-- what DriveCars hands back -/
def carsR (l : List Int) (p : Int) : List Int × Bool := if fav l p = true then drvR (drv p [] l) else ([], false)
theorem carsR_len (l : List Int) (p : Int) : (carsR l p).1.length ≤ l.length := by
  unfold carsR
  split
  · cases h : drv p [] l with
    | none => simp [drvR]
    | some r =>
      have := drv_length p l [] r h
      simp only [drvR]
      simp at this
      omega
  · simp

theorem impl_DriveCars.ev (l : List Int) (p : Int) (hl : l.length ≤ 1048576) : Ev (fun k => impl_DriveCars.f k l p) (carsR l p) := by
  simp only [impl_DriveCars.f]
  unfold carsR
  refine Ev.bind (ev_eq (impl_AreFavourites.is l p (by omega))) ?_
  cases e : fav l p with
  | true =>
    have h := (fav_iff l p).mp e
    exact ev_pos rfl (Ev.bind (impl_drive.ev l p (by omega) (by omega) hl (fun x hx => by have := h.2.2.2 x hx; omega)) (Ev.now _))
  | false => exact ev_neg (by decide) (Ev.now _)

/-- a sum of 64 bits -/
def sumW (a : Int) (l : List Int) : Int := l.foldl (fun s x => wrap64 (s + x)) a
theorem sumW_cons (a x : Int) (l : List Int) : sumW a (x :: l) = sumW (wrap64 (a + x)) l := rfl

theorem laws_jSum.evl (l : List Int) (hl : l.length ≤ 1048576) (d : Nat) : ∀ (i : Nat) (a : Int), i + d = l.length → Ev (fun k => laws_jSum.l0 k a l (l.length : Int) (i : Int)) (sumW a (l.drop i)) := by
  induction d with
  | zero =>
    intro i a hi
    refine Ev.step (fun k => laws_jSum.l0.eq_2 ..) ?_
    refine ev_neg (by omega) ?_
    refine ev_val (Ev.now _) ?_
    rw [List.drop_of_length_le (by omega)]
    rfl
  | succ d ih =>
    intro i a hi
    refine Ev.step (fun k => laws_jSum.l0.eq_2 ..) ?_
    refine ev_pos (by omega) (ev_pos (by omega) (ev_pos (by omega) ?_))
    rw [wrap_nat i (by omega), rd_nat l i (by omega), List.drop_eq_getElem_cons (by omega), sumW_cons]
    exact ih (i + 1) _ (by omega)
theorem laws_jSum.ev (l : List Int) (hl : l.length ≤ 1048576) : Ev (fun k => laws_jSum.f k l) (sumW 0 l) := by
  simp only [laws_jSum.f]
  exact laws_jSum.evl l hl l.length 0 0 (by omega)

/-- places less favourites -/
def distL (r l : List Int) : List Int := List.zipWith (fun a b => wrap64 (a - b)) r l
def distR (l : List Int) (p : Int) : List Int × Bool := (distL (carsR l p).1 l, (carsR l p).2)
theorem distR_len (l : List Int) (p : Int) : (distR l p).1.length ≤ l.length := by
  simp only [distR, distL, List.length_zipWith]
  omega
theorem distL_len (r l : List Int) (h : r.length ≤ l.length) : (distL r l).length = r.length := by
  simp only [distL, List.length_zipWith]
  omega
theorem distL_get (r l : List Int) (i : Nat) (h1 : i < r.length) (h2 : i < l.length) (h3 : i < (distL r l).length) : (distL r l)[i] = wrap64 (r[i] - l[i]) := by
  simp [distL]
theorem carsR_ok (l : List Int) (p : Int) (h : (carsR l p).2 = true) : fav l p = true ∧ allPark l p = true ∧ (carsR l p).1 = paD p [] l ∧ (carsR l p).1.length = l.length := by
  unfold carsR at h ⊢
  cases e : fav l p with
  | false =>
    rw [e] at h
    cases h
  | true =>
    rw [e, if_pos rfl] at h
    have hf := (fav_iff l p).mp e
    rw [if_pos rfl]
    cases hd : drv p [] l with
    | none =>
      rw [hd] at h
      cases h
    | some r =>
      have h1 := drv_some p l [] r (fun x hx => (hf.2.2.2 x hx).1) (by simp) hd
      have h2 := drv_length p l [] r hd
      refine ⟨rfl, by unfold allPark; rw [hd]; rfl, ?_, ?_⟩
      · exact h1.1.symm
      · simpa [drvR] using h2
theorem carsR_no (l : List Int) (p : Int) (h : (carsR l p).2 = false) : (carsR l p).1 = [] ∧ ¬ (fav l p = true ∧ allPark l p = true) := by
  unfold carsR at h ⊢
  cases e : fav l p with
  | false => exact ⟨rfl, fun h => by cases h.1⟩
  | true =>
    rw [e, if_pos rfl] at h
    rw [if_pos rfl]
    cases hd : drv p [] l with
    | some r =>
      rw [hd] at h
      cases h
    | none => exact ⟨rfl, fun hh => by have := hh.2; unfold allPark at this; rw [hd] at this; cases this⟩

theorem drop_set_succ (y : List Int) (i : Nat) (v : Int) : (y.set i v).drop (i + 1) = y.drop (i + 1) := List.drop_set_of_lt (Nat.lt_succ_self i)
theorem impl_DistancesOf.evl (l r : List Int) (ok : Bool) (hr : r.length ≤ l.length) (hl : l.length ≤ 1048576) (d : Nat) : ∀ (i : Nat) (y : List Int), i + d = r.length → y.length = r.length → y.take i = (distL r l).take i → y.drop i = r.drop i → Ev (fun k => impl_DistancesOf.l0 k l y ok (r.length : Int) (i : Int)) (distL r l, ok) := by
  have hdl := distL_len r l hr
  induction d with
  | zero =>
    intro i y hi hy ht hd
    refine Ev.step (fun k => impl_DistancesOf.l0.eq_2 ..) ?_
    refine ev_neg (by omega) (ev_val (Ev.now _) ?_)
    rw [List.take_of_length_le (by omega), List.take_of_length_le (by omega)] at ht
    rw [ht]
  | succ d ih =>
    intro i y hi hy ht hd
    refine Ev.step (fun k => impl_DistancesOf.l0.eq_2 ..) ?_
    have e : y[i]'(by omega) = r[i]'(by omega) := by
      rw [List.drop_eq_getElem_cons (l := y) (by omega), List.drop_eq_getElem_cons (l := r) (by omega)] at hd
      exact (List.cons.inj hd).1
    rw [wrap_nat i (by omega), rd_nat y i (by omega), rd_nat l i (by omega), Int.toNat_natCast, e, ← distL_get r l i (by omega) (by omega) (by omega)]
    refine ev_pos (by omega) (ev_pos (by omega) (ev_pos (by omega) (ev_pos (by omega) ?_)))
    refine ih (i + 1) _ (by omega) (by simp; omega) (take_set_succ y _ i (by omega) (by omega) ht) ?_
    rw [drop_set_succ]
    rw [List.drop_eq_getElem_cons (l := y) (by omega), List.drop_eq_getElem_cons (l := r) (by omega)] at hd
    exact (List.cons.inj hd).2
theorem impl_DistancesOf.ev (l : List Int) (p : Int) (hl : l.length ≤ 1048576) : Ev (fun k => impl_DistancesOf.f k l p) (distR l p) := by
  simp only [impl_DistancesOf.f]
  refine Ev.bind (impl_DriveCars.ev l p hl) ?_
  exact impl_DistancesOf.evl l _ _ (carsR_len l p) hl (carsR l p).1.length 0 _ (by omega) rfl rfl rfl

def luckyR (l : List Int) (p : Int) : List Int × Bool := if (distR l p).2 = true then (idxsFrom_lc (fun x => x == 0) (distR l p).1 0, true) else ([], false)
theorem idxs_len_lc (p : Int → Bool) : ∀ (l : List Int) (k : Nat), (idxsFrom_lc p l k).length ≤ l.length
  | [], _ => Nat.le_refl _
  | x :: l, k => by
    simp only [idxsFrom_lc]
    have := idxs_len_lc p l (k + 1)
    split
    · simp only [List.length_cons]; omega
    · simp only [List.length_cons]; omega
theorem luckyR_len (l : List Int) (p : Int) : (luckyR l p).1.length ≤ l.length := by
  unfold luckyR
  split
  · have h1 := idxs_len_lc (fun x => x == 0) (distR l p).1 0
    have h2 := distR_len l p
    show (idxsFrom_lc (fun x => x == 0) (distR l p).1 0).length ≤ l.length
    omega
  · simp

theorem impl_LuckyCars.ev (l : List Int) (p : Int) (hl : l.length ≤ 1048576) : Ev (fun k => impl_LuckyCars.f k l p) (luckyR l p) := by
  simp only [impl_LuckyCars.f]
  unfold luckyR
  have hlen := distR_len l p
  refine Ev.bind (impl_DistancesOf.ev l p hl) ?_
  by_cases e : (distR l p).2 = true
  · rw [if_pos e, if_pos e]
    exact ev_pos (by omega) (Ev.now _)
  · rw [if_neg e, if_neg e]
    exact Ev.now _

theorem srt_perm (l : List Int) : (Srt.srt l).Perm l := List.mergeSort_perm _ _
theorem srt_up (l : List Int) : up2 (Srt.srt l) := by
  rw [up2_pairwise]
  have h := List.pairwise_mergeSort (le := fun x y : Int => decide (x ≤ y)) (fun a b c h1 h2 => by
    simp only [decide_eq_true_eq] at h1 h2 ⊢
    omega) (fun a b => by
    simp only [Bool.or_eq_true, decide_eq_true_eq]
    omega) l
  exact h.imp (fun h => by simpa using h)
theorem srt_eq (l s : List Int) (hp : s.Perm l) (hs : up2 s) : s = Srt.srt l := up2_eq s (Srt.srt l) hs (srt_up l) (hp.trans (srt_perm l).symm)
theorem ins_up (s : List Int) (j : Nat) (x : Int) (hs : up2 s) (h1 : ∀ y ∈ s.take j, y ≤ x) (h2 : ∀ y ∈ s.drop j, x ≤ y) : up2 ((s.take j ++ [x]) ++ s.drop j) := by
  rw [up2_pairwise] at hs ⊢
  have hs' : (s.take j ++ s.drop j).Pairwise (fun a b => a ≤ b) := by rw [List.take_append_drop]; exact hs
  rw [List.pairwise_append] at hs'
  obtain ⟨a, b, c⟩ := hs'
  rw [List.pairwise_append, List.pairwise_append]
  refine ⟨⟨a, by simp, fun y hy z hz => ?_⟩, b, fun y hy z hz => ?_⟩
  · simp only [List.mem_singleton] at hz
    rw [hz]
    exact h1 y hy
  · rcases List.mem_append.mp hy with hy | hy
    · exact c y hy z hz
    · simp only [List.mem_singleton] at hy
      rw [hy]
      exact h2 z hz
theorem ins_perm (s : List Int) (j : Nat) (x : Int) : ((s.take j ++ [x]) ++ s.drop j).Perm (s ++ [x]) := by
  have e : s ++ [x] = (s.take j ++ s.drop j) ++ [x] := by rw [List.take_append_drop]
  rw [e, List.append_assoc, List.append_assoc]
  exact List.Perm.append_left _ List.perm_append_comm

def takenR (l : List Int) (p : Int) : List Int × Bool := (Srt.srt (carsR l p).1, (carsR l p).2)
theorem takenR_len (l : List Int) (p : Int) : (takenR l p).1.length ≤ l.length := by
  unfold takenR
  rw [Srt.srt_len]
  exact carsR_len l p

theorem impl_TakenPlaces.ev (l : List Int) (p : Int) (hl : l.length ≤ 1048576) : Ev (fun k => impl_TakenPlaces.f k l p) (takenR l p) := by
  simp only [impl_TakenPlaces.f]
  unfold takenR
  have h := carsR_len l p
  exact Ev.bind (impl_DriveCars.ev l p hl) (ev_pos (by omega) (Ev.now _))

theorem and255 (x : Int) : 0 ≤ Go.bits .and .u64 x 255 ∧ Go.bits .and .u64 x 255 ≤ 255 := by
  have h : (BitVec.ofInt 64 x &&& BitVec.ofInt 64 255).toNat ≤ 255 := by
    rw [BitVec.toNat_and]
    exact Nat.and_le_right
  have e : Go.bits .and .u64 x 255 = IntKind.u64.wrap (((BitVec.ofInt 64 x &&& BitVec.ofInt 64 255).toNat : Nat) : Int) := rfl
  rw [e]
  generalize (BitVec.ofInt 64 x &&& BitVec.ofInt 64 255).toNat = m at h
  have w : IntKind.u64.wrap (m : Int) = (m : Int) := by
    simp only [IntKind.wrap, IntKind.bits, IntKind.signed, Bool.false_and, Bool.false_eq_true, if_false]
    omega
  rw [w]
  omega
/-- all are bytes, and not too many -/
def bytesOk (l : List Int) : Prop := (∀ x ∈ l, 0 ≤ x ∧ x ≤ 255) ∧ l.length ≤ 1048576

theorem spec_l1Cur_next.ok (l : List Int) (hb : bytesOk l) (p h : Int) (h0 : 0 ≤ p) (h1 : p ≤ 1099511627776) : ∃ b q g, spec_l1Cur_next.f l p h = some (b, q, g) ∧ 0 ≤ b ∧ b ≤ 255 ∧ p ≤ q ∧ q ≤ p + 1 := by
  have hl := hb.2
  unfold spec_l1Cur_next.f
  rw [wrap_id (p + 1) (by omega) (by omega)]
  by_cases c : p < (l.length : Int)
  · have hx := hb.1 (l[p.toNat]'(by omega)) (List.getElem_mem _)
    rw [if_pos c, if_pos h0, if_pos (by omega), rd_int l p h0 c, wrap_id _ (by omega) (by omega)]
    exact ⟨_, _, _, rfl, hx.1, hx.2, by omega, by omega⟩
  · rw [if_neg c, if_neg (by omega)]
    refine ⟨_, _, _, rfl, ?_, ?_, by omega, by omega⟩
    · have := and255 ((IntKind.u64.wrap ((IntKind.u64.wrap ((IntKind.u64.wrap (h * 6364136223846793005)) + 0)) + 1442695040888963407)) / 1099511627776)
      rw [wrap_id _ (by omega) (by omega)]
      exact this.1
    · have := and255 ((IntKind.u64.wrap ((IntKind.u64.wrap ((IntKind.u64.wrap (h * 6364136223846793005)) + 0)) + 1442695040888963407)) / 1099511627776)
      rw [wrap_id _ (by omega) (by omega)]
      exact this.2

theorem spec_l1Cur_pick.ok (l : List Int) (hb : bytesOk l) (p h n : Int) (h0 : 0 ≤ p) (h1 : p ≤ 1099511627000) (hn : n ≤ 1048576) : ∃ b q g, spec_l1Cur_pick.f l p h n = some (b, q, g) ∧ 0 ≤ b ∧ (b < n ∨ (n ≤ 1 ∧ b = 0)) ∧ p ≤ q ∧ q ≤ p + 2 := by
  unfold spec_l1Cur_pick.f
  by_cases c : n ≤ 1
  · rw [if_pos c]
    exact ⟨_, _, _, rfl, by omega, .inr ⟨c, rfl⟩, by omega, by omega⟩
  · rw [if_neg c]
    obtain ⟨b, q, g, e, b0, b1, q0, q1⟩ := spec_l1Cur_next.ok l hb p h h0 (by omega)
    rw [e, Option.bind_some]
    by_cases c2 : n > 200
    · rw [if_pos c2]
      obtain ⟨b2, q2, g2, e2, b20, b21, q20, q21⟩ := spec_l1Cur_next.ok l hb q g (by omega) (by omega)
      dsimp only
      rw [e2, Option.bind_some, if_neg (by omega)]
      rw [wrap_id (b * 256) (by omega) (by omega), wrap_id _ (by omega) (by omega)]
      exact ⟨_, _, _, rfl, Int.tmod_nonneg _ (by omega), .inl (Int.tmod_lt_of_pos _ (by omega)), by dsimp only; omega, by dsimp only; omega⟩
    · rw [if_neg c2, if_neg (by omega)]
      exact ⟨_, _, _, rfl, Int.tmod_nonneg _ b0, .inl (Int.tmod_lt_of_pos _ (by omega)), by dsimp only; omega, by dsimp only; omega⟩

theorem spec_l1Cur_among.ok (l : List Int) (hb : bytesOk l) (p h : Int) (m : List Int) (h0 : 0 ≤ p) (h1 : p ≤ 1099511627000) (hm : 0 < m.length) (hm2 : m.length ≤ 1000) : ∃ b q g, spec_l1Cur_among.f l p h m = some (b, q, g) ∧ b ∈ m ∧ p ≤ q ∧ q ≤ p + 2 := by
  unfold spec_l1Cur_among.f
  obtain ⟨b, q, g, e, b0, b1, q0, q1⟩ := spec_l1Cur_pick.ok l hb p h (m.length : Int) h0 h1 (by omega)
  rw [e, Option.bind_some, if_pos b0, if_pos (by omega)]
  refine ⟨_, _, _, rfl, ?_, q0, q1⟩
  rw [rd_int m b b0 (by omega)]
  exact List.getElem_mem _

theorem spec_l1Most.is (a b : Int) : ∃ c, spec_l1Most.f a b = some c ∧ (c = a ∨ c = b) ∧ a ≤ c ∧ b ≤ c := by
  unfold spec_l1Most.f
  by_cases h : a > b
  · rw [if_pos h]
    exact ⟨a, rfl, .inl rfl, by omega, by omega⟩
  · rw [if_neg h]
    exact ⟨b, rfl, .inr rfl, by omega, by omega⟩

theorem spec_l1Least.is (a b : Int) : ∃ c, spec_l1Least.f a b = some c ∧ (c = a ∨ c = b) ∧ c ≤ a ∧ c ≤ b := by
  unfold spec_l1Least.f
  by_cases h : a < b
  · rw [if_pos h]
    exact ⟨a, rfl, .inl rfl, by omega, by omega⟩
  · rw [if_neg h]
    exact ⟨b, rfl, .inr rfl, by omega, by omega⟩

theorem spec_l1Cur_favourites.ok1 (l : List Int) (hb : bytesOk l) (x4 : Int) (x40 : 0 ≤ x4) (x41 : x4 ≤ 1000) : ∀ (d : Nat) (x5 : List Int) (p h : Int), (9 - x5.length) = d → x5.length ≤ 9 → 0 ≤ p → p + 4 * (d : Int) ≤ 1099511626000 → ∃ r q g, Ev (fun k => spec_l1Cur_favourites.l1 k x4 x5 l p h) (r, x4, q, g) ∧ r.length ≤ 9 ∧ p ≤ q ∧ q ≤ p + 4 * (d : Int) + 4
  | d, x5, p, h, hd, hl, h0, h1 => by
    obtain ⟨t, q, g, e, t0, t1, q0, q1⟩ := spec_l1Cur_pick.ok l hb p h 2 h0 (by omega) (by omega)
    have ew : wrap64 (8 + t) = 8 + t := wrap_id _ (by omega) (by omega)
    by_cases c : (x5.length : Int) < 8 + t
    · cases d with
      | zero => exfalso; omega
      | succ d =>
        obtain ⟨v, q2, g2, e2, v0, v1, q20, q21⟩ := spec_l1Cur_pick.ok l hb q g x4 (by omega) (by omega) (by omega)
        obtain ⟨r, q3, g3, E, r1, q30, q31⟩ := spec_l1Cur_favourites.ok1 l hb x4 x40 x41 d (x5 ++ [v]) q2 g2 (by simp; omega) (by simp; omega) (by omega) (by omega)
        refine ⟨r, q3, g3, Ev.step (fun k => spec_l1Cur_favourites.l1.eq_2 ..) (Ev.bind (ev_eq e) ?_), r1, by omega, by omega⟩
        dsimp only
        rw [ew]
        exact ev_pos c (Ev.bind (ev_eq e2) (ev_pos (by omega) E))
    · refine ⟨x5, q, g, Ev.step (fun k => spec_l1Cur_favourites.l1.eq_2 ..) (Ev.bind (ev_eq e) ?_), hl, by omega, by omega⟩
      dsimp only
      rw [ew]
      exact ev_neg c (Ev.now _)
theorem spec_l1Cur_favourites.ok0 (l : List Int) (hb : bytesOk l) (x4 : Int) (x40 : 1 ≤ x4) (x41 : x4 ≤ 1000) : ∀ (d : Nat) (x5 : List Int) (x6 p h : Int), x6 = (d : Int) → x5.length + d ≤ 8 → 0 ≤ p → p + 4 * (d : Int) ≤ 1099511625000 → ∃ r n q g, Ev (fun k => spec_l1Cur_favourites.l0 k x4 x5 x6 l p h) (r, n, q, g) ∧ r.length ≤ 9 ∧ p ≤ q ∧ q ≤ p + 4 * (d : Int) + 60
  | 0, x5, x6, p, h, hd, hl, h0, h1 => by
    obtain ⟨t, q, g, e, t0, t1, q0, q1⟩ := spec_l1Cur_pick.ok l hb p h 20 h0 (by omega) (by omega)
    by_cases c0 : t = 0
    · obtain ⟨b, q2, g2, e2, hm, q20, q21⟩ := spec_l1Cur_among.ok l hb q g [-1, x4, 0, 4611686018427387904] (by omega) (by omega) (by simp) (by simp)
      exact ⟨x5 ++ [b], x4, q2, g2, Ev.step (fun k => spec_l1Cur_favourites.l0.eq_2 ..) (ev_neg (by omega) (Ev.bind (ev_eq e) (ev_pos c0 (Ev.bind (ev_eq e2) (ev_pos (by omega) (Ev.now _)))))), by simp; omega, by omega, by omega⟩
    · by_cases c1 : t = 1
      · obtain ⟨r, q2, g2, E, r1, q20, q21⟩ := spec_l1Cur_favourites.ok1 l hb x4 (by omega) x41 _ x5 q g rfl (by omega) (by omega) (by omega)
        exact ⟨r, x4, q2, g2, Ev.step (fun k => spec_l1Cur_favourites.l0.eq_2 ..) (ev_neg (by omega) (Ev.bind (ev_eq e) (ev_neg c0 (ev_pos c1 E)))), r1, by omega, by omega⟩
      · by_cases c2 : t = 2
        · obtain ⟨b, q2, g2, e2, hm, q20, q21⟩ := spec_l1Cur_among.ok l hb q g [0, -1, 12, 13] (by omega) (by omega) (by simp) (by simp)
          exact ⟨x5, b, q2, g2, Ev.step (fun k => spec_l1Cur_favourites.l0.eq_2 ..) (ev_neg (by omega) (Ev.bind (ev_eq e) (ev_neg c0 (ev_neg c1 (ev_pos c2 (Ev.bind (ev_eq e2) (Ev.now _))))))), by omega, by omega, by omega⟩
        · exact ⟨x5, x4, q, g, Ev.step (fun k => spec_l1Cur_favourites.l0.eq_2 ..) (ev_neg (by omega) (Ev.bind (ev_eq e) (ev_neg c0 (ev_neg c1 (ev_neg c2 (Ev.now _)))))), by omega, by omega, by omega⟩
  | d + 1, x5, x6, p, h, hd, hl, h0, h1 => by
    obtain ⟨x, q, g, e, x0, x1, q0, q1⟩ := spec_l1Cur_pick.ok l hb p h x4 h0 (by omega) (by omega)
    obtain ⟨m, em, hm, m1, m2⟩ := spec_l1Most.is 1 (x4 - x)
    obtain ⟨v, q2, g2, e2, v0, v1, q20, q21⟩ := spec_l1Cur_pick.ok l hb q g m (by omega) (by omega) (by omega)
    obtain ⟨r, n, q3, g3, E, r1, q30, q31⟩ := spec_l1Cur_favourites.ok0 l hb x4 x40 x41 d (x5 ++ [v]) (x6 - 1) q2 g2 (by omega) (by simp; omega) (by omega) (by omega)
    refine ⟨r, n, q3, g3, Ev.step (fun k => spec_l1Cur_favourites.l0.eq_2 ..) (ev_pos (by omega) (Ev.bind (ev_eq e) ?_)), r1, by omega, by omega⟩
    dsimp only
    rw [wrap_id (x4 - x) (by omega) (by omega), wrap_id (x6 - 1) (by omega) (by omega)]
    exact Ev.bind (ev_eq em) (Ev.bind (ev_eq e2) (ev_pos (by omega) E))
theorem spec_l1Cur_favourites.ok (l : List Int) (hb : bytesOk l) (p h : Int) (h0 : 0 ≤ p) (h1 : p ≤ 1099511620000) : ∃ r n q g, Ev (fun k => spec_l1Cur_favourites.f k l p h) (r, n, q, g) ∧ r.length ≤ 9 ∧ p ≤ q ∧ q ≤ p + 200 := by
  simp only [spec_l1Cur_favourites.f]
  obtain ⟨a, q, g, e, ha, q0, q1⟩ := spec_l1Cur_among.ok l hb p h [4, 7, 12] h0 (by omega) (by simp) (by simp)
  simp only [List.mem_cons, List.not_mem_nil, or_false] at ha
  obtain ⟨b, q2, g2, e2, b0, b1, q20, q21⟩ := spec_l1Cur_pick.ok l hb q g a (by omega) (by omega) (by omega)
  have w1 : wrap64 (1 + b) = 1 + b := wrap_id _ (by omega) (by omega)
  obtain ⟨c, ec, hc, c1, c2⟩ := spec_l1Least.is (1 + b) 8
  have w2 : wrap64 (c + 1) = c + 1 := wrap_id _ (by omega) (by omega)
  obtain ⟨n, q3, g3, e3, n0, n1, q30, q31⟩ := spec_l1Cur_pick.ok l hb q2 g2 (c + 1) (by omega) (by omega) (by omega)
  obtain ⟨r, m, q4, g4, E, r1, q40, q41⟩ := spec_l1Cur_favourites.ok0 l hb (1 + b) (by omega) (by omega) n.toNat [] n q3 g3 (by omega) (by simp; omega) (by omega) (by omega)
  refine ⟨r, m, q4, g4, Ev.bind (ev_eq e) (Ev.bind (ev_eq e2) ?_), r1, by omega, by omega⟩
  dsimp only
  rw [w1]
  refine Ev.bind (ev_eq ec) ?_
  rw [w2]
  exact Ev.bind (ev_eq e3) E

theorem spec_DrawAreFavourites.ok (l : List Int) (hb : bytesOk l) : ∃ r n, Ev (fun k => spec_DrawAreFavourites.f k l) (r, n) ∧ r.length ≤ 9 := by
  simp only [spec_DrawAreFavourites.f]
  obtain ⟨r, n, q, g, E, r1, q0, q1⟩ := spec_l1Cur_favourites.ok l hb 0 0 (by omega) (by omega)
  exact ⟨r, n, Ev.bind E (Ev.now _), r1⟩

theorem spec_DrawDriveCars.ok (l : List Int) (hb : bytesOk l) : ∃ r n, Ev (fun k => spec_DrawDriveCars.f k l) (r, n) ∧ r.length ≤ 9 := by
  simp only [spec_DrawDriveCars.f]
  obtain ⟨r, n, E, r1⟩ := spec_DrawAreFavourites.ok l hb
  exact ⟨r, n, Ev.bind E (Ev.now _), r1⟩

theorem spec_l1In.is (x lo hi : Int) : spec_l1In.f x lo hi = some (decide (lo ≤ x) && decide (x ≤ hi)) := by
  unfold spec_l1In.f
  by_cases h : x ≥ lo
  · rw [if_pos h, decide_eq_true (show lo ≤ x from h), Bool.true_and]
  · rw [if_neg h, decide_eq_false (show ¬ lo ≤ x from h), Bool.false_and]

theorem spec_paStreet.is (p : Int) : spec_paStreet.f p = some (decide (1 ≤ p) && decide (p ≤ 12)) := by
  simp only [spec_paStreet.f, spec_l1In.is, Option.bind_some]

theorem spec_l1All.evl (lo hi : Int) (l : List Int) (hl : l.length < 4611686018427387904) (d : Nat) : ∀ (i : Nat), i + d = l.length → Ev (fun k => spec_l1All.l0 k lo hi l (l.length : Int) (i : Int)) (inAll lo hi (l.drop i)) := by
  induction d with
  | zero =>
    intro i hi0
    refine Ev.step (fun k => spec_l1All.l0.eq_2 ..) ?_
    refine ev_neg (by omega) ?_
    refine ev_val (Ev.now _) ?_
    rw [List.drop_of_length_le (by omega)]
    rfl
  | succ d ih =>
    intro i hi0
    refine Ev.step (fun k => spec_l1All.l0.eq_2 ..) ?_
    refine ev_pos (by omega) (ev_pos (by omega) (ev_pos (by omega) ?_))
    rw [wrap_nat i (by omega), rd_nat l i (by omega), List.drop_eq_getElem_cons (by omega), spec_l1In.is]
    refine Ev.bind (Ev.now _) ?_
    have u : inAll lo hi (l[i] :: l.drop (i + 1)) = ((decide (lo ≤ l[i]) && decide (l[i] ≤ hi)) && inAll lo hi (l.drop (i + 1))) := rfl
    rw [u]
    generalize (decide (lo ≤ l[i]) && decide (l[i] ≤ hi)) = b
    cases b with
    | true => exact ev_pos rfl (ih (i + 1) (by omega))
    | false => exact ev_neg (by decide) (Ev.now _)
theorem spec_l1All.ev (l : List Int) (lo hi : Int) (hl : l.length < 4611686018427387904) : Ev (fun k => spec_l1All.f k l lo hi) (inAll lo hi l) := by
  simp only [spec_l1All.f]
  exact spec_l1All.evl lo hi l hl l.length 0 (by omega)

theorem spec_paGood.ev (l : List Int) (p : Int) (hl : l.length < 4611686018427387904) : Ev (fun k => spec_paGood.f k l p) (fav l p) := by
  simp only [spec_paGood.f, spec_paStreet.is, Option.bind_some]
  unfold fav
  by_cases h : 1 ≤ p ∧ p ≤ 12
  · rw [wrap_id (p - 1) (by omega) (by omega), decide_eq_true h.1, decide_eq_true h.2]
    refine ev_pos rfl ?_
    by_cases h8 : l.length ≤ 8
    · rw [decide_eq_true h8]
      refine ev_pos (by omega) (Ev.bind (spec_l1All.ev l 0 (p - 1) hl) ?_)
      exact Ev.now _
    · rw [decide_eq_false h8]
      exact ev_neg (by omega) (Ev.now _)
  · have e : (decide (1 ≤ p) && decide (p ≤ 12)) = false := by simp; omega
    rw [e]
    exact ev_neg (by decide) (Ev.now _)

theorem spec_l1Has.evl (x : Int) (l : List Int) (hl : l.length < 4611686018427387904) (d : Nat) : ∀ (i : Nat), i + d = l.length → Ev (fun k => spec_l1Has.l0 k x l (l.length : Int) (i : Int)) (decide (x ∈ l.drop i)) := by
  induction d with
  | zero =>
    intro i hi
    refine Ev.step (fun k => spec_l1Has.l0.eq_2 ..) ?_
    refine ev_neg (by omega) ?_
    refine ev_val (Ev.now _) ?_
    rw [List.drop_of_length_le (by omega)]
    simp
  | succ d ih =>
    intro i hi
    refine Ev.step (fun k => spec_l1Has.l0.eq_2 ..) ?_
    refine ev_pos (by omega) (ev_pos (by omega) (ev_pos (by omega) ?_))
    rw [wrap_nat i (by omega), rd_nat l i (by omega), List.drop_eq_getElem_cons (by omega)]
    by_cases e : l[i] = x
    · refine ev_pos e (ev_val (Ev.now _) ?_)
      simp [e]
    · refine ev_neg e (ev_val (ih (i + 1) (by omega)) ?_)
      simp only [List.mem_cons, show ¬ x = l[i] from fun h => e h.symm, false_or]
theorem spec_l1Has.ev (l : List Int) (x : Int) (hl : l.length < 4611686018427387904) : Ev (fun k => spec_l1Has.f k l x) (decide (x ∈ l)) := by
  simp only [spec_l1Has.f]
  exact spec_l1Has.evl x l hl l.length 0 (by omega)

theorem spec_paDrive.evl (p : Int) (hp : p ≤ 1048576) (l : List Int) (hl : l.length ≤ 1048576) (hx : ∀ x ∈ l, -1048576 ≤ x) (d : Nat) : ∀ (i : Nat) (out : List Int), i + d = l.length → out.length = i → Ev (fun k => spec_paDrive.l0 k p out l (l.length : Int) (i : Int)) (paD p out (l.drop i)) := by
  induction d with
  | zero =>
    intro i out hi ho
    refine Ev.step (fun k => spec_paDrive.l0.eq_2 ..) ?_
    refine ev_neg (by omega) ?_
    refine ev_val (Ev.now _) ?_
    rw [List.drop_of_length_le (by omega)]
    rfl
  | succ d ih =>
    intro i out hi ho
    refine Ev.step (fun k => spec_paDrive.l0.eq_2 ..) ?_
    refine ev_pos (by omega) (ev_pos (by omega) (ev_pos (by omega) ?_))
    rw [rd_nat l i (by omega), List.drop_eq_getElem_cons (by omega)]
    have hxi := hx l[i] (List.getElem_mem _)
    have inner : ∀ (m : Nat) (x : Int), (p - x).toNat = m → -1048576 ≤ x → Ev (fun k => spec_paDrive.l1 k p out x l (l.length : Int) (i : Int)) (paD p (out ++ [if land out p x < p then land out p x else -1]) (l.drop (i + 1))) := by
      intro m
      induction m with
      | zero =>
        intro x hm hx0
        refine Ev.step (fun k => spec_paDrive.l1.eq_2 ..) ?_
        refine ev_neg (by omega) (ev_pos (by omega) (ev_pos (by omega) ?_))
        rw [wrap_nat i (by omega), land_stop out p x (by omega), if_neg (by omega)]
        exact ih (i + 1) _ (by omega) (by simp; omega)
      | succ m ihm =>
        intro x hm hx0
        refine Ev.step (fun k => spec_paDrive.l1.eq_2 ..) ?_
        refine ev_pos (by omega) (Ev.bind (spec_l1Has.ev out x (by omega)) ?_)
        by_cases hh : x ∈ out
        · rw [decide_eq_true hh, land_go out p x (by omega) hh]
          refine ev_pos rfl ?_
          rw [wrap_id (x + 1) (by omega) (by omega)]
          exact ihm (x + 1) (by omega) (by omega)
        · rw [decide_eq_false hh, land_stop out p x (fun h => hh h.2), if_pos (by omega)]
          refine ev_neg (by decide) (ev_neg (by omega) (ev_pos (by omega) ?_))
          rw [wrap_nat i (by omega)]
          exact ih (i + 1) _ (by omega) (by simp; omega)
    exact inner _ l[i] rfl hxi
theorem spec_paDrive.ev (l : List Int) (p : Int) (hp : p ≤ 1048576) (hl : l.length ≤ 1048576) (hx : ∀ x ∈ l, -1048576 ≤ x) : Ev (fun k => spec_paDrive.f k l p) (paD p [] l) := by
  simp only [spec_paDrive.f]
  exact spec_paDrive.evl p hp l hl hx l.length 0 [] (by omega) rfl

theorem paD_length (p : Int) : ∀ (l out : List Int), (paD p out l).length = out.length + l.length
  | [], out => by simp [paD]
  | x :: l, out => by
    have := paD_length p l (out ++ [if land out p x < p then land out p x else -1])
    simp only [paD, this, List.length_append, List.length_cons, List.length_nil]
    omega

theorem spec_paAll.ev (l : List Int) (p : Int) (hp : p ≤ 1048576) (hl : l.length ≤ 1048576) (hx : ∀ x ∈ l, 0 ≤ x) : Ev (fun k => spec_paAll.f k l p) (allPark l p) := by
  simp only [spec_paAll.f]
  refine Ev.bind (spec_paDrive.ev l p hp hl (fun x h => by have := hx x h; omega)) (Ev.bind (spec_l1Has.ev _ _ (by rw [paD_length]; simp; omega)) ?_)
  refine ev_val (Ev.now _) ?_
  rw [allPark_paD l p hx]
  simp

theorem drvR_paD (l : List Int) (p : Int) (hx : ∀ x ∈ l, 0 ≤ x) : drvR (drv p [] l) = if allPark l p = true then (paD p [] l, true) else ([], false) := by
  unfold allPark drvR
  cases h : drv p [] l with
  | none => rfl
  | some r =>
    have := (drv_some p l [] r hx (by simp) h).1
    rw [this]
    rfl
theorem spec_DriveCars.ev (l : List Int) (p : Int) (hl : l.length ≤ 1048576) : Ev (fun k => spec_DriveCars.f k l p) (carsR l p) := by
  simp only [spec_DriveCars.f]
  unfold carsR
  refine Ev.bind (spec_paGood.ev l p (by omega)) ?_
  cases e : fav l p with
  | true =>
    have h := (fav_iff l p).mp e
    rw [if_pos rfl, drvR_paD l p (fun x hx => (h.2.2.2 x hx).1)]
    refine ev_pos rfl (Ev.bind (spec_paAll.ev l p (by omega) hl (fun x hx => (h.2.2.2 x hx).1)) ?_)
    cases allPark l p with
    | true => exact ev_pos rfl (Ev.bind (spec_paDrive.ev l p (by omega) hl (fun x hx => by have := h.2.2.2 x hx; omega)) (Ev.now _))
    | false => exact ev_neg (by decide) (Ev.now _)
  | false => exact ev_neg (by decide) (Ev.now _)

theorem impl_total.evl (l : List Int) (hl : l.length ≤ 1048576) (d : Nat) : ∀ (i : Nat) (a : Int), i + d = l.length → Ev (fun k => impl_total.l0 k a l (l.length : Int) (i : Int)) (sumW a (l.drop i)) := by
  induction d with
  | zero =>
    intro i a hi
    refine Ev.step (fun k => impl_total.l0.eq_2 ..) ?_
    refine ev_neg (by omega) ?_
    refine ev_val (Ev.now _) ?_
    rw [List.drop_of_length_le (by omega)]
    rfl
  | succ d ih =>
    intro i a hi
    refine Ev.step (fun k => impl_total.l0.eq_2 ..) ?_
    refine ev_pos (by omega) (ev_pos (by omega) (ev_pos (by omega) ?_))
    rw [wrap_nat i (by omega), rd_nat l i (by omega), List.drop_eq_getElem_cons (by omega), sumW_cons]
    exact ih (i + 1) _ (by omega)
theorem impl_total.ev (l : List Int) (hl : l.length ≤ 1048576) : Ev (fun k => impl_total.f k l) (sumW 0 l) := by
  simp only [impl_total.f]
  exact impl_total.evl l hl l.length 0 0 (by omega)

def totR (l : List Int) (p : Int) : Int × Bool := if (distR l p).2 = true then (sumW 0 (distR l p).1, true) else (0, false)

theorem impl_TotalDistance.ev (l : List Int) (p : Int) (hl : l.length ≤ 1048576) : Ev (fun k => impl_TotalDistance.f k l p) (totR l p) := by
  simp only [impl_TotalDistance.f]
  unfold totR
  refine Ev.bind (impl_DistancesOf.ev l p hl) ?_
  have hlen := distR_len l p
  refine Ev.bind (impl_total.ev _ (by omega)) (ev_val (Ev.now _) ?_)
  cases e : (distR l p).2 with
  | true => rfl
  | false =>
    have h1 := (carsR_no l p e).1
    have h2 : (distR l p).1 = [] := by unfold distR; rw [h1]; rfl
    rw [h2]
    rfl

theorem impl_DoAllPark.ev (l : List Int) (p : Int) (hl : l.length ≤ 1048576) : Ev (fun k => impl_DoAllPark.f k l p) (if fav l p = true then (allPark l p, true) else (false, false)) := by
  simp only [impl_DoAllPark.f]
  refine Ev.bind (ev_eq (impl_AreFavourites.is l p (by omega))) ?_
  cases e : fav l p with
  | true =>
    have h := (fav_iff l p).mp e
    refine ev_pos rfl (Ev.bind (impl_drive.ev l p (by omega) (by omega) hl (fun x hx => by have := h.2.2.2 x hx; omega)) ?_)
    refine ev_val (Ev.now _) ?_
    rw [drvR_snd]
    rfl
  | false => exact ev_neg (by decide) (Ev.now _)

theorem laws_jHas.evl (x : Int) (l : List Int) (hl : l.length < 4611686018427387904) (d : Nat) : ∀ (i : Nat), i + d = l.length → Ev (fun k => laws_jHas.l0 k x l (l.length : Int) (i : Int)) (decide (x ∈ l.drop i)) := by
  induction d with
  | zero =>
    intro i hi
    refine Ev.step (fun k => laws_jHas.l0.eq_2 ..) ?_
    refine ev_neg (by omega) ?_
    refine ev_val (Ev.now _) ?_
    rw [List.drop_of_length_le (by omega)]
    simp
  | succ d ih =>
    intro i hi
    refine Ev.step (fun k => laws_jHas.l0.eq_2 ..) ?_
    refine ev_pos (by omega) (ev_pos (by omega) (ev_pos (by omega) ?_))
    rw [wrap_nat i (by omega), rd_nat l i (by omega), List.drop_eq_getElem_cons (by omega)]
    by_cases e : l[i] = x
    · refine ev_pos e (ev_val (Ev.now _) ?_)
      simp [e]
    · refine ev_neg e (ev_val (ih (i + 1) (by omega)) ?_)
      simp only [List.mem_cons, show ¬ x = l[i] from fun h => e h.symm, false_or]
theorem laws_jHas.ev (l : List Int) (x : Int) (hl : l.length < 4611686018427387904) : Ev (fun k => laws_jHas.f k l x) (decide (x ∈ l)) := by
  simp only [laws_jHas.f]
  exact laws_jHas.evl x l hl l.length 0 (by omega)

theorem ev_ite {α : Type} {c : Prop} [Decidable c] {g f : Nat → Option α} {r : α} (h : c → Ev g r) (k : ¬ c → Ev f r) : Ev (fun n => if c then g n else f n) r := by
  by_cases e : c
  · exact ev_pos e (h e)
  · exact ev_neg e (k e)
theorem u8_of_wf (x : Int) (h : (Lit.int .u8 x).wf = true) : 0 ≤ x ∧ x ≤ 255 := by
  simp only [Lit.wf, Bool.and_eq_true, decide_eq_true_eq] at h
  have h1 : IntKind.min .u8 = 0 := by decide
  have h2 : IntKind.max .u8 = 255 := by decide
  rw [h1, h2] at h
  exact h

theorem isPk_of_cars (l : List Int) (h8 : l.length ≤ 8) (h0 : ∀ x ∈ l, 0 ≤ x) : isPk l = allPark l l.length := by
  cases e : allPark l l.length with
  | false => simp [isPk, e]
  | true =>
    unfold allPark at e
    obtain ⟨r, hr⟩ := Option.isSome_iff_exists.mp e
    have h := drv_lt l.length l [] r hr
    have e' : allPark l l.length = true := by unfold allPark; exact e
    simp only [isPk, e', Bool.and_true, Bool.and_eq_true, decide_eq_true_eq, List.all_eq_true]
    exact ⟨h8, fun x hx => ⟨h0 x hx, by have := h x hx; omega⟩⟩
theorem isPk_no_cars (l : List Int) (h : ¬ (decide (l.length ≤ 8) && inAll 0 99 l) = true) : isPk l = false := by
  cases e : isPk l with
  | false => rfl
  | true =>
    exfalso
    apply h
    simp only [isPk, Bool.and_eq_true, decide_eq_true_eq, List.all_eq_true] at e
    rw [Bool.and_eq_true, decide_eq_true_eq, inAll_iff]
    exact ⟨e.1.1, fun x hx => by have := e.1.2 x hx; omega⟩

theorem drv_tail (p : Int) : ∀ (l out r : List Int), drv p out l = some r → ∃ s, r = out ++ s ∧ ptLe l s
  | [], out, r, h => by
    simp only [drv, Option.some.injEq] at h
    exact ⟨[], by simp [h], trivial⟩
  | x :: l, out, r, h => by
    simp only [drv] at h
    by_cases hl : land out p x < p
    · rw [if_pos hl] at h
      obtain ⟨s, e, hs⟩ := drv_tail p l _ r h
      exact ⟨land out p x :: s, by rw [e, List.append_assoc]; rfl, land_ge out p x, hs⟩
    · rw [if_neg hl] at h
      cases h
/-- where the cars of a parking function drive to is a parking function, nowhere less -/
theorem drv_pk (a : List Int) (h : isPk a = true) : ∃ r, drv (a.length : Int) [] a = some r ∧ isPk r = true ∧ ptLe a r := by
  obtain ⟨h8, hx, hp⟩ := (isPk_parts a).mp h
  unfold allPark at hp
  obtain ⟨r, hr⟩ := Option.isSome_iff_exists.mp hp
  obtain ⟨s, es, hs⟩ := drv_tail _ a [] r hr
  rw [List.nil_append] at es
  subst es
  have hP := drv_park (a.length : Int) a [] [] r (fun x h => (hx x h).1) (Park.nil _) hr
  have hl := ptLe_len a r hs
  have hin : ∀ x ∈ r, 0 ≤ x ∧ x < (r.length : Int) := fun x hx => by
    have h1 := hP.low x hx
    have h2 := hP.high x hx
    omega
  refine ⟨r, hr, (isPk_parts r).mpr ⟨by omega, hin, (park_iff r r.length hin).mpr (fun j j0 j1 => ?_)⟩, hs⟩
  have := ge_nodup r (r.length : Int) hP.nodup (fun x hx => (hin x hx).2) ((r.length : Int) - j).toNat j (by omega)
  omega

end Go.Proofs.Ytdiohjdfiambhaa.QFnTakenPlacesStay
