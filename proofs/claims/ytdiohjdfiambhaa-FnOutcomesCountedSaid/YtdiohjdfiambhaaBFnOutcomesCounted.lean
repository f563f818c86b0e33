/- Proved here: what the Lean functions printed for the Go functions of law FnOutcomesCounted compute, in words of lists and whole numbers, for lists shorter than 2^62. -/
import Derived.Test.YtdiohjdfiambhaaQFnOutcomesCountedx
import Derived.Test.YtdiohjdfiambhaaMDrive
import Derived.Test.YtdiohjdfiambhaaMCrit
import Derived.Test.YtdiohjdfiambhaaMCircle
import Derived.Test.YtdiohjdfiambhaaMRing
import Derived.Test.YtdiohjdfiambhaaMLesser
import Derived.Test.YtdiohjdfiambhaaMSort
import Derived.Test.YtdiohjdfiambhaaMOut
import Derived.Test.YtdiohjdfiambhaaMBox
import Derived.Test.YtdiohjdfiambhaaMSum
import Derived.Test.YtdiohjdfiambhaaMRank
import Derived.Test.YtdiohjdfiambhaaMUnrank
import Derived.Test.YtdiohjdfiambhaaMOrder
import Derived.Test.YtdiohjdfiambhaaMOutAll
namespace Go.Proofs.Ytdiohjdfiambhaa.QFnOutcomesCounted
open Go.RowKit Go.Proofs.YtdiohjdfiambhaaW.PrintWords Go.Proofs.YtdiohjdfiambhaaW.PrintLast Go.Proofs.Ytdiohjdfiambhaa.Math
set_option linter.unusedVariables false
set_option linter.unusedSimpArgs false

theorem ev_pos {α : Type} {c : Prop} [Decidable c] {g f : Nat → Option α} {r : α} (h : c) (k : Ev g r) : Ev (fun n => if c then g n else f n) r := by
  obtain ⟨K, hK⟩ := k
  exact ⟨K, fun n hn => by simp only [if_pos h]; exact hK n hn⟩
theorem ev_neg {α : Type} {c : Prop} [Decidable c] {g f : Nat → Option α} {r : α} (h : ¬ c) (k : Ev f r) : Ev (fun n => if c then g n else f n) r := by
  obtain ⟨K, hK⟩ := k
  exact ⟨K, fun n hn => by simp only [if_neg h]; exact hK n hn⟩
theorem ev_eq {α : Type} {g : Option α} {r : α} (h : g = some r) : Ev (fun _ => g) r := ⟨0, fun _ _ => h⟩
theorem ev_val {α : Type} {g : Nat → Option α} {r q : α} (h : Ev g r) (e : r = q) : Ev g q := e ▸ h
theorem wrap_nat (i : Nat) (h : i < 4611686018427387904) : wrap64 ((i : Int) + 1) = ((i + 1 : Nat) : Int) := by
  unfold wrap64
  omega
theorem wrap_id (x : Int) (h : -9223372036854775808 ≤ x) (h' : x ≤ 9223372036854775807) : wrap64 x = x := by
  unfold wrap64
  omega
theorem rd_nat (l : List Int) (i : Nat) (h : i < l.length) : rd l (i : Int) = l[i] := by
  simp [rd, List.getD_eq_getElem?_getD, h]
theorem rd_int (l : List Int) (x : Int) (h0 : 0 ≤ x) (h : x < l.length) : rd l x = l[x.toNat]'(by omega) := by
  have e : x = ((x.toNat : Nat) : Int) := by omega
  have h2 : x.toNat < l.length := by omega
  rw [show rd l x = rd l ((x.toNat : Nat) : Int) by rw [← e]]
  exact rd_nat l x.toNat h2
/-- m, m + 1, .., n numbers -/
def marks : Int → Nat → List Int
  | _, 0 => []
  | m, n + 1 => m :: marks (m + 1) n
theorem marks_len : ∀ (n : Nat) (m : Int), (marks m n).length = n
  | 0, _ => rfl
  | n + 1, m => by simp [marks, marks_len n]
theorem take_set_succ (y l : List Int) (i : Nat) (hi : i < l.length) (hy : y.length = l.length) (h : y.take i = l.take i) : (y.set i l[i]).take (i + 1) = l.take (i + 1) := by
  rw [List.take_succ_eq_append_getElem (by simp; omega), List.take_succ_eq_append_getElem hi, List.take_set_of_le (Nat.le_refl i), h, List.getElem_set_self]
/-- all numbers lie from lo to hi -/
def inAll (lo hi : Int) (l : List Int) : Bool := l.all fun x => decide (lo ≤ x) && decide (x ≤ hi)
theorem inAll_iff (lo hi : Int) (l : List Int) : inAll lo hi l = true ↔ ∀ x ∈ l, lo ≤ x ∧ x ≤ hi := by
  simp [inAll]

theorem laws_big.is (a b : List Int) : laws_big.f a b = some true ∨ (laws_big.f a b = some false ∧ a.length + b.length ≤ 1048576) := by
  unfold laws_big.f
  by_cases c : (a.length : Int) > 1048576
  · rw [if_pos c]
    exact .inl rfl
  · rw [if_neg c, wrap_id _ (by omega) (by omega)]
    by_cases d : (b.length : Int) > 1048576 - (a.length : Int)
    · rw [decide_eq_true d]
      exact .inl rfl
    · rw [decide_eq_false d]
      exact .inr ⟨rfl, by omega⟩

theorem laws_jSame.evl (a b : List Int) (hl : a.length ≤ 1048576) (h : a.length = b.length) (d : Nat) : ∀ (i : Nat), i + d = a.length → Ev (fun k => laws_jSame.l0 k a b (a.length : Int) (i : Int)) (decide (a.drop i = b.drop i)) := by
  induction d with
  | zero =>
    intro i hi
    refine Ev.step (fun k => laws_jSame.l0.eq_2 ..) ?_
    refine ev_neg (by omega) (ev_val (Ev.now _) ?_)
    rw [List.drop_of_length_le (by omega), List.drop_of_length_le (by omega)]
    rfl
  | succ d ih =>
    intro i hi
    refine Ev.step (fun k => laws_jSame.l0.eq_2 ..) ?_
    refine ev_pos (by omega) (ev_pos (by omega) (ev_pos (by omega) (ev_pos (by omega) ?_)))
    rw [rd_nat a i (by omega), rd_nat b i (by omega), List.drop_eq_getElem_cons (l := a) (by omega), List.drop_eq_getElem_cons (l := b) (by omega)]
    by_cases e : a[i]'(by omega) = b[i]'(by omega)
    · refine ev_pos e ?_
      rw [wrap_nat i (by omega)]
      refine ev_val (ih (i + 1) (by omega)) ?_
      simp only [List.cons.injEq, e, true_and]
    · refine ev_neg e (ev_val (Ev.now _) ?_)
      simp only [List.cons.injEq, e, false_and, decide_false]
theorem laws_jSame.ev (a b : List Int) (hl : a.length ≤ 1048576) : Ev (fun k => laws_jSame.f k a b) (decide (a = b)) := by
  simp only [laws_jSame.f]
  by_cases h : a.length = b.length
  · refine ev_pos (by omega) ?_
    exact laws_jSame.evl a b hl h a.length 0 (by omega)
  · refine ev_neg (by omega) (ev_val (Ev.now _) ?_)
    rw [decide_eq_false (fun e => h (by rw [e]))]
theorem laws_jSame.ev_self (a : List Int) (hl : a.length ≤ 1048576) : Ev (fun k => laws_jSame.f k a a) true := ev_val (laws_jSame.ev a a hl) (by simp)

theorem impl_between.is (x lo hi : Int) : impl_between.f x lo hi = some (decide (lo ≤ x) && decide (x ≤ hi)) := by
  unfold impl_between.f
  by_cases h : x ≥ lo
  · rw [if_pos h, decide_eq_true (show lo ≤ x from h), Bool.true_and]
  · rw [if_neg h, decide_eq_false (show ¬ lo ≤ x from h), Bool.false_and]

theorem impl_areBetween.is (l : List Int) (lo hi : Int) (hl : l.length ≤ 35184372088832) : impl_areBetween.f l lo hi = some (inAll lo hi l) := by
  unfold impl_areBetween.f
  rw [if_pos hl]
  congr 1
  unfold inAll out_b
  induction l with
  | nil => rfl
  | cons x l ih =>
    rw [List.any_cons, List.all_cons, ← ih (by simp at hl; omega)]
    cases (decide (lo ≤ x) && decide (x ≤ hi)) <;> simp

/-- favourites for a street of p places -/
def fav (l : List Int) (p : Int) : Bool := decide (1 ≤ p) && decide (p ≤ 12) && decide (l.length ≤ 8) && inAll 0 (p - 1) l
theorem fav_iff (l : List Int) (p : Int) : fav l p = true ↔ 1 ≤ p ∧ p ≤ 12 ∧ l.length ≤ 8 ∧ ∀ x ∈ l, 0 ≤ x ∧ x < p := by
  unfold fav
  simp only [Bool.and_eq_true, decide_eq_true_eq, inAll_iff]
  constructor
  · rintro ⟨⟨⟨h1, h2⟩, h3⟩, h4⟩
    exact ⟨h1, h2, h3, fun x hx => by have := h4 x hx; omega⟩
  · rintro ⟨h1, h2, h3, h4⟩
    exact ⟨⟨⟨h1, h2⟩, h3⟩, fun x hx => by have := h4 x hx; omega⟩

theorem impl_AreFavourites.is (l : List Int) (p : Int) (hl : l.length ≤ 35184372088832) : impl_AreFavourites.f l p = some (fav l p) := by
  simp only [impl_AreFavourites.f, impl_between.is, Option.bind_some]
  unfold fav
  by_cases h : 1 ≤ p ∧ p ≤ 12
  · rw [wrap_id (p - 1) (by omega) (by omega), decide_eq_true h.1, decide_eq_true h.2]
    rw [if_pos (by rfl)]
    by_cases h8 : l.length ≤ 8
    · rw [decide_eq_true h8, if_pos (by omega), impl_areBetween.is l 0 (p - 1) hl]
      rfl
    · rw [decide_eq_false h8, if_neg (by omega)]
      rfl
  · have e : (decide (1 ≤ p) && decide (p ≤ 12)) = false := by simp; omega
    rw [e]
    rfl

def drvR (o : Option (List Int)) : List Int × Bool := match o with
  | some r => (r, true)
  | none => ([], false)
theorem drvR_snd (l : List Int) (p : Int) : (drvR (drv p [] l)).2 = allPark l p := by
  unfold drvR allPark
  cases drv p [] l <;> rfl

/-- the table t tells which places are in out -/
def Tk (p : Int) (out : List Int) (t : List Bool) : Prop := t.length = p.toNat ∧ ∀ j : Int, 0 ≤ j → j < p → (rdOf false t j = true ↔ j ∈ out)
theorem Tk_set (p : Int) (out : List Int) (t : List Bool) (h : Tk p out t) (x : Int) (h0 : 0 ≤ x) (h1 : x < p) : Tk p (out ++ [x]) (t.set x.toNat true) := by
  refine ⟨by rw [List.length_set]; exact h.1, fun j j0 j1 => ?_⟩
  have hl := h.1
  have hj := h.2 j j0 j1
  unfold rdOf at hj ⊢
  rw [List.getD_eq_getElem?_getD] at hj ⊢
  rw [List.getElem?_set]
  by_cases e : x.toNat = j.toNat
  · have e' : j = x := by omega
    subst e'
    rw [if_pos rfl, if_pos (by omega)]
    simp
  · rw [if_neg e]
    rw [hj]
    have e' : ¬ j = x := by omega
    simp [e']

theorem impl_drive.evl (p : Int) (hp : p ≤ 1048576) (l : List Int) (hl : l.length ≤ 1048576) (hx : ∀ x ∈ l, 0 ≤ x ∧ x ≤ 1048576) (d : Nat) : ∀ (i : Nat) (out : List Int) (t : List Bool), i + d = l.length → out.length = i → Tk p out t → Ev (fun k => impl_drive.l0 k p t out l (l.length : Int) (i : Int)) (drvR (drv p out (l.drop i))) := by
  induction d with
  | zero =>
    intro i out t hi ho ht
    refine Ev.step (fun k => impl_drive.l0.eq_2 ..) ?_
    refine ev_neg (by omega) ?_
    refine ev_val (Ev.now _) ?_
    rw [List.drop_of_length_le (by omega)]
    rfl
  | succ d ih =>
    intro i out t hi ho ht
    refine Ev.step (fun k => impl_drive.l0.eq_2 ..) ?_
    refine ev_pos (by omega) (ev_pos (by omega) (ev_pos (by omega) ?_))
    rw [rd_nat l i (by omega), List.drop_eq_getElem_cons (by omega)]
    have hxi := hx l[i] (List.getElem_mem _)
    have inner : ∀ (m : Nat) (x : Int), (p - x).toNat = m → 0 ≤ x → x ≤ 1048576 → Ev (fun k => impl_drive.l1 k p t out x l (l.length : Int) (i : Int)) (drvR (drv p out (x :: l.drop (i + 1)))) := by
      intro m
      induction m with
      | zero =>
        intro x hm hx0 hx1
        refine Ev.step (fun k => impl_drive.l1.eq_2 ..) ?_
        refine ev_neg (by omega) (ev_pos (by omega) ?_)
        refine ev_val (Ev.now _) ?_
        simp only [drv]
        rw [land_stop out p x (by omega), if_neg (by omega)]
        rfl
      | succ m ihm =>
        intro x hm hx0 hx1
        have hlen := ht.1
        refine Ev.step (fun k => impl_drive.l1.eq_2 ..) ?_
        refine ev_pos (by omega) (ev_pos (by omega) (ev_pos (by omega) ?_))
        by_cases hh : x ∈ out
        · refine ev_pos ((ht.2 x hx0 (by omega)).mpr hh) ?_
          rw [wrap_id (x + 1) (by omega) (by omega)]
          refine ev_val (ihm (x + 1) (by omega) (by omega) (by omega)) ?_
          simp only [drv]
          rw [land_go out p x (by omega) hh]
        · refine ev_neg (fun h => hh ((ht.2 x hx0 (by omega)).mp h)) (ev_neg (by omega) (ev_pos (by omega) ?_))
          rw [wrap_nat i (by omega)]
          refine ev_val (ih (i + 1) _ _ (by omega) (by simp; omega) (Tk_set p out t ht x hx0 (by omega))) ?_
          simp only [drv]
          rw [land_stop out p x (fun h => hh h.2), if_pos (by omega)]
    exact inner _ l[i] rfl hxi.1 hxi.2
theorem impl_drive.ev (l : List Int) (p : Int) (hp0 : 0 ≤ p) (hp : p ≤ 1048576) (hl : l.length ≤ 1048576) (hx : ∀ x ∈ l, 0 ≤ x ∧ x ≤ 1048576) : Ev (fun k => impl_drive.f k l p) (drvR (drv p [] l)) := by
  simp only [impl_drive.f]
  refine ev_pos hp0 (ev_pos (by omega) ?_)
  refine impl_drive.evl p hp l hl hx l.length 0 [] _ (by omega) rfl ⟨by simp, fun j j0 j1 => ?_⟩
  unfold rdOf
  rw [List.getD_eq_getElem?_getD, List.getElem?_replicate]
  split <;> simp

/-- what DriveCars hands back -/
def carsR (l : List Int) (p : Int) : List Int × Bool := if fav l p = true then drvR (drv p [] l) else ([], false)
theorem carsR_len (l : List Int) (p : Int) : (carsR l p).1.length ≤ l.length := by
  unfold carsR
  split
  · cases h : drv p [] l with
    | none => simp [drvR]
    | some r =>
      have := drv_length p l [] r h
      simp only [drvR]
      simp at this
      omega
  · simp

theorem impl_DriveCars.ev (l : List Int) (p : Int) (hl : l.length ≤ 1048576) : Ev (fun k => impl_DriveCars.f k l p) (carsR l p) := by
  simp only [impl_DriveCars.f]
  unfold carsR
  refine Ev.bind (ev_eq (impl_AreFavourites.is l p (by omega))) ?_
  cases e : fav l p with
  | true =>
    have h := (fav_iff l p).mp e
    exact ev_pos rfl (Ev.bind (impl_drive.ev l p (by omega) (by omega) hl (fun x hx => by have := h.2.2.2 x hx; omega)) (Ev.now _))
  | false => exact ev_neg (by decide) (Ev.now _)

theorem laws_jLess.evl (a b : List Int) (hl : a.length ≤ 1048576) (h : a.length = b.length) (d : Nat) : ∀ (i : Nat), i + d = a.length → lexLt (a.drop i) (b.drop i) → Ev (fun k => laws_jLess.l0 k a b (a.length : Int) (i : Int)) true := by
  induction d with
  | zero =>
    intro i hi hx
    rw [List.drop_of_length_le (by omega)] at hx
    exact hx.elim
  | succ d ih =>
    intro i hi hx
    rw [List.drop_eq_getElem_cons (l := a) (by omega), List.drop_eq_getElem_cons (l := b) (by omega)] at hx
    refine Ev.step (fun k => laws_jLess.l0.eq_2 ..) ?_
    refine ev_pos (by omega) (ev_pos (by omega) (ev_pos (by omega) (ev_pos (by omega) ?_)))
    rw [rd_nat a i (by omega), rd_nat b i (by omega)]
    rcases hx with hx | ⟨e, hx⟩
    · refine ev_neg (by omega) (ev_val (Ev.now _) ?_)
      exact decide_eq_true hx
    · refine ev_pos e ?_
      rw [wrap_nat i (by omega)]
      exact ih (i + 1) (by omega) hx
theorem laws_jLess.ev (a b : List Int) (hl : a.length ≤ 1048576) (h : a.length = b.length) (hx : lexLt a b) : Ev (fun k => laws_jLess.f k a b) true := by
  simp only [laws_jLess.f]
  exact laws_jLess.evl a b hl h a.length 0 (by omega) hx

theorem laws_jRows.rdL (E : List (List Int)) (i : Nat) (h : i < E.length) : rd_L3 E (i : Int) = E[i] := by
  simp [rd_L3, List.getD_eq_getElem?_getD, h]
theorem laws_jRows.evl (a : List (List Int)) (hl : a.length < 4611686018427387904) (hr : ∀ x ∈ a, x.length ≤ 1048576) (d : Nat) : ∀ (i : Nat), i + d = a.length → Ev (fun k => laws_jRows.l0 k a a (a.length : Int) (i : Int)) true := by
  induction d with
  | zero =>
    intro i hi
    refine Ev.step (fun k => laws_jRows.l0.eq_2 ..) ?_
    exact ev_neg (by omega) (Ev.now _)
  | succ d ih =>
    intro i hi
    refine Ev.step (fun k => laws_jRows.l0.eq_2 ..) ?_
    refine ev_pos (by omega) (ev_pos (by omega) (ev_pos (by omega) (ev_pos (by omega) ?_)))
    rw [wrap_nat i (by omega), laws_jRows.rdL a i (by omega)]
    refine Ev.bind (laws_jSame.ev_self _ (hr _ (List.getElem_mem _))) (ev_pos rfl ?_)
    exact ih (i + 1) (by omega)
theorem laws_jRows.ev_self (a : List (List Int)) (hl : a.length < 4611686018427387904) (hr : ∀ x ∈ a, x.length ≤ 1048576) : Ev (fun k => laws_jRows.f k a a) true := by
  simp only [laws_jRows.f]
  exact ev_pos (by first | rfl | trivial | omega) (laws_jRows.evl a hl hr a.length 0 (by omega))

theorem spec_l1In.is (x lo hi : Int) : spec_l1In.f x lo hi = some (decide (lo ≤ x) && decide (x ≤ hi)) := by
  unfold spec_l1In.f
  by_cases h : x ≥ lo
  · rw [if_pos h, decide_eq_true (show lo ≤ x from h), Bool.true_and]
  · rw [if_neg h, decide_eq_false (show ¬ lo ≤ x from h), Bool.false_and]

theorem spec_l1All.evl (lo hi : Int) (l : List Int) (hl : l.length < 4611686018427387904) (d : Nat) : ∀ (i : Nat), i + d = l.length → Ev (fun k => spec_l1All.l0 k lo hi l (l.length : Int) (i : Int)) (inAll lo hi (l.drop i)) := by
  induction d with
  | zero =>
    intro i hi0
    refine Ev.step (fun k => spec_l1All.l0.eq_2 ..) ?_
    refine ev_neg (by omega) ?_
    refine ev_val (Ev.now _) ?_
    rw [List.drop_of_length_le (by omega)]
    rfl
  | succ d ih =>
    intro i hi0
    refine Ev.step (fun k => spec_l1All.l0.eq_2 ..) ?_
    refine ev_pos (by omega) (ev_pos (by omega) (ev_pos (by omega) ?_))
    rw [wrap_nat i (by omega), rd_nat l i (by omega), List.drop_eq_getElem_cons (by omega), spec_l1In.is]
    refine Ev.bind (Ev.now _) ?_
    have u : inAll lo hi (l[i] :: l.drop (i + 1)) = ((decide (lo ≤ l[i]) && decide (l[i] ≤ hi)) && inAll lo hi (l.drop (i + 1))) := rfl
    rw [u]
    generalize (decide (lo ≤ l[i]) && decide (l[i] ≤ hi)) = b
    cases b with
    | true => exact ev_pos rfl (ih (i + 1) (by omega))
    | false => exact ev_neg (by decide) (Ev.now _)
theorem spec_l1All.ev (l : List Int) (lo hi : Int) (hl : l.length < 4611686018427387904) : Ev (fun k => spec_l1All.f k l lo hi) (inAll lo hi l) := by
  simp only [spec_l1All.f]
  exact spec_l1All.evl lo hi l hl l.length 0 (by omega)

theorem spec_l1Has.evl (x : Int) (l : List Int) (hl : l.length < 4611686018427387904) (d : Nat) : ∀ (i : Nat), i + d = l.length → Ev (fun k => spec_l1Has.l0 k x l (l.length : Int) (i : Int)) (decide (x ∈ l.drop i)) := by
  induction d with
  | zero =>
    intro i hi
    refine Ev.step (fun k => spec_l1Has.l0.eq_2 ..) ?_
    refine ev_neg (by omega) ?_
    refine ev_val (Ev.now _) ?_
    rw [List.drop_of_length_le (by omega)]
    simp
  | succ d ih =>
    intro i hi
    refine Ev.step (fun k => spec_l1Has.l0.eq_2 ..) ?_
    refine ev_pos (by omega) (ev_pos (by omega) (ev_pos (by omega) ?_))
    rw [wrap_nat i (by omega), rd_nat l i (by omega), List.drop_eq_getElem_cons (by omega)]
    by_cases e : l[i] = x
    · refine ev_pos e (ev_val (Ev.now _) ?_)
      simp [e]
    · refine ev_neg e (ev_val (ih (i + 1) (by omega)) ?_)
      simp only [List.mem_cons, show ¬ x = l[i] from fun h => e h.symm, false_or]
theorem spec_l1Has.ev (l : List Int) (x : Int) (hl : l.length < 4611686018427387904) : Ev (fun k => spec_l1Has.f k l x) (decide (x ∈ l)) := by
  simp only [spec_l1Has.f]
  exact spec_l1Has.evl x l hl l.length 0 (by omega)

theorem srt_perm (l : List Int) : (Srt.srt l).Perm l := List.mergeSort_perm _ _
theorem srt_up (l : List Int) : up2 (Srt.srt l) := by
  rw [up2_pairwise]
  have h := List.pairwise_mergeSort (le := fun x y : Int => decide (x ≤ y)) (fun a b c h1 h2 => by
    simp only [decide_eq_true_eq] at h1 h2 ⊢
    omega) (fun a b => by
    simp only [Bool.or_eq_true, decide_eq_true_eq]
    omega) l
  exact h.imp (fun h => by simpa using h)
theorem srt_eq (l s : List Int) (hp : s.Perm l) (hs : up2 s) : s = Srt.srt l := up2_eq s (Srt.srt l) hs (srt_up l) (hp.trans (srt_perm l).symm)
theorem ins_up (s : List Int) (j : Nat) (x : Int) (hs : up2 s) (h1 : ∀ y ∈ s.take j, y ≤ x) (h2 : ∀ y ∈ s.drop j, x ≤ y) : up2 ((s.take j ++ [x]) ++ s.drop j) := by
  rw [up2_pairwise] at hs ⊢
  have hs' : (s.take j ++ s.drop j).Pairwise (fun a b => a ≤ b) := by rw [List.take_append_drop]; exact hs
  rw [List.pairwise_append] at hs'
  obtain ⟨a, b, c⟩ := hs'
  rw [List.pairwise_append, List.pairwise_append]
  refine ⟨⟨a, by simp, fun y hy z hz => ?_⟩, b, fun y hy z hz => ?_⟩
  · simp only [List.mem_singleton] at hz
    rw [hz]
    exact h1 y hy
  · rcases List.mem_append.mp hy with hy | hy
    · exact c y hy z hz
    · simp only [List.mem_singleton] at hy
      rw [hy]
      exact h2 z hz
theorem ins_perm (s : List Int) (j : Nat) (x : Int) : ((s.take j ++ [x]) ++ s.drop j).Perm (s ++ [x]) := by
  have e : s ++ [x] = (s.take j ++ s.drop j) ++ [x] := by rw [List.take_append_drop]
  rw [e, List.append_assoc, List.append_assoc]
  exact List.Perm.append_left _ List.perm_append_comm

/-- has a list each of the first numbers once, for at most 8 cars -/
def isOrd (l : List Int) : Bool := decide (l.length ≤ 8) && inAll 0 ((l.length : Int) - 1) l && ndB [] l
theorem isOrd_iff (l : List Int) : isOrd l = true ↔ l.length ≤ 8 ∧ (∀ x ∈ l, 0 ≤ x ∧ x ≤ (l.length : Int) - 1) ∧ l.Nodup := by
  unfold isOrd
  rw [Bool.and_eq_true, Bool.and_eq_true, decide_eq_true_eq, inAll_iff, ndB_iff l [] List.nodup_nil, List.nil_append, and_assoc]
/-- each number is its index, from i on -/
def idB : Nat → List Int → Bool
  | _, [] => true
  | i, x :: l => decide (x = (i : Int)) && idB (i + 1) l
theorem idB_iff : ∀ (l : List Int) (i : Nat), idB i l = true ↔ ∀ j (h : j < l.length), l[j] = ((i + j : Nat) : Int)
  | [], i => by simp [idB]
  | x :: l, i => by
    simp only [idB, Bool.and_eq_true, decide_eq_true_eq, idB_iff l (i + 1)]
    constructor
    · rintro ⟨h1, h2⟩ j hj
      cases j with
      | zero => simpa using h1
      | succ j =>
        have := h2 j (by simpa using hj)
        rw [List.getElem_cons_succ, this]
        omega
    · intro h
      have h0 : x = (i : Int) := h 0 (by simp)
      refine ⟨h0, fun j hj => ?_⟩
      have := h (j + 1) (by simpa using hj)
      rw [List.getElem_cons_succ] at this
      rw [this]
      omega
theorem isOrd_srt (l : List Int) : (idB 0 (Srt.srt l) && decide (l.length ≤ 8)) = isOrd l := by
  have h1 := ord_iff l (Srt.srt l) (srt_perm l) (srt_up l)
  have h2 := idB_iff (Srt.srt l) 0
  have h3 := isOrd_iff l
  rw [Bool.eq_iff_iff, Bool.and_eq_true, decide_eq_true_eq, h2, h3]
  simp only [Nat.zero_add]
  rw [h1]
  exact ⟨fun ⟨a, b⟩ => ⟨b, a⟩, fun ⟨a, b⟩ => ⟨b, a⟩⟩
def cwoR (l : List Int) : Int × Bool := if isOrd l = true then (prodW 1 (rowsL [] l), true) else (0, false)
theorem rowsL_at : ∀ (r m : List Int) (i : Nat) (h : i < r.length), (rowsL m r)[i]'(by rw [rowsL_len]; exact h) = ((run (m ++ r.take i) (r[i] - 1) + 1 : Nat) : Int)
  | x :: r, m, 0, h => by simp [rowsL]
  | x :: r, m, i + 1, h => by
    simp only [rowsL, List.getElem_cons_succ, List.take_succ_cons]
    rw [rowsL_at r (m ++ [x]) i (by simpa using h), List.append_assoc]
    rfl
  | [], m, i, h => by simp at h

theorem spec_paOutcome.evl (l : List Int) (hl : l.length ≤ 1048576) (d : Nat) : ∀ (i : Nat), i + d = l.length → Ev (fun k => spec_paOutcome.l0 k l l (l.length : Int) (i : Int)) (ndB (l.take i) (l.drop i)) := by
  induction d with
  | zero =>
    intro i hi
    refine Ev.step (fun k => spec_paOutcome.l0.eq_2 ..) (ev_neg (by omega) (ev_val (Ev.now _) ?_))
    rw [List.drop_of_length_le (by omega)]
    rfl
  | succ d ih =>
    intro i hi
    refine Ev.step (fun k => spec_paOutcome.l0.eq_2 ..) (ev_pos (by omega) (ev_pos (by omega) (ev_pos (by omega) (ev_pos (by omega) ?_))))
    rw [rd_nat l i (by omega), Int.toNat_natCast, List.drop_eq_getElem_cons (by omega)]
    refine Ev.bind (spec_l1Has.ev (l.take i) (l[i]'(by omega)) (by rw [List.length_take]; omega)) ?_
    by_cases c : l[i]'(by omega) ∈ l.take i
    · rw [decide_eq_true c]
      refine ev_pos rfl (ev_val (Ev.now _) ?_)
      simp only [ndB]
      rw [decide_eq_true c]
      rfl
    · rw [decide_eq_false c]
      refine ev_neg (by decide) ?_
      rw [wrap_nat i (by omega)]
      refine ev_val (ih (i + 1) (by omega)) ?_
      simp only [ndB]
      rw [decide_eq_false c, Bool.not_false, Bool.true_and, List.take_succ_eq_append_getElem (by omega)]
theorem spec_paOutcome.ev (l : List Int) (hl : l.length ≤ 1048576) : Ev (fun k => spec_paOutcome.f k l) (isOrd l) := by
  simp only [spec_paOutcome.f]
  unfold isOrd
  by_cases h : (l.length : Int) > 8
  · refine ev_pos h (Ev.step (fun k => spec_paOutcome.j0.eq_2 ..) (ev_pos rfl (ev_val (Ev.now _) ?_)))
    rw [decide_eq_false (by omega)]
    rfl
  · refine ev_neg h ?_
    rw [wrap_id ((l.length : Int) - 1) (by omega) (by omega)]
    refine Ev.bind (spec_l1All.ev l 0 _ (by omega)) (Ev.step (fun k => spec_paOutcome.j0.eq_2 ..) ?_)
    rw [decide_eq_true (by omega), Bool.true_and]
    cases inAll 0 ((l.length : Int) - 1) l with
    | false => exact ev_pos rfl (Ev.now _)
    | true =>
      refine ev_neg (by decide) ?_
      have := spec_paOutcome.evl l hl l.length 0 (by omega)
      simpa using this

theorem spec_paRow.evl (l : List Int) (hl : l.length ≤ 1048576) (i : Nat) (hi : i < l.length) : ∀ (d : Nat) (x c : Int), (x + 1).toNat = d → x ≤ 1048576 → -1 ≤ x → 0 ≤ c → c + (d : Int) ≤ 4194304 → Ev (fun k => spec_paRow.l0 k l (i : Int) c x) (c + ((run (l.take i) x : Nat) : Int))
  | 0, x, c, hd, hx, hx0, hc, hcd => by
    refine Ev.step (fun k => spec_paRow.l0.eq_2 ..) (ev_neg (by omega) (ev_val (Ev.now _) ?_))
    rw [run_stop _ _ (.inl (by omega))]
    omega
  | d + 1, x, c, hd, hx, hx0, hc, hcd => by
    refine Ev.step (fun k => spec_paRow.l0.eq_2 ..) (ev_pos (by omega) (ev_pos (by omega) (ev_pos (by omega) ?_)))
    rw [Int.toNat_natCast]
    refine Ev.bind (spec_l1Has.ev (l.take i) x (by rw [List.length_take]; omega)) ?_
    by_cases h : x ∈ l.take i
    · rw [decide_eq_true h]
      refine ev_pos rfl ?_
      rw [wrap_id (c + 1) (by omega) (by omega), wrap_id (x - 1) (by omega) (by omega), run_go _ x (by omega) h]
      refine ev_val (spec_paRow.evl l hl i hi d (x - 1) (c + 1) (by omega) (by omega) (by omega) (by omega) (by omega)) ?_
      omega
    · rw [decide_eq_false h]
      refine ev_neg (by decide) (ev_val (Ev.now _) ?_)
      rw [run_stop _ x (.inr h)]
      omega
theorem spec_paRow.ev (l : List Int) (hl : l.length ≤ 1048576) (hx : ∀ x ∈ l, 0 ≤ x ∧ x ≤ 1048576) (i : Nat) (hi : i < l.length) : Ev (fun k => spec_paRow.f k l (i : Int)) ((rowsL [] l)[i]'(by rw [rowsL_len]; exact hi)) := by
  have h := hx l[i] (List.getElem_mem _)
  simp only [spec_paRow.f]
  refine ev_pos (by omega) (ev_pos (by omega) ?_)
  rw [rd_nat l i hi, wrap_id (l[i] - 1) (by omega) (by omega)]
  refine ev_val (spec_paRow.evl l hl i hi _ (l[i] - 1) 1 rfl (by omega) (by omega) (by omega) (by omega)) ?_
  rw [rowsL_at l [] i hi, List.nil_append]
  omega

theorem spec_CountWithOutcome.evl (l : List Int) (hl : l.length ≤ 1048576) (hx : ∀ x ∈ l, 0 ≤ x ∧ x ≤ 1048576) (d : Nat) : ∀ (i : Nat) (a : Int), i + d = l.length → Ev (fun k => spec_CountWithOutcome.l0 k l a (l.length : Int) (i : Int)) (prodW a ((rowsL [] l).drop i), true) := by
  have hr := rowsL_len l []
  induction d with
  | zero =>
    intro i a hi
    refine Ev.step (fun k => spec_CountWithOutcome.l0.eq_2 ..) (ev_neg (by omega) (ev_val (Ev.now _) ?_))
    rw [List.drop_of_length_le (by omega)]
    rfl
  | succ d ih =>
    intro i a hi
    refine Ev.step (fun k => spec_CountWithOutcome.l0.eq_2 ..) (ev_pos (by omega) (Ev.bind (spec_paRow.ev l hl hx i (by omega)) ?_))
    rw [wrap_nat i (by omega), List.drop_eq_getElem_cons (l := rowsL [] l) (by omega), prodW_cons]
    exact ih (i + 1) _ (by omega)
theorem spec_CountWithOutcome.ev (l : List Int) (hl : l.length ≤ 1048576) : Ev (fun k => spec_CountWithOutcome.f k l) (cwoR l) := by
  simp only [spec_CountWithOutcome.f]
  unfold cwoR
  refine Ev.bind (spec_paOutcome.ev l hl) ?_
  by_cases e : isOrd l = true
  · have h := (isOrd_iff l).mp e
    rw [e, if_pos rfl]
    refine ev_pos rfl ?_
    have := spec_CountWithOutcome.evl l hl (fun x hx => by have := h.2.1 x hx; omega) l.length 0 1 (by omega)
    simpa using this
  · rw [if_neg e]
    exact ev_neg e (Ev.now _)

theorem impl_sorted.is (l : List Int) (hl : l.length ≤ 1048576) : impl_sorted.f l = some (Srt.srt l) := by
  unfold impl_sorted.f
  rw [if_pos hl]

theorem impl_isOrder.evl (l s : List Int) (hl : s.length ≤ 1048576) (d : Nat) : ∀ (i : Nat), i + d = s.length → Ev (fun k => impl_isOrder.l0 k l s (s.length : Int) (i : Int)) (idB i (s.drop i) && decide (l.length ≤ 8)) := by
  induction d with
  | zero =>
    intro i hi
    refine Ev.step (fun k => impl_isOrder.l0.eq_2 ..) (ev_neg (by omega) (ev_val (Ev.now _) ?_))
    rw [List.drop_of_length_le (by omega)]
    simp only [idB, Bool.true_and]
    rw [decide_eq_decide]
    omega
  | succ d ih =>
    intro i hi
    refine Ev.step (fun k => impl_isOrder.l0.eq_2 ..) (ev_pos (by omega) (ev_pos (by omega) (ev_pos (by omega) ?_)))
    rw [rd_nat s i (by omega), List.drop_eq_getElem_cons (by omega)]
    by_cases c : s[i]'(by omega) = (i : Int)
    · refine ev_pos c ?_
      rw [wrap_nat i (by omega)]
      refine ev_val (ih (i + 1) (by omega)) ?_
      simp only [idB]
      rw [decide_eq_true c, Bool.true_and]
    · refine ev_neg c (ev_val (Ev.now _) ?_)
      simp only [idB]
      rw [decide_eq_false c]
      rfl
theorem impl_isOrder.ev (l : List Int) (hl : l.length ≤ 1048576) : Ev (fun k => impl_isOrder.f k l) (isOrd l) := by
  simp only [impl_isOrder.f]
  refine Ev.bind (ev_eq (impl_sorted.is l hl)) ?_
  refine ev_val (impl_isOrder.evl l (Srt.srt l) (by rw [Srt.srt_len]; exact hl) (Srt.srt l).length 0 (by omega)) ?_
  rw [List.drop_zero]
  exact isOrd_srt l

theorem impl_rows.ev1 (l : List Int) (p : Int) (t : List Bool) (out m : List Int) (x : Int) (i : Nat) (r : List Int) (ht : Tk p m t) (h0 : 0 ≤ x) (hx : x < p) (hp : p ≤ 1048576) (ho : out.length ≤ 1048576) (hc : Ev (fun k => impl_rows.l0 k t (out ++ [((run m x : Nat) : Int)]) l (l.length : Int) (wrap64 ((i : Int) + 1))) r) : ∀ (d n : Nat), (x + 1).toNat = n + d → run m (x - (n : Int)) + n = run m x → Ev (fun k => impl_rows.l1 k t out x (n : Int) l (l.length : Int) (i : Int)) r
  | 0, n, hd, hn => by
    refine Ev.step (fun k => impl_rows.l1.eq_2 ..) (ev_neg (by omega) (ev_pos (by omega) ?_))
    rw [run_stop m (x - (n : Int)) (.inl (by omega))] at hn
    rw [show (n : Int) = ((run m x : Nat) : Int) by omega]
    exact hc
  | d + 1, n, hd, hn => by
    have hlen := ht.1
    refine Ev.step (fun k => impl_rows.l1.eq_2 ..) (ev_pos (by omega) ?_)
    rw [wrap_id (x - (n : Int)) (by omega) (by omega)]
    refine ev_pos (by omega) (ev_pos (by omega) ?_)
    by_cases hm : x - (n : Int) ∈ m
    · refine ev_pos ((ht.2 _ (by omega) (by omega)).mpr hm) ?_
      rw [wrap_nat n (by omega)]
      rw [run_go m _ (by omega) hm] at hn
      refine impl_rows.ev1 l p t out m x i r ht h0 hx hp ho hc d (n + 1) (by omega) ?_
      rw [show x - ((n + 1 : Nat) : Int) = x - (n : Int) - 1 by omega]
      omega
    · refine ev_neg (fun h => hm ((ht.2 _ (by omega) (by omega)).mp h)) (ev_pos (by omega) ?_)
      rw [run_stop m _ (.inr hm)] at hn
      rw [show (n : Int) = ((run m x : Nat) : Int) by omega]
      exact hc
theorem impl_rows.evl (l : List Int) (p : Int) (hp : p ≤ 1048576) (hl : l.length ≤ 1048576) (hx : ∀ x ∈ l, 0 ≤ x ∧ x < p) (d : Nat) : ∀ (i : Nat) (t : List Bool) (out : List Int), i + d = l.length → out.length = i → Tk p (l.take i) t → Ev (fun k => impl_rows.l0 k t out l (l.length : Int) (i : Int)) (out ++ rowsL (l.take i) (l.drop i)) := by
  induction d with
  | zero =>
    intro i t out hi ho ht
    refine Ev.step (fun k => impl_rows.l0.eq_2 ..) (ev_neg (by omega) (ev_val (Ev.now _) ?_))
    rw [List.drop_of_length_le (by omega)]
    simp [rowsL]
  | succ d ih =>
    intro i t out hi ho ht
    have hxi := hx (l[i]'(by omega)) (List.getElem_mem _)
    have hlen := ht.1
    have et : l.take (i + 1) = l.take i ++ [l[i]'(by omega)] := List.take_succ_eq_append_getElem (by omega)
    have ht2 : Tk p (l.take (i + 1)) (t.set (l[i]'(by omega)).toNat true) := by
      rw [et]
      exact Tk_set p _ t ht _ hxi.1 hxi.2
    have hr : run (l.take (i + 1)) (l[i]'(by omega)) = run (l.take i) ((l[i]'(by omega)) - 1) + 1 := by
      rw [run_go _ _ hxi.1 (by rw [et]; exact List.mem_append.mpr (.inr (List.mem_singleton.mpr rfl))), et, run_more _ _ _ (by omega)]
    refine Ev.step (fun k => impl_rows.l0.eq_2 ..) (ev_pos (by omega) (ev_pos (by omega) (ev_pos (by omega) ?_)))
    rw [rd_nat l i (by omega)]
    refine ev_pos hxi.1 (ev_pos (by omega) ?_)
    refine impl_rows.ev1 l p _ out (l.take (i + 1)) (l[i]'(by omega)) i _ ht2 hxi.1 hxi.2 hp (by omega) ?_ _ 0 (by rw [Nat.zero_add]) (by simp)
    rw [wrap_nat i (by omega), hr]
    refine ev_val (ih (i + 1) _ _ (by omega) (by simp; omega) ht2) ?_
    rw [List.drop_eq_getElem_cons (l := l) (i := i) (by omega), et]
    simp only [rowsL, List.append_assoc, List.singleton_append]
theorem impl_rows.ev (l : List Int) (hl : l.length ≤ 1048576) (hx : ∀ x ∈ l, 0 ≤ x ∧ x ≤ (l.length : Int) - 1) : Ev (fun k => impl_rows.f k l) (rowsL [] l) := by
  simp only [impl_rows.f]
  refine ev_pos (by omega) (ev_pos (by omega) ?_)
  have := impl_rows.evl l (l.length : Int) (by omega) hl (fun x h => by have := hx x h; omega) l.length 0 (List.replicate ((l.length : Int)).toNat false) [] (by omega) rfl ⟨by simp, fun j j0 j1 => by
    unfold rdOf
    rw [List.getD_eq_getElem?_getD, List.getElem?_replicate]
    split <;> simp⟩
  simpa using this

theorem impl_CountWithOutcome.evl (s : List Int) (hl : s.length ≤ 1048576) (d : Nat) : ∀ (i : Nat) (a : Int), i + d = s.length → Ev (fun k => impl_CountWithOutcome.l0 k a s (s.length : Int) (i : Int)) (prodW a (s.drop i), true) := by
  induction d with
  | zero =>
    intro i a hi
    refine Ev.step (fun k => impl_CountWithOutcome.l0.eq_2 ..) (ev_neg (by omega) (ev_val (Ev.now _) ?_))
    rw [List.drop_of_length_le (by omega)]
    rfl
  | succ d ih =>
    intro i a hi
    refine Ev.step (fun k => impl_CountWithOutcome.l0.eq_2 ..) (ev_pos (by omega) (ev_pos (by omega) (ev_pos (by omega) ?_)))
    rw [wrap_nat i (by omega), rd_nat s i (by omega), List.drop_eq_getElem_cons (l := s) (by omega), prodW_cons]
    exact ih (i + 1) _ (by omega)
theorem impl_CountWithOutcome.ev (l : List Int) (hl : l.length ≤ 1048576) : Ev (fun k => impl_CountWithOutcome.f k l) (cwoR l) := by
  simp only [impl_CountWithOutcome.f]
  unfold cwoR
  refine Ev.bind (impl_isOrder.ev l hl) ?_
  by_cases e : isOrd l = true
  · have h := (isOrd_iff l).mp e
    rw [e, if_pos rfl]
    refine ev_pos rfl (Ev.bind (impl_rows.ev l hl h.2.1) ?_)
    have := impl_CountWithOutcome.evl (rowsL [] l) (by rw [rowsL_len]; exact hl) (rowsL [] l).length 0 1 (by omega)
    simpa using this
  · rw [if_neg e]
    exact ev_neg e (Ev.now _)

theorem spec_l1Own.is (l : List Int) (hl : l.length ≤ 1048576) : spec_l1Own.f l = some l := by
  simp only [spec_l1Own.f, Option.bind_some, List.length_nil, Nat.zero_add, List.nil_append]
  rw [if_pos (by omega)]

theorem ev_ite {α : Type} {c : Prop} [Decidable c] {g f : Nat → Option α} {r : α} (h : c → Ev g r) (k : ¬ c → Ev f r) : Ev (fun n => if c then g n else f n) r := by
  by_cases e : c
  · exact ev_pos e (h e)
  · exact ev_neg e (k e)
theorem u8_of_wf (x : Int) (h : (Lit.int .u8 x).wf = true) : 0 ≤ x ∧ x ≤ 255 := by
  simp only [Lit.wf, Bool.and_eq_true, decide_eq_true_eq] at h
  have h1 : IntKind.min .u8 = 0 := by decide
  have h2 : IntKind.max .u8 = 255 := by decide
  rw [h1, h2] at h
  exact h

/-- what AllWithOutcome hands back -/
def awoR (l : List Int) : List (List Int) × Bool := if isOrd l = true then (if 500 < prodW 1 (rowsL [] l) then ([], false) else (boxes (lowL [] l) l, true)) else ([], false)
theorem ord_prod (l : List Int) (h : isOrd l = true) : prodW 1 (rowsL [] l) = ((boxN (lowL [] l) l : Nat) : Int) ∧ 1 ≤ boxN (lowL [] l) l ∧ boxN (lowL [] l) l ≤ 16777216 := by
  obtain ⟨h8, hx, hn⟩ := (isOrd_iff l).mp h
  have hb : ∀ x ∈ l, 0 ≤ x ∧ x < ((8 : Nat) : Int) := fun x hx1 => by have := hx x hx1; omega
  obtain ⟨h1, h2⟩ := boxN_out l [] 8 hb
  have h3 : 8 ^ l.length ≤ 8 ^ 8 := Nat.pow_le_pow_right (by decide) h8
  have h4 : (8 : Nat) ^ 8 = 16777216 := by decide
  have h5 := prodW_box l [] 1 8 hb (by omega)
  rw [Nat.one_mul] at h5
  exact ⟨h5, h1, by omega⟩
theorem awoR_len (l : List Int) : (awoR l).1.length ≤ 500 ∧ ∀ x ∈ (awoR l).1, x.length ≤ 8 := by
  unfold awoR
  split
  · rename_i h
    have hp := ord_prod l h
    split
    · exact ⟨by simp, fun x hx => by cases hx⟩
    · rename_i h5
      dsimp only
      refine ⟨?_, fun x hx => ?_⟩
      · rw [boxes_length]
        omega
      · rw [boxes_lens _ _ (lowL_len l []) x hx]
        exact ((isOrd_iff l).mp h).1
  · exact ⟨by simp, fun x hx => by cases hx⟩

theorem spec_paWith.evl (l p : List Int) (hp : p.length < l.length) (hl : l.length ≤ 8) (hx : ∀ x ∈ l, 0 ≤ x ∧ x < 1000) (hpl : p.length ≤ 1048575) (T : List (List Int)) (hrec : ∀ x : Int, Ev (fun k => spec_paWith.f k l (p ++ [x])) (T.map ((p ++ [x]) ++ ·))) : ∀ (m : Nat) (x : Int) (acc : List (List Int)), (l[p.length] + 1 - x).toNat = m → 0 ≤ x → x ≤ 2000 → acc.length + m * T.length ≤ 4194304000 → Ev (fun k => spec_paWith.l0 k l p (p.length : Int) acc x) (acc ++ (spanI x m).flatMap fun y => (T.map (y :: ·)).map (p ++ ·))
  | 0, x, acc, hm, h0, h1, hb => by
    refine Ev.step (fun k => spec_paWith.l0.eq_2 ..) (ev_pos (by omega) (ev_pos (by omega) ?_))
    rw [rd_nat l p.length hp]
    refine ev_neg (by omega) (ev_val (Ev.now _) ?_)
    simp [spanI]
  | m + 1, x, acc, hm, h0, h1, hb => by
    have hq := hx l[p.length] (List.getElem_mem hp)
    rw [Nat.succ_mul] at hb
    refine Ev.step (fun k => spec_paWith.l0.eq_2 ..) (ev_pos (by omega) (ev_pos (by omega) ?_))
    rw [rd_nat l p.length hp]
    refine ev_pos (by omega) (Ev.bind (ev_eq (spec_l1Own.is p (by omega))) (ev_pos (by omega) (Ev.bind (hrec x) (ev_pos (by rw [List.length_map]; omega) ?_))))
    rw [wrap_id (x + 1) (by omega) (by omega)]
    refine ev_val (spec_paWith.evl l p hp hl hx hpl T hrec m (x + 1) (acc ++ T.map ((p ++ [x]) ++ ·)) (by omega) (by omega) (by omega) (by rw [List.length_append, List.length_map]; omega)) ?_
    rw [spanI, List.flatMap_cons, List.append_assoc]
    congr 2
    rw [List.map_map]
    refine List.map_congr_left (fun z _ => ?_)
    simp
theorem spec_paWith.ev (l : List Int) (h : isOrd l = true) : ∀ (d : Nat) (p : List Int), p.length + d = l.length → Ev (fun k => spec_paWith.f k l p) ((boxes (lowL (l.take p.length) (l.drop p.length)) (l.drop p.length)).map (p ++ ·))
  | 0, p, hd => by
    have h8 := ((isOrd_iff l).mp h).1
    refine Ev.step (fun k => spec_paWith.f.eq_2 ..) (ev_pos (by omega) (Ev.bind (ev_eq (spec_l1Own.is p (by omega))) (ev_val (Ev.now _) ?_)))
    rw [List.drop_of_length_le (by omega)]
    simp [lowL, boxes]
  | d + 1, p, hd => by
    obtain ⟨h8, hx, hn⟩ := (isOrd_iff l).mp h
    have hp : p.length < l.length := by omega
    have hq := hx l[p.length] (List.getElem_mem hp)
    have hrl := run_le (l.take p.length) (l[p.length] - 1)
    refine Ev.step (fun k => spec_paWith.f.eq_2 ..) (ev_neg (by omega) (ev_pos (by omega) (ev_pos (by omega) (Ev.bind (spec_paRow.ev l (by omega) (fun x hx1 => by have := hx x hx1; omega) p.length hp) ?_))))
    rw [rd_nat l p.length hp, rowsL_at l [] p.length hp, List.nil_append]
    rw [wrap_id (l[p.length] - ((run (l.take p.length) (l[p.length] - 1) + 1 : Nat) : Int)) (by omega) (by omega)]
    rw [show l[p.length] - ((run (l.take p.length) (l[p.length] - 1) + 1 : Nat) : Int) + 1 = l[p.length] - ((run (l.take p.length) (l[p.length] - 1) : Nat) : Int) by omega]
    rw [wrap_id (l[p.length] - ((run (l.take p.length) (l[p.length] - 1) : Nat) : Int)) (by omega) (by omega)]
    have et : l.take (p.length + 1) = l.take p.length ++ [l[p.length]] := List.take_succ_eq_append_getElem hp
    have hb := boxN_out (l.drop (p.length + 1)) (l.take (p.length + 1)) 8 (fun x hx1 => by have := hx x (List.mem_of_mem_drop hx1); omega)
    have hb2 : 8 ^ (l.drop (p.length + 1)).length ≤ 8 ^ 8 := Nat.pow_le_pow_right (by decide) (by rw [List.length_drop]; omega)
    have hb3 : (8 : Nat) ^ 8 = 16777216 := by decide
    have hT := boxes_length (lowL (l.take (p.length + 1)) (l.drop (p.length + 1))) (l.drop (p.length + 1))
    have hrec : ∀ x : Int, Ev (fun k => spec_paWith.f k l (p ++ [x])) ((boxes (lowL (l.take (p.length + 1)) (l.drop (p.length + 1))) (l.drop (p.length + 1))).map ((p ++ [x]) ++ ·)) := fun x => by
      have := spec_paWith.ev l h d (p ++ [x]) (by simp; omega)
      rw [List.length_append, List.length_singleton] at this
      exact this
    have hm : (l[p.length] + 1 - (l[p.length] - ((run (l.take p.length) (l[p.length] - 1) : Nat) : Int))).toNat ≤ 8 := by omega
    refine ev_val (spec_paWith.evl l p hp h8 (fun x hx1 => by have := hx x hx1; omega) (by omega) _ hrec _ _ [] rfl (by omega) (by omega) ?_) ?_
    · have h9 : (boxes (lowL (l.take (p.length + 1)) (l.drop (p.length + 1))) (l.drop (p.length + 1))).length ≤ 16777216 := by omega
      have := Nat.mul_le_mul hm h9
      simp only [List.length_nil]
      omega
    · rw [List.nil_append, List.drop_eq_getElem_cons hp]
      simp only [lowL, boxes]
      rw [List.map_flatMap, ← et]

theorem spec_AllWithOutcome.ev (l : List Int) (hl : l.length ≤ 1048576) : Ev (fun k => spec_AllWithOutcome.f k l) (awoR l) := by
  simp only [spec_AllWithOutcome.f]
  refine Ev.bind (spec_CountWithOutcome.ev l hl) ?_
  unfold cwoR awoR
  by_cases e : isOrd l = true
  · rw [if_pos e, if_pos e]
    refine ev_pos rfl ?_
    by_cases h5 : 500 < prodW 1 (rowsL [] l)
    · refine ev_pos h5 (ev_val (Ev.now _) ?_)
      rw [if_pos h5]
    · have h := spec_paWith.ev l e l.length [] (by simp)
      simp only [List.length_nil, List.take_zero, List.drop_zero, List.nil_append, List.map_id'] at h
      refine ev_neg h5 (Ev.bind h (ev_val (Ev.now _) ?_))
      rw [if_neg h5]
  · rw [if_neg e, if_neg e]
    exact ev_neg (by simp) (Ev.now _)

theorem slices_Clone_int_int.is (l : List Int) (hl : l.length ≤ 1048576) : slices_Clone_int_int.f l = some l := by
  simp only [slices_Clone_int_int.f]
  rw [if_pos (by omega)]

theorem lowOf_rows : ∀ (r m : List Int), lowOf r (rowsL m r) = lowL m r
  | [], _ => rfl
  | x :: r, m => by
    have ih := lowOf_rows r (m ++ [x])
    unfold lowOf at ih ⊢
    simp only [rowsL, lowL, List.zipWith_cons_cons]
    rw [ih, show x - (((run m (x - 1) + 1 : Nat) : Int) - 1) = x - ((run m (x - 1) : Nat) : Int) by omega]
theorem rowsL_bd (b : Nat) : ∀ (r m : List Int), (∀ x ∈ r, 0 ≤ x ∧ x < (b : Int)) → ∀ n ∈ rowsL m r, 1 ≤ n ∧ n ≤ (b : Int)
  | [], _, _, n, h => by simp [rowsL] at h
  | x :: r, m, hx, n, h => by
    simp only [rowsL, List.mem_cons] at h
    have h1 := hx x List.mem_cons_self
    rcases h with h | h
    · have := run_le m (x - 1)
      omega
    · exact rowsL_bd b r _ (fun y hy => hx y (List.mem_cons_of_mem _ hy)) n h
theorem impl_AllWithOutcome.ev (l : List Int) (hl : l.length ≤ 1048576) : Ev (fun k => impl_AllWithOutcome.f k l) (awoR l) := by
  simp only [impl_AllWithOutcome.f]
  refine Ev.bind (impl_CountWithOutcome.ev l hl) ?_
  unfold cwoR awoR
  by_cases e : isOrd l = true
  · have h := (isOrd_iff l).mp e
    have hp := ord_prod l e
    rw [if_pos e, if_pos e]
    refine ev_pos rfl ?_
    by_cases h5 : 500 < prodW 1 (rowsL [] l)
    · refine ev_pos h5 (ev_val (Ev.now _) ?_)
      rw [if_pos h5]
    · refine ev_neg h5 (Ev.bind (impl_rows.ev l hl h.2.1) ?_)
      have hA : awoB l (rowsL [] l) = true := by
        have hr := rowsL_bd 8 l [] (fun x hx => by have := h.2.1 x hx; omega)
        have hlow := lowL_nonneg l [] (fun x hx => (h.2.1 x hx).1)
        simp only [awoB, Bool.and_eq_true, decide_eq_true_eq, List.all_eq_true]
        refine ⟨⟨⟨⟨⟨h.1, rowsL_len l []⟩, fun x hx => by have := h.2.1 x hx; omega⟩, fun n hn => by have := hr n hn; omega⟩, fun x hx => ?_⟩, ?_⟩
        · rw [lowOf_rows] at hx
          exact hlow x hx
        · rw [lowOf_rows, boxes_length]
          omega
      refine ev_pos hA (ev_val (Ev.now _) ?_)
      rw [if_neg h5, lowOf_rows]
  · rw [if_neg e, if_neg e]
    exact ev_neg (by simp) (Ev.now _)

theorem and255 (x : Int) : 0 ≤ Go.bits .and .u64 x 255 ∧ Go.bits .and .u64 x 255 ≤ 255 := by
  have h : (BitVec.ofInt 64 x &&& BitVec.ofInt 64 255).toNat ≤ 255 := by
    rw [BitVec.toNat_and]
    exact Nat.and_le_right
  have e : Go.bits .and .u64 x 255 = IntKind.u64.wrap (((BitVec.ofInt 64 x &&& BitVec.ofInt 64 255).toNat : Nat) : Int) := rfl
  rw [e]
  generalize (BitVec.ofInt 64 x &&& BitVec.ofInt 64 255).toNat = m at h
  have w : IntKind.u64.wrap (m : Int) = (m : Int) := by
    simp only [IntKind.wrap, IntKind.bits, IntKind.signed, Bool.false_and, Bool.false_eq_true, if_false]
    omega
  rw [w]
  omega
/-- all are bytes, and not too many -/
def bytesOk (l : List Int) : Prop := (∀ x ∈ l, 0 ≤ x ∧ x ≤ 255) ∧ l.length ≤ 1048576

theorem spec_l1Cur_next.ok (l : List Int) (hb : bytesOk l) (p h : Int) (h0 : 0 ≤ p) (h1 : p ≤ 1099511627776) : ∃ b q g, spec_l1Cur_next.f l p h = some (b, q, g) ∧ 0 ≤ b ∧ b ≤ 255 ∧ p ≤ q ∧ q ≤ p + 1 := by
  have hl := hb.2
  unfold spec_l1Cur_next.f
  rw [wrap_id (p + 1) (by omega) (by omega)]
  by_cases c : p < (l.length : Int)
  · have hx := hb.1 (l[p.toNat]'(by omega)) (List.getElem_mem _)
    rw [if_pos c, if_pos h0, if_pos (by omega), rd_int l p h0 c, wrap_id _ (by omega) (by omega)]
    exact ⟨_, _, _, rfl, hx.1, hx.2, by omega, by omega⟩
  · rw [if_neg c, if_neg (by omega)]
    refine ⟨_, _, _, rfl, ?_, ?_, by omega, by omega⟩
    · have := and255 ((IntKind.u64.wrap ((IntKind.u64.wrap ((IntKind.u64.wrap (h * 6364136223846793005)) + 0)) + 1442695040888963407)) / 1099511627776)
      rw [wrap_id _ (by omega) (by omega)]
      exact this.1
    · have := and255 ((IntKind.u64.wrap ((IntKind.u64.wrap ((IntKind.u64.wrap (h * 6364136223846793005)) + 0)) + 1442695040888963407)) / 1099511627776)
      rw [wrap_id _ (by omega) (by omega)]
      exact this.2

theorem spec_l1Cur_pick.ok (l : List Int) (hb : bytesOk l) (p h n : Int) (h0 : 0 ≤ p) (h1 : p ≤ 1099511627000) (hn : n ≤ 1048576) : ∃ b q g, spec_l1Cur_pick.f l p h n = some (b, q, g) ∧ 0 ≤ b ∧ (b < n ∨ (n ≤ 1 ∧ b = 0)) ∧ p ≤ q ∧ q ≤ p + 2 := by
  unfold spec_l1Cur_pick.f
  by_cases c : n ≤ 1
  · rw [if_pos c]
    exact ⟨_, _, _, rfl, by omega, .inr ⟨c, rfl⟩, by omega, by omega⟩
  · rw [if_neg c]
    obtain ⟨b, q, g, e, b0, b1, q0, q1⟩ := spec_l1Cur_next.ok l hb p h h0 (by omega)
    rw [e, Option.bind_some]
    by_cases c2 : n > 200
    · rw [if_pos c2]
      obtain ⟨b2, q2, g2, e2, b20, b21, q20, q21⟩ := spec_l1Cur_next.ok l hb q g (by omega) (by omega)
      dsimp only
      rw [e2, Option.bind_some, if_neg (by omega)]
      rw [wrap_id (b * 256) (by omega) (by omega), wrap_id _ (by omega) (by omega)]
      exact ⟨_, _, _, rfl, Int.tmod_nonneg _ (by omega), .inl (Int.tmod_lt_of_pos _ (by omega)), by dsimp only; omega, by dsimp only; omega⟩
    · rw [if_neg c2, if_neg (by omega)]
      exact ⟨_, _, _, rfl, Int.tmod_nonneg _ b0, .inl (Int.tmod_lt_of_pos _ (by omega)), by dsimp only; omega, by dsimp only; omega⟩

theorem spec_l1Cur_one.ok (l : List Int) (hb : bytesOk l) (p h n : Int) (h0 : 0 ≤ p) (h1 : p ≤ 1099511627000) (hn : n ≤ 1048576) : ∃ b q g, spec_l1Cur_one.f l p h n = some (b, q, g) ∧ p ≤ q ∧ q ≤ p + 2 := by
  unfold spec_l1Cur_one.f
  obtain ⟨b, q, g, e, b0, b1, q0, q1⟩ := spec_l1Cur_pick.ok l hb p h n h0 h1 hn
  rw [e, Option.bind_some]
  exact ⟨_, _, _, rfl, q0, q1⟩

theorem spec_l1Cur_among.ok (l : List Int) (hb : bytesOk l) (p h : Int) (m : List Int) (h0 : 0 ≤ p) (h1 : p ≤ 1099511627000) (hm : 0 < m.length) (hm2 : m.length ≤ 1000) : ∃ b q g, spec_l1Cur_among.f l p h m = some (b, q, g) ∧ b ∈ m ∧ p ≤ q ∧ q ≤ p + 2 := by
  unfold spec_l1Cur_among.f
  obtain ⟨b, q, g, e, b0, b1, q0, q1⟩ := spec_l1Cur_pick.ok l hb p h (m.length : Int) h0 h1 (by omega)
  rw [e, Option.bind_some, if_pos b0, if_pos (by omega)]
  refine ⟨_, _, _, rfl, ?_, q0, q1⟩
  rw [rd_int m b b0 (by omega)]
  exact List.getElem_mem _

theorem spec_l1Cur_outcome.ok1 (l : List Int) (hb : bytesOk l) (n : Int) (x5 : List Int) (b : Bool) (p h : Int) (h0 : 0 ≤ p) (h1 : p ≤ 1099511620000) (hl : x5.length ≤ 20) (hp : b = true → 0 < x5.length) : ∃ r q g, Ev (fun k => spec_l1Cur_outcome.j1 k n x5 b l p h) (r, q, g) ∧ r.length ≤ 20 := by
  cases b with
  | false => exact ⟨x5, p, h, Ev.step (fun k => spec_l1Cur_outcome.j1.eq_2 ..) (ev_neg (by decide) (Ev.now _)), hl⟩
  | true =>
    have hx := hp rfl
    obtain ⟨i, q, g, e, i0, i1, q0, q1⟩ := spec_l1Cur_pick.ok l hb p h (x5.length : Int) h0 (by omega) (by omega)
    obtain ⟨v, q2, g2, e2, hm, q20, q21⟩ := spec_l1Cur_among.ok l hb q g [-1, 0, n] (by omega) (by omega) (by simp) (by simp)
    exact ⟨x5.set i.toNat v, q2, g2, Ev.step (fun k => spec_l1Cur_outcome.j1.eq_2 ..) (ev_pos rfl (Ev.bind (ev_eq e) (Ev.bind (ev_eq e2) (ev_pos i0 (ev_pos (by dsimp only; omega) (Ev.now _)))))), by rw [List.length_set]; exact hl⟩
theorem spec_l1Cur_outcome.ok0 (l : List Int) (hb : bytesOk l) (n : Nat) (hn : n ≤ 20) : ∀ (d : Nat) (x5 : List Int) (p h : Int), x5.length + d = n → 0 ≤ p → p + 4 * (d : Int) ≤ 1099511610000 → ∃ r q g, Ev (fun k => spec_l1Cur_outcome.l0 k (n : Int) x5 (x5.length : Int) l p h) (r, q, g) ∧ r.length ≤ 20
  | 0, x5, p, h, hd, h0, h1 => by
    by_cases c : (x5.length : Int) > 0
    · obtain ⟨b, q, g, e, q0, q1⟩ := spec_l1Cur_one.ok l hb p h 20 h0 (by omega) (by omega)
      obtain ⟨r, q2, g2, E, hr⟩ := spec_l1Cur_outcome.ok1 l hb n x5 b q g (by omega) (by omega) (by omega) (fun _ => by omega)
      exact ⟨r, q2, g2, Ev.step (fun k => spec_l1Cur_outcome.l0.eq_2 ..) (ev_neg (by omega) (ev_pos c (Ev.bind (ev_eq e) E))), hr⟩
    · obtain ⟨r, q2, g2, E, hr⟩ := spec_l1Cur_outcome.ok1 l hb n x5 false p h (by omega) (by omega) (by omega) (fun h => by cases h)
      exact ⟨r, q2, g2, Ev.step (fun k => spec_l1Cur_outcome.l0.eq_2 ..) (ev_neg (by omega) (ev_neg c E)), hr⟩
  | d + 1, x5, p, h, hd, h0, h1 => by
    obtain ⟨i, q, g, e, i0, i1, q0, q1⟩ := spec_l1Cur_pick.ok l hb p h ((x5.length : Int) + 1) h0 (by omega) (by omega)
    obtain ⟨r, q2, g2, E, hr⟩ := spec_l1Cur_outcome.ok0 l hb n hn d ((x5.take i.toNat ++ [(x5.length : Int)]) ++ x5.drop i.toNat) q g (by simp; omega) (by omega) (by omega)
    refine ⟨r, q2, g2, Ev.step (fun k => spec_l1Cur_outcome.l0.eq_2 ..) (ev_pos (by omega) ?_), hr⟩
    rw [show wrap64 ((x5.length : Int) + 1) = (x5.length : Int) + 1 from wrap_id _ (by omega) (by omega)]
    refine Ev.bind (ev_eq e) (ev_pos i0 (ev_pos (by dsimp only; omega) (Ev.bind (ev_eq (spec_l1Own.is _ (by simp; omega))) (ev_pos (by simp; omega) (Ev.bind (ev_eq rfl) (Ev.bind (ev_eq rfl) (ev_pos (by simp; omega) ?_)))))))
    have hlen : ((x5.take i.toNat ++ [(x5.length : Int)]) ++ x5.drop i.toNat).length = x5.length + 1 := by simp; omega
    rw [hlen] at E
    exact E
theorem spec_l1Cur_outcome.ok (l : List Int) (hb : bytesOk l) (p h a : Int) (h0 : 0 ≤ p) (h1 : p ≤ 1000) (a0 : 0 ≤ a) (a1 : a ≤ 20) : ∃ r q g, Ev (fun k => spec_l1Cur_outcome.f k l p h a) (r, q, g) ∧ r.length ≤ 20 := by
  obtain ⟨n, rfl⟩ : ∃ n : Nat, a = (n : Int) := ⟨a.toNat, by omega⟩
  obtain ⟨r, q, g, E, hr⟩ := spec_l1Cur_outcome.ok0 l hb n (by omega) n [] p h (by simp) h0 (by omega)
  refine ⟨r, q, g, ?_, hr⟩
  simp only [spec_l1Cur_outcome.f]
  exact E

theorem spec_DrawAllWithOutcome.ok (l : List Int) (hb : bytesOk l) : ∃ r, Ev (fun k => spec_DrawAllWithOutcome.f k l) r ∧ r.length ≤ 20 := by
  simp only [spec_DrawAllWithOutcome.f]
  obtain ⟨b, q, g, e, b0, b1, q0, q1⟩ := spec_l1Cur_pick.ok l hb 0 0 7 (by omega) (by omega) (by omega)
  obtain ⟨r, q2, g2, E, r1⟩ := spec_l1Cur_outcome.ok l hb q g b (by omega) (by omega) b0 (by omega)
  exact ⟨r, Ev.bind (ev_eq e) (Ev.bind E (Ev.now _)), r1⟩

theorem spec_DrawCountWithOutcome.ok (l : List Int) (hb : bytesOk l) : ∃ r, Ev (fun k => spec_DrawCountWithOutcome.f k l) r ∧ r.length ≤ 20 := by
  simp only [spec_DrawCountWithOutcome.f]
  obtain ⟨b, q, g, e, b0, b1, q0, q1⟩ := spec_l1Cur_pick.ok l hb 0 0 10 (by omega) (by omega) (by omega)
  obtain ⟨r, q2, g2, E, r1⟩ := spec_l1Cur_outcome.ok l hb q g b (by omega) (by omega) b0 (by omega)
  exact ⟨r, Ev.bind (ev_eq e) (Ev.bind E (Ev.now _)), r1⟩

end Go.Proofs.Ytdiohjdfiambhaa.QFnOutcomesCounted
