/- Proved here: what the Lean functions printed for the Go functions of law FnParkingDecided compute, in words of lists and whole numbers, for lists shorter than 2^62. -/
import Derived.Test.YtdiohjdfiambhaaQFnParkingDecidedx
import Derived.Test.YtdiohjdfiambhaaMDrive
import Derived.Test.YtdiohjdfiambhaaMCrit
import Derived.Test.YtdiohjdfiambhaaMCircle
import Derived.Test.YtdiohjdfiambhaaMRing
import Derived.Test.YtdiohjdfiambhaaMLesser
import Derived.Test.YtdiohjdfiambhaaMSort
namespace Go.Proofs.Ytdiohjdfiambhaa.QFnParkingDecided
open Go.RowKit Go.Proofs.YtdiohjdfiambhaaW.PrintWords Go.Proofs.YtdiohjdfiambhaaW.PrintLast Go.Proofs.Ytdiohjdfiambhaa.Math
set_option linter.unusedVariables false
set_option linter.unusedSimpArgs false

theorem ev_pos {α : Type} {c : Prop} [Decidable c] {g f : Nat → Option α} {r : α} (h : c) (k : Ev g r) : Ev (fun n => if c then g n else f n) r := by
  obtain ⟨K, hK⟩ := k
  exact ⟨K, fun n hn => by simp only [if_pos h]; exact hK n hn⟩
theorem ev_neg {α : Type} {c : Prop} [Decidable c] {g f : Nat → Option α} {r : α} (h : ¬ c) (k : Ev f r) : Ev (fun n => if c then g n else f n) r := by
  obtain ⟨K, hK⟩ := k
  exact ⟨K, fun n hn => by simp only [if_neg h]; exact hK n hn⟩
theorem ev_eq {α : Type} {g : Option α} {r : α} (h : g = some r) : Ev (fun _ => g) r := ⟨0, fun _ _ => h⟩
theorem ev_val {α : Type} {g : Nat → Option α} {r q : α} (h : Ev g r) (e : r = q) : Ev g q := e ▸ h
theorem wrap_nat (i : Nat) (h : i < 4611686018427387904) : wrap64 ((i : Int) + 1) = ((i + 1 : Nat) : Int) := by
  unfold wrap64
  omega
theorem wrap_id (x : Int) (h : -9223372036854775808 ≤ x) (h' : x ≤ 9223372036854775807) : wrap64 x = x := by
  unfold wrap64
  omega
theorem rd_nat (l : List Int) (i : Nat) (h : i < l.length) : rd l (i : Int) = l[i] := by
  simp [rd, List.getD_eq_getElem?_getD, h]
theorem rd_int (l : List Int) (x : Int) (h0 : 0 ≤ x) (h : x < l.length) : rd l x = l[x.toNat]'(by omega) := by
  have e : x = ((x.toNat : Nat) : Int) := by omega
  have h2 : x.toNat < l.length := by omega
  rw [show rd l x = rd l ((x.toNat : Nat) : Int) by rw [← e]]
  exact rd_nat l x.toNat h2
/-- m, m + 1, .., n numbers -/
def marks : Int → Nat → List Int
  | _, 0 => []
  | m, n + 1 => m :: marks (m + 1) n
theorem marks_len : ∀ (n : Nat) (m : Int), (marks m n).length = n
  | 0, _ => rfl
  | n + 1, m => by simp [marks, marks_len n]
theorem take_set_succ (y l : List Int) (i : Nat) (hi : i < l.length) (hy : y.length = l.length) (h : y.take i = l.take i) : (y.set i l[i]).take (i + 1) = l.take (i + 1) := by
  rw [List.take_succ_eq_append_getElem (by simp; omega), List.take_succ_eq_append_getElem hi, List.take_set_of_le (Nat.le_refl i), h, List.getElem_set_self]
/-- all numbers lie from lo to hi -/
def inAll (lo hi : Int) (l : List Int) : Bool := l.all fun x => decide (lo ≤ x) && decide (x ≤ hi)
theorem inAll_iff (lo hi : Int) (l : List Int) : inAll lo hi l = true ↔ ∀ x ∈ l, lo ≤ x ∧ x ≤ hi := by
  simp [inAll]

theorem laws_big.is (a b : List Int) : laws_big.f a b = some true ∨ (laws_big.f a b = some false ∧ a.length + b.length ≤ 1048576) := by
  unfold laws_big.f
  by_cases c : (a.length : Int) > 1048576
  · rw [if_pos c]
    exact .inl rfl
  · rw [if_neg c, wrap_id _ (by omega) (by omega)]
    by_cases d : (b.length : Int) > 1048576 - (a.length : Int)
    · rw [decide_eq_true d]
      exact .inl rfl
    · rw [decide_eq_false d]
      exact .inr ⟨rfl, by omega⟩

theorem impl_between.is (x lo hi : Int) : impl_between.f x lo hi = some (decide (lo ≤ x) && decide (x ≤ hi)) := by
  unfold impl_between.f
  by_cases h : x ≥ lo
  · rw [if_pos h, decide_eq_true (show lo ≤ x from h), Bool.true_and]
  · rw [if_neg h, decide_eq_false (show ¬ lo ≤ x from h), Bool.false_and]

theorem impl_areBetween.is (l : List Int) (lo hi : Int) (hl : l.length ≤ 35184372088832) : impl_areBetween.f l lo hi = some (inAll lo hi l) := by
  unfold impl_areBetween.f
  rw [if_pos hl]
  congr 1
  unfold inAll out_b
  induction l with
  | nil => rfl
  | cons x l ih =>
    rw [List.any_cons, List.all_cons, ← ih (by simp at hl; omega)]
    cases (decide (lo ≤ x) && decide (x ≤ hi)) <;> simp

theorem impl_areCars.is (l : List Int) (hl : l.length ≤ 35184372088832) : impl_areCars.f l = some (decide (l.length ≤ 8) && inAll 0 99 l) := by
  unfold impl_areCars.f
  by_cases h8 : l.length ≤ 8
  · rw [decide_eq_true h8, if_pos (by omega), impl_areBetween.is l 0 99 hl]
    rfl
  · rw [decide_eq_false h8, if_neg (by omega)]
    rfl

def drvR (o : Option (List Int)) : List Int × Bool := match o with
  | some r => (r, true)
  | none => ([], false)
theorem drvR_snd (l : List Int) (p : Int) : (drvR (drv p [] l)).2 = allPark l p := by
  unfold drvR allPark
  cases drv p [] l <;> rfl

/-- the table t tells which places are in out -/
def Tk (p : Int) (out : List Int) (t : List Bool) : Prop := t.length = p.toNat ∧ ∀ j : Int, 0 ≤ j → j < p → (rdOf false t j = true ↔ j ∈ out)
theorem Tk_set (p : Int) (out : List Int) (t : List Bool) (h : Tk p out t) (x : Int) (h0 : 0 ≤ x) (h1 : x < p) : Tk p (out ++ [x]) (t.set x.toNat true) := by
  refine ⟨by rw [List.length_set]; exact h.1, fun j j0 j1 => ?_⟩
  have hl := h.1
  have hj := h.2 j j0 j1
  unfold rdOf at hj ⊢
  rw [List.getD_eq_getElem?_getD] at hj ⊢
  rw [List.getElem?_set]
  by_cases e : x.toNat = j.toNat
  · have e' : j = x := by omega
    subst e'
    rw [if_pos rfl, if_pos (by omega)]
    simp
  · rw [if_neg e]
    rw [hj]
    have e' : ¬ j = x := by omega
    simp [e']

theorem impl_drive.evl (p : Int) (hp : p ≤ 1048576) (l : List Int) (hl : l.length ≤ 1048576) (hx : ∀ x ∈ l, 0 ≤ x ∧ x ≤ 1048576) (d : Nat) : ∀ (i : Nat) (out : List Int) (t : List Bool), i + d = l.length → out.length = i → Tk p out t → Ev (fun k => impl_drive.l0 k p t out l (l.length : Int) (i : Int)) (drvR (drv p out (l.drop i))) := by
  induction d with
  | zero =>
    intro i out t hi ho ht
    refine Ev.step (fun k => impl_drive.l0.eq_2 ..) ?_
    refine ev_neg (by omega) ?_
    refine ev_val (Ev.now _) ?_
    rw [List.drop_of_length_le (by omega)]
    rfl
  | succ d ih =>
    intro i out t hi ho ht
    refine Ev.step (fun k => impl_drive.l0.eq_2 ..) ?_
    refine ev_pos (by omega) (ev_pos (by omega) (ev_pos (by omega) ?_))
    rw [rd_nat l i (by omega), List.drop_eq_getElem_cons (by omega)]
    have hxi := hx l[i] (List.getElem_mem _)
    have inner : ∀ (m : Nat) (x : Int), (p - x).toNat = m → 0 ≤ x → x ≤ 1048576 → Ev (fun k => impl_drive.l1 k p t out x l (l.length : Int) (i : Int)) (drvR (drv p out (x :: l.drop (i + 1)))) := by
      intro m
      induction m with
      | zero =>
        intro x hm hx0 hx1
        refine Ev.step (fun k => impl_drive.l1.eq_2 ..) ?_
        refine ev_neg (by omega) (ev_pos (by omega) ?_)
        refine ev_val (Ev.now _) ?_
        simp only [drv]
        rw [land_stop out p x (by omega), if_neg (by omega)]
        rfl
      | succ m ihm =>
        intro x hm hx0 hx1
        have hlen := ht.1
        refine Ev.step (fun k => impl_drive.l1.eq_2 ..) ?_
        refine ev_pos (by omega) (ev_pos (by omega) (ev_pos (by omega) ?_))
        by_cases hh : x ∈ out
        · refine ev_pos ((ht.2 x hx0 (by omega)).mpr hh) ?_
          rw [wrap_id (x + 1) (by omega) (by omega)]
          refine ev_val (ihm (x + 1) (by omega) (by omega) (by omega)) ?_
          simp only [drv]
          rw [land_go out p x (by omega) hh]
        · refine ev_neg (fun h => hh ((ht.2 x hx0 (by omega)).mp h)) (ev_neg (by omega) (ev_pos (by omega) ?_))
          rw [wrap_nat i (by omega)]
          refine ev_val (ih (i + 1) _ _ (by omega) (by simp; omega) (Tk_set p out t ht x hx0 (by omega))) ?_
          simp only [drv]
          rw [land_stop out p x (fun h => hh h.2), if_pos (by omega)]
    exact inner _ l[i] rfl hxi.1 hxi.2
theorem impl_drive.ev (l : List Int) (p : Int) (hp0 : 0 ≤ p) (hp : p ≤ 1048576) (hl : l.length ≤ 1048576) (hx : ∀ x ∈ l, 0 ≤ x ∧ x ≤ 1048576) : Ev (fun k => impl_drive.f k l p) (drvR (drv p [] l)) := by
  simp only [impl_drive.f]
  refine ev_pos hp0 (ev_pos (by omega) ?_)
  refine impl_drive.evl p hp l hl hx l.length 0 [] _ (by omega) rfl ⟨by simp, fun j j0 j1 => ?_⟩
  unfold rdOf
  rw [List.getD_eq_getElem?_getD, List.getElem?_replicate]
  split <;> simp

theorem isPk_of_cars (l : List Int) (h8 : l.length ≤ 8) (h0 : ∀ x ∈ l, 0 ≤ x) : isPk l = allPark l l.length := by
  cases e : allPark l l.length with
  | false => simp [isPk, e]
  | true =>
    unfold allPark at e
    obtain ⟨r, hr⟩ := Option.isSome_iff_exists.mp e
    have h := drv_lt l.length l [] r hr
    have e' : allPark l l.length = true := by unfold allPark; exact e
    simp only [isPk, e', Bool.and_true, Bool.and_eq_true, decide_eq_true_eq, List.all_eq_true]
    exact ⟨h8, fun x hx => ⟨h0 x hx, by have := h x hx; omega⟩⟩
theorem isPk_no_cars (l : List Int) (h : ¬ (decide (l.length ≤ 8) && inAll 0 99 l) = true) : isPk l = false := by
  cases e : isPk l with
  | false => rfl
  | true =>
    exfalso
    apply h
    simp only [isPk, Bool.and_eq_true, decide_eq_true_eq, List.all_eq_true] at e
    rw [Bool.and_eq_true, decide_eq_true_eq, inAll_iff]
    exact ⟨e.1.1, fun x hx => by have := e.1.2 x hx; omega⟩

theorem impl_isParking.ev (l : List Int) (hl : l.length ≤ 1048576) : Ev (fun k => impl_isParking.f k l) (isPk l) := by
  simp only [impl_isParking.f]
  refine Ev.bind (ev_eq (impl_areCars.is l (by omega))) ?_
  cases e : (decide (l.length ≤ 8) && inAll 0 99 l) with
  | true =>
    rw [Bool.and_eq_true, decide_eq_true_eq, inAll_iff] at e
    refine ev_pos rfl (Ev.bind (impl_drive.ev l _ (by omega) (by omega) hl (fun x hx => by have := e.2 x hx; omega)) ?_)
    refine ev_val (Ev.now _) ?_
    rw [drvR_snd]
    exact (isPk_of_cars l e.1 (fun x hx => (e.2 x hx).1)).symm
  | false =>
    refine ev_neg (by decide) (ev_val (Ev.now _) ?_)
    exact (isPk_no_cars l (by rw [e]; decide)).symm

theorem impl_IsParking.ev (l : List Int) (hl : l.length ≤ 1048576) : Ev (fun k => impl_IsParking.f k l) (if (decide (l.length ≤ 8) && inAll 0 99 l) = true then (isPk l, true) else (false, false)) := by
  simp only [impl_IsParking.f]
  refine Ev.bind (ev_eq (impl_areCars.is l (by omega))) ?_
  cases (decide (l.length ≤ 8) && inAll 0 99 l) with
  | true => exact ev_pos rfl (Ev.bind (impl_isParking.ev l hl) (Ev.now _))
  | false => exact ev_neg (by decide) (Ev.now _)

/-- favourites for a street of p places -/
def fav (l : List Int) (p : Int) : Bool := decide (1 ≤ p) && decide (p ≤ 12) && decide (l.length ≤ 8) && inAll 0 (p - 1) l
theorem fav_iff (l : List Int) (p : Int) : fav l p = true ↔ 1 ≤ p ∧ p ≤ 12 ∧ l.length ≤ 8 ∧ ∀ x ∈ l, 0 ≤ x ∧ x < p := by
  unfold fav
  simp only [Bool.and_eq_true, decide_eq_true_eq, inAll_iff]
  constructor
  · rintro ⟨⟨⟨h1, h2⟩, h3⟩, h4⟩
    exact ⟨h1, h2, h3, fun x hx => by have := h4 x hx; omega⟩
  · rintro ⟨h1, h2, h3, h4⟩
    exact ⟨⟨⟨h1, h2⟩, h3⟩, fun x hx => by have := h4 x hx; omega⟩

theorem impl_AreFavourites.is (l : List Int) (p : Int) (hl : l.length ≤ 35184372088832) : impl_AreFavourites.f l p = some (fav l p) := by
  simp only [impl_AreFavourites.f, impl_between.is, Option.bind_some]
  unfold fav
  by_cases h : 1 ≤ p ∧ p ≤ 12
  · rw [wrap_id (p - 1) (by omega) (by omega), decide_eq_true h.1, decide_eq_true h.2]
    rw [if_pos (by rfl)]
    by_cases h8 : l.length ≤ 8
    · rw [decide_eq_true h8, if_pos (by omega), impl_areBetween.is l 0 (p - 1) hl]
      rfl
    · rw [decide_eq_false h8, if_neg (by omega)]
      rfl
  · have e : (decide (1 ≤ p) && decide (p ≤ 12)) = false := by simp; omega
    rw [e]
    rfl

/-- what DriveCars hands back -/
def carsR (l : List Int) (p : Int) : List Int × Bool := if fav l p = true then drvR (drv p [] l) else ([], false)
theorem carsR_len (l : List Int) (p : Int) : (carsR l p).1.length ≤ l.length := by
  unfold carsR
  split
  · cases h : drv p [] l with
    | none => simp [drvR]
    | some r =>
      have := drv_length p l [] r h
      simp only [drvR]
      simp at this
      omega
  · simp

theorem impl_DriveCars.ev (l : List Int) (p : Int) (hl : l.length ≤ 1048576) : Ev (fun k => impl_DriveCars.f k l p) (carsR l p) := by
  simp only [impl_DriveCars.f]
  unfold carsR
  refine Ev.bind (ev_eq (impl_AreFavourites.is l p (by omega))) ?_
  cases e : fav l p with
  | true =>
    have h := (fav_iff l p).mp e
    exact ev_pos rfl (Ev.bind (impl_drive.ev l p (by omega) (by omega) hl (fun x hx => by have := h.2.2.2 x hx; omega)) (Ev.now _))
  | false => exact ev_neg (by decide) (Ev.now _)

theorem spec_l1In.is (x lo hi : Int) : spec_l1In.f x lo hi = some (decide (lo ≤ x) && decide (x ≤ hi)) := by
  unfold spec_l1In.f
  by_cases h : x ≥ lo
  · rw [if_pos h, decide_eq_true (show lo ≤ x from h), Bool.true_and]
  · rw [if_neg h, decide_eq_false (show ¬ lo ≤ x from h), Bool.false_and]

theorem spec_l1All.evl (lo hi : Int) (l : List Int) (hl : l.length < 4611686018427387904) (d : Nat) : ∀ (i : Nat), i + d = l.length → Ev (fun k => spec_l1All.l0 k lo hi l (l.length : Int) (i : Int)) (inAll lo hi (l.drop i)) := by
  induction d with
  | zero =>
    intro i hi0
    refine Ev.step (fun k => spec_l1All.l0.eq_2 ..) ?_
    refine ev_neg (by omega) ?_
    refine ev_val (Ev.now _) ?_
    rw [List.drop_of_length_le (by omega)]
    rfl
  | succ d ih =>
    intro i hi0
    refine Ev.step (fun k => spec_l1All.l0.eq_2 ..) ?_
    refine ev_pos (by omega) (ev_pos (by omega) (ev_pos (by omega) ?_))
    rw [wrap_nat i (by omega), rd_nat l i (by omega), List.drop_eq_getElem_cons (by omega), spec_l1In.is]
    refine Ev.bind (Ev.now _) ?_
    have u : inAll lo hi (l[i] :: l.drop (i + 1)) = ((decide (lo ≤ l[i]) && decide (l[i] ≤ hi)) && inAll lo hi (l.drop (i + 1))) := rfl
    rw [u]
    generalize (decide (lo ≤ l[i]) && decide (l[i] ≤ hi)) = b
    cases b with
    | true => exact ev_pos rfl (ih (i + 1) (by omega))
    | false => exact ev_neg (by decide) (Ev.now _)
theorem spec_l1All.ev (l : List Int) (lo hi : Int) (hl : l.length < 4611686018427387904) : Ev (fun k => spec_l1All.f k l lo hi) (inAll lo hi l) := by
  simp only [spec_l1All.f]
  exact spec_l1All.evl lo hi l hl l.length 0 (by omega)

theorem spec_paAsked.ev (l : List Int) (hl : l.length < 4611686018427387904) : Ev (fun k => spec_paAsked.f k l) (decide (l.length ≤ 8) && inAll 0 99 l) := by
  simp only [spec_paAsked.f]
  by_cases h8 : l.length ≤ 8
  · rw [decide_eq_true h8]
    exact ev_pos (by omega) (Ev.bind (spec_l1All.ev l 0 99 hl) (Ev.now _))
  · rw [decide_eq_false h8]
    exact ev_neg (by omega) (Ev.now _)

theorem spec_l1Own.is (l : List Int) (hl : l.length ≤ 1048576) : spec_l1Own.f l = some l := by
  simp only [spec_l1Own.f, Option.bind_some, List.length_nil, Nat.zero_add, List.nil_append]
  rw [if_pos (by omega)]

theorem srt_perm (l : List Int) : (Srt.srt l).Perm l := List.mergeSort_perm _ _
theorem srt_up (l : List Int) : up2 (Srt.srt l) := by
  rw [up2_pairwise]
  have h := List.pairwise_mergeSort (le := fun x y : Int => decide (x ≤ y)) (fun a b c h1 h2 => by
    simp only [decide_eq_true_eq] at h1 h2 ⊢
    omega) (fun a b => by
    simp only [Bool.or_eq_true, decide_eq_true_eq]
    omega) l
  exact h.imp (fun h => by simpa using h)
theorem srt_eq (l s : List Int) (hp : s.Perm l) (hs : up2 s) : s = Srt.srt l := up2_eq s (Srt.srt l) hs (srt_up l) (hp.trans (srt_perm l).symm)
theorem ins_up (s : List Int) (j : Nat) (x : Int) (hs : up2 s) (h1 : ∀ y ∈ s.take j, y ≤ x) (h2 : ∀ y ∈ s.drop j, x ≤ y) : up2 ((s.take j ++ [x]) ++ s.drop j) := by
  rw [up2_pairwise] at hs ⊢
  have hs' : (s.take j ++ s.drop j).Pairwise (fun a b => a ≤ b) := by rw [List.take_append_drop]; exact hs
  rw [List.pairwise_append] at hs'
  obtain ⟨a, b, c⟩ := hs'
  rw [List.pairwise_append, List.pairwise_append]
  refine ⟨⟨a, by simp, fun y hy z hz => ?_⟩, b, fun y hy z hz => ?_⟩
  · simp only [List.mem_singleton] at hz
    rw [hz]
    exact h1 y hy
  · rcases List.mem_append.mp hy with hy | hy
    · exact c y hy z hz
    · simp only [List.mem_singleton] at hy
      rw [hy]
      exact h2 z hz
theorem ins_perm (s : List Int) (j : Nat) (x : Int) : ((s.take j ++ [x]) ++ s.drop j).Perm (s ++ [x]) := by
  have e : s ++ [x] = (s.take j ++ s.drop j) ++ [x] := by rw [List.take_append_drop]
  rw [e, List.append_assoc, List.append_assoc]
  exact List.Perm.append_left _ List.perm_append_comm

theorem spec_paSorted.ev1 (l s : List Int) (x n : Int) (i : Nat) (r : List Int) (hs : up2 s) (hl : s.length ≤ 1048576) (hi : i < 1048576) (hc : ∀ j, j ≤ s.length → (∀ y ∈ s.take j, y ≤ x) → (∀ y ∈ s.drop j, x ≤ y) → Ev (fun k => spec_paSorted.l0 k ((s.take j ++ [x]) ++ s.drop j) l n ((i + 1 : Nat) : Int)) r) (d : Nat) : ∀ (j : Nat), j + d = s.length → (∀ y ∈ s.take j, y ≤ x) → Ev (fun k => spec_paSorted.l1 k s x (j : Int) l n (i : Int)) r := by
  have fin : ∀ j, j ≤ s.length → (∀ y ∈ s.take j, y ≤ x) → (∀ y ∈ s.drop j, x ≤ y) → Ev (fun k => (spec_l1Own.f (s.take ((j : Int) : Int).toNat)).bind fun t => (if t.length < 17592186044416 then ((some (t ++ [x] : List Int)).bind fun y => ((some (s.drop ((j : Int) : Int).toNat : List Int)).bind fun z => (if y.length + z.length < 17592186044416 then (spec_paSorted.l0 k (y ++ z) l n (wrap64 ((i : Int) + 1))) else (none)))) else (none))) r := by
    intro j hj h1 h2
    rw [Int.toNat_natCast, wrap_nat i (by omega)]
    exact Ev.bind (ev_eq (spec_l1Own.is _ (by rw [List.length_take]; omega))) (ev_pos (by rw [List.length_take]; omega) (Ev.bind (ev_eq rfl) (Ev.bind (ev_eq rfl) (ev_pos (by simp only [List.length_append, List.length_take, List.length_drop, List.length_cons, List.length_nil]; omega) (hc j hj h1 h2)))))
  induction d with
  | zero =>
    intro j hj h1
    refine Ev.step (fun k => spec_paSorted.l1.eq_2 ..) (ev_neg (by omega) (ev_pos (by omega) (ev_pos (by omega) ?_)))
    exact fin j (by omega) h1 (fun y hy => by rw [List.drop_of_length_le (by omega)] at hy; cases hy)
  | succ d ih =>
    intro j hj h1
    refine Ev.step (fun k => spec_paSorted.l1.eq_2 ..) (ev_pos (by omega) (ev_pos (by omega) ?_))
    rw [rd_nat s j (by omega)]
    by_cases c : s[j]'(by omega) ≤ x
    · refine ev_pos c ?_
      rw [wrap_nat j (by omega)]
      refine ih (j + 1) (by omega) (fun y hy => ?_)
      rw [List.take_succ_eq_append_getElem (by omega)] at hy
      rcases List.mem_append.mp hy with hy | hy
      · exact h1 y hy
      · simp only [List.mem_singleton] at hy
        rw [hy]
        exact c
    · refine ev_neg c (ev_pos (by omega) ?_)
      refine fin j (by omega) h1 (fun y hy => ?_)
      obtain ⟨m, hm, rfl⟩ := List.getElem_of_mem hy
      rw [List.length_drop] at hm
      rw [List.getElem_drop]
      have := up2_get s hs j (j + m) (by omega) (by omega) (by omega)
      omega
theorem spec_paSorted.evl (l : List Int) (hl : l.length ≤ 1048576) (d : Nat) : ∀ (i : Nat) (s : List Int), i + d = l.length → s.Perm (l.take i) → up2 s → Ev (fun k => spec_paSorted.l0 k s l (l.length : Int) (i : Int)) (Srt.srt l) := by
  induction d with
  | zero =>
    intro i s hi hp hs
    rw [List.take_of_length_le (by omega)] at hp
    refine Ev.step (fun k => spec_paSorted.l0.eq_2 ..) (ev_neg (by omega) (ev_val (Ev.now _) ?_))
    exact srt_eq l s hp hs
  | succ d ih =>
    intro i s hi hp hs
    have hsl := hp.length_eq
    rw [List.length_take] at hsl
    refine Ev.step (fun k => spec_paSorted.l0.eq_2 ..) (ev_pos (by omega) (ev_pos (by omega) (ev_pos (by omega) ?_)))
    rw [rd_nat l i (by omega)]
    refine spec_paSorted.ev1 l s (l[i]'(by omega)) (l.length : Int) i _ hs (by omega) (by omega) (fun j hj h1 h2 => ?_) s.length 0 (by omega) (by simp)
    refine ih (i + 1) _ (by omega) ?_ (ins_up s j _ hs h1 h2)
    refine (ins_perm s j _).trans ?_
    rw [List.take_succ_eq_append_getElem (by omega)]
    exact List.Perm.append_right _ hp
theorem spec_paSorted.ev (l : List Int) (hl : l.length ≤ 1048576) : Ev (fun k => spec_paSorted.f k l) (Srt.srt l) := by
  simp only [spec_paSorted.f]
  exact spec_paSorted.evl l hl l.length 0 [] (by omega) (by simp) trivial

/-- each number at most its index, from i on -/
def fitB : Nat → List Int → Bool
  | _, [] => true
  | i, x :: l => decide (x ≤ (i : Int)) && fitB (i + 1) l
def fitR (l : List Int) : Bool × Bool := if (decide (l.length ≤ 8) && inAll 0 99 l) = true then (fitB 0 (Srt.srt l), true) else (false, false)

theorem spec_SortedFits.evl (s : List Int) (hl : s.length ≤ 1048576) (d : Nat) : ∀ (i : Nat), i + d = s.length → Ev (fun k => spec_SortedFits.l0 k s (s.length : Int) (i : Int)) (fitB i (s.drop i), true) := by
  induction d with
  | zero =>
    intro i hi
    refine Ev.step (fun k => spec_SortedFits.l0.eq_2 ..) (ev_neg (by omega) (ev_val (Ev.now _) ?_))
    rw [List.drop_of_length_le (by omega)]
    rfl
  | succ d ih =>
    intro i hi
    refine Ev.step (fun k => spec_SortedFits.l0.eq_2 ..) (ev_pos (by omega) (ev_pos (by omega) (ev_pos (by omega) ?_)))
    rw [rd_nat s i (by omega), List.drop_eq_getElem_cons (by omega)]
    by_cases c : s[i]'(by omega) > (i : Int)
    · refine ev_pos c (ev_val (Ev.now _) ?_)
      simp only [fitB]
      rw [decide_eq_false (by omega), Bool.false_and]
    · refine ev_neg c ?_
      rw [wrap_nat i (by omega)]
      refine ev_val (ih (i + 1) (by omega)) ?_
      simp only [fitB]
      rw [decide_eq_true (by omega), Bool.true_and]
theorem spec_SortedFits.ev (l : List Int) (hl : l.length ≤ 1048576) : Ev (fun k => spec_SortedFits.f k l) (fitR l) := by
  simp only [spec_SortedFits.f]
  unfold fitR
  refine Ev.bind (spec_paAsked.ev l (by omega)) ?_
  cases e : (decide (l.length ≤ 8) && inAll 0 99 l) with
  | true =>
    have h := spec_SortedFits.evl (Srt.srt l) (by rw [Srt.srt_len]; exact hl) (Srt.srt l).length 0 (by omega)
    exact ev_pos rfl (Ev.bind (spec_paSorted.ev l hl) (by simpa using h))
  | false => exact ev_neg (by decide) (Ev.now _)

theorem impl_sorted.is (l : List Int) (hl : l.length ≤ 1048576) : impl_sorted.f l = some (Srt.srt l) := by
  unfold impl_sorted.f
  rw [if_pos hl]

theorem impl_SortedFits.evl (s : List Int) (hl : s.length ≤ 1048576) (d : Nat) : ∀ (i : Nat), i + d = s.length → Ev (fun k => impl_SortedFits.l0 k s (s.length : Int) (i : Int)) (fitB i (s.drop i), true) := by
  induction d with
  | zero =>
    intro i hi
    refine Ev.step (fun k => impl_SortedFits.l0.eq_2 ..) (ev_neg (by omega) (ev_val (Ev.now _) ?_))
    rw [List.drop_of_length_le (by omega)]
    rfl
  | succ d ih =>
    intro i hi
    refine Ev.step (fun k => impl_SortedFits.l0.eq_2 ..) (ev_pos (by omega) (ev_pos (by omega) (ev_pos (by omega) ?_)))
    rw [rd_nat s i (by omega), List.drop_eq_getElem_cons (by omega)]
    by_cases c : s[i]'(by omega) > (i : Int)
    · refine ev_pos c (ev_val (Ev.now _) ?_)
      simp only [fitB]
      rw [decide_eq_false (by omega), Bool.false_and]
    · refine ev_neg c ?_
      rw [wrap_nat i (by omega)]
      refine ev_val (ih (i + 1) (by omega)) ?_
      simp only [fitB]
      rw [decide_eq_true (by omega), Bool.true_and]
theorem impl_SortedFits.ev (l : List Int) (hl : l.length ≤ 1048576) : Ev (fun k => impl_SortedFits.f k l) (fitR l) := by
  simp only [impl_SortedFits.f]
  unfold fitR
  refine Ev.bind (ev_eq (impl_areCars.is l (by omega))) ?_
  cases e : (decide (l.length ≤ 8) && inAll 0 99 l) with
  | true =>
    have h := impl_SortedFits.evl (Srt.srt l) (by rw [Srt.srt_len]; exact hl) (Srt.srt l).length 0 (by omega)
    exact ev_pos rfl (Ev.bind (ev_eq (impl_sorted.is l hl)) (by simpa using h))
  | false => exact ev_neg (by decide) (Ev.now _)

theorem impl_DoAllPark.ev (l : List Int) (p : Int) (hl : l.length ≤ 1048576) : Ev (fun k => impl_DoAllPark.f k l p) (if fav l p = true then (allPark l p, true) else (false, false)) := by
  simp only [impl_DoAllPark.f]
  refine Ev.bind (ev_eq (impl_AreFavourites.is l p (by omega))) ?_
  cases e : fav l p with
  | true =>
    have h := (fav_iff l p).mp e
    refine ev_pos rfl (Ev.bind (impl_drive.ev l p (by omega) (by omega) hl (fun x hx => by have := h.2.2.2 x hx; omega)) ?_)
    refine ev_val (Ev.now _) ?_
    rw [drvR_snd]
    rfl
  | false => exact ev_neg (by decide) (Ev.now _)

theorem and255 (x : Int) : 0 ≤ Go.bits .and .u64 x 255 ∧ Go.bits .and .u64 x 255 ≤ 255 := by
  have h : (BitVec.ofInt 64 x &&& BitVec.ofInt 64 255).toNat ≤ 255 := by
    rw [BitVec.toNat_and]
    exact Nat.and_le_right
  have e : Go.bits .and .u64 x 255 = IntKind.u64.wrap (((BitVec.ofInt 64 x &&& BitVec.ofInt 64 255).toNat : Nat) : Int) := rfl
  rw [e]
  generalize (BitVec.ofInt 64 x &&& BitVec.ofInt 64 255).toNat = m at h
  have w : IntKind.u64.wrap (m : Int) = (m : Int) := by
    simp only [IntKind.wrap, IntKind.bits, IntKind.signed, Bool.false_and, Bool.false_eq_true, if_false]
    omega
  rw [w]
  omega
/-- all are bytes, and not too many -/
def bytesOk (l : List Int) : Prop := (∀ x ∈ l, 0 ≤ x ∧ x ≤ 255) ∧ l.length ≤ 1048576

theorem spec_l1Cur_next.ok (l : List Int) (hb : bytesOk l) (p h : Int) (h0 : 0 ≤ p) (h1 : p ≤ 1099511627776) : ∃ b q g, spec_l1Cur_next.f l p h = some (b, q, g) ∧ 0 ≤ b ∧ b ≤ 255 ∧ p ≤ q ∧ q ≤ p + 1 := by
  have hl := hb.2
  unfold spec_l1Cur_next.f
  rw [wrap_id (p + 1) (by omega) (by omega)]
  by_cases c : p < (l.length : Int)
  · have hx := hb.1 (l[p.toNat]'(by omega)) (List.getElem_mem _)
    rw [if_pos c, if_pos h0, if_pos (by omega), rd_int l p h0 c, wrap_id _ (by omega) (by omega)]
    exact ⟨_, _, _, rfl, hx.1, hx.2, by omega, by omega⟩
  · rw [if_neg c, if_neg (by omega)]
    refine ⟨_, _, _, rfl, ?_, ?_, by omega, by omega⟩
    · have := and255 ((IntKind.u64.wrap ((IntKind.u64.wrap ((IntKind.u64.wrap (h * 6364136223846793005)) + 0)) + 1442695040888963407)) / 1099511627776)
      rw [wrap_id _ (by omega) (by omega)]
      exact this.1
    · have := and255 ((IntKind.u64.wrap ((IntKind.u64.wrap ((IntKind.u64.wrap (h * 6364136223846793005)) + 0)) + 1442695040888963407)) / 1099511627776)
      rw [wrap_id _ (by omega) (by omega)]
      exact this.2

theorem spec_l1Cur_pick.ok (l : List Int) (hb : bytesOk l) (p h n : Int) (h0 : 0 ≤ p) (h1 : p ≤ 1099511627000) (hn : n ≤ 1048576) : ∃ b q g, spec_l1Cur_pick.f l p h n = some (b, q, g) ∧ 0 ≤ b ∧ (b < n ∨ (n ≤ 1 ∧ b = 0)) ∧ p ≤ q ∧ q ≤ p + 2 := by
  unfold spec_l1Cur_pick.f
  by_cases c : n ≤ 1
  · rw [if_pos c]
    exact ⟨_, _, _, rfl, by omega, .inr ⟨c, rfl⟩, by omega, by omega⟩
  · rw [if_neg c]
    obtain ⟨b, q, g, e, b0, b1, q0, q1⟩ := spec_l1Cur_next.ok l hb p h h0 (by omega)
    rw [e, Option.bind_some]
    by_cases c2 : n > 200
    · rw [if_pos c2]
      obtain ⟨b2, q2, g2, e2, b20, b21, q20, q21⟩ := spec_l1Cur_next.ok l hb q g (by omega) (by omega)
      dsimp only
      rw [e2, Option.bind_some, if_neg (by omega)]
      rw [wrap_id (b * 256) (by omega) (by omega), wrap_id _ (by omega) (by omega)]
      exact ⟨_, _, _, rfl, Int.tmod_nonneg _ (by omega), .inl (Int.tmod_lt_of_pos _ (by omega)), by dsimp only; omega, by dsimp only; omega⟩
    · rw [if_neg c2, if_neg (by omega)]
      exact ⟨_, _, _, rfl, Int.tmod_nonneg _ b0, .inl (Int.tmod_lt_of_pos _ (by omega)), by dsimp only; omega, by dsimp only; omega⟩

theorem spec_l1Cur_among.ok (l : List Int) (hb : bytesOk l) (p h : Int) (m : List Int) (h0 : 0 ≤ p) (h1 : p ≤ 1099511627000) (hm : 0 < m.length) (hm2 : m.length ≤ 1000) : ∃ b q g, spec_l1Cur_among.f l p h m = some (b, q, g) ∧ b ∈ m ∧ p ≤ q ∧ q ≤ p + 2 := by
  unfold spec_l1Cur_among.f
  obtain ⟨b, q, g, e, b0, b1, q0, q1⟩ := spec_l1Cur_pick.ok l hb p h (m.length : Int) h0 h1 (by omega)
  rw [e, Option.bind_some, if_pos b0, if_pos (by omega)]
  refine ⟨_, _, _, rfl, ?_, q0, q1⟩
  rw [rd_int m b b0 (by omega)]
  exact List.getElem_mem _

theorem spec_l1Most.is (a b : Int) : ∃ c, spec_l1Most.f a b = some c ∧ (c = a ∨ c = b) ∧ a ≤ c ∧ b ≤ c := by
  unfold spec_l1Most.f
  by_cases h : a > b
  · rw [if_pos h]
    exact ⟨a, rfl, .inl rfl, by omega, by omega⟩
  · rw [if_neg h]
    exact ⟨b, rfl, .inr rfl, by omega, by omega⟩

theorem spec_l1Least.is (a b : Int) : ∃ c, spec_l1Least.f a b = some c ∧ (c = a ∨ c = b) ∧ c ≤ a ∧ c ≤ b := by
  unfold spec_l1Least.f
  by_cases h : a < b
  · rw [if_pos h]
    exact ⟨a, rfl, .inl rfl, by omega, by omega⟩
  · rw [if_neg h]
    exact ⟨b, rfl, .inr rfl, by omega, by omega⟩

theorem spec_l1Cur_favourites.ok1 (l : List Int) (hb : bytesOk l) (x4 : Int) (x40 : 0 ≤ x4) (x41 : x4 ≤ 1000) : ∀ (d : Nat) (x5 : List Int) (p h : Int), (9 - x5.length) = d → x5.length ≤ 9 → 0 ≤ p → p + 4 * (d : Int) ≤ 1099511626000 → ∃ r q g, Ev (fun k => spec_l1Cur_favourites.l1 k x4 x5 l p h) (r, x4, q, g) ∧ r.length ≤ 9 ∧ p ≤ q ∧ q ≤ p + 4 * (d : Int) + 4
  | d, x5, p, h, hd, hl, h0, h1 => by
    obtain ⟨t, q, g, e, t0, t1, q0, q1⟩ := spec_l1Cur_pick.ok l hb p h 2 h0 (by omega) (by omega)
    have ew : wrap64 (8 + t) = 8 + t := wrap_id _ (by omega) (by omega)
    by_cases c : (x5.length : Int) < 8 + t
    · cases d with
      | zero => exfalso; omega
      | succ d =>
        obtain ⟨v, q2, g2, e2, v0, v1, q20, q21⟩ := spec_l1Cur_pick.ok l hb q g x4 (by omega) (by omega) (by omega)
        obtain ⟨r, q3, g3, E, r1, q30, q31⟩ := spec_l1Cur_favourites.ok1 l hb x4 x40 x41 d (x5 ++ [v]) q2 g2 (by simp; omega) (by simp; omega) (by omega) (by omega)
        refine ⟨r, q3, g3, Ev.step (fun k => spec_l1Cur_favourites.l1.eq_2 ..) (Ev.bind (ev_eq e) ?_), r1, by omega, by omega⟩
        dsimp only
        rw [ew]
        exact ev_pos c (Ev.bind (ev_eq e2) (ev_pos (by omega) E))
    · refine ⟨x5, q, g, Ev.step (fun k => spec_l1Cur_favourites.l1.eq_2 ..) (Ev.bind (ev_eq e) ?_), hl, by omega, by omega⟩
      dsimp only
      rw [ew]
      exact ev_neg c (Ev.now _)
theorem spec_l1Cur_favourites.ok0 (l : List Int) (hb : bytesOk l) (x4 : Int) (x40 : 1 ≤ x4) (x41 : x4 ≤ 1000) : ∀ (d : Nat) (x5 : List Int) (x6 p h : Int), x6 = (d : Int) → x5.length + d ≤ 8 → 0 ≤ p → p + 4 * (d : Int) ≤ 1099511625000 → ∃ r n q g, Ev (fun k => spec_l1Cur_favourites.l0 k x4 x5 x6 l p h) (r, n, q, g) ∧ r.length ≤ 9 ∧ p ≤ q ∧ q ≤ p + 4 * (d : Int) + 60
  | 0, x5, x6, p, h, hd, hl, h0, h1 => by
    obtain ⟨t, q, g, e, t0, t1, q0, q1⟩ := spec_l1Cur_pick.ok l hb p h 20 h0 (by omega) (by omega)
    by_cases c0 : t = 0
    · obtain ⟨b, q2, g2, e2, hm, q20, q21⟩ := spec_l1Cur_among.ok l hb q g [-1, x4, 0, 4611686018427387904] (by omega) (by omega) (by simp) (by simp)
      exact ⟨x5 ++ [b], x4, q2, g2, Ev.step (fun k => spec_l1Cur_favourites.l0.eq_2 ..) (ev_neg (by omega) (Ev.bind (ev_eq e) (ev_pos c0 (Ev.bind (ev_eq e2) (ev_pos (by omega) (Ev.now _)))))), by simp; omega, by omega, by omega⟩
    · by_cases c1 : t = 1
      · obtain ⟨r, q2, g2, E, r1, q20, q21⟩ := spec_l1Cur_favourites.ok1 l hb x4 (by omega) x41 _ x5 q g rfl (by omega) (by omega) (by omega)
        exact ⟨r, x4, q2, g2, Ev.step (fun k => spec_l1Cur_favourites.l0.eq_2 ..) (ev_neg (by omega) (Ev.bind (ev_eq e) (ev_neg c0 (ev_pos c1 E)))), r1, by omega, by omega⟩
      · by_cases c2 : t = 2
        · obtain ⟨b, q2, g2, e2, hm, q20, q21⟩ := spec_l1Cur_among.ok l hb q g [0, -1, 12, 13] (by omega) (by omega) (by simp) (by simp)
          exact ⟨x5, b, q2, g2, Ev.step (fun k => spec_l1Cur_favourites.l0.eq_2 ..) (ev_neg (by omega) (Ev.bind (ev_eq e) (ev_neg c0 (ev_neg c1 (ev_pos c2 (Ev.bind (ev_eq e2) (Ev.now _))))))), by omega, by omega, by omega⟩
        · exact ⟨x5, x4, q, g, Ev.step (fun k => spec_l1Cur_favourites.l0.eq_2 ..) (ev_neg (by omega) (Ev.bind (ev_eq e) (ev_neg c0 (ev_neg c1 (ev_neg c2 (Ev.now _)))))), by omega, by omega, by omega⟩
  | d + 1, x5, x6, p, h, hd, hl, h0, h1 => by
    obtain ⟨x, q, g, e, x0, x1, q0, q1⟩ := spec_l1Cur_pick.ok l hb p h x4 h0 (by omega) (by omega)
    obtain ⟨m, em, hm, m1, m2⟩ := spec_l1Most.is 1 (x4 - x)
    obtain ⟨v, q2, g2, e2, v0, v1, q20, q21⟩ := spec_l1Cur_pick.ok l hb q g m (by omega) (by omega) (by omega)
    obtain ⟨r, n, q3, g3, E, r1, q30, q31⟩ := spec_l1Cur_favourites.ok0 l hb x4 x40 x41 d (x5 ++ [v]) (x6 - 1) q2 g2 (by omega) (by simp; omega) (by omega) (by omega)
    refine ⟨r, n, q3, g3, Ev.step (fun k => spec_l1Cur_favourites.l0.eq_2 ..) (ev_pos (by omega) (Ev.bind (ev_eq e) ?_)), r1, by omega, by omega⟩
    dsimp only
    rw [wrap_id (x4 - x) (by omega) (by omega), wrap_id (x6 - 1) (by omega) (by omega)]
    exact Ev.bind (ev_eq em) (Ev.bind (ev_eq e2) (ev_pos (by omega) E))
theorem spec_l1Cur_favourites.ok (l : List Int) (hb : bytesOk l) (p h : Int) (h0 : 0 ≤ p) (h1 : p ≤ 1099511620000) : ∃ r n q g, Ev (fun k => spec_l1Cur_favourites.f k l p h) (r, n, q, g) ∧ r.length ≤ 9 ∧ p ≤ q ∧ q ≤ p + 200 := by
  simp only [spec_l1Cur_favourites.f]
  obtain ⟨a, q, g, e, ha, q0, q1⟩ := spec_l1Cur_among.ok l hb p h [4, 7, 12] h0 (by omega) (by simp) (by simp)
  simp only [List.mem_cons, List.not_mem_nil, or_false] at ha
  obtain ⟨b, q2, g2, e2, b0, b1, q20, q21⟩ := spec_l1Cur_pick.ok l hb q g a (by omega) (by omega) (by omega)
  have w1 : wrap64 (1 + b) = 1 + b := wrap_id _ (by omega) (by omega)
  obtain ⟨c, ec, hc, c1, c2⟩ := spec_l1Least.is (1 + b) 8
  have w2 : wrap64 (c + 1) = c + 1 := wrap_id _ (by omega) (by omega)
  obtain ⟨n, q3, g3, e3, n0, n1, q30, q31⟩ := spec_l1Cur_pick.ok l hb q2 g2 (c + 1) (by omega) (by omega) (by omega)
  obtain ⟨r, m, q4, g4, E, r1, q40, q41⟩ := spec_l1Cur_favourites.ok0 l hb (1 + b) (by omega) (by omega) n.toNat [] n q3 g3 (by omega) (by simp; omega) (by omega) (by omega)
  refine ⟨r, m, q4, g4, Ev.bind (ev_eq e) (Ev.bind (ev_eq e2) ?_), r1, by omega, by omega⟩
  dsimp only
  rw [w1]
  refine Ev.bind (ev_eq ec) ?_
  rw [w2]
  exact Ev.bind (ev_eq e3) E

theorem spec_DrawAreFavourites.ok (l : List Int) (hb : bytesOk l) : ∃ r n, Ev (fun k => spec_DrawAreFavourites.f k l) (r, n) ∧ r.length ≤ 9 := by
  simp only [spec_DrawAreFavourites.f]
  obtain ⟨r, n, q, g, E, r1, q0, q1⟩ := spec_l1Cur_favourites.ok l hb 0 0 (by omega) (by omega)
  exact ⟨r, n, Ev.bind E (Ev.now _), r1⟩

theorem spec_DrawRefusingPlace.ok (l : List Int) (hb : bytesOk l) : ∃ r n, Ev (fun k => spec_DrawRefusingPlace.f k l) (r, n) ∧ r.length ≤ 9 := by
  simp only [spec_DrawRefusingPlace.f]
  obtain ⟨r, n, E, r1⟩ := spec_DrawAreFavourites.ok l hb
  exact ⟨r, n, Ev.bind E (Ev.now _), r1⟩

def refuseR (l : List Int) (p : Int) : Int × Bool := if fav l p = true then refuse l p p.toNat else (0, false)

theorem impl_RefusingPlace.is (l : List Int) (p : Int) (hl : l.length ≤ 1048576) : impl_RefusingPlace.f l p = some (refuseR l p) := by
  unfold impl_RefusingPlace.f refuseR
  rw [impl_AreFavourites.is l p (by omega)]
  cases e : fav l p with
  | true =>
    have h := (fav_iff l p).mp e
    rw [Option.bind_some, if_pos rfl, if_pos h.2.2.1, if_pos (by omega), if_pos h.2.1]
    rfl
  | false => rfl

theorem spec_paStreet.is (p : Int) : spec_paStreet.f p = some (decide (1 ≤ p) && decide (p ≤ 12)) := by
  simp only [spec_paStreet.f, spec_l1In.is, Option.bind_some]

theorem spec_paGood.ev (l : List Int) (p : Int) (hl : l.length < 4611686018427387904) : Ev (fun k => spec_paGood.f k l p) (fav l p) := by
  simp only [spec_paGood.f, spec_paStreet.is, Option.bind_some]
  unfold fav
  by_cases h : 1 ≤ p ∧ p ≤ 12
  · rw [wrap_id (p - 1) (by omega) (by omega), decide_eq_true h.1, decide_eq_true h.2]
    refine ev_pos rfl ?_
    by_cases h8 : l.length ≤ 8
    · rw [decide_eq_true h8]
      refine ev_pos (by omega) (Ev.bind (spec_l1All.ev l 0 (p - 1) hl) ?_)
      exact Ev.now _
    · rw [decide_eq_false h8]
      exact ev_neg (by omega) (Ev.now _)
  · have e : (decide (1 ≤ p) && decide (p ≤ 12)) = false := by simp; omega
    rw [e]
    exact ev_neg (by decide) (Ev.now _)

theorem spec_paFrom.evl (j : Int) (l : List Int) (hl : l.length ≤ 1048576) (d : Nat) : ∀ (i m : Nat), i + d = l.length → m ≤ i → Ev (fun k => spec_paFrom.l0 k j (m : Int) l (l.length : Int) (i : Int)) ((m : Int) + (ge (l.drop i) j : Int)) := by
  induction d with
  | zero =>
    intro i m hi hm
    refine Ev.step (fun k => spec_paFrom.l0.eq_2 ..) ?_
    refine ev_neg (by omega) ?_
    refine ev_val (Ev.now _) ?_
    rw [List.drop_of_length_le (by omega)]
    simp [ge]
  | succ d ih =>
    intro i m hi hm
    refine Ev.step (fun k => spec_paFrom.l0.eq_2 ..) ?_
    refine ev_pos (by omega) (ev_pos (by omega) (ev_pos (by omega) ?_))
    rw [wrap_nat i (by omega), wrap_nat m (by omega), rd_nat l i (by omega), List.drop_eq_getElem_cons (by omega), ge_cons]
    by_cases e : l[i] ≥ j
    · refine ev_pos e (ev_val (ih (i + 1) (m + 1) (by omega) (by omega)) ?_)
      rw [if_pos e]
      omega
    · refine ev_neg e (ev_val (ih (i + 1) m (by omega) (by omega)) ?_)
      rw [if_neg e]
      omega
theorem spec_paFrom.ev (l : List Int) (j : Int) (hl : l.length ≤ 1048576) : Ev (fun k => spec_paFrom.f k l j) (ge l j : Int) := by
  simp only [spec_paFrom.f]
  have h := spec_paFrom.evl j l hl l.length 0 0 (by omega) (Nat.le_refl 0)
  simpa using h

theorem spec_RefusingPlace.evl (l : List Int) (p : Int) (hp : p ≤ 12) (hl : l.length ≤ 8) : ∀ (n : Nat), (n : Int) ≤ p → Ev (fun k => spec_RefusingPlace.l0 k l p ((n : Int) - 1)) (refuse l p n)
  | 0, _ => by
    refine Ev.step (fun k => spec_RefusingPlace.l0.eq_2 ..) ?_
    exact ev_neg (by omega) (Ev.now _)
  | n + 1, h => by
    refine Ev.step (fun k => spec_RefusingPlace.l0.eq_2 ..) ?_
    rw [show ((n + 1 : Nat) : Int) - 1 = (n : Int) by omega]
    refine ev_pos (by omega) (Ev.bind (spec_paFrom.ev l n (by omega)) ?_)
    rw [wrap_id (p - n) (by omega) (by omega), wrap_id ((n : Int) - 1) (by omega) (by omega)]
    simp only [refuse]
    by_cases e : (ge l n : Int) > p - n
    · refine ev_pos e (ev_val (Ev.now _) ?_)
      rw [if_pos (show p - (n : Int) < ((l.countP fun x => decide ((n : Int) ≤ x) : Nat) : Int) from e)]
    · refine ev_neg e (ev_val (spec_RefusingPlace.evl l p hp hl n (by omega)) ?_)
      rw [if_neg (show ¬ p - (n : Int) < ((l.countP fun x => decide ((n : Int) ≤ x) : Nat) : Int) from e)]
theorem spec_RefusingPlace.ev (l : List Int) (p : Int) (hl : l.length ≤ 1048576) : Ev (fun k => spec_RefusingPlace.f k l p) (refuseR l p) := by
  simp only [spec_RefusingPlace.f]
  unfold refuseR
  refine Ev.bind (spec_paGood.ev l p (by omega)) ?_
  cases e : fav l p with
  | true =>
    have h := (fav_iff l p).mp e
    rw [wrap_id (p - 1) (by omega) (by omega)]
    have g := spec_RefusingPlace.evl l p h.2.1 h.2.2.1 p.toNat (by omega)
    rw [show ((p.toNat : Nat) : Int) = p by omega] at g
    exact ev_pos rfl g
  | false => exact ev_neg (by decide) (Ev.now _)

theorem spec_l1Has.evl (x : Int) (l : List Int) (hl : l.length < 4611686018427387904) (d : Nat) : ∀ (i : Nat), i + d = l.length → Ev (fun k => spec_l1Has.l0 k x l (l.length : Int) (i : Int)) (decide (x ∈ l.drop i)) := by
  induction d with
  | zero =>
    intro i hi
    refine Ev.step (fun k => spec_l1Has.l0.eq_2 ..) ?_
    refine ev_neg (by omega) ?_
    refine ev_val (Ev.now _) ?_
    rw [List.drop_of_length_le (by omega)]
    simp
  | succ d ih =>
    intro i hi
    refine Ev.step (fun k => spec_l1Has.l0.eq_2 ..) ?_
    refine ev_pos (by omega) (ev_pos (by omega) (ev_pos (by omega) ?_))
    rw [wrap_nat i (by omega), rd_nat l i (by omega), List.drop_eq_getElem_cons (by omega)]
    by_cases e : l[i] = x
    · refine ev_pos e (ev_val (Ev.now _) ?_)
      simp [e]
    · refine ev_neg e (ev_val (ih (i + 1) (by omega)) ?_)
      simp only [List.mem_cons, show ¬ x = l[i] from fun h => e h.symm, false_or]
theorem spec_l1Has.ev (l : List Int) (x : Int) (hl : l.length < 4611686018427387904) : Ev (fun k => spec_l1Has.f k l x) (decide (x ∈ l)) := by
  simp only [spec_l1Has.f]
  exact spec_l1Has.evl x l hl l.length 0 (by omega)

theorem spec_paDrive.evl (p : Int) (hp : p ≤ 1048576) (l : List Int) (hl : l.length ≤ 1048576) (hx : ∀ x ∈ l, -1048576 ≤ x) (d : Nat) : ∀ (i : Nat) (out : List Int), i + d = l.length → out.length = i → Ev (fun k => spec_paDrive.l0 k p out l (l.length : Int) (i : Int)) (paD p out (l.drop i)) := by
  induction d with
  | zero =>
    intro i out hi ho
    refine Ev.step (fun k => spec_paDrive.l0.eq_2 ..) ?_
    refine ev_neg (by omega) ?_
    refine ev_val (Ev.now _) ?_
    rw [List.drop_of_length_le (by omega)]
    rfl
  | succ d ih =>
    intro i out hi ho
    refine Ev.step (fun k => spec_paDrive.l0.eq_2 ..) ?_
    refine ev_pos (by omega) (ev_pos (by omega) (ev_pos (by omega) ?_))
    rw [rd_nat l i (by omega), List.drop_eq_getElem_cons (by omega)]
    have hxi := hx l[i] (List.getElem_mem _)
    have inner : ∀ (m : Nat) (x : Int), (p - x).toNat = m → -1048576 ≤ x → Ev (fun k => spec_paDrive.l1 k p out x l (l.length : Int) (i : Int)) (paD p (out ++ [if land out p x < p then land out p x else -1]) (l.drop (i + 1))) := by
      intro m
      induction m with
      | zero =>
        intro x hm hx0
        refine Ev.step (fun k => spec_paDrive.l1.eq_2 ..) ?_
        refine ev_neg (by omega) (ev_pos (by omega) (ev_pos (by omega) ?_))
        rw [wrap_nat i (by omega), land_stop out p x (by omega), if_neg (by omega)]
        exact ih (i + 1) _ (by omega) (by simp; omega)
      | succ m ihm =>
        intro x hm hx0
        refine Ev.step (fun k => spec_paDrive.l1.eq_2 ..) ?_
        refine ev_pos (by omega) (Ev.bind (spec_l1Has.ev out x (by omega)) ?_)
        by_cases hh : x ∈ out
        · rw [decide_eq_true hh, land_go out p x (by omega) hh]
          refine ev_pos rfl ?_
          rw [wrap_id (x + 1) (by omega) (by omega)]
          exact ihm (x + 1) (by omega) (by omega)
        · rw [decide_eq_false hh, land_stop out p x (fun h => hh h.2), if_pos (by omega)]
          refine ev_neg (by decide) (ev_neg (by omega) (ev_pos (by omega) ?_))
          rw [wrap_nat i (by omega)]
          exact ih (i + 1) _ (by omega) (by simp; omega)
    exact inner _ l[i] rfl hxi
theorem spec_paDrive.ev (l : List Int) (p : Int) (hp : p ≤ 1048576) (hl : l.length ≤ 1048576) (hx : ∀ x ∈ l, -1048576 ≤ x) : Ev (fun k => spec_paDrive.f k l p) (paD p [] l) := by
  simp only [spec_paDrive.f]
  exact spec_paDrive.evl p hp l hl hx l.length 0 [] (by omega) rfl

theorem paD_length (p : Int) : ∀ (l out : List Int), (paD p out l).length = out.length + l.length
  | [], out => by simp [paD]
  | x :: l, out => by
    have := paD_length p l (out ++ [if land out p x < p then land out p x else -1])
    simp only [paD, this, List.length_append, List.length_cons, List.length_nil]
    omega

theorem spec_paAll.ev (l : List Int) (p : Int) (hp : p ≤ 1048576) (hl : l.length ≤ 1048576) (hx : ∀ x ∈ l, 0 ≤ x) : Ev (fun k => spec_paAll.f k l p) (allPark l p) := by
  simp only [spec_paAll.f]
  refine Ev.bind (spec_paDrive.ev l p hp hl (fun x h => by have := hx x h; omega)) (Ev.bind (spec_l1Has.ev _ _ (by rw [paD_length]; simp; omega)) ?_)
  refine ev_val (Ev.now _) ?_
  rw [allPark_paD l p hx]
  simp

theorem spec_DoAllPark.ev (l : List Int) (p : Int) (hl : l.length ≤ 1048576) : Ev (fun k => spec_DoAllPark.f k l p) (if fav l p = true then (allPark l p, true) else (false, false)) := by
  simp only [spec_DoAllPark.f]
  refine Ev.bind (spec_paGood.ev l p (by omega)) ?_
  cases e : fav l p with
  | true =>
    have h := (fav_iff l p).mp e
    exact ev_pos rfl (Ev.bind (spec_paAll.ev l p (by omega) hl (fun x hx => (h.2.2.2 x hx).1)) (Ev.now _))
  | false => exact ev_neg (by decide) (Ev.now _)

/-- small numbers -/
def smalls (l : List Int) : Prop := ∀ x ∈ l, -1 ≤ x ∧ x ≤ 1000
theorem smalls_app {a b : List Int} (ha : smalls a) (hb : smalls b) : smalls (a ++ b) := fun x hx => (List.mem_append.mp hx).elim (ha x) (hb x)
theorem smalls_one {x : Int} (h0 : -1 ≤ x) (h1 : x ≤ 1000) : smalls [x] := fun y hy => by
  simp only [List.mem_singleton] at hy
  omega
theorem smalls_take {a : List Int} (ha : smalls a) (n : Nat) : smalls (a.take n) := fun x hx => ha x (List.mem_of_mem_take hx)
theorem smalls_drop {a : List Int} (ha : smalls a) (n : Nat) : smalls (a.drop n) := fun x hx => ha x (List.mem_of_mem_drop hx)
theorem smalls_set {a : List Int} (ha : smalls a) (n : Nat) {x : Int} (h0 : -1 ≤ x) (h1 : x ≤ 1000) : smalls (a.set n x) := fun y hy => by
  rcases List.mem_or_eq_of_mem_set hy with hy | rfl
  · exact ha y hy
  · exact ⟨h0, h1⟩
theorem spec_l1Cur_park.ok1 (l : List Int) (p h : Int) : ∀ (d : Nat) (x5 : List Int), (9 - x5.length) = d → x5.length ≤ 9 → smalls x5 → ∃ r, Ev (fun k => spec_l1Cur_park.l1 k x5 l p h) (r, p, h) ∧ r.length ≤ 9 ∧ smalls r
  | 0, x5, hd, hl, hs => ⟨x5, Ev.step (fun k => spec_l1Cur_park.l1.eq_2 ..) (ev_neg (by omega) (Ev.now _)), hl, hs⟩
  | d + 1, x5, hd, hl, hs => by
    obtain ⟨r, E, h1, h2⟩ := spec_l1Cur_park.ok1 l p h d (x5 ++ [0]) (by simp; omega) (by simp; omega) (smalls_app hs (smalls_one (by omega) (by omega)))
    exact ⟨r, Ev.step (fun k => spec_l1Cur_park.l1.eq_2 ..) (ev_pos (by omega) (ev_pos (by omega) E)), h1, h2⟩
theorem spec_l1Cur_park.ok0 (l : List Int) (hb : bytesOk l) : ∀ (d : Nat) (x5 : List Int) (x6 p h : Int), x6 = (d : Int) → x5.length + d ≤ 8 → smalls x5 → 0 ≤ p → p + 4 * (d : Int) ≤ 1099511626000 → ∃ r q g, Ev (fun k => spec_l1Cur_park.l0 k x5 x6 l p h) (r, q, g) ∧ r.length ≤ 9 ∧ smalls r ∧ p ≤ q ∧ q ≤ p + 4 * (d : Int) + 20
  | 0, x5, x6, p, h, hd, hl, hs, h0, h1 => by
    have hw : wrap64 ((x5.length : Int) + 1) = (x5.length : Int) + 1 := wrap_id _ (by omega) (by omega)
    obtain ⟨t, q, g, e, t0, t1, q0, q1⟩ := spec_l1Cur_pick.ok l hb p h 20 h0 (by omega) (by omega)
    by_cases c0 : t = 0
    · obtain ⟨b, q2, g2, e2, hm, q20, q21⟩ := spec_l1Cur_among.ok l hb q g [-1, 0, (x5.length : Int), (x5.length : Int) + 1, 99, 100] (by omega) (by omega) (by simp) (by simp)
      simp only [List.mem_cons, List.not_mem_nil, or_false] at hm
      refine ⟨x5 ++ [b], q2, g2, Ev.step (fun k => spec_l1Cur_park.l0.eq_2 ..) (ev_neg (by omega) (Ev.bind (ev_eq e) (ev_pos c0 ?_))), by simp; omega, smalls_app hs (smalls_one (by omega) (by omega)), by omega, by omega⟩
      rw [hw]
      exact Ev.bind (ev_eq e2) (ev_pos (by omega) (Ev.now _))
    · by_cases c1 : t = 1
      · by_cases c2 : (x5.length : Int) > 0
        · obtain ⟨i, q2, g2, e2, i0, i1, q20, q21⟩ := spec_l1Cur_pick.ok l hb q g (x5.length : Int) (by omega) (by omega) (by omega)
          obtain ⟨v, q3, g3, e3, v0, v1, q30, q31⟩ := spec_l1Cur_pick.ok l hb q2 g2 (x5.length : Int) (by omega) (by omega) (by omega)
          refine ⟨x5.set i.toNat v, q3, g3, Ev.step (fun k => spec_l1Cur_park.l0.eq_2 ..) (ev_neg (by omega) (Ev.bind (ev_eq e) (ev_neg c0 (ev_pos c1 (ev_pos c2 (Ev.bind (ev_eq e2) (Ev.bind (ev_eq e3) (ev_pos i0 (ev_pos (by dsimp only; omega) (Ev.now _)))))))))), by simp; omega, smalls_set hs _ (by omega) (by omega), by omega, by omega⟩
        · exact ⟨x5, q, g, Ev.step (fun k => spec_l1Cur_park.l0.eq_2 ..) (ev_neg (by omega) (Ev.bind (ev_eq e) (ev_neg c0 (ev_pos c1 (ev_neg c2 (Ev.now _)))))), by omega, hs, by omega, by omega⟩
      · by_cases c2 : t = 2
        · obtain ⟨r, E, r1, r2⟩ := spec_l1Cur_park.ok1 l q g _ x5 rfl (by omega) hs
          exact ⟨r, q, g, Ev.step (fun k => spec_l1Cur_park.l0.eq_2 ..) (ev_neg (by omega) (Ev.bind (ev_eq e) (ev_neg c0 (ev_neg c1 (ev_pos c2 E))))), r1, r2, by omega, by omega⟩
        · exact ⟨x5, q, g, Ev.step (fun k => spec_l1Cur_park.l0.eq_2 ..) (ev_neg (by omega) (Ev.bind (ev_eq e) (ev_neg c0 (ev_neg c1 (ev_neg c2 (Ev.now _)))))), by omega, hs, by omega, by omega⟩
  | d + 1, x5, x6, p, h, hd, hl, hs, h0, h1 => by
    have hw : wrap64 ((x5.length : Int) + 1) = (x5.length : Int) + 1 := wrap_id _ (by omega) (by omega)
    obtain ⟨x, q, g, e, x0, x1, q0, q1⟩ := spec_l1Cur_pick.ok l hb p h ((x5.length : Int) + 1) h0 (by omega) (by omega)
    obtain ⟨i, q2, g2, e2, i0, i1, q20, q21⟩ := spec_l1Cur_pick.ok l hb q g ((x5.length : Int) + 1) (by omega) (by omega) (by omega)
    obtain ⟨r, q3, g3, E, r1, r2, q30, q31⟩ := spec_l1Cur_park.ok0 l hb d ((x5.take i.toNat ++ [x]) ++ x5.drop i.toNat) (x6 - 1) q2 g2 (by omega) (by simp; omega) (smalls_app (smalls_app (smalls_take hs _) (smalls_one (by omega) (by omega))) (smalls_drop hs _)) (by omega) (by omega)
    refine ⟨r, q3, g3, Ev.step (fun k => spec_l1Cur_park.l0.eq_2 ..) (ev_pos (by omega) ?_), r1, r2, by omega, by omega⟩
    rw [hw]
    refine Ev.bind (ev_eq e) (Ev.bind (ev_eq e2) (ev_pos i0 (ev_pos (by dsimp only; omega) (Ev.bind (ev_eq (spec_l1Own.is _ (by simp; omega))) (ev_pos (by simp; omega) (Ev.bind (ev_eq rfl) (Ev.bind (ev_eq rfl) (ev_pos (by simp; omega) ?_))))))))
    rw [wrap_id (x6 - 1) (by omega) (by omega)]
    exact E
theorem spec_l1Cur_park.ok (l : List Int) (hb : bytesOk l) (p h a : Int) (h0 : 0 ≤ p) (h1 : p ≤ 1099511620000) (a0 : 0 ≤ a) (a1 : a ≤ 8) : ∃ r q g, Ev (fun k => spec_l1Cur_park.f k l p h a) (r, q, g) ∧ r.length ≤ 9 ∧ smalls r ∧ p ≤ q ∧ q ≤ p + 100 := by
  have hw : wrap64 (a + 1) = a + 1 := wrap_id _ (by omega) (by omega)
  obtain ⟨n, q, g, e, n0, n1, q0, q1⟩ := spec_l1Cur_pick.ok l hb p h (a + 1) h0 (by omega) (by omega)
  obtain ⟨r, q2, g2, E, r1, r2, q20, q21⟩ := spec_l1Cur_park.ok0 l hb n.toNat [] n q g (by omega) (by simp; omega) (fun x hx => by cases hx) (by omega) (by omega)
  refine ⟨r, q2, g2, ?_, r1, r2, by omega, by omega⟩
  simp only [spec_l1Cur_park.f]
  rw [hw]
  exact Ev.bind (ev_eq e) E

theorem spec_DrawIsParking.ok (l : List Int) (hb : bytesOk l) : ∃ r, Ev (fun k => spec_DrawIsParking.f k l) r ∧ r.length ≤ 9 := by
  simp only [spec_DrawIsParking.f]
  obtain ⟨r, q, g, E, r1, _⟩ := spec_l1Cur_park.ok l hb 0 0 8 (by omega) (by omega) (by omega) (by omega)
  exact ⟨r, Ev.bind E (Ev.now _), r1⟩

theorem isPk_iff (l : List Int) : isPk l = true ↔ l.length ≤ 8 ∧ (∀ x ∈ l, 0 ≤ x ∧ x < l.length) ∧ allPark l l.length = true := by
  simp only [isPk, Bool.and_eq_true, decide_eq_true_eq, List.all_eq_true]
  constructor
  · rintro ⟨⟨h1, h2⟩, h3⟩
    exact ⟨h1, fun x hx => by have := h2 x hx; omega, h3⟩
  · rintro ⟨h1, h2, h3⟩
    exact ⟨⟨h1, fun x hx => by have := h2 x hx; omega⟩, h3⟩
theorem spec_paParking.ev (l : List Int) (hl : l.length ≤ 1048576) : Ev (fun k => spec_paParking.f k l) (isPk l) := by
  simp only [spec_paParking.f]
  unfold isPk
  by_cases h8 : l.length ≤ 8
  · rw [decide_eq_true h8, wrap_id _ (by omega) (by omega)]
    refine ev_pos (by omega) (Ev.bind (spec_l1All.ev l 0 _ (by omega)) ?_)
    have u : inAll 0 ((l.length : Int) - 1) l = l.all fun x => decide (0 ≤ x) && decide (x ≤ (l.length : Int) - 1) := rfl
    rw [← u]
    cases e : inAll 0 ((l.length : Int) - 1) l with
    | true =>
      rw [inAll_iff] at e
      exact ev_pos rfl (Ev.bind (spec_paAll.ev l _ (by omega) hl (fun x hx => (e x hx).1)) (Ev.now _))
    | false => exact ev_neg (by decide) (Ev.now _)
  · rw [decide_eq_false h8]
    exact ev_neg (by omega) (Ev.now _)

theorem spec_IsParking.ev (l : List Int) (hl : l.length ≤ 1048576) : Ev (fun k => spec_IsParking.f k l) (if (decide (l.length ≤ 8) && inAll 0 99 l) = true then (isPk l, true) else (false, false)) := by
  simp only [spec_IsParking.f]
  refine Ev.bind (spec_paAsked.ev l (by omega)) ?_
  cases (decide (l.length ≤ 8) && inAll 0 99 l) with
  | true => exact ev_pos rfl (Ev.bind (spec_paParking.ev l hl) (Ev.now _))
  | false => exact ev_neg (by decide) (Ev.now _)

def isBelowR (a b : List Int) : Bool × Bool := if isPk a = true then (if isPk b = true then (leAll a b, true) else (false, false)) else (false, false)

theorem impl_IsBelow.ev (a b : List Int) (ha : a.length ≤ 1048576) (hb : b.length ≤ 1048576) : Ev (fun k => impl_IsBelow.f k a b) (isBelowR a b) := by
  simp only [impl_IsBelow.f]
  unfold isBelowR
  refine Ev.bind (impl_isParking.ev a ha) ?_
  cases isPk a with
  | false => exact ev_neg (by decide) (Ev.now _)
  | true =>
    refine ev_pos rfl (Ev.bind (impl_isParking.ev b hb) ?_)
    cases isPk b with
    | false => exact ev_neg (by decide) (Ev.now _)
    | true => exact ev_pos rfl (ev_pos (by omega) (Ev.now _))

theorem ev_ite {α : Type} {c : Prop} [Decidable c] {g f : Nat → Option α} {r : α} (h : c → Ev g r) (k : ¬ c → Ev f r) : Ev (fun n => if c then g n else f n) r := by
  by_cases e : c
  · exact ev_pos e (h e)
  · exact ev_neg e (k e)
theorem u8_of_wf (x : Int) (h : (Lit.int .u8 x).wf = true) : 0 ≤ x ∧ x ≤ 255 := by
  simp only [Lit.wf, Bool.and_eq_true, decide_eq_true_eq] at h
  have h1 : IntKind.min .u8 = 0 := by decide
  have h2 : IntKind.max .u8 = 255 := by decide
  rw [h1, h2] at h
  exact h

theorem leAll_iff : ∀ (a b : List Int), leAll a b = true ↔ ptLe a b
  | [], [] => by simp [leAll, ptLe]
  | x :: a, y :: b => by
    simp only [leAll, ptLe, Bool.and_eq_true, decide_eq_true_eq, leAll_iff a b]
  | [], y :: b => by simp [leAll, ptLe]
  | x :: a, [] => by simp [leAll, ptLe]
theorem isBelow_pk (a b : List Int) (ha : isPk a = true) (hb : isPk b = true) : Ev (fun k => impl_IsBelow.f k a b) (leAll a b, true) := by
  have h1 := ((isPk_parts a).mp ha).1
  have h2 := ((isPk_parts b).mp hb).1
  refine ev_val (impl_IsBelow.ev a b (by omega) (by omega)) ?_
  unfold isBelowR
  rw [if_pos ha, if_pos hb]
theorem drv_tail (p : Int) : ∀ (l out r : List Int), drv p out l = some r → ∃ s, r = out ++ s ∧ ptLe l s
  | [], out, r, h => by
    simp only [drv, Option.some.injEq] at h
    exact ⟨[], by simp [h], trivial⟩
  | x :: l, out, r, h => by
    simp only [drv] at h
    by_cases hl : land out p x < p
    · rw [if_pos hl] at h
      obtain ⟨s, e, hs⟩ := drv_tail p l _ r h
      exact ⟨land out p x :: s, by rw [e, List.append_assoc]; rfl, land_ge out p x, hs⟩
    · rw [if_neg hl] at h
      cases h
/-- where the cars of a parking function drive to is a parking function, nowhere less -/
theorem drv_pk (a : List Int) (h : isPk a = true) : ∃ r, drv (a.length : Int) [] a = some r ∧ isPk r = true ∧ ptLe a r := by
  obtain ⟨h8, hx, hp⟩ := (isPk_parts a).mp h
  unfold allPark at hp
  obtain ⟨r, hr⟩ := Option.isSome_iff_exists.mp hp
  obtain ⟨s, es, hs⟩ := drv_tail _ a [] r hr
  rw [List.nil_append] at es
  subst es
  have hP := drv_park (a.length : Int) a [] [] r (fun x h => (hx x h).1) (Park.nil _) hr
  have hl := ptLe_len a r hs
  have hin : ∀ x ∈ r, 0 ≤ x ∧ x < (r.length : Int) := fun x hx => by
    have h1 := hP.low x hx
    have h2 := hP.high x hx
    omega
  refine ⟨r, hr, (isPk_parts r).mpr ⟨by omega, hin, (park_iff r r.length hin).mpr (fun j j0 j1 => ?_)⟩, hs⟩
  have := ge_nodup r (r.length : Int) hP.nodup (fun x hx => (hin x hx).2) ((r.length : Int) - j).toNat j (by omega)
  omega

end Go.Proofs.Ytdiohjdfiambhaa.QFnParkingDecided
