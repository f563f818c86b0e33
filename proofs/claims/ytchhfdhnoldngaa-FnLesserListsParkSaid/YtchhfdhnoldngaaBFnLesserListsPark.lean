/- Proved here: what the Lean functions printed for the Go functions of law FnLesserListsPark compute, in words of lists and whole numbers, for lists shorter than 2^62. -/
import Derived.Test.YtchhfdhnoldngaaQFnLesserListsParkx
import Derived.Test.YtchhfdhnoldngaaMDrive
import Derived.Test.YtchhfdhnoldngaaMCrit
import Derived.Test.YtchhfdhnoldngaaMLesser
namespace Go.Proofs.Ytchhfdhnoldngaa.QFnLesserListsPark
open Go.RowKit Go.Proofs.YtchhfdhnoldngaaW.PrintWords Go.Proofs.YtchhfdhnoldngaaW.PrintLast Go.Proofs.Ytchhfdhnoldngaa.Math
set_option linter.unusedVariables false
set_option linter.unusedSimpArgs false

theorem ev_pos {α : Type} {c : Prop} [Decidable c] {g f : Nat → Option α} {r : α} (h : c) (k : Ev g r) : Ev (fun n => if c then g n else f n) r := by
  obtain ⟨K, hK⟩ := k
  exact ⟨K, fun n hn => by simp only [if_pos h]; exact hK n hn⟩
theorem ev_neg {α : Type} {c : Prop} [Decidable c] {g f : Nat → Option α} {r : α} (h : ¬ c) (k : Ev f r) : Ev (fun n => if c then g n else f n) r := by
  obtain ⟨K, hK⟩ := k
  exact ⟨K, fun n hn => by simp only [if_neg h]; exact hK n hn⟩
theorem ev_eq {α : Type} {g : Option α} {r : α} (h : g = some r) : Ev (fun _ => g) r := ⟨0, fun _ _ => h⟩
theorem ev_val {α : Type} {g : Nat → Option α} {r q : α} (h : Ev g r) (e : r = q) : Ev g q := e ▸ h
theorem wrap_nat (i : Nat) (h : i < 4611686018427387904) : wrap64 ((i : Int) + 1) = ((i + 1 : Nat) : Int) := by
  unfold wrap64
  omega
theorem wrap_id (x : Int) (h : -9223372036854775808 ≤ x) (h' : x ≤ 9223372036854775807) : wrap64 x = x := by
  unfold wrap64
  omega
theorem rd_nat (l : List Int) (i : Nat) (h : i < l.length) : rd l (i : Int) = l[i] := by
  simp [rd, List.getD_eq_getElem?_getD, h]
theorem rd_int (l : List Int) (x : Int) (h0 : 0 ≤ x) (h : x < l.length) : rd l x = l[x.toNat]'(by omega) := by
  have e : x = ((x.toNat : Nat) : Int) := by omega
  have h2 : x.toNat < l.length := by omega
  rw [show rd l x = rd l ((x.toNat : Nat) : Int) by rw [← e]]
  exact rd_nat l x.toNat h2
/-- m, m + 1, .., n numbers -/
def marks : Int → Nat → List Int
  | _, 0 => []
  | m, n + 1 => m :: marks (m + 1) n
theorem marks_len : ∀ (n : Nat) (m : Int), (marks m n).length = n
  | 0, _ => rfl
  | n + 1, m => by simp [marks, marks_len n]
theorem take_set_succ (y l : List Int) (i : Nat) (hi : i < l.length) (hy : y.length = l.length) (h : y.take i = l.take i) : (y.set i l[i]).take (i + 1) = l.take (i + 1) := by
  rw [List.take_succ_eq_append_getElem (by simp; omega), List.take_succ_eq_append_getElem hi, List.take_set_of_le (Nat.le_refl i), h, List.getElem_set_self]
/-- all numbers lie from lo to hi -/
def inAll (lo hi : Int) (l : List Int) : Bool := l.all fun x => decide (lo ≤ x) && decide (x ≤ hi)
theorem inAll_iff (lo hi : Int) (l : List Int) : inAll lo hi l = true ↔ ∀ x ∈ l, lo ≤ x ∧ x ≤ hi := by
  simp [inAll]

theorem spec_l1In.is (x lo hi : Int) : spec_l1In.f x lo hi = some (decide (lo ≤ x) && decide (x ≤ hi)) := by
  unfold spec_l1In.f
  by_cases h : x ≥ lo
  · rw [if_pos h, decide_eq_true (show lo ≤ x from h), Bool.true_and]
  · rw [if_neg h, decide_eq_false (show ¬ lo ≤ x from h), Bool.false_and]

theorem spec_l1All.evl (lo hi : Int) (l : List Int) (hl : l.length < 4611686018427387904) (d : Nat) : ∀ (i : Nat), i + d = l.length → Ev (fun k => spec_l1All.l0 k lo hi l (l.length : Int) (i : Int)) (inAll lo hi (l.drop i)) := by
  induction d with
  | zero =>
    intro i hi0
    refine Ev.step (fun k => spec_l1All.l0.eq_2 ..) ?_
    refine ev_neg (by omega) ?_
    refine ev_val (Ev.now _) ?_
    rw [List.drop_of_length_le (by omega)]
    rfl
  | succ d ih =>
    intro i hi0
    refine Ev.step (fun k => spec_l1All.l0.eq_2 ..) ?_
    refine ev_pos (by omega) (ev_pos (by omega) (ev_pos (by omega) ?_))
    rw [wrap_nat i (by omega), rd_nat l i (by omega), List.drop_eq_getElem_cons (by omega), spec_l1In.is]
    refine Ev.bind (Ev.now _) ?_
    have u : inAll lo hi (l[i] :: l.drop (i + 1)) = ((decide (lo ≤ l[i]) && decide (l[i] ≤ hi)) && inAll lo hi (l.drop (i + 1))) := rfl
    rw [u]
    generalize (decide (lo ≤ l[i]) && decide (l[i] ≤ hi)) = b
    cases b with
    | true => exact ev_pos rfl (ih (i + 1) (by omega))
    | false => exact ev_neg (by decide) (Ev.now _)
theorem spec_l1All.ev (l : List Int) (lo hi : Int) (hl : l.length < 4611686018427387904) : Ev (fun k => spec_l1All.f k l lo hi) (inAll lo hi l) := by
  simp only [spec_l1All.f]
  exact spec_l1All.evl lo hi l hl l.length 0 (by omega)

theorem spec_l1Has.evl (x : Int) (l : List Int) (hl : l.length < 4611686018427387904) (d : Nat) : ∀ (i : Nat), i + d = l.length → Ev (fun k => spec_l1Has.l0 k x l (l.length : Int) (i : Int)) (decide (x ∈ l.drop i)) := by
  induction d with
  | zero =>
    intro i hi
    refine Ev.step (fun k => spec_l1Has.l0.eq_2 ..) ?_
    refine ev_neg (by omega) ?_
    refine ev_val (Ev.now _) ?_
    rw [List.drop_of_length_le (by omega)]
    simp
  | succ d ih =>
    intro i hi
    refine Ev.step (fun k => spec_l1Has.l0.eq_2 ..) ?_
    refine ev_pos (by omega) (ev_pos (by omega) (ev_pos (by omega) ?_))
    rw [wrap_nat i (by omega), rd_nat l i (by omega), List.drop_eq_getElem_cons (by omega)]
    by_cases e : l[i] = x
    · refine ev_pos e (ev_val (Ev.now _) ?_)
      simp [e]
    · refine ev_neg e (ev_val (ih (i + 1) (by omega)) ?_)
      simp only [List.mem_cons, show ¬ x = l[i] from fun h => e h.symm, false_or]
theorem spec_l1Has.ev (l : List Int) (x : Int) (hl : l.length < 4611686018427387904) : Ev (fun k => spec_l1Has.f k l x) (decide (x ∈ l)) := by
  simp only [spec_l1Has.f]
  exact spec_l1Has.evl x l hl l.length 0 (by omega)

theorem spec_paDrive.evl (p : Int) (hp : p ≤ 1048576) (l : List Int) (hl : l.length ≤ 1048576) (hx : ∀ x ∈ l, -1048576 ≤ x) (d : Nat) : ∀ (i : Nat) (out : List Int), i + d = l.length → out.length = i → Ev (fun k => spec_paDrive.l0 k p out l (l.length : Int) (i : Int)) (paD p out (l.drop i)) := by
  induction d with
  | zero =>
    intro i out hi ho
    refine Ev.step (fun k => spec_paDrive.l0.eq_2 ..) ?_
    refine ev_neg (by omega) ?_
    refine ev_val (Ev.now _) ?_
    rw [List.drop_of_length_le (by omega)]
    rfl
  | succ d ih =>
    intro i out hi ho
    refine Ev.step (fun k => spec_paDrive.l0.eq_2 ..) ?_
    refine ev_pos (by omega) (ev_pos (by omega) (ev_pos (by omega) ?_))
    rw [rd_nat l i (by omega), List.drop_eq_getElem_cons (by omega)]
    have hxi := hx l[i] (List.getElem_mem _)
    have inner : ∀ (m : Nat) (x : Int), (p - x).toNat = m → -1048576 ≤ x → Ev (fun k => spec_paDrive.l1 k p out x l (l.length : Int) (i : Int)) (paD p (out ++ [if land out p x < p then land out p x else -1]) (l.drop (i + 1))) := by
      intro m
      induction m with
      | zero =>
        intro x hm hx0
        refine Ev.step (fun k => spec_paDrive.l1.eq_2 ..) ?_
        refine ev_neg (by omega) (ev_pos (by omega) (ev_pos (by omega) ?_))
        rw [wrap_nat i (by omega), land_stop out p x (by omega), if_neg (by omega)]
        exact ih (i + 1) _ (by omega) (by simp; omega)
      | succ m ihm =>
        intro x hm hx0
        refine Ev.step (fun k => spec_paDrive.l1.eq_2 ..) ?_
        refine ev_pos (by omega) (Ev.bind (spec_l1Has.ev out x (by omega)) ?_)
        by_cases hh : x ∈ out
        · rw [decide_eq_true hh, land_go out p x (by omega) hh]
          refine ev_pos rfl ?_
          rw [wrap_id (x + 1) (by omega) (by omega)]
          exact ihm (x + 1) (by omega) (by omega)
        · rw [decide_eq_false hh, land_stop out p x (fun h => hh h.2), if_pos (by omega)]
          refine ev_neg (by decide) (ev_neg (by omega) (ev_pos (by omega) ?_))
          rw [wrap_nat i (by omega)]
          exact ih (i + 1) _ (by omega) (by simp; omega)
    exact inner _ l[i] rfl hxi
theorem spec_paDrive.ev (l : List Int) (p : Int) (hp : p ≤ 1048576) (hl : l.length ≤ 1048576) (hx : ∀ x ∈ l, -1048576 ≤ x) : Ev (fun k => spec_paDrive.f k l p) (paD p [] l) := by
  simp only [spec_paDrive.f]
  exact spec_paDrive.evl p hp l hl hx l.length 0 [] (by omega) rfl

theorem paD_length (p : Int) : ∀ (l out : List Int), (paD p out l).length = out.length + l.length
  | [], out => by simp [paD]
  | x :: l, out => by
    have := paD_length p l (out ++ [if land out p x < p then land out p x else -1])
    simp only [paD, this, List.length_append, List.length_cons, List.length_nil]
    omega

theorem spec_paAll.ev (l : List Int) (p : Int) (hp : p ≤ 1048576) (hl : l.length ≤ 1048576) (hx : ∀ x ∈ l, 0 ≤ x) : Ev (fun k => spec_paAll.f k l p) (allPark l p) := by
  simp only [spec_paAll.f]
  refine Ev.bind (spec_paDrive.ev l p hp hl (fun x h => by have := hx x h; omega)) (Ev.bind (spec_l1Has.ev _ _ (by rw [paD_length]; simp; omega)) ?_)
  refine ev_val (Ev.now _) ?_
  rw [allPark_paD l p hx]
  simp

theorem isPk_iff (l : List Int) : isPk l = true ↔ l.length ≤ 8 ∧ (∀ x ∈ l, 0 ≤ x ∧ x < l.length) ∧ allPark l l.length = true := by
  simp only [isPk, Bool.and_eq_true, decide_eq_true_eq, List.all_eq_true]
  constructor
  · rintro ⟨⟨h1, h2⟩, h3⟩
    exact ⟨h1, fun x hx => by have := h2 x hx; omega, h3⟩
  · rintro ⟨h1, h2, h3⟩
    exact ⟨⟨h1, fun x hx => by have := h2 x hx; omega⟩, h3⟩
theorem spec_paParking.ev (l : List Int) (hl : l.length ≤ 1048576) : Ev (fun k => spec_paParking.f k l) (isPk l) := by
  simp only [spec_paParking.f]
  unfold isPk
  by_cases h8 : l.length ≤ 8
  · rw [decide_eq_true h8, wrap_id _ (by omega) (by omega)]
    refine ev_pos (by omega) (Ev.bind (spec_l1All.ev l 0 _ (by omega)) ?_)
    have u : inAll 0 ((l.length : Int) - 1) l = l.all fun x => decide (0 ≤ x) && decide (x ≤ (l.length : Int) - 1) := rfl
    rw [← u]
    cases e : inAll 0 ((l.length : Int) - 1) l with
    | true =>
      rw [inAll_iff] at e
      exact ev_pos rfl (Ev.bind (spec_paAll.ev l _ (by omega) hl (fun x hx => (e x hx).1)) (Ev.now _))
    | false => exact ev_neg (by decide) (Ev.now _)
  · rw [decide_eq_false h8]
    exact ev_neg (by omega) (Ev.now _)

theorem spec_l1Least.is (a b : Int) : ∃ c, spec_l1Least.f a b = some c ∧ (c = a ∨ c = b) ∧ c ≤ a ∧ c ≤ b := by
  unfold spec_l1Least.f
  by_cases h : a < b
  · rw [if_pos h]
    exact ⟨a, rfl, .inl rfl, by omega, by omega⟩
  · rw [if_neg h]
    exact ⟨b, rfl, .inr rfl, by omega, by omega⟩

theorem spec_l1Most.is (a b : Int) : ∃ c, spec_l1Most.f a b = some c ∧ (c = a ∨ c = b) ∧ a ≤ c ∧ b ≤ c := by
  unfold spec_l1Most.f
  by_cases h : a > b
  · rw [if_pos h]
    exact ⟨a, rfl, .inl rfl, by omega, by omega⟩
  · rw [if_neg h]
    exact ⟨b, rfl, .inr rfl, by omega, by omega⟩

def mix1 (low : Bool) (x y : Int) : Int := if low = true then (if x < y then x else y) else (if x > y then x else y)
def mixL (low : Bool) (a b : List Int) : List Int := List.zipWith (mix1 low) a b
def mixR (a b : List Int) (low : Bool) : List Int × Bool := if isPk a = true then (if isPk b = true then (if a.length = b.length then (if isPk (mixL low a b) = true then (mixL low a b, true) else ([], false)) else ([], false)) else ([], false)) else ([], false)
theorem mixR_len (a b : List Int) (low : Bool) : (mixR a b low).1.length ≤ a.length := by
  unfold mixR mixL
  split
  · split
    · split
      · split
        · simp only [List.length_zipWith]; omega
        · simp
      · simp
    · simp
  · simp

theorem spec_MixOf.evl (a b : List Int) (low : Bool) (h : a.length = b.length) (ha : a.length ≤ 1048576) (d : Nat) : ∀ (i : Nat) (out : List Int), i + d = a.length → out.length = i → Ev (fun k => spec_MixOf.l0 k b low out a (a.length : Int) (i : Int)) (if isPk (out ++ mixL low (a.drop i) (b.drop i)) = true then (out ++ mixL low (a.drop i) (b.drop i), true) else ([], false)) := by
  induction d with
  | zero =>
    intro i out hi ho
    refine Ev.step (fun k => spec_MixOf.l0.eq_2 ..) ?_
    rw [List.drop_of_length_le (l := a) (by omega), show out ++ mixL low [] (b.drop i) = out by simp [mixL]]
    refine ev_neg (by omega) (Ev.bind (spec_paParking.ev out (by omega)) ?_)
    cases isPk out with
    | true => exact ev_pos rfl (Ev.now _)
    | false => exact ev_neg (by decide) (Ev.now _)
  | succ d ih =>
    intro i out hi ho
    refine Ev.step (fun k => spec_MixOf.l0.eq_2 ..) ?_
    rw [wrap_nat i (by omega), rd_nat a i (by omega), rd_nat b i (by omega), List.drop_eq_getElem_cons (l := a) (by omega), List.drop_eq_getElem_cons (l := b) (by omega)]
    have e : mixL low (a[i] :: a.drop (i + 1)) (b[i]'(by omega) :: b.drop (i + 1)) = mix1 low a[i] (b[i]'(by omega)) :: mixL low (a.drop (i + 1)) (b.drop (i + 1)) := rfl
    rw [e, show ∀ z : List Int, out ++ mix1 low a[i] (b[i]'(by omega)) :: z = (out ++ [mix1 low a[i] (b[i]'(by omega))]) ++ z from fun z => by rw [List.append_assoc]; rfl]
    refine ev_pos (by omega) (ev_pos (by omega) (ev_pos (by omega) ?_))
    cases low with
    | true =>
      refine ev_pos rfl (ev_pos (by omega) ?_)
      
      refine Ev.bind (ev_eq (show spec_l1Least.f _ _ = some (mix1 true a[i] (b[i]'(by omega))) by unfold spec_l1Least.f mix1; split <;> rfl)) (ev_pos (by omega) ?_)
      exact ih (i + 1) _ (by omega) (by simp; omega)
    | false =>
      refine ev_neg (by decide) (ev_pos (by omega) ?_)
      
      refine Ev.bind (ev_eq (show spec_l1Most.f _ _ = some (mix1 false a[i] (b[i]'(by omega))) by unfold spec_l1Most.f mix1; split <;> rfl)) (ev_pos (by omega) ?_)
      exact ih (i + 1) _ (by omega) (by simp; omega)
theorem spec_MixOf.ev (a b : List Int) (low : Bool) (ha : a.length ≤ 1048576) (hb : b.length ≤ 1048576) : Ev (fun k => spec_MixOf.f k a b low) (mixR a b low) := by
  simp only [spec_MixOf.f]
  unfold mixR
  refine Ev.bind (spec_paParking.ev a ha) ?_
  cases isPk a with
  | false => exact ev_neg (by decide) (Ev.step (fun k => spec_MixOf.j0.eq_2 ..) (ev_pos rfl (Ev.now _)))
  | true =>
    refine ev_pos rfl (Ev.bind (spec_paParking.ev b hb) ?_)
    cases isPk b with
    | false => exact ev_neg (by decide) (Ev.step (fun k => spec_MixOf.j0.eq_2 ..) (ev_pos rfl (Ev.now _)))
    | true =>
      refine ev_pos rfl (Ev.step (fun k => spec_MixOf.j0.eq_2 ..) ?_)
      rw [if_pos rfl, if_pos rfl]
      by_cases h : a.length = b.length
      · rw [if_pos h]
        have g := spec_MixOf.evl a b low h ha a.length 0 [] (by omega) rfl
        exact ev_neg (by simp [h]) (by simpa using g)
      · rw [if_neg h]
        exact ev_pos (by simp; omega) (Ev.now _)

theorem impl_between.is (x lo hi : Int) : impl_between.f x lo hi = some (decide (lo ≤ x) && decide (x ≤ hi)) := by
  unfold impl_between.f
  by_cases h : x ≥ lo
  · rw [if_pos h, decide_eq_true (show lo ≤ x from h), Bool.true_and]
  · rw [if_neg h, decide_eq_false (show ¬ lo ≤ x from h), Bool.false_and]

theorem impl_areBetween.is (l : List Int) (lo hi : Int) (hl : l.length ≤ 35184372088832) : impl_areBetween.f l lo hi = some (inAll lo hi l) := by
  unfold impl_areBetween.f
  rw [if_pos hl]
  congr 1
  unfold inAll out_b
  induction l with
  | nil => rfl
  | cons x l ih =>
    rw [List.any_cons, List.all_cons, ← ih (by simp at hl; omega)]
    cases (decide (lo ≤ x) && decide (x ≤ hi)) <;> simp

theorem impl_areCars.is (l : List Int) (hl : l.length ≤ 35184372088832) : impl_areCars.f l = some (decide (l.length ≤ 8) && inAll 0 99 l) := by
  unfold impl_areCars.f
  by_cases h8 : l.length ≤ 8
  · rw [decide_eq_true h8, if_pos (by omega), impl_areBetween.is l 0 99 hl]
    rfl
  · rw [decide_eq_false h8, if_neg (by omega)]
    rfl

def drvR (o : Option (List Int)) : List Int × Bool := match o with
  | some r => (r, true)
  | none => ([], false)
theorem drvR_snd (l : List Int) (p : Int) : (drvR (drv p [] l)).2 = allPark l p := by
  unfold drvR allPark
  cases drv p [] l <;> rfl

/-- the table t tells which places are in out -/
def Tk (p : Int) (out : List Int) (t : List Bool) : Prop := t.length = p.toNat ∧ ∀ j : Int, 0 ≤ j → j < p → (rdOf false t j = true ↔ j ∈ out)
theorem Tk_set (p : Int) (out : List Int) (t : List Bool) (h : Tk p out t) (x : Int) (h0 : 0 ≤ x) (h1 : x < p) : Tk p (out ++ [x]) (t.set x.toNat true) := by
  refine ⟨by rw [List.length_set]; exact h.1, fun j j0 j1 => ?_⟩
  have hl := h.1
  have hj := h.2 j j0 j1
  unfold rdOf at hj ⊢
  rw [List.getD_eq_getElem?_getD] at hj ⊢
  rw [List.getElem?_set]
  by_cases e : x.toNat = j.toNat
  · have e' : j = x := by omega
    subst e'
    rw [if_pos rfl, if_pos (by omega)]
    simp
  · rw [if_neg e]
    rw [hj]
    have e' : ¬ j = x := by omega
    simp [e']

theorem impl_drive.evl (p : Int) (hp : p ≤ 1048576) (l : List Int) (hl : l.length ≤ 1048576) (hx : ∀ x ∈ l, 0 ≤ x ∧ x ≤ 1048576) (d : Nat) : ∀ (i : Nat) (out : List Int) (t : List Bool), i + d = l.length → out.length = i → Tk p out t → Ev (fun k => impl_drive.l0 k p t out l (l.length : Int) (i : Int)) (drvR (drv p out (l.drop i))) := by
  induction d with
  | zero =>
    intro i out t hi ho ht
    refine Ev.step (fun k => impl_drive.l0.eq_2 ..) ?_
    refine ev_neg (by omega) ?_
    refine ev_val (Ev.now _) ?_
    rw [List.drop_of_length_le (by omega)]
    rfl
  | succ d ih =>
    intro i out t hi ho ht
    refine Ev.step (fun k => impl_drive.l0.eq_2 ..) ?_
    refine ev_pos (by omega) (ev_pos (by omega) (ev_pos (by omega) ?_))
    rw [rd_nat l i (by omega), List.drop_eq_getElem_cons (by omega)]
    have hxi := hx l[i] (List.getElem_mem _)
    have inner : ∀ (m : Nat) (x : Int), (p - x).toNat = m → 0 ≤ x → x ≤ 1048576 → Ev (fun k => impl_drive.l1 k p t out x l (l.length : Int) (i : Int)) (drvR (drv p out (x :: l.drop (i + 1)))) := by
      intro m
      induction m with
      | zero =>
        intro x hm hx0 hx1
        refine Ev.step (fun k => impl_drive.l1.eq_2 ..) ?_
        refine ev_neg (by omega) (ev_pos (by omega) ?_)
        refine ev_val (Ev.now _) ?_
        simp only [drv]
        rw [land_stop out p x (by omega), if_neg (by omega)]
        rfl
      | succ m ihm =>
        intro x hm hx0 hx1
        have hlen := ht.1
        refine Ev.step (fun k => impl_drive.l1.eq_2 ..) ?_
        refine ev_pos (by omega) (ev_pos (by omega) (ev_pos (by omega) ?_))
        by_cases hh : x ∈ out
        · refine ev_pos ((ht.2 x hx0 (by omega)).mpr hh) ?_
          rw [wrap_id (x + 1) (by omega) (by omega)]
          refine ev_val (ihm (x + 1) (by omega) (by omega) (by omega)) ?_
          simp only [drv]
          rw [land_go out p x (by omega) hh]
        · refine ev_neg (fun h => hh ((ht.2 x hx0 (by omega)).mp h)) (ev_neg (by omega) (ev_pos (by omega) ?_))
          rw [wrap_nat i (by omega)]
          refine ev_val (ih (i + 1) _ _ (by omega) (by simp; omega) (Tk_set p out t ht x hx0 (by omega))) ?_
          simp only [drv]
          rw [land_stop out p x (fun h => hh h.2), if_pos (by omega)]
    exact inner _ l[i] rfl hxi.1 hxi.2
theorem impl_drive.ev (l : List Int) (p : Int) (hp0 : 0 ≤ p) (hp : p ≤ 1048576) (hl : l.length ≤ 1048576) (hx : ∀ x ∈ l, 0 ≤ x ∧ x ≤ 1048576) : Ev (fun k => impl_drive.f k l p) (drvR (drv p [] l)) := by
  simp only [impl_drive.f]
  refine ev_pos hp0 (ev_pos (by omega) ?_)
  refine impl_drive.evl p hp l hl hx l.length 0 [] _ (by omega) rfl ⟨by simp, fun j j0 j1 => ?_⟩
  unfold rdOf
  rw [List.getD_eq_getElem?_getD, List.getElem?_replicate]
  split <;> simp

theorem isPk_of_cars (l : List Int) (h8 : l.length ≤ 8) (h0 : ∀ x ∈ l, 0 ≤ x) : isPk l = allPark l l.length := by
  cases e : allPark l l.length with
  | false => simp [isPk, e]
  | true =>
    unfold allPark at e
    obtain ⟨r, hr⟩ := Option.isSome_iff_exists.mp e
    have h := drv_lt l.length l [] r hr
    have e' : allPark l l.length = true := by unfold allPark; exact e
    simp only [isPk, e', Bool.and_true, Bool.and_eq_true, decide_eq_true_eq, List.all_eq_true]
    exact ⟨h8, fun x hx => ⟨h0 x hx, by have := h x hx; omega⟩⟩
theorem isPk_no_cars (l : List Int) (h : ¬ (decide (l.length ≤ 8) && inAll 0 99 l) = true) : isPk l = false := by
  cases e : isPk l with
  | false => rfl
  | true =>
    exfalso
    apply h
    simp only [isPk, Bool.and_eq_true, decide_eq_true_eq, List.all_eq_true] at e
    rw [Bool.and_eq_true, decide_eq_true_eq, inAll_iff]
    exact ⟨e.1.1, fun x hx => by have := e.1.2 x hx; omega⟩

theorem impl_isParking.ev (l : List Int) (hl : l.length ≤ 1048576) : Ev (fun k => impl_isParking.f k l) (isPk l) := by
  simp only [impl_isParking.f]
  refine Ev.bind (ev_eq (impl_areCars.is l (by omega))) ?_
  cases e : (decide (l.length ≤ 8) && inAll 0 99 l) with
  | true =>
    rw [Bool.and_eq_true, decide_eq_true_eq, inAll_iff] at e
    refine ev_pos rfl (Ev.bind (impl_drive.ev l _ (by omega) (by omega) hl (fun x hx => by have := e.2 x hx; omega)) ?_)
    refine ev_val (Ev.now _) ?_
    rw [drvR_snd]
    exact (isPk_of_cars l e.1 (fun x hx => (e.2 x hx).1)).symm
  | false =>
    refine ev_neg (by decide) (ev_val (Ev.now _) ?_)
    exact (isPk_no_cars l (by rw [e]; decide)).symm

theorem impl_MixOf.evl (a b : List Int) (low : Bool) (h : a.length = b.length) (ha : a.length ≤ 1048576) (d : Nat) : ∀ (i : Nat) (out : List Int), i + d = a.length → out.length = i → Ev (fun k => impl_MixOf.l0 k b low out a (a.length : Int) (i : Int)) (if isPk (out ++ mixL low (a.drop i) (b.drop i)) = true then (out ++ mixL low (a.drop i) (b.drop i), true) else ([], false)) := by
  induction d with
  | zero =>
    intro i out hi ho
    refine Ev.step (fun k => impl_MixOf.l0.eq_2 ..) ?_
    rw [List.drop_of_length_le (l := a) (by omega), show out ++ mixL low [] (b.drop i) = out by simp [mixL]]
    refine ev_neg (by omega) (Ev.bind (impl_isParking.ev out (by omega)) ?_)
    cases isPk out with
    | true => exact ev_pos rfl (Ev.now _)
    | false => exact ev_neg (by decide) (Ev.now _)
  | succ d ih =>
    intro i out hi ho
    refine Ev.step (fun k => impl_MixOf.l0.eq_2 ..) ?_
    rw [wrap_nat i (by omega), rd_nat a i (by omega), rd_nat b i (by omega), List.drop_eq_getElem_cons (l := a) (by omega), List.drop_eq_getElem_cons (l := b) (by omega)]
    have e : mixL low (a[i] :: a.drop (i + 1)) (b[i]'(by omega) :: b.drop (i + 1)) = mix1 low a[i] (b[i]'(by omega)) :: mixL low (a.drop (i + 1)) (b.drop (i + 1)) := rfl
    rw [e, show ∀ z : List Int, out ++ mix1 low a[i] (b[i]'(by omega)) :: z = (out ++ [mix1 low a[i] (b[i]'(by omega))]) ++ z from fun z => by rw [List.append_assoc]; rfl]
    refine ev_pos (by omega) (ev_pos (by omega) (ev_pos (by omega) ?_))
    cases low with
    | true =>
      refine ev_pos rfl (ev_pos (by omega) ?_)
      rw [show mn a[i] (b[i]'(by omega)) = mix1 true a[i] (b[i]'(by omega)) by simp only [mn, mix1, if_true]; split <;> split <;> omega]
      refine ev_pos (by omega) ?_
      exact ih (i + 1) _ (by omega) (by simp; omega)
    | false =>
      refine ev_neg (by decide) (ev_pos (by omega) ?_)
      rw [show mx a[i] (b[i]'(by omega)) = mix1 false a[i] (b[i]'(by omega)) by simp only [mx, mix1, Bool.false_eq_true, if_false]; split <;> split <;> omega]
      refine ev_pos (by omega) ?_
      exact ih (i + 1) _ (by omega) (by simp; omega)
theorem impl_MixOf.ev (a b : List Int) (low : Bool) (ha : a.length ≤ 1048576) (hb : b.length ≤ 1048576) : Ev (fun k => impl_MixOf.f k a b low) (mixR a b low) := by
  simp only [impl_MixOf.f]
  unfold mixR
  refine Ev.bind (impl_isParking.ev a ha) ?_
  cases isPk a with
  | false => exact ev_neg (by decide) (Ev.step (fun k => impl_MixOf.j0.eq_2 ..) (ev_pos rfl (Ev.now _)))
  | true =>
    refine ev_pos rfl (Ev.bind (impl_isParking.ev b hb) ?_)
    cases isPk b with
    | false => exact ev_neg (by decide) (Ev.step (fun k => impl_MixOf.j0.eq_2 ..) (ev_pos rfl (Ev.now _)))
    | true =>
      refine ev_pos rfl (Ev.step (fun k => impl_MixOf.j0.eq_2 ..) ?_)
      rw [if_pos rfl, if_pos rfl]
      by_cases h : a.length = b.length
      · rw [if_pos h]
        have g := impl_MixOf.evl a b low h ha a.length 0 [] (by omega) rfl
        exact ev_neg (by simp [h]) (by simpa using g)
      · rw [if_neg h]
        exact ev_pos (by simp; omega) (Ev.now _)

theorem laws_big.is (a b : List Int) : laws_big.f a b = some true ∨ (laws_big.f a b = some false ∧ a.length + b.length ≤ 1048576) := by
  unfold laws_big.f
  by_cases c : (a.length : Int) > 1048576
  · rw [if_pos c]
    exact .inl rfl
  · rw [if_neg c, wrap_id _ (by omega) (by omega)]
    by_cases d : (b.length : Int) > 1048576 - (a.length : Int)
    · rw [decide_eq_true d]
      exact .inl rfl
    · rw [decide_eq_false d]
      exact .inr ⟨rfl, by omega⟩

theorem spec_l1Own.is (l : List Int) (hl : l.length ≤ 1048576) : spec_l1Own.f l = some l := by
  simp only [spec_l1Own.f, Option.bind_some, List.length_nil, Nat.zero_add, List.nil_append]
  rw [if_pos (by omega)]

theorem and255 (x : Int) : 0 ≤ Go.bits .and .u64 x 255 ∧ Go.bits .and .u64 x 255 ≤ 255 := by
  have h : (BitVec.ofInt 64 x &&& BitVec.ofInt 64 255).toNat ≤ 255 := by
    rw [BitVec.toNat_and]
    exact Nat.and_le_right
  have e : Go.bits .and .u64 x 255 = IntKind.u64.wrap (((BitVec.ofInt 64 x &&& BitVec.ofInt 64 255).toNat : Nat) : Int) := rfl
  rw [e]
  generalize (BitVec.ofInt 64 x &&& BitVec.ofInt 64 255).toNat = m at h
  have w : IntKind.u64.wrap (m : Int) = (m : Int) := by
    simp only [IntKind.wrap, IntKind.bits, IntKind.signed, Bool.false_and, Bool.false_eq_true, if_false]
    omega
  rw [w]
  omega
/-- all are bytes, and not too many -/
def bytesOk (l : List Int) : Prop := (∀ x ∈ l, 0 ≤ x ∧ x ≤ 255) ∧ l.length ≤ 1048576

theorem spec_l1Cur_next.ok (l : List Int) (hb : bytesOk l) (p h : Int) (h0 : 0 ≤ p) (h1 : p ≤ 1099511627776) : ∃ b q g, spec_l1Cur_next.f l p h = some (b, q, g) ∧ 0 ≤ b ∧ b ≤ 255 ∧ p ≤ q ∧ q ≤ p + 1 := by
  have hl := hb.2
  unfold spec_l1Cur_next.f
  rw [wrap_id (p + 1) (by omega) (by omega)]
  by_cases c : p < (l.length : Int)
  · have hx := hb.1 (l[p.toNat]'(by omega)) (List.getElem_mem _)
    rw [if_pos c, if_pos h0, if_pos (by omega), rd_int l p h0 c, wrap_id _ (by omega) (by omega)]
    exact ⟨_, _, _, rfl, hx.1, hx.2, by omega, by omega⟩
  · rw [if_neg c, if_neg (by omega)]
    refine ⟨_, _, _, rfl, ?_, ?_, by omega, by omega⟩
    · have := and255 ((IntKind.u64.wrap ((IntKind.u64.wrap ((IntKind.u64.wrap (h * 6364136223846793005)) + 0)) + 1442695040888963407)) / 1099511627776)
      rw [wrap_id _ (by omega) (by omega)]
      exact this.1
    · have := and255 ((IntKind.u64.wrap ((IntKind.u64.wrap ((IntKind.u64.wrap (h * 6364136223846793005)) + 0)) + 1442695040888963407)) / 1099511627776)
      rw [wrap_id _ (by omega) (by omega)]
      exact this.2

theorem spec_l1Cur_pick.ok (l : List Int) (hb : bytesOk l) (p h n : Int) (h0 : 0 ≤ p) (h1 : p ≤ 1099511627000) (hn : n ≤ 1048576) : ∃ b q g, spec_l1Cur_pick.f l p h n = some (b, q, g) ∧ 0 ≤ b ∧ (b < n ∨ (n ≤ 1 ∧ b = 0)) ∧ p ≤ q ∧ q ≤ p + 2 := by
  unfold spec_l1Cur_pick.f
  by_cases c : n ≤ 1
  · rw [if_pos c]
    exact ⟨_, _, _, rfl, by omega, .inr ⟨c, rfl⟩, by omega, by omega⟩
  · rw [if_neg c]
    obtain ⟨b, q, g, e, b0, b1, q0, q1⟩ := spec_l1Cur_next.ok l hb p h h0 (by omega)
    rw [e, Option.bind_some]
    by_cases c2 : n > 200
    · rw [if_pos c2]
      obtain ⟨b2, q2, g2, e2, b20, b21, q20, q21⟩ := spec_l1Cur_next.ok l hb q g (by omega) (by omega)
      dsimp only
      rw [e2, Option.bind_some, if_neg (by omega)]
      rw [wrap_id (b * 256) (by omega) (by omega), wrap_id _ (by omega) (by omega)]
      exact ⟨_, _, _, rfl, Int.tmod_nonneg _ (by omega), .inl (Int.tmod_lt_of_pos _ (by omega)), by dsimp only; omega, by dsimp only; omega⟩
    · rw [if_neg c2, if_neg (by omega)]
      exact ⟨_, _, _, rfl, Int.tmod_nonneg _ b0, .inl (Int.tmod_lt_of_pos _ (by omega)), by dsimp only; omega, by dsimp only; omega⟩

theorem spec_l1Cur_among.ok (l : List Int) (hb : bytesOk l) (p h : Int) (m : List Int) (h0 : 0 ≤ p) (h1 : p ≤ 1099511627000) (hm : 0 < m.length) (hm2 : m.length ≤ 1000) : ∃ b q g, spec_l1Cur_among.f l p h m = some (b, q, g) ∧ b ∈ m ∧ p ≤ q ∧ q ≤ p + 2 := by
  unfold spec_l1Cur_among.f
  obtain ⟨b, q, g, e, b0, b1, q0, q1⟩ := spec_l1Cur_pick.ok l hb p h (m.length : Int) h0 h1 (by omega)
  rw [e, Option.bind_some, if_pos b0, if_pos (by omega)]
  refine ⟨_, _, _, rfl, ?_, q0, q1⟩
  rw [rd_int m b b0 (by omega)]
  exact List.getElem_mem _

/-- small numbers -/
def smalls (l : List Int) : Prop := ∀ x ∈ l, -1 ≤ x ∧ x ≤ 1000
theorem smalls_app {a b : List Int} (ha : smalls a) (hb : smalls b) : smalls (a ++ b) := fun x hx => (List.mem_append.mp hx).elim (ha x) (hb x)
theorem smalls_one {x : Int} (h0 : -1 ≤ x) (h1 : x ≤ 1000) : smalls [x] := fun y hy => by
  simp only [List.mem_singleton] at hy
  omega
theorem smalls_take {a : List Int} (ha : smalls a) (n : Nat) : smalls (a.take n) := fun x hx => ha x (List.mem_of_mem_take hx)
theorem smalls_drop {a : List Int} (ha : smalls a) (n : Nat) : smalls (a.drop n) := fun x hx => ha x (List.mem_of_mem_drop hx)
theorem smalls_set {a : List Int} (ha : smalls a) (n : Nat) {x : Int} (h0 : -1 ≤ x) (h1 : x ≤ 1000) : smalls (a.set n x) := fun y hy => by
  rcases List.mem_or_eq_of_mem_set hy with hy | rfl
  · exact ha y hy
  · exact ⟨h0, h1⟩
theorem spec_l1Cur_park.ok1 (l : List Int) (p h : Int) : ∀ (d : Nat) (x5 : List Int), (9 - x5.length) = d → x5.length ≤ 9 → smalls x5 → ∃ r, Ev (fun k => spec_l1Cur_park.l1 k x5 l p h) (r, p, h) ∧ r.length ≤ 9 ∧ smalls r
  | 0, x5, hd, hl, hs => ⟨x5, Ev.step (fun k => spec_l1Cur_park.l1.eq_2 ..) (ev_neg (by omega) (Ev.now _)), hl, hs⟩
  | d + 1, x5, hd, hl, hs => by
    obtain ⟨r, E, h1, h2⟩ := spec_l1Cur_park.ok1 l p h d (x5 ++ [0]) (by simp; omega) (by simp; omega) (smalls_app hs (smalls_one (by omega) (by omega)))
    exact ⟨r, Ev.step (fun k => spec_l1Cur_park.l1.eq_2 ..) (ev_pos (by omega) (ev_pos (by omega) E)), h1, h2⟩
theorem spec_l1Cur_park.ok0 (l : List Int) (hb : bytesOk l) : ∀ (d : Nat) (x5 : List Int) (x6 p h : Int), x6 = (d : Int) → x5.length + d ≤ 8 → smalls x5 → 0 ≤ p → p + 4 * (d : Int) ≤ 1099511626000 → ∃ r q g, Ev (fun k => spec_l1Cur_park.l0 k x5 x6 l p h) (r, q, g) ∧ r.length ≤ 9 ∧ smalls r ∧ p ≤ q ∧ q ≤ p + 4 * (d : Int) + 20
  | 0, x5, x6, p, h, hd, hl, hs, h0, h1 => by
    have hw : wrap64 ((x5.length : Int) + 1) = (x5.length : Int) + 1 := wrap_id _ (by omega) (by omega)
    obtain ⟨t, q, g, e, t0, t1, q0, q1⟩ := spec_l1Cur_pick.ok l hb p h 20 h0 (by omega) (by omega)
    by_cases c0 : t = 0
    · obtain ⟨b, q2, g2, e2, hm, q20, q21⟩ := spec_l1Cur_among.ok l hb q g [-1, 0, (x5.length : Int), (x5.length : Int) + 1, 99, 100] (by omega) (by omega) (by simp) (by simp)
      simp only [List.mem_cons, List.not_mem_nil, or_false] at hm
      refine ⟨x5 ++ [b], q2, g2, Ev.step (fun k => spec_l1Cur_park.l0.eq_2 ..) (ev_neg (by omega) (Ev.bind (ev_eq e) (ev_pos c0 ?_))), by simp; omega, smalls_app hs (smalls_one (by omega) (by omega)), by omega, by omega⟩
      rw [hw]
      exact Ev.bind (ev_eq e2) (ev_pos (by omega) (Ev.now _))
    · by_cases c1 : t = 1
      · by_cases c2 : (x5.length : Int) > 0
        · obtain ⟨i, q2, g2, e2, i0, i1, q20, q21⟩ := spec_l1Cur_pick.ok l hb q g (x5.length : Int) (by omega) (by omega) (by omega)
          obtain ⟨v, q3, g3, e3, v0, v1, q30, q31⟩ := spec_l1Cur_pick.ok l hb q2 g2 (x5.length : Int) (by omega) (by omega) (by omega)
          refine ⟨x5.set i.toNat v, q3, g3, Ev.step (fun k => spec_l1Cur_park.l0.eq_2 ..) (ev_neg (by omega) (Ev.bind (ev_eq e) (ev_neg c0 (ev_pos c1 (ev_pos c2 (Ev.bind (ev_eq e2) (Ev.bind (ev_eq e3) (ev_pos i0 (ev_pos (by dsimp only; omega) (Ev.now _)))))))))), by simp; omega, smalls_set hs _ (by omega) (by omega), by omega, by omega⟩
        · exact ⟨x5, q, g, Ev.step (fun k => spec_l1Cur_park.l0.eq_2 ..) (ev_neg (by omega) (Ev.bind (ev_eq e) (ev_neg c0 (ev_pos c1 (ev_neg c2 (Ev.now _)))))), by omega, hs, by omega, by omega⟩
      · by_cases c2 : t = 2
        · obtain ⟨r, E, r1, r2⟩ := spec_l1Cur_park.ok1 l q g _ x5 rfl (by omega) hs
          exact ⟨r, q, g, Ev.step (fun k => spec_l1Cur_park.l0.eq_2 ..) (ev_neg (by omega) (Ev.bind (ev_eq e) (ev_neg c0 (ev_neg c1 (ev_pos c2 E))))), r1, r2, by omega, by omega⟩
        · exact ⟨x5, q, g, Ev.step (fun k => spec_l1Cur_park.l0.eq_2 ..) (ev_neg (by omega) (Ev.bind (ev_eq e) (ev_neg c0 (ev_neg c1 (ev_neg c2 (Ev.now _)))))), by omega, hs, by omega, by omega⟩
  | d + 1, x5, x6, p, h, hd, hl, hs, h0, h1 => by
    have hw : wrap64 ((x5.length : Int) + 1) = (x5.length : Int) + 1 := wrap_id _ (by omega) (by omega)
    obtain ⟨x, q, g, e, x0, x1, q0, q1⟩ := spec_l1Cur_pick.ok l hb p h ((x5.length : Int) + 1) h0 (by omega) (by omega)
    obtain ⟨i, q2, g2, e2, i0, i1, q20, q21⟩ := spec_l1Cur_pick.ok l hb q g ((x5.length : Int) + 1) (by omega) (by omega) (by omega)
    obtain ⟨r, q3, g3, E, r1, r2, q30, q31⟩ := spec_l1Cur_park.ok0 l hb d ((x5.take i.toNat ++ [x]) ++ x5.drop i.toNat) (x6 - 1) q2 g2 (by omega) (by simp; omega) (smalls_app (smalls_app (smalls_take hs _) (smalls_one (by omega) (by omega))) (smalls_drop hs _)) (by omega) (by omega)
    refine ⟨r, q3, g3, Ev.step (fun k => spec_l1Cur_park.l0.eq_2 ..) (ev_pos (by omega) ?_), r1, r2, by omega, by omega⟩
    rw [hw]
    refine Ev.bind (ev_eq e) (Ev.bind (ev_eq e2) (ev_pos i0 (ev_pos (by dsimp only; omega) (Ev.bind (ev_eq (spec_l1Own.is _ (by simp; omega))) (ev_pos (by simp; omega) (Ev.bind (ev_eq rfl) (Ev.bind (ev_eq rfl) (ev_pos (by simp; omega) ?_))))))))
    rw [wrap_id (x6 - 1) (by omega) (by omega)]
    exact E
theorem spec_l1Cur_park.ok (l : List Int) (hb : bytesOk l) (p h a : Int) (h0 : 0 ≤ p) (h1 : p ≤ 1099511620000) (a0 : 0 ≤ a) (a1 : a ≤ 8) : ∃ r q g, Ev (fun k => spec_l1Cur_park.f k l p h a) (r, q, g) ∧ r.length ≤ 9 ∧ smalls r ∧ p ≤ q ∧ q ≤ p + 100 := by
  have hw : wrap64 (a + 1) = a + 1 := wrap_id _ (by omega) (by omega)
  obtain ⟨n, q, g, e, n0, n1, q0, q1⟩ := spec_l1Cur_pick.ok l hb p h (a + 1) h0 (by omega) (by omega)
  obtain ⟨r, q2, g2, E, r1, r2, q20, q21⟩ := spec_l1Cur_park.ok0 l hb n.toNat [] n q g (by omega) (by simp; omega) (fun x hx => by cases hx) (by omega) (by omega)
  refine ⟨r, q2, g2, ?_, r1, r2, by omega, by omega⟩
  simp only [spec_l1Cur_park.f]
  rw [hw]
  exact Ev.bind (ev_eq e) E

theorem spec_l1Cur_one.ok (l : List Int) (hb : bytesOk l) (p h n : Int) (h0 : 0 ≤ p) (h1 : p ≤ 1099511627000) (hn : n ≤ 1048576) : ∃ b q g, spec_l1Cur_one.f l p h n = some (b, q, g) ∧ p ≤ q ∧ q ≤ p + 2 := by
  unfold spec_l1Cur_one.f
  obtain ⟨b, q, g, e, b0, b1, q0, q1⟩ := spec_l1Cur_pick.ok l hb p h n h0 h1 hn
  rw [e, Option.bind_some]
  exact ⟨_, _, _, rfl, q0, q1⟩

theorem spec_DrawIsBelow.okl (l : List Int) (hb : bytesOk l) (a : List Int) : ∀ (d i : Nat) (b : List Int) (p h : Int), i + d = b.length → b.length ≤ 9 → smalls (b.drop i) → 0 ≤ p → p + 4 * (d : Int) ≤ 1099511626000 → ∃ r, Ev (fun k => spec_DrawIsBelow.l0 k a b (b.length : Int) (i : Int) l p h) (a, r) ∧ r.length ≤ 9
  | 0, i, b, p, h, hi, hl, hs, h0, h1 => ⟨b, Ev.step (fun k => spec_DrawIsBelow.l0.eq_2 ..) (ev_neg (by omega) (Ev.now _)), hl⟩
  | d + 1, i, b, p, h, hi, hl, hs, h0, h1 => by
    obtain ⟨t, q, g, e, q0, q1⟩ := spec_l1Cur_one.ok l hb p h 3 h0 (by omega) (by omega)
    cases t with
    | true =>
      have hx := hs (b[i]'(by omega)) (by rw [List.drop_eq_getElem_cons (by omega)]; exact List.mem_cons_self)
      have hs2 : smalls (b.drop (i + 1)) := by
        rw [← List.drop_drop]
        exact smalls_drop hs 1
      have ew : wrap64 ((b[i]'(by omega)) + 2) = (b[i]'(by omega)) + 2 := wrap_id _ (by omega) (by omega)
      obtain ⟨m, em, hm, m1, m2⟩ := spec_l1Most.is 1 ((b[i]'(by omega)) + 2)
      obtain ⟨v, q2, g2, e2, v0, v1, q20, q21⟩ := spec_l1Cur_pick.ok l hb q g m (by omega) (by omega) (by omega)
      obtain ⟨r, E, r1⟩ := spec_DrawIsBelow.okl l hb a d (i + 1) (b.set i v) q2 g2 (by simp; omega) (by simp; omega) (by rw [List.drop_set_of_lt (by omega)]; exact hs2) (by omega) (by omega)
      refine ⟨r, Ev.step (fun k => spec_DrawIsBelow.l0.eq_2 ..) (ev_pos (by omega) (Ev.bind (ev_eq e) (ev_pos rfl (ev_pos (by omega) (ev_pos (by omega) ?_))))), r1⟩
      rw [rd_nat b i (by omega), ew, wrap_nat i (by omega), Int.toNat_natCast]
      rw [List.length_set] at E
      exact Ev.bind (ev_eq em) (Ev.bind (ev_eq e2) E)
    | false =>
      obtain ⟨r, E, r1⟩ := spec_DrawIsBelow.okl l hb a d (i + 1) b q g (by omega) hl (by rw [← List.drop_drop]; exact smalls_drop hs 1) (by omega) (by omega)
      refine ⟨r, Ev.step (fun k => spec_DrawIsBelow.l0.eq_2 ..) (ev_pos (by omega) (Ev.bind (ev_eq e) (ev_neg Bool.false_ne_true ?_))), r1⟩
      rw [wrap_nat i (by omega)]
      exact E
theorem spec_DrawIsBelow.ok (l : List Int) (hb : bytesOk l) : ∃ a b, Ev (fun k => spec_DrawIsBelow.f k l) (a, b) ∧ a.length ≤ 9 ∧ b.length ≤ 9 := by
  simp only [spec_DrawIsBelow.f]
  obtain ⟨a, q, g, E, a1, a2, q0, q1⟩ := spec_l1Cur_park.ok l hb 0 0 6 (by omega) (by omega) (by omega) (by omega)
  obtain ⟨t, q2, g2, e2, q20, q21⟩ := spec_l1Cur_one.ok l hb q g 6 (by omega) (by omega) (by omega)
  cases t with
  | true =>
    obtain ⟨b, q3, g3, E3, b1, b2, _, _⟩ := spec_l1Cur_park.ok l hb q2 g2 6 (by omega) (by omega) (by omega) (by omega)
    exact ⟨a, b, Ev.bind E (Ev.bind (ev_eq e2) (ev_pos rfl (Ev.bind E3 (Ev.now _)))), a1, b1⟩
  | false =>
    obtain ⟨b, E3, b1⟩ := spec_DrawIsBelow.okl l hb a a.length 0 a q2 g2 (by omega) a1 (by rw [List.drop_zero]; exact a2) (by omega) (by omega)
    exact ⟨a, b, Ev.bind E (Ev.bind (ev_eq e2) (ev_neg Bool.false_ne_true (Ev.bind (ev_eq (spec_l1Own.is a (by omega))) E3))), a1, b1⟩

def isBelowR (a b : List Int) : Bool × Bool := if isPk a = true then (if isPk b = true then (leAll a b, true) else (false, false)) else (false, false)

theorem impl_IsBelow.ev (a b : List Int) (ha : a.length ≤ 1048576) (hb : b.length ≤ 1048576) : Ev (fun k => impl_IsBelow.f k a b) (isBelowR a b) := by
  simp only [impl_IsBelow.f]
  unfold isBelowR
  refine Ev.bind (impl_isParking.ev a ha) ?_
  cases isPk a with
  | false => exact ev_neg (by decide) (Ev.now _)
  | true =>
    refine ev_pos rfl (Ev.bind (impl_isParking.ev b hb) ?_)
    cases isPk b with
    | false => exact ev_neg (by decide) (Ev.now _)
    | true => exact ev_pos rfl (ev_pos (by omega) (Ev.now _))

theorem spec_IsBelow.evl (a b : List Int) (h : a.length = b.length) (ha : a.length ≤ 1048576) (d : Nat) : ∀ (i : Nat), i + d = a.length → Ev (fun k => spec_IsBelow.l0 k b a (a.length : Int) (i : Int)) (leAll (a.drop i) (b.drop i), true) := by
  induction d with
  | zero =>
    intro i hi
    refine Ev.step (fun k => spec_IsBelow.l0.eq_2 ..) ?_
    refine ev_neg (by omega) (ev_val (Ev.now _) ?_)
    rw [List.drop_of_length_le (by omega), List.drop_of_length_le (by omega)]
    rfl
  | succ d ih =>
    intro i hi
    refine Ev.step (fun k => spec_IsBelow.l0.eq_2 ..) ?_
    rw [wrap_nat i (by omega), rd_nat a i (by omega), rd_nat b i (by omega)]
    refine ev_pos (by omega) (ev_pos (by omega) (ev_pos (by omega) (ev_pos (by omega) ?_)))
    by_cases e : a[i] > b[i]'(by omega)
    · refine ev_pos e (ev_val (Ev.now _) ?_)
      rw [leAll_no a b i (by omega) (by omega) (by omega)]
    · refine ev_neg e (ev_val (ih (i + 1) (by omega)) ?_)
      rw [leAll_yes a b i (by omega) (by omega) (by omega)]
theorem spec_IsBelow.ev (a b : List Int) (ha : a.length ≤ 1048576) (hb : b.length ≤ 1048576) : Ev (fun k => spec_IsBelow.f k a b) (isBelowR a b) := by
  simp only [spec_IsBelow.f]
  unfold isBelowR
  refine Ev.bind (spec_paParking.ev a ha) ?_
  cases isPk a with
  | false =>
    refine ev_neg (by decide) (Ev.step (fun k => spec_IsBelow.j0.eq_2 ..) ?_)
    exact ev_pos rfl (Ev.now _)
  | true =>
    refine ev_pos rfl (Ev.bind (spec_paParking.ev b hb) (Ev.step (fun k => spec_IsBelow.j0.eq_2 ..) ?_))
    cases isPk b with
    | false => exact ev_pos rfl (Ev.now _)
    | true =>
      refine ev_neg (by decide) ?_
      by_cases h : a.length = b.length
      · have g := spec_IsBelow.evl a b h ha a.length 0 (by omega)
        exact ev_pos (by omega) g
      · refine ev_neg (by omega) (ev_val (Ev.now _) ?_)
        rw [if_pos rfl, if_pos rfl, leAll_len a b h]

theorem spec_DrawMixOf.ok (l : List Int) (hb : bytesOk l) : ∃ a b t, Ev (fun k => spec_DrawMixOf.f k l) (a, b, t) ∧ a.length ≤ 9 ∧ b.length ≤ 9 := by
  simp only [spec_DrawMixOf.f]
  obtain ⟨a, b, E, a1, b1⟩ := spec_DrawIsBelow.ok l hb
  obtain ⟨t, q, g, e, _, _⟩ := spec_l1Cur_one.ok l hb 0 0 2 (by omega) (by omega) (by omega)
  exact ⟨a, b, t, Ev.bind E (Ev.bind (ev_eq e) (Ev.now _)), a1, b1⟩

theorem laws_jSame.evl (a b : List Int) (hl : a.length ≤ 1048576) (h : a.length = b.length) (d : Nat) : ∀ (i : Nat), i + d = a.length → Ev (fun k => laws_jSame.l0 k a b (a.length : Int) (i : Int)) (decide (a.drop i = b.drop i)) := by
  induction d with
  | zero =>
    intro i hi
    refine Ev.step (fun k => laws_jSame.l0.eq_2 ..) ?_
    refine ev_neg (by omega) (ev_val (Ev.now _) ?_)
    rw [List.drop_of_length_le (by omega), List.drop_of_length_le (by omega)]
    rfl
  | succ d ih =>
    intro i hi
    refine Ev.step (fun k => laws_jSame.l0.eq_2 ..) ?_
    refine ev_pos (by omega) (ev_pos (by omega) (ev_pos (by omega) (ev_pos (by omega) ?_)))
    rw [rd_nat a i (by omega), rd_nat b i (by omega), List.drop_eq_getElem_cons (l := a) (by omega), List.drop_eq_getElem_cons (l := b) (by omega)]
    by_cases e : a[i]'(by omega) = b[i]'(by omega)
    · refine ev_pos e ?_
      rw [wrap_nat i (by omega)]
      refine ev_val (ih (i + 1) (by omega)) ?_
      simp only [List.cons.injEq, e, true_and]
    · refine ev_neg e (ev_val (Ev.now _) ?_)
      simp only [List.cons.injEq, e, false_and, decide_false]
theorem laws_jSame.ev (a b : List Int) (hl : a.length ≤ 1048576) : Ev (fun k => laws_jSame.f k a b) (decide (a = b)) := by
  simp only [laws_jSame.f]
  by_cases h : a.length = b.length
  · refine ev_pos (by omega) ?_
    exact laws_jSame.evl a b hl h a.length 0 (by omega)
  · refine ev_neg (by omega) (ev_val (Ev.now _) ?_)
    rw [decide_eq_false (fun e => h (by rw [e]))]
theorem laws_jSame.ev_self (a : List Int) (hl : a.length ≤ 1048576) : Ev (fun k => laws_jSame.f k a a) true := ev_val (laws_jSame.ev a a hl) (by simp)

theorem impl_IsParking.ev (l : List Int) (hl : l.length ≤ 1048576) : Ev (fun k => impl_IsParking.f k l) (if (decide (l.length ≤ 8) && inAll 0 99 l) = true then (isPk l, true) else (false, false)) := by
  simp only [impl_IsParking.f]
  refine Ev.bind (ev_eq (impl_areCars.is l (by omega))) ?_
  cases (decide (l.length ≤ 8) && inAll 0 99 l) with
  | true => exact ev_pos rfl (Ev.bind (impl_isParking.ev l hl) (Ev.now _))
  | false => exact ev_neg (by decide) (Ev.now _)

theorem laws_numberOf.evl (l : List Int) (hl : l.length ≤ 1048576) (hb : ∀ x ∈ l, 0 ≤ x ∧ x ≤ 255) (d : Nat) : ∀ (i : Nat) (a : Int), i + d = l.length → 0 ≤ a → a < 1000003 → ∃ r, Ev (fun k => laws_numberOf.l0 k a l (l.length : Int) (i : Int)) r ∧ 0 ≤ r ∧ r < 1000003 := by
  induction d with
  | zero =>
    intro i a hi h0 h1
    exact ⟨a, Ev.step (fun k => laws_numberOf.l0.eq_2 ..) (ev_neg (by omega) (Ev.now _)), h0, h1⟩
  | succ d ih =>
    intro i a hi h0 h1
    have hx := hb (l[i]'(by omega)) (List.getElem_mem _)
    have e1 : wrap64 (31 * a) = 31 * a := wrap_id _ (by omega) (by omega)
    have e2 : wrap64 (l[i]'(by omega)) = l[i]'(by omega) := wrap_id _ (by omega) (by omega)
    have e3 : wrap64 (31 * a + l[i]'(by omega)) = 31 * a + l[i]'(by omega) := wrap_id _ (by omega) (by omega)
    obtain ⟨r, hr, r0, r1⟩ := ih (i + 1) (Int.tmod (31 * a + l[i]'(by omega)) 1000003) (by omega) (Int.tmod_nonneg _ (by omega)) (Int.tmod_lt_of_pos _ (by omega))
    refine ⟨r, Ev.step (fun k => laws_numberOf.l0.eq_2 ..) ?_, r0, r1⟩
    refine ev_pos (by omega) (ev_pos (by omega) (ev_pos (by omega) ?_))
    rw [rd_nat l i (by omega), wrap_nat i (by omega), e1, e2, e3]
    exact hr
theorem laws_numberOf.ev (l : List Int) (hl : l.length ≤ 1048576) (hb : ∀ x ∈ l, 0 ≤ x ∧ x ≤ 255) : ∃ r, Ev (fun k => laws_numberOf.f k l) r ∧ 0 ≤ r ∧ r < 1000003 := by
  simp only [laws_numberOf.f]
  exact laws_numberOf.evl l hl hb l.length 0 0 (by omega) (by omega) (by omega)

theorem ev_ite {α : Type} {c : Prop} [Decidable c] {g f : Nat → Option α} {r : α} (h : c → Ev g r) (k : ¬ c → Ev f r) : Ev (fun n => if c then g n else f n) r := by
  by_cases e : c
  · exact ev_pos e (h e)
  · exact ev_neg e (k e)
theorem u8_of_wf (x : Int) (h : (Lit.int .u8 x).wf = true) : 0 ≤ x ∧ x ≤ 255 := by
  simp only [Lit.wf, Bool.and_eq_true, decide_eq_true_eq] at h
  have h1 : IntKind.min .u8 = 0 := by decide
  have h2 : IntKind.max .u8 = 255 := by decide
  rw [h1, h2] at h
  exact h

end Go.Proofs.Ytchhfdhnoldngaa.QFnLesserListsPark
