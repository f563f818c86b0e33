/- Proved here: what the Lean functions printed for the Go functions of law FnExactTakenPlaces compute, in words of lists and whole numbers, for lists shorter than 2^62. -/
import Derived.Test.YtdiohjdfiambhaaQFnExactTakenPlacesx
import Derived.Test.YtdiohjdfiambhaaMDrive
import Derived.Test.YtdiohjdfiambhaaMCrit
import Derived.Test.YtdiohjdfiambhaaMCircle
import Derived.Test.YtdiohjdfiambhaaMRing
import Derived.Test.YtdiohjdfiambhaaMLesser
import Derived.Test.YtdiohjdfiambhaaMSort
namespace Go.Proofs.Ytdiohjdfiambhaa.QFnExactTakenPlaces
open Go.RowKit Go.Proofs.YtdiohjdfiambhaaW.PrintWords Go.Proofs.YtdiohjdfiambhaaW.PrintLast Go.Proofs.Ytdiohjdfiambhaa.Math
set_option linter.unusedVariables false
set_option linter.unusedSimpArgs false

theorem ev_pos {α : Type} {c : Prop} [Decidable c] {g f : Nat → Option α} {r : α} (h : c) (k : Ev g r) : Ev (fun n => if c then g n else f n) r := by
  obtain ⟨K, hK⟩ := k
  exact ⟨K, fun n hn => by simp only [if_pos h]; exact hK n hn⟩
theorem ev_neg {α : Type} {c : Prop} [Decidable c] {g f : Nat → Option α} {r : α} (h : ¬ c) (k : Ev f r) : Ev (fun n => if c then g n else f n) r := by
  obtain ⟨K, hK⟩ := k
  exact ⟨K, fun n hn => by simp only [if_neg h]; exact hK n hn⟩
theorem ev_eq {α : Type} {g : Option α} {r : α} (h : g = some r) : Ev (fun _ => g) r := ⟨0, fun _ _ => h⟩
theorem ev_val {α : Type} {g : Nat → Option α} {r q : α} (h : Ev g r) (e : r = q) : Ev g q := e ▸ h
theorem wrap_nat (i : Nat) (h : i < 4611686018427387904) : wrap64 ((i : Int) + 1) = ((i + 1 : Nat) : Int) := by
  unfold wrap64
  omega
theorem wrap_id (x : Int) (h : -9223372036854775808 ≤ x) (h' : x ≤ 9223372036854775807) : wrap64 x = x := by
  unfold wrap64
  omega
theorem rd_nat (l : List Int) (i : Nat) (h : i < l.length) : rd l (i : Int) = l[i] := by
  simp [rd, List.getD_eq_getElem?_getD, h]
theorem rd_int (l : List Int) (x : Int) (h0 : 0 ≤ x) (h : x < l.length) : rd l x = l[x.toNat]'(by omega) := by
  have e : x = ((x.toNat : Nat) : Int) := by omega
  have h2 : x.toNat < l.length := by omega
  rw [show rd l x = rd l ((x.toNat : Nat) : Int) by rw [← e]]
  exact rd_nat l x.toNat h2
/-- m, m + 1, .., n numbers -/
def marks : Int → Nat → List Int
  | _, 0 => []
  | m, n + 1 => m :: marks (m + 1) n
theorem marks_len : ∀ (n : Nat) (m : Int), (marks m n).length = n
  | 0, _ => rfl
  | n + 1, m => by simp [marks, marks_len n]
theorem take_set_succ (y l : List Int) (i : Nat) (hi : i < l.length) (hy : y.length = l.length) (h : y.take i = l.take i) : (y.set i l[i]).take (i + 1) = l.take (i + 1) := by
  rw [List.take_succ_eq_append_getElem (by simp; omega), List.take_succ_eq_append_getElem hi, List.take_set_of_le (Nat.le_refl i), h, List.getElem_set_self]
/-- all numbers lie from lo to hi -/
def inAll (lo hi : Int) (l : List Int) : Bool := l.all fun x => decide (lo ≤ x) && decide (x ≤ hi)
theorem inAll_iff (lo hi : Int) (l : List Int) : inAll lo hi l = true ↔ ∀ x ∈ l, lo ≤ x ∧ x ≤ hi := by
  simp [inAll]

theorem laws_toIntS.evl (l : List Int) (hl : l.length < 4611686018427387904) (d : Nat) : ∀ (i : Nat) (y : List Int), i + d = l.length → y.length = l.length → y.take i = l.take i → Ev (fun k => laws_toIntS.l0 k l y (i : Int)) l := by
  induction d with
  | zero =>
    intro i y hi hy ht
    refine Ev.step (fun k => laws_toIntS.l0.eq_2 ..) ?_
    refine ev_neg (by omega) ?_
    refine ev_val (Ev.now _) ?_
    rw [show i = l.length by omega] at ht
    rw [List.take_of_length_le (by omega), List.take_of_length_le (by omega)] at ht
    exact ht
  | succ d ih =>
    intro i y hi hy ht
    refine Ev.step (fun k => laws_toIntS.l0.eq_2 ..) ?_
    refine ev_pos (by omega) (ev_pos (by omega) (ev_pos (by omega) ?_))
    rw [wrap_nat i (by omega), rd_nat l i (by omega), Int.toNat_natCast]
    exact ih (i + 1) _ (by omega) (by simp; omega) (take_set_succ y l i (by omega) hy ht)
theorem laws_toIntS.ev (l : List Int) (hl : l.length ≤ 1048576) : Ev (fun k => laws_toIntS.f k l) l := by
  simp only [laws_toIntS.f]
  refine ev_pos (by omega) (ev_pos (by omega) ?_)
  exact laws_toIntS.evl l (by omega) l.length 0 _ (by omega) (by simp) (by simp)

theorem laws_eqIntS.evl (a b : List Int) (hl : a.length < 4611686018427387904) (h : a.length = b.length) (d : Nat) : ∀ (i : Nat), i + d = a.length → Ev (fun k => laws_eqIntS.l0 k a b (i : Int)) (decide (a.drop i = b.drop i)) := by
  induction d with
  | zero =>
    intro i hi
    refine Ev.step (fun k => laws_eqIntS.l0.eq_2 ..) ?_
    refine ev_neg (by omega) ?_
    refine ev_val (Ev.now _) ?_
    rw [List.drop_of_length_le (by omega), List.drop_of_length_le (by omega)]
    rfl
  | succ d ih =>
    intro i hi
    refine Ev.step (fun k => laws_eqIntS.l0.eq_2 ..) ?_
    refine ev_pos (by omega) (ev_pos (by omega) (ev_pos (by omega) ?_))
    rw [wrap_nat i (by omega), rd_nat a i (by omega), rd_nat b i (by omega)]
    rw [List.drop_eq_getElem_cons (l := a) (by omega), List.drop_eq_getElem_cons (l := b) (by omega)]
    by_cases e : a[i] = b[i]'(by omega)
    · refine ev_pos e (ev_val (ih (i + 1) (by omega)) ?_)
      simp only [List.cons.injEq, e, true_and]
    · refine ev_neg e (ev_val (Ev.now _) ?_)
      simp only [List.cons.injEq, e, false_and, decide_false]
theorem laws_eqIntS.ev (a b : List Int) (hl : a.length < 4611686018427387904) : Ev (fun k => laws_eqIntS.f k a b) (decide (a = b)) := by
  simp only [laws_eqIntS.f]
  by_cases h : a.length = b.length
  · refine ev_pos (by omega) (ev_val (laws_eqIntS.evl a b hl h a.length 0 (by omega)) ?_)
    simp
  · refine ev_neg (by omega) (ev_val (Ev.now _) ?_)
    exact (decide_eq_false (fun e => h (by rw [e]))).symm
theorem laws_eqIntS.ev_self (a : List Int) (hl : a.length < 4611686018427387904) : Ev (fun k => laws_eqIntS.f k a a) true := ev_val (laws_eqIntS.ev a a hl) (by simp)

theorem spec_l1In.is (x lo hi : Int) : spec_l1In.f x lo hi = some (decide (lo ≤ x) && decide (x ≤ hi)) := by
  unfold spec_l1In.f
  by_cases h : x ≥ lo
  · rw [if_pos h, decide_eq_true (show lo ≤ x from h), Bool.true_and]
  · rw [if_neg h, decide_eq_false (show ¬ lo ≤ x from h), Bool.false_and]

theorem spec_paStreet.is (p : Int) : spec_paStreet.f p = some (decide (1 ≤ p) && decide (p ≤ 12)) := by
  simp only [spec_paStreet.f, spec_l1In.is, Option.bind_some]

theorem spec_l1All.evl (lo hi : Int) (l : List Int) (hl : l.length < 4611686018427387904) (d : Nat) : ∀ (i : Nat), i + d = l.length → Ev (fun k => spec_l1All.l0 k lo hi l (l.length : Int) (i : Int)) (inAll lo hi (l.drop i)) := by
  induction d with
  | zero =>
    intro i hi0
    refine Ev.step (fun k => spec_l1All.l0.eq_2 ..) ?_
    refine ev_neg (by omega) ?_
    refine ev_val (Ev.now _) ?_
    rw [List.drop_of_length_le (by omega)]
    rfl
  | succ d ih =>
    intro i hi0
    refine Ev.step (fun k => spec_l1All.l0.eq_2 ..) ?_
    refine ev_pos (by omega) (ev_pos (by omega) (ev_pos (by omega) ?_))
    rw [wrap_nat i (by omega), rd_nat l i (by omega), List.drop_eq_getElem_cons (by omega), spec_l1In.is]
    refine Ev.bind (Ev.now _) ?_
    have u : inAll lo hi (l[i] :: l.drop (i + 1)) = ((decide (lo ≤ l[i]) && decide (l[i] ≤ hi)) && inAll lo hi (l.drop (i + 1))) := rfl
    rw [u]
    generalize (decide (lo ≤ l[i]) && decide (l[i] ≤ hi)) = b
    cases b with
    | true => exact ev_pos rfl (ih (i + 1) (by omega))
    | false => exact ev_neg (by decide) (Ev.now _)
theorem spec_l1All.ev (l : List Int) (lo hi : Int) (hl : l.length < 4611686018427387904) : Ev (fun k => spec_l1All.f k l lo hi) (inAll lo hi l) := by
  simp only [spec_l1All.f]
  exact spec_l1All.evl lo hi l hl l.length 0 (by omega)

/-- favourites for a street of p places -/
def fav (l : List Int) (p : Int) : Bool := decide (1 ≤ p) && decide (p ≤ 12) && decide (l.length ≤ 8) && inAll 0 (p - 1) l
theorem fav_iff (l : List Int) (p : Int) : fav l p = true ↔ 1 ≤ p ∧ p ≤ 12 ∧ l.length ≤ 8 ∧ ∀ x ∈ l, 0 ≤ x ∧ x < p := by
  unfold fav
  simp only [Bool.and_eq_true, decide_eq_true_eq, inAll_iff]
  constructor
  · rintro ⟨⟨⟨h1, h2⟩, h3⟩, h4⟩
    exact ⟨h1, h2, h3, fun x hx => by have := h4 x hx; omega⟩
  · rintro ⟨h1, h2, h3, h4⟩
    exact ⟨⟨⟨h1, h2⟩, h3⟩, fun x hx => by have := h4 x hx; omega⟩

theorem spec_paGood.ev (l : List Int) (p : Int) (hl : l.length < 4611686018427387904) : Ev (fun k => spec_paGood.f k l p) (fav l p) := by
  simp only [spec_paGood.f, spec_paStreet.is, Option.bind_some]
  unfold fav
  by_cases h : 1 ≤ p ∧ p ≤ 12
  · rw [wrap_id (p - 1) (by omega) (by omega), decide_eq_true h.1, decide_eq_true h.2]
    refine ev_pos rfl ?_
    by_cases h8 : l.length ≤ 8
    · rw [decide_eq_true h8]
      refine ev_pos (by omega) (Ev.bind (spec_l1All.ev l 0 (p - 1) hl) ?_)
      exact Ev.now _
    · rw [decide_eq_false h8]
      exact ev_neg (by omega) (Ev.now _)
  · have e : (decide (1 ≤ p) && decide (p ≤ 12)) = false := by simp; omega
    rw [e]
    exact ev_neg (by decide) (Ev.now _)

theorem spec_l1Has.evl (x : Int) (l : List Int) (hl : l.length < 4611686018427387904) (d : Nat) : ∀ (i : Nat), i + d = l.length → Ev (fun k => spec_l1Has.l0 k x l (l.length : Int) (i : Int)) (decide (x ∈ l.drop i)) := by
  induction d with
  | zero =>
    intro i hi
    refine Ev.step (fun k => spec_l1Has.l0.eq_2 ..) ?_
    refine ev_neg (by omega) ?_
    refine ev_val (Ev.now _) ?_
    rw [List.drop_of_length_le (by omega)]
    simp
  | succ d ih =>
    intro i hi
    refine Ev.step (fun k => spec_l1Has.l0.eq_2 ..) ?_
    refine ev_pos (by omega) (ev_pos (by omega) (ev_pos (by omega) ?_))
    rw [wrap_nat i (by omega), rd_nat l i (by omega), List.drop_eq_getElem_cons (by omega)]
    by_cases e : l[i] = x
    · refine ev_pos e (ev_val (Ev.now _) ?_)
      simp [e]
    · refine ev_neg e (ev_val (ih (i + 1) (by omega)) ?_)
      simp only [List.mem_cons, show ¬ x = l[i] from fun h => e h.symm, false_or]
theorem spec_l1Has.ev (l : List Int) (x : Int) (hl : l.length < 4611686018427387904) : Ev (fun k => spec_l1Has.f k l x) (decide (x ∈ l)) := by
  simp only [spec_l1Has.f]
  exact spec_l1Has.evl x l hl l.length 0 (by omega)

theorem spec_paDrive.evl (p : Int) (hp : p ≤ 1048576) (l : List Int) (hl : l.length ≤ 1048576) (hx : ∀ x ∈ l, -1048576 ≤ x) (d : Nat) : ∀ (i : Nat) (out : List Int), i + d = l.length → out.length = i → Ev (fun k => spec_paDrive.l0 k p out l (l.length : Int) (i : Int)) (paD p out (l.drop i)) := by
  induction d with
  | zero =>
    intro i out hi ho
    refine Ev.step (fun k => spec_paDrive.l0.eq_2 ..) ?_
    refine ev_neg (by omega) ?_
    refine ev_val (Ev.now _) ?_
    rw [List.drop_of_length_le (by omega)]
    rfl
  | succ d ih =>
    intro i out hi ho
    refine Ev.step (fun k => spec_paDrive.l0.eq_2 ..) ?_
    refine ev_pos (by omega) (ev_pos (by omega) (ev_pos (by omega) ?_))
    rw [rd_nat l i (by omega), List.drop_eq_getElem_cons (by omega)]
    have hxi := hx l[i] (List.getElem_mem _)
    have inner : ∀ (m : Nat) (x : Int), (p - x).toNat = m → -1048576 ≤ x → Ev (fun k => spec_paDrive.l1 k p out x l (l.length : Int) (i : Int)) (paD p (out ++ [if land out p x < p then land out p x else -1]) (l.drop (i + 1))) := by
      intro m
      induction m with
      | zero =>
        intro x hm hx0
        refine Ev.step (fun k => spec_paDrive.l1.eq_2 ..) ?_
        refine ev_neg (by omega) (ev_pos (by omega) (ev_pos (by omega) ?_))
        rw [wrap_nat i (by omega), land_stop out p x (by omega), if_neg (by omega)]
        exact ih (i + 1) _ (by omega) (by simp; omega)
      | succ m ihm =>
        intro x hm hx0
        refine Ev.step (fun k => spec_paDrive.l1.eq_2 ..) ?_
        refine ev_pos (by omega) (Ev.bind (spec_l1Has.ev out x (by omega)) ?_)
        by_cases hh : x ∈ out
        · rw [decide_eq_true hh, land_go out p x (by omega) hh]
          refine ev_pos rfl ?_
          rw [wrap_id (x + 1) (by omega) (by omega)]
          exact ihm (x + 1) (by omega) (by omega)
        · rw [decide_eq_false hh, land_stop out p x (fun h => hh h.2), if_pos (by omega)]
          refine ev_neg (by decide) (ev_neg (by omega) (ev_pos (by omega) ?_))
          rw [wrap_nat i (by omega)]
          exact ih (i + 1) _ (by omega) (by simp; omega)
    exact inner _ l[i] rfl hxi
theorem spec_paDrive.ev (l : List Int) (p : Int) (hp : p ≤ 1048576) (hl : l.length ≤ 1048576) (hx : ∀ x ∈ l, -1048576 ≤ x) : Ev (fun k => spec_paDrive.f k l p) (paD p [] l) := by
  simp only [spec_paDrive.f]
  exact spec_paDrive.evl p hp l hl hx l.length 0 [] (by omega) rfl

theorem paD_length (p : Int) : ∀ (l out : List Int), (paD p out l).length = out.length + l.length
  | [], out => by simp [paD]
  | x :: l, out => by
    have := paD_length p l (out ++ [if land out p x < p then land out p x else -1])
    simp only [paD, this, List.length_append, List.length_cons, List.length_nil]
    omega

theorem spec_paAll.ev (l : List Int) (p : Int) (hp : p ≤ 1048576) (hl : l.length ≤ 1048576) (hx : ∀ x ∈ l, 0 ≤ x) : Ev (fun k => spec_paAll.f k l p) (allPark l p) := by
  simp only [spec_paAll.f]
  refine Ev.bind (spec_paDrive.ev l p hp hl (fun x h => by have := hx x h; omega)) (Ev.bind (spec_l1Has.ev _ _ (by rw [paD_length]; simp; omega)) ?_)
  refine ev_val (Ev.now _) ?_
  rw [allPark_paD l p hx]
  simp

def drvR (o : Option (List Int)) : List Int × Bool := match o with
  | some r => (r, true)
  | none => ([], false)
theorem drvR_snd (l : List Int) (p : Int) : (drvR (drv p [] l)).2 = allPark l p := by
  unfold drvR allPark
  cases drv p [] l <;> rfl

/-- what DriveCars hands back -/
def carsR (l : List Int) (p : Int) : List Int × Bool := if fav l p = true then drvR (drv p [] l) else ([], false)
theorem carsR_len (l : List Int) (p : Int) : (carsR l p).1.length ≤ l.length := by
  unfold carsR
  split
  · cases h : drv p [] l with
    | none => simp [drvR]
    | some r =>
      have := drv_length p l [] r h
      simp only [drvR]
      simp at this
      omega
  · simp

theorem drvR_paD (l : List Int) (p : Int) (hx : ∀ x ∈ l, 0 ≤ x) : drvR (drv p [] l) = if allPark l p = true then (paD p [] l, true) else ([], false) := by
  unfold allPark drvR
  cases h : drv p [] l with
  | none => rfl
  | some r =>
    have := (drv_some p l [] r hx (by simp) h).1
    rw [this]
    rfl
theorem spec_DriveCars.ev (l : List Int) (p : Int) (hl : l.length ≤ 1048576) : Ev (fun k => spec_DriveCars.f k l p) (carsR l p) := by
  simp only [spec_DriveCars.f]
  unfold carsR
  refine Ev.bind (spec_paGood.ev l p (by omega)) ?_
  cases e : fav l p with
  | true =>
    have h := (fav_iff l p).mp e
    rw [if_pos rfl, drvR_paD l p (fun x hx => (h.2.2.2 x hx).1)]
    refine ev_pos rfl (Ev.bind (spec_paAll.ev l p (by omega) hl (fun x hx => (h.2.2.2 x hx).1)) ?_)
    cases allPark l p with
    | true => exact ev_pos rfl (Ev.bind (spec_paDrive.ev l p (by omega) hl (fun x hx => by have := h.2.2.2 x hx; omega)) (Ev.now _))
    | false => exact ev_neg (by decide) (Ev.now _)
  | false => exact ev_neg (by decide) (Ev.now _)

theorem spec_l1Own.is (l : List Int) (hl : l.length ≤ 1048576) : spec_l1Own.f l = some l := by
  simp only [spec_l1Own.f, Option.bind_some, List.length_nil, Nat.zero_add, List.nil_append]
  rw [if_pos (by omega)]

theorem srt_perm (l : List Int) : (Srt.srt l).Perm l := List.mergeSort_perm _ _
theorem srt_up (l : List Int) : up2 (Srt.srt l) := by
  rw [up2_pairwise]
  have h := List.pairwise_mergeSort (le := fun x y : Int => decide (x ≤ y)) (fun a b c h1 h2 => by
    simp only [decide_eq_true_eq] at h1 h2 ⊢
    omega) (fun a b => by
    simp only [Bool.or_eq_true, decide_eq_true_eq]
    omega) l
  exact h.imp (fun h => by simpa using h)
theorem srt_eq (l s : List Int) (hp : s.Perm l) (hs : up2 s) : s = Srt.srt l := up2_eq s (Srt.srt l) hs (srt_up l) (hp.trans (srt_perm l).symm)
theorem ins_up (s : List Int) (j : Nat) (x : Int) (hs : up2 s) (h1 : ∀ y ∈ s.take j, y ≤ x) (h2 : ∀ y ∈ s.drop j, x ≤ y) : up2 ((s.take j ++ [x]) ++ s.drop j) := by
  rw [up2_pairwise] at hs ⊢
  have hs' : (s.take j ++ s.drop j).Pairwise (fun a b => a ≤ b) := by rw [List.take_append_drop]; exact hs
  rw [List.pairwise_append] at hs'
  obtain ⟨a, b, c⟩ := hs'
  rw [List.pairwise_append, List.pairwise_append]
  refine ⟨⟨a, by simp, fun y hy z hz => ?_⟩, b, fun y hy z hz => ?_⟩
  · simp only [List.mem_singleton] at hz
    rw [hz]
    exact h1 y hy
  · rcases List.mem_append.mp hy with hy | hy
    · exact c y hy z hz
    · simp only [List.mem_singleton] at hy
      rw [hy]
      exact h2 z hz
theorem ins_perm (s : List Int) (j : Nat) (x : Int) : ((s.take j ++ [x]) ++ s.drop j).Perm (s ++ [x]) := by
  have e : s ++ [x] = (s.take j ++ s.drop j) ++ [x] := by rw [List.take_append_drop]
  rw [e, List.append_assoc, List.append_assoc]
  exact List.Perm.append_left _ List.perm_append_comm

theorem spec_paSorted.ev1 (l s : List Int) (x n : Int) (i : Nat) (r : List Int) (hs : up2 s) (hl : s.length ≤ 1048576) (hi : i < 1048576) (hc : ∀ j, j ≤ s.length → (∀ y ∈ s.take j, y ≤ x) → (∀ y ∈ s.drop j, x ≤ y) → Ev (fun k => spec_paSorted.l0 k ((s.take j ++ [x]) ++ s.drop j) l n ((i + 1 : Nat) : Int)) r) (d : Nat) : ∀ (j : Nat), j + d = s.length → (∀ y ∈ s.take j, y ≤ x) → Ev (fun k => spec_paSorted.l1 k s x (j : Int) l n (i : Int)) r := by
  have fin : ∀ j, j ≤ s.length → (∀ y ∈ s.take j, y ≤ x) → (∀ y ∈ s.drop j, x ≤ y) → Ev (fun k => (spec_l1Own.f (s.take ((j : Int) : Int).toNat)).bind fun t => (if t.length < 17592186044416 then ((some (t ++ [x] : List Int)).bind fun y => ((some (s.drop ((j : Int) : Int).toNat : List Int)).bind fun z => (if y.length + z.length < 17592186044416 then (spec_paSorted.l0 k (y ++ z) l n (wrap64 ((i : Int) + 1))) else (none)))) else (none))) r := by
    intro j hj h1 h2
    rw [Int.toNat_natCast, wrap_nat i (by omega)]
    exact Ev.bind (ev_eq (spec_l1Own.is _ (by rw [List.length_take]; omega))) (ev_pos (by rw [List.length_take]; omega) (Ev.bind (ev_eq rfl) (Ev.bind (ev_eq rfl) (ev_pos (by simp only [List.length_append, List.length_take, List.length_drop, List.length_cons, List.length_nil]; omega) (hc j hj h1 h2)))))
  induction d with
  | zero =>
    intro j hj h1
    refine Ev.step (fun k => spec_paSorted.l1.eq_2 ..) (ev_neg (by omega) (ev_pos (by omega) (ev_pos (by omega) ?_)))
    exact fin j (by omega) h1 (fun y hy => by rw [List.drop_of_length_le (by omega)] at hy; cases hy)
  | succ d ih =>
    intro j hj h1
    refine Ev.step (fun k => spec_paSorted.l1.eq_2 ..) (ev_pos (by omega) (ev_pos (by omega) ?_))
    rw [rd_nat s j (by omega)]
    by_cases c : s[j]'(by omega) ≤ x
    · refine ev_pos c ?_
      rw [wrap_nat j (by omega)]
      refine ih (j + 1) (by omega) (fun y hy => ?_)
      rw [List.take_succ_eq_append_getElem (by omega)] at hy
      rcases List.mem_append.mp hy with hy | hy
      · exact h1 y hy
      · simp only [List.mem_singleton] at hy
        rw [hy]
        exact c
    · refine ev_neg c (ev_pos (by omega) ?_)
      refine fin j (by omega) h1 (fun y hy => ?_)
      obtain ⟨m, hm, rfl⟩ := List.getElem_of_mem hy
      rw [List.length_drop] at hm
      rw [List.getElem_drop]
      have := up2_get s hs j (j + m) (by omega) (by omega) (by omega)
      omega
theorem spec_paSorted.evl (l : List Int) (hl : l.length ≤ 1048576) (d : Nat) : ∀ (i : Nat) (s : List Int), i + d = l.length → s.Perm (l.take i) → up2 s → Ev (fun k => spec_paSorted.l0 k s l (l.length : Int) (i : Int)) (Srt.srt l) := by
  induction d with
  | zero =>
    intro i s hi hp hs
    rw [List.take_of_length_le (by omega)] at hp
    refine Ev.step (fun k => spec_paSorted.l0.eq_2 ..) (ev_neg (by omega) (ev_val (Ev.now _) ?_))
    exact srt_eq l s hp hs
  | succ d ih =>
    intro i s hi hp hs
    have hsl := hp.length_eq
    rw [List.length_take] at hsl
    refine Ev.step (fun k => spec_paSorted.l0.eq_2 ..) (ev_pos (by omega) (ev_pos (by omega) (ev_pos (by omega) ?_)))
    rw [rd_nat l i (by omega)]
    refine spec_paSorted.ev1 l s (l[i]'(by omega)) (l.length : Int) i _ hs (by omega) (by omega) (fun j hj h1 h2 => ?_) s.length 0 (by omega) (by simp)
    refine ih (i + 1) _ (by omega) ?_ (ins_up s j _ hs h1 h2)
    refine (ins_perm s j _).trans ?_
    rw [List.take_succ_eq_append_getElem (by omega)]
    exact List.Perm.append_right _ hp
theorem spec_paSorted.ev (l : List Int) (hl : l.length ≤ 1048576) : Ev (fun k => spec_paSorted.f k l) (Srt.srt l) := by
  simp only [spec_paSorted.f]
  exact spec_paSorted.evl l hl l.length 0 [] (by omega) (by simp) trivial

def takenR (l : List Int) (p : Int) : List Int × Bool := (Srt.srt (carsR l p).1, (carsR l p).2)
theorem takenR_len (l : List Int) (p : Int) : (takenR l p).1.length ≤ l.length := by
  unfold takenR
  rw [Srt.srt_len]
  exact carsR_len l p

theorem spec_TakenPlaces.ev (l : List Int) (p : Int) (hl : l.length ≤ 1048576) : Ev (fun k => spec_TakenPlaces.f k l p) (takenR l p) := by
  simp only [spec_TakenPlaces.f]
  unfold takenR
  have h := carsR_len l p
  refine Ev.bind (spec_DriveCars.ev l p hl) ?_
  cases e : (carsR l p).2 with
  | true =>
    refine ev_pos rfl (Ev.bind (spec_paSorted.ev _ (by omega)) (Ev.now _))
  | false =>
    have e2 : (carsR l p).1 = [] := by
      unfold carsR at e ⊢
      by_cases hf : fav l p = true
      · rw [if_pos hf] at e ⊢
        cases hd : drv p [] l with
        | none => rfl
        | some r => rw [hd] at e; cases e
      · rw [if_neg hf]
    rw [e2]
    refine ev_neg (by decide) (ev_val (Ev.now _) ?_)
    simp [Srt.srt]

theorem impl_between.is (x lo hi : Int) : impl_between.f x lo hi = some (decide (lo ≤ x) && decide (x ≤ hi)) := by
  unfold impl_between.f
  by_cases h : x ≥ lo
  · rw [if_pos h, decide_eq_true (show lo ≤ x from h), Bool.true_and]
  · rw [if_neg h, decide_eq_false (show ¬ lo ≤ x from h), Bool.false_and]

theorem impl_areBetween.is (l : List Int) (lo hi : Int) (hl : l.length ≤ 35184372088832) : impl_areBetween.f l lo hi = some (inAll lo hi l) := by
  unfold impl_areBetween.f
  rw [if_pos hl]
  congr 1
  unfold inAll out_b
  induction l with
  | nil => rfl
  | cons x l ih =>
    rw [List.any_cons, List.all_cons, ← ih (by simp at hl; omega)]
    cases (decide (lo ≤ x) && decide (x ≤ hi)) <;> simp

theorem impl_AreFavourites.is (l : List Int) (p : Int) (hl : l.length ≤ 35184372088832) : impl_AreFavourites.f l p = some (fav l p) := by
  simp only [impl_AreFavourites.f, impl_between.is, Option.bind_some]
  unfold fav
  by_cases h : 1 ≤ p ∧ p ≤ 12
  · rw [wrap_id (p - 1) (by omega) (by omega), decide_eq_true h.1, decide_eq_true h.2]
    rw [if_pos (by rfl)]
    by_cases h8 : l.length ≤ 8
    · rw [decide_eq_true h8, if_pos (by omega), impl_areBetween.is l 0 (p - 1) hl]
      rfl
    · rw [decide_eq_false h8, if_neg (by omega)]
      rfl
  · have e : (decide (1 ≤ p) && decide (p ≤ 12)) = false := by simp; omega
    rw [e]
    rfl

/-- the table t tells which places are in out -/
def Tk (p : Int) (out : List Int) (t : List Bool) : Prop := t.length = p.toNat ∧ ∀ j : Int, 0 ≤ j → j < p → (rdOf false t j = true ↔ j ∈ out)
theorem Tk_set (p : Int) (out : List Int) (t : List Bool) (h : Tk p out t) (x : Int) (h0 : 0 ≤ x) (h1 : x < p) : Tk p (out ++ [x]) (t.set x.toNat true) := by
  refine ⟨by rw [List.length_set]; exact h.1, fun j j0 j1 => ?_⟩
  have hl := h.1
  have hj := h.2 j j0 j1
  unfold rdOf at hj ⊢
  rw [List.getD_eq_getElem?_getD] at hj ⊢
  rw [List.getElem?_set]
  by_cases e : x.toNat = j.toNat
  · have e' : j = x := by omega
    subst e'
    rw [if_pos rfl, if_pos (by omega)]
    simp
  · rw [if_neg e]
    rw [hj]
    have e' : ¬ j = x := by omega
    simp [e']

theorem impl_drive.evl (p : Int) (hp : p ≤ 1048576) (l : List Int) (hl : l.length ≤ 1048576) (hx : ∀ x ∈ l, 0 ≤ x ∧ x ≤ 1048576) (d : Nat) : ∀ (i : Nat) (out : List Int) (t : List Bool), i + d = l.length → out.length = i → Tk p out t → Ev (fun k => impl_drive.l0 k p t out l (l.length : Int) (i : Int)) (drvR (drv p out (l.drop i))) := by
  induction d with
  | zero =>
    intro i out t hi ho ht
    refine Ev.step (fun k => impl_drive.l0.eq_2 ..) ?_
    refine ev_neg (by omega) ?_
    refine ev_val (Ev.now _) ?_
    rw [List.drop_of_length_le (by omega)]
    rfl
  | succ d ih =>
    intro i out t hi ho ht
    refine Ev.step (fun k => impl_drive.l0.eq_2 ..) ?_
    refine ev_pos (by omega) (ev_pos (by omega) (ev_pos (by omega) ?_))
    rw [rd_nat l i (by omega), List.drop_eq_getElem_cons (by omega)]
    have hxi := hx l[i] (List.getElem_mem _)
    have inner : ∀ (m : Nat) (x : Int), (p - x).toNat = m → 0 ≤ x → x ≤ 1048576 → Ev (fun k => impl_drive.l1 k p t out x l (l.length : Int) (i : Int)) (drvR (drv p out (x :: l.drop (i + 1)))) := by
      intro m
      induction m with
      | zero =>
        intro x hm hx0 hx1
        refine Ev.step (fun k => impl_drive.l1.eq_2 ..) ?_
        refine ev_neg (by omega) (ev_pos (by omega) ?_)
        refine ev_val (Ev.now _) ?_
        simp only [drv]
        rw [land_stop out p x (by omega), if_neg (by omega)]
        rfl
      | succ m ihm =>
        intro x hm hx0 hx1
        have hlen := ht.1
        refine Ev.step (fun k => impl_drive.l1.eq_2 ..) ?_
        refine ev_pos (by omega) (ev_pos (by omega) (ev_pos (by omega) ?_))
        by_cases hh : x ∈ out
        · refine ev_pos ((ht.2 x hx0 (by omega)).mpr hh) ?_
          rw [wrap_id (x + 1) (by omega) (by omega)]
          refine ev_val (ihm (x + 1) (by omega) (by omega) (by omega)) ?_
          simp only [drv]
          rw [land_go out p x (by omega) hh]
        · refine ev_neg (fun h => hh ((ht.2 x hx0 (by omega)).mp h)) (ev_neg (by omega) (ev_pos (by omega) ?_))
          rw [wrap_nat i (by omega)]
          refine ev_val (ih (i + 1) _ _ (by omega) (by simp; omega) (Tk_set p out t ht x hx0 (by omega))) ?_
          simp only [drv]
          rw [land_stop out p x (fun h => hh h.2), if_pos (by omega)]
    exact inner _ l[i] rfl hxi.1 hxi.2
theorem impl_drive.ev (l : List Int) (p : Int) (hp0 : 0 ≤ p) (hp : p ≤ 1048576) (hl : l.length ≤ 1048576) (hx : ∀ x ∈ l, 0 ≤ x ∧ x ≤ 1048576) : Ev (fun k => impl_drive.f k l p) (drvR (drv p [] l)) := by
  simp only [impl_drive.f]
  refine ev_pos hp0 (ev_pos (by omega) ?_)
  refine impl_drive.evl p hp l hl hx l.length 0 [] _ (by omega) rfl ⟨by simp, fun j j0 j1 => ?_⟩
  unfold rdOf
  rw [List.getD_eq_getElem?_getD, List.getElem?_replicate]
  split <;> simp

theorem impl_DriveCars.ev (l : List Int) (p : Int) (hl : l.length ≤ 1048576) : Ev (fun k => impl_DriveCars.f k l p) (carsR l p) := by
  simp only [impl_DriveCars.f]
  unfold carsR
  refine Ev.bind (ev_eq (impl_AreFavourites.is l p (by omega))) ?_
  cases e : fav l p with
  | true =>
    have h := (fav_iff l p).mp e
    exact ev_pos rfl (Ev.bind (impl_drive.ev l p (by omega) (by omega) hl (fun x hx => by have := h.2.2.2 x hx; omega)) (Ev.now _))
  | false => exact ev_neg (by decide) (Ev.now _)

theorem impl_TakenPlaces.ev (l : List Int) (p : Int) (hl : l.length ≤ 1048576) : Ev (fun k => impl_TakenPlaces.f k l p) (takenR l p) := by
  simp only [impl_TakenPlaces.f]
  unfold takenR
  have h := carsR_len l p
  exact Ev.bind (impl_DriveCars.ev l p hl) (ev_pos (by omega) (Ev.now _))

theorem laws_markIntS.evl (m : Int) (hm0 : 0 ≤ m) (hm : m ≤ 4611686018427387904) (n : Nat) (hn : n < 4611686018427387904) (d : Nat) : ∀ (i : Nat) (y : List Int), i + d = n → y.length = n → Ev (fun k => laws_markIntS.l0 k y (m + (i : Int)) (i : Int)) (m + (n : Int), y.take i ++ marks (m + (i : Int)) d) := by
  induction d with
  | zero =>
    intro i y hi hy
    refine Ev.step (fun k => laws_markIntS.l0.eq_2 ..) ?_
    refine ev_neg (by omega) ?_
    refine ev_val (Ev.now _) ?_
    rw [List.take_of_length_le (by omega), show (i : Int) = n by omega]
    simp [marks]
  | succ d ih =>
    intro i y hi hy
    refine Ev.step (fun k => laws_markIntS.l0.eq_2 ..) ?_
    refine ev_pos (by omega) (ev_pos (by omega) ?_)
    rw [wrap_nat i (by omega), Int.toNat_natCast, show wrap64 (m + (i : Int) + 1) = m + ((i + 1 : Nat) : Int) by unfold wrap64; omega]
    refine ev_val (ih (i + 1) (y.set i (m + (i : Int))) (by omega) (by simp; omega)) ?_
    rw [List.take_succ_eq_append_getElem (by simp; omega), List.take_set_of_le (Nat.le_refl i), List.getElem_set_self, List.append_assoc]
    simp only [marks, List.singleton_append, show m + ((i + 1 : Nat) : Int) = m + (i : Int) + 1 by omega]
theorem laws_markIntS.ev_at (y : List Int) (m : Int) (hm0 : 0 ≤ m) (hm : m ≤ 4611686018427387904) (hn : y.length < 4611686018427387904) : Ev (fun k => laws_markIntS.f k y m) (m + (y.length : Int), marks m y.length) := by
  simp only [laws_markIntS.f]
  have h := laws_markIntS.evl m hm0 hm y.length hn y.length 0 y (by omega) rfl
  simpa using h
theorem laws_markIntS.ev (y : List Int) (hn : y.length < 4611686018427387904) : Ev (fun k => laws_markIntS.f k y 1) (1 + (y.length : Int), marks 1 y.length) := laws_markIntS.ev_at y 1 (by omega) (by omega) hn

theorem laws_heldIntS.evl (y : List Int) (hn : y.length < 4611686018427387904) (d : Nat) : ∀ (i : Nat), i + d = y.length → y.drop i = marks (1 + (i : Int)) d → Ev (fun k => laws_heldIntS.l0 k y (1 + (i : Int)) (i : Int)) (1 + (y.length : Int)) := by
  induction d with
  | zero =>
    intro i hi hy
    refine Ev.step (fun k => laws_heldIntS.l0.eq_2 ..) ?_
    refine ev_neg (by omega) ?_
    refine ev_val (Ev.now _) ?_
    omega
  | succ d ih =>
    intro i hi hy
    refine Ev.step (fun k => laws_heldIntS.l0.eq_2 ..) ?_
    rw [List.drop_eq_getElem_cons (by omega)] at hy
    simp only [marks, List.cons.injEq] at hy
    refine ev_pos (by omega) (ev_pos (by omega) ?_)
    rw [rd_nat y i (by omega)]
    refine ev_pos hy.1 ?_
    rw [wrap_nat i (by omega), show wrap64 (1 + (i : Int) + 1) = 1 + ((i + 1 : Nat) : Int) by unfold wrap64; omega]
    refine ih (i + 1) (by omega) ?_
    rw [hy.2, show 1 + ((i + 1 : Nat) : Int) = 1 + (i : Int) + 1 by omega]
theorem laws_heldIntS.ev (n : Nat) (hn : n < 4611686018427387904) : Ev (fun k => laws_heldIntS.f k (marks 1 n) 1) (1 + (n : Int)) := by
  simp only [laws_heldIntS.f]
  have h := laws_heldIntS.evl (marks 1 n) (by rw [marks_len]; exact hn) n 0 (by rw [marks_len]; omega) (by simp)
  rw [marks_len] at h
  simpa using h

end Go.Proofs.Ytdiohjdfiambhaa.QFnExactTakenPlaces
