/- Proved here: what the Lean functions printed for the Go functions of law FnExactParkingOfClass compute, in words of lists and whole numbers, for lists shorter than 2^62. -/
import Derived.Test.YtchhfdhnoldngaaQFnExactParkingOfClassx
import Derived.Test.YtchhfdhnoldngaaMDrive
import Derived.Test.YtchhfdhnoldngaaMCrit
import Derived.Test.YtchhfdhnoldngaaMCircle
namespace Go.Proofs.Ytchhfdhnoldngaa.QFnExactParkingOfClass
open Go.RowKit Go.Proofs.YtchhfdhnoldngaaW.PrintWords Go.Proofs.YtchhfdhnoldngaaW.PrintLast Go.Proofs.Ytchhfdhnoldngaa.Math
set_option linter.unusedVariables false
set_option linter.unusedSimpArgs false

theorem ev_pos {α : Type} {c : Prop} [Decidable c] {g f : Nat → Option α} {r : α} (h : c) (k : Ev g r) : Ev (fun n => if c then g n else f n) r := by
  obtain ⟨K, hK⟩ := k
  exact ⟨K, fun n hn => by simp only [if_pos h]; exact hK n hn⟩
theorem ev_neg {α : Type} {c : Prop} [Decidable c] {g f : Nat → Option α} {r : α} (h : ¬ c) (k : Ev f r) : Ev (fun n => if c then g n else f n) r := by
  obtain ⟨K, hK⟩ := k
  exact ⟨K, fun n hn => by simp only [if_neg h]; exact hK n hn⟩
theorem ev_eq {α : Type} {g : Option α} {r : α} (h : g = some r) : Ev (fun _ => g) r := ⟨0, fun _ _ => h⟩
theorem ev_val {α : Type} {g : Nat → Option α} {r q : α} (h : Ev g r) (e : r = q) : Ev g q := e ▸ h
theorem wrap_nat (i : Nat) (h : i < 4611686018427387904) : wrap64 ((i : Int) + 1) = ((i + 1 : Nat) : Int) := by
  unfold wrap64
  omega
theorem wrap_id (x : Int) (h : -9223372036854775808 ≤ x) (h' : x ≤ 9223372036854775807) : wrap64 x = x := by
  unfold wrap64
  omega
theorem rd_nat (l : List Int) (i : Nat) (h : i < l.length) : rd l (i : Int) = l[i] := by
  simp [rd, List.getD_eq_getElem?_getD, h]
theorem rd_int (l : List Int) (x : Int) (h0 : 0 ≤ x) (h : x < l.length) : rd l x = l[x.toNat]'(by omega) := by
  have e : x = ((x.toNat : Nat) : Int) := by omega
  have h2 : x.toNat < l.length := by omega
  rw [show rd l x = rd l ((x.toNat : Nat) : Int) by rw [← e]]
  exact rd_nat l x.toNat h2
/-- m, m + 1, .., n numbers -/
def marks : Int → Nat → List Int
  | _, 0 => []
  | m, n + 1 => m :: marks (m + 1) n
theorem marks_len : ∀ (n : Nat) (m : Int), (marks m n).length = n
  | 0, _ => rfl
  | n + 1, m => by simp [marks, marks_len n]
theorem take_set_succ (y l : List Int) (i : Nat) (hi : i < l.length) (hy : y.length = l.length) (h : y.take i = l.take i) : (y.set i l[i]).take (i + 1) = l.take (i + 1) := by
  rw [List.take_succ_eq_append_getElem (by simp; omega), List.take_succ_eq_append_getElem hi, List.take_set_of_le (Nat.le_refl i), h, List.getElem_set_self]
/-- all numbers lie from lo to hi -/
def inAll (lo hi : Int) (l : List Int) : Bool := l.all fun x => decide (lo ≤ x) && decide (x ≤ hi)
theorem inAll_iff (lo hi : Int) (l : List Int) : inAll lo hi l = true ↔ ∀ x ∈ l, lo ≤ x ∧ x ≤ hi := by
  simp [inAll]

theorem laws_toIntS.evl (l : List Int) (hl : l.length < 4611686018427387904) (d : Nat) : ∀ (i : Nat) (y : List Int), i + d = l.length → y.length = l.length → y.take i = l.take i → Ev (fun k => laws_toIntS.l0 k l y (i : Int)) l := by
  induction d with
  | zero =>
    intro i y hi hy ht
    refine Ev.step (fun k => laws_toIntS.l0.eq_2 ..) ?_
    refine ev_neg (by omega) ?_
    refine ev_val (Ev.now _) ?_
    rw [show i = l.length by omega] at ht
    rw [List.take_of_length_le (by omega), List.take_of_length_le (by omega)] at ht
    exact ht
  | succ d ih =>
    intro i y hi hy ht
    refine Ev.step (fun k => laws_toIntS.l0.eq_2 ..) ?_
    refine ev_pos (by omega) (ev_pos (by omega) (ev_pos (by omega) ?_))
    rw [wrap_nat i (by omega), rd_nat l i (by omega), Int.toNat_natCast]
    exact ih (i + 1) _ (by omega) (by simp; omega) (take_set_succ y l i (by omega) hy ht)
theorem laws_toIntS.ev (l : List Int) (hl : l.length ≤ 1048576) : Ev (fun k => laws_toIntS.f k l) l := by
  simp only [laws_toIntS.f]
  refine ev_pos (by omega) (ev_pos (by omega) ?_)
  exact laws_toIntS.evl l (by omega) l.length 0 _ (by omega) (by simp) (by simp)

theorem laws_eqIntS.evl (a b : List Int) (hl : a.length < 4611686018427387904) (h : a.length = b.length) (d : Nat) : ∀ (i : Nat), i + d = a.length → Ev (fun k => laws_eqIntS.l0 k a b (i : Int)) (decide (a.drop i = b.drop i)) := by
  induction d with
  | zero =>
    intro i hi
    refine Ev.step (fun k => laws_eqIntS.l0.eq_2 ..) ?_
    refine ev_neg (by omega) ?_
    refine ev_val (Ev.now _) ?_
    rw [List.drop_of_length_le (by omega), List.drop_of_length_le (by omega)]
    rfl
  | succ d ih =>
    intro i hi
    refine Ev.step (fun k => laws_eqIntS.l0.eq_2 ..) ?_
    refine ev_pos (by omega) (ev_pos (by omega) (ev_pos (by omega) ?_))
    rw [wrap_nat i (by omega), rd_nat a i (by omega), rd_nat b i (by omega)]
    rw [List.drop_eq_getElem_cons (l := a) (by omega), List.drop_eq_getElem_cons (l := b) (by omega)]
    by_cases e : a[i] = b[i]'(by omega)
    · refine ev_pos e (ev_val (ih (i + 1) (by omega)) ?_)
      simp only [List.cons.injEq, e, true_and]
    · refine ev_neg e (ev_val (Ev.now _) ?_)
      simp only [List.cons.injEq, e, false_and, decide_false]
theorem laws_eqIntS.ev (a b : List Int) (hl : a.length < 4611686018427387904) : Ev (fun k => laws_eqIntS.f k a b) (decide (a = b)) := by
  simp only [laws_eqIntS.f]
  by_cases h : a.length = b.length
  · refine ev_pos (by omega) (ev_val (laws_eqIntS.evl a b hl h a.length 0 (by omega)) ?_)
    simp
  · refine ev_neg (by omega) (ev_val (Ev.now _) ?_)
    exact (decide_eq_false (fun e => h (by rw [e]))).symm
theorem laws_eqIntS.ev_self (a : List Int) (hl : a.length < 4611686018427387904) : Ev (fun k => laws_eqIntS.f k a a) true := ev_val (laws_eqIntS.ev a a hl) (by simp)

theorem laws_markIntS.evl (m : Int) (hm0 : 0 ≤ m) (hm : m ≤ 4611686018427387904) (n : Nat) (hn : n < 4611686018427387904) (d : Nat) : ∀ (i : Nat) (y : List Int), i + d = n → y.length = n → Ev (fun k => laws_markIntS.l0 k y (m + (i : Int)) (i : Int)) (m + (n : Int), y.take i ++ marks (m + (i : Int)) d) := by
  induction d with
  | zero =>
    intro i y hi hy
    refine Ev.step (fun k => laws_markIntS.l0.eq_2 ..) ?_
    refine ev_neg (by omega) ?_
    refine ev_val (Ev.now _) ?_
    rw [List.take_of_length_le (by omega), show (i : Int) = n by omega]
    simp [marks]
  | succ d ih =>
    intro i y hi hy
    refine Ev.step (fun k => laws_markIntS.l0.eq_2 ..) ?_
    refine ev_pos (by omega) (ev_pos (by omega) ?_)
    rw [wrap_nat i (by omega), Int.toNat_natCast, show wrap64 (m + (i : Int) + 1) = m + ((i + 1 : Nat) : Int) by unfold wrap64; omega]
    refine ev_val (ih (i + 1) (y.set i (m + (i : Int))) (by omega) (by simp; omega)) ?_
    rw [List.take_succ_eq_append_getElem (by simp; omega), List.take_set_of_le (Nat.le_refl i), List.getElem_set_self, List.append_assoc]
    simp only [marks, List.singleton_append, show m + ((i + 1 : Nat) : Int) = m + (i : Int) + 1 by omega]
theorem laws_markIntS.ev_at (y : List Int) (m : Int) (hm0 : 0 ≤ m) (hm : m ≤ 4611686018427387904) (hn : y.length < 4611686018427387904) : Ev (fun k => laws_markIntS.f k y m) (m + (y.length : Int), marks m y.length) := by
  simp only [laws_markIntS.f]
  have h := laws_markIntS.evl m hm0 hm y.length hn y.length 0 y (by omega) rfl
  simpa using h
theorem laws_markIntS.ev (y : List Int) (hn : y.length < 4611686018427387904) : Ev (fun k => laws_markIntS.f k y 1) (1 + (y.length : Int), marks 1 y.length) := laws_markIntS.ev_at y 1 (by omega) (by omega) hn

theorem laws_heldIntS.evl (y : List Int) (hn : y.length < 4611686018427387904) (d : Nat) : ∀ (i : Nat), i + d = y.length → y.drop i = marks (1 + (i : Int)) d → Ev (fun k => laws_heldIntS.l0 k y (1 + (i : Int)) (i : Int)) (1 + (y.length : Int)) := by
  induction d with
  | zero =>
    intro i hi hy
    refine Ev.step (fun k => laws_heldIntS.l0.eq_2 ..) ?_
    refine ev_neg (by omega) ?_
    refine ev_val (Ev.now _) ?_
    omega
  | succ d ih =>
    intro i hi hy
    refine Ev.step (fun k => laws_heldIntS.l0.eq_2 ..) ?_
    rw [List.drop_eq_getElem_cons (by omega)] at hy
    simp only [marks, List.cons.injEq] at hy
    refine ev_pos (by omega) (ev_pos (by omega) ?_)
    rw [rd_nat y i (by omega)]
    refine ev_pos hy.1 ?_
    rw [wrap_nat i (by omega), show wrap64 (1 + (i : Int) + 1) = 1 + ((i + 1 : Nat) : Int) by unfold wrap64; omega]
    refine ih (i + 1) (by omega) ?_
    rw [hy.2, show 1 + ((i + 1 : Nat) : Int) = 1 + (i : Int) + 1 by omega]
theorem laws_heldIntS.ev (n : Nat) (hn : n < 4611686018427387904) : Ev (fun k => laws_heldIntS.f k (marks 1 n) 1) (1 + (n : Int)) := by
  simp only [laws_heldIntS.f]
  have h := laws_heldIntS.evl (marks 1 n) (by rw [marks_len]; exact hn) n 0 (by rw [marks_len]; omega) (by simp)
  rw [marks_len] at h
  simpa using h

theorem spec_l1In.is (x lo hi : Int) : spec_l1In.f x lo hi = some (decide (lo ≤ x) && decide (x ≤ hi)) := by
  unfold spec_l1In.f
  by_cases h : x ≥ lo
  · rw [if_pos h, decide_eq_true (show lo ≤ x from h), Bool.true_and]
  · rw [if_neg h, decide_eq_false (show ¬ lo ≤ x from h), Bool.false_and]

theorem spec_l1All.evl (lo hi : Int) (l : List Int) (hl : l.length < 4611686018427387904) (d : Nat) : ∀ (i : Nat), i + d = l.length → Ev (fun k => spec_l1All.l0 k lo hi l (l.length : Int) (i : Int)) (inAll lo hi (l.drop i)) := by
  induction d with
  | zero =>
    intro i hi0
    refine Ev.step (fun k => spec_l1All.l0.eq_2 ..) ?_
    refine ev_neg (by omega) ?_
    refine ev_val (Ev.now _) ?_
    rw [List.drop_of_length_le (by omega)]
    rfl
  | succ d ih =>
    intro i hi0
    refine Ev.step (fun k => spec_l1All.l0.eq_2 ..) ?_
    refine ev_pos (by omega) (ev_pos (by omega) (ev_pos (by omega) ?_))
    rw [wrap_nat i (by omega), rd_nat l i (by omega), List.drop_eq_getElem_cons (by omega), spec_l1In.is]
    refine Ev.bind (Ev.now _) ?_
    have u : inAll lo hi (l[i] :: l.drop (i + 1)) = ((decide (lo ≤ l[i]) && decide (l[i] ≤ hi)) && inAll lo hi (l.drop (i + 1))) := rfl
    rw [u]
    generalize (decide (lo ≤ l[i]) && decide (l[i] ≤ hi)) = b
    cases b with
    | true => exact ev_pos rfl (ih (i + 1) (by omega))
    | false => exact ev_neg (by decide) (Ev.now _)
theorem spec_l1All.ev (l : List Int) (lo hi : Int) (hl : l.length < 4611686018427387904) : Ev (fun k => spec_l1All.f k l lo hi) (inAll lo hi l) := by
  simp only [spec_l1All.f]
  exact spec_l1All.evl lo hi l hl l.length 0 (by omega)

/-- favourites for a street of p places -/
def fav (l : List Int) (p : Int) : Bool := decide (1 ≤ p) && decide (p ≤ 12) && decide (l.length ≤ 8) && inAll 0 (p - 1) l
theorem fav_iff (l : List Int) (p : Int) : fav l p = true ↔ 1 ≤ p ∧ p ≤ 12 ∧ l.length ≤ 8 ∧ ∀ x ∈ l, 0 ≤ x ∧ x < p := by
  unfold fav
  simp only [Bool.and_eq_true, decide_eq_true_eq, inAll_iff]
  constructor
  · rintro ⟨⟨⟨h1, h2⟩, h3⟩, h4⟩
    exact ⟨h1, h2, h3, fun x hx => by have := h4 x hx; omega⟩
  · rintro ⟨h1, h2, h3, h4⟩
    exact ⟨⟨⟨h1, h2⟩, h3⟩, fun x hx => by have := h4 x hx; omega⟩

def circR (l : List Int) (p : Int) : List Int × Bool := if fav l p = true then (if (l.length : Int) > p then ([], false) else (cdrv p [] l, true)) else ([], false)
theorem circR_len (l : List Int) (p : Int) : (circR l p).1.length ≤ l.length := by
  unfold circR
  split
  · split
    · simp
    · rw [cdrv_length]; simp
  · simp
theorem tmod_step (x p : Int) (h0 : 0 ≤ x) (h1 : x < p) (hp : p ≤ 1048577) : Int.tmod (wrap64 (x + 1)) p = (x + 1) % p := by
  rw [wrap_id (x + 1) (by omega) (by omega)]
  exact Int.tmod_eq_emod_of_nonneg (by omega)

/-- is a list one of a circle with one place more than cars -/
def isCirc (l : List Int) : Bool := decide (l.length ≤ 8) && inAll 0 (l.length : Int) l
theorem isCirc_iff (l : List Int) : isCirc l = true ↔ l.length ≤ 8 ∧ ∀ x ∈ l, 0 ≤ x ∧ x < (l.length : Int) + 1 := by
  unfold isCirc
  rw [Bool.and_eq_true, decide_eq_true_eq, inAll_iff]
  constructor
  · rintro ⟨a, b⟩
    exact ⟨a, fun x hx => by have := b x hx; omega⟩
  · rintro ⟨a, b⟩
    exact ⟨a, fun x hx => by have := b x hx; omega⟩
theorem cdrv_range (p : Int) : ∀ (l out : List Int), (∀ x ∈ l, 0 ≤ x ∧ x < p) → (∀ x ∈ out, 0 ≤ x ∧ x < p) → ∀ y ∈ cdrv p out l, 0 ≤ y ∧ y < p
  | [], out, _, ho, y, hy => ho y hy
  | x :: l, out, hx, ho, y, hy => by
    refine cdrv_range p l _ (fun z hz => hx z (List.mem_cons_of_mem _ hz)) (fun z hz => ?_) y hy
    rcases List.mem_append.mp hz with hz | hz
    · exact ho z hz
    · simp only [List.mem_singleton] at hz
      have h := hx x List.mem_cons_self
      rw [hz]
      exact cland_range out p x h.1 h.2
/-- the place that stays free -/
def freeOf (l : List Int) : Int := land (cdrv ((l.length : Int) + 1) [] l) ((l.length : Int) + 1) 0
def freeR (l : List Int) : Int × Bool := if isCirc l = true then (freeOf l, true) else (0, false)

theorem spec_cnList.ev (l : List Int) (hl : l.length ≤ 1048576) : Ev (fun k => spec_cnList.f k l) (isCirc l) := by
  simp only [spec_cnList.f]
  unfold isCirc
  by_cases h8 : l.length ≤ 8
  · rw [decide_eq_true h8, Bool.true_and]
    exact ev_pos (by omega) (Ev.bind (spec_l1All.ev l 0 _ (by omega)) (Ev.now _))
  · rw [decide_eq_false h8]
    exact ev_neg (by omega) (Ev.now _)

theorem spec_l1Has.evl (x : Int) (l : List Int) (hl : l.length < 4611686018427387904) (d : Nat) : ∀ (i : Nat), i + d = l.length → Ev (fun k => spec_l1Has.l0 k x l (l.length : Int) (i : Int)) (decide (x ∈ l.drop i)) := by
  induction d with
  | zero =>
    intro i hi
    refine Ev.step (fun k => spec_l1Has.l0.eq_2 ..) ?_
    refine ev_neg (by omega) ?_
    refine ev_val (Ev.now _) ?_
    rw [List.drop_of_length_le (by omega)]
    simp
  | succ d ih =>
    intro i hi
    refine Ev.step (fun k => spec_l1Has.l0.eq_2 ..) ?_
    refine ev_pos (by omega) (ev_pos (by omega) (ev_pos (by omega) ?_))
    rw [wrap_nat i (by omega), rd_nat l i (by omega), List.drop_eq_getElem_cons (by omega)]
    by_cases e : l[i] = x
    · refine ev_pos e (ev_val (Ev.now _) ?_)
      simp [e]
    · refine ev_neg e (ev_val (ih (i + 1) (by omega)) ?_)
      simp only [List.mem_cons, show ¬ x = l[i] from fun h => e h.symm, false_or]
theorem spec_l1Has.ev (l : List Int) (x : Int) (hl : l.length < 4611686018427387904) : Ev (fun k => spec_l1Has.f k l x) (decide (x ∈ l)) := by
  simp only [spec_l1Has.f]
  exact spec_l1Has.evl x l hl l.length 0 (by omega)

theorem spec_cnCircle.evl (p : Int) (hp0 : 0 < p) (hp : p ≤ 1048577) (l : List Int) (hl : (l.length : Int) ≤ p) (hl2 : l.length ≤ 1048576) (hx : ∀ x ∈ l, 0 ≤ x ∧ x < p) (d : Nat) : ∀ (i : Nat) (out : List Int), i + d = l.length → out.length = i → Ev (fun k => spec_cnCircle.l0 k p out l (l.length : Int) (i : Int)) (cdrv p out (l.drop i)) := by
  induction d with
  | zero =>
    intro i out hi ho
    refine Ev.step (fun k => spec_cnCircle.l0.eq_2 ..) ?_
    refine ev_neg (by omega) (ev_val (Ev.now _) ?_)
    rw [List.drop_of_length_le (by omega)]
    rfl
  | succ d ih =>
    intro i out hi ho
    refine Ev.step (fun k => spec_cnCircle.l0.eq_2 ..) ?_
    refine ev_pos (by omega) (ev_pos (by omega) (ev_pos (by omega) ?_))
    rw [rd_nat l i (by omega), List.drop_eq_getElem_cons (by omega)]
    have hxi := hx l[i] (List.getElem_mem _)
    obtain ⟨y, y0, y1, yn⟩ := free_place out p hp0 (by omega)
    have inner : ∀ (m : Nat) (x : Int), 0 ≤ x → x < p → ((y - x) % p).toNat = m → Ev (fun k => spec_cnCircle.l1 k p out x l (l.length : Int) (i : Int)) (cdrv p (out ++ [cland out p x]) (l.drop (i + 1))) := by
      intro m
      induction m with
      | zero =>
        intro x h0 h1 hm
        refine Ev.step (fun k => spec_cnCircle.l1.eq_2 ..) ?_
        have hxn : x ∉ out := fun hc => by
          have := mod_step p x y h0 h1 y0 y1 (fun e => yn (e ▸ hc))
          omega
        refine Ev.bind (spec_l1Has.ev out x (by omega)) ?_
        rw [decide_eq_false hxn, cland_stop out p x hxn, wrap_nat i (by omega)]
        exact ev_neg (by decide) (ev_pos (by omega) (ih (i + 1) _ (by omega) (by simp; omega)))
      | succ m ihm =>
        intro x h0 h1 hm
        refine Ev.step (fun k => spec_cnCircle.l1.eq_2 ..) ?_
        refine Ev.bind (spec_l1Has.ev out x (by omega)) ?_
        by_cases hc : x ∈ out
        · have h2 := mod_step p x y h0 h1 y0 y1 (fun e => yn (e ▸ hc))
          have h3 := mod_range p x hp0
          rw [decide_eq_true hc, tmod_step x p h0 h1 hp, cland_go out p y y0 y1 yn x h0 h1 hc]
          exact ev_pos rfl (ev_neg (by omega) (ihm _ h3.1 h3.2 (by omega)))
        · rw [decide_eq_false hc, cland_stop out p x hc, wrap_nat i (by omega)]
          exact ev_neg (by decide) (ev_pos (by omega) (ih (i + 1) _ (by omega) (by simp; omega)))
    exact inner _ l[i] hxi.1 hxi.2 rfl
theorem spec_cnCircle.ev (l : List Int) (p : Int) (hp0 : 0 < p) (hp : p ≤ 1048577) (hl : (l.length : Int) ≤ p) (hl2 : l.length ≤ 1048576) (hx : ∀ x ∈ l, 0 ≤ x ∧ x < p) : Ev (fun k => spec_cnCircle.f k l p) (cdrv p [] l) := by
  simp only [spec_cnCircle.f]
  exact spec_cnCircle.evl p hp0 hp l hl hl2 hx l.length 0 [] (by omega) rfl

theorem spec_cnFree.evl (t : List Int) (p : Int) (hp : p ≤ 1048577) (ht : ∀ y ∈ t, y < p) (hl : t.length ≤ 1048576) : ∀ (d : Nat) (x : Int), 0 ≤ x → (p - x).toNat = d → Ev (fun k => spec_cnFree.l0 k t x) (land t p x)
  | 0, x, h0, e => by
    refine Ev.step (fun k => spec_cnFree.l0.eq_2 ..) ?_
    have hn : x ∉ t := fun hc => by
      have := ht x hc
      omega
    refine Ev.bind (spec_l1Has.ev t x (by omega)) ?_
    rw [decide_eq_false hn, land_stop t p x (fun h => hn h.2)]
    exact ev_neg (by decide) (Ev.now _)
  | d + 1, x, h0, e => by
    refine Ev.step (fun k => spec_cnFree.l0.eq_2 ..) ?_
    refine Ev.bind (spec_l1Has.ev t x (by omega)) ?_
    by_cases hc : x ∈ t
    · rw [decide_eq_true hc, wrap_id (x + 1) (by omega) (by omega), land_go t p x (by omega) hc]
      exact ev_pos rfl (spec_cnFree.evl t p hp ht hl d (x + 1) (by omega) (by omega))
    · rw [decide_eq_false hc, land_stop t p x (fun h => hc h.2)]
      exact ev_neg (by decide) (Ev.now _)
theorem spec_cnFree.ev (l : List Int) (h : isCirc l = true) : Ev (fun k => spec_cnFree.f k l) (freeOf l) := by
  have ⟨h8, hx⟩ := (isCirc_iff l).mp h
  simp only [spec_cnFree.f]
  rw [wrap_id ((l.length : Int) + 1) (by omega) (by omega)]
  refine Ev.bind (spec_cnCircle.ev l _ (by omega) (by omega) (by omega) (by omega) hx) ?_
  exact spec_cnFree.evl _ _ (by omega) (fun y hy => (cdrv_range _ l [] hx (by simp) y hy).2) (by rw [cdrv_length]; simp; omega) _ 0 (by omega) rfl

/-- one favourite, turned -/
def turn1 (p b x : Int) : Int := Int.tmod (wrap64 ((Int.tmod (wrap64 (x + b)) p) + p)) p
def turnR (l : List Int) (p b : Int) : List Int × Bool := if (fav l p && (decide (-1000 ≤ b) && decide (b ≤ 1000))) = true then (l.map (turn1 p b), true) else ([], false)
theorem turnR_len (l : List Int) (p b : Int) : (turnR l p b).1.length ≤ l.length := by
  unfold turnR
  split <;> simp

theorem spec_cnTurn.evl (p b : Int) (hp : p ≠ 0) (l : List Int) (hl : l.length ≤ 1048576) (d : Nat) : ∀ (i : Nat) (out : List Int), i + d = l.length → out.length = i → Ev (fun k => spec_cnTurn.l0 k p b out l (l.length : Int) (i : Int)) (out ++ (l.drop i).map (turn1 p b)) := by
  induction d with
  | zero =>
    intro i out hi ho
    refine Ev.step (fun k => spec_cnTurn.l0.eq_2 ..) ?_
    refine ev_neg (by omega) ?_
    refine ev_val (Ev.now _) ?_
    rw [List.drop_of_length_le (by omega)]
    simp
  | succ d ih =>
    intro i out hi ho
    refine Ev.step (fun k => spec_cnTurn.l0.eq_2 ..) ?_
    refine ev_pos (by omega) (ev_pos (by omega) (ev_pos (by omega) (ev_neg hp (ev_pos (by omega) ?_))))
    rw [rd_nat l i (by omega), wrap_nat i (by omega), List.drop_eq_getElem_cons (by omega)]
    refine ev_val (ih (i + 1) _ (by omega) (by simp; omega)) ?_
    rw [List.map_cons, List.append_assoc]
    rfl
theorem spec_cnTurn.ev (l : List Int) (p b : Int) (hp : p ≠ 0) (hl : l.length ≤ 1048576) : Ev (fun k => spec_cnTurn.f k l p b) (l.map (turn1 p b)) := by
  simp only [spec_cnTurn.f]
  exact spec_cnTurn.evl p b hp l hl l.length 0 [] (by omega) rfl

def classR (l : List Int) : List Int × Int × Bool := if isCirc l = true then (l.map (turn1 ((l.length : Int) + 1) (wrap64 ((l.length : Int) - freeOf l))), wrap64 ((l.length : Int) - freeOf l), true) else ([], 0, false)
theorem classR_len (l : List Int) : (classR l).1.length ≤ l.length := by
  unfold classR
  split <;> simp

theorem spec_ParkingOfClass.ev (l : List Int) (hl : l.length ≤ 1048576) : Ev (fun k => spec_ParkingOfClass.f k l) (classR l) := by
  simp only [spec_ParkingOfClass.f]
  unfold classR
  refine Ev.bind (spec_cnList.ev l hl) ?_
  cases e : isCirc l with
  | true =>
    rw [wrap_id ((l.length : Int) + 1) (by omega) (by omega)]
    exact ev_pos rfl (Ev.bind (spec_cnFree.ev l e) (Ev.bind (spec_cnTurn.ev l _ _ (by omega) hl) (Ev.now _)))
  | false => exact ev_neg (by decide) (Ev.now _)

theorem impl_between.is (x lo hi : Int) : impl_between.f x lo hi = some (decide (lo ≤ x) && decide (x ≤ hi)) := by
  unfold impl_between.f
  by_cases h : x ≥ lo
  · rw [if_pos h, decide_eq_true (show lo ≤ x from h), Bool.true_and]
  · rw [if_neg h, decide_eq_false (show ¬ lo ≤ x from h), Bool.false_and]

theorem impl_isCars.is (n : Int) : impl_isCars.f n = some (decide (0 ≤ n) && decide (n ≤ 8)) := by
  simp only [impl_isCars.f, impl_between.is, Option.bind_some]

theorem impl_areBetween.is (l : List Int) (lo hi : Int) (hl : l.length ≤ 35184372088832) : impl_areBetween.f l lo hi = some (inAll lo hi l) := by
  unfold impl_areBetween.f
  rw [if_pos hl]
  congr 1
  unfold inAll out_b
  induction l with
  | nil => rfl
  | cons x l ih =>
    rw [List.any_cons, List.all_cons, ← ih (by simp at hl; omega)]
    cases (decide (lo ≤ x) && decide (x ≤ hi)) <;> simp

theorem impl_isCircle.is (l : List Int) (hl : l.length ≤ 1048576) : impl_isCircle.f l = some (isCirc l) := by
  simp only [impl_isCircle.f, impl_isCars.is, Option.bind_some]
  unfold isCirc
  by_cases h8 : l.length ≤ 8
  · rw [decide_eq_true h8, decide_eq_true (show (0 : Int) ≤ (l.length : Int) by omega), decide_eq_true (show (l.length : Int) ≤ 8 by omega), impl_areBetween.is l 0 _ (by omega)]
    rfl
  · rw [decide_eq_false h8, decide_eq_false (show ¬ (l.length : Int) ≤ 8 by omega), Bool.and_false]
    rfl

/-- the table t tells which places are in out -/
def Tk (p : Int) (out : List Int) (t : List Bool) : Prop := t.length = p.toNat ∧ ∀ j : Int, 0 ≤ j → j < p → (rdOf false t j = true ↔ j ∈ out)
theorem Tk_set (p : Int) (out : List Int) (t : List Bool) (h : Tk p out t) (x : Int) (h0 : 0 ≤ x) (h1 : x < p) : Tk p (out ++ [x]) (t.set x.toNat true) := by
  refine ⟨by rw [List.length_set]; exact h.1, fun j j0 j1 => ?_⟩
  have hl := h.1
  have hj := h.2 j j0 j1
  unfold rdOf at hj ⊢
  rw [List.getD_eq_getElem?_getD] at hj ⊢
  rw [List.getElem?_set]
  by_cases e : x.toNat = j.toNat
  · have e' : j = x := by omega
    subst e'
    rw [if_pos rfl, if_pos (by omega)]
    simp
  · rw [if_neg e]
    rw [hj]
    have e' : ¬ j = x := by omega
    simp [e']

theorem impl_driveCircle.evl (p : Int) (hp0 : 0 < p) (hp : p ≤ 1048577) (l : List Int) (hl : (l.length : Int) ≤ p) (hl2 : l.length ≤ 1048576) (hx : ∀ x ∈ l, 0 ≤ x ∧ x < p) (d : Nat) : ∀ (i : Nat) (out : List Int) (t : List Bool), i + d = l.length → out.length = i → Tk p out t → Ev (fun k => impl_driveCircle.l0 k p t out l (l.length : Int) (i : Int)) (cdrv p out (l.drop i)) := by
  induction d with
  | zero =>
    intro i out t hi ho ht
    refine Ev.step (fun k => impl_driveCircle.l0.eq_2 ..) ?_
    refine ev_neg (by omega) (ev_val (Ev.now _) ?_)
    rw [List.drop_of_length_le (by omega)]
    rfl
  | succ d ih =>
    intro i out t hi ho ht
    refine Ev.step (fun k => impl_driveCircle.l0.eq_2 ..) ?_
    refine ev_pos (by omega) (ev_pos (by omega) (ev_pos (by omega) ?_))
    rw [rd_nat l i (by omega), List.drop_eq_getElem_cons (by omega)]
    have hxi := hx l[i] (List.getElem_mem _)
    have hlen := ht.1
    obtain ⟨y, y0, y1, yn⟩ := free_place out p hp0 (by omega)
    have stop : ∀ x : Int, 0 ≤ x → x < p → x ∉ out → Ev (fun k => impl_driveCircle.l1 k p t out x l (l.length : Int) (i : Int)) (cdrv p (out ++ [cland out p x]) (l.drop (i + 1))) := by
      intro x h0 h1 hxn
      refine Ev.step (fun k => impl_driveCircle.l1.eq_2 ..) ?_
      rw [cland_stop out p x hxn, wrap_nat i (by omega)]
      refine ev_pos h0 (ev_pos (by omega) (ev_neg (fun h => hxn ((ht.2 x h0 h1).mp h)) (ev_pos (by omega) ?_)))
      exact ih (i + 1) _ _ (by omega) (by simp; omega) (Tk_set p out t ht x h0 h1)
    have inner : ∀ (m : Nat) (x : Int), 0 ≤ x → x < p → ((y - x) % p).toNat = m → Ev (fun k => impl_driveCircle.l1 k p t out x l (l.length : Int) (i : Int)) (cdrv p (out ++ [cland out p x]) (l.drop (i + 1))) := by
      intro m
      induction m with
      | zero =>
        intro x h0 h1 hm
        exact stop x h0 h1 (fun hc => by
          have := mod_step p x y h0 h1 y0 y1 (fun e => yn (e ▸ hc))
          omega)
      | succ m ihm =>
        intro x h0 h1 hm
        by_cases hc : x ∈ out
        · refine Ev.step (fun k => impl_driveCircle.l1.eq_2 ..) ?_
          have h2 := mod_step p x y h0 h1 y0 y1 (fun e => yn (e ▸ hc))
          have h3 := mod_range p x hp0
          rw [tmod_step x p h0 h1 hp, cland_go out p y y0 y1 yn x h0 h1 hc]
          exact ev_pos h0 (ev_pos (by omega) (ev_pos ((ht.2 x h0 h1).mpr hc) (ev_neg (by omega) (ihm _ h3.1 h3.2 (by omega)))))
        · exact stop x h0 h1 hc
    exact inner _ l[i] hxi.1 hxi.2 rfl
theorem impl_driveCircle.ev (l : List Int) (p : Int) (hp0 : 0 < p) (hp : p ≤ 1048577) (hl : (l.length : Int) ≤ p) (hl2 : l.length ≤ 1048576) (hx : ∀ x ∈ l, 0 ≤ x ∧ x < p) : Ev (fun k => impl_driveCircle.f k l p) (cdrv p [] l) := by
  simp only [impl_driveCircle.f]
  refine ev_pos (by omega) (ev_pos (by omega) ?_)
  refine impl_driveCircle.evl p hp0 hp l hl hl2 hx l.length 0 [] _ (by omega) rfl ⟨by simp, fun j j0 j1 => ?_⟩
  unfold rdOf
  rw [List.getD_eq_getElem?_getD, List.getElem?_replicate]
  split <;> simp

theorem slices_Index_int_int.evl (l : List Int) (x : Int) (hl : l.length ≤ 1048576) (d : Nat) : ∀ (i : Nat), i + d = l.length → ∃ r : Int, Ev (fun k => slices_Index_int_int.l0 k l x (l.length : Int) (i : Int)) r ∧ (r ≥ 0 ↔ x ∈ l.drop i) := by
  induction d with
  | zero =>
    intro i hi
    refine ⟨-1, Ev.step (fun k => slices_Index_int_int.l0.eq_2 ..) (ev_neg (by omega) (Ev.now _)), ?_⟩
    rw [List.drop_of_length_le (by omega)]
    simp
  | succ d ih =>
    intro i hi
    obtain ⟨r, hr, hm⟩ := ih (i + 1) (by omega)
    by_cases e : x = l[i]
    · refine ⟨(i : Int), Ev.step (fun k => slices_Index_int_int.l0.eq_2 ..) ?_, ?_⟩
      · rw [rd_nat l i (by omega)]
        exact ev_pos (by omega) (ev_pos (by omega) (ev_pos (by omega) (ev_pos e (Ev.now _))))
      · rw [List.drop_eq_getElem_cons (by omega)]
        simp only [List.mem_cons, e, true_or, iff_true]
        omega
    · refine ⟨r, Ev.step (fun k => slices_Index_int_int.l0.eq_2 ..) ?_, ?_⟩
      · rw [rd_nat l i (by omega), wrap_nat i (by omega)]
        exact ev_pos (by omega) (ev_pos (by omega) (ev_pos (by omega) (ev_neg e hr)))
      · rw [List.drop_eq_getElem_cons (by omega)]
        simp only [List.mem_cons, e, false_or]
        exact hm

theorem slices_Contains_int_int.ev (l : List Int) (x : Int) (hl : l.length ≤ 1048576) : Ev (fun k => slices_Contains_int_int.f k l x) (decide (x ∈ l)) := by
  obtain ⟨r, hr, hm⟩ := slices_Index_int_int.evl l x hl l.length 0 (by omega)
  have g : Ev (fun k => slices_Index_int_int.f k l x) r := by
    simp only [slices_Index_int_int.f]
    exact hr
  simp only [slices_Contains_int_int.f]
  refine Ev.bind g (ev_val (Ev.now _) ?_)
  rw [decide_eq_decide]
  simpa using hm

theorem impl_freeOnCircle.evl (t : List Int) (p : Int) (hp : p ≤ 1048577) (ht : ∀ y ∈ t, y < p) (hl : t.length ≤ 1048576) : ∀ (d : Nat) (x : Int), 0 ≤ x → (p - x).toNat = d → Ev (fun k => impl_freeOnCircle.l0 k t x) (land t p x)
  | 0, x, h0, e => by
    refine Ev.step (fun k => impl_freeOnCircle.l0.eq_2 ..) ?_
    have hn : x ∉ t := fun hc => by
      have := ht x hc
      omega
    refine Ev.bind (slices_Contains_int_int.ev t x (by omega)) ?_
    rw [decide_eq_false hn, land_stop t p x (fun h => hn h.2)]
    exact ev_neg (by decide) (Ev.now _)
  | d + 1, x, h0, e => by
    refine Ev.step (fun k => impl_freeOnCircle.l0.eq_2 ..) ?_
    refine Ev.bind (slices_Contains_int_int.ev t x (by omega)) ?_
    by_cases hc : x ∈ t
    · rw [decide_eq_true hc, wrap_id (x + 1) (by omega) (by omega), land_go t p x (by omega) hc]
      exact ev_pos rfl (impl_freeOnCircle.evl t p hp ht hl d (x + 1) (by omega) (by omega))
    · rw [decide_eq_false hc, land_stop t p x (fun h => hc h.2)]
      exact ev_neg (by decide) (Ev.now _)
theorem impl_freeOnCircle.ev (l : List Int) (h : isCirc l = true) : Ev (fun k => impl_freeOnCircle.f k l) (freeOf l) := by
  have ⟨h8, hx⟩ := (isCirc_iff l).mp h
  simp only [impl_freeOnCircle.f]
  rw [wrap_id ((l.length : Int) + 1) (by omega) (by omega)]
  refine Ev.bind (impl_driveCircle.ev l _ (by omega) (by omega) (by omega) (by omega) hx) ?_
  exact impl_freeOnCircle.evl _ _ (by omega) (fun y hy => (cdrv_range _ l [] hx (by simp) y hy).2) (by rw [cdrv_length]; simp; omega) _ 0 (by omega) rfl

theorem impl_turn.evl (p b : Int) (hp : p ≠ 0) (l : List Int) (hl : l.length ≤ 1048576) (d : Nat) : ∀ (i : Nat) (out : List Int), i + d = l.length → out.length = i → Ev (fun k => impl_turn.l0 k p b out l (l.length : Int) (i : Int)) (out ++ (l.drop i).map (turn1 p b)) := by
  induction d with
  | zero =>
    intro i out hi ho
    refine Ev.step (fun k => impl_turn.l0.eq_2 ..) ?_
    refine ev_neg (by omega) ?_
    refine ev_val (Ev.now _) ?_
    rw [List.drop_of_length_le (by omega)]
    simp
  | succ d ih =>
    intro i out hi ho
    refine Ev.step (fun k => impl_turn.l0.eq_2 ..) ?_
    refine ev_pos (by omega) (ev_pos (by omega) (ev_pos (by omega) (ev_neg hp (ev_pos (by omega) ?_))))
    rw [rd_nat l i (by omega), wrap_nat i (by omega), List.drop_eq_getElem_cons (by omega)]
    refine ev_val (ih (i + 1) _ (by omega) (by simp; omega)) ?_
    rw [List.map_cons, List.append_assoc]
    rfl
theorem impl_turn.ev (l : List Int) (p b : Int) (hp : p ≠ 0) (hl : l.length ≤ 1048576) : Ev (fun k => impl_turn.f k l p b) (l.map (turn1 p b)) := by
  simp only [impl_turn.f]
  exact impl_turn.evl p b hp l hl l.length 0 [] (by omega) rfl

theorem impl_ParkingOfClass.ev (l : List Int) (hl : l.length ≤ 1048576) : Ev (fun k => impl_ParkingOfClass.f k l) (classR l) := by
  simp only [impl_ParkingOfClass.f]
  unfold classR
  refine Ev.bind (ev_eq (impl_isCircle.is l hl)) ?_
  cases e : isCirc l with
  | true =>
    rw [wrap_id ((l.length : Int) + 1) (by omega) (by omega)]
    exact ev_pos rfl (Ev.bind (impl_freeOnCircle.ev l e) (Ev.bind (impl_turn.ev l _ _ (by omega) hl) (Ev.now _)))
  | false => exact ev_neg (by decide) (Ev.now _)

end Go.Proofs.Ytchhfdhnoldngaa.QFnExactParkingOfClass
