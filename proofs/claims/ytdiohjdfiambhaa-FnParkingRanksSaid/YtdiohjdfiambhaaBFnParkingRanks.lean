/- Proved here: what the Lean functions printed for the Go functions of law FnParkingRanks compute, in words of lists and whole numbers, for lists shorter than 2^62. -/
import Derived.Test.YtdiohjdfiambhaaQFnParkingRanksx
import Derived.Test.YtdiohjdfiambhaaMDrive
import Derived.Test.YtdiohjdfiambhaaMSum
import Derived.Test.YtdiohjdfiambhaaMCrit
import Derived.Test.YtdiohjdfiambhaaMRank
import Derived.Test.YtdiohjdfiambhaaMWays
import Derived.Test.YtdiohjdfiambhaaMUnrank
import Derived.Test.YtdiohjdfiambhaaMOrder
import Derived.Test.YtdiohjdfiambhaaMLesser
namespace Go.Proofs.Ytdiohjdfiambhaa.QFnParkingRanks
open Go.RowKit Go.Proofs.YtdiohjdfiambhaaW.PrintWords Go.Proofs.YtdiohjdfiambhaaW.PrintLast Go.Proofs.Ytdiohjdfiambhaa.Math
set_option linter.unusedVariables false
set_option linter.unusedSimpArgs false

theorem ev_pos {α : Type} {c : Prop} [Decidable c] {g f : Nat → Option α} {r : α} (h : c) (k : Ev g r) : Ev (fun n => if c then g n else f n) r := by
  obtain ⟨K, hK⟩ := k
  exact ⟨K, fun n hn => by simp only [if_pos h]; exact hK n hn⟩
theorem ev_neg {α : Type} {c : Prop} [Decidable c] {g f : Nat → Option α} {r : α} (h : ¬ c) (k : Ev f r) : Ev (fun n => if c then g n else f n) r := by
  obtain ⟨K, hK⟩ := k
  exact ⟨K, fun n hn => by simp only [if_neg h]; exact hK n hn⟩
theorem ev_eq {α : Type} {g : Option α} {r : α} (h : g = some r) : Ev (fun _ => g) r := ⟨0, fun _ _ => h⟩
theorem ev_val {α : Type} {g : Nat → Option α} {r q : α} (h : Ev g r) (e : r = q) : Ev g q := e ▸ h
theorem wrap_nat (i : Nat) (h : i < 4611686018427387904) : wrap64 ((i : Int) + 1) = ((i + 1 : Nat) : Int) := by
  unfold wrap64
  omega
theorem wrap_id (x : Int) (h : -9223372036854775808 ≤ x) (h' : x ≤ 9223372036854775807) : wrap64 x = x := by
  unfold wrap64
  omega
theorem rd_nat (l : List Int) (i : Nat) (h : i < l.length) : rd l (i : Int) = l[i] := by
  simp [rd, List.getD_eq_getElem?_getD, h]
theorem rd_int (l : List Int) (x : Int) (h0 : 0 ≤ x) (h : x < l.length) : rd l x = l[x.toNat]'(by omega) := by
  have e : x = ((x.toNat : Nat) : Int) := by omega
  have h2 : x.toNat < l.length := by omega
  rw [show rd l x = rd l ((x.toNat : Nat) : Int) by rw [← e]]
  exact rd_nat l x.toNat h2
/-- m, m + 1, .., n numbers -/
def marks : Int → Nat → List Int
  | _, 0 => []
  | m, n + 1 => m :: marks (m + 1) n
theorem marks_len : ∀ (n : Nat) (m : Int), (marks m n).length = n
  | 0, _ => rfl
  | n + 1, m => by simp [marks, marks_len n]
theorem take_set_succ (y l : List Int) (i : Nat) (hi : i < l.length) (hy : y.length = l.length) (h : y.take i = l.take i) : (y.set i l[i]).take (i + 1) = l.take (i + 1) := by
  rw [List.take_succ_eq_append_getElem (by simp; omega), List.take_succ_eq_append_getElem hi, List.take_set_of_le (Nat.le_refl i), h, List.getElem_set_self]
/-- all numbers lie from lo to hi -/
def inAll (lo hi : Int) (l : List Int) : Bool := l.all fun x => decide (lo ≤ x) && decide (x ≤ hi)
theorem inAll_iff (lo hi : Int) (l : List Int) : inAll lo hi l = true ↔ ∀ x ∈ l, lo ≤ x ∧ x ≤ hi := by
  simp [inAll]

theorem laws_big.is (a b : List Int) : laws_big.f a b = some true ∨ (laws_big.f a b = some false ∧ a.length + b.length ≤ 1048576) := by
  unfold laws_big.f
  by_cases c : (a.length : Int) > 1048576
  · rw [if_pos c]
    exact .inl rfl
  · rw [if_neg c, wrap_id _ (by omega) (by omega)]
    by_cases d : (b.length : Int) > 1048576 - (a.length : Int)
    · rw [decide_eq_true d]
      exact .inl rfl
    · rw [decide_eq_false d]
      exact .inr ⟨rfl, by omega⟩

theorem laws_jSame.evl (a b : List Int) (hl : a.length ≤ 1048576) (h : a.length = b.length) (d : Nat) : ∀ (i : Nat), i + d = a.length → Ev (fun k => laws_jSame.l0 k a b (a.length : Int) (i : Int)) (decide (a.drop i = b.drop i)) := by
  induction d with
  | zero =>
    intro i hi
    refine Ev.step (fun k => laws_jSame.l0.eq_2 ..) ?_
    refine ev_neg (by omega) (ev_val (Ev.now _) ?_)
    rw [List.drop_of_length_le (by omega), List.drop_of_length_le (by omega)]
    rfl
  | succ d ih =>
    intro i hi
    refine Ev.step (fun k => laws_jSame.l0.eq_2 ..) ?_
    refine ev_pos (by omega) (ev_pos (by omega) (ev_pos (by omega) (ev_pos (by omega) ?_)))
    rw [rd_nat a i (by omega), rd_nat b i (by omega), List.drop_eq_getElem_cons (l := a) (by omega), List.drop_eq_getElem_cons (l := b) (by omega)]
    by_cases e : a[i]'(by omega) = b[i]'(by omega)
    · refine ev_pos e ?_
      rw [wrap_nat i (by omega)]
      refine ev_val (ih (i + 1) (by omega)) ?_
      simp only [List.cons.injEq, e, true_and]
    · refine ev_neg e (ev_val (Ev.now _) ?_)
      simp only [List.cons.injEq, e, false_and, decide_false]
theorem laws_jSame.ev (a b : List Int) (hl : a.length ≤ 1048576) : Ev (fun k => laws_jSame.f k a b) (decide (a = b)) := by
  simp only [laws_jSame.f]
  by_cases h : a.length = b.length
  · refine ev_pos (by omega) ?_
    exact laws_jSame.evl a b hl h a.length 0 (by omega)
  · refine ev_neg (by omega) (ev_val (Ev.now _) ?_)
    rw [decide_eq_false (fun e => h (by rw [e]))]
theorem laws_jSame.ev_self (a : List Int) (hl : a.length ≤ 1048576) : Ev (fun k => laws_jSame.f k a a) true := ev_val (laws_jSame.ev a a hl) (by simp)

theorem impl_between.is (x lo hi : Int) : impl_between.f x lo hi = some (decide (lo ≤ x) && decide (x ≤ hi)) := by
  unfold impl_between.f
  by_cases h : x ≥ lo
  · rw [if_pos h, decide_eq_true (show lo ≤ x from h), Bool.true_and]
  · rw [if_neg h, decide_eq_false (show ¬ lo ≤ x from h), Bool.false_and]

theorem impl_areBetween.is (l : List Int) (lo hi : Int) (hl : l.length ≤ 35184372088832) : impl_areBetween.f l lo hi = some (inAll lo hi l) := by
  unfold impl_areBetween.f
  rw [if_pos hl]
  congr 1
  unfold inAll out_b
  induction l with
  | nil => rfl
  | cons x l ih =>
    rw [List.any_cons, List.all_cons, ← ih (by simp at hl; omega)]
    cases (decide (lo ≤ x) && decide (x ≤ hi)) <;> simp

theorem impl_areCars.is (l : List Int) (hl : l.length ≤ 35184372088832) : impl_areCars.f l = some (decide (l.length ≤ 8) && inAll 0 99 l) := by
  unfold impl_areCars.f
  by_cases h8 : l.length ≤ 8
  · rw [decide_eq_true h8, if_pos (by omega), impl_areBetween.is l 0 99 hl]
    rfl
  · rw [decide_eq_false h8, if_neg (by omega)]
    rfl

def drvR (o : Option (List Int)) : List Int × Bool := match o with
  | some r => (r, true)
  | none => ([], false)
theorem drvR_snd (l : List Int) (p : Int) : (drvR (drv p [] l)).2 = allPark l p := by
  unfold drvR allPark
  cases drv p [] l <;> rfl

/-- the table t tells which places are in out -/
def Tk (p : Int) (out : List Int) (t : List Bool) : Prop := t.length = p.toNat ∧ ∀ j : Int, 0 ≤ j → j < p → (rdOf false t j = true ↔ j ∈ out)
theorem Tk_set (p : Int) (out : List Int) (t : List Bool) (h : Tk p out t) (x : Int) (h0 : 0 ≤ x) (h1 : x < p) : Tk p (out ++ [x]) (t.set x.toNat true) := by
  refine ⟨by rw [List.length_set]; exact h.1, fun j j0 j1 => ?_⟩
  have hl := h.1
  have hj := h.2 j j0 j1
  unfold rdOf at hj ⊢
  rw [List.getD_eq_getElem?_getD] at hj ⊢
  rw [List.getElem?_set]
  by_cases e : x.toNat = j.toNat
  · have e' : j = x := by omega
    subst e'
    rw [if_pos rfl, if_pos (by omega)]
    simp
  · rw [if_neg e]
    rw [hj]
    have e' : ¬ j = x := by omega
    simp [e']

theorem impl_drive.evl (p : Int) (hp : p ≤ 1048576) (l : List Int) (hl : l.length ≤ 1048576) (hx : ∀ x ∈ l, 0 ≤ x ∧ x ≤ 1048576) (d : Nat) : ∀ (i : Nat) (out : List Int) (t : List Bool), i + d = l.length → out.length = i → Tk p out t → Ev (fun k => impl_drive.l0 k p t out l (l.length : Int) (i : Int)) (drvR (drv p out (l.drop i))) := by
  induction d with
  | zero =>
    intro i out t hi ho ht
    refine Ev.step (fun k => impl_drive.l0.eq_2 ..) ?_
    refine ev_neg (by omega) ?_
    refine ev_val (Ev.now _) ?_
    rw [List.drop_of_length_le (by omega)]
    rfl
  | succ d ih =>
    intro i out t hi ho ht
    refine Ev.step (fun k => impl_drive.l0.eq_2 ..) ?_
    refine ev_pos (by omega) (ev_pos (by omega) (ev_pos (by omega) ?_))
    rw [rd_nat l i (by omega), List.drop_eq_getElem_cons (by omega)]
    have hxi := hx l[i] (List.getElem_mem _)
    have inner : ∀ (m : Nat) (x : Int), (p - x).toNat = m → 0 ≤ x → x ≤ 1048576 → Ev (fun k => impl_drive.l1 k p t out x l (l.length : Int) (i : Int)) (drvR (drv p out (x :: l.drop (i + 1)))) := by
      intro m
      induction m with
      | zero =>
        intro x hm hx0 hx1
        refine Ev.step (fun k => impl_drive.l1.eq_2 ..) ?_
        refine ev_neg (by omega) (ev_pos (by omega) ?_)
        refine ev_val (Ev.now _) ?_
        simp only [drv]
        rw [land_stop out p x (by omega), if_neg (by omega)]
        rfl
      | succ m ihm =>
        intro x hm hx0 hx1
        have hlen := ht.1
        refine Ev.step (fun k => impl_drive.l1.eq_2 ..) ?_
        refine ev_pos (by omega) (ev_pos (by omega) (ev_pos (by omega) ?_))
        by_cases hh : x ∈ out
        · refine ev_pos ((ht.2 x hx0 (by omega)).mpr hh) ?_
          rw [wrap_id (x + 1) (by omega) (by omega)]
          refine ev_val (ihm (x + 1) (by omega) (by omega) (by omega)) ?_
          simp only [drv]
          rw [land_go out p x (by omega) hh]
        · refine ev_neg (fun h => hh ((ht.2 x hx0 (by omega)).mp h)) (ev_neg (by omega) (ev_pos (by omega) ?_))
          rw [wrap_nat i (by omega)]
          refine ev_val (ih (i + 1) _ _ (by omega) (by simp; omega) (Tk_set p out t ht x hx0 (by omega))) ?_
          simp only [drv]
          rw [land_stop out p x (fun h => hh h.2), if_pos (by omega)]
    exact inner _ l[i] rfl hxi.1 hxi.2
theorem impl_drive.ev (l : List Int) (p : Int) (hp0 : 0 ≤ p) (hp : p ≤ 1048576) (hl : l.length ≤ 1048576) (hx : ∀ x ∈ l, 0 ≤ x ∧ x ≤ 1048576) : Ev (fun k => impl_drive.f k l p) (drvR (drv p [] l)) := by
  simp only [impl_drive.f]
  refine ev_pos hp0 (ev_pos (by omega) ?_)
  refine impl_drive.evl p hp l hl hx l.length 0 [] _ (by omega) rfl ⟨by simp, fun j j0 j1 => ?_⟩
  unfold rdOf
  rw [List.getD_eq_getElem?_getD, List.getElem?_replicate]
  split <;> simp

theorem isPk_of_cars (l : List Int) (h8 : l.length ≤ 8) (h0 : ∀ x ∈ l, 0 ≤ x) : isPk l = allPark l l.length := by
  cases e : allPark l l.length with
  | false => simp [isPk, e]
  | true =>
    unfold allPark at e
    obtain ⟨r, hr⟩ := Option.isSome_iff_exists.mp e
    have h := drv_lt l.length l [] r hr
    have e' : allPark l l.length = true := by unfold allPark; exact e
    simp only [isPk, e', Bool.and_true, Bool.and_eq_true, decide_eq_true_eq, List.all_eq_true]
    exact ⟨h8, fun x hx => ⟨h0 x hx, by have := h x hx; omega⟩⟩
theorem isPk_no_cars (l : List Int) (h : ¬ (decide (l.length ≤ 8) && inAll 0 99 l) = true) : isPk l = false := by
  cases e : isPk l with
  | false => rfl
  | true =>
    exfalso
    apply h
    simp only [isPk, Bool.and_eq_true, decide_eq_true_eq, List.all_eq_true] at e
    rw [Bool.and_eq_true, decide_eq_true_eq, inAll_iff]
    exact ⟨e.1.1, fun x hx => by have := e.1.2 x hx; omega⟩

theorem impl_isParking.ev (l : List Int) (hl : l.length ≤ 1048576) : Ev (fun k => impl_isParking.f k l) (isPk l) := by
  simp only [impl_isParking.f]
  refine Ev.bind (ev_eq (impl_areCars.is l (by omega))) ?_
  cases e : (decide (l.length ≤ 8) && inAll 0 99 l) with
  | true =>
    rw [Bool.and_eq_true, decide_eq_true_eq, inAll_iff] at e
    refine ev_pos rfl (Ev.bind (impl_drive.ev l _ (by omega) (by omega) hl (fun x hx => by have := e.2 x hx; omega)) ?_)
    refine ev_val (Ev.now _) ?_
    rw [drvR_snd]
    exact (isPk_of_cars l e.1 (fun x hx => (e.2 x hx).1)).symm
  | false =>
    refine ev_neg (by decide) (ev_val (Ev.now _) ?_)
    exact (isPk_no_cars l (by rw [e]; decide)).symm

theorem impl_IsParking.ev (l : List Int) (hl : l.length ≤ 1048576) : Ev (fun k => impl_IsParking.f k l) (if (decide (l.length ≤ 8) && inAll 0 99 l) = true then (isPk l, true) else (false, false)) := by
  simp only [impl_IsParking.f]
  refine Ev.bind (ev_eq (impl_areCars.is l (by omega))) ?_
  cases (decide (l.length ≤ 8) && inAll 0 99 l) with
  | true => exact ev_pos rfl (Ev.bind (impl_isParking.ev l hl) (Ev.now _))
  | false => exact ev_neg (by decide) (Ev.now _)

theorem laws_numberOf.evl (l : List Int) (hl : l.length ≤ 1048576) (hb : ∀ x ∈ l, 0 ≤ x ∧ x ≤ 255) (d : Nat) : ∀ (i : Nat) (a : Int), i + d = l.length → 0 ≤ a → a < 1000003 → ∃ r, Ev (fun k => laws_numberOf.l0 k a l (l.length : Int) (i : Int)) r ∧ 0 ≤ r ∧ r < 1000003 := by
  induction d with
  | zero =>
    intro i a hi h0 h1
    exact ⟨a, Ev.step (fun k => laws_numberOf.l0.eq_2 ..) (ev_neg (by omega) (Ev.now _)), h0, h1⟩
  | succ d ih =>
    intro i a hi h0 h1
    have hx := hb (l[i]'(by omega)) (List.getElem_mem _)
    have e1 : wrap64 (31 * a) = 31 * a := wrap_id _ (by omega) (by omega)
    have e2 : wrap64 (l[i]'(by omega)) = l[i]'(by omega) := wrap_id _ (by omega) (by omega)
    have e3 : wrap64 (31 * a + l[i]'(by omega)) = 31 * a + l[i]'(by omega) := wrap_id _ (by omega) (by omega)
    obtain ⟨r, hr, r0, r1⟩ := ih (i + 1) (Int.tmod (31 * a + l[i]'(by omega)) 1000003) (by omega) (Int.tmod_nonneg _ (by omega)) (Int.tmod_lt_of_pos _ (by omega))
    refine ⟨r, Ev.step (fun k => laws_numberOf.l0.eq_2 ..) ?_, r0, r1⟩
    refine ev_pos (by omega) (ev_pos (by omega) (ev_pos (by omega) ?_))
    rw [rd_nat l i (by omega), wrap_nat i (by omega), e1, e2, e3]
    exact hr
theorem laws_numberOf.ev (l : List Int) (hl : l.length ≤ 1048576) (hb : ∀ x ∈ l, 0 ≤ x ∧ x ≤ 255) : ∃ r, Ev (fun k => laws_numberOf.f k l) r ∧ 0 ≤ r ∧ r < 1000003 := by
  simp only [laws_numberOf.f]
  exact laws_numberOf.evl l hl hb l.length 0 0 (by omega) (by omega) (by omega)

theorem and255 (x : Int) : 0 ≤ Go.bits .and .u64 x 255 ∧ Go.bits .and .u64 x 255 ≤ 255 := by
  have h : (BitVec.ofInt 64 x &&& BitVec.ofInt 64 255).toNat ≤ 255 := by
    rw [BitVec.toNat_and]
    exact Nat.and_le_right
  have e : Go.bits .and .u64 x 255 = IntKind.u64.wrap (((BitVec.ofInt 64 x &&& BitVec.ofInt 64 255).toNat : Nat) : Int) := rfl
  rw [e]
  generalize (BitVec.ofInt 64 x &&& BitVec.ofInt 64 255).toNat = m at h
  have w : IntKind.u64.wrap (m : Int) = (m : Int) := by
    simp only [IntKind.wrap, IntKind.bits, IntKind.signed, Bool.false_and, Bool.false_eq_true, if_false]
    omega
  rw [w]
  omega
/-- all are bytes, and not too many -/
def bytesOk (l : List Int) : Prop := (∀ x ∈ l, 0 ≤ x ∧ x ≤ 255) ∧ l.length ≤ 1048576

theorem spec_l1Cur_next.ok (l : List Int) (hb : bytesOk l) (p h : Int) (h0 : 0 ≤ p) (h1 : p ≤ 1099511627776) : ∃ b q g, spec_l1Cur_next.f l p h = some (b, q, g) ∧ 0 ≤ b ∧ b ≤ 255 ∧ p ≤ q ∧ q ≤ p + 1 := by
  have hl := hb.2
  unfold spec_l1Cur_next.f
  rw [wrap_id (p + 1) (by omega) (by omega)]
  by_cases c : p < (l.length : Int)
  · have hx := hb.1 (l[p.toNat]'(by omega)) (List.getElem_mem _)
    rw [if_pos c, if_pos h0, if_pos (by omega), rd_int l p h0 c, wrap_id _ (by omega) (by omega)]
    exact ⟨_, _, _, rfl, hx.1, hx.2, by omega, by omega⟩
  · rw [if_neg c, if_neg (by omega)]
    refine ⟨_, _, _, rfl, ?_, ?_, by omega, by omega⟩
    · have := and255 ((IntKind.u64.wrap ((IntKind.u64.wrap ((IntKind.u64.wrap (h * 6364136223846793005)) + 0)) + 1442695040888963407)) / 1099511627776)
      rw [wrap_id _ (by omega) (by omega)]
      exact this.1
    · have := and255 ((IntKind.u64.wrap ((IntKind.u64.wrap ((IntKind.u64.wrap (h * 6364136223846793005)) + 0)) + 1442695040888963407)) / 1099511627776)
      rw [wrap_id _ (by omega) (by omega)]
      exact this.2

theorem spec_l1Cur_pick.ok (l : List Int) (hb : bytesOk l) (p h n : Int) (h0 : 0 ≤ p) (h1 : p ≤ 1099511627000) (hn : n ≤ 1048576) : ∃ b q g, spec_l1Cur_pick.f l p h n = some (b, q, g) ∧ 0 ≤ b ∧ (b < n ∨ (n ≤ 1 ∧ b = 0)) ∧ p ≤ q ∧ q ≤ p + 2 := by
  unfold spec_l1Cur_pick.f
  by_cases c : n ≤ 1
  · rw [if_pos c]
    exact ⟨_, _, _, rfl, by omega, .inr ⟨c, rfl⟩, by omega, by omega⟩
  · rw [if_neg c]
    obtain ⟨b, q, g, e, b0, b1, q0, q1⟩ := spec_l1Cur_next.ok l hb p h h0 (by omega)
    rw [e, Option.bind_some]
    by_cases c2 : n > 200
    · rw [if_pos c2]
      obtain ⟨b2, q2, g2, e2, b20, b21, q20, q21⟩ := spec_l1Cur_next.ok l hb q g (by omega) (by omega)
      dsimp only
      rw [e2, Option.bind_some, if_neg (by omega)]
      rw [wrap_id (b * 256) (by omega) (by omega), wrap_id _ (by omega) (by omega)]
      exact ⟨_, _, _, rfl, Int.tmod_nonneg _ (by omega), .inl (Int.tmod_lt_of_pos _ (by omega)), by dsimp only; omega, by dsimp only; omega⟩
    · rw [if_neg c2, if_neg (by omega)]
      exact ⟨_, _, _, rfl, Int.tmod_nonneg _ b0, .inl (Int.tmod_lt_of_pos _ (by omega)), by dsimp only; omega, by dsimp only; omega⟩

theorem spec_l1Cur_among.ok (l : List Int) (hb : bytesOk l) (p h : Int) (m : List Int) (h0 : 0 ≤ p) (h1 : p ≤ 1099511627000) (hm : 0 < m.length) (hm2 : m.length ≤ 1000) : ∃ b q g, spec_l1Cur_among.f l p h m = some (b, q, g) ∧ b ∈ m ∧ p ≤ q ∧ q ≤ p + 2 := by
  unfold spec_l1Cur_among.f
  obtain ⟨b, q, g, e, b0, b1, q0, q1⟩ := spec_l1Cur_pick.ok l hb p h (m.length : Int) h0 h1 (by omega)
  rw [e, Option.bind_some, if_pos b0, if_pos (by omega)]
  refine ⟨_, _, _, rfl, ?_, q0, q1⟩
  rw [rd_int m b b0 (by omega)]
  exact List.getElem_mem _

theorem spec_l1Cur_one.ok (l : List Int) (hb : bytesOk l) (p h n : Int) (h0 : 0 ≤ p) (h1 : p ≤ 1099511627000) (hn : n ≤ 1048576) : ∃ b q g, spec_l1Cur_one.f l p h n = some (b, q, g) ∧ p ≤ q ∧ q ≤ p + 2 := by
  unfold spec_l1Cur_one.f
  obtain ⟨b, q, g, e, b0, b1, q0, q1⟩ := spec_l1Cur_pick.ok l hb p h n h0 h1 hn
  rw [e, Option.bind_some]
  exact ⟨_, _, _, rfl, q0, q1⟩

theorem spec_l1Cur_number2.ok (l : List Int) (hb : bytesOk l) (p h : Int) (h0 : 0 ≤ p) (h1 : p ≤ 1099511626000) : ∃ b q g, spec_l1Cur_number2.f l p h = some (b, q, g) ∧ -1 ≤ b ∧ b ≤ 9 ∧ p ≤ q ∧ q ≤ p + 4 := by
  unfold spec_l1Cur_number2.f
  obtain ⟨t, q, g, e, q0, q1⟩ := spec_l1Cur_one.ok l hb p h 10 h0 (by omega) (by omega)
  rw [e, Option.bind_some]
  dsimp only
  cases t with
  | true =>
    rw [if_pos rfl]
    obtain ⟨b, q2, g2, e2, hm, q20, q21⟩ := spec_l1Cur_among.ok l hb q g [-1, 0, 8, 9] (by omega) (by omega) (by simp) (by simp)
    rw [e2, Option.bind_some]
    simp only [List.mem_cons, List.not_mem_nil, or_false] at hm
    exact ⟨_, _, _, rfl, by omega, by omega, by dsimp only; omega, by dsimp only; omega⟩
  | false =>
    rw [if_neg (by decide)]
    obtain ⟨b, q2, g2, e2, b0, b1, q20, q21⟩ := spec_l1Cur_pick.ok l hb q g 7 (by omega) (by omega) (by omega)
    rw [e2, Option.bind_some]
    exact ⟨_, _, _, rfl, by dsimp only; omega, by dsimp only; omega, by dsimp only; omega, by dsimp only; omega⟩

/-- the numbers in the program's table after j places, before they are held to 64 bits -/
def gW (L : List Int) (left j : Nat) (k : Nat) : Nat := ch left k * cways (own L) j k
/-- .. and the next table's, when k entries are carried over -/
def rowC (L : List Int) (left j k t : Nat) : Nat := sumTo (fun i => cell (own L j) j left (gW L left j) i t) k
/-- .. and when of entry k the first m parts are carried over -/
def midC (L : List Int) (left j k m t : Nat) : Nat := rowC L left j k t + if t < k + m then cell (own L j) j left (gW L left j) k t else 0
theorem midC_zero (L : List Int) (left j k t : Nat) : midC L left j k 0 t = rowC L left j k t := by
  unfold midC
  split
  · unfold cell
    rw [if_neg (by omega)]
    rfl
  · rfl
theorem midC_full (L : List Int) (left j k m t : Nat) (h : t < k + m) : midC L left j k m t = rowC L left j (k + 1) t := by
  unfold midC
  rw [if_pos h]
  rfl
theorem midC_no (L : List Int) (left j k m t : Nat) (h : ¬ own L j + (k + m) > j) : midC L left j k m t = midC L left j k (m + 1) t := by
  unfold midC
  by_cases e : t = k + m
  · subst e
    rw [if_neg (by omega), if_pos (by omega)]
    unfold cell
    rw [if_neg (fun hc => h hc.2)]
  · by_cases g : t < k + m
    · rw [if_pos g, if_pos (by omega)]
    · rw [if_neg g, if_neg (by omega)]
theorem midC_yes (L : List Int) (left j k m t : Nat) (h : own L j + (k + m) > j) : (if t = k + m then midC L left j k m (k + m) + gW L left j k * ch (left - k) m else midC L left j k m t) = midC L left j k (m + 1) t := by
  by_cases e : t = k + m
  · subst e
    rw [if_pos rfl]
    unfold midC
    rw [if_neg (by omega), if_pos (by omega)]
    unfold cell
    rw [if_pos ⟨by omega, h⟩, show k + m - k = m by omega]
    rfl
  · rw [if_neg e]
    unfold midC
    by_cases g : t < k + m
    · rw [if_pos g, if_pos (by omega)]
    · rw [if_neg g, if_neg (by omega)]
theorem rowC_all (L : List Int) (left j t : Nat) (h8 : left ≤ 8) (ht : t < left + 1) : rowC L left j (left + 1) t = gW L left (j + 1) t := cell_sum (own L) j left h8 t (by omega)
theorem rowC_nil (n : Nat) (L : List Int) (left j : Nat) : List.replicate n 0 = tab n (rowC L left j 0) := by
  refine List.ext_getElem (by rw [tab_len, List.length_replicate]) (fun i h1 h2 => ?_)
  rw [List.getElem_replicate, tab_get]
  show (0 : Int) = wrap64 ((0 : Nat) : Int)
  unfold wrap64
  omega
theorem gW_start (n : Nat) (L : List Int) (left : Nat) : (List.replicate (n + 1) (0 : Int)).set 0 1 = tab (n + 1) (gW L left 0) := by
  refine List.ext_getElem (by rw [tab_len, List.length_set, List.length_replicate]) (fun i h1 h2 => ?_)
  rw [tab_get, List.getElem_set, List.getElem_replicate]
  unfold gW cways
  by_cases e : 0 = i
  · subst e
    rw [if_pos rfl, if_pos rfl, ch_zero]
    show (1 : Int) = wrap64 ((1 : Nat) : Int)
    unfold wrap64
    omega
  · rw [if_neg e, if_neg (fun h => e h.symm), Nat.mul_zero]
    show (0 : Int) = wrap64 ((0 : Nat) : Int)
    unfold wrap64
    omega
theorem own_le (L : List Int) (j : Nat) : own L j ≤ L.length := List.countP_le_length
theorem tab_rd (n : Nat) (g : Nat → Nat) (i : Nat) (h : i < n) : rd (tab n g) (i : Int) = wrap64 (g i : Int) := by
  rw [rd_nat (tab n g) i (by rw [tab_len]; exact h), tab_get]
theorem put_tab (n : Nat) (g : Nat → Nat) (i : Nat) (G c : Nat) (h : i < n) : (tab n g).set ((i : Nat) : Int).toNat (wrap64 (rd (tab n g) ((i : Nat) : Int) + wrap64 (wrap64 (G : Int) * (c : Int)))) = tab n (fun t => if t = i then g i + G * c else g t) := by
  rw [tab_rd n g i h, Math.wrap_mul, Math.wrap_add, show ((g i : Int) + (G : Int) * (c : Int)) = ((g i + G * c : Nat) : Int) by rw [Int.natCast_add, Int.natCast_mul], Int.toNat_natCast, tab_set n g i _ h]
theorem add_nat (a b : Nat) (ha : a < 4611686018427387904) (hb : b < 4611686018427387904) : wrap64 ((a : Int) + (b : Int)) = ((a + b : Nat) : Int) := by
  rw [wrap_id _ (by omega) (by omega), Int.natCast_add]
theorem sub_nat (a b : Nat) (h : b ≤ a) (ha : a < 4611686018427387904) : wrap64 ((a : Int) - (b : Int)) = ((a - b : Nat) : Int) := by
  rw [wrap_id _ (by omega) (by omega)]
  omega
theorem comp_lt (n : Nat) (L : List Int) (h8 : n ≤ 8) : comp n L ≤ 16777216 := by
  unfold comp
  refine Nat.le_trans (cways_bound _ _ _) ?_
  refine Nat.le_trans (Nat.pow_le_pow_left h8 _) ?_
  exact Nat.le_trans (Nat.pow_le_pow_right (by decide) (by omega : n - L.length ≤ 8)) (by decide)
theorem gW_last (n : Nat) (L : List Int) (left : Nat) (h8 : n ≤ 8) (hl : L.length + left = n) : wrap64 (gW L left n left : Int) = (comp n L : Int) := by
  have h : gW L left n left = comp n L := by
    unfold gW comp
    rw [show n - L.length = left by omega]
    have : ∀ a : Nat, ch a a = 1 := by
      intro a
      induction a with
      | zero => rfl
      | succ a ih => simp only [ch]; rw [ih, ch_over a (a + 1) (by omega)]
    rw [this, Nat.one_mul]
  have hb := comp_lt n L h8
  rw [h, wrap_id _ (by omega) (by omega)]

theorem ev_inj {α : Type} {g : Nat → Option α} {r q : α} (h1 : Ev g r) (h2 : Ev g q) : r = q := by
  obtain ⟨K1, h1⟩ := h1
  obtain ⟨K2, h2⟩ := h2
  have e1 := h1 (K1 + K2) (by omega)
  have e2 := h2 (K1 + K2) (by omega)
  rw [e1] at e2
  exact Option.some.inj e2
/-- how many parking functions of n cars there are -/
def cnt (n : Nat) : Nat := if n = 0 then 1 else (n + 1) ^ (n - 1)
theorem cnt_fin : ∀ n : Fin 9, 1 ≤ cnt n.val ∧ cnt n.val ≤ 16777216 := by decide +kernel
theorem cnt_bd (n : Nat) (h : n ≤ 8) : 1 ≤ cnt n ∧ cnt n ≤ 16777216 := cnt_fin ⟨n, by omega⟩
theorem unrank_len (n : Nat) : ∀ (d : Nat) (L : List Int) (r : Nat), (unrank n d L r).length = L.length + d
  | 0, L, r => rfl
  | d + 1, L, r => by
    simp only [unrank]
    rw [unrank_len n d]
    simp
    omega
/-- the parking function with a number -/
def atR (n r : Int) : List Int × Bool := if 0 ≤ n ∧ n ≤ 8 ∧ 0 ≤ r ∧ r ≤ (cnt n.toNat : Int) - 1 then (unrank n.toNat n.toNat [] r.toNat, true) else ([], false)
theorem atR_len (n r : Int) : (atR n r).1.length ≤ 8 := by
  unfold atR
  split
  · simp only [unrank_len, List.length_nil]
    omega
  · simp
theorem pos_snoc {n : Nat} {L : List Int} (h : inStreet n L) (x : Nat) : ∀ y ∈ L ++ [(x : Int)], 0 ≤ y := by
  intro y hy
  rcases List.mem_append.mp hy with hy | hy
  · exact (h y hy).1
  · simp only [List.mem_singleton] at hy
    omega

theorem spec_cnCount.fin : ∀ n : Fin 9, spec_cnCount.f 40 ((n.val : Nat) : Int) = some ((cnt n.val : Nat) : Int) := by decide +kernel
theorem spec_cnCount.ev (n : Nat) (h : n ≤ 8) : Ev (fun k => spec_cnCount.f k (n : Int)) ((cnt n : Nat) : Int) := Ev.of (fun k => spec_cnCount.mono (n : Int) k) (spec_cnCount.fin ⟨n, by omega⟩)

theorem spec_l1Most.is (a b : Int) : ∃ c, spec_l1Most.f a b = some c ∧ (c = a ∨ c = b) ∧ a ≤ c ∧ b ≤ c := by
  unfold spec_l1Most.f
  by_cases h : a > b
  · rw [if_pos h]
    exact ⟨a, rfl, .inl rfl, by omega, by omega⟩
  · rw [if_neg h]
    exact ⟨b, rfl, .inr rfl, by omega, by omega⟩

theorem spec_l1Least.is (a b : Int) : ∃ c, spec_l1Least.f a b = some c ∧ (c = a ∨ c = b) ∧ c ≤ a ∧ c ≤ b := by
  unfold spec_l1Least.f
  by_cases h : a < b
  · rw [if_pos h]
    exact ⟨a, rfl, .inl rfl, by omega, by omega⟩
  · rw [if_neg h]
    exact ⟨b, rfl, .inr rfl, by omega, by omega⟩

theorem spec_DrawParkingAt.ok (l : List Int) (hb : bytesOk l) : ∃ n r, Ev (fun k => spec_DrawParkingAt.f k l) (n, r) ∧ -1 ≤ n ∧ n ≤ 9 ∧ -1 ≤ r ∧ r ≤ 16777216 := by
  simp only [spec_DrawParkingAt.f]
  obtain ⟨n, q, g, e, n0, n1, q0, q1⟩ := spec_l1Cur_number2.ok l hb 0 0 (by omega) (by omega)
  obtain ⟨c, ec, _, c1, c2⟩ := spec_l1Least.is n 8
  obtain ⟨m, em, hm, m1, m2⟩ := spec_l1Most.is 0 c
  obtain ⟨t, rfl⟩ : ∃ t : Nat, m = (t : Int) := ⟨m.toNat, by omega⟩
  have hc := cnt_bd t (by omega)
  have Ec := spec_cnCount.ev t (by omega)
  obtain ⟨u, eu, hu, u1, u2⟩ := spec_l1Least.is ((cnt t : Nat) : Int) 60000
  obtain ⟨a, qa, ga, ea, a0, a1, qa0, qa1⟩ := spec_l1Cur_pick.ok l hb q g u (by omega) (by omega) (by omega)
  obtain ⟨b, qb, gb, eb, b0, b1, qb0, qb1⟩ := spec_l1Cur_pick.ok l hb qa ga u (by omega) (by omega) (by omega)
  have ew : wrap64 (((cnt t : Nat) : Int) - 1) = ((cnt t : Nat) : Int) - 1 := wrap_id _ (by omega) (by omega)
  obtain ⟨r, qr, gr, er, hr, qr0, qr1⟩ := spec_l1Cur_among.ok l hb qb gb [0, 1, ((cnt t : Nat) : Int) - 1, ((cnt t : Nat) : Int), -1, a, b] (by omega) (by omega) (by simp) (by simp)
  simp only [List.mem_cons, List.not_mem_nil, or_false] at hr
  refine ⟨n, r, ?_, n0, n1, by omega, by omega⟩
  refine Ev.bind (ev_eq e) (Ev.bind (ev_eq ec) (Ev.bind (ev_eq em) (Ev.bind Ec (Ev.bind (ev_eq eu) (Ev.bind (ev_eq ea) (Ev.bind (ev_eq eu) (Ev.bind (ev_eq eb) ?_)))))))
  rw [ew]
  exact Ev.bind (ev_eq er) (Ev.now _)

theorem impl_isCars.is (n : Int) : impl_isCars.f n = some (decide (0 ≤ n) && decide (n ≤ 8)) := by
  simp only [impl_isCars.f, impl_between.is, Option.bind_some]

theorem impl_countParking.fin : ∀ n : Fin 9, impl_countParking.f 40 ((n.val : Nat) : Int) = some ((cnt n.val : Nat) : Int) := by decide +kernel
theorem impl_countParking.ev (n : Nat) (h : n ≤ 8) : Ev (fun k => impl_countParking.f k (n : Int)) ((cnt n : Nat) : Int) := Ev.of (fun k => impl_countParking.mono (n : Int) k) (impl_countParking.fin ⟨n, by omega⟩)

theorem impl_choose.fin : ∀ a m : Fin 9, m.val ≤ a.val → impl_choose.f 20 ((a.val : Nat) : Int) ((m.val : Nat) : Int) = some ((ch a.val m.val : Nat) : Int) := by decide +kernel
theorem impl_choose.ev (a m : Nat) (ha : a ≤ 8) (hm : m ≤ a) : Ev (fun k => impl_choose.f k (a : Int) (m : Int)) ((ch a m : Nat) : Int) :=
  Ev.of (fun k => impl_choose.mono _ _ k) (impl_choose.fin ⟨a, by omega⟩ ⟨m, by omega⟩ hm)

theorem impl_completions.evm (L : List Int) (n left j kk : Nat) (h8 : left ≤ 8) (hj : j ≤ 8) (hL : L.length ≤ 8) (hk : kk ≤ left) (R : Int) (hn : Ev (fun k => impl_completions.l1 k L (left : Int) ((own L j : Nat) : Int) (tab (left + 1) (rowC L left j (kk + 1))) (n : Int) (j : Int) (j : Int) (tab (left + 1) (gW L left j)) ((tab (left + 1) (gW L left j)).length : Int) ((kk + 1 : Nat) : Int)) R) : ∀ (d m : Nat), m + d = left + 1 - kk → Ev (fun k => impl_completions.l2 k L (left : Int) ((own L j : Nat) : Int) (tab (left + 1) (midC L left j kk m)) (kk : Int) (wrap64 (gW L left j kk : Int)) (m : Int) (n : Int) (j : Int) (j : Int) (tab (left + 1) (gW L left j)) ((tab (left + 1) (gW L left j)).length : Int) (kk : Int)) R
  | 0, m, e => by
    refine Ev.step (fun k => impl_completions.l2.eq_2 ..) ?_
    rw [add_nat kk m (by omega) (by omega)]
    refine ev_neg (by omega) ?_
    rw [wrap_nat kk (by omega), tab_congr (left + 1) (fun t ht => midC_full L left j kk m t (by omega))]
    exact hn
  | d + 1, m, e => by
    have ho := own_le L j
    have ih := impl_completions.evm L n left j kk h8 hj hL hk R hn d (m + 1) (by omega)
    refine Ev.step (fun k => impl_completions.l2.eq_2 ..) ?_
    rw [add_nat kk m (by omega) (by omega), add_nat (own L j) kk (by omega) (by omega), add_nat (own L j + kk) m (by omega) (by omega)]
    refine ev_pos (by omega) ?_
    by_cases h : own L j + (kk + m) > j
    · refine ev_pos (by omega) (ev_pos (by omega) (ev_pos (by rw [tab_len]; omega) ?_))
      rw [sub_nat left kk hk (by omega)]
      refine Ev.bind (impl_choose.ev (left - kk) m (by omega) (by omega)) ?_
      rw [put_tab (left + 1) _ (kk + m) _ _ (by omega), wrap_nat m (by omega), tab_congr (left + 1) (fun t ht => midC_yes L left j kk m t h)]
      exact ih
    · refine ev_neg (by omega) ?_
      rw [wrap_nat m (by omega), tab_congr (left + 1) (fun t ht => midC_no L left j kk m t h)]
      exact ih
theorem impl_completions.evk (L : List Int) (n left j : Nat) (h8 : left ≤ 8) (hj : j ≤ 8) (hL : L.length ≤ 8) (R : Int) (hn : Ev (fun k => impl_completions.l0 k L (left : Int) (tab (left + 1) (gW L left (j + 1))) (n : Int) ((j + 1 : Nat) : Int)) R) : ∀ (d kk : Nat), kk + d = left + 1 → Ev (fun k => impl_completions.l1 k L (left : Int) ((own L j : Nat) : Int) (tab (left + 1) (rowC L left j kk)) (n : Int) (j : Int) (j : Int) (tab (left + 1) (gW L left j)) ((tab (left + 1) (gW L left j)).length : Int) (kk : Int)) R
  | 0, kk, e => by
    refine Ev.step (fun k => impl_completions.l1.eq_2 ..) ?_
    refine ev_neg (by rw [tab_len]; omega) ?_
    rw [wrap_nat j (by omega), show kk = left + 1 by omega, tab_congr (left + 1) (fun t ht => rowC_all L left j t h8 ht)]
    exact hn
  | d + 1, kk, e => by
    have ih := impl_completions.evk L n left j h8 hj hL R hn d (kk + 1) (by omega)
    refine Ev.step (fun k => impl_completions.l1.eq_2 ..) ?_
    refine ev_pos (by rw [tab_len]; omega) (ev_pos (by omega) (ev_pos (by rw [tab_len]; omega) ?_))
    have h := impl_completions.evm L n left j kk h8 hj hL (by omega) R ih (left + 1 - kk) 0 (by omega)
    rw [tab_congr (left + 1) (fun t ht => midC_zero L left j kk t)] at h
    rw [tab_rd (left + 1) _ kk (by omega)]
    exact h
theorem impl_completions.evj (L : List Int) (n left : Nat) (h8 : n ≤ 8) (hl : L.length + left = n) : ∀ (d j : Nat), j + d = n → Ev (fun k => impl_completions.l0 k L (left : Int) (tab (left + 1) (gW L left j)) (n : Int) (j : Int)) ((comp n L : Nat) : Int)
  | 0, j, e => by
    have hj : j = n := by omega
    subst hj
    refine Ev.step (fun k => impl_completions.l0.eq_2 ..) ?_
    refine ev_neg (by omega) (ev_pos (by omega) (ev_pos (by rw [tab_len]; omega) ?_))
    rw [tab_rd (left + 1) _ left (by omega), gW_last j L left h8 hl]
    exact Ev.now _
  | d + 1, j, e => by
    have ih := impl_completions.evj L n left h8 hl d (j + 1) (by omega)
    refine Ev.step (fun k => impl_completions.l0.eq_2 ..) ?_
    refine ev_pos (by omega) ?_
    refine Ev.bind (ev_eq (r := ((own L j : Nat) : Int)) (by unfold impl_cntLe.f; rw [if_pos (by omega)]; rfl)) ?_
    rw [wrap_nat left (by omega)]
    refine ev_pos (by omega) (ev_pos (by omega) ?_)
    rw [Int.toNat_natCast, rowC_nil (left + 1) L left j]
    exact impl_completions.evk L n left j (by omega) (by omega) (by omega) _ ih (left + 1) 0 (by omega)
theorem impl_completions.ev (L : List Int) (n : Nat) (h8 : n ≤ 8) (hl : L.length ≤ n) : Ev (fun k => impl_completions.f k L (n : Int)) ((comp n L : Nat) : Int) := by
  simp only [impl_completions.f]
  rw [sub_nat n L.length hl (by omega), wrap_nat (n - L.length) (by omega)]
  refine ev_pos (by omega) (ev_pos (by omega) ?_)
  refine Ev.bind (Ev.now _) ?_
  rw [Int.toNat_natCast, Int.toNat_zero, gW_start (n - L.length) L (n - L.length)]
  refine ev_pos (by rw [List.length_replicate]; omega) ?_
  exact impl_completions.evj L n (n - L.length) h8 (by omega) n 0 (by omega)
theorem impl_completions.total : ∀ n : Fin 9, impl_completions.f 2000 [] ((n.val : Nat) : Int) = some ((cnt n.val : Nat) : Int) := by decide +kernel
theorem comp_totalI (n : Nat) (h : n ≤ 8) : comp n [] = cnt n := by
  have h1 := impl_completions.ev [] n h (by simp)
  have h2 := Ev.of (fun k => impl_completions.mono [] (n : Int) k) (impl_completions.total ⟨n, by omega⟩)
  have h3 : ((comp n [] : Nat) : Int) = ((cnt n : Nat) : Int) := ev_inj h1 h2
  omega

theorem slices_Clone_int_int.is (l : List Int) (hl : l.length ≤ 1048576) : slices_Clone_int_int.f l = some l := by
  simp only [slices_Clone_int_int.f]
  rw [if_pos (by omega)]

theorem impl_parkingAt.bound (n : Nat) (h8 : n ≤ 8) (L : List Int) : sumTo (fun x => comp n (L ++ [(x : Int)])) n ≤ 134217728 := by
  have h := sumTo_le n (f := fun x => comp n (L ++ [(x : Int)])) (g := fun _ => 16777216 * 1) (fun i _ => by have := comp_lt n (L ++ [(i : Int)]) h8; omega)
  rw [sumTo_mul] at h
  have : ∀ m, sumTo (fun _ => 1) m = m := by
    intro m
    induction m with
    | zero => rfl
    | succ m ih => simp only [sumTo, ih]
  rw [this] at h
  omega
theorem impl_parkingAt.evx (n : Nat) (h8 : n ≤ 8) (L : List Int) (hl : L.length < n) (hs : inStreet n L) (R : List Int) : ∀ (d x r : Nat), x + d = n → sumTo (fun x => comp n (L ++ [(x : Int)])) x + r < sumTo (fun x => comp n (L ++ [(x : Int)])) n → Ev (fun k => impl_parkingAt.l0 k (n : Int) (((pick (fun x => comp n (L ++ [(x : Int)])) d x r).2 : Nat) : Int) (L ++ [(((pick (fun x => comp n (L ++ [(x : Int)])) d x r).1 : Nat) : Int)])) R → Ev (fun k => impl_parkingAt.l1 k (n : Int) (r : Int) L (x : Int)) R
  | 0, x, r, e, hr, hn => by
    rw [show x = n by omega] at hr
    omega
  | d + 1, x, r, e, hr, hn => by
    have ih := impl_parkingAt.evx n h8 L hl hs R d (x + 1) (r - comp n (L ++ [(x : Int)])) (by omega)
    have h1 : sumTo (fun x => comp n (L ++ [(x : Int)])) (x + 1) = sumTo (fun x => comp n (L ++ [(x : Int)])) x + comp n (L ++ [(x : Int)]) := rfl
    have hb := comp_lt n (L ++ [(x : Int)]) h8
    have hb2 : r ≤ 134217728 := by
      have := impl_parkingAt.bound n h8 L
      omega
    simp only [pick] at hn
    refine Ev.step (fun k => impl_parkingAt.l1.eq_2 ..) ?_
    refine Ev.bind (ev_eq (slices_Clone_int_int.is L (by omega))) (ev_pos (by omega) ?_)
    refine Ev.bind (impl_completions.ev (L ++ [(x : Int)]) n h8 (by simp; omega)) ?_
    by_cases g : r < comp n (L ++ [(x : Int)])
    · rw [if_pos g] at hn
      exact ev_pos (by omega) (ev_pos (by omega) hn)
    · rw [if_neg g] at hn
      refine ev_neg (by omega) ?_
      rw [wrap_nat x (by omega), sub_nat r _ (by omega) (by omega)]
      exact ih (by omega) hn
theorem impl_parkingAt.evd (n : Nat) (h8 : n ≤ 8) : ∀ (d : Nat) (L : List Int) (r : Nat), L.length + d = n → inStreet n L → r < comp n L → Ev (fun k => impl_parkingAt.l0 k (n : Int) (r : Int) L) (unrank n d L r)
  | 0, L, r, h, hs, hr => by
    refine Ev.step (fun k => impl_parkingAt.l0.eq_2 ..) ?_
    exact ev_neg (by omega) (Ev.now _)
  | d + 1, L, r, h, hs, hr => by
    rw [comp_child n L (by omega)] at hr
    obtain ⟨h1, h2, h3⟩ := pick_spec (fun x => comp n (L ++ [(x : Int)])) n n 0 r (by omega) (by simpa [sumTo] using hr)
    have ih := impl_parkingAt.evd n h8 d (L ++ [(((pick (fun x => comp n (L ++ [(x : Int)])) n 0 r).1 : Nat) : Int)]) (pick (fun x => comp n (L ++ [(x : Int)])) n 0 r).2 (by simp; omega) (inStreet_snoc hs h1) h3
    have hx := impl_parkingAt.evx n h8 L (by omega) hs _ n 0 r (by omega) (by simpa [sumTo] using hr) ih
    refine Ev.step (fun k => impl_parkingAt.l0.eq_2 ..) ?_
    refine ev_pos (by omega) ?_
    exact hx
theorem impl_parkingAt.ev (n r : Nat) (h8 : n ≤ 8) (hr : r < cnt n) : Ev (fun k => impl_parkingAt.f k (n : Int) (r : Int)) (unrank n n [] r) := by
  simp only [impl_parkingAt.f]
  exact impl_parkingAt.evd n h8 n [] r (by simp) (fun x hx => by cases hx) (by rw [comp_totalI n h8]; exact hr)

theorem impl_ParkingAt.ev (n r : Int) : Ev (fun k => impl_ParkingAt.f k n r) (atR n r) := by
  simp only [impl_ParkingAt.f]
  refine Ev.bind (ev_eq (impl_isCars.is n)) ?_
  by_cases hn : 0 ≤ n ∧ n ≤ 8
  · rw [decide_eq_true hn.1, decide_eq_true hn.2]
    obtain ⟨m, rfl⟩ : ∃ m : Nat, n = (m : Int) := ⟨n.toNat, by omega⟩
    have hc := cnt_bd m (by omega)
    refine ev_pos rfl (Ev.bind (impl_countParking.ev m (by omega)) ?_)
    rw [wrap_id ((cnt m : Int) - 1) (by omega) (by omega)]
    refine Ev.bind (ev_eq (impl_between.is r 0 _)) ?_
    by_cases hr : 0 ≤ r ∧ r ≤ (cnt m : Int) - 1
    · rw [decide_eq_true hr.1, decide_eq_true hr.2]
      obtain ⟨q, rfl⟩ : ∃ q : Nat, r = (q : Int) := ⟨r.toNat, by omega⟩
      refine ev_pos rfl (Ev.bind (impl_parkingAt.ev m q (by omega) (by omega)) (ev_val (Ev.now _) ?_))
      unfold atR
      rw [Int.toNat_natCast, Int.toNat_natCast, if_pos ⟨by omega, by omega, by omega, by omega⟩]
    · refine ev_neg (by simp; omega) (ev_val (Ev.now _) ?_)
      unfold atR
      rw [if_neg (fun h => hr ⟨h.2.2.1, h.2.2.2⟩)]
  · refine ev_neg (by simp; omega) (ev_val (Ev.now _) ?_)
    unfold atR
    rw [if_neg (fun h => hn ⟨h.1, h.2.1⟩)]

theorem spec_l1In.is (x lo hi : Int) : spec_l1In.f x lo hi = some (decide (lo ≤ x) && decide (x ≤ hi)) := by
  unfold spec_l1In.f
  by_cases h : x ≥ lo
  · rw [if_pos h, decide_eq_true (show lo ≤ x from h), Bool.true_and]
  · rw [if_neg h, decide_eq_false (show ¬ lo ≤ x from h), Bool.false_and]

theorem spec_cnCars.is (n : Int) : spec_cnCars.f n = some (decide (0 ≤ n) && decide (n ≤ 8)) := by
  simp only [spec_cnCars.f, spec_l1In.is, Option.bind_some]

theorem spec_cnChoose.fin : ∀ a m : Fin 9, m.val ≤ a.val → spec_cnChoose.f 20 ((a.val : Nat) : Int) ((m.val : Nat) : Int) = some ((ch a.val m.val : Nat) : Int) := by decide +kernel
theorem spec_cnChoose.ev (a m : Nat) (ha : a ≤ 8) (hm : m ≤ a) : Ev (fun k => spec_cnChoose.f k (a : Int) (m : Int)) ((ch a m : Nat) : Int) :=
  Ev.of (fun k => spec_cnChoose.mono _ _ k) (spec_cnChoose.fin ⟨a, by omega⟩ ⟨m, by omega⟩ hm)

theorem spec_cnWith.evm (L : List Int) (n left j kk : Nat) (h8 : left ≤ 8) (hj : j ≤ 8) (hL : L.length ≤ 8) (hk : kk ≤ left) (R : Int) (hn : Ev (fun k => spec_cnWith.l2 k L (n : Int) (left : Int) ((own L j : Nat) : Int) (j : Int) (tab (left + 1) (rowC L left j (kk + 1))) (tab (left + 1) (gW L left j)) ((tab (left + 1) (gW L left j)).length : Int) ((kk + 1 : Nat) : Int)) R) : ∀ (d m : Nat), m + d = left + 1 - kk → Ev (fun k => spec_cnWith.l3 k L (n : Int) (left : Int) ((own L j : Nat) : Int) (j : Int) (tab (left + 1) (midC L left j kk m)) (kk : Int) (wrap64 (gW L left j kk : Int)) (m : Int) (tab (left + 1) (gW L left j)) ((tab (left + 1) (gW L left j)).length : Int) (kk : Int)) R
  | 0, m, e => by
    refine Ev.step (fun k => spec_cnWith.l3.eq_2 ..) ?_
    rw [add_nat kk m (by omega) (by omega)]
    refine ev_neg (by omega) ?_
    rw [wrap_nat kk (by omega), tab_congr (left + 1) (fun t ht => midC_full L left j kk m t (by omega))]
    exact hn
  | d + 1, m, e => by
    have ho := own_le L j
    have ih := spec_cnWith.evm L n left j kk h8 hj hL hk R hn d (m + 1) (by omega)
    refine Ev.step (fun k => spec_cnWith.l3.eq_2 ..) ?_
    rw [add_nat kk m (by omega) (by omega), add_nat (own L j) kk (by omega) (by omega), add_nat (own L j + kk) m (by omega) (by omega)]
    refine ev_pos (by omega) ?_
    by_cases h : own L j + (kk + m) > j
    · refine ev_pos (by omega) (ev_pos (by omega) (ev_pos (by rw [tab_len]; omega) ?_))
      rw [sub_nat left kk hk (by omega)]
      refine Ev.bind (spec_cnChoose.ev (left - kk) m (by omega) (by omega)) ?_
      rw [put_tab (left + 1) _ (kk + m) _ _ (by omega), wrap_nat m (by omega), tab_congr (left + 1) (fun t ht => midC_yes L left j kk m t h)]
      exact ih
    · refine ev_neg (by omega) ?_
      rw [wrap_nat m (by omega), tab_congr (left + 1) (fun t ht => midC_no L left j kk m t h)]
      exact ih
theorem spec_cnWith.evk (L : List Int) (n left j : Nat) (h8 : left ≤ 8) (hj : j ≤ 8) (hL : L.length ≤ 8) (R : Int) (hn : Ev (fun k => spec_cnWith.l0 k L (n : Int) (left : Int) (tab (left + 1) (gW L left (j + 1))) ((own L j : Nat) : Int) ((j + 1 : Nat) : Int)) R) : ∀ (d kk : Nat), kk + d = left + 1 → Ev (fun k => spec_cnWith.l2 k L (n : Int) (left : Int) ((own L j : Nat) : Int) (j : Int) (tab (left + 1) (rowC L left j kk)) (tab (left + 1) (gW L left j)) ((tab (left + 1) (gW L left j)).length : Int) (kk : Int)) R
  | 0, kk, e => by
    refine Ev.step (fun k => spec_cnWith.l2.eq_2 ..) ?_
    refine ev_neg (by rw [tab_len]; omega) ?_
    rw [wrap_nat j (by omega), show kk = left + 1 by omega, tab_congr (left + 1) (fun t ht => rowC_all L left j t h8 ht)]
    exact hn
  | d + 1, kk, e => by
    have ih := spec_cnWith.evk L n left j h8 hj hL R hn d (kk + 1) (by omega)
    refine Ev.step (fun k => spec_cnWith.l2.eq_2 ..) ?_
    refine ev_pos (by rw [tab_len]; omega) (ev_pos (by omega) (ev_pos (by rw [tab_len]; omega) ?_))
    have h := spec_cnWith.evm L n left j kk h8 hj hL (by omega) R ih (left + 1 - kk) 0 (by omega)
    rw [tab_congr (left + 1) (fun t ht => midC_zero L left j kk t)] at h
    rw [tab_rd (left + 1) _ kk (by omega)]
    exact h
/-- how many are less than j -/
def less (L : List Int) (j : Nat) : Nat := L.countP fun x => decide (x < (j : Int))
theorem own_split (L : List Int) (j : Nat) : less L j + L.countP (fun x => decide (x = (j : Int))) = own L j := by
  unfold less own
  induction L with
  | nil => rfl
  | cons x L ih =>
    simp only [List.countP_cons, decide_eq_true_eq]
    by_cases h1 : x < (j : Int)
    · rw [if_pos h1, if_neg (by omega), if_pos (by omega)]
      omega
    · by_cases h2 : x = (j : Int)
      · rw [if_neg h1, if_pos h2, if_pos (by omega)]
        omega
      · rw [if_neg h1, if_neg h2, if_neg (by omega)]
        omega
theorem less_succ (L : List Int) (j : Nat) : less L (j + 1) = own L j := by
  unfold less own
  exact List.countP_congr (fun x _ => by simp; omega)
theorem spec_cnWith.evc (L : List Int) (n left j : Nat) (hj : j ≤ 8) (hL : L.length ≤ 8) (U : List Int) (R : Int) (hn : Ev (fun k => if 0 ≤ wrap64 ((left : Int) + 1) then (if (wrap64 ((left : Int) + 1) : Int).toNat ≤ 35184372088832 then (spec_cnWith.l2 k L (n : Int) (left : Int) ((own L j : Nat) : Int) (j : Int) (List.replicate (wrap64 ((left : Int) + 1) : Int).toNat 0) U (U.length : Int) 0) else none) else none) R) : ∀ (d i : Nat), i + d = L.length → Ev (fun k => spec_cnWith.l1 k L (n : Int) (left : Int) U ((less L j + (L.take i).countP (fun x => decide (x = (j : Int))) : Nat) : Int) (j : Int) L (L.length : Int) (i : Int)) R
  | 0, i, e => by
    refine Ev.step (fun k => spec_cnWith.l1.eq_2 ..) ?_
    refine ev_neg (by omega) ?_
    rw [show i = L.length by omega, List.take_length, own_split]
    exact hn
  | d + 1, i, e => by
    have ih := spec_cnWith.evc L n left j hj hL U R hn d (i + 1) (by omega)
    have hc : less L j ≤ L.length := List.countP_le_length
    have hc2 : (L.take i).countP (fun x => decide (x = (j : Int))) ≤ (L.take i).length := List.countP_le_length
    rw [List.length_take] at hc2
    rw [List.take_succ_eq_append_getElem (by omega : i < L.length), List.countP_append, List.countP_cons, List.countP_nil] at ih
    refine Ev.step (fun k => spec_cnWith.l1.eq_2 ..) ?_
    refine ev_pos (by omega) (ev_pos (by omega) (ev_pos (by omega) ?_))
    rw [rd_nat L i (by omega), wrap_nat i (by omega)]
    by_cases h : L[i]'(by omega) = (j : Int)
    · refine ev_pos h ?_
      rw [if_pos (by simpa using h)] at ih
      rw [wrap_nat _ (by omega)]
      exact ih
    · refine ev_neg h ?_
      rw [if_neg (by simpa using h)] at ih
      exact ih
theorem spec_cnWith.evj (L : List Int) (n left : Nat) (h8 : n ≤ 8) (hl : L.length + left = n) : ∀ (d j : Nat), j + d = n → Ev (fun k => spec_cnWith.l0 k L (n : Int) (left : Int) (tab (left + 1) (gW L left j)) ((less L j : Nat) : Int) (j : Int)) ((comp n L : Nat) : Int)
  | 0, j, e => by
    have hj : j = n := by omega
    subst hj
    refine Ev.step (fun k => spec_cnWith.l0.eq_2 ..) ?_
    refine ev_neg (by omega) (ev_pos (by omega) (ev_pos (by rw [tab_len]; omega) ?_))
    rw [tab_rd (left + 1) _ left (by omega), gW_last j L left h8 hl]
    exact Ev.now _
  | d + 1, j, e => by
    have ih := spec_cnWith.evj L n left h8 hl d (j + 1) (by omega)
    rw [less_succ] at ih
    refine Ev.step (fun k => spec_cnWith.l0.eq_2 ..) ?_
    refine ev_pos (by omega) ?_
    have h := spec_cnWith.evc L n left j (by omega) (by omega) (tab (left + 1) (gW L left j)) ((comp n L : Nat) : Int) ?_ L.length 0 (by omega)
    · exact h
    · rw [wrap_nat left (by omega)]
      refine ev_pos (by omega) (ev_pos (by omega) ?_)
      rw [Int.toNat_natCast, rowC_nil (left + 1) L left j]
      exact spec_cnWith.evk L n left j (by omega) (by omega) (by omega) _ ih (left + 1) 0 (by omega)
theorem less_zero (L : List Int) (h : ∀ x ∈ L, 0 ≤ x) : less L 0 = 0 := by
  unfold less
  rw [List.countP_eq_zero]
  intro x hx
  have := h x hx
  simp
  omega
theorem spec_cnWith.evj0 (L : List Int) (n left : Nat) (h8 : n ≤ 8) (hl : L.length + left = n) (hx : ∀ x ∈ L, 0 ≤ x) (d j : Nat) (e : j + d = n) (hj : j = 0) : Ev (fun k => spec_cnWith.l0 k L (n : Int) (left : Int) (tab (left + 1) (gW L left j)) 0 (j : Int)) ((comp n L : Nat) : Int) := by
  have h := spec_cnWith.evj L n left h8 hl d j e
  subst hj
  rw [less_zero L hx] at h
  exact h
theorem spec_cnWith.ev (L : List Int) (n : Nat) (h8 : n ≤ 8) (hl : L.length ≤ n) (hx : ∀ x ∈ L, 0 ≤ x) : Ev (fun k => spec_cnWith.f k L (n : Int)) ((comp n L : Nat) : Int) := by
  simp only [spec_cnWith.f]
  rw [sub_nat n L.length hl (by omega), wrap_nat (n - L.length) (by omega)]
  refine ev_pos (by omega) (ev_pos (by omega) ?_)
  refine Ev.bind (Ev.now _) ?_
  rw [Int.toNat_natCast, Int.toNat_zero, gW_start (n - L.length) L (n - L.length)]
  refine ev_pos (by rw [List.length_replicate]; omega) ?_
  exact spec_cnWith.evj0 L n (n - L.length) h8 (by omega) hx n 0 (by omega) rfl
theorem spec_cnWith.total : ∀ n : Fin 9, spec_cnWith.f 2000 [] ((n.val : Nat) : Int) = some ((cnt n.val : Nat) : Int) := by decide +kernel
theorem comp_total (n : Nat) (h : n ≤ 8) : comp n [] = cnt n := by
  have h1 := spec_cnWith.ev [] n h (by simp) (by simp)
  have h2 := Ev.of (fun k => spec_cnWith.mono [] (n : Int) k) (spec_cnWith.total ⟨n, by omega⟩)
  have h3 : ((comp n [] : Nat) : Int) = ((cnt n : Nat) : Int) := ev_inj h1 h2
  omega

theorem spec_l1Own.is (l : List Int) (hl : l.length ≤ 1048576) : spec_l1Own.f l = some l := by
  simp only [spec_l1Own.f, Option.bind_some, List.length_nil, Nat.zero_add, List.nil_append]
  rw [if_pos (by omega)]

theorem spec_cnAt.bound (n : Nat) (h8 : n ≤ 8) (L : List Int) : sumTo (fun x => comp n (L ++ [(x : Int)])) n ≤ 134217728 := by
  have h := sumTo_le n (f := fun x => comp n (L ++ [(x : Int)])) (g := fun _ => 16777216 * 1) (fun i _ => by have := comp_lt n (L ++ [(i : Int)]) h8; omega)
  rw [sumTo_mul] at h
  have : ∀ m, sumTo (fun _ => 1) m = m := by
    intro m
    induction m with
    | zero => rfl
    | succ m ih => simp only [sumTo, ih]
  rw [this] at h
  omega
theorem spec_cnAt.evx (n : Nat) (h8 : n ≤ 8) (L : List Int) (hl : L.length < n) (hs : inStreet n L) (R : List Int) : ∀ (d x r : Nat), x + d = n → sumTo (fun x => comp n (L ++ [(x : Int)])) x + r < sumTo (fun x => comp n (L ++ [(x : Int)])) n → Ev (fun k => spec_cnAt.l0 k (n : Int) (((pick (fun x => comp n (L ++ [(x : Int)])) d x r).2 : Nat) : Int) (L ++ [(((pick (fun x => comp n (L ++ [(x : Int)])) d x r).1 : Nat) : Int)])) R → Ev (fun k => spec_cnAt.l1 k (n : Int) (r : Int) L (x : Int) ((comp n (L ++ [(x : Int)]) : Nat) : Int)) R
  | 0, x, r, e, hr, hn => by
    rw [show x = n by omega] at hr
    omega
  | d + 1, x, r, e, hr, hn => by
    have ih := spec_cnAt.evx n h8 L hl hs R d (x + 1) (r - comp n (L ++ [(x : Int)])) (by omega)
    have h1 : sumTo (fun x => comp n (L ++ [(x : Int)])) (x + 1) = sumTo (fun x => comp n (L ++ [(x : Int)])) x + comp n (L ++ [(x : Int)]) := rfl
    have hb := comp_lt n (L ++ [(x : Int)]) h8
    have hb2 : r ≤ 134217728 := by
      have := spec_cnAt.bound n h8 L
      omega
    simp only [pick] at hn
    refine Ev.step (fun k => spec_cnAt.l1.eq_2 ..) ?_
    by_cases g : r < comp n (L ++ [(x : Int)])
    · rw [if_pos g] at hn
      exact ev_neg (by omega) (ev_pos (by omega) hn)
    · rw [if_neg g] at hn
      refine ev_pos (by omega) (Ev.bind (ev_eq (spec_l1Own.is L (by omega))) (ev_pos (by omega) ?_))
      rw [wrap_nat x (by omega), sub_nat r _ (by omega) (by omega)]
      refine Ev.bind (spec_cnWith.ev (L ++ [((x + 1 : Nat) : Int)]) n h8 (by simp; omega) (pos_snoc hs (x + 1))) ?_
      exact ih (by omega) hn
theorem spec_cnAt.evd (n : Nat) (h8 : n ≤ 8) : ∀ (d : Nat) (L : List Int) (r : Nat), L.length + d = n → inStreet n L → r < comp n L → Ev (fun k => spec_cnAt.l0 k (n : Int) (r : Int) L) (unrank n d L r)
  | 0, L, r, h, hs, hr => by
    refine Ev.step (fun k => spec_cnAt.l0.eq_2 ..) ?_
    exact ev_neg (by omega) (Ev.now _)
  | d + 1, L, r, h, hs, hr => by
    rw [comp_child n L (by omega)] at hr
    obtain ⟨h1, h2, h3⟩ := pick_spec (fun x => comp n (L ++ [(x : Int)])) n n 0 r (by omega) (by simpa [sumTo] using hr)
    have ih := spec_cnAt.evd n h8 d (L ++ [(((pick (fun x => comp n (L ++ [(x : Int)])) n 0 r).1 : Nat) : Int)]) (pick (fun x => comp n (L ++ [(x : Int)])) n 0 r).2 (by simp; omega) (inStreet_snoc hs h1) h3
    have hx := spec_cnAt.evx n h8 L (by omega) hs _ n 0 r (by omega) (by simpa [sumTo] using hr) ih
    refine Ev.step (fun k => spec_cnAt.l0.eq_2 ..) ?_
    refine ev_pos (by omega) ?_
    refine Ev.bind (ev_eq (spec_l1Own.is L (by omega))) (ev_pos (by omega) ?_)
    refine Ev.bind (spec_cnWith.ev (L ++ [0]) n h8 (by simp; omega) (pos_snoc hs 0)) ?_
    exact hx
theorem spec_cnAt.ev (n r : Nat) (h8 : n ≤ 8) (hr : r < cnt n) : Ev (fun k => spec_cnAt.f k (n : Int) (r : Int)) (unrank n n [] r) := by
  simp only [spec_cnAt.f]
  exact spec_cnAt.evd n h8 n [] r (by simp) (fun x hx => by cases hx) (by rw [comp_total n h8]; exact hr)

theorem spec_ParkingAt.ev (n r : Int) : Ev (fun k => spec_ParkingAt.f k n r) (atR n r) := by
  simp only [spec_ParkingAt.f]
  refine Ev.bind (ev_eq (spec_cnCars.is n)) ?_
  by_cases hn : 0 ≤ n ∧ n ≤ 8
  · rw [decide_eq_true hn.1, decide_eq_true hn.2]
    obtain ⟨m, rfl⟩ : ∃ m : Nat, n = (m : Int) := ⟨n.toNat, by omega⟩
    have hc := cnt_bd m (by omega)
    refine ev_pos rfl (Ev.bind (spec_cnCount.ev m (by omega)) ?_)
    rw [wrap_id ((cnt m : Int) - 1) (by omega) (by omega)]
    refine Ev.bind (ev_eq (spec_l1In.is r 0 _)) ?_
    by_cases hr : 0 ≤ r ∧ r ≤ (cnt m : Int) - 1
    · rw [decide_eq_true hr.1, decide_eq_true hr.2]
      obtain ⟨q, rfl⟩ : ∃ q : Nat, r = (q : Int) := ⟨r.toNat, by omega⟩
      refine ev_pos rfl (Ev.bind (spec_cnAt.ev m q (by omega) (by omega)) (ev_val (Ev.now _) ?_))
      unfold atR
      rw [Int.toNat_natCast, Int.toNat_natCast, if_pos ⟨by omega, by omega, by omega, by omega⟩]
    · refine ev_neg (by simp; omega) (ev_val (Ev.now _) ?_)
      unfold atR
      rw [if_neg (fun h => hr ⟨h.2.2.1, h.2.2.2⟩)]
  · refine ev_neg (by simp; omega) (ev_val (Ev.now _) ?_)
    unfold atR
    rw [if_neg (fun h => hn ⟨h.1, h.2.1⟩)]

/-- how many parking functions there are, where there may be so many cars -/
def cntR (n : Int) : Int × Bool := if 0 ≤ n ∧ n ≤ 8 then ((cnt n.toNat : Nat), true) else (0, false)

theorem impl_CountParking.ev (n : Int) : Ev (fun k => impl_CountParking.f k n) (cntR n) := by
  simp only [impl_CountParking.f]
  refine Ev.bind (ev_eq (impl_isCars.is n)) ?_
  by_cases hn : 0 ≤ n ∧ n ≤ 8
  · rw [decide_eq_true hn.1, decide_eq_true hn.2]
    obtain ⟨m, rfl⟩ : ∃ m : Nat, n = (m : Int) := ⟨n.toNat, by omega⟩
    refine ev_pos rfl (Ev.bind (impl_countParking.ev m (by omega)) (ev_val (Ev.now _) ?_))
    unfold cntR
    rw [if_pos hn, Int.toNat_natCast]
  · refine ev_neg (by simp; omega) (ev_val (Ev.now _) ?_)
    unfold cntR
    rw [if_neg hn]

theorem spec_CountParking.ev (n : Int) : Ev (fun k => spec_CountParking.f k n) (cntR n) := by
  simp only [spec_CountParking.f]
  refine Ev.bind (ev_eq (spec_cnCars.is n)) ?_
  by_cases hn : 0 ≤ n ∧ n ≤ 8
  · rw [decide_eq_true hn.1, decide_eq_true hn.2]
    obtain ⟨m, rfl⟩ : ∃ m : Nat, n = (m : Int) := ⟨n.toNat, by omega⟩
    refine ev_pos rfl (Ev.bind (spec_cnCount.ev m (by omega)) (ev_val (Ev.now _) ?_))
    unfold cntR
    rw [if_pos hn, Int.toNat_natCast]
  · refine ev_neg (by simp; omega) (ev_val (Ev.now _) ?_)
    unfold cntR
    rw [if_neg hn]

/-- the number of a parking function -/
def rankR (l : List Int) : Int × Bool := if isPk l = true then ((rankFrom l.length [] l : Nat), true) else (0, false)
theorem isPk_street (l : List Int) (h : isPk l = true) : l.length ≤ 8 ∧ inStreet l.length l := by
  unfold isPk at h
  simp only [Bool.and_eq_true, decide_eq_true_eq, List.all_eq_true] at h
  exact ⟨h.1.1, fun x hx => by have := h.1.2 x hx; omega⟩
theorem rank_bd (l : List Int) (h : isPk l = true) : rankFrom l.length [] l < comp l.length [] := by
  have ⟨h8, hs⟩ := isPk_street l h
  exact (rank_at l.length h8 l.length [] l rfl (by simp) (fun x hx => by cases hx) hs (by simpa using h)).1
theorem street_take {n : Nat} {l : List Int} (h : inStreet n l) (i : Nat) : inStreet n (l.take i) := fun x hx => h x (List.mem_of_mem_take hx)

theorem impl_rank.evy (l : List Int) (h8 : l.length ≤ 8) (hs : inStreet l.length l) (i x A : Nat) (hi : i < l.length) (hx : x < l.length) (hA : A + sumTo (fun y => comp l.length (l.take i ++ [(y : Int)])) x ≤ 16777216) (R : Int) (hn : Ev (fun k => impl_rank.l0 k l ((A + sumTo (fun y => comp l.length (l.take i ++ [(y : Int)])) x : Nat) : Int) l (l.length : Int) ((i + 1 : Nat) : Int)) R) : ∀ (d y : Nat), y + d = x → Ev (fun k => impl_rank.l1 k l ((A + sumTo (fun y => comp l.length (l.take i ++ [(y : Int)])) y : Nat) : Int) (i : Int) l (l.length : Int) (i : Int) (x : Int) (y : Int)) R
  | 0, y, e => by
    have : y = x := by omega
    subst this
    refine Ev.step (fun k => impl_rank.l1.eq_2 ..) ?_
    refine ev_neg (by omega) ?_
    rw [wrap_nat i (by omega)]
    exact hn
  | d + 1, y, e => by
    have ih := impl_rank.evy l h8 hs i x A hi hx hA R hn d (y + 1) (by omega)
    have hc := sumTo_split (fun y => comp l.length (l.take i ++ [(y : Int)])) (y + 1) (x - (y + 1))
    rw [show y + 1 + (x - (y + 1)) = x by omega] at hc
    have h1 : sumTo (fun y => comp l.length (l.take i ++ [(y : Int)])) (y + 1) = sumTo (fun y => comp l.length (l.take i ++ [(y : Int)])) y + comp l.length (l.take i ++ [(y : Int)]) := rfl
    have ht : (l.take i).length = i := by rw [List.length_take]; omega
    refine Ev.step (fun k => impl_rank.l1.eq_2 ..) ?_
    refine ev_pos (by omega) (ev_pos (by omega) (ev_pos (by omega) ?_))
    rw [Int.toNat_natCast]
    refine Ev.bind (ev_eq (slices_Clone_int_int.is (l.take i) (by omega))) (ev_pos (by omega) ?_)
    refine Ev.bind (impl_completions.ev (l.take i ++ [(y : Int)]) l.length h8 (by simp; omega)) ?_
    rw [add_nat _ _ (by omega) (by omega), wrap_nat y (by omega), Nat.add_assoc, ← h1]
    exact ih
theorem impl_rank.evi (l : List Int) (h8 : l.length ≤ 8) (hs : inStreet l.length l) : ∀ (d i A : Nat), i + d = l.length → A + rankFrom l.length (l.take i) (l.drop i) ≤ 16777216 → Ev (fun k => impl_rank.l0 k l ((A : Nat) : Int) l (l.length : Int) (i : Int)) ((A + rankFrom l.length (l.take i) (l.drop i) : Nat) : Int)
  | 0, i, A, e, hA => by
    refine Ev.step (fun k => impl_rank.l0.eq_2 ..) ?_
    refine ev_neg (by omega) (ev_val (Ev.now _) ?_)
    rw [List.drop_of_length_le (by omega)]
    rfl
  | d + 1, i, A, e, hA => by
    have hd : l.drop i = l[i]'(by omega) :: l.drop (i + 1) := List.drop_eq_getElem_cons (by omega)
    have hxm := hs (l[i]'(by omega)) (List.getElem_mem _)
    rw [hd] at hA ⊢
    simp only [rankFrom] at hA ⊢
    rw [← List.take_succ_eq_append_getElem (by omega : i < l.length), ← Nat.add_assoc] at hA ⊢
    have ih := impl_rank.evi l h8 hs d (i + 1) (A + sumTo (fun f => comp l.length (l.take i ++ [(f : Int)])) (l[i]'(by omega)).toNat) (by omega) hA
    have h := impl_rank.evy l h8 hs i (l[i]'(by omega)).toNat A (by omega) (by omega) (by omega) _ ih (l[i]'(by omega)).toNat 0 (by omega)
    refine Ev.step (fun k => impl_rank.l0.eq_2 ..) ?_
    refine ev_pos (by omega) (ev_pos (by omega) (ev_pos (by omega) ?_))
    rw [rd_nat l i (by omega), show l[i]'(by omega) = (((l[i]'(by omega)).toNat : Nat) : Int) by omega]
    exact h
theorem impl_rank.ev (l : List Int) (hp : isPk l = true) : Ev (fun k => impl_rank.f k l) ((rankFrom l.length [] l : Nat) : Int) := by
  have ⟨h8, hs⟩ := isPk_street l hp
  have hr := rank_bd l hp
  have hc := comp_lt l.length [] h8
  simp only [impl_rank.f]
  refine ev_val (impl_rank.evi l h8 hs l.length 0 0 (by omega) (by rw [List.take_zero, List.drop_zero]; omega)) ?_
  rw [List.take_zero, List.drop_zero, Nat.zero_add]

theorem impl_RankParking.ev (l : List Int) (hl : l.length ≤ 1048576) : Ev (fun k => impl_RankParking.f k l) (rankR l) := by
  simp only [impl_RankParking.f]
  unfold rankR
  refine Ev.bind (impl_isParking.ev l hl) ?_
  by_cases hp : isPk l = true
  · rw [if_pos hp]
    exact ev_pos hp (Ev.bind (impl_rank.ev l hp) (Ev.now _))
  · rw [if_neg hp]
    exact ev_neg hp (Ev.now _)

/-- the next parking function in order -/
def nextR (l : List Int) : List Int × Bool := if isPk l = true then atR (l.length : Int) ((rankFrom l.length [] l + 1 : Nat) : Int) else ([], false)
theorem nextR_len (l : List Int) : (nextR l).1.length ≤ 8 := by
  unfold nextR
  split
  · exact atR_len _ _
  · simp

theorem impl_NextParking.ev (l : List Int) (hl : l.length ≤ 1048576) : Ev (fun k => impl_NextParking.f k l) (nextR l) := by
  simp only [impl_NextParking.f]
  refine Ev.bind (impl_isParking.ev l hl) ?_
  unfold nextR
  by_cases hp : isPk l = true
  · have ⟨h8, hs⟩ := isPk_street l hp
    have hr := rank_bd l hp
    have hc := comp_lt l.length [] h8
    rw [if_pos hp]
    refine ev_pos hp (Ev.bind (impl_rank.ev l hp) ?_)
    rw [wrap_nat _ (by omega)]
    exact Ev.bind (impl_ParkingAt.ev _ _) (Ev.now _)
  · rw [if_neg hp]
    exact ev_neg hp (Ev.now _)

theorem laws_jLess.evl (a b : List Int) (hl : a.length ≤ 1048576) (h : a.length = b.length) (d : Nat) : ∀ (i : Nat), i + d = a.length → lexLt (a.drop i) (b.drop i) → Ev (fun k => laws_jLess.l0 k a b (a.length : Int) (i : Int)) true := by
  induction d with
  | zero =>
    intro i hi hx
    rw [List.drop_of_length_le (by omega)] at hx
    exact hx.elim
  | succ d ih =>
    intro i hi hx
    rw [List.drop_eq_getElem_cons (l := a) (by omega), List.drop_eq_getElem_cons (l := b) (by omega)] at hx
    refine Ev.step (fun k => laws_jLess.l0.eq_2 ..) ?_
    refine ev_pos (by omega) (ev_pos (by omega) (ev_pos (by omega) (ev_pos (by omega) ?_)))
    rw [rd_nat a i (by omega), rd_nat b i (by omega)]
    rcases hx with hx | ⟨e, hx⟩
    · refine ev_neg (by omega) (ev_val (Ev.now _) ?_)
      exact decide_eq_true hx
    · refine ev_pos e ?_
      rw [wrap_nat i (by omega)]
      exact ih (i + 1) (by omega) hx
theorem laws_jLess.ev (a b : List Int) (hl : a.length ≤ 1048576) (h : a.length = b.length) (hx : lexLt a b) : Ev (fun k => laws_jLess.f k a b) true := by
  simp only [laws_jLess.f]
  exact laws_jLess.evl a b hl h a.length 0 (by omega) hx

theorem spec_DrawAllParking.ok (l : List Int) (hb : bytesOk l) : ∃ n, spec_DrawAllParking.f l = some n ∧ -1 ≤ n ∧ n ≤ 6 := by
  unfold spec_DrawAllParking.f
  obtain ⟨r, qr, gr, er, hr, _, _⟩ := spec_l1Cur_among.ok l hb 0 0 [0, 1, 2, 3, 4, 4, 5, 6, -1] (by omega) (by omega) (by simp) (by simp)
  simp only [List.mem_cons, List.not_mem_nil, or_false] at hr
  rw [er, Option.bind_some]
  exact ⟨_, rfl, by dsimp only; omega, by dsimp only; omega⟩

/-- favourites for a street of p places -/
def fav (l : List Int) (p : Int) : Bool := decide (1 ≤ p) && decide (p ≤ 12) && decide (l.length ≤ 8) && inAll 0 (p - 1) l
theorem fav_iff (l : List Int) (p : Int) : fav l p = true ↔ 1 ≤ p ∧ p ≤ 12 ∧ l.length ≤ 8 ∧ ∀ x ∈ l, 0 ≤ x ∧ x < p := by
  unfold fav
  simp only [Bool.and_eq_true, decide_eq_true_eq, inAll_iff]
  constructor
  · rintro ⟨⟨⟨h1, h2⟩, h3⟩, h4⟩
    exact ⟨h1, h2, h3, fun x hx => by have := h4 x hx; omega⟩
  · rintro ⟨h1, h2, h3, h4⟩
    exact ⟨⟨⟨h1, h2⟩, h3⟩, fun x hx => by have := h4 x hx; omega⟩

/-- what DriveCars hands back -/
def carsR (l : List Int) (p : Int) : List Int × Bool := if fav l p = true then drvR (drv p [] l) else ([], false)
theorem carsR_len (l : List Int) (p : Int) : (carsR l p).1.length ≤ l.length := by
  unfold carsR
  split
  · cases h : drv p [] l with
    | none => simp [drvR]
    | some r =>
      have := drv_length p l [] r h
      simp only [drvR]
      simp at this
      omega
  · simp

/-- places less favourites -/
def distL (r l : List Int) : List Int := List.zipWith (fun a b => wrap64 (a - b)) r l
def distR (l : List Int) (p : Int) : List Int × Bool := (distL (carsR l p).1 l, (carsR l p).2)
theorem distR_len (l : List Int) (p : Int) : (distR l p).1.length ≤ l.length := by
  simp only [distR, distL, List.length_zipWith]
  omega
theorem distL_len (r l : List Int) (h : r.length ≤ l.length) : (distL r l).length = r.length := by
  simp only [distL, List.length_zipWith]
  omega
theorem distL_get (r l : List Int) (i : Nat) (h1 : i < r.length) (h2 : i < l.length) (h3 : i < (distL r l).length) : (distL r l)[i] = wrap64 (r[i] - l[i]) := by
  simp [distL]
theorem carsR_ok (l : List Int) (p : Int) (h : (carsR l p).2 = true) : fav l p = true ∧ allPark l p = true ∧ (carsR l p).1 = paD p [] l ∧ (carsR l p).1.length = l.length := by
  unfold carsR at h ⊢
  cases e : fav l p with
  | false =>
    rw [e] at h
    cases h
  | true =>
    rw [e, if_pos rfl] at h
    have hf := (fav_iff l p).mp e
    rw [if_pos rfl]
    cases hd : drv p [] l with
    | none =>
      rw [hd] at h
      cases h
    | some r =>
      have h1 := drv_some p l [] r (fun x hx => (hf.2.2.2 x hx).1) (by simp) hd
      have h2 := drv_length p l [] r hd
      refine ⟨rfl, by unfold allPark; rw [hd]; rfl, ?_, ?_⟩
      · exact h1.1.symm
      · simpa [drvR] using h2
theorem carsR_no (l : List Int) (p : Int) (h : (carsR l p).2 = false) : (carsR l p).1 = [] ∧ ¬ (fav l p = true ∧ allPark l p = true) := by
  unfold carsR at h ⊢
  cases e : fav l p with
  | false => exact ⟨rfl, fun h => by cases h.1⟩
  | true =>
    rw [e, if_pos rfl] at h
    rw [if_pos rfl]
    cases hd : drv p [] l with
    | some r =>
      rw [hd] at h
      cases h
    | none => exact ⟨rfl, fun hh => by have := hh.2; unfold allPark at this; rw [hd] at this; cases this⟩

theorem paD_length (p : Int) : ∀ (l out : List Int), (paD p out l).length = out.length + l.length
  | [], out => by simp [paD]
  | x :: l, out => by
    have := paD_length p l (out ++ [if land out p x < p then land out p x else -1])
    simp only [paD, this, List.length_append, List.length_cons, List.length_nil]
    omega

/-- a sum of 64 bits -/
def sumW (a : Int) (l : List Int) : Int := l.foldl (fun s x => wrap64 (s + x)) a
theorem sumW_cons (a x : Int) (l : List Int) : sumW a (x :: l) = sumW (wrap64 (a + x)) l := rfl

theorem rdL_nat (E : List (List Int)) (i : Nat) (h : i < E.length) : rd_L3 E (i : Int) = E[i] := by
  simp [rd_L3, List.getD_eq_getElem?_getD, h]
/-- one more at v -/
def bump (o : List Int) (v : Int) : List Int := o.set v.toNat (wrap64 (rd o v + 1))
theorem bump_len (o : List Int) (v : Int) : (bump o v).length = o.length := by simp [bump]
/-- the whole distance of a parking function -/
def valD (n : Nat) (M : List Int) : Int := sumW 0 (distL (paD n [] M) M)
/-- the most that the distance may be -/
def topN (n : Nat) : Nat := n * (n - 1) / 2
theorem top_fin : ∀ n : Fin 6, wrap64 (Int.tdiv (wrap64 (((n.val : Nat) : Int) * wrap64 (((n.val : Nat) : Int) - 1))) 2) = ((topN n.val : Nat) : Int) ∧ topN n.val ≤ 10 := by decide +kernel
/-- a list whose distance the sum of its favourites tells -/
def goodD (n : Nat) (M : List Int) : Bool := decide (wrap64 ((topN n : Int) - sumW 0 M) = valD n M) && decide (0 ≤ valD n M) && decide (valD n M ≤ topN n) && decide (M.length = n) && M.all fun x => decide (0 ≤ x)
theorem good_fin : ∀ n : Fin 6, (ext n.val n.val []).all (goodD n.val) = true := by decide +kernel
theorem good_of (n : Nat) (h : n ≤ 5) (M : List Int) (hM : M ∈ ext n n []) : wrap64 ((topN n : Int) - sumW 0 M) = valD n M ∧ 0 ≤ valD n M ∧ valD n M ≤ topN n ∧ M.length = n ∧ ∀ x ∈ M, 0 ≤ x := by
  have h1 := List.all_eq_true.mp (good_fin ⟨n, by omega⟩) M hM
  unfold goodD at h1
  simp only [Bool.and_eq_true, decide_eq_true_eq, List.all_eq_true] at h1
  exact ⟨h1.1.1.1.1, h1.1.1.1.2, h1.1.1.2, h1.1.2, h1.2⟩
/-- how many lists have each distance -/
def byDist (n : Nat) (E : List (List Int)) (o : List Int) : List Int := E.foldl (fun o M => bump o (valD n M)) o
theorem byDist_len (n : Nat) : ∀ (E : List (List Int)) (o : List Int), (byDist n E o).length = o.length
  | [], o => rfl
  | M :: E, o => by
    have h := byDist_len n E (bump o (valD n M))
    rw [bump_len] at h
    exact h
def byDistR (n : Int) : List Int × Bool := if 0 ≤ n ∧ n ≤ 5 then (byDist n.toNat (ext n.toNat n.toNat []) (List.replicate (topN n.toNat + 1) 0), true) else ([], false)
theorem byDistR_len (n : Int) : (byDistR n).1.length ≤ 11 := by
  unfold byDistR
  split
  · rename_i h
    have h2 : topN n.toNat ≤ 10 := (top_fin ⟨n.toNat, by omega⟩).2
    simp only [byDist_len, List.length_replicate]
    omega
  · simp
theorem ext_len (n : Nat) (h8 : n ≤ 8) (d : Nat) (L : List Int) (h : L.length + d = n) (hs : inStreet n L) : (ext n d L).length ≤ 16777216 := by
  rw [ext_length n h8 d L h hs]
  exact comp_lt n L h8

theorem impl_allParking.ev (n : Nat) (h8 : n ≤ 8) : Ev (fun k => impl_allParking.f k (n : Int)) (ext n n []) := by
  have hl : (ext n n []).length = cnt n := by rw [ext_length n h8 n [] (by simp) (fun x hx => by cases hx), comp_totalI n h8]
  have hc := cnt_bd n h8
  have loop : ∀ (e i : Nat), i + e = cnt n → Ev (fun k => impl_allParking.l0 k (n : Int) ((ext n n []).take i) ((cnt n : Nat) : Int) (i : Int)) (ext n n []) := by
    intro e
    induction e with
    | zero =>
      intro i hi
      refine Ev.step (fun k => impl_allParking.l0.eq_2 ..) ?_
      refine ev_neg (by omega) (ev_val (Ev.now _) ?_)
      exact List.take_of_length_le (by omega)
    | succ e ihe =>
      intro i hi
      have hat := unrank_at n h8 n [] i (by simp) (fun x hx => by cases hx) (by rw [comp_totalI n h8]; omega)
      have hi2 : i < (ext n n []).length := by omega
      rw [List.getElem?_eq_getElem hi2, Option.some.injEq] at hat
      have ih := ihe (i + 1) (by omega)
      rw [List.take_succ_eq_append_getElem hi2, hat] at ih
      refine Ev.step (fun k => impl_allParking.l0.eq_2 ..) ?_
      refine ev_pos (by omega) (Ev.bind (impl_parkingAt.ev n i h8 (by omega)) (ev_pos (by rw [List.length_take]; omega) ?_))
      rw [wrap_nat i (by omega)]
      exact ih
  simp only [impl_allParking.f]
  refine Ev.bind (impl_countParking.ev n h8) ?_
  exact loop (cnt n) 0 (by omega)

/-- all parking functions in order, where there may be so many cars -/
def allPR (n : Int) : List (List Int) × Bool := if 0 ≤ n ∧ n ≤ 5 then (ext n.toNat n.toNat [], true) else ([], false)

theorem impl_AllParking.ev (n : Int) : Ev (fun k => impl_AllParking.f k n) (allPR n) := by
  simp only [impl_AllParking.f]
  refine Ev.bind (ev_eq (impl_between.is n 0 5)) ?_
  by_cases hn : 0 ≤ n ∧ n ≤ 5
  · rw [decide_eq_true hn.1, decide_eq_true hn.2]
    obtain ⟨m, rfl⟩ : ∃ m : Nat, n = (m : Int) := ⟨n.toNat, by omega⟩
    refine ev_pos rfl (Ev.bind (impl_allParking.ev m (by omega)) (ev_val (Ev.now _) ?_))
    unfold allPR
    rw [if_pos hn, Int.toNat_natCast]
  · refine ev_neg (by simp; omega) (ev_val (Ev.now _) ?_)
    unfold allPR
    rw [if_neg hn]

theorem spec_l1Has.evl (x : Int) (l : List Int) (hl : l.length < 4611686018427387904) (d : Nat) : ∀ (i : Nat), i + d = l.length → Ev (fun k => spec_l1Has.l0 k x l (l.length : Int) (i : Int)) (decide (x ∈ l.drop i)) := by
  induction d with
  | zero =>
    intro i hi
    refine Ev.step (fun k => spec_l1Has.l0.eq_2 ..) ?_
    refine ev_neg (by omega) ?_
    refine ev_val (Ev.now _) ?_
    rw [List.drop_of_length_le (by omega)]
    simp
  | succ d ih =>
    intro i hi
    refine Ev.step (fun k => spec_l1Has.l0.eq_2 ..) ?_
    refine ev_pos (by omega) (ev_pos (by omega) (ev_pos (by omega) ?_))
    rw [wrap_nat i (by omega), rd_nat l i (by omega), List.drop_eq_getElem_cons (by omega)]
    by_cases e : l[i] = x
    · refine ev_pos e (ev_val (Ev.now _) ?_)
      simp [e]
    · refine ev_neg e (ev_val (ih (i + 1) (by omega)) ?_)
      simp only [List.mem_cons, show ¬ x = l[i] from fun h => e h.symm, false_or]
theorem spec_l1Has.ev (l : List Int) (x : Int) (hl : l.length < 4611686018427387904) : Ev (fun k => spec_l1Has.f k l x) (decide (x ∈ l)) := by
  simp only [spec_l1Has.f]
  exact spec_l1Has.evl x l hl l.length 0 (by omega)

theorem spec_paDrive.evl (p : Int) (hp : p ≤ 1048576) (l : List Int) (hl : l.length ≤ 1048576) (hx : ∀ x ∈ l, -1048576 ≤ x) (d : Nat) : ∀ (i : Nat) (out : List Int), i + d = l.length → out.length = i → Ev (fun k => spec_paDrive.l0 k p out l (l.length : Int) (i : Int)) (paD p out (l.drop i)) := by
  induction d with
  | zero =>
    intro i out hi ho
    refine Ev.step (fun k => spec_paDrive.l0.eq_2 ..) ?_
    refine ev_neg (by omega) ?_
    refine ev_val (Ev.now _) ?_
    rw [List.drop_of_length_le (by omega)]
    rfl
  | succ d ih =>
    intro i out hi ho
    refine Ev.step (fun k => spec_paDrive.l0.eq_2 ..) ?_
    refine ev_pos (by omega) (ev_pos (by omega) (ev_pos (by omega) ?_))
    rw [rd_nat l i (by omega), List.drop_eq_getElem_cons (by omega)]
    have hxi := hx l[i] (List.getElem_mem _)
    have inner : ∀ (m : Nat) (x : Int), (p - x).toNat = m → -1048576 ≤ x → Ev (fun k => spec_paDrive.l1 k p out x l (l.length : Int) (i : Int)) (paD p (out ++ [if land out p x < p then land out p x else -1]) (l.drop (i + 1))) := by
      intro m
      induction m with
      | zero =>
        intro x hm hx0
        refine Ev.step (fun k => spec_paDrive.l1.eq_2 ..) ?_
        refine ev_neg (by omega) (ev_pos (by omega) (ev_pos (by omega) ?_))
        rw [wrap_nat i (by omega), land_stop out p x (by omega), if_neg (by omega)]
        exact ih (i + 1) _ (by omega) (by simp; omega)
      | succ m ihm =>
        intro x hm hx0
        refine Ev.step (fun k => spec_paDrive.l1.eq_2 ..) ?_
        refine ev_pos (by omega) (Ev.bind (spec_l1Has.ev out x (by omega)) ?_)
        by_cases hh : x ∈ out
        · rw [decide_eq_true hh, land_go out p x (by omega) hh]
          refine ev_pos rfl ?_
          rw [wrap_id (x + 1) (by omega) (by omega)]
          exact ihm (x + 1) (by omega) (by omega)
        · rw [decide_eq_false hh, land_stop out p x (fun h => hh h.2), if_pos (by omega)]
          refine ev_neg (by decide) (ev_neg (by omega) (ev_pos (by omega) ?_))
          rw [wrap_nat i (by omega)]
          exact ih (i + 1) _ (by omega) (by simp; omega)
    exact inner _ l[i] rfl hxi
theorem spec_paDrive.ev (l : List Int) (p : Int) (hp : p ≤ 1048576) (hl : l.length ≤ 1048576) (hx : ∀ x ∈ l, -1048576 ≤ x) : Ev (fun k => spec_paDrive.f k l p) (paD p [] l) := by
  simp only [spec_paDrive.f]
  exact spec_paDrive.evl p hp l hl hx l.length 0 [] (by omega) rfl

theorem spec_paAll.ev (l : List Int) (p : Int) (hp : p ≤ 1048576) (hl : l.length ≤ 1048576) (hx : ∀ x ∈ l, 0 ≤ x) : Ev (fun k => spec_paAll.f k l p) (allPark l p) := by
  simp only [spec_paAll.f]
  refine Ev.bind (spec_paDrive.ev l p hp hl (fun x h => by have := hx x h; omega)) (Ev.bind (spec_l1Has.ev _ _ (by rw [paD_length]; simp; omega)) ?_)
  refine ev_val (Ev.now _) ?_
  rw [allPark_paD l p hx]
  simp

theorem spec_l1All.evl (lo hi : Int) (l : List Int) (hl : l.length < 4611686018427387904) (d : Nat) : ∀ (i : Nat), i + d = l.length → Ev (fun k => spec_l1All.l0 k lo hi l (l.length : Int) (i : Int)) (inAll lo hi (l.drop i)) := by
  induction d with
  | zero =>
    intro i hi0
    refine Ev.step (fun k => spec_l1All.l0.eq_2 ..) ?_
    refine ev_neg (by omega) ?_
    refine ev_val (Ev.now _) ?_
    rw [List.drop_of_length_le (by omega)]
    rfl
  | succ d ih =>
    intro i hi0
    refine Ev.step (fun k => spec_l1All.l0.eq_2 ..) ?_
    refine ev_pos (by omega) (ev_pos (by omega) (ev_pos (by omega) ?_))
    rw [wrap_nat i (by omega), rd_nat l i (by omega), List.drop_eq_getElem_cons (by omega), spec_l1In.is]
    refine Ev.bind (Ev.now _) ?_
    have u : inAll lo hi (l[i] :: l.drop (i + 1)) = ((decide (lo ≤ l[i]) && decide (l[i] ≤ hi)) && inAll lo hi (l.drop (i + 1))) := rfl
    rw [u]
    generalize (decide (lo ≤ l[i]) && decide (l[i] ≤ hi)) = b
    cases b with
    | true => exact ev_pos rfl (ih (i + 1) (by omega))
    | false => exact ev_neg (by decide) (Ev.now _)
theorem spec_l1All.ev (l : List Int) (lo hi : Int) (hl : l.length < 4611686018427387904) : Ev (fun k => spec_l1All.f k l lo hi) (inAll lo hi l) := by
  simp only [spec_l1All.f]
  exact spec_l1All.evl lo hi l hl l.length 0 (by omega)

theorem isPk_iff (l : List Int) : isPk l = true ↔ l.length ≤ 8 ∧ (∀ x ∈ l, 0 ≤ x ∧ x < l.length) ∧ allPark l l.length = true := by
  simp only [isPk, Bool.and_eq_true, decide_eq_true_eq, List.all_eq_true]
  constructor
  · rintro ⟨⟨h1, h2⟩, h3⟩
    exact ⟨h1, fun x hx => by have := h2 x hx; omega, h3⟩
  · rintro ⟨h1, h2, h3⟩
    exact ⟨⟨h1, fun x hx => by have := h2 x hx; omega⟩, h3⟩
theorem spec_paParking.ev (l : List Int) (hl : l.length ≤ 1048576) : Ev (fun k => spec_paParking.f k l) (isPk l) := by
  simp only [spec_paParking.f]
  unfold isPk
  by_cases h8 : l.length ≤ 8
  · rw [decide_eq_true h8, wrap_id _ (by omega) (by omega)]
    refine ev_pos (by omega) (Ev.bind (spec_l1All.ev l 0 _ (by omega)) ?_)
    have u : inAll 0 ((l.length : Int) - 1) l = l.all fun x => decide (0 ≤ x) && decide (x ≤ (l.length : Int) - 1) := rfl
    rw [← u]
    cases e : inAll 0 ((l.length : Int) - 1) l with
    | true =>
      rw [inAll_iff] at e
      exact ev_pos rfl (Ev.bind (spec_paAll.ev l _ (by omega) hl (fun x hx => (e x hx).1)) (Ev.now _))
    | false => exact ev_neg (by decide) (Ev.now _)
  · rw [decide_eq_false h8]
    exact ev_neg (by omega) (Ev.now _)

theorem spec_cnAll.ev (n : Nat) (h8 : n ≤ 8) : ∀ (d : Nat) (L : List Int), L.length + d = n → inStreet n L → Ev (fun k => spec_cnAll.f k L (n : Int)) (ext n d L)
  | 0, L, h, hs => by
    refine Ev.step (fun k => spec_cnAll.f.eq_2 ..) ?_
    refine ev_pos (by omega) (Ev.bind (spec_paParking.ev L (by omega)) ?_)
    by_cases hp : isPk L = true
    · refine ev_pos hp (Ev.bind (ev_eq (spec_l1Own.is L (by omega))) (ev_val (Ev.now _) ?_))
      simp only [ext]
      rw [if_pos hp]
    · refine ev_neg hp (ev_val (Ev.now _) ?_)
      simp only [ext]
      rw [if_neg hp]
  | d + 1, L, h, hs => by
    have ih := spec_cnAll.ev n h8 d
    have loop : ∀ (e x : Nat), x + e = n → Ev (fun k => spec_cnAll.l0 k L (n : Int) (catTo (fun x => ext n d (L ++ [(x : Int)])) x) (x : Int)) (catTo (fun x => ext n d (L ++ [(x : Int)])) n) := by
      intro e
      induction e with
      | zero =>
        intro x hx
        refine Ev.step (fun k => spec_cnAll.l0.eq_2 ..) ?_
        rw [show x = n by omega]
        exact ev_neg (by omega) (Ev.now _)
      | succ e ihe =>
        intro x hx
        have hb : (catTo (fun x => ext n d (L ++ [(x : Int)])) x).length ≤ 134217728 := by
          rw [catTo_length]
          have h2 := sumTo_le x (f := fun i => (ext n d (L ++ [(i : Int)])).length) (g := fun _ => 16777216 * 1) (fun i hi => by have := ext_len n h8 d (L ++ [(i : Int)]) (by simp; omega) (inStreet_snoc hs (by omega)); omega)
          rw [sumTo_mul] at h2
          have : ∀ m, sumTo (fun _ => 1) m = m := by
            intro m
            induction m with
            | zero => rfl
            | succ m ih => simp only [sumTo, ih]
          rw [this] at h2
          omega
        have hb2 := ext_len n h8 d (L ++ [(x : Int)]) (by simp; omega) (inStreet_snoc hs (by omega))
        refine Ev.step (fun k => spec_cnAll.l0.eq_2 ..) ?_
        refine ev_pos (by omega) (Ev.bind (ev_eq (spec_l1Own.is L (by omega))) (ev_pos (by omega) ?_))
        refine Ev.bind (ih (L ++ [(x : Int)]) (by simp; omega) (inStreet_snoc hs (by omega))) (ev_pos (by omega) ?_)
        rw [wrap_nat x (by omega)]
        exact ihe (x + 1) (by omega)
    refine Ev.step (fun k => spec_cnAll.f.eq_2 ..) ?_
    refine ev_neg (by omega) ?_
    exact loop n 0 (by omega)

theorem spec_AllParking.ev (n : Int) : Ev (fun k => spec_AllParking.f k n) (allPR n) := by
  simp only [spec_AllParking.f]
  refine Ev.bind (ev_eq (spec_l1In.is n 0 5)) ?_
  by_cases hn : 0 ≤ n ∧ n ≤ 5
  · rw [decide_eq_true hn.1, decide_eq_true hn.2]
    obtain ⟨m, rfl⟩ : ∃ m : Nat, n = (m : Int) := ⟨n.toNat, by omega⟩
    refine ev_pos rfl (Ev.bind (spec_cnAll.ev m (by omega) m [] (by simp) (fun x hx => by cases hx)) (ev_val (Ev.now _) ?_))
    unfold allPR
    rw [if_pos hn, Int.toNat_natCast]
  · refine ev_neg (by simp; omega) (ev_val (Ev.now _) ?_)
    unfold allPR
    rw [if_neg hn]

theorem laws_jRows.rdL (E : List (List Int)) (i : Nat) (h : i < E.length) : rd_L3 E (i : Int) = E[i] := by
  simp [rd_L3, List.getD_eq_getElem?_getD, h]
theorem laws_jRows.evl (a : List (List Int)) (hl : a.length < 4611686018427387904) (hr : ∀ x ∈ a, x.length ≤ 1048576) (d : Nat) : ∀ (i : Nat), i + d = a.length → Ev (fun k => laws_jRows.l0 k a a (a.length : Int) (i : Int)) true := by
  induction d with
  | zero =>
    intro i hi
    refine Ev.step (fun k => laws_jRows.l0.eq_2 ..) ?_
    exact ev_neg (by omega) (Ev.now _)
  | succ d ih =>
    intro i hi
    refine Ev.step (fun k => laws_jRows.l0.eq_2 ..) ?_
    refine ev_pos (by omega) (ev_pos (by omega) (ev_pos (by omega) (ev_pos (by omega) ?_)))
    rw [wrap_nat i (by omega), laws_jRows.rdL a i (by omega)]
    refine Ev.bind (laws_jSame.ev_self _ (hr _ (List.getElem_mem _))) (ev_pos rfl ?_)
    exact ih (i + 1) (by omega)
theorem laws_jRows.ev_self (a : List (List Int)) (hl : a.length < 4611686018427387904) (hr : ∀ x ∈ a, x.length ≤ 1048576) : Ev (fun k => laws_jRows.f k a a) true := by
  simp only [laws_jRows.f]
  exact ev_pos (by first | rfl | trivial | omega) (laws_jRows.evl a hl hr a.length 0 (by omega))

theorem ev_ite {α : Type} {c : Prop} [Decidable c] {g f : Nat → Option α} {r : α} (h : c → Ev g r) (k : ¬ c → Ev f r) : Ev (fun n => if c then g n else f n) r := by
  by_cases e : c
  · exact ev_pos e (h e)
  · exact ev_neg e (k e)
theorem u8_of_wf (x : Int) (h : (Lit.int .u8 x).wf = true) : 0 ≤ x ∧ x ≤ 255 := by
  simp only [Lit.wf, Bool.and_eq_true, decide_eq_true_eq] at h
  have h1 : IntKind.min .u8 = 0 := by decide
  have h2 : IntKind.max .u8 = 255 := by decide
  rw [h1, h2] at h
  exact h

end Go.Proofs.Ytdiohjdfiambhaa.QFnParkingRanks
