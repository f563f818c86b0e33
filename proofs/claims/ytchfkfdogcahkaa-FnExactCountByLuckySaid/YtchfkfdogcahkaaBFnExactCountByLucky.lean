/- Proved here: what the Lean functions printed for the Go functions of law FnExactCountByLucky compute, in words of lists and whole numbers, for lists shorter than 2^62. -/
import Derived.Test.YtchfkfdogcahkaaQFnExactCountByLuckyx
namespace Go.Proofs.Ytchfkfdogcahkaa.QFnExactCountByLucky
open Go.RowKit Go.Proofs.YtchfkfdogcahkaaW.PrintWords Go.Proofs.YtchfkfdogcahkaaW.PrintLast
set_option linter.unusedVariables false

theorem ev_pos {α : Type} {c : Prop} [Decidable c] {g f : Nat → Option α} {r : α} (h : c) (k : Ev g r) : Ev (fun n => if c then g n else f n) r := by
  obtain ⟨K, hK⟩ := k
  exact ⟨K, fun n hn => by simp only [if_pos h]; exact hK n hn⟩
theorem ev_neg {α : Type} {c : Prop} [Decidable c] {g f : Nat → Option α} {r : α} (h : ¬ c) (k : Ev f r) : Ev (fun n => if c then g n else f n) r := by
  obtain ⟨K, hK⟩ := k
  exact ⟨K, fun n hn => by simp only [if_neg h]; exact hK n hn⟩
theorem ev_eq {α : Type} {g : Option α} {r : α} (h : g = some r) : Ev (fun _ => g) r := ⟨0, fun _ _ => h⟩
theorem ev_val {α : Type} {g : Nat → Option α} {r q : α} (h : Ev g r) (e : r = q) : Ev g q := e ▸ h
theorem wrap_nat (i : Nat) (h : i < 4611686018427387904) : wrap64 ((i : Int) + 1) = ((i + 1 : Nat) : Int) := by
  unfold wrap64
  omega
theorem wrap_id (x : Int) (h : -9223372036854775808 ≤ x) (h' : x ≤ 9223372036854775807) : wrap64 x = x := by
  unfold wrap64
  omega
theorem rd_nat (l : List Int) (i : Nat) (h : i < l.length) : rd l (i : Int) = l[i] := by
  simp [rd, List.getD_eq_getElem?_getD, h]
theorem rd_int (l : List Int) (x : Int) (h0 : 0 ≤ x) (h : x < l.length) : rd l x = l[x.toNat]'(by omega) := by
  have e : x = ((x.toNat : Nat) : Int) := by omega
  have h2 : x.toNat < l.length := by omega
  rw [show rd l x = rd l ((x.toNat : Nat) : Int) by rw [← e]]
  exact rd_nat l x.toNat h2
/-- m, m + 1, .., n numbers -/
def marks : Int → Nat → List Int
  | _, 0 => []
  | m, n + 1 => m :: marks (m + 1) n
theorem marks_len : ∀ (n : Nat) (m : Int), (marks m n).length = n
  | 0, _ => rfl
  | n + 1, m => by simp [marks, marks_len n]
theorem take_set_succ (y l : List Int) (i : Nat) (hi : i < l.length) (hy : y.length = l.length) (h : y.take i = l.take i) : (y.set i l[i]).take (i + 1) = l.take (i + 1) := by
  rw [List.take_succ_eq_append_getElem (by simp; omega), List.take_succ_eq_append_getElem hi, List.take_set_of_le (Nat.le_refl i), h, List.getElem_set_self]
/-- all numbers lie from lo to hi -/
def inAll (lo hi : Int) (l : List Int) : Bool := l.all fun x => decide (lo ≤ x) && decide (x ≤ hi)
theorem inAll_iff (lo hi : Int) (l : List Int) : inAll lo hi l = true ↔ ∀ x ∈ l, lo ≤ x ∧ x ≤ hi := by
  simp [inAll]

theorem laws_eqIntS.evl (a b : List Int) (hl : a.length < 4611686018427387904) (h : a.length = b.length) (d : Nat) : ∀ (i : Nat), i + d = a.length → Ev (fun k => laws_eqIntS.l0 k a b (i : Int)) (decide (a.drop i = b.drop i)) := by
  induction d with
  | zero =>
    intro i hi
    refine Ev.step (fun k => laws_eqIntS.l0.eq_2 ..) ?_
    refine ev_neg (by omega) ?_
    refine ev_val (Ev.now _) ?_
    rw [List.drop_of_length_le (by omega), List.drop_of_length_le (by omega)]
    rfl
  | succ d ih =>
    intro i hi
    refine Ev.step (fun k => laws_eqIntS.l0.eq_2 ..) ?_
    refine ev_pos (by omega) (ev_pos (by omega) (ev_pos (by omega) ?_))
    rw [wrap_nat i (by omega), rd_nat a i (by omega), rd_nat b i (by omega)]
    rw [List.drop_eq_getElem_cons (l := a) (by omega), List.drop_eq_getElem_cons (l := b) (by omega)]
    by_cases e : a[i] = b[i]'(by omega)
    · refine ev_pos e (ev_val (ih (i + 1) (by omega)) ?_)
      simp only [List.cons.injEq, e, true_and]
    · refine ev_neg e (ev_val (Ev.now _) ?_)
      simp only [List.cons.injEq, e, false_and, decide_false]
theorem laws_eqIntS.ev (a b : List Int) (hl : a.length < 4611686018427387904) : Ev (fun k => laws_eqIntS.f k a b) (decide (a = b)) := by
  simp only [laws_eqIntS.f]
  by_cases h : a.length = b.length
  · refine ev_pos (by omega) (ev_val (laws_eqIntS.evl a b hl h a.length 0 (by omega)) ?_)
    simp
  · refine ev_neg (by omega) (ev_val (Ev.now _) ?_)
    exact (decide_eq_false (fun e => h (by rw [e]))).symm
theorem laws_eqIntS.ev_self (a : List Int) (hl : a.length < 4611686018427387904) : Ev (fun k => laws_eqIntS.f k a a) true := ev_val (laws_eqIntS.ev a a hl) (by simp)

theorem spec_l1In.is (x lo hi : Int) : spec_l1In.f x lo hi = some (decide (lo ≤ x) && decide (x ≤ hi)) := by
  unfold spec_l1In.f
  by_cases h : x ≥ lo
  · rw [if_pos h, decide_eq_true (show lo ≤ x from h), Bool.true_and]
  · rw [if_neg h, decide_eq_false (show ¬ lo ≤ x from h), Bool.false_and]

theorem impl_between.is (x lo hi : Int) : impl_between.f x lo hi = some (decide (lo ≤ x) && decide (x ≤ hi)) := by
  unfold impl_between.f
  by_cases h : x ≥ lo
  · rw [if_pos h, decide_eq_true (show lo ≤ x from h), Bool.true_and]
  · rw [if_neg h, decide_eq_false (show ¬ lo ≤ x from h), Bool.false_and]

theorem laws_markIntS.evl (n : Nat) (hn : n < 4611686018427387904) (d : Nat) : ∀ (i : Nat) (y : List Int), i + d = n → y.length = n → Ev (fun k => laws_markIntS.l0 k y (1 + (i : Int)) (i : Int)) (1 + (n : Int), y.take i ++ marks (1 + (i : Int)) d) := by
  induction d with
  | zero =>
    intro i y hi hy
    refine Ev.step (fun k => laws_markIntS.l0.eq_2 ..) ?_
    refine ev_neg (by omega) ?_
    refine ev_val (Ev.now _) ?_
    rw [List.take_of_length_le (by omega), show (i : Int) = n by omega]
    simp [marks]
  | succ d ih =>
    intro i y hi hy
    refine Ev.step (fun k => laws_markIntS.l0.eq_2 ..) ?_
    refine ev_pos (by omega) (ev_pos (by omega) ?_)
    rw [wrap_nat i (by omega), Int.toNat_natCast, show wrap64 (1 + (i : Int) + 1) = 1 + ((i + 1 : Nat) : Int) by unfold wrap64; omega]
    refine ev_val (ih (i + 1) (y.set i (1 + (i : Int))) (by omega) (by simp; omega)) ?_
    rw [List.take_succ_eq_append_getElem (by simp; omega), List.take_set_of_le (Nat.le_refl i), List.getElem_set_self, List.append_assoc]
    simp only [marks, List.singleton_append, show 1 + ((i + 1 : Nat) : Int) = 1 + (i : Int) + 1 by omega]
theorem laws_markIntS.ev (y : List Int) (hn : y.length < 4611686018427387904) : Ev (fun k => laws_markIntS.f k y 1) (1 + (y.length : Int), marks 1 y.length) := by
  simp only [laws_markIntS.f]
  have h := laws_markIntS.evl y.length hn y.length 0 y (by omega) rfl
  simpa using h

theorem laws_heldIntS.evl (y : List Int) (hn : y.length < 4611686018427387904) (d : Nat) : ∀ (i : Nat), i + d = y.length → y.drop i = marks (1 + (i : Int)) d → Ev (fun k => laws_heldIntS.l0 k y (1 + (i : Int)) (i : Int)) (1 + (y.length : Int)) := by
  induction d with
  | zero =>
    intro i hi hy
    refine Ev.step (fun k => laws_heldIntS.l0.eq_2 ..) ?_
    refine ev_neg (by omega) ?_
    refine ev_val (Ev.now _) ?_
    omega
  | succ d ih =>
    intro i hi hy
    refine Ev.step (fun k => laws_heldIntS.l0.eq_2 ..) ?_
    rw [List.drop_eq_getElem_cons (by omega)] at hy
    simp only [marks, List.cons.injEq] at hy
    refine ev_pos (by omega) (ev_pos (by omega) ?_)
    rw [rd_nat y i (by omega)]
    refine ev_pos hy.1 ?_
    rw [wrap_nat i (by omega), show wrap64 (1 + (i : Int) + 1) = 1 + ((i + 1 : Nat) : Int) by unfold wrap64; omega]
    refine ih (i + 1) (by omega) ?_
    rw [hy.2, show 1 + ((i + 1 : Nat) : Int) = 1 + (i : Int) + 1 by omega]
theorem laws_heldIntS.ev (n : Nat) (hn : n < 4611686018427387904) : Ev (fun k => laws_heldIntS.f k (marks 1 n) 1) (1 + (n : Int)) := by
  simp only [laws_heldIntS.f]
  have h := laws_heldIntS.evl (marks 1 n) (by rw [marks_len]; exact hn) n 0 (by rw [marks_len]; omega) (by simp)
  rw [marks_len] at h
  simpa using h

end Go.Proofs.Ytchfkfdogcahkaa.QFnExactCountByLucky
