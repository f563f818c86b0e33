/- Proved here: what the Lean functions printed for the Go functions of law FnExactAllSorted compute, in words of lists and whole numbers, for lists shorter than 2^62. -/
import Derived.Test.YtjnchdccefdjmaaQFnExactAllSortedx
namespace Go.Proofs.Ytjnchdccefdjmaa.QFnExactAllSorted
open Go.RowKit Go.Proofs.YtjnchdccefdjmaaW.PrintWords Go.Proofs.YtjnchdccefdjmaaW.PrintLast
set_option linter.unusedVariables false
set_option linter.unusedSimpArgs false

theorem ev_pos {α : Type} {c : Prop} [Decidable c] {g f : Nat → Option α} {r : α} (h : c) (k : Ev g r) : Ev (fun n => if c then g n else f n) r := by
  obtain ⟨K, hK⟩ := k
  exact ⟨K, fun n hn => by simp only [if_pos h]; exact hK n hn⟩
theorem ev_neg {α : Type} {c : Prop} [Decidable c] {g f : Nat → Option α} {r : α} (h : ¬ c) (k : Ev f r) : Ev (fun n => if c then g n else f n) r := by
  obtain ⟨K, hK⟩ := k
  exact ⟨K, fun n hn => by simp only [if_neg h]; exact hK n hn⟩
theorem ev_eq {α : Type} {g : Option α} {r : α} (h : g = some r) : Ev (fun _ => g) r := ⟨0, fun _ _ => h⟩
theorem ev_val {α : Type} {g : Nat → Option α} {r q : α} (h : Ev g r) (e : r = q) : Ev g q := e ▸ h
theorem wrap_nat (i : Nat) (h : i < 4611686018427387904) : wrap64 ((i : Int) + 1) = ((i + 1 : Nat) : Int) := by
  unfold wrap64
  omega
theorem wrap_id (x : Int) (h : -9223372036854775808 ≤ x) (h' : x ≤ 9223372036854775807) : wrap64 x = x := by
  unfold wrap64
  omega
theorem rd_nat (l : List Int) (i : Nat) (h : i < l.length) : rd l (i : Int) = l[i] := by
  simp [rd, List.getD_eq_getElem?_getD, h]
theorem rd_int (l : List Int) (x : Int) (h0 : 0 ≤ x) (h : x < l.length) : rd l x = l[x.toNat]'(by omega) := by
  have e : x = ((x.toNat : Nat) : Int) := by omega
  have h2 : x.toNat < l.length := by omega
  rw [show rd l x = rd l ((x.toNat : Nat) : Int) by rw [← e]]
  exact rd_nat l x.toNat h2
/-- m, m + 1, .., n numbers -/
def marks : Int → Nat → List Int
  | _, 0 => []
  | m, n + 1 => m :: marks (m + 1) n
theorem marks_len : ∀ (n : Nat) (m : Int), (marks m n).length = n
  | 0, _ => rfl
  | n + 1, m => by simp [marks, marks_len n]
theorem take_set_succ (y l : List Int) (i : Nat) (hi : i < l.length) (hy : y.length = l.length) (h : y.take i = l.take i) : (y.set i l[i]).take (i + 1) = l.take (i + 1) := by
  rw [List.take_succ_eq_append_getElem (by simp; omega), List.take_succ_eq_append_getElem hi, List.take_set_of_le (Nat.le_refl i), h, List.getElem_set_self]
/-- all numbers lie from lo to hi -/
def inAll (lo hi : Int) (l : List Int) : Bool := l.all fun x => decide (lo ≤ x) && decide (x ≤ hi)
theorem inAll_iff (lo hi : Int) (l : List Int) : inAll lo hi l = true ↔ ∀ x ∈ l, lo ≤ x ∧ x ≤ hi := by
  simp [inAll]

theorem spec_l1In.is (x lo hi : Int) : spec_l1In.f x lo hi = some (decide (lo ≤ x) && decide (x ≤ hi)) := by
  unfold spec_l1In.f
  by_cases h : x ≥ lo
  · rw [if_pos h, decide_eq_true (show lo ≤ x from h), Bool.true_and]
  · rw [if_neg h, decide_eq_false (show ¬ lo ≤ x from h), Bool.false_and]

theorem spec_l1Own.is (l : List Int) (hl : l.length ≤ 1048576) : spec_l1Own.f l = some l := by
  simp only [spec_l1Own.f, Option.bind_some, List.length_nil, Nat.zero_add, List.nil_append]
  rw [if_pos (by omega)]

theorem spec_cnSorted.fin : ∀ n : Fin 7, spec_cnSorted.f 200 [] ((n.val : Nat) : Int) = some (tabS n.val) := by decide +kernel
theorem spec_cnSorted.ev (n : Nat) (h : n ≤ 6) : Ev (fun k => spec_cnSorted.f k [] (n : Int)) (tabS n) :=
  Ev.of (fun k => spec_cnSorted.mono _ _ k) (spec_cnSorted.fin ⟨n, by omega⟩)

def allSR (n : Int) : List (List Int) × Bool := if 0 ≤ n ∧ n ≤ 6 then (tabS n.toNat, true) else ([], false)

theorem spec_AllSorted.ev (n : Int) : Ev (fun k => spec_AllSorted.f k n) (allSR n) := by
  simp only [spec_AllSorted.f]
  refine Ev.bind (ev_eq (spec_l1In.is n 0 6)) ?_
  by_cases hn : 0 ≤ n ∧ n ≤ 6
  · rw [decide_eq_true hn.1, decide_eq_true hn.2]
    obtain ⟨m, rfl⟩ : ∃ m : Nat, n = (m : Int) := ⟨n.toNat, by omega⟩
    refine ev_pos rfl (Ev.bind (spec_cnSorted.ev m (by omega)) (ev_val (Ev.now _) ?_))
    unfold allSR
    rw [if_pos hn, Int.toNat_natCast]
  · refine ev_neg (by simp; omega) (ev_val (Ev.now _) ?_)
    unfold allSR
    rw [if_neg hn]

theorem impl_between.is (x lo hi : Int) : impl_between.f x lo hi = some (decide (lo ≤ x) && decide (x ≤ hi)) := by
  unfold impl_between.f
  by_cases h : x ≥ lo
  · rw [if_pos h, decide_eq_true (show lo ≤ x from h), Bool.true_and]
  · rw [if_neg h, decide_eq_false (show ¬ lo ≤ x from h), Bool.false_and]

theorem slices_Clone_int_int.is (l : List Int) (hl : l.length ≤ 1048576) : slices_Clone_int_int.f l = some l := by
  simp only [slices_Clone_int_int.f]
  rw [if_pos (by omega)]

theorem impl_allSorted.ev (n : Nat) (h : n ≤ 6) : Ev (fun k => impl_allSorted.f k (n : Int)) (tabS n) := ⟨0, fun k _ => by
  unfold impl_allSorted.f
  rw [if_pos ⟨by omega, by omega⟩, Int.toNat_natCast]⟩

theorem impl_AllSorted.ev (n : Int) : Ev (fun k => impl_AllSorted.f k n) (allSR n) := by
  simp only [impl_AllSorted.f]
  refine Ev.bind (ev_eq (impl_between.is n 0 6)) ?_
  by_cases hn : 0 ≤ n ∧ n ≤ 6
  · rw [decide_eq_true hn.1, decide_eq_true hn.2]
    obtain ⟨m, rfl⟩ : ∃ m : Nat, n = (m : Int) := ⟨n.toNat, by omega⟩
    refine ev_pos rfl (Ev.bind (impl_allSorted.ev m (by omega)) (ev_val (Ev.now _) ?_))
    unfold allSR
    rw [if_pos hn, Int.toNat_natCast]
  · refine ev_neg (by simp; omega) (ev_val (Ev.now _) ?_)
    unfold allSR
    rw [if_neg hn]

theorem laws_eqIntS.evl (a b : List Int) (hl : a.length < 4611686018427387904) (h : a.length = b.length) (d : Nat) : ∀ (i : Nat), i + d = a.length → Ev (fun k => laws_eqIntS.l0 k a b (i : Int)) (decide (a.drop i = b.drop i)) := by
  induction d with
  | zero =>
    intro i hi
    refine Ev.step (fun k => laws_eqIntS.l0.eq_2 ..) ?_
    refine ev_neg (by omega) ?_
    refine ev_val (Ev.now _) ?_
    rw [List.drop_of_length_le (by omega), List.drop_of_length_le (by omega)]
    rfl
  | succ d ih =>
    intro i hi
    refine Ev.step (fun k => laws_eqIntS.l0.eq_2 ..) ?_
    refine ev_pos (by omega) (ev_pos (by omega) (ev_pos (by omega) ?_))
    rw [wrap_nat i (by omega), rd_nat a i (by omega), rd_nat b i (by omega)]
    rw [List.drop_eq_getElem_cons (l := a) (by omega), List.drop_eq_getElem_cons (l := b) (by omega)]
    by_cases e : a[i] = b[i]'(by omega)
    · refine ev_pos e (ev_val (ih (i + 1) (by omega)) ?_)
      simp only [List.cons.injEq, e, true_and]
    · refine ev_neg e (ev_val (Ev.now _) ?_)
      simp only [List.cons.injEq, e, false_and, decide_false]
theorem laws_eqIntS.ev (a b : List Int) (hl : a.length < 4611686018427387904) : Ev (fun k => laws_eqIntS.f k a b) (decide (a = b)) := by
  simp only [laws_eqIntS.f]
  by_cases h : a.length = b.length
  · refine ev_pos (by omega) (ev_val (laws_eqIntS.evl a b hl h a.length 0 (by omega)) ?_)
    simp
  · refine ev_neg (by omega) (ev_val (Ev.now _) ?_)
    exact (decide_eq_false (fun e => h (by rw [e]))).symm
theorem laws_eqIntS.ev_self (a : List Int) (hl : a.length < 4611686018427387904) : Ev (fun k => laws_eqIntS.f k a a) true := ev_val (laws_eqIntS.ev a a hl) (by simp)

theorem laws_eqIntSS.rdL (E : List (List Int)) (i : Nat) (h : i < E.length) : rd_L1 E (i : Int) = E[i] := by
  simp [rd_L1, List.getD_eq_getElem?_getD, h]
theorem laws_eqIntSS.evl (a : List (List Int)) (hl : a.length < 4611686018427387904) (hr : ∀ x ∈ a, x.length < 4611686018427387904) (d : Nat) : ∀ (i : Nat), i + d = a.length → Ev (fun k => laws_eqIntSS.l0 k a a (i : Int)) true := by
  induction d with
  | zero =>
    intro i hi
    refine Ev.step (fun k => laws_eqIntSS.l0.eq_2 ..) ?_
    exact ev_neg (by omega) (Ev.now _)
  | succ d ih =>
    intro i hi
    refine Ev.step (fun k => laws_eqIntSS.l0.eq_2 ..) ?_
    refine ev_pos (by omega) (ev_pos (by omega) (ev_pos (by omega) ?_))
    rw [wrap_nat i (by omega), laws_eqIntSS.rdL a i (by omega)]
    refine Ev.bind (laws_eqIntS.ev_self _ (hr _ (List.getElem_mem _))) (ev_pos rfl ?_)
    exact ih (i + 1) (by omega)
theorem laws_eqIntSS.ev_self (a : List (List Int)) (hl : a.length < 4611686018427387904) (hr : ∀ x ∈ a, x.length < 4611686018427387904) : Ev (fun k => laws_eqIntSS.f k a a) true := by
  simp only [laws_eqIntSS.f]
  exact ev_pos (by first | rfl | trivial | omega) (laws_eqIntSS.evl a hl hr a.length 0 (by omega))

theorem laws_markIntS.evl (m : Int) (hm0 : 0 ≤ m) (hm : m ≤ 4611686018427387904) (n : Nat) (hn : n < 4611686018427387904) (d : Nat) : ∀ (i : Nat) (y : List Int), i + d = n → y.length = n → Ev (fun k => laws_markIntS.l0 k y (m + (i : Int)) (i : Int)) (m + (n : Int), y.take i ++ marks (m + (i : Int)) d) := by
  induction d with
  | zero =>
    intro i y hi hy
    refine Ev.step (fun k => laws_markIntS.l0.eq_2 ..) ?_
    refine ev_neg (by omega) ?_
    refine ev_val (Ev.now _) ?_
    rw [List.take_of_length_le (by omega), show (i : Int) = n by omega]
    simp [marks]
  | succ d ih =>
    intro i y hi hy
    refine Ev.step (fun k => laws_markIntS.l0.eq_2 ..) ?_
    refine ev_pos (by omega) (ev_pos (by omega) ?_)
    rw [wrap_nat i (by omega), Int.toNat_natCast, show wrap64 (m + (i : Int) + 1) = m + ((i + 1 : Nat) : Int) by unfold wrap64; omega]
    refine ev_val (ih (i + 1) (y.set i (m + (i : Int))) (by omega) (by simp; omega)) ?_
    rw [List.take_succ_eq_append_getElem (by simp; omega), List.take_set_of_le (Nat.le_refl i), List.getElem_set_self, List.append_assoc]
    simp only [marks, List.singleton_append, show m + ((i + 1 : Nat) : Int) = m + (i : Int) + 1 by omega]
theorem laws_markIntS.ev_at (y : List Int) (m : Int) (hm0 : 0 ≤ m) (hm : m ≤ 4611686018427387904) (hn : y.length < 4611686018427387904) : Ev (fun k => laws_markIntS.f k y m) (m + (y.length : Int), marks m y.length) := by
  simp only [laws_markIntS.f]
  have h := laws_markIntS.evl m hm0 hm y.length hn y.length 0 y (by omega) rfl
  simpa using h
theorem laws_markIntS.ev (y : List Int) (hn : y.length < 4611686018427387904) : Ev (fun k => laws_markIntS.f k y 1) (1 + (y.length : Int), marks 1 y.length) := laws_markIntS.ev_at y 1 (by omega) (by omega) hn

/-- how many numbers there are in all rows -/
def totLen : List (List Int) → Nat
  | [] => 0
  | x :: l => x.length + totLen l
/-- rows of as many numbers, counted on -/
def marksSS : Int → List (List Int) → List (List Int)
  | _, [] => []
  | m, x :: l => marks m x.length :: marksSS (m + (x.length : Int)) l
theorem marksSS_len : ∀ (l : List (List Int)) (m : Int), (marksSS m l).length = l.length
  | [], _ => rfl
  | x :: l, m => by simp only [marksSS, List.length_cons, marksSS_len l]
theorem totLen_le (b : Nat) : ∀ (l : List (List Int)), (∀ x ∈ l, x.length ≤ b) → totLen l ≤ b * l.length
  | [], _ => by simp [totLen]
  | x :: l, h => by
    have h1 := h x List.mem_cons_self
    have h2 := totLen_le b l (fun y hy => h y (List.mem_cons_of_mem _ hy))
    simp only [totLen, List.length_cons, Nat.mul_succ]
    omega
theorem laws_markIntSS.ev : ∀ (l : List (List Int)) (m : Int), 0 ≤ m → m + (totLen l : Int) ≤ 4611686018427387903 → Ev (fun k => laws_markIntSS.f k l m) (m + (totLen l : Int), marksSS m l)
  | [], m, h0, h => by
    simp only [laws_markIntSS.f]
    refine ev_val (Ev.now _) ?_
    simp [totLen, marksSS]
  | x :: l, m, h0, h => by
    simp only [totLen] at h
    simp only [laws_markIntSS.f]
    refine Ev.bind (laws_markIntS.ev_at x m h0 (by omega) (by omega)) (Ev.bind (laws_markIntSS.ev l (m + (x.length : Int)) (by omega) (by omega)) (ev_val (Ev.now _) ?_))
    simp only [totLen, marksSS]
    rw [show m + (x.length : Int) + (totLen l : Int) = m + ((x.length + totLen l : Nat) : Int) by omega]

theorem laws_heldIntS.evl (y : List Int) (hn : y.length < 4611686018427387904) (d : Nat) : ∀ (i : Nat), i + d = y.length → y.drop i = marks (1 + (i : Int)) d → Ev (fun k => laws_heldIntS.l0 k y (1 + (i : Int)) (i : Int)) (1 + (y.length : Int)) := by
  induction d with
  | zero =>
    intro i hi hy
    refine Ev.step (fun k => laws_heldIntS.l0.eq_2 ..) ?_
    refine ev_neg (by omega) ?_
    refine ev_val (Ev.now _) ?_
    omega
  | succ d ih =>
    intro i hi hy
    refine Ev.step (fun k => laws_heldIntS.l0.eq_2 ..) ?_
    rw [List.drop_eq_getElem_cons (by omega)] at hy
    simp only [marks, List.cons.injEq] at hy
    refine ev_pos (by omega) (ev_pos (by omega) ?_)
    rw [rd_nat y i (by omega)]
    refine ev_pos hy.1 ?_
    rw [wrap_nat i (by omega), show wrap64 (1 + (i : Int) + 1) = 1 + ((i + 1 : Nat) : Int) by unfold wrap64; omega]
    refine ih (i + 1) (by omega) ?_
    rw [hy.2, show 1 + ((i + 1 : Nat) : Int) = 1 + (i : Int) + 1 by omega]
theorem laws_heldIntS.ev (n : Nat) (hn : n < 4611686018427387904) : Ev (fun k => laws_heldIntS.f k (marks 1 n) 1) (1 + (n : Int)) := by
  simp only [laws_heldIntS.f]
  have h := laws_heldIntS.evl (marks 1 n) (by rw [marks_len]; exact hn) n 0 (by rw [marks_len]; omega) (by simp)
  rw [marks_len] at h
  simpa using h

theorem laws_heldIntS.evm (y : List Int) (hn : y.length < 4611686018427387904) (m : Int) (h0 : 0 ≤ m) (hm : m + (y.length : Int) ≤ 4611686018427387904) (d : Nat) : ∀ (i : Nat), i + d = y.length → y.drop i = marks (m + (i : Int)) d → Ev (fun k => laws_heldIntS.l0 k y (m + (i : Int)) (i : Int)) (m + (y.length : Int)) := by
  induction d with
  | zero =>
    intro i hi hy
    refine Ev.step (fun k => laws_heldIntS.l0.eq_2 ..) ?_
    refine ev_neg (by omega) ?_
    refine ev_val (Ev.now _) ?_
    omega
  | succ d ih =>
    intro i hi hy
    refine Ev.step (fun k => laws_heldIntS.l0.eq_2 ..) ?_
    rw [List.drop_eq_getElem_cons (by omega)] at hy
    simp only [marks, List.cons.injEq] at hy
    refine ev_pos (by omega) (ev_pos (by omega) ?_)
    rw [rd_nat y i (by omega)]
    refine ev_pos hy.1 ?_
    rw [wrap_nat i (by omega), show wrap64 (m + (i : Int) + 1) = m + ((i + 1 : Nat) : Int) by unfold wrap64; omega]
    refine ih (i + 1) (by omega) ?_
    rw [hy.2, show m + ((i + 1 : Nat) : Int) = m + (i : Int) + 1 by omega]
theorem laws_heldIntS.ev_at (n : Nat) (hn : n < 4611686018427387904) (m : Int) (h0 : 0 ≤ m) (hm : m + (n : Int) ≤ 4611686018427387904) : Ev (fun k => laws_heldIntS.f k (marks m n) m) (m + (n : Int)) := by
  simp only [laws_heldIntS.f]
  have h := laws_heldIntS.evm (marks m n) (by rw [marks_len]; exact hn) m h0 (by rw [marks_len]; exact hm) n 0 (by rw [marks_len]; omega) (by simp)
  rw [marks_len] at h
  simpa using h
theorem laws_heldIntSS.evl (y : List (List Int)) (hl : y.length < 4611686018427387904) : ∀ (zs : List (List Int)) (i : Nat) (m : Int), i + zs.length = y.length → y.drop i = marksSS m zs → 0 ≤ m → m + (totLen zs : Int) ≤ 4611686018427387903 → Ev (fun k => laws_heldIntSS.l0 k y m (i : Int)) (m + (totLen zs : Int))
  | [], i, m, hi, hy, h0, h => by
    simp only [List.length_nil] at hi
    refine Ev.step (fun k => laws_heldIntSS.l0.eq_2 ..) ?_
    refine ev_neg (by omega) (ev_val (Ev.now _) ?_)
    simp [totLen]
  | z :: zs, i, m, hi, hy, h0, h => by
    simp only [List.length_cons] at hi
    simp only [totLen] at h
    refine Ev.step (fun k => laws_heldIntSS.l0.eq_2 ..) ?_
    rw [List.drop_eq_getElem_cons (by omega)] at hy
    simp only [marksSS, List.cons.injEq] at hy
    refine ev_pos (by omega) (ev_pos (by omega) ?_)
    rw [laws_eqIntSS.rdL y i (by omega), hy.1, wrap_nat i (by omega)]
    refine Ev.bind (laws_heldIntS.ev_at z.length (by omega) m h0 (by omega)) (ev_neg (by omega) ?_)
    refine ev_val (laws_heldIntSS.evl y hl zs (i + 1) (m + (z.length : Int)) (by omega) hy.2 (by omega) (by omega)) ?_
    simp only [totLen]
    omega
theorem laws_heldIntSS.ev (l : List (List Int)) (m : Int) (h0 : 0 ≤ m) (h : m + (totLen l : Int) ≤ 4611686018427387903) (hl : l.length < 4611686018427387904) : Ev (fun k => laws_heldIntSS.f k (marksSS m l) m) (m + (totLen l : Int)) := by
  simp only [laws_heldIntSS.f]
  exact laws_heldIntSS.evl (marksSS m l) (by rw [marksSS_len]; exact hl) l 0 m (by rw [marksSS_len]; omega) rfl h0 h

end Go.Proofs.Ytjnchdccefdjmaa.QFnExactAllSorted
