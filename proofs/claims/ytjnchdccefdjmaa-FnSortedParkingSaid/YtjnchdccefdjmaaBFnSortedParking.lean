/- Proved here: what the Lean functions printed for the Go functions of law FnSortedParking compute, in words of lists and whole numbers, for lists shorter than 2^62. -/
import Derived.Test.YtjnchdccefdjmaaQFnSortedParkingx
import Derived.Test.YtjnchdccefdjmaaMSum
import Derived.Test.YtjnchdccefdjmaaMDrive
import Derived.Test.YtjnchdccefdjmaaMCrit
import Derived.Test.YtjnchdccefdjmaaMRank
import Derived.Test.YtjnchdccefdjmaaMWays
import Derived.Test.YtjnchdccefdjmaaMCircle
import Derived.Test.YtjnchdccefdjmaaMRing
import Derived.Test.YtjnchdccefdjmaaMLesser
import Derived.Test.YtjnchdccefdjmaaMSort
import Derived.Test.YtjnchdccefdjmaaMOrd
import Derived.Test.YtjnchdccefdjmaaMUnrank
import Derived.Test.YtjnchdccefdjmaaMOrder
namespace Go.Proofs.Ytjnchdccefdjmaa.QFnSortedParking
open Go.RowKit Go.Proofs.YtjnchdccefdjmaaW.PrintWords Go.Proofs.YtjnchdccefdjmaaW.PrintLast Go.Proofs.Ytjnchdccefdjmaa.Math
set_option linter.unusedVariables false
set_option linter.unusedSimpArgs false

theorem ev_pos {α : Type} {c : Prop} [Decidable c] {g f : Nat → Option α} {r : α} (h : c) (k : Ev g r) : Ev (fun n => if c then g n else f n) r := by
  obtain ⟨K, hK⟩ := k
  exact ⟨K, fun n hn => by simp only [if_pos h]; exact hK n hn⟩
theorem ev_neg {α : Type} {c : Prop} [Decidable c] {g f : Nat → Option α} {r : α} (h : ¬ c) (k : Ev f r) : Ev (fun n => if c then g n else f n) r := by
  obtain ⟨K, hK⟩ := k
  exact ⟨K, fun n hn => by simp only [if_neg h]; exact hK n hn⟩
theorem ev_eq {α : Type} {g : Option α} {r : α} (h : g = some r) : Ev (fun _ => g) r := ⟨0, fun _ _ => h⟩
theorem ev_val {α : Type} {g : Nat → Option α} {r q : α} (h : Ev g r) (e : r = q) : Ev g q := e ▸ h
theorem wrap_nat (i : Nat) (h : i < 4611686018427387904) : wrap64 ((i : Int) + 1) = ((i + 1 : Nat) : Int) := by
  unfold wrap64
  omega
theorem wrap_id (x : Int) (h : -9223372036854775808 ≤ x) (h' : x ≤ 9223372036854775807) : wrap64 x = x := by
  unfold wrap64
  omega
theorem rd_nat (l : List Int) (i : Nat) (h : i < l.length) : rd l (i : Int) = l[i] := by
  simp [rd, List.getD_eq_getElem?_getD, h]
theorem rd_int (l : List Int) (x : Int) (h0 : 0 ≤ x) (h : x < l.length) : rd l x = l[x.toNat]'(by omega) := by
  have e : x = ((x.toNat : Nat) : Int) := by omega
  have h2 : x.toNat < l.length := by omega
  rw [show rd l x = rd l ((x.toNat : Nat) : Int) by rw [← e]]
  exact rd_nat l x.toNat h2
/-- m, m + 1, .., n numbers -/
def marks : Int → Nat → List Int
  | _, 0 => []
  | m, n + 1 => m :: marks (m + 1) n
theorem marks_len : ∀ (n : Nat) (m : Int), (marks m n).length = n
  | 0, _ => rfl
  | n + 1, m => by simp [marks, marks_len n]
theorem take_set_succ (y l : List Int) (i : Nat) (hi : i < l.length) (hy : y.length = l.length) (h : y.take i = l.take i) : (y.set i l[i]).take (i + 1) = l.take (i + 1) := by
  rw [List.take_succ_eq_append_getElem (by simp; omega), List.take_succ_eq_append_getElem hi, List.take_set_of_le (Nat.le_refl i), h, List.getElem_set_self]
/-- all numbers lie from lo to hi -/
def inAll (lo hi : Int) (l : List Int) : Bool := l.all fun x => decide (lo ≤ x) && decide (x ≤ hi)
theorem inAll_iff (lo hi : Int) (l : List Int) : inAll lo hi l = true ↔ ∀ x ∈ l, lo ≤ x ∧ x ≤ hi := by
  simp [inAll]

theorem spec_l1In.is (x lo hi : Int) : spec_l1In.f x lo hi = some (decide (lo ≤ x) && decide (x ≤ hi)) := by
  unfold spec_l1In.f
  by_cases h : x ≥ lo
  · rw [if_pos h, decide_eq_true (show lo ≤ x from h), Bool.true_and]
  · rw [if_neg h, decide_eq_false (show ¬ lo ≤ x from h), Bool.false_and]

theorem spec_l1Own.is (l : List Int) (hl : l.length ≤ 1048576) : spec_l1Own.f l = some l := by
  simp only [spec_l1Own.f, Option.bind_some, List.length_nil, Nat.zero_add, List.nil_append]
  rw [if_pos (by omega)]

theorem spec_cnSorted.fin : ∀ n : Fin 7, spec_cnSorted.f 200 [] ((n.val : Nat) : Int) = some (tabS n.val) := by decide +kernel
theorem spec_cnSorted.ev (n : Nat) (h : n ≤ 6) : Ev (fun k => spec_cnSorted.f k [] (n : Int)) (tabS n) :=
  Ev.of (fun k => spec_cnSorted.mono _ _ k) (spec_cnSorted.fin ⟨n, by omega⟩)

def allSR (n : Int) : List (List Int) × Bool := if 0 ≤ n ∧ n ≤ 6 then (tabS n.toNat, true) else ([], false)

theorem spec_AllSorted.ev (n : Int) : Ev (fun k => spec_AllSorted.f k n) (allSR n) := by
  simp only [spec_AllSorted.f]
  refine Ev.bind (ev_eq (spec_l1In.is n 0 6)) ?_
  by_cases hn : 0 ≤ n ∧ n ≤ 6
  · rw [decide_eq_true hn.1, decide_eq_true hn.2]
    obtain ⟨m, rfl⟩ : ∃ m : Nat, n = (m : Int) := ⟨n.toNat, by omega⟩
    refine ev_pos rfl (Ev.bind (spec_cnSorted.ev m (by omega)) (ev_val (Ev.now _) ?_))
    unfold allSR
    rw [if_pos hn, Int.toNat_natCast]
  · refine ev_neg (by simp; omega) (ev_val (Ev.now _) ?_)
    unfold allSR
    rw [if_neg hn]

theorem impl_between.is (x lo hi : Int) : impl_between.f x lo hi = some (decide (lo ≤ x) && decide (x ≤ hi)) := by
  unfold impl_between.f
  by_cases h : x ≥ lo
  · rw [if_pos h, decide_eq_true (show lo ≤ x from h), Bool.true_and]
  · rw [if_neg h, decide_eq_false (show ¬ lo ≤ x from h), Bool.false_and]

theorem slices_Clone_int_int.is (l : List Int) (hl : l.length ≤ 1048576) : slices_Clone_int_int.f l = some l := by
  simp only [slices_Clone_int_int.f]
  rw [if_pos (by omega)]

theorem impl_allSorted.ev (n : Nat) (h : n ≤ 6) : Ev (fun k => impl_allSorted.f k (n : Int)) (tabS n) := ⟨0, fun k _ => by
  unfold impl_allSorted.f
  rw [if_pos ⟨by omega, by omega⟩, Int.toNat_natCast]⟩

theorem impl_AllSorted.ev (n : Int) : Ev (fun k => impl_AllSorted.f k n) (allSR n) := by
  simp only [impl_AllSorted.f]
  refine Ev.bind (ev_eq (impl_between.is n 0 6)) ?_
  by_cases hn : 0 ≤ n ∧ n ≤ 6
  · rw [decide_eq_true hn.1, decide_eq_true hn.2]
    obtain ⟨m, rfl⟩ : ∃ m : Nat, n = (m : Int) := ⟨n.toNat, by omega⟩
    refine ev_pos rfl (Ev.bind (impl_allSorted.ev m (by omega)) (ev_val (Ev.now _) ?_))
    unfold allSR
    rw [if_pos hn, Int.toNat_natCast]
  · refine ev_neg (by simp; omega) (ev_val (Ev.now _) ?_)
    unfold allSR
    rw [if_neg hn]

theorem laws_big.is (a b : List Int) : laws_big.f a b = some true ∨ (laws_big.f a b = some false ∧ a.length + b.length ≤ 1048576) := by
  unfold laws_big.f
  by_cases c : (a.length : Int) > 1048576
  · rw [if_pos c]
    exact .inl rfl
  · rw [if_neg c, wrap_id _ (by omega) (by omega)]
    by_cases d : (b.length : Int) > 1048576 - (a.length : Int)
    · rw [decide_eq_true d]
      exact .inl rfl
    · rw [decide_eq_false d]
      exact .inr ⟨rfl, by omega⟩

theorem and255 (x : Int) : 0 ≤ Go.bits .and .u64 x 255 ∧ Go.bits .and .u64 x 255 ≤ 255 := by
  have h : (BitVec.ofInt 64 x &&& BitVec.ofInt 64 255).toNat ≤ 255 := by
    rw [BitVec.toNat_and]
    exact Nat.and_le_right
  have e : Go.bits .and .u64 x 255 = IntKind.u64.wrap (((BitVec.ofInt 64 x &&& BitVec.ofInt 64 255).toNat : Nat) : Int) := rfl
  rw [e]
  generalize (BitVec.ofInt 64 x &&& BitVec.ofInt 64 255).toNat = m at h
  have w : IntKind.u64.wrap (m : Int) = (m : Int) := by
    simp only [IntKind.wrap, IntKind.bits, IntKind.signed, Bool.false_and, Bool.false_eq_true, if_false]
    omega
  rw [w]
  omega
/-- all are bytes, and not too many -/
def bytesOk (l : List Int) : Prop := (∀ x ∈ l, 0 ≤ x ∧ x ≤ 255) ∧ l.length ≤ 1048576

theorem spec_l1Cur_next.ok (l : List Int) (hb : bytesOk l) (p h : Int) (h0 : 0 ≤ p) (h1 : p ≤ 1099511627776) : ∃ b q g, spec_l1Cur_next.f l p h = some (b, q, g) ∧ 0 ≤ b ∧ b ≤ 255 ∧ p ≤ q ∧ q ≤ p + 1 := by
  have hl := hb.2
  unfold spec_l1Cur_next.f
  rw [wrap_id (p + 1) (by omega) (by omega)]
  by_cases c : p < (l.length : Int)
  · have hx := hb.1 (l[p.toNat]'(by omega)) (List.getElem_mem _)
    rw [if_pos c, if_pos h0, if_pos (by omega), rd_int l p h0 c, wrap_id _ (by omega) (by omega)]
    exact ⟨_, _, _, rfl, hx.1, hx.2, by omega, by omega⟩
  · rw [if_neg c, if_neg (by omega)]
    refine ⟨_, _, _, rfl, ?_, ?_, by omega, by omega⟩
    · have := and255 ((IntKind.u64.wrap ((IntKind.u64.wrap ((IntKind.u64.wrap (h * 6364136223846793005)) + 0)) + 1442695040888963407)) / 1099511627776)
      rw [wrap_id _ (by omega) (by omega)]
      exact this.1
    · have := and255 ((IntKind.u64.wrap ((IntKind.u64.wrap ((IntKind.u64.wrap (h * 6364136223846793005)) + 0)) + 1442695040888963407)) / 1099511627776)
      rw [wrap_id _ (by omega) (by omega)]
      exact this.2

theorem spec_l1Cur_pick.ok (l : List Int) (hb : bytesOk l) (p h n : Int) (h0 : 0 ≤ p) (h1 : p ≤ 1099511627000) (hn : n ≤ 1048576) : ∃ b q g, spec_l1Cur_pick.f l p h n = some (b, q, g) ∧ 0 ≤ b ∧ (b < n ∨ (n ≤ 1 ∧ b = 0)) ∧ p ≤ q ∧ q ≤ p + 2 := by
  unfold spec_l1Cur_pick.f
  by_cases c : n ≤ 1
  · rw [if_pos c]
    exact ⟨_, _, _, rfl, by omega, .inr ⟨c, rfl⟩, by omega, by omega⟩
  · rw [if_neg c]
    obtain ⟨b, q, g, e, b0, b1, q0, q1⟩ := spec_l1Cur_next.ok l hb p h h0 (by omega)
    rw [e, Option.bind_some]
    by_cases c2 : n > 200
    · rw [if_pos c2]
      obtain ⟨b2, q2, g2, e2, b20, b21, q20, q21⟩ := spec_l1Cur_next.ok l hb q g (by omega) (by omega)
      dsimp only
      rw [e2, Option.bind_some, if_neg (by omega)]
      rw [wrap_id (b * 256) (by omega) (by omega), wrap_id _ (by omega) (by omega)]
      exact ⟨_, _, _, rfl, Int.tmod_nonneg _ (by omega), .inl (Int.tmod_lt_of_pos _ (by omega)), by dsimp only; omega, by dsimp only; omega⟩
    · rw [if_neg c2, if_neg (by omega)]
      exact ⟨_, _, _, rfl, Int.tmod_nonneg _ b0, .inl (Int.tmod_lt_of_pos _ (by omega)), by dsimp only; omega, by dsimp only; omega⟩

theorem spec_l1Cur_among.ok (l : List Int) (hb : bytesOk l) (p h : Int) (m : List Int) (h0 : 0 ≤ p) (h1 : p ≤ 1099511627000) (hm : 0 < m.length) (hm2 : m.length ≤ 1000) : ∃ b q g, spec_l1Cur_among.f l p h m = some (b, q, g) ∧ b ∈ m ∧ p ≤ q ∧ q ≤ p + 2 := by
  unfold spec_l1Cur_among.f
  obtain ⟨b, q, g, e, b0, b1, q0, q1⟩ := spec_l1Cur_pick.ok l hb p h (m.length : Int) h0 h1 (by omega)
  rw [e, Option.bind_some, if_pos b0, if_pos (by omega)]
  refine ⟨_, _, _, rfl, ?_, q0, q1⟩
  rw [rd_int m b b0 (by omega)]
  exact List.getElem_mem _

theorem spec_DrawAllSorted.ok (l : List Int) (hb : bytesOk l) : ∃ n, spec_DrawAllSorted.f l = some n ∧ -1 ≤ n ∧ n ≤ 7 := by
  unfold spec_DrawAllSorted.f
  obtain ⟨r, qr, gr, er, hr, _, _⟩ := spec_l1Cur_among.ok l hb 0 0 [0, 1, 2, 3, 4, 5, 6, 7, -1] (by omega) (by omega) (by simp) (by simp)
  simp only [List.mem_cons, List.not_mem_nil, or_false] at hr
  rw [er, Option.bind_some]
  exact ⟨_, rfl, by dsimp only; omega, by dsimp only; omega⟩

theorem impl_isCars.is (n : Int) : impl_isCars.f n = some (decide (0 ≤ n) && decide (n ≤ 8)) := by
  simp only [impl_isCars.f, impl_between.is, Option.bind_some]

theorem impl_choose.fin : ∀ a m : Fin 9, m.val ≤ a.val → impl_choose.f 20 ((a.val : Nat) : Int) ((m.val : Nat) : Int) = some ((ch a.val m.val : Nat) : Int) := by decide +kernel
theorem impl_choose.ev (a m : Nat) (ha : a ≤ 8) (hm : m ≤ a) : Ev (fun k => impl_choose.f k (a : Int) (m : Int)) ((ch a m : Nat) : Int) :=
  Ev.of (fun k => impl_choose.mono _ _ k) (impl_choose.fin ⟨a, by omega⟩ ⟨m, by omega⟩ hm)

/-- how many ways to choose n of 2 n -/
def chD (n : Nat) : Int := (impl_choose.f 20 (wrap64 (2 * (n : Int))) (n : Int)).getD 0
def catR (n : Int) : Int × Bool := if 0 ≤ n ∧ n ≤ 8 then (wrap64 (Int.tdiv (chD n.toNat) (wrap64 (n + 1))), true) else (0, false)
theorem cat_fin : ∀ n : Fin 9, impl_choose.f 20 (wrap64 (2 * ((n.val : Nat) : Int))) ((n.val : Nat) : Int) = some (chD n.val) ∧ spec_cnChoose.f 20 (wrap64 (2 * ((n.val : Nat) : Int))) ((n.val : Nat) : Int) = some (chD n.val) := by decide +kernel

theorem impl_CountSorted.ev (n : Int) : Ev (fun k => impl_CountSorted.f k n) (catR n) := by
  simp only [impl_CountSorted.f]
  refine Ev.bind (ev_eq (impl_isCars.is n)) ?_
  by_cases hn : 0 ≤ n ∧ n ≤ 8
  · rw [decide_eq_true hn.1, decide_eq_true hn.2]
    obtain ⟨m, rfl⟩ : ∃ m : Nat, n = (m : Int) := ⟨n.toNat, by omega⟩
    have w1 := wrap_nat m (by omega)
    refine ev_pos rfl (Ev.bind (Ev.of (fun k => impl_choose.mono _ _ k) (cat_fin ⟨m, by omega⟩).1) (ev_neg (by rw [w1]; omega) (ev_val (Ev.now _) ?_)))
    unfold catR
    rw [if_pos hn, Int.toNat_natCast]
  · refine ev_neg (by simp; omega) (ev_val (Ev.now _) ?_)
    unfold catR
    rw [if_neg hn]

theorem spec_cnCars.is (n : Int) : spec_cnCars.f n = some (decide (0 ≤ n) && decide (n ≤ 8)) := by
  simp only [spec_cnCars.f, spec_l1In.is, Option.bind_some]

theorem spec_cnChoose.fin : ∀ a m : Fin 9, m.val ≤ a.val → spec_cnChoose.f 20 ((a.val : Nat) : Int) ((m.val : Nat) : Int) = some ((ch a.val m.val : Nat) : Int) := by decide +kernel
theorem spec_cnChoose.ev (a m : Nat) (ha : a ≤ 8) (hm : m ≤ a) : Ev (fun k => spec_cnChoose.f k (a : Int) (m : Int)) ((ch a m : Nat) : Int) :=
  Ev.of (fun k => spec_cnChoose.mono _ _ k) (spec_cnChoose.fin ⟨a, by omega⟩ ⟨m, by omega⟩ hm)

theorem spec_CountSorted.ev (n : Int) : Ev (fun k => spec_CountSorted.f k n) (catR n) := by
  simp only [spec_CountSorted.f, spec_cnCars.f, spec_l1In.is, Option.bind_some]
  by_cases hn : 0 ≤ n ∧ n ≤ 8
  · rw [decide_eq_true hn.1, decide_eq_true hn.2]
    obtain ⟨m, rfl⟩ : ∃ m : Nat, n = (m : Int) := ⟨n.toNat, by omega⟩
    have w1 := wrap_nat m (by omega)
    refine ev_pos rfl (Ev.bind (Ev.of (fun k => spec_cnChoose.mono _ _ k) (cat_fin ⟨m, by omega⟩).2) (ev_neg (by rw [w1]; omega) (ev_val (Ev.now _) ?_)))
    unfold catR
    rw [if_pos hn, Int.toNat_natCast]
  · refine ev_neg (by simp; omega) (ev_val (Ev.now _) ?_)
    unfold catR
    rw [if_neg hn]

theorem laws_jSame.evl (a b : List Int) (hl : a.length ≤ 1048576) (h : a.length = b.length) (d : Nat) : ∀ (i : Nat), i + d = a.length → Ev (fun k => laws_jSame.l0 k a b (a.length : Int) (i : Int)) (decide (a.drop i = b.drop i)) := by
  induction d with
  | zero =>
    intro i hi
    refine Ev.step (fun k => laws_jSame.l0.eq_2 ..) ?_
    refine ev_neg (by omega) (ev_val (Ev.now _) ?_)
    rw [List.drop_of_length_le (by omega), List.drop_of_length_le (by omega)]
    rfl
  | succ d ih =>
    intro i hi
    refine Ev.step (fun k => laws_jSame.l0.eq_2 ..) ?_
    refine ev_pos (by omega) (ev_pos (by omega) (ev_pos (by omega) (ev_pos (by omega) ?_)))
    rw [rd_nat a i (by omega), rd_nat b i (by omega), List.drop_eq_getElem_cons (l := a) (by omega), List.drop_eq_getElem_cons (l := b) (by omega)]
    by_cases e : a[i]'(by omega) = b[i]'(by omega)
    · refine ev_pos e ?_
      rw [wrap_nat i (by omega)]
      refine ev_val (ih (i + 1) (by omega)) ?_
      simp only [List.cons.injEq, e, true_and]
    · refine ev_neg e (ev_val (Ev.now _) ?_)
      simp only [List.cons.injEq, e, false_and, decide_false]
theorem laws_jSame.ev (a b : List Int) (hl : a.length ≤ 1048576) : Ev (fun k => laws_jSame.f k a b) (decide (a = b)) := by
  simp only [laws_jSame.f]
  by_cases h : a.length = b.length
  · refine ev_pos (by omega) ?_
    exact laws_jSame.evl a b hl h a.length 0 (by omega)
  · refine ev_neg (by omega) (ev_val (Ev.now _) ?_)
    rw [decide_eq_false (fun e => h (by rw [e]))]
theorem laws_jSame.ev_self (a : List Int) (hl : a.length ≤ 1048576) : Ev (fun k => laws_jSame.f k a a) true := ev_val (laws_jSame.ev a a hl) (by simp)

theorem laws_jRows.rdL (E : List (List Int)) (i : Nat) (h : i < E.length) : rd_L1 E (i : Int) = E[i] := by
  simp [rd_L1, List.getD_eq_getElem?_getD, h]
theorem laws_jRows.evl (a : List (List Int)) (hl : a.length < 4611686018427387904) (hr : ∀ x ∈ a, x.length ≤ 1048576) (d : Nat) : ∀ (i : Nat), i + d = a.length → Ev (fun k => laws_jRows.l0 k a a (a.length : Int) (i : Int)) true := by
  induction d with
  | zero =>
    intro i hi
    refine Ev.step (fun k => laws_jRows.l0.eq_2 ..) ?_
    exact ev_neg (by omega) (Ev.now _)
  | succ d ih =>
    intro i hi
    refine Ev.step (fun k => laws_jRows.l0.eq_2 ..) ?_
    refine ev_pos (by omega) (ev_pos (by omega) (ev_pos (by omega) (ev_pos (by omega) ?_)))
    rw [wrap_nat i (by omega), laws_jRows.rdL a i (by omega)]
    refine Ev.bind (laws_jSame.ev_self _ (hr _ (List.getElem_mem _))) (ev_pos rfl ?_)
    exact ih (i + 1) (by omega)
theorem laws_jRows.ev_self (a : List (List Int)) (hl : a.length < 4611686018427387904) (hr : ∀ x ∈ a, x.length ≤ 1048576) : Ev (fun k => laws_jRows.f k a a) true := by
  simp only [laws_jRows.f]
  exact ev_pos (by first | rfl | trivial | omega) (laws_jRows.evl a hl hr a.length 0 (by omega))

theorem impl_areBetween.is (l : List Int) (lo hi : Int) (hl : l.length ≤ 35184372088832) : impl_areBetween.f l lo hi = some (inAll lo hi l) := by
  unfold impl_areBetween.f
  rw [if_pos hl]
  congr 1
  unfold inAll out_b
  induction l with
  | nil => rfl
  | cons x l ih =>
    rw [List.any_cons, List.all_cons, ← ih (by simp at hl; omega)]
    cases (decide (lo ≤ x) && decide (x ≤ hi)) <;> simp

theorem impl_areCars.is (l : List Int) (hl : l.length ≤ 35184372088832) : impl_areCars.f l = some (decide (l.length ≤ 8) && inAll 0 99 l) := by
  unfold impl_areCars.f
  by_cases h8 : l.length ≤ 8
  · rw [decide_eq_true h8, if_pos (by omega), impl_areBetween.is l 0 99 hl]
    rfl
  · rw [decide_eq_false h8, if_neg (by omega)]
    rfl

def drvR (o : Option (List Int)) : List Int × Bool := match o with
  | some r => (r, true)
  | none => ([], false)
theorem drvR_snd (l : List Int) (p : Int) : (drvR (drv p [] l)).2 = allPark l p := by
  unfold drvR allPark
  cases drv p [] l <;> rfl

/-- the table t tells which places are in out -/
def Tk (p : Int) (out : List Int) (t : List Bool) : Prop := t.length = p.toNat ∧ ∀ j : Int, 0 ≤ j → j < p → (rdOf false t j = true ↔ j ∈ out)
theorem Tk_set (p : Int) (out : List Int) (t : List Bool) (h : Tk p out t) (x : Int) (h0 : 0 ≤ x) (h1 : x < p) : Tk p (out ++ [x]) (t.set x.toNat true) := by
  refine ⟨by rw [List.length_set]; exact h.1, fun j j0 j1 => ?_⟩
  have hl := h.1
  have hj := h.2 j j0 j1
  unfold rdOf at hj ⊢
  rw [List.getD_eq_getElem?_getD] at hj ⊢
  rw [List.getElem?_set]
  by_cases e : x.toNat = j.toNat
  · have e' : j = x := by omega
    subst e'
    rw [if_pos rfl, if_pos (by omega)]
    simp
  · rw [if_neg e]
    rw [hj]
    have e' : ¬ j = x := by omega
    simp [e']

theorem impl_drive.evl (p : Int) (hp : p ≤ 1048576) (l : List Int) (hl : l.length ≤ 1048576) (hx : ∀ x ∈ l, 0 ≤ x ∧ x ≤ 1048576) (d : Nat) : ∀ (i : Nat) (out : List Int) (t : List Bool), i + d = l.length → out.length = i → Tk p out t → Ev (fun k => impl_drive.l0 k p t out l (l.length : Int) (i : Int)) (drvR (drv p out (l.drop i))) := by
  induction d with
  | zero =>
    intro i out t hi ho ht
    refine Ev.step (fun k => impl_drive.l0.eq_2 ..) ?_
    refine ev_neg (by omega) ?_
    refine ev_val (Ev.now _) ?_
    rw [List.drop_of_length_le (by omega)]
    rfl
  | succ d ih =>
    intro i out t hi ho ht
    refine Ev.step (fun k => impl_drive.l0.eq_2 ..) ?_
    refine ev_pos (by omega) (ev_pos (by omega) (ev_pos (by omega) ?_))
    rw [rd_nat l i (by omega), List.drop_eq_getElem_cons (by omega)]
    have hxi := hx l[i] (List.getElem_mem _)
    have inner : ∀ (m : Nat) (x : Int), (p - x).toNat = m → 0 ≤ x → x ≤ 1048576 → Ev (fun k => impl_drive.l1 k p t out x l (l.length : Int) (i : Int)) (drvR (drv p out (x :: l.drop (i + 1)))) := by
      intro m
      induction m with
      | zero =>
        intro x hm hx0 hx1
        refine Ev.step (fun k => impl_drive.l1.eq_2 ..) ?_
        refine ev_neg (by omega) (ev_pos (by omega) ?_)
        refine ev_val (Ev.now _) ?_
        simp only [drv]
        rw [land_stop out p x (by omega), if_neg (by omega)]
        rfl
      | succ m ihm =>
        intro x hm hx0 hx1
        have hlen := ht.1
        refine Ev.step (fun k => impl_drive.l1.eq_2 ..) ?_
        refine ev_pos (by omega) (ev_pos (by omega) (ev_pos (by omega) ?_))
        by_cases hh : x ∈ out
        · refine ev_pos ((ht.2 x hx0 (by omega)).mpr hh) ?_
          rw [wrap_id (x + 1) (by omega) (by omega)]
          refine ev_val (ihm (x + 1) (by omega) (by omega) (by omega)) ?_
          simp only [drv]
          rw [land_go out p x (by omega) hh]
        · refine ev_neg (fun h => hh ((ht.2 x hx0 (by omega)).mp h)) (ev_neg (by omega) (ev_pos (by omega) ?_))
          rw [wrap_nat i (by omega)]
          refine ev_val (ih (i + 1) _ _ (by omega) (by simp; omega) (Tk_set p out t ht x hx0 (by omega))) ?_
          simp only [drv]
          rw [land_stop out p x (fun h => hh h.2), if_pos (by omega)]
    exact inner _ l[i] rfl hxi.1 hxi.2
theorem impl_drive.ev (l : List Int) (p : Int) (hp0 : 0 ≤ p) (hp : p ≤ 1048576) (hl : l.length ≤ 1048576) (hx : ∀ x ∈ l, 0 ≤ x ∧ x ≤ 1048576) : Ev (fun k => impl_drive.f k l p) (drvR (drv p [] l)) := by
  simp only [impl_drive.f]
  refine ev_pos hp0 (ev_pos (by omega) ?_)
  refine impl_drive.evl p hp l hl hx l.length 0 [] _ (by omega) rfl ⟨by simp, fun j j0 j1 => ?_⟩
  unfold rdOf
  rw [List.getD_eq_getElem?_getD, List.getElem?_replicate]
  split <;> simp

theorem isPk_of_cars (l : List Int) (h8 : l.length ≤ 8) (h0 : ∀ x ∈ l, 0 ≤ x) : isPk l = allPark l l.length := by
  cases e : allPark l l.length with
  | false => simp [isPk, e]
  | true =>
    unfold allPark at e
    obtain ⟨r, hr⟩ := Option.isSome_iff_exists.mp e
    have h := drv_lt l.length l [] r hr
    have e' : allPark l l.length = true := by unfold allPark; exact e
    simp only [isPk, e', Bool.and_true, Bool.and_eq_true, decide_eq_true_eq, List.all_eq_true]
    exact ⟨h8, fun x hx => ⟨h0 x hx, by have := h x hx; omega⟩⟩
theorem isPk_no_cars (l : List Int) (h : ¬ (decide (l.length ≤ 8) && inAll 0 99 l) = true) : isPk l = false := by
  cases e : isPk l with
  | false => rfl
  | true =>
    exfalso
    apply h
    simp only [isPk, Bool.and_eq_true, decide_eq_true_eq, List.all_eq_true] at e
    rw [Bool.and_eq_true, decide_eq_true_eq, inAll_iff]
    exact ⟨e.1.1, fun x hx => by have := e.1.2 x hx; omega⟩

theorem impl_isParking.ev (l : List Int) (hl : l.length ≤ 1048576) : Ev (fun k => impl_isParking.f k l) (isPk l) := by
  simp only [impl_isParking.f]
  refine Ev.bind (ev_eq (impl_areCars.is l (by omega))) ?_
  cases e : (decide (l.length ≤ 8) && inAll 0 99 l) with
  | true =>
    rw [Bool.and_eq_true, decide_eq_true_eq, inAll_iff] at e
    refine ev_pos rfl (Ev.bind (impl_drive.ev l _ (by omega) (by omega) hl (fun x hx => by have := e.2 x hx; omega)) ?_)
    refine ev_val (Ev.now _) ?_
    rw [drvR_snd]
    exact (isPk_of_cars l e.1 (fun x hx => (e.2 x hx).1)).symm
  | false =>
    refine ev_neg (by decide) (ev_val (Ev.now _) ?_)
    exact (isPk_no_cars l (by rw [e]; decide)).symm

theorem impl_sorted.is (l : List Int) (hl : l.length ≤ 1048576) : impl_sorted.f l = some (Srt.srt l) := by
  unfold impl_sorted.f
  rw [if_pos hl]

theorem srt_perm (l : List Int) : (Srt.srt l).Perm l := List.mergeSort_perm _ _
theorem srt_up (l : List Int) : up2 (Srt.srt l) := by
  rw [up2_pairwise]
  have h := List.pairwise_mergeSort (le := fun x y : Int => decide (x ≤ y)) (fun a b c h1 h2 => by
    simp only [decide_eq_true_eq] at h1 h2 ⊢
    omega) (fun a b => by
    simp only [Bool.or_eq_true, decide_eq_true_eq]
    omega) l
  exact h.imp (fun h => by simpa using h)
theorem srt_eq (l s : List Int) (hp : s.Perm l) (hs : up2 s) : s = Srt.srt l := up2_eq s (Srt.srt l) hs (srt_up l) (hp.trans (srt_perm l).symm)
theorem ins_up (s : List Int) (j : Nat) (x : Int) (hs : up2 s) (h1 : ∀ y ∈ s.take j, y ≤ x) (h2 : ∀ y ∈ s.drop j, x ≤ y) : up2 ((s.take j ++ [x]) ++ s.drop j) := by
  rw [up2_pairwise] at hs ⊢
  have hs' : (s.take j ++ s.drop j).Pairwise (fun a b => a ≤ b) := by rw [List.take_append_drop]; exact hs
  rw [List.pairwise_append] at hs'
  obtain ⟨a, b, c⟩ := hs'
  rw [List.pairwise_append, List.pairwise_append]
  refine ⟨⟨a, by simp, fun y hy z hz => ?_⟩, b, fun y hy z hz => ?_⟩
  · simp only [List.mem_singleton] at hz
    rw [hz]
    exact h1 y hy
  · rcases List.mem_append.mp hy with hy | hy
    · exact c y hy z hz
    · simp only [List.mem_singleton] at hy
      rw [hy]
      exact h2 z hz
theorem ins_perm (s : List Int) (j : Nat) (x : Int) : ((s.take j ++ [x]) ++ s.drop j).Perm (s ++ [x]) := by
  have e : s ++ [x] = (s.take j ++ s.drop j) ++ [x] := by rw [List.take_append_drop]
  rw [e, List.append_assoc, List.append_assoc]
  exact List.Perm.append_left _ List.perm_append_comm

theorem compact_rise (s : List Int) (hs : up2 s) : (Lib.compact s).Pairwise (fun x y => x < y) := by
  unfold Lib.compact Lib.compactUpTo
  rw [List.pairwise_map]
  have h := (List.pairwise_lt_range (n := s.length)).filter (Lib.keeps s.toArray)
  refine h.imp_of_mem (fun {a b} ha hb hab => ?_)
  rw [List.mem_filter, List.mem_range] at ha hb
  have hk : s.toArray[b]! ≠ s.toArray[b - 1]! := by
    have := hb.2
    unfold Lib.keeps at this
    rw [decide_eq_true_eq] at this
    rcases this with h | h
    · omega
    · exact h
  have e : ∀ i (h : i < s.length), s.toArray[i]! = s[i] := fun i h => by simp [h]
  rw [e b hb.1, e (b - 1) (by omega)] at hk
  rw [e a ha.1, e b hb.1]
  have h1 := up2_get s hs a (b - 1) ha.1 (by omega) (by omega)
  have h2 := up2_get s hs (b - 1) b (by omega) hb.1 (by omega)
  omega
theorem compact_mem (s : List Int) (x : Int) : x ∈ Lib.compact s ↔ x ∈ s := by
  have e : ∀ i (h : i < s.length), s.toArray[i]! = s[i] := fun i h => by simp [h]
  unfold Lib.compact Lib.compactUpTo
  rw [List.mem_map]
  constructor
  · rintro ⟨i, hi, rfl⟩
    rw [List.mem_filter, List.mem_range] at hi
    rw [e i hi.1]
    exact List.getElem_mem _
  · intro hx
    obtain ⟨i, hi, rfl⟩ := List.getElem_of_mem hx
    have key : ∀ (j : Nat) (hj : j < s.length), ∃ a, a ∈ (List.range s.length).filter (Lib.keeps s.toArray) ∧ s.toArray[a]! = s[j] := by
      intro j
      induction j with
      | zero =>
        intro hj
        refine ⟨0, ?_, e 0 hj⟩
        rw [List.mem_filter, List.mem_range]
        exact ⟨hj, by unfold Lib.keeps; simp⟩
      | succ j ih =>
        intro hj
        by_cases c : s[j + 1] = s[j]'(by omega)
        · obtain ⟨a, h1, h2⟩ := ih (by omega)
          exact ⟨a, h1, by rw [h2, c]⟩
        · refine ⟨j + 1, ?_, e (j + 1) hj⟩
          rw [List.mem_filter, List.mem_range]
          refine ⟨hj, ?_⟩
          unfold Lib.keeps
          rw [decide_eq_true_eq]
          right
          rw [e (j + 1) hj, Nat.add_sub_cancel, e j (by omega)]
          exact c
    exact key i hi
theorem compact_vals (l : List Int) (hx : ∀ x ∈ l, 0 ≤ x ∧ x < 8) : Lib.compact (Srt.srt l) = valsFrom l 0 8 := by
  refine rise_eq _ _ (compact_rise _ (srt_up l)) (valsFrom_lt l 8 0) (fun x => ?_)
  rw [compact_mem, (srt_perm l).mem_iff, valsFrom_mem]
  constructor
  · intro h
    have := hx x h
    exact ⟨by omega, by omega, h⟩
  · exact fun h => h.2.2
/-- what CountOrders hands back -/
def ordersR (l : List Int) : Int × Bool := if isPk l = true then ((ordD l : Nat), true) else (0, false)
theorem pk_below8 (l : List Int) (h : isPk l = true) : l.length ≤ 8 ∧ ∀ x ∈ l, 0 ≤ x ∧ x < 8 := by
  obtain ⟨h8, hx, _⟩ := (isPk_parts l).mp h
  exact ⟨h8, fun x h => by have := hx x h; omega⟩

theorem impl_countOrders.evl (l : List Int) (h8 : l.length ≤ 8) (hx : ∀ x ∈ l, 0 ≤ x ∧ x < 8) : ∀ (d a : Nat), a + d = 8 → Ev (fun k => ordLoop k l (valsFrom l a d) ((waysTo (cv l) l.length a : Nat) : Int) ((l.length - sumTo (cv l) a : Nat) : Int)) ((ordD l : Nat) : Int)
  | 0, a, hd => by
    obtain rfl : a = 8 := by omega
    simp only [valsFrom, ordLoop]
    exact Ev.now _
  | d + 1, a, hd => by
    have hs := sum_cv 8 l (fun x h => by have := hx x h; omega)
    have hmono : ∀ (n m : Nat), n ≤ m → sumTo (cv l) n ≤ sumTo (cv l) m := fun n m h => by
      induction m with
      | zero => rw [show n = 0 by omega]; exact Nat.le_refl _
      | succ m ih =>
        by_cases e : n = m + 1
        · rw [e]; exact Nat.le_refl _
        · have := ih (by omega)
          simp only [sumTo]
          omega
    have h1 := hmono (a + 1) 8 (by omega)
    have h2 : sumTo (cv l) (a + 1) = sumTo (cv l) a + cv l a := rfl
    have hw : waysTo (cv l) l.length (a + 1) = waysTo (cv l) l.length a * ch (l.length - sumTo (cv l) a) (cv l a) := rfl
    have ih := impl_countOrders.evl l h8 hx d (a + 1) (by omega)
    have hb := waysTo_le (cv l) l.length h8 (a + 1) (by omega)
    simp only [valsFrom]
    by_cases c : 0 < cv l a
    · rw [if_pos c]
      simp only [ordLoop]
      have e : ((l.countP fun x => x == ((a : Nat) : Int) : Nat)) = cv l a := rfl
      rw [e]
      refine Ev.bind (impl_choose.ev (l.length - sumTo (cv l) a) (cv l a) (by omega) (by omega)) ?_
      rw [wrap_id (((waysTo (cv l) l.length a : Nat) : Int) * ((ch (l.length - sumTo (cv l) a) (cv l a) : Nat) : Int)) (by rw [← Int.natCast_mul]; omega) (by rw [← Int.natCast_mul, ← hw]; omega), ← Int.natCast_mul, ← hw]
      rw [wrap_id (((l.length - sumTo (cv l) a : Nat) : Int) - ((cv l a : Nat) : Int)) (by omega) (by omega), show ((l.length - sumTo (cv l) a : Nat) : Int) - ((cv l a : Nat) : Int) = ((l.length - sumTo (cv l) (a + 1) : Nat) : Int) by omega]
      exact ih
    · rw [if_neg c]
      have e0 : cv l a = 0 := by omega
      rw [hw, e0, ch_zero, Nat.mul_one, h2, e0, Nat.add_zero] at ih
      exact ih
theorem impl_countOrders.ev (l : List Int) (h8 : l.length ≤ 8) (hx : ∀ x ∈ l, 0 ≤ x ∧ x < 8) : Ev (fun k => impl_countOrders.f k l) ((ordD l : Nat) : Int) := by
  simp only [impl_countOrders.f]
  refine ev_pos (by omega) ?_
  rw [compact_vals l hx]
  have h := impl_countOrders.evl l h8 hx 8 0 rfl
  exact h

theorem impl_CountOrders.ev (l : List Int) (hl : l.length ≤ 1048576) : Ev (fun k => impl_CountOrders.f k l) (ordersR l) := by
  simp only [impl_CountOrders.f]
  unfold ordersR
  refine Ev.bind (impl_isParking.ev l hl) ?_
  by_cases e : isPk l = true
  · obtain ⟨h8, hx⟩ := pk_below8 l e
    rw [if_pos e]
    exact ev_pos e (Ev.bind (impl_countOrders.ev l h8 hx) (Ev.now _))
  · rw [if_neg e]
    exact ev_neg e (Ev.now _)

theorem impl_IsParking.ev (l : List Int) (hl : l.length ≤ 1048576) : Ev (fun k => impl_IsParking.f k l) (if (decide (l.length ≤ 8) && inAll 0 99 l) = true then (isPk l, true) else (false, false)) := by
  simp only [impl_IsParking.f]
  refine Ev.bind (ev_eq (impl_areCars.is l (by omega))) ?_
  cases (decide (l.length ≤ 8) && inAll 0 99 l) with
  | true => exact ev_pos rfl (Ev.bind (impl_isParking.ev l hl) (Ev.now _))
  | false => exact ev_neg (by decide) (Ev.now _)

theorem laws_jLess.evl (a b : List Int) (hl : a.length ≤ 1048576) (h : a.length = b.length) (d : Nat) : ∀ (i : Nat), i + d = a.length → lexLt (a.drop i) (b.drop i) → Ev (fun k => laws_jLess.l0 k a b (a.length : Int) (i : Int)) true := by
  induction d with
  | zero =>
    intro i hi hx
    rw [List.drop_of_length_le (by omega)] at hx
    exact hx.elim
  | succ d ih =>
    intro i hi hx
    rw [List.drop_eq_getElem_cons (l := a) (by omega), List.drop_eq_getElem_cons (l := b) (by omega)] at hx
    refine Ev.step (fun k => laws_jLess.l0.eq_2 ..) ?_
    refine ev_pos (by omega) (ev_pos (by omega) (ev_pos (by omega) (ev_pos (by omega) ?_)))
    rw [rd_nat a i (by omega), rd_nat b i (by omega)]
    rcases hx with hx | ⟨e, hx⟩
    · refine ev_neg (by omega) (ev_val (Ev.now _) ?_)
      exact decide_eq_true hx
    · refine ev_pos e ?_
      rw [wrap_nat i (by omega)]
      exact ih (i + 1) (by omega) hx
theorem laws_jLess.ev (a b : List Int) (hl : a.length ≤ 1048576) (h : a.length = b.length) (hx : lexLt a b) : Ev (fun k => laws_jLess.f k a b) true := by
  simp only [laws_jLess.f]
  exact laws_jLess.evl a b hl h a.length 0 (by omega) hx

/-- the numbers in the program's table after j places, before they are held to 64 bits -/
def gW (L : List Int) (left j : Nat) (k : Nat) : Nat := ch left k * cways (own L) j k
/-- .. and the next table's, when k entries are carried over -/
def rowC (L : List Int) (left j k t : Nat) : Nat := sumTo (fun i => cell (own L j) j left (gW L left j) i t) k
/-- .. and when of entry k the first m parts are carried over -/
def midC (L : List Int) (left j k m t : Nat) : Nat := rowC L left j k t + if t < k + m then cell (own L j) j left (gW L left j) k t else 0
theorem midC_zero (L : List Int) (left j k t : Nat) : midC L left j k 0 t = rowC L left j k t := by
  unfold midC
  split
  · unfold cell
    rw [if_neg (by omega)]
    rfl
  · rfl
theorem midC_full (L : List Int) (left j k m t : Nat) (h : t < k + m) : midC L left j k m t = rowC L left j (k + 1) t := by
  unfold midC
  rw [if_pos h]
  rfl
theorem midC_no (L : List Int) (left j k m t : Nat) (h : ¬ own L j + (k + m) > j) : midC L left j k m t = midC L left j k (m + 1) t := by
  unfold midC
  by_cases e : t = k + m
  · subst e
    rw [if_neg (by omega), if_pos (by omega)]
    unfold cell
    rw [if_neg (fun hc => h hc.2)]
  · by_cases g : t < k + m
    · rw [if_pos g, if_pos (by omega)]
    · rw [if_neg g, if_neg (by omega)]
theorem midC_yes (L : List Int) (left j k m t : Nat) (h : own L j + (k + m) > j) : (if t = k + m then midC L left j k m (k + m) + gW L left j k * ch (left - k) m else midC L left j k m t) = midC L left j k (m + 1) t := by
  by_cases e : t = k + m
  · subst e
    rw [if_pos rfl]
    unfold midC
    rw [if_neg (by omega), if_pos (by omega)]
    unfold cell
    rw [if_pos ⟨by omega, h⟩, show k + m - k = m by omega]
    rfl
  · rw [if_neg e]
    unfold midC
    by_cases g : t < k + m
    · rw [if_pos g, if_pos (by omega)]
    · rw [if_neg g, if_neg (by omega)]
theorem rowC_all (L : List Int) (left j t : Nat) (h8 : left ≤ 8) (ht : t < left + 1) : rowC L left j (left + 1) t = gW L left (j + 1) t := cell_sum (own L) j left h8 t (by omega)
theorem rowC_nil (n : Nat) (L : List Int) (left j : Nat) : List.replicate n 0 = tab n (rowC L left j 0) := by
  refine List.ext_getElem (by rw [tab_len, List.length_replicate]) (fun i h1 h2 => ?_)
  rw [List.getElem_replicate, tab_get]
  show (0 : Int) = wrap64 ((0 : Nat) : Int)
  unfold wrap64
  omega
theorem gW_start (n : Nat) (L : List Int) (left : Nat) : (List.replicate (n + 1) (0 : Int)).set 0 1 = tab (n + 1) (gW L left 0) := by
  refine List.ext_getElem (by rw [tab_len, List.length_set, List.length_replicate]) (fun i h1 h2 => ?_)
  rw [tab_get, List.getElem_set, List.getElem_replicate]
  unfold gW cways
  by_cases e : 0 = i
  · subst e
    rw [if_pos rfl, if_pos rfl, ch_zero]
    show (1 : Int) = wrap64 ((1 : Nat) : Int)
    unfold wrap64
    omega
  · rw [if_neg e, if_neg (fun h => e h.symm), Nat.mul_zero]
    show (0 : Int) = wrap64 ((0 : Nat) : Int)
    unfold wrap64
    omega
theorem own_le (L : List Int) (j : Nat) : own L j ≤ L.length := List.countP_le_length
theorem tab_rd (n : Nat) (g : Nat → Nat) (i : Nat) (h : i < n) : rd (tab n g) (i : Int) = wrap64 (g i : Int) := by
  rw [rd_nat (tab n g) i (by rw [tab_len]; exact h), tab_get]
theorem put_tab (n : Nat) (g : Nat → Nat) (i : Nat) (G c : Nat) (h : i < n) : (tab n g).set ((i : Nat) : Int).toNat (wrap64 (rd (tab n g) ((i : Nat) : Int) + wrap64 (wrap64 (G : Int) * (c : Int)))) = tab n (fun t => if t = i then g i + G * c else g t) := by
  rw [tab_rd n g i h, Math.wrap_mul, Math.wrap_add, show ((g i : Int) + (G : Int) * (c : Int)) = ((g i + G * c : Nat) : Int) by rw [Int.natCast_add, Int.natCast_mul], Int.toNat_natCast, tab_set n g i _ h]
theorem add_nat (a b : Nat) (ha : a < 4611686018427387904) (hb : b < 4611686018427387904) : wrap64 ((a : Int) + (b : Int)) = ((a + b : Nat) : Int) := by
  rw [wrap_id _ (by omega) (by omega), Int.natCast_add]
theorem sub_nat (a b : Nat) (h : b ≤ a) (ha : a < 4611686018427387904) : wrap64 ((a : Int) - (b : Int)) = ((a - b : Nat) : Int) := by
  rw [wrap_id _ (by omega) (by omega)]
  omega
theorem comp_lt (n : Nat) (L : List Int) (h8 : n ≤ 8) : comp n L ≤ 16777216 := by
  unfold comp
  refine Nat.le_trans (cways_bound _ _ _) ?_
  refine Nat.le_trans (Nat.pow_le_pow_left h8 _) ?_
  exact Nat.le_trans (Nat.pow_le_pow_right (by decide) (by omega : n - L.length ≤ 8)) (by decide)
theorem gW_last (n : Nat) (L : List Int) (left : Nat) (h8 : n ≤ 8) (hl : L.length + left = n) : wrap64 (gW L left n left : Int) = (comp n L : Int) := by
  have h : gW L left n left = comp n L := by
    unfold gW comp
    rw [show n - L.length = left by omega]
    have : ∀ a : Nat, ch a a = 1 := by
      intro a
      induction a with
      | zero => rfl
      | succ a ih => simp only [ch]; rw [ih, ch_over a (a + 1) (by omega)]
    rw [this, Nat.one_mul]
  have hb := comp_lt n L h8
  rw [h, wrap_id _ (by omega) (by omega)]

theorem ev_inj {α : Type} {g : Nat → Option α} {r q : α} (h1 : Ev g r) (h2 : Ev g q) : r = q := by
  obtain ⟨K1, h1⟩ := h1
  obtain ⟨K2, h2⟩ := h2
  have e1 := h1 (K1 + K2) (by omega)
  have e2 := h2 (K1 + K2) (by omega)
  rw [e1] at e2
  exact Option.some.inj e2
/-- how many parking functions of n cars there are -/
def cnt (n : Nat) : Nat := if n = 0 then 1 else (n + 1) ^ (n - 1)
theorem cnt_fin : ∀ n : Fin 9, 1 ≤ cnt n.val ∧ cnt n.val ≤ 16777216 := by decide +kernel
theorem cnt_bd (n : Nat) (h : n ≤ 8) : 1 ≤ cnt n ∧ cnt n ≤ 16777216 := cnt_fin ⟨n, by omega⟩
theorem unrank_len (n : Nat) : ∀ (d : Nat) (L : List Int) (r : Nat), (unrank n d L r).length = L.length + d
  | 0, L, r => rfl
  | d + 1, L, r => by
    simp only [unrank]
    rw [unrank_len n d]
    simp
    omega
/-- the parking function with a number -/
def atR (n r : Int) : List Int × Bool := if 0 ≤ n ∧ n ≤ 8 ∧ 0 ≤ r ∧ r ≤ (cnt n.toNat : Int) - 1 then (unrank n.toNat n.toNat [] r.toNat, true) else ([], false)
theorem atR_len (n r : Int) : (atR n r).1.length ≤ 8 := by
  unfold atR
  split
  · simp only [unrank_len, List.length_nil]
    omega
  · simp
theorem pos_snoc {n : Nat} {L : List Int} (h : inStreet n L) (x : Nat) : ∀ y ∈ L ++ [(x : Int)], 0 ≤ y := by
  intro y hy
  rcases List.mem_append.mp hy with hy | hy
  · exact (h y hy).1
  · simp only [List.mem_singleton] at hy
    omega

theorem impl_countParking.fin : ∀ n : Fin 9, impl_countParking.f 40 ((n.val : Nat) : Int) = some ((cnt n.val : Nat) : Int) := by decide +kernel
theorem impl_countParking.ev (n : Nat) (h : n ≤ 8) : Ev (fun k => impl_countParking.f k (n : Int)) ((cnt n : Nat) : Int) := Ev.of (fun k => impl_countParking.mono (n : Int) k) (impl_countParking.fin ⟨n, by omega⟩)

/-- how many parking functions there are, where there may be so many cars -/
def cntR (n : Int) : Int × Bool := if 0 ≤ n ∧ n ≤ 8 then ((cnt n.toNat : Nat), true) else (0, false)

theorem impl_CountParking.ev (n : Int) : Ev (fun k => impl_CountParking.f k n) (cntR n) := by
  simp only [impl_CountParking.f]
  refine Ev.bind (ev_eq (impl_isCars.is n)) ?_
  by_cases hn : 0 ≤ n ∧ n ≤ 8
  · rw [decide_eq_true hn.1, decide_eq_true hn.2]
    obtain ⟨m, rfl⟩ : ∃ m : Nat, n = (m : Int) := ⟨n.toNat, by omega⟩
    refine ev_pos rfl (Ev.bind (impl_countParking.ev m (by omega)) (ev_val (Ev.now _) ?_))
    unfold cntR
    rw [if_pos hn, Int.toNat_natCast]
  · refine ev_neg (by simp; omega) (ev_val (Ev.now _) ?_)
    unfold cntR
    rw [if_neg hn]

/-- small numbers -/
def smalls (l : List Int) : Prop := ∀ x ∈ l, -1 ≤ x ∧ x ≤ 1000
theorem smalls_app {a b : List Int} (ha : smalls a) (hb : smalls b) : smalls (a ++ b) := fun x hx => (List.mem_append.mp hx).elim (ha x) (hb x)
theorem smalls_one {x : Int} (h0 : -1 ≤ x) (h1 : x ≤ 1000) : smalls [x] := fun y hy => by
  simp only [List.mem_singleton] at hy
  omega
theorem smalls_take {a : List Int} (ha : smalls a) (n : Nat) : smalls (a.take n) := fun x hx => ha x (List.mem_of_mem_take hx)
theorem smalls_drop {a : List Int} (ha : smalls a) (n : Nat) : smalls (a.drop n) := fun x hx => ha x (List.mem_of_mem_drop hx)
theorem smalls_set {a : List Int} (ha : smalls a) (n : Nat) {x : Int} (h0 : -1 ≤ x) (h1 : x ≤ 1000) : smalls (a.set n x) := fun y hy => by
  rcases List.mem_or_eq_of_mem_set hy with hy | rfl
  · exact ha y hy
  · exact ⟨h0, h1⟩
theorem spec_l1Cur_park.ok1 (l : List Int) (p h : Int) : ∀ (d : Nat) (x5 : List Int), (9 - x5.length) = d → x5.length ≤ 9 → smalls x5 → ∃ r, Ev (fun k => spec_l1Cur_park.l1 k x5 l p h) (r, p, h) ∧ r.length ≤ 9 ∧ smalls r
  | 0, x5, hd, hl, hs => ⟨x5, Ev.step (fun k => spec_l1Cur_park.l1.eq_2 ..) (ev_neg (by omega) (Ev.now _)), hl, hs⟩
  | d + 1, x5, hd, hl, hs => by
    obtain ⟨r, E, h1, h2⟩ := spec_l1Cur_park.ok1 l p h d (x5 ++ [0]) (by simp; omega) (by simp; omega) (smalls_app hs (smalls_one (by omega) (by omega)))
    exact ⟨r, Ev.step (fun k => spec_l1Cur_park.l1.eq_2 ..) (ev_pos (by omega) (ev_pos (by omega) E)), h1, h2⟩
theorem spec_l1Cur_park.ok0 (l : List Int) (hb : bytesOk l) : ∀ (d : Nat) (x5 : List Int) (x6 p h : Int), x6 = (d : Int) → x5.length + d ≤ 8 → smalls x5 → 0 ≤ p → p + 4 * (d : Int) ≤ 1099511626000 → ∃ r q g, Ev (fun k => spec_l1Cur_park.l0 k x5 x6 l p h) (r, q, g) ∧ r.length ≤ 9 ∧ smalls r ∧ p ≤ q ∧ q ≤ p + 4 * (d : Int) + 20
  | 0, x5, x6, p, h, hd, hl, hs, h0, h1 => by
    have hw : wrap64 ((x5.length : Int) + 1) = (x5.length : Int) + 1 := wrap_id _ (by omega) (by omega)
    obtain ⟨t, q, g, e, t0, t1, q0, q1⟩ := spec_l1Cur_pick.ok l hb p h 20 h0 (by omega) (by omega)
    by_cases c0 : t = 0
    · obtain ⟨b, q2, g2, e2, hm, q20, q21⟩ := spec_l1Cur_among.ok l hb q g [-1, 0, (x5.length : Int), (x5.length : Int) + 1, 99, 100] (by omega) (by omega) (by simp) (by simp)
      simp only [List.mem_cons, List.not_mem_nil, or_false] at hm
      refine ⟨x5 ++ [b], q2, g2, Ev.step (fun k => spec_l1Cur_park.l0.eq_2 ..) (ev_neg (by omega) (Ev.bind (ev_eq e) (ev_pos c0 ?_))), by simp; omega, smalls_app hs (smalls_one (by omega) (by omega)), by omega, by omega⟩
      rw [hw]
      exact Ev.bind (ev_eq e2) (ev_pos (by omega) (Ev.now _))
    · by_cases c1 : t = 1
      · by_cases c2 : (x5.length : Int) > 0
        · obtain ⟨i, q2, g2, e2, i0, i1, q20, q21⟩ := spec_l1Cur_pick.ok l hb q g (x5.length : Int) (by omega) (by omega) (by omega)
          obtain ⟨v, q3, g3, e3, v0, v1, q30, q31⟩ := spec_l1Cur_pick.ok l hb q2 g2 (x5.length : Int) (by omega) (by omega) (by omega)
          refine ⟨x5.set i.toNat v, q3, g3, Ev.step (fun k => spec_l1Cur_park.l0.eq_2 ..) (ev_neg (by omega) (Ev.bind (ev_eq e) (ev_neg c0 (ev_pos c1 (ev_pos c2 (Ev.bind (ev_eq e2) (Ev.bind (ev_eq e3) (ev_pos i0 (ev_pos (by dsimp only; omega) (Ev.now _)))))))))), by simp; omega, smalls_set hs _ (by omega) (by omega), by omega, by omega⟩
        · exact ⟨x5, q, g, Ev.step (fun k => spec_l1Cur_park.l0.eq_2 ..) (ev_neg (by omega) (Ev.bind (ev_eq e) (ev_neg c0 (ev_pos c1 (ev_neg c2 (Ev.now _)))))), by omega, hs, by omega, by omega⟩
      · by_cases c2 : t = 2
        · obtain ⟨r, E, r1, r2⟩ := spec_l1Cur_park.ok1 l q g _ x5 rfl (by omega) hs
          exact ⟨r, q, g, Ev.step (fun k => spec_l1Cur_park.l0.eq_2 ..) (ev_neg (by omega) (Ev.bind (ev_eq e) (ev_neg c0 (ev_neg c1 (ev_pos c2 E))))), r1, r2, by omega, by omega⟩
        · exact ⟨x5, q, g, Ev.step (fun k => spec_l1Cur_park.l0.eq_2 ..) (ev_neg (by omega) (Ev.bind (ev_eq e) (ev_neg c0 (ev_neg c1 (ev_neg c2 (Ev.now _)))))), by omega, hs, by omega, by omega⟩
  | d + 1, x5, x6, p, h, hd, hl, hs, h0, h1 => by
    have hw : wrap64 ((x5.length : Int) + 1) = (x5.length : Int) + 1 := wrap_id _ (by omega) (by omega)
    obtain ⟨x, q, g, e, x0, x1, q0, q1⟩ := spec_l1Cur_pick.ok l hb p h ((x5.length : Int) + 1) h0 (by omega) (by omega)
    obtain ⟨i, q2, g2, e2, i0, i1, q20, q21⟩ := spec_l1Cur_pick.ok l hb q g ((x5.length : Int) + 1) (by omega) (by omega) (by omega)
    obtain ⟨r, q3, g3, E, r1, r2, q30, q31⟩ := spec_l1Cur_park.ok0 l hb d ((x5.take i.toNat ++ [x]) ++ x5.drop i.toNat) (x6 - 1) q2 g2 (by omega) (by simp; omega) (smalls_app (smalls_app (smalls_take hs _) (smalls_one (by omega) (by omega))) (smalls_drop hs _)) (by omega) (by omega)
    refine ⟨r, q3, g3, Ev.step (fun k => spec_l1Cur_park.l0.eq_2 ..) (ev_pos (by omega) ?_), r1, r2, by omega, by omega⟩
    rw [hw]
    refine Ev.bind (ev_eq e) (Ev.bind (ev_eq e2) (ev_pos i0 (ev_pos (by dsimp only; omega) (Ev.bind (ev_eq (spec_l1Own.is _ (by simp; omega))) (ev_pos (by simp; omega) (Ev.bind (ev_eq rfl) (Ev.bind (ev_eq rfl) (ev_pos (by simp; omega) ?_))))))))
    rw [wrap_id (x6 - 1) (by omega) (by omega)]
    exact E
theorem spec_l1Cur_park.ok (l : List Int) (hb : bytesOk l) (p h a : Int) (h0 : 0 ≤ p) (h1 : p ≤ 1099511620000) (a0 : 0 ≤ a) (a1 : a ≤ 8) : ∃ r q g, Ev (fun k => spec_l1Cur_park.f k l p h a) (r, q, g) ∧ r.length ≤ 9 ∧ smalls r ∧ p ≤ q ∧ q ≤ p + 100 := by
  have hw : wrap64 (a + 1) = a + 1 := wrap_id _ (by omega) (by omega)
  obtain ⟨n, q, g, e, n0, n1, q0, q1⟩ := spec_l1Cur_pick.ok l hb p h (a + 1) h0 (by omega) (by omega)
  obtain ⟨r, q2, g2, E, r1, r2, q20, q21⟩ := spec_l1Cur_park.ok0 l hb n.toNat [] n q g (by omega) (by simp; omega) (fun x hx => by cases hx) (by omega) (by omega)
  refine ⟨r, q2, g2, ?_, r1, r2, by omega, by omega⟩
  simp only [spec_l1Cur_park.f]
  rw [hw]
  exact Ev.bind (ev_eq e) E

theorem spec_DrawRankParking.ok (l : List Int) (hb : bytesOk l) : ∃ r, Ev (fun k => spec_DrawRankParking.f k l) r ∧ r.length ≤ 9 := by
  simp only [spec_DrawRankParking.f]
  obtain ⟨r, q, g, E, r1, _⟩ := spec_l1Cur_park.ok l hb 0 0 7 (by omega) (by omega) (by omega) (by omega)
  exact ⟨r, Ev.bind E (Ev.now _), by omega⟩

theorem spec_DrawCountOrders.ok (l : List Int) (hb : bytesOk l) : ∃ r, Ev (fun k => spec_DrawCountOrders.f k l) r ∧ r.length ≤ 9 := by
  simp only [spec_DrawCountOrders.f]
  obtain ⟨r, E, h⟩ := spec_DrawRankParking.ok l hb
  exact ⟨r, Ev.bind E (Ev.now _), h⟩

theorem spec_l1All.evl (lo hi : Int) (l : List Int) (hl : l.length < 4611686018427387904) (d : Nat) : ∀ (i : Nat), i + d = l.length → Ev (fun k => spec_l1All.l0 k lo hi l (l.length : Int) (i : Int)) (inAll lo hi (l.drop i)) := by
  induction d with
  | zero =>
    intro i hi0
    refine Ev.step (fun k => spec_l1All.l0.eq_2 ..) ?_
    refine ev_neg (by omega) ?_
    refine ev_val (Ev.now _) ?_
    rw [List.drop_of_length_le (by omega)]
    rfl
  | succ d ih =>
    intro i hi0
    refine Ev.step (fun k => spec_l1All.l0.eq_2 ..) ?_
    refine ev_pos (by omega) (ev_pos (by omega) (ev_pos (by omega) ?_))
    rw [wrap_nat i (by omega), rd_nat l i (by omega), List.drop_eq_getElem_cons (by omega), spec_l1In.is]
    refine Ev.bind (Ev.now _) ?_
    have u : inAll lo hi (l[i] :: l.drop (i + 1)) = ((decide (lo ≤ l[i]) && decide (l[i] ≤ hi)) && inAll lo hi (l.drop (i + 1))) := rfl
    rw [u]
    generalize (decide (lo ≤ l[i]) && decide (l[i] ≤ hi)) = b
    cases b with
    | true => exact ev_pos rfl (ih (i + 1) (by omega))
    | false => exact ev_neg (by decide) (Ev.now _)
theorem spec_l1All.ev (l : List Int) (lo hi : Int) (hl : l.length < 4611686018427387904) : Ev (fun k => spec_l1All.f k l lo hi) (inAll lo hi l) := by
  simp only [spec_l1All.f]
  exact spec_l1All.evl lo hi l hl l.length 0 (by omega)

theorem spec_l1Has.evl (x : Int) (l : List Int) (hl : l.length < 4611686018427387904) (d : Nat) : ∀ (i : Nat), i + d = l.length → Ev (fun k => spec_l1Has.l0 k x l (l.length : Int) (i : Int)) (decide (x ∈ l.drop i)) := by
  induction d with
  | zero =>
    intro i hi
    refine Ev.step (fun k => spec_l1Has.l0.eq_2 ..) ?_
    refine ev_neg (by omega) ?_
    refine ev_val (Ev.now _) ?_
    rw [List.drop_of_length_le (by omega)]
    simp
  | succ d ih =>
    intro i hi
    refine Ev.step (fun k => spec_l1Has.l0.eq_2 ..) ?_
    refine ev_pos (by omega) (ev_pos (by omega) (ev_pos (by omega) ?_))
    rw [wrap_nat i (by omega), rd_nat l i (by omega), List.drop_eq_getElem_cons (by omega)]
    by_cases e : l[i] = x
    · refine ev_pos e (ev_val (Ev.now _) ?_)
      simp [e]
    · refine ev_neg e (ev_val (ih (i + 1) (by omega)) ?_)
      simp only [List.mem_cons, show ¬ x = l[i] from fun h => e h.symm, false_or]
theorem spec_l1Has.ev (l : List Int) (x : Int) (hl : l.length < 4611686018427387904) : Ev (fun k => spec_l1Has.f k l x) (decide (x ∈ l)) := by
  simp only [spec_l1Has.f]
  exact spec_l1Has.evl x l hl l.length 0 (by omega)

theorem spec_paDrive.evl (p : Int) (hp : p ≤ 1048576) (l : List Int) (hl : l.length ≤ 1048576) (hx : ∀ x ∈ l, -1048576 ≤ x) (d : Nat) : ∀ (i : Nat) (out : List Int), i + d = l.length → out.length = i → Ev (fun k => spec_paDrive.l0 k p out l (l.length : Int) (i : Int)) (paD p out (l.drop i)) := by
  induction d with
  | zero =>
    intro i out hi ho
    refine Ev.step (fun k => spec_paDrive.l0.eq_2 ..) ?_
    refine ev_neg (by omega) ?_
    refine ev_val (Ev.now _) ?_
    rw [List.drop_of_length_le (by omega)]
    rfl
  | succ d ih =>
    intro i out hi ho
    refine Ev.step (fun k => spec_paDrive.l0.eq_2 ..) ?_
    refine ev_pos (by omega) (ev_pos (by omega) (ev_pos (by omega) ?_))
    rw [rd_nat l i (by omega), List.drop_eq_getElem_cons (by omega)]
    have hxi := hx l[i] (List.getElem_mem _)
    have inner : ∀ (m : Nat) (x : Int), (p - x).toNat = m → -1048576 ≤ x → Ev (fun k => spec_paDrive.l1 k p out x l (l.length : Int) (i : Int)) (paD p (out ++ [if land out p x < p then land out p x else -1]) (l.drop (i + 1))) := by
      intro m
      induction m with
      | zero =>
        intro x hm hx0
        refine Ev.step (fun k => spec_paDrive.l1.eq_2 ..) ?_
        refine ev_neg (by omega) (ev_pos (by omega) (ev_pos (by omega) ?_))
        rw [wrap_nat i (by omega), land_stop out p x (by omega), if_neg (by omega)]
        exact ih (i + 1) _ (by omega) (by simp; omega)
      | succ m ihm =>
        intro x hm hx0
        refine Ev.step (fun k => spec_paDrive.l1.eq_2 ..) ?_
        refine ev_pos (by omega) (Ev.bind (spec_l1Has.ev out x (by omega)) ?_)
        by_cases hh : x ∈ out
        · rw [decide_eq_true hh, land_go out p x (by omega) hh]
          refine ev_pos rfl ?_
          rw [wrap_id (x + 1) (by omega) (by omega)]
          exact ihm (x + 1) (by omega) (by omega)
        · rw [decide_eq_false hh, land_stop out p x (fun h => hh h.2), if_pos (by omega)]
          refine ev_neg (by decide) (ev_neg (by omega) (ev_pos (by omega) ?_))
          rw [wrap_nat i (by omega)]
          exact ih (i + 1) _ (by omega) (by simp; omega)
    exact inner _ l[i] rfl hxi
theorem spec_paDrive.ev (l : List Int) (p : Int) (hp : p ≤ 1048576) (hl : l.length ≤ 1048576) (hx : ∀ x ∈ l, -1048576 ≤ x) : Ev (fun k => spec_paDrive.f k l p) (paD p [] l) := by
  simp only [spec_paDrive.f]
  exact spec_paDrive.evl p hp l hl hx l.length 0 [] (by omega) rfl

theorem paD_length (p : Int) : ∀ (l out : List Int), (paD p out l).length = out.length + l.length
  | [], out => by simp [paD]
  | x :: l, out => by
    have := paD_length p l (out ++ [if land out p x < p then land out p x else -1])
    simp only [paD, this, List.length_append, List.length_cons, List.length_nil]
    omega

theorem spec_paAll.ev (l : List Int) (p : Int) (hp : p ≤ 1048576) (hl : l.length ≤ 1048576) (hx : ∀ x ∈ l, 0 ≤ x) : Ev (fun k => spec_paAll.f k l p) (allPark l p) := by
  simp only [spec_paAll.f]
  refine Ev.bind (spec_paDrive.ev l p hp hl (fun x h => by have := hx x h; omega)) (Ev.bind (spec_l1Has.ev _ _ (by rw [paD_length]; simp; omega)) ?_)
  refine ev_val (Ev.now _) ?_
  rw [allPark_paD l p hx]
  simp

theorem isPk_iff (l : List Int) : isPk l = true ↔ l.length ≤ 8 ∧ (∀ x ∈ l, 0 ≤ x ∧ x < l.length) ∧ allPark l l.length = true := by
  simp only [isPk, Bool.and_eq_true, decide_eq_true_eq, List.all_eq_true]
  constructor
  · rintro ⟨⟨h1, h2⟩, h3⟩
    exact ⟨h1, fun x hx => by have := h2 x hx; omega, h3⟩
  · rintro ⟨h1, h2, h3⟩
    exact ⟨⟨h1, fun x hx => by have := h2 x hx; omega⟩, h3⟩
theorem spec_paParking.ev (l : List Int) (hl : l.length ≤ 1048576) : Ev (fun k => spec_paParking.f k l) (isPk l) := by
  simp only [spec_paParking.f]
  unfold isPk
  by_cases h8 : l.length ≤ 8
  · rw [decide_eq_true h8, wrap_id _ (by omega) (by omega)]
    refine ev_pos (by omega) (Ev.bind (spec_l1All.ev l 0 _ (by omega)) ?_)
    have u : inAll 0 ((l.length : Int) - 1) l = l.all fun x => decide (0 ≤ x) && decide (x ≤ (l.length : Int) - 1) := rfl
    rw [← u]
    cases e : inAll 0 ((l.length : Int) - 1) l with
    | true =>
      rw [inAll_iff] at e
      exact ev_pos rfl (Ev.bind (spec_paAll.ev l _ (by omega) hl (fun x hx => (e x hx).1)) (Ev.now _))
    | false => exact ev_neg (by decide) (Ev.now _)
  · rw [decide_eq_false h8]
    exact ev_neg (by omega) (Ev.now _)

theorem spec_CountOrders.ev1 (l : List Int) (i : Nat) (hi : i < l.length) (h8 : l.length ≤ 8) (x c : Int) (r : Int × Bool) (hc : Ev (fun k => spec_CountOrders.l0 k l (wrap64 (Int.tdiv (wrap64 (c * wrap64 ((i : Int) + 1))) (((l.take i).count x + 1 : Nat) : Int))) l (l.length : Int) (wrap64 ((i : Int) + 1))) r) (d : Nat) : ∀ (j s : Nat), j + d = (l.take i).length → s + ((l.take i).drop j).count x = (l.take i).count x → Ev (fun k => spec_CountOrders.l1 k l c (i : Int) x ((s + 1 : Nat) : Int) l (l.length : Int) (i : Int) (l.take i) ((l.take i).length : Int) (j : Int)) r := by
  have ht : (l.take i).length ≤ 8 := by rw [List.length_take]; omega
  have hct : (l.take i).count x ≤ (l.take i).length := List.count_le_length
  induction d with
  | zero =>
    intro j s hj hs
    rw [List.drop_of_length_le (by omega), List.count_nil] at hs
    refine Ev.step (fun k => spec_CountOrders.l1.eq_2 ..) (ev_neg (by omega) (ev_neg (by omega) ?_))
    rw [show s = (l.take i).count x by omega]
    exact hc
  | succ d ih =>
    intro j s hj hs
    rw [List.drop_eq_getElem_cons (by omega), List.count_cons] at hs
    refine Ev.step (fun k => spec_CountOrders.l1.eq_2 ..) (ev_pos (by omega) (ev_pos (by omega) (ev_pos (by omega) ?_)))
    rw [rd_nat (l.take i) j (by omega), wrap_nat j (by omega)]
    by_cases e : x = (l.take i)[j]'(by omega)
    · rw [if_pos (by simp [e])] at hs
      refine ev_pos e ?_
      rw [wrap_nat (s + 1) (by omega)]
      exact ih (j + 1) (s + 1) (by omega) (by omega)
    · rw [if_neg (fun h => e (beq_iff_eq.mp h).symm)] at hs
      exact ev_neg e (ih (j + 1) s (by omega) (by omega))
theorem spec_CountOrders.evl (l : List Int) (h8 : l.length ≤ 8) (hx : ∀ x ∈ l, 0 ≤ x ∧ x < 8) (d : Nat) : ∀ (i : Nat), i + d = l.length → Ev (fun k => spec_CountOrders.l0 k l ((ordD (l.take i) : Nat) : Int) l (l.length : Int) (i : Int)) (((ordD l : Nat) : Int), true) := by
  induction d with
  | zero =>
    intro i hi
    refine Ev.step (fun k => spec_CountOrders.l0.eq_2 ..) (ev_neg (by omega) (ev_val (Ev.now _) ?_))
    rw [List.take_of_length_le (by omega)]
  | succ d ih =>
    intro i hi
    have hlt : i < l.length := by omega
    have et : l.take (i + 1) = l.take i ++ [l[i]] := List.take_succ_eq_append_getElem hlt
    have hl : (l.take i).length = i := by rw [List.length_take]; omega
    have hb := ordD_le (l.take i) (by omega) (fun x h => hx x (List.mem_of_mem_take h))
    have hb2 := ordD_le (l.take (i + 1)) (by rw [List.length_take]; omega) (fun x h => hx x (List.mem_of_mem_take h))
    have hsn := ordD_snoc (l.take i) l[i] (by omega) (fun y hy => hx y (by rw [← et] at hy; exact List.mem_of_mem_take hy))
    rw [← et, hl] at hsn
    have hm : (ordD (l.take i) : Nat) * (i + 1) ≤ 40320 * 8 := Nat.mul_le_mul hb (by omega)
    refine Ev.step (fun k => spec_CountOrders.l0.eq_2 ..) (ev_pos (by omega) (ev_pos (by omega) (ev_pos (by omega) (ev_pos (by omega) ?_))))
    rw [rd_nat l i hlt, Int.toNat_natCast]
    refine spec_CountOrders.ev1 l i hlt h8 l[i] _ _ ?_ (l.take i).length 0 0 (by omega) (by simp)
    rw [wrap_nat i (by omega)]
    have w1 : wrap64 (((ordD (l.take i) : Nat) : Int) * ((i + 1 : Nat) : Int)) = ((ordD (l.take (i + 1)) * ((l.take i).count l[i] + 1) : Nat) : Int) := by
      rw [← Int.natCast_mul, hsn]
      exact wrap_id _ (by omega) (by omega)
    rw [w1, Int.natCast_mul, Int.mul_tdiv_cancel _ (by omega), wrap_id _ (by omega) (by omega)]
    exact ih (i + 1) (by omega)
theorem ordD_nil : ordD [] = 1 := by decide +kernel
theorem spec_CountOrders.ev (l : List Int) (hl : l.length ≤ 1048576) : Ev (fun k => spec_CountOrders.f k l) (ordersR l) := by
  simp only [spec_CountOrders.f]
  unfold ordersR
  refine Ev.bind (spec_paParking.ev l hl) ?_
  by_cases e : isPk l = true
  · obtain ⟨h8, hx⟩ := pk_below8 l e
    rw [if_pos e]
    have h := spec_CountOrders.evl l h8 hx l.length 0 (by omega)
    rw [List.take_zero, ordD_nil] at h
    exact ev_pos e h
  · rw [if_neg e]
    exact ev_neg e (Ev.now _)

theorem spec_l1Cur_one.ok (l : List Int) (hb : bytesOk l) (p h n : Int) (h0 : 0 ≤ p) (h1 : p ≤ 1099511627000) (hn : n ≤ 1048576) : ∃ b q g, spec_l1Cur_one.f l p h n = some (b, q, g) ∧ p ≤ q ∧ q ≤ p + 2 := by
  unfold spec_l1Cur_one.f
  obtain ⟨b, q, g, e, b0, b1, q0, q1⟩ := spec_l1Cur_pick.ok l hb p h n h0 h1 hn
  rw [e, Option.bind_some]
  exact ⟨_, _, _, rfl, q0, q1⟩

theorem spec_l1Cur_number2.ok (l : List Int) (hb : bytesOk l) (p h : Int) (h0 : 0 ≤ p) (h1 : p ≤ 1099511626000) : ∃ b q g, spec_l1Cur_number2.f l p h = some (b, q, g) ∧ -1 ≤ b ∧ b ≤ 9 ∧ p ≤ q ∧ q ≤ p + 4 := by
  unfold spec_l1Cur_number2.f
  obtain ⟨t, q, g, e, q0, q1⟩ := spec_l1Cur_one.ok l hb p h 10 h0 (by omega) (by omega)
  rw [e, Option.bind_some]
  dsimp only
  cases t with
  | true =>
    rw [if_pos rfl]
    obtain ⟨b, q2, g2, e2, hm, q20, q21⟩ := spec_l1Cur_among.ok l hb q g [-1, 0, 8, 9] (by omega) (by omega) (by simp) (by simp)
    rw [e2, Option.bind_some]
    simp only [List.mem_cons, List.not_mem_nil, or_false] at hm
    exact ⟨_, _, _, rfl, by omega, by omega, by dsimp only; omega, by dsimp only; omega⟩
  | false =>
    rw [if_neg (by decide)]
    obtain ⟨b, q2, g2, e2, b0, b1, q20, q21⟩ := spec_l1Cur_pick.ok l hb q g 7 (by omega) (by omega) (by omega)
    rw [e2, Option.bind_some]
    exact ⟨_, _, _, rfl, by dsimp only; omega, by dsimp only; omega, by dsimp only; omega, by dsimp only; omega⟩

theorem spec_DrawCountParking.ok (l : List Int) (hb : bytesOk l) : ∃ n, spec_DrawCountParking.f l = some n ∧ -1 ≤ n ∧ n ≤ 9 := by
  unfold spec_DrawCountParking.f
  obtain ⟨n, q, g, e, n0, n1, q0, q1⟩ := spec_l1Cur_number2.ok l hb 0 0 (by omega) (by omega)
  rw [e, Option.bind_some]
  exact ⟨n, rfl, n0, n1⟩

theorem spec_DrawCountSorted.ok (l : List Int) (hb : bytesOk l) : ∃ n, spec_DrawCountSorted.f l = some n ∧ -1 ≤ n ∧ n ≤ 9 := by
  unfold spec_DrawCountSorted.f
  obtain ⟨n, e, h⟩ := spec_DrawCountParking.ok l hb
  rw [e, Option.bind_some]
  exact ⟨n, rfl, h⟩

theorem ev_ite {α : Type} {c : Prop} [Decidable c] {g f : Nat → Option α} {r : α} (h : c → Ev g r) (k : ¬ c → Ev f r) : Ev (fun n => if c then g n else f n) r := by
  by_cases e : c
  · exact ev_pos e (h e)
  · exact ev_neg e (k e)
theorem u8_of_wf (x : Int) (h : (Lit.int .u8 x).wf = true) : 0 ≤ x ∧ x ≤ 255 := by
  simp only [Lit.wf, Bool.and_eq_true, decide_eq_true_eq] at h
  have h1 : IntKind.min .u8 = 0 := by decide
  have h2 : IntKind.max .u8 = 255 := by decide
  rw [h1, h2] at h
  exact h

end Go.Proofs.Ytjnchdccefdjmaa.QFnSortedParking
