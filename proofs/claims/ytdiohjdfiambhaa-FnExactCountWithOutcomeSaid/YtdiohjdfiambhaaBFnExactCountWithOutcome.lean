/- Proved here: what the Lean functions printed for the Go functions of law FnExactCountWithOutcome compute, in words of lists and whole numbers, for lists shorter than 2^62. -/
import Derived.Test.YtdiohjdfiambhaaQFnExactCountWithOutcomex
import Derived.Test.YtdiohjdfiambhaaMDrive
import Derived.Test.YtdiohjdfiambhaaMCrit
import Derived.Test.YtdiohjdfiambhaaMCircle
import Derived.Test.YtdiohjdfiambhaaMRing
import Derived.Test.YtdiohjdfiambhaaMLesser
import Derived.Test.YtdiohjdfiambhaaMSort
import Derived.Test.YtdiohjdfiambhaaMOut
namespace Go.Proofs.Ytdiohjdfiambhaa.QFnExactCountWithOutcome
open Go.RowKit Go.Proofs.YtdiohjdfiambhaaW.PrintWords Go.Proofs.YtdiohjdfiambhaaW.PrintLast Go.Proofs.Ytdiohjdfiambhaa.Math
set_option linter.unusedVariables false
set_option linter.unusedSimpArgs false

theorem ev_pos {α : Type} {c : Prop} [Decidable c] {g f : Nat → Option α} {r : α} (h : c) (k : Ev g r) : Ev (fun n => if c then g n else f n) r := by
  obtain ⟨K, hK⟩ := k
  exact ⟨K, fun n hn => by simp only [if_pos h]; exact hK n hn⟩
theorem ev_neg {α : Type} {c : Prop} [Decidable c] {g f : Nat → Option α} {r : α} (h : ¬ c) (k : Ev f r) : Ev (fun n => if c then g n else f n) r := by
  obtain ⟨K, hK⟩ := k
  exact ⟨K, fun n hn => by simp only [if_neg h]; exact hK n hn⟩
theorem ev_eq {α : Type} {g : Option α} {r : α} (h : g = some r) : Ev (fun _ => g) r := ⟨0, fun _ _ => h⟩
theorem ev_val {α : Type} {g : Nat → Option α} {r q : α} (h : Ev g r) (e : r = q) : Ev g q := e ▸ h
theorem wrap_nat (i : Nat) (h : i < 4611686018427387904) : wrap64 ((i : Int) + 1) = ((i + 1 : Nat) : Int) := by
  unfold wrap64
  omega
theorem wrap_id (x : Int) (h : -9223372036854775808 ≤ x) (h' : x ≤ 9223372036854775807) : wrap64 x = x := by
  unfold wrap64
  omega
theorem rd_nat (l : List Int) (i : Nat) (h : i < l.length) : rd l (i : Int) = l[i] := by
  simp [rd, List.getD_eq_getElem?_getD, h]
theorem rd_int (l : List Int) (x : Int) (h0 : 0 ≤ x) (h : x < l.length) : rd l x = l[x.toNat]'(by omega) := by
  have e : x = ((x.toNat : Nat) : Int) := by omega
  have h2 : x.toNat < l.length := by omega
  rw [show rd l x = rd l ((x.toNat : Nat) : Int) by rw [← e]]
  exact rd_nat l x.toNat h2
/-- m, m + 1, .., n numbers -/
def marks : Int → Nat → List Int
  | _, 0 => []
  | m, n + 1 => m :: marks (m + 1) n
theorem marks_len : ∀ (n : Nat) (m : Int), (marks m n).length = n
  | 0, _ => rfl
  | n + 1, m => by simp [marks, marks_len n]
theorem take_set_succ (y l : List Int) (i : Nat) (hi : i < l.length) (hy : y.length = l.length) (h : y.take i = l.take i) : (y.set i l[i]).take (i + 1) = l.take (i + 1) := by
  rw [List.take_succ_eq_append_getElem (by simp; omega), List.take_succ_eq_append_getElem hi, List.take_set_of_le (Nat.le_refl i), h, List.getElem_set_self]
/-- all numbers lie from lo to hi -/
def inAll (lo hi : Int) (l : List Int) : Bool := l.all fun x => decide (lo ≤ x) && decide (x ≤ hi)
theorem inAll_iff (lo hi : Int) (l : List Int) : inAll lo hi l = true ↔ ∀ x ∈ l, lo ≤ x ∧ x ≤ hi := by
  simp [inAll]

theorem laws_toIntS.evl (l : List Int) (hl : l.length < 4611686018427387904) (d : Nat) : ∀ (i : Nat) (y : List Int), i + d = l.length → y.length = l.length → y.take i = l.take i → Ev (fun k => laws_toIntS.l0 k l y (i : Int)) l := by
  induction d with
  | zero =>
    intro i y hi hy ht
    refine Ev.step (fun k => laws_toIntS.l0.eq_2 ..) ?_
    refine ev_neg (by omega) ?_
    refine ev_val (Ev.now _) ?_
    rw [show i = l.length by omega] at ht
    rw [List.take_of_length_le (by omega), List.take_of_length_le (by omega)] at ht
    exact ht
  | succ d ih =>
    intro i y hi hy ht
    refine Ev.step (fun k => laws_toIntS.l0.eq_2 ..) ?_
    refine ev_pos (by omega) (ev_pos (by omega) (ev_pos (by omega) ?_))
    rw [wrap_nat i (by omega), rd_nat l i (by omega), Int.toNat_natCast]
    exact ih (i + 1) _ (by omega) (by simp; omega) (take_set_succ y l i (by omega) hy ht)
theorem laws_toIntS.ev (l : List Int) (hl : l.length ≤ 1048576) : Ev (fun k => laws_toIntS.f k l) l := by
  simp only [laws_toIntS.f]
  refine ev_pos (by omega) (ev_pos (by omega) ?_)
  exact laws_toIntS.evl l (by omega) l.length 0 _ (by omega) (by simp) (by simp)

theorem laws_eqIntS.evl (a b : List Int) (hl : a.length < 4611686018427387904) (h : a.length = b.length) (d : Nat) : ∀ (i : Nat), i + d = a.length → Ev (fun k => laws_eqIntS.l0 k a b (i : Int)) (decide (a.drop i = b.drop i)) := by
  induction d with
  | zero =>
    intro i hi
    refine Ev.step (fun k => laws_eqIntS.l0.eq_2 ..) ?_
    refine ev_neg (by omega) ?_
    refine ev_val (Ev.now _) ?_
    rw [List.drop_of_length_le (by omega), List.drop_of_length_le (by omega)]
    rfl
  | succ d ih =>
    intro i hi
    refine Ev.step (fun k => laws_eqIntS.l0.eq_2 ..) ?_
    refine ev_pos (by omega) (ev_pos (by omega) (ev_pos (by omega) ?_))
    rw [wrap_nat i (by omega), rd_nat a i (by omega), rd_nat b i (by omega)]
    rw [List.drop_eq_getElem_cons (l := a) (by omega), List.drop_eq_getElem_cons (l := b) (by omega)]
    by_cases e : a[i] = b[i]'(by omega)
    · refine ev_pos e (ev_val (ih (i + 1) (by omega)) ?_)
      simp only [List.cons.injEq, e, true_and]
    · refine ev_neg e (ev_val (Ev.now _) ?_)
      simp only [List.cons.injEq, e, false_and, decide_false]
theorem laws_eqIntS.ev (a b : List Int) (hl : a.length < 4611686018427387904) : Ev (fun k => laws_eqIntS.f k a b) (decide (a = b)) := by
  simp only [laws_eqIntS.f]
  by_cases h : a.length = b.length
  · refine ev_pos (by omega) (ev_val (laws_eqIntS.evl a b hl h a.length 0 (by omega)) ?_)
    simp
  · refine ev_neg (by omega) (ev_val (Ev.now _) ?_)
    exact (decide_eq_false (fun e => h (by rw [e]))).symm
theorem laws_eqIntS.ev_self (a : List Int) (hl : a.length < 4611686018427387904) : Ev (fun k => laws_eqIntS.f k a a) true := ev_val (laws_eqIntS.ev a a hl) (by simp)

theorem spec_l1In.is (x lo hi : Int) : spec_l1In.f x lo hi = some (decide (lo ≤ x) && decide (x ≤ hi)) := by
  unfold spec_l1In.f
  by_cases h : x ≥ lo
  · rw [if_pos h, decide_eq_true (show lo ≤ x from h), Bool.true_and]
  · rw [if_neg h, decide_eq_false (show ¬ lo ≤ x from h), Bool.false_and]

theorem spec_l1All.evl (lo hi : Int) (l : List Int) (hl : l.length < 4611686018427387904) (d : Nat) : ∀ (i : Nat), i + d = l.length → Ev (fun k => spec_l1All.l0 k lo hi l (l.length : Int) (i : Int)) (inAll lo hi (l.drop i)) := by
  induction d with
  | zero =>
    intro i hi0
    refine Ev.step (fun k => spec_l1All.l0.eq_2 ..) ?_
    refine ev_neg (by omega) ?_
    refine ev_val (Ev.now _) ?_
    rw [List.drop_of_length_le (by omega)]
    rfl
  | succ d ih =>
    intro i hi0
    refine Ev.step (fun k => spec_l1All.l0.eq_2 ..) ?_
    refine ev_pos (by omega) (ev_pos (by omega) (ev_pos (by omega) ?_))
    rw [wrap_nat i (by omega), rd_nat l i (by omega), List.drop_eq_getElem_cons (by omega), spec_l1In.is]
    refine Ev.bind (Ev.now _) ?_
    have u : inAll lo hi (l[i] :: l.drop (i + 1)) = ((decide (lo ≤ l[i]) && decide (l[i] ≤ hi)) && inAll lo hi (l.drop (i + 1))) := rfl
    rw [u]
    generalize (decide (lo ≤ l[i]) && decide (l[i] ≤ hi)) = b
    cases b with
    | true => exact ev_pos rfl (ih (i + 1) (by omega))
    | false => exact ev_neg (by decide) (Ev.now _)
theorem spec_l1All.ev (l : List Int) (lo hi : Int) (hl : l.length < 4611686018427387904) : Ev (fun k => spec_l1All.f k l lo hi) (inAll lo hi l) := by
  simp only [spec_l1All.f]
  exact spec_l1All.evl lo hi l hl l.length 0 (by omega)

theorem spec_l1Has.evl (x : Int) (l : List Int) (hl : l.length < 4611686018427387904) (d : Nat) : ∀ (i : Nat), i + d = l.length → Ev (fun k => spec_l1Has.l0 k x l (l.length : Int) (i : Int)) (decide (x ∈ l.drop i)) := by
  induction d with
  | zero =>
    intro i hi
    refine Ev.step (fun k => spec_l1Has.l0.eq_2 ..) ?_
    refine ev_neg (by omega) ?_
    refine ev_val (Ev.now _) ?_
    rw [List.drop_of_length_le (by omega)]
    simp
  | succ d ih =>
    intro i hi
    refine Ev.step (fun k => spec_l1Has.l0.eq_2 ..) ?_
    refine ev_pos (by omega) (ev_pos (by omega) (ev_pos (by omega) ?_))
    rw [wrap_nat i (by omega), rd_nat l i (by omega), List.drop_eq_getElem_cons (by omega)]
    by_cases e : l[i] = x
    · refine ev_pos e (ev_val (Ev.now _) ?_)
      simp [e]
    · refine ev_neg e (ev_val (ih (i + 1) (by omega)) ?_)
      simp only [List.mem_cons, show ¬ x = l[i] from fun h => e h.symm, false_or]
theorem spec_l1Has.ev (l : List Int) (x : Int) (hl : l.length < 4611686018427387904) : Ev (fun k => spec_l1Has.f k l x) (decide (x ∈ l)) := by
  simp only [spec_l1Has.f]
  exact spec_l1Has.evl x l hl l.length 0 (by omega)

theorem srt_perm (l : List Int) : (Srt.srt l).Perm l := List.mergeSort_perm _ _
theorem srt_up (l : List Int) : up2 (Srt.srt l) := by
  rw [up2_pairwise]
  have h := List.pairwise_mergeSort (le := fun x y : Int => decide (x ≤ y)) (fun a b c h1 h2 => by
    simp only [decide_eq_true_eq] at h1 h2 ⊢
    omega) (fun a b => by
    simp only [Bool.or_eq_true, decide_eq_true_eq]
    omega) l
  exact h.imp (fun h => by simpa using h)
theorem srt_eq (l s : List Int) (hp : s.Perm l) (hs : up2 s) : s = Srt.srt l := up2_eq s (Srt.srt l) hs (srt_up l) (hp.trans (srt_perm l).symm)
theorem ins_up (s : List Int) (j : Nat) (x : Int) (hs : up2 s) (h1 : ∀ y ∈ s.take j, y ≤ x) (h2 : ∀ y ∈ s.drop j, x ≤ y) : up2 ((s.take j ++ [x]) ++ s.drop j) := by
  rw [up2_pairwise] at hs ⊢
  have hs' : (s.take j ++ s.drop j).Pairwise (fun a b => a ≤ b) := by rw [List.take_append_drop]; exact hs
  rw [List.pairwise_append] at hs'
  obtain ⟨a, b, c⟩ := hs'
  rw [List.pairwise_append, List.pairwise_append]
  refine ⟨⟨a, by simp, fun y hy z hz => ?_⟩, b, fun y hy z hz => ?_⟩
  · simp only [List.mem_singleton] at hz
    rw [hz]
    exact h1 y hy
  · rcases List.mem_append.mp hy with hy | hy
    · exact c y hy z hz
    · simp only [List.mem_singleton] at hy
      rw [hy]
      exact h2 z hz
theorem ins_perm (s : List Int) (j : Nat) (x : Int) : ((s.take j ++ [x]) ++ s.drop j).Perm (s ++ [x]) := by
  have e : s ++ [x] = (s.take j ++ s.drop j) ++ [x] := by rw [List.take_append_drop]
  rw [e, List.append_assoc, List.append_assoc]
  exact List.Perm.append_left _ List.perm_append_comm

/-- has a list each of the first numbers once, for at most 8 cars -/
def isOrd (l : List Int) : Bool := decide (l.length ≤ 8) && inAll 0 ((l.length : Int) - 1) l && ndB [] l
theorem isOrd_iff (l : List Int) : isOrd l = true ↔ l.length ≤ 8 ∧ (∀ x ∈ l, 0 ≤ x ∧ x ≤ (l.length : Int) - 1) ∧ l.Nodup := by
  unfold isOrd
  rw [Bool.and_eq_true, Bool.and_eq_true, decide_eq_true_eq, inAll_iff, ndB_iff l [] List.nodup_nil, List.nil_append, and_assoc]
/-- each number is its index, from i on -/
def idB : Nat → List Int → Bool
  | _, [] => true
  | i, x :: l => decide (x = (i : Int)) && idB (i + 1) l
theorem idB_iff : ∀ (l : List Int) (i : Nat), idB i l = true ↔ ∀ j (h : j < l.length), l[j] = ((i + j : Nat) : Int)
  | [], i => by simp [idB]
  | x :: l, i => by
    simp only [idB, Bool.and_eq_true, decide_eq_true_eq, idB_iff l (i + 1)]
    constructor
    · rintro ⟨h1, h2⟩ j hj
      cases j with
      | zero => simpa using h1
      | succ j =>
        have := h2 j (by simpa using hj)
        rw [List.getElem_cons_succ, this]
        omega
    · intro h
      have h0 : x = (i : Int) := h 0 (by simp)
      refine ⟨h0, fun j hj => ?_⟩
      have := h (j + 1) (by simpa using hj)
      rw [List.getElem_cons_succ] at this
      rw [this]
      omega
theorem isOrd_srt (l : List Int) : (idB 0 (Srt.srt l) && decide (l.length ≤ 8)) = isOrd l := by
  have h1 := ord_iff l (Srt.srt l) (srt_perm l) (srt_up l)
  have h2 := idB_iff (Srt.srt l) 0
  have h3 := isOrd_iff l
  rw [Bool.eq_iff_iff, Bool.and_eq_true, decide_eq_true_eq, h2, h3]
  simp only [Nat.zero_add]
  rw [h1]
  exact ⟨fun ⟨a, b⟩ => ⟨b, a⟩, fun ⟨a, b⟩ => ⟨b, a⟩⟩
def cwoR (l : List Int) : Int × Bool := if isOrd l = true then (prodW 1 (rowsL [] l), true) else (0, false)
theorem rowsL_at : ∀ (r m : List Int) (i : Nat) (h : i < r.length), (rowsL m r)[i]'(by rw [rowsL_len]; exact h) = ((run (m ++ r.take i) (r[i] - 1) + 1 : Nat) : Int)
  | x :: r, m, 0, h => by simp [rowsL]
  | x :: r, m, i + 1, h => by
    simp only [rowsL, List.getElem_cons_succ, List.take_succ_cons]
    rw [rowsL_at r (m ++ [x]) i (by simpa using h), List.append_assoc]
    rfl
  | [], m, i, h => by simp at h

theorem spec_paOutcome.evl (l : List Int) (hl : l.length ≤ 1048576) (d : Nat) : ∀ (i : Nat), i + d = l.length → Ev (fun k => spec_paOutcome.l0 k l l (l.length : Int) (i : Int)) (ndB (l.take i) (l.drop i)) := by
  induction d with
  | zero =>
    intro i hi
    refine Ev.step (fun k => spec_paOutcome.l0.eq_2 ..) (ev_neg (by omega) (ev_val (Ev.now _) ?_))
    rw [List.drop_of_length_le (by omega)]
    rfl
  | succ d ih =>
    intro i hi
    refine Ev.step (fun k => spec_paOutcome.l0.eq_2 ..) (ev_pos (by omega) (ev_pos (by omega) (ev_pos (by omega) (ev_pos (by omega) ?_))))
    rw [rd_nat l i (by omega), Int.toNat_natCast, List.drop_eq_getElem_cons (by omega)]
    refine Ev.bind (spec_l1Has.ev (l.take i) (l[i]'(by omega)) (by rw [List.length_take]; omega)) ?_
    by_cases c : l[i]'(by omega) ∈ l.take i
    · rw [decide_eq_true c]
      refine ev_pos rfl (ev_val (Ev.now _) ?_)
      simp only [ndB]
      rw [decide_eq_true c]
      rfl
    · rw [decide_eq_false c]
      refine ev_neg (by decide) ?_
      rw [wrap_nat i (by omega)]
      refine ev_val (ih (i + 1) (by omega)) ?_
      simp only [ndB]
      rw [decide_eq_false c, Bool.not_false, Bool.true_and, List.take_succ_eq_append_getElem (by omega)]
theorem spec_paOutcome.ev (l : List Int) (hl : l.length ≤ 1048576) : Ev (fun k => spec_paOutcome.f k l) (isOrd l) := by
  simp only [spec_paOutcome.f]
  unfold isOrd
  by_cases h : (l.length : Int) > 8
  · refine ev_pos h (Ev.step (fun k => spec_paOutcome.j0.eq_2 ..) (ev_pos rfl (ev_val (Ev.now _) ?_)))
    rw [decide_eq_false (by omega)]
    rfl
  · refine ev_neg h ?_
    rw [wrap_id ((l.length : Int) - 1) (by omega) (by omega)]
    refine Ev.bind (spec_l1All.ev l 0 _ (by omega)) (Ev.step (fun k => spec_paOutcome.j0.eq_2 ..) ?_)
    rw [decide_eq_true (by omega), Bool.true_and]
    cases inAll 0 ((l.length : Int) - 1) l with
    | false => exact ev_pos rfl (Ev.now _)
    | true =>
      refine ev_neg (by decide) ?_
      have := spec_paOutcome.evl l hl l.length 0 (by omega)
      simpa using this

theorem spec_paRow.evl (l : List Int) (hl : l.length ≤ 1048576) (i : Nat) (hi : i < l.length) : ∀ (d : Nat) (x c : Int), (x + 1).toNat = d → x ≤ 1048576 → -1 ≤ x → 0 ≤ c → c + (d : Int) ≤ 4194304 → Ev (fun k => spec_paRow.l0 k l (i : Int) c x) (c + ((run (l.take i) x : Nat) : Int))
  | 0, x, c, hd, hx, hx0, hc, hcd => by
    refine Ev.step (fun k => spec_paRow.l0.eq_2 ..) (ev_neg (by omega) (ev_val (Ev.now _) ?_))
    rw [run_stop _ _ (.inl (by omega))]
    omega
  | d + 1, x, c, hd, hx, hx0, hc, hcd => by
    refine Ev.step (fun k => spec_paRow.l0.eq_2 ..) (ev_pos (by omega) (ev_pos (by omega) (ev_pos (by omega) ?_)))
    rw [Int.toNat_natCast]
    refine Ev.bind (spec_l1Has.ev (l.take i) x (by rw [List.length_take]; omega)) ?_
    by_cases h : x ∈ l.take i
    · rw [decide_eq_true h]
      refine ev_pos rfl ?_
      rw [wrap_id (c + 1) (by omega) (by omega), wrap_id (x - 1) (by omega) (by omega), run_go _ x (by omega) h]
      refine ev_val (spec_paRow.evl l hl i hi d (x - 1) (c + 1) (by omega) (by omega) (by omega) (by omega) (by omega)) ?_
      omega
    · rw [decide_eq_false h]
      refine ev_neg (by decide) (ev_val (Ev.now _) ?_)
      rw [run_stop _ x (.inr h)]
      omega
theorem spec_paRow.ev (l : List Int) (hl : l.length ≤ 1048576) (hx : ∀ x ∈ l, 0 ≤ x ∧ x ≤ 1048576) (i : Nat) (hi : i < l.length) : Ev (fun k => spec_paRow.f k l (i : Int)) ((rowsL [] l)[i]'(by rw [rowsL_len]; exact hi)) := by
  have h := hx l[i] (List.getElem_mem _)
  simp only [spec_paRow.f]
  refine ev_pos (by omega) (ev_pos (by omega) ?_)
  rw [rd_nat l i hi, wrap_id (l[i] - 1) (by omega) (by omega)]
  refine ev_val (spec_paRow.evl l hl i hi _ (l[i] - 1) 1 rfl (by omega) (by omega) (by omega) (by omega)) ?_
  rw [rowsL_at l [] i hi, List.nil_append]
  omega

theorem spec_CountWithOutcome.evl (l : List Int) (hl : l.length ≤ 1048576) (hx : ∀ x ∈ l, 0 ≤ x ∧ x ≤ 1048576) (d : Nat) : ∀ (i : Nat) (a : Int), i + d = l.length → Ev (fun k => spec_CountWithOutcome.l0 k l a (l.length : Int) (i : Int)) (prodW a ((rowsL [] l).drop i), true) := by
  have hr := rowsL_len l []
  induction d with
  | zero =>
    intro i a hi
    refine Ev.step (fun k => spec_CountWithOutcome.l0.eq_2 ..) (ev_neg (by omega) (ev_val (Ev.now _) ?_))
    rw [List.drop_of_length_le (by omega)]
    rfl
  | succ d ih =>
    intro i a hi
    refine Ev.step (fun k => spec_CountWithOutcome.l0.eq_2 ..) (ev_pos (by omega) (Ev.bind (spec_paRow.ev l hl hx i (by omega)) ?_))
    rw [wrap_nat i (by omega), List.drop_eq_getElem_cons (l := rowsL [] l) (by omega), prodW_cons]
    exact ih (i + 1) _ (by omega)
theorem spec_CountWithOutcome.ev (l : List Int) (hl : l.length ≤ 1048576) : Ev (fun k => spec_CountWithOutcome.f k l) (cwoR l) := by
  simp only [spec_CountWithOutcome.f]
  unfold cwoR
  refine Ev.bind (spec_paOutcome.ev l hl) ?_
  by_cases e : isOrd l = true
  · have h := (isOrd_iff l).mp e
    rw [e, if_pos rfl]
    refine ev_pos rfl ?_
    have := spec_CountWithOutcome.evl l hl (fun x hx => by have := h.2.1 x hx; omega) l.length 0 1 (by omega)
    simpa using this
  · rw [if_neg e]
    exact ev_neg e (Ev.now _)

theorem impl_sorted.is (l : List Int) (hl : l.length ≤ 1048576) : impl_sorted.f l = some (Srt.srt l) := by
  unfold impl_sorted.f
  rw [if_pos hl]

theorem impl_isOrder.evl (l s : List Int) (hl : s.length ≤ 1048576) (d : Nat) : ∀ (i : Nat), i + d = s.length → Ev (fun k => impl_isOrder.l0 k l s (s.length : Int) (i : Int)) (idB i (s.drop i) && decide (l.length ≤ 8)) := by
  induction d with
  | zero =>
    intro i hi
    refine Ev.step (fun k => impl_isOrder.l0.eq_2 ..) (ev_neg (by omega) (ev_val (Ev.now _) ?_))
    rw [List.drop_of_length_le (by omega)]
    simp only [idB, Bool.true_and]
    rw [decide_eq_decide]
    omega
  | succ d ih =>
    intro i hi
    refine Ev.step (fun k => impl_isOrder.l0.eq_2 ..) (ev_pos (by omega) (ev_pos (by omega) (ev_pos (by omega) ?_)))
    rw [rd_nat s i (by omega), List.drop_eq_getElem_cons (by omega)]
    by_cases c : s[i]'(by omega) = (i : Int)
    · refine ev_pos c ?_
      rw [wrap_nat i (by omega)]
      refine ev_val (ih (i + 1) (by omega)) ?_
      simp only [idB]
      rw [decide_eq_true c, Bool.true_and]
    · refine ev_neg c (ev_val (Ev.now _) ?_)
      simp only [idB]
      rw [decide_eq_false c]
      rfl
theorem impl_isOrder.ev (l : List Int) (hl : l.length ≤ 1048576) : Ev (fun k => impl_isOrder.f k l) (isOrd l) := by
  simp only [impl_isOrder.f]
  refine Ev.bind (ev_eq (impl_sorted.is l hl)) ?_
  refine ev_val (impl_isOrder.evl l (Srt.srt l) (by rw [Srt.srt_len]; exact hl) (Srt.srt l).length 0 (by omega)) ?_
  rw [List.drop_zero]
  exact isOrd_srt l

/-- the table t tells which places are in out -/
def Tk (p : Int) (out : List Int) (t : List Bool) : Prop := t.length = p.toNat ∧ ∀ j : Int, 0 ≤ j → j < p → (rdOf false t j = true ↔ j ∈ out)
theorem Tk_set (p : Int) (out : List Int) (t : List Bool) (h : Tk p out t) (x : Int) (h0 : 0 ≤ x) (h1 : x < p) : Tk p (out ++ [x]) (t.set x.toNat true) := by
  refine ⟨by rw [List.length_set]; exact h.1, fun j j0 j1 => ?_⟩
  have hl := h.1
  have hj := h.2 j j0 j1
  unfold rdOf at hj ⊢
  rw [List.getD_eq_getElem?_getD] at hj ⊢
  rw [List.getElem?_set]
  by_cases e : x.toNat = j.toNat
  · have e' : j = x := by omega
    subst e'
    rw [if_pos rfl, if_pos (by omega)]
    simp
  · rw [if_neg e]
    rw [hj]
    have e' : ¬ j = x := by omega
    simp [e']

theorem impl_rows.ev1 (l : List Int) (p : Int) (t : List Bool) (out m : List Int) (x : Int) (i : Nat) (r : List Int) (ht : Tk p m t) (h0 : 0 ≤ x) (hx : x < p) (hp : p ≤ 1048576) (ho : out.length ≤ 1048576) (hc : Ev (fun k => impl_rows.l0 k t (out ++ [((run m x : Nat) : Int)]) l (l.length : Int) (wrap64 ((i : Int) + 1))) r) : ∀ (d n : Nat), (x + 1).toNat = n + d → run m (x - (n : Int)) + n = run m x → Ev (fun k => impl_rows.l1 k t out x (n : Int) l (l.length : Int) (i : Int)) r
  | 0, n, hd, hn => by
    refine Ev.step (fun k => impl_rows.l1.eq_2 ..) (ev_neg (by omega) (ev_pos (by omega) ?_))
    rw [run_stop m (x - (n : Int)) (.inl (by omega))] at hn
    rw [show (n : Int) = ((run m x : Nat) : Int) by omega]
    exact hc
  | d + 1, n, hd, hn => by
    have hlen := ht.1
    refine Ev.step (fun k => impl_rows.l1.eq_2 ..) (ev_pos (by omega) ?_)
    rw [wrap_id (x - (n : Int)) (by omega) (by omega)]
    refine ev_pos (by omega) (ev_pos (by omega) ?_)
    by_cases hm : x - (n : Int) ∈ m
    · refine ev_pos ((ht.2 _ (by omega) (by omega)).mpr hm) ?_
      rw [wrap_nat n (by omega)]
      rw [run_go m _ (by omega) hm] at hn
      refine impl_rows.ev1 l p t out m x i r ht h0 hx hp ho hc d (n + 1) (by omega) ?_
      rw [show x - ((n + 1 : Nat) : Int) = x - (n : Int) - 1 by omega]
      omega
    · refine ev_neg (fun h => hm ((ht.2 _ (by omega) (by omega)).mp h)) (ev_pos (by omega) ?_)
      rw [run_stop m _ (.inr hm)] at hn
      rw [show (n : Int) = ((run m x : Nat) : Int) by omega]
      exact hc
theorem impl_rows.evl (l : List Int) (p : Int) (hp : p ≤ 1048576) (hl : l.length ≤ 1048576) (hx : ∀ x ∈ l, 0 ≤ x ∧ x < p) (d : Nat) : ∀ (i : Nat) (t : List Bool) (out : List Int), i + d = l.length → out.length = i → Tk p (l.take i) t → Ev (fun k => impl_rows.l0 k t out l (l.length : Int) (i : Int)) (out ++ rowsL (l.take i) (l.drop i)) := by
  induction d with
  | zero =>
    intro i t out hi ho ht
    refine Ev.step (fun k => impl_rows.l0.eq_2 ..) (ev_neg (by omega) (ev_val (Ev.now _) ?_))
    rw [List.drop_of_length_le (by omega)]
    simp [rowsL]
  | succ d ih =>
    intro i t out hi ho ht
    have hxi := hx (l[i]'(by omega)) (List.getElem_mem _)
    have hlen := ht.1
    have et : l.take (i + 1) = l.take i ++ [l[i]'(by omega)] := List.take_succ_eq_append_getElem (by omega)
    have ht2 : Tk p (l.take (i + 1)) (t.set (l[i]'(by omega)).toNat true) := by
      rw [et]
      exact Tk_set p _ t ht _ hxi.1 hxi.2
    have hr : run (l.take (i + 1)) (l[i]'(by omega)) = run (l.take i) ((l[i]'(by omega)) - 1) + 1 := by
      rw [run_go _ _ hxi.1 (by rw [et]; exact List.mem_append.mpr (.inr (List.mem_singleton.mpr rfl))), et, run_more _ _ _ (by omega)]
    refine Ev.step (fun k => impl_rows.l0.eq_2 ..) (ev_pos (by omega) (ev_pos (by omega) (ev_pos (by omega) ?_)))
    rw [rd_nat l i (by omega)]
    refine ev_pos hxi.1 (ev_pos (by omega) ?_)
    refine impl_rows.ev1 l p _ out (l.take (i + 1)) (l[i]'(by omega)) i _ ht2 hxi.1 hxi.2 hp (by omega) ?_ _ 0 (by rw [Nat.zero_add]) (by simp)
    rw [wrap_nat i (by omega), hr]
    refine ev_val (ih (i + 1) _ _ (by omega) (by simp; omega) ht2) ?_
    rw [List.drop_eq_getElem_cons (l := l) (i := i) (by omega), et]
    simp only [rowsL, List.append_assoc, List.singleton_append]
theorem impl_rows.ev (l : List Int) (hl : l.length ≤ 1048576) (hx : ∀ x ∈ l, 0 ≤ x ∧ x ≤ (l.length : Int) - 1) : Ev (fun k => impl_rows.f k l) (rowsL [] l) := by
  simp only [impl_rows.f]
  refine ev_pos (by omega) (ev_pos (by omega) ?_)
  have := impl_rows.evl l (l.length : Int) (by omega) hl (fun x h => by have := hx x h; omega) l.length 0 (List.replicate ((l.length : Int)).toNat false) [] (by omega) rfl ⟨by simp, fun j j0 j1 => by
    unfold rdOf
    rw [List.getD_eq_getElem?_getD, List.getElem?_replicate]
    split <;> simp⟩
  simpa using this

theorem impl_CountWithOutcome.evl (s : List Int) (hl : s.length ≤ 1048576) (d : Nat) : ∀ (i : Nat) (a : Int), i + d = s.length → Ev (fun k => impl_CountWithOutcome.l0 k a s (s.length : Int) (i : Int)) (prodW a (s.drop i), true) := by
  induction d with
  | zero =>
    intro i a hi
    refine Ev.step (fun k => impl_CountWithOutcome.l0.eq_2 ..) (ev_neg (by omega) (ev_val (Ev.now _) ?_))
    rw [List.drop_of_length_le (by omega)]
    rfl
  | succ d ih =>
    intro i a hi
    refine Ev.step (fun k => impl_CountWithOutcome.l0.eq_2 ..) (ev_pos (by omega) (ev_pos (by omega) (ev_pos (by omega) ?_)))
    rw [wrap_nat i (by omega), rd_nat s i (by omega), List.drop_eq_getElem_cons (l := s) (by omega), prodW_cons]
    exact ih (i + 1) _ (by omega)
theorem impl_CountWithOutcome.ev (l : List Int) (hl : l.length ≤ 1048576) : Ev (fun k => impl_CountWithOutcome.f k l) (cwoR l) := by
  simp only [impl_CountWithOutcome.f]
  unfold cwoR
  refine Ev.bind (impl_isOrder.ev l hl) ?_
  by_cases e : isOrd l = true
  · have h := (isOrd_iff l).mp e
    rw [e, if_pos rfl]
    refine ev_pos rfl (Ev.bind (impl_rows.ev l hl h.2.1) ?_)
    have := impl_CountWithOutcome.evl (rowsL [] l) (by rw [rowsL_len]; exact hl) (rowsL [] l).length 0 1 (by omega)
    simpa using this
  · rw [if_neg e]
    exact ev_neg e (Ev.now _)

end Go.Proofs.Ytdiohjdfiambhaa.QFnExactCountWithOutcome
