/- Proved here: what the Lean functions printed for the Go functions of law FnExactSortedFits compute, in words of lists and whole numbers, for lists shorter than 2^62. -/
import Derived.Test.YtdiohjdfiambhaaQFnExactSortedFitsx
import Derived.Test.YtdiohjdfiambhaaMDrive
import Derived.Test.YtdiohjdfiambhaaMCrit
import Derived.Test.YtdiohjdfiambhaaMCircle
import Derived.Test.YtdiohjdfiambhaaMRing
import Derived.Test.YtdiohjdfiambhaaMLesser
import Derived.Test.YtdiohjdfiambhaaMSort
namespace Go.Proofs.Ytdiohjdfiambhaa.QFnExactSortedFits
open Go.RowKit Go.Proofs.YtdiohjdfiambhaaW.PrintWords Go.Proofs.YtdiohjdfiambhaaW.PrintLast Go.Proofs.Ytdiohjdfiambhaa.Math
set_option linter.unusedVariables false
set_option linter.unusedSimpArgs false

theorem ev_pos {α : Type} {c : Prop} [Decidable c] {g f : Nat → Option α} {r : α} (h : c) (k : Ev g r) : Ev (fun n => if c then g n else f n) r := by
  obtain ⟨K, hK⟩ := k
  exact ⟨K, fun n hn => by simp only [if_pos h]; exact hK n hn⟩
theorem ev_neg {α : Type} {c : Prop} [Decidable c] {g f : Nat → Option α} {r : α} (h : ¬ c) (k : Ev f r) : Ev (fun n => if c then g n else f n) r := by
  obtain ⟨K, hK⟩ := k
  exact ⟨K, fun n hn => by simp only [if_neg h]; exact hK n hn⟩
theorem ev_eq {α : Type} {g : Option α} {r : α} (h : g = some r) : Ev (fun _ => g) r := ⟨0, fun _ _ => h⟩
theorem ev_val {α : Type} {g : Nat → Option α} {r q : α} (h : Ev g r) (e : r = q) : Ev g q := e ▸ h
theorem wrap_nat (i : Nat) (h : i < 4611686018427387904) : wrap64 ((i : Int) + 1) = ((i + 1 : Nat) : Int) := by
  unfold wrap64
  omega
theorem wrap_id (x : Int) (h : -9223372036854775808 ≤ x) (h' : x ≤ 9223372036854775807) : wrap64 x = x := by
  unfold wrap64
  omega
theorem rd_nat (l : List Int) (i : Nat) (h : i < l.length) : rd l (i : Int) = l[i] := by
  simp [rd, List.getD_eq_getElem?_getD, h]
theorem rd_int (l : List Int) (x : Int) (h0 : 0 ≤ x) (h : x < l.length) : rd l x = l[x.toNat]'(by omega) := by
  have e : x = ((x.toNat : Nat) : Int) := by omega
  have h2 : x.toNat < l.length := by omega
  rw [show rd l x = rd l ((x.toNat : Nat) : Int) by rw [← e]]
  exact rd_nat l x.toNat h2
/-- m, m + 1, .., n numbers -/
def marks : Int → Nat → List Int
  | _, 0 => []
  | m, n + 1 => m :: marks (m + 1) n
theorem marks_len : ∀ (n : Nat) (m : Int), (marks m n).length = n
  | 0, _ => rfl
  | n + 1, m => by simp [marks, marks_len n]
theorem take_set_succ (y l : List Int) (i : Nat) (hi : i < l.length) (hy : y.length = l.length) (h : y.take i = l.take i) : (y.set i l[i]).take (i + 1) = l.take (i + 1) := by
  rw [List.take_succ_eq_append_getElem (by simp; omega), List.take_succ_eq_append_getElem hi, List.take_set_of_le (Nat.le_refl i), h, List.getElem_set_self]
/-- all numbers lie from lo to hi -/
def inAll (lo hi : Int) (l : List Int) : Bool := l.all fun x => decide (lo ≤ x) && decide (x ≤ hi)
theorem inAll_iff (lo hi : Int) (l : List Int) : inAll lo hi l = true ↔ ∀ x ∈ l, lo ≤ x ∧ x ≤ hi := by
  simp [inAll]

theorem spec_l1In.is (x lo hi : Int) : spec_l1In.f x lo hi = some (decide (lo ≤ x) && decide (x ≤ hi)) := by
  unfold spec_l1In.f
  by_cases h : x ≥ lo
  · rw [if_pos h, decide_eq_true (show lo ≤ x from h), Bool.true_and]
  · rw [if_neg h, decide_eq_false (show ¬ lo ≤ x from h), Bool.false_and]

theorem spec_l1All.evl (lo hi : Int) (l : List Int) (hl : l.length < 4611686018427387904) (d : Nat) : ∀ (i : Nat), i + d = l.length → Ev (fun k => spec_l1All.l0 k lo hi l (l.length : Int) (i : Int)) (inAll lo hi (l.drop i)) := by
  induction d with
  | zero =>
    intro i hi0
    refine Ev.step (fun k => spec_l1All.l0.eq_2 ..) ?_
    refine ev_neg (by omega) ?_
    refine ev_val (Ev.now _) ?_
    rw [List.drop_of_length_le (by omega)]
    rfl
  | succ d ih =>
    intro i hi0
    refine Ev.step (fun k => spec_l1All.l0.eq_2 ..) ?_
    refine ev_pos (by omega) (ev_pos (by omega) (ev_pos (by omega) ?_))
    rw [wrap_nat i (by omega), rd_nat l i (by omega), List.drop_eq_getElem_cons (by omega), spec_l1In.is]
    refine Ev.bind (Ev.now _) ?_
    have u : inAll lo hi (l[i] :: l.drop (i + 1)) = ((decide (lo ≤ l[i]) && decide (l[i] ≤ hi)) && inAll lo hi (l.drop (i + 1))) := rfl
    rw [u]
    generalize (decide (lo ≤ l[i]) && decide (l[i] ≤ hi)) = b
    cases b with
    | true => exact ev_pos rfl (ih (i + 1) (by omega))
    | false => exact ev_neg (by decide) (Ev.now _)
theorem spec_l1All.ev (l : List Int) (lo hi : Int) (hl : l.length < 4611686018427387904) : Ev (fun k => spec_l1All.f k l lo hi) (inAll lo hi l) := by
  simp only [spec_l1All.f]
  exact spec_l1All.evl lo hi l hl l.length 0 (by omega)

theorem spec_paAsked.ev (l : List Int) (hl : l.length < 4611686018427387904) : Ev (fun k => spec_paAsked.f k l) (decide (l.length ≤ 8) && inAll 0 99 l) := by
  simp only [spec_paAsked.f]
  by_cases h8 : l.length ≤ 8
  · rw [decide_eq_true h8]
    exact ev_pos (by omega) (Ev.bind (spec_l1All.ev l 0 99 hl) (Ev.now _))
  · rw [decide_eq_false h8]
    exact ev_neg (by omega) (Ev.now _)

theorem spec_l1Own.is (l : List Int) (hl : l.length ≤ 1048576) : spec_l1Own.f l = some l := by
  simp only [spec_l1Own.f, Option.bind_some, List.length_nil, Nat.zero_add, List.nil_append]
  rw [if_pos (by omega)]

theorem srt_perm (l : List Int) : (Srt.srt l).Perm l := List.mergeSort_perm _ _
theorem srt_up (l : List Int) : up2 (Srt.srt l) := by
  rw [up2_pairwise]
  have h := List.pairwise_mergeSort (le := fun x y : Int => decide (x ≤ y)) (fun a b c h1 h2 => by
    simp only [decide_eq_true_eq] at h1 h2 ⊢
    omega) (fun a b => by
    simp only [Bool.or_eq_true, decide_eq_true_eq]
    omega) l
  exact h.imp (fun h => by simpa using h)
theorem srt_eq (l s : List Int) (hp : s.Perm l) (hs : up2 s) : s = Srt.srt l := up2_eq s (Srt.srt l) hs (srt_up l) (hp.trans (srt_perm l).symm)
theorem ins_up (s : List Int) (j : Nat) (x : Int) (hs : up2 s) (h1 : ∀ y ∈ s.take j, y ≤ x) (h2 : ∀ y ∈ s.drop j, x ≤ y) : up2 ((s.take j ++ [x]) ++ s.drop j) := by
  rw [up2_pairwise] at hs ⊢
  have hs' : (s.take j ++ s.drop j).Pairwise (fun a b => a ≤ b) := by rw [List.take_append_drop]; exact hs
  rw [List.pairwise_append] at hs'
  obtain ⟨a, b, c⟩ := hs'
  rw [List.pairwise_append, List.pairwise_append]
  refine ⟨⟨a, by simp, fun y hy z hz => ?_⟩, b, fun y hy z hz => ?_⟩
  · simp only [List.mem_singleton] at hz
    rw [hz]
    exact h1 y hy
  · rcases List.mem_append.mp hy with hy | hy
    · exact c y hy z hz
    · simp only [List.mem_singleton] at hy
      rw [hy]
      exact h2 z hz
theorem ins_perm (s : List Int) (j : Nat) (x : Int) : ((s.take j ++ [x]) ++ s.drop j).Perm (s ++ [x]) := by
  have e : s ++ [x] = (s.take j ++ s.drop j) ++ [x] := by rw [List.take_append_drop]
  rw [e, List.append_assoc, List.append_assoc]
  exact List.Perm.append_left _ List.perm_append_comm

theorem spec_paSorted.ev1 (l s : List Int) (x n : Int) (i : Nat) (r : List Int) (hs : up2 s) (hl : s.length ≤ 1048576) (hi : i < 1048576) (hc : ∀ j, j ≤ s.length → (∀ y ∈ s.take j, y ≤ x) → (∀ y ∈ s.drop j, x ≤ y) → Ev (fun k => spec_paSorted.l0 k ((s.take j ++ [x]) ++ s.drop j) l n ((i + 1 : Nat) : Int)) r) (d : Nat) : ∀ (j : Nat), j + d = s.length → (∀ y ∈ s.take j, y ≤ x) → Ev (fun k => spec_paSorted.l1 k s x (j : Int) l n (i : Int)) r := by
  have fin : ∀ j, j ≤ s.length → (∀ y ∈ s.take j, y ≤ x) → (∀ y ∈ s.drop j, x ≤ y) → Ev (fun k => (spec_l1Own.f (s.take ((j : Int) : Int).toNat)).bind fun t => (if t.length < 17592186044416 then ((some (t ++ [x] : List Int)).bind fun y => ((some (s.drop ((j : Int) : Int).toNat : List Int)).bind fun z => (if y.length + z.length < 17592186044416 then (spec_paSorted.l0 k (y ++ z) l n (wrap64 ((i : Int) + 1))) else (none)))) else (none))) r := by
    intro j hj h1 h2
    rw [Int.toNat_natCast, wrap_nat i (by omega)]
    exact Ev.bind (ev_eq (spec_l1Own.is _ (by rw [List.length_take]; omega))) (ev_pos (by rw [List.length_take]; omega) (Ev.bind (ev_eq rfl) (Ev.bind (ev_eq rfl) (ev_pos (by simp only [List.length_append, List.length_take, List.length_drop, List.length_cons, List.length_nil]; omega) (hc j hj h1 h2)))))
  induction d with
  | zero =>
    intro j hj h1
    refine Ev.step (fun k => spec_paSorted.l1.eq_2 ..) (ev_neg (by omega) (ev_pos (by omega) (ev_pos (by omega) ?_)))
    exact fin j (by omega) h1 (fun y hy => by rw [List.drop_of_length_le (by omega)] at hy; cases hy)
  | succ d ih =>
    intro j hj h1
    refine Ev.step (fun k => spec_paSorted.l1.eq_2 ..) (ev_pos (by omega) (ev_pos (by omega) ?_))
    rw [rd_nat s j (by omega)]
    by_cases c : s[j]'(by omega) ≤ x
    · refine ev_pos c ?_
      rw [wrap_nat j (by omega)]
      refine ih (j + 1) (by omega) (fun y hy => ?_)
      rw [List.take_succ_eq_append_getElem (by omega)] at hy
      rcases List.mem_append.mp hy with hy | hy
      · exact h1 y hy
      · simp only [List.mem_singleton] at hy
        rw [hy]
        exact c
    · refine ev_neg c (ev_pos (by omega) ?_)
      refine fin j (by omega) h1 (fun y hy => ?_)
      obtain ⟨m, hm, rfl⟩ := List.getElem_of_mem hy
      rw [List.length_drop] at hm
      rw [List.getElem_drop]
      have := up2_get s hs j (j + m) (by omega) (by omega) (by omega)
      omega
theorem spec_paSorted.evl (l : List Int) (hl : l.length ≤ 1048576) (d : Nat) : ∀ (i : Nat) (s : List Int), i + d = l.length → s.Perm (l.take i) → up2 s → Ev (fun k => spec_paSorted.l0 k s l (l.length : Int) (i : Int)) (Srt.srt l) := by
  induction d with
  | zero =>
    intro i s hi hp hs
    rw [List.take_of_length_le (by omega)] at hp
    refine Ev.step (fun k => spec_paSorted.l0.eq_2 ..) (ev_neg (by omega) (ev_val (Ev.now _) ?_))
    exact srt_eq l s hp hs
  | succ d ih =>
    intro i s hi hp hs
    have hsl := hp.length_eq
    rw [List.length_take] at hsl
    refine Ev.step (fun k => spec_paSorted.l0.eq_2 ..) (ev_pos (by omega) (ev_pos (by omega) (ev_pos (by omega) ?_)))
    rw [rd_nat l i (by omega)]
    refine spec_paSorted.ev1 l s (l[i]'(by omega)) (l.length : Int) i _ hs (by omega) (by omega) (fun j hj h1 h2 => ?_) s.length 0 (by omega) (by simp)
    refine ih (i + 1) _ (by omega) ?_ (ins_up s j _ hs h1 h2)
    refine (ins_perm s j _).trans ?_
    rw [List.take_succ_eq_append_getElem (by omega)]
    exact List.Perm.append_right _ hp
theorem spec_paSorted.ev (l : List Int) (hl : l.length ≤ 1048576) : Ev (fun k => spec_paSorted.f k l) (Srt.srt l) := by
  simp only [spec_paSorted.f]
  exact spec_paSorted.evl l hl l.length 0 [] (by omega) (by simp) trivial

/-- each number at most its index, from i on -/
def fitB : Nat → List Int → Bool
  | _, [] => true
  | i, x :: l => decide (x ≤ (i : Int)) && fitB (i + 1) l
def fitR (l : List Int) : Bool × Bool := if (decide (l.length ≤ 8) && inAll 0 99 l) = true then (fitB 0 (Srt.srt l), true) else (false, false)

theorem spec_SortedFits.evl (s : List Int) (hl : s.length ≤ 1048576) (d : Nat) : ∀ (i : Nat), i + d = s.length → Ev (fun k => spec_SortedFits.l0 k s (s.length : Int) (i : Int)) (fitB i (s.drop i), true) := by
  induction d with
  | zero =>
    intro i hi
    refine Ev.step (fun k => spec_SortedFits.l0.eq_2 ..) (ev_neg (by omega) (ev_val (Ev.now _) ?_))
    rw [List.drop_of_length_le (by omega)]
    rfl
  | succ d ih =>
    intro i hi
    refine Ev.step (fun k => spec_SortedFits.l0.eq_2 ..) (ev_pos (by omega) (ev_pos (by omega) (ev_pos (by omega) ?_)))
    rw [rd_nat s i (by omega), List.drop_eq_getElem_cons (by omega)]
    by_cases c : s[i]'(by omega) > (i : Int)
    · refine ev_pos c (ev_val (Ev.now _) ?_)
      simp only [fitB]
      rw [decide_eq_false (by omega), Bool.false_and]
    · refine ev_neg c ?_
      rw [wrap_nat i (by omega)]
      refine ev_val (ih (i + 1) (by omega)) ?_
      simp only [fitB]
      rw [decide_eq_true (by omega), Bool.true_and]
theorem spec_SortedFits.ev (l : List Int) (hl : l.length ≤ 1048576) : Ev (fun k => spec_SortedFits.f k l) (fitR l) := by
  simp only [spec_SortedFits.f]
  unfold fitR
  refine Ev.bind (spec_paAsked.ev l (by omega)) ?_
  cases e : (decide (l.length ≤ 8) && inAll 0 99 l) with
  | true =>
    have h := spec_SortedFits.evl (Srt.srt l) (by rw [Srt.srt_len]; exact hl) (Srt.srt l).length 0 (by omega)
    exact ev_pos rfl (Ev.bind (spec_paSorted.ev l hl) (by simpa using h))
  | false => exact ev_neg (by decide) (Ev.now _)

theorem laws_toIntS.evl (l : List Int) (hl : l.length < 4611686018427387904) (d : Nat) : ∀ (i : Nat) (y : List Int), i + d = l.length → y.length = l.length → y.take i = l.take i → Ev (fun k => laws_toIntS.l0 k l y (i : Int)) l := by
  induction d with
  | zero =>
    intro i y hi hy ht
    refine Ev.step (fun k => laws_toIntS.l0.eq_2 ..) ?_
    refine ev_neg (by omega) ?_
    refine ev_val (Ev.now _) ?_
    rw [show i = l.length by omega] at ht
    rw [List.take_of_length_le (by omega), List.take_of_length_le (by omega)] at ht
    exact ht
  | succ d ih =>
    intro i y hi hy ht
    refine Ev.step (fun k => laws_toIntS.l0.eq_2 ..) ?_
    refine ev_pos (by omega) (ev_pos (by omega) (ev_pos (by omega) ?_))
    rw [wrap_nat i (by omega), rd_nat l i (by omega), Int.toNat_natCast]
    exact ih (i + 1) _ (by omega) (by simp; omega) (take_set_succ y l i (by omega) hy ht)
theorem laws_toIntS.ev (l : List Int) (hl : l.length ≤ 1048576) : Ev (fun k => laws_toIntS.f k l) l := by
  simp only [laws_toIntS.f]
  refine ev_pos (by omega) (ev_pos (by omega) ?_)
  exact laws_toIntS.evl l (by omega) l.length 0 _ (by omega) (by simp) (by simp)

theorem impl_between.is (x lo hi : Int) : impl_between.f x lo hi = some (decide (lo ≤ x) && decide (x ≤ hi)) := by
  unfold impl_between.f
  by_cases h : x ≥ lo
  · rw [if_pos h, decide_eq_true (show lo ≤ x from h), Bool.true_and]
  · rw [if_neg h, decide_eq_false (show ¬ lo ≤ x from h), Bool.false_and]

theorem impl_areBetween.is (l : List Int) (lo hi : Int) (hl : l.length ≤ 35184372088832) : impl_areBetween.f l lo hi = some (inAll lo hi l) := by
  unfold impl_areBetween.f
  rw [if_pos hl]
  congr 1
  unfold inAll out_b
  induction l with
  | nil => rfl
  | cons x l ih =>
    rw [List.any_cons, List.all_cons, ← ih (by simp at hl; omega)]
    cases (decide (lo ≤ x) && decide (x ≤ hi)) <;> simp

theorem impl_areCars.is (l : List Int) (hl : l.length ≤ 35184372088832) : impl_areCars.f l = some (decide (l.length ≤ 8) && inAll 0 99 l) := by
  unfold impl_areCars.f
  by_cases h8 : l.length ≤ 8
  · rw [decide_eq_true h8, if_pos (by omega), impl_areBetween.is l 0 99 hl]
    rfl
  · rw [decide_eq_false h8, if_neg (by omega)]
    rfl

theorem impl_sorted.is (l : List Int) (hl : l.length ≤ 1048576) : impl_sorted.f l = some (Srt.srt l) := by
  unfold impl_sorted.f
  rw [if_pos hl]

theorem impl_SortedFits.evl (s : List Int) (hl : s.length ≤ 1048576) (d : Nat) : ∀ (i : Nat), i + d = s.length → Ev (fun k => impl_SortedFits.l0 k s (s.length : Int) (i : Int)) (fitB i (s.drop i), true) := by
  induction d with
  | zero =>
    intro i hi
    refine Ev.step (fun k => impl_SortedFits.l0.eq_2 ..) (ev_neg (by omega) (ev_val (Ev.now _) ?_))
    rw [List.drop_of_length_le (by omega)]
    rfl
  | succ d ih =>
    intro i hi
    refine Ev.step (fun k => impl_SortedFits.l0.eq_2 ..) (ev_pos (by omega) (ev_pos (by omega) (ev_pos (by omega) ?_)))
    rw [rd_nat s i (by omega), List.drop_eq_getElem_cons (by omega)]
    by_cases c : s[i]'(by omega) > (i : Int)
    · refine ev_pos c (ev_val (Ev.now _) ?_)
      simp only [fitB]
      rw [decide_eq_false (by omega), Bool.false_and]
    · refine ev_neg c ?_
      rw [wrap_nat i (by omega)]
      refine ev_val (ih (i + 1) (by omega)) ?_
      simp only [fitB]
      rw [decide_eq_true (by omega), Bool.true_and]
theorem impl_SortedFits.ev (l : List Int) (hl : l.length ≤ 1048576) : Ev (fun k => impl_SortedFits.f k l) (fitR l) := by
  simp only [impl_SortedFits.f]
  unfold fitR
  refine Ev.bind (ev_eq (impl_areCars.is l (by omega))) ?_
  cases e : (decide (l.length ≤ 8) && inAll 0 99 l) with
  | true =>
    have h := impl_SortedFits.evl (Srt.srt l) (by rw [Srt.srt_len]; exact hl) (Srt.srt l).length 0 (by omega)
    exact ev_pos rfl (Ev.bind (ev_eq (impl_sorted.is l hl)) (by simpa using h))
  | false => exact ev_neg (by decide) (Ev.now _)

theorem laws_eqIntS.evl (a b : List Int) (hl : a.length < 4611686018427387904) (h : a.length = b.length) (d : Nat) : ∀ (i : Nat), i + d = a.length → Ev (fun k => laws_eqIntS.l0 k a b (i : Int)) (decide (a.drop i = b.drop i)) := by
  induction d with
  | zero =>
    intro i hi
    refine Ev.step (fun k => laws_eqIntS.l0.eq_2 ..) ?_
    refine ev_neg (by omega) ?_
    refine ev_val (Ev.now _) ?_
    rw [List.drop_of_length_le (by omega), List.drop_of_length_le (by omega)]
    rfl
  | succ d ih =>
    intro i hi
    refine Ev.step (fun k => laws_eqIntS.l0.eq_2 ..) ?_
    refine ev_pos (by omega) (ev_pos (by omega) (ev_pos (by omega) ?_))
    rw [wrap_nat i (by omega), rd_nat a i (by omega), rd_nat b i (by omega)]
    rw [List.drop_eq_getElem_cons (l := a) (by omega), List.drop_eq_getElem_cons (l := b) (by omega)]
    by_cases e : a[i] = b[i]'(by omega)
    · refine ev_pos e (ev_val (ih (i + 1) (by omega)) ?_)
      simp only [List.cons.injEq, e, true_and]
    · refine ev_neg e (ev_val (Ev.now _) ?_)
      simp only [List.cons.injEq, e, false_and, decide_false]
theorem laws_eqIntS.ev (a b : List Int) (hl : a.length < 4611686018427387904) : Ev (fun k => laws_eqIntS.f k a b) (decide (a = b)) := by
  simp only [laws_eqIntS.f]
  by_cases h : a.length = b.length
  · refine ev_pos (by omega) (ev_val (laws_eqIntS.evl a b hl h a.length 0 (by omega)) ?_)
    simp
  · refine ev_neg (by omega) (ev_val (Ev.now _) ?_)
    exact (decide_eq_false (fun e => h (by rw [e]))).symm
theorem laws_eqIntS.ev_self (a : List Int) (hl : a.length < 4611686018427387904) : Ev (fun k => laws_eqIntS.f k a a) true := ev_val (laws_eqIntS.ev a a hl) (by simp)

end Go.Proofs.Ytdiohjdfiambhaa.QFnExactSortedFits
