/- Proved here: what the Lean functions printed for the Go functions of law FnExactCountOrders compute, in words of lists and whole numbers, for lists shorter than 2^62. -/
import Derived.Test.YtdiohjdfiambhaaQFnExactCountOrdersx
import Derived.Test.YtdiohjdfiambhaaMDrive
import Derived.Test.YtdiohjdfiambhaaMCrit
import Derived.Test.YtdiohjdfiambhaaMCircle
import Derived.Test.YtdiohjdfiambhaaMRing
import Derived.Test.YtdiohjdfiambhaaMLesser
import Derived.Test.YtdiohjdfiambhaaMSort
import Derived.Test.YtdiohjdfiambhaaMSum
import Derived.Test.YtdiohjdfiambhaaMOrd
import Derived.Test.YtdiohjdfiambhaaMRank
import Derived.Test.YtdiohjdfiambhaaMWays
namespace Go.Proofs.Ytdiohjdfiambhaa.QFnExactCountOrders
open Go.RowKit Go.Proofs.YtdiohjdfiambhaaW.PrintWords Go.Proofs.YtdiohjdfiambhaaW.PrintLast Go.Proofs.Ytdiohjdfiambhaa.Math
set_option linter.unusedVariables false
set_option linter.unusedSimpArgs false

theorem ev_pos {α : Type} {c : Prop} [Decidable c] {g f : Nat → Option α} {r : α} (h : c) (k : Ev g r) : Ev (fun n => if c then g n else f n) r := by
  obtain ⟨K, hK⟩ := k
  exact ⟨K, fun n hn => by simp only [if_pos h]; exact hK n hn⟩
theorem ev_neg {α : Type} {c : Prop} [Decidable c] {g f : Nat → Option α} {r : α} (h : ¬ c) (k : Ev f r) : Ev (fun n => if c then g n else f n) r := by
  obtain ⟨K, hK⟩ := k
  exact ⟨K, fun n hn => by simp only [if_neg h]; exact hK n hn⟩
theorem ev_eq {α : Type} {g : Option α} {r : α} (h : g = some r) : Ev (fun _ => g) r := ⟨0, fun _ _ => h⟩
theorem ev_val {α : Type} {g : Nat → Option α} {r q : α} (h : Ev g r) (e : r = q) : Ev g q := e ▸ h
theorem wrap_nat (i : Nat) (h : i < 4611686018427387904) : wrap64 ((i : Int) + 1) = ((i + 1 : Nat) : Int) := by
  unfold wrap64
  omega
theorem wrap_id (x : Int) (h : -9223372036854775808 ≤ x) (h' : x ≤ 9223372036854775807) : wrap64 x = x := by
  unfold wrap64
  omega
theorem rd_nat (l : List Int) (i : Nat) (h : i < l.length) : rd l (i : Int) = l[i] := by
  simp [rd, List.getD_eq_getElem?_getD, h]
theorem rd_int (l : List Int) (x : Int) (h0 : 0 ≤ x) (h : x < l.length) : rd l x = l[x.toNat]'(by omega) := by
  have e : x = ((x.toNat : Nat) : Int) := by omega
  have h2 : x.toNat < l.length := by omega
  rw [show rd l x = rd l ((x.toNat : Nat) : Int) by rw [← e]]
  exact rd_nat l x.toNat h2
/-- m, m + 1, .., n numbers -/
def marks : Int → Nat → List Int
  | _, 0 => []
  | m, n + 1 => m :: marks (m + 1) n
theorem marks_len : ∀ (n : Nat) (m : Int), (marks m n).length = n
  | 0, _ => rfl
  | n + 1, m => by simp [marks, marks_len n]
theorem take_set_succ (y l : List Int) (i : Nat) (hi : i < l.length) (hy : y.length = l.length) (h : y.take i = l.take i) : (y.set i l[i]).take (i + 1) = l.take (i + 1) := by
  rw [List.take_succ_eq_append_getElem (by simp; omega), List.take_succ_eq_append_getElem hi, List.take_set_of_le (Nat.le_refl i), h, List.getElem_set_self]
/-- all numbers lie from lo to hi -/
def inAll (lo hi : Int) (l : List Int) : Bool := l.all fun x => decide (lo ≤ x) && decide (x ≤ hi)
theorem inAll_iff (lo hi : Int) (l : List Int) : inAll lo hi l = true ↔ ∀ x ∈ l, lo ≤ x ∧ x ≤ hi := by
  simp [inAll]

theorem laws_toIntS.evl (l : List Int) (hl : l.length < 4611686018427387904) (d : Nat) : ∀ (i : Nat) (y : List Int), i + d = l.length → y.length = l.length → y.take i = l.take i → Ev (fun k => laws_toIntS.l0 k l y (i : Int)) l := by
  induction d with
  | zero =>
    intro i y hi hy ht
    refine Ev.step (fun k => laws_toIntS.l0.eq_2 ..) ?_
    refine ev_neg (by omega) ?_
    refine ev_val (Ev.now _) ?_
    rw [show i = l.length by omega] at ht
    rw [List.take_of_length_le (by omega), List.take_of_length_le (by omega)] at ht
    exact ht
  | succ d ih =>
    intro i y hi hy ht
    refine Ev.step (fun k => laws_toIntS.l0.eq_2 ..) ?_
    refine ev_pos (by omega) (ev_pos (by omega) (ev_pos (by omega) ?_))
    rw [wrap_nat i (by omega), rd_nat l i (by omega), Int.toNat_natCast]
    exact ih (i + 1) _ (by omega) (by simp; omega) (take_set_succ y l i (by omega) hy ht)
theorem laws_toIntS.ev (l : List Int) (hl : l.length ≤ 1048576) : Ev (fun k => laws_toIntS.f k l) l := by
  simp only [laws_toIntS.f]
  refine ev_pos (by omega) (ev_pos (by omega) ?_)
  exact laws_toIntS.evl l (by omega) l.length 0 _ (by omega) (by simp) (by simp)

theorem laws_eqIntS.evl (a b : List Int) (hl : a.length < 4611686018427387904) (h : a.length = b.length) (d : Nat) : ∀ (i : Nat), i + d = a.length → Ev (fun k => laws_eqIntS.l0 k a b (i : Int)) (decide (a.drop i = b.drop i)) := by
  induction d with
  | zero =>
    intro i hi
    refine Ev.step (fun k => laws_eqIntS.l0.eq_2 ..) ?_
    refine ev_neg (by omega) ?_
    refine ev_val (Ev.now _) ?_
    rw [List.drop_of_length_le (by omega), List.drop_of_length_le (by omega)]
    rfl
  | succ d ih =>
    intro i hi
    refine Ev.step (fun k => laws_eqIntS.l0.eq_2 ..) ?_
    refine ev_pos (by omega) (ev_pos (by omega) (ev_pos (by omega) ?_))
    rw [wrap_nat i (by omega), rd_nat a i (by omega), rd_nat b i (by omega)]
    rw [List.drop_eq_getElem_cons (l := a) (by omega), List.drop_eq_getElem_cons (l := b) (by omega)]
    by_cases e : a[i] = b[i]'(by omega)
    · refine ev_pos e (ev_val (ih (i + 1) (by omega)) ?_)
      simp only [List.cons.injEq, e, true_and]
    · refine ev_neg e (ev_val (Ev.now _) ?_)
      simp only [List.cons.injEq, e, false_and, decide_false]
theorem laws_eqIntS.ev (a b : List Int) (hl : a.length < 4611686018427387904) : Ev (fun k => laws_eqIntS.f k a b) (decide (a = b)) := by
  simp only [laws_eqIntS.f]
  by_cases h : a.length = b.length
  · refine ev_pos (by omega) (ev_val (laws_eqIntS.evl a b hl h a.length 0 (by omega)) ?_)
    simp
  · refine ev_neg (by omega) (ev_val (Ev.now _) ?_)
    exact (decide_eq_false (fun e => h (by rw [e]))).symm
theorem laws_eqIntS.ev_self (a : List Int) (hl : a.length < 4611686018427387904) : Ev (fun k => laws_eqIntS.f k a a) true := ev_val (laws_eqIntS.ev a a hl) (by simp)

theorem spec_l1Has.evl (x : Int) (l : List Int) (hl : l.length < 4611686018427387904) (d : Nat) : ∀ (i : Nat), i + d = l.length → Ev (fun k => spec_l1Has.l0 k x l (l.length : Int) (i : Int)) (decide (x ∈ l.drop i)) := by
  induction d with
  | zero =>
    intro i hi
    refine Ev.step (fun k => spec_l1Has.l0.eq_2 ..) ?_
    refine ev_neg (by omega) ?_
    refine ev_val (Ev.now _) ?_
    rw [List.drop_of_length_le (by omega)]
    simp
  | succ d ih =>
    intro i hi
    refine Ev.step (fun k => spec_l1Has.l0.eq_2 ..) ?_
    refine ev_pos (by omega) (ev_pos (by omega) (ev_pos (by omega) ?_))
    rw [wrap_nat i (by omega), rd_nat l i (by omega), List.drop_eq_getElem_cons (by omega)]
    by_cases e : l[i] = x
    · refine ev_pos e (ev_val (Ev.now _) ?_)
      simp [e]
    · refine ev_neg e (ev_val (ih (i + 1) (by omega)) ?_)
      simp only [List.mem_cons, show ¬ x = l[i] from fun h => e h.symm, false_or]
theorem spec_l1Has.ev (l : List Int) (x : Int) (hl : l.length < 4611686018427387904) : Ev (fun k => spec_l1Has.f k l x) (decide (x ∈ l)) := by
  simp only [spec_l1Has.f]
  exact spec_l1Has.evl x l hl l.length 0 (by omega)

theorem spec_paDrive.evl (p : Int) (hp : p ≤ 1048576) (l : List Int) (hl : l.length ≤ 1048576) (hx : ∀ x ∈ l, -1048576 ≤ x) (d : Nat) : ∀ (i : Nat) (out : List Int), i + d = l.length → out.length = i → Ev (fun k => spec_paDrive.l0 k p out l (l.length : Int) (i : Int)) (paD p out (l.drop i)) := by
  induction d with
  | zero =>
    intro i out hi ho
    refine Ev.step (fun k => spec_paDrive.l0.eq_2 ..) ?_
    refine ev_neg (by omega) ?_
    refine ev_val (Ev.now _) ?_
    rw [List.drop_of_length_le (by omega)]
    rfl
  | succ d ih =>
    intro i out hi ho
    refine Ev.step (fun k => spec_paDrive.l0.eq_2 ..) ?_
    refine ev_pos (by omega) (ev_pos (by omega) (ev_pos (by omega) ?_))
    rw [rd_nat l i (by omega), List.drop_eq_getElem_cons (by omega)]
    have hxi := hx l[i] (List.getElem_mem _)
    have inner : ∀ (m : Nat) (x : Int), (p - x).toNat = m → -1048576 ≤ x → Ev (fun k => spec_paDrive.l1 k p out x l (l.length : Int) (i : Int)) (paD p (out ++ [if land out p x < p then land out p x else -1]) (l.drop (i + 1))) := by
      intro m
      induction m with
      | zero =>
        intro x hm hx0
        refine Ev.step (fun k => spec_paDrive.l1.eq_2 ..) ?_
        refine ev_neg (by omega) (ev_pos (by omega) (ev_pos (by omega) ?_))
        rw [wrap_nat i (by omega), land_stop out p x (by omega), if_neg (by omega)]
        exact ih (i + 1) _ (by omega) (by simp; omega)
      | succ m ihm =>
        intro x hm hx0
        refine Ev.step (fun k => spec_paDrive.l1.eq_2 ..) ?_
        refine ev_pos (by omega) (Ev.bind (spec_l1Has.ev out x (by omega)) ?_)
        by_cases hh : x ∈ out
        · rw [decide_eq_true hh, land_go out p x (by omega) hh]
          refine ev_pos rfl ?_
          rw [wrap_id (x + 1) (by omega) (by omega)]
          exact ihm (x + 1) (by omega) (by omega)
        · rw [decide_eq_false hh, land_stop out p x (fun h => hh h.2), if_pos (by omega)]
          refine ev_neg (by decide) (ev_neg (by omega) (ev_pos (by omega) ?_))
          rw [wrap_nat i (by omega)]
          exact ih (i + 1) _ (by omega) (by simp; omega)
    exact inner _ l[i] rfl hxi
theorem spec_paDrive.ev (l : List Int) (p : Int) (hp : p ≤ 1048576) (hl : l.length ≤ 1048576) (hx : ∀ x ∈ l, -1048576 ≤ x) : Ev (fun k => spec_paDrive.f k l p) (paD p [] l) := by
  simp only [spec_paDrive.f]
  exact spec_paDrive.evl p hp l hl hx l.length 0 [] (by omega) rfl

theorem paD_length (p : Int) : ∀ (l out : List Int), (paD p out l).length = out.length + l.length
  | [], out => by simp [paD]
  | x :: l, out => by
    have := paD_length p l (out ++ [if land out p x < p then land out p x else -1])
    simp only [paD, this, List.length_append, List.length_cons, List.length_nil]
    omega

theorem spec_paAll.ev (l : List Int) (p : Int) (hp : p ≤ 1048576) (hl : l.length ≤ 1048576) (hx : ∀ x ∈ l, 0 ≤ x) : Ev (fun k => spec_paAll.f k l p) (allPark l p) := by
  simp only [spec_paAll.f]
  refine Ev.bind (spec_paDrive.ev l p hp hl (fun x h => by have := hx x h; omega)) (Ev.bind (spec_l1Has.ev _ _ (by rw [paD_length]; simp; omega)) ?_)
  refine ev_val (Ev.now _) ?_
  rw [allPark_paD l p hx]
  simp

theorem spec_l1In.is (x lo hi : Int) : spec_l1In.f x lo hi = some (decide (lo ≤ x) && decide (x ≤ hi)) := by
  unfold spec_l1In.f
  by_cases h : x ≥ lo
  · rw [if_pos h, decide_eq_true (show lo ≤ x from h), Bool.true_and]
  · rw [if_neg h, decide_eq_false (show ¬ lo ≤ x from h), Bool.false_and]

theorem spec_l1All.evl (lo hi : Int) (l : List Int) (hl : l.length < 4611686018427387904) (d : Nat) : ∀ (i : Nat), i + d = l.length → Ev (fun k => spec_l1All.l0 k lo hi l (l.length : Int) (i : Int)) (inAll lo hi (l.drop i)) := by
  induction d with
  | zero =>
    intro i hi0
    refine Ev.step (fun k => spec_l1All.l0.eq_2 ..) ?_
    refine ev_neg (by omega) ?_
    refine ev_val (Ev.now _) ?_
    rw [List.drop_of_length_le (by omega)]
    rfl
  | succ d ih =>
    intro i hi0
    refine Ev.step (fun k => spec_l1All.l0.eq_2 ..) ?_
    refine ev_pos (by omega) (ev_pos (by omega) (ev_pos (by omega) ?_))
    rw [wrap_nat i (by omega), rd_nat l i (by omega), List.drop_eq_getElem_cons (by omega), spec_l1In.is]
    refine Ev.bind (Ev.now _) ?_
    have u : inAll lo hi (l[i] :: l.drop (i + 1)) = ((decide (lo ≤ l[i]) && decide (l[i] ≤ hi)) && inAll lo hi (l.drop (i + 1))) := rfl
    rw [u]
    generalize (decide (lo ≤ l[i]) && decide (l[i] ≤ hi)) = b
    cases b with
    | true => exact ev_pos rfl (ih (i + 1) (by omega))
    | false => exact ev_neg (by decide) (Ev.now _)
theorem spec_l1All.ev (l : List Int) (lo hi : Int) (hl : l.length < 4611686018427387904) : Ev (fun k => spec_l1All.f k l lo hi) (inAll lo hi l) := by
  simp only [spec_l1All.f]
  exact spec_l1All.evl lo hi l hl l.length 0 (by omega)

theorem isPk_iff (l : List Int) : isPk l = true ↔ l.length ≤ 8 ∧ (∀ x ∈ l, 0 ≤ x ∧ x < l.length) ∧ allPark l l.length = true := by
  simp only [isPk, Bool.and_eq_true, decide_eq_true_eq, List.all_eq_true]
  constructor
  · rintro ⟨⟨h1, h2⟩, h3⟩
    exact ⟨h1, fun x hx => by have := h2 x hx; omega, h3⟩
  · rintro ⟨h1, h2, h3⟩
    exact ⟨⟨h1, fun x hx => by have := h2 x hx; omega⟩, h3⟩
theorem spec_paParking.ev (l : List Int) (hl : l.length ≤ 1048576) : Ev (fun k => spec_paParking.f k l) (isPk l) := by
  simp only [spec_paParking.f]
  unfold isPk
  by_cases h8 : l.length ≤ 8
  · rw [decide_eq_true h8, wrap_id _ (by omega) (by omega)]
    refine ev_pos (by omega) (Ev.bind (spec_l1All.ev l 0 _ (by omega)) ?_)
    have u : inAll 0 ((l.length : Int) - 1) l = l.all fun x => decide (0 ≤ x) && decide (x ≤ (l.length : Int) - 1) := rfl
    rw [← u]
    cases e : inAll 0 ((l.length : Int) - 1) l with
    | true =>
      rw [inAll_iff] at e
      exact ev_pos rfl (Ev.bind (spec_paAll.ev l _ (by omega) hl (fun x hx => (e x hx).1)) (Ev.now _))
    | false => exact ev_neg (by decide) (Ev.now _)
  · rw [decide_eq_false h8]
    exact ev_neg (by omega) (Ev.now _)

theorem srt_perm (l : List Int) : (Srt.srt l).Perm l := List.mergeSort_perm _ _
theorem srt_up (l : List Int) : up2 (Srt.srt l) := by
  rw [up2_pairwise]
  have h := List.pairwise_mergeSort (le := fun x y : Int => decide (x ≤ y)) (fun a b c h1 h2 => by
    simp only [decide_eq_true_eq] at h1 h2 ⊢
    omega) (fun a b => by
    simp only [Bool.or_eq_true, decide_eq_true_eq]
    omega) l
  exact h.imp (fun h => by simpa using h)
theorem srt_eq (l s : List Int) (hp : s.Perm l) (hs : up2 s) : s = Srt.srt l := up2_eq s (Srt.srt l) hs (srt_up l) (hp.trans (srt_perm l).symm)
theorem ins_up (s : List Int) (j : Nat) (x : Int) (hs : up2 s) (h1 : ∀ y ∈ s.take j, y ≤ x) (h2 : ∀ y ∈ s.drop j, x ≤ y) : up2 ((s.take j ++ [x]) ++ s.drop j) := by
  rw [up2_pairwise] at hs ⊢
  have hs' : (s.take j ++ s.drop j).Pairwise (fun a b => a ≤ b) := by rw [List.take_append_drop]; exact hs
  rw [List.pairwise_append] at hs'
  obtain ⟨a, b, c⟩ := hs'
  rw [List.pairwise_append, List.pairwise_append]
  refine ⟨⟨a, by simp, fun y hy z hz => ?_⟩, b, fun y hy z hz => ?_⟩
  · simp only [List.mem_singleton] at hz
    rw [hz]
    exact h1 y hy
  · rcases List.mem_append.mp hy with hy | hy
    · exact c y hy z hz
    · simp only [List.mem_singleton] at hy
      rw [hy]
      exact h2 z hz
theorem ins_perm (s : List Int) (j : Nat) (x : Int) : ((s.take j ++ [x]) ++ s.drop j).Perm (s ++ [x]) := by
  have e : s ++ [x] = (s.take j ++ s.drop j) ++ [x] := by rw [List.take_append_drop]
  rw [e, List.append_assoc, List.append_assoc]
  exact List.Perm.append_left _ List.perm_append_comm

theorem compact_rise (s : List Int) (hs : up2 s) : (Lib.compact s).Pairwise (fun x y => x < y) := by
  unfold Lib.compact Lib.compactUpTo
  rw [List.pairwise_map]
  have h := (List.pairwise_lt_range (n := s.length)).filter (Lib.keeps s.toArray)
  refine h.imp_of_mem (fun {a b} ha hb hab => ?_)
  rw [List.mem_filter, List.mem_range] at ha hb
  have hk : s.toArray[b]! ≠ s.toArray[b - 1]! := by
    have := hb.2
    unfold Lib.keeps at this
    rw [decide_eq_true_eq] at this
    rcases this with h | h
    · omega
    · exact h
  have e : ∀ i (h : i < s.length), s.toArray[i]! = s[i] := fun i h => by simp [h]
  rw [e b hb.1, e (b - 1) (by omega)] at hk
  rw [e a ha.1, e b hb.1]
  have h1 := up2_get s hs a (b - 1) ha.1 (by omega) (by omega)
  have h2 := up2_get s hs (b - 1) b (by omega) hb.1 (by omega)
  omega
theorem compact_mem (s : List Int) (x : Int) : x ∈ Lib.compact s ↔ x ∈ s := by
  have e : ∀ i (h : i < s.length), s.toArray[i]! = s[i] := fun i h => by simp [h]
  unfold Lib.compact Lib.compactUpTo
  rw [List.mem_map]
  constructor
  · rintro ⟨i, hi, rfl⟩
    rw [List.mem_filter, List.mem_range] at hi
    rw [e i hi.1]
    exact List.getElem_mem _
  · intro hx
    obtain ⟨i, hi, rfl⟩ := List.getElem_of_mem hx
    have key : ∀ (j : Nat) (hj : j < s.length), ∃ a, a ∈ (List.range s.length).filter (Lib.keeps s.toArray) ∧ s.toArray[a]! = s[j] := by
      intro j
      induction j with
      | zero =>
        intro hj
        refine ⟨0, ?_, e 0 hj⟩
        rw [List.mem_filter, List.mem_range]
        exact ⟨hj, by unfold Lib.keeps; simp⟩
      | succ j ih =>
        intro hj
        by_cases c : s[j + 1] = s[j]'(by omega)
        · obtain ⟨a, h1, h2⟩ := ih (by omega)
          exact ⟨a, h1, by rw [h2, c]⟩
        · refine ⟨j + 1, ?_, e (j + 1) hj⟩
          rw [List.mem_filter, List.mem_range]
          refine ⟨hj, ?_⟩
          unfold Lib.keeps
          rw [decide_eq_true_eq]
          right
          rw [e (j + 1) hj, Nat.add_sub_cancel, e j (by omega)]
          exact c
    exact key i hi
theorem compact_vals (l : List Int) (hx : ∀ x ∈ l, 0 ≤ x ∧ x < 8) : Lib.compact (Srt.srt l) = valsFrom l 0 8 := by
  refine rise_eq _ _ (compact_rise _ (srt_up l)) (valsFrom_lt l 8 0) (fun x => ?_)
  rw [compact_mem, (srt_perm l).mem_iff, valsFrom_mem]
  constructor
  · intro h
    have := hx x h
    exact ⟨by omega, by omega, h⟩
  · exact fun h => h.2.2
/-- what CountOrders hands back -/
def ordersR (l : List Int) : Int × Bool := if isPk l = true then ((ordD l : Nat), true) else (0, false)
theorem pk_below8 (l : List Int) (h : isPk l = true) : l.length ≤ 8 ∧ ∀ x ∈ l, 0 ≤ x ∧ x < 8 := by
  obtain ⟨h8, hx, _⟩ := (isPk_parts l).mp h
  exact ⟨h8, fun x h => by have := hx x h; omega⟩

theorem spec_CountOrders.ev1 (l : List Int) (i : Nat) (hi : i < l.length) (h8 : l.length ≤ 8) (x c : Int) (r : Int × Bool) (hc : Ev (fun k => spec_CountOrders.l0 k l (wrap64 (Int.tdiv (wrap64 (c * wrap64 ((i : Int) + 1))) (((l.take i).count x + 1 : Nat) : Int))) l (l.length : Int) (wrap64 ((i : Int) + 1))) r) (d : Nat) : ∀ (j s : Nat), j + d = (l.take i).length → s + ((l.take i).drop j).count x = (l.take i).count x → Ev (fun k => spec_CountOrders.l1 k l c (i : Int) x ((s + 1 : Nat) : Int) l (l.length : Int) (i : Int) (l.take i) ((l.take i).length : Int) (j : Int)) r := by
  have ht : (l.take i).length ≤ 8 := by rw [List.length_take]; omega
  have hct : (l.take i).count x ≤ (l.take i).length := List.count_le_length
  induction d with
  | zero =>
    intro j s hj hs
    rw [List.drop_of_length_le (by omega), List.count_nil] at hs
    refine Ev.step (fun k => spec_CountOrders.l1.eq_2 ..) (ev_neg (by omega) (ev_neg (by omega) ?_))
    rw [show s = (l.take i).count x by omega]
    exact hc
  | succ d ih =>
    intro j s hj hs
    rw [List.drop_eq_getElem_cons (by omega), List.count_cons] at hs
    refine Ev.step (fun k => spec_CountOrders.l1.eq_2 ..) (ev_pos (by omega) (ev_pos (by omega) (ev_pos (by omega) ?_)))
    rw [rd_nat (l.take i) j (by omega), wrap_nat j (by omega)]
    by_cases e : x = (l.take i)[j]'(by omega)
    · rw [if_pos (by simp [e])] at hs
      refine ev_pos e ?_
      rw [wrap_nat (s + 1) (by omega)]
      exact ih (j + 1) (s + 1) (by omega) (by omega)
    · rw [if_neg (fun h => e (beq_iff_eq.mp h).symm)] at hs
      exact ev_neg e (ih (j + 1) s (by omega) (by omega))
theorem spec_CountOrders.evl (l : List Int) (h8 : l.length ≤ 8) (hx : ∀ x ∈ l, 0 ≤ x ∧ x < 8) (d : Nat) : ∀ (i : Nat), i + d = l.length → Ev (fun k => spec_CountOrders.l0 k l ((ordD (l.take i) : Nat) : Int) l (l.length : Int) (i : Int)) (((ordD l : Nat) : Int), true) := by
  induction d with
  | zero =>
    intro i hi
    refine Ev.step (fun k => spec_CountOrders.l0.eq_2 ..) (ev_neg (by omega) (ev_val (Ev.now _) ?_))
    rw [List.take_of_length_le (by omega)]
  | succ d ih =>
    intro i hi
    have hlt : i < l.length := by omega
    have et : l.take (i + 1) = l.take i ++ [l[i]] := List.take_succ_eq_append_getElem hlt
    have hl : (l.take i).length = i := by rw [List.length_take]; omega
    have hb := ordD_le (l.take i) (by omega) (fun x h => hx x (List.mem_of_mem_take h))
    have hb2 := ordD_le (l.take (i + 1)) (by rw [List.length_take]; omega) (fun x h => hx x (List.mem_of_mem_take h))
    have hsn := ordD_snoc (l.take i) l[i] (by omega) (fun y hy => hx y (by rw [← et] at hy; exact List.mem_of_mem_take hy))
    rw [← et, hl] at hsn
    have hm : (ordD (l.take i) : Nat) * (i + 1) ≤ 40320 * 8 := Nat.mul_le_mul hb (by omega)
    refine Ev.step (fun k => spec_CountOrders.l0.eq_2 ..) (ev_pos (by omega) (ev_pos (by omega) (ev_pos (by omega) (ev_pos (by omega) ?_))))
    rw [rd_nat l i hlt, Int.toNat_natCast]
    refine spec_CountOrders.ev1 l i hlt h8 l[i] _ _ ?_ (l.take i).length 0 0 (by omega) (by simp)
    rw [wrap_nat i (by omega)]
    have w1 : wrap64 (((ordD (l.take i) : Nat) : Int) * ((i + 1 : Nat) : Int)) = ((ordD (l.take (i + 1)) * ((l.take i).count l[i] + 1) : Nat) : Int) := by
      rw [← Int.natCast_mul, hsn]
      exact wrap_id _ (by omega) (by omega)
    rw [w1, Int.natCast_mul, Int.mul_tdiv_cancel _ (by omega), wrap_id _ (by omega) (by omega)]
    exact ih (i + 1) (by omega)
theorem ordD_nil : ordD [] = 1 := by decide +kernel
theorem spec_CountOrders.ev (l : List Int) (hl : l.length ≤ 1048576) : Ev (fun k => spec_CountOrders.f k l) (ordersR l) := by
  simp only [spec_CountOrders.f]
  unfold ordersR
  refine Ev.bind (spec_paParking.ev l hl) ?_
  by_cases e : isPk l = true
  · obtain ⟨h8, hx⟩ := pk_below8 l e
    rw [if_pos e]
    have h := spec_CountOrders.evl l h8 hx l.length 0 (by omega)
    rw [List.take_zero, ordD_nil] at h
    exact ev_pos e h
  · rw [if_neg e]
    exact ev_neg e (Ev.now _)

theorem impl_between.is (x lo hi : Int) : impl_between.f x lo hi = some (decide (lo ≤ x) && decide (x ≤ hi)) := by
  unfold impl_between.f
  by_cases h : x ≥ lo
  · rw [if_pos h, decide_eq_true (show lo ≤ x from h), Bool.true_and]
  · rw [if_neg h, decide_eq_false (show ¬ lo ≤ x from h), Bool.false_and]

theorem impl_areBetween.is (l : List Int) (lo hi : Int) (hl : l.length ≤ 35184372088832) : impl_areBetween.f l lo hi = some (inAll lo hi l) := by
  unfold impl_areBetween.f
  rw [if_pos hl]
  congr 1
  unfold inAll out_b
  induction l with
  | nil => rfl
  | cons x l ih =>
    rw [List.any_cons, List.all_cons, ← ih (by simp at hl; omega)]
    cases (decide (lo ≤ x) && decide (x ≤ hi)) <;> simp

theorem impl_areCars.is (l : List Int) (hl : l.length ≤ 35184372088832) : impl_areCars.f l = some (decide (l.length ≤ 8) && inAll 0 99 l) := by
  unfold impl_areCars.f
  by_cases h8 : l.length ≤ 8
  · rw [decide_eq_true h8, if_pos (by omega), impl_areBetween.is l 0 99 hl]
    rfl
  · rw [decide_eq_false h8, if_neg (by omega)]
    rfl

def drvR (o : Option (List Int)) : List Int × Bool := match o with
  | some r => (r, true)
  | none => ([], false)
theorem drvR_snd (l : List Int) (p : Int) : (drvR (drv p [] l)).2 = allPark l p := by
  unfold drvR allPark
  cases drv p [] l <;> rfl

/-- the table t tells which places are in out -/
def Tk (p : Int) (out : List Int) (t : List Bool) : Prop := t.length = p.toNat ∧ ∀ j : Int, 0 ≤ j → j < p → (rdOf false t j = true ↔ j ∈ out)
theorem Tk_set (p : Int) (out : List Int) (t : List Bool) (h : Tk p out t) (x : Int) (h0 : 0 ≤ x) (h1 : x < p) : Tk p (out ++ [x]) (t.set x.toNat true) := by
  refine ⟨by rw [List.length_set]; exact h.1, fun j j0 j1 => ?_⟩
  have hl := h.1
  have hj := h.2 j j0 j1
  unfold rdOf at hj ⊢
  rw [List.getD_eq_getElem?_getD] at hj ⊢
  rw [List.getElem?_set]
  by_cases e : x.toNat = j.toNat
  · have e' : j = x := by omega
    subst e'
    rw [if_pos rfl, if_pos (by omega)]
    simp
  · rw [if_neg e]
    rw [hj]
    have e' : ¬ j = x := by omega
    simp [e']

theorem impl_drive.evl (p : Int) (hp : p ≤ 1048576) (l : List Int) (hl : l.length ≤ 1048576) (hx : ∀ x ∈ l, 0 ≤ x ∧ x ≤ 1048576) (d : Nat) : ∀ (i : Nat) (out : List Int) (t : List Bool), i + d = l.length → out.length = i → Tk p out t → Ev (fun k => impl_drive.l0 k p t out l (l.length : Int) (i : Int)) (drvR (drv p out (l.drop i))) := by
  induction d with
  | zero =>
    intro i out t hi ho ht
    refine Ev.step (fun k => impl_drive.l0.eq_2 ..) ?_
    refine ev_neg (by omega) ?_
    refine ev_val (Ev.now _) ?_
    rw [List.drop_of_length_le (by omega)]
    rfl
  | succ d ih =>
    intro i out t hi ho ht
    refine Ev.step (fun k => impl_drive.l0.eq_2 ..) ?_
    refine ev_pos (by omega) (ev_pos (by omega) (ev_pos (by omega) ?_))
    rw [rd_nat l i (by omega), List.drop_eq_getElem_cons (by omega)]
    have hxi := hx l[i] (List.getElem_mem _)
    have inner : ∀ (m : Nat) (x : Int), (p - x).toNat = m → 0 ≤ x → x ≤ 1048576 → Ev (fun k => impl_drive.l1 k p t out x l (l.length : Int) (i : Int)) (drvR (drv p out (x :: l.drop (i + 1)))) := by
      intro m
      induction m with
      | zero =>
        intro x hm hx0 hx1
        refine Ev.step (fun k => impl_drive.l1.eq_2 ..) ?_
        refine ev_neg (by omega) (ev_pos (by omega) ?_)
        refine ev_val (Ev.now _) ?_
        simp only [drv]
        rw [land_stop out p x (by omega), if_neg (by omega)]
        rfl
      | succ m ihm =>
        intro x hm hx0 hx1
        have hlen := ht.1
        refine Ev.step (fun k => impl_drive.l1.eq_2 ..) ?_
        refine ev_pos (by omega) (ev_pos (by omega) (ev_pos (by omega) ?_))
        by_cases hh : x ∈ out
        · refine ev_pos ((ht.2 x hx0 (by omega)).mpr hh) ?_
          rw [wrap_id (x + 1) (by omega) (by omega)]
          refine ev_val (ihm (x + 1) (by omega) (by omega) (by omega)) ?_
          simp only [drv]
          rw [land_go out p x (by omega) hh]
        · refine ev_neg (fun h => hh ((ht.2 x hx0 (by omega)).mp h)) (ev_neg (by omega) (ev_pos (by omega) ?_))
          rw [wrap_nat i (by omega)]
          refine ev_val (ih (i + 1) _ _ (by omega) (by simp; omega) (Tk_set p out t ht x hx0 (by omega))) ?_
          simp only [drv]
          rw [land_stop out p x (fun h => hh h.2), if_pos (by omega)]
    exact inner _ l[i] rfl hxi.1 hxi.2
theorem impl_drive.ev (l : List Int) (p : Int) (hp0 : 0 ≤ p) (hp : p ≤ 1048576) (hl : l.length ≤ 1048576) (hx : ∀ x ∈ l, 0 ≤ x ∧ x ≤ 1048576) : Ev (fun k => impl_drive.f k l p) (drvR (drv p [] l)) := by
  simp only [impl_drive.f]
  refine ev_pos hp0 (ev_pos (by omega) ?_)
  refine impl_drive.evl p hp l hl hx l.length 0 [] _ (by omega) rfl ⟨by simp, fun j j0 j1 => ?_⟩
  unfold rdOf
  rw [List.getD_eq_getElem?_getD, List.getElem?_replicate]
  split <;> simp

theorem isPk_of_cars (l : List Int) (h8 : l.length ≤ 8) (h0 : ∀ x ∈ l, 0 ≤ x) : isPk l = allPark l l.length := by
  cases e : allPark l l.length with
  | false => simp [isPk, e]
  | true =>
    unfold allPark at e
    obtain ⟨r, hr⟩ := Option.isSome_iff_exists.mp e
    have h := drv_lt l.length l [] r hr
    have e' : allPark l l.length = true := by unfold allPark; exact e
    simp only [isPk, e', Bool.and_true, Bool.and_eq_true, decide_eq_true_eq, List.all_eq_true]
    exact ⟨h8, fun x hx => ⟨h0 x hx, by have := h x hx; omega⟩⟩
theorem isPk_no_cars (l : List Int) (h : ¬ (decide (l.length ≤ 8) && inAll 0 99 l) = true) : isPk l = false := by
  cases e : isPk l with
  | false => rfl
  | true =>
    exfalso
    apply h
    simp only [isPk, Bool.and_eq_true, decide_eq_true_eq, List.all_eq_true] at e
    rw [Bool.and_eq_true, decide_eq_true_eq, inAll_iff]
    exact ⟨e.1.1, fun x hx => by have := e.1.2 x hx; omega⟩

theorem impl_isParking.ev (l : List Int) (hl : l.length ≤ 1048576) : Ev (fun k => impl_isParking.f k l) (isPk l) := by
  simp only [impl_isParking.f]
  refine Ev.bind (ev_eq (impl_areCars.is l (by omega))) ?_
  cases e : (decide (l.length ≤ 8) && inAll 0 99 l) with
  | true =>
    rw [Bool.and_eq_true, decide_eq_true_eq, inAll_iff] at e
    refine ev_pos rfl (Ev.bind (impl_drive.ev l _ (by omega) (by omega) hl (fun x hx => by have := e.2 x hx; omega)) ?_)
    refine ev_val (Ev.now _) ?_
    rw [drvR_snd]
    exact (isPk_of_cars l e.1 (fun x hx => (e.2 x hx).1)).symm
  | false =>
    refine ev_neg (by decide) (ev_val (Ev.now _) ?_)
    exact (isPk_no_cars l (by rw [e]; decide)).symm

theorem impl_sorted.is (l : List Int) (hl : l.length ≤ 1048576) : impl_sorted.f l = some (Srt.srt l) := by
  unfold impl_sorted.f
  rw [if_pos hl]

theorem impl_choose.fin : ∀ a m : Fin 9, m.val ≤ a.val → impl_choose.f 20 ((a.val : Nat) : Int) ((m.val : Nat) : Int) = some ((ch a.val m.val : Nat) : Int) := by decide +kernel
theorem impl_choose.ev (a m : Nat) (ha : a ≤ 8) (hm : m ≤ a) : Ev (fun k => impl_choose.f k (a : Int) (m : Int)) ((ch a m : Nat) : Int) :=
  Ev.of (fun k => impl_choose.mono _ _ k) (impl_choose.fin ⟨a, by omega⟩ ⟨m, by omega⟩ hm)

theorem impl_countOrders.evl (l : List Int) (h8 : l.length ≤ 8) (hx : ∀ x ∈ l, 0 ≤ x ∧ x < 8) : ∀ (d a : Nat), a + d = 8 → Ev (fun k => ordLoop k l (valsFrom l a d) ((waysTo (cv l) l.length a : Nat) : Int) ((l.length - sumTo (cv l) a : Nat) : Int)) ((ordD l : Nat) : Int)
  | 0, a, hd => by
    obtain rfl : a = 8 := by omega
    simp only [valsFrom, ordLoop]
    exact Ev.now _
  | d + 1, a, hd => by
    have hs := sum_cv 8 l (fun x h => by have := hx x h; omega)
    have hmono : ∀ (n m : Nat), n ≤ m → sumTo (cv l) n ≤ sumTo (cv l) m := fun n m h => by
      induction m with
      | zero => rw [show n = 0 by omega]; exact Nat.le_refl _
      | succ m ih =>
        by_cases e : n = m + 1
        · rw [e]; exact Nat.le_refl _
        · have := ih (by omega)
          simp only [sumTo]
          omega
    have h1 := hmono (a + 1) 8 (by omega)
    have h2 : sumTo (cv l) (a + 1) = sumTo (cv l) a + cv l a := rfl
    have hw : waysTo (cv l) l.length (a + 1) = waysTo (cv l) l.length a * ch (l.length - sumTo (cv l) a) (cv l a) := rfl
    have ih := impl_countOrders.evl l h8 hx d (a + 1) (by omega)
    have hb := waysTo_le (cv l) l.length h8 (a + 1) (by omega)
    simp only [valsFrom]
    by_cases c : 0 < cv l a
    · rw [if_pos c]
      simp only [ordLoop]
      have e : ((l.countP fun x => x == ((a : Nat) : Int) : Nat)) = cv l a := rfl
      rw [e]
      refine Ev.bind (impl_choose.ev (l.length - sumTo (cv l) a) (cv l a) (by omega) (by omega)) ?_
      rw [wrap_id (((waysTo (cv l) l.length a : Nat) : Int) * ((ch (l.length - sumTo (cv l) a) (cv l a) : Nat) : Int)) (by rw [← Int.natCast_mul]; omega) (by rw [← Int.natCast_mul, ← hw]; omega), ← Int.natCast_mul, ← hw]
      rw [wrap_id (((l.length - sumTo (cv l) a : Nat) : Int) - ((cv l a : Nat) : Int)) (by omega) (by omega), show ((l.length - sumTo (cv l) a : Nat) : Int) - ((cv l a : Nat) : Int) = ((l.length - sumTo (cv l) (a + 1) : Nat) : Int) by omega]
      exact ih
    · rw [if_neg c]
      have e0 : cv l a = 0 := by omega
      rw [hw, e0, ch_zero, Nat.mul_one, h2, e0, Nat.add_zero] at ih
      exact ih
theorem impl_countOrders.ev (l : List Int) (h8 : l.length ≤ 8) (hx : ∀ x ∈ l, 0 ≤ x ∧ x < 8) : Ev (fun k => impl_countOrders.f k l) ((ordD l : Nat) : Int) := by
  simp only [impl_countOrders.f]
  refine ev_pos (by omega) ?_
  rw [compact_vals l hx]
  have h := impl_countOrders.evl l h8 hx 8 0 rfl
  exact h

theorem impl_CountOrders.ev (l : List Int) (hl : l.length ≤ 1048576) : Ev (fun k => impl_CountOrders.f k l) (ordersR l) := by
  simp only [impl_CountOrders.f]
  unfold ordersR
  refine Ev.bind (impl_isParking.ev l hl) ?_
  by_cases e : isPk l = true
  · obtain ⟨h8, hx⟩ := pk_below8 l e
    rw [if_pos e]
    exact ev_pos e (Ev.bind (impl_countOrders.ev l h8 hx) (Ev.now _))
  · rw [if_neg e]
    exact ev_neg e (Ev.now _)

end Go.Proofs.Ytdiohjdfiambhaa.QFnExactCountOrders
