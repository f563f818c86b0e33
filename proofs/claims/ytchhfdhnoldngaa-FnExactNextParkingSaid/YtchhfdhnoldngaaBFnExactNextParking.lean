/- Proved here: what the Lean functions printed for the Go functions of law FnExactNextParking compute, in words of lists and whole numbers, for lists shorter than 2^62. -/
import Derived.Test.YtchhfdhnoldngaaQFnExactNextParkingx
import Derived.Test.YtchhfdhnoldngaaMSum
import Derived.Test.YtchhfdhnoldngaaMDrive
import Derived.Test.YtchhfdhnoldngaaMCrit
import Derived.Test.YtchhfdhnoldngaaMRank
import Derived.Test.YtchhfdhnoldngaaMWays
import Derived.Test.YtchhfdhnoldngaaMUnrank
namespace Go.Proofs.Ytchhfdhnoldngaa.QFnExactNextParking
open Go.RowKit Go.Proofs.YtchhfdhnoldngaaW.PrintWords Go.Proofs.YtchhfdhnoldngaaW.PrintLast Go.Proofs.Ytchhfdhnoldngaa.Math
set_option linter.unusedVariables false
set_option linter.unusedSimpArgs false

theorem ev_pos {α : Type} {c : Prop} [Decidable c] {g f : Nat → Option α} {r : α} (h : c) (k : Ev g r) : Ev (fun n => if c then g n else f n) r := by
  obtain ⟨K, hK⟩ := k
  exact ⟨K, fun n hn => by simp only [if_pos h]; exact hK n hn⟩
theorem ev_neg {α : Type} {c : Prop} [Decidable c] {g f : Nat → Option α} {r : α} (h : ¬ c) (k : Ev f r) : Ev (fun n => if c then g n else f n) r := by
  obtain ⟨K, hK⟩ := k
  exact ⟨K, fun n hn => by simp only [if_neg h]; exact hK n hn⟩
theorem ev_eq {α : Type} {g : Option α} {r : α} (h : g = some r) : Ev (fun _ => g) r := ⟨0, fun _ _ => h⟩
theorem ev_val {α : Type} {g : Nat → Option α} {r q : α} (h : Ev g r) (e : r = q) : Ev g q := e ▸ h
theorem wrap_nat (i : Nat) (h : i < 4611686018427387904) : wrap64 ((i : Int) + 1) = ((i + 1 : Nat) : Int) := by
  unfold wrap64
  omega
theorem wrap_id (x : Int) (h : -9223372036854775808 ≤ x) (h' : x ≤ 9223372036854775807) : wrap64 x = x := by
  unfold wrap64
  omega
theorem rd_nat (l : List Int) (i : Nat) (h : i < l.length) : rd l (i : Int) = l[i] := by
  simp [rd, List.getD_eq_getElem?_getD, h]
theorem rd_int (l : List Int) (x : Int) (h0 : 0 ≤ x) (h : x < l.length) : rd l x = l[x.toNat]'(by omega) := by
  have e : x = ((x.toNat : Nat) : Int) := by omega
  have h2 : x.toNat < l.length := by omega
  rw [show rd l x = rd l ((x.toNat : Nat) : Int) by rw [← e]]
  exact rd_nat l x.toNat h2
/-- m, m + 1, .., n numbers -/
def marks : Int → Nat → List Int
  | _, 0 => []
  | m, n + 1 => m :: marks (m + 1) n
theorem marks_len : ∀ (n : Nat) (m : Int), (marks m n).length = n
  | 0, _ => rfl
  | n + 1, m => by simp [marks, marks_len n]
theorem take_set_succ (y l : List Int) (i : Nat) (hi : i < l.length) (hy : y.length = l.length) (h : y.take i = l.take i) : (y.set i l[i]).take (i + 1) = l.take (i + 1) := by
  rw [List.take_succ_eq_append_getElem (by simp; omega), List.take_succ_eq_append_getElem hi, List.take_set_of_le (Nat.le_refl i), h, List.getElem_set_self]
/-- all numbers lie from lo to hi -/
def inAll (lo hi : Int) (l : List Int) : Bool := l.all fun x => decide (lo ≤ x) && decide (x ≤ hi)
theorem inAll_iff (lo hi : Int) (l : List Int) : inAll lo hi l = true ↔ ∀ x ∈ l, lo ≤ x ∧ x ≤ hi := by
  simp [inAll]

theorem laws_toIntS.evl (l : List Int) (hl : l.length < 4611686018427387904) (d : Nat) : ∀ (i : Nat) (y : List Int), i + d = l.length → y.length = l.length → y.take i = l.take i → Ev (fun k => laws_toIntS.l0 k l y (i : Int)) l := by
  induction d with
  | zero =>
    intro i y hi hy ht
    refine Ev.step (fun k => laws_toIntS.l0.eq_2 ..) ?_
    refine ev_neg (by omega) ?_
    refine ev_val (Ev.now _) ?_
    rw [show i = l.length by omega] at ht
    rw [List.take_of_length_le (by omega), List.take_of_length_le (by omega)] at ht
    exact ht
  | succ d ih =>
    intro i y hi hy ht
    refine Ev.step (fun k => laws_toIntS.l0.eq_2 ..) ?_
    refine ev_pos (by omega) (ev_pos (by omega) (ev_pos (by omega) ?_))
    rw [wrap_nat i (by omega), rd_nat l i (by omega), Int.toNat_natCast]
    exact ih (i + 1) _ (by omega) (by simp; omega) (take_set_succ y l i (by omega) hy ht)
theorem laws_toIntS.ev (l : List Int) (hl : l.length ≤ 1048576) : Ev (fun k => laws_toIntS.f k l) l := by
  simp only [laws_toIntS.f]
  refine ev_pos (by omega) (ev_pos (by omega) ?_)
  exact laws_toIntS.evl l (by omega) l.length 0 _ (by omega) (by simp) (by simp)

theorem laws_eqIntS.evl (a b : List Int) (hl : a.length < 4611686018427387904) (h : a.length = b.length) (d : Nat) : ∀ (i : Nat), i + d = a.length → Ev (fun k => laws_eqIntS.l0 k a b (i : Int)) (decide (a.drop i = b.drop i)) := by
  induction d with
  | zero =>
    intro i hi
    refine Ev.step (fun k => laws_eqIntS.l0.eq_2 ..) ?_
    refine ev_neg (by omega) ?_
    refine ev_val (Ev.now _) ?_
    rw [List.drop_of_length_le (by omega), List.drop_of_length_le (by omega)]
    rfl
  | succ d ih =>
    intro i hi
    refine Ev.step (fun k => laws_eqIntS.l0.eq_2 ..) ?_
    refine ev_pos (by omega) (ev_pos (by omega) (ev_pos (by omega) ?_))
    rw [wrap_nat i (by omega), rd_nat a i (by omega), rd_nat b i (by omega)]
    rw [List.drop_eq_getElem_cons (l := a) (by omega), List.drop_eq_getElem_cons (l := b) (by omega)]
    by_cases e : a[i] = b[i]'(by omega)
    · refine ev_pos e (ev_val (ih (i + 1) (by omega)) ?_)
      simp only [List.cons.injEq, e, true_and]
    · refine ev_neg e (ev_val (Ev.now _) ?_)
      simp only [List.cons.injEq, e, false_and, decide_false]
theorem laws_eqIntS.ev (a b : List Int) (hl : a.length < 4611686018427387904) : Ev (fun k => laws_eqIntS.f k a b) (decide (a = b)) := by
  simp only [laws_eqIntS.f]
  by_cases h : a.length = b.length
  · refine ev_pos (by omega) (ev_val (laws_eqIntS.evl a b hl h a.length 0 (by omega)) ?_)
    simp
  · refine ev_neg (by omega) (ev_val (Ev.now _) ?_)
    exact (decide_eq_false (fun e => h (by rw [e]))).symm
theorem laws_eqIntS.ev_self (a : List Int) (hl : a.length < 4611686018427387904) : Ev (fun k => laws_eqIntS.f k a a) true := ev_val (laws_eqIntS.ev a a hl) (by simp)

theorem laws_markIntS.evl (m : Int) (hm0 : 0 ≤ m) (hm : m ≤ 4611686018427387904) (n : Nat) (hn : n < 4611686018427387904) (d : Nat) : ∀ (i : Nat) (y : List Int), i + d = n → y.length = n → Ev (fun k => laws_markIntS.l0 k y (m + (i : Int)) (i : Int)) (m + (n : Int), y.take i ++ marks (m + (i : Int)) d) := by
  induction d with
  | zero =>
    intro i y hi hy
    refine Ev.step (fun k => laws_markIntS.l0.eq_2 ..) ?_
    refine ev_neg (by omega) ?_
    refine ev_val (Ev.now _) ?_
    rw [List.take_of_length_le (by omega), show (i : Int) = n by omega]
    simp [marks]
  | succ d ih =>
    intro i y hi hy
    refine Ev.step (fun k => laws_markIntS.l0.eq_2 ..) ?_
    refine ev_pos (by omega) (ev_pos (by omega) ?_)
    rw [wrap_nat i (by omega), Int.toNat_natCast, show wrap64 (m + (i : Int) + 1) = m + ((i + 1 : Nat) : Int) by unfold wrap64; omega]
    refine ev_val (ih (i + 1) (y.set i (m + (i : Int))) (by omega) (by simp; omega)) ?_
    rw [List.take_succ_eq_append_getElem (by simp; omega), List.take_set_of_le (Nat.le_refl i), List.getElem_set_self, List.append_assoc]
    simp only [marks, List.singleton_append, show m + ((i + 1 : Nat) : Int) = m + (i : Int) + 1 by omega]
theorem laws_markIntS.ev_at (y : List Int) (m : Int) (hm0 : 0 ≤ m) (hm : m ≤ 4611686018427387904) (hn : y.length < 4611686018427387904) : Ev (fun k => laws_markIntS.f k y m) (m + (y.length : Int), marks m y.length) := by
  simp only [laws_markIntS.f]
  have h := laws_markIntS.evl m hm0 hm y.length hn y.length 0 y (by omega) rfl
  simpa using h
theorem laws_markIntS.ev (y : List Int) (hn : y.length < 4611686018427387904) : Ev (fun k => laws_markIntS.f k y 1) (1 + (y.length : Int), marks 1 y.length) := laws_markIntS.ev_at y 1 (by omega) (by omega) hn

theorem laws_heldIntS.evl (y : List Int) (hn : y.length < 4611686018427387904) (d : Nat) : ∀ (i : Nat), i + d = y.length → y.drop i = marks (1 + (i : Int)) d → Ev (fun k => laws_heldIntS.l0 k y (1 + (i : Int)) (i : Int)) (1 + (y.length : Int)) := by
  induction d with
  | zero =>
    intro i hi hy
    refine Ev.step (fun k => laws_heldIntS.l0.eq_2 ..) ?_
    refine ev_neg (by omega) ?_
    refine ev_val (Ev.now _) ?_
    omega
  | succ d ih =>
    intro i hi hy
    refine Ev.step (fun k => laws_heldIntS.l0.eq_2 ..) ?_
    rw [List.drop_eq_getElem_cons (by omega)] at hy
    simp only [marks, List.cons.injEq] at hy
    refine ev_pos (by omega) (ev_pos (by omega) ?_)
    rw [rd_nat y i (by omega)]
    refine ev_pos hy.1 ?_
    rw [wrap_nat i (by omega), show wrap64 (1 + (i : Int) + 1) = 1 + ((i + 1 : Nat) : Int) by unfold wrap64; omega]
    refine ih (i + 1) (by omega) ?_
    rw [hy.2, show 1 + ((i + 1 : Nat) : Int) = 1 + (i : Int) + 1 by omega]
theorem laws_heldIntS.ev (n : Nat) (hn : n < 4611686018427387904) : Ev (fun k => laws_heldIntS.f k (marks 1 n) 1) (1 + (n : Int)) := by
  simp only [laws_heldIntS.f]
  have h := laws_heldIntS.evl (marks 1 n) (by rw [marks_len]; exact hn) n 0 (by rw [marks_len]; omega) (by simp)
  rw [marks_len] at h
  simpa using h

theorem spec_l1In.is (x lo hi : Int) : spec_l1In.f x lo hi = some (decide (lo ≤ x) && decide (x ≤ hi)) := by
  unfold spec_l1In.f
  by_cases h : x ≥ lo
  · rw [if_pos h, decide_eq_true (show lo ≤ x from h), Bool.true_and]
  · rw [if_neg h, decide_eq_false (show ¬ lo ≤ x from h), Bool.false_and]

theorem spec_cnCars.is (n : Int) : spec_cnCars.f n = some (decide (0 ≤ n) && decide (n ≤ 8)) := by
  simp only [spec_cnCars.f, spec_l1In.is, Option.bind_some]

/-- the numbers in the program's table after j places, before they are held to 64 bits -/
def gW (L : List Int) (left j : Nat) (k : Nat) : Nat := ch left k * cways (own L) j k
/-- .. and the next table's, when k entries are carried over -/
def rowC (L : List Int) (left j k t : Nat) : Nat := sumTo (fun i => cell (own L j) j left (gW L left j) i t) k
/-- .. and when of entry k the first m parts are carried over -/
def midC (L : List Int) (left j k m t : Nat) : Nat := rowC L left j k t + if t < k + m then cell (own L j) j left (gW L left j) k t else 0
theorem midC_zero (L : List Int) (left j k t : Nat) : midC L left j k 0 t = rowC L left j k t := by
  unfold midC
  split
  · unfold cell
    rw [if_neg (by omega)]
    rfl
  · rfl
theorem midC_full (L : List Int) (left j k m t : Nat) (h : t < k + m) : midC L left j k m t = rowC L left j (k + 1) t := by
  unfold midC
  rw [if_pos h]
  rfl
theorem midC_no (L : List Int) (left j k m t : Nat) (h : ¬ own L j + (k + m) > j) : midC L left j k m t = midC L left j k (m + 1) t := by
  unfold midC
  by_cases e : t = k + m
  · subst e
    rw [if_neg (by omega), if_pos (by omega)]
    unfold cell
    rw [if_neg (fun hc => h hc.2)]
  · by_cases g : t < k + m
    · rw [if_pos g, if_pos (by omega)]
    · rw [if_neg g, if_neg (by omega)]
theorem midC_yes (L : List Int) (left j k m t : Nat) (h : own L j + (k + m) > j) : (if t = k + m then midC L left j k m (k + m) + gW L left j k * ch (left - k) m else midC L left j k m t) = midC L left j k (m + 1) t := by
  by_cases e : t = k + m
  · subst e
    rw [if_pos rfl]
    unfold midC
    rw [if_neg (by omega), if_pos (by omega)]
    unfold cell
    rw [if_pos ⟨by omega, h⟩, show k + m - k = m by omega]
    rfl
  · rw [if_neg e]
    unfold midC
    by_cases g : t < k + m
    · rw [if_pos g, if_pos (by omega)]
    · rw [if_neg g, if_neg (by omega)]
theorem rowC_all (L : List Int) (left j t : Nat) (h8 : left ≤ 8) (ht : t < left + 1) : rowC L left j (left + 1) t = gW L left (j + 1) t := cell_sum (own L) j left h8 t (by omega)
theorem rowC_nil (n : Nat) (L : List Int) (left j : Nat) : List.replicate n 0 = tab n (rowC L left j 0) := by
  refine List.ext_getElem (by rw [tab_len, List.length_replicate]) (fun i h1 h2 => ?_)
  rw [List.getElem_replicate, tab_get]
  show (0 : Int) = wrap64 ((0 : Nat) : Int)
  unfold wrap64
  omega
theorem gW_start (n : Nat) (L : List Int) (left : Nat) : (List.replicate (n + 1) (0 : Int)).set 0 1 = tab (n + 1) (gW L left 0) := by
  refine List.ext_getElem (by rw [tab_len, List.length_set, List.length_replicate]) (fun i h1 h2 => ?_)
  rw [tab_get, List.getElem_set, List.getElem_replicate]
  unfold gW cways
  by_cases e : 0 = i
  · subst e
    rw [if_pos rfl, if_pos rfl, ch_zero]
    show (1 : Int) = wrap64 ((1 : Nat) : Int)
    unfold wrap64
    omega
  · rw [if_neg e, if_neg (fun h => e h.symm), Nat.mul_zero]
    show (0 : Int) = wrap64 ((0 : Nat) : Int)
    unfold wrap64
    omega
theorem own_le (L : List Int) (j : Nat) : own L j ≤ L.length := List.countP_le_length
theorem tab_rd (n : Nat) (g : Nat → Nat) (i : Nat) (h : i < n) : rd (tab n g) (i : Int) = wrap64 (g i : Int) := by
  rw [rd_nat (tab n g) i (by rw [tab_len]; exact h), tab_get]
theorem put_tab (n : Nat) (g : Nat → Nat) (i : Nat) (G c : Nat) (h : i < n) : (tab n g).set ((i : Nat) : Int).toNat (wrap64 (rd (tab n g) ((i : Nat) : Int) + wrap64 (wrap64 (G : Int) * (c : Int)))) = tab n (fun t => if t = i then g i + G * c else g t) := by
  rw [tab_rd n g i h, wrap_mul, wrap_add, show ((g i : Int) + (G : Int) * (c : Int)) = ((g i + G * c : Nat) : Int) by rw [Int.natCast_add, Int.natCast_mul], Int.toNat_natCast, tab_set n g i _ h]
theorem add_nat (a b : Nat) (ha : a < 4611686018427387904) (hb : b < 4611686018427387904) : wrap64 ((a : Int) + (b : Int)) = ((a + b : Nat) : Int) := by
  rw [wrap_id _ (by omega) (by omega), Int.natCast_add]
theorem sub_nat (a b : Nat) (h : b ≤ a) (ha : a < 4611686018427387904) : wrap64 ((a : Int) - (b : Int)) = ((a - b : Nat) : Int) := by
  rw [wrap_id _ (by omega) (by omega)]
  omega
theorem comp_lt (n : Nat) (L : List Int) (h8 : n ≤ 8) : comp n L ≤ 16777216 := by
  unfold comp
  refine Nat.le_trans (cways_bound _ _ _) ?_
  refine Nat.le_trans (Nat.pow_le_pow_left h8 _) ?_
  exact Nat.le_trans (Nat.pow_le_pow_right (by decide) (by omega : n - L.length ≤ 8)) (by decide)
theorem gW_last (n : Nat) (L : List Int) (left : Nat) (h8 : n ≤ 8) (hl : L.length + left = n) : wrap64 (gW L left n left : Int) = (comp n L : Int) := by
  have h : gW L left n left = comp n L := by
    unfold gW comp
    rw [show n - L.length = left by omega]
    have : ∀ a : Nat, ch a a = 1 := by
      intro a
      induction a with
      | zero => rfl
      | succ a ih => simp only [ch]; rw [ih, ch_over a (a + 1) (by omega)]
    rw [this, Nat.one_mul]
  have hb := comp_lt n L h8
  rw [h, wrap_id _ (by omega) (by omega)]

theorem ev_inj {α : Type} {g : Nat → Option α} {r q : α} (h1 : Ev g r) (h2 : Ev g q) : r = q := by
  obtain ⟨K1, h1⟩ := h1
  obtain ⟨K2, h2⟩ := h2
  have e1 := h1 (K1 + K2) (by omega)
  have e2 := h2 (K1 + K2) (by omega)
  rw [e1] at e2
  exact Option.some.inj e2
/-- how many parking functions of n cars there are -/
def cnt (n : Nat) : Nat := if n = 0 then 1 else (n + 1) ^ (n - 1)
theorem cnt_fin : ∀ n : Fin 9, 1 ≤ cnt n.val ∧ cnt n.val ≤ 16777216 := by decide +kernel
theorem cnt_bd (n : Nat) (h : n ≤ 8) : 1 ≤ cnt n ∧ cnt n ≤ 16777216 := cnt_fin ⟨n, by omega⟩
theorem unrank_len (n : Nat) : ∀ (d : Nat) (L : List Int) (r : Nat), (unrank n d L r).length = L.length + d
  | 0, L, r => rfl
  | d + 1, L, r => by
    simp only [unrank]
    rw [unrank_len n d]
    simp
    omega
/-- the parking function with a number -/
def atR (n r : Int) : List Int × Bool := if 0 ≤ n ∧ n ≤ 8 ∧ 0 ≤ r ∧ r ≤ (cnt n.toNat : Int) - 1 then (unrank n.toNat n.toNat [] r.toNat, true) else ([], false)
theorem atR_len (n r : Int) : (atR n r).1.length ≤ 8 := by
  unfold atR
  split
  · simp only [unrank_len, List.length_nil]
    omega
  · simp
theorem pos_snoc {n : Nat} {L : List Int} (h : inStreet n L) (x : Nat) : ∀ y ∈ L ++ [(x : Int)], 0 ≤ y := by
  intro y hy
  rcases List.mem_append.mp hy with hy | hy
  · exact (h y hy).1
  · simp only [List.mem_singleton] at hy
    omega

theorem spec_cnCount.fin : ∀ n : Fin 9, spec_cnCount.f 40 ((n.val : Nat) : Int) = some ((cnt n.val : Nat) : Int) := by decide +kernel
theorem spec_cnCount.ev (n : Nat) (h : n ≤ 8) : Ev (fun k => spec_cnCount.f k (n : Int)) ((cnt n : Nat) : Int) := Ev.of (fun k => spec_cnCount.mono (n : Int) k) (spec_cnCount.fin ⟨n, by omega⟩)

theorem spec_l1Own.is (l : List Int) (hl : l.length ≤ 1048576) : spec_l1Own.f l = some l := by
  simp only [spec_l1Own.f, Option.bind_some, List.length_nil, Nat.zero_add, List.nil_append]
  rw [if_pos (by omega)]

theorem spec_cnChoose.fin : ∀ a m : Fin 9, m.val ≤ a.val → spec_cnChoose.f 20 ((a.val : Nat) : Int) ((m.val : Nat) : Int) = some ((ch a.val m.val : Nat) : Int) := by decide +kernel
theorem spec_cnChoose.ev (a m : Nat) (ha : a ≤ 8) (hm : m ≤ a) : Ev (fun k => spec_cnChoose.f k (a : Int) (m : Int)) ((ch a m : Nat) : Int) :=
  Ev.of (fun k => spec_cnChoose.mono _ _ k) (spec_cnChoose.fin ⟨a, by omega⟩ ⟨m, by omega⟩ hm)

theorem spec_cnWith.evm (L : List Int) (n left j kk : Nat) (h8 : left ≤ 8) (hj : j ≤ 8) (hL : L.length ≤ 8) (hk : kk ≤ left) (R : Int) (hn : Ev (fun k => spec_cnWith.l2 k L (n : Int) (left : Int) ((own L j : Nat) : Int) (j : Int) (tab (left + 1) (rowC L left j (kk + 1))) (tab (left + 1) (gW L left j)) ((tab (left + 1) (gW L left j)).length : Int) ((kk + 1 : Nat) : Int)) R) : ∀ (d m : Nat), m + d = left + 1 - kk → Ev (fun k => spec_cnWith.l3 k L (n : Int) (left : Int) ((own L j : Nat) : Int) (j : Int) (tab (left + 1) (midC L left j kk m)) (kk : Int) (wrap64 (gW L left j kk : Int)) (m : Int) (tab (left + 1) (gW L left j)) ((tab (left + 1) (gW L left j)).length : Int) (kk : Int)) R
  | 0, m, e => by
    refine Ev.step (fun k => spec_cnWith.l3.eq_2 ..) ?_
    rw [add_nat kk m (by omega) (by omega)]
    refine ev_neg (by omega) ?_
    rw [wrap_nat kk (by omega), tab_congr (left + 1) (fun t ht => midC_full L left j kk m t (by omega))]
    exact hn
  | d + 1, m, e => by
    have ho := own_le L j
    have ih := spec_cnWith.evm L n left j kk h8 hj hL hk R hn d (m + 1) (by omega)
    refine Ev.step (fun k => spec_cnWith.l3.eq_2 ..) ?_
    rw [add_nat kk m (by omega) (by omega), add_nat (own L j) kk (by omega) (by omega), add_nat (own L j + kk) m (by omega) (by omega)]
    refine ev_pos (by omega) ?_
    by_cases h : own L j + (kk + m) > j
    · refine ev_pos (by omega) (ev_pos (by omega) (ev_pos (by rw [tab_len]; omega) ?_))
      rw [sub_nat left kk hk (by omega)]
      refine Ev.bind (spec_cnChoose.ev (left - kk) m (by omega) (by omega)) ?_
      rw [put_tab (left + 1) _ (kk + m) _ _ (by omega), wrap_nat m (by omega), tab_congr (left + 1) (fun t ht => midC_yes L left j kk m t h)]
      exact ih
    · refine ev_neg (by omega) ?_
      rw [wrap_nat m (by omega), tab_congr (left + 1) (fun t ht => midC_no L left j kk m t h)]
      exact ih
theorem spec_cnWith.evk (L : List Int) (n left j : Nat) (h8 : left ≤ 8) (hj : j ≤ 8) (hL : L.length ≤ 8) (R : Int) (hn : Ev (fun k => spec_cnWith.l0 k L (n : Int) (left : Int) (tab (left + 1) (gW L left (j + 1))) ((own L j : Nat) : Int) ((j + 1 : Nat) : Int)) R) : ∀ (d kk : Nat), kk + d = left + 1 → Ev (fun k => spec_cnWith.l2 k L (n : Int) (left : Int) ((own L j : Nat) : Int) (j : Int) (tab (left + 1) (rowC L left j kk)) (tab (left + 1) (gW L left j)) ((tab (left + 1) (gW L left j)).length : Int) (kk : Int)) R
  | 0, kk, e => by
    refine Ev.step (fun k => spec_cnWith.l2.eq_2 ..) ?_
    refine ev_neg (by rw [tab_len]; omega) ?_
    rw [wrap_nat j (by omega), show kk = left + 1 by omega, tab_congr (left + 1) (fun t ht => rowC_all L left j t h8 ht)]
    exact hn
  | d + 1, kk, e => by
    have ih := spec_cnWith.evk L n left j h8 hj hL R hn d (kk + 1) (by omega)
    refine Ev.step (fun k => spec_cnWith.l2.eq_2 ..) ?_
    refine ev_pos (by rw [tab_len]; omega) (ev_pos (by omega) (ev_pos (by rw [tab_len]; omega) ?_))
    have h := spec_cnWith.evm L n left j kk h8 hj hL (by omega) R ih (left + 1 - kk) 0 (by omega)
    rw [tab_congr (left + 1) (fun t ht => midC_zero L left j kk t)] at h
    rw [tab_rd (left + 1) _ kk (by omega)]
    exact h
/-- how many are less than j -/
def less (L : List Int) (j : Nat) : Nat := L.countP fun x => decide (x < (j : Int))
theorem own_split (L : List Int) (j : Nat) : less L j + L.countP (fun x => decide (x = (j : Int))) = own L j := by
  unfold less own
  induction L with
  | nil => rfl
  | cons x L ih =>
    simp only [List.countP_cons, decide_eq_true_eq]
    by_cases h1 : x < (j : Int)
    · rw [if_pos h1, if_neg (by omega), if_pos (by omega)]
      omega
    · by_cases h2 : x = (j : Int)
      · rw [if_neg h1, if_pos h2, if_pos (by omega)]
        omega
      · rw [if_neg h1, if_neg h2, if_neg (by omega)]
        omega
theorem less_succ (L : List Int) (j : Nat) : less L (j + 1) = own L j := by
  unfold less own
  exact List.countP_congr (fun x _ => by simp; omega)
theorem spec_cnWith.evc (L : List Int) (n left j : Nat) (hj : j ≤ 8) (hL : L.length ≤ 8) (U : List Int) (R : Int) (hn : Ev (fun k => if 0 ≤ wrap64 ((left : Int) + 1) then (if (wrap64 ((left : Int) + 1) : Int).toNat ≤ 35184372088832 then (spec_cnWith.l2 k L (n : Int) (left : Int) ((own L j : Nat) : Int) (j : Int) (List.replicate (wrap64 ((left : Int) + 1) : Int).toNat 0) U (U.length : Int) 0) else none) else none) R) : ∀ (d i : Nat), i + d = L.length → Ev (fun k => spec_cnWith.l1 k L (n : Int) (left : Int) U ((less L j + (L.take i).countP (fun x => decide (x = (j : Int))) : Nat) : Int) (j : Int) L (L.length : Int) (i : Int)) R
  | 0, i, e => by
    refine Ev.step (fun k => spec_cnWith.l1.eq_2 ..) ?_
    refine ev_neg (by omega) ?_
    rw [show i = L.length by omega, List.take_length, own_split]
    exact hn
  | d + 1, i, e => by
    have ih := spec_cnWith.evc L n left j hj hL U R hn d (i + 1) (by omega)
    have hc : less L j ≤ L.length := List.countP_le_length
    have hc2 : (L.take i).countP (fun x => decide (x = (j : Int))) ≤ (L.take i).length := List.countP_le_length
    rw [List.length_take] at hc2
    rw [List.take_succ_eq_append_getElem (by omega : i < L.length), List.countP_append, List.countP_cons, List.countP_nil] at ih
    refine Ev.step (fun k => spec_cnWith.l1.eq_2 ..) ?_
    refine ev_pos (by omega) (ev_pos (by omega) (ev_pos (by omega) ?_))
    rw [rd_nat L i (by omega), wrap_nat i (by omega)]
    by_cases h : L[i]'(by omega) = (j : Int)
    · refine ev_pos h ?_
      rw [if_pos (by simpa using h)] at ih
      rw [wrap_nat _ (by omega)]
      exact ih
    · refine ev_neg h ?_
      rw [if_neg (by simpa using h)] at ih
      exact ih
theorem spec_cnWith.evj (L : List Int) (n left : Nat) (h8 : n ≤ 8) (hl : L.length + left = n) : ∀ (d j : Nat), j + d = n → Ev (fun k => spec_cnWith.l0 k L (n : Int) (left : Int) (tab (left + 1) (gW L left j)) ((less L j : Nat) : Int) (j : Int)) ((comp n L : Nat) : Int)
  | 0, j, e => by
    have hj : j = n := by omega
    subst hj
    refine Ev.step (fun k => spec_cnWith.l0.eq_2 ..) ?_
    refine ev_neg (by omega) (ev_pos (by omega) (ev_pos (by rw [tab_len]; omega) ?_))
    rw [tab_rd (left + 1) _ left (by omega), gW_last j L left h8 hl]
    exact Ev.now _
  | d + 1, j, e => by
    have ih := spec_cnWith.evj L n left h8 hl d (j + 1) (by omega)
    rw [less_succ] at ih
    refine Ev.step (fun k => spec_cnWith.l0.eq_2 ..) ?_
    refine ev_pos (by omega) ?_
    have h := spec_cnWith.evc L n left j (by omega) (by omega) (tab (left + 1) (gW L left j)) ((comp n L : Nat) : Int) ?_ L.length 0 (by omega)
    · exact h
    · rw [wrap_nat left (by omega)]
      refine ev_pos (by omega) (ev_pos (by omega) ?_)
      rw [Int.toNat_natCast, rowC_nil (left + 1) L left j]
      exact spec_cnWith.evk L n left j (by omega) (by omega) (by omega) _ ih (left + 1) 0 (by omega)
theorem less_zero (L : List Int) (h : ∀ x ∈ L, 0 ≤ x) : less L 0 = 0 := by
  unfold less
  rw [List.countP_eq_zero]
  intro x hx
  have := h x hx
  simp
  omega
theorem spec_cnWith.evj0 (L : List Int) (n left : Nat) (h8 : n ≤ 8) (hl : L.length + left = n) (hx : ∀ x ∈ L, 0 ≤ x) (d j : Nat) (e : j + d = n) (hj : j = 0) : Ev (fun k => spec_cnWith.l0 k L (n : Int) (left : Int) (tab (left + 1) (gW L left j)) 0 (j : Int)) ((comp n L : Nat) : Int) := by
  have h := spec_cnWith.evj L n left h8 hl d j e
  subst hj
  rw [less_zero L hx] at h
  exact h
theorem spec_cnWith.ev (L : List Int) (n : Nat) (h8 : n ≤ 8) (hl : L.length ≤ n) (hx : ∀ x ∈ L, 0 ≤ x) : Ev (fun k => spec_cnWith.f k L (n : Int)) ((comp n L : Nat) : Int) := by
  simp only [spec_cnWith.f]
  rw [sub_nat n L.length hl (by omega), wrap_nat (n - L.length) (by omega)]
  refine ev_pos (by omega) (ev_pos (by omega) ?_)
  refine Ev.bind (Ev.now _) ?_
  rw [Int.toNat_natCast, Int.toNat_zero, gW_start (n - L.length) L (n - L.length)]
  refine ev_pos (by rw [List.length_replicate]; omega) ?_
  exact spec_cnWith.evj0 L n (n - L.length) h8 (by omega) hx n 0 (by omega) rfl
theorem spec_cnWith.total : ∀ n : Fin 9, spec_cnWith.f 2000 [] ((n.val : Nat) : Int) = some ((cnt n.val : Nat) : Int) := by decide +kernel
theorem comp_total (n : Nat) (h : n ≤ 8) : comp n [] = cnt n := by
  have h1 := spec_cnWith.ev [] n h (by simp) (by simp)
  have h2 := Ev.of (fun k => spec_cnWith.mono [] (n : Int) k) (spec_cnWith.total ⟨n, by omega⟩)
  have h3 : ((comp n [] : Nat) : Int) = ((cnt n : Nat) : Int) := ev_inj h1 h2
  omega

theorem spec_cnAt.bound (n : Nat) (h8 : n ≤ 8) (L : List Int) : sumTo (fun x => comp n (L ++ [(x : Int)])) n ≤ 134217728 := by
  have h := sumTo_le n (f := fun x => comp n (L ++ [(x : Int)])) (g := fun _ => 16777216 * 1) (fun i _ => by have := comp_lt n (L ++ [(i : Int)]) h8; omega)
  rw [sumTo_mul] at h
  have : ∀ m, sumTo (fun _ => 1) m = m := by
    intro m
    induction m with
    | zero => rfl
    | succ m ih => simp only [sumTo, ih]
  rw [this] at h
  omega
theorem spec_cnAt.evx (n : Nat) (h8 : n ≤ 8) (L : List Int) (hl : L.length < n) (hs : inStreet n L) (R : List Int) : ∀ (d x r : Nat), x + d = n → sumTo (fun x => comp n (L ++ [(x : Int)])) x + r < sumTo (fun x => comp n (L ++ [(x : Int)])) n → Ev (fun k => spec_cnAt.l0 k (n : Int) (((pick (fun x => comp n (L ++ [(x : Int)])) d x r).2 : Nat) : Int) (L ++ [(((pick (fun x => comp n (L ++ [(x : Int)])) d x r).1 : Nat) : Int)])) R → Ev (fun k => spec_cnAt.l1 k (n : Int) (r : Int) L (x : Int) ((comp n (L ++ [(x : Int)]) : Nat) : Int)) R
  | 0, x, r, e, hr, hn => by
    rw [show x = n by omega] at hr
    omega
  | d + 1, x, r, e, hr, hn => by
    have ih := spec_cnAt.evx n h8 L hl hs R d (x + 1) (r - comp n (L ++ [(x : Int)])) (by omega)
    have h1 : sumTo (fun x => comp n (L ++ [(x : Int)])) (x + 1) = sumTo (fun x => comp n (L ++ [(x : Int)])) x + comp n (L ++ [(x : Int)]) := rfl
    have hb := comp_lt n (L ++ [(x : Int)]) h8
    have hb2 : r ≤ 134217728 := by
      have := spec_cnAt.bound n h8 L
      omega
    simp only [pick] at hn
    refine Ev.step (fun k => spec_cnAt.l1.eq_2 ..) ?_
    by_cases g : r < comp n (L ++ [(x : Int)])
    · rw [if_pos g] at hn
      exact ev_neg (by omega) (ev_pos (by omega) hn)
    · rw [if_neg g] at hn
      refine ev_pos (by omega) (Ev.bind (ev_eq (spec_l1Own.is L (by omega))) (ev_pos (by omega) ?_))
      rw [wrap_nat x (by omega), sub_nat r _ (by omega) (by omega)]
      refine Ev.bind (spec_cnWith.ev (L ++ [((x + 1 : Nat) : Int)]) n h8 (by simp; omega) (pos_snoc hs (x + 1))) ?_
      exact ih (by omega) hn
theorem spec_cnAt.evd (n : Nat) (h8 : n ≤ 8) : ∀ (d : Nat) (L : List Int) (r : Nat), L.length + d = n → inStreet n L → r < comp n L → Ev (fun k => spec_cnAt.l0 k (n : Int) (r : Int) L) (unrank n d L r)
  | 0, L, r, h, hs, hr => by
    refine Ev.step (fun k => spec_cnAt.l0.eq_2 ..) ?_
    exact ev_neg (by omega) (Ev.now _)
  | d + 1, L, r, h, hs, hr => by
    rw [comp_child n L (by omega)] at hr
    obtain ⟨h1, h2, h3⟩ := pick_spec (fun x => comp n (L ++ [(x : Int)])) n n 0 r (by omega) (by simpa [sumTo] using hr)
    have ih := spec_cnAt.evd n h8 d (L ++ [(((pick (fun x => comp n (L ++ [(x : Int)])) n 0 r).1 : Nat) : Int)]) (pick (fun x => comp n (L ++ [(x : Int)])) n 0 r).2 (by simp; omega) (inStreet_snoc hs h1) h3
    have hx := spec_cnAt.evx n h8 L (by omega) hs _ n 0 r (by omega) (by simpa [sumTo] using hr) ih
    refine Ev.step (fun k => spec_cnAt.l0.eq_2 ..) ?_
    refine ev_pos (by omega) ?_
    refine Ev.bind (ev_eq (spec_l1Own.is L (by omega))) (ev_pos (by omega) ?_)
    refine Ev.bind (spec_cnWith.ev (L ++ [0]) n h8 (by simp; omega) (pos_snoc hs 0)) ?_
    exact hx
theorem spec_cnAt.ev (n r : Nat) (h8 : n ≤ 8) (hr : r < cnt n) : Ev (fun k => spec_cnAt.f k (n : Int) (r : Int)) (unrank n n [] r) := by
  simp only [spec_cnAt.f]
  exact spec_cnAt.evd n h8 n [] r (by simp) (fun x hx => by cases hx) (by rw [comp_total n h8]; exact hr)

theorem spec_ParkingAt.ev (n r : Int) : Ev (fun k => spec_ParkingAt.f k n r) (atR n r) := by
  simp only [spec_ParkingAt.f]
  refine Ev.bind (ev_eq (spec_cnCars.is n)) ?_
  by_cases hn : 0 ≤ n ∧ n ≤ 8
  · rw [decide_eq_true hn.1, decide_eq_true hn.2]
    obtain ⟨m, rfl⟩ : ∃ m : Nat, n = (m : Int) := ⟨n.toNat, by omega⟩
    have hc := cnt_bd m (by omega)
    refine ev_pos rfl (Ev.bind (spec_cnCount.ev m (by omega)) ?_)
    rw [wrap_id ((cnt m : Int) - 1) (by omega) (by omega)]
    refine Ev.bind (ev_eq (spec_l1In.is r 0 _)) ?_
    by_cases hr : 0 ≤ r ∧ r ≤ (cnt m : Int) - 1
    · rw [decide_eq_true hr.1, decide_eq_true hr.2]
      obtain ⟨q, rfl⟩ : ∃ q : Nat, r = (q : Int) := ⟨r.toNat, by omega⟩
      refine ev_pos rfl (Ev.bind (spec_cnAt.ev m q (by omega) (by omega)) (ev_val (Ev.now _) ?_))
      unfold atR
      rw [Int.toNat_natCast, Int.toNat_natCast, if_pos ⟨by omega, by omega, by omega, by omega⟩]
    · refine ev_neg (by simp; omega) (ev_val (Ev.now _) ?_)
      unfold atR
      rw [if_neg (fun h => hr ⟨h.2.2.1, h.2.2.2⟩)]
  · refine ev_neg (by simp; omega) (ev_val (Ev.now _) ?_)
    unfold atR
    rw [if_neg (fun h => hn ⟨h.1, h.2.1⟩)]

theorem spec_l1All.evl (lo hi : Int) (l : List Int) (hl : l.length < 4611686018427387904) (d : Nat) : ∀ (i : Nat), i + d = l.length → Ev (fun k => spec_l1All.l0 k lo hi l (l.length : Int) (i : Int)) (inAll lo hi (l.drop i)) := by
  induction d with
  | zero =>
    intro i hi0
    refine Ev.step (fun k => spec_l1All.l0.eq_2 ..) ?_
    refine ev_neg (by omega) ?_
    refine ev_val (Ev.now _) ?_
    rw [List.drop_of_length_le (by omega)]
    rfl
  | succ d ih =>
    intro i hi0
    refine Ev.step (fun k => spec_l1All.l0.eq_2 ..) ?_
    refine ev_pos (by omega) (ev_pos (by omega) (ev_pos (by omega) ?_))
    rw [wrap_nat i (by omega), rd_nat l i (by omega), List.drop_eq_getElem_cons (by omega), spec_l1In.is]
    refine Ev.bind (Ev.now _) ?_
    have u : inAll lo hi (l[i] :: l.drop (i + 1)) = ((decide (lo ≤ l[i]) && decide (l[i] ≤ hi)) && inAll lo hi (l.drop (i + 1))) := rfl
    rw [u]
    generalize (decide (lo ≤ l[i]) && decide (l[i] ≤ hi)) = b
    cases b with
    | true => exact ev_pos rfl (ih (i + 1) (by omega))
    | false => exact ev_neg (by decide) (Ev.now _)
theorem spec_l1All.ev (l : List Int) (lo hi : Int) (hl : l.length < 4611686018427387904) : Ev (fun k => spec_l1All.f k l lo hi) (inAll lo hi l) := by
  simp only [spec_l1All.f]
  exact spec_l1All.evl lo hi l hl l.length 0 (by omega)

theorem spec_l1Has.evl (x : Int) (l : List Int) (hl : l.length < 4611686018427387904) (d : Nat) : ∀ (i : Nat), i + d = l.length → Ev (fun k => spec_l1Has.l0 k x l (l.length : Int) (i : Int)) (decide (x ∈ l.drop i)) := by
  induction d with
  | zero =>
    intro i hi
    refine Ev.step (fun k => spec_l1Has.l0.eq_2 ..) ?_
    refine ev_neg (by omega) ?_
    refine ev_val (Ev.now _) ?_
    rw [List.drop_of_length_le (by omega)]
    simp
  | succ d ih =>
    intro i hi
    refine Ev.step (fun k => spec_l1Has.l0.eq_2 ..) ?_
    refine ev_pos (by omega) (ev_pos (by omega) (ev_pos (by omega) ?_))
    rw [wrap_nat i (by omega), rd_nat l i (by omega), List.drop_eq_getElem_cons (by omega)]
    by_cases e : l[i] = x
    · refine ev_pos e (ev_val (Ev.now _) ?_)
      simp [e]
    · refine ev_neg e (ev_val (ih (i + 1) (by omega)) ?_)
      simp only [List.mem_cons, show ¬ x = l[i] from fun h => e h.symm, false_or]
theorem spec_l1Has.ev (l : List Int) (x : Int) (hl : l.length < 4611686018427387904) : Ev (fun k => spec_l1Has.f k l x) (decide (x ∈ l)) := by
  simp only [spec_l1Has.f]
  exact spec_l1Has.evl x l hl l.length 0 (by omega)

theorem spec_paDrive.evl (p : Int) (hp : p ≤ 1048576) (l : List Int) (hl : l.length ≤ 1048576) (hx : ∀ x ∈ l, -1048576 ≤ x) (d : Nat) : ∀ (i : Nat) (out : List Int), i + d = l.length → out.length = i → Ev (fun k => spec_paDrive.l0 k p out l (l.length : Int) (i : Int)) (paD p out (l.drop i)) := by
  induction d with
  | zero =>
    intro i out hi ho
    refine Ev.step (fun k => spec_paDrive.l0.eq_2 ..) ?_
    refine ev_neg (by omega) ?_
    refine ev_val (Ev.now _) ?_
    rw [List.drop_of_length_le (by omega)]
    rfl
  | succ d ih =>
    intro i out hi ho
    refine Ev.step (fun k => spec_paDrive.l0.eq_2 ..) ?_
    refine ev_pos (by omega) (ev_pos (by omega) (ev_pos (by omega) ?_))
    rw [rd_nat l i (by omega), List.drop_eq_getElem_cons (by omega)]
    have hxi := hx l[i] (List.getElem_mem _)
    have inner : ∀ (m : Nat) (x : Int), (p - x).toNat = m → -1048576 ≤ x → Ev (fun k => spec_paDrive.l1 k p out x l (l.length : Int) (i : Int)) (paD p (out ++ [if land out p x < p then land out p x else -1]) (l.drop (i + 1))) := by
      intro m
      induction m with
      | zero =>
        intro x hm hx0
        refine Ev.step (fun k => spec_paDrive.l1.eq_2 ..) ?_
        refine ev_neg (by omega) (ev_pos (by omega) (ev_pos (by omega) ?_))
        rw [wrap_nat i (by omega), land_stop out p x (by omega), if_neg (by omega)]
        exact ih (i + 1) _ (by omega) (by simp; omega)
      | succ m ihm =>
        intro x hm hx0
        refine Ev.step (fun k => spec_paDrive.l1.eq_2 ..) ?_
        refine ev_pos (by omega) (Ev.bind (spec_l1Has.ev out x (by omega)) ?_)
        by_cases hh : x ∈ out
        · rw [decide_eq_true hh, land_go out p x (by omega) hh]
          refine ev_pos rfl ?_
          rw [wrap_id (x + 1) (by omega) (by omega)]
          exact ihm (x + 1) (by omega) (by omega)
        · rw [decide_eq_false hh, land_stop out p x (fun h => hh h.2), if_pos (by omega)]
          refine ev_neg (by decide) (ev_neg (by omega) (ev_pos (by omega) ?_))
          rw [wrap_nat i (by omega)]
          exact ih (i + 1) _ (by omega) (by simp; omega)
    exact inner _ l[i] rfl hxi
theorem spec_paDrive.ev (l : List Int) (p : Int) (hp : p ≤ 1048576) (hl : l.length ≤ 1048576) (hx : ∀ x ∈ l, -1048576 ≤ x) : Ev (fun k => spec_paDrive.f k l p) (paD p [] l) := by
  simp only [spec_paDrive.f]
  exact spec_paDrive.evl p hp l hl hx l.length 0 [] (by omega) rfl

theorem paD_length (p : Int) : ∀ (l out : List Int), (paD p out l).length = out.length + l.length
  | [], out => by simp [paD]
  | x :: l, out => by
    have := paD_length p l (out ++ [if land out p x < p then land out p x else -1])
    simp only [paD, this, List.length_append, List.length_cons, List.length_nil]
    omega

theorem spec_paAll.ev (l : List Int) (p : Int) (hp : p ≤ 1048576) (hl : l.length ≤ 1048576) (hx : ∀ x ∈ l, 0 ≤ x) : Ev (fun k => spec_paAll.f k l p) (allPark l p) := by
  simp only [spec_paAll.f]
  refine Ev.bind (spec_paDrive.ev l p hp hl (fun x h => by have := hx x h; omega)) (Ev.bind (spec_l1Has.ev _ _ (by rw [paD_length]; simp; omega)) ?_)
  refine ev_val (Ev.now _) ?_
  rw [allPark_paD l p hx]
  simp

theorem isPk_iff (l : List Int) : isPk l = true ↔ l.length ≤ 8 ∧ (∀ x ∈ l, 0 ≤ x ∧ x < l.length) ∧ allPark l l.length = true := by
  simp only [isPk, Bool.and_eq_true, decide_eq_true_eq, List.all_eq_true]
  constructor
  · rintro ⟨⟨h1, h2⟩, h3⟩
    exact ⟨h1, fun x hx => by have := h2 x hx; omega, h3⟩
  · rintro ⟨h1, h2, h3⟩
    exact ⟨⟨h1, fun x hx => by have := h2 x hx; omega⟩, h3⟩
theorem spec_paParking.ev (l : List Int) (hl : l.length ≤ 1048576) : Ev (fun k => spec_paParking.f k l) (isPk l) := by
  simp only [spec_paParking.f]
  unfold isPk
  by_cases h8 : l.length ≤ 8
  · rw [decide_eq_true h8, wrap_id _ (by omega) (by omega)]
    refine ev_pos (by omega) (Ev.bind (spec_l1All.ev l 0 _ (by omega)) ?_)
    have u : inAll 0 ((l.length : Int) - 1) l = l.all fun x => decide (0 ≤ x) && decide (x ≤ (l.length : Int) - 1) := rfl
    rw [← u]
    cases e : inAll 0 ((l.length : Int) - 1) l with
    | true =>
      rw [inAll_iff] at e
      exact ev_pos rfl (Ev.bind (spec_paAll.ev l _ (by omega) hl (fun x hx => (e x hx).1)) (Ev.now _))
    | false => exact ev_neg (by decide) (Ev.now _)
  · rw [decide_eq_false h8]
    exact ev_neg (by omega) (Ev.now _)

/-- the number of a parking function -/
def rankR (l : List Int) : Int × Bool := if isPk l = true then ((rankFrom l.length [] l : Nat), true) else (0, false)
theorem isPk_street (l : List Int) (h : isPk l = true) : l.length ≤ 8 ∧ inStreet l.length l := by
  unfold isPk at h
  simp only [Bool.and_eq_true, decide_eq_true_eq, List.all_eq_true] at h
  exact ⟨h.1.1, fun x hx => by have := h.1.2 x hx; omega⟩
theorem rank_bd (l : List Int) (h : isPk l = true) : rankFrom l.length [] l < comp l.length [] := by
  have ⟨h8, hs⟩ := isPk_street l h
  exact (rank_at l.length h8 l.length [] l rfl (by simp) (fun x hx => by cases hx) hs (by simpa using h)).1
theorem street_take {n : Nat} {l : List Int} (h : inStreet n l) (i : Nat) : inStreet n (l.take i) := fun x hx => h x (List.mem_of_mem_take hx)

theorem spec_RankParking.evy (l : List Int) (h8 : l.length ≤ 8) (hs : inStreet l.length l) (i x A : Nat) (hi : i < l.length) (hx : x < l.length) (hA : A + sumTo (fun y => comp l.length (l.take i ++ [(y : Int)])) x ≤ 16777216) (R : Int × Bool) (hn : Ev (fun k => spec_RankParking.l0 k l ((A + sumTo (fun y => comp l.length (l.take i ++ [(y : Int)])) x : Nat) : Int) l (l.length : Int) ((i + 1 : Nat) : Int)) R) : ∀ (d y : Nat), y + d = x → Ev (fun k => spec_RankParking.l1 k l ((A + sumTo (fun y => comp l.length (l.take i ++ [(y : Int)])) y : Nat) : Int) (i : Int) (x : Int) (y : Int) l (l.length : Int) (i : Int)) R
  | 0, y, e => by
    have : y = x := by omega
    subst this
    refine Ev.step (fun k => spec_RankParking.l1.eq_2 ..) ?_
    refine ev_neg (by omega) ?_
    rw [wrap_nat i (by omega)]
    exact hn
  | d + 1, y, e => by
    have ih := spec_RankParking.evy l h8 hs i x A hi hx hA R hn d (y + 1) (by omega)
    have hc := sumTo_split (fun y => comp l.length (l.take i ++ [(y : Int)])) (y + 1) (x - (y + 1))
    rw [show y + 1 + (x - (y + 1)) = x by omega] at hc
    have h1 : sumTo (fun y => comp l.length (l.take i ++ [(y : Int)])) (y + 1) = sumTo (fun y => comp l.length (l.take i ++ [(y : Int)])) y + comp l.length (l.take i ++ [(y : Int)]) := rfl
    have ht : (l.take i).length = i := by rw [List.length_take]; omega
    refine Ev.step (fun k => spec_RankParking.l1.eq_2 ..) ?_
    refine ev_pos (by omega) (ev_pos (by omega) (ev_pos (by omega) ?_))
    rw [Int.toNat_natCast]
    refine Ev.bind (ev_eq (spec_l1Own.is (l.take i) (by omega))) (ev_pos (by omega) ?_)
    refine Ev.bind (spec_cnWith.ev (l.take i ++ [(y : Int)]) l.length h8 (by simp; omega) (pos_snoc (street_take hs i) y)) ?_
    rw [add_nat _ _ (by omega) (by omega), wrap_nat y (by omega), Nat.add_assoc, ← h1]
    exact ih
theorem spec_RankParking.evi (l : List Int) (h8 : l.length ≤ 8) (hs : inStreet l.length l) : ∀ (d i A : Nat), i + d = l.length → A + rankFrom l.length (l.take i) (l.drop i) ≤ 16777216 → Ev (fun k => spec_RankParking.l0 k l ((A : Nat) : Int) l (l.length : Int) (i : Int)) (((A + rankFrom l.length (l.take i) (l.drop i) : Nat) : Int), true)
  | 0, i, A, e, hA => by
    refine Ev.step (fun k => spec_RankParking.l0.eq_2 ..) ?_
    refine ev_neg (by omega) (ev_val (Ev.now _) ?_)
    rw [List.drop_of_length_le (by omega)]
    rfl
  | d + 1, i, A, e, hA => by
    have hd : l.drop i = l[i]'(by omega) :: l.drop (i + 1) := List.drop_eq_getElem_cons (by omega)
    have hxm := hs (l[i]'(by omega)) (List.getElem_mem _)
    rw [hd] at hA ⊢
    simp only [rankFrom] at hA ⊢
    rw [← List.take_succ_eq_append_getElem (by omega : i < l.length), ← Nat.add_assoc] at hA ⊢
    have ih := spec_RankParking.evi l h8 hs d (i + 1) (A + sumTo (fun f => comp l.length (l.take i ++ [(f : Int)])) (l[i]'(by omega)).toNat) (by omega) hA
    have h := spec_RankParking.evy l h8 hs i (l[i]'(by omega)).toNat A (by omega) (by omega) (by omega) _ ih (l[i]'(by omega)).toNat 0 (by omega)
    refine Ev.step (fun k => spec_RankParking.l0.eq_2 ..) ?_
    refine ev_pos (by omega) (ev_pos (by omega) (ev_pos (by omega) ?_))
    rw [rd_nat l i (by omega), show l[i]'(by omega) = (((l[i]'(by omega)).toNat : Nat) : Int) by omega]
    exact h
theorem spec_RankParking.ev (l : List Int) (hl : l.length ≤ 1048576) : Ev (fun k => spec_RankParking.f k l) (rankR l) := by
  simp only [spec_RankParking.f]
  refine Ev.bind (spec_paParking.ev l hl) ?_
  by_cases hp : isPk l = true
  · have ⟨h8, hs⟩ := isPk_street l hp
    have hr := rank_bd l hp
    have hc := comp_lt l.length [] h8
    refine ev_pos hp ?_
    refine ev_val (spec_RankParking.evi l h8 hs l.length 0 0 (by omega) (by rw [List.take_zero, List.drop_zero]; omega)) ?_
    unfold rankR
    rw [if_pos hp, List.take_zero, List.drop_zero, Nat.zero_add]
  · refine ev_neg hp (ev_val (Ev.now _) ?_)
    unfold rankR
    rw [if_neg hp]

/-- the next parking function in order -/
def nextR (l : List Int) : List Int × Bool := if isPk l = true then atR (l.length : Int) ((rankFrom l.length [] l + 1 : Nat) : Int) else ([], false)
theorem nextR_len (l : List Int) : (nextR l).1.length ≤ 8 := by
  unfold nextR
  split
  · exact atR_len _ _
  · simp

theorem spec_NextParking.ev (l : List Int) (hl : l.length ≤ 1048576) : Ev (fun k => spec_NextParking.f k l) (nextR l) := by
  simp only [spec_NextParking.f]
  refine Ev.bind (spec_RankParking.ev l hl) ?_
  unfold nextR rankR
  by_cases hp : isPk l = true
  · have ⟨h8, hs⟩ := isPk_street l hp
    have hr := rank_bd l hp
    have hc := comp_lt l.length [] h8
    rw [if_pos hp, if_pos hp]
    refine ev_pos rfl ?_
    rw [wrap_nat _ (by omega)]
    exact Ev.bind (spec_ParkingAt.ev _ _) (Ev.now _)
  · rw [if_neg hp, if_neg hp]
    exact ev_neg (by decide) (Ev.now _)

theorem impl_between.is (x lo hi : Int) : impl_between.f x lo hi = some (decide (lo ≤ x) && decide (x ≤ hi)) := by
  unfold impl_between.f
  by_cases h : x ≥ lo
  · rw [if_pos h, decide_eq_true (show lo ≤ x from h), Bool.true_and]
  · rw [if_neg h, decide_eq_false (show ¬ lo ≤ x from h), Bool.false_and]

theorem impl_isCars.is (n : Int) : impl_isCars.f n = some (decide (0 ≤ n) && decide (n ≤ 8)) := by
  simp only [impl_isCars.f, impl_between.is, Option.bind_some]

theorem impl_countParking.fin : ∀ n : Fin 9, impl_countParking.f 40 ((n.val : Nat) : Int) = some ((cnt n.val : Nat) : Int) := by decide +kernel
theorem impl_countParking.ev (n : Nat) (h : n ≤ 8) : Ev (fun k => impl_countParking.f k (n : Int)) ((cnt n : Nat) : Int) := Ev.of (fun k => impl_countParking.mono (n : Int) k) (impl_countParking.fin ⟨n, by omega⟩)

theorem slices_Clone_int_int.is (l : List Int) (hl : l.length ≤ 1048576) : slices_Clone_int_int.f l = some l := by
  simp only [slices_Clone_int_int.f]
  rw [if_pos (by omega)]

theorem impl_choose.fin : ∀ a m : Fin 9, m.val ≤ a.val → impl_choose.f 20 ((a.val : Nat) : Int) ((m.val : Nat) : Int) = some ((ch a.val m.val : Nat) : Int) := by decide +kernel
theorem impl_choose.ev (a m : Nat) (ha : a ≤ 8) (hm : m ≤ a) : Ev (fun k => impl_choose.f k (a : Int) (m : Int)) ((ch a m : Nat) : Int) :=
  Ev.of (fun k => impl_choose.mono _ _ k) (impl_choose.fin ⟨a, by omega⟩ ⟨m, by omega⟩ hm)

theorem impl_completions.evm (L : List Int) (n left j kk : Nat) (h8 : left ≤ 8) (hj : j ≤ 8) (hL : L.length ≤ 8) (hk : kk ≤ left) (R : Int) (hn : Ev (fun k => impl_completions.l1 k L (left : Int) ((own L j : Nat) : Int) (tab (left + 1) (rowC L left j (kk + 1))) (n : Int) (j : Int) (j : Int) (tab (left + 1) (gW L left j)) ((tab (left + 1) (gW L left j)).length : Int) ((kk + 1 : Nat) : Int)) R) : ∀ (d m : Nat), m + d = left + 1 - kk → Ev (fun k => impl_completions.l2 k L (left : Int) ((own L j : Nat) : Int) (tab (left + 1) (midC L left j kk m)) (kk : Int) (wrap64 (gW L left j kk : Int)) (m : Int) (n : Int) (j : Int) (j : Int) (tab (left + 1) (gW L left j)) ((tab (left + 1) (gW L left j)).length : Int) (kk : Int)) R
  | 0, m, e => by
    refine Ev.step (fun k => impl_completions.l2.eq_2 ..) ?_
    rw [add_nat kk m (by omega) (by omega)]
    refine ev_neg (by omega) ?_
    rw [wrap_nat kk (by omega), tab_congr (left + 1) (fun t ht => midC_full L left j kk m t (by omega))]
    exact hn
  | d + 1, m, e => by
    have ho := own_le L j
    have ih := impl_completions.evm L n left j kk h8 hj hL hk R hn d (m + 1) (by omega)
    refine Ev.step (fun k => impl_completions.l2.eq_2 ..) ?_
    rw [add_nat kk m (by omega) (by omega), add_nat (own L j) kk (by omega) (by omega), add_nat (own L j + kk) m (by omega) (by omega)]
    refine ev_pos (by omega) ?_
    by_cases h : own L j + (kk + m) > j
    · refine ev_pos (by omega) (ev_pos (by omega) (ev_pos (by rw [tab_len]; omega) ?_))
      rw [sub_nat left kk hk (by omega)]
      refine Ev.bind (impl_choose.ev (left - kk) m (by omega) (by omega)) ?_
      rw [put_tab (left + 1) _ (kk + m) _ _ (by omega), wrap_nat m (by omega), tab_congr (left + 1) (fun t ht => midC_yes L left j kk m t h)]
      exact ih
    · refine ev_neg (by omega) ?_
      rw [wrap_nat m (by omega), tab_congr (left + 1) (fun t ht => midC_no L left j kk m t h)]
      exact ih
theorem impl_completions.evk (L : List Int) (n left j : Nat) (h8 : left ≤ 8) (hj : j ≤ 8) (hL : L.length ≤ 8) (R : Int) (hn : Ev (fun k => impl_completions.l0 k L (left : Int) (tab (left + 1) (gW L left (j + 1))) (n : Int) ((j + 1 : Nat) : Int)) R) : ∀ (d kk : Nat), kk + d = left + 1 → Ev (fun k => impl_completions.l1 k L (left : Int) ((own L j : Nat) : Int) (tab (left + 1) (rowC L left j kk)) (n : Int) (j : Int) (j : Int) (tab (left + 1) (gW L left j)) ((tab (left + 1) (gW L left j)).length : Int) (kk : Int)) R
  | 0, kk, e => by
    refine Ev.step (fun k => impl_completions.l1.eq_2 ..) ?_
    refine ev_neg (by rw [tab_len]; omega) ?_
    rw [wrap_nat j (by omega), show kk = left + 1 by omega, tab_congr (left + 1) (fun t ht => rowC_all L left j t h8 ht)]
    exact hn
  | d + 1, kk, e => by
    have ih := impl_completions.evk L n left j h8 hj hL R hn d (kk + 1) (by omega)
    refine Ev.step (fun k => impl_completions.l1.eq_2 ..) ?_
    refine ev_pos (by rw [tab_len]; omega) (ev_pos (by omega) (ev_pos (by rw [tab_len]; omega) ?_))
    have h := impl_completions.evm L n left j kk h8 hj hL (by omega) R ih (left + 1 - kk) 0 (by omega)
    rw [tab_congr (left + 1) (fun t ht => midC_zero L left j kk t)] at h
    rw [tab_rd (left + 1) _ kk (by omega)]
    exact h
theorem impl_completions.evj (L : List Int) (n left : Nat) (h8 : n ≤ 8) (hl : L.length + left = n) : ∀ (d j : Nat), j + d = n → Ev (fun k => impl_completions.l0 k L (left : Int) (tab (left + 1) (gW L left j)) (n : Int) (j : Int)) ((comp n L : Nat) : Int)
  | 0, j, e => by
    have hj : j = n := by omega
    subst hj
    refine Ev.step (fun k => impl_completions.l0.eq_2 ..) ?_
    refine ev_neg (by omega) (ev_pos (by omega) (ev_pos (by rw [tab_len]; omega) ?_))
    rw [tab_rd (left + 1) _ left (by omega), gW_last j L left h8 hl]
    exact Ev.now _
  | d + 1, j, e => by
    have ih := impl_completions.evj L n left h8 hl d (j + 1) (by omega)
    refine Ev.step (fun k => impl_completions.l0.eq_2 ..) ?_
    refine ev_pos (by omega) ?_
    refine Ev.bind (ev_eq (r := ((own L j : Nat) : Int)) (by unfold impl_cntLe.f; rw [if_pos (by omega)]; rfl)) ?_
    rw [wrap_nat left (by omega)]
    refine ev_pos (by omega) (ev_pos (by omega) ?_)
    rw [Int.toNat_natCast, rowC_nil (left + 1) L left j]
    exact impl_completions.evk L n left j (by omega) (by omega) (by omega) _ ih (left + 1) 0 (by omega)
theorem impl_completions.ev (L : List Int) (n : Nat) (h8 : n ≤ 8) (hl : L.length ≤ n) : Ev (fun k => impl_completions.f k L (n : Int)) ((comp n L : Nat) : Int) := by
  simp only [impl_completions.f]
  rw [sub_nat n L.length hl (by omega), wrap_nat (n - L.length) (by omega)]
  refine ev_pos (by omega) (ev_pos (by omega) ?_)
  refine Ev.bind (Ev.now _) ?_
  rw [Int.toNat_natCast, Int.toNat_zero, gW_start (n - L.length) L (n - L.length)]
  refine ev_pos (by rw [List.length_replicate]; omega) ?_
  exact impl_completions.evj L n (n - L.length) h8 (by omega) n 0 (by omega)

theorem impl_parkingAt.bound (n : Nat) (h8 : n ≤ 8) (L : List Int) : sumTo (fun x => comp n (L ++ [(x : Int)])) n ≤ 134217728 := by
  have h := sumTo_le n (f := fun x => comp n (L ++ [(x : Int)])) (g := fun _ => 16777216 * 1) (fun i _ => by have := comp_lt n (L ++ [(i : Int)]) h8; omega)
  rw [sumTo_mul] at h
  have : ∀ m, sumTo (fun _ => 1) m = m := by
    intro m
    induction m with
    | zero => rfl
    | succ m ih => simp only [sumTo, ih]
  rw [this] at h
  omega
theorem impl_parkingAt.evx (n : Nat) (h8 : n ≤ 8) (L : List Int) (hl : L.length < n) (hs : inStreet n L) (R : List Int) : ∀ (d x r : Nat), x + d = n → sumTo (fun x => comp n (L ++ [(x : Int)])) x + r < sumTo (fun x => comp n (L ++ [(x : Int)])) n → Ev (fun k => impl_parkingAt.l0 k (n : Int) (((pick (fun x => comp n (L ++ [(x : Int)])) d x r).2 : Nat) : Int) (L ++ [(((pick (fun x => comp n (L ++ [(x : Int)])) d x r).1 : Nat) : Int)])) R → Ev (fun k => impl_parkingAt.l1 k (n : Int) (r : Int) L (x : Int)) R
  | 0, x, r, e, hr, hn => by
    rw [show x = n by omega] at hr
    omega
  | d + 1, x, r, e, hr, hn => by
    have ih := impl_parkingAt.evx n h8 L hl hs R d (x + 1) (r - comp n (L ++ [(x : Int)])) (by omega)
    have h1 : sumTo (fun x => comp n (L ++ [(x : Int)])) (x + 1) = sumTo (fun x => comp n (L ++ [(x : Int)])) x + comp n (L ++ [(x : Int)]) := rfl
    have hb := comp_lt n (L ++ [(x : Int)]) h8
    have hb2 : r ≤ 134217728 := by
      have := impl_parkingAt.bound n h8 L
      omega
    simp only [pick] at hn
    refine Ev.step (fun k => impl_parkingAt.l1.eq_2 ..) ?_
    refine Ev.bind (ev_eq (slices_Clone_int_int.is L (by omega))) (ev_pos (by omega) ?_)
    refine Ev.bind (impl_completions.ev (L ++ [(x : Int)]) n h8 (by simp; omega)) ?_
    by_cases g : r < comp n (L ++ [(x : Int)])
    · rw [if_pos g] at hn
      exact ev_pos (by omega) (ev_pos (by omega) hn)
    · rw [if_neg g] at hn
      refine ev_neg (by omega) ?_
      rw [wrap_nat x (by omega), sub_nat r _ (by omega) (by omega)]
      exact ih (by omega) hn
theorem impl_parkingAt.evd (n : Nat) (h8 : n ≤ 8) : ∀ (d : Nat) (L : List Int) (r : Nat), L.length + d = n → inStreet n L → r < comp n L → Ev (fun k => impl_parkingAt.l0 k (n : Int) (r : Int) L) (unrank n d L r)
  | 0, L, r, h, hs, hr => by
    refine Ev.step (fun k => impl_parkingAt.l0.eq_2 ..) ?_
    exact ev_neg (by omega) (Ev.now _)
  | d + 1, L, r, h, hs, hr => by
    rw [comp_child n L (by omega)] at hr
    obtain ⟨h1, h2, h3⟩ := pick_spec (fun x => comp n (L ++ [(x : Int)])) n n 0 r (by omega) (by simpa [sumTo] using hr)
    have ih := impl_parkingAt.evd n h8 d (L ++ [(((pick (fun x => comp n (L ++ [(x : Int)])) n 0 r).1 : Nat) : Int)]) (pick (fun x => comp n (L ++ [(x : Int)])) n 0 r).2 (by simp; omega) (inStreet_snoc hs h1) h3
    have hx := impl_parkingAt.evx n h8 L (by omega) hs _ n 0 r (by omega) (by simpa [sumTo] using hr) ih
    refine Ev.step (fun k => impl_parkingAt.l0.eq_2 ..) ?_
    refine ev_pos (by omega) ?_
    exact hx
theorem impl_parkingAt.ev (n r : Nat) (h8 : n ≤ 8) (hr : r < cnt n) : Ev (fun k => impl_parkingAt.f k (n : Int) (r : Int)) (unrank n n [] r) := by
  simp only [impl_parkingAt.f]
  exact impl_parkingAt.evd n h8 n [] r (by simp) (fun x hx => by cases hx) (by rw [comp_total n h8]; exact hr)

theorem impl_ParkingAt.ev (n r : Int) : Ev (fun k => impl_ParkingAt.f k n r) (atR n r) := by
  simp only [impl_ParkingAt.f]
  refine Ev.bind (ev_eq (impl_isCars.is n)) ?_
  by_cases hn : 0 ≤ n ∧ n ≤ 8
  · rw [decide_eq_true hn.1, decide_eq_true hn.2]
    obtain ⟨m, rfl⟩ : ∃ m : Nat, n = (m : Int) := ⟨n.toNat, by omega⟩
    have hc := cnt_bd m (by omega)
    refine ev_pos rfl (Ev.bind (impl_countParking.ev m (by omega)) ?_)
    rw [wrap_id ((cnt m : Int) - 1) (by omega) (by omega)]
    refine Ev.bind (ev_eq (impl_between.is r 0 _)) ?_
    by_cases hr : 0 ≤ r ∧ r ≤ (cnt m : Int) - 1
    · rw [decide_eq_true hr.1, decide_eq_true hr.2]
      obtain ⟨q, rfl⟩ : ∃ q : Nat, r = (q : Int) := ⟨r.toNat, by omega⟩
      refine ev_pos rfl (Ev.bind (impl_parkingAt.ev m q (by omega) (by omega)) (ev_val (Ev.now _) ?_))
      unfold atR
      rw [Int.toNat_natCast, Int.toNat_natCast, if_pos ⟨by omega, by omega, by omega, by omega⟩]
    · refine ev_neg (by simp; omega) (ev_val (Ev.now _) ?_)
      unfold atR
      rw [if_neg (fun h => hr ⟨h.2.2.1, h.2.2.2⟩)]
  · refine ev_neg (by simp; omega) (ev_val (Ev.now _) ?_)
    unfold atR
    rw [if_neg (fun h => hn ⟨h.1, h.2.1⟩)]

theorem impl_areBetween.is (l : List Int) (lo hi : Int) (hl : l.length ≤ 35184372088832) : impl_areBetween.f l lo hi = some (inAll lo hi l) := by
  unfold impl_areBetween.f
  rw [if_pos hl]
  congr 1
  unfold inAll out_b
  induction l with
  | nil => rfl
  | cons x l ih =>
    rw [List.any_cons, List.all_cons, ← ih (by simp at hl; omega)]
    cases (decide (lo ≤ x) && decide (x ≤ hi)) <;> simp

theorem impl_areCars.is (l : List Int) (hl : l.length ≤ 35184372088832) : impl_areCars.f l = some (decide (l.length ≤ 8) && inAll 0 99 l) := by
  unfold impl_areCars.f
  by_cases h8 : l.length ≤ 8
  · rw [decide_eq_true h8, if_pos (by omega), impl_areBetween.is l 0 99 hl]
    rfl
  · rw [decide_eq_false h8, if_neg (by omega)]
    rfl

def drvR (o : Option (List Int)) : List Int × Bool := match o with
  | some r => (r, true)
  | none => ([], false)
theorem drvR_snd (l : List Int) (p : Int) : (drvR (drv p [] l)).2 = allPark l p := by
  unfold drvR allPark
  cases drv p [] l <;> rfl

/-- the table t tells which places are in out -/
def Tk (p : Int) (out : List Int) (t : List Bool) : Prop := t.length = p.toNat ∧ ∀ j : Int, 0 ≤ j → j < p → (rdOf false t j = true ↔ j ∈ out)
theorem Tk_set (p : Int) (out : List Int) (t : List Bool) (h : Tk p out t) (x : Int) (h0 : 0 ≤ x) (h1 : x < p) : Tk p (out ++ [x]) (t.set x.toNat true) := by
  refine ⟨by rw [List.length_set]; exact h.1, fun j j0 j1 => ?_⟩
  have hl := h.1
  have hj := h.2 j j0 j1
  unfold rdOf at hj ⊢
  rw [List.getD_eq_getElem?_getD] at hj ⊢
  rw [List.getElem?_set]
  by_cases e : x.toNat = j.toNat
  · have e' : j = x := by omega
    subst e'
    rw [if_pos rfl, if_pos (by omega)]
    simp
  · rw [if_neg e]
    rw [hj]
    have e' : ¬ j = x := by omega
    simp [e']

theorem impl_drive.evl (p : Int) (hp : p ≤ 1048576) (l : List Int) (hl : l.length ≤ 1048576) (hx : ∀ x ∈ l, 0 ≤ x ∧ x ≤ 1048576) (d : Nat) : ∀ (i : Nat) (out : List Int) (t : List Bool), i + d = l.length → out.length = i → Tk p out t → Ev (fun k => impl_drive.l0 k p t out l (l.length : Int) (i : Int)) (drvR (drv p out (l.drop i))) := by
  induction d with
  | zero =>
    intro i out t hi ho ht
    refine Ev.step (fun k => impl_drive.l0.eq_2 ..) ?_
    refine ev_neg (by omega) ?_
    refine ev_val (Ev.now _) ?_
    rw [List.drop_of_length_le (by omega)]
    rfl
  | succ d ih =>
    intro i out t hi ho ht
    refine Ev.step (fun k => impl_drive.l0.eq_2 ..) ?_
    refine ev_pos (by omega) (ev_pos (by omega) (ev_pos (by omega) ?_))
    rw [rd_nat l i (by omega), List.drop_eq_getElem_cons (by omega)]
    have hxi := hx l[i] (List.getElem_mem _)
    have inner : ∀ (m : Nat) (x : Int), (p - x).toNat = m → 0 ≤ x → x ≤ 1048576 → Ev (fun k => impl_drive.l1 k p t out x l (l.length : Int) (i : Int)) (drvR (drv p out (x :: l.drop (i + 1)))) := by
      intro m
      induction m with
      | zero =>
        intro x hm hx0 hx1
        refine Ev.step (fun k => impl_drive.l1.eq_2 ..) ?_
        refine ev_neg (by omega) (ev_pos (by omega) ?_)
        refine ev_val (Ev.now _) ?_
        simp only [drv]
        rw [land_stop out p x (by omega), if_neg (by omega)]
        rfl
      | succ m ihm =>
        intro x hm hx0 hx1
        have hlen := ht.1
        refine Ev.step (fun k => impl_drive.l1.eq_2 ..) ?_
        refine ev_pos (by omega) (ev_pos (by omega) (ev_pos (by omega) ?_))
        by_cases hh : x ∈ out
        · refine ev_pos ((ht.2 x hx0 (by omega)).mpr hh) ?_
          rw [wrap_id (x + 1) (by omega) (by omega)]
          refine ev_val (ihm (x + 1) (by omega) (by omega) (by omega)) ?_
          simp only [drv]
          rw [land_go out p x (by omega) hh]
        · refine ev_neg (fun h => hh ((ht.2 x hx0 (by omega)).mp h)) (ev_neg (by omega) (ev_pos (by omega) ?_))
          rw [wrap_nat i (by omega)]
          refine ev_val (ih (i + 1) _ _ (by omega) (by simp; omega) (Tk_set p out t ht x hx0 (by omega))) ?_
          simp only [drv]
          rw [land_stop out p x (fun h => hh h.2), if_pos (by omega)]
    exact inner _ l[i] rfl hxi.1 hxi.2
theorem impl_drive.ev (l : List Int) (p : Int) (hp0 : 0 ≤ p) (hp : p ≤ 1048576) (hl : l.length ≤ 1048576) (hx : ∀ x ∈ l, 0 ≤ x ∧ x ≤ 1048576) : Ev (fun k => impl_drive.f k l p) (drvR (drv p [] l)) := by
  simp only [impl_drive.f]
  refine ev_pos hp0 (ev_pos (by omega) ?_)
  refine impl_drive.evl p hp l hl hx l.length 0 [] _ (by omega) rfl ⟨by simp, fun j j0 j1 => ?_⟩
  unfold rdOf
  rw [List.getD_eq_getElem?_getD, List.getElem?_replicate]
  split <;> simp

theorem isPk_of_cars (l : List Int) (h8 : l.length ≤ 8) (h0 : ∀ x ∈ l, 0 ≤ x) : isPk l = allPark l l.length := by
  cases e : allPark l l.length with
  | false => simp [isPk, e]
  | true =>
    unfold allPark at e
    obtain ⟨r, hr⟩ := Option.isSome_iff_exists.mp e
    have h := drv_lt l.length l [] r hr
    have e' : allPark l l.length = true := by unfold allPark; exact e
    simp only [isPk, e', Bool.and_true, Bool.and_eq_true, decide_eq_true_eq, List.all_eq_true]
    exact ⟨h8, fun x hx => ⟨h0 x hx, by have := h x hx; omega⟩⟩
theorem isPk_no_cars (l : List Int) (h : ¬ (decide (l.length ≤ 8) && inAll 0 99 l) = true) : isPk l = false := by
  cases e : isPk l with
  | false => rfl
  | true =>
    exfalso
    apply h
    simp only [isPk, Bool.and_eq_true, decide_eq_true_eq, List.all_eq_true] at e
    rw [Bool.and_eq_true, decide_eq_true_eq, inAll_iff]
    exact ⟨e.1.1, fun x hx => by have := e.1.2 x hx; omega⟩

theorem impl_isParking.ev (l : List Int) (hl : l.length ≤ 1048576) : Ev (fun k => impl_isParking.f k l) (isPk l) := by
  simp only [impl_isParking.f]
  refine Ev.bind (ev_eq (impl_areCars.is l (by omega))) ?_
  cases e : (decide (l.length ≤ 8) && inAll 0 99 l) with
  | true =>
    rw [Bool.and_eq_true, decide_eq_true_eq, inAll_iff] at e
    refine ev_pos rfl (Ev.bind (impl_drive.ev l _ (by omega) (by omega) hl (fun x hx => by have := e.2 x hx; omega)) ?_)
    refine ev_val (Ev.now _) ?_
    rw [drvR_snd]
    exact (isPk_of_cars l e.1 (fun x hx => (e.2 x hx).1)).symm
  | false =>
    refine ev_neg (by decide) (ev_val (Ev.now _) ?_)
    exact (isPk_no_cars l (by rw [e]; decide)).symm

theorem impl_rank.evy (l : List Int) (h8 : l.length ≤ 8) (hs : inStreet l.length l) (i x A : Nat) (hi : i < l.length) (hx : x < l.length) (hA : A + sumTo (fun y => comp l.length (l.take i ++ [(y : Int)])) x ≤ 16777216) (R : Int) (hn : Ev (fun k => impl_rank.l0 k l ((A + sumTo (fun y => comp l.length (l.take i ++ [(y : Int)])) x : Nat) : Int) l (l.length : Int) ((i + 1 : Nat) : Int)) R) : ∀ (d y : Nat), y + d = x → Ev (fun k => impl_rank.l1 k l ((A + sumTo (fun y => comp l.length (l.take i ++ [(y : Int)])) y : Nat) : Int) (i : Int) l (l.length : Int) (i : Int) (x : Int) (y : Int)) R
  | 0, y, e => by
    have : y = x := by omega
    subst this
    refine Ev.step (fun k => impl_rank.l1.eq_2 ..) ?_
    refine ev_neg (by omega) ?_
    rw [wrap_nat i (by omega)]
    exact hn
  | d + 1, y, e => by
    have ih := impl_rank.evy l h8 hs i x A hi hx hA R hn d (y + 1) (by omega)
    have hc := sumTo_split (fun y => comp l.length (l.take i ++ [(y : Int)])) (y + 1) (x - (y + 1))
    rw [show y + 1 + (x - (y + 1)) = x by omega] at hc
    have h1 : sumTo (fun y => comp l.length (l.take i ++ [(y : Int)])) (y + 1) = sumTo (fun y => comp l.length (l.take i ++ [(y : Int)])) y + comp l.length (l.take i ++ [(y : Int)]) := rfl
    have ht : (l.take i).length = i := by rw [List.length_take]; omega
    refine Ev.step (fun k => impl_rank.l1.eq_2 ..) ?_
    refine ev_pos (by omega) (ev_pos (by omega) (ev_pos (by omega) ?_))
    rw [Int.toNat_natCast]
    refine Ev.bind (ev_eq (slices_Clone_int_int.is (l.take i) (by omega))) (ev_pos (by omega) ?_)
    refine Ev.bind (impl_completions.ev (l.take i ++ [(y : Int)]) l.length h8 (by simp; omega)) ?_
    rw [add_nat _ _ (by omega) (by omega), wrap_nat y (by omega), Nat.add_assoc, ← h1]
    exact ih
theorem impl_rank.evi (l : List Int) (h8 : l.length ≤ 8) (hs : inStreet l.length l) : ∀ (d i A : Nat), i + d = l.length → A + rankFrom l.length (l.take i) (l.drop i) ≤ 16777216 → Ev (fun k => impl_rank.l0 k l ((A : Nat) : Int) l (l.length : Int) (i : Int)) ((A + rankFrom l.length (l.take i) (l.drop i) : Nat) : Int)
  | 0, i, A, e, hA => by
    refine Ev.step (fun k => impl_rank.l0.eq_2 ..) ?_
    refine ev_neg (by omega) (ev_val (Ev.now _) ?_)
    rw [List.drop_of_length_le (by omega)]
    rfl
  | d + 1, i, A, e, hA => by
    have hd : l.drop i = l[i]'(by omega) :: l.drop (i + 1) := List.drop_eq_getElem_cons (by omega)
    have hxm := hs (l[i]'(by omega)) (List.getElem_mem _)
    rw [hd] at hA ⊢
    simp only [rankFrom] at hA ⊢
    rw [← List.take_succ_eq_append_getElem (by omega : i < l.length), ← Nat.add_assoc] at hA ⊢
    have ih := impl_rank.evi l h8 hs d (i + 1) (A + sumTo (fun f => comp l.length (l.take i ++ [(f : Int)])) (l[i]'(by omega)).toNat) (by omega) hA
    have h := impl_rank.evy l h8 hs i (l[i]'(by omega)).toNat A (by omega) (by omega) (by omega) _ ih (l[i]'(by omega)).toNat 0 (by omega)
    refine Ev.step (fun k => impl_rank.l0.eq_2 ..) ?_
    refine ev_pos (by omega) (ev_pos (by omega) (ev_pos (by omega) ?_))
    rw [rd_nat l i (by omega), show l[i]'(by omega) = (((l[i]'(by omega)).toNat : Nat) : Int) by omega]
    exact h
theorem impl_rank.ev (l : List Int) (hp : isPk l = true) : Ev (fun k => impl_rank.f k l) ((rankFrom l.length [] l : Nat) : Int) := by
  have ⟨h8, hs⟩ := isPk_street l hp
  have hr := rank_bd l hp
  have hc := comp_lt l.length [] h8
  simp only [impl_rank.f]
  refine ev_val (impl_rank.evi l h8 hs l.length 0 0 (by omega) (by rw [List.take_zero, List.drop_zero]; omega)) ?_
  rw [List.take_zero, List.drop_zero, Nat.zero_add]

theorem impl_NextParking.ev (l : List Int) (hl : l.length ≤ 1048576) : Ev (fun k => impl_NextParking.f k l) (nextR l) := by
  simp only [impl_NextParking.f]
  refine Ev.bind (impl_isParking.ev l hl) ?_
  unfold nextR
  by_cases hp : isPk l = true
  · have ⟨h8, hs⟩ := isPk_street l hp
    have hr := rank_bd l hp
    have hc := comp_lt l.length [] h8
    rw [if_pos hp]
    refine ev_pos hp (Ev.bind (impl_rank.ev l hp) ?_)
    rw [wrap_nat _ (by omega)]
    exact Ev.bind (impl_ParkingAt.ev _ _) (Ev.now _)
  · rw [if_neg hp]
    exact ev_neg hp (Ev.now _)

end Go.Proofs.Ytchhfdhnoldngaa.QFnExactNextParking
