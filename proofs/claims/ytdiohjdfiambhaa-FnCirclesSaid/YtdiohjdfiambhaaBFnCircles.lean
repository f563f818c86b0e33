/- Proved here: what the Lean functions printed for the Go functions of law FnCircles compute, in words of lists and whole numbers, for lists shorter than 2^62. -/
import Derived.Test.YtdiohjdfiambhaaQFnCirclesx
import Derived.Test.YtdiohjdfiambhaaMDrive
import Derived.Test.YtdiohjdfiambhaaMCrit
import Derived.Test.YtdiohjdfiambhaaMCircle
import Derived.Test.YtdiohjdfiambhaaMRing
import Derived.Test.YtdiohjdfiambhaaMTurn
import Derived.Test.YtdiohjdfiambhaaMLesser
namespace Go.Proofs.Ytdiohjdfiambhaa.QFnCircles
open Go.RowKit Go.Proofs.YtdiohjdfiambhaaW.PrintWords Go.Proofs.YtdiohjdfiambhaaW.PrintLast Go.Proofs.Ytdiohjdfiambhaa.Math
set_option linter.unusedVariables false
set_option linter.unusedSimpArgs false

theorem ev_pos {α : Type} {c : Prop} [Decidable c] {g f : Nat → Option α} {r : α} (h : c) (k : Ev g r) : Ev (fun n => if c then g n else f n) r := by
  obtain ⟨K, hK⟩ := k
  exact ⟨K, fun n hn => by simp only [if_pos h]; exact hK n hn⟩
theorem ev_neg {α : Type} {c : Prop} [Decidable c] {g f : Nat → Option α} {r : α} (h : ¬ c) (k : Ev f r) : Ev (fun n => if c then g n else f n) r := by
  obtain ⟨K, hK⟩ := k
  exact ⟨K, fun n hn => by simp only [if_neg h]; exact hK n hn⟩
theorem ev_eq {α : Type} {g : Option α} {r : α} (h : g = some r) : Ev (fun _ => g) r := ⟨0, fun _ _ => h⟩
theorem ev_val {α : Type} {g : Nat → Option α} {r q : α} (h : Ev g r) (e : r = q) : Ev g q := e ▸ h
theorem wrap_nat (i : Nat) (h : i < 4611686018427387904) : wrap64 ((i : Int) + 1) = ((i + 1 : Nat) : Int) := by
  unfold wrap64
  omega
theorem wrap_id (x : Int) (h : -9223372036854775808 ≤ x) (h' : x ≤ 9223372036854775807) : wrap64 x = x := by
  unfold wrap64
  omega
theorem rd_nat (l : List Int) (i : Nat) (h : i < l.length) : rd l (i : Int) = l[i] := by
  simp [rd, List.getD_eq_getElem?_getD, h]
theorem rd_int (l : List Int) (x : Int) (h0 : 0 ≤ x) (h : x < l.length) : rd l x = l[x.toNat]'(by omega) := by
  have e : x = ((x.toNat : Nat) : Int) := by omega
  have h2 : x.toNat < l.length := by omega
  rw [show rd l x = rd l ((x.toNat : Nat) : Int) by rw [← e]]
  exact rd_nat l x.toNat h2
/-- m, m + 1, .., n numbers -/
def marks : Int → Nat → List Int
  | _, 0 => []
  | m, n + 1 => m :: marks (m + 1) n
theorem marks_len : ∀ (n : Nat) (m : Int), (marks m n).length = n
  | 0, _ => rfl
  | n + 1, m => by simp [marks, marks_len n]
theorem take_set_succ (y l : List Int) (i : Nat) (hi : i < l.length) (hy : y.length = l.length) (h : y.take i = l.take i) : (y.set i l[i]).take (i + 1) = l.take (i + 1) := by
  rw [List.take_succ_eq_append_getElem (by simp; omega), List.take_succ_eq_append_getElem hi, List.take_set_of_le (Nat.le_refl i), h, List.getElem_set_self]
/-- all numbers lie from lo to hi -/
def inAll (lo hi : Int) (l : List Int) : Bool := l.all fun x => decide (lo ≤ x) && decide (x ≤ hi)
theorem inAll_iff (lo hi : Int) (l : List Int) : inAll lo hi l = true ↔ ∀ x ∈ l, lo ≤ x ∧ x ≤ hi := by
  simp [inAll]

theorem laws_big.is (a b : List Int) : laws_big.f a b = some true ∨ (laws_big.f a b = some false ∧ a.length + b.length ≤ 1048576) := by
  unfold laws_big.f
  by_cases c : (a.length : Int) > 1048576
  · rw [if_pos c]
    exact .inl rfl
  · rw [if_neg c, wrap_id _ (by omega) (by omega)]
    by_cases d : (b.length : Int) > 1048576 - (a.length : Int)
    · rw [decide_eq_true d]
      exact .inl rfl
    · rw [decide_eq_false d]
      exact .inr ⟨rfl, by omega⟩

theorem and255 (x : Int) : 0 ≤ Go.bits .and .u64 x 255 ∧ Go.bits .and .u64 x 255 ≤ 255 := by
  have h : (BitVec.ofInt 64 x &&& BitVec.ofInt 64 255).toNat ≤ 255 := by
    rw [BitVec.toNat_and]
    exact Nat.and_le_right
  have e : Go.bits .and .u64 x 255 = IntKind.u64.wrap (((BitVec.ofInt 64 x &&& BitVec.ofInt 64 255).toNat : Nat) : Int) := rfl
  rw [e]
  generalize (BitVec.ofInt 64 x &&& BitVec.ofInt 64 255).toNat = m at h
  have w : IntKind.u64.wrap (m : Int) = (m : Int) := by
    simp only [IntKind.wrap, IntKind.bits, IntKind.signed, Bool.false_and, Bool.false_eq_true, if_false]
    omega
  rw [w]
  omega
/-- all are bytes, and not too many -/
def bytesOk (l : List Int) : Prop := (∀ x ∈ l, 0 ≤ x ∧ x ≤ 255) ∧ l.length ≤ 1048576

theorem spec_l1Cur_next.ok (l : List Int) (hb : bytesOk l) (p h : Int) (h0 : 0 ≤ p) (h1 : p ≤ 1099511627776) : ∃ b q g, spec_l1Cur_next.f l p h = some (b, q, g) ∧ 0 ≤ b ∧ b ≤ 255 ∧ p ≤ q ∧ q ≤ p + 1 := by
  have hl := hb.2
  unfold spec_l1Cur_next.f
  rw [wrap_id (p + 1) (by omega) (by omega)]
  by_cases c : p < (l.length : Int)
  · have hx := hb.1 (l[p.toNat]'(by omega)) (List.getElem_mem _)
    rw [if_pos c, if_pos h0, if_pos (by omega), rd_int l p h0 c, wrap_id _ (by omega) (by omega)]
    exact ⟨_, _, _, rfl, hx.1, hx.2, by omega, by omega⟩
  · rw [if_neg c, if_neg (by omega)]
    refine ⟨_, _, _, rfl, ?_, ?_, by omega, by omega⟩
    · have := and255 ((IntKind.u64.wrap ((IntKind.u64.wrap ((IntKind.u64.wrap (h * 6364136223846793005)) + 0)) + 1442695040888963407)) / 1099511627776)
      rw [wrap_id _ (by omega) (by omega)]
      exact this.1
    · have := and255 ((IntKind.u64.wrap ((IntKind.u64.wrap ((IntKind.u64.wrap (h * 6364136223846793005)) + 0)) + 1442695040888963407)) / 1099511627776)
      rw [wrap_id _ (by omega) (by omega)]
      exact this.2

theorem spec_l1Cur_pick.ok (l : List Int) (hb : bytesOk l) (p h n : Int) (h0 : 0 ≤ p) (h1 : p ≤ 1099511627000) (hn : n ≤ 1048576) : ∃ b q g, spec_l1Cur_pick.f l p h n = some (b, q, g) ∧ 0 ≤ b ∧ (b < n ∨ (n ≤ 1 ∧ b = 0)) ∧ p ≤ q ∧ q ≤ p + 2 := by
  unfold spec_l1Cur_pick.f
  by_cases c : n ≤ 1
  · rw [if_pos c]
    exact ⟨_, _, _, rfl, by omega, .inr ⟨c, rfl⟩, by omega, by omega⟩
  · rw [if_neg c]
    obtain ⟨b, q, g, e, b0, b1, q0, q1⟩ := spec_l1Cur_next.ok l hb p h h0 (by omega)
    rw [e, Option.bind_some]
    by_cases c2 : n > 200
    · rw [if_pos c2]
      obtain ⟨b2, q2, g2, e2, b20, b21, q20, q21⟩ := spec_l1Cur_next.ok l hb q g (by omega) (by omega)
      dsimp only
      rw [e2, Option.bind_some, if_neg (by omega)]
      rw [wrap_id (b * 256) (by omega) (by omega), wrap_id _ (by omega) (by omega)]
      exact ⟨_, _, _, rfl, Int.tmod_nonneg _ (by omega), .inl (Int.tmod_lt_of_pos _ (by omega)), by dsimp only; omega, by dsimp only; omega⟩
    · rw [if_neg c2, if_neg (by omega)]
      exact ⟨_, _, _, rfl, Int.tmod_nonneg _ b0, .inl (Int.tmod_lt_of_pos _ (by omega)), by dsimp only; omega, by dsimp only; omega⟩

theorem spec_l1Cur_one.ok (l : List Int) (hb : bytesOk l) (p h n : Int) (h0 : 0 ≤ p) (h1 : p ≤ 1099511627000) (hn : n ≤ 1048576) : ∃ b q g, spec_l1Cur_one.f l p h n = some (b, q, g) ∧ p ≤ q ∧ q ≤ p + 2 := by
  unfold spec_l1Cur_one.f
  obtain ⟨b, q, g, e, b0, b1, q0, q1⟩ := spec_l1Cur_pick.ok l hb p h n h0 h1 hn
  rw [e, Option.bind_some]
  exact ⟨_, _, _, rfl, q0, q1⟩

theorem spec_l1Cur_among.ok (l : List Int) (hb : bytesOk l) (p h : Int) (m : List Int) (h0 : 0 ≤ p) (h1 : p ≤ 1099511627000) (hm : 0 < m.length) (hm2 : m.length ≤ 1000) : ∃ b q g, spec_l1Cur_among.f l p h m = some (b, q, g) ∧ b ∈ m ∧ p ≤ q ∧ q ≤ p + 2 := by
  unfold spec_l1Cur_among.f
  obtain ⟨b, q, g, e, b0, b1, q0, q1⟩ := spec_l1Cur_pick.ok l hb p h (m.length : Int) h0 h1 (by omega)
  rw [e, Option.bind_some, if_pos b0, if_pos (by omega)]
  refine ⟨_, _, _, rfl, ?_, q0, q1⟩
  rw [rd_int m b b0 (by omega)]
  exact List.getElem_mem _

theorem spec_l1Cur_ringed.ok1 (l : List Int) (hb : bytesOk l) (x3 : Int) (x4 : List Int) (t : Bool) (p h : Int) (x30 : 0 ≤ x3) (x31 : x3 ≤ 8) (hl : (x4.length : Int) = x3) (ht : t = true → 0 < x4.length) (h0 : 0 ≤ p) (h1 : p ≤ 1099511625000) : ∃ r q g, Ev (fun k => spec_l1Cur_ringed.j1 k x3 x4 t l p h) (r, q, g) ∧ r.length ≤ 9 := by
  cases t with
  | true =>
    have hp := ht rfl
    obtain ⟨i, q, g, e, i0, i1, q0, q1⟩ := spec_l1Cur_pick.ok l hb p h x3 h0 (by omega) (by omega)
    obtain ⟨v, q2, g2, e2, _, q20, q21⟩ := spec_l1Cur_among.ok l hb q g [-1, wrap64 (x3 + 1), 4611686018427387904] (by omega) (by omega) (by simp) (by simp)
    obtain ⟨u, q3, g3, e3, q30, q31⟩ := spec_l1Cur_one.ok l hb q2 g2 25 (by omega) (by omega) (by omega)
    cases u with
    | true => exact ⟨List.replicate 9 0, q3, g3, Ev.step (fun k => spec_l1Cur_ringed.j1.eq_2 ..) (ev_pos rfl (Ev.bind (ev_eq e) (Ev.bind (ev_eq e2) (ev_pos i0 (ev_pos (by dsimp only; omega) (Ev.bind (ev_eq e3) (ev_pos rfl (ev_pos (by omega) (Ev.now _))))))))), by simp⟩
    | false => exact ⟨x4.set i.toNat v, q3, g3, Ev.step (fun k => spec_l1Cur_ringed.j1.eq_2 ..) (ev_pos rfl (Ev.bind (ev_eq e) (Ev.bind (ev_eq e2) (ev_pos i0 (ev_pos (by dsimp only; omega) (Ev.bind (ev_eq e3) (ev_neg Bool.false_ne_true (Ev.now _)))))))), by simp; omega⟩
  | false =>
    obtain ⟨u, q3, g3, e3, q30, q31⟩ := spec_l1Cur_one.ok l hb p h 25 h0 (by omega) (by omega)
    cases u with
    | true => exact ⟨List.replicate 9 0, q3, g3, Ev.step (fun k => spec_l1Cur_ringed.j1.eq_2 ..) (ev_neg Bool.false_ne_true (Ev.bind (ev_eq e3) (ev_pos rfl (ev_pos (by omega) (Ev.now _))))), by simp⟩
    | false => exact ⟨x4, q3, g3, Ev.step (fun k => spec_l1Cur_ringed.j1.eq_2 ..) (ev_neg Bool.false_ne_true (Ev.bind (ev_eq e3) (ev_neg Bool.false_ne_true (Ev.now _)))), by omega⟩
theorem spec_l1Cur_ringed.ok0 (l : List Int) (hb : bytesOk l) (x3 : Int) (x30 : 0 ≤ x3) (x31 : x3 ≤ 8) : ∀ (d : Nat) (x4 : List Int) (x5 p h : Int), (x4.length : Int) = x5 → x5 + (d : Int) = x3 → 0 ≤ p → p + 4 * (d : Int) ≤ 1099511620000 → ∃ r q g, Ev (fun k => spec_l1Cur_ringed.l0 k x3 x4 x5 l p h) (r, q, g) ∧ r.length ≤ 9
  | 0, x4, x5, p, h, hl, hd, h0, h1 => by
    by_cases c : (x4.length : Int) > 0
    · obtain ⟨u, q3, g3, e3, q30, q31⟩ := spec_l1Cur_one.ok l hb p h 15 h0 (by omega) (by omega)
      obtain ⟨r, q, g, E, r1⟩ := spec_l1Cur_ringed.ok1 l hb x3 x4 u q3 g3 x30 x31 (by omega) (fun _ => by omega) (by omega) (by omega)
      exact ⟨r, q, g, Ev.step (fun k => spec_l1Cur_ringed.l0.eq_2 ..) (ev_neg (by omega) (ev_pos c (Ev.bind (ev_eq e3) E))), r1⟩
    · obtain ⟨r, q, g, E, r1⟩ := spec_l1Cur_ringed.ok1 l hb x3 x4 false p h x30 x31 (by omega) (fun h => by cases h) (by omega) (by omega)
      exact ⟨r, q, g, Ev.step (fun k => spec_l1Cur_ringed.l0.eq_2 ..) (ev_neg (by omega) (ev_neg c E)), r1⟩
  | d + 1, x4, x5, p, h, hl, hd, h0, h1 => by
    obtain ⟨v, q, g, e, v0, v1, q0, q1⟩ := spec_l1Cur_pick.ok l hb p h (x3 + 1) h0 (by omega) (by omega)
    obtain ⟨r, q2, g2, E, r1⟩ := spec_l1Cur_ringed.ok0 l hb x3 x30 x31 d (x4 ++ [v]) (x5 + 1) q g (by simp; omega) (by omega) (by omega) (by omega)
    refine ⟨r, q2, g2, Ev.step (fun k => spec_l1Cur_ringed.l0.eq_2 ..) (ev_pos (by omega) ?_), r1⟩
    rw [wrap_id (x3 + 1) (by omega) (by omega), wrap_id (x5 + 1) (by omega) (by omega)]
    exact Ev.bind (ev_eq e) (ev_pos (by omega) E)
theorem spec_l1Cur_ringed.ok (l : List Int) (hb : bytesOk l) (p h : Int) (h0 : 0 ≤ p) (h1 : p ≤ 1099511610000) : ∃ r q g, Ev (fun k => spec_l1Cur_ringed.f k l p h) (r, q, g) ∧ r.length ≤ 9 := by
  simp only [spec_l1Cur_ringed.f]
  obtain ⟨n, q, g, e, n0, n1, q0, q1⟩ := spec_l1Cur_pick.ok l hb p h 9 h0 (by omega) (by omega)
  obtain ⟨r, q2, g2, E, r1⟩ := spec_l1Cur_ringed.ok0 l hb n n0 (by omega) n.toNat [] 0 q g (by simp) (by omega) (by omega) (by omega)
  exact ⟨r, q2, g2, Ev.bind (ev_eq e) E, r1⟩

theorem spec_DrawFreeOnCircle.ok (l : List Int) (hb : bytesOk l) : ∃ r, Ev (fun k => spec_DrawFreeOnCircle.f k l) r ∧ r.length ≤ 9 := by
  simp only [spec_DrawFreeOnCircle.f]
  obtain ⟨r, q, g, E, r1⟩ := spec_l1Cur_ringed.ok l hb 0 0 (by omega) (by omega)
  exact ⟨r, Ev.bind E (Ev.now _), r1⟩

theorem spec_DrawParkingOfClass.ok (l : List Int) (hb : bytesOk l) : ∃ r, Ev (fun k => spec_DrawParkingOfClass.f k l) r ∧ r.length ≤ 9 := by
  simp only [spec_DrawParkingOfClass.f]
  obtain ⟨r, E, r1⟩ := spec_DrawFreeOnCircle.ok l hb
  exact ⟨r, Ev.bind E (Ev.now _), r1⟩

theorem impl_between.is (x lo hi : Int) : impl_between.f x lo hi = some (decide (lo ≤ x) && decide (x ≤ hi)) := by
  unfold impl_between.f
  by_cases h : x ≥ lo
  · rw [if_pos h, decide_eq_true (show lo ≤ x from h), Bool.true_and]
  · rw [if_neg h, decide_eq_false (show ¬ lo ≤ x from h), Bool.false_and]

theorem impl_isCars.is (n : Int) : impl_isCars.f n = some (decide (0 ≤ n) && decide (n ≤ 8)) := by
  simp only [impl_isCars.f, impl_between.is, Option.bind_some]

theorem impl_areBetween.is (l : List Int) (lo hi : Int) (hl : l.length ≤ 35184372088832) : impl_areBetween.f l lo hi = some (inAll lo hi l) := by
  unfold impl_areBetween.f
  rw [if_pos hl]
  congr 1
  unfold inAll out_b
  induction l with
  | nil => rfl
  | cons x l ih =>
    rw [List.any_cons, List.all_cons, ← ih (by simp at hl; omega)]
    cases (decide (lo ≤ x) && decide (x ≤ hi)) <;> simp

/-- favourites for a street of p places -/
def fav (l : List Int) (p : Int) : Bool := decide (1 ≤ p) && decide (p ≤ 12) && decide (l.length ≤ 8) && inAll 0 (p - 1) l
theorem fav_iff (l : List Int) (p : Int) : fav l p = true ↔ 1 ≤ p ∧ p ≤ 12 ∧ l.length ≤ 8 ∧ ∀ x ∈ l, 0 ≤ x ∧ x < p := by
  unfold fav
  simp only [Bool.and_eq_true, decide_eq_true_eq, inAll_iff]
  constructor
  · rintro ⟨⟨⟨h1, h2⟩, h3⟩, h4⟩
    exact ⟨h1, h2, h3, fun x hx => by have := h4 x hx; omega⟩
  · rintro ⟨h1, h2, h3, h4⟩
    exact ⟨⟨⟨h1, h2⟩, h3⟩, fun x hx => by have := h4 x hx; omega⟩

def circR (l : List Int) (p : Int) : List Int × Bool := if fav l p = true then (if (l.length : Int) > p then ([], false) else (cdrv p [] l, true)) else ([], false)
theorem circR_len (l : List Int) (p : Int) : (circR l p).1.length ≤ l.length := by
  unfold circR
  split
  · split
    · simp
    · rw [cdrv_length]; simp
  · simp
theorem tmod_step (x p : Int) (h0 : 0 ≤ x) (h1 : x < p) (hp : p ≤ 1048577) : Int.tmod (wrap64 (x + 1)) p = (x + 1) % p := by
  rw [wrap_id (x + 1) (by omega) (by omega)]
  exact Int.tmod_eq_emod_of_nonneg (by omega)

/-- is a list one of a circle with one place more than cars -/
def isCirc (l : List Int) : Bool := decide (l.length ≤ 8) && inAll 0 (l.length : Int) l
theorem isCirc_iff (l : List Int) : isCirc l = true ↔ l.length ≤ 8 ∧ ∀ x ∈ l, 0 ≤ x ∧ x < (l.length : Int) + 1 := by
  unfold isCirc
  rw [Bool.and_eq_true, decide_eq_true_eq, inAll_iff]
  constructor
  · rintro ⟨a, b⟩
    exact ⟨a, fun x hx => by have := b x hx; omega⟩
  · rintro ⟨a, b⟩
    exact ⟨a, fun x hx => by have := b x hx; omega⟩
theorem cdrv_range (p : Int) : ∀ (l out : List Int), (∀ x ∈ l, 0 ≤ x ∧ x < p) → (∀ x ∈ out, 0 ≤ x ∧ x < p) → ∀ y ∈ cdrv p out l, 0 ≤ y ∧ y < p
  | [], out, _, ho, y, hy => ho y hy
  | x :: l, out, hx, ho, y, hy => by
    refine cdrv_range p l _ (fun z hz => hx z (List.mem_cons_of_mem _ hz)) (fun z hz => ?_) y hy
    rcases List.mem_append.mp hz with hz | hz
    · exact ho z hz
    · simp only [List.mem_singleton] at hz
      have h := hx x List.mem_cons_self
      rw [hz]
      exact cland_range out p x h.1 h.2
/-- the place that stays free -/
def freeOf (l : List Int) : Int := land (cdrv ((l.length : Int) + 1) [] l) ((l.length : Int) + 1) 0
def freeR (l : List Int) : Int × Bool := if isCirc l = true then (freeOf l, true) else (0, false)

theorem impl_isCircle.is (l : List Int) (hl : l.length ≤ 1048576) : impl_isCircle.f l = some (isCirc l) := by
  simp only [impl_isCircle.f, impl_isCars.is, Option.bind_some]
  unfold isCirc
  by_cases h8 : l.length ≤ 8
  · rw [decide_eq_true h8, decide_eq_true (show (0 : Int) ≤ (l.length : Int) by omega), decide_eq_true (show (l.length : Int) ≤ 8 by omega), impl_areBetween.is l 0 _ (by omega)]
    rfl
  · rw [decide_eq_false h8, decide_eq_false (show ¬ (l.length : Int) ≤ 8 by omega), Bool.and_false]
    rfl

/-- the table t tells which places are in out -/
def Tk (p : Int) (out : List Int) (t : List Bool) : Prop := t.length = p.toNat ∧ ∀ j : Int, 0 ≤ j → j < p → (rdOf false t j = true ↔ j ∈ out)
theorem Tk_set (p : Int) (out : List Int) (t : List Bool) (h : Tk p out t) (x : Int) (h0 : 0 ≤ x) (h1 : x < p) : Tk p (out ++ [x]) (t.set x.toNat true) := by
  refine ⟨by rw [List.length_set]; exact h.1, fun j j0 j1 => ?_⟩
  have hl := h.1
  have hj := h.2 j j0 j1
  unfold rdOf at hj ⊢
  rw [List.getD_eq_getElem?_getD] at hj ⊢
  rw [List.getElem?_set]
  by_cases e : x.toNat = j.toNat
  · have e' : j = x := by omega
    subst e'
    rw [if_pos rfl, if_pos (by omega)]
    simp
  · rw [if_neg e]
    rw [hj]
    have e' : ¬ j = x := by omega
    simp [e']

theorem impl_driveCircle.evl (p : Int) (hp0 : 0 < p) (hp : p ≤ 1048577) (l : List Int) (hl : (l.length : Int) ≤ p) (hl2 : l.length ≤ 1048576) (hx : ∀ x ∈ l, 0 ≤ x ∧ x < p) (d : Nat) : ∀ (i : Nat) (out : List Int) (t : List Bool), i + d = l.length → out.length = i → Tk p out t → Ev (fun k => impl_driveCircle.l0 k p t out l (l.length : Int) (i : Int)) (cdrv p out (l.drop i)) := by
  induction d with
  | zero =>
    intro i out t hi ho ht
    refine Ev.step (fun k => impl_driveCircle.l0.eq_2 ..) ?_
    refine ev_neg (by omega) (ev_val (Ev.now _) ?_)
    rw [List.drop_of_length_le (by omega)]
    rfl
  | succ d ih =>
    intro i out t hi ho ht
    refine Ev.step (fun k => impl_driveCircle.l0.eq_2 ..) ?_
    refine ev_pos (by omega) (ev_pos (by omega) (ev_pos (by omega) ?_))
    rw [rd_nat l i (by omega), List.drop_eq_getElem_cons (by omega)]
    have hxi := hx l[i] (List.getElem_mem _)
    have hlen := ht.1
    obtain ⟨y, y0, y1, yn⟩ := free_place out p hp0 (by omega)
    have stop : ∀ x : Int, 0 ≤ x → x < p → x ∉ out → Ev (fun k => impl_driveCircle.l1 k p t out x l (l.length : Int) (i : Int)) (cdrv p (out ++ [cland out p x]) (l.drop (i + 1))) := by
      intro x h0 h1 hxn
      refine Ev.step (fun k => impl_driveCircle.l1.eq_2 ..) ?_
      rw [cland_stop out p x hxn, wrap_nat i (by omega)]
      refine ev_pos h0 (ev_pos (by omega) (ev_neg (fun h => hxn ((ht.2 x h0 h1).mp h)) (ev_pos (by omega) ?_)))
      exact ih (i + 1) _ _ (by omega) (by simp; omega) (Tk_set p out t ht x h0 h1)
    have inner : ∀ (m : Nat) (x : Int), 0 ≤ x → x < p → ((y - x) % p).toNat = m → Ev (fun k => impl_driveCircle.l1 k p t out x l (l.length : Int) (i : Int)) (cdrv p (out ++ [cland out p x]) (l.drop (i + 1))) := by
      intro m
      induction m with
      | zero =>
        intro x h0 h1 hm
        exact stop x h0 h1 (fun hc => by
          have := mod_step p x y h0 h1 y0 y1 (fun e => yn (e ▸ hc))
          omega)
      | succ m ihm =>
        intro x h0 h1 hm
        by_cases hc : x ∈ out
        · refine Ev.step (fun k => impl_driveCircle.l1.eq_2 ..) ?_
          have h2 := mod_step p x y h0 h1 y0 y1 (fun e => yn (e ▸ hc))
          have h3 := mod_range p x hp0
          rw [tmod_step x p h0 h1 hp, cland_go out p y y0 y1 yn x h0 h1 hc]
          exact ev_pos h0 (ev_pos (by omega) (ev_pos ((ht.2 x h0 h1).mpr hc) (ev_neg (by omega) (ihm _ h3.1 h3.2 (by omega)))))
        · exact stop x h0 h1 hc
    exact inner _ l[i] hxi.1 hxi.2 rfl
theorem impl_driveCircle.ev (l : List Int) (p : Int) (hp0 : 0 < p) (hp : p ≤ 1048577) (hl : (l.length : Int) ≤ p) (hl2 : l.length ≤ 1048576) (hx : ∀ x ∈ l, 0 ≤ x ∧ x < p) : Ev (fun k => impl_driveCircle.f k l p) (cdrv p [] l) := by
  simp only [impl_driveCircle.f]
  refine ev_pos (by omega) (ev_pos (by omega) ?_)
  refine impl_driveCircle.evl p hp0 hp l hl hl2 hx l.length 0 [] _ (by omega) rfl ⟨by simp, fun j j0 j1 => ?_⟩
  unfold rdOf
  rw [List.getD_eq_getElem?_getD, List.getElem?_replicate]
  split <;> simp

theorem slices_Index_int_int.evl (l : List Int) (x : Int) (hl : l.length ≤ 1048576) (d : Nat) : ∀ (i : Nat), i + d = l.length → ∃ r : Int, Ev (fun k => slices_Index_int_int.l0 k l x (l.length : Int) (i : Int)) r ∧ (r ≥ 0 ↔ x ∈ l.drop i) := by
  induction d with
  | zero =>
    intro i hi
    refine ⟨-1, Ev.step (fun k => slices_Index_int_int.l0.eq_2 ..) (ev_neg (by omega) (Ev.now _)), ?_⟩
    rw [List.drop_of_length_le (by omega)]
    simp
  | succ d ih =>
    intro i hi
    obtain ⟨r, hr, hm⟩ := ih (i + 1) (by omega)
    by_cases e : x = l[i]
    · refine ⟨(i : Int), Ev.step (fun k => slices_Index_int_int.l0.eq_2 ..) ?_, ?_⟩
      · rw [rd_nat l i (by omega)]
        exact ev_pos (by omega) (ev_pos (by omega) (ev_pos (by omega) (ev_pos e (Ev.now _))))
      · rw [List.drop_eq_getElem_cons (by omega)]
        simp only [List.mem_cons, e, true_or, iff_true]
        omega
    · refine ⟨r, Ev.step (fun k => slices_Index_int_int.l0.eq_2 ..) ?_, ?_⟩
      · rw [rd_nat l i (by omega), wrap_nat i (by omega)]
        exact ev_pos (by omega) (ev_pos (by omega) (ev_pos (by omega) (ev_neg e hr)))
      · rw [List.drop_eq_getElem_cons (by omega)]
        simp only [List.mem_cons, e, false_or]
        exact hm

theorem slices_Contains_int_int.ev (l : List Int) (x : Int) (hl : l.length ≤ 1048576) : Ev (fun k => slices_Contains_int_int.f k l x) (decide (x ∈ l)) := by
  obtain ⟨r, hr, hm⟩ := slices_Index_int_int.evl l x hl l.length 0 (by omega)
  have g : Ev (fun k => slices_Index_int_int.f k l x) r := by
    simp only [slices_Index_int_int.f]
    exact hr
  simp only [slices_Contains_int_int.f]
  refine Ev.bind g (ev_val (Ev.now _) ?_)
  rw [decide_eq_decide]
  simpa using hm

theorem impl_freeOnCircle.evl (t : List Int) (p : Int) (hp : p ≤ 1048577) (ht : ∀ y ∈ t, y < p) (hl : t.length ≤ 1048576) : ∀ (d : Nat) (x : Int), 0 ≤ x → (p - x).toNat = d → Ev (fun k => impl_freeOnCircle.l0 k t x) (land t p x)
  | 0, x, h0, e => by
    refine Ev.step (fun k => impl_freeOnCircle.l0.eq_2 ..) ?_
    have hn : x ∉ t := fun hc => by
      have := ht x hc
      omega
    refine Ev.bind (slices_Contains_int_int.ev t x (by omega)) ?_
    rw [decide_eq_false hn, land_stop t p x (fun h => hn h.2)]
    exact ev_neg (by decide) (Ev.now _)
  | d + 1, x, h0, e => by
    refine Ev.step (fun k => impl_freeOnCircle.l0.eq_2 ..) ?_
    refine Ev.bind (slices_Contains_int_int.ev t x (by omega)) ?_
    by_cases hc : x ∈ t
    · rw [decide_eq_true hc, wrap_id (x + 1) (by omega) (by omega), land_go t p x (by omega) hc]
      exact ev_pos rfl (impl_freeOnCircle.evl t p hp ht hl d (x + 1) (by omega) (by omega))
    · rw [decide_eq_false hc, land_stop t p x (fun h => hc h.2)]
      exact ev_neg (by decide) (Ev.now _)
theorem impl_freeOnCircle.ev (l : List Int) (h : isCirc l = true) : Ev (fun k => impl_freeOnCircle.f k l) (freeOf l) := by
  have ⟨h8, hx⟩ := (isCirc_iff l).mp h
  simp only [impl_freeOnCircle.f]
  rw [wrap_id ((l.length : Int) + 1) (by omega) (by omega)]
  refine Ev.bind (impl_driveCircle.ev l _ (by omega) (by omega) (by omega) (by omega) hx) ?_
  exact impl_freeOnCircle.evl _ _ (by omega) (fun y hy => (cdrv_range _ l [] hx (by simp) y hy).2) (by rw [cdrv_length]; simp; omega) _ 0 (by omega) rfl

/-- one favourite, turned -/
def turn1 (p b x : Int) : Int := Int.tmod (wrap64 ((Int.tmod (wrap64 (x + b)) p) + p)) p
def turnR (l : List Int) (p b : Int) : List Int × Bool := if (fav l p && (decide (-1000 ≤ b) && decide (b ≤ 1000))) = true then (l.map (turn1 p b), true) else ([], false)
theorem turnR_len (l : List Int) (p b : Int) : (turnR l p b).1.length ≤ l.length := by
  unfold turnR
  split <;> simp

theorem impl_turn.evl (p b : Int) (hp : p ≠ 0) (l : List Int) (hl : l.length ≤ 1048576) (d : Nat) : ∀ (i : Nat) (out : List Int), i + d = l.length → out.length = i → Ev (fun k => impl_turn.l0 k p b out l (l.length : Int) (i : Int)) (out ++ (l.drop i).map (turn1 p b)) := by
  induction d with
  | zero =>
    intro i out hi ho
    refine Ev.step (fun k => impl_turn.l0.eq_2 ..) ?_
    refine ev_neg (by omega) ?_
    refine ev_val (Ev.now _) ?_
    rw [List.drop_of_length_le (by omega)]
    simp
  | succ d ih =>
    intro i out hi ho
    refine Ev.step (fun k => impl_turn.l0.eq_2 ..) ?_
    refine ev_pos (by omega) (ev_pos (by omega) (ev_pos (by omega) (ev_neg hp (ev_pos (by omega) ?_))))
    rw [rd_nat l i (by omega), wrap_nat i (by omega), List.drop_eq_getElem_cons (by omega)]
    refine ev_val (ih (i + 1) _ (by omega) (by simp; omega)) ?_
    rw [List.map_cons, List.append_assoc]
    rfl
theorem impl_turn.ev (l : List Int) (p b : Int) (hp : p ≠ 0) (hl : l.length ≤ 1048576) : Ev (fun k => impl_turn.f k l p b) (l.map (turn1 p b)) := by
  simp only [impl_turn.f]
  exact impl_turn.evl p b hp l hl l.length 0 [] (by omega) rfl

def classR (l : List Int) : List Int × Int × Bool := if isCirc l = true then (l.map (turn1 ((l.length : Int) + 1) (wrap64 ((l.length : Int) - freeOf l))), wrap64 ((l.length : Int) - freeOf l), true) else ([], 0, false)
theorem classR_len (l : List Int) : (classR l).1.length ≤ l.length := by
  unfold classR
  split <;> simp

theorem impl_ParkingOfClass.ev (l : List Int) (hl : l.length ≤ 1048576) : Ev (fun k => impl_ParkingOfClass.f k l) (classR l) := by
  simp only [impl_ParkingOfClass.f]
  unfold classR
  refine Ev.bind (ev_eq (impl_isCircle.is l hl)) ?_
  cases e : isCirc l with
  | true =>
    rw [wrap_id ((l.length : Int) + 1) (by omega) (by omega)]
    exact ev_pos rfl (Ev.bind (impl_freeOnCircle.ev l e) (Ev.bind (impl_turn.ev l _ _ (by omega) hl) (Ev.now _)))
  | false => exact ev_neg (by decide) (Ev.now _)

theorem spec_l1In.is (x lo hi : Int) : spec_l1In.f x lo hi = some (decide (lo ≤ x) && decide (x ≤ hi)) := by
  unfold spec_l1In.f
  by_cases h : x ≥ lo
  · rw [if_pos h, decide_eq_true (show lo ≤ x from h), Bool.true_and]
  · rw [if_neg h, decide_eq_false (show ¬ lo ≤ x from h), Bool.false_and]

theorem spec_l1All.evl (lo hi : Int) (l : List Int) (hl : l.length < 4611686018427387904) (d : Nat) : ∀ (i : Nat), i + d = l.length → Ev (fun k => spec_l1All.l0 k lo hi l (l.length : Int) (i : Int)) (inAll lo hi (l.drop i)) := by
  induction d with
  | zero =>
    intro i hi0
    refine Ev.step (fun k => spec_l1All.l0.eq_2 ..) ?_
    refine ev_neg (by omega) ?_
    refine ev_val (Ev.now _) ?_
    rw [List.drop_of_length_le (by omega)]
    rfl
  | succ d ih =>
    intro i hi0
    refine Ev.step (fun k => spec_l1All.l0.eq_2 ..) ?_
    refine ev_pos (by omega) (ev_pos (by omega) (ev_pos (by omega) ?_))
    rw [wrap_nat i (by omega), rd_nat l i (by omega), List.drop_eq_getElem_cons (by omega), spec_l1In.is]
    refine Ev.bind (Ev.now _) ?_
    have u : inAll lo hi (l[i] :: l.drop (i + 1)) = ((decide (lo ≤ l[i]) && decide (l[i] ≤ hi)) && inAll lo hi (l.drop (i + 1))) := rfl
    rw [u]
    generalize (decide (lo ≤ l[i]) && decide (l[i] ≤ hi)) = b
    cases b with
    | true => exact ev_pos rfl (ih (i + 1) (by omega))
    | false => exact ev_neg (by decide) (Ev.now _)
theorem spec_l1All.ev (l : List Int) (lo hi : Int) (hl : l.length < 4611686018427387904) : Ev (fun k => spec_l1All.f k l lo hi) (inAll lo hi l) := by
  simp only [spec_l1All.f]
  exact spec_l1All.evl lo hi l hl l.length 0 (by omega)

theorem spec_cnList.ev (l : List Int) (hl : l.length ≤ 1048576) : Ev (fun k => spec_cnList.f k l) (isCirc l) := by
  simp only [spec_cnList.f]
  unfold isCirc
  by_cases h8 : l.length ≤ 8
  · rw [decide_eq_true h8, Bool.true_and]
    exact ev_pos (by omega) (Ev.bind (spec_l1All.ev l 0 _ (by omega)) (Ev.now _))
  · rw [decide_eq_false h8]
    exact ev_neg (by omega) (Ev.now _)

theorem spec_l1Has.evl (x : Int) (l : List Int) (hl : l.length < 4611686018427387904) (d : Nat) : ∀ (i : Nat), i + d = l.length → Ev (fun k => spec_l1Has.l0 k x l (l.length : Int) (i : Int)) (decide (x ∈ l.drop i)) := by
  induction d with
  | zero =>
    intro i hi
    refine Ev.step (fun k => spec_l1Has.l0.eq_2 ..) ?_
    refine ev_neg (by omega) ?_
    refine ev_val (Ev.now _) ?_
    rw [List.drop_of_length_le (by omega)]
    simp
  | succ d ih =>
    intro i hi
    refine Ev.step (fun k => spec_l1Has.l0.eq_2 ..) ?_
    refine ev_pos (by omega) (ev_pos (by omega) (ev_pos (by omega) ?_))
    rw [wrap_nat i (by omega), rd_nat l i (by omega), List.drop_eq_getElem_cons (by omega)]
    by_cases e : l[i] = x
    · refine ev_pos e (ev_val (Ev.now _) ?_)
      simp [e]
    · refine ev_neg e (ev_val (ih (i + 1) (by omega)) ?_)
      simp only [List.mem_cons, show ¬ x = l[i] from fun h => e h.symm, false_or]
theorem spec_l1Has.ev (l : List Int) (x : Int) (hl : l.length < 4611686018427387904) : Ev (fun k => spec_l1Has.f k l x) (decide (x ∈ l)) := by
  simp only [spec_l1Has.f]
  exact spec_l1Has.evl x l hl l.length 0 (by omega)

theorem spec_cnCircle.evl (p : Int) (hp0 : 0 < p) (hp : p ≤ 1048577) (l : List Int) (hl : (l.length : Int) ≤ p) (hl2 : l.length ≤ 1048576) (hx : ∀ x ∈ l, 0 ≤ x ∧ x < p) (d : Nat) : ∀ (i : Nat) (out : List Int), i + d = l.length → out.length = i → Ev (fun k => spec_cnCircle.l0 k p out l (l.length : Int) (i : Int)) (cdrv p out (l.drop i)) := by
  induction d with
  | zero =>
    intro i out hi ho
    refine Ev.step (fun k => spec_cnCircle.l0.eq_2 ..) ?_
    refine ev_neg (by omega) (ev_val (Ev.now _) ?_)
    rw [List.drop_of_length_le (by omega)]
    rfl
  | succ d ih =>
    intro i out hi ho
    refine Ev.step (fun k => spec_cnCircle.l0.eq_2 ..) ?_
    refine ev_pos (by omega) (ev_pos (by omega) (ev_pos (by omega) ?_))
    rw [rd_nat l i (by omega), List.drop_eq_getElem_cons (by omega)]
    have hxi := hx l[i] (List.getElem_mem _)
    obtain ⟨y, y0, y1, yn⟩ := free_place out p hp0 (by omega)
    have inner : ∀ (m : Nat) (x : Int), 0 ≤ x → x < p → ((y - x) % p).toNat = m → Ev (fun k => spec_cnCircle.l1 k p out x l (l.length : Int) (i : Int)) (cdrv p (out ++ [cland out p x]) (l.drop (i + 1))) := by
      intro m
      induction m with
      | zero =>
        intro x h0 h1 hm
        refine Ev.step (fun k => spec_cnCircle.l1.eq_2 ..) ?_
        have hxn : x ∉ out := fun hc => by
          have := mod_step p x y h0 h1 y0 y1 (fun e => yn (e ▸ hc))
          omega
        refine Ev.bind (spec_l1Has.ev out x (by omega)) ?_
        rw [decide_eq_false hxn, cland_stop out p x hxn, wrap_nat i (by omega)]
        exact ev_neg (by decide) (ev_pos (by omega) (ih (i + 1) _ (by omega) (by simp; omega)))
      | succ m ihm =>
        intro x h0 h1 hm
        refine Ev.step (fun k => spec_cnCircle.l1.eq_2 ..) ?_
        refine Ev.bind (spec_l1Has.ev out x (by omega)) ?_
        by_cases hc : x ∈ out
        · have h2 := mod_step p x y h0 h1 y0 y1 (fun e => yn (e ▸ hc))
          have h3 := mod_range p x hp0
          rw [decide_eq_true hc, tmod_step x p h0 h1 hp, cland_go out p y y0 y1 yn x h0 h1 hc]
          exact ev_pos rfl (ev_neg (by omega) (ihm _ h3.1 h3.2 (by omega)))
        · rw [decide_eq_false hc, cland_stop out p x hc, wrap_nat i (by omega)]
          exact ev_neg (by decide) (ev_pos (by omega) (ih (i + 1) _ (by omega) (by simp; omega)))
    exact inner _ l[i] hxi.1 hxi.2 rfl
theorem spec_cnCircle.ev (l : List Int) (p : Int) (hp0 : 0 < p) (hp : p ≤ 1048577) (hl : (l.length : Int) ≤ p) (hl2 : l.length ≤ 1048576) (hx : ∀ x ∈ l, 0 ≤ x ∧ x < p) : Ev (fun k => spec_cnCircle.f k l p) (cdrv p [] l) := by
  simp only [spec_cnCircle.f]
  exact spec_cnCircle.evl p hp0 hp l hl hl2 hx l.length 0 [] (by omega) rfl

theorem spec_cnFree.evl (t : List Int) (p : Int) (hp : p ≤ 1048577) (ht : ∀ y ∈ t, y < p) (hl : t.length ≤ 1048576) : ∀ (d : Nat) (x : Int), 0 ≤ x → (p - x).toNat = d → Ev (fun k => spec_cnFree.l0 k t x) (land t p x)
  | 0, x, h0, e => by
    refine Ev.step (fun k => spec_cnFree.l0.eq_2 ..) ?_
    have hn : x ∉ t := fun hc => by
      have := ht x hc
      omega
    refine Ev.bind (spec_l1Has.ev t x (by omega)) ?_
    rw [decide_eq_false hn, land_stop t p x (fun h => hn h.2)]
    exact ev_neg (by decide) (Ev.now _)
  | d + 1, x, h0, e => by
    refine Ev.step (fun k => spec_cnFree.l0.eq_2 ..) ?_
    refine Ev.bind (spec_l1Has.ev t x (by omega)) ?_
    by_cases hc : x ∈ t
    · rw [decide_eq_true hc, wrap_id (x + 1) (by omega) (by omega), land_go t p x (by omega) hc]
      exact ev_pos rfl (spec_cnFree.evl t p hp ht hl d (x + 1) (by omega) (by omega))
    · rw [decide_eq_false hc, land_stop t p x (fun h => hc h.2)]
      exact ev_neg (by decide) (Ev.now _)
theorem spec_cnFree.ev (l : List Int) (h : isCirc l = true) : Ev (fun k => spec_cnFree.f k l) (freeOf l) := by
  have ⟨h8, hx⟩ := (isCirc_iff l).mp h
  simp only [spec_cnFree.f]
  rw [wrap_id ((l.length : Int) + 1) (by omega) (by omega)]
  refine Ev.bind (spec_cnCircle.ev l _ (by omega) (by omega) (by omega) (by omega) hx) ?_
  exact spec_cnFree.evl _ _ (by omega) (fun y hy => (cdrv_range _ l [] hx (by simp) y hy).2) (by rw [cdrv_length]; simp; omega) _ 0 (by omega) rfl

theorem spec_cnTurn.evl (p b : Int) (hp : p ≠ 0) (l : List Int) (hl : l.length ≤ 1048576) (d : Nat) : ∀ (i : Nat) (out : List Int), i + d = l.length → out.length = i → Ev (fun k => spec_cnTurn.l0 k p b out l (l.length : Int) (i : Int)) (out ++ (l.drop i).map (turn1 p b)) := by
  induction d with
  | zero =>
    intro i out hi ho
    refine Ev.step (fun k => spec_cnTurn.l0.eq_2 ..) ?_
    refine ev_neg (by omega) ?_
    refine ev_val (Ev.now _) ?_
    rw [List.drop_of_length_le (by omega)]
    simp
  | succ d ih =>
    intro i out hi ho
    refine Ev.step (fun k => spec_cnTurn.l0.eq_2 ..) ?_
    refine ev_pos (by omega) (ev_pos (by omega) (ev_pos (by omega) (ev_neg hp (ev_pos (by omega) ?_))))
    rw [rd_nat l i (by omega), wrap_nat i (by omega), List.drop_eq_getElem_cons (by omega)]
    refine ev_val (ih (i + 1) _ (by omega) (by simp; omega)) ?_
    rw [List.map_cons, List.append_assoc]
    rfl
theorem spec_cnTurn.ev (l : List Int) (p b : Int) (hp : p ≠ 0) (hl : l.length ≤ 1048576) : Ev (fun k => spec_cnTurn.f k l p b) (l.map (turn1 p b)) := by
  simp only [spec_cnTurn.f]
  exact spec_cnTurn.evl p b hp l hl l.length 0 [] (by omega) rfl

theorem spec_ParkingOfClass.ev (l : List Int) (hl : l.length ≤ 1048576) : Ev (fun k => spec_ParkingOfClass.f k l) (classR l) := by
  simp only [spec_ParkingOfClass.f]
  unfold classR
  refine Ev.bind (spec_cnList.ev l hl) ?_
  cases e : isCirc l with
  | true =>
    rw [wrap_id ((l.length : Int) + 1) (by omega) (by omega)]
    exact ev_pos rfl (Ev.bind (spec_cnFree.ev l e) (Ev.bind (spec_cnTurn.ev l _ _ (by omega) hl) (Ev.now _)))
  | false => exact ev_neg (by decide) (Ev.now _)

theorem impl_FreeOnCircle.ev (l : List Int) (hl : l.length ≤ 1048576) : Ev (fun k => impl_FreeOnCircle.f k l) (freeR l) := by
  simp only [impl_FreeOnCircle.f]
  unfold freeR
  refine Ev.bind (ev_eq (impl_isCircle.is l hl)) ?_
  cases e : isCirc l with
  | true => exact ev_pos rfl (Ev.bind (impl_freeOnCircle.ev l e) (Ev.now _))
  | false => exact ev_neg (by decide) (Ev.now _)

theorem spec_FreeOnCircle.ev (l : List Int) (hl : l.length ≤ 1048576) : Ev (fun k => spec_FreeOnCircle.f k l) (freeR l) := by
  simp only [spec_FreeOnCircle.f]
  unfold freeR
  refine Ev.bind (spec_cnList.ev l hl) ?_
  cases e : isCirc l with
  | true => exact ev_pos rfl (Ev.bind (spec_cnFree.ev l e) (Ev.now _))
  | false => exact ev_neg (by decide) (Ev.now _)

theorem laws_jSame.evl (a b : List Int) (hl : a.length ≤ 1048576) (h : a.length = b.length) (d : Nat) : ∀ (i : Nat), i + d = a.length → Ev (fun k => laws_jSame.l0 k a b (a.length : Int) (i : Int)) (decide (a.drop i = b.drop i)) := by
  induction d with
  | zero =>
    intro i hi
    refine Ev.step (fun k => laws_jSame.l0.eq_2 ..) ?_
    refine ev_neg (by omega) (ev_val (Ev.now _) ?_)
    rw [List.drop_of_length_le (by omega), List.drop_of_length_le (by omega)]
    rfl
  | succ d ih =>
    intro i hi
    refine Ev.step (fun k => laws_jSame.l0.eq_2 ..) ?_
    refine ev_pos (by omega) (ev_pos (by omega) (ev_pos (by omega) (ev_pos (by omega) ?_)))
    rw [rd_nat a i (by omega), rd_nat b i (by omega), List.drop_eq_getElem_cons (l := a) (by omega), List.drop_eq_getElem_cons (l := b) (by omega)]
    by_cases e : a[i]'(by omega) = b[i]'(by omega)
    · refine ev_pos e ?_
      rw [wrap_nat i (by omega)]
      refine ev_val (ih (i + 1) (by omega)) ?_
      simp only [List.cons.injEq, e, true_and]
    · refine ev_neg e (ev_val (Ev.now _) ?_)
      simp only [List.cons.injEq, e, false_and, decide_false]
theorem laws_jSame.ev (a b : List Int) (hl : a.length ≤ 1048576) : Ev (fun k => laws_jSame.f k a b) (decide (a = b)) := by
  simp only [laws_jSame.f]
  by_cases h : a.length = b.length
  · refine ev_pos (by omega) ?_
    exact laws_jSame.evl a b hl h a.length 0 (by omega)
  · refine ev_neg (by omega) (ev_val (Ev.now _) ?_)
    rw [decide_eq_false (fun e => h (by rw [e]))]
theorem laws_jSame.ev_self (a : List Int) (hl : a.length ≤ 1048576) : Ev (fun k => laws_jSame.f k a a) true := ev_val (laws_jSame.ev a a hl) (by simp)

theorem impl_AreFavourites.is (l : List Int) (p : Int) (hl : l.length ≤ 35184372088832) : impl_AreFavourites.f l p = some (fav l p) := by
  simp only [impl_AreFavourites.f, impl_between.is, Option.bind_some]
  unfold fav
  by_cases h : 1 ≤ p ∧ p ≤ 12
  · rw [wrap_id (p - 1) (by omega) (by omega), decide_eq_true h.1, decide_eq_true h.2]
    rw [if_pos (by rfl)]
    by_cases h8 : l.length ≤ 8
    · rw [decide_eq_true h8, if_pos (by omega), impl_areBetween.is l 0 (p - 1) hl]
      rfl
    · rw [decide_eq_false h8, if_neg (by omega)]
      rfl
  · have e : (decide (1 ≤ p) && decide (p ≤ 12)) = false := by simp; omega
    rw [e]
    rfl

theorem impl_TurnFavourites.ev (l : List Int) (p b : Int) (hl : l.length ≤ 1048576) : Ev (fun k => impl_TurnFavourites.f k l p b) (turnR l p b) := by
  simp only [impl_TurnFavourites.f]
  unfold turnR
  refine Ev.bind (ev_eq (impl_AreFavourites.is l p (by omega))) ?_
  cases e : fav l p with
  | true =>
    have h := (fav_iff l p).mp e
    refine ev_pos rfl (Ev.bind (ev_eq (impl_between.is b (-1000) 1000)) ?_)
    rw [Bool.true_and]
    cases (decide (-1000 ≤ b) && decide (b ≤ 1000)) with
    | true => exact ev_pos rfl (Ev.bind (impl_turn.ev l p b (by omega) hl) (Ev.now _))
    | false => exact ev_neg (by decide) (Ev.now _)
  | false => exact ev_neg (by decide) (Ev.now _)

theorem impl_areCars.is (l : List Int) (hl : l.length ≤ 35184372088832) : impl_areCars.f l = some (decide (l.length ≤ 8) && inAll 0 99 l) := by
  unfold impl_areCars.f
  by_cases h8 : l.length ≤ 8
  · rw [decide_eq_true h8, if_pos (by omega), impl_areBetween.is l 0 99 hl]
    rfl
  · rw [decide_eq_false h8, if_neg (by omega)]
    rfl

def drvR (o : Option (List Int)) : List Int × Bool := match o with
  | some r => (r, true)
  | none => ([], false)
theorem drvR_snd (l : List Int) (p : Int) : (drvR (drv p [] l)).2 = allPark l p := by
  unfold drvR allPark
  cases drv p [] l <;> rfl

theorem impl_drive.evl (p : Int) (hp : p ≤ 1048576) (l : List Int) (hl : l.length ≤ 1048576) (hx : ∀ x ∈ l, 0 ≤ x ∧ x ≤ 1048576) (d : Nat) : ∀ (i : Nat) (out : List Int) (t : List Bool), i + d = l.length → out.length = i → Tk p out t → Ev (fun k => impl_drive.l0 k p t out l (l.length : Int) (i : Int)) (drvR (drv p out (l.drop i))) := by
  induction d with
  | zero =>
    intro i out t hi ho ht
    refine Ev.step (fun k => impl_drive.l0.eq_2 ..) ?_
    refine ev_neg (by omega) ?_
    refine ev_val (Ev.now _) ?_
    rw [List.drop_of_length_le (by omega)]
    rfl
  | succ d ih =>
    intro i out t hi ho ht
    refine Ev.step (fun k => impl_drive.l0.eq_2 ..) ?_
    refine ev_pos (by omega) (ev_pos (by omega) (ev_pos (by omega) ?_))
    rw [rd_nat l i (by omega), List.drop_eq_getElem_cons (by omega)]
    have hxi := hx l[i] (List.getElem_mem _)
    have inner : ∀ (m : Nat) (x : Int), (p - x).toNat = m → 0 ≤ x → x ≤ 1048576 → Ev (fun k => impl_drive.l1 k p t out x l (l.length : Int) (i : Int)) (drvR (drv p out (x :: l.drop (i + 1)))) := by
      intro m
      induction m with
      | zero =>
        intro x hm hx0 hx1
        refine Ev.step (fun k => impl_drive.l1.eq_2 ..) ?_
        refine ev_neg (by omega) (ev_pos (by omega) ?_)
        refine ev_val (Ev.now _) ?_
        simp only [drv]
        rw [land_stop out p x (by omega), if_neg (by omega)]
        rfl
      | succ m ihm =>
        intro x hm hx0 hx1
        have hlen := ht.1
        refine Ev.step (fun k => impl_drive.l1.eq_2 ..) ?_
        refine ev_pos (by omega) (ev_pos (by omega) (ev_pos (by omega) ?_))
        by_cases hh : x ∈ out
        · refine ev_pos ((ht.2 x hx0 (by omega)).mpr hh) ?_
          rw [wrap_id (x + 1) (by omega) (by omega)]
          refine ev_val (ihm (x + 1) (by omega) (by omega) (by omega)) ?_
          simp only [drv]
          rw [land_go out p x (by omega) hh]
        · refine ev_neg (fun h => hh ((ht.2 x hx0 (by omega)).mp h)) (ev_neg (by omega) (ev_pos (by omega) ?_))
          rw [wrap_nat i (by omega)]
          refine ev_val (ih (i + 1) _ _ (by omega) (by simp; omega) (Tk_set p out t ht x hx0 (by omega))) ?_
          simp only [drv]
          rw [land_stop out p x (fun h => hh h.2), if_pos (by omega)]
    exact inner _ l[i] rfl hxi.1 hxi.2
theorem impl_drive.ev (l : List Int) (p : Int) (hp0 : 0 ≤ p) (hp : p ≤ 1048576) (hl : l.length ≤ 1048576) (hx : ∀ x ∈ l, 0 ≤ x ∧ x ≤ 1048576) : Ev (fun k => impl_drive.f k l p) (drvR (drv p [] l)) := by
  simp only [impl_drive.f]
  refine ev_pos hp0 (ev_pos (by omega) ?_)
  refine impl_drive.evl p hp l hl hx l.length 0 [] _ (by omega) rfl ⟨by simp, fun j j0 j1 => ?_⟩
  unfold rdOf
  rw [List.getD_eq_getElem?_getD, List.getElem?_replicate]
  split <;> simp

theorem isPk_of_cars (l : List Int) (h8 : l.length ≤ 8) (h0 : ∀ x ∈ l, 0 ≤ x) : isPk l = allPark l l.length := by
  cases e : allPark l l.length with
  | false => simp [isPk, e]
  | true =>
    unfold allPark at e
    obtain ⟨r, hr⟩ := Option.isSome_iff_exists.mp e
    have h := drv_lt l.length l [] r hr
    have e' : allPark l l.length = true := by unfold allPark; exact e
    simp only [isPk, e', Bool.and_true, Bool.and_eq_true, decide_eq_true_eq, List.all_eq_true]
    exact ⟨h8, fun x hx => ⟨h0 x hx, by have := h x hx; omega⟩⟩
theorem isPk_no_cars (l : List Int) (h : ¬ (decide (l.length ≤ 8) && inAll 0 99 l) = true) : isPk l = false := by
  cases e : isPk l with
  | false => rfl
  | true =>
    exfalso
    apply h
    simp only [isPk, Bool.and_eq_true, decide_eq_true_eq, List.all_eq_true] at e
    rw [Bool.and_eq_true, decide_eq_true_eq, inAll_iff]
    exact ⟨e.1.1, fun x hx => by have := e.1.2 x hx; omega⟩

theorem impl_isParking.ev (l : List Int) (hl : l.length ≤ 1048576) : Ev (fun k => impl_isParking.f k l) (isPk l) := by
  simp only [impl_isParking.f]
  refine Ev.bind (ev_eq (impl_areCars.is l (by omega))) ?_
  cases e : (decide (l.length ≤ 8) && inAll 0 99 l) with
  | true =>
    rw [Bool.and_eq_true, decide_eq_true_eq, inAll_iff] at e
    refine ev_pos rfl (Ev.bind (impl_drive.ev l _ (by omega) (by omega) hl (fun x hx => by have := e.2 x hx; omega)) ?_)
    refine ev_val (Ev.now _) ?_
    rw [drvR_snd]
    exact (isPk_of_cars l e.1 (fun x hx => (e.2 x hx).1)).symm
  | false =>
    refine ev_neg (by decide) (ev_val (Ev.now _) ?_)
    exact (isPk_no_cars l (by rw [e]; decide)).symm

theorem impl_IsParking.ev (l : List Int) (hl : l.length ≤ 1048576) : Ev (fun k => impl_IsParking.f k l) (if (decide (l.length ≤ 8) && inAll 0 99 l) = true then (isPk l, true) else (false, false)) := by
  simp only [impl_IsParking.f]
  refine Ev.bind (ev_eq (impl_areCars.is l (by omega))) ?_
  cases (decide (l.length ≤ 8) && inAll 0 99 l) with
  | true => exact ev_pos rfl (Ev.bind (impl_isParking.ev l hl) (Ev.now _))
  | false => exact ev_neg (by decide) (Ev.now _)

theorem laws_jSwapped.ev (l : List Int) (i : Nat) (h : i + 1 < l.length) (hl : l.length ≤ 1048576) : Ev (fun _ => laws_jSwapped.f l (i : Int)) ((l.set i (l[i + 1]'h)).set (i + 1) (l[i]'(by omega))) := by
  have e1 : wrap64 ((i : Int) + 1) = ((i + 1 : Nat) : Int) := wrap_nat i (by omega)
  have r1 := rd_nat l i (by omega)
  have r2 := rd_nat l (i + 1) h
  simp only [laws_jSwapped.f]
  rw [e1]
  refine Ev.bind (a := []) (ev_eq rfl) (ev_pos (by rw [List.length_nil]; omega) (Ev.bind (a := l) (ev_eq rfl) ?_))
  refine ev_pos (by omega) (ev_pos (by omega) (ev_pos (by omega) (ev_pos (by omega) (ev_val (Ev.now _) ?_))))
  rw [r1, r2, Int.toNat_natCast, Int.toNat_natCast]

theorem laws_numberOf.evl (l : List Int) (hl : l.length ≤ 1048576) (hb : ∀ x ∈ l, 0 ≤ x ∧ x ≤ 255) (d : Nat) : ∀ (i : Nat) (a : Int), i + d = l.length → 0 ≤ a → a < 1000003 → ∃ r, Ev (fun k => laws_numberOf.l0 k a l (l.length : Int) (i : Int)) r ∧ 0 ≤ r ∧ r < 1000003 := by
  induction d with
  | zero =>
    intro i a hi h0 h1
    exact ⟨a, Ev.step (fun k => laws_numberOf.l0.eq_2 ..) (ev_neg (by omega) (Ev.now _)), h0, h1⟩
  | succ d ih =>
    intro i a hi h0 h1
    have hx := hb (l[i]'(by omega)) (List.getElem_mem _)
    have e1 : wrap64 (31 * a) = 31 * a := wrap_id _ (by omega) (by omega)
    have e2 : wrap64 (l[i]'(by omega)) = l[i]'(by omega) := wrap_id _ (by omega) (by omega)
    have e3 : wrap64 (31 * a + l[i]'(by omega)) = 31 * a + l[i]'(by omega) := wrap_id _ (by omega) (by omega)
    obtain ⟨r, hr, r0, r1⟩ := ih (i + 1) (Int.tmod (31 * a + l[i]'(by omega)) 1000003) (by omega) (Int.tmod_nonneg _ (by omega)) (Int.tmod_lt_of_pos _ (by omega))
    refine ⟨r, Ev.step (fun k => laws_numberOf.l0.eq_2 ..) ?_, r0, r1⟩
    refine ev_pos (by omega) (ev_pos (by omega) (ev_pos (by omega) ?_))
    rw [rd_nat l i (by omega), wrap_nat i (by omega), e1, e2, e3]
    exact hr
theorem laws_numberOf.ev (l : List Int) (hl : l.length ≤ 1048576) (hb : ∀ x ∈ l, 0 ≤ x ∧ x ≤ 255) : ∃ r, Ev (fun k => laws_numberOf.f k l) r ∧ 0 ≤ r ∧ r < 1000003 := by
  simp only [laws_numberOf.f]
  exact laws_numberOf.evl l hl hb l.length 0 0 (by omega) (by omega) (by omega)

theorem spec_l1Most.is (a b : Int) : ∃ c, spec_l1Most.f a b = some c ∧ (c = a ∨ c = b) ∧ a ≤ c ∧ b ≤ c := by
  unfold spec_l1Most.f
  by_cases h : a > b
  · rw [if_pos h]
    exact ⟨a, rfl, .inl rfl, by omega, by omega⟩
  · rw [if_neg h]
    exact ⟨b, rfl, .inr rfl, by omega, by omega⟩

theorem spec_l1Least.is (a b : Int) : ∃ c, spec_l1Least.f a b = some c ∧ (c = a ∨ c = b) ∧ c ≤ a ∧ c ≤ b := by
  unfold spec_l1Least.f
  by_cases h : a < b
  · rw [if_pos h]
    exact ⟨a, rfl, .inl rfl, by omega, by omega⟩
  · rw [if_neg h]
    exact ⟨b, rfl, .inr rfl, by omega, by omega⟩

theorem spec_l1Cur_favourites.ok1 (l : List Int) (hb : bytesOk l) (x4 : Int) (x40 : 0 ≤ x4) (x41 : x4 ≤ 1000) : ∀ (d : Nat) (x5 : List Int) (p h : Int), (9 - x5.length) = d → x5.length ≤ 9 → 0 ≤ p → p + 4 * (d : Int) ≤ 1099511626000 → ∃ r q g, Ev (fun k => spec_l1Cur_favourites.l1 k x4 x5 l p h) (r, x4, q, g) ∧ r.length ≤ 9 ∧ p ≤ q ∧ q ≤ p + 4 * (d : Int) + 4
  | d, x5, p, h, hd, hl, h0, h1 => by
    obtain ⟨t, q, g, e, t0, t1, q0, q1⟩ := spec_l1Cur_pick.ok l hb p h 2 h0 (by omega) (by omega)
    have ew : wrap64 (8 + t) = 8 + t := wrap_id _ (by omega) (by omega)
    by_cases c : (x5.length : Int) < 8 + t
    · cases d with
      | zero => exfalso; omega
      | succ d =>
        obtain ⟨v, q2, g2, e2, v0, v1, q20, q21⟩ := spec_l1Cur_pick.ok l hb q g x4 (by omega) (by omega) (by omega)
        obtain ⟨r, q3, g3, E, r1, q30, q31⟩ := spec_l1Cur_favourites.ok1 l hb x4 x40 x41 d (x5 ++ [v]) q2 g2 (by simp; omega) (by simp; omega) (by omega) (by omega)
        refine ⟨r, q3, g3, Ev.step (fun k => spec_l1Cur_favourites.l1.eq_2 ..) (Ev.bind (ev_eq e) ?_), r1, by omega, by omega⟩
        dsimp only
        rw [ew]
        exact ev_pos c (Ev.bind (ev_eq e2) (ev_pos (by omega) E))
    · refine ⟨x5, q, g, Ev.step (fun k => spec_l1Cur_favourites.l1.eq_2 ..) (Ev.bind (ev_eq e) ?_), hl, by omega, by omega⟩
      dsimp only
      rw [ew]
      exact ev_neg c (Ev.now _)
theorem spec_l1Cur_favourites.ok0 (l : List Int) (hb : bytesOk l) (x4 : Int) (x40 : 1 ≤ x4) (x41 : x4 ≤ 1000) : ∀ (d : Nat) (x5 : List Int) (x6 p h : Int), x6 = (d : Int) → x5.length + d ≤ 8 → 0 ≤ p → p + 4 * (d : Int) ≤ 1099511625000 → ∃ r n q g, Ev (fun k => spec_l1Cur_favourites.l0 k x4 x5 x6 l p h) (r, n, q, g) ∧ r.length ≤ 9 ∧ p ≤ q ∧ q ≤ p + 4 * (d : Int) + 60
  | 0, x5, x6, p, h, hd, hl, h0, h1 => by
    obtain ⟨t, q, g, e, t0, t1, q0, q1⟩ := spec_l1Cur_pick.ok l hb p h 20 h0 (by omega) (by omega)
    by_cases c0 : t = 0
    · obtain ⟨b, q2, g2, e2, hm, q20, q21⟩ := spec_l1Cur_among.ok l hb q g [-1, x4, 0, 4611686018427387904] (by omega) (by omega) (by simp) (by simp)
      exact ⟨x5 ++ [b], x4, q2, g2, Ev.step (fun k => spec_l1Cur_favourites.l0.eq_2 ..) (ev_neg (by omega) (Ev.bind (ev_eq e) (ev_pos c0 (Ev.bind (ev_eq e2) (ev_pos (by omega) (Ev.now _)))))), by simp; omega, by omega, by omega⟩
    · by_cases c1 : t = 1
      · obtain ⟨r, q2, g2, E, r1, q20, q21⟩ := spec_l1Cur_favourites.ok1 l hb x4 (by omega) x41 _ x5 q g rfl (by omega) (by omega) (by omega)
        exact ⟨r, x4, q2, g2, Ev.step (fun k => spec_l1Cur_favourites.l0.eq_2 ..) (ev_neg (by omega) (Ev.bind (ev_eq e) (ev_neg c0 (ev_pos c1 E)))), r1, by omega, by omega⟩
      · by_cases c2 : t = 2
        · obtain ⟨b, q2, g2, e2, hm, q20, q21⟩ := spec_l1Cur_among.ok l hb q g [0, -1, 12, 13] (by omega) (by omega) (by simp) (by simp)
          exact ⟨x5, b, q2, g2, Ev.step (fun k => spec_l1Cur_favourites.l0.eq_2 ..) (ev_neg (by omega) (Ev.bind (ev_eq e) (ev_neg c0 (ev_neg c1 (ev_pos c2 (Ev.bind (ev_eq e2) (Ev.now _))))))), by omega, by omega, by omega⟩
        · exact ⟨x5, x4, q, g, Ev.step (fun k => spec_l1Cur_favourites.l0.eq_2 ..) (ev_neg (by omega) (Ev.bind (ev_eq e) (ev_neg c0 (ev_neg c1 (ev_neg c2 (Ev.now _)))))), by omega, by omega, by omega⟩
  | d + 1, x5, x6, p, h, hd, hl, h0, h1 => by
    obtain ⟨x, q, g, e, x0, x1, q0, q1⟩ := spec_l1Cur_pick.ok l hb p h x4 h0 (by omega) (by omega)
    obtain ⟨m, em, hm, m1, m2⟩ := spec_l1Most.is 1 (x4 - x)
    obtain ⟨v, q2, g2, e2, v0, v1, q20, q21⟩ := spec_l1Cur_pick.ok l hb q g m (by omega) (by omega) (by omega)
    obtain ⟨r, n, q3, g3, E, r1, q30, q31⟩ := spec_l1Cur_favourites.ok0 l hb x4 x40 x41 d (x5 ++ [v]) (x6 - 1) q2 g2 (by omega) (by simp; omega) (by omega) (by omega)
    refine ⟨r, n, q3, g3, Ev.step (fun k => spec_l1Cur_favourites.l0.eq_2 ..) (ev_pos (by omega) (Ev.bind (ev_eq e) ?_)), r1, by omega, by omega⟩
    dsimp only
    rw [wrap_id (x4 - x) (by omega) (by omega), wrap_id (x6 - 1) (by omega) (by omega)]
    exact Ev.bind (ev_eq em) (Ev.bind (ev_eq e2) (ev_pos (by omega) E))
theorem spec_l1Cur_favourites.ok (l : List Int) (hb : bytesOk l) (p h : Int) (h0 : 0 ≤ p) (h1 : p ≤ 1099511620000) : ∃ r n q g, Ev (fun k => spec_l1Cur_favourites.f k l p h) (r, n, q, g) ∧ r.length ≤ 9 ∧ p ≤ q ∧ q ≤ p + 200 := by
  simp only [spec_l1Cur_favourites.f]
  obtain ⟨a, q, g, e, ha, q0, q1⟩ := spec_l1Cur_among.ok l hb p h [4, 7, 12] h0 (by omega) (by simp) (by simp)
  simp only [List.mem_cons, List.not_mem_nil, or_false] at ha
  obtain ⟨b, q2, g2, e2, b0, b1, q20, q21⟩ := spec_l1Cur_pick.ok l hb q g a (by omega) (by omega) (by omega)
  have w1 : wrap64 (1 + b) = 1 + b := wrap_id _ (by omega) (by omega)
  obtain ⟨c, ec, hc, c1, c2⟩ := spec_l1Least.is (1 + b) 8
  have w2 : wrap64 (c + 1) = c + 1 := wrap_id _ (by omega) (by omega)
  obtain ⟨n, q3, g3, e3, n0, n1, q30, q31⟩ := spec_l1Cur_pick.ok l hb q2 g2 (c + 1) (by omega) (by omega) (by omega)
  obtain ⟨r, m, q4, g4, E, r1, q40, q41⟩ := spec_l1Cur_favourites.ok0 l hb (1 + b) (by omega) (by omega) n.toNat [] n q3 g3 (by omega) (by simp; omega) (by omega) (by omega)
  refine ⟨r, m, q4, g4, Ev.bind (ev_eq e) (Ev.bind (ev_eq e2) ?_), r1, by omega, by omega⟩
  dsimp only
  rw [w1]
  refine Ev.bind (ev_eq ec) ?_
  rw [w2]
  exact Ev.bind (ev_eq e3) E

theorem spec_DrawDriveCircle.ok (l : List Int) (hb : bytesOk l) : ∃ r n, Ev (fun k => spec_DrawDriveCircle.f k l) (r, n) ∧ r.length ≤ 18 := by
  simp only [spec_DrawDriveCircle.f]
  obtain ⟨r, n, q, g, E, r1, q0, q1⟩ := spec_l1Cur_favourites.ok l hb 0 0 (by omega) (by omega)
  obtain ⟨u, q3, g3, e3, q30, q31⟩ := spec_l1Cur_one.ok l hb q g 3 (by omega) (by omega) (by omega)
  cases u with
  | true => exact ⟨r ++ r, n, Ev.bind E (Ev.bind (ev_eq e3) (ev_pos rfl (ev_pos (by dsimp only; omega) (Ev.now _)))), by simp; omega⟩
  | false => exact ⟨r, n, Ev.bind E (Ev.bind (ev_eq e3) (ev_neg Bool.false_ne_true (Ev.now _))), by omega⟩

theorem impl_DriveCircle.ev (l : List Int) (p : Int) (hl : l.length ≤ 1048576) : Ev (fun k => impl_DriveCircle.f k l p) (circR l p) := by
  simp only [impl_DriveCircle.f]
  unfold circR
  refine Ev.bind (ev_eq (impl_AreFavourites.is l p (by omega))) ?_
  cases e : fav l p with
  | true =>
    have h := (fav_iff l p).mp e
    refine ev_pos rfl ?_
    by_cases g : (l.length : Int) > p
    · rw [if_pos rfl, if_pos g]
      exact ev_pos g (Ev.now _)
    · rw [if_pos rfl, if_neg g]
      exact ev_neg g (Ev.bind (impl_driveCircle.ev l p (by omega) (by omega) (by omega) hl h.2.2.2) (Ev.now _))
  | false => exact ev_neg (by decide) (Ev.now _)

theorem spec_paStreet.is (p : Int) : spec_paStreet.f p = some (decide (1 ≤ p) && decide (p ≤ 12)) := by
  simp only [spec_paStreet.f, spec_l1In.is, Option.bind_some]

theorem spec_paGood.ev (l : List Int) (p : Int) (hl : l.length < 4611686018427387904) : Ev (fun k => spec_paGood.f k l p) (fav l p) := by
  simp only [spec_paGood.f, spec_paStreet.is, Option.bind_some]
  unfold fav
  by_cases h : 1 ≤ p ∧ p ≤ 12
  · rw [wrap_id (p - 1) (by omega) (by omega), decide_eq_true h.1, decide_eq_true h.2]
    refine ev_pos rfl ?_
    by_cases h8 : l.length ≤ 8
    · rw [decide_eq_true h8]
      refine ev_pos (by omega) (Ev.bind (spec_l1All.ev l 0 (p - 1) hl) ?_)
      exact Ev.now _
    · rw [decide_eq_false h8]
      exact ev_neg (by omega) (Ev.now _)
  · have e : (decide (1 ≤ p) && decide (p ≤ 12)) = false := by simp; omega
    rw [e]
    exact ev_neg (by decide) (Ev.now _)

theorem spec_DriveCircle.ev (l : List Int) (p : Int) (hl : l.length ≤ 1048576) : Ev (fun k => spec_DriveCircle.f k l p) (circR l p) := by
  simp only [spec_DriveCircle.f]
  unfold circR
  refine Ev.bind (spec_paGood.ev l p (by omega)) ?_
  cases e : fav l p with
  | true =>
    have h := (fav_iff l p).mp e
    refine ev_pos rfl ?_
    by_cases g : (l.length : Int) > p
    · rw [if_pos rfl, if_pos g]
      exact ev_pos g (Ev.now _)
    · rw [if_pos rfl, if_neg g]
      exact ev_neg g (Ev.bind (spec_cnCircle.ev l p (by omega) (by omega) (by omega) hl h.2.2.2) (Ev.now _))
  | false => exact ev_neg (by decide) (Ev.now _)

theorem spec_DrawTurnFavourites.ok (l : List Int) (hb : bytesOk l) : ∃ r n m, Ev (fun k => spec_DrawTurnFavourites.f k l) (r, n, m) ∧ r.length ≤ 9 := by
  simp only [spec_DrawTurnFavourites.f]
  obtain ⟨r, n, q, g, E, r1, q0, q1⟩ := spec_l1Cur_favourites.ok l hb 0 0 (by omega) (by omega)
  obtain ⟨u, q3, g3, e3, _, q30, q31⟩ := spec_l1Cur_among.ok l hb q g [0, 1, -1, 3, 7, 1000, -1000, 1001, -1001] (by omega) (by omega) (by simp) (by simp)
  exact ⟨r, n, u, Ev.bind E (Ev.bind (ev_eq e3) (Ev.now _)), r1⟩

theorem spec_TurnFavourites.ev (l : List Int) (p b : Int) (hl : l.length ≤ 1048576) : Ev (fun k => spec_TurnFavourites.f k l p b) (turnR l p b) := by
  simp only [spec_TurnFavourites.f]
  unfold turnR
  refine Ev.bind (spec_paGood.ev l p (by omega)) ?_
  cases e : fav l p with
  | true =>
    have h := (fav_iff l p).mp e
    refine ev_pos rfl (Ev.bind (ev_eq (spec_l1In.is b (-1000) 1000)) ?_)
    rw [Bool.true_and]
    cases (decide (-1000 ≤ b) && decide (b ≤ 1000)) with
    | true => exact ev_pos rfl (Ev.bind (spec_cnTurn.ev l p b (by omega) hl) (Ev.now _))
    | false => exact ev_neg (by decide) (Ev.now _)
  | false => exact ev_neg (by decide) (Ev.now _)

/-- what DriveCars hands back -/
def carsR (l : List Int) (p : Int) : List Int × Bool := if fav l p = true then drvR (drv p [] l) else ([], false)
theorem carsR_len (l : List Int) (p : Int) : (carsR l p).1.length ≤ l.length := by
  unfold carsR
  split
  · cases h : drv p [] l with
    | none => simp [drvR]
    | some r =>
      have := drv_length p l [] r h
      simp only [drvR]
      simp at this
      omega
  · simp

theorem impl_DriveCars.ev (l : List Int) (p : Int) (hl : l.length ≤ 1048576) : Ev (fun k => impl_DriveCars.f k l p) (carsR l p) := by
  simp only [impl_DriveCars.f]
  unfold carsR
  refine Ev.bind (ev_eq (impl_AreFavourites.is l p (by omega))) ?_
  cases e : fav l p with
  | true =>
    have h := (fav_iff l p).mp e
    exact ev_pos rfl (Ev.bind (impl_drive.ev l p (by omega) (by omega) hl (fun x hx => by have := h.2.2.2 x hx; omega)) (Ev.now _))
  | false => exact ev_neg (by decide) (Ev.now _)

theorem ev_ite {α : Type} {c : Prop} [Decidable c] {g f : Nat → Option α} {r : α} (h : c → Ev g r) (k : ¬ c → Ev f r) : Ev (fun n => if c then g n else f n) r := by
  by_cases e : c
  · exact ev_pos e (h e)
  · exact ev_neg e (k e)
theorem u8_of_wf (x : Int) (h : (Lit.int .u8 x).wf = true) : 0 ≤ x ∧ x ≤ 255 := by
  simp only [Lit.wf, Bool.and_eq_true, decide_eq_true_eq] at h
  have h1 : IntKind.min .u8 = 0 := by decide
  have h2 : IntKind.max .u8 = 255 := by decide
  rw [h1, h2] at h
  exact h

end Go.Proofs.Ytdiohjdfiambhaa.QFnCircles
