/- Proved here: what the Lean functions printed for the Go functions of law FnCutsAndJoins compute, in words of lists and whole numbers, for lists shorter than 2^62. -/
import Derived.Test.YtjnchdccefdjmaaGreatDoorQFnCutsAndJoinsx
import Derived.Test.YtjnchdccefdjmaaGreatDoorMDrive
import Derived.Test.YtjnchdccefdjmaaGreatDoorMCrit
import Derived.Test.YtjnchdccefdjmaaGreatDoorMLesser
import Derived.Test.YtjnchdccefdjmaaGreatDoorMText
namespace Go.Proofs.YtjnchdccefdjmaaGreatDoor.QFnCutsAndJoins
open Go.RowKit Go.Proofs.YtjnchdccefdjmaaGreatDoorW.PrintWords Go.Proofs.YtjnchdccefdjmaaGreatDoorW.PrintLast Go.Proofs.YtjnchdccefdjmaaGreatDoor.Math
set_option linter.unusedVariables false
set_option linter.unusedSimpArgs false

theorem ev_pos {α : Type} {c : Prop} [Decidable c] {g f : Nat → Option α} {r : α} (h : c) (k : Ev g r) : Ev (fun n => if c then g n else f n) r := by
  obtain ⟨K, hK⟩ := k
  exact ⟨K, fun n hn => by simp only [if_pos h]; exact hK n hn⟩
theorem ev_neg {α : Type} {c : Prop} [Decidable c] {g f : Nat → Option α} {r : α} (h : ¬ c) (k : Ev f r) : Ev (fun n => if c then g n else f n) r := by
  obtain ⟨K, hK⟩ := k
  exact ⟨K, fun n hn => by simp only [if_neg h]; exact hK n hn⟩
theorem ev_eq {α : Type} {g : Option α} {r : α} (h : g = some r) : Ev (fun _ => g) r := ⟨0, fun _ _ => h⟩
theorem ev_val {α : Type} {g : Nat → Option α} {r q : α} (h : Ev g r) (e : r = q) : Ev g q := e ▸ h
theorem wrap_nat (i : Nat) (h : i < 4611686018427387904) : wrap64 ((i : Int) + 1) = ((i + 1 : Nat) : Int) := by
  unfold wrap64
  omega
theorem wrap_id (x : Int) (h : -9223372036854775808 ≤ x) (h' : x ≤ 9223372036854775807) : wrap64 x = x := by
  unfold wrap64
  omega
theorem rd_nat (l : List Int) (i : Nat) (h : i < l.length) : rd l (i : Int) = l[i] := by
  simp [rd, List.getD_eq_getElem?_getD, h]
theorem rd_int (l : List Int) (x : Int) (h0 : 0 ≤ x) (h : x < l.length) : rd l x = l[x.toNat]'(by omega) := by
  have e : x = ((x.toNat : Nat) : Int) := by omega
  have h2 : x.toNat < l.length := by omega
  rw [show rd l x = rd l ((x.toNat : Nat) : Int) by rw [← e]]
  exact rd_nat l x.toNat h2
/-- m, m + 1, .., n numbers -/
def marks : Int → Nat → List Int
  | _, 0 => []
  | m, n + 1 => m :: marks (m + 1) n
theorem marks_len : ∀ (n : Nat) (m : Int), (marks m n).length = n
  | 0, _ => rfl
  | n + 1, m => by simp [marks, marks_len n]
theorem take_set_succ (y l : List Int) (i : Nat) (hi : i < l.length) (hy : y.length = l.length) (h : y.take i = l.take i) : (y.set i l[i]).take (i + 1) = l.take (i + 1) := by
  rw [List.take_succ_eq_append_getElem (by simp; omega), List.take_succ_eq_append_getElem hi, List.take_set_of_le (Nat.le_refl i), h, List.getElem_set_self]
/-- all numbers lie from lo to hi -/
def inAll (lo hi : Int) (l : List Int) : Bool := l.all fun x => decide (lo ≤ x) && decide (x ≤ hi)
theorem inAll_iff (lo hi : Int) (l : List Int) : inAll lo hi l = true ↔ ∀ x ∈ l, lo ≤ x ∧ x ≤ hi := by
  simp [inAll]

theorem laws_big.is (a b : List Int) : laws_big.f a b = some true ∨ (laws_big.f a b = some false ∧ a.length + b.length ≤ 1048576) := by
  unfold laws_big.f
  by_cases c : (a.length : Int) > 1048576
  · rw [if_pos c]
    exact .inl rfl
  · rw [if_neg c, wrap_id _ (by omega) (by omega)]
    by_cases d : (b.length : Int) > 1048576 - (a.length : Int)
    · rw [decide_eq_true d]
      exact .inl rfl
    · rw [decide_eq_false d]
      exact .inr ⟨rfl, by omega⟩

theorem spec_l1Own.is (l : List Int) (hl : l.length ≤ 1048576) : spec_l1Own.f l = some l := by
  simp only [spec_l1Own.f, Option.bind_some, List.length_nil, Nat.zero_add, List.nil_append]
  rw [if_pos (by omega)]

theorem and255 (x : Int) : 0 ≤ Go.bits .and .u64 x 255 ∧ Go.bits .and .u64 x 255 ≤ 255 := by
  have h : (BitVec.ofInt 64 x &&& BitVec.ofInt 64 255).toNat ≤ 255 := by
    rw [BitVec.toNat_and]
    exact Nat.and_le_right
  have e : Go.bits .and .u64 x 255 = IntKind.u64.wrap (((BitVec.ofInt 64 x &&& BitVec.ofInt 64 255).toNat : Nat) : Int) := rfl
  rw [e]
  generalize (BitVec.ofInt 64 x &&& BitVec.ofInt 64 255).toNat = m at h
  have w : IntKind.u64.wrap (m : Int) = (m : Int) := by
    simp only [IntKind.wrap, IntKind.bits, IntKind.signed, Bool.false_and, Bool.false_eq_true, if_false]
    omega
  rw [w]
  omega
/-- all are bytes, and not too many -/
def bytesOk (l : List Int) : Prop := (∀ x ∈ l, 0 ≤ x ∧ x ≤ 255) ∧ l.length ≤ 1048576

theorem spec_l1Cur_next.ok (l : List Int) (hb : bytesOk l) (p h : Int) (h0 : 0 ≤ p) (h1 : p ≤ 1099511627776) : ∃ b q g, spec_l1Cur_next.f l p h = some (b, q, g) ∧ 0 ≤ b ∧ b ≤ 255 ∧ p ≤ q ∧ q ≤ p + 1 := by
  have hl := hb.2
  unfold spec_l1Cur_next.f
  rw [wrap_id (p + 1) (by omega) (by omega)]
  by_cases c : p < (l.length : Int)
  · have hx := hb.1 (l[p.toNat]'(by omega)) (List.getElem_mem _)
    rw [if_pos c, if_pos h0, if_pos (by omega), rd_int l p h0 c, wrap_id _ (by omega) (by omega)]
    exact ⟨_, _, _, rfl, hx.1, hx.2, by omega, by omega⟩
  · rw [if_neg c, if_neg (by omega)]
    refine ⟨_, _, _, rfl, ?_, ?_, by omega, by omega⟩
    · have := and255 ((IntKind.u64.wrap ((IntKind.u64.wrap ((IntKind.u64.wrap (h * 6364136223846793005)) + 0)) + 1442695040888963407)) / 1099511627776)
      rw [wrap_id _ (by omega) (by omega)]
      exact this.1
    · have := and255 ((IntKind.u64.wrap ((IntKind.u64.wrap ((IntKind.u64.wrap (h * 6364136223846793005)) + 0)) + 1442695040888963407)) / 1099511627776)
      rw [wrap_id _ (by omega) (by omega)]
      exact this.2

theorem spec_l1Cur_pick.ok (l : List Int) (hb : bytesOk l) (p h n : Int) (h0 : 0 ≤ p) (h1 : p ≤ 1099511627000) (hn : n ≤ 1048576) : ∃ b q g, spec_l1Cur_pick.f l p h n = some (b, q, g) ∧ 0 ≤ b ∧ (b < n ∨ (n ≤ 1 ∧ b = 0)) ∧ p ≤ q ∧ q ≤ p + 2 := by
  unfold spec_l1Cur_pick.f
  by_cases c : n ≤ 1
  · rw [if_pos c]
    exact ⟨_, _, _, rfl, by omega, .inr ⟨c, rfl⟩, by omega, by omega⟩
  · rw [if_neg c]
    obtain ⟨b, q, g, e, b0, b1, q0, q1⟩ := spec_l1Cur_next.ok l hb p h h0 (by omega)
    rw [e, Option.bind_some]
    by_cases c2 : n > 200
    · rw [if_pos c2]
      obtain ⟨b2, q2, g2, e2, b20, b21, q20, q21⟩ := spec_l1Cur_next.ok l hb q g (by omega) (by omega)
      dsimp only
      rw [e2, Option.bind_some, if_neg (by omega)]
      rw [wrap_id (b * 256) (by omega) (by omega), wrap_id _ (by omega) (by omega)]
      exact ⟨_, _, _, rfl, Int.tmod_nonneg _ (by omega), .inl (Int.tmod_lt_of_pos _ (by omega)), by dsimp only; omega, by dsimp only; omega⟩
    · rw [if_neg c2, if_neg (by omega)]
      exact ⟨_, _, _, rfl, Int.tmod_nonneg _ b0, .inl (Int.tmod_lt_of_pos _ (by omega)), by dsimp only; omega, by dsimp only; omega⟩

theorem spec_l1Cur_among.ok (l : List Int) (hb : bytesOk l) (p h : Int) (m : List Int) (h0 : 0 ≤ p) (h1 : p ≤ 1099511627000) (hm : 0 < m.length) (hm2 : m.length ≤ 1000) : ∃ b q g, spec_l1Cur_among.f l p h m = some (b, q, g) ∧ b ∈ m ∧ p ≤ q ∧ q ≤ p + 2 := by
  unfold spec_l1Cur_among.f
  obtain ⟨b, q, g, e, b0, b1, q0, q1⟩ := spec_l1Cur_pick.ok l hb p h (m.length : Int) h0 h1 (by omega)
  rw [e, Option.bind_some, if_pos b0, if_pos (by omega)]
  refine ⟨_, _, _, rfl, ?_, q0, q1⟩
  rw [rd_int m b b0 (by omega)]
  exact List.getElem_mem _

/-- small numbers -/
def smalls (l : List Int) : Prop := ∀ x ∈ l, -1 ≤ x ∧ x ≤ 1000
theorem smalls_app {a b : List Int} (ha : smalls a) (hb : smalls b) : smalls (a ++ b) := fun x hx => (List.mem_append.mp hx).elim (ha x) (hb x)
theorem smalls_one {x : Int} (h0 : -1 ≤ x) (h1 : x ≤ 1000) : smalls [x] := fun y hy => by
  simp only [List.mem_singleton] at hy
  omega
theorem smalls_take {a : List Int} (ha : smalls a) (n : Nat) : smalls (a.take n) := fun x hx => ha x (List.mem_of_mem_take hx)
theorem smalls_drop {a : List Int} (ha : smalls a) (n : Nat) : smalls (a.drop n) := fun x hx => ha x (List.mem_of_mem_drop hx)
theorem smalls_set {a : List Int} (ha : smalls a) (n : Nat) {x : Int} (h0 : -1 ≤ x) (h1 : x ≤ 1000) : smalls (a.set n x) := fun y hy => by
  rcases List.mem_or_eq_of_mem_set hy with hy | rfl
  · exact ha y hy
  · exact ⟨h0, h1⟩
theorem spec_l1Cur_park.ok1 (l : List Int) (p h : Int) : ∀ (d : Nat) (x5 : List Int), (9 - x5.length) = d → x5.length ≤ 9 → smalls x5 → ∃ r, Ev (fun k => spec_l1Cur_park.l1 k x5 l p h) (r, p, h) ∧ r.length ≤ 9 ∧ smalls r
  | 0, x5, hd, hl, hs => ⟨x5, Ev.step (fun k => spec_l1Cur_park.l1.eq_2 ..) (ev_neg (by omega) (Ev.now _)), hl, hs⟩
  | d + 1, x5, hd, hl, hs => by
    obtain ⟨r, E, h1, h2⟩ := spec_l1Cur_park.ok1 l p h d (x5 ++ [0]) (by simp; omega) (by simp; omega) (smalls_app hs (smalls_one (by omega) (by omega)))
    exact ⟨r, Ev.step (fun k => spec_l1Cur_park.l1.eq_2 ..) (ev_pos (by omega) (ev_pos (by omega) E)), h1, h2⟩
theorem spec_l1Cur_park.ok0 (l : List Int) (hb : bytesOk l) : ∀ (d : Nat) (x5 : List Int) (x6 p h : Int), x6 = (d : Int) → x5.length + d ≤ 8 → smalls x5 → 0 ≤ p → p + 4 * (d : Int) ≤ 1099511626000 → ∃ r q g, Ev (fun k => spec_l1Cur_park.l0 k x5 x6 l p h) (r, q, g) ∧ r.length ≤ 9 ∧ smalls r ∧ p ≤ q ∧ q ≤ p + 4 * (d : Int) + 20
  | 0, x5, x6, p, h, hd, hl, hs, h0, h1 => by
    have hw : wrap64 ((x5.length : Int) + 1) = (x5.length : Int) + 1 := wrap_id _ (by omega) (by omega)
    obtain ⟨t, q, g, e, t0, t1, q0, q1⟩ := spec_l1Cur_pick.ok l hb p h 20 h0 (by omega) (by omega)
    by_cases c0 : t = 0
    · obtain ⟨b, q2, g2, e2, hm, q20, q21⟩ := spec_l1Cur_among.ok l hb q g [-1, 0, (x5.length : Int), (x5.length : Int) + 1, 99, 100] (by omega) (by omega) (by simp) (by simp)
      simp only [List.mem_cons, List.not_mem_nil, or_false] at hm
      refine ⟨x5 ++ [b], q2, g2, Ev.step (fun k => spec_l1Cur_park.l0.eq_2 ..) (ev_neg (by omega) (Ev.bind (ev_eq e) (ev_pos c0 ?_))), by simp; omega, smalls_app hs (smalls_one (by omega) (by omega)), by omega, by omega⟩
      rw [hw]
      exact Ev.bind (ev_eq e2) (ev_pos (by omega) (Ev.now _))
    · by_cases c1 : t = 1
      · by_cases c2 : (x5.length : Int) > 0
        · obtain ⟨i, q2, g2, e2, i0, i1, q20, q21⟩ := spec_l1Cur_pick.ok l hb q g (x5.length : Int) (by omega) (by omega) (by omega)
          obtain ⟨v, q3, g3, e3, v0, v1, q30, q31⟩ := spec_l1Cur_pick.ok l hb q2 g2 (x5.length : Int) (by omega) (by omega) (by omega)
          refine ⟨x5.set i.toNat v, q3, g3, Ev.step (fun k => spec_l1Cur_park.l0.eq_2 ..) (ev_neg (by omega) (Ev.bind (ev_eq e) (ev_neg c0 (ev_pos c1 (ev_pos c2 (Ev.bind (ev_eq e2) (Ev.bind (ev_eq e3) (ev_pos i0 (ev_pos (by dsimp only; omega) (Ev.now _)))))))))), by simp; omega, smalls_set hs _ (by omega) (by omega), by omega, by omega⟩
        · exact ⟨x5, q, g, Ev.step (fun k => spec_l1Cur_park.l0.eq_2 ..) (ev_neg (by omega) (Ev.bind (ev_eq e) (ev_neg c0 (ev_pos c1 (ev_neg c2 (Ev.now _)))))), by omega, hs, by omega, by omega⟩
      · by_cases c2 : t = 2
        · obtain ⟨r, E, r1, r2⟩ := spec_l1Cur_park.ok1 l q g _ x5 rfl (by omega) hs
          exact ⟨r, q, g, Ev.step (fun k => spec_l1Cur_park.l0.eq_2 ..) (ev_neg (by omega) (Ev.bind (ev_eq e) (ev_neg c0 (ev_neg c1 (ev_pos c2 E))))), r1, r2, by omega, by omega⟩
        · exact ⟨x5, q, g, Ev.step (fun k => spec_l1Cur_park.l0.eq_2 ..) (ev_neg (by omega) (Ev.bind (ev_eq e) (ev_neg c0 (ev_neg c1 (ev_neg c2 (Ev.now _)))))), by omega, hs, by omega, by omega⟩
  | d + 1, x5, x6, p, h, hd, hl, hs, h0, h1 => by
    have hw : wrap64 ((x5.length : Int) + 1) = (x5.length : Int) + 1 := wrap_id _ (by omega) (by omega)
    obtain ⟨x, q, g, e, x0, x1, q0, q1⟩ := spec_l1Cur_pick.ok l hb p h ((x5.length : Int) + 1) h0 (by omega) (by omega)
    obtain ⟨i, q2, g2, e2, i0, i1, q20, q21⟩ := spec_l1Cur_pick.ok l hb q g ((x5.length : Int) + 1) (by omega) (by omega) (by omega)
    obtain ⟨r, q3, g3, E, r1, r2, q30, q31⟩ := spec_l1Cur_park.ok0 l hb d ((x5.take i.toNat ++ [x]) ++ x5.drop i.toNat) (x6 - 1) q2 g2 (by omega) (by simp; omega) (smalls_app (smalls_app (smalls_take hs _) (smalls_one (by omega) (by omega))) (smalls_drop hs _)) (by omega) (by omega)
    refine ⟨r, q3, g3, Ev.step (fun k => spec_l1Cur_park.l0.eq_2 ..) (ev_pos (by omega) ?_), r1, r2, by omega, by omega⟩
    rw [hw]
    refine Ev.bind (ev_eq e) (Ev.bind (ev_eq e2) (ev_pos i0 (ev_pos (by dsimp only; omega) (Ev.bind (ev_eq (spec_l1Own.is _ (by simp; omega))) (ev_pos (by simp; omega) (Ev.bind (ev_eq rfl) (Ev.bind (ev_eq rfl) (ev_pos (by simp; omega) ?_))))))))
    rw [wrap_id (x6 - 1) (by omega) (by omega)]
    exact E
theorem spec_l1Cur_park.ok (l : List Int) (hb : bytesOk l) (p h a : Int) (h0 : 0 ≤ p) (h1 : p ≤ 1099511620000) (a0 : 0 ≤ a) (a1 : a ≤ 8) : ∃ r q g, Ev (fun k => spec_l1Cur_park.f k l p h a) (r, q, g) ∧ r.length ≤ 9 ∧ smalls r ∧ p ≤ q ∧ q ≤ p + 100 := by
  have hw : wrap64 (a + 1) = a + 1 := wrap_id _ (by omega) (by omega)
  obtain ⟨n, q, g, e, n0, n1, q0, q1⟩ := spec_l1Cur_pick.ok l hb p h (a + 1) h0 (by omega) (by omega)
  obtain ⟨r, q2, g2, E, r1, r2, q20, q21⟩ := spec_l1Cur_park.ok0 l hb n.toNat [] n q g (by omega) (by simp; omega) (fun x hx => by cases hx) (by omega) (by omega)
  refine ⟨r, q2, g2, ?_, r1, r2, by omega, by omega⟩
  simp only [spec_l1Cur_park.f]
  rw [hw]
  exact Ev.bind (ev_eq e) E

theorem spec_DrawJoinParking.ok (l : List Int) (hb : bytesOk l) : ∃ a b, Ev (fun k => spec_DrawJoinParking.f k l) (a, b) ∧ a.length ≤ 9 ∧ b.length ≤ 9 := by
  simp only [spec_DrawJoinParking.f]
  obtain ⟨a, q, g, E, a1, _, q0, q1⟩ := spec_l1Cur_park.ok l hb 0 0 5 (by omega) (by omega) (by omega) (by omega)
  obtain ⟨b, q2, g2, E2, b1, _, _, _⟩ := spec_l1Cur_park.ok l hb q g 5 (by omega) (by omega) (by omega) (by omega)
  exact ⟨a, b, Ev.bind E (Ev.bind E2 (Ev.now _)), a1, b1⟩

theorem impl_between.is (x lo hi : Int) : impl_between.f x lo hi = some (decide (lo ≤ x) && decide (x ≤ hi)) := by
  unfold impl_between.f
  by_cases h : x ≥ lo
  · rw [if_pos h, decide_eq_true (show lo ≤ x from h), Bool.true_and]
  · rw [if_neg h, decide_eq_false (show ¬ lo ≤ x from h), Bool.false_and]

theorem impl_areBetween.is (l : List Int) (lo hi : Int) (hl : l.length ≤ 35184372088832) : impl_areBetween.f l lo hi = some (inAll lo hi l) := by
  unfold impl_areBetween.f
  rw [if_pos hl]
  congr 1
  unfold inAll out_b
  induction l with
  | nil => rfl
  | cons x l ih =>
    rw [List.any_cons, List.all_cons, ← ih (by simp at hl; omega)]
    cases (decide (lo ≤ x) && decide (x ≤ hi)) <;> simp

theorem impl_areCars.is (l : List Int) (hl : l.length ≤ 35184372088832) : impl_areCars.f l = some (decide (l.length ≤ 8) && inAll 0 99 l) := by
  unfold impl_areCars.f
  by_cases h8 : l.length ≤ 8
  · rw [decide_eq_true h8, if_pos (by omega), impl_areBetween.is l 0 99 hl]
    rfl
  · rw [decide_eq_false h8, if_neg (by omega)]
    rfl

def drvR (o : Option (List Int)) : List Int × Bool := match o with
  | some r => (r, true)
  | none => ([], false)
theorem drvR_snd (l : List Int) (p : Int) : (drvR (drv p [] l)).2 = allPark l p := by
  unfold drvR allPark
  cases drv p [] l <;> rfl

/-- the table t tells which places are in out -/
def Tk (p : Int) (out : List Int) (t : List Bool) : Prop := t.length = p.toNat ∧ ∀ j : Int, 0 ≤ j → j < p → (rdOf false t j = true ↔ j ∈ out)
theorem Tk_set (p : Int) (out : List Int) (t : List Bool) (h : Tk p out t) (x : Int) (h0 : 0 ≤ x) (h1 : x < p) : Tk p (out ++ [x]) (t.set x.toNat true) := by
  refine ⟨by rw [List.length_set]; exact h.1, fun j j0 j1 => ?_⟩
  have hl := h.1
  have hj := h.2 j j0 j1
  unfold rdOf at hj ⊢
  rw [List.getD_eq_getElem?_getD] at hj ⊢
  rw [List.getElem?_set]
  by_cases e : x.toNat = j.toNat
  · have e' : j = x := by omega
    subst e'
    rw [if_pos rfl, if_pos (by omega)]
    simp
  · rw [if_neg e]
    rw [hj]
    have e' : ¬ j = x := by omega
    simp [e']

theorem impl_drive.evl (p : Int) (hp : p ≤ 1048576) (l : List Int) (hl : l.length ≤ 1048576) (hx : ∀ x ∈ l, 0 ≤ x ∧ x ≤ 1048576) (d : Nat) : ∀ (i : Nat) (out : List Int) (t : List Bool), i + d = l.length → out.length = i → Tk p out t → Ev (fun k => impl_drive.l0 k p t out l (l.length : Int) (i : Int)) (drvR (drv p out (l.drop i))) := by
  induction d with
  | zero =>
    intro i out t hi ho ht
    refine Ev.step (fun k => impl_drive.l0.eq_2 ..) ?_
    refine ev_neg (by omega) ?_
    refine ev_val (Ev.now _) ?_
    rw [List.drop_of_length_le (by omega)]
    rfl
  | succ d ih =>
    intro i out t hi ho ht
    refine Ev.step (fun k => impl_drive.l0.eq_2 ..) ?_
    refine ev_pos (by omega) (ev_pos (by omega) (ev_pos (by omega) ?_))
    rw [rd_nat l i (by omega), List.drop_eq_getElem_cons (by omega)]
    have hxi := hx l[i] (List.getElem_mem _)
    have inner : ∀ (m : Nat) (x : Int), (p - x).toNat = m → 0 ≤ x → x ≤ 1048576 → Ev (fun k => impl_drive.l1 k p t out x l (l.length : Int) (i : Int)) (drvR (drv p out (x :: l.drop (i + 1)))) := by
      intro m
      induction m with
      | zero =>
        intro x hm hx0 hx1
        refine Ev.step (fun k => impl_drive.l1.eq_2 ..) ?_
        refine ev_neg (by omega) (ev_pos (by omega) ?_)
        refine ev_val (Ev.now _) ?_
        simp only [drv]
        rw [land_stop out p x (by omega), if_neg (by omega)]
        rfl
      | succ m ihm =>
        intro x hm hx0 hx1
        have hlen := ht.1
        refine Ev.step (fun k => impl_drive.l1.eq_2 ..) ?_
        refine ev_pos (by omega) (ev_pos (by omega) (ev_pos (by omega) ?_))
        by_cases hh : x ∈ out
        · refine ev_pos ((ht.2 x hx0 (by omega)).mpr hh) ?_
          rw [wrap_id (x + 1) (by omega) (by omega)]
          refine ev_val (ihm (x + 1) (by omega) (by omega) (by omega)) ?_
          simp only [drv]
          rw [land_go out p x (by omega) hh]
        · refine ev_neg (fun h => hh ((ht.2 x hx0 (by omega)).mp h)) (ev_neg (by omega) (ev_pos (by omega) ?_))
          rw [wrap_nat i (by omega)]
          refine ev_val (ih (i + 1) _ _ (by omega) (by simp; omega) (Tk_set p out t ht x hx0 (by omega))) ?_
          simp only [drv]
          rw [land_stop out p x (fun h => hh h.2), if_pos (by omega)]
    exact inner _ l[i] rfl hxi.1 hxi.2
theorem impl_drive.ev (l : List Int) (p : Int) (hp0 : 0 ≤ p) (hp : p ≤ 1048576) (hl : l.length ≤ 1048576) (hx : ∀ x ∈ l, 0 ≤ x ∧ x ≤ 1048576) : Ev (fun k => impl_drive.f k l p) (drvR (drv p [] l)) := by
  simp only [impl_drive.f]
  refine ev_pos hp0 (ev_pos (by omega) ?_)
  refine impl_drive.evl p hp l hl hx l.length 0 [] _ (by omega) rfl ⟨by simp, fun j j0 j1 => ?_⟩
  unfold rdOf
  rw [List.getD_eq_getElem?_getD, List.getElem?_replicate]
  split <;> simp

theorem isPk_of_cars (l : List Int) (h8 : l.length ≤ 8) (h0 : ∀ x ∈ l, 0 ≤ x) : isPk l = allPark l l.length := by
  cases e : allPark l l.length with
  | false => simp [isPk, e]
  | true =>
    unfold allPark at e
    obtain ⟨r, hr⟩ := Option.isSome_iff_exists.mp e
    have h := drv_lt l.length l [] r hr
    have e' : allPark l l.length = true := by unfold allPark; exact e
    simp only [isPk, e', Bool.and_true, Bool.and_eq_true, decide_eq_true_eq, List.all_eq_true]
    exact ⟨h8, fun x hx => ⟨h0 x hx, by have := h x hx; omega⟩⟩
theorem isPk_no_cars (l : List Int) (h : ¬ (decide (l.length ≤ 8) && inAll 0 99 l) = true) : isPk l = false := by
  cases e : isPk l with
  | false => rfl
  | true =>
    exfalso
    apply h
    simp only [isPk, Bool.and_eq_true, decide_eq_true_eq, List.all_eq_true] at e
    rw [Bool.and_eq_true, decide_eq_true_eq, inAll_iff]
    exact ⟨e.1.1, fun x hx => by have := e.1.2 x hx; omega⟩

theorem impl_isParking.ev (l : List Int) (hl : l.length ≤ 1048576) : Ev (fun k => impl_isParking.f k l) (isPk l) := by
  simp only [impl_isParking.f]
  refine Ev.bind (ev_eq (impl_areCars.is l (by omega))) ?_
  cases e : (decide (l.length ≤ 8) && inAll 0 99 l) with
  | true =>
    rw [Bool.and_eq_true, decide_eq_true_eq, inAll_iff] at e
    refine ev_pos rfl (Ev.bind (impl_drive.ev l _ (by omega) (by omega) hl (fun x hx => by have := e.2 x hx; omega)) ?_)
    refine ev_val (Ev.now _) ?_
    rw [drvR_snd]
    exact (isPk_of_cars l e.1 (fun x hx => (e.2 x hx).1)).symm
  | false =>
    refine ev_neg (by decide) (ev_val (Ev.now _) ?_)
    exact (isPk_no_cars l (by rw [e]; decide)).symm

theorem slices_Clone_int_int.is (l : List Int) (hl : l.length ≤ 1048576) : slices_Clone_int_int.f l = some l := by
  simp only [slices_Clone_int_int.f]
  rw [if_pos (by omega)]

def joinR (a b : List Int) : List Int × Bool := if isPk a = true then (if isPk b = true then (if a.length + b.length ≤ 8 then (a ++ b.map (fun x => wrap64 (x + (a.length : Int))), true) else ([], false)) else ([], false)) else ([], false)
theorem joinR_len (a b : List Int) : (joinR a b).1.length ≤ a.length + b.length := by
  unfold joinR
  split
  · split
    · split <;> simp
    · simp
  · simp

theorem impl_JoinParking.evl (a b : List Int) (ha : a.length ≤ 1048576) (hb : b.length ≤ 1048576) (d : Nat) : ∀ (i : Nat) (out : List Int), i + d = b.length → out.length = a.length + i → Ev (fun k => impl_JoinParking.l0 k a out b (b.length : Int) (i : Int)) (out ++ (b.drop i).map (fun x => wrap64 (x + (a.length : Int))), true) := by
  induction d with
  | zero =>
    intro i out hi ho
    refine Ev.step (fun k => impl_JoinParking.l0.eq_2 ..) ?_
    refine ev_neg (by omega) (ev_val (Ev.now _) ?_)
    rw [List.drop_of_length_le (by omega)]
    simp
  | succ d ih =>
    intro i out hi ho
    refine Ev.step (fun k => impl_JoinParking.l0.eq_2 ..) ?_
    rw [wrap_nat i (by omega), rd_nat b i (by omega), List.drop_eq_getElem_cons (by omega)]
    refine ev_pos (by omega) (ev_pos (by omega) (ev_pos (by omega) (ev_pos (by omega) ?_)))
    refine ev_val (ih (i + 1) _ (by omega) (by simp; omega)) ?_
    rw [List.append_assoc]
    rfl
theorem impl_JoinParking.ev (a b : List Int) (ha : a.length ≤ 1048576) (hb : b.length ≤ 1048576) : Ev (fun k => impl_JoinParking.f k a b) (joinR a b) := by
  simp only [impl_JoinParking.f]
  unfold joinR
  refine Ev.bind (impl_isParking.ev a ha) ?_
  cases isPk a with
  | false => exact ev_neg (by decide) (Ev.step (fun k => impl_JoinParking.j0.eq_2 ..) (ev_pos rfl (Ev.now _)))
  | true =>
    refine ev_pos rfl (Ev.bind (impl_isParking.ev b hb) ?_)
    cases isPk b with
    | false => exact ev_neg (by decide) (Ev.step (fun k => impl_JoinParking.j0.eq_2 ..) (ev_pos rfl (Ev.now _)))
    | true =>
      refine ev_pos rfl (Ev.step (fun k => impl_JoinParking.j0.eq_2 ..) ?_)
      rw [wrap_id _ (by omega) (by omega), if_pos rfl, if_pos rfl]
      by_cases h : a.length + b.length ≤ 8
      · rw [if_pos h]
        refine ev_neg (by simp; omega) (Ev.bind (ev_eq (slices_Clone_int_int.is a ha)) ?_)
        exact impl_JoinParking.evl a b ha hb b.length 0 a (by omega) rfl
      · rw [if_neg h]
        exact ev_pos (by simp; omega) (Ev.now _)

theorem spec_l1In.is (x lo hi : Int) : spec_l1In.f x lo hi = some (decide (lo ≤ x) && decide (x ≤ hi)) := by
  unfold spec_l1In.f
  by_cases h : x ≥ lo
  · rw [if_pos h, decide_eq_true (show lo ≤ x from h), Bool.true_and]
  · rw [if_neg h, decide_eq_false (show ¬ lo ≤ x from h), Bool.false_and]

theorem spec_l1All.evl (lo hi : Int) (l : List Int) (hl : l.length < 4611686018427387904) (d : Nat) : ∀ (i : Nat), i + d = l.length → Ev (fun k => spec_l1All.l0 k lo hi l (l.length : Int) (i : Int)) (inAll lo hi (l.drop i)) := by
  induction d with
  | zero =>
    intro i hi0
    refine Ev.step (fun k => spec_l1All.l0.eq_2 ..) ?_
    refine ev_neg (by omega) ?_
    refine ev_val (Ev.now _) ?_
    rw [List.drop_of_length_le (by omega)]
    rfl
  | succ d ih =>
    intro i hi0
    refine Ev.step (fun k => spec_l1All.l0.eq_2 ..) ?_
    refine ev_pos (by omega) (ev_pos (by omega) (ev_pos (by omega) ?_))
    rw [wrap_nat i (by omega), rd_nat l i (by omega), List.drop_eq_getElem_cons (by omega), spec_l1In.is]
    refine Ev.bind (Ev.now _) ?_
    have u : inAll lo hi (l[i] :: l.drop (i + 1)) = ((decide (lo ≤ l[i]) && decide (l[i] ≤ hi)) && inAll lo hi (l.drop (i + 1))) := rfl
    rw [u]
    generalize (decide (lo ≤ l[i]) && decide (l[i] ≤ hi)) = b
    cases b with
    | true => exact ev_pos rfl (ih (i + 1) (by omega))
    | false => exact ev_neg (by decide) (Ev.now _)
theorem spec_l1All.ev (l : List Int) (lo hi : Int) (hl : l.length < 4611686018427387904) : Ev (fun k => spec_l1All.f k l lo hi) (inAll lo hi l) := by
  simp only [spec_l1All.f]
  exact spec_l1All.evl lo hi l hl l.length 0 (by omega)

theorem spec_l1Has.evl (x : Int) (l : List Int) (hl : l.length < 4611686018427387904) (d : Nat) : ∀ (i : Nat), i + d = l.length → Ev (fun k => spec_l1Has.l0 k x l (l.length : Int) (i : Int)) (decide (x ∈ l.drop i)) := by
  induction d with
  | zero =>
    intro i hi
    refine Ev.step (fun k => spec_l1Has.l0.eq_2 ..) ?_
    refine ev_neg (by omega) ?_
    refine ev_val (Ev.now _) ?_
    rw [List.drop_of_length_le (by omega)]
    simp
  | succ d ih =>
    intro i hi
    refine Ev.step (fun k => spec_l1Has.l0.eq_2 ..) ?_
    refine ev_pos (by omega) (ev_pos (by omega) (ev_pos (by omega) ?_))
    rw [wrap_nat i (by omega), rd_nat l i (by omega), List.drop_eq_getElem_cons (by omega)]
    by_cases e : l[i] = x
    · refine ev_pos e (ev_val (Ev.now _) ?_)
      simp [e]
    · refine ev_neg e (ev_val (ih (i + 1) (by omega)) ?_)
      simp only [List.mem_cons, show ¬ x = l[i] from fun h => e h.symm, false_or]
theorem spec_l1Has.ev (l : List Int) (x : Int) (hl : l.length < 4611686018427387904) : Ev (fun k => spec_l1Has.f k l x) (decide (x ∈ l)) := by
  simp only [spec_l1Has.f]
  exact spec_l1Has.evl x l hl l.length 0 (by omega)

theorem spec_paDrive.evl (p : Int) (hp : p ≤ 1048576) (l : List Int) (hl : l.length ≤ 1048576) (hx : ∀ x ∈ l, -1048576 ≤ x) (d : Nat) : ∀ (i : Nat) (out : List Int), i + d = l.length → out.length = i → Ev (fun k => spec_paDrive.l0 k p out l (l.length : Int) (i : Int)) (paD p out (l.drop i)) := by
  induction d with
  | zero =>
    intro i out hi ho
    refine Ev.step (fun k => spec_paDrive.l0.eq_2 ..) ?_
    refine ev_neg (by omega) ?_
    refine ev_val (Ev.now _) ?_
    rw [List.drop_of_length_le (by omega)]
    rfl
  | succ d ih =>
    intro i out hi ho
    refine Ev.step (fun k => spec_paDrive.l0.eq_2 ..) ?_
    refine ev_pos (by omega) (ev_pos (by omega) (ev_pos (by omega) ?_))
    rw [rd_nat l i (by omega), List.drop_eq_getElem_cons (by omega)]
    have hxi := hx l[i] (List.getElem_mem _)
    have inner : ∀ (m : Nat) (x : Int), (p - x).toNat = m → -1048576 ≤ x → Ev (fun k => spec_paDrive.l1 k p out x l (l.length : Int) (i : Int)) (paD p (out ++ [if land out p x < p then land out p x else -1]) (l.drop (i + 1))) := by
      intro m
      induction m with
      | zero =>
        intro x hm hx0
        refine Ev.step (fun k => spec_paDrive.l1.eq_2 ..) ?_
        refine ev_neg (by omega) (ev_pos (by omega) (ev_pos (by omega) ?_))
        rw [wrap_nat i (by omega), land_stop out p x (by omega), if_neg (by omega)]
        exact ih (i + 1) _ (by omega) (by simp; omega)
      | succ m ihm =>
        intro x hm hx0
        refine Ev.step (fun k => spec_paDrive.l1.eq_2 ..) ?_
        refine ev_pos (by omega) (Ev.bind (spec_l1Has.ev out x (by omega)) ?_)
        by_cases hh : x ∈ out
        · rw [decide_eq_true hh, land_go out p x (by omega) hh]
          refine ev_pos rfl ?_
          rw [wrap_id (x + 1) (by omega) (by omega)]
          exact ihm (x + 1) (by omega) (by omega)
        · rw [decide_eq_false hh, land_stop out p x (fun h => hh h.2), if_pos (by omega)]
          refine ev_neg (by decide) (ev_neg (by omega) (ev_pos (by omega) ?_))
          rw [wrap_nat i (by omega)]
          exact ih (i + 1) _ (by omega) (by simp; omega)
    exact inner _ l[i] rfl hxi
theorem spec_paDrive.ev (l : List Int) (p : Int) (hp : p ≤ 1048576) (hl : l.length ≤ 1048576) (hx : ∀ x ∈ l, -1048576 ≤ x) : Ev (fun k => spec_paDrive.f k l p) (paD p [] l) := by
  simp only [spec_paDrive.f]
  exact spec_paDrive.evl p hp l hl hx l.length 0 [] (by omega) rfl

theorem paD_length (p : Int) : ∀ (l out : List Int), (paD p out l).length = out.length + l.length
  | [], out => by simp [paD]
  | x :: l, out => by
    have := paD_length p l (out ++ [if land out p x < p then land out p x else -1])
    simp only [paD, this, List.length_append, List.length_cons, List.length_nil]
    omega

theorem spec_paAll.ev (l : List Int) (p : Int) (hp : p ≤ 1048576) (hl : l.length ≤ 1048576) (hx : ∀ x ∈ l, 0 ≤ x) : Ev (fun k => spec_paAll.f k l p) (allPark l p) := by
  simp only [spec_paAll.f]
  refine Ev.bind (spec_paDrive.ev l p hp hl (fun x h => by have := hx x h; omega)) (Ev.bind (spec_l1Has.ev _ _ (by rw [paD_length]; simp; omega)) ?_)
  refine ev_val (Ev.now _) ?_
  rw [allPark_paD l p hx]
  simp

theorem isPk_iff (l : List Int) : isPk l = true ↔ l.length ≤ 8 ∧ (∀ x ∈ l, 0 ≤ x ∧ x < l.length) ∧ allPark l l.length = true := by
  simp only [isPk, Bool.and_eq_true, decide_eq_true_eq, List.all_eq_true]
  constructor
  · rintro ⟨⟨h1, h2⟩, h3⟩
    exact ⟨h1, fun x hx => by have := h2 x hx; omega, h3⟩
  · rintro ⟨h1, h2, h3⟩
    exact ⟨⟨h1, fun x hx => by have := h2 x hx; omega⟩, h3⟩
theorem spec_paParking.ev (l : List Int) (hl : l.length ≤ 1048576) : Ev (fun k => spec_paParking.f k l) (isPk l) := by
  simp only [spec_paParking.f]
  unfold isPk
  by_cases h8 : l.length ≤ 8
  · rw [decide_eq_true h8, wrap_id _ (by omega) (by omega)]
    refine ev_pos (by omega) (Ev.bind (spec_l1All.ev l 0 _ (by omega)) ?_)
    have u : inAll 0 ((l.length : Int) - 1) l = l.all fun x => decide (0 ≤ x) && decide (x ≤ (l.length : Int) - 1) := rfl
    rw [← u]
    cases e : inAll 0 ((l.length : Int) - 1) l with
    | true =>
      rw [inAll_iff] at e
      exact ev_pos rfl (Ev.bind (spec_paAll.ev l _ (by omega) hl (fun x hx => (e x hx).1)) (Ev.now _))
    | false => exact ev_neg (by decide) (Ev.now _)
  · rw [decide_eq_false h8]
    exact ev_neg (by omega) (Ev.now _)

theorem spec_JoinParking.evl (a b : List Int) (ha : a.length ≤ 1048576) (hb : b.length ≤ 1048576) (d : Nat) : ∀ (i : Nat) (out : List Int), i + d = b.length → out.length = a.length + i → Ev (fun k => spec_JoinParking.l0 k a out b (b.length : Int) (i : Int)) (out ++ (b.drop i).map (fun x => wrap64 (x + (a.length : Int))), true) := by
  induction d with
  | zero =>
    intro i out hi ho
    refine Ev.step (fun k => spec_JoinParking.l0.eq_2 ..) ?_
    refine ev_neg (by omega) (ev_val (Ev.now _) ?_)
    rw [List.drop_of_length_le (by omega)]
    simp
  | succ d ih =>
    intro i out hi ho
    refine Ev.step (fun k => spec_JoinParking.l0.eq_2 ..) ?_
    rw [wrap_nat i (by omega), rd_nat b i (by omega), List.drop_eq_getElem_cons (by omega)]
    refine ev_pos (by omega) (ev_pos (by omega) (ev_pos (by omega) (ev_pos (by omega) ?_)))
    refine ev_val (ih (i + 1) _ (by omega) (by simp; omega)) ?_
    rw [List.append_assoc]
    rfl
theorem spec_JoinParking.ev (a b : List Int) (ha : a.length ≤ 1048576) (hb : b.length ≤ 1048576) : Ev (fun k => spec_JoinParking.f k a b) (joinR a b) := by
  simp only [spec_JoinParking.f]
  unfold joinR
  refine Ev.bind (spec_paParking.ev a ha) ?_
  cases isPk a with
  | false => exact ev_neg (by decide) (Ev.step (fun k => spec_JoinParking.j0.eq_2 ..) (ev_pos rfl (Ev.now _)))
  | true =>
    refine ev_pos rfl (Ev.bind (spec_paParking.ev b hb) ?_)
    cases isPk b with
    | false => exact ev_neg (by decide) (Ev.step (fun k => spec_JoinParking.j0.eq_2 ..) (ev_pos rfl (Ev.now _)))
    | true =>
      refine ev_pos rfl (Ev.step (fun k => spec_JoinParking.j0.eq_2 ..) ?_)
      rw [wrap_id _ (by omega) (by omega), if_pos rfl, if_pos rfl]
      by_cases h : a.length + b.length ≤ 8
      · rw [if_pos h]
        refine ev_neg (by simp; omega) (Ev.bind (ev_eq (spec_l1Own.is a ha)) ?_)
        exact spec_JoinParking.evl a b ha hb b.length 0 a (by omega) rfl
      · rw [if_neg h]
        exact ev_pos (by simp; omega) (Ev.now _)

theorem laws_jSame.evl (a b : List Int) (hl : a.length ≤ 1048576) (h : a.length = b.length) (d : Nat) : ∀ (i : Nat), i + d = a.length → Ev (fun k => laws_jSame.l0 k a b (a.length : Int) (i : Int)) (decide (a.drop i = b.drop i)) := by
  induction d with
  | zero =>
    intro i hi
    refine Ev.step (fun k => laws_jSame.l0.eq_2 ..) ?_
    refine ev_neg (by omega) (ev_val (Ev.now _) ?_)
    rw [List.drop_of_length_le (by omega), List.drop_of_length_le (by omega)]
    rfl
  | succ d ih =>
    intro i hi
    refine Ev.step (fun k => laws_jSame.l0.eq_2 ..) ?_
    refine ev_pos (by omega) (ev_pos (by omega) (ev_pos (by omega) (ev_pos (by omega) ?_)))
    rw [rd_nat a i (by omega), rd_nat b i (by omega), List.drop_eq_getElem_cons (l := a) (by omega), List.drop_eq_getElem_cons (l := b) (by omega)]
    by_cases e : a[i]'(by omega) = b[i]'(by omega)
    · refine ev_pos e ?_
      rw [wrap_nat i (by omega)]
      refine ev_val (ih (i + 1) (by omega)) ?_
      simp only [List.cons.injEq, e, true_and]
    · refine ev_neg e (ev_val (Ev.now _) ?_)
      simp only [List.cons.injEq, e, false_and, decide_false]
theorem laws_jSame.ev (a b : List Int) (hl : a.length ≤ 1048576) : Ev (fun k => laws_jSame.f k a b) (decide (a = b)) := by
  simp only [laws_jSame.f]
  by_cases h : a.length = b.length
  · refine ev_pos (by omega) ?_
    exact laws_jSame.evl a b hl h a.length 0 (by omega)
  · refine ev_neg (by omega) (ev_val (Ev.now _) ?_)
    rw [decide_eq_false (fun e => h (by rw [e]))]
theorem laws_jSame.ev_self (a : List Int) (hl : a.length ≤ 1048576) : Ev (fun k => laws_jSame.f k a a) true := ev_val (laws_jSame.ev a a hl) (by simp)

theorem impl_cuts.is (l : List Int) (hl : l.length ≤ 1048576) : impl_cuts.f l = some (cutsFrom l 1 (l.length - 1)) := by
  unfold impl_cuts.f
  rw [if_pos hl]

def cutsR (l : List Int) : List Int × Bool := if isPk l = true then (cutsFrom l 1 (l.length - 1), true) else ([], false)

theorem impl_CutsOf.ev (l : List Int) (hl : l.length ≤ 1048576) : Ev (fun k => impl_CutsOf.f k l) (cutsR l) := by
  simp only [impl_CutsOf.f]
  unfold cutsR
  refine Ev.bind (impl_isParking.ev l hl) ?_
  cases isPk l with
  | true => exact ev_pos rfl (Ev.bind (ev_eq (impl_cuts.is l hl)) (Ev.now _))
  | false => exact ev_neg (by decide) (Ev.now _)

theorem impl_IsParking.ev (l : List Int) (hl : l.length ≤ 1048576) : Ev (fun k => impl_IsParking.f k l) (if (decide (l.length ≤ 8) && inAll 0 99 l) = true then (isPk l, true) else (false, false)) := by
  simp only [impl_IsParking.f]
  refine Ev.bind (ev_eq (impl_areCars.is l (by omega))) ?_
  cases (decide (l.length ≤ 8) && inAll 0 99 l) with
  | true => exact ev_pos rfl (Ev.bind (impl_isParking.ev l hl) (Ev.now _))
  | false => exact ev_neg (by decide) (Ev.now _)

theorem spec_DrawIsParking.ok (l : List Int) (hb : bytesOk l) : ∃ r, Ev (fun k => spec_DrawIsParking.f k l) r ∧ r.length ≤ 9 := by
  simp only [spec_DrawIsParking.f]
  obtain ⟨r, q, g, E, r1, _⟩ := spec_l1Cur_park.ok l hb 0 0 8 (by omega) (by omega) (by omega) (by omega)
  exact ⟨r, Ev.bind E (Ev.now _), r1⟩

theorem spec_DrawParkText.ok (l : List Int) (hb : bytesOk l) : ∃ r, Ev (fun k => spec_DrawParkText.f k l) r ∧ r.length ≤ 9 := by
  simp only [spec_DrawParkText.f]
  obtain ⟨r, E, h⟩ := spec_DrawIsParking.ok l hb
  exact ⟨r, Ev.bind E (Ev.now _), h⟩

/-- a text of bytes -/
def bs (l : List UInt8) : ByteArray := ⟨l.toArray⟩
theorem bs_app (a b : List UInt8) : bs a ++ bs b = bs (a ++ b) := by
  apply ByteArray.ext
  rw [ByteArray.data_append]
  simp [bs]
theorem bs_size (a : List UInt8) : (bs a).size = a.length := by
  show a.toArray.size = a.length
  simp
theorem bs_list (s : ByteArray) : bs s.data.toList = s := by
  apply ByteArray.ext
  simp [bs]
theorem dig_one (n : Nat) (h : n < 10) : Lib.decDigits n = [UInt8.ofNat (48 + n)] := by
  rw [Lib.decDigits, dif_pos h]

/-- numbers in decimal with a blank ahead of each -/
def tailL (l : List Int) : List UInt8 := Lib.joinTail [32] (l.map fun x => Lib.decDigits x.toNat)
theorem tailL_cons (x : Int) (l : List Int) : tailL (x :: l) = (32 :: Lib.decDigits x.toNat) ++ tailL l := by
  simp [tailL, Lib.joinTail]
/-- numbers in decimal with blanks between them -/
def textL : List Int → List UInt8
  | [] => []
  | x :: l => Lib.decDigits x.toNat ++ tailL l
theorem tailL_len : ∀ (l : List Int), (∀ x ∈ l, 0 ≤ x ∧ x < 10) → (tailL l).length = 2 * l.length
  | [], _ => by simp [tailL, Lib.joinTail]
  | x :: l, h => by
    have h1 := h x List.mem_cons_self
    rw [tailL_cons, List.length_append, tailL_len l (fun y hy => h y (List.mem_cons_of_mem _ hy)), dig_one x.toNat (by omega)]
    simp
    omega
theorem textL_len (l : List Int) (h : ∀ x ∈ l, 0 ≤ x ∧ x < 10) : (textL l).length ≤ 2 * l.length := by
  cases l with
  | nil => simp [textL]
  | cons x l =>
    have h1 := h x List.mem_cons_self
    simp only [textL]
    rw [List.length_append, tailL_len l (fun y hy => h y (List.mem_cons_of_mem _ hy)), dig_one x.toNat (by omega)]
    simp
    omega

theorem joinedL_is (l : List Int) : joinedL l [32] = textL l := by
  unfold joinedL joinedWs
  rw [List.map_map]
  cases l with
  | nil => rfl
  | cons x r =>
    rw [List.map_cons, Lib.join_cons]
    simp only [textL, tailL]
    rfl
theorem impl_joined.is (l : List Int) (hl : l.length ≤ 1048576) (hx : ∀ x ∈ l, 0 ≤ x ∧ x < 10) : impl_joined.f l (⟨#[32]⟩ : ByteArray) = some (bs (textL l)) := by
  have e : (⟨#[32]⟩ : ByteArray).data.toList = [32] := rfl
  have h1 := textL_len l hx
  unfold impl_joined.f
  rw [e, joinedL_is, if_pos]
  · rfl
  · simp only [Bool.and_eq_true, decide_eq_true_eq, List.all_eq_true]
    exact ⟨⟨hl, fun x h => by have := hx x h; omega⟩, by omega⟩

/-- what ParkText hands back -/
def ptR (l : List Int) : ByteArray × Bool := if isPk l = true then (bs (textL l), true) else ((⟨#[]⟩ : ByteArray), false)
theorem isPk_ten (l : List Int) (h : isPk l = true) : l.length ≤ 8 ∧ ∀ x ∈ l, 0 ≤ x ∧ x < 10 := by
  have h1 := (isPk_parts l).mp h
  exact ⟨h1.1, fun x hx => by have := h1.2.1 x hx; omega⟩

theorem impl_ParkText.ev (l : List Int) (hl : l.length ≤ 1048576) : Ev (fun k => impl_ParkText.f k l) (ptR l) := by
  simp only [impl_ParkText.f]
  refine Ev.bind (impl_isParking.ev l (by omega)) ?_
  unfold ptR
  by_cases e : isPk l = true
  · have h := isPk_ten l e
    exact ev_val (ev_pos e (Ev.bind (ev_eq (impl_joined.is l (by omega) h.2)) (Ev.now _))) (if_pos e).symm
  · exact ev_val (ev_neg e (Ev.now _)) (if_neg e).symm

theorem spec_l1Num.fin : ∀ x : Fin 10, strOfNums [(wrap64 (48 + ((x.val : Nat) : Int))) % 256] = bs [UInt8.ofNat (48 + x.val)] := by decide +kernel
theorem spec_l1Num.ev (x : Int) (h0 : 0 ≤ x) (h1 : x < 10) : Ev (fun k => spec_l1Num.f k x) (bs (Lib.decDigits x.toNat)) := by
  obtain ⟨n, rfl⟩ : ∃ n : Nat, x = (n : Int) := ⟨x.toNat, by omega⟩
  have hn : n < 10 := by omega
  refine Ev.step (fun k => spec_l1Num.f.eq_2 ..) (ev_pos h1 (ev_val (Ev.now _) ?_))
  rw [Int.toNat_natCast, dig_one n hn]
  exact spec_l1Num.fin ⟨n, hn⟩

theorem spec_paText.evl (l : List Int) (hl : l.length ≤ 1048576) (hx : ∀ x ∈ l, 0 ≤ x ∧ x < 10) (d : Nat) : ∀ (i : Nat) (acc : List UInt8), 0 < i → i + d = l.length → acc.length + 2 * d ≤ 4194304 → Ev (fun k => spec_paText.l0 k (bs acc) l (l.length : Int) (i : Int)) (bs (acc ++ tailL (l.drop i))) := by
  induction d with
  | zero =>
    intro i acc h0 hi hb
    refine Ev.step (fun k => spec_paText.l0.eq_2 ..) (ev_neg (by omega) (ev_val (Ev.now _) ?_))
    rw [List.drop_of_length_le (by omega)]
    simp [tailL, Lib.joinTail]
  | succ d ih =>
    intro i acc h0 hi hb
    have hil : i < l.length := by omega
    have hxi := hx l[i] (List.getElem_mem hil)
    have hd := dig_one l[i].toNat (by omega)
    have N := spec_l1Num.ev l[i] hxi.1 hxi.2
    have s1 := bs_size acc
    refine Ev.step (fun k => spec_paText.l0.eq_2 ..) (ev_pos (by omega) (ev_pos (by omega) (ev_pos (by omega) (ev_pos (by omega) (ev_pos (by omega) ?_)))))
    rw [rd_nat l i hil]
    have e1 : bs acc ++ (⟨#[32]⟩ : ByteArray) = bs (acc ++ [32]) := bs_app acc [32]
    rw [e1]
    have s2 := bs_size (acc ++ [32])
    have s3 := bs_size (Lib.decDigits l[i].toNat)
    rw [List.length_append, List.length_singleton] at s2
    rw [hd, List.length_singleton] at s3
    refine Ev.bind N (ev_pos (by rw [hd]; omega) ?_)
    rw [bs_app, wrap_nat i (by omega)]
    refine ev_val (ih (i + 1) _ (by omega) (by omega) ?_) ?_
    · rw [hd]
      simp only [List.length_append, List.length_singleton]
      omega
    · rw [List.drop_eq_getElem_cons hil, tailL_cons]
      simp
theorem spec_paText.ev (l : List Int) (hl : l.length ≤ 1048576) (hx : ∀ x ∈ l, 0 ≤ x ∧ x < 10) : Ev (fun k => spec_paText.f k l) (bs (textL l)) := by
  simp only [spec_paText.f]
  cases l with
  | nil => exact Ev.step (fun k => spec_paText.l0.eq_2 ..) (ev_neg (by simp) (ev_val (Ev.now _) rfl))
  | cons x r =>
    have hx0 := hx x List.mem_cons_self
    have hd := dig_one x.toNat (by omega)
    have N := spec_l1Num.ev x hx0.1 hx0.2
    have hlen : (x :: r).length = r.length + 1 := rfl
    have s3 := bs_size (Lib.decDigits x.toNat)
    rw [hd, List.length_singleton] at s3
    have e0 : rd (x :: r) 0 = x := rfl
    refine Ev.step (fun k => spec_paText.l0.eq_2 ..) (ev_pos (by omega) (ev_pos (by omega) (ev_pos (by omega) (ev_neg (by omega) ?_))))
    rw [e0]
    refine Ev.bind N (ev_pos ?_ ?_)
    · rw [hd]
      have : (⟨#[]⟩ : ByteArray).size = 0 := rfl
      omega
    · have e1 : (⟨#[]⟩ : ByteArray) ++ bs (Lib.decDigits x.toNat) = bs (Lib.decDigits x.toNat) := bs_app [] _
      rw [e1, show wrap64 (0 + 1) = ((1 : Nat) : Int) by decide +kernel]
      refine ev_val (spec_paText.evl (x :: r) hl hx r.length 1 _ (by omega) (by rw [hlen]; omega) ?_) ?_
      · rw [hd, List.length_singleton]
        omega
      · simp [textL]

theorem spec_ParkText.ev (l : List Int) (hl : l.length ≤ 1048576) : Ev (fun k => spec_ParkText.f k l) (ptR l) := by
  simp only [spec_ParkText.f]
  refine Ev.bind (spec_paParking.ev l (by omega)) ?_
  unfold ptR
  by_cases e : isPk l = true
  · have h := isPk_ten l e
    exact ev_val (ev_pos e (Ev.bind (spec_paText.ev l (by omega) h.2) (Ev.now _))) (if_pos e).symm
  · exact ev_val (ev_neg e (Ev.now _)) (if_neg e).symm

theorem size_list (s : ByteArray) : s.size = s.data.toList.length := by
  rw [Array.length_toList]
  rfl
theorem bt_nat (s : ByteArray) (i : Nat) (h : i < s.data.toList.length) : bt s (i : Int) = ((s.data.toList[i].toNat : Nat) : Int) := by
  have hs : i < s.size := by
    have e := size_list s
    omega
  unfold bt
  rw [Int.toNat_natCast, dif_pos hs]
  rfl
theorem extract_bs (s : ByteArray) (a b : Nat) : s.extract a b = bs ((s.data.toList.drop a).take (b - a)) := by
  rw [← bs_list (s.extract a b), Lib.extract_data]
theorem spec_l1Split.evl (s : ByteArray) (hs : s.size ≤ 1048576) (d : Nat) : ∀ (f i : Nat) (out : List ByteArray), f ≤ i → i + d = s.size → out.length ≤ i → Ev (fun k => spec_l1Split.l0 k s 32 out (f : Int) (i : Int)) (out ++ (splitF ((s.data.toList.drop f).take (i - f)) (s.data.toList.drop i)).map bs) := by
  have hl := size_list s
  induction d with
  | zero =>
    intro f i out hf hi ho
    have e1 : s.extract (f : Int).toNat s.size = bs ((s.data.toList.drop f).take (i - f)) := by
      rw [Int.toNat_natCast, extract_bs, show s.size - f = i - f by omega]
    refine Ev.step (fun k => spec_l1Split.l0.eq_2 ..) (ev_neg (by omega) (ev_pos (by omega) (ev_pos (by omega) (ev_pos (by omega) (ev_val (Ev.now _) ?_)))))
    rw [e1, List.drop_of_length_le (l := s.data.toList) (i := i) (by omega)]
    simp [splitF]
  | succ d ih =>
    intro f i out hf hi ho
    have hil : i < s.data.toList.length := by omega
    have hb := bt_nat s i hil
    have hd : s.data.toList.drop i = s.data.toList[i] :: s.data.toList.drop (i + 1) := List.drop_eq_getElem_cons hil
    refine Ev.step (fun k => spec_l1Split.l0.eq_2 ..) (ev_pos (by omega) (ev_pos (by omega) ?_))
    rw [hb, hd]
    by_cases c : s.data.toList[i] = 32
    · have hc : ((s.data.toList[i].toNat : Nat) : Int) = 32 := by rw [c]; rfl
      have e1 : s.extract (f : Int).toNat (i : Int).toNat = bs ((s.data.toList.drop f).take (i - f)) := by
        rw [Int.toNat_natCast, Int.toNat_natCast, extract_bs]
      refine ev_pos hc (ev_pos (by omega) (ev_pos (by omega) (ev_pos (by omega) (ev_pos (by omega) ?_))))
      rw [e1, wrap_nat i (by omega)]
      refine ev_val (ih (i + 1) (i + 1) _ (Nat.le_refl _) (by omega) (by rw [List.length_append, List.length_singleton]; omega)) ?_
      rw [Nat.sub_self, List.take_zero]
      simp only [splitF, if_pos c, List.map_cons, List.append_assoc, List.singleton_append]
    · have hc : ¬ ((s.data.toList[i].toNat : Nat) : Int) = 32 := fun h => c (UInt8.toNat_inj.1 (by
        have e : (32 : UInt8).toNat = 32 := rfl
        omega))
      refine ev_neg hc ?_
      rw [wrap_nat i (by omega)]
      refine ev_val (ih f (i + 1) _ (by omega) (by omega) (by omega)) ?_
      have e2 : (s.data.toList.drop f).take (i + 1 - f) = (s.data.toList.drop f).take (i - f) ++ [s.data.toList[i]] := by
        rw [show i + 1 - f = (i - f) + 1 by omega, List.take_succ_eq_append_getElem (by rw [List.length_drop]; omega)]
        simp [show f + (i - f) = i by omega]
      rw [e2]
      simp only [splitF, if_neg c]
theorem spec_l1Split.ev (s : ByteArray) (hs : s.size ≤ 1048576) : Ev (fun k => spec_l1Split.f k s 32) ((splitF [] s.data.toList).map bs) := by
  simp only [spec_l1Split.f]
  have h := spec_l1Split.evl s hs s.size 0 0 [] (Nat.le_refl _) (by omega) (by simp)
  simpa using h

theorem spec_l1Read.evl (s : ByteArray) (hs : s.size ≤ 6) (d : Nat) : ∀ (i : Nat) (n : Int), i + d = s.size → 0 ≤ n → n < 10 ^ i → Ev (fun k => spec_l1Read.l0 k s n (i : Int)) (readD n (s.data.toList.drop i)) := by
  have hl := size_list s
  induction d with
  | zero =>
    intro i n hi h0 h1
    refine Ev.step (fun k => spec_l1Read.l0.eq_2 ..) (ev_neg (by omega) (ev_val (Ev.now _) ?_))
    rw [List.drop_of_length_le (by omega)]
    rfl
  | succ d ih =>
    intro i n hi h0 h1
    have hil : i < s.data.toList.length := by omega
    have hb := bt_nat s i hil
    have hd : s.data.toList.drop i = s.data.toList[i] :: s.data.toList.drop (i + 1) := List.drop_eq_getElem_cons hil
    have hp : (10 : Int) ^ i ≤ 10 ^ 5 := by
      have hn : (10 : Nat) ^ i ≤ 10 ^ 5 := Nat.pow_le_pow_right (by decide) (by omega)
      have e1 : ((10 ^ i : Nat) : Int) = (10 : Int) ^ i := by simp
      have e2 : ((10 ^ 5 : Nat) : Int) = (10 : Int) ^ 5 := by simp
      rw [← e1, ← e2]
      omega
    have hp5 : (10 : Int) ^ 5 = 100000 := by decide
    have hs1 : (10 : Int) ^ (i + 1) = 10 ^ i * 10 := Int.pow_succ 10 i
    refine Ev.step (fun k => spec_l1Read.l0.eq_2 ..) (ev_pos (by omega) (ev_pos (by omega) ?_))
    rw [hb, hd]
    simp only [readD]
    generalize ((s.data.toList[i].toNat : Nat) : Int) = b
    by_cases c1 : b < 48
    · refine ev_pos c1 (ev_val (Ev.now _) ?_)
      rw [if_pos (.inl c1)]
    · refine ev_neg c1 ?_
      by_cases c2 : b > 57
      · refine ev_pos c2 (ev_val (Ev.now _) ?_)
        rw [if_pos (.inr c2)]
      · refine ev_neg c2 ?_
        rw [if_neg (by omega), wrap_nat i (by omega), wrap_id (10 * n) (by omega) (by omega), show (b - 48) % 256 = b - 48 by omega, wrap_id (10 * n + (b - 48)) (by omega) (by omega)]
        exact ih (i + 1) _ (by omega) (by omega) (by omega)
theorem spec_l1Read.ev (s : ByteArray) (hs : s.size ≤ 1048576) : Ev (fun k => spec_l1Read.f k s) (rdW s.data.toList) := by
  have hl := size_list s
  simp only [spec_l1Read.f]
  by_cases h6 : 1 ≤ s.size ∧ s.size ≤ 6
  · have hin : spec_l1In.f (s.size : Int) 1 6 = some true := by
      unfold spec_l1In.f
      rw [if_pos (by omega), decide_eq_true (by omega)]
    obtain ⟨c, r, hcr⟩ : ∃ c r, s.data.toList = c :: r := by
      cases e : s.data.toList with
      | nil =>
        rw [e, List.length_nil] at hl
        omega
      | cons c r => exact ⟨c, r, rfl⟩
    have hb : bt s 0 = ((c.toNat : Nat) : Int) := by
      have h1 := bt_nat s 0 (by omega)
      have h2 : s.data.toList[0]'(by omega) = c := (List.getElem_of_eq hcr (by omega)).trans rfl
      rw [h2] at h1
      exact h1
    have L := spec_l1Read.evl s h6.2 s.size 0 0 (by omega) (by omega) (by decide)
    rw [List.drop_zero, hcr] at L
    rw [hcr] at hl
    refine Ev.bind (ev_eq hin) (ev_pos rfl (ev_pos (by omega) ?_))
    rw [hb, hcr]
    simp only [rdW]
    simp only [List.length_cons] at hl
    by_cases c0 : c = 48
    · refine ev_pos (by rw [c0]; rfl) ?_
      by_cases c1 : r = []
      · rw [decide_eq_false (by rw [c1] at hl; simp at hl; omega), if_neg (by rw [c1]; simp)]
        exact Ev.step (fun k => spec_l1Read.j0.eq_2 ..) (ev_neg (by decide) L)
      · have hr : 0 < r.length := List.length_pos_iff.mpr c1
        rw [decide_eq_true (by omega), if_pos (.inr ⟨c0, c1⟩)]
        exact Ev.step (fun k => spec_l1Read.j0.eq_2 ..) (ev_pos rfl (Ev.now _))
    · have hc : ¬ ((c.toNat : Nat) : Int) = 48 := fun h => c0 (UInt8.toNat_inj.1 (by
        have e : (48 : UInt8).toNat = 48 := rfl
        omega))
      refine ev_neg hc ?_
      rw [if_neg (fun h => h.elim (fun h => by simp only [List.length_cons] at h; omega) (fun h => c0 h.1))]
      exact Ev.step (fun k => spec_l1Read.j0.eq_2 ..) (ev_neg (by decide) L)
  · have hin : spec_l1In.f (s.size : Int) 1 6 = some false := by
      unfold spec_l1In.f
      by_cases h1 : 1 ≤ s.size
      · rw [if_pos (by omega), decide_eq_false (by omega)]
      · rw [if_neg (by omega)]
    refine Ev.bind (ev_eq hin) (ev_neg (by decide) (Ev.step (fun k => spec_l1Read.j0.eq_2 ..) (ev_pos rfl (ev_val (Ev.now _) ?_))))
    generalize s.data.toList = l at hl ⊢
    match l, hl with
    | [], _ => rfl
    | c :: r, hl =>
      simp only [rdW]
      rw [if_pos (.inl (by simp only [List.length_cons] at hl ⊢; omega))]

/-- what ParsePark hands back -/
def ppR (s : List UInt8) : List Int × Bool := if s = [] then ([], true) else match digs (splitF [] s) with
  | some l => if isPk l = true then (l, true) else ([], false)
  | none => ([], false)
theorem ppR_len (s : List UInt8) : (ppR s).1.length ≤ 8 := by
  unfold ppR
  split
  · simp
  · split
    · split
      · rename_i h
        exact (isPk_ten _ h).1
      · simp
    · simp
theorem textL_join (l : List Int) : textL l = Lib.join (l.map fun x => Lib.decDigits x.toNat) [32] := by
  cases l with
  | nil => rfl
  | cons x r =>
    rw [List.map_cons, Lib.join_cons]
    rfl
theorem digs_text (s : List UInt8) (l : List Int) (h : digs (splitF [] s) = some l) : textL l = s := by
  rw [textL_join, ← (digs_is _ l h).2, splitF_join, List.nil_append]
theorem splitF_len : ∀ (s cur : List UInt8), (splitF cur s).length ≤ s.length + 1 ∧ ∀ w ∈ splitF cur s, w.length ≤ cur.length + s.length
  | [], cur => by simp [splitF]
  | c :: r, cur => by
    by_cases e : c = 32
    · obtain ⟨h1, h2⟩ := splitF_len r []
      simp only [splitF, if_pos e, List.length_cons]
      refine ⟨by omega, fun w hw => ?_⟩
      rcases List.mem_cons.mp hw with hw | hw
      · rw [hw]; omega
      · have := h2 w hw
        simp only [List.length_nil] at this
        omega
    · obtain ⟨h1, h2⟩ := splitF_len r (cur ++ [c])
      simp only [splitF, if_neg e, List.length_cons]
      refine ⟨by omega, fun w hw => ?_⟩
      have := h2 w hw
      rw [List.length_append, List.length_singleton] at this
      omega
theorem nil_iff (s : ByteArray) : s.toList = ([] : List UInt8) ↔ s.data.toList = [] := by rw [ByteArray.toList_eq]

theorem strings_Split.is (s : ByteArray) (hs : s.size ≤ 1048576) : strings_Split.f s (⟨#[32]⟩ : ByteArray) = some ((splitF [] s.data.toList).map bs) := by
  have hm : ∀ L : List ByteArray, L = (L.map (·.data.toList)).map bs := fun L => by
    rw [List.map_map]
    conv => lhs; rw [← List.map_id L]
    exact List.map_congr_left (fun x _ => (bs_list x).symm)
  unfold strings_Split.f
  rw [if_pos ⟨hs, rfl⟩, hm (Lib.splitB _ _ _ _), Lib.splitB_data]
  have e1 : (⟨#[32]⟩ : ByteArray).data.toList = [32] := rfl
  have e2 : Lib.countB s (⟨#[32]⟩ : ByteArray) = Lib.count s.data.toList [32] := rfl
  rw [e1, e2, splitK_is]
/-- the numbers of pieces, if all spell theirs -/
def rnsL : List (List UInt8) → List Int → List Int × Bool
  | [], acc => (acc, true)
  | w :: ws, acc => if (rnF w).2 = true then rnsL ws (acc ++ [(rnF w).1]) else ([], false)
theorem rnF_dig (n : Nat) (h : n < 10) : rnF (Lib.decDigits n) = ((n : Int), true) := by
  unfold rnF
  rw [atoi_dig n h]
  dsimp only
  rw [itoa_dig _ (by omega), Int.toNat_natCast, decide_eq_true rfl]
theorem rnF_itoa (w : List UInt8) (h : (rnF w).2 = true) : Lib.itoa (rnF w).1 = w := by
  unfold rnF at h ⊢
  split at h
  · exact of_decide_eq_true h
  · cases h
  · cases h
theorem rnsL_yes : ∀ (ws : List (List UInt8)) (acc l : List Int), rnsL ws acc = (l, true) → l = acc ++ ws.map (fun w => (rnF w).1) ∧ ∀ w ∈ ws, (rnF w).2 = true
  | [], acc, l, h => by
    simp only [rnsL, Prod.mk.injEq] at h
    exact ⟨by rw [← h.1]; simp, (fun w hw => by cases hw)⟩
  | w :: ws, acc, l, h => by
    simp only [rnsL] at h
    by_cases c : (rnF w).2 = true
    · rw [if_pos c] at h
      obtain ⟨h1, h2⟩ := rnsL_yes ws _ l h
      refine ⟨by rw [h1, List.append_assoc]; rfl, fun x hx => ?_⟩
      rcases List.mem_cons.mp hx with hx | hx
      · rw [hx]; exact c
      · exact h2 x hx
    · rw [if_neg c] at h
      cases h
theorem rnsL_dig : ∀ (l acc : List Int), (∀ x ∈ l, 0 ≤ x ∧ x < 10) → rnsL (l.map fun x => Lib.decDigits x.toNat) acc = (acc ++ l, true)
  | [], acc, _ => by simp [rnsL]
  | x :: l, acc, h => by
    have hx := h x List.mem_cons_self
    simp only [List.map_cons, rnsL]
    rw [rnF_dig x.toNat (by omega), if_pos rfl, rnsL_dig l _ (fun y hy => h y (List.mem_cons_of_mem _ hy)), List.append_assoc]
    dsimp only
    rw [show ((x.toNat : Nat) : Int) = x by omega]
    rfl
theorem rnsL_len : ∀ (ws : List (List UInt8)) (acc : List Int), (rnsL ws acc).1.length ≤ acc.length + ws.length
  | [], acc => by simp [rnsL]
  | w :: ws, acc => by
    simp only [rnsL]
    split
    · have := rnsL_len ws (acc ++ [(rnF w).1])
      simp only [List.length_append, List.length_cons, List.length_nil] at this ⊢
      omega
    · simp
theorem impl_readNumbers.evl (W : List (List UInt8)) (hW : W.length ≤ 1048577) (hw : ∀ w ∈ W, w.length ≤ 1048576) (d : Nat) : ∀ (i : Nat) (acc : List Int), i + d = W.length → acc.length ≤ i → Ev (fun k => impl_readNumbers.l0 k acc (W.map bs) ((W.map bs).length : Int) (i : Int)) (rnsL (W.drop i) acc) := by
  have hlm : (W.map bs).length = W.length := List.length_map ..
  induction d with
  | zero =>
    intro i acc hi ha
    rw [List.drop_of_length_le (by omega)]
    exact Ev.step (fun k => impl_readNumbers.l0.eq_2 ..) (ev_neg (by omega) (Ev.now _))
  | succ d ih =>
    intro i acc hi ha
    have hil : i < W.length := by omega
    have hr : rdOf ByteArray.empty (W.map bs) (i : Int) = bs W[i] := by
      unfold rdOf
      rw [Int.toNat_natCast, List.getD_eq_getElem?_getD, List.getElem?_map, List.getElem?_eq_getElem hil]
      rfl
    have hwi := hw W[i] (List.getElem_mem hil)
    have R : impl_readNumber.f (bs W[i]) = some (rnF W[i]) := by
      unfold impl_readNumber.f
      rw [if_pos (by rw [bs_size]; exact hwi), show (bs W[i]).data.toList = W[i] by simp [bs]]
    refine Ev.step (fun k => impl_readNumbers.l0.eq_2 ..) (ev_pos (by omega) (ev_pos (by omega) (ev_pos (by omega) ?_)))
    rw [hr, List.drop_eq_getElem_cons hil]
    simp only [rnsL]
    refine Ev.bind (ev_eq R) ?_
    by_cases c : (rnF W[i]).2 = true
    · refine ev_val (ev_pos c (ev_pos (by omega) ?_)) (if_pos c).symm
      rw [wrap_nat i (by omega)]
      exact ih (i + 1) _ (by omega) (by rw [List.length_append, List.length_singleton]; omega)
    · exact ev_val (ev_neg c (Ev.now _)) (if_neg c).symm
theorem impl_readNumbers.ev (s : ByteArray) (hs : s.size ≤ 1048576) : Ev (fun k => impl_readNumbers.f k s (⟨#[32]⟩ : ByteArray)) (if s.data.toList = [] then ([], true) else rnsL (splitF [] s.data.toList) []) := by
  have hl := size_list s
  simp only [impl_readNumbers.f]
  refine Ev.bind (ev_eq rfl) ?_
  by_cases h : s.data.toList = []
  · exact ev_val (ev_pos ((nil_iff s).mpr h) (Ev.now _)) (if_pos h).symm
  · have hsp := splitF_len s.data.toList []
    refine ev_val (ev_neg (fun e => h ((nil_iff s).mp e)) (Ev.bind (ev_eq (strings_Split.is s hs)) ?_)) (if_neg h).symm
    exact impl_readNumbers.evl (splitF [] s.data.toList) (by omega) (fun w hw => by have := hsp.2 w hw; simp only [List.length_nil] at this; omega) _ 0 [] (by rw [Nat.zero_add]) (by simp)
theorem splitF_sum : ∀ (s cur : List UInt8), ((splitF cur s).map fun w => w.length + 1).sum = cur.length + s.length + 1
  | [], cur => by simp [splitF]
  | c :: r, cur => by
    by_cases e : c = 32
    · simp only [splitF, if_pos e, List.map_cons, List.sum_cons, splitF_sum r []]
      simp only [List.length_nil, List.length_cons]
      omega
    · simp only [splitF, if_neg e, splitF_sum r (cur ++ [c])]
      simp only [List.length_append, List.length_cons, List.length_nil]
      omega
theorem full_sum : ∀ (W : List (List UInt8)), (∀ w ∈ W, w ≠ []) → 2 * W.length ≤ (W.map fun w => w.length + 1).sum
  | [], _ => by simp
  | w :: W, h => by
    have ih := full_sum W (fun x hx => h x (List.mem_cons_of_mem _ hx))
    have h1 := List.length_pos_iff.mpr (h w List.mem_cons_self)
    simp only [List.map_cons, List.sum_cons, List.length_cons]
    omega
theorem impl_ParsePark.ev (s : ByteArray) (hs : s.size ≤ 1048576) : Ev (fun k => impl_ParsePark.f k s) (ppR s.data.toList) := by
  have hl := size_list s
  simp only [impl_ParsePark.f]
  refine Ev.bind (impl_readNumbers.ev s hs) ?_
  unfold ppR
  by_cases h : s.data.toList = []
  · rw [if_pos h, if_pos h]
    exact ev_pos rfl (Ev.bind (impl_isParking.ev [] (by simp)) (ev_pos (by decide) (Ev.now _)))
  · rw [if_neg h, if_neg h]
    have hsp := splitF_len s.data.toList []
    have hlen := rnsL_len (splitF [] s.data.toList) []
    simp only [List.length_nil] at hlen
    cases hd : digs (splitF [] s.data.toList) with
    | some l =>
      obtain ⟨h1, h2⟩ := digs_is _ l hd
      have e : rnsL (splitF [] s.data.toList) [] = (l, true) := by
        rw [h2, rnsL_dig l [] h1, List.nil_append]
      have hfull := full_sum (splitF [] s.data.toList) (fun w hw => by
        rw [h2] at hw
        obtain ⟨x, hx, rfl⟩ := List.mem_map.mp hw
        have := h1 x hx
        rw [dig_one x.toNat (by omega)]
        simp)
      rw [splitF_sum] at hfull
      simp only [List.length_nil] at hfull
      rw [e] at hlen ⊢
      dsimp only at hlen ⊢
      refine ev_pos rfl (Ev.bind (impl_isParking.ev l (by omega)) ?_)
      by_cases hp : isPk l = true
      · exact ev_val (ev_pos hp (Ev.now _)) (if_pos hp).symm
      · exact ev_val (ev_neg hp (Ev.now _)) (if_neg hp).symm
    | none =>
      dsimp only
      obtain ⟨⟨l, ok⟩, hr⟩ : ∃ r, r = rnsL (splitF [] s.data.toList) [] := ⟨_, rfl⟩
      rw [← hr] at hlen ⊢
      dsimp only at hlen
      cases ok with
      | false => exact ev_neg (by simp) (Ev.now _)
      | true =>
        have hy := rnsL_yes _ [] l hr.symm
        have hfull := full_sum (splitF [] s.data.toList) (fun w hw e => by
          have := hy.2 w hw
          rw [e] at this
          cases this)
        rw [splitF_sum] at hfull
        simp only [List.length_nil] at hfull
        refine ev_pos rfl (Ev.bind (impl_isParking.ev l (by omega)) ?_)
        by_cases hp : isPk l = true
        · exfalso
          obtain ⟨g1, g2⟩ := rnsL_yes _ [] l hr.symm
          rw [List.nil_append] at g1
          have h10 := (isPk_ten l hp).2
          have := digs_of (splitF [] s.data.toList) (fun w => (rnF w).1) (fun w hw => by
            have h3 := h10 (rnF w).1 (by rw [g1]; exact List.mem_map.mpr ⟨w, hw, rfl⟩)
            refine ⟨h3.1, h3.2, ?_⟩
            rw [← itoa_dig _ h3.1]
            exact (rnF_itoa w (g2 w hw)).symm)
          rw [hd] at this
          cases this
        · exact ev_neg hp (Ev.now _)

theorem spec_l1Cur_one.ok (l : List Int) (hb : bytesOk l) (p h n : Int) (h0 : 0 ≤ p) (h1 : p ≤ 1099511627000) (hn : n ≤ 1048576) : ∃ b q g, spec_l1Cur_one.f l p h n = some (b, q, g) ∧ p ≤ q ∧ q ≤ p + 2 := by
  unfold spec_l1Cur_one.f
  obtain ⟨b, q, g, e, b0, b1, q0, q1⟩ := spec_l1Cur_pick.ok l hb p h n h0 h1 hn
  rw [e, Option.bind_some]
  exact ⟨_, _, _, rfl, q0, q1⟩

theorem spec_l1Cur_spoilt.ok0 (l : List Int) (hb : bytesOk l) (w : ByteArray) (w0 : 0 < w.size) (w1 : w.size ≤ 1000) : ∀ (d : Nat) (s : ByteArray) (x7 p h : Int), x7 = (d : Int) → s.size + d ≤ 1000 → 0 ≤ p → p + 6 * (d : Int) ≤ 1099511626000 → ∃ r q g, Ev (fun k => spec_l1Cur_spoilt.l0 k s w x7 l p h) (r, q, g) ∧ r.size ≤ s.size + d
  | 0, s, x7, p, h, hd, hs, h0, h1 => ⟨s, p, h, Ev.step (fun k => spec_l1Cur_spoilt.l0.eq_2 ..) (ev_neg (by omega) (Ev.step (fun k => spec_l1Cur_spoilt.j1.eq_2 ..) (ev_neg (by decide) (Ev.now _)))), by omega⟩
  | d + 1, s, x7, p, h, hd, hs, h0, h1 => by
    have hw1 : wrap64 (x7 - 1) = x7 - 1 := wrap_id _ (by omega) (by omega)
    by_cases c : (s.size : Int) > 0
    · obtain ⟨i, q, g, e, i0, i1, q0, q1⟩ := spec_l1Cur_pick.ok l hb p h (s.size : Int) h0 (by omega) (by omega)
      obtain ⟨b, q2, g2, e2, b0, b1, q20, q21⟩ := spec_l1Cur_pick.ok l hb q g (w.size : Int) (by omega) (by omega) (by omega)
      obtain ⟨t, q3, g3, e3, t0, t1, q30, q31⟩ := spec_l1Cur_pick.ok l hb q2 g2 3 (by omega) (by omega) (by omega)
      have hwi : wrap64 (i + 1) = i + 1 := wrap_id _ (by omega) (by omega)
      have n1 : (strOfNums [bt w b]).size = 1 := by rw [strOfNums_size]; rfl
      have n2 : (s.extract 0 i.toNat).size = i.toNat := by rw [ByteArray.size_extract]; omega
      have n3 : (s.extract i.toNat s.size).size = s.size - i.toNat := by rw [ByteArray.size_extract]; omega
      have n4 : (s.extract (i + 1).toNat s.size).size = s.size - i.toNat - 1 := by rw [ByteArray.size_extract]; omega
      have k1 : ((s.extract 0 i.toNat ++ strOfNums [bt w b]) ++ s.extract i.toNat s.size).size = s.size + 1 := by rw [ByteArray.size_append, ByteArray.size_append, n1, n2, n3]; omega
      have k2 : ((s.extract 0 i.toNat ++ strOfNums [bt w b]) ++ s.extract (i + 1).toNat s.size).size = s.size := by rw [ByteArray.size_append, ByteArray.size_append, n1, n2, n4]; omega
      have k3 : (s.extract 0 i.toNat ++ s.extract (i + 1).toNat s.size).size = s.size - 1 := by rw [ByteArray.size_append, n2, n4]; omega
      have k4 : (s.extract 0 i.toNat ++ strOfNums [bt w b]).size = i.toNat + 1 := by rw [ByteArray.size_append, n1, n2]
      obtain ⟨r1, p1, g1, E1, z1⟩ := spec_l1Cur_spoilt.ok0 l hb w w0 w1 d ((s.extract 0 i.toNat ++ strOfNums [bt w b]) ++ s.extract i.toNat s.size) (x7 - 1) q3 g3 (by omega) (by rw [k1]; omega) (by omega) (by omega)
      obtain ⟨r2, p2, g2', E2, z2⟩ := spec_l1Cur_spoilt.ok0 l hb w w0 w1 d ((s.extract 0 i.toNat ++ strOfNums [bt w b]) ++ s.extract (i + 1).toNat s.size) (x7 - 1) q3 g3 (by omega) (by rw [k2]; omega) (by omega) (by omega)
      obtain ⟨r3, p3, g3', E3, z3⟩ := spec_l1Cur_spoilt.ok0 l hb w w0 w1 d (s.extract 0 i.toNat ++ s.extract (i + 1).toNat s.size) (x7 - 1) q3 g3 (by omega) (by rw [k3]; omega) (by omega) (by omega)
      have go : ∀ r q' g', Ev (fun k => spec_l1Cur_spoilt.j1 k s w x7 true l p h) (r, q', g') → Ev (fun k => spec_l1Cur_spoilt.l0 k s w x7 l p h) (r, q', g') := fun r q' g' E => by
        refine Ev.step (fun k => spec_l1Cur_spoilt.l0.eq_2 ..) (ev_pos (by omega) ?_)
        rw [decide_eq_true c]
        exact E
      by_cases c0 : t = 0
      · refine ⟨r1, p1, g1, go _ _ _ (Ev.step (fun k => spec_l1Cur_spoilt.j1.eq_2 ..) (ev_pos rfl (Ev.bind (ev_eq e) (Ev.bind (ev_eq e2) (ev_pos b0 (ev_pos (by dsimp only; omega) (Ev.bind (ev_eq rfl) (Ev.bind (ev_eq e3) (ev_pos c0 (ev_pos i0 (ev_pos (by dsimp only; omega) (ev_pos (by dsimp only; omega) (ev_pos (by dsimp only; omega) ?_))))))))))))), by omega⟩
        rw [hw1]
        exact E1
      · by_cases c1 : t = 1
        · refine ⟨r2, p2, g2', go _ _ _ (Ev.step (fun k => spec_l1Cur_spoilt.j1.eq_2 ..) (ev_pos rfl (Ev.bind (ev_eq e) (Ev.bind (ev_eq e2) (ev_pos b0 (ev_pos (by dsimp only; omega) (Ev.bind (ev_eq rfl) (Ev.bind (ev_eq e3) (ev_neg c0 (ev_pos c1 (ev_pos i0 (ev_pos (by dsimp only; omega) (ev_pos (by dsimp only; omega) ?_))))))))))))), by omega⟩
          dsimp only
          rw [hwi, hw1]
          exact ev_pos (by omega) (ev_pos (by omega) (ev_pos (by omega) E2))
        · refine ⟨r3, p3, g3', go _ _ _ (Ev.step (fun k => spec_l1Cur_spoilt.j1.eq_2 ..) (ev_pos rfl (Ev.bind (ev_eq e) (Ev.bind (ev_eq e2) (ev_pos b0 (ev_pos (by dsimp only; omega) (Ev.bind (ev_eq rfl) (Ev.bind (ev_eq e3) (ev_neg c0 (ev_neg c1 (ev_pos i0 (ev_pos (by dsimp only; omega) ?_)))))))))))), by omega⟩
          dsimp only
          rw [hwi, hw1]
          exact ev_pos (by omega) (ev_pos (by omega) (ev_pos (by omega) E3))
    · refine ⟨s, p, h, Ev.step (fun k => spec_l1Cur_spoilt.l0.eq_2 ..) (ev_pos (by omega) ?_), by omega⟩
      rw [decide_eq_false c]
      exact Ev.step (fun k => spec_l1Cur_spoilt.j1.eq_2 ..) (ev_neg (by decide) (Ev.now _))
theorem spec_l1Cur_spoilt.ok (l : List Int) (hb : bytesOk l) (p h : Int) (s w : ByteArray) (hs : s.size ≤ 100) (w0 : 0 < w.size) (w1 : w.size ≤ 1000) (h0 : 0 ≤ p) (h1 : p ≤ 1099511620000) : ∃ r q g, Ev (fun k => spec_l1Cur_spoilt.f k l p h s w) (r, q, g) ∧ r.size ≤ 110 := by
  obtain ⟨n, q, g, e, n0, n1, q0, q1⟩ := spec_l1Cur_pick.ok l hb p h 2 h0 (by omega) (by omega)
  obtain ⟨r, q2, g2, E, hr⟩ := spec_l1Cur_spoilt.ok0 l hb w w0 w1 (1 + n).toNat s (1 + n) q g (by omega) (by omega) (by omega) (by omega)
  refine ⟨r, q2, g2, ?_, by omega⟩
  simp only [spec_l1Cur_spoilt.f]
  refine Ev.bind (ev_eq e) ?_
  dsimp only
  rw [wrap_id (1 + n) (by omega) (by omega)]
  exact E

theorem spec_DrawParsePark.ok0 (l : List Int) (hb : bytesOk l) (s : ByteArray) (p h : Int) (hs : s.size ≤ 100) (h0 : 0 ≤ p) (h1 : p ≤ 1099511610000) : ∃ r, Ev (fun k => spec_DrawParsePark.j0 k s l p h) r ∧ r.size ≤ 110 := by
  obtain ⟨t, q, g, e, q0, q1⟩ := spec_l1Cur_one.ok l hb p h 3 h0 (by omega) (by omega)
  cases t with
  | true =>
    obtain ⟨r, q2, g2, E, hr⟩ := spec_l1Cur_spoilt.ok l hb q g s (⟨#[48, 49, 50, 51, 32, 45]⟩ : ByteArray) hs (by decide) (by decide) (by omega) (by omega)
    exact ⟨r, Ev.step (fun k => spec_DrawParsePark.j0.eq_2 ..) (Ev.bind (ev_eq e) (ev_pos rfl (Ev.bind E (Ev.now _)))), hr⟩
  | false => exact ⟨s, Ev.step (fun k => spec_DrawParsePark.j0.eq_2 ..) (Ev.bind (ev_eq e) (ev_neg Bool.false_ne_true (Ev.now _))), by omega⟩
theorem spec_DrawParsePark.ok (l : List Int) (hb : bytesOk l) : ∃ r, Ev (fun k => spec_DrawParsePark.f k l) r ∧ r.size ≤ 110 := by
  simp only [spec_DrawParsePark.f]
  obtain ⟨a, q, g, E, a1, _, q0, q1⟩ := spec_l1Cur_park.ok l hb 0 0 6 (by omega) (by omega) (by omega) (by omega)
  by_cases hp : isPk a = true
  · have h10 := isPk_ten a hp
    have hlen := textL_len a h10.2
    obtain ⟨r, E2, hr⟩ := spec_DrawParsePark.ok0 l hb (bs (textL a)) q g (by rw [bs_size]; omega) (by omega) (by omega)
    exact ⟨r, Ev.bind E (Ev.bind (spec_paParking.ev a (by omega)) (ev_pos hp (Ev.bind (spec_paText.ev a (by omega) h10.2) E2))), hr⟩
  · obtain ⟨r, E2, hr⟩ := spec_DrawParsePark.ok0 l hb (⟨#[48, 32, 48]⟩ : ByteArray) q g (by decide) (by omega) (by omega)
    exact ⟨r, Ev.bind E (Ev.bind (spec_paParking.ev a (by omega)) (ev_neg hp E2)), hr⟩

/-- the end of the reference's reading -/
def finS (s : List UInt8) (acc : List Int) : List Int × Bool := if isPk acc = true then (if textL acc = s then (acc, true) else ([], false)) else ([], false)
def goS (s : List UInt8) : List (List UInt8) → List Int → List Int × Bool
  | [], acc => finS s acc
  | w :: ws, acc => if acc.length = 8 then ([], false) else goS s ws (acc ++ [rdW w])
theorem goS_few (s : List UInt8) : ∀ (ws : List (List UInt8)) (acc : List Int), acc.length + ws.length ≤ 8 → goS s ws acc = finS s (acc ++ ws.map rdW)
  | [], acc, _ => by simp [goS]
  | w :: ws, acc, h => by
    simp only [List.length_cons] at h
    simp only [goS]
    rw [if_neg (by omega), goS_few s ws _ (by rw [List.length_append, List.length_singleton]; omega), List.append_assoc]
    rfl
theorem goS_many (s : List UInt8) : ∀ (ws : List (List UInt8)) (acc : List Int), acc.length ≤ 8 → 8 < acc.length + ws.length → goS s ws acc = ([], false)
  | [], acc, h, h2 => by
    simp only [List.length_nil] at h2
    omega
  | w :: ws, acc, h, h2 => by
    simp only [List.length_cons] at h2
    simp only [goS]
    by_cases c : acc.length = 8
    · rw [if_pos c]
    · rw [if_neg c]
      exact goS_many s ws _ (by rw [List.length_append, List.length_singleton]; omega) (by rw [List.length_append, List.length_singleton]; omega)
theorem goS_is (s : List UInt8) (hs : ¬ s = []) : goS s (splitF [] s) [] = ppR s := by
  unfold ppR
  rw [if_neg hs]
  by_cases h8 : (splitF [] s).length ≤ 8
  · rw [goS_few s _ [] (by simpa using h8), List.nil_append]
    cases hd : digs (splitF [] s) with
    | some l =>
      have ht := digs_text s l hd
      obtain ⟨h1, h2⟩ := digs_is _ l hd
      have e : (splitF [] s).map rdW = l := by
        rw [h2, List.map_map]
        conv => rhs; rw [← List.map_id l]
        refine List.map_congr_left (fun x hx => ?_)
        have := h1 x hx
        simp only [Function.comp, id]
        rw [rdW_dig x.toNat (by omega)]
        omega
      dsimp only
      rw [e]
      unfold finS
      rw [ht, if_pos rfl]
    | none =>
      dsimp only
      unfold finS
      by_cases hp : isPk ((splitF [] s).map rdW) = true
      · exfalso
        have h1 := (isPk_ten _ hp).2
        have := digs_of (splitF [] s) rdW (fun w hw => by
          have h2 := h1 (rdW w) (List.mem_map.mpr ⟨w, hw, rfl⟩)
          exact ⟨h2.1, h2.2, rdW_small w h2.1 h2.2⟩)
        rw [hd] at this
        cases this
      · rw [if_neg hp]
  · rw [goS_many s _ [] (by simp) (by simp; omega)]
    cases hd : digs (splitF [] s) with
    | some l =>
      have h2 := (digs_is _ l hd).2
      have hl : (splitF [] s).length = l.length := by rw [h2, List.length_map]
      dsimp only
      rw [if_neg (fun h => by have := (isPk_ten _ h).1; omega)]
    | none => rfl
theorem spec_ParsePark.evl (s : ByteArray) (W : List (List UInt8)) (hW : W.length ≤ 1048577) (hw : ∀ w ∈ W, w.length ≤ 1048576) (d : Nat) : ∀ (i : Nat) (acc : List Int), i + d = W.length → acc.length ≤ 8 → Ev (fun k => spec_ParsePark.l0 k s acc (W.map bs) ((W.map bs).length : Int) (i : Int)) (goS s.data.toList (W.drop i) acc) := by
  have hlm : (W.map bs).length = W.length := List.length_map ..
  induction d with
  | zero =>
    intro i acc hi ha
    rw [List.drop_of_length_le (by omega)]
    refine Ev.step (fun k => spec_ParsePark.l0.eq_2 ..) (ev_neg (by omega) (Ev.bind (spec_paParking.ev acc (by omega)) ?_))
    simp only [goS, finS]
    by_cases hp : isPk acc = true
    · have h10 := isPk_ten acc hp
      refine ev_val (ev_pos hp (Ev.bind (spec_paText.ev acc (by omega) h10.2) ?_)) (if_pos hp).symm
      rw [ByteArray.toList_eq, ByteArray.toList_eq, show (bs (textL acc)).data.toList = textL acc by simp [bs]]
      by_cases ht : textL acc = s.data.toList
      · exact ev_val (ev_pos ht (Ev.now _)) (if_pos ht).symm
      · exact ev_val (ev_neg ht (Ev.now _)) (if_neg ht).symm
    · exact ev_val (ev_neg hp (Ev.now _)) (if_neg hp).symm
  | succ d ih =>
    intro i acc hi ha
    have hil : i < W.length := by omega
    have hr : rdOf ByteArray.empty (W.map bs) (i : Int) = bs W[i] := by
      unfold rdOf
      rw [Int.toNat_natCast, List.getD_eq_getElem?_getD, List.getElem?_map, List.getElem?_eq_getElem hil]
      rfl
    have hwi := hw W[i] (List.getElem_mem hil)
    have R := spec_l1Read.ev (bs W[i]) (by rw [bs_size]; exact hwi)
    rw [show (bs W[i]).data.toList = W[i] by simp [bs]] at R
    refine Ev.step (fun k => spec_ParsePark.l0.eq_2 ..) (ev_pos (by omega) (ev_pos (by omega) (ev_pos (by omega) ?_)))
    rw [hr, List.drop_eq_getElem_cons hil]
    simp only [goS]
    by_cases c : acc.length = 8
    · exact ev_val (ev_pos (by omega) (Ev.now _)) (if_pos c).symm
    · rw [if_neg c]
      refine ev_neg (by omega) (Ev.bind R (ev_pos (by omega) ?_))
      rw [wrap_nat i (by omega)]
      exact ih (i + 1) _ (by omega) (by rw [List.length_append, List.length_singleton]; omega)
theorem spec_ParsePark.ev (s : ByteArray) (hs : s.size ≤ 1048576) : Ev (fun k => spec_ParsePark.f k s) (ppR s.data.toList) := by
  have hl := size_list s
  simp only [spec_ParsePark.f]
  by_cases h : s.data.toList = []
  · refine ev_pos ((nil_iff s).mpr h) (ev_val (Ev.now _) ?_)
    unfold ppR
    rw [if_pos h]
  · have hsp := splitF_len s.data.toList []
    rw [← goS_is s.data.toList h]
    refine ev_neg (fun e => h ((nil_iff s).mp e)) (Ev.bind (spec_l1Split.ev s hs) ?_)
    exact spec_ParsePark.evl s (splitF [] s.data.toList) (by omega) (fun w hw => by have := hsp.2 w hw; simp only [List.length_nil] at this; omega) _ 0 [] (by rw [Nat.zero_add]) (by simp)

theorem ev_ite {α : Type} {c : Prop} [Decidable c] {g f : Nat → Option α} {r : α} (h : c → Ev g r) (k : ¬ c → Ev f r) : Ev (fun n => if c then g n else f n) r := by
  by_cases e : c
  · exact ev_pos e (h e)
  · exact ev_neg e (k e)
theorem u8_of_wf (x : Int) (h : (Lit.int .u8 x).wf = true) : 0 ≤ x ∧ x ≤ 255 := by
  simp only [Lit.wf, Bool.and_eq_true, decide_eq_true_eq] at h
  have h1 : IntKind.min .u8 = 0 := by decide
  have h2 : IntKind.max .u8 = 255 := by decide
  rw [h1, h2] at h
  exact h

end Go.Proofs.YtjnchdccefdjmaaGreatDoor.QFnCutsAndJoins
