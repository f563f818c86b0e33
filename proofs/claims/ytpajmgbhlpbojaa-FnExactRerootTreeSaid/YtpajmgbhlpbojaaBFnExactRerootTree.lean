/- Proved here: what the Lean functions printed for the Go functions of law FnExactRerootTree compute, in words of lists and whole numbers, for lists shorter than 2^62. -/
import Derived.Test.YtpajmgbhlpbojaaQFnExactRerootTreex
import Derived.Test.YtpajmgbhlpbojaaMTree
namespace Go.Proofs.Ytpajmgbhlpbojaa.QFnExactRerootTree
open Go.RowKit Go.Proofs.YtpajmgbhlpbojaaW.PrintWords Go.Proofs.YtpajmgbhlpbojaaW.PrintLast Go.Proofs.Ytpajmgbhlpbojaa.Math
set_option linter.unusedVariables false
set_option linter.unusedSimpArgs false

theorem ev_pos {α : Type} {c : Prop} [Decidable c] {g f : Nat → Option α} {r : α} (h : c) (k : Ev g r) : Ev (fun n => if c then g n else f n) r := by
  obtain ⟨K, hK⟩ := k
  exact ⟨K, fun n hn => by simp only [if_pos h]; exact hK n hn⟩
theorem ev_neg {α : Type} {c : Prop} [Decidable c] {g f : Nat → Option α} {r : α} (h : ¬ c) (k : Ev f r) : Ev (fun n => if c then g n else f n) r := by
  obtain ⟨K, hK⟩ := k
  exact ⟨K, fun n hn => by simp only [if_neg h]; exact hK n hn⟩
theorem ev_eq {α : Type} {g : Option α} {r : α} (h : g = some r) : Ev (fun _ => g) r := ⟨0, fun _ _ => h⟩
theorem ev_val {α : Type} {g : Nat → Option α} {r q : α} (h : Ev g r) (e : r = q) : Ev g q := e ▸ h
theorem wrap_nat (i : Nat) (h : i < 4611686018427387904) : wrap64 ((i : Int) + 1) = ((i + 1 : Nat) : Int) := by
  unfold wrap64
  omega
theorem wrap_id (x : Int) (h : -9223372036854775808 ≤ x) (h' : x ≤ 9223372036854775807) : wrap64 x = x := by
  unfold wrap64
  omega
theorem rd_nat (l : List Int) (i : Nat) (h : i < l.length) : rd l (i : Int) = l[i] := by
  simp [rd, List.getD_eq_getElem?_getD, h]
theorem rd_int (l : List Int) (x : Int) (h0 : 0 ≤ x) (h : x < l.length) : rd l x = l[x.toNat]'(by omega) := by
  have e : x = ((x.toNat : Nat) : Int) := by omega
  have h2 : x.toNat < l.length := by omega
  rw [show rd l x = rd l ((x.toNat : Nat) : Int) by rw [← e]]
  exact rd_nat l x.toNat h2
/-- m, m + 1, .., n numbers -/
def marks : Int → Nat → List Int
  | _, 0 => []
  | m, n + 1 => m :: marks (m + 1) n
theorem marks_len : ∀ (n : Nat) (m : Int), (marks m n).length = n
  | 0, _ => rfl
  | n + 1, m => by simp [marks, marks_len n]
theorem take_set_succ (y l : List Int) (i : Nat) (hi : i < l.length) (hy : y.length = l.length) (h : y.take i = l.take i) : (y.set i l[i]).take (i + 1) = l.take (i + 1) := by
  rw [List.take_succ_eq_append_getElem (by simp; omega), List.take_succ_eq_append_getElem hi, List.take_set_of_le (Nat.le_refl i), h, List.getElem_set_self]
/-- all numbers lie from lo to hi -/
def inAll (lo hi : Int) (l : List Int) : Bool := l.all fun x => decide (lo ≤ x) && decide (x ≤ hi)
theorem inAll_iff (lo hi : Int) (l : List Int) : inAll lo hi l = true ↔ ∀ x ∈ l, lo ≤ x ∧ x ≤ hi := by
  simp [inAll]

theorem laws_toIntS.evl (l : List Int) (hl : l.length < 4611686018427387904) (d : Nat) : ∀ (i : Nat) (y : List Int), i + d = l.length → y.length = l.length → y.take i = l.take i → Ev (fun k => laws_toIntS.l0 k l y (i : Int)) l := by
  induction d with
  | zero =>
    intro i y hi hy ht
    refine Ev.step (fun k => laws_toIntS.l0.eq_2 ..) ?_
    refine ev_neg (by omega) ?_
    refine ev_val (Ev.now _) ?_
    rw [show i = l.length by omega] at ht
    rw [List.take_of_length_le (by omega), List.take_of_length_le (by omega)] at ht
    exact ht
  | succ d ih =>
    intro i y hi hy ht
    refine Ev.step (fun k => laws_toIntS.l0.eq_2 ..) ?_
    refine ev_pos (by omega) (ev_pos (by omega) (ev_pos (by omega) ?_))
    rw [wrap_nat i (by omega), rd_nat l i (by omega), Int.toNat_natCast]
    exact ih (i + 1) _ (by omega) (by simp; omega) (take_set_succ y l i (by omega) hy ht)
theorem laws_toIntS.ev (l : List Int) (hl : l.length ≤ 1048576) : Ev (fun k => laws_toIntS.f k l) l := by
  simp only [laws_toIntS.f]
  refine ev_pos (by omega) (ev_pos (by omega) ?_)
  exact laws_toIntS.evl l (by omega) l.length 0 _ (by omega) (by simp) (by simp)

theorem laws_eqIntS.evl (a b : List Int) (hl : a.length < 4611686018427387904) (h : a.length = b.length) (d : Nat) : ∀ (i : Nat), i + d = a.length → Ev (fun k => laws_eqIntS.l0 k a b (i : Int)) (decide (a.drop i = b.drop i)) := by
  induction d with
  | zero =>
    intro i hi
    refine Ev.step (fun k => laws_eqIntS.l0.eq_2 ..) ?_
    refine ev_neg (by omega) ?_
    refine ev_val (Ev.now _) ?_
    rw [List.drop_of_length_le (by omega), List.drop_of_length_le (by omega)]
    rfl
  | succ d ih =>
    intro i hi
    refine Ev.step (fun k => laws_eqIntS.l0.eq_2 ..) ?_
    refine ev_pos (by omega) (ev_pos (by omega) (ev_pos (by omega) ?_))
    rw [wrap_nat i (by omega), rd_nat a i (by omega), rd_nat b i (by omega)]
    rw [List.drop_eq_getElem_cons (l := a) (by omega), List.drop_eq_getElem_cons (l := b) (by omega)]
    by_cases e : a[i] = b[i]'(by omega)
    · refine ev_pos e (ev_val (ih (i + 1) (by omega)) ?_)
      simp only [List.cons.injEq, e, true_and]
    · refine ev_neg e (ev_val (Ev.now _) ?_)
      simp only [List.cons.injEq, e, false_and, decide_false]
theorem laws_eqIntS.ev (a b : List Int) (hl : a.length < 4611686018427387904) : Ev (fun k => laws_eqIntS.f k a b) (decide (a = b)) := by
  simp only [laws_eqIntS.f]
  by_cases h : a.length = b.length
  · refine ev_pos (by omega) (ev_val (laws_eqIntS.evl a b hl h a.length 0 (by omega)) ?_)
    simp
  · refine ev_neg (by omega) (ev_val (Ev.now _) ?_)
    exact (decide_eq_false (fun e => h (by rw [e]))).symm
theorem laws_eqIntS.ev_self (a : List Int) (hl : a.length < 4611686018427387904) : Ev (fun k => laws_eqIntS.f k a a) true := ev_val (laws_eqIntS.ev a a hl) (by simp)

theorem laws_markIntS.evl (n : Nat) (hn : n < 4611686018427387904) (d : Nat) : ∀ (i : Nat) (y : List Int), i + d = n → y.length = n → Ev (fun k => laws_markIntS.l0 k y (1 + (i : Int)) (i : Int)) (1 + (n : Int), y.take i ++ marks (1 + (i : Int)) d) := by
  induction d with
  | zero =>
    intro i y hi hy
    refine Ev.step (fun k => laws_markIntS.l0.eq_2 ..) ?_
    refine ev_neg (by omega) ?_
    refine ev_val (Ev.now _) ?_
    rw [List.take_of_length_le (by omega), show (i : Int) = n by omega]
    simp [marks]
  | succ d ih =>
    intro i y hi hy
    refine Ev.step (fun k => laws_markIntS.l0.eq_2 ..) ?_
    refine ev_pos (by omega) (ev_pos (by omega) ?_)
    rw [wrap_nat i (by omega), Int.toNat_natCast, show wrap64 (1 + (i : Int) + 1) = 1 + ((i + 1 : Nat) : Int) by unfold wrap64; omega]
    refine ev_val (ih (i + 1) (y.set i (1 + (i : Int))) (by omega) (by simp; omega)) ?_
    rw [List.take_succ_eq_append_getElem (by simp; omega), List.take_set_of_le (Nat.le_refl i), List.getElem_set_self, List.append_assoc]
    simp only [marks, List.singleton_append, show 1 + ((i + 1 : Nat) : Int) = 1 + (i : Int) + 1 by omega]
theorem laws_markIntS.ev (y : List Int) (hn : y.length < 4611686018427387904) : Ev (fun k => laws_markIntS.f k y 1) (1 + (y.length : Int), marks 1 y.length) := by
  simp only [laws_markIntS.f]
  have h := laws_markIntS.evl y.length hn y.length 0 y (by omega) rfl
  simpa using h

theorem laws_heldIntS.evl (y : List Int) (hn : y.length < 4611686018427387904) (d : Nat) : ∀ (i : Nat), i + d = y.length → y.drop i = marks (1 + (i : Int)) d → Ev (fun k => laws_heldIntS.l0 k y (1 + (i : Int)) (i : Int)) (1 + (y.length : Int)) := by
  induction d with
  | zero =>
    intro i hi hy
    refine Ev.step (fun k => laws_heldIntS.l0.eq_2 ..) ?_
    refine ev_neg (by omega) ?_
    refine ev_val (Ev.now _) ?_
    omega
  | succ d ih =>
    intro i hi hy
    refine Ev.step (fun k => laws_heldIntS.l0.eq_2 ..) ?_
    rw [List.drop_eq_getElem_cons (by omega)] at hy
    simp only [marks, List.cons.injEq] at hy
    refine ev_pos (by omega) (ev_pos (by omega) ?_)
    rw [rd_nat y i (by omega)]
    refine ev_pos hy.1 ?_
    rw [wrap_nat i (by omega), show wrap64 (1 + (i : Int) + 1) = 1 + ((i + 1 : Nat) : Int) by unfold wrap64; omega]
    refine ih (i + 1) (by omega) ?_
    rw [hy.2, show 1 + ((i + 1 : Nat) : Int) = 1 + (i : Int) + 1 by omega]
theorem laws_heldIntS.ev (n : Nat) (hn : n < 4611686018427387904) : Ev (fun k => laws_heldIntS.f k (marks 1 n) 1) (1 + (n : Int)) := by
  simp only [laws_heldIntS.f]
  have h := laws_heldIntS.evl (marks 1 n) (by rw [marks_len]; exact hn) n 0 (by rw [marks_len]; omega) (by simp)
  rw [marks_len] at h
  simpa using h

theorem spec_l1In.is (x lo hi : Int) : spec_l1In.f x lo hi = some (decide (lo ≤ x) && decide (x ≤ hi)) := by
  unfold spec_l1In.f
  by_cases h : x ≥ lo
  · rw [if_pos h, decide_eq_true (show lo ≤ x from h), Bool.true_and]
  · rw [if_neg h, decide_eq_false (show ¬ lo ≤ x from h), Bool.false_and]

theorem spec_l1All.evl (lo hi : Int) (l : List Int) (hl : l.length < 4611686018427387904) (d : Nat) : ∀ (i : Nat), i + d = l.length → Ev (fun k => spec_l1All.l0 k lo hi l (l.length : Int) (i : Int)) (inAll lo hi (l.drop i)) := by
  induction d with
  | zero =>
    intro i hi0
    refine Ev.step (fun k => spec_l1All.l0.eq_2 ..) ?_
    refine ev_neg (by omega) ?_
    refine ev_val (Ev.now _) ?_
    rw [List.drop_of_length_le (by omega)]
    rfl
  | succ d ih =>
    intro i hi0
    refine Ev.step (fun k => spec_l1All.l0.eq_2 ..) ?_
    refine ev_pos (by omega) (ev_pos (by omega) (ev_pos (by omega) ?_))
    rw [wrap_nat i (by omega), rd_nat l i (by omega), List.drop_eq_getElem_cons (by omega), spec_l1In.is]
    refine Ev.bind (Ev.now _) ?_
    have u : inAll lo hi (l[i] :: l.drop (i + 1)) = ((decide (lo ≤ l[i]) && decide (l[i] ≤ hi)) && inAll lo hi (l.drop (i + 1))) := rfl
    rw [u]
    generalize (decide (lo ≤ l[i]) && decide (l[i] ≤ hi)) = b
    cases b with
    | true => exact ev_pos rfl (ih (i + 1) (by omega))
    | false => exact ev_neg (by decide) (Ev.now _)
theorem spec_l1All.ev (l : List Int) (lo hi : Int) (hl : l.length < 4611686018427387904) : Ev (fun k => spec_l1All.f k l lo hi) (inAll lo hi l) := by
  simp only [spec_l1All.f]
  exact spec_l1All.evl lo hi l hl l.length 0 (by omega)

theorem up_rd (l : List Int) (x : Int) : up l x = rd l (x - 1) := rfl
theorem up_in (l : List Int) (h : inAll 0 (l.length : Int) l = true) (x : Int) (h0 : 0 < x) (h1 : x ≤ l.length) : 0 ≤ up l x ∧ up l x ≤ l.length := up_range l ((inAll_iff _ _ _).mp h) x h0 h1

theorem spec_trGood.evl (l : List Int) (hl : l.length ≤ 8) (h : inAll 0 (l.length : Int) l = true) (d : Nat) : ∀ (i : Nat), i + d = l.length → Ev (fun k => spec_trGood.l0 k l (l.length : Int) (l.length : Int) (i : Int)) (allV (fun v => reach l (l.length + 0) ((v : Int) + 1)) i d) := by
  induction d with
  | zero =>
    intro i hi
    refine Ev.step (fun k => spec_trGood.l0.eq_2 ..) ?_
    exact ev_neg (by omega) (Ev.now _)
  | succ d ih =>
    intro i hi
    refine Ev.step (fun k => spec_trGood.l0.eq_2 ..) ?_
    refine ev_pos (by omega) ?_
    rw [wrap_id _ (by omega) (by omega)]
    simp only [allV]
    have inner : ∀ (m s : Nat) (x : Int), s + m = l.length + 0 → 0 ≤ x → x ≤ l.length → Ev (fun k => spec_trGood.l1 k l (l.length : Int) x (s : Int) (l.length : Int) (i : Int)) (reach l m x && allV (fun v => reach l (l.length + 0) ((v : Int) + 1)) (i + 1) d) := by
      intro m
      induction m with
      | zero =>
        intro s x hs h0 h1
        refine Ev.step (fun k => spec_trGood.l1.eq_2 ..) ?_
        simp only [reach]
        by_cases hx : x > 0
        · rw [decide_eq_false (fun hn => hn hx), Bool.false_and]
          exact ev_pos hx (ev_pos (by omega) (Ev.now _))
        · rw [decide_eq_true hx, Bool.true_and, wrap_nat i (by omega)]
          exact ev_neg hx (ih (i + 1) (by omega))
      | succ m ihm =>
        intro s x hs h0 h1
        refine Ev.step (fun k => spec_trGood.l1.eq_2 ..) ?_
        simp only [reach]
        by_cases hx : x > 0
        · rw [if_pos hx, wrap_id (x - 1) (by omega) (by omega), wrap_nat s (by omega), ← up_rd]
          have hu := up_in l h x hx h1
          exact ev_pos hx (ev_neg (by omega) (ev_pos (by omega) (ev_pos (by omega) (ihm (s + 1) _ (by omega) hu.1 hu.2))))
        · rw [if_neg hx, Bool.true_and, wrap_nat i (by omega)]
          exact ev_neg hx (ih (i + 1) (by omega))
    exact inner (l.length + 0) 0 ((i : Int) + 1) (by omega) (by omega) (by omega)
theorem spec_trGood.ev (l : List Int) (hl : l.length ≤ 1048576) : Ev (fun k => spec_trGood.f k l) (isTr l) := by
  simp only [spec_trGood.f]
  unfold isTr
  by_cases h8 : l.length ≤ 8
  · rw [decide_eq_true h8]
    refine ev_neg (by omega) (Ev.bind (spec_l1All.ev l 0 _ (by omega)) ?_)
    refine Ev.step (fun k => spec_trGood.j0.eq_2 ..) ?_
    have u : inAll 0 (l.length : Int) l = l.all fun x => decide (0 ≤ x) && decide (x ≤ (l.length : Int)) := rfl
    rw [← u]
    cases e : inAll 0 (l.length : Int) l with
    | true => exact ev_neg (by decide) (spec_trGood.evl l h8 e l.length 0 (by omega))
    | false => exact ev_pos (by decide) (Ev.now _)
  · rw [decide_eq_false h8]
    refine ev_pos (by omega) ?_
    refine Ev.step (fun k => spec_trGood.j0.eq_2 ..) ?_
    exact ev_pos rfl (Ev.now _)

theorem spec_l1Own.is (l : List Int) (hl : l.length ≤ 1048576) : spec_l1Own.f l = some l := by
  simp only [spec_l1Own.f, Option.bind_some, List.length_nil, Nat.zero_add, List.nil_append]
  rw [if_pos (by omega)]

/-- all above x, the nearest first -/
def aboveF (l : List Int) : Nat → Int → List Int
  | 0, _ => []
  | d + 1, x => if x > 0 then up l x :: aboveF l d (up l x) else []
theorem aboveF_range (l : List Int) (h : inAll 0 (l.length : Int) l = true) : ∀ (d : Nat) (x : Int), 0 ≤ x → x ≤ l.length → ∀ y ∈ aboveF l d x, 0 ≤ y ∧ y ≤ l.length
  | 0, x, _, _, y, hy => by cases hy
  | d + 1, x, h0, h1, y, hy => by
    simp only [aboveF] at hy
    by_cases hx : x > 0
    · rw [if_pos hx] at hy
      have hu := up_in l h x hx h1
      rcases List.mem_cons.mp hy with e | hy
      · rw [e]; exact hu
      · exact aboveF_range l h d _ hu.1 hu.2 y hy
    · rw [if_neg hx] at hy
      cases hy
theorem aboveF_len (l : List Int) : ∀ (d : Nat) (x : Int), (aboveF l d x).length ≤ d
  | 0, _ => Nat.le_refl _
  | d + 1, x => by
    simp only [aboveF]
    split
    · have := aboveF_len l d (up l x)
      simp only [List.length_cons]
      omega
    · exact Nat.zero_le _
theorem allV_at (P : Nat → Bool) : ∀ (d i : Nat), allV P i d = true → ∀ j, i ≤ j → j < i + d → P j = true
  | 0, i, _, j, h1, h2 => by omega
  | d + 1, i, h, j, h1, h2 => by
    simp only [allV, Bool.and_eq_true] at h
    by_cases e : j = i
    · rw [e]; exact h.1
    · exact allV_at P d (i + 1) h.2 j (by omega) (by omega)
theorem isTr_iff (l : List Int) (h : isTr l = true) : l.length ≤ 8 ∧ inAll 0 (l.length : Int) l = true ∧ ∀ j, j < l.length → reach l l.length ((j : Int) + 1) = true := by
  unfold isTr at h
  rw [Bool.and_eq_true, Bool.and_eq_true, decide_eq_true_eq] at h
  exact ⟨h.1.1, h.1.2, fun j hj => allV_at _ _ _ h.2 j (Nat.zero_le _) (by omega)⟩

def reroot1 (c : Int) (i : Nat) (x : Int) : Int := if (i : Int) + 1 = c then 0 else if x = 0 then c else if x = c then 0 else x
def rerootR (l : List Int) (c : Int) : List Int × Bool := if isTr l = true then (if (decide (1 ≤ c) && decide (c ≤ (l.length : Int))) = true then (if rd l (c - 1) = 0 then (l.mapIdx (reroot1 c), true) else ([], false)) else ([], false)) else ([], false)
theorem rerootR_len (l : List Int) (c : Int) : (rerootR l c).1.length ≤ l.length := by
  unfold rerootR
  split
  · split
    · split
      · simp
      · simp
    · simp
  · simp
theorem take_keep (y t : List Int) (i : Nat) (h1 : i < y.length) (h2 : i < t.length) (h : y.take i = t.take i) (e : y[i] = t[i]) : y.take (i + 1) = t.take (i + 1) := by
  rw [List.take_succ_eq_append_getElem h1, List.take_succ_eq_append_getElem h2, h, e]
theorem drop_head (y t : List Int) (i : Nat) (h1 : i < y.length) (h2 : i < t.length) (h : y.drop i = t.drop i) : y[i] = t[i] ∧ y.drop (i + 1) = t.drop (i + 1) := by
  rw [List.drop_eq_getElem_cons h1, List.drop_eq_getElem_cons h2] at h
  exact List.cons.inj h
theorem drop_set_succ' (y : List Int) (i : Nat) (v : Int) : (y.set i v).drop (i + 1) = y.drop (i + 1) := List.drop_set_of_lt (Nat.lt_succ_self i)
theorem set_all (y t : List Int) (i : Nat) (v : Int) (h1 : i < y.length) (h2 : i < t.length) (hy : y.length = t.length) (h : y.take i = t.take i) (e : t[i] = v) : (y.set i v).take (i + 1) = t.take (i + 1) := by
  rw [← e]
  exact take_set_succ y t i h2 hy h

theorem spec_RerootTree.evl (l : List Int) (c : Int) (hl : l.length ≤ 8) (d : Nat) : ∀ (i : Nat) (y : List Int), i + d = l.length → y.length = l.length → y.take i = (l.mapIdx (reroot1 c)).take i → y.drop i = l.drop i → Ev (fun k => spec_RerootTree.l0 k c y l (l.length : Int) (i : Int)) (l.mapIdx (reroot1 c), true) := by
  have hm : (l.mapIdx (reroot1 c)).length = l.length := List.length_mapIdx
  induction d with
  | zero =>
    intro i y hi hy ht hd
    refine Ev.step (fun k => spec_RerootTree.l0.eq_2 ..) ?_
    refine ev_neg (by omega) (ev_val (Ev.now _) ?_)
    rw [List.take_of_length_le (by omega), List.take_of_length_le (by omega)] at ht
    rw [ht]
  | succ d ih =>
    intro i y hi hy ht hd
    have hg : (l.mapIdx (reroot1 c))[i]'(by omega) = if (i : Int) + 1 = c then 0 else if l[i] = 0 then c else if l[i] = c then 0 else l[i] := List.getElem_mapIdx ..
    have ⟨e1, e2⟩ := drop_head y l i (by omega) (by omega) hd
    refine Ev.step (fun k => spec_RerootTree.l0.eq_2 ..) ?_
    rw [wrap_nat i (by omega), rd_nat l i (by omega), Int.toNat_natCast]
    refine ev_pos (by omega) (ev_pos (by omega) (ev_pos (by omega) ?_))
    by_cases a : ((i + 1 : Nat) : Int) = c
    · rw [if_pos (by omega)] at hg
      refine ev_pos a (ev_pos (by omega) ?_)
      exact ih (i + 1) _ (by omega) (by simp; omega) (set_all y _ i _ (by omega) (by omega) (by omega) ht hg) (by rw [drop_set_succ']; exact e2)
    · rw [if_neg (by omega)] at hg
      refine ev_neg a ?_
      by_cases b : l[i] = 0
      · rw [if_pos b] at hg
        refine ev_pos b (ev_pos (by omega) ?_)
        exact ih (i + 1) _ (by omega) (by simp; omega) (set_all y _ i _ (by omega) (by omega) (by omega) ht hg) (by rw [drop_set_succ']; exact e2)
      · rw [if_neg b] at hg
        refine ev_neg b ?_
        by_cases f : l[i] = c
        · rw [if_pos f] at hg
          refine ev_pos f (ev_pos (by omega) ?_)
          exact ih (i + 1) _ (by omega) (by simp; omega) (set_all y _ i _ (by omega) (by omega) (by omega) ht hg) (by rw [drop_set_succ']; exact e2)
        · rw [if_neg f] at hg
          refine ev_neg f ?_
          exact ih (i + 1) y (by omega) hy (take_keep y _ i (by omega) (by omega) ht (by rw [hg, e1])) e2
theorem spec_RerootTree.ev (l : List Int) (c : Int) (hl : l.length ≤ 1048576) : Ev (fun k => spec_RerootTree.f k l c) (rerootR l c) := by
  simp only [spec_RerootTree.f]
  unfold rerootR
  refine Ev.bind (spec_trGood.ev l hl) ?_
  cases e : isTr l with
  | false =>
    refine ev_neg (by decide) (Ev.step (fun k => spec_RerootTree.j0.eq_2 ..) ?_)
    exact ev_pos rfl (Ev.now _)
  | true =>
    have h8 := (isTr_iff l e).1
    refine ev_pos rfl (Ev.bind (ev_eq (spec_l1In.is c 1 _)) ?_)
    cases g : (decide (1 ≤ c) && decide (c ≤ (l.length : Int))) with
    | false =>
      refine ev_neg (by decide) (Ev.step (fun k => spec_RerootTree.j0.eq_2 ..) ?_)
      exact ev_pos rfl (Ev.now _)
    | true =>
      have hc : 1 ≤ c ∧ c ≤ (l.length : Int) := by simpa using g
      rw [wrap_id (c - 1) (by omega) (by omega)]
      refine ev_pos rfl (ev_pos (by omega) (ev_pos (by omega) (Ev.step (fun k => spec_RerootTree.j0.eq_2 ..) ?_)))
      by_cases hz : rd l (c - 1) = 0
      · rw [if_pos rfl, if_pos rfl, if_pos hz]
        refine ev_neg (by simp [hz]) (Ev.bind (ev_eq (spec_l1Own.is l hl)) ?_)
        exact (spec_RerootTree.evl l c h8 l.length 0 l (by omega) rfl rfl rfl)
      · rw [if_pos rfl, if_pos rfl, if_neg hz]
        exact ev_pos (by simp [hz]) (Ev.now _)

theorem impl_between.is (x lo hi : Int) : impl_between.f x lo hi = some (decide (lo ≤ x) && decide (x ≤ hi)) := by
  unfold impl_between.f
  by_cases h : x ≥ lo
  · rw [if_pos h, decide_eq_true (show lo ≤ x from h), Bool.true_and]
  · rw [if_neg h, decide_eq_false (show ¬ lo ≤ x from h), Bool.false_and]

theorem impl_areBetween.is (l : List Int) (lo hi : Int) (hl : l.length ≤ 35184372088832) : impl_areBetween.f l lo hi = some (inAll lo hi l) := by
  unfold impl_areBetween.f
  rw [if_pos hl]
  congr 1
  unfold inAll out_b
  induction l with
  | nil => rfl
  | cons x l ih =>
    rw [List.any_cons, List.all_cons, ← ih (by simp at hl; omega)]
    cases (decide (lo ≤ x) && decide (x ≤ hi)) <;> simp

theorem impl_isCars.is (n : Int) : impl_isCars.f n = some (decide (0 ≤ n) && decide (n ≤ 8)) := by
  simp only [impl_isCars.f, impl_between.is, Option.bind_some]

theorem impl_isTree.evl (l : List Int) (hl : l.length ≤ 8) (h : inAll 0 (l.length : Int) l = true) (d : Nat) : ∀ (i : Nat), i + d = l.length → Ev (fun k => impl_isTree.l0 k l (l.length : Int) (l.length : Int) (i : Int)) (allV (fun v => reach l (l.length + 1) ((v : Int) + 1)) i d) := by
  induction d with
  | zero =>
    intro i hi
    refine Ev.step (fun k => impl_isTree.l0.eq_2 ..) ?_
    exact ev_neg (by omega) (Ev.now _)
  | succ d ih =>
    intro i hi
    refine Ev.step (fun k => impl_isTree.l0.eq_2 ..) ?_
    refine ev_pos (by omega) ?_
    rw [wrap_id _ (by omega) (by omega)]
    simp only [allV]
    have inner : ∀ (m s : Nat) (x : Int), s + m = l.length + 1 → 0 ≤ x → x ≤ l.length → Ev (fun k => impl_isTree.l1 k l (l.length : Int) x (s : Int) (l.length : Int) (i : Int)) (reach l m x && allV (fun v => reach l (l.length + 1) ((v : Int) + 1)) (i + 1) d) := by
      intro m
      induction m with
      | zero =>
        intro s x hs h0 h1
        refine Ev.step (fun k => impl_isTree.l1.eq_2 ..) ?_
        simp only [reach]
        by_cases hx : x > 0
        · rw [decide_eq_false (fun hn => hn hx), Bool.false_and]
          exact ev_pos hx (ev_pos (by omega) (Ev.now _))
        · rw [decide_eq_true hx, Bool.true_and, wrap_nat i (by omega)]
          exact ev_neg hx (ih (i + 1) (by omega))
      | succ m ihm =>
        intro s x hs h0 h1
        refine Ev.step (fun k => impl_isTree.l1.eq_2 ..) ?_
        simp only [reach]
        by_cases hx : x > 0
        · rw [if_pos hx, wrap_id (x - 1) (by omega) (by omega), wrap_nat s (by omega), ← up_rd]
          have hu := up_in l h x hx h1
          exact ev_pos hx (ev_neg (by omega) (ev_pos (by omega) (ev_pos (by omega) (ihm (s + 1) _ (by omega) hu.1 hu.2))))
        · rw [if_neg hx, Bool.true_and, wrap_nat i (by omega)]
          exact ev_neg hx (ih (i + 1) (by omega))
    exact inner (l.length + 1) 0 ((i : Int) + 1) (by omega) (by omega) (by omega)
theorem impl_isTree.ev (l : List Int) (hl : l.length ≤ 1048576) : Ev (fun k => impl_isTree.f k l) (isTr l) := by
  simp only [impl_isTree.f, impl_isCars.is, Option.bind_some]
  unfold isTr
  by_cases h8 : l.length ≤ 8
  · rw [decide_eq_true h8, decide_eq_true (show (0 : Int) ≤ (l.length : Int) by omega), decide_eq_true (show (l.length : Int) ≤ 8 by omega)]
    refine ev_pos rfl (Ev.bind (ev_eq (impl_areBetween.is l 0 _ (by omega))) ?_)
    refine Ev.step (fun k => impl_isTree.j0.eq_2 ..) ?_
    have u : inAll 0 (l.length : Int) l = l.all fun x => decide (0 ≤ x) && decide (x ≤ (l.length : Int)) := rfl
    rw [← u]
    cases e : inAll 0 (l.length : Int) l with
    | true =>
      refine ev_neg (by decide) (ev_val (impl_isTree.evl l h8 e l.length 0 (by omega)) ?_)
      rw [Bool.true_and]
      refine allV_congr _ _ _ _ (fun j _ hj => ?_)
      exact reach_more l ((inAll_iff _ _ _).mp e) _ (by omega) (by omega)
    | false => exact ev_pos (by decide) (Ev.now _)
  · rw [decide_eq_false h8, decide_eq_false (show ¬ (l.length : Int) ≤ 8 by omega), Bool.and_false]
    refine ev_neg (by decide) ?_
    refine Ev.step (fun k => impl_isTree.j0.eq_2 ..) ?_
    exact ev_pos rfl (Ev.now _)

theorem slices_Clone_int_int.is (l : List Int) (hl : l.length ≤ 1048576) : slices_Clone_int_int.f l = some l := by
  simp only [slices_Clone_int_int.f]
  rw [if_pos (by omega)]

theorem impl_RerootTree.evl (l : List Int) (c : Int) (hl : l.length ≤ 8) (c1 : 1 ≤ c) (c2 : c ≤ l.length) (hz : rd l (c - 1) = 0) (d : Nat) : ∀ (i : Nat) (y : List Int), i + d = l.length → y.length = l.length → y.take i = (l.mapIdx (reroot1 c)).take i → y.drop i = l.drop i → Ev (fun k => impl_RerootTree.l0 k c y l (l.length : Int) (i : Int)) (l.mapIdx (reroot1 c), true) := by
  have hm : (l.mapIdx (reroot1 c)).length = l.length := List.length_mapIdx
  induction d with
  | zero =>
    intro i y hi hy ht hd
    refine Ev.step (fun k => impl_RerootTree.l0.eq_2 ..) ?_
    refine ev_neg (by omega) (ev_val (Ev.now _) ?_)
    rw [List.take_of_length_le (by omega), List.take_of_length_le (by omega)] at ht
    rw [ht]
  | succ d ih =>
    intro i y hi hy ht hd
    have hg : (l.mapIdx (reroot1 c))[i]'(by omega) = if (i : Int) + 1 = c then 0 else if l[i] = 0 then c else if l[i] = c then 0 else l[i] := List.getElem_mapIdx ..
    have ⟨e1, e2⟩ := drop_head y l i (by omega) (by omega) hd
    refine Ev.step (fun k => impl_RerootTree.l0.eq_2 ..) ?_
    rw [wrap_nat i (by omega), rd_nat l i (by omega), Int.toNat_natCast, wrap_id (c - 1) (by omega) (by omega)]
    refine ev_pos (by omega) (ev_pos (by omega) (ev_pos (by omega) ?_))
    by_cases a : (i : Int) = c - 1
    · rw [if_pos (by omega)] at hg
      refine ev_pos a ?_
      rw [← a, rd_nat l i (by omega)] at hz
      exact ih (i + 1) y (by omega) hy (take_keep y _ i (by omega) (by omega) ht (by rw [hg, e1, hz])) e2
    · rw [if_neg (by omega)] at hg
      refine ev_neg a ?_
      by_cases b : l[i] = 0
      · rw [if_pos b] at hg
        refine ev_pos b (ev_pos (by omega) ?_)
        exact ih (i + 1) _ (by omega) (by simp; omega) (set_all y _ i _ (by omega) (by omega) (by omega) ht hg) (by rw [drop_set_succ']; exact e2)
      · rw [if_neg b] at hg
        refine ev_neg b ?_
        by_cases f : l[i] = c
        · rw [if_pos f] at hg
          refine ev_pos f (ev_pos (by omega) ?_)
          exact ih (i + 1) _ (by omega) (by simp; omega) (set_all y _ i _ (by omega) (by omega) (by omega) ht hg) (by rw [drop_set_succ']; exact e2)
        · rw [if_neg f] at hg
          refine ev_neg f ?_
          exact ih (i + 1) y (by omega) hy (take_keep y _ i (by omega) (by omega) ht (by rw [hg, e1])) e2
theorem impl_RerootTree.ev (l : List Int) (c : Int) (hl : l.length ≤ 1048576) : Ev (fun k => impl_RerootTree.f k l c) (rerootR l c) := by
  simp only [impl_RerootTree.f]
  unfold rerootR
  refine Ev.bind (impl_isTree.ev l hl) ?_
  cases e : isTr l with
  | false =>
    refine ev_neg (by decide) (Ev.step (fun k => impl_RerootTree.j0.eq_2 ..) ?_)
    exact ev_pos rfl (Ev.now _)
  | true =>
    have h8 := (isTr_iff l e).1
    refine ev_pos rfl (Ev.bind (ev_eq (impl_between.is c 1 _)) ?_)
    cases g : (decide (1 ≤ c) && decide (c ≤ (l.length : Int))) with
    | false =>
      refine ev_neg (by decide) (Ev.step (fun k => impl_RerootTree.j0.eq_2 ..) ?_)
      exact ev_pos rfl (Ev.now _)
    | true =>
      have hc : 1 ≤ c ∧ c ≤ (l.length : Int) := by simpa using g
      rw [wrap_id (c - 1) (by omega) (by omega)]
      refine ev_pos rfl (ev_pos (by omega) (ev_pos (by omega) (Ev.step (fun k => impl_RerootTree.j0.eq_2 ..) ?_)))
      by_cases hz : rd l (c - 1) = 0
      · rw [if_pos rfl, if_pos rfl, if_pos hz]
        refine ev_neg (by simp [hz]) (Ev.bind (ev_eq (slices_Clone_int_int.is l hl)) ?_)
        exact (impl_RerootTree.evl l c h8 hc.1 hc.2 hz l.length 0 l (by omega) rfl rfl rfl)
      · rw [if_pos rfl, if_pos rfl, if_neg hz]
        exact ev_pos (by simp [hz]) (Ev.now _)

end Go.Proofs.Ytpajmgbhlpbojaa.QFnExactRerootTree
