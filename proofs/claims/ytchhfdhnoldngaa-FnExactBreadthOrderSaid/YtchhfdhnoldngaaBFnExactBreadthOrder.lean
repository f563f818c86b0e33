/- Proved here: what the Lean functions printed for the Go functions of law FnExactBreadthOrder compute, in words of lists and whole numbers, for lists shorter than 2^62. -/
import Derived.Test.YtchhfdhnoldngaaQFnExactBreadthOrderx
import Derived.Test.YtchhfdhnoldngaaMTree
import Derived.Test.YtchhfdhnoldngaaMDrive
import Derived.Test.YtchhfdhnoldngaaMCrit
namespace Go.Proofs.Ytchhfdhnoldngaa.QFnExactBreadthOrder
open Go.RowKit Go.Proofs.YtchhfdhnoldngaaW.PrintWords Go.Proofs.YtchhfdhnoldngaaW.PrintLast Go.Proofs.Ytchhfdhnoldngaa.Math
set_option linter.unusedVariables false
set_option linter.unusedSimpArgs false

theorem ev_pos {α : Type} {c : Prop} [Decidable c] {g f : Nat → Option α} {r : α} (h : c) (k : Ev g r) : Ev (fun n => if c then g n else f n) r := by
  obtain ⟨K, hK⟩ := k
  exact ⟨K, fun n hn => by simp only [if_pos h]; exact hK n hn⟩
theorem ev_neg {α : Type} {c : Prop} [Decidable c] {g f : Nat → Option α} {r : α} (h : ¬ c) (k : Ev f r) : Ev (fun n => if c then g n else f n) r := by
  obtain ⟨K, hK⟩ := k
  exact ⟨K, fun n hn => by simp only [if_neg h]; exact hK n hn⟩
theorem ev_eq {α : Type} {g : Option α} {r : α} (h : g = some r) : Ev (fun _ => g) r := ⟨0, fun _ _ => h⟩
theorem ev_val {α : Type} {g : Nat → Option α} {r q : α} (h : Ev g r) (e : r = q) : Ev g q := e ▸ h
theorem wrap_nat (i : Nat) (h : i < 4611686018427387904) : wrap64 ((i : Int) + 1) = ((i + 1 : Nat) : Int) := by
  unfold wrap64
  omega
theorem wrap_id (x : Int) (h : -9223372036854775808 ≤ x) (h' : x ≤ 9223372036854775807) : wrap64 x = x := by
  unfold wrap64
  omega
theorem rd_nat (l : List Int) (i : Nat) (h : i < l.length) : rd l (i : Int) = l[i] := by
  simp [rd, List.getD_eq_getElem?_getD, h]
theorem rd_int (l : List Int) (x : Int) (h0 : 0 ≤ x) (h : x < l.length) : rd l x = l[x.toNat]'(by omega) := by
  have e : x = ((x.toNat : Nat) : Int) := by omega
  have h2 : x.toNat < l.length := by omega
  rw [show rd l x = rd l ((x.toNat : Nat) : Int) by rw [← e]]
  exact rd_nat l x.toNat h2
/-- m, m + 1, .., n numbers -/
def marks : Int → Nat → List Int
  | _, 0 => []
  | m, n + 1 => m :: marks (m + 1) n
theorem marks_len : ∀ (n : Nat) (m : Int), (marks m n).length = n
  | 0, _ => rfl
  | n + 1, m => by simp [marks, marks_len n]
theorem take_set_succ (y l : List Int) (i : Nat) (hi : i < l.length) (hy : y.length = l.length) (h : y.take i = l.take i) : (y.set i l[i]).take (i + 1) = l.take (i + 1) := by
  rw [List.take_succ_eq_append_getElem (by simp; omega), List.take_succ_eq_append_getElem hi, List.take_set_of_le (Nat.le_refl i), h, List.getElem_set_self]
/-- all numbers lie from lo to hi -/
def inAll (lo hi : Int) (l : List Int) : Bool := l.all fun x => decide (lo ≤ x) && decide (x ≤ hi)
theorem inAll_iff (lo hi : Int) (l : List Int) : inAll lo hi l = true ↔ ∀ x ∈ l, lo ≤ x ∧ x ≤ hi := by
  simp [inAll]

theorem laws_toIntS.evl (l : List Int) (hl : l.length < 4611686018427387904) (d : Nat) : ∀ (i : Nat) (y : List Int), i + d = l.length → y.length = l.length → y.take i = l.take i → Ev (fun k => laws_toIntS.l0 k l y (i : Int)) l := by
  induction d with
  | zero =>
    intro i y hi hy ht
    refine Ev.step (fun k => laws_toIntS.l0.eq_2 ..) ?_
    refine ev_neg (by omega) ?_
    refine ev_val (Ev.now _) ?_
    rw [show i = l.length by omega] at ht
    rw [List.take_of_length_le (by omega), List.take_of_length_le (by omega)] at ht
    exact ht
  | succ d ih =>
    intro i y hi hy ht
    refine Ev.step (fun k => laws_toIntS.l0.eq_2 ..) ?_
    refine ev_pos (by omega) (ev_pos (by omega) (ev_pos (by omega) ?_))
    rw [wrap_nat i (by omega), rd_nat l i (by omega), Int.toNat_natCast]
    exact ih (i + 1) _ (by omega) (by simp; omega) (take_set_succ y l i (by omega) hy ht)
theorem laws_toIntS.ev (l : List Int) (hl : l.length ≤ 1048576) : Ev (fun k => laws_toIntS.f k l) l := by
  simp only [laws_toIntS.f]
  refine ev_pos (by omega) (ev_pos (by omega) ?_)
  exact laws_toIntS.evl l (by omega) l.length 0 _ (by omega) (by simp) (by simp)

theorem laws_eqIntS.evl (a b : List Int) (hl : a.length < 4611686018427387904) (h : a.length = b.length) (d : Nat) : ∀ (i : Nat), i + d = a.length → Ev (fun k => laws_eqIntS.l0 k a b (i : Int)) (decide (a.drop i = b.drop i)) := by
  induction d with
  | zero =>
    intro i hi
    refine Ev.step (fun k => laws_eqIntS.l0.eq_2 ..) ?_
    refine ev_neg (by omega) ?_
    refine ev_val (Ev.now _) ?_
    rw [List.drop_of_length_le (by omega), List.drop_of_length_le (by omega)]
    rfl
  | succ d ih =>
    intro i hi
    refine Ev.step (fun k => laws_eqIntS.l0.eq_2 ..) ?_
    refine ev_pos (by omega) (ev_pos (by omega) (ev_pos (by omega) ?_))
    rw [wrap_nat i (by omega), rd_nat a i (by omega), rd_nat b i (by omega)]
    rw [List.drop_eq_getElem_cons (l := a) (by omega), List.drop_eq_getElem_cons (l := b) (by omega)]
    by_cases e : a[i] = b[i]'(by omega)
    · refine ev_pos e (ev_val (ih (i + 1) (by omega)) ?_)
      simp only [List.cons.injEq, e, true_and]
    · refine ev_neg e (ev_val (Ev.now _) ?_)
      simp only [List.cons.injEq, e, false_and, decide_false]
theorem laws_eqIntS.ev (a b : List Int) (hl : a.length < 4611686018427387904) : Ev (fun k => laws_eqIntS.f k a b) (decide (a = b)) := by
  simp only [laws_eqIntS.f]
  by_cases h : a.length = b.length
  · refine ev_pos (by omega) (ev_val (laws_eqIntS.evl a b hl h a.length 0 (by omega)) ?_)
    simp
  · refine ev_neg (by omega) (ev_val (Ev.now _) ?_)
    exact (decide_eq_false (fun e => h (by rw [e]))).symm
theorem laws_eqIntS.ev_self (a : List Int) (hl : a.length < 4611686018427387904) : Ev (fun k => laws_eqIntS.f k a a) true := ev_val (laws_eqIntS.ev a a hl) (by simp)

theorem laws_markIntS.evl (m : Int) (hm0 : 0 ≤ m) (hm : m ≤ 4611686018427387904) (n : Nat) (hn : n < 4611686018427387904) (d : Nat) : ∀ (i : Nat) (y : List Int), i + d = n → y.length = n → Ev (fun k => laws_markIntS.l0 k y (m + (i : Int)) (i : Int)) (m + (n : Int), y.take i ++ marks (m + (i : Int)) d) := by
  induction d with
  | zero =>
    intro i y hi hy
    refine Ev.step (fun k => laws_markIntS.l0.eq_2 ..) ?_
    refine ev_neg (by omega) ?_
    refine ev_val (Ev.now _) ?_
    rw [List.take_of_length_le (by omega), show (i : Int) = n by omega]
    simp [marks]
  | succ d ih =>
    intro i y hi hy
    refine Ev.step (fun k => laws_markIntS.l0.eq_2 ..) ?_
    refine ev_pos (by omega) (ev_pos (by omega) ?_)
    rw [wrap_nat i (by omega), Int.toNat_natCast, show wrap64 (m + (i : Int) + 1) = m + ((i + 1 : Nat) : Int) by unfold wrap64; omega]
    refine ev_val (ih (i + 1) (y.set i (m + (i : Int))) (by omega) (by simp; omega)) ?_
    rw [List.take_succ_eq_append_getElem (by simp; omega), List.take_set_of_le (Nat.le_refl i), List.getElem_set_self, List.append_assoc]
    simp only [marks, List.singleton_append, show m + ((i + 1 : Nat) : Int) = m + (i : Int) + 1 by omega]
theorem laws_markIntS.ev_at (y : List Int) (m : Int) (hm0 : 0 ≤ m) (hm : m ≤ 4611686018427387904) (hn : y.length < 4611686018427387904) : Ev (fun k => laws_markIntS.f k y m) (m + (y.length : Int), marks m y.length) := by
  simp only [laws_markIntS.f]
  have h := laws_markIntS.evl m hm0 hm y.length hn y.length 0 y (by omega) rfl
  simpa using h
theorem laws_markIntS.ev (y : List Int) (hn : y.length < 4611686018427387904) : Ev (fun k => laws_markIntS.f k y 1) (1 + (y.length : Int), marks 1 y.length) := laws_markIntS.ev_at y 1 (by omega) (by omega) hn

theorem laws_heldIntS.evl (y : List Int) (hn : y.length < 4611686018427387904) (d : Nat) : ∀ (i : Nat), i + d = y.length → y.drop i = marks (1 + (i : Int)) d → Ev (fun k => laws_heldIntS.l0 k y (1 + (i : Int)) (i : Int)) (1 + (y.length : Int)) := by
  induction d with
  | zero =>
    intro i hi hy
    refine Ev.step (fun k => laws_heldIntS.l0.eq_2 ..) ?_
    refine ev_neg (by omega) ?_
    refine ev_val (Ev.now _) ?_
    omega
  | succ d ih =>
    intro i hi hy
    refine Ev.step (fun k => laws_heldIntS.l0.eq_2 ..) ?_
    rw [List.drop_eq_getElem_cons (by omega)] at hy
    simp only [marks, List.cons.injEq] at hy
    refine ev_pos (by omega) (ev_pos (by omega) ?_)
    rw [rd_nat y i (by omega)]
    refine ev_pos hy.1 ?_
    rw [wrap_nat i (by omega), show wrap64 (1 + (i : Int) + 1) = 1 + ((i + 1 : Nat) : Int) by unfold wrap64; omega]
    refine ih (i + 1) (by omega) ?_
    rw [hy.2, show 1 + ((i + 1 : Nat) : Int) = 1 + (i : Int) + 1 by omega]
theorem laws_heldIntS.ev (n : Nat) (hn : n < 4611686018427387904) : Ev (fun k => laws_heldIntS.f k (marks 1 n) 1) (1 + (n : Int)) := by
  simp only [laws_heldIntS.f]
  have h := laws_heldIntS.evl (marks 1 n) (by rw [marks_len]; exact hn) n 0 (by rw [marks_len]; omega) (by simp)
  rw [marks_len] at h
  simpa using h

theorem spec_l1In.is (x lo hi : Int) : spec_l1In.f x lo hi = some (decide (lo ≤ x) && decide (x ≤ hi)) := by
  unfold spec_l1In.f
  by_cases h : x ≥ lo
  · rw [if_pos h, decide_eq_true (show lo ≤ x from h), Bool.true_and]
  · rw [if_neg h, decide_eq_false (show ¬ lo ≤ x from h), Bool.false_and]

theorem spec_l1All.evl (lo hi : Int) (l : List Int) (hl : l.length < 4611686018427387904) (d : Nat) : ∀ (i : Nat), i + d = l.length → Ev (fun k => spec_l1All.l0 k lo hi l (l.length : Int) (i : Int)) (inAll lo hi (l.drop i)) := by
  induction d with
  | zero =>
    intro i hi0
    refine Ev.step (fun k => spec_l1All.l0.eq_2 ..) ?_
    refine ev_neg (by omega) ?_
    refine ev_val (Ev.now _) ?_
    rw [List.drop_of_length_le (by omega)]
    rfl
  | succ d ih =>
    intro i hi0
    refine Ev.step (fun k => spec_l1All.l0.eq_2 ..) ?_
    refine ev_pos (by omega) (ev_pos (by omega) (ev_pos (by omega) ?_))
    rw [wrap_nat i (by omega), rd_nat l i (by omega), List.drop_eq_getElem_cons (by omega), spec_l1In.is]
    refine Ev.bind (Ev.now _) ?_
    have u : inAll lo hi (l[i] :: l.drop (i + 1)) = ((decide (lo ≤ l[i]) && decide (l[i] ≤ hi)) && inAll lo hi (l.drop (i + 1))) := rfl
    rw [u]
    generalize (decide (lo ≤ l[i]) && decide (l[i] ≤ hi)) = b
    cases b with
    | true => exact ev_pos rfl (ih (i + 1) (by omega))
    | false => exact ev_neg (by decide) (Ev.now _)
theorem spec_l1All.ev (l : List Int) (lo hi : Int) (hl : l.length < 4611686018427387904) : Ev (fun k => spec_l1All.f k l lo hi) (inAll lo hi l) := by
  simp only [spec_l1All.f]
  exact spec_l1All.evl lo hi l hl l.length 0 (by omega)

theorem up_rd (l : List Int) (x : Int) : up l x = rd l (x - 1) := rfl
theorem up_in (l : List Int) (h : inAll 0 (l.length : Int) l = true) (x : Int) (h0 : 0 < x) (h1 : x ≤ l.length) : 0 ≤ up l x ∧ up l x ≤ l.length := up_range l ((inAll_iff _ _ _).mp h) x h0 h1

theorem spec_trGood.evl (l : List Int) (hl : l.length ≤ 8) (h : inAll 0 (l.length : Int) l = true) (d : Nat) : ∀ (i : Nat), i + d = l.length → Ev (fun k => spec_trGood.l0 k l (l.length : Int) (l.length : Int) (i : Int)) (allV (fun v => reach l (l.length + 0) ((v : Int) + 1)) i d) := by
  induction d with
  | zero =>
    intro i hi
    refine Ev.step (fun k => spec_trGood.l0.eq_2 ..) ?_
    exact ev_neg (by omega) (Ev.now _)
  | succ d ih =>
    intro i hi
    refine Ev.step (fun k => spec_trGood.l0.eq_2 ..) ?_
    refine ev_pos (by omega) ?_
    rw [wrap_id _ (by omega) (by omega)]
    simp only [allV]
    have inner : ∀ (m s : Nat) (x : Int), s + m = l.length + 0 → 0 ≤ x → x ≤ l.length → Ev (fun k => spec_trGood.l1 k l (l.length : Int) x (s : Int) (l.length : Int) (i : Int)) (reach l m x && allV (fun v => reach l (l.length + 0) ((v : Int) + 1)) (i + 1) d) := by
      intro m
      induction m with
      | zero =>
        intro s x hs h0 h1
        refine Ev.step (fun k => spec_trGood.l1.eq_2 ..) ?_
        simp only [reach]
        by_cases hx : x > 0
        · rw [decide_eq_false (fun hn => hn hx), Bool.false_and]
          exact ev_pos hx (ev_pos (by omega) (Ev.now _))
        · rw [decide_eq_true hx, Bool.true_and, wrap_nat i (by omega)]
          exact ev_neg hx (ih (i + 1) (by omega))
      | succ m ihm =>
        intro s x hs h0 h1
        refine Ev.step (fun k => spec_trGood.l1.eq_2 ..) ?_
        simp only [reach]
        by_cases hx : x > 0
        · rw [if_pos hx, wrap_id (x - 1) (by omega) (by omega), wrap_nat s (by omega), ← up_rd]
          have hu := up_in l h x hx h1
          exact ev_pos hx (ev_neg (by omega) (ev_pos (by omega) (ev_pos (by omega) (ihm (s + 1) _ (by omega) hu.1 hu.2))))
        · rw [if_neg hx, Bool.true_and, wrap_nat i (by omega)]
          exact ev_neg hx (ih (i + 1) (by omega))
    exact inner (l.length + 0) 0 ((i : Int) + 1) (by omega) (by omega) (by omega)
theorem spec_trGood.ev (l : List Int) (hl : l.length ≤ 1048576) : Ev (fun k => spec_trGood.f k l) (isTr l) := by
  simp only [spec_trGood.f]
  unfold isTr
  by_cases h8 : l.length ≤ 8
  · rw [decide_eq_true h8]
    refine ev_neg (by omega) (Ev.bind (spec_l1All.ev l 0 _ (by omega)) ?_)
    refine Ev.step (fun k => spec_trGood.j0.eq_2 ..) ?_
    have u : inAll 0 (l.length : Int) l = l.all fun x => decide (0 ≤ x) && decide (x ≤ (l.length : Int)) := rfl
    rw [← u]
    cases e : inAll 0 (l.length : Int) l with
    | true => exact ev_neg (by decide) (spec_trGood.evl l h8 e l.length 0 (by omega))
    | false => exact ev_pos (by decide) (Ev.now _)
  · rw [decide_eq_false h8]
    refine ev_pos (by omega) ?_
    refine Ev.step (fun k => spec_trGood.j0.eq_2 ..) ?_
    exact ev_pos rfl (Ev.now _)

theorem idxs_mem_ch (p : Int → Bool) : ∀ (l : List Int) (k : Nat) (z : Int), z ∈ idxsFrom_ch p l k → ∃ j, ∃ h : j < l.length, z = ((k + j : Nat) : Int) ∧ p l[j] = true
  | [], k, z, hz => by cases hz
  | x :: l, k, z, hz => by
    simp only [idxsFrom_ch] at hz
    have rest : z ∈ idxsFrom_ch p l (k + 1) → ∃ j, ∃ h : j < (x :: l).length, z = ((k + j : Nat) : Int) ∧ p (x :: l)[j] = true := fun hz => by
      obtain ⟨j, h, e, hp⟩ := idxs_mem_ch p l (k + 1) z hz
      exact ⟨j + 1, by simp; omega, by omega, by simpa using hp⟩
    by_cases hx : p x = true
    · rw [if_pos hx] at hz
      rcases List.mem_cons.mp hz with e | hz
      · exact ⟨0, by simp, by simpa using e, hx⟩
      · exact rest hz
    · rw [if_neg hx] at hz
      exact rest hz
theorem idxs_ge_ch (p : Int → Bool) (l : List Int) (k : Nat) (z : Int) (hz : z ∈ idxsFrom_ch p l k) : (k : Int) ≤ z := by
  obtain ⟨j, _, e, _⟩ := idxs_mem_ch p l k z hz
  omega
theorem idxs_nodup_ch (p : Int → Bool) : ∀ (l : List Int) (k : Nat), (idxsFrom_ch p l k).Nodup
  | [], _ => List.nodup_nil
  | x :: l, k => by
    simp only [idxsFrom_ch]
    split
    · refine List.nodup_cons.mpr ⟨fun hm => ?_, idxs_nodup_ch p l (k + 1)⟩
      have := idxs_ge_ch p l (k + 1) _ hm
      omega
    · exact idxs_nodup_ch p l (k + 1)
theorem kids_mem (l : List Int) (hl : l.length ≤ 1048576) (v y : Int) (hy : y ∈ kids l v) : 1 ≤ y ∧ y ≤ l.length ∧ rd l (y - 1) = v := by
  unfold kids at hy
  obtain ⟨i, hi, e⟩ := List.mem_map.mp hy
  obtain ⟨j, hj, e2, hp⟩ := idxs_mem_ch _ l 0 i hi
  rw [Nat.zero_add] at e2
  subst e2
  rw [wrap_id _ (by omega) (by omega)] at e
  subst e
  refine ⟨by omega, by omega, ?_⟩
  rw [show (j : Int) + 1 - 1 = (j : Int) by omega, rd_nat l j hj]
  simpa using hp
theorem kids_nodup (l : List Int) (hl : l.length ≤ 1048576) (v : Int) : (kids l v).Nodup := by
  unfold kids
  refine List.Pairwise.map _ (fun a b h => ?_) (List.Pairwise.and_mem.mp (idxs_nodup_ch (fun x => x == v) l 0))
  obtain ⟨ja, _, ea, _⟩ := idxs_mem_ch _ l 0 a h.1
  obtain ⟨jb, _, eb, _⟩ := idxs_mem_ch _ l 0 b h.2.1
  have hne := h.2.2
  rw [wrap_id (a + 1) (by omega) (by omega), wrap_id (b + 1) (by omega) (by omega)]
  omega
/-- what holds of the order when its first i have been looked at -/
structure Br (l out : List Int) (i : Nat) : Prop where
  nodup : out.Nodup
  mem : ∀ y ∈ out, y = 0 ∨ (1 ≤ y ∧ y ≤ l.length ∧ rd l (y - 1) ∈ out.take i)
theorem Br.len {l out : List Int} {i : Nat} (h : Br l out i) : out.length ≤ l.length + 1 := by
  have h1 := ge_nodup out ((l.length : Int) + 1) h.nodup (fun y hy => by rcases h.mem y hy with e | e <;> omega) (l.length + 1) 0 (by omega)
  have h2 : ge out 0 = out.length := by
    unfold ge
    rw [List.countP_eq_length]
    intro y hy
    rcases h.mem y hy with e | e
    · simp; omega
    · simp; omega
  omega
theorem Br.step {l out : List Int} {i : Nat} (hl : l.length ≤ 1048576) (h : Br l out i) (hi : i < out.length) : Br l (out ++ kids l out[i]) (i + 1) := by
  have hnot : out[i] ∉ out.take i := by
    have hn := h.nodup
    rw [← List.take_append_drop i out, List.nodup_append] at hn
    intro hm
    exact hn.2.2 _ hm out[i] (by rw [List.drop_eq_getElem_cons hi]; exact List.mem_cons_self) rfl
  have ht : (out ++ kids l out[i]).take (i + 1) = out.take i ++ [out[i]] := by
    rw [List.take_append_of_le_length (by omega), List.take_succ_eq_append_getElem hi]
  refine ⟨?_, ?_⟩
  · rw [List.nodup_append]
    refine ⟨h.nodup, kids_nodup l hl _, fun a ha b hb e => ?_⟩
    subst e
    have hk := kids_mem l hl _ a hb
    rcases h.mem a ha with e | e
    · omega
    · rw [hk.2.2] at e
      exact hnot e.2.2
  · intro y hy
    rw [ht]
    rcases List.mem_append.mp hy with hy | hy
    · rcases h.mem y hy with e | e
      · exact .inl e
      · exact .inr ⟨e.1, e.2.1, List.mem_append.mpr (.inl e.2.2)⟩
    · have hk := kids_mem l hl _ y hy
      exact .inr ⟨hk.1, hk.2.1, List.mem_append.mpr (.inr (by rw [hk.2.2]; simp))⟩
def breadthF (l : List Int) : Nat → List Int → Nat → List Int
  | 0, out, _ => out
  | d + 1, out, i => if h : i < out.length then breadthF l d (out ++ kids l out[i]) (i + 1) else out
theorem breadthF_len (l : List Int) (hl : l.length ≤ 1048576) : ∀ (d : Nat) (out : List Int) (i : Nat), Br l out i → (breadthF l d out i).length ≤ l.length + 1
  | 0, out, i, h => h.len
  | d + 1, out, i, h => by
    simp only [breadthF]
    split
    · rename_i hi
      exact breadthF_len l hl d _ _ (h.step hl hi)
    · exact h.len
theorem Br.start (l : List Int) : Br l [0] 0 := ⟨by simp, fun y hy => .inl (by simpa using hy)⟩
def breadthR (l : List Int) : List Int × Bool := if isTr l = true then (breadthF l (l.length + 2) [0] 0, true) else ([], false)
theorem breadthR_len (l : List Int) (hl : l.length ≤ 1048576) : (breadthR l).1.length ≤ l.length + 1 := by
  unfold breadthR
  split
  · exact breadthF_len l hl _ _ _ (Br.start l)
  · simp

theorem spec_trBreadth.evl (l : List Int) (hl : l.length ≤ 1048576) : ∀ (d i : Nat) (out : List Int), i + d = l.length + 2 → Br l out i → Ev (fun k => spec_trBreadth.l0 k l out (i : Int)) (breadthF l d out i)
  | 0, i, out, hi, h => by
    refine Ev.step (fun k => spec_trBreadth.l0.eq_2 ..) ?_
    have := h.len
    exact ev_neg (by omega) (Ev.now _)
  | d + 1, i, out, hi, h => by
    refine Ev.step (fun k => spec_trBreadth.l0.eq_2 ..) ?_
    have hlen := h.len
    simp only [breadthF]
    by_cases hlt : i < out.length
    · rw [dif_pos hlt]
      have h2 := h.step hl hlt
      have hlen2 := h2.len
      refine ev_pos (by omega) ?_
      have go := spec_trBreadth.evl l hl d (i + 1) _ (by omega) h2
      have inner : ∀ (e j : Nat) (y : List Int), j + e = l.length → out.length ≤ y.length → y.length + (idxsFrom_ch (fun x => x == out[i]) (l.drop j) j).length ≤ l.length + 1 → (∀ hh : i < y.length, y[i] = out[i]) → y ++ (idxsFrom_ch (fun x => x == out[i]) (l.drop j) j).map (fun z => wrap64 (z + 1)) = out ++ kids l out[i] → Ev (fun k => spec_trBreadth.l1 k l y (i : Int) l (l.length : Int) (j : Int)) (breadthF l d (out ++ kids l out[i]) (i + 1)) := by
        intro e
        induction e with
        | zero =>
          intro j y hj hy hb hg he
          refine Ev.step (fun k => spec_trBreadth.l1.eq_2 ..) ?_
          rw [List.drop_of_length_le (by omega)] at he
          rw [show y = out ++ kids l out[i] by simpa [idxsFrom_ch] using he, wrap_nat i (by omega)]
          exact ev_neg (by omega) go
        | succ e ih =>
          intro j y hj hy hb hg he
          refine Ev.step (fun k => spec_trBreadth.l1.eq_2 ..) ?_
          have hyi := hg (by omega)
          rw [rd_nat l j (by omega), rd_nat y i (by omega), hyi, wrap_nat j (by omega)]
          refine ev_pos (by omega) (ev_pos (by omega) (ev_pos (by omega) (ev_pos (by omega) (ev_pos (by omega) ?_))))
          by_cases hc : l[j] = out[i]
          · have hx := idxsFrom_yes_ch (fun x => x == out[i]) l j (by omega) (by simpa using hc)
            rw [hx] at hb he
            refine ev_pos hc (ev_pos (by omega) ?_)
            rw [show ((j + 1 : Nat) : Int) = wrap64 ((j : Int) + 1) from (wrap_nat j (by omega)).symm]
            rw [wrap_nat j (by omega)]
            refine ih (j + 1) (y ++ [((j + 1 : Nat) : Int)]) (by omega) (by simp; omega) (by simp at hb ⊢; omega) (fun hh => by rw [List.getElem_append_left (by omega)]; exact hyi) ?_
            rw [List.map_cons, wrap_nat j (by omega)] at he
            rw [List.append_assoc]
            exact he
          · have hx := idxsFrom_no_ch (fun x => x == out[i]) l j (by omega) (by simpa using hc)
            rw [hx] at hb he
            exact ev_neg hc (ih (j + 1) y (by omega) hy hb hg he)
      refine inner l.length 0 out (by omega) (Nat.le_refl _) ?_ (fun _ => rfl) rfl
      rw [List.length_append] at hlen2
      unfold kids at hlen2
      rw [List.length_map] at hlen2
      exact hlen2
    · rw [dif_neg hlt]
      exact ev_neg (by omega) (Ev.now _)
theorem spec_trBreadth.ev (l : List Int) (hl : l.length ≤ 1048576) : Ev (fun k => spec_trBreadth.f k l) (breadthF l (l.length + 2) [0] 0) := by
  simp only [spec_trBreadth.f]
  exact spec_trBreadth.evl l hl _ 0 _ (by omega) (Br.start l)

theorem spec_BreadthOrder.ev (l : List Int) (hl : l.length ≤ 1048576) : Ev (fun k => spec_BreadthOrder.f k l) (breadthR l) := by
  simp only [spec_BreadthOrder.f]
  unfold breadthR
  refine Ev.bind (spec_trGood.ev l hl) ?_
  cases isTr l with
  | true => exact ev_pos rfl (Ev.bind (spec_trBreadth.ev l hl) (Ev.now _))
  | false => exact ev_neg (by decide) (Ev.now _)

theorem impl_between.is (x lo hi : Int) : impl_between.f x lo hi = some (decide (lo ≤ x) && decide (x ≤ hi)) := by
  unfold impl_between.f
  by_cases h : x ≥ lo
  · rw [if_pos h, decide_eq_true (show lo ≤ x from h), Bool.true_and]
  · rw [if_neg h, decide_eq_false (show ¬ lo ≤ x from h), Bool.false_and]

theorem impl_isCars.is (n : Int) : impl_isCars.f n = some (decide (0 ≤ n) && decide (n ≤ 8)) := by
  simp only [impl_isCars.f, impl_between.is, Option.bind_some]

theorem impl_areBetween.is (l : List Int) (lo hi : Int) (hl : l.length ≤ 35184372088832) : impl_areBetween.f l lo hi = some (inAll lo hi l) := by
  unfold impl_areBetween.f
  rw [if_pos hl]
  congr 1
  unfold inAll out_b
  induction l with
  | nil => rfl
  | cons x l ih =>
    rw [List.any_cons, List.all_cons, ← ih (by simp at hl; omega)]
    cases (decide (lo ≤ x) && decide (x ≤ hi)) <;> simp

theorem impl_isTree.evl (l : List Int) (hl : l.length ≤ 8) (h : inAll 0 (l.length : Int) l = true) (d : Nat) : ∀ (i : Nat), i + d = l.length → Ev (fun k => impl_isTree.l0 k l (l.length : Int) (l.length : Int) (i : Int)) (allV (fun v => reach l (l.length + 1) ((v : Int) + 1)) i d) := by
  induction d with
  | zero =>
    intro i hi
    refine Ev.step (fun k => impl_isTree.l0.eq_2 ..) ?_
    exact ev_neg (by omega) (Ev.now _)
  | succ d ih =>
    intro i hi
    refine Ev.step (fun k => impl_isTree.l0.eq_2 ..) ?_
    refine ev_pos (by omega) ?_
    rw [wrap_id _ (by omega) (by omega)]
    simp only [allV]
    have inner : ∀ (m s : Nat) (x : Int), s + m = l.length + 1 → 0 ≤ x → x ≤ l.length → Ev (fun k => impl_isTree.l1 k l (l.length : Int) x (s : Int) (l.length : Int) (i : Int)) (reach l m x && allV (fun v => reach l (l.length + 1) ((v : Int) + 1)) (i + 1) d) := by
      intro m
      induction m with
      | zero =>
        intro s x hs h0 h1
        refine Ev.step (fun k => impl_isTree.l1.eq_2 ..) ?_
        simp only [reach]
        by_cases hx : x > 0
        · rw [decide_eq_false (fun hn => hn hx), Bool.false_and]
          exact ev_pos hx (ev_pos (by omega) (Ev.now _))
        · rw [decide_eq_true hx, Bool.true_and, wrap_nat i (by omega)]
          exact ev_neg hx (ih (i + 1) (by omega))
      | succ m ihm =>
        intro s x hs h0 h1
        refine Ev.step (fun k => impl_isTree.l1.eq_2 ..) ?_
        simp only [reach]
        by_cases hx : x > 0
        · rw [if_pos hx, wrap_id (x - 1) (by omega) (by omega), wrap_nat s (by omega), ← up_rd]
          have hu := up_in l h x hx h1
          exact ev_pos hx (ev_neg (by omega) (ev_pos (by omega) (ev_pos (by omega) (ihm (s + 1) _ (by omega) hu.1 hu.2))))
        · rw [if_neg hx, Bool.true_and, wrap_nat i (by omega)]
          exact ev_neg hx (ih (i + 1) (by omega))
    exact inner (l.length + 1) 0 ((i : Int) + 1) (by omega) (by omega) (by omega)
theorem impl_isTree.ev (l : List Int) (hl : l.length ≤ 1048576) : Ev (fun k => impl_isTree.f k l) (isTr l) := by
  simp only [impl_isTree.f, impl_isCars.is, Option.bind_some]
  unfold isTr
  by_cases h8 : l.length ≤ 8
  · rw [decide_eq_true h8, decide_eq_true (show (0 : Int) ≤ (l.length : Int) by omega), decide_eq_true (show (l.length : Int) ≤ 8 by omega)]
    refine ev_pos rfl (Ev.bind (ev_eq (impl_areBetween.is l 0 _ (by omega))) ?_)
    refine Ev.step (fun k => impl_isTree.j0.eq_2 ..) ?_
    have u : inAll 0 (l.length : Int) l = l.all fun x => decide (0 ≤ x) && decide (x ≤ (l.length : Int)) := rfl
    rw [← u]
    cases e : inAll 0 (l.length : Int) l with
    | true =>
      refine ev_neg (by decide) (ev_val (impl_isTree.evl l h8 e l.length 0 (by omega)) ?_)
      rw [Bool.true_and]
      refine allV_congr _ _ _ _ (fun j _ hj => ?_)
      exact reach_more l ((inAll_iff _ _ _).mp e) _ (by omega) (by omega)
    | false => exact ev_pos (by decide) (Ev.now _)
  · rw [decide_eq_false h8, decide_eq_false (show ¬ (l.length : Int) ≤ 8 by omega), Bool.and_false]
    refine ev_neg (by decide) ?_
    refine Ev.step (fun k => impl_isTree.j0.eq_2 ..) ?_
    exact ev_pos rfl (Ev.now _)

theorem impl_children.is (l : List Int) (v : Int) (hl : l.length ≤ 1048576) : impl_children.f l v = some (kids l v) := by
  unfold impl_children.f
  rw [if_pos hl]

theorem impl_breadth.evl (l : List Int) (hl : l.length ≤ 1048576) : ∀ (d i : Nat) (out : List Int), i + d = l.length + 2 → Br l out i → Ev (fun k => impl_breadth.l0 k l out (i : Int)) (breadthF l d out i)
  | 0, i, out, hi, h => by
    refine Ev.step (fun k => impl_breadth.l0.eq_2 ..) ?_
    have := h.len
    exact ev_neg (by omega) (Ev.now _)
  | d + 1, i, out, hi, h => by
    refine Ev.step (fun k => impl_breadth.l0.eq_2 ..) ?_
    have hlen := h.len
    simp only [breadthF]
    by_cases hlt : i < out.length
    · rw [dif_pos hlt]
      have h2 := h.step hl hlt
      have hlen2 := h2.len
      rw [rd_nat out i hlt, wrap_nat i (by omega)]
      refine ev_pos (by omega) (ev_pos (by omega) (Ev.bind (ev_eq (impl_children.is l _ hl)) ?_))
      refine ev_pos (by rw [List.length_append] at hlen2; omega) ?_
      exact impl_breadth.evl l hl d (i + 1) _ (by omega) h2
    · rw [dif_neg hlt]
      exact ev_neg (by omega) (Ev.now _)
theorem impl_breadth.ev (l : List Int) (hl : l.length ≤ 1048576) : Ev (fun k => impl_breadth.f k l) (breadthF l (l.length + 2) [0] 0) := by
  simp only [impl_breadth.f]
  exact impl_breadth.evl l hl _ 0 _ (by omega) (Br.start l)

theorem impl_BreadthOrder.ev (l : List Int) (hl : l.length ≤ 1048576) : Ev (fun k => impl_BreadthOrder.f k l) (breadthR l) := by
  simp only [impl_BreadthOrder.f]
  unfold breadthR
  refine Ev.bind (impl_isTree.ev l hl) ?_
  cases isTr l with
  | true => exact ev_pos rfl (Ev.bind (impl_breadth.ev l hl) (Ev.now _))
  | false => exact ev_neg (by decide) (Ev.now _)

end Go.Proofs.Ytchhfdhnoldngaa.QFnExactBreadthOrder
