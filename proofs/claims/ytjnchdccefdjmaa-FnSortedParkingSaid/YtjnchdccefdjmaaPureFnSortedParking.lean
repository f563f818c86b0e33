/- Proved here: the pure part of law FnSortedParking: the Lean function printed for it answers true at all its inputs. -/
import Derived.Test.YtjnchdccefdjmaaBFnSortedParking
namespace Go.Proofs.Ytjnchdccefdjmaa.Pure
open Go.RowKit Go.Proofs.Ytjnchdccefdjmaa.QFnSortedParking Go.Proofs.YtjnchdccefdjmaaW.PrintWords Go.Proofs.YtjnchdccefdjmaaW.PrintLast Go.Proofs.Ytjnchdccefdjmaa.Math
set_option linter.unusedVariables false
set_option linter.unusedSimpArgs false

def lexB : List Int → List Int → Bool
  | x :: s, y :: t => decide (x < y) || (decide (x = y) && lexB s t)
  | _, _ => false
theorem lexB_lt : ∀ (s t : List Int), lexB s t = true → lexLt s t
  | x :: s, y :: t, h => by
    simp only [lexB, Bool.or_eq_true, Bool.and_eq_true, decide_eq_true_eq] at h
    exact h.elim (fun h => .inl h) (fun h => .inr ⟨h.1, lexB_lt s t h.2⟩)
  | [], [], h => by simp [lexB] at h
  | [], _ :: _, h => by simp [lexB] at h
  | _ :: _, [], h => by simp [lexB] at h
def upsB : List (List Int) → Bool
  | a :: b :: t => lexB a b && upsB (b :: t)
  | _ => true
theorem upsB_at : ∀ (t : List (List Int)) (i : Nat) (h : i + 1 < t.length), upsB t = true → lexB (t[i]'(by omega)) t[i + 1] = true
  | a :: b :: t, 0, _, h => by
    simp only [upsB, Bool.and_eq_true] at h
    exact h.1
  | a :: b :: t, i + 1, hi, h => by
    simp only [upsB, Bool.and_eq_true] at h
    exact upsB_at (b :: t) i (by simpa using hi) h.2
  | [], i, hi, _ => by simp at hi
  | [a], i, hi, _ => by simp at hi
def ordSum (t : List (List Int)) : Nat := (t.map ordD).sum
theorem tab_fin : ∀ n : Fin 7, (upsB (tabS n.val) && (tabS n.val).all isPk && decide (ordSum (tabS n.val) = cnt n.val) && decide (((tabS n.val).length : Int) = wrap64 (Int.tdiv (chD n.val) (wrap64 (((n.val : Nat) : Int) + 1))))) = true := by decide +kernel
theorem ordSum_take (t : List (List Int)) (i : Nat) (h : i < t.length) : ordSum (t.take (i + 1)) = ordSum (t.take i) + ordD t[i] := by
  unfold ordSum
  rw [List.take_succ_eq_append_getElem h, List.map_append, List.sum_append]
  simp
theorem ordSum_le (t : List (List Int)) (i : Nat) : ordSum (t.take i) ≤ ordSum t := by
  unfold ordSum
  conv => rhs; rw [← List.take_append_drop i t, List.map_append, List.sum_append]
  omega
theorem isPk_pk (l : List Int) (h : isPk l = true) : (if (decide (l.length ≤ 8) && inAll 0 99 l) = true then (isPk l, true) else (false, false)) = (true, true) := by
  have h1 := (isPk_parts l).mp h
  rw [if_pos (by
    rw [Bool.and_eq_true, decide_eq_true_eq, inAll_iff]
    exact ⟨h1.1, fun x hx => by have := h1.2.1 x hx; omega⟩), h]
theorem sorted_j3 (l1 : List Int) (b1 : bytesOk l1) : Ev (fun k => laws_FnSortedParking.j3 k l1) true := by
  obtain ⟨r, D, hr⟩ := spec_DrawCountOrders.ok l1 b1
  obtain ⟨m, M, m0, m1⟩ := spec_DrawCountSorted.ok l1 b1
  refine Ev.step (fun k => laws_FnSortedParking.j3.eq_2 ..) (Ev.bind D (Ev.bind (impl_CountOrders.ev r (by omega)) (Ev.bind (spec_CountOrders.ev r (by omega)) (Ev.bind (ev_eq M) (Ev.bind (impl_CountSorted.ev m) (Ev.bind (spec_CountSorted.ev m) (ev_pos (by simp) (ev_pos rfl (ev_pos (by simp) (ev_val (Ev.now _) (by simp)))))))))))
theorem sorted_w (s1 s2 : Nat) (h : s1 + s2 ≤ 16777216) : Aside0 (wrap64 ((s1 : Int) + (s2 : Int)) = ((s1 + s2 : Nat) : Int)) := ⟨by
  rw [wrap_id _ (by omega) (by omega)]
  omega⟩
theorem sorted_w1 (v : Nat) (h : v ≤ 1000) : wrap64 (((v + 1 : Nat) : Int) - 1) = (v : Int) := by
  rw [wrap_id _ (by omega) (by omega)]
  omega
set_option maxHeartbeats 2000000 in
theorem sorted_l0 (l1 : List Int) (b1 : bytesOk l1) (n : Nat) (hn : n ≤ 6) (t : List (List Int)) (ht : t.length ≤ 132) (hU : upsB t = true) (hP : ∀ x ∈ t, isPk x = true) (hS : ordSum t = cnt n) (hL : ∀ x ∈ t, x.length = n) (d : Nat) : ∀ (i : Nat), i + d = t.length → Ev (fun k => laws_FnSortedParking.l0 k l1 (n : Int) t ((ordSum (t.take i) : Nat) : Int) t (t.length : Int) (i : Int)) true := by
  have J3 := sorted_j3 l1 b1
  have hc := (cnt_bd n (by omega)).2
  induction d with
  | zero =>
    intro i hi
    refine Ev.step (fun k => laws_FnSortedParking.l0.eq_2 ..) (ev_neg (by omega) (Ev.bind (impl_CountParking.ev (n : Int)) ?_))
    unfold cntR
    rw [if_pos ⟨by omega, by omega⟩, Int.toNat_natCast, List.take_of_length_le (by omega), hS]
    exact ev_pos rfl (ev_pos rfl J3)
  | succ d ih =>
    intro i hi
    have hil : i < t.length := by omega
    have hr : rd_L1 t (i : Int) = t[i] := laws_jRows.rdL t i hil
    have hp := hP t[i] (List.getElem_mem hil)
    have hl8 := hL t[i] (List.getElem_mem hil)
    have hle := ordSum_le t (i + 1)
    rw [ordSum_take t i hil] at hle
    have ih' := ih (i + 1) (by omega)
    rw [ordSum_take t i hil] at ih'
    have a1 : (i : Int) < (t.length : Int) := by omega
    have a2 : (0 : Int) ≤ (i : Int) := by omega
    have a3 : t[i].length ≤ 1048576 := by omega
    have O := impl_CountOrders.ev t[i] a3
    have P := impl_IsParking.ev t[i] a3
    rw [isPk_pk _ hp] at P
    unfold ordersR at O
    rw [if_pos hp] at O
    have hs1 : ordSum (t.take i) + ordD t[i] ≤ 16777216 := by omega
    clear hle
    have X := sorted_w (ordSum (t.take i)) (ordD t[i]) hs1
    generalize ordSum (t.take i) = s1 at X ih' ⊢
    generalize ordD t[i] = s2 at X O ih'
    clear hs1 hS hc ih
    have Y : Aside0 (wrap64 ((i : Int) + 1) = ((i + 1 : Nat) : Int)) := ⟨wrap_nat i (by omega)⟩
    refine Ev.step (fun k => laws_FnSortedParking.l0.eq_2 ..) (ev_pos a1 (ev_pos a2 (ev_pos a1 ?_)))
    rw [hr]
    refine Ev.bind O (Ev.bind P (ev_pos rfl (ev_pos rfl (ev_pos rfl (ev_ite (fun c1 => ?_) (fun _ => ?_))))))
    · obtain ⟨v, rfl⟩ : ∃ v, i = v + 1 := ⟨i - 1, by omega⟩
      have hv : v < t.length := by omega
      have w1 : wrap64 (((v + 1 : Nat) : Int) - 1) = (v : Int) := sorted_w1 v (by omega)
      rw [w1, laws_jRows.rdL t v hv]
      clear w1
      have l1v := hL t[v] (List.getElem_mem hv)
      refine ev_pos (by omega) (ev_pos (by omega) (Ev.bind (laws_jLess.ev t[v] t[v + 1] (by omega) (by omega) (lexB_lt _ _ (upsB_at t v hil hU))) (ev_pos rfl ?_)))
      rw [X.out, Y.out]
      exact ih'
    · rw [X.out, Y.out]
      exact ih'
set_option maxHeartbeats 2000000 in
theorem FnSortedParking : laws_FnSortedParking.Pure := by
  intro l0 l1 _ _ hb0 _ _ hb1
  refine Ev.rounds ?_
  simp only [laws_FnSortedParking.f]
  rcases laws_big.is l0 l1 with hB | ⟨hB, hlen⟩
  · exact Ev.bind (ev_eq hB) (ev_pos rfl (Ev.now _))
  have b0 : bytesOk l0 := ⟨fun x hx => u8_of_wf x (hb0 x hx), by omega⟩
  have b1 : bytesOk l1 := ⟨fun x hx => u8_of_wf x (hb1 x hx), by omega⟩
  have J3 := sorted_j3 l1 b1
  obtain ⟨n, D, n0, n1⟩ := spec_DrawAllSorted.ok l0 b0
  refine Ev.bind (ev_eq hB) (ev_neg (by decide) (Ev.bind (ev_eq D) (Ev.bind (impl_AllSorted.ev n) (Ev.bind (spec_AllSorted.ev n) (Ev.bind (impl_CountSorted.ev n) (Ev.bind (spec_CountSorted.ev n) (ev_neg (by simp) ?_)))))))
  by_cases hn : 0 ≤ n ∧ n ≤ 6
  · obtain ⟨m, rfl⟩ : ∃ m : Nat, n = (m : Int) := ⟨n.toNat, by omega⟩
    have hm : m ≤ 6 := by omega
    have T := tabS_len m hm
    have F := tab_fin ⟨m, by omega⟩
    simp only [Bool.and_eq_true, decide_eq_true_eq, List.all_eq_true] at F
    obtain ⟨⟨⟨F1, F2⟩, F3⟩, F4⟩ := F
    have eA : allSR (m : Int) = (tabS m, true) := by
      unfold allSR
      rw [if_pos hn, Int.toNat_natCast]
    have eC : catR (m : Int) = (((tabS m).length : Int), true) := by
      unfold catR
      rw [if_pos ⟨by omega, by omega⟩, Int.toNat_natCast, F4]
    rw [eA, eC]
    refine Ev.bind (laws_jRows.ev_self (tabS m) (by omega) (fun x hx => by have := (T.2 x hx).1; omega)) (ev_pos rfl (ev_neg (by simp) ?_))
    have L := sorted_l0 l1 b1 m hm (tabS m) T.1 F1 F2 F3 (fun x hx => (T.2 x hx).1) (tabS m).length 0 (by omega)
    have J1 : Ev (fun k => laws_FnSortedParking.j1 k l1 (m : Int) (tabS m) false) true :=
      Ev.step (fun k => laws_FnSortedParking.j1.eq_2 ..) (ev_neg (by decide) L)
    have e1 : ((((tabS m).length : Int), true).1 != (((tabS m).length : Int), true).1) = false := by simp
    rw [e1]
    refine Ev.step (fun k => laws_FnSortedParking.j0.eq_2 ..) (ev_neg (by decide) (ev_pos rfl (ev_pos rfl ?_)))
    rw [e1]
    exact J1
  · have eA : allSR n = ([], false) := by
      unfold allSR
      rw [if_neg hn]
    rw [eA]
    refine Ev.bind (laws_jRows.ev_self [] (by simp) (fun x hx => by cases hx)) (ev_pos rfl (ev_neg (by simp) ?_))
    rw [show ((catR n).1 != (catR n).1) = false by simp]
    exact Ev.step (fun k => laws_FnSortedParking.j0.eq_2 ..) (ev_neg (by decide) (ev_neg (by decide) J3))

end Go.Proofs.Ytjnchdccefdjmaa.Pure
