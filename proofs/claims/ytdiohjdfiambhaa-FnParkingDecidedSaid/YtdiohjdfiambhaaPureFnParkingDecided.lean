/- Proved here: the pure part of law FnParkingDecided: the Lean function printed for it answers true at all its inputs. -/
import Derived.Test.YtdiohjdfiambhaaBFnParkingDecided
namespace Go.Proofs.Ytdiohjdfiambhaa.Pure
open Go.RowKit Go.Proofs.Ytdiohjdfiambhaa.QFnParkingDecided Go.Proofs.YtdiohjdfiambhaaW.PrintWords Go.Proofs.YtdiohjdfiambhaaW.PrintLast Go.Proofs.Ytdiohjdfiambhaa.Math
set_option linter.unusedVariables false
set_option linter.unusedSimpArgs false

theorem refuse_spec (l : List Int) (p : Int) : ∀ (n : Nat), ((refuse l p n).2 = true → 0 ≤ (refuse l p n).1 ∧ (refuse l p n).1 < (n : Int) ∧ p - (refuse l p n).1 < (ge l (refuse l p n).1 : Int)) ∧ ((refuse l p n).2 = false → ∀ j : Int, 0 ≤ j → j < n → (ge l j : Int) ≤ p - j)
  | 0 => ⟨fun h => by simp [refuse] at h, fun _ j j0 j1 => by omega⟩
  | n + 1 => by
    by_cases c : p - (n : Int) < ((l.countP fun x => decide ((n : Int) ≤ x) : Nat) : Int)
    · rw [refuse_yes l p n c]
      exact ⟨fun _ => ⟨by dsimp only; omega, by dsimp only; omega, c⟩, fun h => by cases h⟩
    · rw [refuse_no l p n c]
      obtain ⟨h1, h2⟩ := refuse_spec l p n
      refine ⟨fun h => ⟨(h1 h).1, by have := (h1 h).2.1; omega, (h1 h).2.2⟩, fun h j j0 j1 => ?_⟩
      by_cases e : j = (n : Int)
      · rw [e]
        unfold ge
        omega
      · exact h2 h j j0 (by omega)
theorem fitB_iff : ∀ (s : List Int) (i : Nat), fitB i s = true ↔ ∀ j (h : j < s.length), s[j] ≤ ((i + j : Nat) : Int)
  | [], i => by simp [fitB]
  | x :: s, i => by
    simp only [fitB, Bool.and_eq_true, decide_eq_true_eq, fitB_iff s (i + 1)]
    constructor
    · rintro ⟨h1, h2⟩ j hj
      cases j with
      | zero => simpa using h1
      | succ j =>
        have := h2 j (by simpa using hj)
        rw [List.getElem_cons_succ]
        omega
    · intro h
      have h0 : x ≤ (i : Int) := h 0 (by simp)
      refine ⟨h0, fun j hj => ?_⟩
      have := h (j + 1) (by simpa using hj)
      rw [List.getElem_cons_succ] at this
      omega
/-- what IsParking hands back -/
def isPR (l : List Int) : Bool × Bool := if (decide (l.length ≤ 8) && inAll 0 99 l) = true then (isPk l, true) else (false, false)
theorem fit_is (l : List Int) : fitR l = isPR l := by
  unfold fitR isPR
  by_cases c : (decide (l.length ≤ 8) && inAll 0 99 l) = true
  · rw [if_pos c, if_pos c]
    rw [Bool.and_eq_true, decide_eq_true_eq, inAll_iff] at c
    have h1 := isPk_fits l (Srt.srt l) (srt_perm l) (srt_up l) c.1 (fun x hx => (c.2 x hx).1)
    have h2 := fitB_iff (Srt.srt l) 0
    have h3 : fitB 0 (Srt.srt l) = isPk l := by
      rw [Bool.eq_iff_iff, h1, h2]
      simp only [Nat.zero_add]
      rfl
    rw [h3]
  · rw [if_neg c, if_neg c]
theorem decided_j2 (l1 : List Int) (b1 : bytesOk l1) : Ev (fun k => laws_FnParkingDecided.j2 k l1) true := by
  obtain ⟨a, D, ha⟩ := spec_DrawIsParking.ok l1 b1
  have J4 : isPk a = true → Ev (fun k => laws_FnParkingDecided.j4 k a (decide ((a.length : Int) > 0))) true := by
    intro hp
    refine Ev.step (fun k => laws_FnParkingDecided.j4.eq_2 ..) (ev_ite (fun c => ?_) (fun _ => Ev.now _))
    rw [decide_eq_true_eq] at c
    obtain ⟨h8, hx, _⟩ := (isPk_parts a).mp hp
    obtain ⟨r, hr, hpr, hle⟩ := drv_pk a hp
    have hf : fav a (a.length : Int) = true := (fav_iff _ _).mpr ⟨by omega, by omega, h8, hx⟩
    have e : carsR a (a.length : Int) = (r, true) := by
      unfold carsR
      rw [if_pos hf, hr]
      rfl
    have E := ev_val (impl_DriveCars.ev a (a.length : Int) (by omega)) e
    have B := ev_val (isBelow_pk a r hp hpr) (show (leAll a r, true) = (true, true) by rw [(leAll_iff a r).mpr hle])
    exact Ev.bind E (Ev.bind B (ev_pos rfl (ev_pos rfl (Ev.now _))))
  have J3 : Ev (fun k => laws_FnParkingDecided.j3 k a (isPR a).1 false) true := by
    refine Ev.step (fun k => laws_FnParkingDecided.j3.eq_2 ..) (ev_neg (by decide) (ev_ite (fun c => ?_) (fun _ => ?_)))
    · refine J4 ?_
      unfold isPR at c
      by_cases h : (decide (a.length ≤ 8) && inAll 0 99 a) = true
      · rw [if_pos h] at c
        exact c
      · rw [if_neg h] at c
        cases c
    · exact Ev.step (fun k => laws_FnParkingDecided.j4.eq_2 ..) (ev_neg (by decide) (Ev.now _))
  have S1 := ev_val (impl_SortedFits.ev a (by omega)) (fit_is a)
  have S2 := ev_val (spec_SortedFits.ev a (by omega)) (fit_is a)
  have I1 : Ev (fun k => impl_IsParking.f k a) (isPR a) := impl_IsParking.ev a (by omega)
  have I2 : Ev (fun k => spec_IsParking.f k a) (isPR a) := spec_IsParking.ev a (by omega)
  refine Ev.step (fun k => laws_FnParkingDecided.j2.eq_2 ..) (Ev.bind D (Ev.bind I1 (Ev.bind I2 (Ev.bind S1 (Ev.bind S2 ?_)))))
  refine ev_neg (by simp) (ev_neg (by simp) (ev_neg (by simp) (ev_neg (by simp) (ev_neg (by simp) ?_))))
  rw [show ((isPR a).1 != (isPR a).1) = false by simp]
  exact J3
theorem decided_l0 (l1 : List Int) (b1 : bytesOk l1) (l : List Int) (hl : l.length ≤ 1048576) (p j : Int) (hj : p - j < (ge l j : Int)) (p0 : -1000 ≤ p) (p1 : p ≤ 1000) (j0 : 0 ≤ j) (j1 : j ≤ 1000) (d : Nat) : ∀ (i : Nat) (c : Nat), i + d = l.length → c + ge (l.drop i) j = ge l j → Ev (fun k => laws_FnParkingDecided.l0 k l1 p j (c : Int) l (l.length : Int) (i : Int)) true := by
  have hg : ge l j ≤ l.length := List.countP_le_length
  induction d with
  | zero =>
    intro i c hi hc
    rw [List.drop_of_length_le (by omega)] at hc
    have h0 : ge [] j = 0 := rfl
    refine Ev.step (fun k => laws_FnParkingDecided.l0.eq_2 ..) (ev_neg (by omega) ?_)
    rw [wrap_id (p - j) (by omega) (by omega)]
    exact ev_neg (by omega) (decided_j2 l1 b1)
  | succ d ih =>
    intro i c hi hc
    rw [List.drop_eq_getElem_cons (by omega), ge_cons] at hc
    refine Ev.step (fun k => laws_FnParkingDecided.l0.eq_2 ..) (ev_pos (by omega) (ev_pos (by omega) (ev_pos (by omega) ?_)))
    rw [rd_nat l i (by omega), wrap_nat i (by omega)]
    by_cases h : l[i]'(by omega) ≥ j
    · rw [if_pos (by omega)] at hc
      refine ev_pos h ?_
      rw [wrap_nat c (by omega)]
      exact ih (i + 1) (c + 1) (by omega) (by omega)
    · rw [if_neg (by omega)] at hc
      exact ev_neg h (ih (i + 1) c (by omega) (by omega))
set_option maxHeartbeats 4000000 in
theorem FnParkingDecided : laws_FnParkingDecided.Pure := by
  intro l0 l1 _ _ hb0 _ _ hb1
  refine Ev.rounds ?_
  simp only [laws_FnParkingDecided.f]
  rcases laws_big.is l0 l1 with hB | ⟨hB, hlen⟩
  · exact Ev.bind (ev_eq hB) (ev_pos rfl (Ev.now _))
  have b0 : bytesOk l0 := ⟨fun x hx => u8_of_wf x (hb0 x hx), by omega⟩
  have b1 : bytesOk l1 := ⟨fun x hx => u8_of_wf x (hb1 x hx), by omega⟩
  obtain ⟨l, p, D, hl⟩ := spec_DrawRefusingPlace.ok l0 b0
  have J2 := decided_j2 l1 b1
  have J0 : Ev (fun k => laws_FnParkingDecided.j0 k l1 l p (refuseR l p).1 (refuseR l p).2 false) true := by
    refine Ev.step (fun k => laws_FnParkingDecided.j0.eq_2 ..) (ev_neg (by decide) (ev_ite (fun c => ?_) (fun _ => J2)))
    by_cases hf : fav l p = true
    · have h := (fav_iff l p).mp hf
      have e : refuseR l p = refuse l p p.toNat := by
        unfold refuseR
        rw [if_pos hf]
      rw [e] at c ⊢
      obtain ⟨q0, q1, q2⟩ := (refuse_spec l p p.toNat).1 c
      exact decided_l0 l1 b1 l (by omega) p _ q2 (by omega) (by omega) q0 (by omega) l.length 0 0 (by omega) (by simp)
    · unfold refuseR at c
      rw [if_neg hf] at c
      cases c
  refine Ev.bind (ev_eq hB) (ev_neg (by decide) (Ev.bind D (Ev.bind (ev_eq (impl_RefusingPlace.is l p (by omega))) (Ev.bind (spec_RefusingPlace.ev l p (by omega)) (Ev.bind (impl_DoAllPark.ev l p (by omega)) (Ev.bind (spec_DoAllPark.ev l p (by omega)) ?_))))))
  refine ev_neg (by simp) (ev_pos rfl (ev_neg (by simp) (ev_neg (by simp) ?_)))
  by_cases hf : fav l p = true
  · have h := (fav_iff l p).mp hf
    have e : refuseR l p = refuse l p p.toNat := by
      unfold refuseR
      rw [if_pos hf]
    have hpk := park_iff l p h.2.2.2
    have hne : (allPark l p == (refuseR l p).2) = false := by
      rw [e]
      obtain ⟨h1, h2⟩ := refuse_spec l p p.toNat
      cases er : (refuse l p p.toNat).2 with
      | true =>
        obtain ⟨q0, q1, q2⟩ := h1 er
        have : ¬ allPark l p = true := fun hc => by
          have := hpk.mp hc _ q0 (by omega)
          omega
        rw [Bool.not_eq_true] at this
        rw [this]
        rfl
      | false =>
        rw [hpk.mpr (fun j j0 j1 => h2 er j j0 (by omega))]
        rfl
    rw [if_pos hf]
    refine ev_pos rfl (ev_neg (by rw [hne]; decide) (ev_ite (fun c => ?_) (fun c => ?_)))
    · exact J0
    · exact J0
  · have e : refuseR l p = (0, false) := by
      unfold refuseR
      rw [if_neg hf]
    rw [if_neg hf]
    refine ev_neg (by decide) (ev_neg (by rw [e]; decide) ?_)
    exact J0

end Go.Proofs.Ytdiohjdfiambhaa.Pure
