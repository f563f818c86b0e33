/- Proved here: the pure part of law FnCircles: the Lean function printed for it answers true at all its inputs. -/
import Derived.Test.YtdiohjdfiambhaaBFnCircles
namespace Go.Proofs.Ytdiohjdfiambhaa.Pure
open Go.RowKit Go.Proofs.Ytdiohjdfiambhaa.QFnCircles Go.Proofs.YtdiohjdfiambhaaW.PrintWords Go.Proofs.YtdiohjdfiambhaaW.PrintLast Go.Proofs.Ytdiohjdfiambhaa.Math
set_option linter.unusedVariables false
set_option linter.unusedSimpArgs false

theorem turn1_sh (p b x : Int) (hp : 0 < p) (hp2 : p ≤ 1000) (hb0 : -1000 ≤ b) (hb1 : b ≤ 1000) (hx0 : 0 ≤ x) (hx1 : x < p) : turn1 p b x = sh p b x := by
  have h1 := Int.tmod_lt_of_pos (x + b) hp
  have h2 := Int.lt_tmod_of_pos (x + b) hp
  unfold turn1
  rw [wrap_id (x + b) (by omega) (by omega), wrap_id (Int.tmod (x + b) p + p) (by omega) (by omega)]
  exact tmod_sh p b x hp
theorem turn_map (l : List Int) (p b : Int) (hp : 0 < p) (hp2 : p ≤ 1000) (hb0 : -1000 ≤ b) (hb1 : b ≤ 1000) (h : ∀ x ∈ l, 0 ≤ x ∧ x < p) : l.map (turn1 p b) = l.map (sh p b) :=
  List.map_congr_left (fun x hx => turn1_sh p b x hp hp2 hb0 hb1 (h x hx).1 (h x hx).2)
theorem sh_in (l : List Int) (k : Int) : ∀ x ∈ l.map (sh ((l.length : Int) + 1) k), 0 ≤ x ∧ x < ((l.map (sh ((l.length : Int) + 1) k)).length : Int) + 1 := by
  intro x hx
  obtain ⟨y, _, rfl⟩ := List.mem_map.mp hx
  rw [List.length_map]
  exact sh_range _ _ _ (by omega)
theorem circ_parts (l : List Int) (h : isCirc l = true) : l.length ≤ 8 ∧ (∀ x ∈ l, 0 ≤ x ∧ x < (l.length : Int) + 1) ∧ 0 ≤ freeOf l ∧ freeOf l ≤ l.length := by
  obtain ⟨h8, hx⟩ := (isCirc_iff l).mp h
  have hs := freeAt_spec l hx
  have e : freeOf l = freeAt l := rfl
  exact ⟨h8, hx, by omega, by omega⟩
theorem free_ev (l : List Int) (h : isCirc l = true) : Ev (fun k => impl_FreeOnCircle.f k l) (freeOf l, true) := by
  have h8 := (circ_parts l h).1
  refine ev_val (impl_FreeOnCircle.ev l (by omega)) ?_
  unfold freeR
  rw [if_pos h]
theorem parking_ev (l : List Int) (h : isCirc l = true) : Ev (fun k => impl_IsParking.f k l) (isPk l, true) := by
  obtain ⟨h8, hx, _, _⟩ := circ_parts l h
  refine ev_val (impl_IsParking.ev l (by omega)) ?_
  rw [if_pos]
  rw [Bool.and_eq_true, decide_eq_true_eq, inAll_iff]
  exact ⟨h8, fun x hx2 => by have := hx x hx2; omega⟩
/-- a turn of a circle list -/
theorem turned (l : List Int) (h : isCirc l = true) (i : Nat) (hi : i ≤ l.length) : Ev (fun k => impl_TurnFavourites.f k l ((l.length : Int) + 1) (i : Int)) (l.map (sh ((l.length : Int) + 1) (i : Int)), true) ∧ isCirc (l.map (sh ((l.length : Int) + 1) (i : Int))) = true ∧ freeOf (l.map (sh ((l.length : Int) + 1) (i : Int))) = Int.tmod (freeOf l + (i : Int)) ((l.length : Int) + 1) ∧ (isPk (l.map (sh ((l.length : Int) + 1) (i : Int))) = ((i : Int) == (l.length : Int) - freeOf l)) := by
  obtain ⟨h8, hx, f0, f1⟩ := circ_parts l h
  have hc : isCirc (l.map (sh ((l.length : Int) + 1) (i : Int))) = true := (isCirc_iff _).mpr ⟨by rw [List.length_map]; exact h8, sh_in l i⟩
  have hf : freeOf (l.map (sh ((l.length : Int) + 1) (i : Int))) = sh ((l.length : Int) + 1) (i : Int) (freeOf l) := freeAt_sh l hx i
  have hp := isPk_free (l.map (sh ((l.length : Int) + 1) (i : Int))) (by rw [List.length_map]; exact h8) (sh_in l i)
  have hf2 : freeAt (l.map (sh ((l.length : Int) + 1) (i : Int))) = sh ((l.length : Int) + 1) (i : Int) (freeOf l) := hf
  have key : sh ((l.length : Int) + 1) (i : Int) (freeOf l) = l.length ↔ (i : Int) = (l.length : Int) - freeOf l := by
    unfold sh
    by_cases c : freeOf l + (i : Int) < (l.length : Int) + 1
    · rw [Int.emod_eq_of_lt (by omega) c]
      omega
    · have e : (freeOf l + (i : Int)) % ((l.length : Int) + 1) = freeOf l + (i : Int) - ((l.length : Int) + 1) := by
        rw [← Int.sub_emod_right, Int.emod_eq_of_lt (by omega) (by omega)]
      rw [e]
      omega
  refine ⟨?_, hc, ?_, ?_⟩
  · refine ev_val (impl_TurnFavourites.ev l _ _ (by omega)) ?_
    unfold turnR
    have hfav : fav l ((l.length : Int) + 1) = true := (fav_iff _ _).mpr ⟨by omega, by omega, h8, hx⟩
    rw [if_pos (by rw [hfav, decide_eq_true (by omega), decide_eq_true (by omega)]; rfl), turn_map l _ _ (by omega) (by omega) (by omega) (by omega) hx]
  · rw [hf]
    unfold sh
    rw [Int.tmod_eq_emod_of_nonneg (by omega)]
  · rw [List.length_map] at hp
    rw [hf2, key] at hp
    by_cases c : (i : Int) = (l.length : Int) - freeOf l
    · rw [hp.mpr c, beq_iff_eq.mpr c]
    · have : ¬ isPk (l.map (sh ((l.length : Int) + 1) (i : Int))) = true := fun hc => c (hp.mp hc)
      rw [Bool.not_eq_true] at this
      rw [this, beq_eq_false_iff_ne.mpr c]
theorem circles_j4 (a : List Int) (p : Int) (ha : a.length ≤ 18) : Ev (fun k => laws_FnCircles.j4 k a p (circR a p).1 (circR a p).2 false) true := by
  refine Ev.step (fun k => laws_FnCircles.j4.eq_2 ..) (ev_neg (by decide) (ev_ite (fun c => Ev.bind (impl_DriveCars.ev a p (by omega)) (ev_ite (fun d => ?_) (fun _ => Ev.now _))) (fun _ => Ev.now _)))
  have e : (carsR a p).1 = (circR a p).1 := by
    unfold circR at c ⊢
    unfold carsR at d ⊢
    by_cases hf : fav a p = true
    · rw [if_pos hf] at c d ⊢
      rw [if_pos hf]
      by_cases hl : (a.length : Int) > p
      · rw [if_pos hl] at c
        cases c
      · rw [if_neg hl]
        cases hd : drv p [] a with
        | none => rw [hd] at d; cases d
        | some r => exact (cdrv_street p a [] r (fun x hx => (((fav_iff a p).mp hf).2.2.2 x hx).1) hd).symm
    · rw [if_neg hf] at c
      cases c
  have hl := carsR_len a p
  refine Ev.bind (laws_jSame.ev _ _ (by omega)) (ev_val (Ev.now _) ?_)
  exact decide_eq_true e
theorem circles_j3 (l1 : List Int) (b1 : bytesOk l1) : Ev (fun k => laws_FnCircles.j3 k l1) true := by
  obtain ⟨a, p, D, ha⟩ := spec_DrawDriveCircle.ok l1 b1
  obtain ⟨b, m, t, D2, hb⟩ := spec_DrawTurnFavourites.ok l1 b1
  have J := circles_j4 a p ha
  have h1 := circR_len a p
  have h2 := turnR_len b m t
  refine Ev.step (fun k => laws_FnCircles.j3.eq_2 ..) ?_
  refine Ev.bind D (Ev.bind (impl_DriveCircle.ev a p (by omega)) (Ev.bind (spec_DriveCircle.ev a p (by omega)) (Ev.bind D2 (Ev.bind (impl_TurnFavourites.ev b m t (by omega)) (Ev.bind (spec_TurnFavourites.ev b m t (by omega)) ?_)))))
  refine ev_neg (by simp) (Ev.bind (laws_jSame.ev_self _ (by omega)) (ev_pos rfl (ev_neg (by simp) (Ev.bind (laws_jSame.ev_self _ (by omega)) ?_))))
  exact J
theorem circles_loop (l1 l : List Int) (b1 : bytesOk l1) (h : isCirc l = true) (d : Nat) : ∀ (i : Nat) (found : Int), i + d = l.length + 1 → found = (if (l.length : Int) - freeOf l < (i : Int) then 1 else 0) → Ev (fun k => laws_FnCircles.l0 k l1 l (l.map (sh ((l.length : Int) + 1) ((l.length : Int) - freeOf l))) ((l.length : Int) - freeOf l) (freeOf l) (l.length : Int) found (i : Int)) true := by
  obtain ⟨h8, hx, f0, f1⟩ := circ_parts l h
  have w1 : wrap64 ((l.length : Int) + 1) = (l.length : Int) + 1 := wrap_id _ (by omega) (by omega)
  induction d with
  | zero =>
    intro i found hi hf
    rw [if_pos (by omega)] at hf
    subst hf
    have J := circles_j3 l1 b1
    refine Ev.step (fun k => laws_FnCircles.l0.eq_2 ..) (ev_neg (by omega) (ev_ite (fun c => ?_) (fun c => ?_)))
    · obtain ⟨r, N, r0, r1⟩ := laws_numberOf.ev l1 b1.2 b1.1
      have w2 : wrap64 ((l.length : Int) - 1) = (l.length : Int) - 1 := wrap_id _ (by omega) (by omega)
      have t0 := Int.tmod_nonneg ((l.length : Int) - 1) r0
      have t1 := Int.tmod_lt_of_pos r (show 0 < (l.length : Int) - 1 by omega)
      rw [w2]
      refine Ev.bind N (ev_neg (by omega) ?_)
      generalize Int.tmod r ((l.length : Int) - 1) = t at t0 t1
      obtain ⟨t, rfl⟩ : ∃ n : Nat, t = (n : Int) := ⟨t.toNat, by omega⟩
      have ht : t + 1 < l.length := by omega
      have em := laws_jSwapped.ev l t ht (by omega)
      have hperm := swap_perm l t ht
      generalize (l.set t (l[t + 1]'ht)).set (t + 1) (l[t]'(by omega)) = m at em hperm
      have hm : isCirc m = true := (isCirc_iff m).mpr ⟨by rw [hperm.length_eq]; exact h8, fun x hx2 => by
        rw [hperm.length_eq]
        exact hx x (hperm.mem_iff.mp hx2)⟩
      have e : freeOf m = freeOf l := (freeAt_perm hperm.symm h8 hx).symm
      exact Ev.bind em (Ev.bind (free_ev m hm) (ev_pos rfl (ev_pos rfl (ev_pos e J))))
    · exact Ev.bind (free_ev l h) (ev_pos rfl (ev_pos rfl (ev_pos rfl J)))
  | succ d ih =>
    intro i found hi hf
    obtain ⟨T, hc, hfr, hpk⟩ := turned l h i (by omega)
    refine Ev.step (fun k => laws_FnCircles.l0.eq_2 ..) (ev_pos (by omega) ?_)
    rw [w1, wrap_id (freeOf l + (i : Int)) (by omega) (by omega)]
    refine Ev.bind T (Ev.bind (parking_ev _ hc) (Ev.bind (free_ev _ hc) (ev_pos rfl (ev_pos rfl (ev_pos rfl (ev_neg (by omega) (ev_pos hfr ?_)))))))
    dsimp only
    rw [hpk]
    refine Ev.step (fun k => laws_FnCircles.j2.eq_2 ..) (ev_neg (by simp) ?_)
    rw [wrap_nat i (by omega)]
    by_cases c : (i : Int) = (l.length : Int) - freeOf l
    · rw [beq_iff_eq.mpr c]
      rw [if_neg (by omega)] at hf
      subst hf
      have S : Ev (fun k => laws_jSame.f k (l.map (sh ((l.length : Int) + 1) (i : Int))) (l.map (sh ((l.length : Int) + 1) ((l.length : Int) - freeOf l)))) true := by
        rw [← c]
        exact laws_jSame.ev_self _ (by rw [List.length_map]; omega)
      exact ev_pos rfl (Ev.bind S (ev_pos rfl (ih (i + 1) _ (by omega) (by rw [if_pos (by omega)]; decide +kernel))))
    · rw [beq_eq_false_iff_ne.mpr c]
      refine ev_neg (by decide) (ih (i + 1) _ (by omega) ?_)
      rw [hf]
      by_cases e : (l.length : Int) - freeOf l < (i : Int)
      · rw [if_pos e, if_pos (by omega)]
      · rw [if_neg e, if_neg (by omega)]
set_option maxHeartbeats 4000000 in
theorem FnCircles : laws_FnCircles.Pure := by
  intro l0 l1 _ _ hb0 _ _ hb1
  refine Ev.rounds ?_
  simp only [laws_FnCircles.f]
  rcases laws_big.is l0 l1 with hB | ⟨hB, hlen⟩
  · exact Ev.bind (ev_eq hB) (ev_pos rfl (Ev.now _))
  have b0 : bytesOk l0 := ⟨fun x hx => u8_of_wf x (hb0 x hx), by omega⟩
  have b1 : bytesOk l1 := ⟨fun x hx => u8_of_wf x (hb1 x hx), by omega⟩
  obtain ⟨l, D, hl⟩ := spec_DrawParkingOfClass.ok l0 b0
  have J3 := circles_j3 l1 b1
  have hcl := classR_len l
  have J0 : Ev (fun k => laws_FnCircles.j0 k l1 l (classR l).1 (classR l).2.1 (classR l).2.2 (freeR l).1 false) true := by
    refine Ev.step (fun k => laws_FnCircles.j0.eq_2 ..) (ev_neg (by decide) (ev_ite (fun c => ?_) (fun _ => J3)))
    by_cases hc : isCirc l = true
    · obtain ⟨h8, hx, f0, f1⟩ := circ_parts l hc
      have w1 : wrap64 ((l.length : Int) - freeOf l) = (l.length : Int) - freeOf l := wrap_id _ (by omega) (by omega)
      have L := circles_loop l1 l b1 hc (l.length + 1) 0 0 (by omega) (by rw [if_neg (by omega)])
      unfold classR freeR
      rw [if_pos hc, if_pos hc, w1, turn_map l _ _ (by omega) (by omega) (by omega) (by omega) hx]
      exact L
    · unfold classR at c
      rw [if_neg hc] at c
      cases c
  refine Ev.bind (ev_eq hB) (ev_neg (by decide) (Ev.bind D (Ev.bind (impl_ParkingOfClass.ev l (by omega)) (Ev.bind (spec_ParkingOfClass.ev l (by omega)) (Ev.bind (impl_FreeOnCircle.ev l (by omega)) (Ev.bind (spec_FreeOnCircle.ev l (by omega)) ?_))))))
  refine ev_neg (by simp) (Ev.bind (laws_jSame.ev_self _ (by omega)) (ev_pos rfl (ev_pos rfl (ev_neg (by simp) (ev_pos rfl ?_)))))
  have e : ((freeR l).2 != (classR l).2.2) = false := by
    unfold freeR classR
    by_cases hc : isCirc l = true
    · rw [if_pos hc, if_pos hc]; rfl
    · rw [if_neg hc, if_neg hc]; rfl
  rw [e]
  exact J0

end Go.Proofs.Ytdiohjdfiambhaa.Pure
