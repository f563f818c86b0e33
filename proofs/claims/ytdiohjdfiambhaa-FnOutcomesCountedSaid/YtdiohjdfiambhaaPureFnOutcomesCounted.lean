/- Proved here: the pure part of law FnOutcomesCounted: the Lean function printed for it answers true at all its inputs. -/
import Derived.Test.YtdiohjdfiambhaaBFnOutcomesCounted
namespace Go.Proofs.Ytdiohjdfiambhaa.Pure
open Go.RowKit Go.Proofs.Ytdiohjdfiambhaa.QFnOutcomesCounted Go.Proofs.YtdiohjdfiambhaaW.PrintWords Go.Proofs.YtdiohjdfiambhaaW.PrintLast Go.Proofs.Ytdiohjdfiambhaa.Math
set_option linter.unusedVariables false
set_option linter.unusedSimpArgs false

theorem counted_tail (l1 : List Int) (b1 : bytesOk l1) : Ev (fun k => (spec_DrawCountWithOutcome.f k l1).bind fun t285 => ((impl_CountWithOutcome.f k t285).bind fun bt288 => ((spec_CountWithOutcome.f k t285).bind fun bt290 => (if (bt288.2 == bt290.2) = true then (some (bt288.1 == bt290.1)) else (some false))))) true := by
  obtain ⟨m, D, hm⟩ := spec_DrawCountWithOutcome.ok l1 b1
  exact Ev.bind D (Ev.bind (impl_CountWithOutcome.ev m (by omega)) (Ev.bind (spec_CountWithOutcome.ev m (by omega)) (ev_pos (by simp) (ev_val (Ev.now _) (by simp)))))
/-- each list with an outcome drives to it -/
theorem box_cars (l x : List Int) (h : isOrd l = true) (h0 : 0 < l.length) (hx : x ∈ boxes (lowL [] l) l) : x.length = l.length ∧ carsR x (x.length : Int) = (l, true) := by
  obtain ⟨h8, hb, hn⟩ := (isOrd_iff l).mp h
  have hl := boxes_lens _ _ (lowL_len l []) x hx
  obtain ⟨g1, g2⟩ := (boxes_mem _ _ x (lowL_len l [])).mp hx
  have hd := drv_box (x.length : Int) l [] x (by simpa using hn) (fun y hy => by have := hb y hy; omega) g1 g2
  have hlow := lowL_nonneg l [] (fun y hy => (hb y hy).1)
  have hll := lowL_len l []
  have hf : fav x (x.length : Int) = true := (fav_iff _ _).mpr ⟨by omega, by omega, by omega, fun y hy => by
    obtain ⟨i, hi, rfl⟩ := List.getElem_of_mem hy
    have a1 := ptLe_get _ _ g1 i (by omega) hi
    have a2 := ptLe_get _ _ g2 i hi (by omega)
    have a3 := hlow _ (List.getElem_mem (l := lowL [] l) (n := i) (by omega))
    have a4 := hb l[i] (List.getElem_mem _)
    omega⟩
  refine ⟨hl, ?_⟩
  unfold carsR
  rw [if_pos hf, hd, List.nil_append]
  rfl
theorem counted_w (i : Nat) (h : i ≤ 1000) : Aside0 (wrap64 ((i : Int) + 1) = ((i + 1 : Nat) : Int)) := ⟨wrap_nat i (by omega)⟩
theorem counted_w1 (v : Nat) (h : v ≤ 1000) : wrap64 (((v + 1 : Nat) : Int) - 1) = (v : Int) := by
  rw [wrap_id _ (by omega) (by omega)]
  omega
set_option maxHeartbeats 2000000 in
theorem counted_l0 (l1 l : List Int) (b1 : bytesOk l1) (t : List (List Int)) (ht : t.length ≤ 500) (hl8 : l.length ≤ 8) (hC : ∀ x ∈ t, x.length = l.length ∧ carsR x (x.length : Int) = (l, true)) (hU : ∀ v (hv : v + 1 < t.length), lexLt (t[v]'(by omega)) t[v + 1]) (d : Nat) : ∀ (i : Nat), i + d = t.length → Ev (fun k => laws_FnOutcomesCounted.l0 k l1 l t t (t.length : Int) (i : Int)) true := by
  have J := counted_tail l1 b1
  induction d with
  | zero =>
    intro i hi
    exact Ev.step (fun k => laws_FnOutcomesCounted.l0.eq_2 ..) (ev_neg (by omega) J)
  | succ d ih =>
    intro i hi
    have hil : i < t.length := by omega
    have hr : rd_L3 t (i : Int) = t[i] := laws_jRows.rdL t i hil
    have hc := hC t[i] (List.getElem_mem hil)
    have a1 : (i : Int) < (t.length : Int) := by omega
    have a2 : (0 : Int) ≤ (i : Int) := by omega
    have C := impl_DriveCars.ev t[i] (t[i].length : Int) (by omega)
    rw [hc.2] at C
    have ih' := ih (i + 1) (by omega)
    have Y := counted_w i (by omega)
    clear ih
    refine Ev.step (fun k => laws_FnOutcomesCounted.l0.eq_2 ..) (ev_pos a1 (ev_pos a2 (ev_pos a1 ?_)))
    rw [hr]
    refine Ev.bind C (ev_pos rfl (Ev.bind (laws_jSame.ev_self l (by omega)) (ev_pos rfl (ev_ite (fun c1 => ?_) (fun _ => ?_)))))
    · obtain ⟨v, rfl⟩ : ∃ v, i = v + 1 := ⟨i - 1, by omega⟩
      have hv : v < t.length := by omega
      have lv := (hC t[v] (List.getElem_mem hv)).1
      have w1 : wrap64 (((v + 1 : Nat) : Int) - 1) = (v : Int) := counted_w1 v (by omega)
      rw [w1, laws_jRows.rdL t v hv]
      clear w1
      refine ev_pos (by omega) (ev_pos (by omega) (Ev.bind (laws_jLess.ev t[v] t[v + 1] (by omega) (by omega) (hU v hil)) (ev_pos rfl ?_)))
      rw [Y.out]
      exact ih'
    · rw [Y.out]
      exact ih'
theorem counted_j1 (l1 l : List Int) (b1 : bytesOk l1) (h : isOrd l = true) (h5 : ¬ 500 < prodW 1 (rowsL [] l)) (c : (l.length : Int) > 0) : Ev (fun k => laws_FnOutcomesCounted.j1 k l1 l (boxes (lowL [] l) l) (prodW 1 (rowsL [] l)) true) true := by
  have hp := ord_prod l h
  have hlen := boxes_length (lowL [] l) l
  have h8 := ((isOrd_iff l).mp h).1
  obtain ⟨X, hX⟩ := boxes_last (lowL [] l) l (lowL_le l [])
  have hC := box_cars l
  have hx := boxes_lex (lowL [] l) l
  have hU : ∀ v (hv : v + 1 < (boxes (lowL [] l) l).length), lexLt ((boxes (lowL [] l) l)[v]'(by omega)) (boxes (lowL [] l) l)[v + 1] := fun v hv => (List.pairwise_iff_getElem.mp hx) v (v + 1) (by omega) hv (by omega)
  have L := counted_l0 l1 l b1 (boxes (lowL [] l) l) (by omega) h8 (fun x hx => hC x h (by omega) hx) hU (boxes (lowL [] l) l).length 0 (by omega)
  have hXl : (boxes (lowL [] l) l).length = X.length + 1 := by rw [hX]; simp
  have e1 : prodW 1 (rowsL [] l) = ((X.length + 1 : Nat) : Int) := by rw [hp.1, ← hlen, hXl]
  have hlast : (boxes (lowL [] l) l)[X.length]'(by omega) = l := by
    simp only [hX]
    rw [List.getElem_append_right (by omega)]
    simp
  rw [e1]
  have w1 : wrap64 (((X.length + 1 : Nat) : Int) - 1) = (X.length : Int) := counted_w1 X.length (by omega)
  have a3 : ((boxes (lowL [] l) l).length : Int) = ((X.length + 1 : Nat) : Int) := by omega
  have a4 : (X.length : Int) < ((boxes (lowL [] l) l).length : Int) := by omega
  have a5 : X.length < (boxes (lowL [] l) l).length := by omega
  have a6 : (0 : Int) ≤ (X.length : Int) := by omega
  have a7 : l.length ≤ 1048576 := by omega
  refine Ev.step (fun k => laws_FnOutcomesCounted.j1.eq_2 ..) (ev_pos rfl (ev_pos a3 ?_))
  rw [w1, laws_jRows.rdL _ X.length a5, hlast]
  exact ev_pos a6 (ev_pos a4 (Ev.bind (laws_jSame.ev_self l a7) (Ev.step (fun k => laws_FnOutcomesCounted.j2.eq_2 ..) (ev_neg (by decide) L))))
set_option maxHeartbeats 2000000 in
theorem FnOutcomesCounted : laws_FnOutcomesCounted.Pure := by
  intro l0 l1 _ _ hb0 _ _ hb1
  refine Ev.rounds ?_
  simp only [laws_FnOutcomesCounted.f]
  rcases laws_big.is l0 l1 with hB | ⟨hB, hlen⟩
  · exact Ev.bind (ev_eq hB) (ev_pos rfl (Ev.now _))
  have b0 : bytesOk l0 := ⟨fun x hx => u8_of_wf x (hb0 x hx), by omega⟩
  have b1 : bytesOk l1 := ⟨fun x hx => u8_of_wf x (hb1 x hx), by omega⟩
  have J := counted_tail l1 b1
  obtain ⟨r, D, hr⟩ := spec_DrawAllWithOutcome.ok l0 b0
  have I := impl_AllWithOutcome.ev r (by omega)
  have S := spec_AllWithOutcome.ev r (by omega)
  have C := impl_CountWithOutcome.ev r (by omega)
  have C2 := spec_CountWithOutcome.ev r (by omega)
  have hw := awoR_len r
  have E := laws_jRows.ev_self (awoR r).1 (by omega) (fun x hx => by have := hw.2 x hx; omega)
  refine Ev.bind (ev_eq hB) (ev_neg (by decide) (Ev.bind D (Ev.bind I (Ev.bind S (Ev.bind C (Ev.bind C2 (ev_neg (by simp) (Ev.bind E (ev_pos rfl (ev_neg (by simp) (ev_pos rfl ?_)))))))))))
  by_cases e : isOrd r = true
  · have hj := counted_j1 l1 r b1 e
    have eC : cwoR r = (prodW 1 (rowsL [] r), true) := by
      unfold cwoR
      rw [if_pos e]
    rw [eC]
    refine ev_pos rfl ?_
    by_cases h5 : 500 < prodW 1 (rowsL [] r)
    · have eA : awoR r = ([], false) := by
        unfold awoR
        rw [if_pos e, if_pos h5]
      rw [eA, show ((([] : List (List Int)), false).2 != decide ((prodW 1 (rowsL [] r), true).1 ≤ 500)) = false by dsimp only; rw [decide_eq_false (by omega)]; rfl]
      exact Ev.step (fun k => laws_FnOutcomesCounted.j0.eq_2 ..) (ev_neg (by decide) (ev_neg (by simp) (Ev.step (fun k => laws_FnOutcomesCounted.j1.eq_2 ..) (ev_neg (by decide) J))))
    · have eA : awoR r = (boxes (lowL [] r) r, true) := by
        unfold awoR
        rw [if_pos e, if_neg h5]
      rw [eA, show ((boxes (lowL [] r) r, true).2 != decide ((prodW 1 (rowsL [] r), true).1 ≤ 500)) = false by dsimp only; rw [decide_eq_true (by omega)]; rfl]
      refine Ev.step (fun k => laws_FnOutcomesCounted.j0.eq_2 ..) (ev_neg (by decide) (ev_pos rfl ?_))
      by_cases c : (r.length : Int) > 0
      · rw [decide_eq_true c]
        exact hj h5 c
      · rw [decide_eq_false c]
        exact Ev.step (fun k => laws_FnOutcomesCounted.j1.eq_2 ..) (ev_neg (by decide) J)
  · have eC : cwoR r = (0, false) := by
      unfold cwoR
      rw [if_neg e]
    have eA : awoR r = ([], false) := by
      unfold awoR
      rw [if_neg e]
    rw [eC, eA]
    refine ev_neg (by simp) ?_
    exact Ev.step (fun k => laws_FnOutcomesCounted.j0.eq_2 ..) (ev_neg (by decide) (ev_neg (by simp) (Ev.step (fun k => laws_FnOutcomesCounted.j1.eq_2 ..) (ev_neg (by decide) J))))

end Go.Proofs.Ytdiohjdfiambhaa.Pure
