/- Proved here: the pure part of law FnParkingRanks: the Lean function printed for it answers true at all its inputs. -/
import Derived.Test.YtdiohjdfiambhaaBFnParkingRanks
namespace Go.Proofs.Ytdiohjdfiambhaa.Pure
open Go.RowKit Go.Proofs.Ytdiohjdfiambhaa.QFnParkingRanks Go.Proofs.YtdiohjdfiambhaaW.PrintWords Go.Proofs.YtdiohjdfiambhaaW.PrintLast Go.Proofs.Ytdiohjdfiambhaa.Math
set_option linter.unusedVariables false
set_option linter.unusedSimpArgs false

theorem at_facts (n r : Nat) (h8 : n ≤ 8) (hr : r < cnt n) : (unrank n n [] r).length = n ∧ isPk (unrank n n [] r) = true ∧ rankFrom n [] (unrank n n [] r) = r := by
  obtain ⟨s, e1, e2, e3, e4, e5⟩ := unrank_tail n h8 n [] r (by simp) (by rw [comp_totalI n h8]; exact hr)
  rw [List.nil_append] at e1
  subst e1
  exact ⟨e2, by simpa using e5 (fun x hx => by cases hx), e3⟩
theorem isParking_pk (l : List Int) (h : isPk l = true) : Ev (fun k => impl_IsParking.f k l) (true, true) := by
  have hc : (decide (l.length ≤ 8) && inAll 0 99 l) = true := by
    cases e : (decide (l.length ≤ 8) && inAll 0 99 l) with
    | true => rfl
    | false =>
      rw [isPk_no_cars l (by rw [e]; decide)] at h
      cases h
  have h8 := ((isPk_parts l).mp h).1
  refine ev_val (impl_IsParking.ev l (by omega)) ?_
  rw [if_pos hc, h]
theorem ranks_j3 (l0 : List Int) (b0 : bytesOk l0) (m : Nat) (hm : m ≤ 5) : Ev (fun k => laws_FnParkingRanks.j3 k l0 (ext m m []) false) true := by
  have hlen : (ext m m []).length = cnt m := by rw [ext_length m (by omega) m [] (by simp) (fun x hx => by cases hx), comp_totalI m (by omega)]
  have hc := cnt_bd m (by omega)
  obtain ⟨r, N, r0, r1⟩ := laws_numberOf.ev l0 b0.2 b0.1
  have t0 := Int.tmod_nonneg ((ext m m []).length : Int) r0
  have t1 := Int.tmod_lt_of_pos r (show 0 < ((ext m m []).length : Int) by omega)
  refine Ev.step (fun k => laws_FnParkingRanks.j3.eq_2 ..) (ev_neg (by decide) (Ev.bind N (ev_neg (by omega) ?_)))
  generalize Int.tmod r ((ext m m []).length : Int) = t at t0 t1
  obtain ⟨t, rfl⟩ : ∃ n : Nat, t = (n : Int) := ⟨t.toNat, by omega⟩
  have ht : t < (ext m m []).length := by omega
  have hat := unrank_at m (by omega) m [] t (by simp) (fun x hx => by cases hx) (by rw [comp_totalI m (by omega)]; omega)
  rw [List.getElem?_eq_getElem ht, Option.some.injEq] at hat
  obtain ⟨f1, f2, f3⟩ := at_facts m t (by omega) (by omega)
  rw [laws_jRows.rdL _ t ht, hat]
  refine ev_pos (by omega) (ev_pos t1 (Ev.bind (impl_RankParking.ev _ (by omega)) ?_))
  unfold rankR
  rw [if_pos f2, f1, f3]
  exact ev_pos rfl (ev_val (Ev.now _) (by simp))
theorem ranks_j1 (l0 l1 : List Int) (b0 : bytesOk l0) (b1 : bytesOk l1) : Ev (fun k => laws_FnParkingRanks.j1 k l0 l1) true := by
  obtain ⟨m, D, m0, m1⟩ := spec_DrawAllParking.ok l1 b1
  have J2 : Ev (fun k => laws_FnParkingRanks.j2 k l0 m (allPR m).1 (allPR m).2 false) true := by
    refine Ev.step (fun k => laws_FnParkingRanks.j2.eq_2 ..) (ev_neg (by decide) (ev_ite (fun c => ?_) (fun _ => Ev.now _)))
    unfold allPR at c ⊢
    by_cases hm : 0 ≤ m ∧ m ≤ 5
    · rw [if_pos hm]
      refine Ev.bind (impl_CountParking.ev m) ?_
      unfold cntR
      rw [if_pos (by omega)]
      refine ev_pos rfl ?_
      have hlen : (ext m.toNat m.toNat []).length = cnt m.toNat := by rw [ext_length m.toNat (by omega) m.toNat [] (by simp) (fun x hx => by cases hx), comp_totalI m.toNat (by omega)]
      dsimp only
      rw [hlen, show ((((cnt m.toNat : Nat) : Int)) != ((cnt m.toNat : Nat) : Int)) = false by simp]
      exact ranks_j3 l0 b0 m.toNat (by omega)
    · rw [if_neg hm] at c
      cases c
  have hb : (allPR m).1.length ≤ 16777216 ∧ ∀ x ∈ (allPR m).1, x.length ≤ 8 := by
    unfold allPR
    split
    · rename_i h
      refine ⟨ext_len _ (by omega) _ _ (by simp) (fun x hx => by cases hx), fun x hx => ?_⟩
      obtain ⟨s, rfl, hs, _⟩ := ext_prefix m.toNat m.toNat [] x hx
      omega
    · exact ⟨by simp, fun x hx => by cases hx⟩
  refine Ev.step (fun k => laws_FnParkingRanks.j1.eq_2 ..) (Ev.bind (ev_eq D) (Ev.bind (impl_AllParking.ev m) (Ev.bind (spec_AllParking.ev m) (ev_neg (by simp) (Ev.bind (laws_jRows.ev_self _ (by omega) (fun x hx => by have := hb.2 x hx; omega)) ?_)))))
  exact J2
theorem at_yes (n r : Int) : (atR n r).2 = true ↔ 0 ≤ n ∧ n ≤ 8 ∧ 0 ≤ r ∧ r ≤ (cnt n.toNat : Int) - 1 := by
  unfold atR
  by_cases h : 0 ≤ n ∧ n ≤ 8 ∧ 0 ≤ r ∧ r ≤ (cnt n.toNat : Int) - 1
  · rw [if_pos h]
    exact ⟨fun _ => h, fun _ => rfl⟩
  · rw [if_neg h]
    exact ⟨fun e => (by cases e), fun e => (h e).elim⟩
theorem at_no (n r : Int) (h : ¬ (0 ≤ n ∧ n ≤ 8 ∧ 0 ≤ r ∧ r ≤ (cnt n.toNat : Int) - 1)) : (atR n r).2 = false := by
  cases e : (atR n r).2 with
  | false => rfl
  | true => exact (h ((at_yes n r).mp e)).elim
set_option maxHeartbeats 4000000 in
theorem ranks_j0 (l0 l1 : List Int) (b0 : bytesOk l0) (b1 : bytesOk l1) (n r : Int) (hr0 : -1 ≤ r) (hr1 : r ≤ 16777216) : Ev (fun k => laws_FnParkingRanks.j0 k l0 l1 n r (atR n r).1 (atR n r).2 (cntR n).1 false) true := by
  have J1 := ranks_j1 l0 l1 b0 b1
  refine Ev.step (fun k => laws_FnParkingRanks.j0.eq_2 ..) (ev_neg (by decide) (ev_ite (fun c => ?_) (fun _ => J1)))
  obtain ⟨n0, n8, r0, r1⟩ := (at_yes n r).mp c
  obtain ⟨N, rfl⟩ : ∃ N : Nat, n = (N : Int) := ⟨n.toNat, by omega⟩
  obtain ⟨R, rfl⟩ : ∃ R : Nat, r = (R : Int) := ⟨r.toNat, by omega⟩
  rw [Int.toNat_natCast] at r1
  obtain ⟨f1, f2, f3⟩ := at_facts N R (by omega) (by omega)
  have eL : (atR (N : Int) (R : Int)).1 = unrank N N [] R := by
    unfold atR
    rw [Int.toNat_natCast, Int.toNat_natCast, if_pos ⟨n0, n8, r0, r1⟩]
  rw [eL]
  have w1 : wrap64 ((R : Int) + 1) = ((R + 1 : Nat) : Int) := wrap_nat R (by omega)
  have eR : rankR (unrank N N [] R) = ((R : Int), true) := by
    unfold rankR
    rw [if_pos f2, f1, f3]
  have eN : nextR (unrank N N [] R) = atR (N : Int) ((R + 1 : Nat) : Int) := by
    unfold nextR
    rw [if_pos f2, f1, f3]
  have E1 := ev_val (impl_RankParking.ev (unrank N N [] R) (by omega)) eR
  have E2 := ev_val (impl_NextParking.ev (unrank N N [] R) (by omega)) eN
  have E3 := impl_ParkingAt.ev (N : Int) ((R + 1 : Nat) : Int)
  have E4 := isParking_pk (unrank N N [] R) f2
  rw [w1]
  refine Ev.bind E1 (Ev.bind E2 (Ev.bind E3 (Ev.bind E4 (ev_pos rfl (ev_pos rfl (ev_neg (by simp) ?_))))))
  have hal := atR_len (N : Int) ((R + 1 : Nat) : Int)
  refine Ev.bind (laws_jSame.ev_self _ (by omega)) (ev_pos rfl ?_)
  have eC : (cntR (N : Int)).1 = ((cnt N : Nat) : Int) := by
    unfold cntR
    rw [if_pos ⟨n0, n8⟩, Int.toNat_natCast]
  rw [eC]
  by_cases hq : R + 1 < cnt N
  · have hy : (atR (N : Int) ((R + 1 : Nat) : Int)).2 = true := (at_yes _ _).mpr ⟨n0, n8, by omega, by rw [Int.toNat_natCast]; omega⟩
    have eL2 : (atR (N : Int) ((R + 1 : Nat) : Int)).1 = unrank N N [] (R + 1) := by
      unfold atR
      rw [Int.toNat_natCast, Int.toNat_natCast, if_pos ⟨n0, n8, by omega, by omega⟩]
    obtain ⟨g1, g2, g3⟩ := at_facts N (R + 1) (by omega) hq
    obtain ⟨s, t, es, et, hlt⟩ := unrank_less N (by omega) N [] R (R + 1) (by simp) (by omega) (by rw [comp_totalI N (by omega)]; exact hq) (fun x hx => by cases hx)
    rw [List.nil_append] at es et
    subst es
    subst et
    refine ev_neg (by rw [hy, decide_eq_true (by omega)]; decide) (ev_pos hy ?_)
    rw [eL2]
    exact Ev.bind (laws_jLess.ev _ _ (by omega) (by rw [f1, g1]) hlt) (ev_pos rfl (ev_pos rfl (ev_pos rfl J1)))
  · have hy : (atR (N : Int) ((R + 1 : Nat) : Int)).2 = false := at_no _ _ (by rw [Int.toNat_natCast]; omega)
    refine ev_neg (by rw [hy, decide_eq_false (by omega)]; decide) (ev_neg (by rw [hy]; decide) ?_)
    exact ev_pos rfl (ev_pos rfl J1)
set_option maxHeartbeats 4000000 in
theorem FnParkingRanks : laws_FnParkingRanks.Pure := by
  intro l0 l1 _ _ hb0 _ _ hb1
  refine Ev.rounds ?_
  simp only [laws_FnParkingRanks.f]
  rcases laws_big.is l0 l1 with hB | ⟨hB, hlen⟩
  · exact Ev.bind (ev_eq hB) (ev_pos rfl (Ev.now _))
  have b0 : bytesOk l0 := ⟨fun x hx => u8_of_wf x (hb0 x hx), by omega⟩
  have b1 : bytesOk l1 := ⟨fun x hx => u8_of_wf x (hb1 x hx), by omega⟩
  obtain ⟨n, r, D, n0, n1, r0, r1⟩ := spec_DrawParkingAt.ok l0 b0
  have J := ranks_j0 l0 l1 b0 b1 n r r0 r1
  have hal := atR_len n r
  refine Ev.bind (ev_eq hB) (ev_neg (by decide) (Ev.bind D (Ev.bind (impl_ParkingAt.ev n r) (Ev.bind (spec_ParkingAt.ev n r) (Ev.bind (impl_CountParking.ev n) (Ev.bind (spec_CountParking.ev n) ?_))))))
  refine ev_neg (by simp) (Ev.bind (laws_jSame.ev_self _ (by omega)) (ev_pos rfl (ev_neg (by simp) (ev_pos rfl ?_))))
  have hc : (cntR n).2 = true ↔ 0 ≤ n ∧ n ≤ 8 := by
    unfold cntR
    by_cases h : 0 ≤ n ∧ n ≤ 8
    · rw [if_pos h]
      exact ⟨fun _ => h, fun _ => rfl⟩
    · rw [if_neg h]
      exact ⟨fun e => (by cases e), fun e => (h e).elim⟩
  refine ev_ite (fun c => ev_ite (fun d => ?_) (fun d => ?_)) (fun c => ?_)
  · have hn := hc.mp c
    have e : ((atR n r).2 != decide (r < (cntR n).1)) = false := by
      have eC : (cntR n).1 = ((cnt n.toNat : Nat) : Int) := by
        unfold cntR
        rw [if_pos hn]
      rw [eC]
      by_cases h : r < ((cnt n.toNat : Nat) : Int)
      · rw [(at_yes n r).mpr ⟨hn.1, hn.2, by omega, by omega⟩, decide_eq_true h]
        rfl
      · rw [at_no n r (by omega), decide_eq_false h]
        rfl
    rw [e]
    exact J
  · rw [at_no n r (by omega)] at J ⊢
    exact J
  · rw [at_no n r (fun h => c (hc.mpr ⟨h.1, h.2.1⟩))] at J ⊢
    exact J

end Go.Proofs.Ytdiohjdfiambhaa.Pure
