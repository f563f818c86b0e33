/- Proved here: the pure part of law FnParkingCounts: the Lean function printed for it answers true at all its inputs. -/
import Derived.Test.YtdiohjdfiambhaaBFnParkingCounts
namespace Go.Proofs.Ytdiohjdfiambhaa.Pure
open Go.RowKit Go.Proofs.Ytdiohjdfiambhaa.QFnParkingCounts Go.Proofs.YtdiohjdfiambhaaW.PrintWords Go.Proofs.YtdiohjdfiambhaaW.PrintLast Go.Proofs.Ytdiohjdfiambhaa.Math
set_option linter.unusedVariables false
set_option linter.unusedSimpArgs false

/-- a list that does not rise -/
def falls (l : List Int) : Bool := (List.range (l.length - 1)).all fun i => decide (rd l ((i : Int) + 1) ≤ rd l (i : Int))
/-- what the counts of one number of cars have to hold -/
def chkN (a b c d : List Int × Bool) (e : Int × Bool) : Bool := decide (a = b) && decide (c = d) && (c.2 == a.2) && (!a.2 || (e.2 && decide (sumW 0 a.1 = e.1) && decide (sumW 0 c.1 = e.1) && falls a.1)) && decide (a.1.length ≤ 10) && decide (c.1.length ≤ 10)
def getN (n : Int) : Option ((List Int × Bool) × (List Int × Bool) × (List Int × Bool) × (List Int × Bool) × (Int × Bool)) :=
  (impl_CountByFirst.f 1000 n).bind fun a => (spec_CountByFirst.f 1000 n).bind fun b => (impl_CountByLucky.f 1000 n).bind fun c => (spec_CountByLucky.f 1000 n).bind fun d => (impl_CountParking.f 1000 n).bind fun e => some (a, b, c, d, e)
theorem chkN_fin : ∀ v : Fin 11, (match getN (((v.val : Nat) : Int) - 1) with | some (a, b, c, d, e) => chkN a b c d e | none => false) = true := by decide +kernel
theorem counts_of (n : Int) (h0 : -1 ≤ n) (h1 : n ≤ 9) : ∃ a c e, Ev (fun k => impl_CountByFirst.f k n) a ∧ Ev (fun k => spec_CountByFirst.f k n) a ∧ Ev (fun k => impl_CountByLucky.f k n) c ∧ Ev (fun k => spec_CountByLucky.f k n) c ∧ Ev (fun k => impl_CountParking.f k n) e ∧ c.2 = a.2 ∧ (a.2 = true → e.2 = true ∧ sumW 0 a.1 = e.1 ∧ sumW 0 c.1 = e.1 ∧ falls a.1 = true) ∧ a.1.length ≤ 10 ∧ c.1.length ≤ 10 := by
  have h := chkN_fin ⟨(n + 1).toNat, by omega⟩
  rw [show ((((⟨(n + 1).toNat, by omega⟩ : Fin 11).val : Nat) : Int) - 1) = n by show ((((n + 1).toNat : Nat) : Int) - 1) = n; omega] at h
  cases hg : getN n with
  | none => rw [hg] at h; cases h
  | some t =>
    obtain ⟨a, b, c, d, e⟩ := t
    rw [hg] at h
    dsimp only at h
    unfold getN at hg
    obtain ⟨a', ha, hg⟩ := Option.bind_eq_some_iff.mp hg
    obtain ⟨b', hb, hg⟩ := Option.bind_eq_some_iff.mp hg
    obtain ⟨c', hc, hg⟩ := Option.bind_eq_some_iff.mp hg
    obtain ⟨d', hd, hg⟩ := Option.bind_eq_some_iff.mp hg
    obtain ⟨e', he, hg⟩ := Option.bind_eq_some_iff.mp hg
    simp only [Option.some.injEq, Prod.mk.injEq] at hg
    obtain ⟨rfl, rfl, rfl, rfl, rfl⟩ := hg
    unfold chkN at h
    simp only [Bool.and_eq_true, decide_eq_true_eq, beq_iff_eq, Bool.or_eq_true, Bool.not_eq_true'] at h
    obtain ⟨⟨⟨⟨⟨h1, h2⟩, h3⟩, h4⟩, h5⟩, h6⟩ := h
    subst h1
    subst h2
    refine ⟨a', c', e', Ev.of (fun k => impl_CountByFirst.mono n k) ha, Ev.of (fun k => spec_CountByFirst.mono n k) hb, Ev.of (fun k => impl_CountByLucky.mono n k) hc, Ev.of (fun k => spec_CountByLucky.mono n k) hd, Ev.of (fun k => impl_CountParking.mono n k) he, h3, fun ht => ?_, h5, h6⟩
    rcases h4 with h4 | h4
    · rw [ht] at h4; cases h4
    · exact ⟨h4.1.1.1, h4.1.1.2, h4.1.2, h4.2⟩
def getS (n m : Int) : Option ((Int × Bool) × (Int × Bool) × (Int × Bool)) := (impl_CountForStreet.f 1000 n m).bind fun a => (spec_CountForStreet.f 1000 n m).bind fun b => (impl_CountParking.f 1000 n).bind fun e => some (a, b, e)
theorem chkS_fin : ∀ v : Fin 11, ∀ u : Fin 14, (match getS (((v.val : Nat) : Int) - 1) ((u.val : Nat) : Int) with | some (a, b, e) => decide (a = b) && (!(a.2 && decide ((((v.val : Nat) : Int) - 1) = ((u.val : Nat) : Int))) || decide (e = (a.1, true))) | none => false) = true := by decide +kernel
theorem street_of (n m : Int) (h0 : -1 ≤ n) (h1 : n ≤ 9) (m0 : 0 ≤ m) (m1 : m ≤ 13) : ∃ a e, Ev (fun k => impl_CountForStreet.f k n m) a ∧ Ev (fun k => spec_CountForStreet.f k n m) a ∧ Ev (fun k => impl_CountParking.f k n) e ∧ (a.2 = true → n = m → e = (a.1, true)) := by
  have h := chkS_fin ⟨(n + 1).toNat, by omega⟩ ⟨m.toNat, by omega⟩
  rw [show ((((⟨(n + 1).toNat, by omega⟩ : Fin 11).val : Nat) : Int) - 1) = n by show ((((n + 1).toNat : Nat) : Int) - 1) = n; omega, show (((⟨m.toNat, by omega⟩ : Fin 14).val : Nat) : Int) = m by show ((m.toNat : Nat) : Int) = m; omega] at h
  cases hg : getS n m with
  | none => rw [hg] at h; cases h
  | some t =>
    obtain ⟨a, b, e⟩ := t
    rw [hg] at h
    dsimp only at h
    unfold getS at hg
    obtain ⟨a', ha, hg⟩ := Option.bind_eq_some_iff.mp hg
    obtain ⟨b', hb, hg⟩ := Option.bind_eq_some_iff.mp hg
    obtain ⟨e', he, hg⟩ := Option.bind_eq_some_iff.mp hg
    simp only [Option.some.injEq, Prod.mk.injEq] at hg
    obtain ⟨rfl, rfl, rfl⟩ := hg
    simp only [Bool.and_eq_true, decide_eq_true_eq, Bool.or_eq_true, Bool.not_eq_true', Bool.and_eq_false_iff, decide_eq_false_iff_not] at h
    obtain ⟨h1, h2⟩ := h
    subst h1
    refine ⟨a', e', Ev.of (fun k => impl_CountForStreet.mono n m k) ha, Ev.of (fun k => spec_CountForStreet.mono n m k) hb, Ev.of (fun k => impl_CountParking.mono n k) he, fun ht hn => ?_⟩
    rcases h2 with (h2 | h2) | h2
    · rw [ht] at h2; cases h2
    · exact (h2 hn).elim
    · exact h2
/-- one more list with so many lucky cars -/
def ownUp (m : Int) (o : List Int) (M : List Int) : List Int := o.set ((((luckyR M m).1.length : Nat) : Int)).toNat (wrap64 (rd o (((luckyR M m).1.length : Nat) : Int) + 1))
theorem own_fin : ∀ v : Fin 5, ((ext (v.val + 1) (v.val + 1) []).all fun M => (luckyR M (((v.val + 1 : Nat)) : Int)).2 && decide ((luckyR M (((v.val + 1 : Nat)) : Int)).1.length ≤ v.val + 1)) = true ∧ impl_CountByLucky.f 1000 (((v.val + 1 : Nat)) : Int) = some ((ext (v.val + 1) (v.val + 1) []).foldl (ownUp (((v.val + 1 : Nat)) : Int)) (List.replicate (v.val + 2) 0), true) := by decide +kernel
theorem dist_fin : ∀ v : Fin 6, sumW 0 (byDistR ((v.val : Nat) : Int)).1 = (((allPR ((v.val : Nat) : Int)).1.length : Nat) : Int) := by decide +kernel
theorem counts_j8 (n m : Int) (a e : Int × Bool) (He : Ev (fun k => impl_CountParking.f k n) e) (h : a.2 = true → n = m → e = (a.1, true)) : Ev (fun k => laws_FnParkingCounts.j8 k n m a.1 a.2 false) true := by
  refine Ev.step (fun k => laws_FnParkingCounts.j8.eq_2 ..) (ev_neg (by decide) (ev_ite (fun c => ev_ite (fun d => Ev.bind He ?_) (fun _ => Ev.now _)) (fun _ => Ev.now _)))
  rw [h c d]
  exact ev_pos rfl (ev_val (Ev.now _) (by simp))
theorem counts_j7 (l1 : List Int) (b1 : bytesOk l1) : Ev (fun k => laws_FnParkingCounts.j7 k l1) true := by
  obtain ⟨n, m, D, n0, n1, m0, m1⟩ := spec_DrawCountForStreet.ok l1 b1
  obtain ⟨a, e, A1, A2, A3, h⟩ := street_of n m n0 n1 m0 m1
  have J := counts_j8 n m a e A3 h
  refine Ev.step (fun k => laws_FnParkingCounts.j7.eq_2 ..) (Ev.bind (ev_eq D) (Ev.bind A1 (Ev.bind A2 (ev_neg (by simp) ?_))))
  rw [show (a.1 != a.1) = false by simp]
  exact J
theorem counts_l1 (l1 : List Int) (b1 : bytesOk l1) (v : Nat) (hv : v < 5) (d : Nat) : ∀ (i : Nat) (o : List Int), i + d = (ext (v + 1) (v + 1) []).length → o.length = v + 2 → ((ext (v + 1) (v + 1) []).drop i).foldl (ownUp (((v + 1 : Nat)) : Int)) o = (ext (v + 1) (v + 1) []).foldl (ownUp (((v + 1 : Nat)) : Int)) (List.replicate (v + 2) 0) → Ev (fun k => laws_FnParkingCounts.l1 k l1 (((v + 1 : Nat)) : Int) o (ext (v + 1) (v + 1) []) ((ext (v + 1) (v + 1) []).length : Int) (i : Int)) true := by
  have hfin := own_fin ⟨v, hv⟩
  have hL := ext_len (v + 1) (by omega) (v + 1) [] (by simp) (fun x hx => by cases hx)
  have hall := List.all_eq_true.mp hfin.1
  have hcl := hfin.2
  dsimp only at hall hcl
  generalize hE : ext (v + 1) (v + 1) [] = E at hall hcl hL
  have hlen : ∀ M ∈ E, M.length = v + 1 := fun M hM => by
    rw [← hE] at hM
    obtain ⟨s, rfl, hs, _⟩ := ext_prefix (v + 1) (v + 1) [] M hM
    exact hs
  induction d with
  | zero =>
    intro i o hi ho hf
    rw [List.drop_of_length_le (by omega)] at hf
    simp only [List.foldl_nil] at hf
    subst hf
    refine Ev.step (fun k => laws_FnParkingCounts.l1.eq_2 ..) (ev_neg (by omega) (Ev.bind (Ev.of (fun k => impl_CountByLucky.mono _ k) hcl) (ev_pos rfl (Ev.bind (laws_jSame.ev_self _ (by omega)) (ev_pos rfl (counts_j7 l1 b1))))))
  | succ d ih =>
    intro i o hi ho hf
    have hM := hall (E[i]'(by omega)) (List.getElem_mem _)
    rw [Bool.and_eq_true, decide_eq_true_eq] at hM
    have hMl := hlen (E[i]'(by omega)) (List.getElem_mem _)
    rw [List.drop_eq_getElem_cons (by omega), List.foldl_cons] at hf
    refine Ev.step (fun k => laws_FnParkingCounts.l1.eq_2 ..) (ev_pos (by omega) (ev_pos (by omega) (ev_pos (by omega) ?_)))
    rw [rdL_nat E i (by omega), wrap_nat i (by omega)]
    refine Ev.bind (impl_LuckyCars.ev _ _ (by omega)) (ev_pos hM.1 (ev_pos (by omega) (ev_pos (by omega) ?_)))
    exact ih (i + 1) _ (by omega) (by simp; exact ho) hf
theorem counts_j3 (l1 : List Int) (b1 : bytesOk l1) : Ev (fun k => laws_FnParkingCounts.j3 k l1) true := by
  obtain ⟨m, D, m0, m1⟩ := spec_DrawCountByDistance.ok l1 b1
  have J7 := counts_j7 l1 b1
  have hbl := byDistR_len m
  have J4 : Ev (fun k => laws_FnParkingCounts.j4 k l1 m (byDistR m).1 (byDistR m).2 false) true := by
    refine Ev.step (fun k => laws_FnParkingCounts.j4.eq_2 ..) (ev_neg (by decide) (ev_ite (fun c => ?_) (fun _ => J7)))
    have hm : 0 ≤ m ∧ m ≤ 5 := by
      unfold byDistR at c
      by_cases h : 0 ≤ m ∧ m ≤ 5
      · exact h
      · rw [if_neg h] at c
        cases c
    have hs := dist_fin ⟨m.toNat, by omega⟩
    have em : (((⟨m.toNat, by omega⟩ : Fin 6).val : Nat) : Int) = m := by show ((m.toNat : Nat) : Int) = m; omega
    rw [em] at hs
    have ha : (allPR m).2 = true := by unfold allPR; rw [if_pos hm]
    refine Ev.bind (impl_AllParking.ev m) (ev_pos ha (Ev.bind (laws_jSum.ev _ (by omega)) ?_))
    rw [hs, show ((((allPR m).1.length : Nat) : Int) != (((allPR m).1.length : Nat) : Int)) = false by simp]
    refine Ev.step (fun k => laws_FnParkingCounts.j5.eq_2 ..) (ev_neg (by decide) (ev_ite (fun c1 => ?_) (fun _ => J7)))
    obtain ⟨v, rfl⟩ : ∃ v : Nat, m = ((v + 1 : Nat) : Int) := ⟨(m - 1).toNat, by omega⟩
    have w1 : wrap64 (((v + 1 : Nat) : Int) + 1) = ((v + 2 : Nat) : Int) := wrap_nat (v + 1) (by omega)
    rw [w1, Int.toNat_natCast]
    refine ev_pos (by omega) (ev_pos (by omega) ?_)
    have eA : (allPR ((v + 1 : Nat) : Int)).1 = ext (v + 1) (v + 1) [] := by
      unfold allPR
      rw [if_pos hm, Int.toNat_natCast]
    rw [eA]
    exact counts_l1 l1 b1 v (by omega) (ext (v + 1) (v + 1) []).length 0 _ (by omega) (by simp) (by rw [List.drop_zero])
  refine Ev.step (fun k => laws_FnParkingCounts.j3.eq_2 ..) (Ev.bind (ev_eq D) (Ev.bind (impl_CountByDistance.ev m) (Ev.bind (spec_CountByDistance.ev m) (ev_neg (by simp) (Ev.bind (laws_jSame.ev_self _ (by omega)) ?_)))))
  exact J4
theorem counts_l0 (l1 : List Int) (b1 : bytesOk l1) (a : List Int) (ha : a.length ≤ 10) (hf : falls a = true) (d : Nat) : ∀ (i : Nat), (i + 1) + d = a.length ∨ (d = 0 ∧ a.length ≤ i + 1) → Ev (fun k => laws_FnParkingCounts.l0 k l1 a (((i + 1 : Nat)) : Int)) true := by
  have J3 := counts_j3 l1 b1
  induction d with
  | zero =>
    intro i hi
    exact Ev.step (fun k => laws_FnParkingCounts.l0.eq_2 ..) (ev_neg (by omega) J3)
  | succ d ih =>
    intro i hi
    have hq := List.all_eq_true.mp hf i (List.mem_range.mpr (by omega))
    rw [decide_eq_true_eq] at hq
    have w1 : wrap64 (((i + 1 : Nat) : Int) - 1) = (i : Int) := by
      rw [wrap_id _ (by omega) (by omega)]
      omega
    have w2 : wrap64 (((i + 1 : Nat) : Int) + 1) = ((i + 1 + 1 : Nat) : Int) := wrap_nat (i + 1) (by omega)
    refine Ev.step (fun k => laws_FnParkingCounts.l0.eq_2 ..) (ev_pos (by omega) (ev_pos (by omega) ?_))
    rw [w1, w2]
    refine ev_pos (by omega) (ev_pos (by omega) (ev_neg ?_ (ih (i + 1) (by omega))))
    rw [show (((i + 1 : Nat)) : Int) = (i : Int) + 1 by omega]
    omega
set_option maxHeartbeats 4000000 in
theorem FnParkingCounts : laws_FnParkingCounts.Pure := by
  intro l0 l1 _ _ hb0 _ _ hb1
  refine Ev.rounds ?_
  simp only [laws_FnParkingCounts.f]
  rcases laws_big.is l0 l1 with hB | ⟨hB, hlen⟩
  · exact Ev.bind (ev_eq hB) (ev_pos rfl (Ev.now _))
  have b0 : bytesOk l0 := ⟨fun x hx => u8_of_wf x (hb0 x hx), by omega⟩
  have b1 : bytesOk l1 := ⟨fun x hx => u8_of_wf x (hb1 x hx), by omega⟩
  obtain ⟨n, D, n0, n1⟩ := spec_DrawCountByFirst.ok l0 b0
  obtain ⟨a, c, e, A1, A2, C1, C2, E1, hca, hs, ha, hc⟩ := counts_of n n0 n1
  have J3 := counts_j3 l1 b1
  have J1 : Ev (fun k => laws_FnParkingCounts.j1 k l1 a.1 a.2 false) true := by
    refine Ev.step (fun k => laws_FnParkingCounts.j1.eq_2 ..) (ev_neg (by decide) (ev_ite (fun h => ?_) (fun _ => J3)))
    exact counts_l0 l1 b1 a.1 ha (hs h).2.2.2 (a.1.length - 1) 0 (by omega)
  have J0 : Ev (fun k => laws_FnParkingCounts.j0 k l1 a.1 a.2 c.1 e.1 e.2 false) true := by
    refine Ev.step (fun k => laws_FnParkingCounts.j0.eq_2 ..) (ev_neg (by decide) (ev_ite (fun h => ?_) (fun _ => J1)))
    obtain ⟨h1, h2, h3, h4⟩ := hs h
    refine ev_pos h1 (Ev.bind (laws_jSum.ev _ (by omega)) (ev_pos h2 (Ev.bind (laws_jSum.ev _ (by omega)) ?_)))
    rw [h3, show (e.1 != e.1) = false by simp]
    exact J1
  refine Ev.bind (ev_eq hB) (ev_neg (by decide) (Ev.bind (ev_eq D) (Ev.bind A1 (Ev.bind A2 (Ev.bind C1 (Ev.bind C2 (Ev.bind E1 ?_)))))))
  refine ev_neg (by simp) (Ev.bind (laws_jSame.ev_self _ (by omega)) (ev_pos rfl (ev_neg (by simp) (Ev.bind (laws_jSame.ev_self _ (by omega)) (ev_pos rfl ?_)))))
  rw [hca, show (a.2 != a.2) = false by simp]
  exact J0

end Go.Proofs.Ytdiohjdfiambhaa.Pure
