/- Proved here: the pure part of law FnTakenPlacesStay: the Lean function printed for it answers true at all its inputs. -/
import Derived.Test.YtdiohjdfiambhaaBFnTakenPlacesStay
namespace Go.Proofs.Ytdiohjdfiambhaa.Pure
open Go.RowKit Go.Proofs.Ytdiohjdfiambhaa.QFnTakenPlacesStay Go.Proofs.YtdiohjdfiambhaaW.PrintWords Go.Proofs.YtdiohjdfiambhaaW.PrintLast Go.Proofs.Ytdiohjdfiambhaa.Math
set_option linter.unusedVariables false
set_option linter.unusedSimpArgs false

theorem sumW_isum : ∀ (l : List Int) (a : Int), (∀ x ∈ l, -1000 ≤ x ∧ x ≤ 1000) → -1000000 ≤ a → a ≤ 1000000 → l.length ≤ 100 → sumW a l = a + isum l
  | [], a, _, _, _, _ => by simp [sumW, isum]
  | x :: l, a, h, h0, h1, hl => by
    have hx := h x List.mem_cons_self
    simp only [List.length_cons] at hl
    have key : ∀ (l : List Int) (a : Int), (∀ x ∈ l, -1000 ≤ x ∧ x ≤ 1000) → -1000000 + 1000 * (l.length : Int) - 1000000 ≤ a → a ≤ 1000000 - 1000 * (l.length : Int) + 1000000 → l.length ≤ 100 → sumW a l = a + isum l := by
      intro l
      induction l with
      | nil => intro a _ _ _ _; simp [sumW, isum]
      | cons y l ih =>
        intro a h h0 h1 hl
        have hy := h y List.mem_cons_self
        simp only [List.length_cons] at h0 h1 hl
        rw [sumW_cons, wrap_id (a + y) (by omega) (by omega), ih (a + y) (fun z hz => h z (List.mem_cons_of_mem _ hz)) (by omega) (by omega) (by omega)]
        simp only [isum]
        omega
    exact key (x :: l) a h (by simp only [List.length_cons]; omega) (by simp only [List.length_cons]; omega) (by simp only [List.length_cons]; omega)
theorem srt_same {l m : List Int} (h : l.Perm m) : Srt.srt l = Srt.srt m := srt_eq m (Srt.srt l) ((srt_perm l).trans h) (srt_up l)
theorem cars_parts (l : List Int) (p : Int) (h : (carsR l p).2 = true) : fav l p = true ∧ drv p [] l = some (carsR l p).1 ∧ (carsR l p).1.length = l.length := by
  unfold carsR at h ⊢
  by_cases hf : fav l p = true
  · rw [if_pos hf] at h ⊢
    cases hd : drv p [] l with
    | none => rw [hd] at h; cases h
    | some r =>
      have := drv_length p l [] r hd
      exact ⟨hf, rfl, by simpa [drvR] using this⟩
  · rw [if_neg hf] at h
    cases h
theorem cars_none (l : List Int) (p : Int) (h : (carsR l p).2 = false) : (carsR l p).1 = [] := by
  unfold carsR at h ⊢
  by_cases hf : fav l p = true
  · rw [if_pos hf] at h ⊢
    cases hd : drv p [] l with
    | none => rfl
    | some r => rw [hd] at h; cases h
  · rw [if_neg hf]
theorem fav_perm {l m : List Int} (h : l.Perm m) (p : Int) (hf : fav l p = true) : fav m p = true := by
  have h1 := (fav_iff l p).mp hf
  exact (fav_iff m p).mpr ⟨h1.1, h1.2.1, by rw [← h.length_eq]; exact h1.2.2.1, fun x hx => h1.2.2.2 x (h.mem_iff.mpr hx)⟩
/-- two neighbours exchanged -/
theorem cars_swap (l : List Int) (p : Int) (i : Nat) (h : i + 1 < l.length) : (carsR ((l.set i (l[i + 1]'h)).set (i + 1) (l[i]'(by omega))) p).2 = (carsR l p).2 ∧ (carsR l p).1.Perm (carsR ((l.set i (l[i + 1]'h)).set (i + 1) (l[i]'(by omega))) p).1 := by
  have hp := swap_perm l i h
  obtain ⟨h1, h2⟩ := swap_drv p l i h
  generalize (l.set i (l[i + 1]'h)).set (i + 1) (l[i]'(by omega)) = m at hp h1 h2
  unfold carsR
  by_cases hf : fav l p = true
  · rw [if_pos hf, if_pos (fav_perm hp.symm p hf)]
    cases hd : drv p [] l with
    | none =>
      rw [h2 hd]
      exact ⟨rfl, List.Perm.refl _⟩
    | some r =>
      obtain ⟨r', e, hr⟩ := h1 r hd
      rw [e]
      exact ⟨rfl, hr⟩
  · rw [if_neg hf, if_neg (fun hm => hf (fav_perm hp p hm))]
    exact ⟨rfl, List.Perm.refl _⟩
theorem dist_bounds (l : List Int) (p : Int) (h : (carsR l p).2 = true) : ∀ i (h1 : i < (distR l p).1.length) (h2 : i < (carsR l p).1.length) (h3 : i < l.length), (distR l p).1[i] = (carsR l p).1[i] - l[i] ∧ l[i] ≤ (carsR l p).1[i] ∧ (carsR l p).1[i] < p ∧ 0 ≤ l[i] ∧ p ≤ 12 := by
  intro i h1 h2 h3
  obtain ⟨hf, hd, hl⟩ := cars_parts l p h
  have hff := (fav_iff l p).mp hf
  have hx := hff.2.2.2 l[i] (List.getElem_mem _)
  obtain ⟨s, es, hs⟩ := drv_tail p l [] _ hd
  rw [List.nil_append] at es
  have ha := drv_at p l [] _ hd i h3 (by simpa using h2)
  simp only [List.length_nil, Nat.zero_add] at ha
  have hle := ptLe_get l s hs i h3 (by rw [← es]; exact h2)
  have e : s[i]'(by rw [← es]; exact h2) = (carsR l p).1[i] := by simp only [es]
  rw [e] at hle
  refine ⟨?_, hle, ha.2, hx.1, hff.2.1⟩
  have := distL_get (carsR l p).1 l i h2 h3 h1
  rw [show (distR l p).1[i] = (distL (carsR l p).1 l)[i] from rfl, this]
  exact wrap_id _ (by omega) (by omega)
theorem dist_len (l : List Int) (p : Int) (h : (carsR l p).2 = true) : (distR l p).1.length = l.length := by
  obtain ⟨_, _, hl⟩ := cars_parts l p h
  simp only [distR, distL, List.length_zipWith]
  omega
theorem tot_is (l : List Int) (p : Int) (h : (carsR l p).2 = true) : (totR l p).1 = isum (carsR l p).1 - isum l := by
  obtain ⟨hf, hd, hl⟩ := cars_parts l p h
  have hff := (fav_iff l p).mp hf
  have hdl := dist_len l p h
  have hb := dist_bounds l p h
  have hz : (distR l p).1 = List.zipWith (fun a b => a - b) (carsR l p).1 l := by
    apply List.ext_getElem
    · rw [hdl, List.length_zipWith]
      omega
    · intro i h1 h2
      rw [List.getElem_zipWith]
      exact (hb i h1 (by omega) (by omega)).1
  have e : (totR l p).1 = sumW 0 (distR l p).1 := by
    unfold totR
    rw [if_pos (show (distR l p).2 = true from h)]
  rw [e, sumW_isum _ 0 (fun x hx => by
    obtain ⟨i, hi, rfl⟩ := List.getElem_of_mem hx
    have := hb i hi (by omega) (by omega)
    omega) (by omega) (by omega) (by omega), hz, isum_zip _ _ hl]
  omega
theorem tot_snd (l : List Int) (p : Int) : (totR l p).2 = (carsR l p).2 := by
  unfold totR
  have e : (distR l p).2 = (carsR l p).2 := rfl
  cases h : (carsR l p).2 with
  | true => rw [e, h]; rfl
  | false => rw [e, h]; rfl
theorem tot_none (l : List Int) (p : Int) (h : (carsR l p).2 = false) : (totR l p).1 = 0 := by
  unfold totR
  rw [show (distR l p).2 = (carsR l p).2 from rfl, h]
  rfl
theorem lucky_snd (l : List Int) (p : Int) : (luckyR l p).2 = (carsR l p).2 := by
  unfold luckyR
  have e : (distR l p).2 = (carsR l p).2 := rfl
  cases h : (carsR l p).2 with
  | true => rw [e, h]; rfl
  | false => rw [e, h]; rfl
theorem idxs_mem (P : Int → Bool) : ∀ (l : List Int) (k : Nat) (j : Nat), (((k + j : Nat)) : Int) ∈ idxsFrom_lc P l k ↔ ∃ h : j < l.length, P l[j] = true
  | [], k, j => by simp [idxsFrom_lc]
  | x :: l, k, j => by
    have low : ∀ (l : List Int) (k : Nat) (y : Int), y ∈ idxsFrom_lc P l k → (k : Int) ≤ y := by
      intro l
      induction l with
      | nil => intro k y h; simp [idxsFrom_lc] at h
      | cons z l ih =>
        intro k y h
        simp only [idxsFrom_lc] at h
        split at h
        · rcases List.mem_cons.mp h with h | h
          · omega
          · have := ih _ _ h
            omega
        · have := ih _ _ h
          omega
    simp only [idxsFrom_lc]
    cases j with
    | zero =>
      by_cases c : P x = true
      · rw [if_pos c]
        exact ⟨fun _ => ⟨by simp, c⟩, fun _ => by simp⟩
      · rw [if_neg c]
        constructor
        · intro h
          have := low _ _ _ h
          omega
        · rintro ⟨_, h⟩
          exact absurd h c
    | succ j =>
      have ih := idxs_mem P l (k + 1) j
      have e : ((k + (j + 1) : Nat) : Int) = ((k + 1 + j : Nat) : Int) := by omega
      rw [e]
      have red : ((((k + 1 + j : Nat)) : Int) ∈ (if P x = true then (k : Int) :: idxsFrom_lc P l (k + 1) else idxsFrom_lc P l (k + 1))) ↔ (((k + 1 + j : Nat)) : Int) ∈ idxsFrom_lc P l (k + 1) := by
        by_cases c : P x = true
        · rw [if_pos c, List.mem_cons]
          exact ⟨fun h => h.elim (fun h => by omega) (fun h => h), fun h => .inr h⟩
        · rw [if_neg c]
      rw [red, ih]
      simp only [List.length_cons, List.getElem_cons_succ]
      exact ⟨fun ⟨h1, h2⟩ => ⟨by omega, h2⟩, fun ⟨h1, h2⟩ => ⟨by omega, h2⟩⟩
theorem idxs_count (P : Int → Bool) : ∀ (l : List Int) (k : Nat), (idxsFrom_lc P l k).length = l.countP P
  | [], _ => rfl
  | x :: l, k => by
    simp only [idxsFrom_lc, List.countP_cons]
    split
    · rename_i h
      rw [List.length_cons, idxs_count P l]
    · rename_i h
      rw [idxs_count P l]
      omega
theorem stay_l0 (l : List Int) (p : Int) (hok : (carsR l p).2 = true) (d : Nat) : ∀ (i c : Nat), i + d = l.length → c + ((distR l p).1.drop i).countP (fun x => x == 0) = (distR l p).1.countP (fun x => x == 0) → Ev (fun k => laws_FnTakenPlacesStay.l0 k l (carsR l p).1 (takenR l p).1 (distR l p).1 (totR l p).1 (luckyR l p).1 (c : Int) (carsR l p).1 ((carsR l p).1.length : Int) (i : Int)) true := by
  obtain ⟨hf, hd, hl⟩ := cars_parts l p hok
  have hff := (fav_iff l p).mp hf
  have hdl := dist_len l p hok
  have hb := dist_bounds l p hok
  have hP := drv_park p l [] [] (carsR l p).1 (fun x h => (hff.2.2.2 x h).1) (Park.nil p) hd
  have hlk : (luckyR l p).1 = idxsFrom_lc (fun x => x == 0) (distR l p).1 0 := by
    unfold luckyR
    rw [if_pos (show (distR l p).2 = true from hok)]
  have hlkl : (luckyR l p).1.length = (distR l p).1.countP (fun x => x == 0) := by rw [hlk, idxs_count]
  have hcl : (distR l p).1.countP (fun x => x == 0) ≤ (distR l p).1.length := List.countP_le_length
  have htot : (totR l p).1 = sumW 0 (distR l p).1 := by
    unfold totR
    rw [if_pos (show (distR l p).2 = true from hok)]
  have htl : (takenR l p).1.length = l.length := by
    unfold takenR
    rw [Srt.srt_len]
    exact hl
  induction d with
  | zero =>
    intro i c hi hc
    rw [List.drop_of_length_le (by omega)] at hc
    simp only [List.countP_nil] at hc
    refine Ev.step (fun k => laws_FnTakenPlacesStay.l0.eq_2 ..) (ev_neg (by omega) (Ev.bind (laws_jSum.ev _ (by omega)) (ev_pos htot (ev_pos (by omega) (ev_val (Ev.now _) ?_)))))
    rw [htl]
    simp
  | succ d ih =>
    intro i c hi hc
    have hi1 : i < (carsR l p).1.length := by omega
    have hi2 : i < l.length := by omega
    have hi3 : i < (distR l p).1.length := by omega
    obtain ⟨e1, e2, e3, e4, e5⟩ := hb i hi3 hi1 hi2
    have hat := drv_at p l [] _ hd i hi2 (by simpa using hi1)
    simp only [List.length_nil, Nat.zero_add] at hat
    have hn : (carsR l p).1[i] ∉ (carsR l p).1.take i := by
      intro hm
      have hnd := hP.nodup
      rw [← List.take_append_drop i (carsR l p).1, List.drop_eq_getElem_cons hi1, List.nodup_append] at hnd
      exact hnd.2.2 _ hm _ List.mem_cons_self rfl
    have htk : (carsR l p).1[i] ∈ (takenR l p).1 := (srt_perm _).mem_iff.mpr (List.getElem_mem _)
    have hlm : decide (((i : Nat) : Int) ∈ (luckyR l p).1) = ((distR l p).1[i] == 0) := by
      have := idxs_mem (fun x => x == 0) (distR l p).1 0 i
      rw [Nat.zero_add] at this
      rw [hlk, Bool.eq_iff_iff, decide_eq_true_eq, this]
      exact ⟨fun ⟨_, h⟩ => h, fun h => ⟨hi3, h⟩⟩
    rw [List.drop_eq_getElem_cons hi3, List.countP_cons] at hc
    have hcarl : (carsR l p).1.length ≤ 9 := by have := hff.2.2.1; omega
    have hlul : (luckyR l p).1.length ≤ 9 := by omega
    -- the inner loop: all places between are taken already
    have L1 : ∀ (m : Nat) (q : Int), ((carsR l p).1[i] - q).toNat = m → l[i] ≤ q → q ≤ (carsR l p).1[i] → Ev (fun k => laws_FnTakenPlacesStay.l1 k l (carsR l p).1 (takenR l p).1 (distR l p).1 (totR l p).1 (luckyR l p).1 (c : Int) (i : Int) (carsR l p).1[i] q (carsR l p).1 ((carsR l p).1.length : Int) (i : Int)) true := by
      intro m
      induction m with
      | zero =>
        intro q hm h1 h2
        refine Ev.step (fun k => laws_FnTakenPlacesStay.l1.eq_2 ..) (ev_neg (by omega) (ev_pos (by omega) (ev_pos (by omega) ?_)))
        rw [rd_nat _ i hi3, wrap_nat i (by omega)]
        by_cases z : (distR l p).1[i] = 0
        · rw [if_pos (by simp [z])] at hc
          refine ev_pos z ?_
          rw [wrap_nat c (by omega)]
          exact ih (i + 1) (c + 1) (by omega) (by omega)
        · rw [if_neg (by simp [z])] at hc
          exact ev_neg z (ih (i + 1) c (by omega) (by omega))
      | succ m ihm =>
        intro q hm h1 h2
        have hq : q ∈ (carsR l p).1.take i := land_between _ p _ l[i] rfl q h1 (by rw [← hat.1]; omega)
        refine Ev.step (fun k => laws_FnTakenPlacesStay.l1.eq_2 ..) (ev_pos (by omega) (ev_pos (by omega) (ev_pos (by omega) ?_)))
        rw [Int.toNat_natCast]
        refine Ev.bind (laws_jHas.ev _ q (by rw [List.length_take]; omega)) ?_
        rw [decide_eq_true hq]
        refine ev_pos rfl ?_
        rw [wrap_id (q + 1) (by omega) (by omega)]
        exact ihm (q + 1) (by omega) (by omega) (by omega)
    have J4 : Ev (fun k => laws_FnTakenPlacesStay.j4 k l (carsR l p).1 (takenR l p).1 (distR l p).1 (totR l p).1 (luckyR l p).1 (c : Int) (i : Int) (carsR l p).1[i] (carsR l p).1 ((carsR l p).1.length : Int) (i : Int) false) true := by
      refine Ev.step (fun k => laws_FnTakenPlacesStay.j4.eq_2 ..) (ev_neg (by decide) (ev_pos (by omega) (ev_pos (by omega) ?_)))
      rw [rd_nat l i hi2]
      exact L1 _ l[i] rfl (Int.le_refl _) e2
    refine Ev.step (fun k => laws_FnTakenPlacesStay.l0.eq_2 ..) (ev_pos (by omega) (ev_pos (by omega) (ev_pos (by omega) (ev_pos (by omega) (ev_pos (by omega) ?_)))))
    rw [rd_nat _ i hi1, rd_nat l i hi2, rd_nat _ i hi3, wrap_id ((carsR l p).1[i] - l[i]) (by omega) (by omega)]
    refine ev_pos e1.symm (ev_neg (by omega) (ev_pos (by omega) ?_))
    rw [Int.toNat_natCast]
    refine Ev.bind (laws_jHas.ev _ _ (by rw [List.length_take]; omega)) ?_
    rw [decide_eq_false hn]
    refine ev_neg (by decide) (Ev.bind (laws_jHas.ev _ _ (by omega)) ?_)
    rw [decide_eq_true htk]
    refine ev_pos rfl (Ev.bind (laws_jHas.ev _ _ (by omega)) ?_)
    rw [hlm, show (((distR l p).1[i] == 0) != ((distR l p).1[i] == 0)) = false by simp]
    exact J4
set_option maxHeartbeats 4000000 in
theorem FnTakenPlacesStay : laws_FnTakenPlacesStay.Pure := by
  intro l0 l1 _ _ hb0 _ _ hb1
  refine Ev.rounds ?_
  simp only [laws_FnTakenPlacesStay.f]
  rcases laws_big.is l0 l1 with hB | ⟨hB, hlen⟩
  · exact Ev.bind (ev_eq hB) (ev_pos rfl (Ev.now _))
  have b0 : bytesOk l0 := ⟨fun x hx => u8_of_wf x (hb0 x hx), by omega⟩
  have b1 : bytesOk l1 := ⟨fun x hx => u8_of_wf x (hb1 x hx), by omega⟩
  obtain ⟨l, p, D, hl⟩ := spec_DrawDriveCars.ok l0 b0
  have hcl := carsR_len l p
  have htl := takenR_len l p
  have J2 : Ev (fun k => laws_FnTakenPlacesStay.j2 k l (carsR l p).1 (carsR l p).2 (takenR l p).1 (distR l p).1 (totR l p).1 (luckyR l p).1) true := by
    refine Ev.step (fun k => laws_FnTakenPlacesStay.j2.eq_2 ..) (ev_ite (fun c => ?_) (fun _ => Ev.now _))
    exact stay_l0 l p c l.length 0 0 (by omega) (by simp)
  have J1 : Ev (fun k => laws_FnTakenPlacesStay.j1 k l1 l p (carsR l p).1 (carsR l p).2 (takenR l p).1 (takenR l p).2 (distR l p).1 (totR l p).1 (totR l p).2 (luckyR l p).1 false) true := by
    refine Ev.step (fun k => laws_FnTakenPlacesStay.j1.eq_2 ..) (ev_neg (by decide) (ev_ite (fun c => ?_) (fun _ => J2)))
    obtain ⟨r, N, r0, r1⟩ := laws_numberOf.ev l1 b1.2 b1.1
    have t0 := Int.tmod_nonneg ((l.length : Int) - 1) r0
    have t1 := Int.tmod_lt_of_pos r (show 0 < (l.length : Int) - 1 by omega)
    rw [wrap_id ((l.length : Int) - 1) (by omega) (by omega)]
    refine Ev.bind N (ev_neg (by omega) ?_)
    generalize Int.tmod r ((l.length : Int) - 1) = t at t0 t1
    obtain ⟨t, rfl⟩ : ∃ n : Nat, t = (n : Int) := ⟨t.toNat, by omega⟩
    have ht : t + 1 < l.length := by omega
    have em := laws_jSwapped.ev l t ht (by omega)
    have hperm := swap_perm l t ht
    obtain ⟨s1, s2⟩ := cars_swap l p t ht
    generalize (l.set t (l[t + 1]'ht)).set (t + 1) (l[t]'(by omega)) = m at em hperm s1 s2
    have hml : m.length ≤ 9 := by rw [hperm.length_eq]; omega
    have htm := takenR_len m p
    have eT1 : (takenR m p).2 = (takenR l p).2 := s1
    have eT2 : (takenR m p).1 = (takenR l p).1 := srt_same s2.symm
    have eS1 : (totR m p).2 = (totR l p).2 := by rw [tot_snd, tot_snd, s1]
    have eS2 : (totR m p).1 = (totR l p).1 := by
      cases h : (carsR l p).2 with
      | true => rw [tot_is m p (by rw [s1, h]), tot_is l p h, isum_perm s2, isum_perm hperm]
      | false => rw [tot_none m p (by rw [s1, h]), tot_none l p h]
    refine Ev.bind em (Ev.bind (impl_TakenPlaces.ev m p (by omega)) (Ev.bind (impl_TotalDistance.ev m p (by omega)) (ev_neg (by rw [eT1]; simp) ?_)))
    rw [eT2]
    exact Ev.bind (laws_jSame.ev_self _ (by omega)) (ev_pos rfl (ev_neg (by rw [eS1]; simp) (ev_pos eS2 J2)))
  have J0 : Ev (fun k => laws_FnTakenPlacesStay.j0 k l1 l p (carsR l p).1 (carsR l p).2 false) true := by
    refine Ev.step (fun k => laws_FnTakenPlacesStay.j0.eq_2 ..) (ev_neg (by decide) (Ev.bind (impl_TakenPlaces.ev l p (by omega)) (Ev.bind (impl_DistancesOf.ev l p (by omega)) (Ev.bind (impl_TotalDistance.ev l p (by omega)) (Ev.bind (impl_LuckyCars.ev l p (by omega)) (Ev.bind (impl_DoAllPark.ev l p (by omega)) ?_))))))
    refine ev_neg (by rw [show (takenR l p).2 = (carsR l p).2 from rfl]; simp) (ev_neg (by rw [show (distR l p).2 = (carsR l p).2 from rfl]; simp) (ev_neg (by rw [tot_snd]; simp) (ev_neg (by rw [lucky_snd]; simp) (Ev.bind (ev_eq (impl_AreFavourites.is l p (by omega))) ?_))))
    by_cases hf : fav l p = true
    · rw [if_pos hf, hf]
      refine ev_neg (by simp) (ev_pos rfl ?_)
      have e : (carsR l p).2 = allPark l p := by
        unfold carsR
        rw [if_pos hf, drvR_snd]
      rw [e, show (allPark l p != allPark l p) = false by simp, ← e]
      exact J1
    · rw [if_neg hf]
      rw [Bool.not_eq_true] at hf
      rw [hf]
      exact ev_neg (by decide) (ev_neg (by decide) J1)
  refine Ev.bind (ev_eq hB) (ev_neg (by decide) (Ev.bind D (Ev.bind (impl_DriveCars.ev l p (by omega)) (Ev.bind (spec_DriveCars.ev l p (by omega)) (ev_neg (by simp) (Ev.bind (laws_jSame.ev_self _ (by omega)) ?_))))))
  exact J0

end Go.Proofs.Ytdiohjdfiambhaa.Pure
