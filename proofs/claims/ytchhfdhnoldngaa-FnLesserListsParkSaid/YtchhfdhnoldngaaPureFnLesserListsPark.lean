/- Proved here: the pure part of law FnLesserListsPark: the Lean function printed for it answers true at all its inputs. -/
import Derived.Test.YtchhfdhnoldngaaBFnLesserListsPark
namespace Go.Proofs.Ytchhfdhnoldngaa.Pure
open Go.RowKit Go.Proofs.Ytchhfdhnoldngaa.QFnLesserListsPark Go.Proofs.YtchhfdhnoldngaaW.PrintWords Go.Proofs.YtchhfdhnoldngaaW.PrintLast Go.Proofs.Ytchhfdhnoldngaa.Math
set_option linter.unusedVariables false
set_option linter.unusedSimpArgs false

theorem leAll_iff : ∀ (a b : List Int), leAll a b = true ↔ ptLe a b
  | [], [] => by simp [leAll, ptLe]
  | x :: a, y :: b => by
    simp only [leAll, ptLe, Bool.and_eq_true, decide_eq_true_eq, leAll_iff a b]
  | [], y :: b => by simp [leAll, ptLe]
  | x :: a, [] => by simp [leAll, ptLe]
theorem isParking_pk (l : List Int) (h : isPk l = true) : Ev (fun k => impl_IsParking.f k l) (true, true) := by
  have hc : (decide (l.length ≤ 8) && inAll 0 99 l) = true := by
    cases e : (decide (l.length ≤ 8) && inAll 0 99 l) with
    | true => rfl
    | false =>
      rw [isPk_no_cars l (by rw [e]; decide)] at h
      cases h
  have h8 := ((isPk_parts l).mp h).1
  refine ev_val (impl_IsParking.ev l (by omega)) ?_
  rw [if_pos hc, h]
theorem isBelow_pk (a b : List Int) (ha : isPk a = true) (hb : isPk b = true) : Ev (fun k => impl_IsBelow.f k a b) (leAll a b, true) := by
  have h1 := ((isPk_parts a).mp ha).1
  have h2 := ((isPk_parts b).mp hb).1
  refine ev_val (impl_IsBelow.ev a b (by omega) (by omega)) ?_
  unfold isBelowR
  rw [if_pos ha, if_pos hb]
theorem mixL_len (low : Bool) (x y : List Int) (h : x.length = y.length) : (mixL low x y).length = x.length := by
  unfold mixL
  rw [List.length_zipWith]
  omega
theorem mixL_get (low : Bool) (x y : List Int) (i : Nat) (h : i < (mixL low x y).length) (h1 : i < x.length) (h2 : i < y.length) : (mixL low x y)[i] = mix1 low x[i] y[i] := by
  simp only [mixL, List.getElem_zipWith]
theorem mixL_low (x y : List Int) (h : x.length = y.length) : ptLe (mixL true x y) x := by
  refine ptLe_of_get _ _ (mixL_len true x y h) (fun i h1 h2 => ?_)
  rw [mixL_get true x y i h1 h2 (by omega)]
  simp only [mix1, if_true]
  split <;> omega
theorem mixL_high (x y : List Int) (h : x.length = y.length) : ptLe x (mixL false x y) := by
  refine ptLe_of_get _ _ (mixL_len false x y h).symm (fun i h1 h2 => ?_)
  rw [mixL_get false x y i h2 h1 (by omega)]
  simp only [mix1, Bool.false_eq_true, if_false]
  split <;> omega
theorem mixL_pos (low : Bool) (x y : List Int) (hx : ∀ z ∈ x, 0 ≤ z) (hy : ∀ z ∈ y, 0 ≤ z) : ∀ z ∈ mixL low x y, 0 ≤ z := by
  intro z hz
  unfold mixL at hz
  obtain ⟨i, hi, rfl⟩ := List.getElem_of_mem hz
  rw [List.getElem_zipWith]
  rw [List.length_zipWith] at hi
  have h1 := hx (x[i]'(by omega)) (List.getElem_mem _)
  have h2 := hy (y[i]'(by omega)) (List.getElem_mem _)
  unfold mix1
  split <;> split <;> omega
/-- the last loop: any list between is a parking function -/
theorem lesser_loop (l1 a b : List Int) (hl : a.length = b.length) (h9 : a.length ≤ 8) (ha : ∀ x ∈ a, 0 ≤ x ∧ x < 8) (hb : ∀ x ∈ b, 0 ≤ x ∧ x < 8) (hab : ∀ i (h1 : i < a.length) (h2 : i < b.length), a[i] ≤ b[i]) (hk : isPk b = true) (r : Int) (N : Ev (fun k => laws_numberOf.f k l1) r) (r0 : 0 ≤ r) (r1 : r < 1000003) (d : Nat) : ∀ (i : Nat) (c : List Int), i + d = a.length → c.length = i → (∀ j (h1 : j < c.length) (h2 : j < b.length), 0 ≤ c[j] ∧ c[j] ≤ b[j]) → Ev (fun k => laws_FnLesserListsPark.l0 k l1 b c a (a.length : Int) (i : Int)) true := by
  induction d with
  | zero =>
    intro i c hi hc hinv
    refine Ev.step (fun k => laws_FnLesserListsPark.l0.eq_2 ..) (ev_neg (by omega) ?_)
    have hp : isPk c = true := isPk_ptLe c b (ptLe_of_get c b (by omega) (fun i h1 h2 => (hinv i h1 h2).2)) (fun x hx => by
      obtain ⟨j, hj, rfl⟩ := List.getElem_of_mem hx
      exact (hinv j hj (by omega)).1) hk
    exact Ev.bind (isParking_pk c hp) (ev_pos rfl (Ev.now _))
  | succ d ih =>
    intro i c hi hc hinv
    have h1 := ha (a[i]'(by omega)) (List.getElem_mem _)
    have h2 := hb (b[i]'(by omega)) (List.getElem_mem _)
    have h3 := hab i (by omega) (by omega)
    have e1 : wrap64 ((b[i]'(by omega)) - a[i]'(by omega)) = (b[i]'(by omega)) - a[i]'(by omega) := wrap_id _ (by omega) (by omega)
    have e2 : wrap64 ((b[i]'(by omega)) - (a[i]'(by omega)) + 1) = (b[i]'(by omega)) - (a[i]'(by omega)) + 1 := wrap_id _ (by omega) (by omega)
    have e3 : wrap64 (r + (i : Int)) = r + (i : Int) := wrap_id _ (by omega) (by omega)
    have t0 := Int.tmod_nonneg ((b[i]'(by omega)) - (a[i]'(by omega)) + 1) (show 0 ≤ r + (i : Int) by omega)
    have t1 := Int.tmod_lt_of_pos (r + (i : Int)) (show 0 < (b[i]'(by omega)) - (a[i]'(by omega)) + 1 by omega)
    refine Ev.step (fun k => laws_FnLesserListsPark.l0.eq_2 ..) ?_
    refine ev_pos (by omega) (ev_pos (by omega) (ev_pos (by omega) (Ev.bind N (ev_pos (by omega) ?_))))
    rw [rd_nat a i (by omega), rd_nat b i (by omega), e1, e2, e3, wrap_nat i (by omega)]
    generalize Int.tmod (r + (i : Int)) ((b[i]'(by omega)) - (a[i]'(by omega)) + 1) = t at t0 t1
    rw [wrap_id ((a[i]'(by omega)) + t) (by omega) (by omega)]
    refine ev_neg (by omega) (ev_pos (by omega) ?_)
    refine ih (i + 1) _ (by omega) (by simp; omega) (fun j h4 h5 => ?_)
    by_cases hj : j < c.length
    · rw [List.getElem_append_left hj]
      exact hinv j hj h5
    · rw [List.length_append, List.length_cons, List.length_nil] at h4
      have ej : j = i := by omega
      subst ej
      rw [List.getElem_append_right (by omega)]
      simp only [List.getElem_singleton]
      omega
theorem lesser_j3 (l1 : List Int) (b1 : bytesOk l1) (a b : List Int) : Ev (fun k => laws_FnLesserListsPark.j3 k l1 a b (isBelowR a b).1) true := by
  refine Ev.step (fun k => laws_FnLesserListsPark.j3.eq_2 ..) (ev_ite (fun h => ?_) (fun _ => Ev.now _))
  unfold isBelowR at h
  by_cases pa : isPk a = true
  · by_cases pb : isPk b = true
    · rw [if_pos pa, if_pos pb] at h
      have hp := (leAll_iff a b).mp h
      obtain ⟨a8, ax, _⟩ := (isPk_parts a).mp pa
      obtain ⟨b8, bx, _⟩ := (isPk_parts b).mp pb
      obtain ⟨r, N, r0, r1⟩ := laws_numberOf.ev l1 b1.2 b1.1
      exact lesser_loop l1 a b (ptLe_len a b hp) a8 (fun x hx => by have := ax x hx; omega) (fun x hx => by have := bx x hx; omega) (ptLe_get a b hp) pb r N r0 r1 a.length 0 [] (by omega) rfl (fun j h1 h2 => by simp at h1)
    · rw [if_pos pa, if_neg pb] at h
      cases h
  · rw [if_neg pa] at h
    cases h
theorem lesser_j2 (l1 : List Int) (b1 : bytesOk l1) (a b x y : List Int) (low : Bool) : Ev (fun k => laws_FnLesserListsPark.j2 k l1 a b (isBelowR a b).1 x low (mixR x y low).1 (mixR x y low).2 false) true := by
  have J := lesser_j3 l1 b1 a b
  refine Ev.step (fun k => laws_FnLesserListsPark.j2.eq_2 ..) (ev_neg (by decide) (ev_ite (fun h => ?_) (fun _ => J)))
  unfold mixR at h ⊢
  by_cases px : isPk x = true
  · by_cases py : isPk y = true
    · by_cases hl : x.length = y.length
      · by_cases pm : isPk (mixL low x y) = true
        · simp only [if_pos px, if_pos py, if_pos hl, if_pos pm]
          refine Ev.bind (isBelow_pk x _ px pm) (Ev.bind (isBelow_pk _ x pm px) (ev_pos rfl (ev_pos rfl ?_)))
          cases low with
          | true => exact ev_pos rfl (ev_pos ((leAll_iff _ _).mpr (mixL_low x y hl)) J)
          | false => exact ev_neg (by decide) (ev_pos ((leAll_iff _ _).mpr (mixL_high x y hl)) J)
        · simp only [if_pos px, if_pos py, if_pos hl, if_neg pm] at h
          cases h
      · simp only [if_pos px, if_pos py, if_neg hl] at h
        cases h
    · simp only [if_pos px, if_neg py] at h
      cases h
  · simp only [if_neg px] at h
    cases h
theorem lesser_j1 (l1 : List Int) (b1 : bytesOk l1) (a b x y : List Int) (low : Bool) (hx : x.length ≤ 9) (hy : y.length ≤ 9) : Ev (fun k => laws_FnLesserListsPark.j1 k l1 a b (isBelowR a b).1 x y low (mixR x y low).1 (mixR x y low).2 false) true := by
  have J := lesser_j2 l1 b1 a b x y low
  refine Ev.step (fun k => laws_FnLesserListsPark.j1.eq_2 ..) (ev_neg (by decide) (Ev.bind (impl_IsParking.ev x (by omega)) (Ev.bind (impl_IsParking.ev y (by omega)) ?_)))
  refine ev_ite (fun c1 => ev_ite (fun c2 => ev_ite (fun c3 => ev_ite (fun c4 => ev_ite (fun c5 => ev_ite (fun c6 => ?_) (fun _ => J)) (fun _ => J)) (fun _ => J)) (fun _ => J)) (fun _ => J)) (fun _ => J)
  have px : isPk x = true := by
    by_cases e : (decide (x.length ≤ 8) && inAll 0 99 x) = true
    · rw [if_pos e] at c3
      exact c3
    · rw [if_neg e] at c1
      cases c1
  have py : isPk y = true := by
    by_cases e : (decide (y.length ≤ 8) && inAll 0 99 y) = true
    · rw [if_pos e] at c4
      exact c4
    · rw [if_neg e] at c2
      cases c2
  have hl : x.length = y.length := by omega
  have hm : (!(mixR x y low).2) = false := by
    rw [c6]
    have pm : isPk (mixL true x y) = true := isPk_ptLe _ x (mixL_low x y hl) (mixL_pos true x y (fun z hz => (((isPk_parts x).mp px).2.1 z hz).1) (fun z hz => (((isPk_parts y).mp py).2.1 z hz).1)) px
    unfold mixR
    simp only [if_pos px, if_pos py, if_pos hl, if_pos pm, Bool.not_true]
  rw [hm]
  exact J
set_option maxHeartbeats 4000000 in
theorem FnLesserListsPark : laws_FnLesserListsPark.Pure := by
  intro l0 l1 _ _ hb0 _ _ hb1
  refine Ev.rounds ?_
  simp only [laws_FnLesserListsPark.f]
  rcases laws_big.is l0 l1 with hB | ⟨hB, hlen⟩
  · exact Ev.bind (ev_eq hB) (ev_pos rfl (Ev.now _))
  have b0 : bytesOk l0 := ⟨fun x hx => u8_of_wf x (hb0 x hx), by omega⟩
  have b1 : bytesOk l1 := ⟨fun x hx => u8_of_wf x (hb1 x hx), by omega⟩
  obtain ⟨a, b, D, ha, hb⟩ := spec_DrawIsBelow.ok l0 b0
  obtain ⟨x, y, low, D2, hx, hy⟩ := spec_DrawMixOf.ok l1 b1
  have J1 := lesser_j1 l1 b1 a b x y low hx hy
  have hml := mixR_len x y low
  have J0 : Ev (fun k => laws_FnLesserListsPark.j0 k l1 a b (isBelowR a b).1 false) true := by
    refine Ev.step (fun k => laws_FnLesserListsPark.j0.eq_2 ..) (ev_neg (by decide) (Ev.bind D2 (Ev.bind (impl_MixOf.ev x y low (by omega) (by omega)) (Ev.bind (spec_MixOf.ev x y low (by omega) (by omega)) (ev_neg (by simp) (Ev.bind (laws_jSame.ev_self _ (by omega)) ?_))))))
    exact J1
  refine Ev.bind (ev_eq hB) (ev_neg (by decide) (Ev.bind D (Ev.bind (impl_IsBelow.ev a b (by omega) (by omega)) (Ev.bind (spec_IsBelow.ev a b (by omega) (by omega)) (ev_neg (by simp) ?_)))))
  rw [show ((isBelowR a b).1 != (isBelowR a b).1) = false by simp]
  exact J0

end Go.Proofs.Ytchhfdhnoldngaa.Pure
