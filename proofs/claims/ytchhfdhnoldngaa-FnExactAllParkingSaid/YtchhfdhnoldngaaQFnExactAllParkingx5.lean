/- Proved here: each Go function named below, when called, returns what the Lean function of its name computes, wherever that function answers. Text written by this session's program over the kit's print; law FnExactAllParking. -/
import Derived.Test.YtchhfdhnoldngaaQFnExactAllParkingx0
import Derived.Test.YtchhfdhnoldngaaQFnExactAllParkingx2
import Derived.Test.YtchhfdhnoldngaaQFnExactAllParkingx4
namespace Go.Proofs.Ytchhfdhnoldngaa.QFnExactAllParking
open Go.RowKit Go.Proofs.YtchhfdhnoldngaaW.PrintWords Go.Proofs.YtchhfdhnoldngaaW.PrintLast Go.Proofs.YtchhfdhnoldngaaW.PrintMore
attribute [local go_sem] max2_int min2_int max_two min_two max_three min_three max_four min_four   -- for this text's walks alone
set_option linter.unusedVariables false
set_option linter.unusedSimpArgs false

/-! ### laws_heldIntS: function 20 -/
def laws_heldIntS.l0 : Nat → List Int → Int → Int → Option (Int)
  | 0, _, _, _ => none
  | k + 1, x0, x1, x5 => if x5 < (x0.length : Int) then (if 0 ≤ x5 then (if (rd x0 x5) = x1 then (laws_heldIntS.l0 k x0 (wrap64 (x1 + 1)) (wrap64 (x5 + 1))) else (some (-1))) else (none)) else (some x1)
def laws_heldIntS.f (k : Nat) (l0 : List Int) (a1 : Int) : Option (Int) := laws_heldIntS.l0 k l0 a1 0
theorem laws_heldIntS.mono_l : ∀ k, (∀ y0 y1 y2, LeO (laws_heldIntS.l0 k y0 y1 y2) (laws_heldIntS.l0 (k + 1) y0 y1 y2))
  | 0 => fun _ _ _ r h => by simp [laws_heldIntS.l0] at h
  | k + 1 => by
    have ih0 := laws_heldIntS.mono_l k
    · intro y0 y1 y2
      unfold laws_heldIntS.l0
      repeat' first
      | (with_reducible exact ih0 _ _ _)
      | (with_reducible exact LeO.refl _)
      | (with_reducible exact LeO.none _)
      | (with_reducible refine LeO.ite ?_ ?_)
      | (with_reducible refine LeO.bind ?_ (fun _ => ?_))
      | exact ih0 _ _ _
      | exact LeO.none _
      | refine LeO.ite ?_ ?_
      | refine LeO.bind ?_ (fun _ => ?_)
theorem laws_heldIntS.mono : ∀ a0 a1 k, LeO (laws_heldIntS.f k a0 a1) (laws_heldIntS.f (k + 1) a0 a1) := by
  intro a0 a1 k
  have ih0 := laws_heldIntS.mono_l k
  unfold laws_heldIntS.f
  repeat' first
      | (with_reducible exact ih0 _ _ _)
      | (with_reducible exact LeO.refl _)
      | (with_reducible exact LeO.none _)
      | (with_reducible refine LeO.ite ?_ ?_)
      | (with_reducible refine LeO.bind ?_ (fun _ => ?_))
      | exact ih0 _ _ _
      | exact LeO.none _
      | refine LeO.ite ?_ ?_
      | refine LeO.bind ?_ (fun _ => ?_)
set_option maxHeartbeats 8000000 in
set_option maxRecDepth 100000 in
theorem laws_heldIntS.calls (k : Nat) (A0 : Option Addr) (c0 : Nat) (l0 : List Int) (a1 : Int) (r : Int) (w : World) (hr0 : Kd.C (Kd.int .i64) w A0 l0.length l0) (hc0 : l0.length ≤ c0) (h : laws_heldIntS.f k l0 a1 = some r) :
    Calls Try.prog 20 #[.slice A0 l0.length c0, .int .i64 a1] w fun e w' => e = .returned (.int .i64 r) ∧ Drawn0 w w' := by
  have HR0 := Aside0.mk hr0
  have HC0 := Aside0.mk hc0
  clear hr0 hc0
  have H : (laws_heldIntS.l0 k l0 a1 0) = some r := h
  clear h
  have H' := Aside0.mk H
  clear H
  go_enter Try.func20, Try.ntmps20
  go_wp2
  go_loopg [1, 5] k (fun kq v1 v5 w' => ∃ (x1_1 : Int) (x5_1 : Int), v1 = .int .i64 x1_1 ∧ v5 = .int .i64 x5_1 ∧ Aside0 (laws_heldIntS.l0 kq l0 x1_1 x5_1 = some r) ∧ Aside0 (kq ≤ k) ∧ Drawn0 w w')
  case atStart => exact ⟨(a1), (0), (by first | rfl | (simp; done) | (simp [*]; done)), (by first | rfl | (simp; done) | (simp [*]; done)), H', ⟨Nat.le_refl _⟩, by repeat (first | exact Drawn0.refl _ | apply Drawn0.step)⟩
  case round =>
    clear H'
    try clear c2
    try clear p2
    obtain ⟨x1_1, x5_1, rfl, rfl, HA, HK1, ⟨m1, rfl⟩⟩ := hrel
    cases gk with
    | zero => exact absurd HA.out (by simp [laws_heldIntS.l0])
    | succ k1 =>
      have H := HA.out
      clear HA
      simp only [laws_heldIntS.l0] at H
      by_cases c3 : x5_1 < (l0.length : Int)
      · rw [if_pos c3] at H
        have c3b0 : decide (x5_1 < (l0.length : Int)) = true := decide_eq_true c3
        clear c3
        by_cases c4 : 0 ≤ x5_1
        · rw [if_pos c4] at H
          have c4b0 : decide (0 ≤ x5_1) = true := decide_eq_true c4
          clear c4
          by_cases c5 : (rd l0 x5_1) = x1_1
          · rw [if_pos c5] at H
            have c5b0 : ((rd l0 x5_1) == x1_1) = true := beq_iff_eq.mpr c5
            have c5b1 : ((rd l0 x5_1) != x1_1) = false := bne_eq_false_iff_eq.mpr c5
            clear c5
            have H' := Aside0.mk H
            clear H
            have p200 : 0 ≤ (x5_1 : Int) := of_decide_eq_true (by first | (with_reducible assumption) | assumption)
            have q200 : x5_1 < (l0.length : Int) := of_decide_eq_true (by first | (with_reducible assumption) | assumption)
            obtain ⟨ad200, e200, hx200_0⟩ := Kd.at_int HR0.out x5_1 p200 q200
            cases e200
            replace p200 := eq_true p200
            replace q200 := eq_true q200
            go_wp2
            go_roundg k1
            case measure => have := HK1.out; omega
            case rel => exact ⟨(wrap64 (x1_1 + 1)), (wrap64 (x5_1 + 1)), (by first | rfl | (simp; done) | (simp [*]; done)), (by first | rfl | (simp; done) | (simp [*]; done)), H', ⟨by have := HK1.out; omega⟩, by repeat (first | exact Drawn0.refl _ | apply Drawn0.step)⟩
          · rw [if_neg c5] at H
            have c5b0 : ((rd l0 x5_1) == x1_1) = false := beq_eq_false_iff_ne.mpr c5
            have c5b1 : ((rd l0 x5_1) != x1_1) = true := bne_iff_ne.mpr c5
            obtain rfl := Option.some.inj H
            have p200 : 0 ≤ (x5_1 : Int) := of_decide_eq_true (by first | (with_reducible assumption) | assumption)
            have q200 : x5_1 < (l0.length : Int) := of_decide_eq_true (by first | (with_reducible assumption) | assumption)
            obtain ⟨ad200, e200, hx200_0⟩ := Kd.at_int HR0.out x5_1 p200 q200
            cases e200
            replace p200 := eq_true p200
            replace q200 := eq_true q200
            go_wp2
            go_ret
            exact ⟨by first | rfl | (simp; done) | (simp [*]; done), by repeat (first | exact Drawn0.refl _ | apply Drawn0.step)⟩
        · rw [if_neg c4] at H
          exact absurd H (by simp)
      · rw [if_neg c3] at H
        have c3b0 : decide (x5_1 < (l0.length : Int)) = false := decide_eq_false c3
        clear c3
        obtain rfl := Option.some.inj H
        go_wp2
        go_ret
        exact ⟨by first | rfl | (simp; done) | (simp [*]; done), by repeat (first | exact Drawn0.refl _ | apply Drawn0.step)⟩

/-! ### laws_heldIntSS: function 37 -/
def laws_heldIntSS.l0 : Nat → List (List Int) → Int → Int → Option (Int)
  | 0, _, _, _ => none
  | k + 1, x0, x1, x5 => if x5 < (x0.length : Int) then (if 0 ≤ x5 then ((laws_heldIntS.f k (rd_L1 x0 x5) x1).bind fun t202 => (if t202 < 0 then (some (-1)) else (laws_heldIntSS.l0 k x0 t202 (wrap64 (x5 + 1))))) else (none)) else (some x1)
def laws_heldIntSS.f (k : Nat) (l0 : List (List Int)) (a1 : Int) : Option (Int) := laws_heldIntSS.l0 k l0 a1 0
theorem laws_heldIntSS.mono_l : ∀ k, (∀ y0 y1 y2, LeO (laws_heldIntSS.l0 k y0 y1 y2) (laws_heldIntSS.l0 (k + 1) y0 y1 y2))
  | 0 => fun _ _ _ r h => by simp [laws_heldIntSS.l0] at h
  | k + 1 => by
    have ih0 := laws_heldIntSS.mono_l k
    · intro y0 y1 y2
      unfold laws_heldIntSS.l0
      repeat' first
      | (with_reducible exact ih0 _ _ _)
      | (with_reducible exact laws_heldIntS.mono _ _ _)
      | (with_reducible exact LeO.refl _)
      | (with_reducible exact LeO.none _)
      | (with_reducible refine LeO.ite ?_ ?_)
      | (with_reducible refine LeO.bind ?_ (fun _ => ?_))
      | exact ih0 _ _ _
      | exact laws_heldIntS.mono _ _ _
      | exact LeO.none _
      | refine LeO.ite ?_ ?_
      | refine LeO.bind ?_ (fun _ => ?_)
theorem laws_heldIntSS.mono : ∀ a0 a1 k, LeO (laws_heldIntSS.f k a0 a1) (laws_heldIntSS.f (k + 1) a0 a1) := by
  intro a0 a1 k
  have ih0 := laws_heldIntSS.mono_l k
  unfold laws_heldIntSS.f
  repeat' first
      | (with_reducible exact ih0 _ _ _)
      | (with_reducible exact laws_heldIntS.mono _ _ _)
      | (with_reducible exact LeO.refl _)
      | (with_reducible exact LeO.none _)
      | (with_reducible refine LeO.ite ?_ ?_)
      | (with_reducible refine LeO.bind ?_ (fun _ => ?_))
      | exact ih0 _ _ _
      | exact laws_heldIntS.mono _ _ _
      | exact LeO.none _
      | refine LeO.ite ?_ ?_
      | refine LeO.bind ?_ (fun _ => ?_)
set_option maxHeartbeats 8000000 in
set_option maxRecDepth 100000 in
theorem laws_heldIntSS.calls (k : Nat) (A0 : Option Addr) (c0 : Nat) (l0 : List (List Int)) (a1 : Int) (r : Int) (w : World) (hr0 : Kd.C (Kd.slice 3 (Kd.int .i64)) w A0 l0.length l0) (hc0 : l0.length ≤ c0) (h : laws_heldIntSS.f k l0 a1 = some r) :
    Calls Try.prog 37 #[.slice A0 l0.length c0, .int .i64 a1] w fun e w' => e = .returned (.int .i64 r) ∧ Drawn0 w w' := by
  have HR0 := Aside0.mk hr0
  have HC0 := Aside0.mk hc0
  clear hr0 hc0
  have H : (laws_heldIntSS.l0 k l0 a1 0) = some r := h
  clear h
  have H' := Aside0.mk H
  clear H
  go_enter Try.func37, Try.ntmps37
  go_wp2
  go_loopg [1, 5] k (fun kq v1 v5 w' => ∃ (x1_1 : Int) (x5_1 : Int), v1 = .int .i64 x1_1 ∧ v5 = .int .i64 x5_1 ∧ Aside0 (laws_heldIntSS.l0 kq l0 x1_1 x5_1 = some r) ∧ Aside0 (kq ≤ k) ∧ Drawn0 w w')
  case atStart => exact ⟨(a1), (0), (by first | rfl | (simp; done) | (simp [*]; done)), (by first | rfl | (simp; done) | (simp [*]; done)), H', ⟨Nat.le_refl _⟩, by repeat (first | exact Drawn0.refl _ | apply Drawn0.step)⟩
  case round =>
    clear H'
    try clear p2
    obtain ⟨x1_1, x5_1, rfl, rfl, HA, HK1, ⟨m1, rfl⟩⟩ := hrel
    cases gk with
    | zero => exact absurd HA.out (by simp [laws_heldIntSS.l0])
    | succ k1 =>
      have H := HA.out
      clear HA
      simp only [laws_heldIntSS.l0] at H
      by_cases c3 : x5_1 < (l0.length : Int)
      · rw [if_pos c3] at H
        have c3b0 : decide (x5_1 < (l0.length : Int)) = true := decide_eq_true c3
        clear c3
        by_cases c4 : 0 ≤ x5_1
        · rw [if_pos c4] at H
          have c4b0 : decide (0 ≤ x5_1) = true := decide_eq_true c4
          clear c4
          replace H := Option.bind_eq_some_iff.mp H
          obtain ⟨t202, A50, H⟩ := H
          replace H : (if t202 < 0 then (some (-1)) else (laws_heldIntSS.l0 k1 l0 t202 (wrap64 (x5_1 + 1)))) = some r := H
          have A5 := Aside0.mk A50
          clear A50
          by_cases c6 : t202 < 0
          · rw [if_pos c6] at H
            have c6b0 : decide (t202 < 0) = true := decide_eq_true c6
            clear c6
            obtain rfl := Option.some.inj H
            have p201 : 0 ≤ (x5_1 : Int) := of_decide_eq_true (by first | (with_reducible assumption) | assumption)
            have q201 : x5_1 < (l0.length : Int) := of_decide_eq_true (by first | (with_reducible assumption) | assumption)
            obtain ⟨ad201, A201_0, c201_0, e201, hx201_0, hl201_0, hi201_0⟩ := at_L1 HR0.out x5_1 p201 q201
            cases e201
            have HR201_0 := Aside0.mk hi201_0
            have HC201_0 := Aside0.mk hl201_0
            clear hi201_0 hl201_0
            replace p201 := eq_true p201
            replace q201 := eq_true q201
            go_wp2_with (first | ((with_reducible refine gate_callee (f := 20) rfl ?_); refine goesL_ (some 17) rfl rfl Try.func20 (by kernel_rfl) rfl #[.slice A201_0 (rd_L1 l0 x5_1).length c201_0, .int .i64 x1_1] rfl (by (try simp only [List.map_toArray, List.map_cons, List.map_nil]); first | done | rfl | (simp only [List.length_drop, List.length_take]; rfl)) ?_; (with_reducible refine (laws_heldIntS.calls k1 _ _ (rd_L1 l0 x5_1) x1_1 t202 _ ?side1 ?side2 A5.out).mono ?_); (case side1 => repeat (first | exact HR201_0.out | (with_reducible refine Kd.C_alloc ?_ _) | (with_reducible refine Kd.C_drewN ?_ _) | (with_reducible refine Kd.C_drew ?_))); (case side2 => exact HC201_0.out); rintro e w' ⟨rfl, ⟨nd, rfl⟩⟩; refine ⟨_, rfl, ?_⟩))
            go_ret
            exact ⟨by first | rfl | (simp; done) | (simp [*]; done), by repeat (first | exact Drawn0.refl _ | apply Drawn0.step)⟩
          · rw [if_neg c6] at H
            have c6b0 : decide (t202 < 0) = false := decide_eq_false c6
            clear c6
            have H' := Aside0.mk H
            clear H
            have p201 : 0 ≤ (x5_1 : Int) := of_decide_eq_true (by first | (with_reducible assumption) | assumption)
            have q201 : x5_1 < (l0.length : Int) := of_decide_eq_true (by first | (with_reducible assumption) | assumption)
            obtain ⟨ad201, A201_0, c201_0, e201, hx201_0, hl201_0, hi201_0⟩ := at_L1 HR0.out x5_1 p201 q201
            cases e201
            have HR201_0 := Aside0.mk hi201_0
            have HC201_0 := Aside0.mk hl201_0
            clear hi201_0 hl201_0
            replace p201 := eq_true p201
            replace q201 := eq_true q201
            go_wp2_with (first | ((with_reducible refine gate_callee (f := 20) rfl ?_); refine goesL_ (some 17) rfl rfl Try.func20 (by kernel_rfl) rfl #[.slice A201_0 (rd_L1 l0 x5_1).length c201_0, .int .i64 x1_1] rfl (by (try simp only [List.map_toArray, List.map_cons, List.map_nil]); first | done | rfl | (simp only [List.length_drop, List.length_take]; rfl)) ?_; (with_reducible refine (laws_heldIntS.calls k1 _ _ (rd_L1 l0 x5_1) x1_1 t202 _ ?side1 ?side2 A5.out).mono ?_); (case side1 => repeat (first | exact HR201_0.out | (with_reducible refine Kd.C_alloc ?_ _) | (with_reducible refine Kd.C_drewN ?_ _) | (with_reducible refine Kd.C_drew ?_))); (case side2 => exact HC201_0.out); rintro e w' ⟨rfl, ⟨nd, rfl⟩⟩; refine ⟨_, rfl, ?_⟩))
            go_roundg k1
            case measure => have := HK1.out; omega
            case rel => exact ⟨(t202), (wrap64 (x5_1 + 1)), (by first | rfl | (simp; done) | (simp [*]; done)), (by first | rfl | (simp; done) | (simp [*]; done)), H', ⟨by have := HK1.out; omega⟩, by repeat (first | exact Drawn0.refl _ | apply Drawn0.step)⟩
        · rw [if_neg c4] at H
          exact absurd H (by simp)
      · rw [if_neg c3] at H
        have c3b0 : decide (x5_1 < (l0.length : Int)) = false := decide_eq_false c3
        clear c3
        obtain rfl := Option.some.inj H
        go_wp2
        go_ret
        exact ⟨by first | rfl | (simp; done) | (simp [*]; done), by repeat (first | exact Drawn0.refl _ | apply Drawn0.step)⟩

def laws_FnExactAllParking.f (k : Nat) (a0 : Int) : Option Bool := (spec_AllParking.f k a0).bind fun s => (impl_AllParking.f k a0).bind fun g => if s = g ∧ g.1.length ≤ 1073741824 then (laws_eqIntSS.f k g.1 g.1).bind fun t => if t = true then (laws_markIntSS.f k g.1 1).bind fun m => (laws_heldIntSS.f k m.2 1).bind fun q => if 0 ≤ q ∧ q = m.1 then some true else none else none else none
set_option maxHeartbeats 8000000 in
set_option maxRecDepth 100000 in
theorem laws_FnExactAllParking.calls (k : Nat) (a0 : Int) (r : Bool) (w : World) (h : laws_FnExactAllParking.f k a0 = some r) :
    Calls Try.prog 10 #[.int .i64 a0] w fun e w' => e = .returned (.bool r) ∧ Below w.heap.size w w' := by
  unfold laws_FnExactAllParking.f at h
  obtain ⟨⟨s1, s2⟩, hs, h1⟩ := Option.bind_eq_some_iff.mp h
  clear h
  obtain ⟨⟨g1, g2⟩, hg, h2⟩ := Option.bind_eq_some_iff.mp h1
  clear h1
  by_cases e : (s1, s2) = (g1, g2) ∧ (g1, g2).1.length ≤ 1073741824
  · rw [if_pos e] at h2
    obtain ⟨e, hlen⟩ := e
    cases e
    obtain ⟨t, he, h3⟩ := Option.bind_eq_some_iff.mp h2
    clear h2
    cases t with
    | false => simp at h3
    | true =>
      rw [if_pos rfl] at h3
      obtain ⟨⟨m1, m2⟩, hm, h4⟩ := Option.bind_eq_some_iff.mp h3
      clear h3
      obtain ⟨q, hq, h5⟩ := Option.bind_eq_some_iff.mp h4
      clear h4
      by_cases c : 0 ≤ q ∧ q = (m1, m2).1
      · rw [if_pos c, Option.some.injEq] at h5
        subst h5
        obtain ⟨c0, c1⟩ := c
        dsimp only at hs hg he hm hq hlen c1
        subst c1
        have HS := Aside0.mk hs
        have HG := Aside0.mk hg
        have HE := Aside0.mk he
        have HM := Aside0.mk hm
        have HQ := Aside0.mk hq
        have HLn := Aside0.mk hlen
        clear hs hg he hm hq hlen
        have e1 : (q == q) = true := by simp
        cases s2 <;>
        · go_enter Try.func10, Try.ntmps10
          go_wp2_with (go_at_call 33; refine (spec_AllParking.calls k a0 s1 _ _ HS.out).mono ?_; rintro e w1 ⟨v1, rfl, hN1, hB1⟩; have N1 := Aside0.mk (Kd.N_bound hN1); have B1 := Aside0.mk hB1; clear hN1 hB1)
          go_wp2_with (go_at_call 34; refine (impl_AllParking.calls k a0 s1 _ _ HG.out).mono ?_; rintro e w2 ⟨v2, rfl, hN2, hB2⟩; have S2 := Aside0.mk (Kd.S_mono (Kd.S_bound hN2) (fun k_ hk => (hk.2.1 : w1.heap.size ≤ k_))); have N2 := Aside0.mk (Kd.N_below N1.out hB2); have B2 := Aside0.mk hB2; clear hN2 hB2)
          obtain ⟨A1, c1, rfl, h11, h12⟩ := Kd.N_reads N2.out
          obtain ⟨A2, c2, rfl, h21, h22⟩ := Kd.S_reads S2.out
          have L1 := Aside0.mk h11
          have C1 := Aside0.mk h12
          have L2 := Aside0.mk h21
          have C2 := Aside0.mk h22
          clear h11 h12 h21 h22
          go_wp2_with (go_at_call 35; refine (laws_eqIntSS.calls k A2 c2 s1 A1 c1 s1 true _ C2.out L2.out C1.out L1.out HE.out).mono ?_; rintro e w3 ⟨rfl, ⟨n3, rfl⟩⟩; have B3 := Aside0.mk (pw_below_drewN B2.out n3); have S3 := Aside0.mk (Kd.S_drewN S2.out n3); have N3 := Aside0.mk (Kd.N_drewN N2.out n3))
          go_wp2_with (go_at_call 36; refine (laws_markIntSS.calls k (fun k_ => w1.heap.size ≤ k_) _ s1 1 q m2 w1 _ B3.out HLn.out S3.out HM.out).mono ?_; rintro e w4 ⟨rfl, hS4, hB4, hK4⟩; have S4 := Aside0.mk hS4; have B4 := Aside0.mk hB4; have N4 := Aside0.mk (Kd.N_kept N3.out hK4 (fun k_ hk hn => by have := hk.2; omega)); clear hS4 hB4 hK4; obtain ⟨hlen4, hle4, hC4⟩ := Kd.S_reads' S4.out; have HL4 := Aside0.mk hlen4; have C4 := Aside0.mk hC4; have L4 := Aside0.mk hle4; clear hlen4 hle4 hC4)
          have HH : ∀ (W : World), Kd.C (Kd.slice 3 (Kd.int .i64)) W A2 m2.length m2 → Calls Try.prog 37 #[.slice A2 s1.length c2, .int .i64 1] W fun e w' => e = .returned (.int .i64 q) ∧ Drawn0 W w' := fun W hC => by
            rw [HL4.out]
            exact laws_heldIntSS.calls k A2 c2 m2 1 q W hC (HL4.out ▸ L4.out) HQ.out
          go_wp2_with (go_at_call 37; refine (HH _ C4.out).mono ?_; rintro e w5 ⟨rfl, ⟨n5, rfl⟩⟩; have S5 := Aside0.mk (Kd.S_drewN S4.out n5); have N5 := Aside0.mk (Kd.N_drewN N4.out n5); have B5 := Aside0.mk (pw_below_drewN B4.out n5))
          go_wp2_with (go_at_call 34; refine (impl_AllParking.calls k a0 s1 _ _ HG.out).mono ?_; rintro e w6 ⟨v6, rfl, hS6, hB6⟩; have S6 := Aside0.mk (Kd.S_below S5.out hB6); have N6 := Aside0.mk (Kd.N_below N5.out hB6); have B6 := Aside0.mk (below_step B5.out hB6); have T6 := Aside0.mk hS6; clear hS6 hB6)
          obtain ⟨A6, c6, rfl, h61, h62⟩ := Kd.S_reads T6.out
          have L6 := Aside0.mk h61
          have C6 := Aside0.mk h62
          have C6n := Aside0.mk (Kd.N_reads' N6.out).2.2
          have C6s := Aside0.mk (Kd.S_reads' S6.out).2.2
          clear h61 h62
          go_wp2_with (go_at_call 35; refine (laws_eqIntSS.calls k A6 c6 s1 A1 c1 s1 true _ C6.out L6.out C6n.out L1.out HE.out).mono ?_; rintro e w7 ⟨rfl, ⟨n7, rfl⟩⟩; have C7 := Aside0.mk (Kd.C_drewN C6s.out n7); have B7 := Aside0.mk (pw_below_drewN B6.out n7))
          go_wp2_with (go_at_call 37; refine (HH _ C7.out).mono ?_; rintro e w8 ⟨rfl, ⟨n8, rfl⟩⟩; have B8 := Aside0.mk (pw_below_drewN B7.out n8))
          go_ret
          exact ⟨by first | rfl | (simp; done), by first | exact below_step B1.out B8.out | exact below_step B1.out (by simpa using B8.out)⟩
      · rw [if_neg c] at h5
        cases h5
  · rw [if_neg e] at h2
    cases h2
def laws_FnExactAllParking.Pure : Prop := ∀ (a0 : Int), (Lit.int .i64 a0).wf = true → ∃ k, laws_FnExactAllParking.f k a0 = some true
theorem laws_FnExactAllParking.walk (P : laws_FnExactAllParking.Pure) (a0 : Int) (w : World) (w0 : (Lit.int .i64 a0).wf = true) :
    Calls Try.prog 10 #[.int .i64 a0] w fun e w' => e = .returned (.bool true) ∧ Below w.heap.size w w' := by
  obtain ⟨k, h⟩ := P a0 w0
  refine (laws_FnExactAllParking.calls k a0 true w h).mono ?_
  rintro e w' ⟨rfl, hd⟩
  exact ⟨rfl, hd⟩

/-! ### laws_FnExactAllParking: function 10 -/

end Go.Proofs.Ytchhfdhnoldngaa.QFnExactAllParking
