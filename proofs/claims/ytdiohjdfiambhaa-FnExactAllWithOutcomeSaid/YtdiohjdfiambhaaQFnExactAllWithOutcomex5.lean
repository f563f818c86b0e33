/- Proved here: each Go function named below, when called, returns what the Lean function of its name computes, wherever that function answers. Text written by this session's program over the kit's print; law FnExactAllWithOutcome. -/
import Derived.Test.YtdiohjdfiambhaaQFnExactAllWithOutcomex0
import Derived.Test.YtdiohjdfiambhaaQFnExactAllWithOutcomex1
import Derived.Test.YtdiohjdfiambhaaQFnExactAllWithOutcomex2
import Derived.Test.YtdiohjdfiambhaaQFnExactAllWithOutcomex4
namespace Go.Proofs.Ytdiohjdfiambhaa.QFnExactAllWithOutcome
open Go.RowKit Go.Proofs.YtdiohjdfiambhaaW.PrintWords Go.Proofs.YtdiohjdfiambhaaW.PrintLast Go.Proofs.YtdiohjdfiambhaaW.PrintMore
attribute [local go_sem] max2_int min2_int max_two min_two max_three min_three max_four min_four   -- for this text's walks alone
set_option linter.unusedVariables false
set_option linter.unusedSimpArgs false

/-! ### laws_heldIntS: function 65 -/
def laws_heldIntS.l0 : Nat → List Int → Int → Int → Option (Int)
  | 0, _, _, _ => none
  | k + 1, x0, x1, x5 => if x5 < (x0.length : Int) then (if 0 ≤ x5 then (if (rd x0 x5) = x1 then (laws_heldIntS.l0 k x0 (wrap64 (x1 + 1)) (wrap64 (x5 + 1))) else (some (-1))) else (none)) else (some x1)
def laws_heldIntS.f (k : Nat) (l0 : List Int) (a1 : Int) : Option (Int) := laws_heldIntS.l0 k l0 a1 0
theorem laws_heldIntS.mono_l : ∀ k, (∀ y0 y1 y2, LeO (laws_heldIntS.l0 k y0 y1 y2) (laws_heldIntS.l0 (k + 1) y0 y1 y2))
  | 0 => fun _ _ _ r h => by simp [laws_heldIntS.l0] at h
  | k + 1 => by
    have ih0 := laws_heldIntS.mono_l k
    · intro y0 y1 y2
      unfold laws_heldIntS.l0
      repeat' first
      | (with_reducible exact ih0 _ _ _)
      | (with_reducible exact LeO.refl _)
      | (with_reducible exact LeO.none _)
      | (with_reducible refine LeO.ite ?_ ?_)
      | (with_reducible refine LeO.bind ?_ (fun _ => ?_))
      | exact ih0 _ _ _
      | exact LeO.none _
      | refine LeO.ite ?_ ?_
      | refine LeO.bind ?_ (fun _ => ?_)
theorem laws_heldIntS.mono : ∀ a0 a1 k, LeO (laws_heldIntS.f k a0 a1) (laws_heldIntS.f (k + 1) a0 a1) := by
  intro a0 a1 k
  have ih0 := laws_heldIntS.mono_l k
  unfold laws_heldIntS.f
  repeat' first
      | (with_reducible exact ih0 _ _ _)
      | (with_reducible exact LeO.refl _)
      | (with_reducible exact LeO.none _)
      | (with_reducible refine LeO.ite ?_ ?_)
      | (with_reducible refine LeO.bind ?_ (fun _ => ?_))
      | exact ih0 _ _ _
      | exact LeO.none _
      | refine LeO.ite ?_ ?_
      | refine LeO.bind ?_ (fun _ => ?_)
set_option maxHeartbeats 8000000 in
set_option maxRecDepth 100000 in
theorem laws_heldIntS.calls (k : Nat) (A0 : Option Addr) (c0 : Nat) (l0 : List Int) (a1 : Int) (r : Int) (w : World) (hr0 : Kd.C (Kd.int .i64) w A0 l0.length l0) (hc0 : l0.length ≤ c0) (h : laws_heldIntS.f k l0 a1 = some r) :
    Calls Try.prog 65 #[.slice A0 l0.length c0, .int .i64 a1] w fun e w' => e = .returned (.int .i64 r) ∧ Drawn0 w w' := by
  have HR0 := Aside0.mk hr0
  have HC0 := Aside0.mk hc0
  clear hr0 hc0
  have H : (laws_heldIntS.l0 k l0 a1 0) = some r := h
  clear h
  have H' := Aside0.mk H
  clear H
  go_enter Try.func65, Try.ntmps65
  go_wp2
  go_loopg [1, 5] k (fun kq v1 v5 w' => ∃ (x1_1 : Int) (x5_1 : Int), v1 = .int .i64 x1_1 ∧ v5 = .int .i64 x5_1 ∧ Aside0 (laws_heldIntS.l0 kq l0 x1_1 x5_1 = some r) ∧ Aside0 (kq ≤ k) ∧ Drawn0 w w')
  case atStart => exact ⟨(a1), (0), (by first | rfl | (simp; done) | (simp [*]; done)), (by first | rfl | (simp; done) | (simp [*]; done)), H', ⟨Nat.le_refl _⟩, by repeat (first | exact Drawn0.refl _ | apply Drawn0.step)⟩
  case round =>
    clear H'
    try clear p2
    obtain ⟨x1_1, x5_1, rfl, rfl, HA, HK1, ⟨m1, rfl⟩⟩ := hrel
    cases gk with
    | zero => exact absurd HA.out (by simp [laws_heldIntS.l0])
    | succ k1 =>
      have H := HA.out
      clear HA
      simp only [laws_heldIntS.l0] at H
      by_cases c3 : x5_1 < (l0.length : Int)
      · rw [if_pos c3] at H
        have c3b0 : decide (x5_1 < (l0.length : Int)) = true := decide_eq_true c3
        clear c3
        by_cases c4 : 0 ≤ x5_1
        · rw [if_pos c4] at H
          have c4b0 : decide (0 ≤ x5_1) = true := decide_eq_true c4
          clear c4
          by_cases c5 : (rd l0 x5_1) = x1_1
          · rw [if_pos c5] at H
            have c5b0 : ((rd l0 x5_1) == x1_1) = true := beq_iff_eq.mpr c5
            have c5b1 : ((rd l0 x5_1) != x1_1) = false := bne_eq_false_iff_eq.mpr c5
            clear c5
            have H' := Aside0.mk H
            clear H
            have p180 : 0 ≤ (x5_1 : Int) := of_decide_eq_true (by first | (with_reducible assumption) | assumption)
            have q180 : x5_1 < (l0.length : Int) := of_decide_eq_true (by first | (with_reducible assumption) | assumption)
            obtain ⟨ad180, e180, hx180_0⟩ := Kd.at_int HR0.out x5_1 p180 q180
            cases e180
            replace p180 := eq_true p180
            replace q180 := eq_true q180
            go_wp2
            go_roundg k1
            case measure => have := HK1.out; omega
            case rel => exact ⟨(wrap64 (x1_1 + 1)), (wrap64 (x5_1 + 1)), (by first | rfl | (simp; done) | (simp [*]; done)), (by first | rfl | (simp; done) | (simp [*]; done)), H', ⟨by have := HK1.out; omega⟩, by repeat (first | exact Drawn0.refl _ | apply Drawn0.step)⟩
          · rw [if_neg c5] at H
            have c5b0 : ((rd l0 x5_1) == x1_1) = false := beq_eq_false_iff_ne.mpr c5
            have c5b1 : ((rd l0 x5_1) != x1_1) = true := bne_iff_ne.mpr c5
            obtain rfl := Option.some.inj H
            have p180 : 0 ≤ (x5_1 : Int) := of_decide_eq_true (by first | (with_reducible assumption) | assumption)
            have q180 : x5_1 < (l0.length : Int) := of_decide_eq_true (by first | (with_reducible assumption) | assumption)
            obtain ⟨ad180, e180, hx180_0⟩ := Kd.at_int HR0.out x5_1 p180 q180
            cases e180
            replace p180 := eq_true p180
            replace q180 := eq_true q180
            go_wp2
            go_ret
            exact ⟨by first | rfl | (simp; done) | (simp [*]; done), by repeat (first | exact Drawn0.refl _ | apply Drawn0.step)⟩
        · rw [if_neg c4] at H
          exact absurd H (by simp)
      · rw [if_neg c3] at H
        have c3b0 : decide (x5_1 < (l0.length : Int)) = false := decide_eq_false c3
        clear c3
        obtain rfl := Option.some.inj H
        go_wp2
        go_ret
        exact ⟨by first | rfl | (simp; done) | (simp [*]; done), by repeat (first | exact Drawn0.refl _ | apply Drawn0.step)⟩

/-! ### laws_heldIntSS: function 72 -/
def laws_heldIntSS.l0 : Nat → List (List Int) → Int → Int → Option (Int)
  | 0, _, _, _ => none
  | k + 1, x0, x1, x5 => if x5 < (x0.length : Int) then (if 0 ≤ x5 then ((laws_heldIntS.f k (rd_L1 x0 x5) x1).bind fun t182 => (if t182 < 0 then (some (-1)) else (laws_heldIntSS.l0 k x0 t182 (wrap64 (x5 + 1))))) else (none)) else (some x1)
def laws_heldIntSS.f (k : Nat) (l0 : List (List Int)) (a1 : Int) : Option (Int) := laws_heldIntSS.l0 k l0 a1 0
theorem laws_heldIntSS.mono_l : ∀ k, (∀ y0 y1 y2, LeO (laws_heldIntSS.l0 k y0 y1 y2) (laws_heldIntSS.l0 (k + 1) y0 y1 y2))
  | 0 => fun _ _ _ r h => by simp [laws_heldIntSS.l0] at h
  | k + 1 => by
    have ih0 := laws_heldIntSS.mono_l k
    · intro y0 y1 y2
      unfold laws_heldIntSS.l0
      repeat' first
      | (with_reducible exact ih0 _ _ _)
      | (with_reducible exact laws_heldIntS.mono _ _ _)
      | (with_reducible exact LeO.refl _)
      | (with_reducible exact LeO.none _)
      | (with_reducible refine LeO.ite ?_ ?_)
      | (with_reducible refine LeO.bind ?_ (fun _ => ?_))
      | exact ih0 _ _ _
      | exact laws_heldIntS.mono _ _ _
      | exact LeO.none _
      | refine LeO.ite ?_ ?_
      | refine LeO.bind ?_ (fun _ => ?_)
theorem laws_heldIntSS.mono : ∀ a0 a1 k, LeO (laws_heldIntSS.f k a0 a1) (laws_heldIntSS.f (k + 1) a0 a1) := by
  intro a0 a1 k
  have ih0 := laws_heldIntSS.mono_l k
  unfold laws_heldIntSS.f
  repeat' first
      | (with_reducible exact ih0 _ _ _)
      | (with_reducible exact laws_heldIntS.mono _ _ _)
      | (with_reducible exact LeO.refl _)
      | (with_reducible exact LeO.none _)
      | (with_reducible refine LeO.ite ?_ ?_)
      | (with_reducible refine LeO.bind ?_ (fun _ => ?_))
      | exact ih0 _ _ _
      | exact laws_heldIntS.mono _ _ _
      | exact LeO.none _
      | refine LeO.ite ?_ ?_
      | refine LeO.bind ?_ (fun _ => ?_)
set_option maxHeartbeats 8000000 in
set_option maxRecDepth 100000 in
theorem laws_heldIntSS.calls (k : Nat) (A0 : Option Addr) (c0 : Nat) (l0 : List (List Int)) (a1 : Int) (r : Int) (w : World) (hr0 : Kd.C (Kd.slice 3 (Kd.int .i64)) w A0 l0.length l0) (hc0 : l0.length ≤ c0) (h : laws_heldIntSS.f k l0 a1 = some r) :
    Calls Try.prog 72 #[.slice A0 l0.length c0, .int .i64 a1] w fun e w' => e = .returned (.int .i64 r) ∧ Drawn0 w w' := by
  have HR0 := Aside0.mk hr0
  have HC0 := Aside0.mk hc0
  clear hr0 hc0
  have H : (laws_heldIntSS.l0 k l0 a1 0) = some r := h
  clear h
  have H' := Aside0.mk H
  clear H
  go_enter Try.func72, Try.ntmps72
  go_wp2
  go_loopg [1, 5] k (fun kq v1 v5 w' => ∃ (x1_1 : Int) (x5_1 : Int), v1 = .int .i64 x1_1 ∧ v5 = .int .i64 x5_1 ∧ Aside0 (laws_heldIntSS.l0 kq l0 x1_1 x5_1 = some r) ∧ Aside0 (kq ≤ k) ∧ Drawn0 w w')
  case atStart => exact ⟨(a1), (0), (by first | rfl | (simp; done) | (simp [*]; done)), (by first | rfl | (simp; done) | (simp [*]; done)), H', ⟨Nat.le_refl _⟩, by repeat (first | exact Drawn0.refl _ | apply Drawn0.step)⟩
  case round =>
    clear H'
    try clear p2
    obtain ⟨x1_1, x5_1, rfl, rfl, HA, HK1, ⟨m1, rfl⟩⟩ := hrel
    cases gk with
    | zero => exact absurd HA.out (by simp [laws_heldIntSS.l0])
    | succ k1 =>
      have H := HA.out
      clear HA
      simp only [laws_heldIntSS.l0] at H
      by_cases c3 : x5_1 < (l0.length : Int)
      · rw [if_pos c3] at H
        have c3b0 : decide (x5_1 < (l0.length : Int)) = true := decide_eq_true c3
        clear c3
        by_cases c4 : 0 ≤ x5_1
        · rw [if_pos c4] at H
          have c4b0 : decide (0 ≤ x5_1) = true := decide_eq_true c4
          clear c4
          replace H := Option.bind_eq_some_iff.mp H
          obtain ⟨t182, A50, H⟩ := H
          replace H : (if t182 < 0 then (some (-1)) else (laws_heldIntSS.l0 k1 l0 t182 (wrap64 (x5_1 + 1)))) = some r := H
          have A5 := Aside0.mk A50
          clear A50
          by_cases c6 : t182 < 0
          · rw [if_pos c6] at H
            have c6b0 : decide (t182 < 0) = true := decide_eq_true c6
            clear c6
            obtain rfl := Option.some.inj H
            have p181 : 0 ≤ (x5_1 : Int) := of_decide_eq_true (by first | (with_reducible assumption) | assumption)
            have q181 : x5_1 < (l0.length : Int) := of_decide_eq_true (by first | (with_reducible assumption) | assumption)
            obtain ⟨ad181, A181_0, c181_0, e181, hx181_0, hl181_0, hi181_0⟩ := at_L1 HR0.out x5_1 p181 q181
            cases e181
            have HR181_0 := Aside0.mk hi181_0
            have HC181_0 := Aside0.mk hl181_0
            clear hi181_0 hl181_0
            replace p181 := eq_true p181
            replace q181 := eq_true q181
            go_wp2_with (first | ((with_reducible refine gate_callee (f := 65) rfl ?_); refine goesL_ (some 17) rfl rfl Try.func65 (by kernel_rfl) rfl #[.slice A181_0 (rd_L1 l0 x5_1).length c181_0, .int .i64 x1_1] rfl (by (try simp only [List.map_toArray, List.map_cons, List.map_nil]); first | done | rfl | (simp only [List.length_drop, List.length_take]; rfl)) ?_; (with_reducible refine (laws_heldIntS.calls k1 _ _ (rd_L1 l0 x5_1) x1_1 t182 _ ?side1 ?side2 A5.out).mono ?_); (case side1 => repeat (first | exact HR181_0.out | (with_reducible refine Kd.C_alloc ?_ _) | (with_reducible refine Kd.C_drewN ?_ _) | (with_reducible refine Kd.C_drew ?_))); (case side2 => exact HC181_0.out); rintro e w' ⟨rfl, ⟨nd, rfl⟩⟩; refine ⟨_, rfl, ?_⟩))
            go_ret
            exact ⟨by first | rfl | (simp; done) | (simp [*]; done), by repeat (first | exact Drawn0.refl _ | apply Drawn0.step)⟩
          · rw [if_neg c6] at H
            have c6b0 : decide (t182 < 0) = false := decide_eq_false c6
            clear c6
            have H' := Aside0.mk H
            clear H
            have p181 : 0 ≤ (x5_1 : Int) := of_decide_eq_true (by first | (with_reducible assumption) | assumption)
            have q181 : x5_1 < (l0.length : Int) := of_decide_eq_true (by first | (with_reducible assumption) | assumption)
            obtain ⟨ad181, A181_0, c181_0, e181, hx181_0, hl181_0, hi181_0⟩ := at_L1 HR0.out x5_1 p181 q181
            cases e181
            have HR181_0 := Aside0.mk hi181_0
            have HC181_0 := Aside0.mk hl181_0
            clear hi181_0 hl181_0
            replace p181 := eq_true p181
            replace q181 := eq_true q181
            go_wp2_with (first | ((with_reducible refine gate_callee (f := 65) rfl ?_); refine goesL_ (some 17) rfl rfl Try.func65 (by kernel_rfl) rfl #[.slice A181_0 (rd_L1 l0 x5_1).length c181_0, .int .i64 x1_1] rfl (by (try simp only [List.map_toArray, List.map_cons, List.map_nil]); first | done | rfl | (simp only [List.length_drop, List.length_take]; rfl)) ?_; (with_reducible refine (laws_heldIntS.calls k1 _ _ (rd_L1 l0 x5_1) x1_1 t182 _ ?side1 ?side2 A5.out).mono ?_); (case side1 => repeat (first | exact HR181_0.out | (with_reducible refine Kd.C_alloc ?_ _) | (with_reducible refine Kd.C_drewN ?_ _) | (with_reducible refine Kd.C_drew ?_))); (case side2 => exact HC181_0.out); rintro e w' ⟨rfl, ⟨nd, rfl⟩⟩; refine ⟨_, rfl, ?_⟩))
            go_roundg k1
            case measure => have := HK1.out; omega
            case rel => exact ⟨(t182), (wrap64 (x5_1 + 1)), (by first | rfl | (simp; done) | (simp [*]; done)), (by first | rfl | (simp; done) | (simp [*]; done)), H', ⟨by have := HK1.out; omega⟩, by repeat (first | exact Drawn0.refl _ | apply Drawn0.step)⟩
        · rw [if_neg c4] at H
          exact absurd H (by simp)
      · rw [if_neg c3] at H
        have c3b0 : decide (x5_1 < (l0.length : Int)) = false := decide_eq_false c3
        clear c3
        obtain rfl := Option.some.inj H
        go_wp2
        go_ret
        exact ⟨by first | rfl | (simp; done) | (simp [*]; done), by repeat (first | exact Drawn0.refl _ | apply Drawn0.step)⟩

def laws_FnExactAllWithOutcome.f (k : Nat) (l0 : List Int) : Option Bool := if (l0.length : Int) > 1048576 then some true else (laws_toIntS.f k l0).bind fun t => if t = l0 then (spec_AllWithOutcome.f k l0).bind fun s => (impl_AllWithOutcome.f k l0).bind fun g => if s = g ∧ g.1.length ≤ 1073741824 then (laws_eqIntSS.f k g.1 g.1).bind fun t1 => (laws_eqIntS.f k l0 l0).bind fun t2 => (laws_markIntS.f k l0 1).bind fun mk => if t1 = true ∧ t2 = true ∧ 0 ≤ mk.1 then (laws_markIntSS.f k g.1 1).bind fun m => (laws_heldIntSS.f k m.2 1).bind fun q => if 0 ≤ q ∧ q = m.1 then some true else none else none else none else none
set_option maxHeartbeats 16000000 in
set_option maxRecDepth 100000 in
theorem laws_FnExactAllWithOutcome.calls (k : Nat) (A0 : Option Addr) (c0 : Nat) (l0 : List Int) (r : Bool) (w : World) (hr0 : Kd.C (Kd.int .i64) w A0 l0.length l0) (hc0 : l0.length ≤ c0) (h : laws_FnExactAllWithOutcome.f k l0 = some r) :
    Calls Try.prog 10 #[.slice A0 l0.length c0] w fun e w' => e = .returned (.bool r) ∧ Below w.heap.size w w' := by
  unfold laws_FnExactAllWithOutcome.f at h
  by_cases hbig : (l0.length : Int) > 1048576
  · rw [if_pos hbig, Option.some.injEq] at h
    subst h
    have hb0 : decide (1048576 < (l0.length : Int)) = true := decide_eq_true hbig
    have hb1 : decide (1048576 < l0.length) = true := decide_eq_true (by omega)
    go_enter Try.func10, Try.ntmps10
    go_wp2
    go_ret
    exact ⟨by first | rfl | (simp; done), Below.refl _ _⟩
  rw [if_neg hbig] at h
  have hb0 : decide (1048576 < (l0.length : Int)) = false := decide_eq_false hbig
  have hb1 : decide (1048576 < l0.length) = false := decide_eq_false (by omega)
  obtain ⟨t, ht, h⟩ := Option.bind_eq_some_iff.mp h
  by_cases e : t = l0
  · rw [if_pos e] at h
    subst e
    obtain ⟨⟨s1, s2⟩, hs, h⟩ := Option.bind_eq_some_iff.mp h
    obtain ⟨⟨g1, g2⟩, hg, h⟩ := Option.bind_eq_some_iff.mp h
    by_cases e : (s1, s2) = (g1, g2) ∧ (g1, g2).1.length ≤ 1073741824
    · rw [if_pos e] at h
      obtain ⟨e, hlen⟩ := e
      cases e
      obtain ⟨t1, he, h⟩ := Option.bind_eq_some_iff.mp h
      obtain ⟨t2, hei, h⟩ := Option.bind_eq_some_iff.mp h
      obtain ⟨⟨mi1, mi2⟩, hmi, h⟩ := Option.bind_eq_some_iff.mp h
      by_cases c : t1 = true ∧ t2 = true ∧ 0 ≤ (mi1, mi2).1
      · rw [if_pos c] at h
        have h9 := h
        clear h
        obtain ⟨rfl, rfl, cmi⟩ := c
        obtain ⟨⟨m1, m2⟩, hm, h10⟩ := Option.bind_eq_some_iff.mp h9
        obtain ⟨q, hq, h11⟩ := Option.bind_eq_some_iff.mp h10
        by_cases c : 0 ≤ q ∧ q = (m1, m2).1
        · rw [if_pos c, Option.some.injEq] at h11
          subst h11
          obtain ⟨c0q, c1q⟩ := c
          dsimp only at hs hg he hei hmi hm hq hlen c1q cmi
          subst c1q
          have HT := Aside0.mk ht
          have HS := Aside0.mk hs
          have HG := Aside0.mk hg
          have HE := Aside0.mk he
          have HEI := Aside0.mk hei
          have HMI := Aside0.mk hmi
          have HM := Aside0.mk hm
          have HQ := Aside0.mk hq
          have HLn := Aside0.mk hlen
          have HR0 := Aside0.mk hr0
          have HC0 := Aside0.mk hc0
          have bmi : decide (mi1 < 0) = false := decide_eq_false (by omega)
          have bq : decide (q < 0) = false := decide_eq_false (by omega)
          clear ht hs hg he hei hmi hm hq hlen hr0 hc0 hbig
          have e1 : (q == q) = true := by simp
          cases s2 <;>
          · go_enter Try.func10, Try.ntmps10
            go_wp2_with (go_at_call 57; refine (laws_toIntS.calls k A0 c0 t t _ HR0.out HC0.out HT.out).mono ?_; rintro e w1 ⟨v1, rfl, ho, hb⟩; obtain ⟨A1, c1, rfl, hl1, hC1⟩ := Kd.R_reads ho; have C1 := Aside0.mk hC1; have L1 := Aside0.mk hl1; have B1 := Aside0.mk hb; clear ho hb hC1 hl1)
            go_wp2_with (go_at_call 68; refine (spec_AllWithOutcome.calls k A1 c1 t s1 _ _ C1.out L1.out HS.out).mono ?_; rintro e w2 ⟨v2, rfl, hN, hb⟩; obtain ⟨A2, c2, rfl, hl2, hC2⟩ := Kd.N_reads hN; have N2 := Aside0.mk (Kd.N_bound hN); have L2 := Aside0.mk hl2; have B2 := Aside0.mk (below_step B1.out hb); clear hN hb hl2 hC2)
            go_wp2_with (go_at_call 57; refine (laws_toIntS.calls k A0 c0 t t _ (Kd.C_below HR0.out B2.out) HC0.out HT.out).mono ?_; rintro e w3 ⟨v3, rfl, ho, hb⟩; obtain ⟨A3, c3, rfl, hl3, hC3⟩ := Kd.R_reads ho; have X3 := Aside0.mk (Kd.R_mono (ok' := fun k_ => w2.heap.size ≤ k_ ∧ k_ < w3.heap.size) (Kd.R_bound ho) (fun k_ hk => ⟨hk.2.1, hk.2.2.1⟩)); have L3 := Aside0.mk hl3; have N3 := Aside0.mk (Kd.N_below N2.out hb); have B3 := Aside0.mk hb; clear ho hb hl3 hC3)
            go_wp2_with (go_at_call 69; refine (impl_AllWithOutcome.calls k A3 c3 t s1 _ _ (Kd.R_reads' X3.out).2.2 L3.out HG.out).mono ?_; rintro e w4 ⟨v4, rfl, hS, hb⟩; obtain ⟨A4, c4, rfl, hl4, hC4⟩ := Kd.S_reads hS; have S4 := Aside0.mk (Kd.S_lower (Kd.S_mono (Kd.S_bound hS) (fun k_ hk => (hk.2.1 : w3.heap.size ≤ k_))) (below_size B3.out)); have L4 := Aside0.mk hl4; have X4 := Aside0.mk (Kd.R_below X3.out hb); have N4 := Aside0.mk (Kd.N_below N3.out hb); have B4 := Aside0.mk (below_step B3.out hb); clear hS hb hl4 hC4)
            have C4s := Aside0.mk (Kd.S_reads' S4.out).2.2
            have C4n := Aside0.mk (Kd.N_reads' N4.out).2.2
            go_wp2_with (go_at_call 70; refine (laws_eqIntSS.calls k A4 c4 s1 A2 c2 s1 true _ C4s.out L4.out C4n.out L2.out HE.out).mono ?_; rintro e w5 ⟨rfl, ⟨n5, rfl⟩⟩; have B5 := Aside0.mk (pw_below_drewN B4.out n5); have S5 := Aside0.mk (Kd.S_drewN S4.out n5); have N5 := Aside0.mk (Kd.N_drewN N4.out n5); have X5 := Aside0.mk (Kd.R_drewN X4.out n5))
            clear C4s C4n
            go_wp2_with (go_at_call 57; refine (laws_toIntS.calls k A0 c0 t t _ (Kd.C_below HR0.out (below_step B2.out B5.out)) HC0.out HT.out).mono ?_; rintro e w6 ⟨v6, rfl, ho, hb⟩; obtain ⟨A6, c6, rfl, hl6, hC6⟩ := Kd.R_reads ho; have C6 := Aside0.mk hC6; have L6 := Aside0.mk hl6; have S6 := Aside0.mk (Kd.S_below S5.out hb); have N6 := Aside0.mk (Kd.N_below N5.out hb); have X6 := Aside0.mk (Kd.R_below X5.out hb); have B6 := Aside0.mk (below_step B5.out hb); clear ho hb hl6 hC6)
            have C6x := Aside0.mk (Kd.R_reads' X6.out).2.2
            go_wp2_with (go_at_call 59; refine (laws_eqIntS.calls k A3 c3 t A6 c6 t true _ C6x.out L3.out C6.out L6.out HEI.out).mono ?_; rintro e w7 ⟨rfl, ⟨n7, rfl⟩⟩; have B7 := Aside0.mk (pw_below_drewN B6.out n7); have S7 := Aside0.mk (Kd.S_drewN S6.out n7); have N7 := Aside0.mk (Kd.N_drewN N6.out n7); have X7 := Aside0.mk (Kd.R_drewN X6.out n7))
            clear C6x
            go_wp2_with (go_at_call 64; refine (laws_markIntS.calls k (fun k_ => w2.heap.size ≤ k_ ∧ k_ < w3.heap.size) _ t 1 mi1 mi2 w2 _ B7.out X7.out HMI.out).mono ?_; rintro e w8 ⟨rfl, hR8, hB8, hK8⟩; have S8 := Aside0.mk (Kd.S_kept S7.out hK8 (fun k_ hk hn => by have h1 : w3.heap.size ≤ k_ := hk; have h2 : k_ < w3.heap.size := hn.2; omega)); have N8 := Aside0.mk (Kd.N_kept N7.out hK8 (fun k_ hk hn => by have h1 : k_ < w2.heap.size := hk.2; have h2 : w2.heap.size ≤ k_ := hn.1; omega)); have B8 := Aside0.mk hB8; clear hR8 hB8 hK8)
            have C8s := Aside0.mk (Kd.S_reads' S8.out).2.2
            have C8n := Aside0.mk (Kd.N_reads' N8.out).2.2
            go_wp2_with (go_at_call 70; refine (laws_eqIntSS.calls k A4 c4 s1 A2 c2 s1 true _ C8s.out L4.out C8n.out L2.out HE.out).mono ?_; rintro e w9 ⟨rfl, ⟨n9, rfl⟩⟩; have B9 := Aside0.mk (pw_below_drewN B8.out n9); have S9 := Aside0.mk (Kd.S_drewN S8.out n9); have N9 := Aside0.mk (Kd.N_drewN N8.out n9))
            clear C8s C8n
            go_wp2_with (go_at_call 71; refine (laws_markIntSS.calls k (fun k_ => w3.heap.size ≤ k_) _ s1 1 q m2 w2 _ B9.out HLn.out S9.out HM.out).mono ?_; rintro e w10 ⟨rfl, hS10, hB10, hK10⟩; have S10 := Aside0.mk hS10; have B10 := Aside0.mk hB10; have N10 := Aside0.mk (Kd.N_kept N9.out hK10 (fun k_ hk hn => by have h1 : k_ < w2.heap.size := hk.2; have h2 : w3.heap.size ≤ k_ := hn; have := below_size B3.out; omega)); clear hS10 hB10 hK10)
            obtain ⟨hlen10, hle10, hC10⟩ := Kd.S_reads' S10.out
            have HL10 := Aside0.mk hlen10
            have C10 := Aside0.mk hC10
            have L10 := Aside0.mk hle10
            clear hlen10 hle10 hC10
            have HH : ∀ (W : World), Kd.C (Kd.slice 3 (Kd.int .i64)) W A4 m2.length m2 → Calls Try.prog 72 #[.slice A4 s1.length c4, .int .i64 1] W fun e w' => e = .returned (.int .i64 q) ∧ Drawn0 W w' := fun W hC => by
              rw [HL10.out]
              exact laws_heldIntSS.calls k A4 c4 m2 1 q W hC (HL10.out ▸ L10.out) HQ.out
            go_wp2_with (go_at_call 72; refine (HH _ C10.out).mono ?_; rintro e w11 ⟨rfl, ⟨n11, rfl⟩⟩; have S11 := Aside0.mk (Kd.S_drewN S10.out n11); have N11 := Aside0.mk (Kd.N_drewN N10.out n11); have B11 := Aside0.mk (pw_below_drewN B10.out n11))
            go_wp2_with (go_at_call 57; refine (laws_toIntS.calls k A0 c0 t t _ (Kd.C_below HR0.out (below_step B2.out B11.out)) HC0.out HT.out).mono ?_; rintro e w12 ⟨v12, rfl, ho, hb⟩; obtain ⟨A12, c12, rfl, hl12, hC12⟩ := Kd.R_reads ho; have C12 := Aside0.mk hC12; have L12 := Aside0.mk hl12; have S12 := Aside0.mk (Kd.S_below S11.out hb); have N12 := Aside0.mk (Kd.N_below N11.out hb); have B12 := Aside0.mk (below_step B11.out hb); clear ho hb hl12 hC12)
            go_wp2_with (go_at_call 69; refine (impl_AllWithOutcome.calls k A12 c12 t s1 _ _ C12.out L12.out HG.out).mono ?_; rintro e w13 ⟨v13, rfl, hS, hb⟩; obtain ⟨A13, c13, rfl, hl13, hC13⟩ := Kd.S_reads hS; have C13 := Aside0.mk hC13; have L13 := Aside0.mk hl13; have S13 := Aside0.mk (Kd.S_below S12.out hb); have N13 := Aside0.mk (Kd.N_below N12.out hb); have B13 := Aside0.mk (below_step B12.out hb); clear hS hb hl13 hC13)
            have C13n := Aside0.mk (Kd.N_reads' N13.out).2.2
            have C13s := Aside0.mk (Kd.S_reads' S13.out).2.2
            go_wp2_with (go_at_call 70; refine (laws_eqIntSS.calls k A13 c13 s1 A2 c2 s1 true _ C13.out L13.out C13n.out L2.out HE.out).mono ?_; rintro e w14 ⟨rfl, ⟨n14, rfl⟩⟩; have C14 := Aside0.mk (Kd.C_drewN C13s.out n14); have B14 := Aside0.mk (pw_below_drewN B13.out n14))
            go_wp2_with (go_at_call 72; refine (HH _ C14.out).mono ?_; rintro e w15 ⟨rfl, ⟨n15, rfl⟩⟩; have B15 := Aside0.mk (pw_below_drewN B14.out n15))
            go_ret
            exact ⟨by first | rfl | (simp; done), by first | exact below_step B2.out B15.out | exact below_step B2.out (by simpa using B15.out)⟩
        · rw [if_neg c] at h11
          cases h11
      · rw [if_neg c] at h
        cases h
    · rw [if_neg e] at h
      cases h
  · rw [if_neg e] at h
    cases h
def laws_FnExactAllWithOutcome.Pure : Prop := ∀ (l0 : List Int), l0.length ≤ maxLen → l0.length * 8 ≤ 140737488351232 → (∀ x ∈ l0, (Lit.int .i64 x).wf = true) → ∃ k, laws_FnExactAllWithOutcome.f k l0 = some true
theorem laws_FnExactAllWithOutcome.walk (P : laws_FnExactAllWithOutcome.Pure) (a0 : Option Addr) (len0 cap0 : Nat) (z0 : List Int) (w : World) (w0 : (a0 = none ∧ len0 = 0 ∧ cap0 = 0 ∧ z0 = []) ∨ ∃ x, a0 = some x ∧ len0 ≤ cap0 ∧ cap0 ≤ maxLen ∧ z0.length = cap0 ∧ (∀ i, i < z0.length → w.cell? (x.add i) = some (.int .i64 (z0.getD i 0))) ∧ ∀ n ∈ z0, (Lit.int .i64 n).wf = true) (y0 : len0 * 8 ≤ 140737488351232) :
    Calls Try.prog 10 #[.slice a0 len0 cap0] w fun e w' => e = .returned (.bool true) ∧ Below w.heap.size w w' := by
  obtain ⟨l0, rfl, hr0, hm0, hw0, hc0⟩ := ReadsInt.ofRowC w0
  obtain ⟨k, h⟩ := P l0 hm0 y0 hw0
  refine (laws_FnExactAllWithOutcome.calls k _ _ l0 true w (Kd.C_of_reads (d := (0 : Int)) (h1 := fun _ => rfl) hr0) hc0 h).mono ?_
  rintro e w' ⟨rfl, hd⟩
  exact ⟨rfl, hd⟩

/-! ### laws_FnExactAllWithOutcome: function 10 -/

end Go.Proofs.Ytdiohjdfiambhaa.QFnExactAllWithOutcome
