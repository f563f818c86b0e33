/- Proved here: each Go function named below, when called, returns what the Lean function of its name computes, wherever that function answers. Text written by this session's program over the kit's print; law FnParkingCounts. -/
import Derived.Test.YtdiohjdfiambhaaQFnParkingCountsx0
import Derived.Test.YtdiohjdfiambhaaQFnParkingCountsx1
import Derived.Test.YtdiohjdfiambhaaQFnParkingCountsx3
import Derived.Test.YtdiohjdfiambhaaQFnParkingCountsx5
import Derived.Test.YtdiohjdfiambhaaQFnParkingCountsx6
import Derived.Test.YtdiohjdfiambhaaQFnParkingCountsx7
import Derived.Test.YtdiohjdfiambhaaQFnParkingCountsx8
import Derived.Test.YtdiohjdfiambhaaQFnParkingCountsx9
namespace Go.Proofs.Ytdiohjdfiambhaa.QFnParkingCounts
open Go.RowKit Go.Proofs.YtdiohjdfiambhaaW.PrintWords Go.Proofs.YtdiohjdfiambhaaW.PrintLast Go.Proofs.YtdiohjdfiambhaaW.PrintMore
attribute [local go_sem] max2_int min2_int max_two min_two max_three min_three max_four min_four   -- for this text's walks alone
set_option linter.unusedVariables false
set_option linter.unusedSimpArgs false

/-! ### laws_FnParkingCounts: function 5 -/
mutual
def laws_FnParkingCounts.j0 : Nat → List Int → List Int → Bool → List Int → Int → Bool → Bool → Option (Bool)
 | 0, _, _, _, _, _, _, _ => none
 | k + 1, x1, x6, x7, x10, x14, x15, x93 => if x93 = true then (some false) else (if x7 = true then (if x15 = true then ((laws_jSum.f k x6).bind fun t397 => (if t397 = x14 then ((laws_jSum.f k x10).bind fun t398 => (laws_FnParkingCounts.j1 k x1 x6 x7 (t398 != x14))) else (laws_FnParkingCounts.j1 k x1 x6 x7 true))) else (laws_FnParkingCounts.j1 k x1 x6 x7 true)) else (laws_FnParkingCounts.j1 k x1 x6 x7 false))
def laws_FnParkingCounts.j1 : Nat → List Int → List Int → Bool → Bool → Option (Bool)
 | 0, _, _, _, _ => none
 | k + 1, x1, x6, x7, x110 => if x110 = true then (some false) else (if x7 = true then (laws_FnParkingCounts.l0 k x1 x6 1) else (laws_FnParkingCounts.j3 k x1))
def laws_FnParkingCounts.j3 : Nat → List Int → Option (Bool)
 | 0, _ => none
 | k + 1, x1 => (spec_DrawCountByDistance.f x1).bind fun t401 => ((impl_CountByDistance.f k t401).bind fun bt402 => ((spec_CountByDistance.f k t401).bind fun bt406 => (if (bt402.2 != bt406.2) = true then (laws_FnParkingCounts.j4 k x1 t401 bt402.1 bt402.2 true) else ((laws_jSame.f k bt402.1 bt406.1).bind fun t410 => (laws_FnParkingCounts.j4 k x1 t401 bt402.1 bt402.2 (!t410))))))
def laws_FnParkingCounts.j4 : Nat → List Int → Int → List Int → Bool → Bool → Option (Bool)
 | 0, _, _, _, _, _ => none
 | k + 1, x1, x17, x18, x19, x148 => if x148 = true then (some false) else (if x19 = true then ((impl_AllParking.f k x17).bind fun bt411 => (if bt411.2 = true then ((laws_jSum.f k x18).bind fun t415 => (laws_FnParkingCounts.j5 k x1 x17 bt411.1 (t415 != (bt411.1.length : Int)))) else (laws_FnParkingCounts.j5 k x1 x17 bt411.1 true))) else (laws_FnParkingCounts.j7 k x1))
def laws_FnParkingCounts.j7 : Nat → List Int → Option (Bool)
 | 0, _ => none
 | k + 1, x1 => (spec_DrawCountForStreet.f x1).bind fun bt431 => ((impl_CountForStreet.f k bt431.1 bt431.2).bind fun bt433 => ((spec_CountForStreet.f k bt431.1 bt431.2).bind fun bt435 => (if (bt433.2 != bt435.2) = true then (laws_FnParkingCounts.j8 k bt431.1 bt431.2 bt433.1 bt433.2 true) else (laws_FnParkingCounts.j8 k bt431.1 bt431.2 bt433.1 bt433.2 (bt433.1 != bt435.1)))))
def laws_FnParkingCounts.j8 : Nat → Int → Int → Int → Bool → Bool → Option (Bool)
 | 0, _, _, _, _, _ => none
 | k + 1, x31, x32, x33, x34, x228 => if x228 = true then (some false) else (if x34 = true then (if x31 = x32 then ((impl_CountParking.f k x31).bind fun bt437 => (if bt437.2 = true then (some (bt437.1 == x33)) else (some false))) else (some true)) else (some true))
def laws_FnParkingCounts.j5 : Nat → List Int → Int → List (List Int) → Bool → Option (Bool)
 | 0, _, _, _, _ => none
 | k + 1, x1, x17, x22, x163 => if x163 = true then (some false) else (if x17 ≥ 1 then (if 0 ≤ (wrap64 (x17 + 1)) then (if (wrap64 (x17 + 1) : Int).toNat ≤ 35184372088832 then (laws_FnParkingCounts.l1 k x1 x17 (List.replicate (wrap64 (x17 + 1) : Int).toNat 0) x22 (x22.length : Int) 0) else (none)) else (none)) else (laws_FnParkingCounts.j7 k x1))
def laws_FnParkingCounts.l1 : Nat → List Int → Int → List Int → List (List Int) → Int → Int → Option (Bool)
 | 0, _, _, _, _, _, _ => none
 | k + 1, x1, x17, x24, x169, x170, x171 => if x171 < x170 then (if 0 ≤ x171 then (if x171 < (x169.length : Int) then ((impl_LuckyCars.f k (rd_L2 x169 x171) x17).bind fun bt420 => (if bt420.2 = true then (if 0 ≤ (bt420.1.length : Int) then (if (bt420.1.length : Int) < (x24.length : Int) then (laws_FnParkingCounts.l1 k x1 x17 (x24.set ((bt420.1.length : Int) : Int).toNat (wrap64 ((rd x24 (bt420.1.length : Int)) + 1))) x169 x170 (wrap64 (x171 + 1))) else (none)) else (none)) else (some false))) else (none)) else (none)) else ((impl_CountByLucky.f k x17).bind fun bt426 => (if bt426.2 = true then ((laws_jSame.f k x24 bt426.1).bind fun t430 => (if t430 = true then (laws_FnParkingCounts.j7 k x1) else (some false))) else (some false)))
def laws_FnParkingCounts.l0 : Nat → List Int → List Int → Int → Option (Bool)
 | 0, _, _, _ => none
 | k + 1, x1, x6, x16 => if x16 < (x6.length : Int) then (if 0 ≤ x16 then (if 0 ≤ (wrap64 (x16 - 1)) then (if (wrap64 (x16 - 1)) < (x6.length : Int) then (if (rd x6 x16) > (rd x6 (wrap64 (x16 - 1))) then (some false) else (laws_FnParkingCounts.l0 k x1 x6 (wrap64 (x16 + 1)))) else (none)) else (none)) else (none)) else (laws_FnParkingCounts.j3 k x1)
end
def laws_FnParkingCounts.f (k : Nat) (l0 : List Int) (l1 : List Int) : Option (Bool) := (laws_big.f l0 l1).bind fun t375 => (if t375 = true then (some true) else ((spec_DrawCountByFirst.f l0).bind fun t376 => ((impl_CountByFirst.f k t376).bind fun bt377 => ((spec_CountByFirst.f k t376).bind fun bt381 => ((impl_CountByLucky.f k t376).bind fun bt385 => ((spec_CountByLucky.f k t376).bind fun bt389 => ((impl_CountParking.f k t376).bind fun bt393 => (if (bt377.2 != bt381.2) = true then (laws_FnParkingCounts.j0 k l1 bt377.1 bt377.2 bt385.1 bt393.1 bt393.2 true) else ((laws_jSame.f k bt377.1 bt381.1).bind fun t395 => (if t395 = true then (if (bt385.2 != bt389.2) = true then (laws_FnParkingCounts.j0 k l1 bt377.1 bt377.2 bt385.1 bt393.1 bt393.2 true) else ((laws_jSame.f k bt385.1 bt389.1).bind fun t396 => (if t396 = true then (laws_FnParkingCounts.j0 k l1 bt377.1 bt377.2 bt385.1 bt393.1 bt393.2 (bt385.2 != bt377.2)) else (laws_FnParkingCounts.j0 k l1 bt377.1 bt377.2 bt385.1 bt393.1 bt393.2 true)))) else (laws_FnParkingCounts.j0 k l1 bt377.1 bt377.2 bt385.1 bt393.1 bt393.2 true)))))))))))
theorem laws_FnParkingCounts.mono_l : ∀ k, (∀ y0 y1 y2 y3 y4 y5 y6, LeO (laws_FnParkingCounts.j0 k y0 y1 y2 y3 y4 y5 y6) (laws_FnParkingCounts.j0 (k + 1) y0 y1 y2 y3 y4 y5 y6)) ∧ (∀ y0 y1 y2 y3, LeO (laws_FnParkingCounts.j1 k y0 y1 y2 y3) (laws_FnParkingCounts.j1 (k + 1) y0 y1 y2 y3)) ∧ (∀ y0, LeO (laws_FnParkingCounts.j3 k y0) (laws_FnParkingCounts.j3 (k + 1) y0)) ∧ (∀ y0 y1 y2 y3 y4, LeO (laws_FnParkingCounts.j4 k y0 y1 y2 y3 y4) (laws_FnParkingCounts.j4 (k + 1) y0 y1 y2 y3 y4)) ∧ (∀ y0, LeO (laws_FnParkingCounts.j7 k y0) (laws_FnParkingCounts.j7 (k + 1) y0)) ∧ (∀ y0 y1 y2 y3 y4, LeO (laws_FnParkingCounts.j8 k y0 y1 y2 y3 y4) (laws_FnParkingCounts.j8 (k + 1) y0 y1 y2 y3 y4)) ∧ (∀ y0 y1 y2 y3, LeO (laws_FnParkingCounts.j5 k y0 y1 y2 y3) (laws_FnParkingCounts.j5 (k + 1) y0 y1 y2 y3)) ∧ (∀ y0 y1 y2 y3 y4 y5, LeO (laws_FnParkingCounts.l1 k y0 y1 y2 y3 y4 y5) (laws_FnParkingCounts.l1 (k + 1) y0 y1 y2 y3 y4 y5)) ∧ (∀ y0 y1 y2, LeO (laws_FnParkingCounts.l0 k y0 y1 y2) (laws_FnParkingCounts.l0 (k + 1) y0 y1 y2))
 | 0 => ⟨fun _ _ _ _ _ _ _ r h => by simp [laws_FnParkingCounts.j0] at h, fun _ _ _ _ r h => by simp [laws_FnParkingCounts.j1] at h, fun _ r h => by simp [laws_FnParkingCounts.j3] at h, fun _ _ _ _ _ r h => by simp [laws_FnParkingCounts.j4] at h, fun _ r h => by simp [laws_FnParkingCounts.j7] at h, fun _ _ _ _ _ r h => by simp [laws_FnParkingCounts.j8] at h, fun _ _ _ _ r h => by simp [laws_FnParkingCounts.j5] at h, fun _ _ _ _ _ _ r h => by simp [laws_FnParkingCounts.l1] at h, fun _ _ _ r h => by simp [laws_FnParkingCounts.l0] at h⟩
 | k + 1 => by
  obtain ⟨ih0, ih1, ih2, ih3, ih4, ih5, ih6, ih7, ih8⟩ := laws_FnParkingCounts.mono_l k
  refine ⟨?_, ?_, ?_, ?_, ?_, ?_, ?_, ?_, ?_⟩
  ·intro y0 y1 y2 y3 y4 y5 y6
   unfold laws_FnParkingCounts.j0
   repeat' first
   | (with_reducible exact ih0 _ _ _ _ _ _ _)
   | (with_reducible exact ih1 _ _ _ _)
   | (with_reducible exact ih2 _)
   | (with_reducible exact ih3 _ _ _ _ _)
   | (with_reducible exact ih4 _)
   | (with_reducible exact ih5 _ _ _ _ _)
   | (with_reducible exact ih6 _ _ _ _)
   | (with_reducible exact ih7 _ _ _ _ _ _)
   | (with_reducible exact ih8 _ _ _)
   | (with_reducible exact impl_AllParking.mono _ _)
   | (with_reducible exact impl_CountByDistance.mono _ _)
   | (with_reducible exact impl_CountByFirst.mono _ _)
   | (with_reducible exact impl_CountByLucky.mono _ _)
   | (with_reducible exact impl_CountForStreet.mono _ _ _)
   | (with_reducible exact impl_CountParking.mono _ _)
   | (with_reducible exact impl_LuckyCars.mono _ _ _)
   | (with_reducible exact laws_jSame.mono _ _ _)
   | (with_reducible exact laws_jSum.mono _ _)
   | (with_reducible exact spec_CountByDistance.mono _ _)
   | (with_reducible exact spec_CountByFirst.mono _ _)
   | (with_reducible exact spec_CountByLucky.mono _ _)
   | (with_reducible exact spec_CountForStreet.mono _ _ _)
   | (with_reducible exact LeO.refl _)
   | (with_reducible exact LeO.none _)
   | (with_reducible refine LeO.ite ?_ ?_)
   | (with_reducible refine LeO.bind ?_ (fun _ => ?_))
   | refine LeO.ite ?_ ?_
   | refine LeO.bind ?_ (fun _ => ?_)
  ·intro y0 y1 y2 y3
   unfold laws_FnParkingCounts.j1
   repeat' first
   | (with_reducible exact ih0 _ _ _ _ _ _ _)
   | (with_reducible exact ih1 _ _ _ _)
   | (with_reducible exact ih2 _)
   | (with_reducible exact ih3 _ _ _ _ _)
   | (with_reducible exact ih4 _)
   | (with_reducible exact ih5 _ _ _ _ _)
   | (with_reducible exact ih6 _ _ _ _)
   | (with_reducible exact ih7 _ _ _ _ _ _)
   | (with_reducible exact ih8 _ _ _)
   | (with_reducible exact impl_AllParking.mono _ _)
   | (with_reducible exact impl_CountByDistance.mono _ _)
   | (with_reducible exact impl_CountByFirst.mono _ _)
   | (with_reducible exact impl_CountByLucky.mono _ _)
   | (with_reducible exact impl_CountForStreet.mono _ _ _)
   | (with_reducible exact impl_CountParking.mono _ _)
   | (with_reducible exact impl_LuckyCars.mono _ _ _)
   | (with_reducible exact laws_jSame.mono _ _ _)
   | (with_reducible exact laws_jSum.mono _ _)
   | (with_reducible exact spec_CountByDistance.mono _ _)
   | (with_reducible exact spec_CountByFirst.mono _ _)
   | (with_reducible exact spec_CountByLucky.mono _ _)
   | (with_reducible exact spec_CountForStreet.mono _ _ _)
   | (with_reducible exact LeO.refl _)
   | (with_reducible exact LeO.none _)
   | (with_reducible refine LeO.ite ?_ ?_)
   | (with_reducible refine LeO.bind ?_ (fun _ => ?_))
   | refine LeO.ite ?_ ?_
   | refine LeO.bind ?_ (fun _ => ?_)
  ·intro y0
   unfold laws_FnParkingCounts.j3
   repeat' first
   | (with_reducible exact ih0 _ _ _ _ _ _ _)
   | (with_reducible exact ih1 _ _ _ _)
   | (with_reducible exact ih2 _)
   | (with_reducible exact ih3 _ _ _ _ _)
   | (with_reducible exact ih4 _)
   | (with_reducible exact ih5 _ _ _ _ _)
   | (with_reducible exact ih6 _ _ _ _)
   | (with_reducible exact ih7 _ _ _ _ _ _)
   | (with_reducible exact ih8 _ _ _)
   | (with_reducible exact impl_AllParking.mono _ _)
   | (with_reducible exact impl_CountByDistance.mono _ _)
   | (with_reducible exact impl_CountByFirst.mono _ _)
   | (with_reducible exact impl_CountByLucky.mono _ _)
   | (with_reducible exact impl_CountForStreet.mono _ _ _)
   | (with_reducible exact impl_CountParking.mono _ _)
   | (with_reducible exact impl_LuckyCars.mono _ _ _)
   | (with_reducible exact laws_jSame.mono _ _ _)
   | (with_reducible exact laws_jSum.mono _ _)
   | (with_reducible exact spec_CountByDistance.mono _ _)
   | (with_reducible exact spec_CountByFirst.mono _ _)
   | (with_reducible exact spec_CountByLucky.mono _ _)
   | (with_reducible exact spec_CountForStreet.mono _ _ _)
   | (with_reducible exact LeO.refl _)
   | (with_reducible exact LeO.none _)
   | (with_reducible refine LeO.ite ?_ ?_)
   | (with_reducible refine LeO.bind ?_ (fun _ => ?_))
   | refine LeO.ite ?_ ?_
   | refine LeO.bind ?_ (fun _ => ?_)
  ·intro y0 y1 y2 y3 y4
   unfold laws_FnParkingCounts.j4
   repeat' first
   | (with_reducible exact ih0 _ _ _ _ _ _ _)
   | (with_reducible exact ih1 _ _ _ _)
   | (with_reducible exact ih2 _)
   | (with_reducible exact ih3 _ _ _ _ _)
   | (with_reducible exact ih4 _)
   | (with_reducible exact ih5 _ _ _ _ _)
   | (with_reducible exact ih6 _ _ _ _)
   | (with_reducible exact ih7 _ _ _ _ _ _)
   | (with_reducible exact ih8 _ _ _)
   | (with_reducible exact impl_AllParking.mono _ _)
   | (with_reducible exact impl_CountByDistance.mono _ _)
   | (with_reducible exact impl_CountByFirst.mono _ _)
   | (with_reducible exact impl_CountByLucky.mono _ _)
   | (with_reducible exact impl_CountForStreet.mono _ _ _)
   | (with_reducible exact impl_CountParking.mono _ _)
   | (with_reducible exact impl_LuckyCars.mono _ _ _)
   | (with_reducible exact laws_jSame.mono _ _ _)
   | (with_reducible exact laws_jSum.mono _ _)
   | (with_reducible exact spec_CountByDistance.mono _ _)
   | (with_reducible exact spec_CountByFirst.mono _ _)
   | (with_reducible exact spec_CountByLucky.mono _ _)
   | (with_reducible exact spec_CountForStreet.mono _ _ _)
   | (with_reducible exact LeO.refl _)
   | (with_reducible exact LeO.none _)
   | (with_reducible refine LeO.ite ?_ ?_)
   | (with_reducible refine LeO.bind ?_ (fun _ => ?_))
   | refine LeO.ite ?_ ?_
   | refine LeO.bind ?_ (fun _ => ?_)
  ·intro y0
   unfold laws_FnParkingCounts.j7
   repeat' first
   | (with_reducible exact ih0 _ _ _ _ _ _ _)
   | (with_reducible exact ih1 _ _ _ _)
   | (with_reducible exact ih2 _)
   | (with_reducible exact ih3 _ _ _ _ _)
   | (with_reducible exact ih4 _)
   | (with_reducible exact ih5 _ _ _ _ _)
   | (with_reducible exact ih6 _ _ _ _)
   | (with_reducible exact ih7 _ _ _ _ _ _)
   | (with_reducible exact ih8 _ _ _)
   | (with_reducible exact impl_AllParking.mono _ _)
   | (with_reducible exact impl_CountByDistance.mono _ _)
   | (with_reducible exact impl_CountByFirst.mono _ _)
   | (with_reducible exact impl_CountByLucky.mono _ _)
   | (with_reducible exact impl_CountForStreet.mono _ _ _)
   | (with_reducible exact impl_CountParking.mono _ _)
   | (with_reducible exact impl_LuckyCars.mono _ _ _)
   | (with_reducible exact laws_jSame.mono _ _ _)
   | (with_reducible exact laws_jSum.mono _ _)
   | (with_reducible exact spec_CountByDistance.mono _ _)
   | (with_reducible exact spec_CountByFirst.mono _ _)
   | (with_reducible exact spec_CountByLucky.mono _ _)
   | (with_reducible exact spec_CountForStreet.mono _ _ _)
   | (with_reducible exact LeO.refl _)
   | (with_reducible exact LeO.none _)
   | (with_reducible refine LeO.ite ?_ ?_)
   | (with_reducible refine LeO.bind ?_ (fun _ => ?_))
   | refine LeO.ite ?_ ?_
   | refine LeO.bind ?_ (fun _ => ?_)
  ·intro y0 y1 y2 y3 y4
   unfold laws_FnParkingCounts.j8
   repeat' first
   | (with_reducible exact ih0 _ _ _ _ _ _ _)
   | (with_reducible exact ih1 _ _ _ _)
   | (with_reducible exact ih2 _)
   | (with_reducible exact ih3 _ _ _ _ _)
   | (with_reducible exact ih4 _)
   | (with_reducible exact ih5 _ _ _ _ _)
   | (with_reducible exact ih6 _ _ _ _)
   | (with_reducible exact ih7 _ _ _ _ _ _)
   | (with_reducible exact ih8 _ _ _)
   | (with_reducible exact impl_AllParking.mono _ _)
   | (with_reducible exact impl_CountByDistance.mono _ _)
   | (with_reducible exact impl_CountByFirst.mono _ _)
   | (with_reducible exact impl_CountByLucky.mono _ _)
   | (with_reducible exact impl_CountForStreet.mono _ _ _)
   | (with_reducible exact impl_CountParking.mono _ _)
   | (with_reducible exact impl_LuckyCars.mono _ _ _)
   | (with_reducible exact laws_jSame.mono _ _ _)
   | (with_reducible exact laws_jSum.mono _ _)
   | (with_reducible exact spec_CountByDistance.mono _ _)
   | (with_reducible exact spec_CountByFirst.mono _ _)
   | (with_reducible exact spec_CountByLucky.mono _ _)
   | (with_reducible exact spec_CountForStreet.mono _ _ _)
   | (with_reducible exact LeO.refl _)
   | (with_reducible exact LeO.none _)
   | (with_reducible refine LeO.ite ?_ ?_)
   | (with_reducible refine LeO.bind ?_ (fun _ => ?_))
   | refine LeO.ite ?_ ?_
   | refine LeO.bind ?_ (fun _ => ?_)
  ·intro y0 y1 y2 y3
   unfold laws_FnParkingCounts.j5
   repeat' first
   | (with_reducible exact ih0 _ _ _ _ _ _ _)
   | (with_reducible exact ih1 _ _ _ _)
   | (with_reducible exact ih2 _)
   | (with_reducible exact ih3 _ _ _ _ _)
   | (with_reducible exact ih4 _)
   | (with_reducible exact ih5 _ _ _ _ _)
   | (with_reducible exact ih6 _ _ _ _)
   | (with_reducible exact ih7 _ _ _ _ _ _)
   | (with_reducible exact ih8 _ _ _)
   | (with_reducible exact impl_AllParking.mono _ _)
   | (with_reducible exact impl_CountByDistance.mono _ _)
   | (with_reducible exact impl_CountByFirst.mono _ _)
   | (with_reducible exact impl_CountByLucky.mono _ _)
   | (with_reducible exact impl_CountForStreet.mono _ _ _)
   | (with_reducible exact impl_CountParking.mono _ _)
   | (with_reducible exact impl_LuckyCars.mono _ _ _)
   | (with_reducible exact laws_jSame.mono _ _ _)
   | (with_reducible exact laws_jSum.mono _ _)
   | (with_reducible exact spec_CountByDistance.mono _ _)
   | (with_reducible exact spec_CountByFirst.mono _ _)
   | (with_reducible exact spec_CountByLucky.mono _ _)
   | (with_reducible exact spec_CountForStreet.mono _ _ _)
   | (with_reducible exact LeO.refl _)
   | (with_reducible exact LeO.none _)
   | (with_reducible refine LeO.ite ?_ ?_)
   | (with_reducible refine LeO.bind ?_ (fun _ => ?_))
   | refine LeO.ite ?_ ?_
   | refine LeO.bind ?_ (fun _ => ?_)
  ·intro y0 y1 y2 y3 y4 y5
   unfold laws_FnParkingCounts.l1
   repeat' first
   | (with_reducible exact ih0 _ _ _ _ _ _ _)
   | (with_reducible exact ih1 _ _ _ _)
   | (with_reducible exact ih2 _)
   | (with_reducible exact ih3 _ _ _ _ _)
   | (with_reducible exact ih4 _)
   | (with_reducible exact ih5 _ _ _ _ _)
   | (with_reducible exact ih6 _ _ _ _)
   | (with_reducible exact ih7 _ _ _ _ _ _)
   | (with_reducible exact ih8 _ _ _)
   | (with_reducible exact impl_AllParking.mono _ _)
   | (with_reducible exact impl_CountByDistance.mono _ _)
   | (with_reducible exact impl_CountByFirst.mono _ _)
   | (with_reducible exact impl_CountByLucky.mono _ _)
   | (with_reducible exact impl_CountForStreet.mono _ _ _)
   | (with_reducible exact impl_CountParking.mono _ _)
   | (with_reducible exact impl_LuckyCars.mono _ _ _)
   | (with_reducible exact laws_jSame.mono _ _ _)
   | (with_reducible exact laws_jSum.mono _ _)
   | (with_reducible exact spec_CountByDistance.mono _ _)
   | (with_reducible exact spec_CountByFirst.mono _ _)
   | (with_reducible exact spec_CountByLucky.mono _ _)
   | (with_reducible exact spec_CountForStreet.mono _ _ _)
   | (with_reducible exact LeO.refl _)
   | (with_reducible exact LeO.none _)
   | (with_reducible refine LeO.ite ?_ ?_)
   | (with_reducible refine LeO.bind ?_ (fun _ => ?_))
   | refine LeO.ite ?_ ?_
   | refine LeO.bind ?_ (fun _ => ?_)
  ·intro y0 y1 y2
   unfold laws_FnParkingCounts.l0
   repeat' first
   | (with_reducible exact ih0 _ _ _ _ _ _ _)
   | (with_reducible exact ih1 _ _ _ _)
   | (with_reducible exact ih2 _)
   | (with_reducible exact ih3 _ _ _ _ _)
   | (with_reducible exact ih4 _)
   | (with_reducible exact ih5 _ _ _ _ _)
   | (with_reducible exact ih6 _ _ _ _)
   | (with_reducible exact ih7 _ _ _ _ _ _)
   | (with_reducible exact ih8 _ _ _)
   | (with_reducible exact impl_AllParking.mono _ _)
   | (with_reducible exact impl_CountByDistance.mono _ _)
   | (with_reducible exact impl_CountByFirst.mono _ _)
   | (with_reducible exact impl_CountByLucky.mono _ _)
   | (with_reducible exact impl_CountForStreet.mono _ _ _)
   | (with_reducible exact impl_CountParking.mono _ _)
   | (with_reducible exact impl_LuckyCars.mono _ _ _)
   | (with_reducible exact laws_jSame.mono _ _ _)
   | (with_reducible exact laws_jSum.mono _ _)
   | (with_reducible exact spec_CountByDistance.mono _ _)
   | (with_reducible exact spec_CountByFirst.mono _ _)
   | (with_reducible exact spec_CountByLucky.mono _ _)
   | (with_reducible exact spec_CountForStreet.mono _ _ _)
   | (with_reducible exact LeO.refl _)
   | (with_reducible exact LeO.none _)
   | (with_reducible refine LeO.ite ?_ ?_)
   | (with_reducible refine LeO.bind ?_ (fun _ => ?_))
   | refine LeO.ite ?_ ?_
   | refine LeO.bind ?_ (fun _ => ?_)
theorem laws_FnParkingCounts.mono : ∀ a0 a1 k, LeO (laws_FnParkingCounts.f k a0 a1) (laws_FnParkingCounts.f (k + 1) a0 a1) := by
 intro a0 a1 k
 obtain ⟨ih0, ih1, ih2, ih3, ih4, ih5, ih6, ih7, ih8⟩ := laws_FnParkingCounts.mono_l k
 unfold laws_FnParkingCounts.f
 repeat' first
   | (with_reducible exact ih0 _ _ _ _ _ _ _)
   | (with_reducible exact ih1 _ _ _ _)
   | (with_reducible exact ih2 _)
   | (with_reducible exact ih3 _ _ _ _ _)
   | (with_reducible exact ih4 _)
   | (with_reducible exact ih5 _ _ _ _ _)
   | (with_reducible exact ih6 _ _ _ _)
   | (with_reducible exact ih7 _ _ _ _ _ _)
   | (with_reducible exact ih8 _ _ _)
   | (with_reducible exact impl_AllParking.mono _ _)
   | (with_reducible exact impl_CountByDistance.mono _ _)
   | (with_reducible exact impl_CountByFirst.mono _ _)
   | (with_reducible exact impl_CountByLucky.mono _ _)
   | (with_reducible exact impl_CountForStreet.mono _ _ _)
   | (with_reducible exact impl_CountParking.mono _ _)
   | (with_reducible exact impl_LuckyCars.mono _ _ _)
   | (with_reducible exact laws_jSame.mono _ _ _)
   | (with_reducible exact laws_jSum.mono _ _)
   | (with_reducible exact spec_CountByDistance.mono _ _)
   | (with_reducible exact spec_CountByFirst.mono _ _)
   | (with_reducible exact spec_CountByLucky.mono _ _)
   | (with_reducible exact spec_CountForStreet.mono _ _ _)
   | (with_reducible exact LeO.refl _)
   | (with_reducible exact LeO.none _)
   | (with_reducible refine LeO.ite ?_ ?_)
   | (with_reducible refine LeO.bind ?_ (fun _ => ?_))
   | refine LeO.ite ?_ ?_
   | refine LeO.bind ?_ (fun _ => ?_)
set_option maxHeartbeats 8000000 in
set_option maxRecDepth 100000 in
theorem laws_FnParkingCounts.calls (k : Nat) (A0 : Option Addr) (c0 : Nat) (l0 : List Int) (A1 : Option Addr) (c1 : Nat) (l1 : List Int) (r : Bool) (w : World) (hr0 : Kd.C (Kd.int .u8) w A0 l0.length l0) (hc0 : l0.length ≤ c0) (hr1 : Kd.C (Kd.int .u8) w A1 l1.length l1) (hc1 : l1.length ≤ c1) (h : laws_FnParkingCounts.f k l0 l1 = some r) :
  Calls Try.prog 5 #[.slice A0 l0.length c0, .slice A1 l1.length c1] w fun e w' => e = .returned (.bool r) ∧ Below w.heap.size w w' := by
 have HR0 := Aside0.mk hr0
 have HC0 := Aside0.mk hc0
 clear hr0 hc0
 have HR1 := Aside0.mk hr1
 have HC1 := Aside0.mk hc1
 clear hr1 hc1
 have HB := Aside0.mk (Below.refl w.heap.size w)
 have H : ((laws_big.f l0 l1).bind fun t375 => (if t375 = true then (some true) else ((spec_DrawCountByFirst.f l0).bind fun t376 => ((impl_CountByFirst.f k t376).bind fun bt377 => ((spec_CountByFirst.f k t376).bind fun bt381 => ((impl_CountByLucky.f k t376).bind fun bt385 => ((spec_CountByLucky.f k t376).bind fun bt389 => ((impl_CountParking.f k t376).bind fun bt393 => (if (bt377.2 != bt381.2) = true then (laws_FnParkingCounts.j0 k l1 bt377.1 bt377.2 bt385.1 bt393.1 bt393.2 true) else ((laws_jSame.f k bt377.1 bt381.1).bind fun t395 => (if t395 = true then (if (bt385.2 != bt389.2) = true then (laws_FnParkingCounts.j0 k l1 bt377.1 bt377.2 bt385.1 bt393.1 bt393.2 true) else ((laws_jSame.f k bt385.1 bt389.1).bind fun t396 => (if t396 = true then (laws_FnParkingCounts.j0 k l1 bt377.1 bt377.2 bt385.1 bt393.1 bt393.2 (bt385.2 != bt377.2)) else (laws_FnParkingCounts.j0 k l1 bt377.1 bt377.2 bt385.1 bt393.1 bt393.2 true)))) else (laws_FnParkingCounts.j0 k l1 bt377.1 bt377.2 bt385.1 bt393.1 bt393.2 true)))))))))))) = some r := h
 clear h
 replace H := Option.bind_eq_some_iff.mp H
 obtain ⟨t375, A30, H⟩ := H
 replace H : (if t375 = true then (some true) else ((spec_DrawCountByFirst.f l0).bind fun t376 => ((impl_CountByFirst.f k t376).bind fun bt377 => ((spec_CountByFirst.f k t376).bind fun bt381 => ((impl_CountByLucky.f k t376).bind fun bt385 => ((spec_CountByLucky.f k t376).bind fun bt389 => ((impl_CountParking.f k t376).bind fun bt393 => (if (bt377.2 != bt381.2) = true then (laws_FnParkingCounts.j0 k l1 bt377.1 bt377.2 bt385.1 bt393.1 bt393.2 true) else ((laws_jSame.f k bt377.1 bt381.1).bind fun t395 => (if t395 = true then (if (bt385.2 != bt389.2) = true then (laws_FnParkingCounts.j0 k l1 bt377.1 bt377.2 bt385.1 bt393.1 bt393.2 true) else ((laws_jSame.f k bt385.1 bt389.1).bind fun t396 => (if t396 = true then (laws_FnParkingCounts.j0 k l1 bt377.1 bt377.2 bt385.1 bt393.1 bt393.2 (bt385.2 != bt377.2)) else (laws_FnParkingCounts.j0 k l1 bt377.1 bt377.2 bt385.1 bt393.1 bt393.2 true)))) else (laws_FnParkingCounts.j0 k l1 bt377.1 bt377.2 bt385.1 bt393.1 bt393.2 true))))))))))) = some r := H
 have A3 := Aside0.mk A30
 clear A30
 by_cases c4 : t375 = true
 ·subst c4
  have H1 : (some true) = some r := by rw [if_pos rfl] at H; exact H
  clear H
  have H := H1
  clear H1
  obtain rfl := Option.some.inj H
  go_enter Try.func5, Try.ntmps5
  go_wp2_with (first | (go_at_call 14; (with_reducible refine (laws_big.calls _ _ l0 _ _ l1 true _ ?side1 ?side2 ?side3 ?side4 A3.out).mono ?_); (case side1 => repeat (first | exact HR0.out | (with_reducible refine Kd.C_alloc ?_ _) | (with_reducible refine Kd.C_drewN ?_ _) | (with_reducible refine Kd.C_drew ?_))); (case side2 => exact HC0.out); (case side3 => repeat (first | exact HR1.out | (with_reducible refine Kd.C_alloc ?_ _) | (with_reducible refine Kd.C_drewN ?_ _) | (with_reducible refine Kd.C_drew ?_))); (case side4 => exact HC1.out); rintro e w' ⟨rfl, ⟨nd, rfl⟩⟩; (try first | exact ⟨rfl, _, World.drewN_drewN _ _ _⟩ | exact ⟨rfl, _, Eq.trans (World.drewN_drewN _ _ _) (congrArg (World.drewN _) (Nat.add_assoc _ _ _))⟩)))
  repeat (go_quiet (first | (go_at_call 14; (with_reducible refine (laws_big.calls _ _ l0 _ _ l1 true _ ?side1 ?side2 ?side3 ?side4 A3.out).mono ?_); (case side1 => repeat (first | exact HR0.out | (with_reducible refine Kd.C_alloc ?_ _) | (with_reducible refine Kd.C_drewN ?_ _) | (with_reducible refine Kd.C_drew ?_))); (case side2 => exact HC0.out); (case side3 => repeat (first | exact HR1.out | (with_reducible refine Kd.C_alloc ?_ _) | (with_reducible refine Kd.C_drewN ?_ _) | (with_reducible refine Kd.C_drew ?_))); (case side4 => exact HC1.out); rintro e w' ⟨rfl, ⟨nd, rfl⟩⟩; (try first | exact ⟨rfl, _, World.drewN_drewN _ _ _⟩ | exact ⟨rfl, _, Eq.trans (World.drewN_drewN _ _ _) (congrArg (World.drewN _) (Nat.add_assoc _ _ _))⟩))); try go_wp2_with (first | (go_at_call 14; (with_reducible refine (laws_big.calls _ _ l0 _ _ l1 true _ ?side1 ?side2 ?side3 ?side4 A3.out).mono ?_); (case side1 => repeat (first | exact HR0.out | (with_reducible refine Kd.C_alloc ?_ _) | (with_reducible refine Kd.C_drewN ?_ _) | (with_reducible refine Kd.C_drew ?_))); (case side2 => exact HC0.out); (case side3 => repeat (first | exact HR1.out | (with_reducible refine Kd.C_alloc ?_ _) | (with_reducible refine Kd.C_drewN ?_ _) | (with_reducible refine Kd.C_drew ?_))); (case side4 => exact HC1.out); rintro e w' ⟨rfl, ⟨nd, rfl⟩⟩; (try first | exact ⟨rfl, _, World.drewN_drewN _ _ _⟩ | exact ⟨rfl, _, Eq.trans (World.drewN_drewN _ _ _) (congrArg (World.drewN _) (Nat.add_assoc _ _ _))⟩))))
  go_ret
  exact ⟨by first | rfl | (simp [errW_none, errW_some] <;> rfl) | (simp [*, errW_none, errW_some] <;> rfl), by repeat (first | (with_reducible first | exact HB.out | apply below_alloc | apply pw_below_drewN | apply below_drew1) | exact HB.out)⟩
 ·replace c4 := Bool.eq_false_iff.mpr c4
  subst c4
  have H1 : ((spec_DrawCountByFirst.f l0).bind fun t376 => ((impl_CountByFirst.f k t376).bind fun bt377 => ((spec_CountByFirst.f k t376).bind fun bt381 => ((impl_CountByLucky.f k t376).bind fun bt385 => ((spec_CountByLucky.f k t376).bind fun bt389 => ((impl_CountParking.f k t376).bind fun bt393 => (if (bt377.2 != bt381.2) = true then (laws_FnParkingCounts.j0 k l1 bt377.1 bt377.2 bt385.1 bt393.1 bt393.2 true) else ((laws_jSame.f k bt377.1 bt381.1).bind fun t395 => (if t395 = true then (if (bt385.2 != bt389.2) = true then (laws_FnParkingCounts.j0 k l1 bt377.1 bt377.2 bt385.1 bt393.1 bt393.2 true) else ((laws_jSame.f k bt385.1 bt389.1).bind fun t396 => (if t396 = true then (laws_FnParkingCounts.j0 k l1 bt377.1 bt377.2 bt385.1 bt393.1 bt393.2 (bt385.2 != bt377.2)) else (laws_FnParkingCounts.j0 k l1 bt377.1 bt377.2 bt385.1 bt393.1 bt393.2 true)))) else (laws_FnParkingCounts.j0 k l1 bt377.1 bt377.2 bt385.1 bt393.1 bt393.2 true)))))))))) = some r := by rw [if_neg (show ¬ (false = true) by decide)] at H; exact H
  clear H
  have H := H1
  clear H1
  replace H := Option.bind_eq_some_iff.mp H
  obtain ⟨t376, A50, H⟩ := H
  replace H : ((impl_CountByFirst.f k t376).bind fun bt377 => ((spec_CountByFirst.f k t376).bind fun bt381 => ((impl_CountByLucky.f k t376).bind fun bt385 => ((spec_CountByLucky.f k t376).bind fun bt389 => ((impl_CountParking.f k t376).bind fun bt393 => (if (bt377.2 != bt381.2) = true then (laws_FnParkingCounts.j0 k l1 bt377.1 bt377.2 bt385.1 bt393.1 bt393.2 true) else ((laws_jSame.f k bt377.1 bt381.1).bind fun t395 => (if t395 = true then (if (bt385.2 != bt389.2) = true then (laws_FnParkingCounts.j0 k l1 bt377.1 bt377.2 bt385.1 bt393.1 bt393.2 true) else ((laws_jSame.f k bt385.1 bt389.1).bind fun t396 => (if t396 = true then (laws_FnParkingCounts.j0 k l1 bt377.1 bt377.2 bt385.1 bt393.1 bt393.2 (bt385.2 != bt377.2)) else (laws_FnParkingCounts.j0 k l1 bt377.1 bt377.2 bt385.1 bt393.1 bt393.2 true)))) else (laws_FnParkingCounts.j0 k l1 bt377.1 bt377.2 bt385.1 bt393.1 bt393.2 true))))))))) = some r := H
  have A5 := Aside0.mk A50
  clear A50
  replace H := Option.bind_eq_some_iff.mp H
  obtain ⟨⟨t377, t378⟩, A60, H⟩ := H
  replace H : ((spec_CountByFirst.f k t376).bind fun bt381 => ((impl_CountByLucky.f k t376).bind fun bt385 => ((spec_CountByLucky.f k t376).bind fun bt389 => ((impl_CountParking.f k t376).bind fun bt393 => (if (t378 != bt381.2) = true then (laws_FnParkingCounts.j0 k l1 t377 t378 bt385.1 bt393.1 bt393.2 true) else ((laws_jSame.f k t377 bt381.1).bind fun t395 => (if t395 = true then (if (bt385.2 != bt389.2) = true then (laws_FnParkingCounts.j0 k l1 t377 t378 bt385.1 bt393.1 bt393.2 true) else ((laws_jSame.f k bt385.1 bt389.1).bind fun t396 => (if t396 = true then (laws_FnParkingCounts.j0 k l1 t377 t378 bt385.1 bt393.1 bt393.2 (bt385.2 != t378)) else (laws_FnParkingCounts.j0 k l1 t377 t378 bt385.1 bt393.1 bt393.2 true)))) else (laws_FnParkingCounts.j0 k l1 t377 t378 bt385.1 bt393.1 bt393.2 true)))))))) = some r := H
  have A6 := Aside0.mk A60
  clear A60
  replace H := Option.bind_eq_some_iff.mp H
  obtain ⟨⟨t381, t382⟩, A70, H⟩ := H
  replace H : ((impl_CountByLucky.f k t376).bind fun bt385 => ((spec_CountByLucky.f k t376).bind fun bt389 => ((impl_CountParking.f k t376).bind fun bt393 => (if (t378 != t382) = true then (laws_FnParkingCounts.j0 k l1 t377 t378 bt385.1 bt393.1 bt393.2 true) else ((laws_jSame.f k t377 t381).bind fun t395 => (if t395 = true then (if (bt385.2 != bt389.2) = true then (laws_FnParkingCounts.j0 k l1 t377 t378 bt385.1 bt393.1 bt393.2 true) else ((laws_jSame.f k bt385.1 bt389.1).bind fun t396 => (if t396 = true then (laws_FnParkingCounts.j0 k l1 t377 t378 bt385.1 bt393.1 bt393.2 (bt385.2 != t378)) else (laws_FnParkingCounts.j0 k l1 t377 t378 bt385.1 bt393.1 bt393.2 true)))) else (laws_FnParkingCounts.j0 k l1 t377 t378 bt385.1 bt393.1 bt393.2 true))))))) = some r := H
  have A7 := Aside0.mk A70
  clear A70
  replace H := Option.bind_eq_some_iff.mp H
  obtain ⟨⟨t385, t386⟩, A80, H⟩ := H
  replace H : ((spec_CountByLucky.f k t376).bind fun bt389 => ((impl_CountParking.f k t376).bind fun bt393 => (if (t378 != t382) = true then (laws_FnParkingCounts.j0 k l1 t377 t378 t385 bt393.1 bt393.2 true) else ((laws_jSame.f k t377 t381).bind fun t395 => (if t395 = true then (if (t386 != bt389.2) = true then (laws_FnParkingCounts.j0 k l1 t377 t378 t385 bt393.1 bt393.2 true) else ((laws_jSame.f k t385 bt389.1).bind fun t396 => (if t396 = true then (laws_FnParkingCounts.j0 k l1 t377 t378 t385 bt393.1 bt393.2 (t386 != t378)) else (laws_FnParkingCounts.j0 k l1 t377 t378 t385 bt393.1 bt393.2 true)))) else (laws_FnParkingCounts.j0 k l1 t377 t378 t385 bt393.1 bt393.2 true)))))) = some r := H
  have A8 := Aside0.mk A80
  clear A80
  replace H := Option.bind_eq_some_iff.mp H
  obtain ⟨⟨t389, t390⟩, A90, H⟩ := H
  replace H : ((impl_CountParking.f k t376).bind fun bt393 => (if (t378 != t382) = true then (laws_FnParkingCounts.j0 k l1 t377 t378 t385 bt393.1 bt393.2 true) else ((laws_jSame.f k t377 t381).bind fun t395 => (if t395 = true then (if (t386 != t390) = true then (laws_FnParkingCounts.j0 k l1 t377 t378 t385 bt393.1 bt393.2 true) else ((laws_jSame.f k t385 t389).bind fun t396 => (if t396 = true then (laws_FnParkingCounts.j0 k l1 t377 t378 t385 bt393.1 bt393.2 (t386 != t378)) else (laws_FnParkingCounts.j0 k l1 t377 t378 t385 bt393.1 bt393.2 true)))) else (laws_FnParkingCounts.j0 k l1 t377 t378 t385 bt393.1 bt393.2 true))))) = some r := H
  have A9 := Aside0.mk A90
  clear A90
  replace H := Option.bind_eq_some_iff.mp H
  obtain ⟨⟨t393, t394⟩, A100, H⟩ := H
  replace H : (if (t378 != t382) = true then (laws_FnParkingCounts.j0 k l1 t377 t378 t385 t393 t394 true) else ((laws_jSame.f k t377 t381).bind fun t395 => (if t395 = true then (if (t386 != t390) = true then (laws_FnParkingCounts.j0 k l1 t377 t378 t385 t393 t394 true) else ((laws_jSame.f k t385 t389).bind fun t396 => (if t396 = true then (laws_FnParkingCounts.j0 k l1 t377 t378 t385 t393 t394 (t386 != t378)) else (laws_FnParkingCounts.j0 k l1 t377 t378 t385 t393 t394 true)))) else (laws_FnParkingCounts.j0 k l1 t377 t378 t385 t393 t394 true)))) = some r := H
  have A10 := Aside0.mk A100
  clear A100
  have HC11 := Aside0.mk H
  clear H
  go_enter Try.func5, Try.ntmps5
  go_upto_region 9 with (first | (go_at_call 14; (with_reducible refine (laws_big.calls _ _ l0 _ _ l1 false _ ?side1 ?side2 ?side3 ?side4 A3.out).mono ?_); (case side1 => repeat (first | exact HR0.out | (with_reducible refine Kd.C_alloc ?_ _) | (with_reducible refine Kd.C_drewN ?_ _) | (with_reducible refine Kd.C_drew ?_))); (case side2 => exact HC0.out); (case side3 => repeat (first | exact HR1.out | (with_reducible refine Kd.C_alloc ?_ _) | (with_reducible refine Kd.C_drewN ?_ _) | (with_reducible refine Kd.C_drew ?_))); (case side4 => exact HC1.out); rintro e w' ⟨rfl, ⟨nd, rfl⟩⟩; (try first | exact ⟨rfl, _, World.drewN_drewN _ _ _⟩ | exact ⟨rfl, _, Eq.trans (World.drewN_drewN _ _ _) (congrArg (World.drewN _) (Nat.add_assoc _ _ _))⟩)) | (go_at_call 43; (with_reducible refine (spec_DrawCountByFirst.calls _ _ l0 t376 _ ?side1 ?side2 A5.out).mono ?_); (case side1 => repeat (first | exact HR0.out | (with_reducible refine Kd.C_alloc ?_ _) | (with_reducible refine Kd.C_drewN ?_ _) | (with_reducible refine Kd.C_drew ?_))); (case side2 => exact HC0.out); rintro e w12 ⟨rfl, hb⟩; have n0_ := Aside0.mk (below_step (by repeat (first | (with_reducible first | exact HB.out | apply below_alloc | apply pw_below_drewN | apply below_drew1) | exact HB.out)) hb); clear HB; have HB := n0_; clear n0_; (try clear hb); (try clear hb2); (try clear hk); (try clear hi)) | (go_at_call 44; (with_reducible refine (impl_CountByFirst.calls k t376 t377 t378 _ A6.out).mono ?_); rintro e w13 ⟨v379, rfl, ho0, hb⟩; have n0_ := Aside0.mk (Kd.R_lower ho0 (below_size (by repeat (first | (with_reducible first | exact HB.out | apply below_alloc | apply pw_below_drewN | apply below_drew1) | exact HB.out)))); have n1_ := Aside0.mk (below_step (by repeat (first | (with_reducible first | exact HB.out | apply below_alloc | apply pw_below_drewN | apply below_drew1) | exact HB.out)) hb); clear HB; have HO380 := n0_; have HB := n1_; clear n0_ n1_; (try clear hb); (try clear hb2); (try clear hk); (try clear hi); (try clear ho0)) | (go_at_call 45; (with_reducible refine (spec_CountByFirst.calls k t376 t381 t382 _ A7.out).mono ?_); rintro e w14 ⟨v383, rfl, ho0, hb⟩; have n0_ := Aside0.mk (Kd.R_elder' (by (with_reducible repeat (first | apply Kd.R_alloc | apply Kd.R_drewN | apply Kd.R_drew)); exact HO380.out) (Kd.R_base ho0) hb); have n1_ := Aside0.mk (Kd.R_lower (Kd.R_new' ho0 (Kd.R_lt (by (with_reducible repeat (first | apply Kd.R_alloc | apply Kd.R_drewN | apply Kd.R_drew)); exact HO380.out))) (below_size (by repeat (first | (with_reducible first | exact HB.out | apply below_alloc | apply pw_below_drewN | apply below_drew1) | exact HB.out)))); have n2_ := Aside0.mk (below_step (by repeat (first | (with_reducible first | exact HB.out | apply below_alloc | apply pw_below_drewN | apply below_drew1) | exact HB.out)) hb); clear HO380; clear HB; have HO380 := n0_; have HO384 := n1_; have HB := n2_; clear n0_ n1_ n2_; (try clear hb); (try clear hb2); (try clear hk); (try clear hi); (try clear ho0)) | (go_at_call 46; (with_reducible refine (impl_CountByLucky.calls k t376 t385 t386 _ A8.out).mono ?_); rintro e w15 ⟨v387, rfl, ho0, hb⟩; have n0_ := Aside0.mk (Kd.R_elder' (by (with_reducible repeat (first | apply Kd.R_alloc | apply Kd.R_drewN | apply Kd.R_drew)); exact HO380.out) (Kd.R_base ho0) hb); have n1_ := Aside0.mk (Kd.R_elder' (by (with_reducible repeat (first | apply Kd.R_alloc | apply Kd.R_drewN | apply Kd.R_drew)); exact HO384.out) (Kd.R_base ho0) hb); have n2_ := Aside0.mk (Kd.R_lower (Kd.R_new' (Kd.R_new' ho0 (Kd.R_lt (by (with_reducible repeat (first | apply Kd.R_alloc | apply Kd.R_drewN | apply Kd.R_drew)); exact HO380.out))) (Kd.R_lt (by (with_reducible repeat (first | apply Kd.R_alloc | apply Kd.R_drewN | apply Kd.R_drew)); exact HO384.out))) (below_size (by repeat (first | (with_reducible first | exact HB.out | apply below_alloc | apply pw_below_drewN | apply below_drew1) | exact HB.out)))); have n3_ := Aside0.mk (below_step (by repeat (first | (with_reducible first | exact HB.out | apply below_alloc | apply pw_below_drewN | apply below_drew1) | exact HB.out)) hb); clear HO380; clear HO384; clear HB; have HO380 := n0_; have HO384 := n1_; have HO388 := n2_; have HB := n3_; clear n0_ n1_ n2_ n3_; (try clear hb); (try clear hb2); (try clear hk); (try clear hi); (try clear ho0)) | (go_at_call 47; (with_reducible refine (spec_CountByLucky.calls k t376 t389 t390 _ A9.out).mono ?_); rintro e w16 ⟨v391, rfl, ho0, hb⟩; have n0_ := Aside0.mk (Kd.R_elder' (by (with_reducible repeat (first | apply Kd.R_alloc | apply Kd.R_drewN | apply Kd.R_drew)); exact HO380.out) (Kd.R_base ho0) hb); have n1_ := Aside0.mk (Kd.R_elder' (by (with_reducible repeat (first | apply Kd.R_alloc | apply Kd.R_drewN | apply Kd.R_drew)); exact HO384.out) (Kd.R_base ho0) hb); have n2_ := Aside0.mk (Kd.R_elder' (by (with_reducible repeat (first | apply Kd.R_alloc | apply Kd.R_drewN | apply Kd.R_drew)); exact HO388.out) (Kd.R_base ho0) hb); have n3_ := Aside0.mk (Kd.R_lower (Kd.R_new' (Kd.R_new' (Kd.R_new' ho0 (Kd.R_lt (by (with_reducible repeat (first | apply Kd.R_alloc | apply Kd.R_drewN | apply Kd.R_drew)); exact HO380.out))) (Kd.R_lt (by (with_reducible repeat (first | apply Kd.R_alloc | apply Kd.R_drewN | apply Kd.R_drew)); exact HO384.out))) (Kd.R_lt (by (with_reducible repeat (first | apply Kd.R_alloc | apply Kd.R_drewN | apply Kd.R_drew)); exact HO388.out))) (below_size (by repeat (first | (with_reducible first | exact HB.out | apply below_alloc | apply pw_below_drewN | apply below_drew1) | exact HB.out)))); have n4_ := Aside0.mk (below_step (by repeat (first | (with_reducible first | exact HB.out | apply below_alloc | apply pw_below_drewN | apply below_drew1) | exact HB.out)) hb); clear HO380; clear HO384; clear HO388; clear HB; have HO380 := n0_; have HO384 := n1_; have HO388 := n2_; have HO392 := n3_; have HB := n4_; clear n0_ n1_ n2_ n3_ n4_; (try clear hb); (try clear hb2); (try clear hk); (try clear hi); (try clear ho0)) | (go_at_call 34; (with_reducible refine (impl_CountParking.calls k t376 t393 t394 _ A10.out).mono ?_); rintro e w17 ⟨rfl, hb⟩; have n0_ := Aside0.mk (Kd.R_below (by (with_reducible repeat (first | apply Kd.R_alloc | apply Kd.R_drewN | apply Kd.R_drew)); exact HO380.out) hb); have n1_ := Aside0.mk (Kd.R_below (by (with_reducible repeat (first | apply Kd.R_alloc | apply Kd.R_drewN | apply Kd.R_drew)); exact HO384.out) hb); have n2_ := Aside0.mk (Kd.R_below (by (with_reducible repeat (first | apply Kd.R_alloc | apply Kd.R_drewN | apply Kd.R_drew)); exact HO388.out) hb); have n3_ := Aside0.mk (Kd.R_below (by (with_reducible repeat (first | apply Kd.R_alloc | apply Kd.R_drewN | apply Kd.R_drew)); exact HO392.out) hb); have n4_ := Aside0.mk (below_step (by repeat (first | (with_reducible first | exact HB.out | apply below_alloc | apply pw_below_drewN | apply below_drew1) | exact HB.out)) hb); clear HO380; clear HO384; clear HO388; clear HO392; clear HB; have HO380 := n0_; have HO384 := n1_; have HO388 := n2_; have HO392 := n3_; have HB := n4_; clear n0_ n1_ n2_ n3_ n4_; (try clear hb); (try clear hb2); (try clear hk); (try clear hi)))
  repeat (go_quiet (first | (go_at_call 14; (with_reducible refine (laws_big.calls _ _ l0 _ _ l1 false _ ?side1 ?side2 ?side3 ?side4 A3.out).mono ?_); (case side1 => repeat (first | exact HR0.out | (with_reducible refine Kd.C_alloc ?_ _) | (with_reducible refine Kd.C_drewN ?_ _) | (with_reducible refine Kd.C_drew ?_))); (case side2 => exact HC0.out); (case side3 => repeat (first | exact HR1.out | (with_reducible refine Kd.C_alloc ?_ _) | (with_reducible refine Kd.C_drewN ?_ _) | (with_reducible refine Kd.C_drew ?_))); (case side4 => exact HC1.out); rintro e w' ⟨rfl, ⟨nd, rfl⟩⟩; (try first | exact ⟨rfl, _, World.drewN_drewN _ _ _⟩ | exact ⟨rfl, _, Eq.trans (World.drewN_drewN _ _ _) (congrArg (World.drewN _) (Nat.add_assoc _ _ _))⟩)) | (go_at_call 43; (with_reducible refine (spec_DrawCountByFirst.calls _ _ l0 t376 _ ?side1 ?side2 A5.out).mono ?_); (case side1 => repeat (first | exact HR0.out | (with_reducible refine Kd.C_alloc ?_ _) | (with_reducible refine Kd.C_drewN ?_ _) | (with_reducible refine Kd.C_drew ?_))); (case side2 => exact HC0.out); rintro e w12 ⟨rfl, hb⟩; have n0_ := Aside0.mk (below_step (by repeat (first | (with_reducible first | exact HB.out | apply below_alloc | apply pw_below_drewN | apply below_drew1) | exact HB.out)) hb); clear HB; have HB := n0_; clear n0_; (try clear hb); (try clear hb2); (try clear hk); (try clear hi)) | (go_at_call 44; (with_reducible refine (impl_CountByFirst.calls k t376 t377 t378 _ A6.out).mono ?_); rintro e w13 ⟨v379, rfl, ho0, hb⟩; have n0_ := Aside0.mk (Kd.R_lower ho0 (below_size (by repeat (first | (with_reducible first | exact HB.out | apply below_alloc | apply pw_below_drewN | apply below_drew1) | exact HB.out)))); have n1_ := Aside0.mk (below_step (by repeat (first | (with_reducible first | exact HB.out | apply below_alloc | apply pw_below_drewN | apply below_drew1) | exact HB.out)) hb); clear HB; have HO380 := n0_; have HB := n1_; clear n0_ n1_; (try clear hb); (try clear hb2); (try clear hk); (try clear hi); (try clear ho0)) | (go_at_call 45; (with_reducible refine (spec_CountByFirst.calls k t376 t381 t382 _ A7.out).mono ?_); rintro e w14 ⟨v383, rfl, ho0, hb⟩; have n0_ := Aside0.mk (Kd.R_elder' (by (with_reducible repeat (first | apply Kd.R_alloc | apply Kd.R_drewN | apply Kd.R_drew)); exact HO380.out) (Kd.R_base ho0) hb); have n1_ := Aside0.mk (Kd.R_lower (Kd.R_new' ho0 (Kd.R_lt (by (with_reducible repeat (first | apply Kd.R_alloc | apply Kd.R_drewN | apply Kd.R_drew)); exact HO380.out))) (below_size (by repeat (first | (with_reducible first | exact HB.out | apply below_alloc | apply pw_below_drewN | apply below_drew1) | exact HB.out)))); have n2_ := Aside0.mk (below_step (by repeat (first | (with_reducible first | exact HB.out | apply below_alloc | apply pw_below_drewN | apply below_drew1) | exact HB.out)) hb); clear HO380; clear HB; have HO380 := n0_; have HO384 := n1_; have HB := n2_; clear n0_ n1_ n2_; (try clear hb); (try clear hb2); (try clear hk); (try clear hi); (try clear ho0)) | (go_at_call 46; (with_reducible refine (impl_CountByLucky.calls k t376 t385 t386 _ A8.out).mono ?_); rintro e w15 ⟨v387, rfl, ho0, hb⟩; have n0_ := Aside0.mk (Kd.R_elder' (by (with_reducible repeat (first | apply Kd.R_alloc | apply Kd.R_drewN | apply Kd.R_drew)); exact HO380.out) (Kd.R_base ho0) hb); have n1_ := Aside0.mk (Kd.R_elder' (by (with_reducible repeat (first | apply Kd.R_alloc | apply Kd.R_drewN | apply Kd.R_drew)); exact HO384.out) (Kd.R_base ho0) hb); have n2_ := Aside0.mk (Kd.R_lower (Kd.R_new' (Kd.R_new' ho0 (Kd.R_lt (by (with_reducible repeat (first | apply Kd.R_alloc | apply Kd.R_drewN | apply Kd.R_drew)); exact HO380.out))) (Kd.R_lt (by (with_reducible repeat (first | apply Kd.R_alloc | apply Kd.R_drewN | apply Kd.R_drew)); exact HO384.out))) (below_size (by repeat (first | (with_reducible first | exact HB.out | apply below_alloc | apply pw_below_drewN | apply below_drew1) | exact HB.out)))); have n3_ := Aside0.mk (below_step (by repeat (first | (with_reducible first | exact HB.out | apply below_alloc | apply pw_below_drewN | apply below_drew1) | exact HB.out)) hb); clear HO380; clear HO384; clear HB; have HO380 := n0_; have HO384 := n1_; have HO388 := n2_; have HB := n3_; clear n0_ n1_ n2_ n3_; (try clear hb); (try clear hb2); (try clear hk); (try clear hi); (try clear ho0)) | (go_at_call 47; (with_reducible refine (spec_CountByLucky.calls k t376 t389 t390 _ A9.out).mono ?_); rintro e w16 ⟨v391, rfl, ho0, hb⟩; have n0_ := Aside0.mk (Kd.R_elder' (by (with_reducible repeat (first | apply Kd.R_alloc | apply Kd.R_drewN | apply Kd.R_drew)); exact HO380.out) (Kd.R_base ho0) hb); have n1_ := Aside0.mk (Kd.R_elder' (by (with_reducible repeat (first | apply Kd.R_alloc | apply Kd.R_drewN | apply Kd.R_drew)); exact HO384.out) (Kd.R_base ho0) hb); have n2_ := Aside0.mk (Kd.R_elder' (by (with_reducible repeat (first | apply Kd.R_alloc | apply Kd.R_drewN | apply Kd.R_drew)); exact HO388.out) (Kd.R_base ho0) hb); have n3_ := Aside0.mk (Kd.R_lower (Kd.R_new' (Kd.R_new' (Kd.R_new' ho0 (Kd.R_lt (by (with_reducible repeat (first | apply Kd.R_alloc | apply Kd.R_drewN | apply Kd.R_drew)); exact HO380.out))) (Kd.R_lt (by (with_reducible repeat (first | apply Kd.R_alloc | apply Kd.R_drewN | apply Kd.R_drew)); exact HO384.out))) (Kd.R_lt (by (with_reducible repeat (first | apply Kd.R_alloc | apply Kd.R_drewN | apply Kd.R_drew)); exact HO388.out))) (below_size (by repeat (first | (with_reducible first | exact HB.out | apply below_alloc | apply pw_below_drewN | apply below_drew1) | exact HB.out)))); have n4_ := Aside0.mk (below_step (by repeat (first | (with_reducible first | exact HB.out | apply below_alloc | apply pw_below_drewN | apply below_drew1) | exact HB.out)) hb); clear HO380; clear HO384; clear HO388; clear HB; have HO380 := n0_; have HO384 := n1_; have HO388 := n2_; have HO392 := n3_; have HB := n4_; clear n0_ n1_ n2_ n3_ n4_; (try clear hb); (try clear hb2); (try clear hk); (try clear hi); (try clear ho0)) | (go_at_call 34; (with_reducible refine (impl_CountParking.calls k t376 t393 t394 _ A10.out).mono ?_); rintro e w17 ⟨rfl, hb⟩; have n0_ := Aside0.mk (Kd.R_below (by (with_reducible repeat (first | apply Kd.R_alloc | apply Kd.R_drewN | apply Kd.R_drew)); exact HO380.out) hb); have n1_ := Aside0.mk (Kd.R_below (by (with_reducible repeat (first | apply Kd.R_alloc | apply Kd.R_drewN | apply Kd.R_drew)); exact HO384.out) hb); have n2_ := Aside0.mk (Kd.R_below (by (with_reducible repeat (first | apply Kd.R_alloc | apply Kd.R_drewN | apply Kd.R_drew)); exact HO388.out) hb); have n3_ := Aside0.mk (Kd.R_below (by (with_reducible repeat (first | apply Kd.R_alloc | apply Kd.R_drewN | apply Kd.R_drew)); exact HO392.out) hb); have n4_ := Aside0.mk (below_step (by repeat (first | (with_reducible first | exact HB.out | apply below_alloc | apply pw_below_drewN | apply below_drew1) | exact HB.out)) hb); clear HO380; clear HO384; clear HO388; clear HO392; clear HB; have HO380 := n0_; have HO384 := n1_; have HO388 := n2_; have HO392 := n3_; have HB := n4_; clear n0_ n1_ n2_ n3_ n4_; (try clear hb); (try clear hb2); (try clear hk); (try clear hi))); go_upto_region 9 with (first | (go_at_call 14; (with_reducible refine (laws_big.calls _ _ l0 _ _ l1 false _ ?side1 ?side2 ?side3 ?side4 A3.out).mono ?_); (case side1 => repeat (first | exact HR0.out | (with_reducible refine Kd.C_alloc ?_ _) | (with_reducible refine Kd.C_drewN ?_ _) | (with_reducible refine Kd.C_drew ?_))); (case side2 => exact HC0.out); (case side3 => repeat (first | exact HR1.out | (with_reducible refine Kd.C_alloc ?_ _) | (with_reducible refine Kd.C_drewN ?_ _) | (with_reducible refine Kd.C_drew ?_))); (case side4 => exact HC1.out); rintro e w' ⟨rfl, ⟨nd, rfl⟩⟩; (try first | exact ⟨rfl, _, World.drewN_drewN _ _ _⟩ | exact ⟨rfl, _, Eq.trans (World.drewN_drewN _ _ _) (congrArg (World.drewN _) (Nat.add_assoc _ _ _))⟩)) | (go_at_call 43; (with_reducible refine (spec_DrawCountByFirst.calls _ _ l0 t376 _ ?side1 ?side2 A5.out).mono ?_); (case side1 => repeat (first | exact HR0.out | (with_reducible refine Kd.C_alloc ?_ _) | (with_reducible refine Kd.C_drewN ?_ _) | (with_reducible refine Kd.C_drew ?_))); (case side2 => exact HC0.out); rintro e w12 ⟨rfl, hb⟩; have n0_ := Aside0.mk (below_step (by repeat (first | (with_reducible first | exact HB.out | apply below_alloc | apply pw_below_drewN | apply below_drew1) | exact HB.out)) hb); clear HB; have HB := n0_; clear n0_; (try clear hb); (try clear hb2); (try clear hk); (try clear hi)) | (go_at_call 44; (with_reducible refine (impl_CountByFirst.calls k t376 t377 t378 _ A6.out).mono ?_); rintro e w13 ⟨v379, rfl, ho0, hb⟩; have n0_ := Aside0.mk (Kd.R_lower ho0 (below_size (by repeat (first | (with_reducible first | exact HB.out | apply below_alloc | apply pw_below_drewN | apply below_drew1) | exact HB.out)))); have n1_ := Aside0.mk (below_step (by repeat (first | (with_reducible first | exact HB.out | apply below_alloc | apply pw_below_drewN | apply below_drew1) | exact HB.out)) hb); clear HB; have HO380 := n0_; have HB := n1_; clear n0_ n1_; (try clear hb); (try clear hb2); (try clear hk); (try clear hi); (try clear ho0)) | (go_at_call 45; (with_reducible refine (spec_CountByFirst.calls k t376 t381 t382 _ A7.out).mono ?_); rintro e w14 ⟨v383, rfl, ho0, hb⟩; have n0_ := Aside0.mk (Kd.R_elder' (by (with_reducible repeat (first | apply Kd.R_alloc | apply Kd.R_drewN | apply Kd.R_drew)); exact HO380.out) (Kd.R_base ho0) hb); have n1_ := Aside0.mk (Kd.R_lower (Kd.R_new' ho0 (Kd.R_lt (by (with_reducible repeat (first | apply Kd.R_alloc | apply Kd.R_drewN | apply Kd.R_drew)); exact HO380.out))) (below_size (by repeat (first | (with_reducible first | exact HB.out | apply below_alloc | apply pw_below_drewN | apply below_drew1) | exact HB.out)))); have n2_ := Aside0.mk (below_step (by repeat (first | (with_reducible first | exact HB.out | apply below_alloc | apply pw_below_drewN | apply below_drew1) | exact HB.out)) hb); clear HO380; clear HB; have HO380 := n0_; have HO384 := n1_; have HB := n2_; clear n0_ n1_ n2_; (try clear hb); (try clear hb2); (try clear hk); (try clear hi); (try clear ho0)) | (go_at_call 46; (with_reducible refine (impl_CountByLucky.calls k t376 t385 t386 _ A8.out).mono ?_); rintro e w15 ⟨v387, rfl, ho0, hb⟩; have n0_ := Aside0.mk (Kd.R_elder' (by (with_reducible repeat (first | apply Kd.R_alloc | apply Kd.R_drewN | apply Kd.R_drew)); exact HO380.out) (Kd.R_base ho0) hb); have n1_ := Aside0.mk (Kd.R_elder' (by (with_reducible repeat (first | apply Kd.R_alloc | apply Kd.R_drewN | apply Kd.R_drew)); exact HO384.out) (Kd.R_base ho0) hb); have n2_ := Aside0.mk (Kd.R_lower (Kd.R_new' (Kd.R_new' ho0 (Kd.R_lt (by (with_reducible repeat (first | apply Kd.R_alloc | apply Kd.R_drewN | apply Kd.R_drew)); exact HO380.out))) (Kd.R_lt (by (with_reducible repeat (first | apply Kd.R_alloc | apply Kd.R_drewN | apply Kd.R_drew)); exact HO384.out))) (below_size (by repeat (first | (with_reducible first | exact HB.out | apply below_alloc | apply pw_below_drewN | apply below_drew1) | exact HB.out)))); have n3_ := Aside0.mk (below_step (by repeat (first | (with_reducible first | exact HB.out | apply below_alloc | apply pw_below_drewN | apply below_drew1) | exact HB.out)) hb); clear HO380; clear HO384; clear HB; have HO380 := n0_; have HO384 := n1_; have HO388 := n2_; have HB := n3_; clear n0_ n1_ n2_ n3_; (try clear hb); (try clear hb2); (try clear hk); (try clear hi); (try clear ho0)) | (go_at_call 47; (with_reducible refine (spec_CountByLucky.calls k t376 t389 t390 _ A9.out).mono ?_); rintro e w16 ⟨v391, rfl, ho0, hb⟩; have n0_ := Aside0.mk (Kd.R_elder' (by (with_reducible repeat (first | apply Kd.R_alloc | apply Kd.R_drewN | apply Kd.R_drew)); exact HO380.out) (Kd.R_base ho0) hb); have n1_ := Aside0.mk (Kd.R_elder' (by (with_reducible repeat (first | apply Kd.R_alloc | apply Kd.R_drewN | apply Kd.R_drew)); exact HO384.out) (Kd.R_base ho0) hb); have n2_ := Aside0.mk (Kd.R_elder' (by (with_reducible repeat (first | apply Kd.R_alloc | apply Kd.R_drewN | apply Kd.R_drew)); exact HO388.out) (Kd.R_base ho0) hb); have n3_ := Aside0.mk (Kd.R_lower (Kd.R_new' (Kd.R_new' (Kd.R_new' ho0 (Kd.R_lt (by (with_reducible repeat (first | apply Kd.R_alloc | apply Kd.R_drewN | apply Kd.R_drew)); exact HO380.out))) (Kd.R_lt (by (with_reducible repeat (first | apply Kd.R_alloc | apply Kd.R_drewN | apply Kd.R_drew)); exact HO384.out))) (Kd.R_lt (by (with_reducible repeat (first | apply Kd.R_alloc | apply Kd.R_drewN | apply Kd.R_drew)); exact HO388.out))) (below_size (by repeat (first | (with_reducible first | exact HB.out | apply below_alloc | apply pw_below_drewN | apply below_drew1) | exact HB.out)))); have n4_ := Aside0.mk (below_step (by repeat (first | (with_reducible first | exact HB.out | apply below_alloc | apply pw_below_drewN | apply below_drew1) | exact HB.out)) hb); clear HO380; clear HO384; clear HO388; clear HB; have HO380 := n0_; have HO384 := n1_; have HO388 := n2_; have HO392 := n3_; have HB := n4_; clear n0_ n1_ n2_ n3_ n4_; (try clear hb); (try clear hb2); (try clear hk); (try clear hi); (try clear ho0)) | (go_at_call 34; (with_reducible refine (impl_CountParking.calls k t376 t393 t394 _ A10.out).mono ?_); rintro e w17 ⟨rfl, hb⟩; have n0_ := Aside0.mk (Kd.R_below (by (with_reducible repeat (first | apply Kd.R_alloc | apply Kd.R_drewN | apply Kd.R_drew)); exact HO380.out) hb); have n1_ := Aside0.mk (Kd.R_below (by (with_reducible repeat (first | apply Kd.R_alloc | apply Kd.R_drewN | apply Kd.R_drew)); exact HO384.out) hb); have n2_ := Aside0.mk (Kd.R_below (by (with_reducible repeat (first | apply Kd.R_alloc | apply Kd.R_drewN | apply Kd.R_drew)); exact HO388.out) hb); have n3_ := Aside0.mk (Kd.R_below (by (with_reducible repeat (first | apply Kd.R_alloc | apply Kd.R_drewN | apply Kd.R_drew)); exact HO392.out) hb); have n4_ := Aside0.mk (below_step (by repeat (first | (with_reducible first | exact HB.out | apply below_alloc | apply pw_below_drewN | apply below_drew1) | exact HB.out)) hb); clear HO380; clear HO384; clear HO388; clear HO392; clear HB; have HO380 := n0_; have HO384 := n1_; have HO388 := n2_; have HO392 := n3_; have HB := n4_; clear n0_ n1_ n2_ n3_ n4_; (try clear hb); (try clear hb2); (try clear hk); (try clear hi))))
  (try simp only [Act.put, List.setIfInBounds_toArray, List.set_cons_zero, List.set_cons_succ])
  go_cut [93] (fun v93 wc => ∃ (kq : Nat) (x93_10 : Bool), v93 = .bool x93_10 ∧ Aside0 (laws_FnParkingCounts.j0 kq l1 t377 t378 t385 t393 t394 x93_10 = some r) ∧ Aside0 (kq ≤ k) ∧ Aside0 (Kd.R (Kd.int .i64) 3 wc w.heap.size (fun k_ => some k_ ≠ (v387 : Value).ownBlock) v379 t377) ∧ Aside0 (Kd.R (Kd.int .i64) 3 wc w.heap.size (fun k_ => some k_ ≠ (v379 : Value).ownBlock) v387 t385) ∧ Aside0 (Below w.heap.size w wc))
  case first => as_aux_lemma =>
   have H := HC11.out
   clear HC11
   by_cases c18 : (t378 != t382) = true
   ·rw [if_pos c18] at H
    have c18b0 : (t378 != t382) = true := c18
    (try (have c18b1 : decide (t378 = t382) = false := by simpa using c18))
    (try (have c18b2 : (t378 == t382) = false := by simpa using c18))
    (try (have c18b3 : ¬ (t378 = t382) := by simpa using c18))
    clear c18
    (first | rw [c18b0] | (simp only [i64_w, i32_w]; rw [c18b0]) | skip)
    have H' := Aside0.mk H
    clear H
    go_wp2
    repeat (go_quiet (fail); try go_wp2)
    go_meet
    case rel => exact ⟨_, (true), (by first | rfl | (simp; done) | (simp [*]; done)), H', ⟨by first | omega | exact Nat.le_refl _⟩, ⟨by (with_reducible repeat (first | apply Kd.R_alloc | apply Kd.R_drewN | apply Kd.R_drew)); exact Kd.R_mono HO380.out (fun _ hk => hk.1.2)⟩, ⟨by (with_reducible repeat (first | apply Kd.R_alloc | apply Kd.R_drewN | apply Kd.R_drew)); exact Kd.R_mono HO388.out (fun _ hk => hk.1.1.2)⟩, ⟨by repeat (first | (with_reducible first | exact HB.out | apply below_alloc | apply pw_below_drewN | apply below_drew1) | exact HB.out)⟩⟩
   ·rw [if_neg c18] at H
    have c18b0 : (t378 != t382) = false := by simpa using c18
    (try (have c18b1 : decide (t378 = t382) = true := by simpa using c18))
    (try (have c18b2 : (t378 == t382) = true := by simpa using c18))
    clear c18
    (first | rw [c18b0] | (simp only [i64_w, i32_w]; rw [c18b0]) | skip)
    replace H := Option.bind_eq_some_iff.mp H
    obtain ⟨t395, A190, H⟩ := H
    replace H : (if t395 = true then (if (t386 != t390) = true then (laws_FnParkingCounts.j0 k l1 t377 t378 t385 t393 t394 true) else ((laws_jSame.f k t385 t389).bind fun t396 => (if t396 = true then (laws_FnParkingCounts.j0 k l1 t377 t378 t385 t393 t394 (t386 != t378)) else (laws_FnParkingCounts.j0 k l1 t377 t378 t385 t393 t394 true)))) else (laws_FnParkingCounts.j0 k l1 t377 t378 t385 t393 t394 true)) = some r := H
    have A19 := Aside0.mk A190
    clear A190
    by_cases c20 : t395 = true
    ·subst c20
     have H1 : (if (t386 != t390) = true then (laws_FnParkingCounts.j0 k l1 t377 t378 t385 t393 t394 true) else ((laws_jSame.f k t385 t389).bind fun t396 => (if t396 = true then (laws_FnParkingCounts.j0 k l1 t377 t378 t385 t393 t394 (t386 != t378)) else (laws_FnParkingCounts.j0 k l1 t377 t378 t385 t393 t394 true)))) = some r := by rw [if_pos rfl] at H; exact H
     clear H
     have H := H1
     clear H1
     by_cases c21 : (t386 != t390) = true
     ·rw [if_pos c21] at H
      have c21b0 : (t386 != t390) = true := c21
      (try (have c21b1 : decide (t386 = t390) = false := by simpa using c21))
      (try (have c21b2 : (t386 == t390) = false := by simpa using c21))
      (try (have c21b3 : ¬ (t386 = t390) := by simpa using c21))
      clear c21
      have H' := Aside0.mk H
      clear H
      obtain ⟨Ao22, co22, eo22⟩ := Kd.R_slice HO380.out
      subst eo22
      obtain ⟨Ao23, co23, eo23⟩ := Kd.R_slice HO384.out
      subst eo23
      go_wp2_with (first | (go_at_call 20; (with_reducible refine (laws_jSame.calls k _ _ t377 _ _ t381 true _ ?side1 ?side2 ?side3 ?side4 A19.out).mono ?_); (case side1 => repeat (first | exact (Kd.R_reads' HO380.out).2.2 | (with_reducible refine Kd.C_alloc ?_ _) | (with_reducible refine Kd.C_drewN ?_ _) | (with_reducible refine Kd.C_drew ?_))); (case side2 => exact (Kd.R_reads' HO380.out).2.1); (case side3 => repeat (first | exact (Kd.R_reads' HO384.out).2.2 | (with_reducible refine Kd.C_alloc ?_ _) | (with_reducible refine Kd.C_drewN ?_ _) | (with_reducible refine Kd.C_drew ?_))); (case side4 => exact (Kd.R_reads' HO384.out).2.1); rintro e w' ⟨rfl, ⟨nd, rfl⟩⟩; (try first | exact ⟨rfl, _, World.drewN_drewN _ _ _⟩ | exact ⟨rfl, _, Eq.trans (World.drewN_drewN _ _ _) (congrArg (World.drewN _) (Nat.add_assoc _ _ _))⟩)))
      repeat (go_quiet (first | (go_at_call 20; (with_reducible refine (laws_jSame.calls k _ _ t377 _ _ t381 true _ ?side1 ?side2 ?side3 ?side4 A19.out).mono ?_); (case side1 => repeat (first | exact (Kd.R_reads' HO380.out).2.2 | (with_reducible refine Kd.C_alloc ?_ _) | (with_reducible refine Kd.C_drewN ?_ _) | (with_reducible refine Kd.C_drew ?_))); (case side2 => exact (Kd.R_reads' HO380.out).2.1); (case side3 => repeat (first | exact (Kd.R_reads' HO384.out).2.2 | (with_reducible refine Kd.C_alloc ?_ _) | (with_reducible refine Kd.C_drewN ?_ _) | (with_reducible refine Kd.C_drew ?_))); (case side4 => exact (Kd.R_reads' HO384.out).2.1); rintro e w' ⟨rfl, ⟨nd, rfl⟩⟩; (try first | exact ⟨rfl, _, World.drewN_drewN _ _ _⟩ | exact ⟨rfl, _, Eq.trans (World.drewN_drewN _ _ _) (congrArg (World.drewN _) (Nat.add_assoc _ _ _))⟩))); try go_wp2_with (first | (go_at_call 20; (with_reducible refine (laws_jSame.calls k _ _ t377 _ _ t381 true _ ?side1 ?side2 ?side3 ?side4 A19.out).mono ?_); (case side1 => repeat (first | exact (Kd.R_reads' HO380.out).2.2 | (with_reducible refine Kd.C_alloc ?_ _) | (with_reducible refine Kd.C_drewN ?_ _) | (with_reducible refine Kd.C_drew ?_))); (case side2 => exact (Kd.R_reads' HO380.out).2.1); (case side3 => repeat (first | exact (Kd.R_reads' HO384.out).2.2 | (with_reducible refine Kd.C_alloc ?_ _) | (with_reducible refine Kd.C_drewN ?_ _) | (with_reducible refine Kd.C_drew ?_))); (case side4 => exact (Kd.R_reads' HO384.out).2.1); rintro e w' ⟨rfl, ⟨nd, rfl⟩⟩; (try first | exact ⟨rfl, _, World.drewN_drewN _ _ _⟩ | exact ⟨rfl, _, Eq.trans (World.drewN_drewN _ _ _) (congrArg (World.drewN _) (Nat.add_assoc _ _ _))⟩))))
      go_meet
      case rel => exact ⟨_, (true), (by first | rfl | (simp; done) | (simp [*]; done)), H', ⟨by first | omega | exact Nat.le_refl _⟩, ⟨by (with_reducible repeat (first | apply Kd.R_alloc | apply Kd.R_drewN | apply Kd.R_drew)); exact Kd.R_mono HO380.out (fun _ hk => hk.1.2)⟩, ⟨by (with_reducible repeat (first | apply Kd.R_alloc | apply Kd.R_drewN | apply Kd.R_drew)); exact Kd.R_mono HO388.out (fun _ hk => hk.1.1.2)⟩, ⟨by repeat (first | (with_reducible first | exact HB.out | apply below_alloc | apply pw_below_drewN | apply below_drew1) | exact HB.out)⟩⟩
     ·rw [if_neg c21] at H
      have c21b0 : (t386 != t390) = false := by simpa using c21
      (try (have c21b1 : decide (t386 = t390) = true := by simpa using c21))
      (try (have c21b2 : (t386 == t390) = true := by simpa using c21))
      clear c21
      replace H := Option.bind_eq_some_iff.mp H
      obtain ⟨t396, A240, H⟩ := H
      replace H : (if t396 = true then (laws_FnParkingCounts.j0 k l1 t377 t378 t385 t393 t394 (t386 != t378)) else (laws_FnParkingCounts.j0 k l1 t377 t378 t385 t393 t394 true)) = some r := H
      have A24 := Aside0.mk A240
      clear A240
      by_cases c25 : t396 = true
      ·subst c25
       have H1 : (laws_FnParkingCounts.j0 k l1 t377 t378 t385 t393 t394 (t386 != t378)) = some r := by rw [if_pos rfl] at H; exact H
       clear H
       have H := H1
       clear H1
       have H' := Aside0.mk H
       clear H
       obtain ⟨Ao26, co26, eo26⟩ := Kd.R_slice HO380.out
       subst eo26
       obtain ⟨Ao27, co27, eo27⟩ := Kd.R_slice HO384.out
       subst eo27
       go_wp2_with (first | (go_at_call 20; (with_reducible refine (laws_jSame.calls k _ _ t377 _ _ t381 true _ ?side1 ?side2 ?side3 ?side4 A19.out).mono ?_); (case side1 => repeat (first | exact (Kd.R_reads' HO380.out).2.2 | (with_reducible refine Kd.C_alloc ?_ _) | (with_reducible refine Kd.C_drewN ?_ _) | (with_reducible refine Kd.C_drew ?_))); (case side2 => exact (Kd.R_reads' HO380.out).2.1); (case side3 => repeat (first | exact (Kd.R_reads' HO384.out).2.2 | (with_reducible refine Kd.C_alloc ?_ _) | (with_reducible refine Kd.C_drewN ?_ _) | (with_reducible refine Kd.C_drew ?_))); (case side4 => exact (Kd.R_reads' HO384.out).2.1); rintro e w' ⟨rfl, ⟨nd, rfl⟩⟩; (try first | exact ⟨rfl, _, World.drewN_drewN _ _ _⟩ | exact ⟨rfl, _, Eq.trans (World.drewN_drewN _ _ _) (congrArg (World.drewN _) (Nat.add_assoc _ _ _))⟩); obtain ⟨Ao28, co28, eo28⟩ := Kd.R_slice HO388.out; subst eo28; obtain ⟨Ao29, co29, eo29⟩ := Kd.R_slice HO392.out; subst eo29) | (go_at_call 20; (with_reducible refine (laws_jSame.calls k _ _ t385 _ _ t389 true _ ?side1 ?side2 ?side3 ?side4 A24.out).mono ?_); (case side1 => repeat (first | exact (Kd.R_reads' HO388.out).2.2 | (with_reducible refine Kd.C_alloc ?_ _) | (with_reducible refine Kd.C_drewN ?_ _) | (with_reducible refine Kd.C_drew ?_))); (case side2 => exact (Kd.R_reads' HO388.out).2.1); (case side3 => repeat (first | exact (Kd.R_reads' HO392.out).2.2 | (with_reducible refine Kd.C_alloc ?_ _) | (with_reducible refine Kd.C_drewN ?_ _) | (with_reducible refine Kd.C_drew ?_))); (case side4 => exact (Kd.R_reads' HO392.out).2.1); rintro e w' ⟨rfl, ⟨nd, rfl⟩⟩; (try first | exact ⟨rfl, _, World.drewN_drewN _ _ _⟩ | exact ⟨rfl, _, Eq.trans (World.drewN_drewN _ _ _) (congrArg (World.drewN _) (Nat.add_assoc _ _ _))⟩)))
       repeat (go_quiet (first | (go_at_call 20; (with_reducible refine (laws_jSame.calls k _ _ t377 _ _ t381 true _ ?side1 ?side2 ?side3 ?side4 A19.out).mono ?_); (case side1 => repeat (first | exact (Kd.R_reads' HO380.out).2.2 | (with_reducible refine Kd.C_alloc ?_ _) | (with_reducible refine Kd.C_drewN ?_ _) | (with_reducible refine Kd.C_drew ?_))); (case side2 => exact (Kd.R_reads' HO380.out).2.1); (case side3 => repeat (first | exact (Kd.R_reads' HO384.out).2.2 | (with_reducible refine Kd.C_alloc ?_ _) | (with_reducible refine Kd.C_drewN ?_ _) | (with_reducible refine Kd.C_drew ?_))); (case side4 => exact (Kd.R_reads' HO384.out).2.1); rintro e w' ⟨rfl, ⟨nd, rfl⟩⟩; (try first | exact ⟨rfl, _, World.drewN_drewN _ _ _⟩ | exact ⟨rfl, _, Eq.trans (World.drewN_drewN _ _ _) (congrArg (World.drewN _) (Nat.add_assoc _ _ _))⟩); obtain ⟨Ao28, co28, eo28⟩ := Kd.R_slice HO388.out; subst eo28; obtain ⟨Ao29, co29, eo29⟩ := Kd.R_slice HO392.out; subst eo29) | (go_at_call 20; (with_reducible refine (laws_jSame.calls k _ _ t385 _ _ t389 true _ ?side1 ?side2 ?side3 ?side4 A24.out).mono ?_); (case side1 => repeat (first | exact (Kd.R_reads' HO388.out).2.2 | (with_reducible refine Kd.C_alloc ?_ _) | (with_reducible refine Kd.C_drewN ?_ _) | (with_reducible refine Kd.C_drew ?_))); (case side2 => exact (Kd.R_reads' HO388.out).2.1); (case side3 => repeat (first | exact (Kd.R_reads' HO392.out).2.2 | (with_reducible refine Kd.C_alloc ?_ _) | (with_reducible refine Kd.C_drewN ?_ _) | (with_reducible refine Kd.C_drew ?_))); (case side4 => exact (Kd.R_reads' HO392.out).2.1); rintro e w' ⟨rfl, ⟨nd, rfl⟩⟩; (try first | exact ⟨rfl, _, World.drewN_drewN _ _ _⟩ | exact ⟨rfl, _, Eq.trans (World.drewN_drewN _ _ _) (congrArg (World.drewN _) (Nat.add_assoc _ _ _))⟩))); try go_wp2_with (first | (go_at_call 20; (with_reducible refine (laws_jSame.calls k _ _ t377 _ _ t381 true _ ?side1 ?side2 ?side3 ?side4 A19.out).mono ?_); (case side1 => repeat (first | exact (Kd.R_reads' HO380.out).2.2 | (with_reducible refine Kd.C_alloc ?_ _) | (with_reducible refine Kd.C_drewN ?_ _) | (with_reducible refine Kd.C_drew ?_))); (case side2 => exact (Kd.R_reads' HO380.out).2.1); (case side3 => repeat (first | exact (Kd.R_reads' HO384.out).2.2 | (with_reducible refine Kd.C_alloc ?_ _) | (with_reducible refine Kd.C_drewN ?_ _) | (with_reducible refine Kd.C_drew ?_))); (case side4 => exact (Kd.R_reads' HO384.out).2.1); rintro e w' ⟨rfl, ⟨nd, rfl⟩⟩; (try first | exact ⟨rfl, _, World.drewN_drewN _ _ _⟩ | exact ⟨rfl, _, Eq.trans (World.drewN_drewN _ _ _) (congrArg (World.drewN _) (Nat.add_assoc _ _ _))⟩); obtain ⟨Ao28, co28, eo28⟩ := Kd.R_slice HO388.out; subst eo28; obtain ⟨Ao29, co29, eo29⟩ := Kd.R_slice HO392.out; subst eo29) | (go_at_call 20; (with_reducible refine (laws_jSame.calls k _ _ t385 _ _ t389 true _ ?side1 ?side2 ?side3 ?side4 A24.out).mono ?_); (case side1 => repeat (first | exact (Kd.R_reads' HO388.out).2.2 | (with_reducible refine Kd.C_alloc ?_ _) | (with_reducible refine Kd.C_drewN ?_ _) | (with_reducible refine Kd.C_drew ?_))); (case side2 => exact (Kd.R_reads' HO388.out).2.1); (case side3 => repeat (first | exact (Kd.R_reads' HO392.out).2.2 | (with_reducible refine Kd.C_alloc ?_ _) | (with_reducible refine Kd.C_drewN ?_ _) | (with_reducible refine Kd.C_drew ?_))); (case side4 => exact (Kd.R_reads' HO392.out).2.1); rintro e w' ⟨rfl, ⟨nd, rfl⟩⟩; (try first | exact ⟨rfl, _, World.drewN_drewN _ _ _⟩ | exact ⟨rfl, _, Eq.trans (World.drewN_drewN _ _ _) (congrArg (World.drewN _) (Nat.add_assoc _ _ _))⟩))))
       go_meet
       case rel => exact ⟨_, ((t386 != t378)), (by first | rfl | (simp; done) | (simp [*]; done)), H', ⟨by first | omega | exact Nat.le_refl _⟩, ⟨by (with_reducible repeat (first | apply Kd.R_alloc | apply Kd.R_drewN | apply Kd.R_drew)); exact Kd.R_mono HO380.out (fun _ hk => hk.1.2)⟩, ⟨by (with_reducible repeat (first | apply Kd.R_alloc | apply Kd.R_drewN | apply Kd.R_drew)); exact Kd.R_mono HO388.out (fun _ hk => hk.1.1.2)⟩, ⟨by repeat (first | (with_reducible first | exact HB.out | apply below_alloc | apply pw_below_drewN | apply below_drew1) | exact HB.out)⟩⟩
      ·replace c25 := Bool.eq_false_iff.mpr c25
       subst c25
       have H1 : (laws_FnParkingCounts.j0 k l1 t377 t378 t385 t393 t394 true) = some r := by rw [if_neg (show ¬ (false = true) by decide)] at H; exact H
       clear H
       have H := H1
       clear H1
       have H' := Aside0.mk H
       clear H
       obtain ⟨Ao30, co30, eo30⟩ := Kd.R_slice HO380.out
       subst eo30
       obtain ⟨Ao31, co31, eo31⟩ := Kd.R_slice HO384.out
       subst eo31
       go_wp2_with (first | (go_at_call 20; (with_reducible refine (laws_jSame.calls k _ _ t377 _ _ t381 true _ ?side1 ?side2 ?side3 ?side4 A19.out).mono ?_); (case side1 => repeat (first | exact (Kd.R_reads' HO380.out).2.2 | (with_reducible refine Kd.C_alloc ?_ _) | (with_reducible refine Kd.C_drewN ?_ _) | (with_reducible refine Kd.C_drew ?_))); (case side2 => exact (Kd.R_reads' HO380.out).2.1); (case side3 => repeat (first | exact (Kd.R_reads' HO384.out).2.2 | (with_reducible refine Kd.C_alloc ?_ _) | (with_reducible refine Kd.C_drewN ?_ _) | (with_reducible refine Kd.C_drew ?_))); (case side4 => exact (Kd.R_reads' HO384.out).2.1); rintro e w' ⟨rfl, ⟨nd, rfl⟩⟩; (try first | exact ⟨rfl, _, World.drewN_drewN _ _ _⟩ | exact ⟨rfl, _, Eq.trans (World.drewN_drewN _ _ _) (congrArg (World.drewN _) (Nat.add_assoc _ _ _))⟩); obtain ⟨Ao32, co32, eo32⟩ := Kd.R_slice HO388.out; subst eo32; obtain ⟨Ao33, co33, eo33⟩ := Kd.R_slice HO392.out; subst eo33) | (go_at_call 20; (with_reducible refine (laws_jSame.calls k _ _ t385 _ _ t389 false _ ?side1 ?side2 ?side3 ?side4 A24.out).mono ?_); (case side1 => repeat (first | exact (Kd.R_reads' HO388.out).2.2 | (with_reducible refine Kd.C_alloc ?_ _) | (with_reducible refine Kd.C_drewN ?_ _) | (with_reducible refine Kd.C_drew ?_))); (case side2 => exact (Kd.R_reads' HO388.out).2.1); (case side3 => repeat (first | exact (Kd.R_reads' HO392.out).2.2 | (with_reducible refine Kd.C_alloc ?_ _) | (with_reducible refine Kd.C_drewN ?_ _) | (with_reducible refine Kd.C_drew ?_))); (case side4 => exact (Kd.R_reads' HO392.out).2.1); rintro e w' ⟨rfl, ⟨nd, rfl⟩⟩; (try first | exact ⟨rfl, _, World.drewN_drewN _ _ _⟩ | exact ⟨rfl, _, Eq.trans (World.drewN_drewN _ _ _) (congrArg (World.drewN _) (Nat.add_assoc _ _ _))⟩)))
       repeat (go_quiet (first | (go_at_call 20; (with_reducible refine (laws_jSame.calls k _ _ t377 _ _ t381 true _ ?side1 ?side2 ?side3 ?side4 A19.out).mono ?_); (case side1 => repeat (first | exact (Kd.R_reads' HO380.out).2.2 | (with_reducible refine Kd.C_alloc ?_ _) | (with_reducible refine Kd.C_drewN ?_ _) | (with_reducible refine Kd.C_drew ?_))); (case side2 => exact (Kd.R_reads' HO380.out).2.1); (case side3 => repeat (first | exact (Kd.R_reads' HO384.out).2.2 | (with_reducible refine Kd.C_alloc ?_ _) | (with_reducible refine Kd.C_drewN ?_ _) | (with_reducible refine Kd.C_drew ?_))); (case side4 => exact (Kd.R_reads' HO384.out).2.1); rintro e w' ⟨rfl, ⟨nd, rfl⟩⟩; (try first | exact ⟨rfl, _, World.drewN_drewN _ _ _⟩ | exact ⟨rfl, _, Eq.trans (World.drewN_drewN _ _ _) (congrArg (World.drewN _) (Nat.add_assoc _ _ _))⟩); obtain ⟨Ao32, co32, eo32⟩ := Kd.R_slice HO388.out; subst eo32; obtain ⟨Ao33, co33, eo33⟩ := Kd.R_slice HO392.out; subst eo33) | (go_at_call 20; (with_reducible refine (laws_jSame.calls k _ _ t385 _ _ t389 false _ ?side1 ?side2 ?side3 ?side4 A24.out).mono ?_); (case side1 => repeat (first | exact (Kd.R_reads' HO388.out).2.2 | (with_reducible refine Kd.C_alloc ?_ _) | (with_reducible refine Kd.C_drewN ?_ _) | (with_reducible refine Kd.C_drew ?_))); (case side2 => exact (Kd.R_reads' HO388.out).2.1); (case side3 => repeat (first | exact (Kd.R_reads' HO392.out).2.2 | (with_reducible refine Kd.C_alloc ?_ _) | (with_reducible refine Kd.C_drewN ?_ _) | (with_reducible refine Kd.C_drew ?_))); (case side4 => exact (Kd.R_reads' HO392.out).2.1); rintro e w' ⟨rfl, ⟨nd, rfl⟩⟩; (try first | exact ⟨rfl, _, World.drewN_drewN _ _ _⟩ | exact ⟨rfl, _, Eq.trans (World.drewN_drewN _ _ _) (congrArg (World.drewN _) (Nat.add_assoc _ _ _))⟩))); try go_wp2_with (first | (go_at_call 20; (with_reducible refine (laws_jSame.calls k _ _ t377 _ _ t381 true _ ?side1 ?side2 ?side3 ?side4 A19.out).mono ?_); (case side1 => repeat (first | exact (Kd.R_reads' HO380.out).2.2 | (with_reducible refine Kd.C_alloc ?_ _) | (with_reducible refine Kd.C_drewN ?_ _) | (with_reducible refine Kd.C_drew ?_))); (case side2 => exact (Kd.R_reads' HO380.out).2.1); (case side3 => repeat (first | exact (Kd.R_reads' HO384.out).2.2 | (with_reducible refine Kd.C_alloc ?_ _) | (with_reducible refine Kd.C_drewN ?_ _) | (with_reducible refine Kd.C_drew ?_))); (case side4 => exact (Kd.R_reads' HO384.out).2.1); rintro e w' ⟨rfl, ⟨nd, rfl⟩⟩; (try first | exact ⟨rfl, _, World.drewN_drewN _ _ _⟩ | exact ⟨rfl, _, Eq.trans (World.drewN_drewN _ _ _) (congrArg (World.drewN _) (Nat.add_assoc _ _ _))⟩); obtain ⟨Ao32, co32, eo32⟩ := Kd.R_slice HO388.out; subst eo32; obtain ⟨Ao33, co33, eo33⟩ := Kd.R_slice HO392.out; subst eo33) | (go_at_call 20; (with_reducible refine (laws_jSame.calls k _ _ t385 _ _ t389 false _ ?side1 ?side2 ?side3 ?side4 A24.out).mono ?_); (case side1 => repeat (first | exact (Kd.R_reads' HO388.out).2.2 | (with_reducible refine Kd.C_alloc ?_ _) | (with_reducible refine Kd.C_drewN ?_ _) | (with_reducible refine Kd.C_drew ?_))); (case side2 => exact (Kd.R_reads' HO388.out).2.1); (case side3 => repeat (first | exact (Kd.R_reads' HO392.out).2.2 | (with_reducible refine Kd.C_alloc ?_ _) | (with_reducible refine Kd.C_drewN ?_ _) | (with_reducible refine Kd.C_drew ?_))); (case side4 => exact (Kd.R_reads' HO392.out).2.1); rintro e w' ⟨rfl, ⟨nd, rfl⟩⟩; (try first | exact ⟨rfl, _, World.drewN_drewN _ _ _⟩ | exact ⟨rfl, _, Eq.trans (World.drewN_drewN _ _ _) (congrArg (World.drewN _) (Nat.add_assoc _ _ _))⟩))))
       go_meet
       case rel => exact ⟨_, (true), (by first | rfl | (simp; done) | (simp [*]; done)), H', ⟨by first | omega | exact Nat.le_refl _⟩, ⟨by (with_reducible repeat (first | apply Kd.R_alloc | apply Kd.R_drewN | apply Kd.R_drew)); exact Kd.R_mono HO380.out (fun _ hk => hk.1.2)⟩, ⟨by (with_reducible repeat (first | apply Kd.R_alloc | apply Kd.R_drewN | apply Kd.R_drew)); exact Kd.R_mono HO388.out (fun _ hk => hk.1.1.2)⟩, ⟨by repeat (first | (with_reducible first | exact HB.out | apply below_alloc | apply pw_below_drewN | apply below_drew1) | exact HB.out)⟩⟩
    ·replace c20 := Bool.eq_false_iff.mpr c20
     subst c20
     have H1 : (laws_FnParkingCounts.j0 k l1 t377 t378 t385 t393 t394 true) = some r := by rw [if_neg (show ¬ (false = true) by decide)] at H; exact H
     clear H
     have H := H1
     clear H1
     have H' := Aside0.mk H
     clear H
     obtain ⟨Ao34, co34, eo34⟩ := Kd.R_slice HO380.out
     subst eo34
     obtain ⟨Ao35, co35, eo35⟩ := Kd.R_slice HO384.out
     subst eo35
     go_wp2_with (first | (go_at_call 20; (with_reducible refine (laws_jSame.calls k _ _ t377 _ _ t381 false _ ?side1 ?side2 ?side3 ?side4 A19.out).mono ?_); (case side1 => repeat (first | exact (Kd.R_reads' HO380.out).2.2 | (with_reducible refine Kd.C_alloc ?_ _) | (with_reducible refine Kd.C_drewN ?_ _) | (with_reducible refine Kd.C_drew ?_))); (case side2 => exact (Kd.R_reads' HO380.out).2.1); (case side3 => repeat (first | exact (Kd.R_reads' HO384.out).2.2 | (with_reducible refine Kd.C_alloc ?_ _) | (with_reducible refine Kd.C_drewN ?_ _) | (with_reducible refine Kd.C_drew ?_))); (case side4 => exact (Kd.R_reads' HO384.out).2.1); rintro e w' ⟨rfl, ⟨nd, rfl⟩⟩; (try first | exact ⟨rfl, _, World.drewN_drewN _ _ _⟩ | exact ⟨rfl, _, Eq.trans (World.drewN_drewN _ _ _) (congrArg (World.drewN _) (Nat.add_assoc _ _ _))⟩)))
     repeat (go_quiet (first | (go_at_call 20; (with_reducible refine (laws_jSame.calls k _ _ t377 _ _ t381 false _ ?side1 ?side2 ?side3 ?side4 A19.out).mono ?_); (case side1 => repeat (first | exact (Kd.R_reads' HO380.out).2.2 | (with_reducible refine Kd.C_alloc ?_ _) | (with_reducible refine Kd.C_drewN ?_ _) | (with_reducible refine Kd.C_drew ?_))); (case side2 => exact (Kd.R_reads' HO380.out).2.1); (case side3 => repeat (first | exact (Kd.R_reads' HO384.out).2.2 | (with_reducible refine Kd.C_alloc ?_ _) | (with_reducible refine Kd.C_drewN ?_ _) | (with_reducible refine Kd.C_drew ?_))); (case side4 => exact (Kd.R_reads' HO384.out).2.1); rintro e w' ⟨rfl, ⟨nd, rfl⟩⟩; (try first | exact ⟨rfl, _, World.drewN_drewN _ _ _⟩ | exact ⟨rfl, _, Eq.trans (World.drewN_drewN _ _ _) (congrArg (World.drewN _) (Nat.add_assoc _ _ _))⟩))); try go_wp2_with (first | (go_at_call 20; (with_reducible refine (laws_jSame.calls k _ _ t377 _ _ t381 false _ ?side1 ?side2 ?side3 ?side4 A19.out).mono ?_); (case side1 => repeat (first | exact (Kd.R_reads' HO380.out).2.2 | (with_reducible refine Kd.C_alloc ?_ _) | (with_reducible refine Kd.C_drewN ?_ _) | (with_reducible refine Kd.C_drew ?_))); (case side2 => exact (Kd.R_reads' HO380.out).2.1); (case side3 => repeat (first | exact (Kd.R_reads' HO384.out).2.2 | (with_reducible refine Kd.C_alloc ?_ _) | (with_reducible refine Kd.C_drewN ?_ _) | (with_reducible refine Kd.C_drew ?_))); (case side4 => exact (Kd.R_reads' HO384.out).2.1); rintro e w' ⟨rfl, ⟨nd, rfl⟩⟩; (try first | exact ⟨rfl, _, World.drewN_drewN _ _ _⟩ | exact ⟨rfl, _, Eq.trans (World.drewN_drewN _ _ _) (congrArg (World.drewN _) (Nat.add_assoc _ _ _))⟩))))
     go_meet
     case rel => exact ⟨_, (true), (by first | rfl | (simp; done) | (simp [*]; done)), H', ⟨by first | omega | exact Nat.le_refl _⟩, ⟨by (with_reducible repeat (first | apply Kd.R_alloc | apply Kd.R_drewN | apply Kd.R_drew)); exact Kd.R_mono HO380.out (fun _ hk => hk.1.2)⟩, ⟨by (with_reducible repeat (first | apply Kd.R_alloc | apply Kd.R_drewN | apply Kd.R_drew)); exact Kd.R_mono HO388.out (fun _ hk => hk.1.1.2)⟩, ⟨by repeat (first | (with_reducible first | exact HB.out | apply below_alloc | apply pw_below_drewN | apply below_drew1) | exact HB.out)⟩⟩
  case rest => as_aux_lemma =>
   clear HC11
   try clear c1
   try clear c2
   try clear p2
   try clear c4
   try clear c5
   try clear c18
   try clear c18b0
   try clear c18b1
   try clear c18b2
   try clear c20
   try clear c21
   try clear c21b0
   try clear c21b1
   try clear c21b2
   try clear c25
   obtain ⟨kq, x93_10, rfl, HA, HJ10, HO_6, HO_10, HB⟩ := hcut
   cases kq with
   | zero => exact absurd HA.out (by simp [laws_FnParkingCounts.j0])
   | succ kj10 =>
    have H := HA.out
    clear HA
    simp only [laws_FnParkingCounts.j0] at H
    by_cases c36 : x93_10 = true
    ·subst c36
     have H1 : (some false) = some r := by rw [if_pos rfl] at H; exact H
     clear H
     have H := H1
     clear H1
     obtain rfl := Option.some.inj H
     go_wp2
     repeat (go_quiet (fail); try go_wp2)
     go_ret
     exact ⟨by first | rfl | (simp [errW_none, errW_some] <;> rfl) | (simp [*, errW_none, errW_some] <;> rfl), by repeat (first | (with_reducible first | exact HB.out | apply below_alloc | apply pw_below_drewN | apply below_drew1) | exact HB.out)⟩
    ·replace c36 := Bool.eq_false_iff.mpr c36
     subst c36
     have H1 : (if t378 = true then (if t394 = true then ((laws_jSum.f kj10 t377).bind fun t397 => (if t397 = t393 then ((laws_jSum.f kj10 t385).bind fun t398 => (laws_FnParkingCounts.j1 kj10 l1 t377 t378 (t398 != t393))) else (laws_FnParkingCounts.j1 kj10 l1 t377 t378 true))) else (laws_FnParkingCounts.j1 kj10 l1 t377 t378 true)) else (laws_FnParkingCounts.j1 kj10 l1 t377 t378 false)) = some r := by rw [if_neg (show ¬ (false = true) by decide)] at H; exact H
     clear H
     have H := H1
     clear H1
     have HC37 := Aside0.mk H
     clear H
     go_upto_region 11 with (fail)
     repeat (go_quiet (fail); go_upto_region 11 with (fail))
     go_cut [110] (fun v110 wc => ∃ (kq : Nat) (x110_36 : Bool), v110 = .bool x110_36 ∧ Aside0 (laws_FnParkingCounts.j1 kq l1 t377 t378 x110_36 = some r) ∧ Aside0 (kq ≤ kj10) ∧ Aside0 (Kd.R (Kd.int .i64) 3 wc w.heap.size (fun _ => True) v379 t377) ∧ Aside0 (Below w.heap.size w wc))
     case first => as_aux_lemma =>
      have H := HC37.out
      clear HC37
      by_cases c38 : t378 = true
      ·subst c38
       have H1 : (if t394 = true then ((laws_jSum.f kj10 t377).bind fun t397 => (if t397 = t393 then ((laws_jSum.f kj10 t385).bind fun t398 => (laws_FnParkingCounts.j1 kj10 l1 t377 true (t398 != t393))) else (laws_FnParkingCounts.j1 kj10 l1 t377 true true))) else (laws_FnParkingCounts.j1 kj10 l1 t377 true true)) = some r := by rw [if_pos rfl] at H; exact H
       clear H
       have H := H1
       clear H1
       by_cases c39 : t394 = true
       ·subst c39
        have H1 : ((laws_jSum.f kj10 t377).bind fun t397 => (if t397 = t393 then ((laws_jSum.f kj10 t385).bind fun t398 => (laws_FnParkingCounts.j1 kj10 l1 t377 true (t398 != t393))) else (laws_FnParkingCounts.j1 kj10 l1 t377 true true))) = some r := by rw [if_pos rfl] at H; exact H
        clear H
        have H := H1
        clear H1
        replace H := Option.bind_eq_some_iff.mp H
        obtain ⟨t397, A400, H⟩ := H
        replace H : (if t397 = t393 then ((laws_jSum.f kj10 t385).bind fun t398 => (laws_FnParkingCounts.j1 kj10 l1 t377 true (t398 != t393))) else (laws_FnParkingCounts.j1 kj10 l1 t377 true true)) = some r := H
        have A40 := Aside0.mk A400
        clear A400
        by_cases c41 : t397 = t393
        ·rw [if_pos c41] at H
         have c41b0 : (t397 == t393) = true := beq_iff_eq.mpr c41
         have c41b1 : (t397 != t393) = false := bne_eq_false_iff_eq.mpr c41
         clear c41
         (first | rw [c41b0] | (simp only [i64_w, i32_w]; rw [c41b0]) | skip)
         replace H := Option.bind_eq_some_iff.mp H
         obtain ⟨t398, A420, H⟩ := H
         replace H : (laws_FnParkingCounts.j1 kj10 l1 t377 true (t398 != t393)) = some r := H
         have A42 := Aside0.mk A420
         clear A420
         have H' := Aside0.mk H
         clear H
         obtain ⟨Ao43, co43, eo43⟩ := Kd.R_slice HO_6.out
         subst eo43
         go_wp2_with (first | (go_at_call 48; (with_reducible refine (laws_jSum.calls kj10 _ _ t377 t397 _ ?side1 ?side2 A40.out).mono ?_); (case side1 => repeat (first | exact (Kd.R_reads' HO_6.out).2.2 | (with_reducible refine Kd.C_alloc ?_ _) | (with_reducible refine Kd.C_drewN ?_ _) | (with_reducible refine Kd.C_drew ?_))); (case side2 => exact (Kd.R_reads' HO_6.out).2.1); rintro e w' ⟨rfl, ⟨nd, rfl⟩⟩; (try first | exact ⟨rfl, _, World.drewN_drewN _ _ _⟩ | exact ⟨rfl, _, Eq.trans (World.drewN_drewN _ _ _) (congrArg (World.drewN _) (Nat.add_assoc _ _ _))⟩); obtain ⟨Ao44, co44, eo44⟩ := Kd.R_slice HO_10.out; subst eo44) | (go_at_call 48; (with_reducible refine (laws_jSum.calls kj10 _ _ t385 t398 _ ?side1 ?side2 A42.out).mono ?_); (case side1 => repeat (first | exact (Kd.R_reads' HO_10.out).2.2 | (with_reducible refine Kd.C_alloc ?_ _) | (with_reducible refine Kd.C_drewN ?_ _) | (with_reducible refine Kd.C_drew ?_))); (case side2 => exact (Kd.R_reads' HO_10.out).2.1); rintro e w' ⟨rfl, ⟨nd, rfl⟩⟩; (try first | exact ⟨rfl, _, World.drewN_drewN _ _ _⟩ | exact ⟨rfl, _, Eq.trans (World.drewN_drewN _ _ _) (congrArg (World.drewN _) (Nat.add_assoc _ _ _))⟩)))
         repeat (go_quiet (first | (go_at_call 48; (with_reducible refine (laws_jSum.calls kj10 _ _ t377 t397 _ ?side1 ?side2 A40.out).mono ?_); (case side1 => repeat (first | exact (Kd.R_reads' HO_6.out).2.2 | (with_reducible refine Kd.C_alloc ?_ _) | (with_reducible refine Kd.C_drewN ?_ _) | (with_reducible refine Kd.C_drew ?_))); (case side2 => exact (Kd.R_reads' HO_6.out).2.1); rintro e w' ⟨rfl, ⟨nd, rfl⟩⟩; (try first | exact ⟨rfl, _, World.drewN_drewN _ _ _⟩ | exact ⟨rfl, _, Eq.trans (World.drewN_drewN _ _ _) (congrArg (World.drewN _) (Nat.add_assoc _ _ _))⟩); obtain ⟨Ao44, co44, eo44⟩ := Kd.R_slice HO_10.out; subst eo44) | (go_at_call 48; (with_reducible refine (laws_jSum.calls kj10 _ _ t385 t398 _ ?side1 ?side2 A42.out).mono ?_); (case side1 => repeat (first | exact (Kd.R_reads' HO_10.out).2.2 | (with_reducible refine Kd.C_alloc ?_ _) | (with_reducible refine Kd.C_drewN ?_ _) | (with_reducible refine Kd.C_drew ?_))); (case side2 => exact (Kd.R_reads' HO_10.out).2.1); rintro e w' ⟨rfl, ⟨nd, rfl⟩⟩; (try first | exact ⟨rfl, _, World.drewN_drewN _ _ _⟩ | exact ⟨rfl, _, Eq.trans (World.drewN_drewN _ _ _) (congrArg (World.drewN _) (Nat.add_assoc _ _ _))⟩))); try go_wp2_with (first | (go_at_call 48; (with_reducible refine (laws_jSum.calls kj10 _ _ t377 t397 _ ?side1 ?side2 A40.out).mono ?_); (case side1 => repeat (first | exact (Kd.R_reads' HO_6.out).2.2 | (with_reducible refine Kd.C_alloc ?_ _) | (with_reducible refine Kd.C_drewN ?_ _) | (with_reducible refine Kd.C_drew ?_))); (case side2 => exact (Kd.R_reads' HO_6.out).2.1); rintro e w' ⟨rfl, ⟨nd, rfl⟩⟩; (try first | exact ⟨rfl, _, World.drewN_drewN _ _ _⟩ | exact ⟨rfl, _, Eq.trans (World.drewN_drewN _ _ _) (congrArg (World.drewN _) (Nat.add_assoc _ _ _))⟩); obtain ⟨Ao44, co44, eo44⟩ := Kd.R_slice HO_10.out; subst eo44) | (go_at_call 48; (with_reducible refine (laws_jSum.calls kj10 _ _ t385 t398 _ ?side1 ?side2 A42.out).mono ?_); (case side1 => repeat (first | exact (Kd.R_reads' HO_10.out).2.2 | (with_reducible refine Kd.C_alloc ?_ _) | (with_reducible refine Kd.C_drewN ?_ _) | (with_reducible refine Kd.C_drew ?_))); (case side2 => exact (Kd.R_reads' HO_10.out).2.1); rintro e w' ⟨rfl, ⟨nd, rfl⟩⟩; (try first | exact ⟨rfl, _, World.drewN_drewN _ _ _⟩ | exact ⟨rfl, _, Eq.trans (World.drewN_drewN _ _ _) (congrArg (World.drewN _) (Nat.add_assoc _ _ _))⟩))))
         go_meet
         case rel => exact ⟨_, ((t398 != t393)), (by first | rfl | (simp; done) | (simp [*]; done)), H', ⟨by have := HJ10.out; first | omega | exact Nat.le_refl _⟩, ⟨by (with_reducible repeat (first | apply Kd.R_alloc | apply Kd.R_drewN | apply Kd.R_drew)); exact Kd.R_mono HO_6.out (fun _ hk => trivial)⟩, ⟨by repeat (first | (with_reducible first | exact HB.out | apply below_alloc | apply pw_below_drewN | apply below_drew1) | exact HB.out)⟩⟩
        ·rw [if_neg c41] at H
         have c41b0 : (t397 == t393) = false := beq_eq_false_iff_ne.mpr c41
         have c41b1 : (t397 != t393) = true := bne_iff_ne.mpr c41
         (first | rw [c41b0] | (simp only [i64_w, i32_w]; rw [c41b0]) | skip)
         have H' := Aside0.mk H
         clear H
         obtain ⟨Ao45, co45, eo45⟩ := Kd.R_slice HO_6.out
         subst eo45
         go_wp2_with (first | (go_at_call 48; (with_reducible refine (laws_jSum.calls kj10 _ _ t377 t397 _ ?side1 ?side2 A40.out).mono ?_); (case side1 => repeat (first | exact (Kd.R_reads' HO_6.out).2.2 | (with_reducible refine Kd.C_alloc ?_ _) | (with_reducible refine Kd.C_drewN ?_ _) | (with_reducible refine Kd.C_drew ?_))); (case side2 => exact (Kd.R_reads' HO_6.out).2.1); rintro e w' ⟨rfl, ⟨nd, rfl⟩⟩; (try first | exact ⟨rfl, _, World.drewN_drewN _ _ _⟩ | exact ⟨rfl, _, Eq.trans (World.drewN_drewN _ _ _) (congrArg (World.drewN _) (Nat.add_assoc _ _ _))⟩)))
         repeat (go_quiet (first | (go_at_call 48; (with_reducible refine (laws_jSum.calls kj10 _ _ t377 t397 _ ?side1 ?side2 A40.out).mono ?_); (case side1 => repeat (first | exact (Kd.R_reads' HO_6.out).2.2 | (with_reducible refine Kd.C_alloc ?_ _) | (with_reducible refine Kd.C_drewN ?_ _) | (with_reducible refine Kd.C_drew ?_))); (case side2 => exact (Kd.R_reads' HO_6.out).2.1); rintro e w' ⟨rfl, ⟨nd, rfl⟩⟩; (try first | exact ⟨rfl, _, World.drewN_drewN _ _ _⟩ | exact ⟨rfl, _, Eq.trans (World.drewN_drewN _ _ _) (congrArg (World.drewN _) (Nat.add_assoc _ _ _))⟩))); try go_wp2_with (first | (go_at_call 48; (with_reducible refine (laws_jSum.calls kj10 _ _ t377 t397 _ ?side1 ?side2 A40.out).mono ?_); (case side1 => repeat (first | exact (Kd.R_reads' HO_6.out).2.2 | (with_reducible refine Kd.C_alloc ?_ _) | (with_reducible refine Kd.C_drewN ?_ _) | (with_reducible refine Kd.C_drew ?_))); (case side2 => exact (Kd.R_reads' HO_6.out).2.1); rintro e w' ⟨rfl, ⟨nd, rfl⟩⟩; (try first | exact ⟨rfl, _, World.drewN_drewN _ _ _⟩ | exact ⟨rfl, _, Eq.trans (World.drewN_drewN _ _ _) (congrArg (World.drewN _) (Nat.add_assoc _ _ _))⟩))))
         go_meet
         case rel => exact ⟨_, (true), (by first | rfl | (simp; done) | (simp [*]; done)), H', ⟨by have := HJ10.out; first | omega | exact Nat.le_refl _⟩, ⟨by (with_reducible repeat (first | apply Kd.R_alloc | apply Kd.R_drewN | apply Kd.R_drew)); exact Kd.R_mono HO_6.out (fun _ hk => trivial)⟩, ⟨by repeat (first | (with_reducible first | exact HB.out | apply below_alloc | apply pw_below_drewN | apply below_drew1) | exact HB.out)⟩⟩
       ·replace c39 := Bool.eq_false_iff.mpr c39
        subst c39
        have H1 : (laws_FnParkingCounts.j1 kj10 l1 t377 true true) = some r := by rw [if_neg (show ¬ (false = true) by decide)] at H; exact H
        clear H
        have H := H1
        clear H1
        have H' := Aside0.mk H
        clear H
        go_wp2
        repeat (go_quiet (fail); try go_wp2)
        go_meet
        case rel => exact ⟨_, (true), (by first | rfl | (simp; done) | (simp [*]; done)), H', ⟨by have := HJ10.out; first | omega | exact Nat.le_refl _⟩, ⟨by (with_reducible repeat (first | apply Kd.R_alloc | apply Kd.R_drewN | apply Kd.R_drew)); exact Kd.R_mono HO_6.out (fun _ hk => trivial)⟩, ⟨by repeat (first | (with_reducible first | exact HB.out | apply below_alloc | apply pw_below_drewN | apply below_drew1) | exact HB.out)⟩⟩
      ·replace c38 := Bool.eq_false_iff.mpr c38
       subst c38
       have H1 : (laws_FnParkingCounts.j1 kj10 l1 t377 false false) = some r := by rw [if_neg (show ¬ (false = true) by decide)] at H; exact H
       clear H
       have H := H1
       clear H1
       have H' := Aside0.mk H
       clear H
       go_wp2
       repeat (go_quiet (fail); try go_wp2)
       go_meet
       case rel => exact ⟨_, (false), (by first | rfl | (simp; done) | (simp [*]; done)), H', ⟨by have := HJ10.out; first | omega | exact Nat.le_refl _⟩, ⟨by (with_reducible repeat (first | apply Kd.R_alloc | apply Kd.R_drewN | apply Kd.R_drew)); exact Kd.R_mono HO_6.out (fun _ hk => trivial)⟩, ⟨by repeat (first | (with_reducible first | exact HB.out | apply below_alloc | apply pw_below_drewN | apply below_drew1) | exact HB.out)⟩⟩
     case rest => as_aux_lemma =>
      clear HC37
      try clear c1
      try clear c2
      try clear p2
      try clear c3
      try clear c4
      try clear c5
      try clear c18
      try clear c18b0
      try clear c18b1
      try clear c18b2
      try clear c20
      try clear c21
      try clear c21b0
      try clear c21b1
      try clear c21b2
      try clear c25
      try clear c36
      try clear c38
      try clear c39
      try clear c41
      try clear c41b0
      try clear c41b1
      try clear p2
      obtain ⟨kq, x110_36, rfl, HA, HJ36, HO_6, HB⟩ := hcut
      cases kq with
      | zero => exact absurd HA.out (by simp [laws_FnParkingCounts.j1])
      | succ kj36 =>
       have H := HA.out
       clear HA
       simp only [laws_FnParkingCounts.j1] at H
       by_cases c46 : x110_36 = true
       ·subst c46
        have H1 : (some false) = some r := by rw [if_pos rfl] at H; exact H
        clear H
        have H := H1
        clear H1
        obtain rfl := Option.some.inj H
        go_wp2
        repeat (go_quiet (fail); try go_wp2)
        go_ret
        exact ⟨by first | rfl | (simp [errW_none, errW_some] <;> rfl) | (simp [*, errW_none, errW_some] <;> rfl), by repeat (first | (with_reducible first | exact HB.out | apply below_alloc | apply pw_below_drewN | apply below_drew1) | exact HB.out)⟩
       ·replace c46 := Bool.eq_false_iff.mpr c46
        subst c46
        have H1 : (if t378 = true then (laws_FnParkingCounts.l0 kj36 l1 t377 1) else (laws_FnParkingCounts.j3 kj36 l1)) = some r := by rw [if_neg (show ¬ (false = true) by decide)] at H; exact H
        clear H
        have H := H1
        clear H1
        have HC47 := Aside0.mk H
        clear H
        go_upto_if 111 with (fail)
        repeat (go_quiet (fail); go_upto_if 111 with (fail))
        go_cut [] (fun wc => ∃ (kq : Nat), Aside0 (laws_FnParkingCounts.j3 kq l1 = some r) ∧ Aside0 (kq ≤ kj36) ∧ Aside0 (Below w.heap.size w wc))
        case first => as_aux_lemma =>
         have H := HC47.out
         clear HC47
         by_cases c48 : t378 = true
         ·subst c48
          have H1 : (laws_FnParkingCounts.l0 kj36 l1 t377 1) = some r := by rw [if_pos rfl] at H; exact H
          clear H
          have H := H1
          clear H1
          have H' := Aside0.mk H
          clear H
          go_wp2
          repeat (go_quiet (fail); try go_wp2)
          go_loopg [16] kj36 (fun kq v16 w' => ∃ (x16_3 : Int), v16 = .int .i64 x16_3 ∧ Aside0 (laws_FnParkingCounts.l0 kq l1 t377 x16_3 = some r) ∧ Aside0 (kq ≤ kj36) ∧ Aside0 (Kd.R (Kd.int .i64) 3 w' w.heap.size (fun _ => True) v379 t377) ∧ Aside0 (Below w.heap.size w w'))
          case atStart => exact ⟨(1), (by first | rfl | (simp; done) | (simp [*]; done)), H', ⟨Nat.le_refl _⟩, ⟨by (with_reducible repeat (first | apply Kd.R_alloc | apply Kd.R_drewN | apply Kd.R_drew)); exact HO_6.out⟩, ⟨by repeat (first | (with_reducible first | exact HB.out | apply below_alloc | apply pw_below_drewN | apply below_drew1) | exact HB.out)⟩⟩
          case round => as_aux_lemma =>
           clear H'
           try clear c1
           try clear c2
           try clear p2
           try clear c3
           try clear c4
           try clear c5
           try clear c18
           try clear c18b0
           try clear c18b1
           try clear c18b2
           try clear c20
           try clear c21
           try clear c21b0
           try clear c21b1
           try clear c21b2
           try clear c25
           try clear c36
           try clear c38
           try clear c39
           try clear c41
           try clear c41b0
           try clear c41b1
           try clear c46
           try clear c48
           try clear p2
           obtain ⟨x16_3, rfl, HA, HK3, HO_6, HB⟩ := hrel
           cases gk with
           | zero => exact absurd HA.out (by simp [laws_FnParkingCounts.l0])
           | succ k3 =>
            have H := HA.out
            clear HA
            simp only [laws_FnParkingCounts.l0] at H
            by_cases c49 : x16_3 < (t377.length : Int)
            ·rw [if_pos c49] at H
             have c49b0 : decide (x16_3 < (t377.length : Int)) = true := decide_eq_true c49
             clear c49
             (first | rw [c49b0] | (simp only [i64_w, i32_w]; rw [c49b0]) | skip)
             by_cases c50 : 0 ≤ x16_3
             ·rw [if_pos c50] at H
              have c50b0 : decide (0 ≤ x16_3) = true := decide_eq_true c50
              clear c50
              obtain ⟨ji51, hji51⟩ : ∃ j_ : Int, (wrap64 (x16_3 - 1)) = j_ := ⟨_, rfl⟩
              replace H : (if 0 ≤ (ji51) then (if (ji51) < (t377.length : Int) then (if (rd t377 x16_3) > (rd t377 (ji51)) then (some false) else (laws_FnParkingCounts.l0 k3 l1 t377 (wrap64 (x16_3 + 1)))) else (none)) else (none)) = some r := by first | (rw [hji51] at H; exact H) | (simp only [hji51] at H ⊢; exact H)
              have hji51w : (IntKind.i64.wrap (x16_3 - 1)) = ji51 := (i64_w _).trans hji51
              by_cases c52 : 0 ≤ (ji51)
              ·rw [if_pos c52] at H
               have c52b0 : decide (0 ≤ (ji51)) = true := decide_eq_true c52
               clear c52
               by_cases c53 : (ji51) < (t377.length : Int)
               ·rw [if_pos c53] at H
                have c53b0 : decide ((ji51) < (t377.length : Int)) = true := decide_eq_true c53
                clear c53
                by_cases c54 : (rd t377 x16_3) > (rd t377 (ji51))
                ·rw [if_pos c54] at H
                 have c54b0 : decide ((rd t377 (ji51)) < (rd t377 x16_3)) = true := decide_eq_true c54
                 clear c54
                 obtain rfl := Option.some.inj H
                 obtain ⟨Ao55, co55, eo55⟩ := Kd.R_slice HO_6.out
                 subst eo55
                 have p399 : 0 ≤ (x16_3 : Int) := of_decide_eq_true (by first | (with_reducible assumption) | assumption)
                 have q399 : x16_3 < (t377.length : Int) := of_decide_eq_true (by first | (with_reducible assumption) | assumption)
                 obtain ⟨ad399, e399, hx399_0⟩ := Kd.at_int (Kd.R_reads' HO_6.out).2.2 x16_3 p399 q399
                 cases e399
                 replace p399 := eq_true p399
                 replace q399 := eq_true q399
                 have p400 : 0 ≤ ((ji51) : Int) := of_decide_eq_true (by first | (with_reducible assumption) | assumption)
                 have q400 : (ji51) < (t377.length : Int) := of_decide_eq_true (by first | (with_reducible assumption) | assumption)
                 obtain ⟨ad400, e400, hx400_0⟩ := Kd.at_int (Kd.R_reads' HO_6.out).2.2 (ji51) p400 q400
                 obtain rfl : ad399 = ad400 := (by injection e400)
                 replace p400 := eq_true p400
                 replace q400 := eq_true q400
                 go_wp2
                 repeat (go_quiet (fail); try go_wp2)
                 go_ret
                 exact ⟨by first | rfl | (simp [errW_none, errW_some] <;> rfl) | (simp only [← hji51]; first | rfl | (simp [errW_none, errW_some] <;> rfl)) | (simp [*, errW_none, errW_some] <;> rfl), by repeat (first | (with_reducible first | exact HB.out | apply below_alloc | apply pw_below_drewN | apply below_drew1) | exact HB.out)⟩
                ·rw [if_neg c54] at H
                 have c54b0 : decide ((rd t377 (ji51)) < (rd t377 x16_3)) = false := decide_eq_false c54
                 clear c54
                 have H' := Aside0.mk H
                 clear H
                 obtain ⟨Ao56, co56, eo56⟩ := Kd.R_slice HO_6.out
                 subst eo56
                 have p399 : 0 ≤ (x16_3 : Int) := of_decide_eq_true (by first | (with_reducible assumption) | assumption)
                 have q399 : x16_3 < (t377.length : Int) := of_decide_eq_true (by first | (with_reducible assumption) | assumption)
                 obtain ⟨ad399, e399, hx399_0⟩ := Kd.at_int (Kd.R_reads' HO_6.out).2.2 x16_3 p399 q399
                 cases e399
                 replace p399 := eq_true p399
                 replace q399 := eq_true q399
                 have p400 : 0 ≤ ((ji51) : Int) := of_decide_eq_true (by first | (with_reducible assumption) | assumption)
                 have q400 : (ji51) < (t377.length : Int) := of_decide_eq_true (by first | (with_reducible assumption) | assumption)
                 obtain ⟨ad400, e400, hx400_0⟩ := Kd.at_int (Kd.R_reads' HO_6.out).2.2 (ji51) p400 q400
                 obtain rfl : ad399 = ad400 := (by injection e400)
                 replace p400 := eq_true p400
                 replace q400 := eq_true q400
                 go_wp2
                 repeat (go_quiet (fail); try go_wp2)
                 go_roundg k3
                 case measure => have := HJ10.out; have := HJ36.out; have := HK3.out; omega
                 case rel => exact ⟨(wrap64 (x16_3 + 1)), (by first | rfl | (simp; done) | (simp [*]; done)), H', ⟨by have := HJ10.out; have := HJ36.out; have := HK3.out; omega⟩, ⟨by (with_reducible repeat (first | apply Kd.R_alloc | apply Kd.R_drewN | apply Kd.R_drew)); exact HO_6.out⟩, ⟨by repeat (first | (with_reducible first | exact HB.out | apply below_alloc | apply pw_below_drewN | apply below_drew1) | exact HB.out)⟩⟩
               ·rw [if_neg c53] at H
                exact absurd H (by simp)
              ·rw [if_neg c52] at H
               exact absurd H (by simp)
             ·rw [if_neg c50] at H
              exact absurd H (by simp)
            ·rw [if_neg c49] at H
             have c49b0 : decide (x16_3 < (t377.length : Int)) = false := decide_eq_false c49
             clear c49
             (first | rw [c49b0] | (simp only [i64_w, i32_w]; rw [c49b0]) | skip)
             have H' := Aside0.mk H
             clear H
             obtain ⟨Ao57, co57, eo57⟩ := Kd.R_slice HO_6.out
             subst eo57
             go_wp2
             repeat (go_quiet (fail); try go_wp2)
             go_meet
             case rel => exact ⟨_, H', ⟨by have := HJ10.out; have := HJ36.out; have := HK3.out; first | omega | exact Nat.le_refl _⟩, ⟨by repeat (first | (with_reducible first | exact HB.out | apply below_alloc | apply pw_below_drewN | apply below_drew1) | exact HB.out)⟩⟩
         ·replace c48 := Bool.eq_false_iff.mpr c48
          subst c48
          have H1 : (laws_FnParkingCounts.j3 kj36 l1) = some r := by rw [if_neg (show ¬ (false = true) by decide)] at H; exact H
          clear H
          have H := H1
          clear H1
          have H' := Aside0.mk H
          clear H
          go_wp2
          repeat (go_quiet (fail); try go_wp2)
          go_meet
          case rel => exact ⟨_, H', ⟨by have := HJ10.out; have := HJ36.out; first | omega | exact Nat.le_refl _⟩, ⟨by repeat (first | (with_reducible first | exact HB.out | apply below_alloc | apply pw_below_drewN | apply below_drew1) | exact HB.out)⟩⟩
        case rest => as_aux_lemma =>
         clear HC47
         try clear c1
         try clear c2
         try clear p2
         try clear c3
         try clear p3
         try clear q3
         try clear hx3
         try clear c4
         try clear p4
         try clear q4
         try clear hx4
         try clear c5
         try clear p6
         try clear c18
         try clear c18b0
         try clear c18b1
         try clear c18b2
         try clear c20
         try clear c21
         try clear c21b0
         try clear c21b1
         try clear c21b2
         try clear c25
         try clear c36
         try clear c38
         try clear c39
         try clear p39
         try clear q39
         try clear hx39
         try clear p40
         try clear q40
         try clear hx40
         try clear c41
         try clear c41b0
         try clear c41b1
         try clear c46
         try clear c48
         try clear c49
         try clear c49b0
         try clear c50
         try clear c50b0
         try clear c52
         try clear c52b0
         try clear c53
         try clear c53b0
         try clear c54
         try clear c54b0
         try clear hx399_0
         try clear hx400_0
         try clear p2
         try clear p399
         try clear p400
         try clear q399
         try clear q400
         obtain ⟨kq, HA, HJ46, HB⟩ := hcut
         cases kq with
         | zero => exact absurd HA.out (by simp [laws_FnParkingCounts.j3])
         | succ kj46 =>
          have H := HA.out
          clear HA
          simp only [laws_FnParkingCounts.j3] at H
          replace H := Option.bind_eq_some_iff.mp H
          obtain ⟨t401, A580, H⟩ := H
          replace H : ((impl_CountByDistance.f kj46 t401).bind fun bt402 => ((spec_CountByDistance.f kj46 t401).bind fun bt406 => (if (bt402.2 != bt406.2) = true then (laws_FnParkingCounts.j4 kj46 l1 t401 bt402.1 bt402.2 true) else ((laws_jSame.f kj46 bt402.1 bt406.1).bind fun t410 => (laws_FnParkingCounts.j4 kj46 l1 t401 bt402.1 bt402.2 (!t410)))))) = some r := H
          have A58 := Aside0.mk A580
          clear A580
          replace H := Option.bind_eq_some_iff.mp H
          obtain ⟨⟨t402, t403⟩, A590, H⟩ := H
          replace H : ((spec_CountByDistance.f kj46 t401).bind fun bt406 => (if (t403 != bt406.2) = true then (laws_FnParkingCounts.j4 kj46 l1 t401 t402 t403 true) else ((laws_jSame.f kj46 t402 bt406.1).bind fun t410 => (laws_FnParkingCounts.j4 kj46 l1 t401 t402 t403 (!t410))))) = some r := H
          have A59 := Aside0.mk A590
          clear A590
          replace H := Option.bind_eq_some_iff.mp H
          obtain ⟨⟨t406, t407⟩, A600, H⟩ := H
          replace H : (if (t403 != t407) = true then (laws_FnParkingCounts.j4 kj46 l1 t401 t402 t403 true) else ((laws_jSame.f kj46 t402 t406).bind fun t410 => (laws_FnParkingCounts.j4 kj46 l1 t401 t402 t403 (!t410)))) = some r := H
          have A60 := Aside0.mk A600
          clear A600
          have HC61 := Aside0.mk H
          clear H
          go_upto_region 22 with (first | (go_at_call 49; (with_reducible refine (spec_DrawCountByDistance.calls _ _ l1 t401 _ ?side1 ?side2 A58.out).mono ?_); (case side1 => repeat (first | exact (Kd.C_below HR1.out HB.out) | (with_reducible refine Kd.C_alloc ?_ _) | (with_reducible refine Kd.C_drewN ?_ _) | (with_reducible refine Kd.C_drew ?_))); (case side2 => exact HC1.out); rintro e w62 ⟨rfl, hb⟩; have n0_ := Aside0.mk (below_step (by repeat (first | (with_reducible first | exact HB.out | apply below_alloc | apply pw_below_drewN | apply below_drew1) | exact HB.out)) hb); clear HB; have HB := n0_; clear n0_; (try clear hb); (try clear hb2); (try clear hk); (try clear hi)) | (go_at_call 50; (with_reducible refine (impl_CountByDistance.calls kj46 t401 t402 t403 _ A59.out).mono ?_); rintro e w63 ⟨v404, rfl, ho0, hb⟩; have n0_ := Aside0.mk (Kd.R_lower ho0 (below_size (by repeat (first | (with_reducible first | exact HB.out | apply below_alloc | apply pw_below_drewN | apply below_drew1) | exact HB.out)))); have n1_ := Aside0.mk (below_step (by repeat (first | (with_reducible first | exact HB.out | apply below_alloc | apply pw_below_drewN | apply below_drew1) | exact HB.out)) hb); clear HB; have HO405 := n0_; have HB := n1_; clear n0_ n1_; (try clear hb); (try clear hb2); (try clear hk); (try clear hi); (try clear ho0)) | (go_at_call 51; (with_reducible refine (spec_CountByDistance.calls kj46 t401 t406 t407 _ A60.out).mono ?_); rintro e w64 ⟨v408, rfl, ho0, hb⟩; have n0_ := Aside0.mk (Kd.R_elder' (by (with_reducible repeat (first | apply Kd.R_alloc | apply Kd.R_drewN | apply Kd.R_drew)); exact HO405.out) (Kd.R_base ho0) hb); have n1_ := Aside0.mk (Kd.R_lower (Kd.R_new' ho0 (Kd.R_lt (by (with_reducible repeat (first | apply Kd.R_alloc | apply Kd.R_drewN | apply Kd.R_drew)); exact HO405.out))) (below_size (by repeat (first | (with_reducible first | exact HB.out | apply below_alloc | apply pw_below_drewN | apply below_drew1) | exact HB.out)))); have n2_ := Aside0.mk (below_step (by repeat (first | (with_reducible first | exact HB.out | apply below_alloc | apply pw_below_drewN | apply below_drew1) | exact HB.out)) hb); clear HO405; clear HB; have HO405 := n0_; have HO409 := n1_; have HB := n2_; clear n0_ n1_ n2_; (try clear hb); (try clear hb2); (try clear hk); (try clear hi); (try clear ho0)))
          repeat (go_quiet (first | (go_at_call 49; (with_reducible refine (spec_DrawCountByDistance.calls _ _ l1 t401 _ ?side1 ?side2 A58.out).mono ?_); (case side1 => repeat (first | exact (Kd.C_below HR1.out HB.out) | (with_reducible refine Kd.C_alloc ?_ _) | (with_reducible refine Kd.C_drewN ?_ _) | (with_reducible refine Kd.C_drew ?_))); (case side2 => exact HC1.out); rintro e w62 ⟨rfl, hb⟩; have n0_ := Aside0.mk (below_step (by repeat (first | (with_reducible first | exact HB.out | apply below_alloc | apply pw_below_drewN | apply below_drew1) | exact HB.out)) hb); clear HB; have HB := n0_; clear n0_; (try clear hb); (try clear hb2); (try clear hk); (try clear hi)) | (go_at_call 50; (with_reducible refine (impl_CountByDistance.calls kj46 t401 t402 t403 _ A59.out).mono ?_); rintro e w63 ⟨v404, rfl, ho0, hb⟩; have n0_ := Aside0.mk (Kd.R_lower ho0 (below_size (by repeat (first | (with_reducible first | exact HB.out | apply below_alloc | apply pw_below_drewN | apply below_drew1) | exact HB.out)))); have n1_ := Aside0.mk (below_step (by repeat (first | (with_reducible first | exact HB.out | apply below_alloc | apply pw_below_drewN | apply below_drew1) | exact HB.out)) hb); clear HB; have HO405 := n0_; have HB := n1_; clear n0_ n1_; (try clear hb); (try clear hb2); (try clear hk); (try clear hi); (try clear ho0)) | (go_at_call 51; (with_reducible refine (spec_CountByDistance.calls kj46 t401 t406 t407 _ A60.out).mono ?_); rintro e w64 ⟨v408, rfl, ho0, hb⟩; have n0_ := Aside0.mk (Kd.R_elder' (by (with_reducible repeat (first | apply Kd.R_alloc | apply Kd.R_drewN | apply Kd.R_drew)); exact HO405.out) (Kd.R_base ho0) hb); have n1_ := Aside0.mk (Kd.R_lower (Kd.R_new' ho0 (Kd.R_lt (by (with_reducible repeat (first | apply Kd.R_alloc | apply Kd.R_drewN | apply Kd.R_drew)); exact HO405.out))) (below_size (by repeat (first | (with_reducible first | exact HB.out | apply below_alloc | apply pw_below_drewN | apply below_drew1) | exact HB.out)))); have n2_ := Aside0.mk (below_step (by repeat (first | (with_reducible first | exact HB.out | apply below_alloc | apply pw_below_drewN | apply below_drew1) | exact HB.out)) hb); clear HO405; clear HB; have HO405 := n0_; have HO409 := n1_; have HB := n2_; clear n0_ n1_ n2_; (try clear hb); (try clear hb2); (try clear hk); (try clear hi); (try clear ho0))); go_upto_region 22 with (first | (go_at_call 49; (with_reducible refine (spec_DrawCountByDistance.calls _ _ l1 t401 _ ?side1 ?side2 A58.out).mono ?_); (case side1 => repeat (first | exact (Kd.C_below HR1.out HB.out) | (with_reducible refine Kd.C_alloc ?_ _) | (with_reducible refine Kd.C_drewN ?_ _) | (with_reducible refine Kd.C_drew ?_))); (case side2 => exact HC1.out); rintro e w62 ⟨rfl, hb⟩; have n0_ := Aside0.mk (below_step (by repeat (first | (with_reducible first | exact HB.out | apply below_alloc | apply pw_below_drewN | apply below_drew1) | exact HB.out)) hb); clear HB; have HB := n0_; clear n0_; (try clear hb); (try clear hb2); (try clear hk); (try clear hi)) | (go_at_call 50; (with_reducible refine (impl_CountByDistance.calls kj46 t401 t402 t403 _ A59.out).mono ?_); rintro e w63 ⟨v404, rfl, ho0, hb⟩; have n0_ := Aside0.mk (Kd.R_lower ho0 (below_size (by repeat (first | (with_reducible first | exact HB.out | apply below_alloc | apply pw_below_drewN | apply below_drew1) | exact HB.out)))); have n1_ := Aside0.mk (below_step (by repeat (first | (with_reducible first | exact HB.out | apply below_alloc | apply pw_below_drewN | apply below_drew1) | exact HB.out)) hb); clear HB; have HO405 := n0_; have HB := n1_; clear n0_ n1_; (try clear hb); (try clear hb2); (try clear hk); (try clear hi); (try clear ho0)) | (go_at_call 51; (with_reducible refine (spec_CountByDistance.calls kj46 t401 t406 t407 _ A60.out).mono ?_); rintro e w64 ⟨v408, rfl, ho0, hb⟩; have n0_ := Aside0.mk (Kd.R_elder' (by (with_reducible repeat (first | apply Kd.R_alloc | apply Kd.R_drewN | apply Kd.R_drew)); exact HO405.out) (Kd.R_base ho0) hb); have n1_ := Aside0.mk (Kd.R_lower (Kd.R_new' ho0 (Kd.R_lt (by (with_reducible repeat (first | apply Kd.R_alloc | apply Kd.R_drewN | apply Kd.R_drew)); exact HO405.out))) (below_size (by repeat (first | (with_reducible first | exact HB.out | apply below_alloc | apply pw_below_drewN | apply below_drew1) | exact HB.out)))); have n2_ := Aside0.mk (below_step (by repeat (first | (with_reducible first | exact HB.out | apply below_alloc | apply pw_below_drewN | apply below_drew1) | exact HB.out)) hb); clear HO405; clear HB; have HO405 := n0_; have HO409 := n1_; have HB := n2_; clear n0_ n1_ n2_; (try clear hb); (try clear hb2); (try clear hk); (try clear hi); (try clear ho0))))
          (try simp only [Act.put, List.setIfInBounds_toArray, List.set_cons_zero, List.set_cons_succ])
          go_cut [148] (fun v148 wc => ∃ (kq : Nat) (x148_60 : Bool), v148 = .bool x148_60 ∧ Aside0 (laws_FnParkingCounts.j4 kq l1 t401 t402 t403 x148_60 = some r) ∧ Aside0 (kq ≤ kj46) ∧ Aside0 (Kd.R (Kd.int .i64) 3 wc w.heap.size (fun _ => True) v404 t402) ∧ Aside0 (Below w.heap.size w wc))
          case first => as_aux_lemma =>
           have H := HC61.out
           clear HC61
           by_cases c65 : (t403 != t407) = true
           ·rw [if_pos c65] at H
            have c65b0 : (t403 != t407) = true := c65
            (try (have c65b1 : decide (t403 = t407) = false := by simpa using c65))
            (try (have c65b2 : (t403 == t407) = false := by simpa using c65))
            (try (have c65b3 : ¬ (t403 = t407) := by simpa using c65))
            clear c65
            (first | rw [c65b0] | (simp only [i64_w, i32_w]; rw [c65b0]) | skip)
            have H' := Aside0.mk H
            clear H
            go_wp2
            repeat (go_quiet (fail); try go_wp2)
            go_meet
            case rel => exact ⟨_, (true), (by first | rfl | (simp; done) | (simp [*]; done)), H', ⟨by have := HJ10.out; have := HJ36.out; have := HJ46.out; first | omega | exact Nat.le_refl _⟩, ⟨by (with_reducible repeat (first | apply Kd.R_alloc | apply Kd.R_drewN | apply Kd.R_drew)); exact Kd.R_mono HO405.out (fun _ hk => trivial)⟩, ⟨by repeat (first | (with_reducible first | exact HB.out | apply below_alloc | apply pw_below_drewN | apply below_drew1) | exact HB.out)⟩⟩
           ·rw [if_neg c65] at H
            have c65b0 : (t403 != t407) = false := by simpa using c65
            (try (have c65b1 : decide (t403 = t407) = true := by simpa using c65))
            (try (have c65b2 : (t403 == t407) = true := by simpa using c65))
            clear c65
            (first | rw [c65b0] | (simp only [i64_w, i32_w]; rw [c65b0]) | skip)
            replace H := Option.bind_eq_some_iff.mp H
            obtain ⟨t410, A660, H⟩ := H
            replace H : (laws_FnParkingCounts.j4 kj46 l1 t401 t402 t403 (!t410)) = some r := H
            have A66 := Aside0.mk A660
            clear A660
            have H' := Aside0.mk H
            clear H
            obtain ⟨Ao67, co67, eo67⟩ := Kd.R_slice HO405.out
            subst eo67
            obtain ⟨Ao68, co68, eo68⟩ := Kd.R_slice HO409.out
            subst eo68
            go_wp2_with (first | (go_at_call 20; (with_reducible refine (laws_jSame.calls kj46 _ _ t402 _ _ t406 t410 _ ?side1 ?side2 ?side3 ?side4 A66.out).mono ?_); (case side1 => repeat (first | exact (Kd.R_reads' HO405.out).2.2 | (with_reducible refine Kd.C_alloc ?_ _) | (with_reducible refine Kd.C_drewN ?_ _) | (with_reducible refine Kd.C_drew ?_))); (case side2 => exact (Kd.R_reads' HO405.out).2.1); (case side3 => repeat (first | exact (Kd.R_reads' HO409.out).2.2 | (with_reducible refine Kd.C_alloc ?_ _) | (with_reducible refine Kd.C_drewN ?_ _) | (with_reducible refine Kd.C_drew ?_))); (case side4 => exact (Kd.R_reads' HO409.out).2.1); rintro e w' ⟨rfl, ⟨nd, rfl⟩⟩; (try first | exact ⟨rfl, _, World.drewN_drewN _ _ _⟩ | exact ⟨rfl, _, Eq.trans (World.drewN_drewN _ _ _) (congrArg (World.drewN _) (Nat.add_assoc _ _ _))⟩)))
            repeat (go_quiet (first | (go_at_call 20; (with_reducible refine (laws_jSame.calls kj46 _ _ t402 _ _ t406 t410 _ ?side1 ?side2 ?side3 ?side4 A66.out).mono ?_); (case side1 => repeat (first | exact (Kd.R_reads' HO405.out).2.2 | (with_reducible refine Kd.C_alloc ?_ _) | (with_reducible refine Kd.C_drewN ?_ _) | (with_reducible refine Kd.C_drew ?_))); (case side2 => exact (Kd.R_reads' HO405.out).2.1); (case side3 => repeat (first | exact (Kd.R_reads' HO409.out).2.2 | (with_reducible refine Kd.C_alloc ?_ _) | (with_reducible refine Kd.C_drewN ?_ _) | (with_reducible refine Kd.C_drew ?_))); (case side4 => exact (Kd.R_reads' HO409.out).2.1); rintro e w' ⟨rfl, ⟨nd, rfl⟩⟩; (try first | exact ⟨rfl, _, World.drewN_drewN _ _ _⟩ | exact ⟨rfl, _, Eq.trans (World.drewN_drewN _ _ _) (congrArg (World.drewN _) (Nat.add_assoc _ _ _))⟩))); try go_wp2_with (first | (go_at_call 20; (with_reducible refine (laws_jSame.calls kj46 _ _ t402 _ _ t406 t410 _ ?side1 ?side2 ?side3 ?side4 A66.out).mono ?_); (case side1 => repeat (first | exact (Kd.R_reads' HO405.out).2.2 | (with_reducible refine Kd.C_alloc ?_ _) | (with_reducible refine Kd.C_drewN ?_ _) | (with_reducible refine Kd.C_drew ?_))); (case side2 => exact (Kd.R_reads' HO405.out).2.1); (case side3 => repeat (first | exact (Kd.R_reads' HO409.out).2.2 | (with_reducible refine Kd.C_alloc ?_ _) | (with_reducible refine Kd.C_drewN ?_ _) | (with_reducible refine Kd.C_drew ?_))); (case side4 => exact (Kd.R_reads' HO409.out).2.1); rintro e w' ⟨rfl, ⟨nd, rfl⟩⟩; (try first | exact ⟨rfl, _, World.drewN_drewN _ _ _⟩ | exact ⟨rfl, _, Eq.trans (World.drewN_drewN _ _ _) (congrArg (World.drewN _) (Nat.add_assoc _ _ _))⟩))))
            go_meet
            case rel => exact ⟨_, (!t410), (by first | rfl | (simp; done) | (simp [*]; done)), H', ⟨by have := HJ10.out; have := HJ36.out; have := HJ46.out; first | omega | exact Nat.le_refl _⟩, ⟨by (with_reducible repeat (first | apply Kd.R_alloc | apply Kd.R_drewN | apply Kd.R_drew)); exact Kd.R_mono HO405.out (fun _ hk => trivial)⟩, ⟨by repeat (first | (with_reducible first | exact HB.out | apply below_alloc | apply pw_below_drewN | apply below_drew1) | exact HB.out)⟩⟩
          case rest => as_aux_lemma =>
           clear HC61
           try clear c1
           try clear c2
           try clear p2
           try clear c3
           try clear p3
           try clear q3
           try clear hx3
           try clear c4
           try clear p4
           try clear q4
           try clear hx4
           try clear c5
           try clear c6
           try clear p6
           try clear c18
           try clear c18b0
           try clear c18b1
           try clear c18b2
           try clear c20
           try clear c21
           try clear c21b0
           try clear c21b1
           try clear c21b2
           try clear c25
           try clear c36
           try clear c38
           try clear c39
           try clear p39
           try clear q39
           try clear hx39
           try clear p40
           try clear q40
           try clear hx40
           try clear c41
           try clear c41b0
           try clear c41b1
           try clear c46
           try clear c48
           try clear c49
           try clear c49b0
           try clear c50
           try clear c50b0
           try clear c52
           try clear c52b0
           try clear c53
           try clear c53b0
           try clear c54
           try clear c54b0
           try clear p64
           try clear c65
           try clear c65b0
           try clear c65b1
           try clear c65b2
           try clear hx399_0
           try clear hx400_0
           try clear p2
           try clear p3
           try clear p39
           try clear p399
           try clear p4
           try clear p40
           try clear p400
           try clear p6
           try clear q3
           try clear q39
           try clear q399
           try clear q4
           try clear q40
           try clear q400
           obtain ⟨kq, x148_60, rfl, HA, HJ60, HO_18, HB⟩ := hcut
           cases kq with
           | zero => exact absurd HA.out (by simp [laws_FnParkingCounts.j4])
           | succ kj60 =>
            have H := HA.out
            clear HA
            simp only [laws_FnParkingCounts.j4] at H
            by_cases c69 : x148_60 = true
            ·subst c69
             have H1 : (some false) = some r := by rw [if_pos rfl] at H; exact H
             clear H
             have H := H1
             clear H1
             obtain rfl := Option.some.inj H
             go_wp2
             repeat (go_quiet (fail); try go_wp2)
             go_ret
             exact ⟨by first | rfl | (simp [errW_none, errW_some] <;> rfl) | (simp [*, errW_none, errW_some] <;> rfl), by repeat (first | (with_reducible first | exact HB.out | apply below_alloc | apply pw_below_drewN | apply below_drew1) | exact HB.out)⟩
            ·replace c69 := Bool.eq_false_iff.mpr c69
             subst c69
             have H1 : (if t403 = true then ((impl_AllParking.f kj60 t401).bind fun bt411 => (if bt411.2 = true then ((laws_jSum.f kj60 t402).bind fun t415 => (laws_FnParkingCounts.j5 kj60 l1 t401 bt411.1 (t415 != (bt411.1.length : Int)))) else (laws_FnParkingCounts.j5 kj60 l1 t401 bt411.1 true))) else (laws_FnParkingCounts.j7 kj60 l1)) = some r := by rw [if_neg (show ¬ (false = true) by decide)] at H; exact H
             clear H
             have H := H1
             clear H1
             have HC70 := Aside0.mk H
             clear H
             go_upto_if 149 with (fail)
             repeat (go_quiet (fail); go_upto_if 149 with (fail))
             go_cut [] (fun wc => ∃ (kq : Nat), Aside0 (laws_FnParkingCounts.j7 kq l1 = some r) ∧ Aside0 (kq ≤ kj60) ∧ Aside0 (Below w.heap.size w wc))
             case first => as_aux_lemma =>
              have H := HC70.out
              clear HC70
              by_cases c71 : t403 = true
              ·subst c71
               have H1 : ((impl_AllParking.f kj60 t401).bind fun bt411 => (if bt411.2 = true then ((laws_jSum.f kj60 t402).bind fun t415 => (laws_FnParkingCounts.j5 kj60 l1 t401 bt411.1 (t415 != (bt411.1.length : Int)))) else (laws_FnParkingCounts.j5 kj60 l1 t401 bt411.1 true))) = some r := by rw [if_pos rfl] at H; exact H
               clear H
               have H := H1
               clear H1
               replace H := Option.bind_eq_some_iff.mp H
               obtain ⟨⟨t411, t412⟩, A720, H⟩ := H
               replace H : (if t412 = true then ((laws_jSum.f kj60 t402).bind fun t415 => (laws_FnParkingCounts.j5 kj60 l1 t401 t411 (t415 != (t411.length : Int)))) else (laws_FnParkingCounts.j5 kj60 l1 t401 t411 true)) = some r := H
               have A72 := Aside0.mk A720
               clear A720
               have HC73 := Aside0.mk H
               clear H
               go_upto_region 26 with (first | (go_at_call 40; (with_reducible refine (impl_AllParking.calls kj60 t401 t411 t412 _ A72.out).mono ?_); rintro e w74 ⟨v413, rfl, ho0, hb⟩; have n0_ := Aside0.mk (Kd.R_below (by (with_reducible repeat (first | apply Kd.R_alloc | apply Kd.R_drewN | apply Kd.R_drew)); exact HO_18.out) hb); have n1_ := Aside0.mk (Kd.S_lower (Kd.S_new' ho0 (Kd.R_lt (by (with_reducible repeat (first | apply Kd.R_alloc | apply Kd.R_drewN | apply Kd.R_drew)); exact HO_18.out))) (below_size (by repeat (first | (with_reducible first | exact HB.out | apply below_alloc | apply pw_below_drewN | apply below_drew1) | exact HB.out)))); have n2_ := Aside0.mk (below_step (by repeat (first | (with_reducible first | exact HB.out | apply below_alloc | apply pw_below_drewN | apply below_drew1) | exact HB.out)) hb); clear HO_18; clear HB; have HO_18 := n0_; have HO414 := n1_; have HB := n2_; clear n0_ n1_ n2_; (try clear hb); (try clear hb2); (try clear hk); (try clear hi); (try clear ho0)))
               repeat (go_quiet (first | (go_at_call 40; (with_reducible refine (impl_AllParking.calls kj60 t401 t411 t412 _ A72.out).mono ?_); rintro e w74 ⟨v413, rfl, ho0, hb⟩; have n0_ := Aside0.mk (Kd.R_below (by (with_reducible repeat (first | apply Kd.R_alloc | apply Kd.R_drewN | apply Kd.R_drew)); exact HO_18.out) hb); have n1_ := Aside0.mk (Kd.S_lower (Kd.S_new' ho0 (Kd.R_lt (by (with_reducible repeat (first | apply Kd.R_alloc | apply Kd.R_drewN | apply Kd.R_drew)); exact HO_18.out))) (below_size (by repeat (first | (with_reducible first | exact HB.out | apply below_alloc | apply pw_below_drewN | apply below_drew1) | exact HB.out)))); have n2_ := Aside0.mk (below_step (by repeat (first | (with_reducible first | exact HB.out | apply below_alloc | apply pw_below_drewN | apply below_drew1) | exact HB.out)) hb); clear HO_18; clear HB; have HO_18 := n0_; have HO414 := n1_; have HB := n2_; clear n0_ n1_ n2_; (try clear hb); (try clear hb2); (try clear hk); (try clear hi); (try clear ho0))); go_upto_region 26 with (first | (go_at_call 40; (with_reducible refine (impl_AllParking.calls kj60 t401 t411 t412 _ A72.out).mono ?_); rintro e w74 ⟨v413, rfl, ho0, hb⟩; have n0_ := Aside0.mk (Kd.R_below (by (with_reducible repeat (first | apply Kd.R_alloc | apply Kd.R_drewN | apply Kd.R_drew)); exact HO_18.out) hb); have n1_ := Aside0.mk (Kd.S_lower (Kd.S_new' ho0 (Kd.R_lt (by (with_reducible repeat (first | apply Kd.R_alloc | apply Kd.R_drewN | apply Kd.R_drew)); exact HO_18.out))) (below_size (by repeat (first | (with_reducible first | exact HB.out | apply below_alloc | apply pw_below_drewN | apply below_drew1) | exact HB.out)))); have n2_ := Aside0.mk (below_step (by repeat (first | (with_reducible first | exact HB.out | apply below_alloc | apply pw_below_drewN | apply below_drew1) | exact HB.out)) hb); clear HO_18; clear HB; have HO_18 := n0_; have HO414 := n1_; have HB := n2_; clear n0_ n1_ n2_; (try clear hb); (try clear hb2); (try clear hk); (try clear hi); (try clear ho0))))
               (try simp only [Act.put, List.setIfInBounds_toArray, List.set_cons_zero, List.set_cons_succ])
               go_cut [163] (fun v163 wc => ∃ (kq : Nat) (x163_72 : Bool), v163 = .bool x163_72 ∧ Aside0 (laws_FnParkingCounts.j5 kq l1 t401 t411 x163_72 = some r) ∧ Aside0 (kq ≤ kj60) ∧ Aside0 (Kd.S (Kd.slice 3 (Kd.int .i64)) 24 wc w.heap.size (fun _ => True) v413 t411) ∧ Aside0 (Below w.heap.size w wc))
               case first => as_aux_lemma =>
                have H := HC73.out
                clear HC73
                by_cases c75 : t412 = true
                ·subst c75
                 have H1 : ((laws_jSum.f kj60 t402).bind fun t415 => (laws_FnParkingCounts.j5 kj60 l1 t401 t411 (t415 != (t411.length : Int)))) = some r := by rw [if_pos rfl] at H; exact H
                 clear H
                 have H := H1
                 clear H1
                 replace H := Option.bind_eq_some_iff.mp H
                 obtain ⟨t415, A760, H⟩ := H
                 replace H : (laws_FnParkingCounts.j5 kj60 l1 t401 t411 (t415 != (t411.length : Int))) = some r := H
                 have A76 := Aside0.mk A760
                 clear A760
                 have H' := Aside0.mk H
                 clear H
                 obtain ⟨Ao77, co77, eo77⟩ := Kd.R_slice HO_18.out
                 subst eo77
                 go_wp2_with (first | (go_at_call 48; (with_reducible refine (laws_jSum.calls kj60 _ _ t402 t415 _ ?side1 ?side2 A76.out).mono ?_); (case side1 => repeat (first | exact (Kd.R_reads' HO_18.out).2.2 | (with_reducible refine Kd.C_alloc ?_ _) | (with_reducible refine Kd.C_drewN ?_ _) | (with_reducible refine Kd.C_drew ?_))); (case side2 => exact (Kd.R_reads' HO_18.out).2.1); rintro e w' ⟨rfl, ⟨nd, rfl⟩⟩; (try first | exact ⟨rfl, _, World.drewN_drewN _ _ _⟩ | exact ⟨rfl, _, Eq.trans (World.drewN_drewN _ _ _) (congrArg (World.drewN _) (Nat.add_assoc _ _ _))⟩); obtain ⟨Ao78, co78, eo78⟩ := Kd.S_slice HO414.out; subst eo78))
                 repeat (go_quiet (first | (go_at_call 48; (with_reducible refine (laws_jSum.calls kj60 _ _ t402 t415 _ ?side1 ?side2 A76.out).mono ?_); (case side1 => repeat (first | exact (Kd.R_reads' HO_18.out).2.2 | (with_reducible refine Kd.C_alloc ?_ _) | (with_reducible refine Kd.C_drewN ?_ _) | (with_reducible refine Kd.C_drew ?_))); (case side2 => exact (Kd.R_reads' HO_18.out).2.1); rintro e w' ⟨rfl, ⟨nd, rfl⟩⟩; (try first | exact ⟨rfl, _, World.drewN_drewN _ _ _⟩ | exact ⟨rfl, _, Eq.trans (World.drewN_drewN _ _ _) (congrArg (World.drewN _) (Nat.add_assoc _ _ _))⟩); obtain ⟨Ao78, co78, eo78⟩ := Kd.S_slice HO414.out; subst eo78)); try go_wp2_with (first | (go_at_call 48; (with_reducible refine (laws_jSum.calls kj60 _ _ t402 t415 _ ?side1 ?side2 A76.out).mono ?_); (case side1 => repeat (first | exact (Kd.R_reads' HO_18.out).2.2 | (with_reducible refine Kd.C_alloc ?_ _) | (with_reducible refine Kd.C_drewN ?_ _) | (with_reducible refine Kd.C_drew ?_))); (case side2 => exact (Kd.R_reads' HO_18.out).2.1); rintro e w' ⟨rfl, ⟨nd, rfl⟩⟩; (try first | exact ⟨rfl, _, World.drewN_drewN _ _ _⟩ | exact ⟨rfl, _, Eq.trans (World.drewN_drewN _ _ _) (congrArg (World.drewN _) (Nat.add_assoc _ _ _))⟩); obtain ⟨Ao78, co78, eo78⟩ := Kd.S_slice HO414.out; subst eo78)))
                 go_meet
                 case rel => exact ⟨_, ((t415 != (t411.length : Int))), (by first | rfl | (simp; done) | (simp [*]; done)), H', ⟨by have := HJ10.out; have := HJ36.out; have := HJ46.out; have := HJ60.out; first | omega | exact Nat.le_refl _⟩, ⟨by (with_reducible repeat (first | apply Kd.S_alloc | apply Kd.S_drewN | apply Kd.S_drew)); exact Kd.S_mono HO414.out (fun _ hk => trivial)⟩, ⟨by repeat (first | (with_reducible first | exact HB.out | apply below_alloc | apply pw_below_drewN | apply below_drew1) | exact HB.out)⟩⟩
                ·replace c75 := Bool.eq_false_iff.mpr c75
                 subst c75
                 have H1 : (laws_FnParkingCounts.j5 kj60 l1 t401 t411 true) = some r := by rw [if_neg (show ¬ (false = true) by decide)] at H; exact H
                 clear H
                 have H := H1
                 clear H1
                 have H' := Aside0.mk H
                 clear H
                 go_wp2
                 repeat (go_quiet (fail); try go_wp2)
                 go_meet
                 case rel => exact ⟨_, (true), (by first | rfl | (simp; done) | (simp [*]; done)), H', ⟨by have := HJ10.out; have := HJ36.out; have := HJ46.out; have := HJ60.out; first | omega | exact Nat.le_refl _⟩, ⟨by (with_reducible repeat (first | apply Kd.S_alloc | apply Kd.S_drewN | apply Kd.S_drew)); exact Kd.S_mono HO414.out (fun _ hk => trivial)⟩, ⟨by repeat (first | (with_reducible first | exact HB.out | apply below_alloc | apply pw_below_drewN | apply below_drew1) | exact HB.out)⟩⟩
               case rest => as_aux_lemma =>
                clear HC73
                try clear c1
                try clear c2
                try clear p2
                try clear c3
                try clear p3
                try clear q3
                try clear hx3
                try clear c4
                try clear p4
                try clear q4
                try clear hx4
                try clear c5
                try clear c6
                try clear p6
                try clear c7
                try clear c18
                try clear c18b0
                try clear c18b1
                try clear c18b2
                try clear c20
                try clear c21
                try clear c21b0
                try clear c21b1
                try clear c21b2
                try clear c25
                try clear c36
                try clear c38
                try clear c39
                try clear p39
                try clear q39
                try clear hx39
                try clear p40
                try clear q40
                try clear hx40
                try clear c41
                try clear c41b0
                try clear c41b1
                try clear c46
                try clear c48
                try clear c49
                try clear c49b0
                try clear c50
                try clear c50b0
                try clear c52
                try clear c52b0
                try clear c53
                try clear c53b0
                try clear c54
                try clear c54b0
                try clear p64
                try clear c65
                try clear c65b0
                try clear c65b1
                try clear c65b2
                try clear c69
                try clear c71
                try clear c75
                try clear hx399_0
                try clear hx400_0
                try clear p2
                try clear p3
                try clear p39
                try clear p399
                try clear p4
                try clear p40
                try clear p400
                try clear p6
                try clear p64
                try clear q3
                try clear q39
                try clear q399
                try clear q4
                try clear q40
                try clear q400
                obtain ⟨kq, x163_72, rfl, HA, HJ72, HO_22, HB⟩ := hcut
                cases kq with
                | zero => exact absurd HA.out (by simp [laws_FnParkingCounts.j5])
                | succ kj72 =>
                 have H := HA.out
                 clear HA
                 simp only [laws_FnParkingCounts.j5] at H
                 by_cases c79 : x163_72 = true
                 ·subst c79
                  have H1 : (some false) = some r := by rw [if_pos rfl] at H; exact H
                  clear H
                  have H := H1
                  clear H1
                  obtain rfl := Option.some.inj H
                  go_wp2
                  repeat (go_quiet (fail); try go_wp2)
                  go_ret
                  exact ⟨by first | rfl | (simp [errW_none, errW_some] <;> rfl) | (simp [*, errW_none, errW_some] <;> rfl), by repeat (first | (with_reducible first | exact HB.out | apply below_alloc | apply pw_below_drewN | apply below_drew1) | exact HB.out)⟩
                 ·replace c79 := Bool.eq_false_iff.mpr c79
                  subst c79
                  have H1 : (if t401 ≥ 1 then (if 0 ≤ (wrap64 (t401 + 1)) then (if (wrap64 (t401 + 1) : Int).toNat ≤ 35184372088832 then (laws_FnParkingCounts.l1 kj72 l1 t401 (List.replicate (wrap64 (t401 + 1) : Int).toNat 0) t411 (t411.length : Int) 0) else (none)) else (none)) else (laws_FnParkingCounts.j7 kj72 l1)) = some r := by rw [if_neg (show ¬ (false = true) by decide)] at H; exact H
                  clear H
                  have H := H1
                  clear H1
                  by_cases c80 : t401 ≥ 1
                  ·rw [if_pos c80] at H
                   have c80b0 : decide (1 ≤ t401) = true := decide_eq_true c80
                   clear c80
                   obtain ⟨ji81, hji81⟩ : ∃ j_ : Int, (wrap64 (t401 + 1)) = j_ := ⟨_, rfl⟩
                   replace H : (if 0 ≤ (ji81) then (if (ji81 : Int).toNat ≤ 35184372088832 then (laws_FnParkingCounts.l1 kj72 l1 t401 (List.replicate (ji81 : Int).toNat 0) t411 (t411.length : Int) 0) else (none)) else (none)) = some r := by first | (rw [hji81] at H; exact H) | (simp only [hji81] at H ⊢; exact H)
                   have hji81w : (IntKind.i64.wrap (t401 + 1)) = ji81 := (i64_w _).trans hji81
                   by_cases c82 : 0 ≤ (ji81)
                   ·rw [if_pos c82] at H
                    have c82b0 := eq_true c82
                    have c82b1 : decide (0 ≤ (ji81)) = true := decide_eq_true c82
                    clear c82
                    by_cases c83 : (ji81 : Int).toNat ≤ 35184372088832
                    ·rw [if_pos c83] at H
                     have c83b0 := eq_true c83
                     have c83b1 : decide ((ji81 : Int).toNat ≤ 35184372088832) = true := decide_eq_true c83
                     clear c83
                     obtain ⟨y416, hy416⟩ : ∃ y_ : List Int, y_ = (List.replicate (ji81 : Int).toNat 0) := ⟨_, rfl⟩
                     replace H : (laws_FnParkingCounts.l1 kj72 l1 t401 y416 t411 (t411.length : Int) 0) = some r := by first | (rw [hy416]; with_reducible exact H) | (have H2_ := (Option.bind_some _ _).symm.trans H; rw [hy416]; with_reducible exact H2_) | (have H2_ := (Option.bind_some _ _).symm.trans H; with_reducible exact H2_) | with_reducible exact H | (rw [hy416]; exact H) | exact H
                     have Ny416 := Aside0.mk hy416
                     clear hy416
                     have H' := Aside0.mk H
                     clear H
                     go_wp2_with (first | ((with_reducible refine gate_dst (N := 168) rfl ?_); (try (refine gate_guard (by rfl) ?_; dsimp only)); refine Kd.R_make (Kd.int .i64) _ 3 rfl (N := 168) rfl 24 _ _ rfl ji81 rfl rfl Try.underlying24 (.int .i64 0) 8 info3 rfl (by decide) (by omega) 0 (ok := fun _ => True) (okp := fun _ => True) rfl (fun _ hk => hk) trivial (of_decide_eq_true (by first | (with_reducible assumption) | assumption)) (Nat.le_trans (Nat.mul_le_mul_right _ (of_decide_eq_true (by first | (with_reducible assumption) | assumption) : ji81.toNat ≤ 35184372088832)) (by omega)) (Below.refl _ _) (Nat.le_refl _) ?_; intro v417 w84 ho85 hb hg_ hnew_; clear hg_ hnew_; (first | rw [← Ny416.out] at ho85 | (simp only [Int.reduceToNat] at ho85; rw [← Ny416.out] at ho85)); have n0_ := Aside0.mk (Kd.S_elder' (by (with_reducible repeat (first | apply Kd.S_alloc | apply Kd.S_drewN | apply Kd.S_drew)); exact HO_22.out) (Kd.R_base ho85) hb); have n1_ := Aside0.mk (Kd.R_lower ho85 (below_size (by repeat (first | (with_reducible first | exact HB.out | apply below_alloc | apply pw_below_drewN | apply below_drew1) | exact HB.out)))); have n2_ := Aside0.mk (below_step (by repeat (first | (with_reducible first | exact HB.out | apply below_alloc | apply pw_below_drewN | apply below_drew1) | exact HB.out)) hb); clear HO_22; clear HB; have HO_22 := n0_; have HO418 := n1_; have HB := n2_; clear n0_ n1_ n2_; clear hb ho85; obtain ⟨Ao86, co86, eo86⟩ := Kd.S_slice HO_22.out; subst eo86))
                     repeat (go_quiet (first | ((with_reducible refine gate_dst (N := 168) rfl ?_); (try (refine gate_guard (by rfl) ?_; dsimp only)); refine Kd.R_make (Kd.int .i64) _ 3 rfl (N := 168) rfl 24 _ _ rfl ji81 rfl rfl Try.underlying24 (.int .i64 0) 8 info3 rfl (by decide) (by omega) 0 (ok := fun _ => True) (okp := fun _ => True) rfl (fun _ hk => hk) trivial (of_decide_eq_true (by first | (with_reducible assumption) | assumption)) (Nat.le_trans (Nat.mul_le_mul_right _ (of_decide_eq_true (by first | (with_reducible assumption) | assumption) : ji81.toNat ≤ 35184372088832)) (by omega)) (Below.refl _ _) (Nat.le_refl _) ?_; intro v417 w84 ho85 hb hg_ hnew_; clear hg_ hnew_; (first | rw [← Ny416.out] at ho85 | (simp only [Int.reduceToNat] at ho85; rw [← Ny416.out] at ho85)); have n0_ := Aside0.mk (Kd.S_elder' (by (with_reducible repeat (first | apply Kd.S_alloc | apply Kd.S_drewN | apply Kd.S_drew)); exact HO_22.out) (Kd.R_base ho85) hb); have n1_ := Aside0.mk (Kd.R_lower ho85 (below_size (by repeat (first | (with_reducible first | exact HB.out | apply below_alloc | apply pw_below_drewN | apply below_drew1) | exact HB.out)))); have n2_ := Aside0.mk (below_step (by repeat (first | (with_reducible first | exact HB.out | apply below_alloc | apply pw_below_drewN | apply below_drew1) | exact HB.out)) hb); clear HO_22; clear HB; have HO_22 := n0_; have HO418 := n1_; have HB := n2_; clear n0_ n1_ n2_; clear hb ho85; obtain ⟨Ao86, co86, eo86⟩ := Kd.S_slice HO_22.out; subst eo86)); try go_wp2_with (first | ((with_reducible refine gate_dst (N := 168) rfl ?_); (try (refine gate_guard (by rfl) ?_; dsimp only)); refine Kd.R_make (Kd.int .i64) _ 3 rfl (N := 168) rfl 24 _ _ rfl ji81 rfl rfl Try.underlying24 (.int .i64 0) 8 info3 rfl (by decide) (by omega) 0 (ok := fun _ => True) (okp := fun _ => True) rfl (fun _ hk => hk) trivial (of_decide_eq_true (by first | (with_reducible assumption) | assumption)) (Nat.le_trans (Nat.mul_le_mul_right _ (of_decide_eq_true (by first | (with_reducible assumption) | assumption) : ji81.toNat ≤ 35184372088832)) (by omega)) (Below.refl _ _) (Nat.le_refl _) ?_; intro v417 w84 ho85 hb hg_ hnew_; clear hg_ hnew_; (first | rw [← Ny416.out] at ho85 | (simp only [Int.reduceToNat] at ho85; rw [← Ny416.out] at ho85)); have n0_ := Aside0.mk (Kd.S_elder' (by (with_reducible repeat (first | apply Kd.S_alloc | apply Kd.S_drewN | apply Kd.S_drew)); exact HO_22.out) (Kd.R_base ho85) hb); have n1_ := Aside0.mk (Kd.R_lower ho85 (below_size (by repeat (first | (with_reducible first | exact HB.out | apply below_alloc | apply pw_below_drewN | apply below_drew1) | exact HB.out)))); have n2_ := Aside0.mk (below_step (by repeat (first | (with_reducible first | exact HB.out | apply below_alloc | apply pw_below_drewN | apply below_drew1) | exact HB.out)) hb); clear HO_22; clear HB; have HO_22 := n0_; have HO418 := n1_; have HB := n2_; clear n0_ n1_ n2_; clear hb ho85; obtain ⟨Ao86, co86, eo86⟩ := Kd.S_slice HO_22.out; subst eo86)))
                     go_loopg [171] kj72 (fun kq v171 w' => ∃ (x24_6 : List Int) (x171_6 : Int), v171 = .int .i64 x171_6 ∧ Aside0 (laws_FnParkingCounts.l1 kq l1 t401 x24_6 t411 (t411.length : Int) x171_6 = some r) ∧ Aside0 (kq ≤ kj72) ∧ Aside0 (Kd.R (Kd.int .i64) 3 w' w.heap.size (fun _ => True) v417 x24_6) ∧ Aside0 (Kd.S (Kd.slice 3 (Kd.int .i64)) 24 w' w.heap.size (fun k_ => some k_ ≠ (v417 : Value).ownBlock) (.slice Ao86 t411.length co86) t411) ∧ Aside0 (Below w.heap.size w w'))
                     case atStart => exact ⟨(y416), (0), (by first | rfl | (simp; done) | (simp [*]; done)), H', ⟨Nat.le_refl _⟩, ⟨by (with_reducible repeat (first | apply Kd.R_alloc | apply Kd.R_drewN | apply Kd.R_drew)); exact HO418.out⟩, ⟨by (with_reducible repeat (first | apply Kd.S_alloc | apply Kd.S_drewN | apply Kd.S_drew)); exact Kd.S_mono HO_22.out (fun _ hk => hk.2)⟩, ⟨by repeat (first | (with_reducible first | exact HB.out | apply below_alloc | apply pw_below_drewN | apply below_drew1) | exact HB.out)⟩⟩
                     case round => as_aux_lemma =>
                      clear H'
                      try clear c1
                      try clear c2
                      try clear p2
                      try clear c3
                      try clear p3
                      try clear q3
                      try clear hx3
                      try clear c4
                      try clear p4
                      try clear q4
                      try clear hx4
                      try clear c5
                      try clear c6
                      try clear p6
                      try clear c7
                      try clear c8
                      try clear c18
                      try clear c18b0
                      try clear c18b1
                      try clear c18b2
                      try clear c20
                      try clear c21
                      try clear c21b0
                      try clear c21b1
                      try clear c21b2
                      try clear c25
                      try clear c36
                      try clear c38
                      try clear c39
                      try clear p39
                      try clear q39
                      try clear hx39
                      try clear p40
                      try clear q40
                      try clear hx40
                      try clear c41
                      try clear c41b0
                      try clear c41b1
                      try clear c46
                      try clear c48
                      try clear c49
                      try clear c49b0
                      try clear c50
                      try clear c50b0
                      try clear c52
                      try clear c52b0
                      try clear c53
                      try clear c53b0
                      try clear c54
                      try clear c54b0
                      try clear p64
                      try clear c65
                      try clear c65b0
                      try clear c65b1
                      try clear c65b2
                      try clear c69
                      try clear c71
                      try clear c75
                      try clear c79
                      try clear c80
                      try clear c80b0
                      try clear c82
                      try clear c82b0
                      try clear c82b1
                      try clear c83
                      try clear c83b0
                      try clear c83b1
                      try clear hx399_0
                      try clear hx400_0
                      try clear p2
                      try clear p3
                      try clear p39
                      try clear p399
                      try clear p4
                      try clear p40
                      try clear p400
                      try clear p6
                      try clear p64
                      try clear q3
                      try clear q39
                      try clear q399
                      try clear q4
                      try clear q40
                      try clear q400
                      obtain ⟨x24_6, x171_6, rfl, HA, HK6, HO_24, HO_169, HB⟩ := hrel
                      cases gk with
                      | zero => exact absurd HA.out (by simp [laws_FnParkingCounts.l1])
                      | succ k6 =>
                       have H := HA.out
                       clear HA
                       simp only [laws_FnParkingCounts.l1] at H
                       by_cases c87 : x171_6 < (t411.length : Int)
                       ·rw [if_pos c87] at H
                        have c87b0 : decide (x171_6 < (t411.length : Int)) = true := decide_eq_true c87
                        clear c87
                        by_cases c88 : 0 ≤ x171_6
                        ·rw [if_pos c88] at H
                         have c88b0 : decide (0 ≤ x171_6) = true := decide_eq_true c88
                         clear c88
                         by_cases c89 : x171_6 < (t411.length : Int)
                         ·rw [if_pos c89] at H
                          have c89b0 : decide (x171_6 < (t411.length : Int)) = true := decide_eq_true c89
                          clear c89
                          replace H := Option.bind_eq_some_iff.mp H
                          obtain ⟨⟨t420, t421⟩, A900, H⟩ := H
                          replace H : (if t421 = true then (if 0 ≤ (t420.length : Int) then (if (t420.length : Int) < (x24_6.length : Int) then (laws_FnParkingCounts.l1 k6 l1 t401 (x24_6.set ((t420.length : Int) : Int).toNat (wrap64 ((rd x24_6 (t420.length : Int)) + 1))) t411 (t411.length : Int) (wrap64 (x171_6 + 1))) else (none)) else (none)) else (some false)) = some r := H
                          have A90 := Aside0.mk A900
                          clear A900
                          by_cases c91 : t421 = true
                          ·subst c91
                           have H1 : (if 0 ≤ (t420.length : Int) then (if (t420.length : Int) < (x24_6.length : Int) then (laws_FnParkingCounts.l1 k6 l1 t401 (x24_6.set ((t420.length : Int) : Int).toNat (wrap64 ((rd x24_6 (t420.length : Int)) + 1))) t411 (t411.length : Int) (wrap64 (x171_6 + 1))) else (none)) else (none)) = some r := by rw [if_pos rfl] at H; exact H
                           clear H
                           have H := H1
                           clear H1
                           by_cases c92 : 0 ≤ (t420.length : Int)
                           ·rw [if_pos c92] at H
                            have c92b0 : decide (0 ≤ (t420.length : Int)) = true := decide_eq_true c92
                            have c92b1 : decide (0 ≤ t420.length) = true := decide_eq_true (by omega)
                            clear c92
                            by_cases c93 : (t420.length : Int) < (x24_6.length : Int)
                            ·rw [if_pos c93] at H
                             have c93b0 : decide ((t420.length : Int) < (x24_6.length : Int)) = true := decide_eq_true c93
                             have c93b1 : decide (t420.length < x24_6.length) = true := decide_eq_true (Int.ofNat_lt.mp c93)
                             clear c93
                             obtain ⟨y425, hy425⟩ : ∃ y_ : List Int, y_ = (x24_6.set ((t420.length : Int) : Int).toNat (wrap64 ((rd x24_6 (t420.length : Int)) + 1))) := ⟨_, rfl⟩
                             replace H : (laws_FnParkingCounts.l1 k6 l1 t401 y425 t411 (t411.length : Int) (wrap64 (x171_6 + 1))) = some r := by first | (rw [hy425]; with_reducible exact H) | (have H2_ := (Option.bind_some _ _).symm.trans H; rw [hy425]; with_reducible exact H2_) | (have H2_ := (Option.bind_some _ _).symm.trans H; with_reducible exact H2_) | with_reducible exact H | (rw [hy425]; exact H) | exact H
                             have Ny425 := Aside0.mk hy425
                             clear hy425
                             have H' := Aside0.mk H
                             clear H
                             have p419 : 0 ≤ (x171_6 : Int) := of_decide_eq_true (by first | (with_reducible assumption) | assumption)
                             have q419 : x171_6 < (t411.length : Int) := of_decide_eq_true (by first | (with_reducible assumption) | assumption)
                             obtain ⟨ad419, A419_0, c419_0, e419, hx419_0, hl419_0, hi419_0⟩ := at_L2 (Kd.S_reads' HO_169.out).2.2 x171_6 p419 q419
                             cases e419
                             obtain ⟨ce419, hce419, hMe419, hcc419⟩ := Kd.S_get HO_169.out [] x171_6 p419 (by first | exact q419 | exact of_decide_eq_true (by first | (with_reducible assumption) | assumption) | (have e_ := (Kd.S_reads' HO_169.out).1; omega))
                             obtain ⟨ve419_0, rfl, ge419_0⟩ := hMe419
                             have hv419_0 := hcc419 0 _ rfl
                             rw [Nat.add_zero, show ((Kd.slice 3 (Kd.int .i64))).sz = 1 from rfl, Nat.mul_one] at hv419_0
                             replace hv419_0 := Option.some.inj (hv419_0.symm.trans hx419_0)
                             rw [hv419_0] at ge419_0
                             have HL419_0 := Aside0.mk (show Kd.R (Kd.int .i64) 3 _ _ _ _ (rd_L2 t411 x171_6) from ge419_0)
                             clear hv419_0 ge419_0
                             clear hcc419 hce419
                             have HR419_0 := Aside0.mk hi419_0
                             have HC419_0 := Aside0.mk hl419_0
                             clear hi419_0 hl419_0
                             replace p419 := eq_true p419
                             replace q419 := eq_true q419
                             go_wp2_with (first | (go_at_call 52; (with_reducible refine (impl_LuckyCars.calls k6 _ _ (rd_L2 t411 x171_6) t401 t420 true _ ?side1 ?side2 A90.out).mono ?_); (case side1 => repeat (first | exact (by repeat (first | (with_reducible exact HR419_0.out) | (with_reducible refine Kd.C_alloc ?_ _) | (with_reducible refine Kd.C_drewN ?_ _) | (with_reducible refine Kd.C_drew ?_) | exact HR419_0.out)) | (with_reducible refine Kd.C_alloc ?_ _) | (with_reducible refine Kd.C_drewN ?_ _) | (with_reducible refine Kd.C_drew ?_))); (case side2 => exact HC419_0.out); rintro e w95 ⟨v422, rfl, ho0, hb⟩; have n0_ := Aside0.mk (Kd.R_elder' (by (with_reducible repeat (first | apply Kd.R_alloc | apply Kd.R_drewN | apply Kd.R_drew)); exact HO_24.out) (Kd.R_base ho0) hb); have n1_ := Aside0.mk (Kd.S_elder' (by (with_reducible repeat (first | apply Kd.S_alloc | apply Kd.S_drewN | apply Kd.S_drew)); exact HO_169.out) (Kd.R_base ho0) hb); have n2_ := Aside0.mk (Kd.R_elder' (by (with_reducible repeat (first | apply Kd.R_alloc | apply Kd.R_drewN | apply Kd.R_drew)); exact HL419_0.out) (Kd.R_base ho0) hb); have n3_ := Aside0.mk (Kd.R_lower (Kd.R_new' (Kd.R_new' ho0 (Kd.R_lt (by (with_reducible repeat (first | apply Kd.R_alloc | apply Kd.R_drewN | apply Kd.R_drew)); exact HO_24.out))) (Kd.R_lt (by (with_reducible repeat (first | apply Kd.R_alloc | apply Kd.R_drewN | apply Kd.R_drew)); exact HL419_0.out))) (below_size (by repeat (first | (with_reducible first | exact HB.out | apply below_alloc | apply pw_below_drewN | apply below_drew1) | exact HB.out)))); have n4_ := Aside0.mk (Kd.C_below (by repeat (first | (with_reducible exact HR419_0.out) | (with_reducible refine Kd.C_alloc ?_ _) | (with_reducible refine Kd.C_drewN ?_ _) | (with_reducible refine Kd.C_drew ?_) | exact HR419_0.out)) hb); have n5_ := Aside0.mk (below_step (by repeat (first | (with_reducible first | exact HB.out | apply below_alloc | apply pw_below_drewN | apply below_drew1) | exact HB.out)) hb); clear HO_24; clear HO_169; clear HL419_0; clear HR419_0; clear HB; have HO_24 := n0_; have HO_169 := n1_; have HL419_0 := n2_; have HO423 := n3_; have HR419_0 := n4_; have HB := n5_; clear n0_ n1_ n2_ n3_ n4_ n5_; (try clear hb); (try clear hb2); (try clear hk); (try clear hi); (try clear ho0); obtain ⟨Ao96, co96, eo96⟩ := Kd.R_slice HO423.out; subst eo96; obtain ⟨Ao97, co97, eo97⟩ := Kd.R_slice HO_24.out; subst eo97; have p424 : 0 ≤ ((t420.length : Int) : Int) := of_decide_eq_true (by first | (with_reducible assumption) | assumption); have q424 : (t420.length : Int) < (x24_6.length : Int) := of_decide_eq_true (by first | (with_reducible assumption) | assumption); obtain ⟨ad424, e424, hx424_0⟩ := Kd.at_int (Kd.R_reads' HO_24.out).2.2 (t420.length : Int) p424 q424; cases e424; (try simp only [Go.IntWalk.toNatUp] at hx424_0); replace p424 := eq_true p424; replace q424 := eq_true q424; have p94 : 0 ≤ ((t420.length : Int) : Int) := of_decide_eq_true (by first | (with_reducible assumption) | assumption); have q94 : ((t420.length : Int) : Int) < ((x24_6.length : Int) : Int) := of_decide_eq_true (by first | (with_reducible assumption) | assumption); obtain ⟨go94, co94, eo94, gb94, gl94, cl94, HG94⟩ := Kd.R_form HO_24.out (by omega); (first | cases eo94 | (injection eo94 with ea_ en_ ec_; (first | subst ea_ | (injection ea_ with ea_; subst ea_)); subst ec_; clear en_)); have GB94 := Aside0.mk gb94; have GG94 := Aside0.mk HG94; clear gb94 gl94 HG94; (first | simp only [add_plain] at hx424_0 | skip); obtain ⟨hx94_0, hf94_0⟩ := Kd.R_celln 0 HO_24.out ((t420.length : Int) : Int) p94 q94; replace p94 := eq_true p94; replace q94 := eq_true q94; have n_ := Aside0.mk (Kd.R_mono (ok' := (fun k_ => some k_ ≠ (.slice Ao96 t420.length co96 : Value).ownBlock)) HO_24.out (fun k_ hk => by first | exact hk.2 | ((repeat' apply And.intro) <;> first | exact hk | exact hk.1 | exact hk.2 | exact hk.1.1 | exact hk.1.2 | exact hk.2.1 | exact hk.2.2))); clear HO_24; have HO_24 := n_; clear n_; obtain ⟨hy98_, hz98_⟩ := Kd.R_celln 0 HO_24.out ((t420.length : Int) : Int) (of_decide_eq_true (by first | (with_reducible assumption) | assumption)) (of_decide_eq_true (by first | (with_reducible assumption) | assumption)); (try simp only [Go.IntWalk.toNatUp] at hy98_ hz98_); have HP98 := Kd.R_putg HO_24.out ((t420.length : Int) : Int) (wrap64 ((rd x24_6 (t420.length : Int)) + 1))) | ((with_reducible refine gate_store (t := 3) (p := 189) rfl ?_); (try (rw [drewN_self w95]; generalize hq_ : World.drewN w95 _ = w95; have n0_ := Aside0.mk (Kd.R_at hq_ HO_24.out); have n1_ := Aside0.mk (Kd.S_at hq_ HO_169.out); have n2_ := Aside0.mk (Kd.R_at hq_ HL419_0.out); have n3_ := Aside0.mk (Kd.R_at hq_ HO423.out); have n4_ := Aside0.mk (below_at hq_ HB.out); clear hq_ HO_24 HO_169 HL419_0 HO423 HB; have HO_24 := n0_; have HO_169 := n1_; have HL419_0 := n2_; have HO423 := n3_; have HB := n4_; clear n0_ n1_ n2_ n3_ n4_; (try (have n_ := Aside0.mk (Kd.R_mono (ok' := (fun k_ => some k_ ≠ (.slice Ao96 t420.length co96 : Value).ownBlock)) HO_24.out (fun k_ hk => by first | exact hk.2 | ((repeat' apply And.intro) <;> first | exact hk | exact hk.1 | exact hk.2 | exact hk.1.1 | exact hk.1.2 | exact hk.2.1 | exact hk.2.2))); clear HO_24; have HO_24 := n_; clear n_)); (try (obtain ⟨hy98_, hz98_⟩ := Kd.R_celln 0 HO_24.out ((t420.length : Int) : Int) (of_decide_eq_true (by first | (with_reducible assumption) | assumption)) (of_decide_eq_true (by first | (with_reducible assumption) | assumption)))); (try (try simp only [Go.IntWalk.toNatUp] at hy98_ hz98_)); (try (have HP98 := Kd.R_putg HO_24.out ((t420.length : Int) : Int) (wrap64 ((rd x24_6 (t420.length : Int)) + 1)))))); refine store_event (t := 3) (p := 189) (v := ?vo_w99) (w1 := (w95.setCell ⟨go94, ((t420.length : Int) : Int).toNat, none⟩ (.int .i64 (wrap64 ((rd x24_6 (t420.length : Int)) + 1))))) ?hg ?ho ?hn ?hr ?_; (case ho => rfl); (case hg => rfl); (case hn => rfl); (case hr => first | (go_simp; done) | (go_simp; rfl)); intro w99 hw; have hg : w95.grownBy w99 (some go94) := (by rw [hw]; exact HP98.2); have hp_ : Kd.R (Kd.int .i64) 3 w99 w.heap.size (fun k_ => some k_ ≠ (.slice Ao96 t420.length co96 : Value).ownBlock) (.slice (some ⟨go94, 0, none⟩) x24_6.length co97) y425 := (by rw [hw, Ny425.out]; exact HP98.1); clear HP98; have n0_ := Aside0.mk (hp_); have n1_ := Aside0.mk (Kd.S_after (v := (.slice (some ⟨go94, 0, none⟩) x24_6.length co97)) (v1 := (.slice (some ⟨go94, 0, none⟩) x24_6.length co97)) (ok := (fun k_ => some k_ ≠ (.slice Ao96 t420.length co96 : Value).ownBlock)) (by (with_reducible repeat (first | apply Kd.S_alloc | apply Kd.S_drewN | apply Kd.S_drew)); exact Kd.S_mono HO_169.out (fun _ hk => by first | exact ⟨hk.2, hk.1⟩ | ((repeat' apply And.intro) <;> first | exact hk | exact hk.1 | exact hk.2 | exact hk.1.1 | exact hk.1.2 | exact hk.2.1 | exact hk.2.2))) hg (.inl rfl)); have n2_ := Aside0.mk (Kd.R_after (v := (.slice (some ⟨go94, 0, none⟩) x24_6.length co97)) (v1 := (.slice (some ⟨go94, 0, none⟩) x24_6.length co97)) (ok := (fun k_ => some k_ ≠ (.slice (some ad419) t411.length co86 : Value).ownBlock ∧ some k_ ≠ (.slice Ao96 t420.length co96 : Value).ownBlock)) (by (with_reducible repeat (first | apply Kd.R_alloc | apply Kd.R_drewN | apply Kd.R_drew)); exact Kd.R_mono HL419_0.out (fun _ hk => by first | exact ⟨⟨hk.1.2, hk.2⟩, hk.1.1⟩ | ((repeat' apply And.intro) <;> first | exact hk | exact hk.1 | exact hk.2 | exact hk.1.1 | exact hk.1.2 | exact hk.2.1 | exact hk.2.2))) hg (.inl rfl)); have n3_ := Aside0.mk (Kd.R_after (v := (.slice (some ⟨go94, 0, none⟩) x24_6.length co97)) (v1 := (.slice (some ⟨go94, 0, none⟩) x24_6.length co97)) (ok := (fun k_ => some k_ ≠ (.slice A419_0 (rd_L2 t411 x171_6).length c419_0 : Value).ownBlock)) (by (with_reducible repeat (first | apply Kd.R_alloc | apply Kd.R_drewN | apply Kd.R_drew)); exact Kd.R_mono HO423.out (fun _ hk => by first | exact ⟨hk.2, hk.1.2⟩ | ((repeat' apply And.intro) <;> first | exact hk | exact hk.1 | exact hk.2 | exact hk.1.1 | exact hk.1.2 | exact hk.2.1 | exact hk.2.2))) hg (.inl rfl)); have n4_ := Aside0.mk ((by rw [hw]; exact below_set (HB.out) GB94.out : Below w.heap.size w w99)); clear HO_24; clear HO_169; clear HL419_0; clear HO423; clear HB; have HO_24 := n0_; have HO_169 := n1_; have HL419_0 := n2_; have HO423 := n3_; have HB := n4_; clear n0_ n1_ n2_ n3_ n4_; clear hg hw hp_))
                             repeat (go_quiet (first | (go_at_call 52; (with_reducible refine (impl_LuckyCars.calls k6 _ _ (rd_L2 t411 x171_6) t401 t420 true _ ?side1 ?side2 A90.out).mono ?_); (case side1 => repeat (first | exact (by repeat (first | (with_reducible exact HR419_0.out) | (with_reducible refine Kd.C_alloc ?_ _) | (with_reducible refine Kd.C_drewN ?_ _) | (with_reducible refine Kd.C_drew ?_) | exact HR419_0.out)) | (with_reducible refine Kd.C_alloc ?_ _) | (with_reducible refine Kd.C_drewN ?_ _) | (with_reducible refine Kd.C_drew ?_))); (case side2 => exact HC419_0.out); rintro e w95 ⟨v422, rfl, ho0, hb⟩; have n0_ := Aside0.mk (Kd.R_elder' (by (with_reducible repeat (first | apply Kd.R_alloc | apply Kd.R_drewN | apply Kd.R_drew)); exact HO_24.out) (Kd.R_base ho0) hb); have n1_ := Aside0.mk (Kd.S_elder' (by (with_reducible repeat (first | apply Kd.S_alloc | apply Kd.S_drewN | apply Kd.S_drew)); exact HO_169.out) (Kd.R_base ho0) hb); have n2_ := Aside0.mk (Kd.R_elder' (by (with_reducible repeat (first | apply Kd.R_alloc | apply Kd.R_drewN | apply Kd.R_drew)); exact HL419_0.out) (Kd.R_base ho0) hb); have n3_ := Aside0.mk (Kd.R_lower (Kd.R_new' (Kd.R_new' ho0 (Kd.R_lt (by (with_reducible repeat (first | apply Kd.R_alloc | apply Kd.R_drewN | apply Kd.R_drew)); exact HO_24.out))) (Kd.R_lt (by (with_reducible repeat (first | apply Kd.R_alloc | apply Kd.R_drewN | apply Kd.R_drew)); exact HL419_0.out))) (below_size (by repeat (first | (with_reducible first | exact HB.out | apply below_alloc | apply pw_below_drewN | apply below_drew1) | exact HB.out)))); have n4_ := Aside0.mk (Kd.C_below (by repeat (first | (with_reducible exact HR419_0.out) | (with_reducible refine Kd.C_alloc ?_ _) | (with_reducible refine Kd.C_drewN ?_ _) | (with_reducible refine Kd.C_drew ?_) | exact HR419_0.out)) hb); have n5_ := Aside0.mk (below_step (by repeat (first | (with_reducible first | exact HB.out | apply below_alloc | apply pw_below_drewN | apply below_drew1) | exact HB.out)) hb); clear HO_24; clear HO_169; clear HL419_0; clear HR419_0; clear HB; have HO_24 := n0_; have HO_169 := n1_; have HL419_0 := n2_; have HO423 := n3_; have HR419_0 := n4_; have HB := n5_; clear n0_ n1_ n2_ n3_ n4_ n5_; (try clear hb); (try clear hb2); (try clear hk); (try clear hi); (try clear ho0); obtain ⟨Ao96, co96, eo96⟩ := Kd.R_slice HO423.out; subst eo96; obtain ⟨Ao97, co97, eo97⟩ := Kd.R_slice HO_24.out; subst eo97; have p424 : 0 ≤ ((t420.length : Int) : Int) := of_decide_eq_true (by first | (with_reducible assumption) | assumption); have q424 : (t420.length : Int) < (x24_6.length : Int) := of_decide_eq_true (by first | (with_reducible assumption) | assumption); obtain ⟨ad424, e424, hx424_0⟩ := Kd.at_int (Kd.R_reads' HO_24.out).2.2 (t420.length : Int) p424 q424; cases e424; (try simp only [Go.IntWalk.toNatUp] at hx424_0); replace p424 := eq_true p424; replace q424 := eq_true q424; have p94 : 0 ≤ ((t420.length : Int) : Int) := of_decide_eq_true (by first | (with_reducible assumption) | assumption); have q94 : ((t420.length : Int) : Int) < ((x24_6.length : Int) : Int) := of_decide_eq_true (by first | (with_reducible assumption) | assumption); obtain ⟨go94, co94, eo94, gb94, gl94, cl94, HG94⟩ := Kd.R_form HO_24.out (by omega); (first | cases eo94 | (injection eo94 with ea_ en_ ec_; (first | subst ea_ | (injection ea_ with ea_; subst ea_)); subst ec_; clear en_)); have GB94 := Aside0.mk gb94; have GG94 := Aside0.mk HG94; clear gb94 gl94 HG94; (first | simp only [add_plain] at hx424_0 | skip); obtain ⟨hx94_0, hf94_0⟩ := Kd.R_celln 0 HO_24.out ((t420.length : Int) : Int) p94 q94; replace p94 := eq_true p94; replace q94 := eq_true q94; have n_ := Aside0.mk (Kd.R_mono (ok' := (fun k_ => some k_ ≠ (.slice Ao96 t420.length co96 : Value).ownBlock)) HO_24.out (fun k_ hk => by first | exact hk.2 | ((repeat' apply And.intro) <;> first | exact hk | exact hk.1 | exact hk.2 | exact hk.1.1 | exact hk.1.2 | exact hk.2.1 | exact hk.2.2))); clear HO_24; have HO_24 := n_; clear n_; obtain ⟨hy98_, hz98_⟩ := Kd.R_celln 0 HO_24.out ((t420.length : Int) : Int) (of_decide_eq_true (by first | (with_reducible assumption) | assumption)) (of_decide_eq_true (by first | (with_reducible assumption) | assumption)); (try simp only [Go.IntWalk.toNatUp] at hy98_ hz98_); have HP98 := Kd.R_putg HO_24.out ((t420.length : Int) : Int) (wrap64 ((rd x24_6 (t420.length : Int)) + 1))) | ((with_reducible refine gate_store (t := 3) (p := 189) rfl ?_); (try (rw [drewN_self w95]; generalize hq_ : World.drewN w95 _ = w95; have n0_ := Aside0.mk (Kd.R_at hq_ HO_24.out); have n1_ := Aside0.mk (Kd.S_at hq_ HO_169.out); have n2_ := Aside0.mk (Kd.R_at hq_ HL419_0.out); have n3_ := Aside0.mk (Kd.R_at hq_ HO423.out); have n4_ := Aside0.mk (below_at hq_ HB.out); clear hq_ HO_24 HO_169 HL419_0 HO423 HB; have HO_24 := n0_; have HO_169 := n1_; have HL419_0 := n2_; have HO423 := n3_; have HB := n4_; clear n0_ n1_ n2_ n3_ n4_; (try (have n_ := Aside0.mk (Kd.R_mono (ok' := (fun k_ => some k_ ≠ (.slice Ao96 t420.length co96 : Value).ownBlock)) HO_24.out (fun k_ hk => by first | exact hk.2 | ((repeat' apply And.intro) <;> first | exact hk | exact hk.1 | exact hk.2 | exact hk.1.1 | exact hk.1.2 | exact hk.2.1 | exact hk.2.2))); clear HO_24; have HO_24 := n_; clear n_)); (try (obtain ⟨hy98_, hz98_⟩ := Kd.R_celln 0 HO_24.out ((t420.length : Int) : Int) (of_decide_eq_true (by first | (with_reducible assumption) | assumption)) (of_decide_eq_true (by first | (with_reducible assumption) | assumption)))); (try (try simp only [Go.IntWalk.toNatUp] at hy98_ hz98_)); (try (have HP98 := Kd.R_putg HO_24.out ((t420.length : Int) : Int) (wrap64 ((rd x24_6 (t420.length : Int)) + 1)))))); refine store_event (t := 3) (p := 189) (v := ?vo_w99) (w1 := (w95.setCell ⟨go94, ((t420.length : Int) : Int).toNat, none⟩ (.int .i64 (wrap64 ((rd x24_6 (t420.length : Int)) + 1))))) ?hg ?ho ?hn ?hr ?_; (case ho => rfl); (case hg => rfl); (case hn => rfl); (case hr => first | (go_simp; done) | (go_simp; rfl)); intro w99 hw; have hg : w95.grownBy w99 (some go94) := (by rw [hw]; exact HP98.2); have hp_ : Kd.R (Kd.int .i64) 3 w99 w.heap.size (fun k_ => some k_ ≠ (.slice Ao96 t420.length co96 : Value).ownBlock) (.slice (some ⟨go94, 0, none⟩) x24_6.length co97) y425 := (by rw [hw, Ny425.out]; exact HP98.1); clear HP98; have n0_ := Aside0.mk (hp_); have n1_ := Aside0.mk (Kd.S_after (v := (.slice (some ⟨go94, 0, none⟩) x24_6.length co97)) (v1 := (.slice (some ⟨go94, 0, none⟩) x24_6.length co97)) (ok := (fun k_ => some k_ ≠ (.slice Ao96 t420.length co96 : Value).ownBlock)) (by (with_reducible repeat (first | apply Kd.S_alloc | apply Kd.S_drewN | apply Kd.S_drew)); exact Kd.S_mono HO_169.out (fun _ hk => by first | exact ⟨hk.2, hk.1⟩ | ((repeat' apply And.intro) <;> first | exact hk | exact hk.1 | exact hk.2 | exact hk.1.1 | exact hk.1.2 | exact hk.2.1 | exact hk.2.2))) hg (.inl rfl)); have n2_ := Aside0.mk (Kd.R_after (v := (.slice (some ⟨go94, 0, none⟩) x24_6.length co97)) (v1 := (.slice (some ⟨go94, 0, none⟩) x24_6.length co97)) (ok := (fun k_ => some k_ ≠ (.slice (some ad419) t411.length co86 : Value).ownBlock ∧ some k_ ≠ (.slice Ao96 t420.length co96 : Value).ownBlock)) (by (with_reducible repeat (first | apply Kd.R_alloc | apply Kd.R_drewN | apply Kd.R_drew)); exact Kd.R_mono HL419_0.out (fun _ hk => by first | exact ⟨⟨hk.1.2, hk.2⟩, hk.1.1⟩ | ((repeat' apply And.intro) <;> first | exact hk | exact hk.1 | exact hk.2 | exact hk.1.1 | exact hk.1.2 | exact hk.2.1 | exact hk.2.2))) hg (.inl rfl)); have n3_ := Aside0.mk (Kd.R_after (v := (.slice (some ⟨go94, 0, none⟩) x24_6.length co97)) (v1 := (.slice (some ⟨go94, 0, none⟩) x24_6.length co97)) (ok := (fun k_ => some k_ ≠ (.slice A419_0 (rd_L2 t411 x171_6).length c419_0 : Value).ownBlock)) (by (with_reducible repeat (first | apply Kd.R_alloc | apply Kd.R_drewN | apply Kd.R_drew)); exact Kd.R_mono HO423.out (fun _ hk => by first | exact ⟨hk.2, hk.1.2⟩ | ((repeat' apply And.intro) <;> first | exact hk | exact hk.1 | exact hk.2 | exact hk.1.1 | exact hk.1.2 | exact hk.2.1 | exact hk.2.2))) hg (.inl rfl)); have n4_ := Aside0.mk ((by rw [hw]; exact below_set (HB.out) GB94.out : Below w.heap.size w w99)); clear HO_24; clear HO_169; clear HL419_0; clear HO423; clear HB; have HO_24 := n0_; have HO_169 := n1_; have HL419_0 := n2_; have HO423 := n3_; have HB := n4_; clear n0_ n1_ n2_ n3_ n4_; clear hg hw hp_)); try go_wp2_with (first | (go_at_call 52; (with_reducible refine (impl_LuckyCars.calls k6 _ _ (rd_L2 t411 x171_6) t401 t420 true _ ?side1 ?side2 A90.out).mono ?_); (case side1 => repeat (first | exact (by repeat (first | (with_reducible exact HR419_0.out) | (with_reducible refine Kd.C_alloc ?_ _) | (with_reducible refine Kd.C_drewN ?_ _) | (with_reducible refine Kd.C_drew ?_) | exact HR419_0.out)) | (with_reducible refine Kd.C_alloc ?_ _) | (with_reducible refine Kd.C_drewN ?_ _) | (with_reducible refine Kd.C_drew ?_))); (case side2 => exact HC419_0.out); rintro e w95 ⟨v422, rfl, ho0, hb⟩; have n0_ := Aside0.mk (Kd.R_elder' (by (with_reducible repeat (first | apply Kd.R_alloc | apply Kd.R_drewN | apply Kd.R_drew)); exact HO_24.out) (Kd.R_base ho0) hb); have n1_ := Aside0.mk (Kd.S_elder' (by (with_reducible repeat (first | apply Kd.S_alloc | apply Kd.S_drewN | apply Kd.S_drew)); exact HO_169.out) (Kd.R_base ho0) hb); have n2_ := Aside0.mk (Kd.R_elder' (by (with_reducible repeat (first | apply Kd.R_alloc | apply Kd.R_drewN | apply Kd.R_drew)); exact HL419_0.out) (Kd.R_base ho0) hb); have n3_ := Aside0.mk (Kd.R_lower (Kd.R_new' (Kd.R_new' ho0 (Kd.R_lt (by (with_reducible repeat (first | apply Kd.R_alloc | apply Kd.R_drewN | apply Kd.R_drew)); exact HO_24.out))) (Kd.R_lt (by (with_reducible repeat (first | apply Kd.R_alloc | apply Kd.R_drewN | apply Kd.R_drew)); exact HL419_0.out))) (below_size (by repeat (first | (with_reducible first | exact HB.out | apply below_alloc | apply pw_below_drewN | apply below_drew1) | exact HB.out)))); have n4_ := Aside0.mk (Kd.C_below (by repeat (first | (with_reducible exact HR419_0.out) | (with_reducible refine Kd.C_alloc ?_ _) | (with_reducible refine Kd.C_drewN ?_ _) | (with_reducible refine Kd.C_drew ?_) | exact HR419_0.out)) hb); have n5_ := Aside0.mk (below_step (by repeat (first | (with_reducible first | exact HB.out | apply below_alloc | apply pw_below_drewN | apply below_drew1) | exact HB.out)) hb); clear HO_24; clear HO_169; clear HL419_0; clear HR419_0; clear HB; have HO_24 := n0_; have HO_169 := n1_; have HL419_0 := n2_; have HO423 := n3_; have HR419_0 := n4_; have HB := n5_; clear n0_ n1_ n2_ n3_ n4_ n5_; (try clear hb); (try clear hb2); (try clear hk); (try clear hi); (try clear ho0); obtain ⟨Ao96, co96, eo96⟩ := Kd.R_slice HO423.out; subst eo96; obtain ⟨Ao97, co97, eo97⟩ := Kd.R_slice HO_24.out; subst eo97; have p424 : 0 ≤ ((t420.length : Int) : Int) := of_decide_eq_true (by first | (with_reducible assumption) | assumption); have q424 : (t420.length : Int) < (x24_6.length : Int) := of_decide_eq_true (by first | (with_reducible assumption) | assumption); obtain ⟨ad424, e424, hx424_0⟩ := Kd.at_int (Kd.R_reads' HO_24.out).2.2 (t420.length : Int) p424 q424; cases e424; (try simp only [Go.IntWalk.toNatUp] at hx424_0); replace p424 := eq_true p424; replace q424 := eq_true q424; have p94 : 0 ≤ ((t420.length : Int) : Int) := of_decide_eq_true (by first | (with_reducible assumption) | assumption); have q94 : ((t420.length : Int) : Int) < ((x24_6.length : Int) : Int) := of_decide_eq_true (by first | (with_reducible assumption) | assumption); obtain ⟨go94, co94, eo94, gb94, gl94, cl94, HG94⟩ := Kd.R_form HO_24.out (by omega); (first | cases eo94 | (injection eo94 with ea_ en_ ec_; (first | subst ea_ | (injection ea_ with ea_; subst ea_)); subst ec_; clear en_)); have GB94 := Aside0.mk gb94; have GG94 := Aside0.mk HG94; clear gb94 gl94 HG94; (first | simp only [add_plain] at hx424_0 | skip); obtain ⟨hx94_0, hf94_0⟩ := Kd.R_celln 0 HO_24.out ((t420.length : Int) : Int) p94 q94; replace p94 := eq_true p94; replace q94 := eq_true q94; have n_ := Aside0.mk (Kd.R_mono (ok' := (fun k_ => some k_ ≠ (.slice Ao96 t420.length co96 : Value).ownBlock)) HO_24.out (fun k_ hk => by first | exact hk.2 | ((repeat' apply And.intro) <;> first | exact hk | exact hk.1 | exact hk.2 | exact hk.1.1 | exact hk.1.2 | exact hk.2.1 | exact hk.2.2))); clear HO_24; have HO_24 := n_; clear n_; obtain ⟨hy98_, hz98_⟩ := Kd.R_celln 0 HO_24.out ((t420.length : Int) : Int) (of_decide_eq_true (by first | (with_reducible assumption) | assumption)) (of_decide_eq_true (by first | (with_reducible assumption) | assumption)); (try simp only [Go.IntWalk.toNatUp] at hy98_ hz98_); have HP98 := Kd.R_putg HO_24.out ((t420.length : Int) : Int) (wrap64 ((rd x24_6 (t420.length : Int)) + 1))) | ((with_reducible refine gate_store (t := 3) (p := 189) rfl ?_); (try (rw [drewN_self w95]; generalize hq_ : World.drewN w95 _ = w95; have n0_ := Aside0.mk (Kd.R_at hq_ HO_24.out); have n1_ := Aside0.mk (Kd.S_at hq_ HO_169.out); have n2_ := Aside0.mk (Kd.R_at hq_ HL419_0.out); have n3_ := Aside0.mk (Kd.R_at hq_ HO423.out); have n4_ := Aside0.mk (below_at hq_ HB.out); clear hq_ HO_24 HO_169 HL419_0 HO423 HB; have HO_24 := n0_; have HO_169 := n1_; have HL419_0 := n2_; have HO423 := n3_; have HB := n4_; clear n0_ n1_ n2_ n3_ n4_; (try (have n_ := Aside0.mk (Kd.R_mono (ok' := (fun k_ => some k_ ≠ (.slice Ao96 t420.length co96 : Value).ownBlock)) HO_24.out (fun k_ hk => by first | exact hk.2 | ((repeat' apply And.intro) <;> first | exact hk | exact hk.1 | exact hk.2 | exact hk.1.1 | exact hk.1.2 | exact hk.2.1 | exact hk.2.2))); clear HO_24; have HO_24 := n_; clear n_)); (try (obtain ⟨hy98_, hz98_⟩ := Kd.R_celln 0 HO_24.out ((t420.length : Int) : Int) (of_decide_eq_true (by first | (with_reducible assumption) | assumption)) (of_decide_eq_true (by first | (with_reducible assumption) | assumption)))); (try (try simp only [Go.IntWalk.toNatUp] at hy98_ hz98_)); (try (have HP98 := Kd.R_putg HO_24.out ((t420.length : Int) : Int) (wrap64 ((rd x24_6 (t420.length : Int)) + 1)))))); refine store_event (t := 3) (p := 189) (v := ?vo_w99) (w1 := (w95.setCell ⟨go94, ((t420.length : Int) : Int).toNat, none⟩ (.int .i64 (wrap64 ((rd x24_6 (t420.length : Int)) + 1))))) ?hg ?ho ?hn ?hr ?_; (case ho => rfl); (case hg => rfl); (case hn => rfl); (case hr => first | (go_simp; done) | (go_simp; rfl)); intro w99 hw; have hg : w95.grownBy w99 (some go94) := (by rw [hw]; exact HP98.2); have hp_ : Kd.R (Kd.int .i64) 3 w99 w.heap.size (fun k_ => some k_ ≠ (.slice Ao96 t420.length co96 : Value).ownBlock) (.slice (some ⟨go94, 0, none⟩) x24_6.length co97) y425 := (by rw [hw, Ny425.out]; exact HP98.1); clear HP98; have n0_ := Aside0.mk (hp_); have n1_ := Aside0.mk (Kd.S_after (v := (.slice (some ⟨go94, 0, none⟩) x24_6.length co97)) (v1 := (.slice (some ⟨go94, 0, none⟩) x24_6.length co97)) (ok := (fun k_ => some k_ ≠ (.slice Ao96 t420.length co96 : Value).ownBlock)) (by (with_reducible repeat (first | apply Kd.S_alloc | apply Kd.S_drewN | apply Kd.S_drew)); exact Kd.S_mono HO_169.out (fun _ hk => by first | exact ⟨hk.2, hk.1⟩ | ((repeat' apply And.intro) <;> first | exact hk | exact hk.1 | exact hk.2 | exact hk.1.1 | exact hk.1.2 | exact hk.2.1 | exact hk.2.2))) hg (.inl rfl)); have n2_ := Aside0.mk (Kd.R_after (v := (.slice (some ⟨go94, 0, none⟩) x24_6.length co97)) (v1 := (.slice (some ⟨go94, 0, none⟩) x24_6.length co97)) (ok := (fun k_ => some k_ ≠ (.slice (some ad419) t411.length co86 : Value).ownBlock ∧ some k_ ≠ (.slice Ao96 t420.length co96 : Value).ownBlock)) (by (with_reducible repeat (first | apply Kd.R_alloc | apply Kd.R_drewN | apply Kd.R_drew)); exact Kd.R_mono HL419_0.out (fun _ hk => by first | exact ⟨⟨hk.1.2, hk.2⟩, hk.1.1⟩ | ((repeat' apply And.intro) <;> first | exact hk | exact hk.1 | exact hk.2 | exact hk.1.1 | exact hk.1.2 | exact hk.2.1 | exact hk.2.2))) hg (.inl rfl)); have n3_ := Aside0.mk (Kd.R_after (v := (.slice (some ⟨go94, 0, none⟩) x24_6.length co97)) (v1 := (.slice (some ⟨go94, 0, none⟩) x24_6.length co97)) (ok := (fun k_ => some k_ ≠ (.slice A419_0 (rd_L2 t411 x171_6).length c419_0 : Value).ownBlock)) (by (with_reducible repeat (first | apply Kd.R_alloc | apply Kd.R_drewN | apply Kd.R_drew)); exact Kd.R_mono HO423.out (fun _ hk => by first | exact ⟨hk.2, hk.1.2⟩ | ((repeat' apply And.intro) <;> first | exact hk | exact hk.1 | exact hk.2 | exact hk.1.1 | exact hk.1.2 | exact hk.2.1 | exact hk.2.2))) hg (.inl rfl)); have n4_ := Aside0.mk ((by rw [hw]; exact below_set (HB.out) GB94.out : Below w.heap.size w w99)); clear HO_24; clear HO_169; clear HL419_0; clear HO423; clear HB; have HO_24 := n0_; have HO_169 := n1_; have HL419_0 := n2_; have HO423 := n3_; have HB := n4_; clear n0_ n1_ n2_ n3_ n4_; clear hg hw hp_)))
                             go_roundg k6
                             case measure => have := HJ10.out; have := HJ36.out; have := HJ46.out; have := HJ60.out; have := HJ72.out; have := HK6.out; omega
                             case rel => exact ⟨(y425), (wrap64 (x171_6 + 1)), (by first | rfl | (simp; done) | (simp [*]; done)), H', ⟨by have := HJ10.out; have := HJ36.out; have := HJ46.out; have := HJ60.out; have := HJ72.out; have := HK6.out; omega⟩, ⟨by (with_reducible repeat (first | apply Kd.R_alloc | apply Kd.R_drewN | apply Kd.R_drew)); exact Kd.R_mono HO_24.out (fun _ hk => trivial)⟩, ⟨by (with_reducible repeat (first | apply Kd.S_alloc | apply Kd.S_drewN | apply Kd.S_drew)); exact Kd.S_mono HO_169.out (fun _ hk => hk.2)⟩, ⟨by repeat (first | (with_reducible first | exact HB.out | apply below_alloc | apply pw_below_drewN | apply below_drew1) | exact HB.out)⟩⟩
                            ·rw [if_neg c93] at H
                             exact absurd H (by simp)
                           ·rw [if_neg c92] at H
                            exact absurd H (by simp)
                          ·replace c91 := Bool.eq_false_iff.mpr c91
                           subst c91
                           have H1 : (some false) = some r := by rw [if_neg (show ¬ (false = true) by decide)] at H; exact H
                           clear H
                           have H := H1
                           clear H1
                           obtain rfl := Option.some.inj H
                           have p419 : 0 ≤ (x171_6 : Int) := of_decide_eq_true (by first | (with_reducible assumption) | assumption)
                           have q419 : x171_6 < (t411.length : Int) := of_decide_eq_true (by first | (with_reducible assumption) | assumption)
                           obtain ⟨ad419, A419_0, c419_0, e419, hx419_0, hl419_0, hi419_0⟩ := at_L2 (Kd.S_reads' HO_169.out).2.2 x171_6 p419 q419
                           cases e419
                           obtain ⟨ce419, hce419, hMe419, hcc419⟩ := Kd.S_get HO_169.out [] x171_6 p419 (by first | exact q419 | exact of_decide_eq_true (by first | (with_reducible assumption) | assumption) | (have e_ := (Kd.S_reads' HO_169.out).1; omega))
                           obtain ⟨ve419_0, rfl, ge419_0⟩ := hMe419
                           have hv419_0 := hcc419 0 _ rfl
                           rw [Nat.add_zero, show ((Kd.slice 3 (Kd.int .i64))).sz = 1 from rfl, Nat.mul_one] at hv419_0
                           replace hv419_0 := Option.some.inj (hv419_0.symm.trans hx419_0)
                           rw [hv419_0] at ge419_0
                           have HL419_0 := Aside0.mk (show Kd.R (Kd.int .i64) 3 _ _ _ _ (rd_L2 t411 x171_6) from ge419_0)
                           clear hv419_0 ge419_0
                           clear hcc419 hce419
                           have HR419_0 := Aside0.mk hi419_0
                           have HC419_0 := Aside0.mk hl419_0
                           clear hi419_0 hl419_0
                           replace p419 := eq_true p419
                           replace q419 := eq_true q419
                           go_wp2_with (first | (go_at_call 52; (with_reducible refine (impl_LuckyCars.calls k6 _ _ (rd_L2 t411 x171_6) t401 t420 false _ ?side1 ?side2 A90.out).mono ?_); (case side1 => repeat (first | exact (by repeat (first | (with_reducible exact HR419_0.out) | (with_reducible refine Kd.C_alloc ?_ _) | (with_reducible refine Kd.C_drewN ?_ _) | (with_reducible refine Kd.C_drew ?_) | exact HR419_0.out)) | (with_reducible refine Kd.C_alloc ?_ _) | (with_reducible refine Kd.C_drewN ?_ _) | (with_reducible refine Kd.C_drew ?_))); (case side2 => exact HC419_0.out); rintro e w100 ⟨v422, rfl, ho0, hb⟩; have n0_ := Aside0.mk (Kd.R_elder' (by (with_reducible repeat (first | apply Kd.R_alloc | apply Kd.R_drewN | apply Kd.R_drew)); exact HO_24.out) (Kd.R_base ho0) hb); have n1_ := Aside0.mk (Kd.S_elder' (by (with_reducible repeat (first | apply Kd.S_alloc | apply Kd.S_drewN | apply Kd.S_drew)); exact HO_169.out) (Kd.R_base ho0) hb); have n2_ := Aside0.mk (Kd.R_elder' (by (with_reducible repeat (first | apply Kd.R_alloc | apply Kd.R_drewN | apply Kd.R_drew)); exact HL419_0.out) (Kd.R_base ho0) hb); have n3_ := Aside0.mk (Kd.R_lower (Kd.R_new' (Kd.R_new' ho0 (Kd.R_lt (by (with_reducible repeat (first | apply Kd.R_alloc | apply Kd.R_drewN | apply Kd.R_drew)); exact HO_24.out))) (Kd.R_lt (by (with_reducible repeat (first | apply Kd.R_alloc | apply Kd.R_drewN | apply Kd.R_drew)); exact HL419_0.out))) (below_size (by repeat (first | (with_reducible first | exact HB.out | apply below_alloc | apply pw_below_drewN | apply below_drew1) | exact HB.out)))); have n4_ := Aside0.mk (Kd.C_below (by repeat (first | (with_reducible exact HR419_0.out) | (with_reducible refine Kd.C_alloc ?_ _) | (with_reducible refine Kd.C_drewN ?_ _) | (with_reducible refine Kd.C_drew ?_) | exact HR419_0.out)) hb); have n5_ := Aside0.mk (below_step (by repeat (first | (with_reducible first | exact HB.out | apply below_alloc | apply pw_below_drewN | apply below_drew1) | exact HB.out)) hb); clear HO_24; clear HO_169; clear HL419_0; clear HR419_0; clear HB; have HO_24 := n0_; have HO_169 := n1_; have HL419_0 := n2_; have HO423 := n3_; have HR419_0 := n4_; have HB := n5_; clear n0_ n1_ n2_ n3_ n4_ n5_; (try clear hb); (try clear hb2); (try clear hk); (try clear hi); (try clear ho0)))
                           repeat (go_quiet (first | (go_at_call 52; (with_reducible refine (impl_LuckyCars.calls k6 _ _ (rd_L2 t411 x171_6) t401 t420 false _ ?side1 ?side2 A90.out).mono ?_); (case side1 => repeat (first | exact (by repeat (first | (with_reducible exact HR419_0.out) | (with_reducible refine Kd.C_alloc ?_ _) | (with_reducible refine Kd.C_drewN ?_ _) | (with_reducible refine Kd.C_drew ?_) | exact HR419_0.out)) | (with_reducible refine Kd.C_alloc ?_ _) | (with_reducible refine Kd.C_drewN ?_ _) | (with_reducible refine Kd.C_drew ?_))); (case side2 => exact HC419_0.out); rintro e w100 ⟨v422, rfl, ho0, hb⟩; have n0_ := Aside0.mk (Kd.R_elder' (by (with_reducible repeat (first | apply Kd.R_alloc | apply Kd.R_drewN | apply Kd.R_drew)); exact HO_24.out) (Kd.R_base ho0) hb); have n1_ := Aside0.mk (Kd.S_elder' (by (with_reducible repeat (first | apply Kd.S_alloc | apply Kd.S_drewN | apply Kd.S_drew)); exact HO_169.out) (Kd.R_base ho0) hb); have n2_ := Aside0.mk (Kd.R_elder' (by (with_reducible repeat (first | apply Kd.R_alloc | apply Kd.R_drewN | apply Kd.R_drew)); exact HL419_0.out) (Kd.R_base ho0) hb); have n3_ := Aside0.mk (Kd.R_lower (Kd.R_new' (Kd.R_new' ho0 (Kd.R_lt (by (with_reducible repeat (first | apply Kd.R_alloc | apply Kd.R_drewN | apply Kd.R_drew)); exact HO_24.out))) (Kd.R_lt (by (with_reducible repeat (first | apply Kd.R_alloc | apply Kd.R_drewN | apply Kd.R_drew)); exact HL419_0.out))) (below_size (by repeat (first | (with_reducible first | exact HB.out | apply below_alloc | apply pw_below_drewN | apply below_drew1) | exact HB.out)))); have n4_ := Aside0.mk (Kd.C_below (by repeat (first | (with_reducible exact HR419_0.out) | (with_reducible refine Kd.C_alloc ?_ _) | (with_reducible refine Kd.C_drewN ?_ _) | (with_reducible refine Kd.C_drew ?_) | exact HR419_0.out)) hb); have n5_ := Aside0.mk (below_step (by repeat (first | (with_reducible first | exact HB.out | apply below_alloc | apply pw_below_drewN | apply below_drew1) | exact HB.out)) hb); clear HO_24; clear HO_169; clear HL419_0; clear HR419_0; clear HB; have HO_24 := n0_; have HO_169 := n1_; have HL419_0 := n2_; have HO423 := n3_; have HR419_0 := n4_; have HB := n5_; clear n0_ n1_ n2_ n3_ n4_ n5_; (try clear hb); (try clear hb2); (try clear hk); (try clear hi); (try clear ho0))); try go_wp2_with (first | (go_at_call 52; (with_reducible refine (impl_LuckyCars.calls k6 _ _ (rd_L2 t411 x171_6) t401 t420 false _ ?side1 ?side2 A90.out).mono ?_); (case side1 => repeat (first | exact (by repeat (first | (with_reducible exact HR419_0.out) | (with_reducible refine Kd.C_alloc ?_ _) | (with_reducible refine Kd.C_drewN ?_ _) | (with_reducible refine Kd.C_drew ?_) | exact HR419_0.out)) | (with_reducible refine Kd.C_alloc ?_ _) | (with_reducible refine Kd.C_drewN ?_ _) | (with_reducible refine Kd.C_drew ?_))); (case side2 => exact HC419_0.out); rintro e w100 ⟨v422, rfl, ho0, hb⟩; have n0_ := Aside0.mk (Kd.R_elder' (by (with_reducible repeat (first | apply Kd.R_alloc | apply Kd.R_drewN | apply Kd.R_drew)); exact HO_24.out) (Kd.R_base ho0) hb); have n1_ := Aside0.mk (Kd.S_elder' (by (with_reducible repeat (first | apply Kd.S_alloc | apply Kd.S_drewN | apply Kd.S_drew)); exact HO_169.out) (Kd.R_base ho0) hb); have n2_ := Aside0.mk (Kd.R_elder' (by (with_reducible repeat (first | apply Kd.R_alloc | apply Kd.R_drewN | apply Kd.R_drew)); exact HL419_0.out) (Kd.R_base ho0) hb); have n3_ := Aside0.mk (Kd.R_lower (Kd.R_new' (Kd.R_new' ho0 (Kd.R_lt (by (with_reducible repeat (first | apply Kd.R_alloc | apply Kd.R_drewN | apply Kd.R_drew)); exact HO_24.out))) (Kd.R_lt (by (with_reducible repeat (first | apply Kd.R_alloc | apply Kd.R_drewN | apply Kd.R_drew)); exact HL419_0.out))) (below_size (by repeat (first | (with_reducible first | exact HB.out | apply below_alloc | apply pw_below_drewN | apply below_drew1) | exact HB.out)))); have n4_ := Aside0.mk (Kd.C_below (by repeat (first | (with_reducible exact HR419_0.out) | (with_reducible refine Kd.C_alloc ?_ _) | (with_reducible refine Kd.C_drewN ?_ _) | (with_reducible refine Kd.C_drew ?_) | exact HR419_0.out)) hb); have n5_ := Aside0.mk (below_step (by repeat (first | (with_reducible first | exact HB.out | apply below_alloc | apply pw_below_drewN | apply below_drew1) | exact HB.out)) hb); clear HO_24; clear HO_169; clear HL419_0; clear HR419_0; clear HB; have HO_24 := n0_; have HO_169 := n1_; have HL419_0 := n2_; have HO423 := n3_; have HR419_0 := n4_; have HB := n5_; clear n0_ n1_ n2_ n3_ n4_ n5_; (try clear hb); (try clear hb2); (try clear hk); (try clear hi); (try clear ho0))))
                           go_ret
                           exact ⟨by first | rfl | (simp [errW_none, errW_some] <;> rfl) | (simp only [← hji81]; first | rfl | (simp [errW_none, errW_some] <;> rfl)) | (simp [*, errW_none, errW_some] <;> rfl), by repeat (first | (with_reducible first | exact HB.out | apply below_alloc | apply pw_below_drewN | apply below_drew1) | exact HB.out)⟩
                         ·rw [if_neg c89] at H
                          exact absurd H (by simp)
                        ·rw [if_neg c88] at H
                         exact absurd H (by simp)
                       ·rw [if_neg c87] at H
                        have c87b0 : decide (x171_6 < (t411.length : Int)) = false := decide_eq_false c87
                        clear c87
                        replace H := Option.bind_eq_some_iff.mp H
                        obtain ⟨⟨t426, t427⟩, A1010, H⟩ := H
                        replace H : (if t427 = true then ((laws_jSame.f k6 x24_6 t426).bind fun t430 => (if t430 = true then (laws_FnParkingCounts.j7 k6 l1) else (some false))) else (some false)) = some r := H
                        have A101 := Aside0.mk A1010
                        clear A1010
                        by_cases c102 : t427 = true
                        ·subst c102
                         have H1 : ((laws_jSame.f k6 x24_6 t426).bind fun t430 => (if t430 = true then (laws_FnParkingCounts.j7 k6 l1) else (some false))) = some r := by rw [if_pos rfl] at H; exact H
                         clear H
                         have H := H1
                         clear H1
                         replace H := Option.bind_eq_some_iff.mp H
                         obtain ⟨t430, A1030, H⟩ := H
                         replace H : (if t430 = true then (laws_FnParkingCounts.j7 k6 l1) else (some false)) = some r := H
                         have A103 := Aside0.mk A1030
                         clear A1030
                         by_cases c104 : t430 = true
                         ·subst c104
                          have H1 : (laws_FnParkingCounts.j7 k6 l1) = some r := by rw [if_pos rfl] at H; exact H
                          clear H
                          have H := H1
                          clear H1
                          have H' := Aside0.mk H
                          clear H
                          go_wp2_with (first | (go_at_call 46; (with_reducible refine (impl_CountByLucky.calls k6 t401 t426 true _ A101.out).mono ?_); rintro e w105 ⟨v428, rfl, ho0, hb⟩; have n0_ := Aside0.mk (Kd.R_elder' (by (with_reducible repeat (first | apply Kd.R_alloc | apply Kd.R_drewN | apply Kd.R_drew)); exact HO_24.out) (Kd.R_base ho0) hb); have n1_ := Aside0.mk (Kd.S_elder' (by (with_reducible repeat (first | apply Kd.S_alloc | apply Kd.S_drewN | apply Kd.S_drew)); exact HO_169.out) (Kd.R_base ho0) hb); have n2_ := Aside0.mk (Kd.R_lower (Kd.R_new' ho0 (Kd.R_lt (by (with_reducible repeat (first | apply Kd.R_alloc | apply Kd.R_drewN | apply Kd.R_drew)); exact HO_24.out))) (below_size (by repeat (first | (with_reducible first | exact HB.out | apply below_alloc | apply pw_below_drewN | apply below_drew1) | exact HB.out)))); have n3_ := Aside0.mk (below_step (by repeat (first | (with_reducible first | exact HB.out | apply below_alloc | apply pw_below_drewN | apply below_drew1) | exact HB.out)) hb); clear HO_24; clear HO_169; clear HB; have HO_24 := n0_; have HO_169 := n1_; have HO429 := n2_; have HB := n3_; clear n0_ n1_ n2_ n3_; (try clear hb); (try clear hb2); (try clear hk); (try clear hi); (try clear ho0); obtain ⟨Ao106, co106, eo106⟩ := Kd.R_slice HO_24.out; subst eo106; obtain ⟨Ao107, co107, eo107⟩ := Kd.R_slice HO429.out; subst eo107) | (go_at_call 20; (with_reducible refine (laws_jSame.calls k6 _ _ x24_6 _ _ t426 true _ ?side1 ?side2 ?side3 ?side4 A103.out).mono ?_); (case side1 => repeat (first | exact (Kd.R_reads' HO_24.out).2.2 | (with_reducible refine Kd.C_alloc ?_ _) | (with_reducible refine Kd.C_drewN ?_ _) | (with_reducible refine Kd.C_drew ?_))); (case side2 => exact (Kd.R_reads' HO_24.out).2.1); (case side3 => repeat (first | exact (Kd.R_reads' HO429.out).2.2 | (with_reducible refine Kd.C_alloc ?_ _) | (with_reducible refine Kd.C_drewN ?_ _) | (with_reducible refine Kd.C_drew ?_))); (case side4 => exact (Kd.R_reads' HO429.out).2.1); rintro e w' ⟨rfl, ⟨nd, rfl⟩⟩; (try first | exact ⟨rfl, _, World.drewN_drewN _ _ _⟩ | exact ⟨rfl, _, Eq.trans (World.drewN_drewN _ _ _) (congrArg (World.drewN _) (Nat.add_assoc _ _ _))⟩)))
                          repeat (go_quiet (first | (go_at_call 46; (with_reducible refine (impl_CountByLucky.calls k6 t401 t426 true _ A101.out).mono ?_); rintro e w105 ⟨v428, rfl, ho0, hb⟩; have n0_ := Aside0.mk (Kd.R_elder' (by (with_reducible repeat (first | apply Kd.R_alloc | apply Kd.R_drewN | apply Kd.R_drew)); exact HO_24.out) (Kd.R_base ho0) hb); have n1_ := Aside0.mk (Kd.S_elder' (by (with_reducible repeat (first | apply Kd.S_alloc | apply Kd.S_drewN | apply Kd.S_drew)); exact HO_169.out) (Kd.R_base ho0) hb); have n2_ := Aside0.mk (Kd.R_lower (Kd.R_new' ho0 (Kd.R_lt (by (with_reducible repeat (first | apply Kd.R_alloc | apply Kd.R_drewN | apply Kd.R_drew)); exact HO_24.out))) (below_size (by repeat (first | (with_reducible first | exact HB.out | apply below_alloc | apply pw_below_drewN | apply below_drew1) | exact HB.out)))); have n3_ := Aside0.mk (below_step (by repeat (first | (with_reducible first | exact HB.out | apply below_alloc | apply pw_below_drewN | apply below_drew1) | exact HB.out)) hb); clear HO_24; clear HO_169; clear HB; have HO_24 := n0_; have HO_169 := n1_; have HO429 := n2_; have HB := n3_; clear n0_ n1_ n2_ n3_; (try clear hb); (try clear hb2); (try clear hk); (try clear hi); (try clear ho0); obtain ⟨Ao106, co106, eo106⟩ := Kd.R_slice HO_24.out; subst eo106; obtain ⟨Ao107, co107, eo107⟩ := Kd.R_slice HO429.out; subst eo107) | (go_at_call 20; (with_reducible refine (laws_jSame.calls k6 _ _ x24_6 _ _ t426 true _ ?side1 ?side2 ?side3 ?side4 A103.out).mono ?_); (case side1 => repeat (first | exact (Kd.R_reads' HO_24.out).2.2 | (with_reducible refine Kd.C_alloc ?_ _) | (with_reducible refine Kd.C_drewN ?_ _) | (with_reducible refine Kd.C_drew ?_))); (case side2 => exact (Kd.R_reads' HO_24.out).2.1); (case side3 => repeat (first | exact (Kd.R_reads' HO429.out).2.2 | (with_reducible refine Kd.C_alloc ?_ _) | (with_reducible refine Kd.C_drewN ?_ _) | (with_reducible refine Kd.C_drew ?_))); (case side4 => exact (Kd.R_reads' HO429.out).2.1); rintro e w' ⟨rfl, ⟨nd, rfl⟩⟩; (try first | exact ⟨rfl, _, World.drewN_drewN _ _ _⟩ | exact ⟨rfl, _, Eq.trans (World.drewN_drewN _ _ _) (congrArg (World.drewN _) (Nat.add_assoc _ _ _))⟩))); try go_wp2_with (first | (go_at_call 46; (with_reducible refine (impl_CountByLucky.calls k6 t401 t426 true _ A101.out).mono ?_); rintro e w105 ⟨v428, rfl, ho0, hb⟩; have n0_ := Aside0.mk (Kd.R_elder' (by (with_reducible repeat (first | apply Kd.R_alloc | apply Kd.R_drewN | apply Kd.R_drew)); exact HO_24.out) (Kd.R_base ho0) hb); have n1_ := Aside0.mk (Kd.S_elder' (by (with_reducible repeat (first | apply Kd.S_alloc | apply Kd.S_drewN | apply Kd.S_drew)); exact HO_169.out) (Kd.R_base ho0) hb); have n2_ := Aside0.mk (Kd.R_lower (Kd.R_new' ho0 (Kd.R_lt (by (with_reducible repeat (first | apply Kd.R_alloc | apply Kd.R_drewN | apply Kd.R_drew)); exact HO_24.out))) (below_size (by repeat (first | (with_reducible first | exact HB.out | apply below_alloc | apply pw_below_drewN | apply below_drew1) | exact HB.out)))); have n3_ := Aside0.mk (below_step (by repeat (first | (with_reducible first | exact HB.out | apply below_alloc | apply pw_below_drewN | apply below_drew1) | exact HB.out)) hb); clear HO_24; clear HO_169; clear HB; have HO_24 := n0_; have HO_169 := n1_; have HO429 := n2_; have HB := n3_; clear n0_ n1_ n2_ n3_; (try clear hb); (try clear hb2); (try clear hk); (try clear hi); (try clear ho0); obtain ⟨Ao106, co106, eo106⟩ := Kd.R_slice HO_24.out; subst eo106; obtain ⟨Ao107, co107, eo107⟩ := Kd.R_slice HO429.out; subst eo107) | (go_at_call 20; (with_reducible refine (laws_jSame.calls k6 _ _ x24_6 _ _ t426 true _ ?side1 ?side2 ?side3 ?side4 A103.out).mono ?_); (case side1 => repeat (first | exact (Kd.R_reads' HO_24.out).2.2 | (with_reducible refine Kd.C_alloc ?_ _) | (with_reducible refine Kd.C_drewN ?_ _) | (with_reducible refine Kd.C_drew ?_))); (case side2 => exact (Kd.R_reads' HO_24.out).2.1); (case side3 => repeat (first | exact (Kd.R_reads' HO429.out).2.2 | (with_reducible refine Kd.C_alloc ?_ _) | (with_reducible refine Kd.C_drewN ?_ _) | (with_reducible refine Kd.C_drew ?_))); (case side4 => exact (Kd.R_reads' HO429.out).2.1); rintro e w' ⟨rfl, ⟨nd, rfl⟩⟩; (try first | exact ⟨rfl, _, World.drewN_drewN _ _ _⟩ | exact ⟨rfl, _, Eq.trans (World.drewN_drewN _ _ _) (congrArg (World.drewN _) (Nat.add_assoc _ _ _))⟩))))
                          go_meet
                          case rel => exact ⟨_, H', ⟨by have := HJ10.out; have := HJ36.out; have := HJ46.out; have := HJ60.out; have := HJ72.out; have := HK6.out; first | omega | exact Nat.le_refl _⟩, ⟨by repeat (first | (with_reducible first | exact HB.out | apply below_alloc | apply pw_below_drewN | apply below_drew1) | exact HB.out)⟩⟩
                         ·replace c104 := Bool.eq_false_iff.mpr c104
                          subst c104
                          have H1 : (some false) = some r := by rw [if_neg (show ¬ (false = true) by decide)] at H; exact H
                          clear H
                          have H := H1
                          clear H1
                          obtain rfl := Option.some.inj H
                          go_wp2_with (first | (go_at_call 46; (with_reducible refine (impl_CountByLucky.calls k6 t401 t426 true _ A101.out).mono ?_); rintro e w108 ⟨v428, rfl, ho0, hb⟩; have n0_ := Aside0.mk (Kd.R_elder' (by (with_reducible repeat (first | apply Kd.R_alloc | apply Kd.R_drewN | apply Kd.R_drew)); exact HO_24.out) (Kd.R_base ho0) hb); have n1_ := Aside0.mk (Kd.S_elder' (by (with_reducible repeat (first | apply Kd.S_alloc | apply Kd.S_drewN | apply Kd.S_drew)); exact HO_169.out) (Kd.R_base ho0) hb); have n2_ := Aside0.mk (Kd.R_lower (Kd.R_new' ho0 (Kd.R_lt (by (with_reducible repeat (first | apply Kd.R_alloc | apply Kd.R_drewN | apply Kd.R_drew)); exact HO_24.out))) (below_size (by repeat (first | (with_reducible first | exact HB.out | apply below_alloc | apply pw_below_drewN | apply below_drew1) | exact HB.out)))); have n3_ := Aside0.mk (below_step (by repeat (first | (with_reducible first | exact HB.out | apply below_alloc | apply pw_below_drewN | apply below_drew1) | exact HB.out)) hb); clear HO_24; clear HO_169; clear HB; have HO_24 := n0_; have HO_169 := n1_; have HO429 := n2_; have HB := n3_; clear n0_ n1_ n2_ n3_; (try clear hb); (try clear hb2); (try clear hk); (try clear hi); (try clear ho0); obtain ⟨Ao109, co109, eo109⟩ := Kd.R_slice HO_24.out; subst eo109; obtain ⟨Ao110, co110, eo110⟩ := Kd.R_slice HO429.out; subst eo110) | (go_at_call 20; (with_reducible refine (laws_jSame.calls k6 _ _ x24_6 _ _ t426 false _ ?side1 ?side2 ?side3 ?side4 A103.out).mono ?_); (case side1 => repeat (first | exact (Kd.R_reads' HO_24.out).2.2 | (with_reducible refine Kd.C_alloc ?_ _) | (with_reducible refine Kd.C_drewN ?_ _) | (with_reducible refine Kd.C_drew ?_))); (case side2 => exact (Kd.R_reads' HO_24.out).2.1); (case side3 => repeat (first | exact (Kd.R_reads' HO429.out).2.2 | (with_reducible refine Kd.C_alloc ?_ _) | (with_reducible refine Kd.C_drewN ?_ _) | (with_reducible refine Kd.C_drew ?_))); (case side4 => exact (Kd.R_reads' HO429.out).2.1); rintro e w' ⟨rfl, ⟨nd, rfl⟩⟩; (try first | exact ⟨rfl, _, World.drewN_drewN _ _ _⟩ | exact ⟨rfl, _, Eq.trans (World.drewN_drewN _ _ _) (congrArg (World.drewN _) (Nat.add_assoc _ _ _))⟩)))
                          repeat (go_quiet (first | (go_at_call 46; (with_reducible refine (impl_CountByLucky.calls k6 t401 t426 true _ A101.out).mono ?_); rintro e w108 ⟨v428, rfl, ho0, hb⟩; have n0_ := Aside0.mk (Kd.R_elder' (by (with_reducible repeat (first | apply Kd.R_alloc | apply Kd.R_drewN | apply Kd.R_drew)); exact HO_24.out) (Kd.R_base ho0) hb); have n1_ := Aside0.mk (Kd.S_elder' (by (with_reducible repeat (first | apply Kd.S_alloc | apply Kd.S_drewN | apply Kd.S_drew)); exact HO_169.out) (Kd.R_base ho0) hb); have n2_ := Aside0.mk (Kd.R_lower (Kd.R_new' ho0 (Kd.R_lt (by (with_reducible repeat (first | apply Kd.R_alloc | apply Kd.R_drewN | apply Kd.R_drew)); exact HO_24.out))) (below_size (by repeat (first | (with_reducible first | exact HB.out | apply below_alloc | apply pw_below_drewN | apply below_drew1) | exact HB.out)))); have n3_ := Aside0.mk (below_step (by repeat (first | (with_reducible first | exact HB.out | apply below_alloc | apply pw_below_drewN | apply below_drew1) | exact HB.out)) hb); clear HO_24; clear HO_169; clear HB; have HO_24 := n0_; have HO_169 := n1_; have HO429 := n2_; have HB := n3_; clear n0_ n1_ n2_ n3_; (try clear hb); (try clear hb2); (try clear hk); (try clear hi); (try clear ho0); obtain ⟨Ao109, co109, eo109⟩ := Kd.R_slice HO_24.out; subst eo109; obtain ⟨Ao110, co110, eo110⟩ := Kd.R_slice HO429.out; subst eo110) | (go_at_call 20; (with_reducible refine (laws_jSame.calls k6 _ _ x24_6 _ _ t426 false _ ?side1 ?side2 ?side3 ?side4 A103.out).mono ?_); (case side1 => repeat (first | exact (Kd.R_reads' HO_24.out).2.2 | (with_reducible refine Kd.C_alloc ?_ _) | (with_reducible refine Kd.C_drewN ?_ _) | (with_reducible refine Kd.C_drew ?_))); (case side2 => exact (Kd.R_reads' HO_24.out).2.1); (case side3 => repeat (first | exact (Kd.R_reads' HO429.out).2.2 | (with_reducible refine Kd.C_alloc ?_ _) | (with_reducible refine Kd.C_drewN ?_ _) | (with_reducible refine Kd.C_drew ?_))); (case side4 => exact (Kd.R_reads' HO429.out).2.1); rintro e w' ⟨rfl, ⟨nd, rfl⟩⟩; (try first | exact ⟨rfl, _, World.drewN_drewN _ _ _⟩ | exact ⟨rfl, _, Eq.trans (World.drewN_drewN _ _ _) (congrArg (World.drewN _) (Nat.add_assoc _ _ _))⟩))); try go_wp2_with (first | (go_at_call 46; (with_reducible refine (impl_CountByLucky.calls k6 t401 t426 true _ A101.out).mono ?_); rintro e w108 ⟨v428, rfl, ho0, hb⟩; have n0_ := Aside0.mk (Kd.R_elder' (by (with_reducible repeat (first | apply Kd.R_alloc | apply Kd.R_drewN | apply Kd.R_drew)); exact HO_24.out) (Kd.R_base ho0) hb); have n1_ := Aside0.mk (Kd.S_elder' (by (with_reducible repeat (first | apply Kd.S_alloc | apply Kd.S_drewN | apply Kd.S_drew)); exact HO_169.out) (Kd.R_base ho0) hb); have n2_ := Aside0.mk (Kd.R_lower (Kd.R_new' ho0 (Kd.R_lt (by (with_reducible repeat (first | apply Kd.R_alloc | apply Kd.R_drewN | apply Kd.R_drew)); exact HO_24.out))) (below_size (by repeat (first | (with_reducible first | exact HB.out | apply below_alloc | apply pw_below_drewN | apply below_drew1) | exact HB.out)))); have n3_ := Aside0.mk (below_step (by repeat (first | (with_reducible first | exact HB.out | apply below_alloc | apply pw_below_drewN | apply below_drew1) | exact HB.out)) hb); clear HO_24; clear HO_169; clear HB; have HO_24 := n0_; have HO_169 := n1_; have HO429 := n2_; have HB := n3_; clear n0_ n1_ n2_ n3_; (try clear hb); (try clear hb2); (try clear hk); (try clear hi); (try clear ho0); obtain ⟨Ao109, co109, eo109⟩ := Kd.R_slice HO_24.out; subst eo109; obtain ⟨Ao110, co110, eo110⟩ := Kd.R_slice HO429.out; subst eo110) | (go_at_call 20; (with_reducible refine (laws_jSame.calls k6 _ _ x24_6 _ _ t426 false _ ?side1 ?side2 ?side3 ?side4 A103.out).mono ?_); (case side1 => repeat (first | exact (Kd.R_reads' HO_24.out).2.2 | (with_reducible refine Kd.C_alloc ?_ _) | (with_reducible refine Kd.C_drewN ?_ _) | (with_reducible refine Kd.C_drew ?_))); (case side2 => exact (Kd.R_reads' HO_24.out).2.1); (case side3 => repeat (first | exact (Kd.R_reads' HO429.out).2.2 | (with_reducible refine Kd.C_alloc ?_ _) | (with_reducible refine Kd.C_drewN ?_ _) | (with_reducible refine Kd.C_drew ?_))); (case side4 => exact (Kd.R_reads' HO429.out).2.1); rintro e w' ⟨rfl, ⟨nd, rfl⟩⟩; (try first | exact ⟨rfl, _, World.drewN_drewN _ _ _⟩ | exact ⟨rfl, _, Eq.trans (World.drewN_drewN _ _ _) (congrArg (World.drewN _) (Nat.add_assoc _ _ _))⟩))))
                          go_ret
                          exact ⟨by first | rfl | (simp [errW_none, errW_some] <;> rfl) | (simp only [← hji81]; first | rfl | (simp [errW_none, errW_some] <;> rfl)) | (simp [*, errW_none, errW_some] <;> rfl), by repeat (first | (with_reducible first | exact HB.out | apply below_alloc | apply pw_below_drewN | apply below_drew1) | exact HB.out)⟩
                        ·replace c102 := Bool.eq_false_iff.mpr c102
                         subst c102
                         have H1 : (some false) = some r := by rw [if_neg (show ¬ (false = true) by decide)] at H; exact H
                         clear H
                         have H := H1
                         clear H1
                         obtain rfl := Option.some.inj H
                         go_wp2_with (first | (go_at_call 46; (with_reducible refine (impl_CountByLucky.calls k6 t401 t426 false _ A101.out).mono ?_); rintro e w111 ⟨v428, rfl, ho0, hb⟩; have n0_ := Aside0.mk (Kd.R_elder' (by (with_reducible repeat (first | apply Kd.R_alloc | apply Kd.R_drewN | apply Kd.R_drew)); exact HO_24.out) (Kd.R_base ho0) hb); have n1_ := Aside0.mk (Kd.S_elder' (by (with_reducible repeat (first | apply Kd.S_alloc | apply Kd.S_drewN | apply Kd.S_drew)); exact HO_169.out) (Kd.R_base ho0) hb); have n2_ := Aside0.mk (Kd.R_lower (Kd.R_new' ho0 (Kd.R_lt (by (with_reducible repeat (first | apply Kd.R_alloc | apply Kd.R_drewN | apply Kd.R_drew)); exact HO_24.out))) (below_size (by repeat (first | (with_reducible first | exact HB.out | apply below_alloc | apply pw_below_drewN | apply below_drew1) | exact HB.out)))); have n3_ := Aside0.mk (below_step (by repeat (first | (with_reducible first | exact HB.out | apply below_alloc | apply pw_below_drewN | apply below_drew1) | exact HB.out)) hb); clear HO_24; clear HO_169; clear HB; have HO_24 := n0_; have HO_169 := n1_; have HO429 := n2_; have HB := n3_; clear n0_ n1_ n2_ n3_; (try clear hb); (try clear hb2); (try clear hk); (try clear hi); (try clear ho0)))
                         repeat (go_quiet (first | (go_at_call 46; (with_reducible refine (impl_CountByLucky.calls k6 t401 t426 false _ A101.out).mono ?_); rintro e w111 ⟨v428, rfl, ho0, hb⟩; have n0_ := Aside0.mk (Kd.R_elder' (by (with_reducible repeat (first | apply Kd.R_alloc | apply Kd.R_drewN | apply Kd.R_drew)); exact HO_24.out) (Kd.R_base ho0) hb); have n1_ := Aside0.mk (Kd.S_elder' (by (with_reducible repeat (first | apply Kd.S_alloc | apply Kd.S_drewN | apply Kd.S_drew)); exact HO_169.out) (Kd.R_base ho0) hb); have n2_ := Aside0.mk (Kd.R_lower (Kd.R_new' ho0 (Kd.R_lt (by (with_reducible repeat (first | apply Kd.R_alloc | apply Kd.R_drewN | apply Kd.R_drew)); exact HO_24.out))) (below_size (by repeat (first | (with_reducible first | exact HB.out | apply below_alloc | apply pw_below_drewN | apply below_drew1) | exact HB.out)))); have n3_ := Aside0.mk (below_step (by repeat (first | (with_reducible first | exact HB.out | apply below_alloc | apply pw_below_drewN | apply below_drew1) | exact HB.out)) hb); clear HO_24; clear HO_169; clear HB; have HO_24 := n0_; have HO_169 := n1_; have HO429 := n2_; have HB := n3_; clear n0_ n1_ n2_ n3_; (try clear hb); (try clear hb2); (try clear hk); (try clear hi); (try clear ho0))); try go_wp2_with (first | (go_at_call 46; (with_reducible refine (impl_CountByLucky.calls k6 t401 t426 false _ A101.out).mono ?_); rintro e w111 ⟨v428, rfl, ho0, hb⟩; have n0_ := Aside0.mk (Kd.R_elder' (by (with_reducible repeat (first | apply Kd.R_alloc | apply Kd.R_drewN | apply Kd.R_drew)); exact HO_24.out) (Kd.R_base ho0) hb); have n1_ := Aside0.mk (Kd.S_elder' (by (with_reducible repeat (first | apply Kd.S_alloc | apply Kd.S_drewN | apply Kd.S_drew)); exact HO_169.out) (Kd.R_base ho0) hb); have n2_ := Aside0.mk (Kd.R_lower (Kd.R_new' ho0 (Kd.R_lt (by (with_reducible repeat (first | apply Kd.R_alloc | apply Kd.R_drewN | apply Kd.R_drew)); exact HO_24.out))) (below_size (by repeat (first | (with_reducible first | exact HB.out | apply below_alloc | apply pw_below_drewN | apply below_drew1) | exact HB.out)))); have n3_ := Aside0.mk (below_step (by repeat (first | (with_reducible first | exact HB.out | apply below_alloc | apply pw_below_drewN | apply below_drew1) | exact HB.out)) hb); clear HO_24; clear HO_169; clear HB; have HO_24 := n0_; have HO_169 := n1_; have HO429 := n2_; have HB := n3_; clear n0_ n1_ n2_ n3_; (try clear hb); (try clear hb2); (try clear hk); (try clear hi); (try clear ho0))))
                         go_ret
                         exact ⟨by first | rfl | (simp [errW_none, errW_some] <;> rfl) | (simp only [← hji81]; first | rfl | (simp [errW_none, errW_some] <;> rfl)) | (simp [*, errW_none, errW_some] <;> rfl), by repeat (first | (with_reducible first | exact HB.out | apply below_alloc | apply pw_below_drewN | apply below_drew1) | exact HB.out)⟩
                    ·rw [if_neg c83] at H
                     exact absurd H (by simp)
                   ·rw [if_neg c82] at H
                    exact absurd H (by simp)
                  ·rw [if_neg c80] at H
                   have c80b0 : decide (1 ≤ t401) = false := decide_eq_false c80
                   clear c80
                   have H' := Aside0.mk H
                   clear H
                   go_wp2
                   repeat (go_quiet (fail); try go_wp2)
                   go_meet
                   case rel => exact ⟨_, H', ⟨by have := HJ10.out; have := HJ36.out; have := HJ46.out; have := HJ60.out; have := HJ72.out; first | omega | exact Nat.le_refl _⟩, ⟨by repeat (first | (with_reducible first | exact HB.out | apply below_alloc | apply pw_below_drewN | apply below_drew1) | exact HB.out)⟩⟩
              ·replace c71 := Bool.eq_false_iff.mpr c71
               subst c71
               have H1 : (laws_FnParkingCounts.j7 kj60 l1) = some r := by rw [if_neg (show ¬ (false = true) by decide)] at H; exact H
               clear H
               have H := H1
               clear H1
               have H' := Aside0.mk H
               clear H
               go_wp2
               repeat (go_quiet (fail); try go_wp2)
               go_meet
               case rel => exact ⟨_, H', ⟨by have := HJ10.out; have := HJ36.out; have := HJ46.out; have := HJ60.out; first | omega | exact Nat.le_refl _⟩, ⟨by repeat (first | (with_reducible first | exact HB.out | apply below_alloc | apply pw_below_drewN | apply below_drew1) | exact HB.out)⟩⟩
             case rest => as_aux_lemma =>
              clear HC70
              try clear c1
              try clear c2
              try clear p2
              try clear c3
              try clear p3
              try clear q3
              try clear hx3
              try clear c4
              try clear p4
              try clear q4
              try clear hx4
              try clear c5
              try clear c6
              try clear p6
              try clear c7
              try clear c8
              try clear c9
              try clear p9
              try clear q9
              try clear hx9
              try clear hf9
              try clear c10
              try clear c18
              try clear c18b0
              try clear c18b1
              try clear c18b2
              try clear c20
              try clear c21
              try clear c21b0
              try clear c21b1
              try clear c21b2
              try clear c25
              try clear c36
              try clear c38
              try clear c39
              try clear p39
              try clear q39
              try clear hx39
              try clear p40
              try clear q40
              try clear hx40
              try clear c41
              try clear c41b0
              try clear c41b1
              try clear p41
              try clear q41
              try clear hx41
              try clear p42
              try clear q42
              try clear hx42
              try clear c46
              try clear c48
              try clear c49
              try clear c49b0
              try clear c50
              try clear c50b0
              try clear c52
              try clear c52b0
              try clear c53
              try clear c53b0
              try clear c54
              try clear c54b0
              try clear p64
              try clear c65
              try clear c65b0
              try clear c65b1
              try clear c65b2
              try clear c69
              try clear c71
              try clear c75
              try clear c79
              try clear c80
              try clear c80b0
              try clear c82
              try clear c82b0
              try clear c82b1
              try clear c83
              try clear c83b0
              try clear c83b1
              try clear c87
              try clear c87b0
              try clear c88
              try clear c88b0
              try clear c89
              try clear c89b0
              try clear c91
              try clear c92
              try clear c92b0
              try clear c92b1
              try clear c93
              try clear c93b0
              try clear c93b1
              try clear p94
              try clear q94
              try clear hx94
              try clear hf94
              try clear c102
              try clear c104
              try clear hx399_0
              try clear hx400_0
              try clear hx419_0
              try clear hx424_0
              try clear hx94_0
              try clear p2
              try clear p3
              try clear p39
              try clear p399
              try clear p4
              try clear p40
              try clear p400
              try clear p419
              try clear p424
              try clear p6
              try clear p64
              try clear p94
              try clear q3
              try clear q39
              try clear q399
              try clear q4
              try clear q40
              try clear q400
              try clear q419
              try clear q424
              try clear q94
              obtain ⟨kq, HA, HJ69, HB⟩ := hcut
              cases kq with
              | zero => exact absurd HA.out (by simp [laws_FnParkingCounts.j7])
              | succ kj69 =>
               have H := HA.out
               clear HA
               simp only [laws_FnParkingCounts.j7] at H
               replace H := Option.bind_eq_some_iff.mp H
               obtain ⟨⟨t431, t432⟩, A1120, H⟩ := H
               replace H : ((impl_CountForStreet.f kj69 t431 t432).bind fun bt433 => ((spec_CountForStreet.f kj69 t431 t432).bind fun bt435 => (if (bt433.2 != bt435.2) = true then (laws_FnParkingCounts.j8 kj69 t431 t432 bt433.1 bt433.2 true) else (laws_FnParkingCounts.j8 kj69 t431 t432 bt433.1 bt433.2 (bt433.1 != bt435.1))))) = some r := H
               have A112 := Aside0.mk A1120
               clear A1120
               replace H := Option.bind_eq_some_iff.mp H
               obtain ⟨⟨t433, t434⟩, A1130, H⟩ := H
               replace H : ((spec_CountForStreet.f kj69 t431 t432).bind fun bt435 => (if (t434 != bt435.2) = true then (laws_FnParkingCounts.j8 kj69 t431 t432 t433 t434 true) else (laws_FnParkingCounts.j8 kj69 t431 t432 t433 t434 (t433 != bt435.1)))) = some r := H
               have A113 := Aside0.mk A1130
               clear A1130
               replace H := Option.bind_eq_some_iff.mp H
               obtain ⟨⟨t435, t436⟩, A1140, H⟩ := H
               replace H : (if (t434 != t436) = true then (laws_FnParkingCounts.j8 kj69 t431 t432 t433 t434 true) else (laws_FnParkingCounts.j8 kj69 t431 t432 t433 t434 (t433 != t435))) = some r := H
               have A114 := Aside0.mk A1140
               clear A1140
               have HC115 := Aside0.mk H
               clear H
               go_upto_region 44 with (first | (go_at_call 53; (with_reducible refine (spec_DrawCountForStreet.calls _ _ l1 t431 t432 _ ?side1 ?side2 A112.out).mono ?_); (case side1 => repeat (first | exact (Kd.C_below HR1.out HB.out) | (with_reducible refine Kd.C_alloc ?_ _) | (with_reducible refine Kd.C_drewN ?_ _) | (with_reducible refine Kd.C_drew ?_))); (case side2 => exact HC1.out); rintro e w116 ⟨rfl, hb⟩; have n0_ := Aside0.mk (below_step (by repeat (first | (with_reducible first | exact HB.out | apply below_alloc | apply pw_below_drewN | apply below_drew1) | exact HB.out)) hb); clear HB; have HB := n0_; clear n0_; (try clear hb); (try clear hb2); (try clear hk); (try clear hi)) | (go_at_call 54; (with_reducible refine (impl_CountForStreet.calls kj69 t431 t432 t433 t434 _ A113.out).mono ?_); rintro e w' ⟨rfl, ⟨nd, rfl⟩⟩; (try first | exact ⟨rfl, _, World.drewN_drewN _ _ _⟩ | exact ⟨rfl, _, Eq.trans (World.drewN_drewN _ _ _) (congrArg (World.drewN _) (Nat.add_assoc _ _ _))⟩)) | (go_at_call 55; (with_reducible refine (spec_CountForStreet.calls kj69 t431 t432 t435 t436 _ A114.out).mono ?_); rintro e w' ⟨rfl, ⟨nd, rfl⟩⟩; (try first | exact ⟨rfl, _, World.drewN_drewN _ _ _⟩ | exact ⟨rfl, _, Eq.trans (World.drewN_drewN _ _ _) (congrArg (World.drewN _) (Nat.add_assoc _ _ _))⟩)))
               repeat (go_quiet (first | (go_at_call 53; (with_reducible refine (spec_DrawCountForStreet.calls _ _ l1 t431 t432 _ ?side1 ?side2 A112.out).mono ?_); (case side1 => repeat (first | exact (Kd.C_below HR1.out HB.out) | (with_reducible refine Kd.C_alloc ?_ _) | (with_reducible refine Kd.C_drewN ?_ _) | (with_reducible refine Kd.C_drew ?_))); (case side2 => exact HC1.out); rintro e w116 ⟨rfl, hb⟩; have n0_ := Aside0.mk (below_step (by repeat (first | (with_reducible first | exact HB.out | apply below_alloc | apply pw_below_drewN | apply below_drew1) | exact HB.out)) hb); clear HB; have HB := n0_; clear n0_; (try clear hb); (try clear hb2); (try clear hk); (try clear hi)) | (go_at_call 54; (with_reducible refine (impl_CountForStreet.calls kj69 t431 t432 t433 t434 _ A113.out).mono ?_); rintro e w' ⟨rfl, ⟨nd, rfl⟩⟩; (try first | exact ⟨rfl, _, World.drewN_drewN _ _ _⟩ | exact ⟨rfl, _, Eq.trans (World.drewN_drewN _ _ _) (congrArg (World.drewN _) (Nat.add_assoc _ _ _))⟩)) | (go_at_call 55; (with_reducible refine (spec_CountForStreet.calls kj69 t431 t432 t435 t436 _ A114.out).mono ?_); rintro e w' ⟨rfl, ⟨nd, rfl⟩⟩; (try first | exact ⟨rfl, _, World.drewN_drewN _ _ _⟩ | exact ⟨rfl, _, Eq.trans (World.drewN_drewN _ _ _) (congrArg (World.drewN _) (Nat.add_assoc _ _ _))⟩))); go_upto_region 44 with (first | (go_at_call 53; (with_reducible refine (spec_DrawCountForStreet.calls _ _ l1 t431 t432 _ ?side1 ?side2 A112.out).mono ?_); (case side1 => repeat (first | exact (Kd.C_below HR1.out HB.out) | (with_reducible refine Kd.C_alloc ?_ _) | (with_reducible refine Kd.C_drewN ?_ _) | (with_reducible refine Kd.C_drew ?_))); (case side2 => exact HC1.out); rintro e w116 ⟨rfl, hb⟩; have n0_ := Aside0.mk (below_step (by repeat (first | (with_reducible first | exact HB.out | apply below_alloc | apply pw_below_drewN | apply below_drew1) | exact HB.out)) hb); clear HB; have HB := n0_; clear n0_; (try clear hb); (try clear hb2); (try clear hk); (try clear hi)) | (go_at_call 54; (with_reducible refine (impl_CountForStreet.calls kj69 t431 t432 t433 t434 _ A113.out).mono ?_); rintro e w' ⟨rfl, ⟨nd, rfl⟩⟩; (try first | exact ⟨rfl, _, World.drewN_drewN _ _ _⟩ | exact ⟨rfl, _, Eq.trans (World.drewN_drewN _ _ _) (congrArg (World.drewN _) (Nat.add_assoc _ _ _))⟩)) | (go_at_call 55; (with_reducible refine (spec_CountForStreet.calls kj69 t431 t432 t435 t436 _ A114.out).mono ?_); rintro e w' ⟨rfl, ⟨nd, rfl⟩⟩; (try first | exact ⟨rfl, _, World.drewN_drewN _ _ _⟩ | exact ⟨rfl, _, Eq.trans (World.drewN_drewN _ _ _) (congrArg (World.drewN _) (Nat.add_assoc _ _ _))⟩))))
               (try simp only [Act.put, List.setIfInBounds_toArray, List.set_cons_zero, List.set_cons_succ])
               go_cut [228] (fun v228 wc => ∃ (kq : Nat) (x228_114 : Bool), v228 = .bool x228_114 ∧ Aside0 (laws_FnParkingCounts.j8 kq t431 t432 t433 t434 x228_114 = some r) ∧ Aside0 (kq ≤ kj69) ∧ Aside0 (Below w.heap.size w wc))
               case first => as_aux_lemma =>
                have H := HC115.out
                clear HC115
                by_cases c117 : (t434 != t436) = true
                ·rw [if_pos c117] at H
                 have c117b0 : (t434 != t436) = true := c117
                 (try (have c117b1 : decide (t434 = t436) = false := by simpa using c117))
                 (try (have c117b2 : (t434 == t436) = false := by simpa using c117))
                 (try (have c117b3 : ¬ (t434 = t436) := by simpa using c117))
                 clear c117
                 (first | rw [c117b0] | (simp only [i64_w, i32_w]; rw [c117b0]) | skip)
                 have H' := Aside0.mk H
                 clear H
                 go_wp2
                 repeat (go_quiet (fail); try go_wp2)
                 go_meet
                 case rel => exact ⟨_, (true), (by first | rfl | (simp; done) | (simp [*]; done)), H', ⟨by have := HJ10.out; have := HJ36.out; have := HJ46.out; have := HJ60.out; have := HJ69.out; first | omega | exact Nat.le_refl _⟩, ⟨by repeat (first | (with_reducible first | exact HB.out | apply below_alloc | apply pw_below_drewN | apply below_drew1) | exact HB.out)⟩⟩
                ·rw [if_neg c117] at H
                 have c117b0 : (t434 != t436) = false := by simpa using c117
                 (try (have c117b1 : decide (t434 = t436) = true := by simpa using c117))
                 (try (have c117b2 : (t434 == t436) = true := by simpa using c117))
                 clear c117
                 (first | rw [c117b0] | (simp only [i64_w, i32_w]; rw [c117b0]) | skip)
                 have H' := Aside0.mk H
                 clear H
                 go_wp2
                 repeat (go_quiet (fail); try go_wp2)
                 go_meet
                 case rel => exact ⟨_, ((t433 != t435)), (by first | rfl | (simp; done) | (simp [*]; done)), H', ⟨by have := HJ10.out; have := HJ36.out; have := HJ46.out; have := HJ60.out; have := HJ69.out; first | omega | exact Nat.le_refl _⟩, ⟨by repeat (first | (with_reducible first | exact HB.out | apply below_alloc | apply pw_below_drewN | apply below_drew1) | exact HB.out)⟩⟩
               case rest => as_aux_lemma =>
                clear HC115
                try clear c1
                try clear c2
                try clear p2
                try clear c3
                try clear p3
                try clear q3
                try clear hx3
                try clear c4
                try clear p4
                try clear q4
                try clear hx4
                try clear c5
                try clear c6
                try clear p6
                try clear c7
                try clear c8
                try clear c9
                try clear p9
                try clear q9
                try clear hx9
                try clear hf9
                try clear c10
                try clear c11
                try clear c18
                try clear c18b0
                try clear c18b1
                try clear c18b2
                try clear c20
                try clear c21
                try clear c21b0
                try clear c21b1
                try clear c21b2
                try clear c25
                try clear c36
                try clear c38
                try clear c39
                try clear p39
                try clear q39
                try clear hx39
                try clear p40
                try clear q40
                try clear hx40
                try clear c41
                try clear c41b0
                try clear c41b1
                try clear p41
                try clear q41
                try clear hx41
                try clear p42
                try clear q42
                try clear hx42
                try clear c46
                try clear c48
                try clear c49
                try clear c49b0
                try clear c50
                try clear c50b0
                try clear c52
                try clear c52b0
                try clear c53
                try clear c53b0
                try clear c54
                try clear c54b0
                try clear p64
                try clear c65
                try clear c65b0
                try clear c65b1
                try clear c65b2
                try clear c69
                try clear c71
                try clear c75
                try clear c79
                try clear c80
                try clear c80b0
                try clear c82
                try clear c82b0
                try clear c82b1
                try clear c83
                try clear c83b0
                try clear c83b1
                try clear c87
                try clear c87b0
                try clear c88
                try clear c88b0
                try clear c89
                try clear c89b0
                try clear c91
                try clear c92
                try clear c92b0
                try clear c92b1
                try clear c93
                try clear c93b0
                try clear c93b1
                try clear p94
                try clear q94
                try clear hx94
                try clear hf94
                try clear c102
                try clear c104
                try clear c117
                try clear c117b0
                try clear c117b1
                try clear c117b2
                try clear hx399_0
                try clear hx400_0
                try clear hx419_0
                try clear hx424_0
                try clear hx94_0
                try clear p2
                try clear p3
                try clear p39
                try clear p399
                try clear p4
                try clear p40
                try clear p400
                try clear p41
                try clear p419
                try clear p42
                try clear p424
                try clear p6
                try clear p64
                try clear p9
                try clear p94
                try clear q3
                try clear q39
                try clear q399
                try clear q4
                try clear q40
                try clear q400
                try clear q41
                try clear q419
                try clear q42
                try clear q424
                try clear q9
                try clear q94
                obtain ⟨kq, x228_114, rfl, HA, HJ114, HB⟩ := hcut
                cases kq with
                | zero => exact absurd HA.out (by simp [laws_FnParkingCounts.j8])
                | succ kj114 =>
                 have H := HA.out
                 clear HA
                 simp only [laws_FnParkingCounts.j8] at H
                 by_cases c118 : x228_114 = true
                 ·subst c118
                  have H1 : (some false) = some r := by rw [if_pos rfl] at H; exact H
                  clear H
                  have H := H1
                  clear H1
                  obtain rfl := Option.some.inj H
                  go_wp2
                  repeat (go_quiet (fail); try go_wp2)
                  go_ret
                  exact ⟨by first | rfl | (simp [errW_none, errW_some] <;> rfl) | (simp [*, errW_none, errW_some] <;> rfl), by repeat (first | (with_reducible first | exact HB.out | apply below_alloc | apply pw_below_drewN | apply below_drew1) | exact HB.out)⟩
                 ·replace c118 := Bool.eq_false_iff.mpr c118
                  subst c118
                  have H1 : (if t434 = true then (if t431 = t432 then ((impl_CountParking.f kj114 t431).bind fun bt437 => (if bt437.2 = true then (some (bt437.1 == t433)) else (some false))) else (some true)) else (some true)) = some r := by rw [if_neg (show ¬ (false = true) by decide)] at H; exact H
                  clear H
                  have H := H1
                  clear H1
                  by_cases c119 : t434 = true
                  ·subst c119
                   have H1 : (if t431 = t432 then ((impl_CountParking.f kj114 t431).bind fun bt437 => (if bt437.2 = true then (some (bt437.1 == t433)) else (some false))) else (some true)) = some r := by rw [if_pos rfl] at H; exact H
                   clear H
                   have H := H1
                   clear H1
                   by_cases c120 : t431 = t432
                   ·rw [if_pos c120] at H
                    have c120b0 : (t431 == t432) = true := beq_iff_eq.mpr c120
                    have c120b1 : (t431 != t432) = false := bne_eq_false_iff_eq.mpr c120
                    clear c120
                    replace H := Option.bind_eq_some_iff.mp H
                    obtain ⟨⟨t437, t438⟩, A1210, H⟩ := H
                    replace H : (if t438 = true then (some (t437 == t433)) else (some false)) = some r := H
                    have A121 := Aside0.mk A1210
                    clear A1210
                    by_cases c122 : t438 = true
                    ·subst c122
                     have H1 : (some (t437 == t433)) = some r := by rw [if_pos rfl] at H; exact H
                     clear H
                     have H := H1
                     clear H1
                     obtain rfl := Option.some.inj H
                     go_wp2_with (first | (go_at_call 34; (with_reducible refine (impl_CountParking.calls kj114 t431 t437 true _ A121.out).mono ?_); rintro e w123 ⟨rfl, hb⟩; have n0_ := Aside0.mk (below_step (by repeat (first | (with_reducible first | exact HB.out | apply below_alloc | apply pw_below_drewN | apply below_drew1) | exact HB.out)) hb); clear HB; have HB := n0_; clear n0_; (try clear hb); (try clear hb2); (try clear hk); (try clear hi)))
                     repeat (go_quiet (first | (go_at_call 34; (with_reducible refine (impl_CountParking.calls kj114 t431 t437 true _ A121.out).mono ?_); rintro e w123 ⟨rfl, hb⟩; have n0_ := Aside0.mk (below_step (by repeat (first | (with_reducible first | exact HB.out | apply below_alloc | apply pw_below_drewN | apply below_drew1) | exact HB.out)) hb); clear HB; have HB := n0_; clear n0_; (try clear hb); (try clear hb2); (try clear hk); (try clear hi))); try go_wp2_with (first | (go_at_call 34; (with_reducible refine (impl_CountParking.calls kj114 t431 t437 true _ A121.out).mono ?_); rintro e w123 ⟨rfl, hb⟩; have n0_ := Aside0.mk (below_step (by repeat (first | (with_reducible first | exact HB.out | apply below_alloc | apply pw_below_drewN | apply below_drew1) | exact HB.out)) hb); clear HB; have HB := n0_; clear n0_; (try clear hb); (try clear hb2); (try clear hk); (try clear hi))))
                     go_ret
                     exact ⟨by first | rfl | (simp [errW_none, errW_some] <;> rfl) | (simp [*, errW_none, errW_some] <;> rfl), by repeat (first | (with_reducible first | exact HB.out | apply below_alloc | apply pw_below_drewN | apply below_drew1) | exact HB.out)⟩
                    ·replace c122 := Bool.eq_false_iff.mpr c122
                     subst c122
                     have H1 : (some false) = some r := by rw [if_neg (show ¬ (false = true) by decide)] at H; exact H
                     clear H
                     have H := H1
                     clear H1
                     obtain rfl := Option.some.inj H
                     go_wp2_with (first | (go_at_call 34; (with_reducible refine (impl_CountParking.calls kj114 t431 t437 false _ A121.out).mono ?_); rintro e w124 ⟨rfl, hb⟩; have n0_ := Aside0.mk (below_step (by repeat (first | (with_reducible first | exact HB.out | apply below_alloc | apply pw_below_drewN | apply below_drew1) | exact HB.out)) hb); clear HB; have HB := n0_; clear n0_; (try clear hb); (try clear hb2); (try clear hk); (try clear hi)))
                     repeat (go_quiet (first | (go_at_call 34; (with_reducible refine (impl_CountParking.calls kj114 t431 t437 false _ A121.out).mono ?_); rintro e w124 ⟨rfl, hb⟩; have n0_ := Aside0.mk (below_step (by repeat (first | (with_reducible first | exact HB.out | apply below_alloc | apply pw_below_drewN | apply below_drew1) | exact HB.out)) hb); clear HB; have HB := n0_; clear n0_; (try clear hb); (try clear hb2); (try clear hk); (try clear hi))); try go_wp2_with (first | (go_at_call 34; (with_reducible refine (impl_CountParking.calls kj114 t431 t437 false _ A121.out).mono ?_); rintro e w124 ⟨rfl, hb⟩; have n0_ := Aside0.mk (below_step (by repeat (first | (with_reducible first | exact HB.out | apply below_alloc | apply pw_below_drewN | apply below_drew1) | exact HB.out)) hb); clear HB; have HB := n0_; clear n0_; (try clear hb); (try clear hb2); (try clear hk); (try clear hi))))
                     go_ret
                     exact ⟨by first | rfl | (simp [errW_none, errW_some] <;> rfl) | (simp [*, errW_none, errW_some] <;> rfl), by repeat (first | (with_reducible first | exact HB.out | apply below_alloc | apply pw_below_drewN | apply below_drew1) | exact HB.out)⟩
                   ·rw [if_neg c120] at H
                    have c120b0 : (t431 == t432) = false := beq_eq_false_iff_ne.mpr c120
                    have c120b1 : (t431 != t432) = true := bne_iff_ne.mpr c120
                    obtain rfl := Option.some.inj H
                    go_wp2
                    repeat (go_quiet (fail); try go_wp2)
                    go_ret
                    exact ⟨by first | rfl | (simp [errW_none, errW_some] <;> rfl) | (simp [*, errW_none, errW_some] <;> rfl), by repeat (first | (with_reducible first | exact HB.out | apply below_alloc | apply pw_below_drewN | apply below_drew1) | exact HB.out)⟩
                  ·replace c119 := Bool.eq_false_iff.mpr c119
                   subst c119
                   have H1 : (some true) = some r := by rw [if_neg (show ¬ (false = true) by decide)] at H; exact H
                   clear H
                   have H := H1
                   clear H1
                   obtain rfl := Option.some.inj H
                   go_wp2
                   repeat (go_quiet (fail); try go_wp2)
                   go_ret
                   exact ⟨by first | rfl | (simp [errW_none, errW_some] <;> rfl) | (simp [*, errW_none, errW_some] <;> rfl), by repeat (first | (with_reducible first | exact HB.out | apply below_alloc | apply pw_below_drewN | apply below_drew1) | exact HB.out)⟩

/-- THE ONE PURE STATEMENT of laws_FnParkingCounts: yours. -/
def laws_FnParkingCounts.Pure : Prop := ∀ (l0 : List Int) (l1 : List Int), l0.length ≤ maxLen → l0.length * 1 ≤ 140737488351232 → (∀ x ∈ l0, (Lit.int .u8 x).wf = true) → l1.length ≤ maxLen → l1.length * 1 ≤ 140737488351232 → (∀ x ∈ l1, (Lit.int .u8 x).wf = true) → ∃ k, laws_FnParkingCounts.f k l0 l1 = some true
theorem laws_FnParkingCounts.walk (P : laws_FnParkingCounts.Pure) (a0 : Option Addr) (len0 cap0 : Nat) (z0 : List Int) (a1 : Option Addr) (len1 cap1 : Nat) (z1 : List Int) (w : World) (w0 : (a0 = none ∧ len0 = 0 ∧ cap0 = 0 ∧ z0 = []) ∨ ∃ x, a0 = some x ∧ len0 ≤ cap0 ∧ cap0 ≤ maxLen ∧ z0.length = cap0 ∧ (∀ i, i < z0.length → w.cell? (x.add i) = some (.int .u8 (z0.getD i 0))) ∧ ∀ n ∈ z0, (Lit.int .u8 n).wf = true) (y0 : len0 * 1 ≤ 140737488351232) (w1 : (a1 = none ∧ len1 = 0 ∧ cap1 = 0 ∧ z1 = []) ∨ ∃ x, a1 = some x ∧ len1 ≤ cap1 ∧ cap1 ≤ maxLen ∧ z1.length = cap1 ∧ (∀ i, i < z1.length → w.cell? (x.add i) = some (.int .u8 (z1.getD i 0))) ∧ ∀ n ∈ z1, (Lit.int .u8 n).wf = true) (y1 : len1 * 1 ≤ 140737488351232) :
  Calls Try.prog 5 #[.slice a0 len0 cap0, .slice a1 len1 cap1] w fun e w' => e = .returned (.bool true) ∧ Below w.heap.size w w' := by
 obtain ⟨l0, rfl, hr0, hm0, hw0, hc0⟩ := ReadsInt.ofRowC w0
 obtain ⟨l1, rfl, hr1, hm1, hw1, hc1⟩ := ReadsInt.ofRowC w1
 obtain ⟨k, h⟩ := P l0 l1 hm0 y0 hw0 hm1 y1 hw1
 refine (laws_FnParkingCounts.calls k _ _ l0 _ _ l1 true w (Kd.C_of_reads (d := (0 : Int)) (h1 := fun _ => rfl) hr0) hc0 (Kd.C_of_reads (d := (0 : Int)) (h1 := fun _ => rfl) hr1) hc1 h).mono ?_
 rintro e w' ⟨rfl, hd⟩
 exact ⟨rfl, hd⟩

end Go.Proofs.Ytdiohjdfiambhaa.QFnParkingCounts
