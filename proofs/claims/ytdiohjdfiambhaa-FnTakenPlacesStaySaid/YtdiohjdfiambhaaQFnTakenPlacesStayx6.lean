/- Proved here: each Go function named below, when called, returns what the Lean function of its name computes, wherever that function answers. Text written by this session's program over the kit's print; law FnTakenPlacesStay. -/
import Derived.Test.YtdiohjdfiambhaaQFnTakenPlacesStayx0
import Derived.Test.YtdiohjdfiambhaaQFnTakenPlacesStayx1
import Derived.Test.YtdiohjdfiambhaaQFnTakenPlacesStayx2
import Derived.Test.YtdiohjdfiambhaaQFnTakenPlacesStayx3
import Derived.Test.YtdiohjdfiambhaaQFnTakenPlacesStayx4
import Derived.Test.YtdiohjdfiambhaaQFnTakenPlacesStayx5
namespace Go.Proofs.Ytdiohjdfiambhaa.QFnTakenPlacesStay
open Go.RowKit Go.Proofs.YtdiohjdfiambhaaW.PrintWords Go.Proofs.YtdiohjdfiambhaaW.PrintLast Go.Proofs.YtdiohjdfiambhaaW.PrintMore
attribute [local go_sem] max2_int min2_int max_two min_two max_three min_three max_four min_four   -- for this text's walks alone
set_option linter.unusedVariables false
set_option linter.unusedSimpArgs false

/-! ### laws_FnTakenPlacesStay: function 11 -/
mutual
def laws_FnTakenPlacesStay.j0 : Nat → List Int → List Int → Int → List Int → Bool → Bool → Option (Bool)
 | 0, _, _, _, _, _, _ => none
 | k + 1, x1, x5, x6, x7, x8, x58 => if x58 = true then (some false) else ((impl_TakenPlaces.f k x5 x6).bind fun bt272 => ((impl_DistancesOf.f k x5 x6).bind fun bt276 => ((impl_TotalDistance.f k x5 x6).bind fun bt280 => ((impl_LuckyCars.f k x5 x6).bind fun bt282 => ((impl_DoAllPark.f k x5 x6).bind fun bt286 => (if (bt272.2 != x8) = true then (laws_FnTakenPlacesStay.j1 k x1 x5 x6 x7 x8 bt272.1 bt272.2 bt276.1 bt280.1 bt280.2 bt282.1 true) else (if (bt276.2 != x8) = true then (laws_FnTakenPlacesStay.j1 k x1 x5 x6 x7 x8 bt272.1 bt272.2 bt276.1 bt280.1 bt280.2 bt282.1 true) else (if (bt280.2 != x8) = true then (laws_FnTakenPlacesStay.j1 k x1 x5 x6 x7 x8 bt272.1 bt272.2 bt276.1 bt280.1 bt280.2 bt282.1 true) else (if (bt282.2 != x8) = true then (laws_FnTakenPlacesStay.j1 k x1 x5 x6 x7 x8 bt272.1 bt272.2 bt276.1 bt280.1 bt280.2 bt282.1 true) else ((impl_AreFavourites.f x5 x6).bind fun t288 => (if (bt286.2 != t288) = true then (laws_FnTakenPlacesStay.j1 k x1 x5 x6 x7 x8 bt272.1 bt272.2 bt276.1 bt280.1 bt280.2 bt282.1 true) else (if bt286.2 = true then (laws_FnTakenPlacesStay.j1 k x1 x5 x6 x7 x8 bt272.1 bt272.2 bt276.1 bt280.1 bt280.2 bt282.1 (bt286.1 != x8)) else (laws_FnTakenPlacesStay.j1 k x1 x5 x6 x7 x8 bt272.1 bt272.2 bt276.1 bt280.1 bt280.2 bt282.1 false)))))))))))))
def laws_FnTakenPlacesStay.j1 : Nat → List Int → List Int → Int → List Int → Bool → List Int → Bool → List Int → Int → Bool → List Int → Bool → Option (Bool)
 | 0, _, _, _, _, _, _, _, _, _, _, _, _ => none
 | k + 1, x1, x5, x6, x7, x8, x11, x12, x13, x15, x16, x17, x121 => if x121 = true then (some false) else (if (x5.length : Int) > 1 then ((laws_numberOf.f k x1).bind fun t289 => (if (wrap64 ((x5.length : Int) - 1)) = 0 then (none) else ((laws_jSwapped.f x5 (Int.tmod t289 (wrap64 ((x5.length : Int) - 1)))).bind fun t290 => ((impl_TakenPlaces.f k t290 x6).bind fun bt293 => ((impl_TotalDistance.f k t290 x6).bind fun bt297 => (if (bt293.2 != x12) = true then (some false) else ((laws_jSame.f k bt293.1 x11).bind fun t299 => (if t299 = true then (if (bt297.2 != x16) = true then (some false) else (if bt297.1 = x15 then (laws_FnTakenPlacesStay.j2 k x5 x7 x8 x11 x13 x15 x17) else (some false))) else (some false))))))))) else (laws_FnTakenPlacesStay.j2 k x5 x7 x8 x11 x13 x15 x17))
def laws_FnTakenPlacesStay.j2 : Nat → List Int → List Int → Bool → List Int → List Int → Int → List Int → Option (Bool)
 | 0, _, _, _, _, _, _, _ => none
 | k + 1, x5, x7, x8, x11, x13, x15, x17 => if x8 = true then (laws_FnTakenPlacesStay.l0 k x5 x7 x11 x13 x15 x17 0 x7 (x7.length : Int) 0) else (some true)
def laws_FnTakenPlacesStay.l0 : Nat → List Int → List Int → List Int → List Int → Int → List Int → Int → List Int → Int → Int → Option (Bool)
 | 0, _, _, _, _, _, _, _, _, _, _ => none
 | k + 1, x5, x7, x11, x13, x15, x17, x26, x166, x167, x168 => if x168 < x167 then (if 0 ≤ x168 then (if x168 < (x166.length : Int) then (if x168 < (x5.length : Int) then (if x168 < (x13.length : Int) then (if (wrap64 ((rd x166 x168) - (rd x5 x168))) = (rd x13 x168) then (if (rd x13 x168) < 0 then (laws_FnTakenPlacesStay.j4 k x5 x7 x11 x13 x15 x17 x26 x168 (rd x166 x168) x166 x167 x168 true) else (if x168 ≤ (x7.length : Int) then ((laws_jHas.f k (x7.take (x168 : Int).toNat) (rd x166 x168)).bind fun t309 => (if t309 = true then (laws_FnTakenPlacesStay.j4 k x5 x7 x11 x13 x15 x17 x26 x168 (rd x166 x168) x166 x167 x168 true) else ((laws_jHas.f k x11 (rd x166 x168)).bind fun t310 => (if t310 = true then ((laws_jHas.f k x17 x168).bind fun t312 => (laws_FnTakenPlacesStay.j4 k x5 x7 x11 x13 x15 x17 x26 x168 (rd x166 x168) x166 x167 x168 (((rd x13 x168) == 0) != t312))) else (laws_FnTakenPlacesStay.j4 k x5 x7 x11 x13 x15 x17 x26 x168 (rd x166 x168) x166 x167 x168 true))))) else (none))) else (laws_FnTakenPlacesStay.j4 k x5 x7 x11 x13 x15 x17 x26 x168 (rd x166 x168) x166 x167 x168 true)) else (none)) else (none)) else (none)) else (none)) else ((laws_jSum.f k x13).bind fun t300 => (if x15 = t300 then (if x26 = (x17.length : Int) then (some ((x11.length : Int) == (x5.length : Int))) else (some false)) else (some false)))
def laws_FnTakenPlacesStay.j4 : Nat → List Int → List Int → List Int → List Int → Int → List Int → Int → Int → Int → List Int → Int → Int → Bool → Option (Bool)
 | 0, _, _, _, _, _, _, _, _, _, _, _, _, _ => none
 | k + 1, x5, x7, x11, x13, x15, x17, x26, x27, x28, x166, x167, x168, x214 => if x214 = true then (some false) else (if 0 ≤ x27 then (if x27 < (x5.length : Int) then (laws_FnTakenPlacesStay.l1 k x5 x7 x11 x13 x15 x17 x26 x27 x28 (rd x5 x27) x166 x167 x168) else (none)) else (none))
def laws_FnTakenPlacesStay.l1 : Nat → List Int → List Int → List Int → List Int → Int → List Int → Int → Int → Int → Int → List Int → Int → Int → Option (Bool)
 | 0, _, _, _, _, _, _, _, _, _, _, _, _, _ => none
 | k + 1, x5, x7, x11, x13, x15, x17, x26, x27, x28, x29, x166, x167, x168 => if x29 < x28 then (if 0 ≤ x27 then (if x27 ≤ (x7.length : Int) then ((laws_jHas.f k (x7.take (x27 : Int).toNat) x29).bind fun t318 => (if t318 = true then (laws_FnTakenPlacesStay.l1 k x5 x7 x11 x13 x15 x17 x26 x27 x28 (wrap64 (x29 + 1)) x166 x167 x168) else (some false))) else (none)) else (none)) else (if 0 ≤ x27 then (if x27 < (x13.length : Int) then (if (rd x13 x27) = 0 then (laws_FnTakenPlacesStay.l0 k x5 x7 x11 x13 x15 x17 (wrap64 (x26 + 1)) x166 x167 (wrap64 (x168 + 1))) else (laws_FnTakenPlacesStay.l0 k x5 x7 x11 x13 x15 x17 x26 x166 x167 (wrap64 (x168 + 1)))) else (none)) else (none))
end
def laws_FnTakenPlacesStay.f (k : Nat) (l0 : List Int) (l1 : List Int) : Option (Bool) := (laws_big.f l0 l1).bind fun t258 => (if t258 = true then (some true) else ((spec_DrawDriveCars.f k l0).bind fun bt259 => ((impl_DriveCars.f k bt259.1 bt259.2).bind fun bt263 => ((spec_DriveCars.f k bt259.1 bt259.2).bind fun bt267 => (if (bt263.2 != bt267.2) = true then (laws_FnTakenPlacesStay.j0 k l1 bt259.1 bt259.2 bt263.1 bt263.2 true) else ((laws_jSame.f k bt263.1 bt267.1).bind fun t271 => (laws_FnTakenPlacesStay.j0 k l1 bt259.1 bt259.2 bt263.1 bt263.2 (!t271))))))))
theorem laws_FnTakenPlacesStay.mono_l : ∀ k, (∀ y0 y1 y2 y3 y4 y5, LeO (laws_FnTakenPlacesStay.j0 k y0 y1 y2 y3 y4 y5) (laws_FnTakenPlacesStay.j0 (k + 1) y0 y1 y2 y3 y4 y5)) ∧ (∀ y0 y1 y2 y3 y4 y5 y6 y7 y8 y9 y10 y11, LeO (laws_FnTakenPlacesStay.j1 k y0 y1 y2 y3 y4 y5 y6 y7 y8 y9 y10 y11) (laws_FnTakenPlacesStay.j1 (k + 1) y0 y1 y2 y3 y4 y5 y6 y7 y8 y9 y10 y11)) ∧ (∀ y0 y1 y2 y3 y4 y5 y6, LeO (laws_FnTakenPlacesStay.j2 k y0 y1 y2 y3 y4 y5 y6) (laws_FnTakenPlacesStay.j2 (k + 1) y0 y1 y2 y3 y4 y5 y6)) ∧ (∀ y0 y1 y2 y3 y4 y5 y6 y7 y8 y9, LeO (laws_FnTakenPlacesStay.l0 k y0 y1 y2 y3 y4 y5 y6 y7 y8 y9) (laws_FnTakenPlacesStay.l0 (k + 1) y0 y1 y2 y3 y4 y5 y6 y7 y8 y9)) ∧ (∀ y0 y1 y2 y3 y4 y5 y6 y7 y8 y9 y10 y11 y12, LeO (laws_FnTakenPlacesStay.j4 k y0 y1 y2 y3 y4 y5 y6 y7 y8 y9 y10 y11 y12) (laws_FnTakenPlacesStay.j4 (k + 1) y0 y1 y2 y3 y4 y5 y6 y7 y8 y9 y10 y11 y12)) ∧ (∀ y0 y1 y2 y3 y4 y5 y6 y7 y8 y9 y10 y11 y12, LeO (laws_FnTakenPlacesStay.l1 k y0 y1 y2 y3 y4 y5 y6 y7 y8 y9 y10 y11 y12) (laws_FnTakenPlacesStay.l1 (k + 1) y0 y1 y2 y3 y4 y5 y6 y7 y8 y9 y10 y11 y12))
 | 0 => ⟨fun _ _ _ _ _ _ r h => by simp [laws_FnTakenPlacesStay.j0] at h, fun _ _ _ _ _ _ _ _ _ _ _ _ r h => by simp [laws_FnTakenPlacesStay.j1] at h, fun _ _ _ _ _ _ _ r h => by simp [laws_FnTakenPlacesStay.j2] at h, fun _ _ _ _ _ _ _ _ _ _ r h => by simp [laws_FnTakenPlacesStay.l0] at h, fun _ _ _ _ _ _ _ _ _ _ _ _ _ r h => by simp [laws_FnTakenPlacesStay.j4] at h, fun _ _ _ _ _ _ _ _ _ _ _ _ _ r h => by simp [laws_FnTakenPlacesStay.l1] at h⟩
 | k + 1 => by
  obtain ⟨ih0, ih1, ih2, ih3, ih4, ih5⟩ := laws_FnTakenPlacesStay.mono_l k
  refine ⟨?_, ?_, ?_, ?_, ?_, ?_⟩
  ·intro y0 y1 y2 y3 y4 y5
   unfold laws_FnTakenPlacesStay.j0
   repeat' first
   | (with_reducible exact ih0 _ _ _ _ _ _)
   | (with_reducible exact ih1 _ _ _ _ _ _ _ _ _ _ _ _)
   | (with_reducible exact ih2 _ _ _ _ _ _ _)
   | (with_reducible exact ih3 _ _ _ _ _ _ _ _ _ _)
   | (with_reducible exact ih4 _ _ _ _ _ _ _ _ _ _ _ _ _)
   | (with_reducible exact ih5 _ _ _ _ _ _ _ _ _ _ _ _ _)
   | (with_reducible exact impl_DistancesOf.mono _ _ _)
   | (with_reducible exact impl_DoAllPark.mono _ _ _)
   | (with_reducible exact impl_DriveCars.mono _ _ _)
   | (with_reducible exact impl_LuckyCars.mono _ _ _)
   | (with_reducible exact impl_TakenPlaces.mono _ _ _)
   | (with_reducible exact impl_TotalDistance.mono _ _ _)
   | (with_reducible exact laws_jHas.mono _ _ _)
   | (with_reducible exact laws_jSame.mono _ _ _)
   | (with_reducible exact laws_jSum.mono _ _)
   | (with_reducible exact laws_numberOf.mono _ _)
   | (with_reducible exact spec_DrawDriveCars.mono _ _)
   | (with_reducible exact spec_DriveCars.mono _ _ _)
   | (with_reducible exact LeO.refl _)
   | (with_reducible exact LeO.none _)
   | (with_reducible refine LeO.ite ?_ ?_)
   | (with_reducible refine LeO.bind ?_ (fun _ => ?_))
   | refine LeO.ite ?_ ?_
   | refine LeO.bind ?_ (fun _ => ?_)
  ·intro y0 y1 y2 y3 y4 y5 y6 y7 y8 y9 y10 y11
   unfold laws_FnTakenPlacesStay.j1
   repeat' first
   | (with_reducible exact ih0 _ _ _ _ _ _)
   | (with_reducible exact ih1 _ _ _ _ _ _ _ _ _ _ _ _)
   | (with_reducible exact ih2 _ _ _ _ _ _ _)
   | (with_reducible exact ih3 _ _ _ _ _ _ _ _ _ _)
   | (with_reducible exact ih4 _ _ _ _ _ _ _ _ _ _ _ _ _)
   | (with_reducible exact ih5 _ _ _ _ _ _ _ _ _ _ _ _ _)
   | (with_reducible exact impl_DistancesOf.mono _ _ _)
   | (with_reducible exact impl_DoAllPark.mono _ _ _)
   | (with_reducible exact impl_DriveCars.mono _ _ _)
   | (with_reducible exact impl_LuckyCars.mono _ _ _)
   | (with_reducible exact impl_TakenPlaces.mono _ _ _)
   | (with_reducible exact impl_TotalDistance.mono _ _ _)
   | (with_reducible exact laws_jHas.mono _ _ _)
   | (with_reducible exact laws_jSame.mono _ _ _)
   | (with_reducible exact laws_jSum.mono _ _)
   | (with_reducible exact laws_numberOf.mono _ _)
   | (with_reducible exact spec_DrawDriveCars.mono _ _)
   | (with_reducible exact spec_DriveCars.mono _ _ _)
   | (with_reducible exact LeO.refl _)
   | (with_reducible exact LeO.none _)
   | (with_reducible refine LeO.ite ?_ ?_)
   | (with_reducible refine LeO.bind ?_ (fun _ => ?_))
   | refine LeO.ite ?_ ?_
   | refine LeO.bind ?_ (fun _ => ?_)
  ·intro y0 y1 y2 y3 y4 y5 y6
   unfold laws_FnTakenPlacesStay.j2
   repeat' first
   | (with_reducible exact ih0 _ _ _ _ _ _)
   | (with_reducible exact ih1 _ _ _ _ _ _ _ _ _ _ _ _)
   | (with_reducible exact ih2 _ _ _ _ _ _ _)
   | (with_reducible exact ih3 _ _ _ _ _ _ _ _ _ _)
   | (with_reducible exact ih4 _ _ _ _ _ _ _ _ _ _ _ _ _)
   | (with_reducible exact ih5 _ _ _ _ _ _ _ _ _ _ _ _ _)
   | (with_reducible exact impl_DistancesOf.mono _ _ _)
   | (with_reducible exact impl_DoAllPark.mono _ _ _)
   | (with_reducible exact impl_DriveCars.mono _ _ _)
   | (with_reducible exact impl_LuckyCars.mono _ _ _)
   | (with_reducible exact impl_TakenPlaces.mono _ _ _)
   | (with_reducible exact impl_TotalDistance.mono _ _ _)
   | (with_reducible exact laws_jHas.mono _ _ _)
   | (with_reducible exact laws_jSame.mono _ _ _)
   | (with_reducible exact laws_jSum.mono _ _)
   | (with_reducible exact laws_numberOf.mono _ _)
   | (with_reducible exact spec_DrawDriveCars.mono _ _)
   | (with_reducible exact spec_DriveCars.mono _ _ _)
   | (with_reducible exact LeO.refl _)
   | (with_reducible exact LeO.none _)
   | (with_reducible refine LeO.ite ?_ ?_)
   | (with_reducible refine LeO.bind ?_ (fun _ => ?_))
   | refine LeO.ite ?_ ?_
   | refine LeO.bind ?_ (fun _ => ?_)
  ·intro y0 y1 y2 y3 y4 y5 y6 y7 y8 y9
   unfold laws_FnTakenPlacesStay.l0
   repeat' first
   | (with_reducible exact ih0 _ _ _ _ _ _)
   | (with_reducible exact ih1 _ _ _ _ _ _ _ _ _ _ _ _)
   | (with_reducible exact ih2 _ _ _ _ _ _ _)
   | (with_reducible exact ih3 _ _ _ _ _ _ _ _ _ _)
   | (with_reducible exact ih4 _ _ _ _ _ _ _ _ _ _ _ _ _)
   | (with_reducible exact ih5 _ _ _ _ _ _ _ _ _ _ _ _ _)
   | (with_reducible exact impl_DistancesOf.mono _ _ _)
   | (with_reducible exact impl_DoAllPark.mono _ _ _)
   | (with_reducible exact impl_DriveCars.mono _ _ _)
   | (with_reducible exact impl_LuckyCars.mono _ _ _)
   | (with_reducible exact impl_TakenPlaces.mono _ _ _)
   | (with_reducible exact impl_TotalDistance.mono _ _ _)
   | (with_reducible exact laws_jHas.mono _ _ _)
   | (with_reducible exact laws_jSame.mono _ _ _)
   | (with_reducible exact laws_jSum.mono _ _)
   | (with_reducible exact laws_numberOf.mono _ _)
   | (with_reducible exact spec_DrawDriveCars.mono _ _)
   | (with_reducible exact spec_DriveCars.mono _ _ _)
   | (with_reducible exact LeO.refl _)
   | (with_reducible exact LeO.none _)
   | (with_reducible refine LeO.ite ?_ ?_)
   | (with_reducible refine LeO.bind ?_ (fun _ => ?_))
   | refine LeO.ite ?_ ?_
   | refine LeO.bind ?_ (fun _ => ?_)
  ·intro y0 y1 y2 y3 y4 y5 y6 y7 y8 y9 y10 y11 y12
   unfold laws_FnTakenPlacesStay.j4
   repeat' first
   | (with_reducible exact ih0 _ _ _ _ _ _)
   | (with_reducible exact ih1 _ _ _ _ _ _ _ _ _ _ _ _)
   | (with_reducible exact ih2 _ _ _ _ _ _ _)
   | (with_reducible exact ih3 _ _ _ _ _ _ _ _ _ _)
   | (with_reducible exact ih4 _ _ _ _ _ _ _ _ _ _ _ _ _)
   | (with_reducible exact ih5 _ _ _ _ _ _ _ _ _ _ _ _ _)
   | (with_reducible exact impl_DistancesOf.mono _ _ _)
   | (with_reducible exact impl_DoAllPark.mono _ _ _)
   | (with_reducible exact impl_DriveCars.mono _ _ _)
   | (with_reducible exact impl_LuckyCars.mono _ _ _)
   | (with_reducible exact impl_TakenPlaces.mono _ _ _)
   | (with_reducible exact impl_TotalDistance.mono _ _ _)
   | (with_reducible exact laws_jHas.mono _ _ _)
   | (with_reducible exact laws_jSame.mono _ _ _)
   | (with_reducible exact laws_jSum.mono _ _)
   | (with_reducible exact laws_numberOf.mono _ _)
   | (with_reducible exact spec_DrawDriveCars.mono _ _)
   | (with_reducible exact spec_DriveCars.mono _ _ _)
   | (with_reducible exact LeO.refl _)
   | (with_reducible exact LeO.none _)
   | (with_reducible refine LeO.ite ?_ ?_)
   | (with_reducible refine LeO.bind ?_ (fun _ => ?_))
   | refine LeO.ite ?_ ?_
   | refine LeO.bind ?_ (fun _ => ?_)
  ·intro y0 y1 y2 y3 y4 y5 y6 y7 y8 y9 y10 y11 y12
   unfold laws_FnTakenPlacesStay.l1
   repeat' first
   | (with_reducible exact ih0 _ _ _ _ _ _)
   | (with_reducible exact ih1 _ _ _ _ _ _ _ _ _ _ _ _)
   | (with_reducible exact ih2 _ _ _ _ _ _ _)
   | (with_reducible exact ih3 _ _ _ _ _ _ _ _ _ _)
   | (with_reducible exact ih4 _ _ _ _ _ _ _ _ _ _ _ _ _)
   | (with_reducible exact ih5 _ _ _ _ _ _ _ _ _ _ _ _ _)
   | (with_reducible exact impl_DistancesOf.mono _ _ _)
   | (with_reducible exact impl_DoAllPark.mono _ _ _)
   | (with_reducible exact impl_DriveCars.mono _ _ _)
   | (with_reducible exact impl_LuckyCars.mono _ _ _)
   | (with_reducible exact impl_TakenPlaces.mono _ _ _)
   | (with_reducible exact impl_TotalDistance.mono _ _ _)
   | (with_reducible exact laws_jHas.mono _ _ _)
   | (with_reducible exact laws_jSame.mono _ _ _)
   | (with_reducible exact laws_jSum.mono _ _)
   | (with_reducible exact laws_numberOf.mono _ _)
   | (with_reducible exact spec_DrawDriveCars.mono _ _)
   | (with_reducible exact spec_DriveCars.mono _ _ _)
   | (with_reducible exact LeO.refl _)
   | (with_reducible exact LeO.none _)
   | (with_reducible refine LeO.ite ?_ ?_)
   | (with_reducible refine LeO.bind ?_ (fun _ => ?_))
   | refine LeO.ite ?_ ?_
   | refine LeO.bind ?_ (fun _ => ?_)
theorem laws_FnTakenPlacesStay.mono : ∀ a0 a1 k, LeO (laws_FnTakenPlacesStay.f k a0 a1) (laws_FnTakenPlacesStay.f (k + 1) a0 a1) := by
 intro a0 a1 k
 obtain ⟨ih0, ih1, ih2, ih3, ih4, ih5⟩ := laws_FnTakenPlacesStay.mono_l k
 unfold laws_FnTakenPlacesStay.f
 repeat' first
   | (with_reducible exact ih0 _ _ _ _ _ _)
   | (with_reducible exact ih1 _ _ _ _ _ _ _ _ _ _ _ _)
   | (with_reducible exact ih2 _ _ _ _ _ _ _)
   | (with_reducible exact ih3 _ _ _ _ _ _ _ _ _ _)
   | (with_reducible exact ih4 _ _ _ _ _ _ _ _ _ _ _ _ _)
   | (with_reducible exact ih5 _ _ _ _ _ _ _ _ _ _ _ _ _)
   | (with_reducible exact impl_DistancesOf.mono _ _ _)
   | (with_reducible exact impl_DoAllPark.mono _ _ _)
   | (with_reducible exact impl_DriveCars.mono _ _ _)
   | (with_reducible exact impl_LuckyCars.mono _ _ _)
   | (with_reducible exact impl_TakenPlaces.mono _ _ _)
   | (with_reducible exact impl_TotalDistance.mono _ _ _)
   | (with_reducible exact laws_jHas.mono _ _ _)
   | (with_reducible exact laws_jSame.mono _ _ _)
   | (with_reducible exact laws_jSum.mono _ _)
   | (with_reducible exact laws_numberOf.mono _ _)
   | (with_reducible exact spec_DrawDriveCars.mono _ _)
   | (with_reducible exact spec_DriveCars.mono _ _ _)
   | (with_reducible exact LeO.refl _)
   | (with_reducible exact LeO.none _)
   | (with_reducible refine LeO.ite ?_ ?_)
   | (with_reducible refine LeO.bind ?_ (fun _ => ?_))
   | refine LeO.ite ?_ ?_
   | refine LeO.bind ?_ (fun _ => ?_)
def laws_FnTakenPlacesStay.T27 : Bool × List (List Nat × List Nat) := (true, [([], []), ([], []), ([], []), ([1, 2], [1, 2]), ([3], [3]), ([0, 4], [0, 4]), ([], []), ([], []), ([6, 7], [6, 7]), ([8], [8]), ([5, 9], [5, 9]), ([10], [10]), ([11], [11]), ([11], [11]), ([12, 13, 11], [11, 12, 13]), ([14, 11], [11, 14]), ([15, 11], [11, 15]), ([11, 16], [11, 16]), ([17, 11], [17]), ([18], [18]), ([18], [18]), ([19, 20, 18], [18, 19, 20]), ([18], [18]), ([21, 22, 18, 18], [18, 21, 22]), ([18, 23], [18, 23]), ([24, 23], [24]), ([25], [25]), ([25], [25]), ([26, 27, 25, 25], [25, 26, 27]), ([28, 25], [25, 28]), ([25, 29], [25, 29]), ([30, 28], [30]), ([31], [31]), ([31], [31]), ([32, 33, 31], [31, 32, 33]), ([34, 31], [31, 34]), ([35, 31], [31, 35]), ([31], [31]), ([31], [31]), ([37, 38, 31, 31], [31, 37, 38]), ([36, 39, 31], [31, 36, 39]), ([31, 40], [31, 40])])
def laws_FnTakenPlacesStay.B27 : List Nat := [0, 0, 0, 6, 14, 31, 0, 0, 192, 448, 1023, 2047, 4095, 4095, 16383, 32767, 65535, 131071, 262143, 524287, 524287, 2097151, 524287, 8388607, 16777215, 33554431, 67108863, 67108863, 268435455, 536870911, 1073741823, 2147483647, 4294967295, 4294967295, 17179869183, 34359738367, 68719476735, 4294967295, 4294967295, 416611827711, 1099511627775, 2199023255551]
theorem laws_FnTakenPlacesStay.tab27 : rtab .any (opsOf Try.f11 27) = laws_FnTakenPlacesStay.T27 := by kernel_rfl
theorem laws_FnTakenPlacesStay.bits27 : waitsOk laws_FnTakenPlacesStay.T27.2 laws_FnTakenPlacesStay.B27 = true := by kernel_rfl

abbrev T : Bool := true
abbrev F : Bool := false
theorem sa_ {α : Type} (l : List α) (i : Nat) (a : α) : l.toArray.setIfInBounds i a = (l.set i a).toArray := List.setIfInBounds_toArray l i a
theorem sz_ {α : Type} (a b : α) (l : List α) : (a :: l).set 0 b = b :: l := rfl
theorem ss_ {α : Type} (a b : α) (l : List α) (n : Nat) : (a :: l).set (n + 1) b = a :: l.set n b := rfl
end Go.Proofs.Ytdiohjdfiambhaa.QFnTakenPlacesStay
