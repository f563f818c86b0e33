/- Proved here: each Go function named below, when called, returns what the Lean function of its name computes, wherever that function answers. Text written by this session's program over the kit's print; law FnCircles. -/
import Derived.Test.YtdiohjdfiambhaaQFnCirclesx0
import Derived.Test.YtdiohjdfiambhaaQFnCirclesx1
import Derived.Test.YtdiohjdfiambhaaQFnCirclesx2
import Derived.Test.YtdiohjdfiambhaaQFnCirclesx3
import Derived.Test.YtdiohjdfiambhaaQFnCirclesx4
import Derived.Test.YtdiohjdfiambhaaQFnCirclesx5
import Derived.Test.YtdiohjdfiambhaaQFnCirclesx6
namespace Go.Proofs.Ytdiohjdfiambhaa.QFnCircles
open Go.RowKit Go.Proofs.YtdiohjdfiambhaaW.PrintWords Go.Proofs.YtdiohjdfiambhaaW.PrintLast Go.Proofs.YtdiohjdfiambhaaW.PrintMore
attribute [local go_sem] max2_int min2_int max_two min_two max_three min_three max_four min_four   -- for this text's walks alone
set_option linter.unusedVariables false
set_option linter.unusedSimpArgs false

/-! ### laws_FnCircles: function 3 -/
mutual
def laws_FnCircles.j0 : Nat → List Int → List Int → List Int → Int → Bool → Int → Bool → Option (Bool)
  | 0, _, _, _, _, _, _, _ => none
  | k + 1, x1, x5, x6, x7, x8, x12, x98 => if x98 = true then (some false) else (if x8 = true then (laws_FnCircles.l0 k x1 x5 x6 x7 x12 (x5.length : Int) 0 0) else (laws_FnCircles.j3 k x1))
def laws_FnCircles.j3 : Nat → List Int → Option (Bool)
  | 0, _ => none
  | k + 1, x1 => (spec_DrawDriveCircle.f k x1).bind fun bt394 => ((impl_DriveCircle.f k bt394.1 bt394.2).bind fun bt398 => ((spec_DriveCircle.f k bt394.1 bt394.2).bind fun bt402 => ((spec_DrawTurnFavourites.f k x1).bind fun bt406 => ((impl_TurnFavourites.f k bt406.1 bt406.2.1 bt406.2.2).bind fun bt411 => ((spec_TurnFavourites.f k bt406.1 bt406.2.1 bt406.2.2).bind fun bt415 => (if (bt398.2 != bt402.2) = true then (laws_FnCircles.j4 k bt394.1 bt394.2 bt398.1 bt398.2 true) else ((laws_jSame.f k bt398.1 bt402.1).bind fun t419 => (if t419 = true then (if (bt411.2 != bt415.2) = true then (laws_FnCircles.j4 k bt394.1 bt394.2 bt398.1 bt398.2 true) else ((laws_jSame.f k bt411.1 bt415.1).bind fun t420 => (laws_FnCircles.j4 k bt394.1 bt394.2 bt398.1 bt398.2 (!t420)))) else (laws_FnCircles.j4 k bt394.1 bt394.2 bt398.1 bt398.2 true)))))))))
def laws_FnCircles.j4 : Nat → List Int → Int → List Int → Bool → Bool → Option (Bool)
  | 0, _, _, _, _, _ => none
  | k + 1, x28, x29, x30, x31, x241 => if x241 = true then (some false) else (if x31 = true then ((impl_DriveCars.f k x28 x29).bind fun bt421 => (if bt421.2 = true then ((laws_jSame.f k bt421.1 x30).bind fun t425 => (some t425)) else (some true))) else (some true))
def laws_FnCircles.l0 : Nat → List Int → List Int → List Int → Int → Int → Int → Int → Int → Option (Bool)
  | 0, _, _, _, _, _, _, _, _ => none
  | k + 1, x1, x5, x6, x7, x12, x16, x17, x18 => if x18 ≤ x16 then ((impl_TurnFavourites.f k x5 (wrap64 (x16 + 1)) x18).bind fun bt377 => ((impl_IsParking.f k bt377.1).bind fun bt381 => ((impl_FreeOnCircle.f k bt377.1).bind fun bt383 => (if bt377.2 = true then (if bt381.2 = true then (if bt383.2 = true then (if (wrap64 (x16 + 1)) = 0 then (none) else (if bt383.1 = (Int.tmod (wrap64 (x12 + x18)) (wrap64 (x16 + 1))) then (laws_FnCircles.j2 k x1 x5 x6 x7 x12 x16 x17 x18 bt377.1 bt381.1 (bt381.1 != (x18 == x7))) else (laws_FnCircles.j2 k x1 x5 x6 x7 x12 x16 x17 x18 bt377.1 bt381.1 true))) else (laws_FnCircles.j2 k x1 x5 x6 x7 x12 x16 x17 x18 bt377.1 bt381.1 true)) else (laws_FnCircles.j2 k x1 x5 x6 x7 x12 x16 x17 x18 bt377.1 bt381.1 true)) else (laws_FnCircles.j2 k x1 x5 x6 x7 x12 x16 x17 x18 bt377.1 bt381.1 true))))) else (if x16 > 1 then ((laws_numberOf.f k x1).bind fun t386 => (if (wrap64 (x16 - 1)) = 0 then (none) else ((laws_jSwapped.f x5 (Int.tmod t386 (wrap64 (x16 - 1)))).bind fun t387 => ((impl_FreeOnCircle.f k t387).bind fun bt390 => (if x17 = 1 then (if bt390.2 = true then (if bt390.1 = x12 then (laws_FnCircles.j3 k x1) else (some false)) else (some false)) else (some false)))))) else ((impl_FreeOnCircle.f k x5).bind fun bt392 => (if x17 = 1 then (if bt392.2 = true then (if bt392.1 = x12 then (laws_FnCircles.j3 k x1) else (some false)) else (some false)) else (some false))))
def laws_FnCircles.j2 : Nat → List Int → List Int → List Int → Int → Int → Int → Int → Int → List Int → Bool → Bool → Option (Bool)
  | 0, _, _, _, _, _, _, _, _, _, _, _ => none
  | k + 1, x1, x5, x6, x7, x12, x16, x17, x18, x19, x21, x151 => if x151 = true then (some false) else (if x21 = true then ((laws_jSame.f k x19 x6).bind fun t385 => (if t385 = true then (laws_FnCircles.l0 k x1 x5 x6 x7 x12 x16 (wrap64 (x17 + 1)) (wrap64 (x18 + 1))) else (some false))) else (laws_FnCircles.l0 k x1 x5 x6 x7 x12 x16 x17 (wrap64 (x18 + 1))))
end
def laws_FnCircles.f (k : Nat) (l0 : List Int) (l1 : List Int) : Option (Bool) := (laws_big.f l0 l1).bind fun t358 => (if t358 = true then (some true) else ((spec_DrawParkingOfClass.f k l0).bind fun t359 => ((impl_ParkingOfClass.f k t359).bind fun bt362 => ((spec_ParkingOfClass.f k t359).bind fun bt367 => ((impl_FreeOnCircle.f k t359).bind fun bt372 => ((spec_FreeOnCircle.f k t359).bind fun bt374 => (if (bt362.2.2 != bt367.2.2) = true then (laws_FnCircles.j0 k l1 t359 bt362.1 bt362.2.1 bt362.2.2 bt372.1 true) else ((laws_jSame.f k bt362.1 bt367.1).bind fun t376 => (if t376 = true then (if bt362.2.1 = bt367.2.1 then (if (bt372.2 != bt374.2) = true then (laws_FnCircles.j0 k l1 t359 bt362.1 bt362.2.1 bt362.2.2 bt372.1 true) else (if bt372.1 = bt374.1 then (laws_FnCircles.j0 k l1 t359 bt362.1 bt362.2.1 bt362.2.2 bt372.1 (bt372.2 != bt362.2.2)) else (laws_FnCircles.j0 k l1 t359 bt362.1 bt362.2.1 bt362.2.2 bt372.1 true))) else (laws_FnCircles.j0 k l1 t359 bt362.1 bt362.2.1 bt362.2.2 bt372.1 true)) else (laws_FnCircles.j0 k l1 t359 bt362.1 bt362.2.1 bt362.2.2 bt372.1 true))))))))))
theorem laws_FnCircles.mono_l : ∀ k, (∀ y0 y1 y2 y3 y4 y5 y6, LeO (laws_FnCircles.j0 k y0 y1 y2 y3 y4 y5 y6) (laws_FnCircles.j0 (k + 1) y0 y1 y2 y3 y4 y5 y6)) ∧ (∀ y0, LeO (laws_FnCircles.j3 k y0) (laws_FnCircles.j3 (k + 1) y0)) ∧ (∀ y0 y1 y2 y3 y4, LeO (laws_FnCircles.j4 k y0 y1 y2 y3 y4) (laws_FnCircles.j4 (k + 1) y0 y1 y2 y3 y4)) ∧ (∀ y0 y1 y2 y3 y4 y5 y6 y7, LeO (laws_FnCircles.l0 k y0 y1 y2 y3 y4 y5 y6 y7) (laws_FnCircles.l0 (k + 1) y0 y1 y2 y3 y4 y5 y6 y7)) ∧ (∀ y0 y1 y2 y3 y4 y5 y6 y7 y8 y9 y10, LeO (laws_FnCircles.j2 k y0 y1 y2 y3 y4 y5 y6 y7 y8 y9 y10) (laws_FnCircles.j2 (k + 1) y0 y1 y2 y3 y4 y5 y6 y7 y8 y9 y10))
  | 0 => ⟨fun _ _ _ _ _ _ _ r h => by simp [laws_FnCircles.j0] at h, fun _ r h => by simp [laws_FnCircles.j3] at h, fun _ _ _ _ _ r h => by simp [laws_FnCircles.j4] at h, fun _ _ _ _ _ _ _ _ r h => by simp [laws_FnCircles.l0] at h, fun _ _ _ _ _ _ _ _ _ _ _ r h => by simp [laws_FnCircles.j2] at h⟩
  | k + 1 => by
    obtain ⟨ih0, ih1, ih2, ih3, ih4⟩ := laws_FnCircles.mono_l k
    refine ⟨?_, ?_, ?_, ?_, ?_⟩
    · intro y0 y1 y2 y3 y4 y5 y6
      unfold laws_FnCircles.j0
      repeat' first
      | (with_reducible exact ih0 _ _ _ _ _ _ _)
      | (with_reducible exact ih1 _)
      | (with_reducible exact ih2 _ _ _ _ _)
      | (with_reducible exact ih3 _ _ _ _ _ _ _ _)
      | (with_reducible exact ih4 _ _ _ _ _ _ _ _ _ _ _)
      | (with_reducible exact impl_DriveCars.mono _ _ _)
      | (with_reducible exact impl_DriveCircle.mono _ _ _)
      | (with_reducible exact impl_FreeOnCircle.mono _ _)
      | (with_reducible exact impl_IsParking.mono _ _)
      | (with_reducible exact impl_ParkingOfClass.mono _ _)
      | (with_reducible exact impl_TurnFavourites.mono _ _ _ _)
      | (with_reducible exact laws_jSame.mono _ _ _)
      | (with_reducible exact laws_numberOf.mono _ _)
      | (with_reducible exact spec_DrawDriveCircle.mono _ _)
      | (with_reducible exact spec_DrawParkingOfClass.mono _ _)
      | (with_reducible exact spec_DrawTurnFavourites.mono _ _)
      | (with_reducible exact spec_DriveCircle.mono _ _ _)
      | (with_reducible exact spec_FreeOnCircle.mono _ _)
      | (with_reducible exact spec_ParkingOfClass.mono _ _)
      | (with_reducible exact spec_TurnFavourites.mono _ _ _ _)
      | (with_reducible exact LeO.refl _)
      | (with_reducible exact LeO.none _)
      | (with_reducible refine LeO.ite ?_ ?_)
      | (with_reducible refine LeO.bind ?_ (fun _ => ?_))
      | exact ih0 _ _ _ _ _ _ _
      | exact ih1 _
      | exact ih2 _ _ _ _ _
      | exact ih3 _ _ _ _ _ _ _ _
      | exact ih4 _ _ _ _ _ _ _ _ _ _ _
      | exact impl_DriveCars.mono _ _ _
      | exact impl_DriveCircle.mono _ _ _
      | exact impl_FreeOnCircle.mono _ _
      | exact impl_IsParking.mono _ _
      | exact impl_ParkingOfClass.mono _ _
      | exact impl_TurnFavourites.mono _ _ _ _
      | exact laws_jSame.mono _ _ _
      | exact laws_numberOf.mono _ _
      | exact spec_DrawDriveCircle.mono _ _
      | exact spec_DrawParkingOfClass.mono _ _
      | exact spec_DrawTurnFavourites.mono _ _
      | exact spec_DriveCircle.mono _ _ _
      | exact spec_FreeOnCircle.mono _ _
      | exact spec_ParkingOfClass.mono _ _
      | exact spec_TurnFavourites.mono _ _ _ _
      | exact LeO.none _
      | refine LeO.ite ?_ ?_
      | refine LeO.bind ?_ (fun _ => ?_)
    · intro y0
      unfold laws_FnCircles.j3
      repeat' first
      | (with_reducible exact ih0 _ _ _ _ _ _ _)
      | (with_reducible exact ih1 _)
      | (with_reducible exact ih2 _ _ _ _ _)
      | (with_reducible exact ih3 _ _ _ _ _ _ _ _)
      | (with_reducible exact ih4 _ _ _ _ _ _ _ _ _ _ _)
      | (with_reducible exact impl_DriveCars.mono _ _ _)
      | (with_reducible exact impl_DriveCircle.mono _ _ _)
      | (with_reducible exact impl_FreeOnCircle.mono _ _)
      | (with_reducible exact impl_IsParking.mono _ _)
      | (with_reducible exact impl_ParkingOfClass.mono _ _)
      | (with_reducible exact impl_TurnFavourites.mono _ _ _ _)
      | (with_reducible exact laws_jSame.mono _ _ _)
      | (with_reducible exact laws_numberOf.mono _ _)
      | (with_reducible exact spec_DrawDriveCircle.mono _ _)
      | (with_reducible exact spec_DrawParkingOfClass.mono _ _)
      | (with_reducible exact spec_DrawTurnFavourites.mono _ _)
      | (with_reducible exact spec_DriveCircle.mono _ _ _)
      | (with_reducible exact spec_FreeOnCircle.mono _ _)
      | (with_reducible exact spec_ParkingOfClass.mono _ _)
      | (with_reducible exact spec_TurnFavourites.mono _ _ _ _)
      | (with_reducible exact LeO.refl _)
      | (with_reducible exact LeO.none _)
      | (with_reducible refine LeO.ite ?_ ?_)
      | (with_reducible refine LeO.bind ?_ (fun _ => ?_))
      | exact ih0 _ _ _ _ _ _ _
      | exact ih1 _
      | exact ih2 _ _ _ _ _
      | exact ih3 _ _ _ _ _ _ _ _
      | exact ih4 _ _ _ _ _ _ _ _ _ _ _
      | exact impl_DriveCars.mono _ _ _
      | exact impl_DriveCircle.mono _ _ _
      | exact impl_FreeOnCircle.mono _ _
      | exact impl_IsParking.mono _ _
      | exact impl_ParkingOfClass.mono _ _
      | exact impl_TurnFavourites.mono _ _ _ _
      | exact laws_jSame.mono _ _ _
      | exact laws_numberOf.mono _ _
      | exact spec_DrawDriveCircle.mono _ _
      | exact spec_DrawParkingOfClass.mono _ _
      | exact spec_DrawTurnFavourites.mono _ _
      | exact spec_DriveCircle.mono _ _ _
      | exact spec_FreeOnCircle.mono _ _
      | exact spec_ParkingOfClass.mono _ _
      | exact spec_TurnFavourites.mono _ _ _ _
      | exact LeO.none _
      | refine LeO.ite ?_ ?_
      | refine LeO.bind ?_ (fun _ => ?_)
    · intro y0 y1 y2 y3 y4
      unfold laws_FnCircles.j4
      repeat' first
      | (with_reducible exact ih0 _ _ _ _ _ _ _)
      | (with_reducible exact ih1 _)
      | (with_reducible exact ih2 _ _ _ _ _)
      | (with_reducible exact ih3 _ _ _ _ _ _ _ _)
      | (with_reducible exact ih4 _ _ _ _ _ _ _ _ _ _ _)
      | (with_reducible exact impl_DriveCars.mono _ _ _)
      | (with_reducible exact impl_DriveCircle.mono _ _ _)
      | (with_reducible exact impl_FreeOnCircle.mono _ _)
      | (with_reducible exact impl_IsParking.mono _ _)
      | (with_reducible exact impl_ParkingOfClass.mono _ _)
      | (with_reducible exact impl_TurnFavourites.mono _ _ _ _)
      | (with_reducible exact laws_jSame.mono _ _ _)
      | (with_reducible exact laws_numberOf.mono _ _)
      | (with_reducible exact spec_DrawDriveCircle.mono _ _)
      | (with_reducible exact spec_DrawParkingOfClass.mono _ _)
      | (with_reducible exact spec_DrawTurnFavourites.mono _ _)
      | (with_reducible exact spec_DriveCircle.mono _ _ _)
      | (with_reducible exact spec_FreeOnCircle.mono _ _)
      | (with_reducible exact spec_ParkingOfClass.mono _ _)
      | (with_reducible exact spec_TurnFavourites.mono _ _ _ _)
      | (with_reducible exact LeO.refl _)
      | (with_reducible exact LeO.none _)
      | (with_reducible refine LeO.ite ?_ ?_)
      | (with_reducible refine LeO.bind ?_ (fun _ => ?_))
      | exact ih0 _ _ _ _ _ _ _
      | exact ih1 _
      | exact ih2 _ _ _ _ _
      | exact ih3 _ _ _ _ _ _ _ _
      | exact ih4 _ _ _ _ _ _ _ _ _ _ _
      | exact impl_DriveCars.mono _ _ _
      | exact impl_DriveCircle.mono _ _ _
      | exact impl_FreeOnCircle.mono _ _
      | exact impl_IsParking.mono _ _
      | exact impl_ParkingOfClass.mono _ _
      | exact impl_TurnFavourites.mono _ _ _ _
      | exact laws_jSame.mono _ _ _
      | exact laws_numberOf.mono _ _
      | exact spec_DrawDriveCircle.mono _ _
      | exact spec_DrawParkingOfClass.mono _ _
      | exact spec_DrawTurnFavourites.mono _ _
      | exact spec_DriveCircle.mono _ _ _
      | exact spec_FreeOnCircle.mono _ _
      | exact spec_ParkingOfClass.mono _ _
      | exact spec_TurnFavourites.mono _ _ _ _
      | exact LeO.none _
      | refine LeO.ite ?_ ?_
      | refine LeO.bind ?_ (fun _ => ?_)
    · intro y0 y1 y2 y3 y4 y5 y6 y7
      unfold laws_FnCircles.l0
      repeat' first
      | (with_reducible exact ih0 _ _ _ _ _ _ _)
      | (with_reducible exact ih1 _)
      | (with_reducible exact ih2 _ _ _ _ _)
      | (with_reducible exact ih3 _ _ _ _ _ _ _ _)
      | (with_reducible exact ih4 _ _ _ _ _ _ _ _ _ _ _)
      | (with_reducible exact impl_DriveCars.mono _ _ _)
      | (with_reducible exact impl_DriveCircle.mono _ _ _)
      | (with_reducible exact impl_FreeOnCircle.mono _ _)
      | (with_reducible exact impl_IsParking.mono _ _)
      | (with_reducible exact impl_ParkingOfClass.mono _ _)
      | (with_reducible exact impl_TurnFavourites.mono _ _ _ _)
      | (with_reducible exact laws_jSame.mono _ _ _)
      | (with_reducible exact laws_numberOf.mono _ _)
      | (with_reducible exact spec_DrawDriveCircle.mono _ _)
      | (with_reducible exact spec_DrawParkingOfClass.mono _ _)
      | (with_reducible exact spec_DrawTurnFavourites.mono _ _)
      | (with_reducible exact spec_DriveCircle.mono _ _ _)
      | (with_reducible exact spec_FreeOnCircle.mono _ _)
      | (with_reducible exact spec_ParkingOfClass.mono _ _)
      | (with_reducible exact spec_TurnFavourites.mono _ _ _ _)
      | (with_reducible exact LeO.refl _)
      | (with_reducible exact LeO.none _)
      | (with_reducible refine LeO.ite ?_ ?_)
      | (with_reducible refine LeO.bind ?_ (fun _ => ?_))
      | exact ih0 _ _ _ _ _ _ _
      | exact ih1 _
      | exact ih2 _ _ _ _ _
      | exact ih3 _ _ _ _ _ _ _ _
      | exact ih4 _ _ _ _ _ _ _ _ _ _ _
      | exact impl_DriveCars.mono _ _ _
      | exact impl_DriveCircle.mono _ _ _
      | exact impl_FreeOnCircle.mono _ _
      | exact impl_IsParking.mono _ _
      | exact impl_ParkingOfClass.mono _ _
      | exact impl_TurnFavourites.mono _ _ _ _
      | exact laws_jSame.mono _ _ _
      | exact laws_numberOf.mono _ _
      | exact spec_DrawDriveCircle.mono _ _
      | exact spec_DrawParkingOfClass.mono _ _
      | exact spec_DrawTurnFavourites.mono _ _
      | exact spec_DriveCircle.mono _ _ _
      | exact spec_FreeOnCircle.mono _ _
      | exact spec_ParkingOfClass.mono _ _
      | exact spec_TurnFavourites.mono _ _ _ _
      | exact LeO.none _
      | refine LeO.ite ?_ ?_
      | refine LeO.bind ?_ (fun _ => ?_)
    · intro y0 y1 y2 y3 y4 y5 y6 y7 y8 y9 y10
      unfold laws_FnCircles.j2
      repeat' first
      | (with_reducible exact ih0 _ _ _ _ _ _ _)
      | (with_reducible exact ih1 _)
      | (with_reducible exact ih2 _ _ _ _ _)
      | (with_reducible exact ih3 _ _ _ _ _ _ _ _)
      | (with_reducible exact ih4 _ _ _ _ _ _ _ _ _ _ _)
      | (with_reducible exact impl_DriveCars.mono _ _ _)
      | (with_reducible exact impl_DriveCircle.mono _ _ _)
      | (with_reducible exact impl_FreeOnCircle.mono _ _)
      | (with_reducible exact impl_IsParking.mono _ _)
      | (with_reducible exact impl_ParkingOfClass.mono _ _)
      | (with_reducible exact impl_TurnFavourites.mono _ _ _ _)
      | (with_reducible exact laws_jSame.mono _ _ _)
      | (with_reducible exact laws_numberOf.mono _ _)
      | (with_reducible exact spec_DrawDriveCircle.mono _ _)
      | (with_reducible exact spec_DrawParkingOfClass.mono _ _)
      | (with_reducible exact spec_DrawTurnFavourites.mono _ _)
      | (with_reducible exact spec_DriveCircle.mono _ _ _)
      | (with_reducible exact spec_FreeOnCircle.mono _ _)
      | (with_reducible exact spec_ParkingOfClass.mono _ _)
      | (with_reducible exact spec_TurnFavourites.mono _ _ _ _)
      | (with_reducible exact LeO.refl _)
      | (with_reducible exact LeO.none _)
      | (with_reducible refine LeO.ite ?_ ?_)
      | (with_reducible refine LeO.bind ?_ (fun _ => ?_))
      | exact ih0 _ _ _ _ _ _ _
      | exact ih1 _
      | exact ih2 _ _ _ _ _
      | exact ih3 _ _ _ _ _ _ _ _
      | exact ih4 _ _ _ _ _ _ _ _ _ _ _
      | exact impl_DriveCars.mono _ _ _
      | exact impl_DriveCircle.mono _ _ _
      | exact impl_FreeOnCircle.mono _ _
      | exact impl_IsParking.mono _ _
      | exact impl_ParkingOfClass.mono _ _
      | exact impl_TurnFavourites.mono _ _ _ _
      | exact laws_jSame.mono _ _ _
      | exact laws_numberOf.mono _ _
      | exact spec_DrawDriveCircle.mono _ _
      | exact spec_DrawParkingOfClass.mono _ _
      | exact spec_DrawTurnFavourites.mono _ _
      | exact spec_DriveCircle.mono _ _ _
      | exact spec_FreeOnCircle.mono _ _
      | exact spec_ParkingOfClass.mono _ _
      | exact spec_TurnFavourites.mono _ _ _ _
      | exact LeO.none _
      | refine LeO.ite ?_ ?_
      | refine LeO.bind ?_ (fun _ => ?_)
theorem laws_FnCircles.mono : ∀ a0 a1 k, LeO (laws_FnCircles.f k a0 a1) (laws_FnCircles.f (k + 1) a0 a1) := by
  intro a0 a1 k
  obtain ⟨ih0, ih1, ih2, ih3, ih4⟩ := laws_FnCircles.mono_l k
  unfold laws_FnCircles.f
  repeat' first
      | (with_reducible exact ih0 _ _ _ _ _ _ _)
      | (with_reducible exact ih1 _)
      | (with_reducible exact ih2 _ _ _ _ _)
      | (with_reducible exact ih3 _ _ _ _ _ _ _ _)
      | (with_reducible exact ih4 _ _ _ _ _ _ _ _ _ _ _)
      | (with_reducible exact impl_DriveCars.mono _ _ _)
      | (with_reducible exact impl_DriveCircle.mono _ _ _)
      | (with_reducible exact impl_FreeOnCircle.mono _ _)
      | (with_reducible exact impl_IsParking.mono _ _)
      | (with_reducible exact impl_ParkingOfClass.mono _ _)
      | (with_reducible exact impl_TurnFavourites.mono _ _ _ _)
      | (with_reducible exact laws_jSame.mono _ _ _)
      | (with_reducible exact laws_numberOf.mono _ _)
      | (with_reducible exact spec_DrawDriveCircle.mono _ _)
      | (with_reducible exact spec_DrawParkingOfClass.mono _ _)
      | (with_reducible exact spec_DrawTurnFavourites.mono _ _)
      | (with_reducible exact spec_DriveCircle.mono _ _ _)
      | (with_reducible exact spec_FreeOnCircle.mono _ _)
      | (with_reducible exact spec_ParkingOfClass.mono _ _)
      | (with_reducible exact spec_TurnFavourites.mono _ _ _ _)
      | (with_reducible exact LeO.refl _)
      | (with_reducible exact LeO.none _)
      | (with_reducible refine LeO.ite ?_ ?_)
      | (with_reducible refine LeO.bind ?_ (fun _ => ?_))
      | exact ih0 _ _ _ _ _ _ _
      | exact ih1 _
      | exact ih2 _ _ _ _ _
      | exact ih3 _ _ _ _ _ _ _ _
      | exact ih4 _ _ _ _ _ _ _ _ _ _ _
      | exact impl_DriveCars.mono _ _ _
      | exact impl_DriveCircle.mono _ _ _
      | exact impl_FreeOnCircle.mono _ _
      | exact impl_IsParking.mono _ _
      | exact impl_ParkingOfClass.mono _ _
      | exact impl_TurnFavourites.mono _ _ _ _
      | exact laws_jSame.mono _ _ _
      | exact laws_numberOf.mono _ _
      | exact spec_DrawDriveCircle.mono _ _
      | exact spec_DrawParkingOfClass.mono _ _
      | exact spec_DrawTurnFavourites.mono _ _
      | exact spec_DriveCircle.mono _ _ _
      | exact spec_FreeOnCircle.mono _ _
      | exact spec_ParkingOfClass.mono _ _
      | exact spec_TurnFavourites.mono _ _ _ _
      | exact LeO.none _
      | refine LeO.ite ?_ ?_
      | refine LeO.bind ?_ (fun _ => ?_)
set_option maxHeartbeats 8000000 in
set_option maxRecDepth 100000 in
theorem laws_FnCircles.calls (k : Nat) (A0 : Option Addr) (c0 : Nat) (l0 : List Int) (A1 : Option Addr) (c1 : Nat) (l1 : List Int) (r : Bool) (w : World) (hr0 : Kd.C (Kd.int .u8) w A0 l0.length l0) (hc0 : l0.length ≤ c0) (hr1 : Kd.C (Kd.int .u8) w A1 l1.length l1) (hc1 : l1.length ≤ c1) (h : laws_FnCircles.f k l0 l1 = some r) :
    Calls Try.prog 3 #[.slice A0 l0.length c0, .slice A1 l1.length c1] w fun e w' => e = .returned (.bool r) ∧ Below w.heap.size w w' := by
  have HR0 := Aside0.mk hr0
  have HC0 := Aside0.mk hc0
  clear hr0 hc0
  have HR1 := Aside0.mk hr1
  have HC1 := Aside0.mk hc1
  clear hr1 hc1
  have HB := Aside0.mk (Below.refl w.heap.size w)
  have H : ((laws_big.f l0 l1).bind fun t358 => (if t358 = true then (some true) else ((spec_DrawParkingOfClass.f k l0).bind fun t359 => ((impl_ParkingOfClass.f k t359).bind fun bt362 => ((spec_ParkingOfClass.f k t359).bind fun bt367 => ((impl_FreeOnCircle.f k t359).bind fun bt372 => ((spec_FreeOnCircle.f k t359).bind fun bt374 => (if (bt362.2.2 != bt367.2.2) = true then (laws_FnCircles.j0 k l1 t359 bt362.1 bt362.2.1 bt362.2.2 bt372.1 true) else ((laws_jSame.f k bt362.1 bt367.1).bind fun t376 => (if t376 = true then (if bt362.2.1 = bt367.2.1 then (if (bt372.2 != bt374.2) = true then (laws_FnCircles.j0 k l1 t359 bt362.1 bt362.2.1 bt362.2.2 bt372.1 true) else (if bt372.1 = bt374.1 then (laws_FnCircles.j0 k l1 t359 bt362.1 bt362.2.1 bt362.2.2 bt372.1 (bt372.2 != bt362.2.2)) else (laws_FnCircles.j0 k l1 t359 bt362.1 bt362.2.1 bt362.2.2 bt372.1 true))) else (laws_FnCircles.j0 k l1 t359 bt362.1 bt362.2.1 bt362.2.2 bt372.1 true)) else (laws_FnCircles.j0 k l1 t359 bt362.1 bt362.2.1 bt362.2.2 bt372.1 true))))))))))) = some r := h
  clear h
  replace H := Option.bind_eq_some_iff.mp H
  obtain ⟨t358, A30, H⟩ := H
  replace H : (if t358 = true then (some true) else ((spec_DrawParkingOfClass.f k l0).bind fun t359 => ((impl_ParkingOfClass.f k t359).bind fun bt362 => ((spec_ParkingOfClass.f k t359).bind fun bt367 => ((impl_FreeOnCircle.f k t359).bind fun bt372 => ((spec_FreeOnCircle.f k t359).bind fun bt374 => (if (bt362.2.2 != bt367.2.2) = true then (laws_FnCircles.j0 k l1 t359 bt362.1 bt362.2.1 bt362.2.2 bt372.1 true) else ((laws_jSame.f k bt362.1 bt367.1).bind fun t376 => (if t376 = true then (if bt362.2.1 = bt367.2.1 then (if (bt372.2 != bt374.2) = true then (laws_FnCircles.j0 k l1 t359 bt362.1 bt362.2.1 bt362.2.2 bt372.1 true) else (if bt372.1 = bt374.1 then (laws_FnCircles.j0 k l1 t359 bt362.1 bt362.2.1 bt362.2.2 bt372.1 (bt372.2 != bt362.2.2)) else (laws_FnCircles.j0 k l1 t359 bt362.1 bt362.2.1 bt362.2.2 bt372.1 true))) else (laws_FnCircles.j0 k l1 t359 bt362.1 bt362.2.1 bt362.2.2 bt372.1 true)) else (laws_FnCircles.j0 k l1 t359 bt362.1 bt362.2.1 bt362.2.2 bt372.1 true)))))))))) = some r := H
  have A3 := Aside0.mk A30
  clear A30
  by_cases c4 : t358 = true
  · subst c4
    have H1 : (some true) = some r := by rw [if_pos rfl] at H; exact H
    clear H
    have H := H1
    clear H1
    obtain rfl := Option.some.inj H
    go_enter Try.func3, Try.ntmps3
    go_wp2_with (first | ((with_reducible refine gate_callee (f := 14) rfl ?_); refine goesL_ (some 45) rfl rfl Try.func14 (by kernel_rfl) rfl #[.slice A0 l0.length c0, .slice A1 l1.length c1] rfl (by (try simp only [List.map_toArray, List.map_cons, List.map_nil]); first | done | rfl | (simp only [List.length_drop, List.length_take]; rfl)) ?_; (with_reducible refine (laws_big.calls _ _ l0 _ _ l1 true _ ?side1 ?side2 ?side3 ?side4 A3.out).mono ?_); (case side1 => repeat (first | exact HR0.out | (with_reducible refine Kd.C_alloc ?_ _) | (with_reducible refine Kd.C_drewN ?_ _) | (with_reducible refine Kd.C_drew ?_))); (case side2 => exact HC0.out); (case side3 => repeat (first | exact HR1.out | (with_reducible refine Kd.C_alloc ?_ _) | (with_reducible refine Kd.C_drewN ?_ _) | (with_reducible refine Kd.C_drew ?_))); (case side4 => exact HC1.out); rintro e w' ⟨rfl, ⟨nd, rfl⟩⟩; refine ⟨_, rfl, ?_⟩))
    go_ret
    exact ⟨by first | rfl | (simp [errW_none, errW_some] <;> rfl) | (simp [*, errW_none, errW_some] <;> rfl), by repeat (first | (with_reducible first | exact HB.out | apply below_alloc | apply pw_below_drewN | apply below_drew1) | exact HB.out)⟩
  · replace c4 := Bool.eq_false_iff.mpr c4
    subst c4
    have H1 : ((spec_DrawParkingOfClass.f k l0).bind fun t359 => ((impl_ParkingOfClass.f k t359).bind fun bt362 => ((spec_ParkingOfClass.f k t359).bind fun bt367 => ((impl_FreeOnCircle.f k t359).bind fun bt372 => ((spec_FreeOnCircle.f k t359).bind fun bt374 => (if (bt362.2.2 != bt367.2.2) = true then (laws_FnCircles.j0 k l1 t359 bt362.1 bt362.2.1 bt362.2.2 bt372.1 true) else ((laws_jSame.f k bt362.1 bt367.1).bind fun t376 => (if t376 = true then (if bt362.2.1 = bt367.2.1 then (if (bt372.2 != bt374.2) = true then (laws_FnCircles.j0 k l1 t359 bt362.1 bt362.2.1 bt362.2.2 bt372.1 true) else (if bt372.1 = bt374.1 then (laws_FnCircles.j0 k l1 t359 bt362.1 bt362.2.1 bt362.2.2 bt372.1 (bt372.2 != bt362.2.2)) else (laws_FnCircles.j0 k l1 t359 bt362.1 bt362.2.1 bt362.2.2 bt372.1 true))) else (laws_FnCircles.j0 k l1 t359 bt362.1 bt362.2.1 bt362.2.2 bt372.1 true)) else (laws_FnCircles.j0 k l1 t359 bt362.1 bt362.2.1 bt362.2.2 bt372.1 true))))))))) = some r := by rw [if_neg (show ¬ (false = true) by decide)] at H; exact H
    clear H
    have H := H1
    clear H1
    replace H := Option.bind_eq_some_iff.mp H
    obtain ⟨t359, A50, H⟩ := H
    replace H : ((impl_ParkingOfClass.f k t359).bind fun bt362 => ((spec_ParkingOfClass.f k t359).bind fun bt367 => ((impl_FreeOnCircle.f k t359).bind fun bt372 => ((spec_FreeOnCircle.f k t359).bind fun bt374 => (if (bt362.2.2 != bt367.2.2) = true then (laws_FnCircles.j0 k l1 t359 bt362.1 bt362.2.1 bt362.2.2 bt372.1 true) else ((laws_jSame.f k bt362.1 bt367.1).bind fun t376 => (if t376 = true then (if bt362.2.1 = bt367.2.1 then (if (bt372.2 != bt374.2) = true then (laws_FnCircles.j0 k l1 t359 bt362.1 bt362.2.1 bt362.2.2 bt372.1 true) else (if bt372.1 = bt374.1 then (laws_FnCircles.j0 k l1 t359 bt362.1 bt362.2.1 bt362.2.2 bt372.1 (bt372.2 != bt362.2.2)) else (laws_FnCircles.j0 k l1 t359 bt362.1 bt362.2.1 bt362.2.2 bt372.1 true))) else (laws_FnCircles.j0 k l1 t359 bt362.1 bt362.2.1 bt362.2.2 bt372.1 true)) else (laws_FnCircles.j0 k l1 t359 bt362.1 bt362.2.1 bt362.2.2 bt372.1 true)))))))) = some r := H
    have A5 := Aside0.mk A50
    clear A50
    replace H := Option.bind_eq_some_iff.mp H
    obtain ⟨⟨t362, t363, t364⟩, A60, H⟩ := H
    replace H : ((spec_ParkingOfClass.f k t359).bind fun bt367 => ((impl_FreeOnCircle.f k t359).bind fun bt372 => ((spec_FreeOnCircle.f k t359).bind fun bt374 => (if (t364 != bt367.2.2) = true then (laws_FnCircles.j0 k l1 t359 t362 t363 t364 bt372.1 true) else ((laws_jSame.f k t362 bt367.1).bind fun t376 => (if t376 = true then (if t363 = bt367.2.1 then (if (bt372.2 != bt374.2) = true then (laws_FnCircles.j0 k l1 t359 t362 t363 t364 bt372.1 true) else (if bt372.1 = bt374.1 then (laws_FnCircles.j0 k l1 t359 t362 t363 t364 bt372.1 (bt372.2 != t364)) else (laws_FnCircles.j0 k l1 t359 t362 t363 t364 bt372.1 true))) else (laws_FnCircles.j0 k l1 t359 t362 t363 t364 bt372.1 true)) else (laws_FnCircles.j0 k l1 t359 t362 t363 t364 bt372.1 true))))))) = some r := H
    have A6 := Aside0.mk A60
    clear A60
    replace H := Option.bind_eq_some_iff.mp H
    obtain ⟨⟨t367, t368, t369⟩, A70, H⟩ := H
    replace H : ((impl_FreeOnCircle.f k t359).bind fun bt372 => ((spec_FreeOnCircle.f k t359).bind fun bt374 => (if (t364 != t369) = true then (laws_FnCircles.j0 k l1 t359 t362 t363 t364 bt372.1 true) else ((laws_jSame.f k t362 t367).bind fun t376 => (if t376 = true then (if t363 = t368 then (if (bt372.2 != bt374.2) = true then (laws_FnCircles.j0 k l1 t359 t362 t363 t364 bt372.1 true) else (if bt372.1 = bt374.1 then (laws_FnCircles.j0 k l1 t359 t362 t363 t364 bt372.1 (bt372.2 != t364)) else (laws_FnCircles.j0 k l1 t359 t362 t363 t364 bt372.1 true))) else (laws_FnCircles.j0 k l1 t359 t362 t363 t364 bt372.1 true)) else (laws_FnCircles.j0 k l1 t359 t362 t363 t364 bt372.1 true)))))) = some r := H
    have A7 := Aside0.mk A70
    clear A70
    replace H := Option.bind_eq_some_iff.mp H
    obtain ⟨⟨t372, t373⟩, A80, H⟩ := H
    replace H : ((spec_FreeOnCircle.f k t359).bind fun bt374 => (if (t364 != t369) = true then (laws_FnCircles.j0 k l1 t359 t362 t363 t364 t372 true) else ((laws_jSame.f k t362 t367).bind fun t376 => (if t376 = true then (if t363 = t368 then (if (t373 != bt374.2) = true then (laws_FnCircles.j0 k l1 t359 t362 t363 t364 t372 true) else (if t372 = bt374.1 then (laws_FnCircles.j0 k l1 t359 t362 t363 t364 t372 (t373 != t364)) else (laws_FnCircles.j0 k l1 t359 t362 t363 t364 t372 true))) else (laws_FnCircles.j0 k l1 t359 t362 t363 t364 t372 true)) else (laws_FnCircles.j0 k l1 t359 t362 t363 t364 t372 true))))) = some r := H
    have A8 := Aside0.mk A80
    clear A80
    replace H := Option.bind_eq_some_iff.mp H
    obtain ⟨⟨t374, t375⟩, A90, H⟩ := H
    replace H : (if (t364 != t369) = true then (laws_FnCircles.j0 k l1 t359 t362 t363 t364 t372 true) else ((laws_jSame.f k t362 t367).bind fun t376 => (if t376 = true then (if t363 = t368 then (if (t373 != t375) = true then (laws_FnCircles.j0 k l1 t359 t362 t363 t364 t372 true) else (if t372 = t374 then (laws_FnCircles.j0 k l1 t359 t362 t363 t364 t372 (t373 != t364)) else (laws_FnCircles.j0 k l1 t359 t362 t363 t364 t372 true))) else (laws_FnCircles.j0 k l1 t359 t362 t363 t364 t372 true)) else (laws_FnCircles.j0 k l1 t359 t362 t363 t364 t372 true)))) = some r := H
    have A9 := Aside0.mk A90
    clear A90
    have HC10 := Aside0.mk H
    clear H
    go_enter Try.func3, Try.ntmps3
    go_upto_region 8 with (first | ((with_reducible refine gate_callee (f := 14) rfl ?_); refine goesL_ (some 45) rfl rfl Try.func14 (by kernel_rfl) rfl #[.slice A0 l0.length c0, .slice A1 l1.length c1] rfl (by (try simp only [List.map_toArray, List.map_cons, List.map_nil]); first | done | rfl | (simp only [List.length_drop, List.length_take]; rfl)) ?_; (with_reducible refine (laws_big.calls _ _ l0 _ _ l1 false _ ?side1 ?side2 ?side3 ?side4 A3.out).mono ?_); (case side1 => repeat (first | exact HR0.out | (with_reducible refine Kd.C_alloc ?_ _) | (with_reducible refine Kd.C_drewN ?_ _) | (with_reducible refine Kd.C_drew ?_))); (case side2 => exact HC0.out); (case side3 => repeat (first | exact HR1.out | (with_reducible refine Kd.C_alloc ?_ _) | (with_reducible refine Kd.C_drewN ?_ _) | (with_reducible refine Kd.C_drew ?_))); (case side4 => exact HC1.out); rintro e w' ⟨rfl, ⟨nd, rfl⟩⟩; refine ⟨_, rfl, ?_⟩) | ((with_reducible refine gate_callee (f := 15) rfl ?_); refine goesL_ (some 47) rfl rfl Try.func15 (by kernel_rfl) rfl #[.slice A0 l0.length c0] rfl (by (try simp only [List.map_toArray, List.map_cons, List.map_nil]); first | done | rfl | (simp only [List.length_drop, List.length_take]; rfl)) ?_; (with_reducible refine (spec_DrawParkingOfClass.calls k _ _ l0 t359 _ ?side1 ?side2 A5.out).mono ?_); (case side1 => repeat (first | exact HR0.out | (with_reducible refine Kd.C_alloc ?_ _) | (with_reducible refine Kd.C_drewN ?_ _) | (with_reducible refine Kd.C_drew ?_))); (case side2 => exact HC0.out); rintro e w11 ⟨v360, rfl, ho0, hb⟩; refine ⟨_, rfl, ?_⟩; have n0_ := Aside0.mk (Kd.R_lower ho0 (below_size (by repeat (first | (with_reducible first | exact HB.out | apply below_alloc | apply pw_below_drewN | apply below_drew1) | exact HB.out)))); have n1_ := Aside0.mk (below_step (by repeat (first | (with_reducible first | exact HB.out | apply below_alloc | apply pw_below_drewN | apply below_drew1) | exact HB.out)) hb); clear HB; have HO361 := n0_; have HB := n1_; clear n0_ n1_; (try clear hb); (try clear hb2); (try clear hk); (try clear hi); (try clear ho0); obtain ⟨Ao12, co12, eo12⟩ := Kd.R_slice HO361.out; subst eo12) | ((with_reducible refine gate_callee (f := 16) rfl ?_); refine goesL_ (some 50) rfl rfl Try.func16 (by kernel_rfl) rfl #[.slice Ao12 t359.length co12] rfl (by (try simp only [List.map_toArray, List.map_cons, List.map_nil]); first | done | rfl | (simp only [List.length_drop, List.length_take]; rfl)) ?_; (with_reducible refine (impl_ParkingOfClass.calls k _ _ t359 t362 t363 t364 _ ?side1 ?side2 A6.out).mono ?_); (case side1 => repeat (first | exact (Kd.R_reads' HO361.out).2.2 | (with_reducible refine Kd.C_alloc ?_ _) | (with_reducible refine Kd.C_drewN ?_ _) | (with_reducible refine Kd.C_drew ?_))); (case side2 => exact (Kd.R_reads' HO361.out).2.1); rintro e w13 ⟨v365, rfl, ho0, hb⟩; refine ⟨_, rfl, ?_⟩; have n0_ := Aside0.mk (Kd.R_elder' (by (with_reducible repeat (first | apply Kd.R_alloc | apply Kd.R_drewN | apply Kd.R_drew)); exact HO361.out) (Kd.R_base ho0) hb); have n1_ := Aside0.mk (Kd.R_lower (Kd.R_new' ho0 (Kd.R_lt (by (with_reducible repeat (first | apply Kd.R_alloc | apply Kd.R_drewN | apply Kd.R_drew)); exact HO361.out))) (below_size (by repeat (first | (with_reducible first | exact HB.out | apply below_alloc | apply pw_below_drewN | apply below_drew1) | exact HB.out)))); have n2_ := Aside0.mk (below_step (by repeat (first | (with_reducible first | exact HB.out | apply below_alloc | apply pw_below_drewN | apply below_drew1) | exact HB.out)) hb); clear HO361; clear HB; have HO361 := n0_; have HO366 := n1_; have HB := n2_; clear n0_ n1_ n2_; (try clear hb); (try clear hb2); (try clear hk); (try clear hi); (try clear ho0)) | ((with_reducible refine gate_callee (f := 17) rfl ?_); refine goesL_ (some 56) rfl rfl Try.func17 (by kernel_rfl) rfl #[.slice Ao12 t359.length co12] rfl (by (try simp only [List.map_toArray, List.map_cons, List.map_nil]); first | done | rfl | (simp only [List.length_drop, List.length_take]; rfl)) ?_; (with_reducible refine (spec_ParkingOfClass.calls k _ _ t359 t367 t368 t369 _ ?side1 ?side2 A7.out).mono ?_); (case side1 => repeat (first | exact (Kd.R_reads' HO361.out).2.2 | (with_reducible refine Kd.C_alloc ?_ _) | (with_reducible refine Kd.C_drewN ?_ _) | (with_reducible refine Kd.C_drew ?_))); (case side2 => exact (Kd.R_reads' HO361.out).2.1); rintro e w14 ⟨v370, rfl, ho0, hb⟩; refine ⟨_, rfl, ?_⟩; have n0_ := Aside0.mk (Kd.R_elder' (by (with_reducible repeat (first | apply Kd.R_alloc | apply Kd.R_drewN | apply Kd.R_drew)); exact HO361.out) (Kd.R_base ho0) hb); have n1_ := Aside0.mk (Kd.R_elder' (by (with_reducible repeat (first | apply Kd.R_alloc | apply Kd.R_drewN | apply Kd.R_drew)); exact HO366.out) (Kd.R_base ho0) hb); have n2_ := Aside0.mk (Kd.R_lower (Kd.R_new' (Kd.R_new' ho0 (Kd.R_lt (by (with_reducible repeat (first | apply Kd.R_alloc | apply Kd.R_drewN | apply Kd.R_drew)); exact HO361.out))) (Kd.R_lt (by (with_reducible repeat (first | apply Kd.R_alloc | apply Kd.R_drewN | apply Kd.R_drew)); exact HO366.out))) (below_size (by repeat (first | (with_reducible first | exact HB.out | apply below_alloc | apply pw_below_drewN | apply below_drew1) | exact HB.out)))); have n3_ := Aside0.mk (below_step (by repeat (first | (with_reducible first | exact HB.out | apply below_alloc | apply pw_below_drewN | apply below_drew1) | exact HB.out)) hb); clear HO361; clear HO366; clear HB; have HO361 := n0_; have HO366 := n1_; have HO371 := n2_; have HB := n3_; clear n0_ n1_ n2_ n3_; (try clear hb); (try clear hb2); (try clear hk); (try clear hi); (try clear ho0)) | ((with_reducible refine gate_callee (f := 18) rfl ?_); refine goesL_ (some 62) rfl rfl Try.func18 (by kernel_rfl) rfl #[.slice Ao12 t359.length co12] rfl (by (try simp only [List.map_toArray, List.map_cons, List.map_nil]); first | done | rfl | (simp only [List.length_drop, List.length_take]; rfl)) ?_; (with_reducible refine (impl_FreeOnCircle.calls k _ _ t359 t372 t373 _ ?side1 ?side2 A8.out).mono ?_); (case side1 => repeat (first | exact (Kd.R_reads' HO361.out).2.2 | (with_reducible refine Kd.C_alloc ?_ _) | (with_reducible refine Kd.C_drewN ?_ _) | (with_reducible refine Kd.C_drew ?_))); (case side2 => exact (Kd.R_reads' HO361.out).2.1); rintro e w15 ⟨rfl, hb⟩; refine ⟨_, rfl, ?_⟩; have n0_ := Aside0.mk (Kd.R_below (by (with_reducible repeat (first | apply Kd.R_alloc | apply Kd.R_drewN | apply Kd.R_drew)); exact HO361.out) hb); have n1_ := Aside0.mk (Kd.R_below (by (with_reducible repeat (first | apply Kd.R_alloc | apply Kd.R_drewN | apply Kd.R_drew)); exact HO366.out) hb); have n2_ := Aside0.mk (Kd.R_below (by (with_reducible repeat (first | apply Kd.R_alloc | apply Kd.R_drewN | apply Kd.R_drew)); exact HO371.out) hb); have n3_ := Aside0.mk (below_step (by repeat (first | (with_reducible first | exact HB.out | apply below_alloc | apply pw_below_drewN | apply below_drew1) | exact HB.out)) hb); clear HO361; clear HO366; clear HO371; clear HB; have HO361 := n0_; have HO366 := n1_; have HO371 := n2_; have HB := n3_; clear n0_ n1_ n2_ n3_; (try clear hb); (try clear hb2); (try clear hk); (try clear hi)) | ((with_reducible refine gate_callee (f := 19) rfl ?_); refine goesL_ (some 67) rfl rfl Try.func19 (by kernel_rfl) rfl #[.slice Ao12 t359.length co12] rfl (by (try simp only [List.map_toArray, List.map_cons, List.map_nil]); first | done | rfl | (simp only [List.length_drop, List.length_take]; rfl)) ?_; (with_reducible refine (spec_FreeOnCircle.calls k _ _ t359 t374 t375 _ ?side1 ?side2 A9.out).mono ?_); (case side1 => repeat (first | exact (Kd.R_reads' HO361.out).2.2 | (with_reducible refine Kd.C_alloc ?_ _) | (with_reducible refine Kd.C_drewN ?_ _) | (with_reducible refine Kd.C_drew ?_))); (case side2 => exact (Kd.R_reads' HO361.out).2.1); rintro e w16 ⟨rfl, hb⟩; refine ⟨_, rfl, ?_⟩; have n0_ := Aside0.mk (Kd.R_below (by (with_reducible repeat (first | apply Kd.R_alloc | apply Kd.R_drewN | apply Kd.R_drew)); exact HO361.out) hb); have n1_ := Aside0.mk (Kd.R_below (by (with_reducible repeat (first | apply Kd.R_alloc | apply Kd.R_drewN | apply Kd.R_drew)); exact HO366.out) hb); have n2_ := Aside0.mk (Kd.R_below (by (with_reducible repeat (first | apply Kd.R_alloc | apply Kd.R_drewN | apply Kd.R_drew)); exact HO371.out) hb); have n3_ := Aside0.mk (below_step (by repeat (first | (with_reducible first | exact HB.out | apply below_alloc | apply pw_below_drewN | apply below_drew1) | exact HB.out)) hb); clear HO361; clear HO366; clear HO371; clear HB; have HO361 := n0_; have HO366 := n1_; have HO371 := n2_; have HB := n3_; clear n0_ n1_ n2_ n3_; (try clear hb); (try clear hb2); (try clear hk); (try clear hi)))
    (try simp only [Act.put, List.setIfInBounds_toArray, List.set_cons_zero, List.set_cons_succ])
    go_cut [98] (fun v98 wc => ∃ (kq : Nat) (x98_9 : Bool), v98 = .bool x98_9 ∧ Aside0 (laws_FnCircles.j0 kq l1 t359 t362 t363 t364 t372 x98_9 = some r) ∧ Aside0 (kq ≤ k) ∧ Aside0 (Kd.R (Kd.int .i64) 3 wc w.heap.size (fun k_ => some k_ ≠ (v365 : Value).ownBlock) (.slice Ao12 t359.length co12) t359) ∧ Aside0 (Kd.R (Kd.int .i64) 3 wc w.heap.size (fun k_ => some k_ ≠ ((.slice Ao12 t359.length co12) : Value).ownBlock) v365 t362) ∧ Aside0 (Below w.heap.size w wc))
    case first => as_aux_lemma =>
      have H := HC10.out
      clear HC10
      by_cases c17 : (t364 != t369) = true
      · rw [if_pos c17] at H
        have c17b0 : (t364 != t369) = true := c17
        (try (have c17b1 : decide (t364 = t369) = false := by simpa using c17))
        (try (have c17b2 : (t364 == t369) = false := by simpa using c17))
        (try (have c17b3 : ¬ (t364 = t369) := by simpa using c17))
        clear c17
        (first | rw [c17b0] | (simp only [i64_w, i32_w]; rw [c17b0]) | skip)
        have H' := Aside0.mk H
        clear H
        go_wp2
        go_meet
        case rel => exact ⟨_, (true), (by first | rfl | (simp; done) | (simp [*]; done)), H', ⟨by first | omega | exact Nat.le_refl _⟩, ⟨by (with_reducible repeat (first | apply Kd.R_alloc | apply Kd.R_drewN | apply Kd.R_drew)); exact Kd.R_mono HO361.out (fun _ hk => hk.1.2)⟩, ⟨by (with_reducible repeat (first | apply Kd.R_alloc | apply Kd.R_drewN | apply Kd.R_drew)); exact Kd.R_mono HO366.out (fun _ hk => hk.1.2)⟩, ⟨by repeat (first | (with_reducible first | exact HB.out | apply below_alloc | apply pw_below_drewN | apply below_drew1) | exact HB.out)⟩⟩
      · rw [if_neg c17] at H
        have c17b0 : (t364 != t369) = false := by simpa using c17
        (try (have c17b1 : decide (t364 = t369) = true := by simpa using c17))
        (try (have c17b2 : (t364 == t369) = true := by simpa using c17))
        clear c17
        (first | rw [c17b0] | (simp only [i64_w, i32_w]; rw [c17b0]) | skip)
        replace H := Option.bind_eq_some_iff.mp H
        obtain ⟨t376, A180, H⟩ := H
        replace H : (if t376 = true then (if t363 = t368 then (if (t373 != t375) = true then (laws_FnCircles.j0 k l1 t359 t362 t363 t364 t372 true) else (if t372 = t374 then (laws_FnCircles.j0 k l1 t359 t362 t363 t364 t372 (t373 != t364)) else (laws_FnCircles.j0 k l1 t359 t362 t363 t364 t372 true))) else (laws_FnCircles.j0 k l1 t359 t362 t363 t364 t372 true)) else (laws_FnCircles.j0 k l1 t359 t362 t363 t364 t372 true)) = some r := H
        have A18 := Aside0.mk A180
        clear A180
        by_cases c19 : t376 = true
        · subst c19
          have H1 : (if t363 = t368 then (if (t373 != t375) = true then (laws_FnCircles.j0 k l1 t359 t362 t363 t364 t372 true) else (if t372 = t374 then (laws_FnCircles.j0 k l1 t359 t362 t363 t364 t372 (t373 != t364)) else (laws_FnCircles.j0 k l1 t359 t362 t363 t364 t372 true))) else (laws_FnCircles.j0 k l1 t359 t362 t363 t364 t372 true)) = some r := by rw [if_pos rfl] at H; exact H
          clear H
          have H := H1
          clear H1
          by_cases c20 : t363 = t368
          · rw [if_pos c20] at H
            have c20b0 : (t363 == t368) = true := beq_iff_eq.mpr c20
            have c20b1 : (t363 != t368) = false := bne_eq_false_iff_eq.mpr c20
            clear c20
            by_cases c21 : (t373 != t375) = true
            · rw [if_pos c21] at H
              have c21b0 : (t373 != t375) = true := c21
              (try (have c21b1 : decide (t373 = t375) = false := by simpa using c21))
              (try (have c21b2 : (t373 == t375) = false := by simpa using c21))
              (try (have c21b3 : ¬ (t373 = t375) := by simpa using c21))
              clear c21
              have H' := Aside0.mk H
              clear H
              obtain ⟨Ao22, co22, eo22⟩ := Kd.R_slice HO366.out
              subst eo22
              obtain ⟨Ao23, co23, eo23⟩ := Kd.R_slice HO371.out
              subst eo23
              go_wp2_with (first | (go_at_call 20; (with_reducible refine (laws_jSame.calls k _ _ t362 _ _ t367 true _ ?side1 ?side2 ?side3 ?side4 A18.out).mono ?_); (case side1 => repeat (first | exact (Kd.R_reads' HO366.out).2.2 | (with_reducible refine Kd.C_alloc ?_ _) | (with_reducible refine Kd.C_drewN ?_ _) | (with_reducible refine Kd.C_drew ?_))); (case side2 => exact (Kd.R_reads' HO366.out).2.1); (case side3 => repeat (first | exact (Kd.R_reads' HO371.out).2.2 | (with_reducible refine Kd.C_alloc ?_ _) | (with_reducible refine Kd.C_drewN ?_ _) | (with_reducible refine Kd.C_drew ?_))); (case side4 => exact (Kd.R_reads' HO371.out).2.1); rintro e w' ⟨rfl, ⟨nd, rfl⟩⟩))
              go_meet
              case rel => exact ⟨_, (true), (by first | rfl | (simp; done) | (simp [*]; done)), H', ⟨by first | omega | exact Nat.le_refl _⟩, ⟨by (with_reducible repeat (first | apply Kd.R_alloc | apply Kd.R_drewN | apply Kd.R_drew)); exact Kd.R_mono HO361.out (fun _ hk => hk.1.2)⟩, ⟨by (with_reducible repeat (first | apply Kd.R_alloc | apply Kd.R_drewN | apply Kd.R_drew)); exact Kd.R_mono HO366.out (fun _ hk => hk.1.2)⟩, ⟨by repeat (first | (with_reducible first | exact HB.out | apply below_alloc | apply pw_below_drewN | apply below_drew1) | exact HB.out)⟩⟩
            · rw [if_neg c21] at H
              have c21b0 : (t373 != t375) = false := by simpa using c21
              (try (have c21b1 : decide (t373 = t375) = true := by simpa using c21))
              (try (have c21b2 : (t373 == t375) = true := by simpa using c21))
              clear c21
              by_cases c24 : t372 = t374
              · rw [if_pos c24] at H
                have c24b0 : (t372 == t374) = true := beq_iff_eq.mpr c24
                have c24b1 : (t372 != t374) = false := bne_eq_false_iff_eq.mpr c24
                clear c24
                have H' := Aside0.mk H
                clear H
                obtain ⟨Ao25, co25, eo25⟩ := Kd.R_slice HO366.out
                subst eo25
                obtain ⟨Ao26, co26, eo26⟩ := Kd.R_slice HO371.out
                subst eo26
                go_wp2_with (first | (go_at_call 20; (with_reducible refine (laws_jSame.calls k _ _ t362 _ _ t367 true _ ?side1 ?side2 ?side3 ?side4 A18.out).mono ?_); (case side1 => repeat (first | exact (Kd.R_reads' HO366.out).2.2 | (with_reducible refine Kd.C_alloc ?_ _) | (with_reducible refine Kd.C_drewN ?_ _) | (with_reducible refine Kd.C_drew ?_))); (case side2 => exact (Kd.R_reads' HO366.out).2.1); (case side3 => repeat (first | exact (Kd.R_reads' HO371.out).2.2 | (with_reducible refine Kd.C_alloc ?_ _) | (with_reducible refine Kd.C_drewN ?_ _) | (with_reducible refine Kd.C_drew ?_))); (case side4 => exact (Kd.R_reads' HO371.out).2.1); rintro e w' ⟨rfl, ⟨nd, rfl⟩⟩))
                go_meet
                case rel => exact ⟨_, ((t373 != t364)), (by first | rfl | (simp; done) | (simp [*]; done)), H', ⟨by first | omega | exact Nat.le_refl _⟩, ⟨by (with_reducible repeat (first | apply Kd.R_alloc | apply Kd.R_drewN | apply Kd.R_drew)); exact Kd.R_mono HO361.out (fun _ hk => hk.1.2)⟩, ⟨by (with_reducible repeat (first | apply Kd.R_alloc | apply Kd.R_drewN | apply Kd.R_drew)); exact Kd.R_mono HO366.out (fun _ hk => hk.1.2)⟩, ⟨by repeat (first | (with_reducible first | exact HB.out | apply below_alloc | apply pw_below_drewN | apply below_drew1) | exact HB.out)⟩⟩
              · rw [if_neg c24] at H
                have c24b0 : (t372 == t374) = false := beq_eq_false_iff_ne.mpr c24
                have c24b1 : (t372 != t374) = true := bne_iff_ne.mpr c24
                have H' := Aside0.mk H
                clear H
                obtain ⟨Ao27, co27, eo27⟩ := Kd.R_slice HO366.out
                subst eo27
                obtain ⟨Ao28, co28, eo28⟩ := Kd.R_slice HO371.out
                subst eo28
                go_wp2_with (first | (go_at_call 20; (with_reducible refine (laws_jSame.calls k _ _ t362 _ _ t367 true _ ?side1 ?side2 ?side3 ?side4 A18.out).mono ?_); (case side1 => repeat (first | exact (Kd.R_reads' HO366.out).2.2 | (with_reducible refine Kd.C_alloc ?_ _) | (with_reducible refine Kd.C_drewN ?_ _) | (with_reducible refine Kd.C_drew ?_))); (case side2 => exact (Kd.R_reads' HO366.out).2.1); (case side3 => repeat (first | exact (Kd.R_reads' HO371.out).2.2 | (with_reducible refine Kd.C_alloc ?_ _) | (with_reducible refine Kd.C_drewN ?_ _) | (with_reducible refine Kd.C_drew ?_))); (case side4 => exact (Kd.R_reads' HO371.out).2.1); rintro e w' ⟨rfl, ⟨nd, rfl⟩⟩))
                go_meet
                case rel => exact ⟨_, (true), (by first | rfl | (simp; done) | (simp [*]; done)), H', ⟨by first | omega | exact Nat.le_refl _⟩, ⟨by (with_reducible repeat (first | apply Kd.R_alloc | apply Kd.R_drewN | apply Kd.R_drew)); exact Kd.R_mono HO361.out (fun _ hk => hk.1.2)⟩, ⟨by (with_reducible repeat (first | apply Kd.R_alloc | apply Kd.R_drewN | apply Kd.R_drew)); exact Kd.R_mono HO366.out (fun _ hk => hk.1.2)⟩, ⟨by repeat (first | (with_reducible first | exact HB.out | apply below_alloc | apply pw_below_drewN | apply below_drew1) | exact HB.out)⟩⟩
          · rw [if_neg c20] at H
            have c20b0 : (t363 == t368) = false := beq_eq_false_iff_ne.mpr c20
            have c20b1 : (t363 != t368) = true := bne_iff_ne.mpr c20
            have H' := Aside0.mk H
            clear H
            obtain ⟨Ao29, co29, eo29⟩ := Kd.R_slice HO366.out
            subst eo29
            obtain ⟨Ao30, co30, eo30⟩ := Kd.R_slice HO371.out
            subst eo30
            go_wp2_with (first | (go_at_call 20; (with_reducible refine (laws_jSame.calls k _ _ t362 _ _ t367 true _ ?side1 ?side2 ?side3 ?side4 A18.out).mono ?_); (case side1 => repeat (first | exact (Kd.R_reads' HO366.out).2.2 | (with_reducible refine Kd.C_alloc ?_ _) | (with_reducible refine Kd.C_drewN ?_ _) | (with_reducible refine Kd.C_drew ?_))); (case side2 => exact (Kd.R_reads' HO366.out).2.1); (case side3 => repeat (first | exact (Kd.R_reads' HO371.out).2.2 | (with_reducible refine Kd.C_alloc ?_ _) | (with_reducible refine Kd.C_drewN ?_ _) | (with_reducible refine Kd.C_drew ?_))); (case side4 => exact (Kd.R_reads' HO371.out).2.1); rintro e w' ⟨rfl, ⟨nd, rfl⟩⟩))
            go_meet
            case rel => exact ⟨_, (true), (by first | rfl | (simp; done) | (simp [*]; done)), H', ⟨by first | omega | exact Nat.le_refl _⟩, ⟨by (with_reducible repeat (first | apply Kd.R_alloc | apply Kd.R_drewN | apply Kd.R_drew)); exact Kd.R_mono HO361.out (fun _ hk => hk.1.2)⟩, ⟨by (with_reducible repeat (first | apply Kd.R_alloc | apply Kd.R_drewN | apply Kd.R_drew)); exact Kd.R_mono HO366.out (fun _ hk => hk.1.2)⟩, ⟨by repeat (first | (with_reducible first | exact HB.out | apply below_alloc | apply pw_below_drewN | apply below_drew1) | exact HB.out)⟩⟩
        · replace c19 := Bool.eq_false_iff.mpr c19
          subst c19
          have H1 : (laws_FnCircles.j0 k l1 t359 t362 t363 t364 t372 true) = some r := by rw [if_neg (show ¬ (false = true) by decide)] at H; exact H
          clear H
          have H := H1
          clear H1
          have H' := Aside0.mk H
          clear H
          obtain ⟨Ao31, co31, eo31⟩ := Kd.R_slice HO366.out
          subst eo31
          obtain ⟨Ao32, co32, eo32⟩ := Kd.R_slice HO371.out
          subst eo32
          go_wp2_with (first | (go_at_call 20; (with_reducible refine (laws_jSame.calls k _ _ t362 _ _ t367 false _ ?side1 ?side2 ?side3 ?side4 A18.out).mono ?_); (case side1 => repeat (first | exact (Kd.R_reads' HO366.out).2.2 | (with_reducible refine Kd.C_alloc ?_ _) | (with_reducible refine Kd.C_drewN ?_ _) | (with_reducible refine Kd.C_drew ?_))); (case side2 => exact (Kd.R_reads' HO366.out).2.1); (case side3 => repeat (first | exact (Kd.R_reads' HO371.out).2.2 | (with_reducible refine Kd.C_alloc ?_ _) | (with_reducible refine Kd.C_drewN ?_ _) | (with_reducible refine Kd.C_drew ?_))); (case side4 => exact (Kd.R_reads' HO371.out).2.1); rintro e w' ⟨rfl, ⟨nd, rfl⟩⟩))
          go_meet
          case rel => exact ⟨_, (true), (by first | rfl | (simp; done) | (simp [*]; done)), H', ⟨by first | omega | exact Nat.le_refl _⟩, ⟨by (with_reducible repeat (first | apply Kd.R_alloc | apply Kd.R_drewN | apply Kd.R_drew)); exact Kd.R_mono HO361.out (fun _ hk => hk.1.2)⟩, ⟨by (with_reducible repeat (first | apply Kd.R_alloc | apply Kd.R_drewN | apply Kd.R_drew)); exact Kd.R_mono HO366.out (fun _ hk => hk.1.2)⟩, ⟨by repeat (first | (with_reducible first | exact HB.out | apply below_alloc | apply pw_below_drewN | apply below_drew1) | exact HB.out)⟩⟩
    case rest => as_aux_lemma =>
      clear HC10
      try clear c1
      try clear c2
      try clear p2
      try clear c3
      try clear c4
      try clear c14
      try clear c15
      try clear c16
      try clear c17
      try clear c17b0
      try clear c17b1
      try clear c17b2
      try clear c18
      try clear c19
      try clear c20
      try clear c20b0
      try clear c20b1
      try clear c21
      try clear c21b0
      try clear c21b1
      try clear c21b2
      try clear c24
      try clear c24b0
      try clear c24b1
      obtain ⟨kq, x98_9, rfl, HA, HJ9, HO_5, HO_6, HB⟩ := hcut
      cases kq with
      | zero => exact absurd HA.out (by simp [laws_FnCircles.j0])
      | succ kj9 =>
        have H := HA.out
        clear HA
        simp only [laws_FnCircles.j0] at H
        by_cases c33 : x98_9 = true
        · subst c33
          have H1 : (some false) = some r := by rw [if_pos rfl] at H; exact H
          clear H
          have H := H1
          clear H1
          obtain rfl := Option.some.inj H
          go_wp2
          go_ret
          exact ⟨by first | rfl | (simp [errW_none, errW_some] <;> rfl) | (simp [*, errW_none, errW_some] <;> rfl), by repeat (first | (with_reducible first | exact HB.out | apply below_alloc | apply pw_below_drewN | apply below_drew1) | exact HB.out)⟩
        · replace c33 := Bool.eq_false_iff.mpr c33
          subst c33
          have H1 : (if t364 = true then (laws_FnCircles.l0 kj9 l1 t359 t362 t363 t372 (t359.length : Int) 0 0) else (laws_FnCircles.j3 kj9 l1)) = some r := by rw [if_neg (show ¬ (false = true) by decide)] at H; exact H
          clear H
          have H := H1
          clear H1
          have HC34 := Aside0.mk H
          clear H
          go_upto_if 99 with (fail)
          go_cut [] (fun wc => ∃ (kq : Nat), Aside0 (laws_FnCircles.j3 kq l1 = some r) ∧ Aside0 (kq ≤ kj9) ∧ Aside0 (Below w.heap.size w wc))
          case first => as_aux_lemma =>
            have H := HC34.out
            clear HC34
            by_cases c35 : t364 = true
            · subst c35
              have H1 : (laws_FnCircles.l0 kj9 l1 t359 t362 t363 t372 (t359.length : Int) 0 0) = some r := by rw [if_pos rfl] at H; exact H
              clear H
              have H := H1
              clear H1
              have H' := Aside0.mk H
              clear H
              go_wp2
              go_loopg [17, 18] kj9 (fun kq v17 v18 w' => ∃ (x17_2 : Int) (x18_2 : Int), v17 = .int .i64 x17_2 ∧ v18 = .int .i64 x18_2 ∧ Aside0 (laws_FnCircles.l0 kq l1 t359 t362 t363 t372 (t359.length : Int) x17_2 x18_2 = some r) ∧ Aside0 (kq ≤ kj9) ∧ Aside0 (Kd.R (Kd.int .i64) 3 w' w.heap.size (fun k_ => some k_ ≠ (v365 : Value).ownBlock) (.slice Ao12 t359.length co12) t359) ∧ Aside0 (Kd.R (Kd.int .i64) 3 w' w.heap.size (fun k_ => some k_ ≠ ((.slice Ao12 t359.length co12) : Value).ownBlock) v365 t362) ∧ Aside0 (Below w.heap.size w w'))
              case atStart => exact ⟨(0), (0), (by first | rfl | (simp; done) | (simp [*]; done)), (by first | rfl | (simp; done) | (simp [*]; done)), H', ⟨Nat.le_refl _⟩, ⟨by (with_reducible repeat (first | apply Kd.R_alloc | apply Kd.R_drewN | apply Kd.R_drew)); exact HO_5.out⟩, ⟨by (with_reducible repeat (first | apply Kd.R_alloc | apply Kd.R_drewN | apply Kd.R_drew)); exact HO_6.out⟩, ⟨by repeat (first | (with_reducible first | exact HB.out | apply below_alloc | apply pw_below_drewN | apply below_drew1) | exact HB.out)⟩⟩
              case round => as_aux_lemma =>
                clear H'
                try clear c1
                try clear c2
                try clear p2
                try clear c3
                try clear c4
                try clear c14
                try clear c15
                try clear c16
                try clear c17
                try clear c17b0
                try clear c17b1
                try clear c17b2
                try clear c18
                try clear c19
                try clear c20
                try clear c20b0
                try clear c20b1
                try clear c21
                try clear c21b0
                try clear c21b1
                try clear c21b2
                try clear c24
                try clear c24b0
                try clear c24b1
                try clear c33
                try clear c35
                try clear p2
                obtain ⟨x17_2, x18_2, rfl, rfl, HA, HK2, HO_5, HO_6, HB⟩ := hrel
                cases gk with
                | zero => exact absurd HA.out (by simp [laws_FnCircles.l0])
                | succ k2 =>
                  have H := HA.out
                  clear HA
                  simp only [laws_FnCircles.l0] at H
                  by_cases c36 : x18_2 ≤ (t359.length : Int)
                  · rw [if_pos c36] at H
                    have c36b0 : decide (x18_2 ≤ (t359.length : Int)) = true := decide_eq_true c36
                    clear c36
                    (first | rw [c36b0] | (simp only [i64_w, i32_w]; rw [c36b0]) | skip)
                    replace H := Option.bind_eq_some_iff.mp H
                    obtain ⟨⟨t377, t378⟩, A370, H⟩ := H
                    replace H : ((impl_IsParking.f k2 t377).bind fun bt381 => ((impl_FreeOnCircle.f k2 t377).bind fun bt383 => (if t378 = true then (if bt381.2 = true then (if bt383.2 = true then (if (wrap64 ((t359.length : Int) + 1)) = 0 then (none) else (if bt383.1 = (Int.tmod (wrap64 (t372 + x18_2)) (wrap64 ((t359.length : Int) + 1))) then (laws_FnCircles.j2 k2 l1 t359 t362 t363 t372 (t359.length : Int) x17_2 x18_2 t377 bt381.1 (bt381.1 != (x18_2 == t363))) else (laws_FnCircles.j2 k2 l1 t359 t362 t363 t372 (t359.length : Int) x17_2 x18_2 t377 bt381.1 true))) else (laws_FnCircles.j2 k2 l1 t359 t362 t363 t372 (t359.length : Int) x17_2 x18_2 t377 bt381.1 true)) else (laws_FnCircles.j2 k2 l1 t359 t362 t363 t372 (t359.length : Int) x17_2 x18_2 t377 bt381.1 true)) else (laws_FnCircles.j2 k2 l1 t359 t362 t363 t372 (t359.length : Int) x17_2 x18_2 t377 bt381.1 true)))) = some r := H
                    have A37 := Aside0.mk A370
                    clear A370
                    replace H := Option.bind_eq_some_iff.mp H
                    obtain ⟨⟨t381, t382⟩, A380, H⟩ := H
                    replace H : ((impl_FreeOnCircle.f k2 t377).bind fun bt383 => (if t378 = true then (if t382 = true then (if bt383.2 = true then (if (wrap64 ((t359.length : Int) + 1)) = 0 then (none) else (if bt383.1 = (Int.tmod (wrap64 (t372 + x18_2)) (wrap64 ((t359.length : Int) + 1))) then (laws_FnCircles.j2 k2 l1 t359 t362 t363 t372 (t359.length : Int) x17_2 x18_2 t377 t381 (t381 != (x18_2 == t363))) else (laws_FnCircles.j2 k2 l1 t359 t362 t363 t372 (t359.length : Int) x17_2 x18_2 t377 t381 true))) else (laws_FnCircles.j2 k2 l1 t359 t362 t363 t372 (t359.length : Int) x17_2 x18_2 t377 t381 true)) else (laws_FnCircles.j2 k2 l1 t359 t362 t363 t372 (t359.length : Int) x17_2 x18_2 t377 t381 true)) else (laws_FnCircles.j2 k2 l1 t359 t362 t363 t372 (t359.length : Int) x17_2 x18_2 t377 t381 true))) = some r := H
                    have A38 := Aside0.mk A380
                    clear A380
                    replace H := Option.bind_eq_some_iff.mp H
                    obtain ⟨⟨t383, t384⟩, A390, H⟩ := H
                    replace H : (if t378 = true then (if t382 = true then (if t384 = true then (if (wrap64 ((t359.length : Int) + 1)) = 0 then (none) else (if t383 = (Int.tmod (wrap64 (t372 + x18_2)) (wrap64 ((t359.length : Int) + 1))) then (laws_FnCircles.j2 k2 l1 t359 t362 t363 t372 (t359.length : Int) x17_2 x18_2 t377 t381 (t381 != (x18_2 == t363))) else (laws_FnCircles.j2 k2 l1 t359 t362 t363 t372 (t359.length : Int) x17_2 x18_2 t377 t381 true))) else (laws_FnCircles.j2 k2 l1 t359 t362 t363 t372 (t359.length : Int) x17_2 x18_2 t377 t381 true)) else (laws_FnCircles.j2 k2 l1 t359 t362 t363 t372 (t359.length : Int) x17_2 x18_2 t377 t381 true)) else (laws_FnCircles.j2 k2 l1 t359 t362 t363 t372 (t359.length : Int) x17_2 x18_2 t377 t381 true)) = some r := H
                    have A39 := Aside0.mk A390
                    clear A390
                    have HC40 := Aside0.mk H
                    clear H
                    go_upto_region 19 with (first | ((with_reducible refine gate_callee (f := 21) rfl ?_); refine goesL_ (some 112) rfl rfl Try.func21 (by kernel_rfl) rfl #[.slice Ao12 t359.length co12, .int .i64 (wrap64 ((t359.length : Int) + 1)), .int .i64 x18_2] rfl (by (try simp only [List.map_toArray, List.map_cons, List.map_nil]); first | done | rfl | (simp only [List.length_drop, List.length_take]; rfl)) ?_; (with_reducible refine (impl_TurnFavourites.calls k2 _ _ t359 (wrap64 ((t359.length : Int) + 1)) x18_2 t377 t378 _ ?side1 ?side2 A37.out).mono ?_); (case side1 => repeat (first | exact (Kd.R_reads' HO_5.out).2.2 | (with_reducible refine Kd.C_alloc ?_ _) | (with_reducible refine Kd.C_drewN ?_ _) | (with_reducible refine Kd.C_drew ?_))); (case side2 => exact (Kd.R_reads' HO_5.out).2.1); rintro e w41 ⟨v379, rfl, ho0, hb⟩; refine ⟨_, rfl, ?_⟩; have n0_ := Aside0.mk (Kd.R_elder' (by (with_reducible repeat (first | apply Kd.R_alloc | apply Kd.R_drewN | apply Kd.R_drew)); exact HO_5.out) (Kd.R_base ho0) hb); have n1_ := Aside0.mk (Kd.R_elder' (by (with_reducible repeat (first | apply Kd.R_alloc | apply Kd.R_drewN | apply Kd.R_drew)); exact HO_6.out) (Kd.R_base ho0) hb); have n2_ := Aside0.mk (Kd.R_lower (Kd.R_new' (Kd.R_new' ho0 (Kd.R_lt (by (with_reducible repeat (first | apply Kd.R_alloc | apply Kd.R_drewN | apply Kd.R_drew)); exact HO_5.out))) (Kd.R_lt (by (with_reducible repeat (first | apply Kd.R_alloc | apply Kd.R_drewN | apply Kd.R_drew)); exact HO_6.out))) (below_size (by repeat (first | (with_reducible first | exact HB.out | apply below_alloc | apply pw_below_drewN | apply below_drew1) | exact HB.out)))); have n3_ := Aside0.mk (below_step (by repeat (first | (with_reducible first | exact HB.out | apply below_alloc | apply pw_below_drewN | apply below_drew1) | exact HB.out)) hb); clear HO_5; clear HO_6; clear HB; have HO_5 := n0_; have HO_6 := n1_; have HO380 := n2_; have HB := n3_; clear n0_ n1_ n2_ n3_; (try clear hb); (try clear hb2); (try clear hk); (try clear hi); (try clear ho0); obtain ⟨Ao42, co42, eo42⟩ := Kd.R_slice HO380.out; subst eo42) | ((with_reducible refine gate_callee (f := 22) rfl ?_); refine goesL_ (some 117) rfl rfl Try.func22 (by kernel_rfl) rfl #[.slice Ao42 t377.length co42] rfl (by (try simp only [List.map_toArray, List.map_cons, List.map_nil]); first | done | rfl | (simp only [List.length_drop, List.length_take]; rfl)) ?_; (with_reducible refine (impl_IsParking.calls k2 _ _ t377 t381 t382 _ ?side1 ?side2 A38.out).mono ?_); (case side1 => repeat (first | exact (Kd.R_reads' HO380.out).2.2 | (with_reducible refine Kd.C_alloc ?_ _) | (with_reducible refine Kd.C_drewN ?_ _) | (with_reducible refine Kd.C_drew ?_))); (case side2 => exact (Kd.R_reads' HO380.out).2.1); rintro e w43 ⟨rfl, hb⟩; refine ⟨_, rfl, ?_⟩; have n0_ := Aside0.mk (Kd.R_below (by (with_reducible repeat (first | apply Kd.R_alloc | apply Kd.R_drewN | apply Kd.R_drew)); exact HO_5.out) hb); have n1_ := Aside0.mk (Kd.R_below (by (with_reducible repeat (first | apply Kd.R_alloc | apply Kd.R_drewN | apply Kd.R_drew)); exact HO_6.out) hb); have n2_ := Aside0.mk (Kd.R_below (by (with_reducible repeat (first | apply Kd.R_alloc | apply Kd.R_drewN | apply Kd.R_drew)); exact HO380.out) hb); have n3_ := Aside0.mk (below_step (by repeat (first | (with_reducible first | exact HB.out | apply below_alloc | apply pw_below_drewN | apply below_drew1) | exact HB.out)) hb); clear HO_5; clear HO_6; clear HO380; clear HB; have HO_5 := n0_; have HO_6 := n1_; have HO380 := n2_; have HB := n3_; clear n0_ n1_ n2_ n3_; (try clear hb); (try clear hb2); (try clear hk); (try clear hi)) | ((with_reducible refine gate_callee (f := 18) rfl ?_); refine goesL_ (some 122) rfl rfl Try.func18 (by kernel_rfl) rfl #[.slice Ao42 t377.length co42] rfl (by (try simp only [List.map_toArray, List.map_cons, List.map_nil]); first | done | rfl | (simp only [List.length_drop, List.length_take]; rfl)) ?_; (with_reducible refine (impl_FreeOnCircle.calls k2 _ _ t377 t383 t384 _ ?side1 ?side2 A39.out).mono ?_); (case side1 => repeat (first | exact (Kd.R_reads' HO380.out).2.2 | (with_reducible refine Kd.C_alloc ?_ _) | (with_reducible refine Kd.C_drewN ?_ _) | (with_reducible refine Kd.C_drew ?_))); (case side2 => exact (Kd.R_reads' HO380.out).2.1); rintro e w44 ⟨rfl, hb⟩; refine ⟨_, rfl, ?_⟩; have n0_ := Aside0.mk (Kd.R_below (by (with_reducible repeat (first | apply Kd.R_alloc | apply Kd.R_drewN | apply Kd.R_drew)); exact HO_5.out) hb); have n1_ := Aside0.mk (Kd.R_below (by (with_reducible repeat (first | apply Kd.R_alloc | apply Kd.R_drewN | apply Kd.R_drew)); exact HO_6.out) hb); have n2_ := Aside0.mk (Kd.R_below (by (with_reducible repeat (first | apply Kd.R_alloc | apply Kd.R_drewN | apply Kd.R_drew)); exact HO380.out) hb); have n3_ := Aside0.mk (below_step (by repeat (first | (with_reducible first | exact HB.out | apply below_alloc | apply pw_below_drewN | apply below_drew1) | exact HB.out)) hb); clear HO_5; clear HO_6; clear HO380; clear HB; have HO_5 := n0_; have HO_6 := n1_; have HO380 := n2_; have HB := n3_; clear n0_ n1_ n2_ n3_; (try clear hb); (try clear hb2); (try clear hk); (try clear hi)))
                    (try simp only [Act.put, List.setIfInBounds_toArray, List.set_cons_zero, List.set_cons_succ])
                    go_cut [151] (fun v151 wc => ∃ (kq : Nat) (x151_39 : Bool), v151 = .bool x151_39 ∧ Aside0 (laws_FnCircles.j2 kq l1 t359 t362 t363 t372 (t359.length : Int) x17_2 x18_2 t377 t381 x151_39 = some r) ∧ Aside0 (kq ≤ k2) ∧ Aside0 (Kd.R (Kd.int .i64) 3 wc w.heap.size (fun k_ => some k_ ≠ (v365 : Value).ownBlock ∧ some k_ ≠ ((.slice Ao42 t377.length co42) : Value).ownBlock) (.slice Ao12 t359.length co12) t359) ∧ Aside0 (Kd.R (Kd.int .i64) 3 wc w.heap.size (fun k_ => some k_ ≠ ((.slice Ao12 t359.length co12) : Value).ownBlock ∧ some k_ ≠ ((.slice Ao42 t377.length co42) : Value).ownBlock) v365 t362) ∧ Aside0 (Kd.R (Kd.int .i64) 3 wc w.heap.size (fun k_ => some k_ ≠ ((.slice Ao12 t359.length co12) : Value).ownBlock ∧ some k_ ≠ (v365 : Value).ownBlock) (.slice Ao42 t377.length co42) t377) ∧ Aside0 (Below w.heap.size w wc))
                    case first => as_aux_lemma =>
                      have H := HC40.out
                      clear HC40
                      by_cases c45 : t378 = true
                      · subst c45
                        have H1 : (if t382 = true then (if t384 = true then (if (wrap64 ((t359.length : Int) + 1)) = 0 then (none) else (if t383 = (Int.tmod (wrap64 (t372 + x18_2)) (wrap64 ((t359.length : Int) + 1))) then (laws_FnCircles.j2 k2 l1 t359 t362 t363 t372 (t359.length : Int) x17_2 x18_2 t377 t381 (t381 != (x18_2 == t363))) else (laws_FnCircles.j2 k2 l1 t359 t362 t363 t372 (t359.length : Int) x17_2 x18_2 t377 t381 true))) else (laws_FnCircles.j2 k2 l1 t359 t362 t363 t372 (t359.length : Int) x17_2 x18_2 t377 t381 true)) else (laws_FnCircles.j2 k2 l1 t359 t362 t363 t372 (t359.length : Int) x17_2 x18_2 t377 t381 true)) = some r := by rw [if_pos rfl] at H; exact H
                        clear H
                        have H := H1
                        clear H1
                        by_cases c46 : t382 = true
                        · subst c46
                          have H1 : (if t384 = true then (if (wrap64 ((t359.length : Int) + 1)) = 0 then (none) else (if t383 = (Int.tmod (wrap64 (t372 + x18_2)) (wrap64 ((t359.length : Int) + 1))) then (laws_FnCircles.j2 k2 l1 t359 t362 t363 t372 (t359.length : Int) x17_2 x18_2 t377 t381 (t381 != (x18_2 == t363))) else (laws_FnCircles.j2 k2 l1 t359 t362 t363 t372 (t359.length : Int) x17_2 x18_2 t377 t381 true))) else (laws_FnCircles.j2 k2 l1 t359 t362 t363 t372 (t359.length : Int) x17_2 x18_2 t377 t381 true)) = some r := by rw [if_pos rfl] at H; exact H
                          clear H
                          have H := H1
                          clear H1
                          by_cases c47 : t384 = true
                          · subst c47
                            have H1 : (if (wrap64 ((t359.length : Int) + 1)) = 0 then (none) else (if t383 = (Int.tmod (wrap64 (t372 + x18_2)) (wrap64 ((t359.length : Int) + 1))) then (laws_FnCircles.j2 k2 l1 t359 t362 t363 t372 (t359.length : Int) x17_2 x18_2 t377 t381 (t381 != (x18_2 == t363))) else (laws_FnCircles.j2 k2 l1 t359 t362 t363 t372 (t359.length : Int) x17_2 x18_2 t377 t381 true))) = some r := by rw [if_pos rfl] at H; exact H
                            clear H
                            have H := H1
                            clear H1
                            by_cases c48 : (wrap64 ((t359.length : Int) + 1)) = 0
                            · rw [if_pos c48] at H
                              exact absurd H (by simp)
                            · rw [if_neg c48] at H
                              have c48b0 : ((wrap64 ((t359.length : Int) + 1)) == 0) = false := beq_eq_false_iff_ne.mpr c48
                              have c48b1 : ((wrap64 ((t359.length : Int) + 1)) != 0) = true := bne_iff_ne.mpr c48
                              (first | rw [c48b0] | (simp only [i64_w, i32_w]; rw [c48b0]) | skip)
                              by_cases c49 : t383 = (Int.tmod (wrap64 (t372 + x18_2)) (wrap64 ((t359.length : Int) + 1)))
                              · rw [if_pos c49] at H
                                have c49b0 : (t383 == (Int.tmod (wrap64 (t372 + x18_2)) (wrap64 ((t359.length : Int) + 1)))) = true := beq_iff_eq.mpr c49
                                have c49b1 : (t383 != (Int.tmod (wrap64 (t372 + x18_2)) (wrap64 ((t359.length : Int) + 1)))) = false := bne_eq_false_iff_eq.mpr c49
                                clear c49
                                have H' := Aside0.mk H
                                clear H
                                go_wp2
                                go_meet
                                case rel => exact ⟨_, ((t381 != (x18_2 == t363))), (by first | rfl | (simp; done) | (simp [*]; done)), H', ⟨by have := HJ9.out; have := HK2.out; first | omega | exact Nat.le_refl _⟩, ⟨by (with_reducible repeat (first | apply Kd.R_alloc | apply Kd.R_drewN | apply Kd.R_drew)); exact HO_5.out⟩, ⟨by (with_reducible repeat (first | apply Kd.R_alloc | apply Kd.R_drewN | apply Kd.R_drew)); exact HO_6.out⟩, ⟨by (with_reducible repeat (first | apply Kd.R_alloc | apply Kd.R_drewN | apply Kd.R_drew)); exact Kd.R_mono HO380.out (fun _ hk => ⟨hk.1.2, hk.2⟩)⟩, ⟨by repeat (first | (with_reducible first | exact HB.out | apply below_alloc | apply pw_below_drewN | apply below_drew1) | exact HB.out)⟩⟩
                              · rw [if_neg c49] at H
                                have c49b0 : (t383 == (Int.tmod (wrap64 (t372 + x18_2)) (wrap64 ((t359.length : Int) + 1)))) = false := beq_eq_false_iff_ne.mpr c49
                                have c49b1 : (t383 != (Int.tmod (wrap64 (t372 + x18_2)) (wrap64 ((t359.length : Int) + 1)))) = true := bne_iff_ne.mpr c49
                                have H' := Aside0.mk H
                                clear H
                                go_wp2
                                go_meet
                                case rel => exact ⟨_, (true), (by first | rfl | (simp; done) | (simp [*]; done)), H', ⟨by have := HJ9.out; have := HK2.out; first | omega | exact Nat.le_refl _⟩, ⟨by (with_reducible repeat (first | apply Kd.R_alloc | apply Kd.R_drewN | apply Kd.R_drew)); exact HO_5.out⟩, ⟨by (with_reducible repeat (first | apply Kd.R_alloc | apply Kd.R_drewN | apply Kd.R_drew)); exact HO_6.out⟩, ⟨by (with_reducible repeat (first | apply Kd.R_alloc | apply Kd.R_drewN | apply Kd.R_drew)); exact Kd.R_mono HO380.out (fun _ hk => ⟨hk.1.2, hk.2⟩)⟩, ⟨by repeat (first | (with_reducible first | exact HB.out | apply below_alloc | apply pw_below_drewN | apply below_drew1) | exact HB.out)⟩⟩
                          · replace c47 := Bool.eq_false_iff.mpr c47
                            subst c47
                            have H1 : (laws_FnCircles.j2 k2 l1 t359 t362 t363 t372 (t359.length : Int) x17_2 x18_2 t377 t381 true) = some r := by rw [if_neg (show ¬ (false = true) by decide)] at H; exact H
                            clear H
                            have H := H1
                            clear H1
                            have H' := Aside0.mk H
                            clear H
                            go_wp2
                            go_meet
                            case rel => exact ⟨_, (true), (by first | rfl | (simp; done) | (simp [*]; done)), H', ⟨by have := HJ9.out; have := HK2.out; first | omega | exact Nat.le_refl _⟩, ⟨by (with_reducible repeat (first | apply Kd.R_alloc | apply Kd.R_drewN | apply Kd.R_drew)); exact HO_5.out⟩, ⟨by (with_reducible repeat (first | apply Kd.R_alloc | apply Kd.R_drewN | apply Kd.R_drew)); exact HO_6.out⟩, ⟨by (with_reducible repeat (first | apply Kd.R_alloc | apply Kd.R_drewN | apply Kd.R_drew)); exact Kd.R_mono HO380.out (fun _ hk => ⟨hk.1.2, hk.2⟩)⟩, ⟨by repeat (first | (with_reducible first | exact HB.out | apply below_alloc | apply pw_below_drewN | apply below_drew1) | exact HB.out)⟩⟩
                        · replace c46 := Bool.eq_false_iff.mpr c46
                          subst c46
                          have H1 : (laws_FnCircles.j2 k2 l1 t359 t362 t363 t372 (t359.length : Int) x17_2 x18_2 t377 t381 true) = some r := by rw [if_neg (show ¬ (false = true) by decide)] at H; exact H
                          clear H
                          have H := H1
                          clear H1
                          have H' := Aside0.mk H
                          clear H
                          go_wp2
                          go_meet
                          case rel => exact ⟨_, (true), (by first | rfl | (simp; done) | (simp [*]; done)), H', ⟨by have := HJ9.out; have := HK2.out; first | omega | exact Nat.le_refl _⟩, ⟨by (with_reducible repeat (first | apply Kd.R_alloc | apply Kd.R_drewN | apply Kd.R_drew)); exact HO_5.out⟩, ⟨by (with_reducible repeat (first | apply Kd.R_alloc | apply Kd.R_drewN | apply Kd.R_drew)); exact HO_6.out⟩, ⟨by (with_reducible repeat (first | apply Kd.R_alloc | apply Kd.R_drewN | apply Kd.R_drew)); exact Kd.R_mono HO380.out (fun _ hk => ⟨hk.1.2, hk.2⟩)⟩, ⟨by repeat (first | (with_reducible first | exact HB.out | apply below_alloc | apply pw_below_drewN | apply below_drew1) | exact HB.out)⟩⟩
                      · replace c45 := Bool.eq_false_iff.mpr c45
                        subst c45
                        have H1 : (laws_FnCircles.j2 k2 l1 t359 t362 t363 t372 (t359.length : Int) x17_2 x18_2 t377 t381 true) = some r := by rw [if_neg (show ¬ (false = true) by decide)] at H; exact H
                        clear H
                        have H := H1
                        clear H1
                        have H' := Aside0.mk H
                        clear H
                        go_wp2
                        go_meet
                        case rel => exact ⟨_, (true), (by first | rfl | (simp; done) | (simp [*]; done)), H', ⟨by have := HJ9.out; have := HK2.out; first | omega | exact Nat.le_refl _⟩, ⟨by (with_reducible repeat (first | apply Kd.R_alloc | apply Kd.R_drewN | apply Kd.R_drew)); exact HO_5.out⟩, ⟨by (with_reducible repeat (first | apply Kd.R_alloc | apply Kd.R_drewN | apply Kd.R_drew)); exact HO_6.out⟩, ⟨by (with_reducible repeat (first | apply Kd.R_alloc | apply Kd.R_drewN | apply Kd.R_drew)); exact Kd.R_mono HO380.out (fun _ hk => ⟨hk.1.2, hk.2⟩)⟩, ⟨by repeat (first | (with_reducible first | exact HB.out | apply below_alloc | apply pw_below_drewN | apply below_drew1) | exact HB.out)⟩⟩
                    case rest => as_aux_lemma =>
                      clear HC40
                      try clear c1
                      try clear c2
                      try clear p2
                      try clear c3
                      try clear c4
                      try clear p6
                      try clear c14
                      try clear c15
                      try clear c16
                      try clear c17
                      try clear c17b0
                      try clear c17b1
                      try clear c17b2
                      try clear c18
                      try clear c19
                      try clear c20
                      try clear c20b0
                      try clear c20b1
                      try clear c21
                      try clear c21b0
                      try clear c21b1
                      try clear c21b2
                      try clear c22
                      try clear c24
                      try clear c24b0
                      try clear c24b1
                      try clear c33
                      try clear c35
                      try clear c36
                      try clear c36b0
                      try clear c45
                      try clear c46
                      try clear c47
                      try clear c48
                      try clear c48b0
                      try clear c48b1
                      try clear c49
                      try clear c49b0
                      try clear c49b1
                      try clear p2
                      obtain ⟨kq, x151_39, rfl, HA, HJ39, HO_5, HO_6, HO_19, HB⟩ := hcut
                      cases kq with
                      | zero => exact absurd HA.out (by simp [laws_FnCircles.j2])
                      | succ kj39 =>
                        have H := HA.out
                        clear HA
                        simp only [laws_FnCircles.j2] at H
                        by_cases c50 : x151_39 = true
                        · subst c50
                          have H1 : (some false) = some r := by rw [if_pos rfl] at H; exact H
                          clear H
                          have H := H1
                          clear H1
                          obtain rfl := Option.some.inj H
                          go_wp2
                          go_ret
                          exact ⟨by first | rfl | (simp [errW_none, errW_some] <;> rfl) | (simp [*, errW_none, errW_some] <;> rfl), by repeat (first | (with_reducible first | exact HB.out | apply below_alloc | apply pw_below_drewN | apply below_drew1) | exact HB.out)⟩
                        · replace c50 := Bool.eq_false_iff.mpr c50
                          subst c50
                          have H1 : (if t381 = true then ((laws_jSame.f kj39 t377 t362).bind fun t385 => (if t385 = true then (laws_FnCircles.l0 kj39 l1 t359 t362 t363 t372 (t359.length : Int) (wrap64 (x17_2 + 1)) (wrap64 (x18_2 + 1))) else (some false))) else (laws_FnCircles.l0 kj39 l1 t359 t362 t363 t372 (t359.length : Int) x17_2 (wrap64 (x18_2 + 1)))) = some r := by rw [if_neg (show ¬ (false = true) by decide)] at H; exact H
                          clear H
                          have H := H1
                          clear H1
                          by_cases c51 : t381 = true
                          · subst c51
                            have H1 : ((laws_jSame.f kj39 t377 t362).bind fun t385 => (if t385 = true then (laws_FnCircles.l0 kj39 l1 t359 t362 t363 t372 (t359.length : Int) (wrap64 (x17_2 + 1)) (wrap64 (x18_2 + 1))) else (some false))) = some r := by rw [if_pos rfl] at H; exact H
                            clear H
                            have H := H1
                            clear H1
                            replace H := Option.bind_eq_some_iff.mp H
                            obtain ⟨t385, A520, H⟩ := H
                            replace H : (if t385 = true then (laws_FnCircles.l0 kj39 l1 t359 t362 t363 t372 (t359.length : Int) (wrap64 (x17_2 + 1)) (wrap64 (x18_2 + 1))) else (some false)) = some r := H
                            have A52 := Aside0.mk A520
                            clear A520
                            by_cases c53 : t385 = true
                            · subst c53
                              have H1 : (laws_FnCircles.l0 kj39 l1 t359 t362 t363 t372 (t359.length : Int) (wrap64 (x17_2 + 1)) (wrap64 (x18_2 + 1))) = some r := by rw [if_pos rfl] at H; exact H
                              clear H
                              have H := H1
                              clear H1
                              have H' := Aside0.mk H
                              clear H
                              obtain ⟨Ao54, co54, eo54⟩ := Kd.R_slice HO_6.out
                              subst eo54
                              go_wp2_with (first | ((with_reducible refine gate_callee (f := 20) rfl ?_); refine goesL_ (some 157) rfl rfl Try.func20 (by kernel_rfl) rfl #[.slice Ao42 t377.length co42, .slice Ao54 t362.length co54] rfl (by (try simp only [List.map_toArray, List.map_cons, List.map_nil]); first | done | rfl | (simp only [List.length_drop, List.length_take]; rfl)) ?_; (with_reducible refine (laws_jSame.calls kj39 _ _ t377 _ _ t362 true _ ?side1 ?side2 ?side3 ?side4 A52.out).mono ?_); (case side1 => repeat (first | exact (Kd.R_reads' HO_19.out).2.2 | (with_reducible refine Kd.C_alloc ?_ _) | (with_reducible refine Kd.C_drewN ?_ _) | (with_reducible refine Kd.C_drew ?_))); (case side2 => exact (Kd.R_reads' HO_19.out).2.1); (case side3 => repeat (first | exact (Kd.R_reads' HO_6.out).2.2 | (with_reducible refine Kd.C_alloc ?_ _) | (with_reducible refine Kd.C_drewN ?_ _) | (with_reducible refine Kd.C_drew ?_))); (case side4 => exact (Kd.R_reads' HO_6.out).2.1); rintro e w' ⟨rfl, ⟨nd, rfl⟩⟩; refine ⟨_, rfl, ?_⟩))
                              go_roundg kj39
                              case measure => have := HJ9.out; have := HK2.out; have := HJ39.out; omega
                              case rel => exact ⟨(wrap64 (x17_2 + 1)), (wrap64 (x18_2 + 1)), (by first | rfl | (simp; done) | (simp [*]; done)), (by first | rfl | (simp; done) | (simp [*]; done)), H', ⟨by have := HJ9.out; have := HK2.out; have := HJ39.out; omega⟩, ⟨by (with_reducible repeat (first | apply Kd.R_alloc | apply Kd.R_drewN | apply Kd.R_drew)); exact Kd.R_mono HO_5.out (fun _ hk => hk.1)⟩, ⟨by (with_reducible repeat (first | apply Kd.R_alloc | apply Kd.R_drewN | apply Kd.R_drew)); exact Kd.R_mono HO_6.out (fun _ hk => hk.1)⟩, ⟨by repeat (first | (with_reducible first | exact HB.out | apply below_alloc | apply pw_below_drewN | apply below_drew1) | exact HB.out)⟩⟩
                            · replace c53 := Bool.eq_false_iff.mpr c53
                              subst c53
                              have H1 : (some false) = some r := by rw [if_neg (show ¬ (false = true) by decide)] at H; exact H
                              clear H
                              have H := H1
                              clear H1
                              obtain rfl := Option.some.inj H
                              obtain ⟨Ao55, co55, eo55⟩ := Kd.R_slice HO_6.out
                              subst eo55
                              go_wp2_with (first | ((with_reducible refine gate_callee (f := 20) rfl ?_); refine goesL_ (some 157) rfl rfl Try.func20 (by kernel_rfl) rfl #[.slice Ao42 t377.length co42, .slice Ao55 t362.length co55] rfl (by (try simp only [List.map_toArray, List.map_cons, List.map_nil]); first | done | rfl | (simp only [List.length_drop, List.length_take]; rfl)) ?_; (with_reducible refine (laws_jSame.calls kj39 _ _ t377 _ _ t362 false _ ?side1 ?side2 ?side3 ?side4 A52.out).mono ?_); (case side1 => repeat (first | exact (Kd.R_reads' HO_19.out).2.2 | (with_reducible refine Kd.C_alloc ?_ _) | (with_reducible refine Kd.C_drewN ?_ _) | (with_reducible refine Kd.C_drew ?_))); (case side2 => exact (Kd.R_reads' HO_19.out).2.1); (case side3 => repeat (first | exact (Kd.R_reads' HO_6.out).2.2 | (with_reducible refine Kd.C_alloc ?_ _) | (with_reducible refine Kd.C_drewN ?_ _) | (with_reducible refine Kd.C_drew ?_))); (case side4 => exact (Kd.R_reads' HO_6.out).2.1); rintro e w' ⟨rfl, ⟨nd, rfl⟩⟩; refine ⟨_, rfl, ?_⟩))
                              go_ret
                              exact ⟨by first | rfl | (simp [errW_none, errW_some] <;> rfl) | (simp [*, errW_none, errW_some] <;> rfl), by repeat (first | (with_reducible first | exact HB.out | apply below_alloc | apply pw_below_drewN | apply below_drew1) | exact HB.out)⟩
                          · replace c51 := Bool.eq_false_iff.mpr c51
                            subst c51
                            have H1 : (laws_FnCircles.l0 kj39 l1 t359 t362 t363 t372 (t359.length : Int) x17_2 (wrap64 (x18_2 + 1))) = some r := by rw [if_neg (show ¬ (false = true) by decide)] at H; exact H
                            clear H
                            have H := H1
                            clear H1
                            have H' := Aside0.mk H
                            clear H
                            go_wp2
                            go_roundg kj39
                            case measure => have := HJ9.out; have := HK2.out; have := HJ39.out; omega
                            case rel => exact ⟨(x17_2), (wrap64 (x18_2 + 1)), (by first | rfl | (simp; done) | (simp [*]; done)), (by first | rfl | (simp; done) | (simp [*]; done)), H', ⟨by have := HJ9.out; have := HK2.out; have := HJ39.out; omega⟩, ⟨by (with_reducible repeat (first | apply Kd.R_alloc | apply Kd.R_drewN | apply Kd.R_drew)); exact Kd.R_mono HO_5.out (fun _ hk => hk.1)⟩, ⟨by (with_reducible repeat (first | apply Kd.R_alloc | apply Kd.R_drewN | apply Kd.R_drew)); exact Kd.R_mono HO_6.out (fun _ hk => hk.1)⟩, ⟨by repeat (first | (with_reducible first | exact HB.out | apply below_alloc | apply pw_below_drewN | apply below_drew1) | exact HB.out)⟩⟩
                  · rw [if_neg c36] at H
                    have c36b0 : decide (x18_2 ≤ (t359.length : Int)) = false := decide_eq_false c36
                    clear c36
                    (first | rw [c36b0] | (simp only [i64_w, i32_w]; rw [c36b0]) | skip)
                    by_cases c56 : (t359.length : Int) > 1
                    · rw [if_pos c56] at H
                      have c56b0 : decide (1 < (t359.length : Int)) = true := decide_eq_true c56
                      have c56b1 : decide (1 < t359.length) = true := decide_eq_true (by omega)
                      clear c56
                      replace H := Option.bind_eq_some_iff.mp H
                      obtain ⟨t386, A570, H⟩ := H
                      replace H : (if (wrap64 ((t359.length : Int) - 1)) = 0 then (none) else ((laws_jSwapped.f t359 (Int.tmod t386 (wrap64 ((t359.length : Int) - 1)))).bind fun t387 => ((impl_FreeOnCircle.f k2 t387).bind fun bt390 => (if x17_2 = 1 then (if bt390.2 = true then (if bt390.1 = t372 then (laws_FnCircles.j3 k2 l1) else (some false)) else (some false)) else (some false))))) = some r := H
                      have A57 := Aside0.mk A570
                      clear A570
                      by_cases c58 : (wrap64 ((t359.length : Int) - 1)) = 0
                      · rw [if_pos c58] at H
                        exact absurd H (by simp)
                      · rw [if_neg c58] at H
                        have c58b0 : ((wrap64 ((t359.length : Int) - 1)) == 0) = false := beq_eq_false_iff_ne.mpr c58
                        have c58b1 : ((wrap64 ((t359.length : Int) - 1)) != 0) = true := bne_iff_ne.mpr c58
                        replace H := Option.bind_eq_some_iff.mp H
                        obtain ⟨t387, A590, H⟩ := H
                        replace H : ((impl_FreeOnCircle.f k2 t387).bind fun bt390 => (if x17_2 = 1 then (if bt390.2 = true then (if bt390.1 = t372 then (laws_FnCircles.j3 k2 l1) else (some false)) else (some false)) else (some false))) = some r := H
                        have A59 := Aside0.mk A590
                        clear A590
                        replace H := Option.bind_eq_some_iff.mp H
                        obtain ⟨⟨t390, t391⟩, A600, H⟩ := H
                        replace H : (if x17_2 = 1 then (if t391 = true then (if t390 = t372 then (laws_FnCircles.j3 k2 l1) else (some false)) else (some false)) else (some false)) = some r := H
                        have A60 := Aside0.mk A600
                        clear A600
                        by_cases c61 : x17_2 = 1
                        · rw [if_pos c61] at H
                          have c61b0 : (x17_2 == 1) = true := beq_iff_eq.mpr c61
                          have c61b1 : (x17_2 != 1) = false := bne_eq_false_iff_eq.mpr c61
                          clear c61
                          by_cases c62 : t391 = true
                          · subst c62
                            have H1 : (if t390 = t372 then (laws_FnCircles.j3 k2 l1) else (some false)) = some r := by rw [if_pos rfl] at H; exact H
                            clear H
                            have H := H1
                            clear H1
                            by_cases c63 : t390 = t372
                            · rw [if_pos c63] at H
                              have c63b0 : (t390 == t372) = true := beq_iff_eq.mpr c63
                              have c63b1 : (t390 != t372) = false := bne_eq_false_iff_eq.mpr c63
                              clear c63
                              have H' := Aside0.mk H
                              clear H
                              go_wp2_with (first | ((with_reducible refine gate_callee (f := 24) rfl ?_); refine goesL_ (some 164) rfl rfl Try.func24 (by kernel_rfl) rfl #[.slice A1 l1.length c1] rfl (by (try simp only [List.map_toArray, List.map_cons, List.map_nil]); first | done | rfl | (simp only [List.length_drop, List.length_take]; rfl)) ?_; (with_reducible refine (laws_numberOf.calls k2 _ _ l1 t386 _ ?side1 ?side2 A57.out).mono ?_); (case side1 => repeat (first | exact (Kd.C_below HR1.out HB.out) | (with_reducible refine Kd.C_alloc ?_ _) | (with_reducible refine Kd.C_drewN ?_ _) | (with_reducible refine Kd.C_drew ?_))); (case side2 => exact HC1.out); rintro e w' ⟨rfl, ⟨nd, rfl⟩⟩; refine ⟨_, rfl, ?_⟩) | ((with_reducible refine gate_callee (f := 23) rfl ?_); refine goesL_ (some 168) rfl rfl Try.func23 (by kernel_rfl) rfl #[.slice Ao12 t359.length co12, .int .i64 (Int.tmod t386 (wrap64 ((t359.length : Int) - 1)))] rfl (by (try simp only [List.map_toArray, List.map_cons, List.map_nil]); first | done | rfl | (simp only [List.length_drop, List.length_take]; rfl)) ?_; (with_reducible refine (laws_jSwapped.calls _ _ t359 (Int.tmod t386 (wrap64 ((t359.length : Int) - 1))) t387 _ ?side1 ?side2 A59.out).mono ?_); (case side1 => repeat (first | exact (Kd.R_reads' HO_5.out).2.2 | (with_reducible refine Kd.C_alloc ?_ _) | (with_reducible refine Kd.C_drewN ?_ _) | (with_reducible refine Kd.C_drew ?_))); (case side2 => exact (Kd.R_reads' HO_5.out).2.1); rintro e w64 ⟨v388, rfl, ho0, hb⟩; refine ⟨_, rfl, ?_⟩; have n0_ := Aside0.mk (Kd.R_elder' (by (with_reducible repeat (first | apply Kd.R_alloc | apply Kd.R_drewN | apply Kd.R_drew)); exact HO_5.out) (Kd.R_base ho0) hb); have n1_ := Aside0.mk (Kd.R_elder' (by (with_reducible repeat (first | apply Kd.R_alloc | apply Kd.R_drewN | apply Kd.R_drew)); exact HO_6.out) (Kd.R_base ho0) hb); have n2_ := Aside0.mk (Kd.R_lower (Kd.R_new' (Kd.R_new' ho0 (Kd.R_lt (by (with_reducible repeat (first | apply Kd.R_alloc | apply Kd.R_drewN | apply Kd.R_drew)); exact HO_5.out))) (Kd.R_lt (by (with_reducible repeat (first | apply Kd.R_alloc | apply Kd.R_drewN | apply Kd.R_drew)); exact HO_6.out))) (below_size (by repeat (first | (with_reducible first | exact HB.out | apply below_alloc | apply pw_below_drewN | apply below_drew1) | exact HB.out)))); have n3_ := Aside0.mk (below_step (by repeat (first | (with_reducible first | exact HB.out | apply below_alloc | apply pw_below_drewN | apply below_drew1) | exact HB.out)) hb); clear HO_5; clear HO_6; clear HB; have HO_5 := n0_; have HO_6 := n1_; have HO389 := n2_; have HB := n3_; clear n0_ n1_ n2_ n3_; (try clear hb); (try clear hb2); (try clear hk); (try clear hi); (try clear ho0); obtain ⟨Ao65, co65, eo65⟩ := Kd.R_slice HO389.out; subst eo65) | ((with_reducible refine gate_callee (f := 18) rfl ?_); refine goesL_ (some 171) rfl rfl Try.func18 (by kernel_rfl) rfl #[.slice Ao65 t387.length co65] rfl (by (try simp only [List.map_toArray, List.map_cons, List.map_nil]); first | done | rfl | (simp only [List.length_drop, List.length_take]; rfl)) ?_; (with_reducible refine (impl_FreeOnCircle.calls k2 _ _ t387 t390 true _ ?side1 ?side2 A60.out).mono ?_); (case side1 => repeat (first | exact (Kd.R_reads' HO389.out).2.2 | (with_reducible refine Kd.C_alloc ?_ _) | (with_reducible refine Kd.C_drewN ?_ _) | (with_reducible refine Kd.C_drew ?_))); (case side2 => exact (Kd.R_reads' HO389.out).2.1); rintro e w66 ⟨rfl, hb⟩; refine ⟨_, rfl, ?_⟩; have n0_ := Aside0.mk (Kd.R_below (by (with_reducible repeat (first | apply Kd.R_alloc | apply Kd.R_drewN | apply Kd.R_drew)); exact HO_5.out) hb); have n1_ := Aside0.mk (Kd.R_below (by (with_reducible repeat (first | apply Kd.R_alloc | apply Kd.R_drewN | apply Kd.R_drew)); exact HO_6.out) hb); have n2_ := Aside0.mk (Kd.R_below (by (with_reducible repeat (first | apply Kd.R_alloc | apply Kd.R_drewN | apply Kd.R_drew)); exact HO389.out) hb); have n3_ := Aside0.mk (below_step (by repeat (first | (with_reducible first | exact HB.out | apply below_alloc | apply pw_below_drewN | apply below_drew1) | exact HB.out)) hb); clear HO_5; clear HO_6; clear HO389; clear HB; have HO_5 := n0_; have HO_6 := n1_; have HO389 := n2_; have HB := n3_; clear n0_ n1_ n2_ n3_; (try clear hb); (try clear hb2); (try clear hk); (try clear hi)))
                              go_meet
                              case rel => exact ⟨_, H', ⟨by have := HJ9.out; have := HK2.out; first | omega | exact Nat.le_refl _⟩, ⟨by repeat (first | (with_reducible first | exact HB.out | apply below_alloc | apply pw_below_drewN | apply below_drew1) | exact HB.out)⟩⟩
                            · rw [if_neg c63] at H
                              have c63b0 : (t390 == t372) = false := beq_eq_false_iff_ne.mpr c63
                              have c63b1 : (t390 != t372) = true := bne_iff_ne.mpr c63
                              obtain rfl := Option.some.inj H
                              go_wp2_with (first | ((with_reducible refine gate_callee (f := 24) rfl ?_); refine goesL_ (some 164) rfl rfl Try.func24 (by kernel_rfl) rfl #[.slice A1 l1.length c1] rfl (by (try simp only [List.map_toArray, List.map_cons, List.map_nil]); first | done | rfl | (simp only [List.length_drop, List.length_take]; rfl)) ?_; (with_reducible refine (laws_numberOf.calls k2 _ _ l1 t386 _ ?side1 ?side2 A57.out).mono ?_); (case side1 => repeat (first | exact (Kd.C_below HR1.out HB.out) | (with_reducible refine Kd.C_alloc ?_ _) | (with_reducible refine Kd.C_drewN ?_ _) | (with_reducible refine Kd.C_drew ?_))); (case side2 => exact HC1.out); rintro e w' ⟨rfl, ⟨nd, rfl⟩⟩; refine ⟨_, rfl, ?_⟩) | ((with_reducible refine gate_callee (f := 23) rfl ?_); refine goesL_ (some 168) rfl rfl Try.func23 (by kernel_rfl) rfl #[.slice Ao12 t359.length co12, .int .i64 (Int.tmod t386 (wrap64 ((t359.length : Int) - 1)))] rfl (by (try simp only [List.map_toArray, List.map_cons, List.map_nil]); first | done | rfl | (simp only [List.length_drop, List.length_take]; rfl)) ?_; (with_reducible refine (laws_jSwapped.calls _ _ t359 (Int.tmod t386 (wrap64 ((t359.length : Int) - 1))) t387 _ ?side1 ?side2 A59.out).mono ?_); (case side1 => repeat (first | exact (Kd.R_reads' HO_5.out).2.2 | (with_reducible refine Kd.C_alloc ?_ _) | (with_reducible refine Kd.C_drewN ?_ _) | (with_reducible refine Kd.C_drew ?_))); (case side2 => exact (Kd.R_reads' HO_5.out).2.1); rintro e w67 ⟨v388, rfl, ho0, hb⟩; refine ⟨_, rfl, ?_⟩; have n0_ := Aside0.mk (Kd.R_elder' (by (with_reducible repeat (first | apply Kd.R_alloc | apply Kd.R_drewN | apply Kd.R_drew)); exact HO_5.out) (Kd.R_base ho0) hb); have n1_ := Aside0.mk (Kd.R_elder' (by (with_reducible repeat (first | apply Kd.R_alloc | apply Kd.R_drewN | apply Kd.R_drew)); exact HO_6.out) (Kd.R_base ho0) hb); have n2_ := Aside0.mk (Kd.R_lower (Kd.R_new' (Kd.R_new' ho0 (Kd.R_lt (by (with_reducible repeat (first | apply Kd.R_alloc | apply Kd.R_drewN | apply Kd.R_drew)); exact HO_5.out))) (Kd.R_lt (by (with_reducible repeat (first | apply Kd.R_alloc | apply Kd.R_drewN | apply Kd.R_drew)); exact HO_6.out))) (below_size (by repeat (first | (with_reducible first | exact HB.out | apply below_alloc | apply pw_below_drewN | apply below_drew1) | exact HB.out)))); have n3_ := Aside0.mk (below_step (by repeat (first | (with_reducible first | exact HB.out | apply below_alloc | apply pw_below_drewN | apply below_drew1) | exact HB.out)) hb); clear HO_5; clear HO_6; clear HB; have HO_5 := n0_; have HO_6 := n1_; have HO389 := n2_; have HB := n3_; clear n0_ n1_ n2_ n3_; (try clear hb); (try clear hb2); (try clear hk); (try clear hi); (try clear ho0); obtain ⟨Ao68, co68, eo68⟩ := Kd.R_slice HO389.out; subst eo68) | ((with_reducible refine gate_callee (f := 18) rfl ?_); refine goesL_ (some 171) rfl rfl Try.func18 (by kernel_rfl) rfl #[.slice Ao68 t387.length co68] rfl (by (try simp only [List.map_toArray, List.map_cons, List.map_nil]); first | done | rfl | (simp only [List.length_drop, List.length_take]; rfl)) ?_; (with_reducible refine (impl_FreeOnCircle.calls k2 _ _ t387 t390 true _ ?side1 ?side2 A60.out).mono ?_); (case side1 => repeat (first | exact (Kd.R_reads' HO389.out).2.2 | (with_reducible refine Kd.C_alloc ?_ _) | (with_reducible refine Kd.C_drewN ?_ _) | (with_reducible refine Kd.C_drew ?_))); (case side2 => exact (Kd.R_reads' HO389.out).2.1); rintro e w69 ⟨rfl, hb⟩; refine ⟨_, rfl, ?_⟩; have n0_ := Aside0.mk (Kd.R_below (by (with_reducible repeat (first | apply Kd.R_alloc | apply Kd.R_drewN | apply Kd.R_drew)); exact HO_5.out) hb); have n1_ := Aside0.mk (Kd.R_below (by (with_reducible repeat (first | apply Kd.R_alloc | apply Kd.R_drewN | apply Kd.R_drew)); exact HO_6.out) hb); have n2_ := Aside0.mk (Kd.R_below (by (with_reducible repeat (first | apply Kd.R_alloc | apply Kd.R_drewN | apply Kd.R_drew)); exact HO389.out) hb); have n3_ := Aside0.mk (below_step (by repeat (first | (with_reducible first | exact HB.out | apply below_alloc | apply pw_below_drewN | apply below_drew1) | exact HB.out)) hb); clear HO_5; clear HO_6; clear HO389; clear HB; have HO_5 := n0_; have HO_6 := n1_; have HO389 := n2_; have HB := n3_; clear n0_ n1_ n2_ n3_; (try clear hb); (try clear hb2); (try clear hk); (try clear hi)))
                              go_ret
                              exact ⟨by first | rfl | (simp [errW_none, errW_some] <;> rfl) | (simp [*, errW_none, errW_some] <;> rfl), by repeat (first | (with_reducible first | exact HB.out | apply below_alloc | apply pw_below_drewN | apply below_drew1) | exact HB.out)⟩
                          · replace c62 := Bool.eq_false_iff.mpr c62
                            subst c62
                            have H1 : (some false) = some r := by rw [if_neg (show ¬ (false = true) by decide)] at H; exact H
                            clear H
                            have H := H1
                            clear H1
                            obtain rfl := Option.some.inj H
                            go_wp2_with (first | ((with_reducible refine gate_callee (f := 24) rfl ?_); refine goesL_ (some 164) rfl rfl Try.func24 (by kernel_rfl) rfl #[.slice A1 l1.length c1] rfl (by (try simp only [List.map_toArray, List.map_cons, List.map_nil]); first | done | rfl | (simp only [List.length_drop, List.length_take]; rfl)) ?_; (with_reducible refine (laws_numberOf.calls k2 _ _ l1 t386 _ ?side1 ?side2 A57.out).mono ?_); (case side1 => repeat (first | exact (Kd.C_below HR1.out HB.out) | (with_reducible refine Kd.C_alloc ?_ _) | (with_reducible refine Kd.C_drewN ?_ _) | (with_reducible refine Kd.C_drew ?_))); (case side2 => exact HC1.out); rintro e w' ⟨rfl, ⟨nd, rfl⟩⟩; refine ⟨_, rfl, ?_⟩) | ((with_reducible refine gate_callee (f := 23) rfl ?_); refine goesL_ (some 168) rfl rfl Try.func23 (by kernel_rfl) rfl #[.slice Ao12 t359.length co12, .int .i64 (Int.tmod t386 (wrap64 ((t359.length : Int) - 1)))] rfl (by (try simp only [List.map_toArray, List.map_cons, List.map_nil]); first | done | rfl | (simp only [List.length_drop, List.length_take]; rfl)) ?_; (with_reducible refine (laws_jSwapped.calls _ _ t359 (Int.tmod t386 (wrap64 ((t359.length : Int) - 1))) t387 _ ?side1 ?side2 A59.out).mono ?_); (case side1 => repeat (first | exact (Kd.R_reads' HO_5.out).2.2 | (with_reducible refine Kd.C_alloc ?_ _) | (with_reducible refine Kd.C_drewN ?_ _) | (with_reducible refine Kd.C_drew ?_))); (case side2 => exact (Kd.R_reads' HO_5.out).2.1); rintro e w70 ⟨v388, rfl, ho0, hb⟩; refine ⟨_, rfl, ?_⟩; have n0_ := Aside0.mk (Kd.R_elder' (by (with_reducible repeat (first | apply Kd.R_alloc | apply Kd.R_drewN | apply Kd.R_drew)); exact HO_5.out) (Kd.R_base ho0) hb); have n1_ := Aside0.mk (Kd.R_elder' (by (with_reducible repeat (first | apply Kd.R_alloc | apply Kd.R_drewN | apply Kd.R_drew)); exact HO_6.out) (Kd.R_base ho0) hb); have n2_ := Aside0.mk (Kd.R_lower (Kd.R_new' (Kd.R_new' ho0 (Kd.R_lt (by (with_reducible repeat (first | apply Kd.R_alloc | apply Kd.R_drewN | apply Kd.R_drew)); exact HO_5.out))) (Kd.R_lt (by (with_reducible repeat (first | apply Kd.R_alloc | apply Kd.R_drewN | apply Kd.R_drew)); exact HO_6.out))) (below_size (by repeat (first | (with_reducible first | exact HB.out | apply below_alloc | apply pw_below_drewN | apply below_drew1) | exact HB.out)))); have n3_ := Aside0.mk (below_step (by repeat (first | (with_reducible first | exact HB.out | apply below_alloc | apply pw_below_drewN | apply below_drew1) | exact HB.out)) hb); clear HO_5; clear HO_6; clear HB; have HO_5 := n0_; have HO_6 := n1_; have HO389 := n2_; have HB := n3_; clear n0_ n1_ n2_ n3_; (try clear hb); (try clear hb2); (try clear hk); (try clear hi); (try clear ho0); obtain ⟨Ao71, co71, eo71⟩ := Kd.R_slice HO389.out; subst eo71) | ((with_reducible refine gate_callee (f := 18) rfl ?_); refine goesL_ (some 171) rfl rfl Try.func18 (by kernel_rfl) rfl #[.slice Ao71 t387.length co71] rfl (by (try simp only [List.map_toArray, List.map_cons, List.map_nil]); first | done | rfl | (simp only [List.length_drop, List.length_take]; rfl)) ?_; (with_reducible refine (impl_FreeOnCircle.calls k2 _ _ t387 t390 false _ ?side1 ?side2 A60.out).mono ?_); (case side1 => repeat (first | exact (Kd.R_reads' HO389.out).2.2 | (with_reducible refine Kd.C_alloc ?_ _) | (with_reducible refine Kd.C_drewN ?_ _) | (with_reducible refine Kd.C_drew ?_))); (case side2 => exact (Kd.R_reads' HO389.out).2.1); rintro e w72 ⟨rfl, hb⟩; refine ⟨_, rfl, ?_⟩; have n0_ := Aside0.mk (Kd.R_below (by (with_reducible repeat (first | apply Kd.R_alloc | apply Kd.R_drewN | apply Kd.R_drew)); exact HO_5.out) hb); have n1_ := Aside0.mk (Kd.R_below (by (with_reducible repeat (first | apply Kd.R_alloc | apply Kd.R_drewN | apply Kd.R_drew)); exact HO_6.out) hb); have n2_ := Aside0.mk (Kd.R_below (by (with_reducible repeat (first | apply Kd.R_alloc | apply Kd.R_drewN | apply Kd.R_drew)); exact HO389.out) hb); have n3_ := Aside0.mk (below_step (by repeat (first | (with_reducible first | exact HB.out | apply below_alloc | apply pw_below_drewN | apply below_drew1) | exact HB.out)) hb); clear HO_5; clear HO_6; clear HO389; clear HB; have HO_5 := n0_; have HO_6 := n1_; have HO389 := n2_; have HB := n3_; clear n0_ n1_ n2_ n3_; (try clear hb); (try clear hb2); (try clear hk); (try clear hi)))
                            go_ret
                            exact ⟨by first | rfl | (simp [errW_none, errW_some] <;> rfl) | (simp [*, errW_none, errW_some] <;> rfl), by repeat (first | (with_reducible first | exact HB.out | apply below_alloc | apply pw_below_drewN | apply below_drew1) | exact HB.out)⟩
                        · rw [if_neg c61] at H
                          have c61b0 : (x17_2 == 1) = false := beq_eq_false_iff_ne.mpr c61
                          have c61b1 : (x17_2 != 1) = true := bne_iff_ne.mpr c61
                          obtain rfl := Option.some.inj H
                          go_wp2_with (first | ((with_reducible refine gate_callee (f := 24) rfl ?_); refine goesL_ (some 164) rfl rfl Try.func24 (by kernel_rfl) rfl #[.slice A1 l1.length c1] rfl (by (try simp only [List.map_toArray, List.map_cons, List.map_nil]); first | done | rfl | (simp only [List.length_drop, List.length_take]; rfl)) ?_; (with_reducible refine (laws_numberOf.calls k2 _ _ l1 t386 _ ?side1 ?side2 A57.out).mono ?_); (case side1 => repeat (first | exact (Kd.C_below HR1.out HB.out) | (with_reducible refine Kd.C_alloc ?_ _) | (with_reducible refine Kd.C_drewN ?_ _) | (with_reducible refine Kd.C_drew ?_))); (case side2 => exact HC1.out); rintro e w' ⟨rfl, ⟨nd, rfl⟩⟩; refine ⟨_, rfl, ?_⟩) | ((with_reducible refine gate_callee (f := 23) rfl ?_); refine goesL_ (some 168) rfl rfl Try.func23 (by kernel_rfl) rfl #[.slice Ao12 t359.length co12, .int .i64 (Int.tmod t386 (wrap64 ((t359.length : Int) - 1)))] rfl (by (try simp only [List.map_toArray, List.map_cons, List.map_nil]); first | done | rfl | (simp only [List.length_drop, List.length_take]; rfl)) ?_; (with_reducible refine (laws_jSwapped.calls _ _ t359 (Int.tmod t386 (wrap64 ((t359.length : Int) - 1))) t387 _ ?side1 ?side2 A59.out).mono ?_); (case side1 => repeat (first | exact (Kd.R_reads' HO_5.out).2.2 | (with_reducible refine Kd.C_alloc ?_ _) | (with_reducible refine Kd.C_drewN ?_ _) | (with_reducible refine Kd.C_drew ?_))); (case side2 => exact (Kd.R_reads' HO_5.out).2.1); rintro e w73 ⟨v388, rfl, ho0, hb⟩; refine ⟨_, rfl, ?_⟩; have n0_ := Aside0.mk (Kd.R_elder' (by (with_reducible repeat (first | apply Kd.R_alloc | apply Kd.R_drewN | apply Kd.R_drew)); exact HO_5.out) (Kd.R_base ho0) hb); have n1_ := Aside0.mk (Kd.R_elder' (by (with_reducible repeat (first | apply Kd.R_alloc | apply Kd.R_drewN | apply Kd.R_drew)); exact HO_6.out) (Kd.R_base ho0) hb); have n2_ := Aside0.mk (Kd.R_lower (Kd.R_new' (Kd.R_new' ho0 (Kd.R_lt (by (with_reducible repeat (first | apply Kd.R_alloc | apply Kd.R_drewN | apply Kd.R_drew)); exact HO_5.out))) (Kd.R_lt (by (with_reducible repeat (first | apply Kd.R_alloc | apply Kd.R_drewN | apply Kd.R_drew)); exact HO_6.out))) (below_size (by repeat (first | (with_reducible first | exact HB.out | apply below_alloc | apply pw_below_drewN | apply below_drew1) | exact HB.out)))); have n3_ := Aside0.mk (below_step (by repeat (first | (with_reducible first | exact HB.out | apply below_alloc | apply pw_below_drewN | apply below_drew1) | exact HB.out)) hb); clear HO_5; clear HO_6; clear HB; have HO_5 := n0_; have HO_6 := n1_; have HO389 := n2_; have HB := n3_; clear n0_ n1_ n2_ n3_; (try clear hb); (try clear hb2); (try clear hk); (try clear hi); (try clear ho0); obtain ⟨Ao74, co74, eo74⟩ := Kd.R_slice HO389.out; subst eo74) | ((with_reducible refine gate_callee (f := 18) rfl ?_); refine goesL_ (some 171) rfl rfl Try.func18 (by kernel_rfl) rfl #[.slice Ao74 t387.length co74] rfl (by (try simp only [List.map_toArray, List.map_cons, List.map_nil]); first | done | rfl | (simp only [List.length_drop, List.length_take]; rfl)) ?_; (with_reducible refine (impl_FreeOnCircle.calls k2 _ _ t387 t390 t391 _ ?side1 ?side2 A60.out).mono ?_); (case side1 => repeat (first | exact (Kd.R_reads' HO389.out).2.2 | (with_reducible refine Kd.C_alloc ?_ _) | (with_reducible refine Kd.C_drewN ?_ _) | (with_reducible refine Kd.C_drew ?_))); (case side2 => exact (Kd.R_reads' HO389.out).2.1); rintro e w75 ⟨rfl, hb⟩; refine ⟨_, rfl, ?_⟩; have n0_ := Aside0.mk (Kd.R_below (by (with_reducible repeat (first | apply Kd.R_alloc | apply Kd.R_drewN | apply Kd.R_drew)); exact HO_5.out) hb); have n1_ := Aside0.mk (Kd.R_below (by (with_reducible repeat (first | apply Kd.R_alloc | apply Kd.R_drewN | apply Kd.R_drew)); exact HO_6.out) hb); have n2_ := Aside0.mk (Kd.R_below (by (with_reducible repeat (first | apply Kd.R_alloc | apply Kd.R_drewN | apply Kd.R_drew)); exact HO389.out) hb); have n3_ := Aside0.mk (below_step (by repeat (first | (with_reducible first | exact HB.out | apply below_alloc | apply pw_below_drewN | apply below_drew1) | exact HB.out)) hb); clear HO_5; clear HO_6; clear HO389; clear HB; have HO_5 := n0_; have HO_6 := n1_; have HO389 := n2_; have HB := n3_; clear n0_ n1_ n2_ n3_; (try clear hb); (try clear hb2); (try clear hk); (try clear hi)))
                          go_ret
                          exact ⟨by first | rfl | (simp [errW_none, errW_some] <;> rfl) | (simp [*, errW_none, errW_some] <;> rfl), by repeat (first | (with_reducible first | exact HB.out | apply below_alloc | apply pw_below_drewN | apply below_drew1) | exact HB.out)⟩
                    · rw [if_neg c56] at H
                      have c56b0 : decide (1 < (t359.length : Int)) = false := decide_eq_false c56
                      have c56b1 : decide (1 < t359.length) = false := decide_eq_false (by omega)
                      clear c56
                      replace H := Option.bind_eq_some_iff.mp H
                      obtain ⟨⟨t392, t393⟩, A760, H⟩ := H
                      replace H : (if x17_2 = 1 then (if t393 = true then (if t392 = t372 then (laws_FnCircles.j3 k2 l1) else (some false)) else (some false)) else (some false)) = some r := H
                      have A76 := Aside0.mk A760
                      clear A760
                      by_cases c77 : x17_2 = 1
                      · rw [if_pos c77] at H
                        have c77b0 : (x17_2 == 1) = true := beq_iff_eq.mpr c77
                        have c77b1 : (x17_2 != 1) = false := bne_eq_false_iff_eq.mpr c77
                        clear c77
                        by_cases c78 : t393 = true
                        · subst c78
                          have H1 : (if t392 = t372 then (laws_FnCircles.j3 k2 l1) else (some false)) = some r := by rw [if_pos rfl] at H; exact H
                          clear H
                          have H := H1
                          clear H1
                          by_cases c79 : t392 = t372
                          · rw [if_pos c79] at H
                            have c79b0 : (t392 == t372) = true := beq_iff_eq.mpr c79
                            have c79b1 : (t392 != t372) = false := bne_eq_false_iff_eq.mpr c79
                            clear c79
                            have H' := Aside0.mk H
                            clear H
                            go_wp2_with (first | ((with_reducible refine gate_callee (f := 18) rfl ?_); refine goesL_ (some 171) rfl rfl Try.func18 (by kernel_rfl) rfl #[.slice Ao12 t359.length co12] rfl (by (try simp only [List.map_toArray, List.map_cons, List.map_nil]); first | done | rfl | (simp only [List.length_drop, List.length_take]; rfl)) ?_; (with_reducible refine (impl_FreeOnCircle.calls k2 _ _ t359 t392 true _ ?side1 ?side2 A76.out).mono ?_); (case side1 => repeat (first | exact (Kd.R_reads' HO_5.out).2.2 | (with_reducible refine Kd.C_alloc ?_ _) | (with_reducible refine Kd.C_drewN ?_ _) | (with_reducible refine Kd.C_drew ?_))); (case side2 => exact (Kd.R_reads' HO_5.out).2.1); rintro e w80 ⟨rfl, hb⟩; refine ⟨_, rfl, ?_⟩; have n0_ := Aside0.mk (Kd.R_below (by (with_reducible repeat (first | apply Kd.R_alloc | apply Kd.R_drewN | apply Kd.R_drew)); exact HO_5.out) hb); have n1_ := Aside0.mk (Kd.R_below (by (with_reducible repeat (first | apply Kd.R_alloc | apply Kd.R_drewN | apply Kd.R_drew)); exact HO_6.out) hb); have n2_ := Aside0.mk (below_step (by repeat (first | (with_reducible first | exact HB.out | apply below_alloc | apply pw_below_drewN | apply below_drew1) | exact HB.out)) hb); clear HO_5; clear HO_6; clear HB; have HO_5 := n0_; have HO_6 := n1_; have HB := n2_; clear n0_ n1_ n2_; (try clear hb); (try clear hb2); (try clear hk); (try clear hi)))
                            go_meet
                            case rel => exact ⟨_, H', ⟨by have := HJ9.out; have := HK2.out; first | omega | exact Nat.le_refl _⟩, ⟨by repeat (first | (with_reducible first | exact HB.out | apply below_alloc | apply pw_below_drewN | apply below_drew1) | exact HB.out)⟩⟩
                          · rw [if_neg c79] at H
                            have c79b0 : (t392 == t372) = false := beq_eq_false_iff_ne.mpr c79
                            have c79b1 : (t392 != t372) = true := bne_iff_ne.mpr c79
                            obtain rfl := Option.some.inj H
                            go_wp2_with (first | ((with_reducible refine gate_callee (f := 18) rfl ?_); refine goesL_ (some 171) rfl rfl Try.func18 (by kernel_rfl) rfl #[.slice Ao12 t359.length co12] rfl (by (try simp only [List.map_toArray, List.map_cons, List.map_nil]); first | done | rfl | (simp only [List.length_drop, List.length_take]; rfl)) ?_; (with_reducible refine (impl_FreeOnCircle.calls k2 _ _ t359 t392 true _ ?side1 ?side2 A76.out).mono ?_); (case side1 => repeat (first | exact (Kd.R_reads' HO_5.out).2.2 | (with_reducible refine Kd.C_alloc ?_ _) | (with_reducible refine Kd.C_drewN ?_ _) | (with_reducible refine Kd.C_drew ?_))); (case side2 => exact (Kd.R_reads' HO_5.out).2.1); rintro e w81 ⟨rfl, hb⟩; refine ⟨_, rfl, ?_⟩; have n0_ := Aside0.mk (Kd.R_below (by (with_reducible repeat (first | apply Kd.R_alloc | apply Kd.R_drewN | apply Kd.R_drew)); exact HO_5.out) hb); have n1_ := Aside0.mk (Kd.R_below (by (with_reducible repeat (first | apply Kd.R_alloc | apply Kd.R_drewN | apply Kd.R_drew)); exact HO_6.out) hb); have n2_ := Aside0.mk (below_step (by repeat (first | (with_reducible first | exact HB.out | apply below_alloc | apply pw_below_drewN | apply below_drew1) | exact HB.out)) hb); clear HO_5; clear HO_6; clear HB; have HO_5 := n0_; have HO_6 := n1_; have HB := n2_; clear n0_ n1_ n2_; (try clear hb); (try clear hb2); (try clear hk); (try clear hi)))
                            go_ret
                            exact ⟨by first | rfl | (simp [errW_none, errW_some] <;> rfl) | (simp [*, errW_none, errW_some] <;> rfl), by repeat (first | (with_reducible first | exact HB.out | apply below_alloc | apply pw_below_drewN | apply below_drew1) | exact HB.out)⟩
                        · replace c78 := Bool.eq_false_iff.mpr c78
                          subst c78
                          have H1 : (some false) = some r := by rw [if_neg (show ¬ (false = true) by decide)] at H; exact H
                          clear H
                          have H := H1
                          clear H1
                          obtain rfl := Option.some.inj H
                          go_wp2_with (first | ((with_reducible refine gate_callee (f := 18) rfl ?_); refine goesL_ (some 171) rfl rfl Try.func18 (by kernel_rfl) rfl #[.slice Ao12 t359.length co12] rfl (by (try simp only [List.map_toArray, List.map_cons, List.map_nil]); first | done | rfl | (simp only [List.length_drop, List.length_take]; rfl)) ?_; (with_reducible refine (impl_FreeOnCircle.calls k2 _ _ t359 t392 false _ ?side1 ?side2 A76.out).mono ?_); (case side1 => repeat (first | exact (Kd.R_reads' HO_5.out).2.2 | (with_reducible refine Kd.C_alloc ?_ _) | (with_reducible refine Kd.C_drewN ?_ _) | (with_reducible refine Kd.C_drew ?_))); (case side2 => exact (Kd.R_reads' HO_5.out).2.1); rintro e w82 ⟨rfl, hb⟩; refine ⟨_, rfl, ?_⟩; have n0_ := Aside0.mk (Kd.R_below (by (with_reducible repeat (first | apply Kd.R_alloc | apply Kd.R_drewN | apply Kd.R_drew)); exact HO_5.out) hb); have n1_ := Aside0.mk (Kd.R_below (by (with_reducible repeat (first | apply Kd.R_alloc | apply Kd.R_drewN | apply Kd.R_drew)); exact HO_6.out) hb); have n2_ := Aside0.mk (below_step (by repeat (first | (with_reducible first | exact HB.out | apply below_alloc | apply pw_below_drewN | apply below_drew1) | exact HB.out)) hb); clear HO_5; clear HO_6; clear HB; have HO_5 := n0_; have HO_6 := n1_; have HB := n2_; clear n0_ n1_ n2_; (try clear hb); (try clear hb2); (try clear hk); (try clear hi)))
                          go_ret
                          exact ⟨by first | rfl | (simp [errW_none, errW_some] <;> rfl) | (simp [*, errW_none, errW_some] <;> rfl), by repeat (first | (with_reducible first | exact HB.out | apply below_alloc | apply pw_below_drewN | apply below_drew1) | exact HB.out)⟩
                      · rw [if_neg c77] at H
                        have c77b0 : (x17_2 == 1) = false := beq_eq_false_iff_ne.mpr c77
                        have c77b1 : (x17_2 != 1) = true := bne_iff_ne.mpr c77
                        obtain rfl := Option.some.inj H
                        go_wp2_with (first | ((with_reducible refine gate_callee (f := 18) rfl ?_); refine goesL_ (some 171) rfl rfl Try.func18 (by kernel_rfl) rfl #[.slice Ao12 t359.length co12] rfl (by (try simp only [List.map_toArray, List.map_cons, List.map_nil]); first | done | rfl | (simp only [List.length_drop, List.length_take]; rfl)) ?_; (with_reducible refine (impl_FreeOnCircle.calls k2 _ _ t359 t392 t393 _ ?side1 ?side2 A76.out).mono ?_); (case side1 => repeat (first | exact (Kd.R_reads' HO_5.out).2.2 | (with_reducible refine Kd.C_alloc ?_ _) | (with_reducible refine Kd.C_drewN ?_ _) | (with_reducible refine Kd.C_drew ?_))); (case side2 => exact (Kd.R_reads' HO_5.out).2.1); rintro e w83 ⟨rfl, hb⟩; refine ⟨_, rfl, ?_⟩; have n0_ := Aside0.mk (Kd.R_below (by (with_reducible repeat (first | apply Kd.R_alloc | apply Kd.R_drewN | apply Kd.R_drew)); exact HO_5.out) hb); have n1_ := Aside0.mk (Kd.R_below (by (with_reducible repeat (first | apply Kd.R_alloc | apply Kd.R_drewN | apply Kd.R_drew)); exact HO_6.out) hb); have n2_ := Aside0.mk (below_step (by repeat (first | (with_reducible first | exact HB.out | apply below_alloc | apply pw_below_drewN | apply below_drew1) | exact HB.out)) hb); clear HO_5; clear HO_6; clear HB; have HO_5 := n0_; have HO_6 := n1_; have HB := n2_; clear n0_ n1_ n2_; (try clear hb); (try clear hb2); (try clear hk); (try clear hi)))
                        go_ret
                        exact ⟨by first | rfl | (simp [errW_none, errW_some] <;> rfl) | (simp [*, errW_none, errW_some] <;> rfl), by repeat (first | (with_reducible first | exact HB.out | apply below_alloc | apply pw_below_drewN | apply below_drew1) | exact HB.out)⟩
            · replace c35 := Bool.eq_false_iff.mpr c35
              subst c35
              have H1 : (laws_FnCircles.j3 kj9 l1) = some r := by rw [if_neg (show ¬ (false = true) by decide)] at H; exact H
              clear H
              have H := H1
              clear H1
              have H' := Aside0.mk H
              clear H
              go_wp2
              go_meet
              case rel => exact ⟨_, H', ⟨by have := HJ9.out; first | omega | exact Nat.le_refl _⟩, ⟨by repeat (first | (with_reducible first | exact HB.out | apply below_alloc | apply pw_below_drewN | apply below_drew1) | exact HB.out)⟩⟩
          case rest => as_aux_lemma =>
            clear HC34
            try clear c1
            try clear c2
            try clear p2
            try clear c3
            try clear c4
            try clear c5
            try clear c6
            try clear p6
            try clear c7
            try clear c14
            try clear c15
            try clear c16
            try clear c17
            try clear c17b0
            try clear c17b1
            try clear c17b2
            try clear c18
            try clear c19
            try clear c20
            try clear c20b0
            try clear c20b1
            try clear c21
            try clear c21b0
            try clear c21b1
            try clear c21b2
            try clear c22
            try clear c23
            try clear c24
            try clear c24b0
            try clear c24b1
            try clear c33
            try clear c35
            try clear c36
            try clear c36b0
            try clear c45
            try clear c46
            try clear c47
            try clear c48
            try clear c48b0
            try clear c48b1
            try clear c49
            try clear c49b0
            try clear c49b1
            try clear c50
            try clear c51
            try clear c53
            try clear c56
            try clear c56b0
            try clear c56b1
            try clear c58
            try clear c58b0
            try clear c58b1
            try clear c61
            try clear c61b0
            try clear c61b1
            try clear c62
            try clear c63
            try clear c63b0
            try clear c63b1
            try clear p64
            try clear c77
            try clear c77b0
            try clear c77b1
            try clear c78
            try clear c79
            try clear c79b0
            try clear c79b1
            try clear p2
            try clear p6
            obtain ⟨kq, HA, HJ33, HB⟩ := hcut
            cases kq with
            | zero => exact absurd HA.out (by simp [laws_FnCircles.j3])
            | succ kj33 =>
              have H := HA.out
              clear HA
              simp only [laws_FnCircles.j3] at H
              replace H := Option.bind_eq_some_iff.mp H
              obtain ⟨⟨t394, t395⟩, A840, H⟩ := H
              replace H : ((impl_DriveCircle.f kj33 t394 t395).bind fun bt398 => ((spec_DriveCircle.f kj33 t394 t395).bind fun bt402 => ((spec_DrawTurnFavourites.f kj33 l1).bind fun bt406 => ((impl_TurnFavourites.f kj33 bt406.1 bt406.2.1 bt406.2.2).bind fun bt411 => ((spec_TurnFavourites.f kj33 bt406.1 bt406.2.1 bt406.2.2).bind fun bt415 => (if (bt398.2 != bt402.2) = true then (laws_FnCircles.j4 kj33 t394 t395 bt398.1 bt398.2 true) else ((laws_jSame.f kj33 bt398.1 bt402.1).bind fun t419 => (if t419 = true then (if (bt411.2 != bt415.2) = true then (laws_FnCircles.j4 kj33 t394 t395 bt398.1 bt398.2 true) else ((laws_jSame.f kj33 bt411.1 bt415.1).bind fun t420 => (laws_FnCircles.j4 kj33 t394 t395 bt398.1 bt398.2 (!t420)))) else (laws_FnCircles.j4 kj33 t394 t395 bt398.1 bt398.2 true))))))))) = some r := H
              have A84 := Aside0.mk A840
              clear A840
              replace H := Option.bind_eq_some_iff.mp H
              obtain ⟨⟨t398, t399⟩, A850, H⟩ := H
              replace H : ((spec_DriveCircle.f kj33 t394 t395).bind fun bt402 => ((spec_DrawTurnFavourites.f kj33 l1).bind fun bt406 => ((impl_TurnFavourites.f kj33 bt406.1 bt406.2.1 bt406.2.2).bind fun bt411 => ((spec_TurnFavourites.f kj33 bt406.1 bt406.2.1 bt406.2.2).bind fun bt415 => (if (t399 != bt402.2) = true then (laws_FnCircles.j4 kj33 t394 t395 t398 t399 true) else ((laws_jSame.f kj33 t398 bt402.1).bind fun t419 => (if t419 = true then (if (bt411.2 != bt415.2) = true then (laws_FnCircles.j4 kj33 t394 t395 t398 t399 true) else ((laws_jSame.f kj33 bt411.1 bt415.1).bind fun t420 => (laws_FnCircles.j4 kj33 t394 t395 t398 t399 (!t420)))) else (laws_FnCircles.j4 kj33 t394 t395 t398 t399 true)))))))) = some r := H
              have A85 := Aside0.mk A850
              clear A850
              replace H := Option.bind_eq_some_iff.mp H
              obtain ⟨⟨t402, t403⟩, A860, H⟩ := H
              replace H : ((spec_DrawTurnFavourites.f kj33 l1).bind fun bt406 => ((impl_TurnFavourites.f kj33 bt406.1 bt406.2.1 bt406.2.2).bind fun bt411 => ((spec_TurnFavourites.f kj33 bt406.1 bt406.2.1 bt406.2.2).bind fun bt415 => (if (t399 != t403) = true then (laws_FnCircles.j4 kj33 t394 t395 t398 t399 true) else ((laws_jSame.f kj33 t398 t402).bind fun t419 => (if t419 = true then (if (bt411.2 != bt415.2) = true then (laws_FnCircles.j4 kj33 t394 t395 t398 t399 true) else ((laws_jSame.f kj33 bt411.1 bt415.1).bind fun t420 => (laws_FnCircles.j4 kj33 t394 t395 t398 t399 (!t420)))) else (laws_FnCircles.j4 kj33 t394 t395 t398 t399 true))))))) = some r := H
              have A86 := Aside0.mk A860
              clear A860
              replace H := Option.bind_eq_some_iff.mp H
              obtain ⟨⟨t406, t407, t408⟩, A870, H⟩ := H
              replace H : ((impl_TurnFavourites.f kj33 t406 t407 t408).bind fun bt411 => ((spec_TurnFavourites.f kj33 t406 t407 t408).bind fun bt415 => (if (t399 != t403) = true then (laws_FnCircles.j4 kj33 t394 t395 t398 t399 true) else ((laws_jSame.f kj33 t398 t402).bind fun t419 => (if t419 = true then (if (bt411.2 != bt415.2) = true then (laws_FnCircles.j4 kj33 t394 t395 t398 t399 true) else ((laws_jSame.f kj33 bt411.1 bt415.1).bind fun t420 => (laws_FnCircles.j4 kj33 t394 t395 t398 t399 (!t420)))) else (laws_FnCircles.j4 kj33 t394 t395 t398 t399 true)))))) = some r := H
              have A87 := Aside0.mk A870
              clear A870
              replace H := Option.bind_eq_some_iff.mp H
              obtain ⟨⟨t411, t412⟩, A880, H⟩ := H
              replace H : ((spec_TurnFavourites.f kj33 t406 t407 t408).bind fun bt415 => (if (t399 != t403) = true then (laws_FnCircles.j4 kj33 t394 t395 t398 t399 true) else ((laws_jSame.f kj33 t398 t402).bind fun t419 => (if t419 = true then (if (t412 != bt415.2) = true then (laws_FnCircles.j4 kj33 t394 t395 t398 t399 true) else ((laws_jSame.f kj33 t411 bt415.1).bind fun t420 => (laws_FnCircles.j4 kj33 t394 t395 t398 t399 (!t420)))) else (laws_FnCircles.j4 kj33 t394 t395 t398 t399 true))))) = some r := H
              have A88 := Aside0.mk A880
              clear A880
              replace H := Option.bind_eq_some_iff.mp H
              obtain ⟨⟨t415, t416⟩, A890, H⟩ := H
              replace H : (if (t399 != t403) = true then (laws_FnCircles.j4 kj33 t394 t395 t398 t399 true) else ((laws_jSame.f kj33 t398 t402).bind fun t419 => (if t419 = true then (if (t412 != t416) = true then (laws_FnCircles.j4 kj33 t394 t395 t398 t399 true) else ((laws_jSame.f kj33 t411 t415).bind fun t420 => (laws_FnCircles.j4 kj33 t394 t395 t398 t399 (!t420)))) else (laws_FnCircles.j4 kj33 t394 t395 t398 t399 true)))) = some r := H
              have A89 := Aside0.mk A890
              clear A890
              have HC90 := Aside0.mk H
              clear H
              go_upto_region 37 with (first | ((with_reducible refine gate_callee (f := 25) rfl ?_); refine goesL_ (some 187) rfl rfl Try.func25 (by kernel_rfl) rfl #[.slice A1 l1.length c1] rfl (by (try simp only [List.map_toArray, List.map_cons, List.map_nil]); first | done | rfl | (simp only [List.length_drop, List.length_take]; rfl)) ?_; (with_reducible refine (spec_DrawDriveCircle.calls kj33 _ _ l1 t394 t395 _ ?side1 ?side2 A84.out).mono ?_); (case side1 => repeat (first | exact (Kd.C_below HR1.out HB.out) | (with_reducible refine Kd.C_alloc ?_ _) | (with_reducible refine Kd.C_drewN ?_ _) | (with_reducible refine Kd.C_drew ?_))); (case side2 => exact HC1.out); rintro e w91 ⟨v396, rfl, ho0, hb⟩; refine ⟨_, rfl, ?_⟩; have n0_ := Aside0.mk (Kd.R_lower ho0 (below_size (by repeat (first | (with_reducible first | exact HB.out | apply below_alloc | apply pw_below_drewN | apply below_drew1) | exact HB.out)))); have n1_ := Aside0.mk (below_step (by repeat (first | (with_reducible first | exact HB.out | apply below_alloc | apply pw_below_drewN | apply below_drew1) | exact HB.out)) hb); clear HB; have HO397 := n0_; have HB := n1_; clear n0_ n1_; (try clear hb); (try clear hb2); (try clear hk); (try clear hi); (try clear ho0); obtain ⟨Ao92, co92, eo92⟩ := Kd.R_slice HO397.out; subst eo92) | ((with_reducible refine gate_callee (f := 26) rfl ?_); refine goesL_ (some 193) rfl rfl Try.func26 (by kernel_rfl) rfl #[.slice Ao92 t394.length co92, .int .i64 t395] rfl (by (try simp only [List.map_toArray, List.map_cons, List.map_nil]); first | done | rfl | (simp only [List.length_drop, List.length_take]; rfl)) ?_; (with_reducible refine (impl_DriveCircle.calls kj33 _ _ t394 t395 t398 t399 _ ?side1 ?side2 A85.out).mono ?_); (case side1 => repeat (first | exact (Kd.R_reads' HO397.out).2.2 | (with_reducible refine Kd.C_alloc ?_ _) | (with_reducible refine Kd.C_drewN ?_ _) | (with_reducible refine Kd.C_drew ?_))); (case side2 => exact (Kd.R_reads' HO397.out).2.1); rintro e w93 ⟨v400, rfl, ho0, hb⟩; refine ⟨_, rfl, ?_⟩; have n0_ := Aside0.mk (Kd.R_elder' (by (with_reducible repeat (first | apply Kd.R_alloc | apply Kd.R_drewN | apply Kd.R_drew)); exact HO397.out) (Kd.R_base ho0) hb); have n1_ := Aside0.mk (Kd.R_lower (Kd.R_new' ho0 (Kd.R_lt (by (with_reducible repeat (first | apply Kd.R_alloc | apply Kd.R_drewN | apply Kd.R_drew)); exact HO397.out))) (below_size (by repeat (first | (with_reducible first | exact HB.out | apply below_alloc | apply pw_below_drewN | apply below_drew1) | exact HB.out)))); have n2_ := Aside0.mk (below_step (by repeat (first | (with_reducible first | exact HB.out | apply below_alloc | apply pw_below_drewN | apply below_drew1) | exact HB.out)) hb); clear HO397; clear HB; have HO397 := n0_; have HO401 := n1_; have HB := n2_; clear n0_ n1_ n2_; (try clear hb); (try clear hb2); (try clear hk); (try clear hi); (try clear ho0)) | ((with_reducible refine gate_callee (f := 27) rfl ?_); refine goesL_ (some 199) rfl rfl Try.func27 (by kernel_rfl) rfl #[.slice Ao92 t394.length co92, .int .i64 t395] rfl (by (try simp only [List.map_toArray, List.map_cons, List.map_nil]); first | done | rfl | (simp only [List.length_drop, List.length_take]; rfl)) ?_; (with_reducible refine (spec_DriveCircle.calls kj33 _ _ t394 t395 t402 t403 _ ?side1 ?side2 A86.out).mono ?_); (case side1 => repeat (first | exact (Kd.R_reads' HO397.out).2.2 | (with_reducible refine Kd.C_alloc ?_ _) | (with_reducible refine Kd.C_drewN ?_ _) | (with_reducible refine Kd.C_drew ?_))); (case side2 => exact (Kd.R_reads' HO397.out).2.1); rintro e w94 ⟨v404, rfl, ho0, hb⟩; refine ⟨_, rfl, ?_⟩; have n0_ := Aside0.mk (Kd.R_elder' (by (with_reducible repeat (first | apply Kd.R_alloc | apply Kd.R_drewN | apply Kd.R_drew)); exact HO397.out) (Kd.R_base ho0) hb); have n1_ := Aside0.mk (Kd.R_elder' (by (with_reducible repeat (first | apply Kd.R_alloc | apply Kd.R_drewN | apply Kd.R_drew)); exact HO401.out) (Kd.R_base ho0) hb); have n2_ := Aside0.mk (Kd.R_lower (Kd.R_new' (Kd.R_new' ho0 (Kd.R_lt (by (with_reducible repeat (first | apply Kd.R_alloc | apply Kd.R_drewN | apply Kd.R_drew)); exact HO397.out))) (Kd.R_lt (by (with_reducible repeat (first | apply Kd.R_alloc | apply Kd.R_drewN | apply Kd.R_drew)); exact HO401.out))) (below_size (by repeat (first | (with_reducible first | exact HB.out | apply below_alloc | apply pw_below_drewN | apply below_drew1) | exact HB.out)))); have n3_ := Aside0.mk (below_step (by repeat (first | (with_reducible first | exact HB.out | apply below_alloc | apply pw_below_drewN | apply below_drew1) | exact HB.out)) hb); clear HO397; clear HO401; clear HB; have HO397 := n0_; have HO401 := n1_; have HO405 := n2_; have HB := n3_; clear n0_ n1_ n2_ n3_; (try clear hb); (try clear hb2); (try clear hk); (try clear hi); (try clear ho0)) | ((with_reducible refine gate_callee (f := 28) rfl ?_); refine goesL_ (some 204) rfl rfl Try.func28 (by kernel_rfl) rfl #[.slice A1 l1.length c1] rfl (by (try simp only [List.map_toArray, List.map_cons, List.map_nil]); first | done | rfl | (simp only [List.length_drop, List.length_take]; rfl)) ?_; (with_reducible refine (spec_DrawTurnFavourites.calls kj33 _ _ l1 t406 t407 t408 _ ?side1 ?side2 A87.out).mono ?_); (case side1 => repeat (first | exact (Kd.C_below HR1.out HB.out) | (with_reducible refine Kd.C_alloc ?_ _) | (with_reducible refine Kd.C_drewN ?_ _) | (with_reducible refine Kd.C_drew ?_))); (case side2 => exact HC1.out); rintro e w95 ⟨v409, rfl, ho0, hb⟩; refine ⟨_, rfl, ?_⟩; have n0_ := Aside0.mk (Kd.R_elder' (by (with_reducible repeat (first | apply Kd.R_alloc | apply Kd.R_drewN | apply Kd.R_drew)); exact HO397.out) (Kd.R_base ho0) hb); have n1_ := Aside0.mk (Kd.R_elder' (by (with_reducible repeat (first | apply Kd.R_alloc | apply Kd.R_drewN | apply Kd.R_drew)); exact HO401.out) (Kd.R_base ho0) hb); have n2_ := Aside0.mk (Kd.R_elder' (by (with_reducible repeat (first | apply Kd.R_alloc | apply Kd.R_drewN | apply Kd.R_drew)); exact HO405.out) (Kd.R_base ho0) hb); have n3_ := Aside0.mk (Kd.R_lower (Kd.R_new' (Kd.R_new' (Kd.R_new' ho0 (Kd.R_lt (by (with_reducible repeat (first | apply Kd.R_alloc | apply Kd.R_drewN | apply Kd.R_drew)); exact HO397.out))) (Kd.R_lt (by (with_reducible repeat (first | apply Kd.R_alloc | apply Kd.R_drewN | apply Kd.R_drew)); exact HO401.out))) (Kd.R_lt (by (with_reducible repeat (first | apply Kd.R_alloc | apply Kd.R_drewN | apply Kd.R_drew)); exact HO405.out))) (below_size (by repeat (first | (with_reducible first | exact HB.out | apply below_alloc | apply pw_below_drewN | apply below_drew1) | exact HB.out)))); have n4_ := Aside0.mk (below_step (by repeat (first | (with_reducible first | exact HB.out | apply below_alloc | apply pw_below_drewN | apply below_drew1) | exact HB.out)) hb); clear HO397; clear HO401; clear HO405; clear HB; have HO397 := n0_; have HO401 := n1_; have HO405 := n2_; have HO410 := n3_; have HB := n4_; clear n0_ n1_ n2_ n3_ n4_; (try clear hb); (try clear hb2); (try clear hk); (try clear hi); (try clear ho0); obtain ⟨Ao96, co96, eo96⟩ := Kd.R_slice HO410.out; subst eo96) | ((with_reducible refine gate_callee (f := 21) rfl ?_); refine goesL_ (some 212) rfl rfl Try.func21 (by kernel_rfl) rfl #[.slice Ao96 t406.length co96, .int .i64 t407, .int .i64 t408] rfl (by (try simp only [List.map_toArray, List.map_cons, List.map_nil]); first | done | rfl | (simp only [List.length_drop, List.length_take]; rfl)) ?_; (with_reducible refine (impl_TurnFavourites.calls kj33 _ _ t406 t407 t408 t411 t412 _ ?side1 ?side2 A88.out).mono ?_); (case side1 => repeat (first | exact (Kd.R_reads' HO410.out).2.2 | (with_reducible refine Kd.C_alloc ?_ _) | (with_reducible refine Kd.C_drewN ?_ _) | (with_reducible refine Kd.C_drew ?_))); (case side2 => exact (Kd.R_reads' HO410.out).2.1); rintro e w97 ⟨v413, rfl, ho0, hb⟩; refine ⟨_, rfl, ?_⟩; have n0_ := Aside0.mk (Kd.R_elder' (by (with_reducible repeat (first | apply Kd.R_alloc | apply Kd.R_drewN | apply Kd.R_drew)); exact HO397.out) (Kd.R_base ho0) hb); have n1_ := Aside0.mk (Kd.R_elder' (by (with_reducible repeat (first | apply Kd.R_alloc | apply Kd.R_drewN | apply Kd.R_drew)); exact HO401.out) (Kd.R_base ho0) hb); have n2_ := Aside0.mk (Kd.R_elder' (by (with_reducible repeat (first | apply Kd.R_alloc | apply Kd.R_drewN | apply Kd.R_drew)); exact HO405.out) (Kd.R_base ho0) hb); have n3_ := Aside0.mk (Kd.R_elder' (by (with_reducible repeat (first | apply Kd.R_alloc | apply Kd.R_drewN | apply Kd.R_drew)); exact HO410.out) (Kd.R_base ho0) hb); have n4_ := Aside0.mk (Kd.R_lower (Kd.R_new' (Kd.R_new' (Kd.R_new' (Kd.R_new' ho0 (Kd.R_lt (by (with_reducible repeat (first | apply Kd.R_alloc | apply Kd.R_drewN | apply Kd.R_drew)); exact HO397.out))) (Kd.R_lt (by (with_reducible repeat (first | apply Kd.R_alloc | apply Kd.R_drewN | apply Kd.R_drew)); exact HO401.out))) (Kd.R_lt (by (with_reducible repeat (first | apply Kd.R_alloc | apply Kd.R_drewN | apply Kd.R_drew)); exact HO405.out))) (Kd.R_lt (by (with_reducible repeat (first | apply Kd.R_alloc | apply Kd.R_drewN | apply Kd.R_drew)); exact HO410.out))) (below_size (by repeat (first | (with_reducible first | exact HB.out | apply below_alloc | apply pw_below_drewN | apply below_drew1) | exact HB.out)))); have n5_ := Aside0.mk (below_step (by repeat (first | (with_reducible first | exact HB.out | apply below_alloc | apply pw_below_drewN | apply below_drew1) | exact HB.out)) hb); clear HO397; clear HO401; clear HO405; clear HO410; clear HB; have HO397 := n0_; have HO401 := n1_; have HO405 := n2_; have HO410 := n3_; have HO414 := n4_; have HB := n5_; clear n0_ n1_ n2_ n3_ n4_ n5_; (try clear hb); (try clear hb2); (try clear hk); (try clear hi); (try clear ho0)) | ((with_reducible refine gate_callee (f := 29) rfl ?_); refine goesL_ (some 219) rfl rfl Try.func29 (by kernel_rfl) rfl #[.slice Ao96 t406.length co96, .int .i64 t407, .int .i64 t408] rfl (by (try simp only [List.map_toArray, List.map_cons, List.map_nil]); first | done | rfl | (simp only [List.length_drop, List.length_take]; rfl)) ?_; (with_reducible refine (spec_TurnFavourites.calls kj33 _ _ t406 t407 t408 t415 t416 _ ?side1 ?side2 A89.out).mono ?_); (case side1 => repeat (first | exact (Kd.R_reads' HO410.out).2.2 | (with_reducible refine Kd.C_alloc ?_ _) | (with_reducible refine Kd.C_drewN ?_ _) | (with_reducible refine Kd.C_drew ?_))); (case side2 => exact (Kd.R_reads' HO410.out).2.1); rintro e w98 ⟨v417, rfl, ho0, hb⟩; refine ⟨_, rfl, ?_⟩; have n0_ := Aside0.mk (Kd.R_elder' (by (with_reducible repeat (first | apply Kd.R_alloc | apply Kd.R_drewN | apply Kd.R_drew)); exact HO397.out) (Kd.R_base ho0) hb); have n1_ := Aside0.mk (Kd.R_elder' (by (with_reducible repeat (first | apply Kd.R_alloc | apply Kd.R_drewN | apply Kd.R_drew)); exact HO401.out) (Kd.R_base ho0) hb); have n2_ := Aside0.mk (Kd.R_elder' (by (with_reducible repeat (first | apply Kd.R_alloc | apply Kd.R_drewN | apply Kd.R_drew)); exact HO405.out) (Kd.R_base ho0) hb); have n3_ := Aside0.mk (Kd.R_elder' (by (with_reducible repeat (first | apply Kd.R_alloc | apply Kd.R_drewN | apply Kd.R_drew)); exact HO410.out) (Kd.R_base ho0) hb); have n4_ := Aside0.mk (Kd.R_elder' (by (with_reducible repeat (first | apply Kd.R_alloc | apply Kd.R_drewN | apply Kd.R_drew)); exact HO414.out) (Kd.R_base ho0) hb); have n5_ := Aside0.mk (Kd.R_lower (Kd.R_new' (Kd.R_new' (Kd.R_new' (Kd.R_new' (Kd.R_new' ho0 (Kd.R_lt (by (with_reducible repeat (first | apply Kd.R_alloc | apply Kd.R_drewN | apply Kd.R_drew)); exact HO397.out))) (Kd.R_lt (by (with_reducible repeat (first | apply Kd.R_alloc | apply Kd.R_drewN | apply Kd.R_drew)); exact HO401.out))) (Kd.R_lt (by (with_reducible repeat (first | apply Kd.R_alloc | apply Kd.R_drewN | apply Kd.R_drew)); exact HO405.out))) (Kd.R_lt (by (with_reducible repeat (first | apply Kd.R_alloc | apply Kd.R_drewN | apply Kd.R_drew)); exact HO410.out))) (Kd.R_lt (by (with_reducible repeat (first | apply Kd.R_alloc | apply Kd.R_drewN | apply Kd.R_drew)); exact HO414.out))) (below_size (by repeat (first | (with_reducible first | exact HB.out | apply below_alloc | apply pw_below_drewN | apply below_drew1) | exact HB.out)))); have n6_ := Aside0.mk (below_step (by repeat (first | (with_reducible first | exact HB.out | apply below_alloc | apply pw_below_drewN | apply below_drew1) | exact HB.out)) hb); clear HO397; clear HO401; clear HO405; clear HO410; clear HO414; clear HB; have HO397 := n0_; have HO401 := n1_; have HO405 := n2_; have HO410 := n3_; have HO414 := n4_; have HO418 := n5_; have HB := n6_; clear n0_ n1_ n2_ n3_ n4_ n5_ n6_; (try clear hb); (try clear hb2); (try clear hk); (try clear hi); (try clear ho0)))
              (try simp only [Act.put, List.setIfInBounds_toArray, List.set_cons_zero, List.set_cons_succ])
              go_cut [241] (fun v241 wc => ∃ (kq : Nat) (x241_89 : Bool), v241 = .bool x241_89 ∧ Aside0 (laws_FnCircles.j4 kq t394 t395 t398 t399 x241_89 = some r) ∧ Aside0 (kq ≤ kj33) ∧ Aside0 (Kd.R (Kd.int .i64) 3 wc w.heap.size (fun k_ => some k_ ≠ (v400 : Value).ownBlock) (.slice Ao92 t394.length co92) t394) ∧ Aside0 (Kd.R (Kd.int .i64) 3 wc w.heap.size (fun k_ => some k_ ≠ ((.slice Ao92 t394.length co92) : Value).ownBlock) v400 t398) ∧ Aside0 (Below w.heap.size w wc))
              case first => as_aux_lemma =>
                have H := HC90.out
                clear HC90
                by_cases c99 : (t399 != t403) = true
                · rw [if_pos c99] at H
                  have c99b0 : (t399 != t403) = true := c99
                  (try (have c99b1 : decide (t399 = t403) = false := by simpa using c99))
                  (try (have c99b2 : (t399 == t403) = false := by simpa using c99))
                  (try (have c99b3 : ¬ (t399 = t403) := by simpa using c99))
                  clear c99
                  (first | rw [c99b0] | (simp only [i64_w, i32_w]; rw [c99b0]) | skip)
                  have H' := Aside0.mk H
                  clear H
                  go_wp2
                  go_meet
                  case rel => exact ⟨_, (true), (by first | rfl | (simp; done) | (simp [*]; done)), H', ⟨by have := HJ9.out; have := HJ33.out; first | omega | exact Nat.le_refl _⟩, ⟨by (with_reducible repeat (first | apply Kd.R_alloc | apply Kd.R_drewN | apply Kd.R_drew)); exact Kd.R_mono HO397.out (fun _ hk => hk.1.1.1.1.2)⟩, ⟨by (with_reducible repeat (first | apply Kd.R_alloc | apply Kd.R_drewN | apply Kd.R_drew)); exact Kd.R_mono HO401.out (fun _ hk => hk.1.1.1.1.2)⟩, ⟨by repeat (first | (with_reducible first | exact HB.out | apply below_alloc | apply pw_below_drewN | apply below_drew1) | exact HB.out)⟩⟩
                · rw [if_neg c99] at H
                  have c99b0 : (t399 != t403) = false := by simpa using c99
                  (try (have c99b1 : decide (t399 = t403) = true := by simpa using c99))
                  (try (have c99b2 : (t399 == t403) = true := by simpa using c99))
                  clear c99
                  (first | rw [c99b0] | (simp only [i64_w, i32_w]; rw [c99b0]) | skip)
                  replace H := Option.bind_eq_some_iff.mp H
                  obtain ⟨t419, A1000, H⟩ := H
                  replace H : (if t419 = true then (if (t412 != t416) = true then (laws_FnCircles.j4 kj33 t394 t395 t398 t399 true) else ((laws_jSame.f kj33 t411 t415).bind fun t420 => (laws_FnCircles.j4 kj33 t394 t395 t398 t399 (!t420)))) else (laws_FnCircles.j4 kj33 t394 t395 t398 t399 true)) = some r := H
                  have A100 := Aside0.mk A1000
                  clear A1000
                  by_cases c101 : t419 = true
                  · subst c101
                    have H1 : (if (t412 != t416) = true then (laws_FnCircles.j4 kj33 t394 t395 t398 t399 true) else ((laws_jSame.f kj33 t411 t415).bind fun t420 => (laws_FnCircles.j4 kj33 t394 t395 t398 t399 (!t420)))) = some r := by rw [if_pos rfl] at H; exact H
                    clear H
                    have H := H1
                    clear H1
                    by_cases c102 : (t412 != t416) = true
                    · rw [if_pos c102] at H
                      have c102b0 : (t412 != t416) = true := c102
                      (try (have c102b1 : decide (t412 = t416) = false := by simpa using c102))
                      (try (have c102b2 : (t412 == t416) = false := by simpa using c102))
                      (try (have c102b3 : ¬ (t412 = t416) := by simpa using c102))
                      clear c102
                      have H' := Aside0.mk H
                      clear H
                      obtain ⟨Ao103, co103, eo103⟩ := Kd.R_slice HO401.out
                      subst eo103
                      obtain ⟨Ao104, co104, eo104⟩ := Kd.R_slice HO405.out
                      subst eo104
                      go_wp2_with (first | (go_at_call 20; (with_reducible refine (laws_jSame.calls kj33 _ _ t398 _ _ t402 true _ ?side1 ?side2 ?side3 ?side4 A100.out).mono ?_); (case side1 => repeat (first | exact (Kd.R_reads' HO401.out).2.2 | (with_reducible refine Kd.C_alloc ?_ _) | (with_reducible refine Kd.C_drewN ?_ _) | (with_reducible refine Kd.C_drew ?_))); (case side2 => exact (Kd.R_reads' HO401.out).2.1); (case side3 => repeat (first | exact (Kd.R_reads' HO405.out).2.2 | (with_reducible refine Kd.C_alloc ?_ _) | (with_reducible refine Kd.C_drewN ?_ _) | (with_reducible refine Kd.C_drew ?_))); (case side4 => exact (Kd.R_reads' HO405.out).2.1); rintro e w' ⟨rfl, ⟨nd, rfl⟩⟩))
                      go_meet
                      case rel => exact ⟨_, (true), (by first | rfl | (simp; done) | (simp [*]; done)), H', ⟨by have := HJ9.out; have := HJ33.out; first | omega | exact Nat.le_refl _⟩, ⟨by (with_reducible repeat (first | apply Kd.R_alloc | apply Kd.R_drewN | apply Kd.R_drew)); exact Kd.R_mono HO397.out (fun _ hk => hk.1.1.1.1.2)⟩, ⟨by (with_reducible repeat (first | apply Kd.R_alloc | apply Kd.R_drewN | apply Kd.R_drew)); exact Kd.R_mono HO401.out (fun _ hk => hk.1.1.1.1.2)⟩, ⟨by repeat (first | (with_reducible first | exact HB.out | apply below_alloc | apply pw_below_drewN | apply below_drew1) | exact HB.out)⟩⟩
                    · rw [if_neg c102] at H
                      have c102b0 : (t412 != t416) = false := by simpa using c102
                      (try (have c102b1 : decide (t412 = t416) = true := by simpa using c102))
                      (try (have c102b2 : (t412 == t416) = true := by simpa using c102))
                      clear c102
                      replace H := Option.bind_eq_some_iff.mp H
                      obtain ⟨t420, A1050, H⟩ := H
                      replace H : (laws_FnCircles.j4 kj33 t394 t395 t398 t399 (!t420)) = some r := H
                      have A105 := Aside0.mk A1050
                      clear A1050
                      have H' := Aside0.mk H
                      clear H
                      obtain ⟨Ao106, co106, eo106⟩ := Kd.R_slice HO401.out
                      subst eo106
                      obtain ⟨Ao107, co107, eo107⟩ := Kd.R_slice HO405.out
                      subst eo107
                      go_wp2_with (first | (go_at_call 20; (with_reducible refine (laws_jSame.calls kj33 _ _ t398 _ _ t402 true _ ?side1 ?side2 ?side3 ?side4 A100.out).mono ?_); (case side1 => repeat (first | exact (Kd.R_reads' HO401.out).2.2 | (with_reducible refine Kd.C_alloc ?_ _) | (with_reducible refine Kd.C_drewN ?_ _) | (with_reducible refine Kd.C_drew ?_))); (case side2 => exact (Kd.R_reads' HO401.out).2.1); (case side3 => repeat (first | exact (Kd.R_reads' HO405.out).2.2 | (with_reducible refine Kd.C_alloc ?_ _) | (with_reducible refine Kd.C_drewN ?_ _) | (with_reducible refine Kd.C_drew ?_))); (case side4 => exact (Kd.R_reads' HO405.out).2.1); rintro e w' ⟨rfl, ⟨nd, rfl⟩⟩; obtain ⟨Ao108, co108, eo108⟩ := Kd.R_slice HO414.out; subst eo108; obtain ⟨Ao109, co109, eo109⟩ := Kd.R_slice HO418.out; subst eo109) | (go_at_call 20; (with_reducible refine (laws_jSame.calls kj33 _ _ t411 _ _ t415 t420 _ ?side1 ?side2 ?side3 ?side4 A105.out).mono ?_); (case side1 => repeat (first | exact (Kd.R_reads' HO414.out).2.2 | (with_reducible refine Kd.C_alloc ?_ _) | (with_reducible refine Kd.C_drewN ?_ _) | (with_reducible refine Kd.C_drew ?_))); (case side2 => exact (Kd.R_reads' HO414.out).2.1); (case side3 => repeat (first | exact (Kd.R_reads' HO418.out).2.2 | (with_reducible refine Kd.C_alloc ?_ _) | (with_reducible refine Kd.C_drewN ?_ _) | (with_reducible refine Kd.C_drew ?_))); (case side4 => exact (Kd.R_reads' HO418.out).2.1); rintro e w' ⟨rfl, ⟨nd, rfl⟩⟩))
                      go_meet
                      case rel => exact ⟨_, (!t420), (by first | rfl | (simp; done) | (simp [*]; done)), H', ⟨by have := HJ9.out; have := HJ33.out; first | omega | exact Nat.le_refl _⟩, ⟨by (with_reducible repeat (first | apply Kd.R_alloc | apply Kd.R_drewN | apply Kd.R_drew)); exact Kd.R_mono HO397.out (fun _ hk => hk.1.1.1.1.2)⟩, ⟨by (with_reducible repeat (first | apply Kd.R_alloc | apply Kd.R_drewN | apply Kd.R_drew)); exact Kd.R_mono HO401.out (fun _ hk => hk.1.1.1.1.2)⟩, ⟨by repeat (first | (with_reducible first | exact HB.out | apply below_alloc | apply pw_below_drewN | apply below_drew1) | exact HB.out)⟩⟩
                  · replace c101 := Bool.eq_false_iff.mpr c101
                    subst c101
                    have H1 : (laws_FnCircles.j4 kj33 t394 t395 t398 t399 true) = some r := by rw [if_neg (show ¬ (false = true) by decide)] at H; exact H
                    clear H
                    have H := H1
                    clear H1
                    have H' := Aside0.mk H
                    clear H
                    obtain ⟨Ao110, co110, eo110⟩ := Kd.R_slice HO401.out
                    subst eo110
                    obtain ⟨Ao111, co111, eo111⟩ := Kd.R_slice HO405.out
                    subst eo111
                    go_wp2_with (first | (go_at_call 20; (with_reducible refine (laws_jSame.calls kj33 _ _ t398 _ _ t402 false _ ?side1 ?side2 ?side3 ?side4 A100.out).mono ?_); (case side1 => repeat (first | exact (Kd.R_reads' HO401.out).2.2 | (with_reducible refine Kd.C_alloc ?_ _) | (with_reducible refine Kd.C_drewN ?_ _) | (with_reducible refine Kd.C_drew ?_))); (case side2 => exact (Kd.R_reads' HO401.out).2.1); (case side3 => repeat (first | exact (Kd.R_reads' HO405.out).2.2 | (with_reducible refine Kd.C_alloc ?_ _) | (with_reducible refine Kd.C_drewN ?_ _) | (with_reducible refine Kd.C_drew ?_))); (case side4 => exact (Kd.R_reads' HO405.out).2.1); rintro e w' ⟨rfl, ⟨nd, rfl⟩⟩))
                    go_meet
                    case rel => exact ⟨_, (true), (by first | rfl | (simp; done) | (simp [*]; done)), H', ⟨by have := HJ9.out; have := HJ33.out; first | omega | exact Nat.le_refl _⟩, ⟨by (with_reducible repeat (first | apply Kd.R_alloc | apply Kd.R_drewN | apply Kd.R_drew)); exact Kd.R_mono HO397.out (fun _ hk => hk.1.1.1.1.2)⟩, ⟨by (with_reducible repeat (first | apply Kd.R_alloc | apply Kd.R_drewN | apply Kd.R_drew)); exact Kd.R_mono HO401.out (fun _ hk => hk.1.1.1.1.2)⟩, ⟨by repeat (first | (with_reducible first | exact HB.out | apply below_alloc | apply pw_below_drewN | apply below_drew1) | exact HB.out)⟩⟩
              case rest => as_aux_lemma =>
                clear HC90
                try clear c1
                try clear c2
                try clear p2
                try clear c3
                try clear c4
                try clear c5
                try clear c6
                try clear p6
                try clear c7
                try clear c9
                try clear c10
                try clear c14
                try clear c15
                try clear c16
                try clear c17
                try clear c17b0
                try clear c17b1
                try clear c17b2
                try clear c18
                try clear c19
                try clear c20
                try clear c20b0
                try clear c20b1
                try clear c21
                try clear c21b0
                try clear c21b1
                try clear c21b2
                try clear c22
                try clear c23
                try clear c24
                try clear c24b0
                try clear c24b1
                try clear c25
                try clear c26
                try clear c27
                try clear c28
                try clear c29
                try clear c33
                try clear c35
                try clear c36
                try clear c36b0
                try clear c45
                try clear c46
                try clear c47
                try clear c48
                try clear c48b0
                try clear c48b1
                try clear c49
                try clear c49b0
                try clear c49b1
                try clear c50
                try clear c51
                try clear c53
                try clear c56
                try clear c56b0
                try clear c56b1
                try clear c58
                try clear c58b0
                try clear c58b1
                try clear c61
                try clear c61b0
                try clear c61b1
                try clear c62
                try clear c63
                try clear c63b0
                try clear c63b1
                try clear p64
                try clear c77
                try clear c77b0
                try clear c77b1
                try clear c78
                try clear c79
                try clear c79b0
                try clear c79b1
                try clear c99
                try clear c99b0
                try clear c99b1
                try clear c99b2
                try clear c101
                try clear c102
                try clear c102b0
                try clear c102b1
                try clear c102b2
                try clear p2
                try clear p6
                try clear p64
                obtain ⟨kq, x241_89, rfl, HA, HJ89, HO_28, HO_30, HB⟩ := hcut
                cases kq with
                | zero => exact absurd HA.out (by simp [laws_FnCircles.j4])
                | succ kj89 =>
                  have H := HA.out
                  clear HA
                  simp only [laws_FnCircles.j4] at H
                  by_cases c112 : x241_89 = true
                  · subst c112
                    have H1 : (some false) = some r := by rw [if_pos rfl] at H; exact H
                    clear H
                    have H := H1
                    clear H1
                    obtain rfl := Option.some.inj H
                    go_wp2
                    go_ret
                    exact ⟨by first | rfl | (simp [errW_none, errW_some] <;> rfl) | (simp [*, errW_none, errW_some] <;> rfl), by repeat (first | (with_reducible first | exact HB.out | apply below_alloc | apply pw_below_drewN | apply below_drew1) | exact HB.out)⟩
                  · replace c112 := Bool.eq_false_iff.mpr c112
                    subst c112
                    have H1 : (if t399 = true then ((impl_DriveCars.f kj89 t394 t395).bind fun bt421 => (if bt421.2 = true then ((laws_jSame.f kj89 bt421.1 t398).bind fun t425 => (some t425)) else (some true))) else (some true)) = some r := by rw [if_neg (show ¬ (false = true) by decide)] at H; exact H
                    clear H
                    have H := H1
                    clear H1
                    by_cases c113 : t399 = true
                    · subst c113
                      have H1 : ((impl_DriveCars.f kj89 t394 t395).bind fun bt421 => (if bt421.2 = true then ((laws_jSame.f kj89 bt421.1 t398).bind fun t425 => (some t425)) else (some true))) = some r := by rw [if_pos rfl] at H; exact H
                      clear H
                      have H := H1
                      clear H1
                      replace H := Option.bind_eq_some_iff.mp H
                      obtain ⟨⟨t421, t422⟩, A1140, H⟩ := H
                      replace H : (if t422 = true then ((laws_jSame.f kj89 t421 t398).bind fun t425 => (some t425)) else (some true)) = some r := H
                      have A114 := Aside0.mk A1140
                      clear A1140
                      by_cases c115 : t422 = true
                      · subst c115
                        have H1 : ((laws_jSame.f kj89 t421 t398).bind fun t425 => (some t425)) = some r := by rw [if_pos rfl] at H; exact H
                        clear H
                        have H := H1
                        clear H1
                        replace H := Option.bind_eq_some_iff.mp H
                        obtain ⟨t425, A1160, H⟩ := H
                        replace H : (some t425) = some r := H
                        have A116 := Aside0.mk A1160
                        clear A1160
                        obtain rfl := Option.some.inj H
                        go_wp2_with (first | ((with_reducible refine gate_callee (f := 30) rfl ?_); refine goesL_ (some 246) rfl rfl Try.func30 (by kernel_rfl) rfl #[.slice Ao92 t394.length co92, .int .i64 t395] rfl (by (try simp only [List.map_toArray, List.map_cons, List.map_nil]); first | done | rfl | (simp only [List.length_drop, List.length_take]; rfl)) ?_; (with_reducible refine (impl_DriveCars.calls kj89 _ _ t394 t395 t421 true _ ?side1 ?side2 A114.out).mono ?_); (case side1 => repeat (first | exact (Kd.R_reads' HO_28.out).2.2 | (with_reducible refine Kd.C_alloc ?_ _) | (with_reducible refine Kd.C_drewN ?_ _) | (with_reducible refine Kd.C_drew ?_))); (case side2 => exact (Kd.R_reads' HO_28.out).2.1); rintro e w117 ⟨v423, rfl, ho0, hb⟩; refine ⟨_, rfl, ?_⟩; have n0_ := Aside0.mk (Kd.R_elder' (by (with_reducible repeat (first | apply Kd.R_alloc | apply Kd.R_drewN | apply Kd.R_drew)); exact HO_28.out) (Kd.R_base ho0) hb); have n1_ := Aside0.mk (Kd.R_elder' (by (with_reducible repeat (first | apply Kd.R_alloc | apply Kd.R_drewN | apply Kd.R_drew)); exact HO_30.out) (Kd.R_base ho0) hb); have n2_ := Aside0.mk (Kd.R_lower (Kd.R_new' (Kd.R_new' ho0 (Kd.R_lt (by (with_reducible repeat (first | apply Kd.R_alloc | apply Kd.R_drewN | apply Kd.R_drew)); exact HO_28.out))) (Kd.R_lt (by (with_reducible repeat (first | apply Kd.R_alloc | apply Kd.R_drewN | apply Kd.R_drew)); exact HO_30.out))) (below_size (by repeat (first | (with_reducible first | exact HB.out | apply below_alloc | apply pw_below_drewN | apply below_drew1) | exact HB.out)))); have n3_ := Aside0.mk (below_step (by repeat (first | (with_reducible first | exact HB.out | apply below_alloc | apply pw_below_drewN | apply below_drew1) | exact HB.out)) hb); clear HO_28; clear HO_30; clear HB; have HO_28 := n0_; have HO_30 := n1_; have HO424 := n2_; have HB := n3_; clear n0_ n1_ n2_ n3_; (try clear hb); (try clear hb2); (try clear hk); (try clear hi); (try clear ho0); obtain ⟨Ao118, co118, eo118⟩ := Kd.R_slice HO424.out; subst eo118; obtain ⟨Ao119, co119, eo119⟩ := Kd.R_slice HO_30.out; subst eo119) | (go_at_call 20; (with_reducible refine (laws_jSame.calls kj89 _ _ t421 _ _ t398 t425 _ ?side1 ?side2 ?side3 ?side4 A116.out).mono ?_); (case side1 => repeat (first | exact (Kd.R_reads' HO424.out).2.2 | (with_reducible refine Kd.C_alloc ?_ _) | (with_reducible refine Kd.C_drewN ?_ _) | (with_reducible refine Kd.C_drew ?_))); (case side2 => exact (Kd.R_reads' HO424.out).2.1); (case side3 => repeat (first | exact (Kd.R_reads' HO_30.out).2.2 | (with_reducible refine Kd.C_alloc ?_ _) | (with_reducible refine Kd.C_drewN ?_ _) | (with_reducible refine Kd.C_drew ?_))); (case side4 => exact (Kd.R_reads' HO_30.out).2.1); rintro e w' ⟨rfl, ⟨nd, rfl⟩⟩))
                        go_ret
                        exact ⟨by first | rfl | (simp [errW_none, errW_some] <;> rfl) | (simp [*, errW_none, errW_some] <;> rfl), by repeat (first | (with_reducible first | exact HB.out | apply below_alloc | apply pw_below_drewN | apply below_drew1) | exact HB.out)⟩
                      · replace c115 := Bool.eq_false_iff.mpr c115
                        subst c115
                        have H1 : (some true) = some r := by rw [if_neg (show ¬ (false = true) by decide)] at H; exact H
                        clear H
                        have H := H1
                        clear H1
                        obtain rfl := Option.some.inj H
                        go_wp2_with (first | ((with_reducible refine gate_callee (f := 30) rfl ?_); refine goesL_ (some 246) rfl rfl Try.func30 (by kernel_rfl) rfl #[.slice Ao92 t394.length co92, .int .i64 t395] rfl (by (try simp only [List.map_toArray, List.map_cons, List.map_nil]); first | done | rfl | (simp only [List.length_drop, List.length_take]; rfl)) ?_; (with_reducible refine (impl_DriveCars.calls kj89 _ _ t394 t395 t421 false _ ?side1 ?side2 A114.out).mono ?_); (case side1 => repeat (first | exact (Kd.R_reads' HO_28.out).2.2 | (with_reducible refine Kd.C_alloc ?_ _) | (with_reducible refine Kd.C_drewN ?_ _) | (with_reducible refine Kd.C_drew ?_))); (case side2 => exact (Kd.R_reads' HO_28.out).2.1); rintro e w120 ⟨v423, rfl, ho0, hb⟩; refine ⟨_, rfl, ?_⟩; have n0_ := Aside0.mk (Kd.R_elder' (by (with_reducible repeat (first | apply Kd.R_alloc | apply Kd.R_drewN | apply Kd.R_drew)); exact HO_28.out) (Kd.R_base ho0) hb); have n1_ := Aside0.mk (Kd.R_elder' (by (with_reducible repeat (first | apply Kd.R_alloc | apply Kd.R_drewN | apply Kd.R_drew)); exact HO_30.out) (Kd.R_base ho0) hb); have n2_ := Aside0.mk (Kd.R_lower (Kd.R_new' (Kd.R_new' ho0 (Kd.R_lt (by (with_reducible repeat (first | apply Kd.R_alloc | apply Kd.R_drewN | apply Kd.R_drew)); exact HO_28.out))) (Kd.R_lt (by (with_reducible repeat (first | apply Kd.R_alloc | apply Kd.R_drewN | apply Kd.R_drew)); exact HO_30.out))) (below_size (by repeat (first | (with_reducible first | exact HB.out | apply below_alloc | apply pw_below_drewN | apply below_drew1) | exact HB.out)))); have n3_ := Aside0.mk (below_step (by repeat (first | (with_reducible first | exact HB.out | apply below_alloc | apply pw_below_drewN | apply below_drew1) | exact HB.out)) hb); clear HO_28; clear HO_30; clear HB; have HO_28 := n0_; have HO_30 := n1_; have HO424 := n2_; have HB := n3_; clear n0_ n1_ n2_ n3_; (try clear hb); (try clear hb2); (try clear hk); (try clear hi); (try clear ho0)))
                        go_ret
                        exact ⟨by first | rfl | (simp [errW_none, errW_some] <;> rfl) | (simp [*, errW_none, errW_some] <;> rfl), by repeat (first | (with_reducible first | exact HB.out | apply below_alloc | apply pw_below_drewN | apply below_drew1) | exact HB.out)⟩
                    · replace c113 := Bool.eq_false_iff.mpr c113
                      subst c113
                      have H1 : (some true) = some r := by rw [if_neg (show ¬ (false = true) by decide)] at H; exact H
                      clear H
                      have H := H1
                      clear H1
                      obtain rfl := Option.some.inj H
                      go_wp2
                      go_ret
                      exact ⟨by first | rfl | (simp [errW_none, errW_some] <;> rfl) | (simp [*, errW_none, errW_some] <;> rfl), by repeat (first | (with_reducible first | exact HB.out | apply below_alloc | apply pw_below_drewN | apply below_drew1) | exact HB.out)⟩

/-- THE ONE PURE STATEMENT of laws_FnCircles: yours. -/
def laws_FnCircles.Pure : Prop := ∀ (l0 : List Int) (l1 : List Int), l0.length ≤ maxLen → l0.length * 1 ≤ 140737488351232 → (∀ x ∈ l0, (Lit.int .u8 x).wf = true) → l1.length ≤ maxLen → l1.length * 1 ≤ 140737488351232 → (∀ x ∈ l1, (Lit.int .u8 x).wf = true) → ∃ k, laws_FnCircles.f k l0 l1 = some true
theorem laws_FnCircles.walk (P : laws_FnCircles.Pure) (a0 : Option Addr) (len0 cap0 : Nat) (z0 : List Int) (a1 : Option Addr) (len1 cap1 : Nat) (z1 : List Int) (w : World) (w0 : (a0 = none ∧ len0 = 0 ∧ cap0 = 0 ∧ z0 = []) ∨ ∃ x, a0 = some x ∧ len0 ≤ cap0 ∧ cap0 ≤ maxLen ∧ z0.length = cap0 ∧ (∀ i, i < z0.length → w.cell? (x.add i) = some (.int .u8 (z0.getD i 0))) ∧ ∀ n ∈ z0, (Lit.int .u8 n).wf = true) (y0 : len0 * 1 ≤ 140737488351232) (w1 : (a1 = none ∧ len1 = 0 ∧ cap1 = 0 ∧ z1 = []) ∨ ∃ x, a1 = some x ∧ len1 ≤ cap1 ∧ cap1 ≤ maxLen ∧ z1.length = cap1 ∧ (∀ i, i < z1.length → w.cell? (x.add i) = some (.int .u8 (z1.getD i 0))) ∧ ∀ n ∈ z1, (Lit.int .u8 n).wf = true) (y1 : len1 * 1 ≤ 140737488351232) :
    Calls Try.prog 3 #[.slice a0 len0 cap0, .slice a1 len1 cap1] w fun e w' => e = .returned (.bool true) ∧ Below w.heap.size w w' := by
  obtain ⟨l0, rfl, hr0, hm0, hw0, hc0⟩ := ReadsInt.ofRowC w0
  obtain ⟨l1, rfl, hr1, hm1, hw1, hc1⟩ := ReadsInt.ofRowC w1
  obtain ⟨k, h⟩ := P l0 l1 hm0 y0 hw0 hm1 y1 hw1
  refine (laws_FnCircles.calls k _ _ l0 _ _ l1 true w (Kd.C_of_reads (d := (0 : Int)) (h1 := fun _ => rfl) hr0) hc0 (Kd.C_of_reads (d := (0 : Int)) (h1 := fun _ => rfl) hr1) hc1 h).mono ?_
  rintro e w' ⟨rfl, hd⟩
  exact ⟨rfl, hd⟩

end Go.Proofs.Ytdiohjdfiambhaa.QFnCircles
