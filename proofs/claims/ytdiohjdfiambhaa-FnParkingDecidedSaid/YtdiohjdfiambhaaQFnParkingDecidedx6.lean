/- Proved here: each Go function named below, when called, returns what the Lean function of its name computes, wherever that function answers. Text written by this session's program over the kit's print; law FnParkingDecided. -/
import Derived.Test.YtdiohjdfiambhaaQFnParkingDecidedx0
import Derived.Test.YtdiohjdfiambhaaQFnParkingDecidedx1
import Derived.Test.YtdiohjdfiambhaaQFnParkingDecidedx2
import Derived.Test.YtdiohjdfiambhaaQFnParkingDecidedx3
import Derived.Test.YtdiohjdfiambhaaQFnParkingDecidedx4
import Derived.Test.YtdiohjdfiambhaaQFnParkingDecidedx5
namespace Go.Proofs.Ytdiohjdfiambhaa.QFnParkingDecided
open Go.RowKit Go.Proofs.YtdiohjdfiambhaaW.PrintWords Go.Proofs.YtdiohjdfiambhaaW.PrintLast Go.Proofs.YtdiohjdfiambhaaW.PrintMore
attribute [local go_sem] max2_int min2_int max_two min_two max_three min_three max_four min_four   -- for this text's walks alone
set_option linter.unusedVariables false
set_option linter.unusedSimpArgs false

/-! ### laws_FnParkingDecided: function 13 -/
mutual
def laws_FnParkingDecided.j0 : Nat → List Int → List Int → Int → Int → Bool → Bool → Option (Bool)
  | 0, _, _, _, _, _, _ => none
  | k + 1, x1, x5, x6, x7, x8, x95 => if x95 = true then (some false) else (if x8 = true then (laws_FnParkingDecided.l0 k x1 x6 x7 0 x5 (x5.length : Int) 0) else (laws_FnParkingDecided.j2 k x1))
def laws_FnParkingDecided.j2 : Nat → List Int → Option (Bool)
  | 0, _ => none
  | k + 1, x1 => (spec_DrawIsParking.f k x1).bind fun t363 => ((impl_IsParking.f k t363).bind fun bt366 => ((spec_IsParking.f k t363).bind fun bt368 => ((impl_SortedFits.f k t363).bind fun bt370 => ((spec_SortedFits.f k t363).bind fun bt372 => (if (bt366.2 != bt368.2) = true then (laws_FnParkingDecided.j3 k t363 bt366.1 true) else (if (bt366.1 != bt368.1) = true then (laws_FnParkingDecided.j3 k t363 bt366.1 true) else (if (bt370.2 != bt372.2) = true then (laws_FnParkingDecided.j3 k t363 bt366.1 true) else (if (bt370.1 != bt372.1) = true then (laws_FnParkingDecided.j3 k t363 bt366.1 true) else (if (bt366.2 != bt370.2) = true then (laws_FnParkingDecided.j3 k t363 bt366.1 true) else (laws_FnParkingDecided.j3 k t363 bt366.1 (bt366.1 != bt370.1)))))))))))
def laws_FnParkingDecided.j3 : Nat → List Int → Bool → Bool → Option (Bool)
  | 0, _, _, _ => none
  | k + 1, x18, x19, x163 => if x163 = true then (some false) else (if x19 = true then (laws_FnParkingDecided.j4 k x18 (decide ((x18.length : Int) > 0))) else (laws_FnParkingDecided.j4 k x18 false))
def laws_FnParkingDecided.j4 : Nat → List Int → Bool → Option (Bool)
  | 0, _, _ => none
  | k + 1, x18, x169 => if x169 = true then ((impl_DriveCars.f k x18 (x18.length : Int)).bind fun bt374 => ((impl_IsBelow.f k x18 bt374.1).bind fun bt378 => (if bt374.2 = true then (if bt378.2 = true then (some bt378.1) else (some false)) else (some false)))) else (some true)
def laws_FnParkingDecided.l0 : Nat → List Int → Int → Int → Int → List Int → Int → Int → Option (Bool)
  | 0, _, _, _, _, _, _, _ => none
  | k + 1, x1, x6, x7, x15, x97, x98, x99 => if x99 < x98 then (if 0 ≤ x99 then (if x99 < (x97.length : Int) then (if (rd x97 x99) ≥ x7 then (laws_FnParkingDecided.l0 k x1 x6 x7 (wrap64 (x15 + 1)) x97 x98 (wrap64 (x99 + 1))) else (laws_FnParkingDecided.l0 k x1 x6 x7 x15 x97 x98 (wrap64 (x99 + 1)))) else (none)) else (none)) else (if x15 ≤ (wrap64 (x6 - x7)) then (some false) else (laws_FnParkingDecided.j2 k x1))
end
def laws_FnParkingDecided.f (k : Nat) (l0 : List Int) (l1 : List Int) : Option (Bool) := (laws_big.f l0 l1).bind fun t349 => (if t349 = true then (some true) else ((spec_DrawRefusingPlace.f k l0).bind fun bt350 => ((impl_RefusingPlace.f bt350.1 bt350.2).bind fun bt354 => ((spec_RefusingPlace.f k bt350.1 bt350.2).bind fun bt356 => ((impl_DoAllPark.f k bt350.1 bt350.2).bind fun bt358 => ((spec_DoAllPark.f k bt350.1 bt350.2).bind fun bt360 => (if (bt354.2 != bt356.2) = true then (laws_FnParkingDecided.j0 k l1 bt350.1 bt350.2 bt354.1 bt354.2 true) else (if bt354.1 = bt356.1 then (if (bt358.2 != bt360.2) = true then (laws_FnParkingDecided.j0 k l1 bt350.1 bt350.2 bt354.1 bt354.2 true) else (if (bt358.1 != bt360.1) = true then (laws_FnParkingDecided.j0 k l1 bt350.1 bt350.2 bt354.1 bt354.2 true) else (if bt358.2 = true then (if (bt358.1 == bt354.2) = true then (laws_FnParkingDecided.j0 k l1 bt350.1 bt350.2 bt354.1 bt354.2 true) else (if bt354.2 = true then (laws_FnParkingDecided.j0 k l1 bt350.1 bt350.2 bt354.1 bt354.2 (!bt358.2)) else (laws_FnParkingDecided.j0 k l1 bt350.1 bt350.2 bt354.1 bt354.2 false))) else (if bt354.2 = true then (laws_FnParkingDecided.j0 k l1 bt350.1 bt350.2 bt354.1 bt354.2 (!bt358.2)) else (laws_FnParkingDecided.j0 k l1 bt350.1 bt350.2 bt354.1 bt354.2 false))))) else (laws_FnParkingDecided.j0 k l1 bt350.1 bt350.2 bt354.1 bt354.2 true)))))))))
theorem laws_FnParkingDecided.mono_l : ∀ k, (∀ y0 y1 y2 y3 y4 y5, LeO (laws_FnParkingDecided.j0 k y0 y1 y2 y3 y4 y5) (laws_FnParkingDecided.j0 (k + 1) y0 y1 y2 y3 y4 y5)) ∧ (∀ y0, LeO (laws_FnParkingDecided.j2 k y0) (laws_FnParkingDecided.j2 (k + 1) y0)) ∧ (∀ y0 y1 y2, LeO (laws_FnParkingDecided.j3 k y0 y1 y2) (laws_FnParkingDecided.j3 (k + 1) y0 y1 y2)) ∧ (∀ y0 y1, LeO (laws_FnParkingDecided.j4 k y0 y1) (laws_FnParkingDecided.j4 (k + 1) y0 y1)) ∧ (∀ y0 y1 y2 y3 y4 y5 y6, LeO (laws_FnParkingDecided.l0 k y0 y1 y2 y3 y4 y5 y6) (laws_FnParkingDecided.l0 (k + 1) y0 y1 y2 y3 y4 y5 y6))
  | 0 => ⟨fun _ _ _ _ _ _ r h => by simp [laws_FnParkingDecided.j0] at h, fun _ r h => by simp [laws_FnParkingDecided.j2] at h, fun _ _ _ r h => by simp [laws_FnParkingDecided.j3] at h, fun _ _ r h => by simp [laws_FnParkingDecided.j4] at h, fun _ _ _ _ _ _ _ r h => by simp [laws_FnParkingDecided.l0] at h⟩
  | k + 1 => by
    obtain ⟨ih0, ih1, ih2, ih3, ih4⟩ := laws_FnParkingDecided.mono_l k
    refine ⟨?_, ?_, ?_, ?_, ?_⟩
    · intro y0 y1 y2 y3 y4 y5
      unfold laws_FnParkingDecided.j0
      repeat' first
      | (with_reducible exact ih0 _ _ _ _ _ _)
      | (with_reducible exact ih1 _)
      | (with_reducible exact ih2 _ _ _)
      | (with_reducible exact ih3 _ _)
      | (with_reducible exact ih4 _ _ _ _ _ _ _)
      | (with_reducible exact impl_DoAllPark.mono _ _ _)
      | (with_reducible exact impl_DriveCars.mono _ _ _)
      | (with_reducible exact impl_IsBelow.mono _ _ _)
      | (with_reducible exact impl_IsParking.mono _ _)
      | (with_reducible exact impl_SortedFits.mono _ _)
      | (with_reducible exact spec_DoAllPark.mono _ _ _)
      | (with_reducible exact spec_DrawIsParking.mono _ _)
      | (with_reducible exact spec_DrawRefusingPlace.mono _ _)
      | (with_reducible exact spec_IsParking.mono _ _)
      | (with_reducible exact spec_RefusingPlace.mono _ _ _)
      | (with_reducible exact spec_SortedFits.mono _ _)
      | (with_reducible exact LeO.refl _)
      | (with_reducible exact LeO.none _)
      | (with_reducible refine LeO.ite ?_ ?_)
      | (with_reducible refine LeO.bind ?_ (fun _ => ?_))
      | exact ih0 _ _ _ _ _ _
      | exact ih1 _
      | exact ih2 _ _ _
      | exact ih3 _ _
      | exact ih4 _ _ _ _ _ _ _
      | exact impl_DoAllPark.mono _ _ _
      | exact impl_DriveCars.mono _ _ _
      | exact impl_IsBelow.mono _ _ _
      | exact impl_IsParking.mono _ _
      | exact impl_SortedFits.mono _ _
      | exact spec_DoAllPark.mono _ _ _
      | exact spec_DrawIsParking.mono _ _
      | exact spec_DrawRefusingPlace.mono _ _
      | exact spec_IsParking.mono _ _
      | exact spec_RefusingPlace.mono _ _ _
      | exact spec_SortedFits.mono _ _
      | exact LeO.none _
      | refine LeO.ite ?_ ?_
      | refine LeO.bind ?_ (fun _ => ?_)
    · intro y0
      unfold laws_FnParkingDecided.j2
      repeat' first
      | (with_reducible exact ih0 _ _ _ _ _ _)
      | (with_reducible exact ih1 _)
      | (with_reducible exact ih2 _ _ _)
      | (with_reducible exact ih3 _ _)
      | (with_reducible exact ih4 _ _ _ _ _ _ _)
      | (with_reducible exact impl_DoAllPark.mono _ _ _)
      | (with_reducible exact impl_DriveCars.mono _ _ _)
      | (with_reducible exact impl_IsBelow.mono _ _ _)
      | (with_reducible exact impl_IsParking.mono _ _)
      | (with_reducible exact impl_SortedFits.mono _ _)
      | (with_reducible exact spec_DoAllPark.mono _ _ _)
      | (with_reducible exact spec_DrawIsParking.mono _ _)
      | (with_reducible exact spec_DrawRefusingPlace.mono _ _)
      | (with_reducible exact spec_IsParking.mono _ _)
      | (with_reducible exact spec_RefusingPlace.mono _ _ _)
      | (with_reducible exact spec_SortedFits.mono _ _)
      | (with_reducible exact LeO.refl _)
      | (with_reducible exact LeO.none _)
      | (with_reducible refine LeO.ite ?_ ?_)
      | (with_reducible refine LeO.bind ?_ (fun _ => ?_))
      | exact ih0 _ _ _ _ _ _
      | exact ih1 _
      | exact ih2 _ _ _
      | exact ih3 _ _
      | exact ih4 _ _ _ _ _ _ _
      | exact impl_DoAllPark.mono _ _ _
      | exact impl_DriveCars.mono _ _ _
      | exact impl_IsBelow.mono _ _ _
      | exact impl_IsParking.mono _ _
      | exact impl_SortedFits.mono _ _
      | exact spec_DoAllPark.mono _ _ _
      | exact spec_DrawIsParking.mono _ _
      | exact spec_DrawRefusingPlace.mono _ _
      | exact spec_IsParking.mono _ _
      | exact spec_RefusingPlace.mono _ _ _
      | exact spec_SortedFits.mono _ _
      | exact LeO.none _
      | refine LeO.ite ?_ ?_
      | refine LeO.bind ?_ (fun _ => ?_)
    · intro y0 y1 y2
      unfold laws_FnParkingDecided.j3
      repeat' first
      | (with_reducible exact ih0 _ _ _ _ _ _)
      | (with_reducible exact ih1 _)
      | (with_reducible exact ih2 _ _ _)
      | (with_reducible exact ih3 _ _)
      | (with_reducible exact ih4 _ _ _ _ _ _ _)
      | (with_reducible exact impl_DoAllPark.mono _ _ _)
      | (with_reducible exact impl_DriveCars.mono _ _ _)
      | (with_reducible exact impl_IsBelow.mono _ _ _)
      | (with_reducible exact impl_IsParking.mono _ _)
      | (with_reducible exact impl_SortedFits.mono _ _)
      | (with_reducible exact spec_DoAllPark.mono _ _ _)
      | (with_reducible exact spec_DrawIsParking.mono _ _)
      | (with_reducible exact spec_DrawRefusingPlace.mono _ _)
      | (with_reducible exact spec_IsParking.mono _ _)
      | (with_reducible exact spec_RefusingPlace.mono _ _ _)
      | (with_reducible exact spec_SortedFits.mono _ _)
      | (with_reducible exact LeO.refl _)
      | (with_reducible exact LeO.none _)
      | (with_reducible refine LeO.ite ?_ ?_)
      | (with_reducible refine LeO.bind ?_ (fun _ => ?_))
      | exact ih0 _ _ _ _ _ _
      | exact ih1 _
      | exact ih2 _ _ _
      | exact ih3 _ _
      | exact ih4 _ _ _ _ _ _ _
      | exact impl_DoAllPark.mono _ _ _
      | exact impl_DriveCars.mono _ _ _
      | exact impl_IsBelow.mono _ _ _
      | exact impl_IsParking.mono _ _
      | exact impl_SortedFits.mono _ _
      | exact spec_DoAllPark.mono _ _ _
      | exact spec_DrawIsParking.mono _ _
      | exact spec_DrawRefusingPlace.mono _ _
      | exact spec_IsParking.mono _ _
      | exact spec_RefusingPlace.mono _ _ _
      | exact spec_SortedFits.mono _ _
      | exact LeO.none _
      | refine LeO.ite ?_ ?_
      | refine LeO.bind ?_ (fun _ => ?_)
    · intro y0 y1
      unfold laws_FnParkingDecided.j4
      repeat' first
      | (with_reducible exact ih0 _ _ _ _ _ _)
      | (with_reducible exact ih1 _)
      | (with_reducible exact ih2 _ _ _)
      | (with_reducible exact ih3 _ _)
      | (with_reducible exact ih4 _ _ _ _ _ _ _)
      | (with_reducible exact impl_DoAllPark.mono _ _ _)
      | (with_reducible exact impl_DriveCars.mono _ _ _)
      | (with_reducible exact impl_IsBelow.mono _ _ _)
      | (with_reducible exact impl_IsParking.mono _ _)
      | (with_reducible exact impl_SortedFits.mono _ _)
      | (with_reducible exact spec_DoAllPark.mono _ _ _)
      | (with_reducible exact spec_DrawIsParking.mono _ _)
      | (with_reducible exact spec_DrawRefusingPlace.mono _ _)
      | (with_reducible exact spec_IsParking.mono _ _)
      | (with_reducible exact spec_RefusingPlace.mono _ _ _)
      | (with_reducible exact spec_SortedFits.mono _ _)
      | (with_reducible exact LeO.refl _)
      | (with_reducible exact LeO.none _)
      | (with_reducible refine LeO.ite ?_ ?_)
      | (with_reducible refine LeO.bind ?_ (fun _ => ?_))
      | exact ih0 _ _ _ _ _ _
      | exact ih1 _
      | exact ih2 _ _ _
      | exact ih3 _ _
      | exact ih4 _ _ _ _ _ _ _
      | exact impl_DoAllPark.mono _ _ _
      | exact impl_DriveCars.mono _ _ _
      | exact impl_IsBelow.mono _ _ _
      | exact impl_IsParking.mono _ _
      | exact impl_SortedFits.mono _ _
      | exact spec_DoAllPark.mono _ _ _
      | exact spec_DrawIsParking.mono _ _
      | exact spec_DrawRefusingPlace.mono _ _
      | exact spec_IsParking.mono _ _
      | exact spec_RefusingPlace.mono _ _ _
      | exact spec_SortedFits.mono _ _
      | exact LeO.none _
      | refine LeO.ite ?_ ?_
      | refine LeO.bind ?_ (fun _ => ?_)
    · intro y0 y1 y2 y3 y4 y5 y6
      unfold laws_FnParkingDecided.l0
      repeat' first
      | (with_reducible exact ih0 _ _ _ _ _ _)
      | (with_reducible exact ih1 _)
      | (with_reducible exact ih2 _ _ _)
      | (with_reducible exact ih3 _ _)
      | (with_reducible exact ih4 _ _ _ _ _ _ _)
      | (with_reducible exact impl_DoAllPark.mono _ _ _)
      | (with_reducible exact impl_DriveCars.mono _ _ _)
      | (with_reducible exact impl_IsBelow.mono _ _ _)
      | (with_reducible exact impl_IsParking.mono _ _)
      | (with_reducible exact impl_SortedFits.mono _ _)
      | (with_reducible exact spec_DoAllPark.mono _ _ _)
      | (with_reducible exact spec_DrawIsParking.mono _ _)
      | (with_reducible exact spec_DrawRefusingPlace.mono _ _)
      | (with_reducible exact spec_IsParking.mono _ _)
      | (with_reducible exact spec_RefusingPlace.mono _ _ _)
      | (with_reducible exact spec_SortedFits.mono _ _)
      | (with_reducible exact LeO.refl _)
      | (with_reducible exact LeO.none _)
      | (with_reducible refine LeO.ite ?_ ?_)
      | (with_reducible refine LeO.bind ?_ (fun _ => ?_))
      | exact ih0 _ _ _ _ _ _
      | exact ih1 _
      | exact ih2 _ _ _
      | exact ih3 _ _
      | exact ih4 _ _ _ _ _ _ _
      | exact impl_DoAllPark.mono _ _ _
      | exact impl_DriveCars.mono _ _ _
      | exact impl_IsBelow.mono _ _ _
      | exact impl_IsParking.mono _ _
      | exact impl_SortedFits.mono _ _
      | exact spec_DoAllPark.mono _ _ _
      | exact spec_DrawIsParking.mono _ _
      | exact spec_DrawRefusingPlace.mono _ _
      | exact spec_IsParking.mono _ _
      | exact spec_RefusingPlace.mono _ _ _
      | exact spec_SortedFits.mono _ _
      | exact LeO.none _
      | refine LeO.ite ?_ ?_
      | refine LeO.bind ?_ (fun _ => ?_)
theorem laws_FnParkingDecided.mono : ∀ a0 a1 k, LeO (laws_FnParkingDecided.f k a0 a1) (laws_FnParkingDecided.f (k + 1) a0 a1) := by
  intro a0 a1 k
  obtain ⟨ih0, ih1, ih2, ih3, ih4⟩ := laws_FnParkingDecided.mono_l k
  unfold laws_FnParkingDecided.f
  repeat' first
      | (with_reducible exact ih0 _ _ _ _ _ _)
      | (with_reducible exact ih1 _)
      | (with_reducible exact ih2 _ _ _)
      | (with_reducible exact ih3 _ _)
      | (with_reducible exact ih4 _ _ _ _ _ _ _)
      | (with_reducible exact impl_DoAllPark.mono _ _ _)
      | (with_reducible exact impl_DriveCars.mono _ _ _)
      | (with_reducible exact impl_IsBelow.mono _ _ _)
      | (with_reducible exact impl_IsParking.mono _ _)
      | (with_reducible exact impl_SortedFits.mono _ _)
      | (with_reducible exact spec_DoAllPark.mono _ _ _)
      | (with_reducible exact spec_DrawIsParking.mono _ _)
      | (with_reducible exact spec_DrawRefusingPlace.mono _ _)
      | (with_reducible exact spec_IsParking.mono _ _)
      | (with_reducible exact spec_RefusingPlace.mono _ _ _)
      | (with_reducible exact spec_SortedFits.mono _ _)
      | (with_reducible exact LeO.refl _)
      | (with_reducible exact LeO.none _)
      | (with_reducible refine LeO.ite ?_ ?_)
      | (with_reducible refine LeO.bind ?_ (fun _ => ?_))
      | exact ih0 _ _ _ _ _ _
      | exact ih1 _
      | exact ih2 _ _ _
      | exact ih3 _ _
      | exact ih4 _ _ _ _ _ _ _
      | exact impl_DoAllPark.mono _ _ _
      | exact impl_DriveCars.mono _ _ _
      | exact impl_IsBelow.mono _ _ _
      | exact impl_IsParking.mono _ _
      | exact impl_SortedFits.mono _ _
      | exact spec_DoAllPark.mono _ _ _
      | exact spec_DrawIsParking.mono _ _
      | exact spec_DrawRefusingPlace.mono _ _
      | exact spec_IsParking.mono _ _
      | exact spec_RefusingPlace.mono _ _ _
      | exact spec_SortedFits.mono _ _
      | exact LeO.none _
      | refine LeO.ite ?_ ?_
      | refine LeO.bind ?_ (fun _ => ?_)
set_option maxHeartbeats 8000000 in
set_option maxRecDepth 100000 in
theorem laws_FnParkingDecided.calls (k : Nat) (A0 : Option Addr) (c0 : Nat) (l0 : List Int) (A1 : Option Addr) (c1 : Nat) (l1 : List Int) (r : Bool) (w : World) (hr0 : Kd.C (Kd.int .u8) w A0 l0.length l0) (hc0 : l0.length ≤ c0) (hr1 : Kd.C (Kd.int .u8) w A1 l1.length l1) (hc1 : l1.length ≤ c1) (h : laws_FnParkingDecided.f k l0 l1 = some r) :
    Calls Try.prog 13 #[.slice A0 l0.length c0, .slice A1 l1.length c1] w fun e w' => e = .returned (.bool r) ∧ Below w.heap.size w w' := by
  have HR0 := Aside0.mk hr0
  have HC0 := Aside0.mk hc0
  clear hr0 hc0
  have HR1 := Aside0.mk hr1
  have HC1 := Aside0.mk hc1
  clear hr1 hc1
  have HB := Aside0.mk (Below.refl w.heap.size w)
  have H : ((laws_big.f l0 l1).bind fun t349 => (if t349 = true then (some true) else ((spec_DrawRefusingPlace.f k l0).bind fun bt350 => ((impl_RefusingPlace.f bt350.1 bt350.2).bind fun bt354 => ((spec_RefusingPlace.f k bt350.1 bt350.2).bind fun bt356 => ((impl_DoAllPark.f k bt350.1 bt350.2).bind fun bt358 => ((spec_DoAllPark.f k bt350.1 bt350.2).bind fun bt360 => (if (bt354.2 != bt356.2) = true then (laws_FnParkingDecided.j0 k l1 bt350.1 bt350.2 bt354.1 bt354.2 true) else (if bt354.1 = bt356.1 then (if (bt358.2 != bt360.2) = true then (laws_FnParkingDecided.j0 k l1 bt350.1 bt350.2 bt354.1 bt354.2 true) else (if (bt358.1 != bt360.1) = true then (laws_FnParkingDecided.j0 k l1 bt350.1 bt350.2 bt354.1 bt354.2 true) else (if bt358.2 = true then (if (bt358.1 == bt354.2) = true then (laws_FnParkingDecided.j0 k l1 bt350.1 bt350.2 bt354.1 bt354.2 true) else (if bt354.2 = true then (laws_FnParkingDecided.j0 k l1 bt350.1 bt350.2 bt354.1 bt354.2 (!bt358.2)) else (laws_FnParkingDecided.j0 k l1 bt350.1 bt350.2 bt354.1 bt354.2 false))) else (if bt354.2 = true then (laws_FnParkingDecided.j0 k l1 bt350.1 bt350.2 bt354.1 bt354.2 (!bt358.2)) else (laws_FnParkingDecided.j0 k l1 bt350.1 bt350.2 bt354.1 bt354.2 false))))) else (laws_FnParkingDecided.j0 k l1 bt350.1 bt350.2 bt354.1 bt354.2 true)))))))))) = some r := h
  clear h
  replace H := Option.bind_eq_some_iff.mp H
  obtain ⟨t349, A30, H⟩ := H
  replace H : (if t349 = true then (some true) else ((spec_DrawRefusingPlace.f k l0).bind fun bt350 => ((impl_RefusingPlace.f bt350.1 bt350.2).bind fun bt354 => ((spec_RefusingPlace.f k bt350.1 bt350.2).bind fun bt356 => ((impl_DoAllPark.f k bt350.1 bt350.2).bind fun bt358 => ((spec_DoAllPark.f k bt350.1 bt350.2).bind fun bt360 => (if (bt354.2 != bt356.2) = true then (laws_FnParkingDecided.j0 k l1 bt350.1 bt350.2 bt354.1 bt354.2 true) else (if bt354.1 = bt356.1 then (if (bt358.2 != bt360.2) = true then (laws_FnParkingDecided.j0 k l1 bt350.1 bt350.2 bt354.1 bt354.2 true) else (if (bt358.1 != bt360.1) = true then (laws_FnParkingDecided.j0 k l1 bt350.1 bt350.2 bt354.1 bt354.2 true) else (if bt358.2 = true then (if (bt358.1 == bt354.2) = true then (laws_FnParkingDecided.j0 k l1 bt350.1 bt350.2 bt354.1 bt354.2 true) else (if bt354.2 = true then (laws_FnParkingDecided.j0 k l1 bt350.1 bt350.2 bt354.1 bt354.2 (!bt358.2)) else (laws_FnParkingDecided.j0 k l1 bt350.1 bt350.2 bt354.1 bt354.2 false))) else (if bt354.2 = true then (laws_FnParkingDecided.j0 k l1 bt350.1 bt350.2 bt354.1 bt354.2 (!bt358.2)) else (laws_FnParkingDecided.j0 k l1 bt350.1 bt350.2 bt354.1 bt354.2 false))))) else (laws_FnParkingDecided.j0 k l1 bt350.1 bt350.2 bt354.1 bt354.2 true))))))))) = some r := H
  have A3 := Aside0.mk A30
  clear A30
  by_cases c4 : t349 = true
  · subst c4
    have H1 : (some true) = some r := by rw [if_pos rfl] at H; exact H
    clear H
    have H := H1
    clear H1
    obtain rfl := Option.some.inj H
    go_enter Try.func13, Try.ntmps13
    go_wp2_with (first | ((with_reducible refine gate_callee (f := 14) rfl ?_); refine goesL_ (some 33) rfl rfl Try.func14 (by kernel_rfl) rfl #[.slice A0 l0.length c0, .slice A1 l1.length c1] rfl (by (try simp only [List.map_toArray, List.map_cons, List.map_nil]); first | done | rfl | (simp only [List.length_drop, List.length_take]; rfl)) ?_; (with_reducible refine (laws_big.calls _ _ l0 _ _ l1 true _ ?side1 ?side2 ?side3 ?side4 A3.out).mono ?_); (case side1 => repeat (first | exact HR0.out | (with_reducible refine Kd.C_alloc ?_ _) | (with_reducible refine Kd.C_drewN ?_ _) | (with_reducible refine Kd.C_drew ?_))); (case side2 => exact HC0.out); (case side3 => repeat (first | exact HR1.out | (with_reducible refine Kd.C_alloc ?_ _) | (with_reducible refine Kd.C_drewN ?_ _) | (with_reducible refine Kd.C_drew ?_))); (case side4 => exact HC1.out); rintro e w' ⟨rfl, ⟨nd, rfl⟩⟩; refine ⟨_, rfl, ?_⟩))
    go_ret
    exact ⟨by first | rfl | (simp [errW_none, errW_some] <;> rfl) | (simp [*, errW_none, errW_some] <;> rfl), by repeat (first | (with_reducible first | exact HB.out | apply below_alloc | apply pw_below_drewN | apply below_drew1) | exact HB.out)⟩
  · replace c4 := Bool.eq_false_iff.mpr c4
    subst c4
    have H1 : ((spec_DrawRefusingPlace.f k l0).bind fun bt350 => ((impl_RefusingPlace.f bt350.1 bt350.2).bind fun bt354 => ((spec_RefusingPlace.f k bt350.1 bt350.2).bind fun bt356 => ((impl_DoAllPark.f k bt350.1 bt350.2).bind fun bt358 => ((spec_DoAllPark.f k bt350.1 bt350.2).bind fun bt360 => (if (bt354.2 != bt356.2) = true then (laws_FnParkingDecided.j0 k l1 bt350.1 bt350.2 bt354.1 bt354.2 true) else (if bt354.1 = bt356.1 then (if (bt358.2 != bt360.2) = true then (laws_FnParkingDecided.j0 k l1 bt350.1 bt350.2 bt354.1 bt354.2 true) else (if (bt358.1 != bt360.1) = true then (laws_FnParkingDecided.j0 k l1 bt350.1 bt350.2 bt354.1 bt354.2 true) else (if bt358.2 = true then (if (bt358.1 == bt354.2) = true then (laws_FnParkingDecided.j0 k l1 bt350.1 bt350.2 bt354.1 bt354.2 true) else (if bt354.2 = true then (laws_FnParkingDecided.j0 k l1 bt350.1 bt350.2 bt354.1 bt354.2 (!bt358.2)) else (laws_FnParkingDecided.j0 k l1 bt350.1 bt350.2 bt354.1 bt354.2 false))) else (if bt354.2 = true then (laws_FnParkingDecided.j0 k l1 bt350.1 bt350.2 bt354.1 bt354.2 (!bt358.2)) else (laws_FnParkingDecided.j0 k l1 bt350.1 bt350.2 bt354.1 bt354.2 false))))) else (laws_FnParkingDecided.j0 k l1 bt350.1 bt350.2 bt354.1 bt354.2 true)))))))) = some r := by rw [if_neg (show ¬ (false = true) by decide)] at H; exact H
    clear H
    have H := H1
    clear H1
    replace H := Option.bind_eq_some_iff.mp H
    obtain ⟨⟨t350, t351⟩, A50, H⟩ := H
    replace H : ((impl_RefusingPlace.f t350 t351).bind fun bt354 => ((spec_RefusingPlace.f k t350 t351).bind fun bt356 => ((impl_DoAllPark.f k t350 t351).bind fun bt358 => ((spec_DoAllPark.f k t350 t351).bind fun bt360 => (if (bt354.2 != bt356.2) = true then (laws_FnParkingDecided.j0 k l1 t350 t351 bt354.1 bt354.2 true) else (if bt354.1 = bt356.1 then (if (bt358.2 != bt360.2) = true then (laws_FnParkingDecided.j0 k l1 t350 t351 bt354.1 bt354.2 true) else (if (bt358.1 != bt360.1) = true then (laws_FnParkingDecided.j0 k l1 t350 t351 bt354.1 bt354.2 true) else (if bt358.2 = true then (if (bt358.1 == bt354.2) = true then (laws_FnParkingDecided.j0 k l1 t350 t351 bt354.1 bt354.2 true) else (if bt354.2 = true then (laws_FnParkingDecided.j0 k l1 t350 t351 bt354.1 bt354.2 (!bt358.2)) else (laws_FnParkingDecided.j0 k l1 t350 t351 bt354.1 bt354.2 false))) else (if bt354.2 = true then (laws_FnParkingDecided.j0 k l1 t350 t351 bt354.1 bt354.2 (!bt358.2)) else (laws_FnParkingDecided.j0 k l1 t350 t351 bt354.1 bt354.2 false))))) else (laws_FnParkingDecided.j0 k l1 t350 t351 bt354.1 bt354.2 true))))))) = some r := H
    have A5 := Aside0.mk A50
    clear A50
    replace H := Option.bind_eq_some_iff.mp H
    obtain ⟨⟨t354, t355⟩, A60, H⟩ := H
    replace H : ((spec_RefusingPlace.f k t350 t351).bind fun bt356 => ((impl_DoAllPark.f k t350 t351).bind fun bt358 => ((spec_DoAllPark.f k t350 t351).bind fun bt360 => (if (t355 != bt356.2) = true then (laws_FnParkingDecided.j0 k l1 t350 t351 t354 t355 true) else (if t354 = bt356.1 then (if (bt358.2 != bt360.2) = true then (laws_FnParkingDecided.j0 k l1 t350 t351 t354 t355 true) else (if (bt358.1 != bt360.1) = true then (laws_FnParkingDecided.j0 k l1 t350 t351 t354 t355 true) else (if bt358.2 = true then (if (bt358.1 == t355) = true then (laws_FnParkingDecided.j0 k l1 t350 t351 t354 t355 true) else (if t355 = true then (laws_FnParkingDecided.j0 k l1 t350 t351 t354 t355 (!bt358.2)) else (laws_FnParkingDecided.j0 k l1 t350 t351 t354 t355 false))) else (if t355 = true then (laws_FnParkingDecided.j0 k l1 t350 t351 t354 t355 (!bt358.2)) else (laws_FnParkingDecided.j0 k l1 t350 t351 t354 t355 false))))) else (laws_FnParkingDecided.j0 k l1 t350 t351 t354 t355 true)))))) = some r := H
    have A6 := Aside0.mk A60
    clear A60
    replace H := Option.bind_eq_some_iff.mp H
    obtain ⟨⟨t356, t357⟩, A70, H⟩ := H
    replace H : ((impl_DoAllPark.f k t350 t351).bind fun bt358 => ((spec_DoAllPark.f k t350 t351).bind fun bt360 => (if (t355 != t357) = true then (laws_FnParkingDecided.j0 k l1 t350 t351 t354 t355 true) else (if t354 = t356 then (if (bt358.2 != bt360.2) = true then (laws_FnParkingDecided.j0 k l1 t350 t351 t354 t355 true) else (if (bt358.1 != bt360.1) = true then (laws_FnParkingDecided.j0 k l1 t350 t351 t354 t355 true) else (if bt358.2 = true then (if (bt358.1 == t355) = true then (laws_FnParkingDecided.j0 k l1 t350 t351 t354 t355 true) else (if t355 = true then (laws_FnParkingDecided.j0 k l1 t350 t351 t354 t355 (!bt358.2)) else (laws_FnParkingDecided.j0 k l1 t350 t351 t354 t355 false))) else (if t355 = true then (laws_FnParkingDecided.j0 k l1 t350 t351 t354 t355 (!bt358.2)) else (laws_FnParkingDecided.j0 k l1 t350 t351 t354 t355 false))))) else (laws_FnParkingDecided.j0 k l1 t350 t351 t354 t355 true))))) = some r := H
    have A7 := Aside0.mk A70
    clear A70
    replace H := Option.bind_eq_some_iff.mp H
    obtain ⟨⟨t358, t359⟩, A80, H⟩ := H
    replace H : ((spec_DoAllPark.f k t350 t351).bind fun bt360 => (if (t355 != t357) = true then (laws_FnParkingDecided.j0 k l1 t350 t351 t354 t355 true) else (if t354 = t356 then (if (t359 != bt360.2) = true then (laws_FnParkingDecided.j0 k l1 t350 t351 t354 t355 true) else (if (t358 != bt360.1) = true then (laws_FnParkingDecided.j0 k l1 t350 t351 t354 t355 true) else (if t359 = true then (if (t358 == t355) = true then (laws_FnParkingDecided.j0 k l1 t350 t351 t354 t355 true) else (if t355 = true then (laws_FnParkingDecided.j0 k l1 t350 t351 t354 t355 (!t359)) else (laws_FnParkingDecided.j0 k l1 t350 t351 t354 t355 false))) else (if t355 = true then (laws_FnParkingDecided.j0 k l1 t350 t351 t354 t355 (!t359)) else (laws_FnParkingDecided.j0 k l1 t350 t351 t354 t355 false))))) else (laws_FnParkingDecided.j0 k l1 t350 t351 t354 t355 true)))) = some r := H
    have A8 := Aside0.mk A80
    clear A80
    replace H := Option.bind_eq_some_iff.mp H
    obtain ⟨⟨t360, t361⟩, A90, H⟩ := H
    replace H : (if (t355 != t357) = true then (laws_FnParkingDecided.j0 k l1 t350 t351 t354 t355 true) else (if t354 = t356 then (if (t359 != t361) = true then (laws_FnParkingDecided.j0 k l1 t350 t351 t354 t355 true) else (if (t358 != t360) = true then (laws_FnParkingDecided.j0 k l1 t350 t351 t354 t355 true) else (if t359 = true then (if (t358 == t355) = true then (laws_FnParkingDecided.j0 k l1 t350 t351 t354 t355 true) else (if t355 = true then (laws_FnParkingDecided.j0 k l1 t350 t351 t354 t355 (!t359)) else (laws_FnParkingDecided.j0 k l1 t350 t351 t354 t355 false))) else (if t355 = true then (laws_FnParkingDecided.j0 k l1 t350 t351 t354 t355 (!t359)) else (laws_FnParkingDecided.j0 k l1 t350 t351 t354 t355 false))))) else (laws_FnParkingDecided.j0 k l1 t350 t351 t354 t355 true))) = some r := H
    have A9 := Aside0.mk A90
    clear A90
    have HC10 := Aside0.mk H
    clear H
    go_enter Try.func13, Try.ntmps13
    go_upto_region 8 with (first | ((with_reducible refine gate_callee (f := 14) rfl ?_); refine goesL_ (some 33) rfl rfl Try.func14 (by kernel_rfl) rfl #[.slice A0 l0.length c0, .slice A1 l1.length c1] rfl (by (try simp only [List.map_toArray, List.map_cons, List.map_nil]); first | done | rfl | (simp only [List.length_drop, List.length_take]; rfl)) ?_; (with_reducible refine (laws_big.calls _ _ l0 _ _ l1 false _ ?side1 ?side2 ?side3 ?side4 A3.out).mono ?_); (case side1 => repeat (first | exact HR0.out | (with_reducible refine Kd.C_alloc ?_ _) | (with_reducible refine Kd.C_drewN ?_ _) | (with_reducible refine Kd.C_drew ?_))); (case side2 => exact HC0.out); (case side3 => repeat (first | exact HR1.out | (with_reducible refine Kd.C_alloc ?_ _) | (with_reducible refine Kd.C_drewN ?_ _) | (with_reducible refine Kd.C_drew ?_))); (case side4 => exact HC1.out); rintro e w' ⟨rfl, ⟨nd, rfl⟩⟩; refine ⟨_, rfl, ?_⟩) | ((with_reducible refine gate_callee (f := 82) rfl ?_); refine goesL_ (some 36) rfl rfl Try.func82 (by kernel_rfl) rfl #[.slice A0 l0.length c0] rfl (by (try simp only [List.map_toArray, List.map_cons, List.map_nil]); first | done | rfl | (simp only [List.length_drop, List.length_take]; rfl)) ?_; (with_reducible refine (spec_DrawRefusingPlace.calls k _ _ l0 t350 t351 _ ?side1 ?side2 A5.out).mono ?_); (case side1 => repeat (first | exact HR0.out | (with_reducible refine Kd.C_alloc ?_ _) | (with_reducible refine Kd.C_drewN ?_ _) | (with_reducible refine Kd.C_drew ?_))); (case side2 => exact HC0.out); rintro e w11 ⟨v352, rfl, ho0, hb⟩; refine ⟨_, rfl, ?_⟩; have n0_ := Aside0.mk (Kd.R_lower ho0 (below_size (by repeat (first | (with_reducible first | exact HB.out | apply below_alloc | apply pw_below_drewN | apply below_drew1) | exact HB.out)))); have n1_ := Aside0.mk (below_step (by repeat (first | (with_reducible first | exact HB.out | apply below_alloc | apply pw_below_drewN | apply below_drew1) | exact HB.out)) hb); clear HB; have HO353 := n0_; have HB := n1_; clear n0_ n1_; (try clear hb); (try clear hb2); (try clear hk); (try clear hi); (try clear ho0); obtain ⟨Ao12, co12, eo12⟩ := Kd.R_slice HO353.out; subst eo12) | ((with_reducible refine gate_callee (f := 83) rfl ?_); refine goesL_ (some 42) rfl rfl Try.func83 (by kernel_rfl) rfl #[.slice Ao12 t350.length co12, .int .i64 t351] rfl (by (try simp only [List.map_toArray, List.map_cons, List.map_nil]); first | done | rfl | (simp only [List.length_drop, List.length_take]; rfl)) ?_; (with_reducible refine (impl_RefusingPlace.calls _ _ t350 t351 t354 t355 _ ?side1 ?side2 A6.out).mono ?_); (case side1 => repeat (first | exact (Kd.R_reads' HO353.out).2.2 | (with_reducible refine Kd.C_alloc ?_ _) | (with_reducible refine Kd.C_drewN ?_ _) | (with_reducible refine Kd.C_drew ?_))); (case side2 => exact (Kd.R_reads' HO353.out).2.1); rintro e w13 ⟨rfl, hb⟩; refine ⟨_, rfl, ?_⟩; have n0_ := Aside0.mk (Kd.R_below (by (with_reducible repeat (first | apply Kd.R_alloc | apply Kd.R_drewN | apply Kd.R_drew)); exact HO353.out) hb); have n1_ := Aside0.mk (below_step (by repeat (first | (with_reducible first | exact HB.out | apply below_alloc | apply pw_below_drewN | apply below_drew1) | exact HB.out)) hb); clear HO353; clear HB; have HO353 := n0_; have HB := n1_; clear n0_ n1_; (try clear hb); (try clear hb2); (try clear hk); (try clear hi)) | ((with_reducible refine gate_callee (f := 84) rfl ?_); refine goesL_ (some 48) rfl rfl Try.func84 (by kernel_rfl) rfl #[.slice Ao12 t350.length co12, .int .i64 t351] rfl (by (try simp only [List.map_toArray, List.map_cons, List.map_nil]); first | done | rfl | (simp only [List.length_drop, List.length_take]; rfl)) ?_; (with_reducible refine (spec_RefusingPlace.calls k _ _ t350 t351 t356 t357 _ ?side1 ?side2 A7.out).mono ?_); (case side1 => repeat (first | exact (Kd.R_reads' HO353.out).2.2 | (with_reducible refine Kd.C_alloc ?_ _) | (with_reducible refine Kd.C_drewN ?_ _) | (with_reducible refine Kd.C_drew ?_))); (case side2 => exact (Kd.R_reads' HO353.out).2.1); rintro e w' ⟨rfl, ⟨nd, rfl⟩⟩; refine ⟨_, rfl, ?_⟩) | ((with_reducible refine gate_callee (f := 77) rfl ?_); refine goesL_ (some 54) rfl rfl Try.func77 (by kernel_rfl) rfl #[.slice Ao12 t350.length co12, .int .i64 t351] rfl (by (try simp only [List.map_toArray, List.map_cons, List.map_nil]); first | done | rfl | (simp only [List.length_drop, List.length_take]; rfl)) ?_; (with_reducible refine (impl_DoAllPark.calls k _ _ t350 t351 t358 t359 _ ?side1 ?side2 A8.out).mono ?_); (case side1 => repeat (first | exact (Kd.R_reads' HO353.out).2.2 | (with_reducible refine Kd.C_alloc ?_ _) | (with_reducible refine Kd.C_drewN ?_ _) | (with_reducible refine Kd.C_drew ?_))); (case side2 => exact (Kd.R_reads' HO353.out).2.1); rintro e w14 ⟨rfl, hb⟩; refine ⟨_, rfl, ?_⟩; have n0_ := Aside0.mk (Kd.R_below (by (with_reducible repeat (first | apply Kd.R_alloc | apply Kd.R_drewN | apply Kd.R_drew)); exact HO353.out) hb); have n1_ := Aside0.mk (below_step (by repeat (first | (with_reducible first | exact HB.out | apply below_alloc | apply pw_below_drewN | apply below_drew1) | exact HB.out)) hb); clear HO353; clear HB; have HO353 := n0_; have HB := n1_; clear n0_ n1_; (try clear hb); (try clear hb2); (try clear hk); (try clear hi)) | ((with_reducible refine gate_callee (f := 85) rfl ?_); refine goesL_ (some 60) rfl rfl Try.func85 (by kernel_rfl) rfl #[.slice Ao12 t350.length co12, .int .i64 t351] rfl (by (try simp only [List.map_toArray, List.map_cons, List.map_nil]); first | done | rfl | (simp only [List.length_drop, List.length_take]; rfl)) ?_; (with_reducible refine (spec_DoAllPark.calls k _ _ t350 t351 t360 t361 _ ?side1 ?side2 A9.out).mono ?_); (case side1 => repeat (first | exact (Kd.R_reads' HO353.out).2.2 | (with_reducible refine Kd.C_alloc ?_ _) | (with_reducible refine Kd.C_drewN ?_ _) | (with_reducible refine Kd.C_drew ?_))); (case side2 => exact (Kd.R_reads' HO353.out).2.1); rintro e w15 ⟨rfl, hb⟩; refine ⟨_, rfl, ?_⟩; have n0_ := Aside0.mk (Kd.R_below (by (with_reducible repeat (first | apply Kd.R_alloc | apply Kd.R_drewN | apply Kd.R_drew)); exact HO353.out) hb); have n1_ := Aside0.mk (below_step (by repeat (first | (with_reducible first | exact HB.out | apply below_alloc | apply pw_below_drewN | apply below_drew1) | exact HB.out)) hb); clear HO353; clear HB; have HO353 := n0_; have HB := n1_; clear n0_ n1_; (try clear hb); (try clear hb2); (try clear hk); (try clear hi)))
    (try simp only [Act.put, List.setIfInBounds_toArray, List.set_cons_zero, List.set_cons_succ])
    go_cut [95] (fun v95 wc => ∃ (kq : Nat) (x95_9 : Bool), v95 = .bool x95_9 ∧ Aside0 (laws_FnParkingDecided.j0 kq l1 t350 t351 t354 t355 x95_9 = some r) ∧ Aside0 (kq ≤ k) ∧ Aside0 (Kd.R (Kd.int .i64) 3 wc w.heap.size (fun _ => True) (.slice Ao12 t350.length co12) t350) ∧ Aside0 (Below w.heap.size w wc))
    case first => as_aux_lemma =>
      have H := HC10.out
      clear HC10
      by_cases c16 : (t355 != t357) = true
      · rw [if_pos c16] at H
        have c16b0 : (t355 != t357) = true := c16
        (try (have c16b1 : decide (t355 = t357) = false := by simpa using c16))
        (try (have c16b2 : (t355 == t357) = false := by simpa using c16))
        (try (have c16b3 : ¬ (t355 = t357) := by simpa using c16))
        clear c16
        (first | rw [c16b0] | (simp only [i64_w, i32_w]; rw [c16b0]) | skip)
        have H' := Aside0.mk H
        clear H
        go_wp2
        go_meet
        case rel => exact ⟨_, (true), (by first | rfl | (simp; done) | (simp [*]; done)), H', ⟨by first | omega | exact Nat.le_refl _⟩, ⟨by (with_reducible repeat (first | apply Kd.R_alloc | apply Kd.R_drewN | apply Kd.R_drew)); exact HO353.out⟩, ⟨by repeat (first | (with_reducible first | exact HB.out | apply below_alloc | apply pw_below_drewN | apply below_drew1) | exact HB.out)⟩⟩
      · rw [if_neg c16] at H
        have c16b0 : (t355 != t357) = false := by simpa using c16
        (try (have c16b1 : decide (t355 = t357) = true := by simpa using c16))
        (try (have c16b2 : (t355 == t357) = true := by simpa using c16))
        clear c16
        (first | rw [c16b0] | (simp only [i64_w, i32_w]; rw [c16b0]) | skip)
        by_cases c17 : t354 = t356
        · rw [if_pos c17] at H
          have c17b0 : (t354 == t356) = true := beq_iff_eq.mpr c17
          have c17b1 : (t354 != t356) = false := bne_eq_false_iff_eq.mpr c17
          clear c17
          by_cases c18 : (t359 != t361) = true
          · rw [if_pos c18] at H
            have c18b0 : (t359 != t361) = true := c18
            (try (have c18b1 : decide (t359 = t361) = false := by simpa using c18))
            (try (have c18b2 : (t359 == t361) = false := by simpa using c18))
            (try (have c18b3 : ¬ (t359 = t361) := by simpa using c18))
            clear c18
            have H' := Aside0.mk H
            clear H
            go_wp2
            go_meet
            case rel => exact ⟨_, (true), (by first | rfl | (simp; done) | (simp [*]; done)), H', ⟨by first | omega | exact Nat.le_refl _⟩, ⟨by (with_reducible repeat (first | apply Kd.R_alloc | apply Kd.R_drewN | apply Kd.R_drew)); exact HO353.out⟩, ⟨by repeat (first | (with_reducible first | exact HB.out | apply below_alloc | apply pw_below_drewN | apply below_drew1) | exact HB.out)⟩⟩
          · rw [if_neg c18] at H
            have c18b0 : (t359 != t361) = false := by simpa using c18
            (try (have c18b1 : decide (t359 = t361) = true := by simpa using c18))
            (try (have c18b2 : (t359 == t361) = true := by simpa using c18))
            clear c18
            by_cases c19 : (t358 != t360) = true
            · rw [if_pos c19] at H
              have c19b0 : (t358 != t360) = true := c19
              (try (have c19b1 : decide (t358 = t360) = false := by simpa using c19))
              (try (have c19b2 : (t358 == t360) = false := by simpa using c19))
              (try (have c19b3 : ¬ (t358 = t360) := by simpa using c19))
              clear c19
              have H' := Aside0.mk H
              clear H
              go_wp2
              go_meet
              case rel => exact ⟨_, (true), (by first | rfl | (simp; done) | (simp [*]; done)), H', ⟨by first | omega | exact Nat.le_refl _⟩, ⟨by (with_reducible repeat (first | apply Kd.R_alloc | apply Kd.R_drewN | apply Kd.R_drew)); exact HO353.out⟩, ⟨by repeat (first | (with_reducible first | exact HB.out | apply below_alloc | apply pw_below_drewN | apply below_drew1) | exact HB.out)⟩⟩
            · rw [if_neg c19] at H
              have c19b0 : (t358 != t360) = false := by simpa using c19
              (try (have c19b1 : decide (t358 = t360) = true := by simpa using c19))
              (try (have c19b2 : (t358 == t360) = true := by simpa using c19))
              clear c19
              by_cases c20 : t359 = true
              · subst c20
                have H1 : (if (t358 == t355) = true then (laws_FnParkingDecided.j0 k l1 t350 t351 t354 t355 true) else (if t355 = true then (laws_FnParkingDecided.j0 k l1 t350 t351 t354 t355 (!true)) else (laws_FnParkingDecided.j0 k l1 t350 t351 t354 t355 false))) = some r := by rw [if_pos rfl] at H; exact H
                clear H
                have H := H1
                clear H1
                by_cases c21 : (t358 == t355) = true
                · rw [if_pos c21] at H
                  have c21b0 : (t358 == t355) = true := c21
                  (try (have c21b1 : decide (t358 = t355) = true := by simpa using c21))
                  (try (have c21b2 : (t358 == t355) = true := by simpa using c21))
                  clear c21
                  have H' := Aside0.mk H
                  clear H
                  go_wp2
                  go_meet
                  case rel => exact ⟨_, (true), (by first | rfl | (simp; done) | (simp [*]; done)), H', ⟨by first | omega | exact Nat.le_refl _⟩, ⟨by (with_reducible repeat (first | apply Kd.R_alloc | apply Kd.R_drewN | apply Kd.R_drew)); exact HO353.out⟩, ⟨by repeat (first | (with_reducible first | exact HB.out | apply below_alloc | apply pw_below_drewN | apply below_drew1) | exact HB.out)⟩⟩
                · rw [if_neg c21] at H
                  have c21b0 : (t358 == t355) = false := by simpa using c21
                  (try (have c21b1 : decide (t358 = t355) = false := by simpa using c21))
                  (try (have c21b2 : (t358 == t355) = false := by simpa using c21))
                  (try (have c21b3 : ¬ (t358 = t355) := by simpa using c21))
                  clear c21
                  by_cases c22 : t355 = true
                  · subst c22
                    have H1 : (laws_FnParkingDecided.j0 k l1 t350 t351 t354 true (!true)) = some r := by rw [if_pos rfl] at H; exact H
                    clear H
                    have H := H1
                    clear H1
                    have H' := Aside0.mk H
                    clear H
                    cases t358 <;> cases t360 <;> first | (exfalso; revert c19b0 c21b0; decide) | (go_wp2; go_meet; exact ⟨_, (!true), (by first | rfl | (simp; done) | (simp [*]; done)), H', ⟨by first | omega | exact Nat.le_refl _⟩, ⟨by (with_reducible repeat (first | apply Kd.R_alloc | apply Kd.R_drewN | apply Kd.R_drew)); exact HO353.out⟩, ⟨by repeat (first | (with_reducible first | exact HB.out | apply below_alloc | apply pw_below_drewN | apply below_drew1) | exact HB.out)⟩⟩)
                  · replace c22 := Bool.eq_false_iff.mpr c22
                    subst c22
                    have H1 : (laws_FnParkingDecided.j0 k l1 t350 t351 t354 false false) = some r := by rw [if_neg (show ¬ (false = true) by decide)] at H; exact H
                    clear H
                    have H := H1
                    clear H1
                    have H' := Aside0.mk H
                    clear H
                    cases t358 <;> cases t360 <;> first | (exfalso; revert c19b0 c21b0; decide) | (go_wp2; go_meet; exact ⟨_, (false), (by first | rfl | (simp; done) | (simp [*]; done)), H', ⟨by first | omega | exact Nat.le_refl _⟩, ⟨by (with_reducible repeat (first | apply Kd.R_alloc | apply Kd.R_drewN | apply Kd.R_drew)); exact HO353.out⟩, ⟨by repeat (first | (with_reducible first | exact HB.out | apply below_alloc | apply pw_below_drewN | apply below_drew1) | exact HB.out)⟩⟩)
              · replace c20 := Bool.eq_false_iff.mpr c20
                subst c20
                have H1 : (if t355 = true then (laws_FnParkingDecided.j0 k l1 t350 t351 t354 t355 (!false)) else (laws_FnParkingDecided.j0 k l1 t350 t351 t354 t355 false)) = some r := by rw [if_neg (show ¬ (false = true) by decide)] at H; exact H
                clear H
                have H := H1
                clear H1
                by_cases c23 : t355 = true
                · subst c23
                  have H1 : (laws_FnParkingDecided.j0 k l1 t350 t351 t354 true (!false)) = some r := by rw [if_pos rfl] at H; exact H
                  clear H
                  have H := H1
                  clear H1
                  have H' := Aside0.mk H
                  clear H
                  go_wp2
                  go_meet
                  case rel => exact ⟨_, (!false), (by first | rfl | (simp; done) | (simp [*]; done)), H', ⟨by first | omega | exact Nat.le_refl _⟩, ⟨by (with_reducible repeat (first | apply Kd.R_alloc | apply Kd.R_drewN | apply Kd.R_drew)); exact HO353.out⟩, ⟨by repeat (first | (with_reducible first | exact HB.out | apply below_alloc | apply pw_below_drewN | apply below_drew1) | exact HB.out)⟩⟩
                · replace c23 := Bool.eq_false_iff.mpr c23
                  subst c23
                  have H1 : (laws_FnParkingDecided.j0 k l1 t350 t351 t354 false false) = some r := by rw [if_neg (show ¬ (false = true) by decide)] at H; exact H
                  clear H
                  have H := H1
                  clear H1
                  have H' := Aside0.mk H
                  clear H
                  go_wp2
                  go_meet
                  case rel => exact ⟨_, (false), (by first | rfl | (simp; done) | (simp [*]; done)), H', ⟨by first | omega | exact Nat.le_refl _⟩, ⟨by (with_reducible repeat (first | apply Kd.R_alloc | apply Kd.R_drewN | apply Kd.R_drew)); exact HO353.out⟩, ⟨by repeat (first | (with_reducible first | exact HB.out | apply below_alloc | apply pw_below_drewN | apply below_drew1) | exact HB.out)⟩⟩
        · rw [if_neg c17] at H
          have c17b0 : (t354 == t356) = false := beq_eq_false_iff_ne.mpr c17
          have c17b1 : (t354 != t356) = true := bne_iff_ne.mpr c17
          have H' := Aside0.mk H
          clear H
          go_wp2
          go_meet
          case rel => exact ⟨_, (true), (by first | rfl | (simp; done) | (simp [*]; done)), H', ⟨by first | omega | exact Nat.le_refl _⟩, ⟨by (with_reducible repeat (first | apply Kd.R_alloc | apply Kd.R_drewN | apply Kd.R_drew)); exact HO353.out⟩, ⟨by repeat (first | (with_reducible first | exact HB.out | apply below_alloc | apply pw_below_drewN | apply below_drew1) | exact HB.out)⟩⟩
    case rest => as_aux_lemma =>
      clear HC10
      try clear c1
      try clear c2
      try clear p2
      try clear c4
      try clear c7
      try clear c8
      try clear c13
      try clear c14
      try clear c16
      try clear c16b0
      try clear c16b1
      try clear c16b2
      try clear c17
      try clear c17b0
      try clear c17b1
      try clear c18
      try clear c18b0
      try clear c18b1
      try clear c18b2
      try clear c19
      try clear c19b0
      try clear c19b1
      try clear c19b2
      try clear c20
      try clear c21
      try clear c21b0
      try clear c21b1
      try clear c21b2
      try clear c22
      try clear c23
      obtain ⟨kq, x95_9, rfl, HA, HJ9, HO_5, HB⟩ := hcut
      cases kq with
      | zero => exact absurd HA.out (by simp [laws_FnParkingDecided.j0])
      | succ kj9 =>
        have H := HA.out
        clear HA
        simp only [laws_FnParkingDecided.j0] at H
        by_cases c24 : x95_9 = true
        · subst c24
          have H1 : (some false) = some r := by rw [if_pos rfl] at H; exact H
          clear H
          have H := H1
          clear H1
          obtain rfl := Option.some.inj H
          go_wp2
          go_ret
          exact ⟨by first | rfl | (simp [errW_none, errW_some] <;> rfl) | (simp [*, errW_none, errW_some] <;> rfl), by repeat (first | (with_reducible first | exact HB.out | apply below_alloc | apply pw_below_drewN | apply below_drew1) | exact HB.out)⟩
        · replace c24 := Bool.eq_false_iff.mpr c24
          subst c24
          have H1 : (if t355 = true then (laws_FnParkingDecided.l0 kj9 l1 t351 t354 0 t350 (t350.length : Int) 0) else (laws_FnParkingDecided.j2 kj9 l1)) = some r := by rw [if_neg (show ¬ (false = true) by decide)] at H; exact H
          clear H
          have H := H1
          clear H1
          have HC25 := Aside0.mk H
          clear H
          go_upto_if 96 with (fail)
          go_cut [] (fun wc => ∃ (kq : Nat), Aside0 (laws_FnParkingDecided.j2 kq l1 = some r) ∧ Aside0 (kq ≤ kj9) ∧ Aside0 (Below w.heap.size w wc))
          case first => as_aux_lemma =>
            have H := HC25.out
            clear HC25
            by_cases c26 : t355 = true
            · subst c26
              have H1 : (laws_FnParkingDecided.l0 kj9 l1 t351 t354 0 t350 (t350.length : Int) 0) = some r := by rw [if_pos rfl] at H; exact H
              clear H
              have H := H1
              clear H1
              have H' := Aside0.mk H
              clear H
              go_wp2
              go_loopg [15, 99] kj9 (fun kq v15 v99 w' => ∃ (x15_2 : Int) (x99_2 : Int), v15 = .int .i64 x15_2 ∧ v99 = .int .i64 x99_2 ∧ Aside0 (laws_FnParkingDecided.l0 kq l1 t351 t354 x15_2 t350 (t350.length : Int) x99_2 = some r) ∧ Aside0 (kq ≤ kj9) ∧ Aside0 (Kd.R (Kd.int .i64) 3 w' w.heap.size (fun _ => True) (.slice Ao12 t350.length co12) t350) ∧ Aside0 (Below w.heap.size w w'))
              case atStart => exact ⟨(0), (0), (by first | rfl | (simp; done) | (simp [*]; done)), (by first | rfl | (simp; done) | (simp [*]; done)), H', ⟨Nat.le_refl _⟩, ⟨by (with_reducible repeat (first | apply Kd.R_alloc | apply Kd.R_drewN | apply Kd.R_drew)); exact HO_5.out⟩, ⟨by repeat (first | (with_reducible first | exact HB.out | apply below_alloc | apply pw_below_drewN | apply below_drew1) | exact HB.out)⟩⟩
              case round => as_aux_lemma =>
                clear H'
                try clear c1
                try clear c2
                try clear p2
                try clear c4
                try clear c7
                try clear c8
                try clear c13
                try clear c14
                try clear c16
                try clear c16b0
                try clear c16b1
                try clear c16b2
                try clear c17
                try clear c17b0
                try clear c17b1
                try clear c18
                try clear c18b0
                try clear c18b1
                try clear c18b2
                try clear c19
                try clear c19b0
                try clear c19b1
                try clear c19b2
                try clear c20
                try clear c21
                try clear c21b0
                try clear c21b1
                try clear c21b2
                try clear c22
                try clear c23
                try clear c24
                try clear c26
                try clear p2
                obtain ⟨x15_2, x99_2, rfl, rfl, HA, HK2, HO_97, HB⟩ := hrel
                cases gk with
                | zero => exact absurd HA.out (by simp [laws_FnParkingDecided.l0])
                | succ k2 =>
                  have H := HA.out
                  clear HA
                  simp only [laws_FnParkingDecided.l0] at H
                  by_cases c27 : x99_2 < (t350.length : Int)
                  · rw [if_pos c27] at H
                    have c27b0 : decide (x99_2 < (t350.length : Int)) = true := decide_eq_true c27
                    clear c27
                    (first | rw [c27b0] | (simp only [i64_w, i32_w]; rw [c27b0]) | skip)
                    by_cases c28 : 0 ≤ x99_2
                    · rw [if_pos c28] at H
                      have c28b0 : decide (0 ≤ x99_2) = true := decide_eq_true c28
                      clear c28
                      by_cases c29 : x99_2 < (t350.length : Int)
                      · rw [if_pos c29] at H
                        have c29b0 : decide (x99_2 < (t350.length : Int)) = true := decide_eq_true c29
                        clear c29
                        by_cases c30 : (rd t350 x99_2) ≥ t354
                        · rw [if_pos c30] at H
                          have c30b0 : decide (t354 ≤ (rd t350 x99_2)) = true := decide_eq_true c30
                          clear c30
                          have H' := Aside0.mk H
                          clear H
                          have p362 : 0 ≤ (x99_2 : Int) := of_decide_eq_true (by first | (with_reducible assumption) | assumption)
                          have q362 : x99_2 < (t350.length : Int) := of_decide_eq_true (by first | (with_reducible assumption) | assumption)
                          obtain ⟨ad362, e362, hx362_0⟩ := Kd.at_int (Kd.R_reads' HO_97.out).2.2 x99_2 p362 q362
                          cases e362
                          replace p362 := eq_true p362
                          replace q362 := eq_true q362
                          go_wp2
                          go_roundg k2
                          case measure => have := HJ9.out; have := HK2.out; omega
                          case rel => exact ⟨(wrap64 (x15_2 + 1)), (wrap64 (x99_2 + 1)), (by first | rfl | (simp; done) | (simp [*]; done)), (by first | rfl | (simp; done) | (simp [*]; done)), H', ⟨by have := HJ9.out; have := HK2.out; omega⟩, ⟨by (with_reducible repeat (first | apply Kd.R_alloc | apply Kd.R_drewN | apply Kd.R_drew)); exact HO_97.out⟩, ⟨by repeat (first | (with_reducible first | exact HB.out | apply below_alloc | apply pw_below_drewN | apply below_drew1) | exact HB.out)⟩⟩
                        · rw [if_neg c30] at H
                          have c30b0 : decide (t354 ≤ (rd t350 x99_2)) = false := decide_eq_false c30
                          clear c30
                          have H' := Aside0.mk H
                          clear H
                          have p362 : 0 ≤ (x99_2 : Int) := of_decide_eq_true (by first | (with_reducible assumption) | assumption)
                          have q362 : x99_2 < (t350.length : Int) := of_decide_eq_true (by first | (with_reducible assumption) | assumption)
                          obtain ⟨ad362, e362, hx362_0⟩ := Kd.at_int (Kd.R_reads' HO_97.out).2.2 x99_2 p362 q362
                          cases e362
                          replace p362 := eq_true p362
                          replace q362 := eq_true q362
                          go_wp2
                          go_roundg k2
                          case measure => have := HJ9.out; have := HK2.out; omega
                          case rel => exact ⟨(x15_2), (wrap64 (x99_2 + 1)), (by first | rfl | (simp; done) | (simp [*]; done)), (by first | rfl | (simp; done) | (simp [*]; done)), H', ⟨by have := HJ9.out; have := HK2.out; omega⟩, ⟨by (with_reducible repeat (first | apply Kd.R_alloc | apply Kd.R_drewN | apply Kd.R_drew)); exact HO_97.out⟩, ⟨by repeat (first | (with_reducible first | exact HB.out | apply below_alloc | apply pw_below_drewN | apply below_drew1) | exact HB.out)⟩⟩
                      · rw [if_neg c29] at H
                        exact absurd H (by simp)
                    · rw [if_neg c28] at H
                      exact absurd H (by simp)
                  · rw [if_neg c27] at H
                    have c27b0 : decide (x99_2 < (t350.length : Int)) = false := decide_eq_false c27
                    clear c27
                    (first | rw [c27b0] | (simp only [i64_w, i32_w]; rw [c27b0]) | skip)
                    by_cases c31 : x15_2 ≤ (wrap64 (t351 - t354))
                    · rw [if_pos c31] at H
                      have c31b0 : decide (x15_2 ≤ (wrap64 (t351 - t354))) = true := decide_eq_true c31
                      clear c31
                      obtain rfl := Option.some.inj H
                      go_wp2
                      go_ret
                      exact ⟨by first | rfl | (simp [errW_none, errW_some] <;> rfl) | (simp [*, errW_none, errW_some] <;> rfl), by repeat (first | (with_reducible first | exact HB.out | apply below_alloc | apply pw_below_drewN | apply below_drew1) | exact HB.out)⟩
                    · rw [if_neg c31] at H
                      have c31b0 : decide (x15_2 ≤ (wrap64 (t351 - t354))) = false := decide_eq_false c31
                      clear c31
                      have H' := Aside0.mk H
                      clear H
                      go_wp2
                      go_meet
                      case rel => exact ⟨_, H', ⟨by have := HJ9.out; have := HK2.out; first | omega | exact Nat.le_refl _⟩, ⟨by repeat (first | (with_reducible first | exact HB.out | apply below_alloc | apply pw_below_drewN | apply below_drew1) | exact HB.out)⟩⟩
            · replace c26 := Bool.eq_false_iff.mpr c26
              subst c26
              have H1 : (laws_FnParkingDecided.j2 kj9 l1) = some r := by rw [if_neg (show ¬ (false = true) by decide)] at H; exact H
              clear H
              have H := H1
              clear H1
              have H' := Aside0.mk H
              clear H
              go_wp2
              go_meet
              case rel => exact ⟨_, H', ⟨by have := HJ9.out; first | omega | exact Nat.le_refl _⟩, ⟨by repeat (first | (with_reducible first | exact HB.out | apply below_alloc | apply pw_below_drewN | apply below_drew1) | exact HB.out)⟩⟩
          case rest => as_aux_lemma =>
            clear HC25
            try clear c1
            try clear c2
            try clear p2
            try clear c3
            try clear p3
            try clear q3
            try clear hx3
            try clear c4
            try clear p6
            try clear c7
            try clear c8
            try clear c13
            try clear c14
            try clear c16
            try clear c16b0
            try clear c16b1
            try clear c16b2
            try clear c17
            try clear c17b0
            try clear c17b1
            try clear c18
            try clear c18b0
            try clear c18b1
            try clear c18b2
            try clear c19
            try clear c19b0
            try clear c19b1
            try clear c19b2
            try clear c20
            try clear c21
            try clear c21b0
            try clear c21b1
            try clear c21b2
            try clear c22
            try clear c23
            try clear c24
            try clear c26
            try clear c27
            try clear c27b0
            try clear c28
            try clear c28b0
            try clear c29
            try clear c29b0
            try clear c30
            try clear c30b0
            try clear c31
            try clear c31b0
            try clear hx362_0
            try clear p2
            try clear p362
            try clear q362
            obtain ⟨kq, HA, HJ24, HB⟩ := hcut
            cases kq with
            | zero => exact absurd HA.out (by simp [laws_FnParkingDecided.j2])
            | succ kj24 =>
              have H := HA.out
              clear HA
              simp only [laws_FnParkingDecided.j2] at H
              replace H := Option.bind_eq_some_iff.mp H
              obtain ⟨t363, A320, H⟩ := H
              replace H : ((impl_IsParking.f kj24 t363).bind fun bt366 => ((spec_IsParking.f kj24 t363).bind fun bt368 => ((impl_SortedFits.f kj24 t363).bind fun bt370 => ((spec_SortedFits.f kj24 t363).bind fun bt372 => (if (bt366.2 != bt368.2) = true then (laws_FnParkingDecided.j3 kj24 t363 bt366.1 true) else (if (bt366.1 != bt368.1) = true then (laws_FnParkingDecided.j3 kj24 t363 bt366.1 true) else (if (bt370.2 != bt372.2) = true then (laws_FnParkingDecided.j3 kj24 t363 bt366.1 true) else (if (bt370.1 != bt372.1) = true then (laws_FnParkingDecided.j3 kj24 t363 bt366.1 true) else (if (bt366.2 != bt370.2) = true then (laws_FnParkingDecided.j3 kj24 t363 bt366.1 true) else (laws_FnParkingDecided.j3 kj24 t363 bt366.1 (bt366.1 != bt370.1))))))))))) = some r := H
              have A32 := Aside0.mk A320
              clear A320
              replace H := Option.bind_eq_some_iff.mp H
              obtain ⟨⟨t366, t367⟩, A330, H⟩ := H
              replace H : ((spec_IsParking.f kj24 t363).bind fun bt368 => ((impl_SortedFits.f kj24 t363).bind fun bt370 => ((spec_SortedFits.f kj24 t363).bind fun bt372 => (if (t367 != bt368.2) = true then (laws_FnParkingDecided.j3 kj24 t363 t366 true) else (if (t366 != bt368.1) = true then (laws_FnParkingDecided.j3 kj24 t363 t366 true) else (if (bt370.2 != bt372.2) = true then (laws_FnParkingDecided.j3 kj24 t363 t366 true) else (if (bt370.1 != bt372.1) = true then (laws_FnParkingDecided.j3 kj24 t363 t366 true) else (if (t367 != bt370.2) = true then (laws_FnParkingDecided.j3 kj24 t363 t366 true) else (laws_FnParkingDecided.j3 kj24 t363 t366 (t366 != bt370.1)))))))))) = some r := H
              have A33 := Aside0.mk A330
              clear A330
              replace H := Option.bind_eq_some_iff.mp H
              obtain ⟨⟨t368, t369⟩, A340, H⟩ := H
              replace H : ((impl_SortedFits.f kj24 t363).bind fun bt370 => ((spec_SortedFits.f kj24 t363).bind fun bt372 => (if (t367 != t369) = true then (laws_FnParkingDecided.j3 kj24 t363 t366 true) else (if (t366 != t368) = true then (laws_FnParkingDecided.j3 kj24 t363 t366 true) else (if (bt370.2 != bt372.2) = true then (laws_FnParkingDecided.j3 kj24 t363 t366 true) else (if (bt370.1 != bt372.1) = true then (laws_FnParkingDecided.j3 kj24 t363 t366 true) else (if (t367 != bt370.2) = true then (laws_FnParkingDecided.j3 kj24 t363 t366 true) else (laws_FnParkingDecided.j3 kj24 t363 t366 (t366 != bt370.1))))))))) = some r := H
              have A34 := Aside0.mk A340
              clear A340
              replace H := Option.bind_eq_some_iff.mp H
              obtain ⟨⟨t370, t371⟩, A350, H⟩ := H
              replace H : ((spec_SortedFits.f kj24 t363).bind fun bt372 => (if (t367 != t369) = true then (laws_FnParkingDecided.j3 kj24 t363 t366 true) else (if (t366 != t368) = true then (laws_FnParkingDecided.j3 kj24 t363 t366 true) else (if (t371 != bt372.2) = true then (laws_FnParkingDecided.j3 kj24 t363 t366 true) else (if (t370 != bt372.1) = true then (laws_FnParkingDecided.j3 kj24 t363 t366 true) else (if (t367 != t371) = true then (laws_FnParkingDecided.j3 kj24 t363 t366 true) else (laws_FnParkingDecided.j3 kj24 t363 t366 (t366 != t370)))))))) = some r := H
              have A35 := Aside0.mk A350
              clear A350
              replace H := Option.bind_eq_some_iff.mp H
              obtain ⟨⟨t372, t373⟩, A360, H⟩ := H
              replace H : (if (t367 != t369) = true then (laws_FnParkingDecided.j3 kj24 t363 t366 true) else (if (t366 != t368) = true then (laws_FnParkingDecided.j3 kj24 t363 t366 true) else (if (t371 != t373) = true then (laws_FnParkingDecided.j3 kj24 t363 t366 true) else (if (t370 != t372) = true then (laws_FnParkingDecided.j3 kj24 t363 t366 true) else (if (t367 != t371) = true then (laws_FnParkingDecided.j3 kj24 t363 t366 true) else (laws_FnParkingDecided.j3 kj24 t363 t366 (t366 != t370))))))) = some r := H
              have A36 := Aside0.mk A360
              clear A360
              have HC37 := Aside0.mk H
              clear H
              go_upto_region 25 with (first | ((with_reducible refine gate_callee (f := 86) rfl ?_); refine goesL_ (some 115) rfl rfl Try.func86 (by kernel_rfl) rfl #[.slice A1 l1.length c1] rfl (by (try simp only [List.map_toArray, List.map_cons, List.map_nil]); first | done | rfl | (simp only [List.length_drop, List.length_take]; rfl)) ?_; (with_reducible refine (spec_DrawIsParking.calls kj24 _ _ l1 t363 _ ?side1 ?side2 A32.out).mono ?_); (case side1 => repeat (first | exact (Kd.C_below HR1.out HB.out) | (with_reducible refine Kd.C_alloc ?_ _) | (with_reducible refine Kd.C_drewN ?_ _) | (with_reducible refine Kd.C_drew ?_))); (case side2 => exact HC1.out); rintro e w38 ⟨v364, rfl, ho0, hb⟩; refine ⟨_, rfl, ?_⟩; have n0_ := Aside0.mk (Kd.R_lower ho0 (below_size (by repeat (first | (with_reducible first | exact HB.out | apply below_alloc | apply pw_below_drewN | apply below_drew1) | exact HB.out)))); have n1_ := Aside0.mk (below_step (by repeat (first | (with_reducible first | exact HB.out | apply below_alloc | apply pw_below_drewN | apply below_drew1) | exact HB.out)) hb); clear HB; have HO365 := n0_; have HB := n1_; clear n0_ n1_; (try clear hb); (try clear hb2); (try clear hk); (try clear hi); (try clear ho0); obtain ⟨Ao39, co39, eo39⟩ := Kd.R_slice HO365.out; subst eo39) | ((with_reducible refine gate_callee (f := 22) rfl ?_); refine goesL_ (some 118) rfl rfl Try.func22 (by kernel_rfl) rfl #[.slice Ao39 t363.length co39] rfl (by (try simp only [List.map_toArray, List.map_cons, List.map_nil]); first | done | rfl | (simp only [List.length_drop, List.length_take]; rfl)) ?_; (with_reducible refine (impl_IsParking.calls kj24 _ _ t363 t366 t367 _ ?side1 ?side2 A33.out).mono ?_); (case side1 => repeat (first | exact (Kd.R_reads' HO365.out).2.2 | (with_reducible refine Kd.C_alloc ?_ _) | (with_reducible refine Kd.C_drewN ?_ _) | (with_reducible refine Kd.C_drew ?_))); (case side2 => exact (Kd.R_reads' HO365.out).2.1); rintro e w40 ⟨rfl, hb⟩; refine ⟨_, rfl, ?_⟩; have n0_ := Aside0.mk (Kd.R_below (by (with_reducible repeat (first | apply Kd.R_alloc | apply Kd.R_drewN | apply Kd.R_drew)); exact HO365.out) hb); have n1_ := Aside0.mk (below_step (by repeat (first | (with_reducible first | exact HB.out | apply below_alloc | apply pw_below_drewN | apply below_drew1) | exact HB.out)) hb); clear HO365; clear HB; have HO365 := n0_; have HB := n1_; clear n0_ n1_; (try clear hb); (try clear hb2); (try clear hk); (try clear hi)) | ((with_reducible refine gate_callee (f := 87) rfl ?_); refine goesL_ (some 123) rfl rfl Try.func87 (by kernel_rfl) rfl #[.slice Ao39 t363.length co39] rfl (by (try simp only [List.map_toArray, List.map_cons, List.map_nil]); first | done | rfl | (simp only [List.length_drop, List.length_take]; rfl)) ?_; (with_reducible refine (spec_IsParking.calls kj24 _ _ t363 t368 t369 _ ?side1 ?side2 A34.out).mono ?_); (case side1 => repeat (first | exact (Kd.R_reads' HO365.out).2.2 | (with_reducible refine Kd.C_alloc ?_ _) | (with_reducible refine Kd.C_drewN ?_ _) | (with_reducible refine Kd.C_drew ?_))); (case side2 => exact (Kd.R_reads' HO365.out).2.1); rintro e w41 ⟨rfl, hb⟩; refine ⟨_, rfl, ?_⟩; have n0_ := Aside0.mk (Kd.R_below (by (with_reducible repeat (first | apply Kd.R_alloc | apply Kd.R_drewN | apply Kd.R_drew)); exact HO365.out) hb); have n1_ := Aside0.mk (below_step (by repeat (first | (with_reducible first | exact HB.out | apply below_alloc | apply pw_below_drewN | apply below_drew1) | exact HB.out)) hb); clear HO365; clear HB; have HO365 := n0_; have HB := n1_; clear n0_ n1_; (try clear hb); (try clear hb2); (try clear hk); (try clear hi)) | ((with_reducible refine gate_callee (f := 58) rfl ?_); refine goesL_ (some 128) rfl rfl Try.func58 (by kernel_rfl) rfl #[.slice Ao39 t363.length co39] rfl (by (try simp only [List.map_toArray, List.map_cons, List.map_nil]); first | done | rfl | (simp only [List.length_drop, List.length_take]; rfl)) ?_; (with_reducible refine (impl_SortedFits.calls kj24 _ _ t363 t370 t371 _ ?side1 ?side2 A35.out).mono ?_); (case side1 => repeat (first | exact (Kd.R_reads' HO365.out).2.2 | (with_reducible refine Kd.C_alloc ?_ _) | (with_reducible refine Kd.C_drewN ?_ _) | (with_reducible refine Kd.C_drew ?_))); (case side2 => exact (Kd.R_reads' HO365.out).2.1); rintro e w42 ⟨rfl, hb⟩; refine ⟨_, rfl, ?_⟩; have n0_ := Aside0.mk (Kd.R_below (by (with_reducible repeat (first | apply Kd.R_alloc | apply Kd.R_drewN | apply Kd.R_drew)); exact HO365.out) hb); have n1_ := Aside0.mk (below_step (by repeat (first | (with_reducible first | exact HB.out | apply below_alloc | apply pw_below_drewN | apply below_drew1) | exact HB.out)) hb); clear HO365; clear HB; have HO365 := n0_; have HB := n1_; clear n0_ n1_; (try clear hb); (try clear hb2); (try clear hk); (try clear hi)) | ((with_reducible refine gate_callee (f := 56) rfl ?_); refine goesL_ (some 133) rfl rfl Try.func56 (by kernel_rfl) rfl #[.slice Ao39 t363.length co39] rfl (by (try simp only [List.map_toArray, List.map_cons, List.map_nil]); first | done | rfl | (simp only [List.length_drop, List.length_take]; rfl)) ?_; (with_reducible refine (spec_SortedFits.calls kj24 _ _ t363 t372 t373 _ ?side1 ?side2 A36.out).mono ?_); (case side1 => repeat (first | exact (Kd.R_reads' HO365.out).2.2 | (with_reducible refine Kd.C_alloc ?_ _) | (with_reducible refine Kd.C_drewN ?_ _) | (with_reducible refine Kd.C_drew ?_))); (case side2 => exact (Kd.R_reads' HO365.out).2.1); rintro e w43 ⟨rfl, hb⟩; refine ⟨_, rfl, ?_⟩; have n0_ := Aside0.mk (Kd.R_below (by (with_reducible repeat (first | apply Kd.R_alloc | apply Kd.R_drewN | apply Kd.R_drew)); exact HO365.out) hb); have n1_ := Aside0.mk (below_step (by repeat (first | (with_reducible first | exact HB.out | apply below_alloc | apply pw_below_drewN | apply below_drew1) | exact HB.out)) hb); clear HO365; clear HB; have HO365 := n0_; have HB := n1_; clear n0_ n1_; (try clear hb); (try clear hb2); (try clear hk); (try clear hi)))
              (try simp only [Act.put, List.setIfInBounds_toArray, List.set_cons_zero, List.set_cons_succ])
              go_cut [163] (fun v163 wc => ∃ (kq : Nat) (x163_36 : Bool), v163 = .bool x163_36 ∧ Aside0 (laws_FnParkingDecided.j3 kq t363 t366 x163_36 = some r) ∧ Aside0 (kq ≤ kj24) ∧ Aside0 (Kd.R (Kd.int .i64) 3 wc w.heap.size (fun _ => True) (.slice Ao39 t363.length co39) t363) ∧ Aside0 (Below w.heap.size w wc))
              case first => as_aux_lemma =>
                have H := HC37.out
                clear HC37
                by_cases c44 : (t367 != t369) = true
                · rw [if_pos c44] at H
                  have c44b0 : (t367 != t369) = true := c44
                  (try (have c44b1 : decide (t367 = t369) = false := by simpa using c44))
                  (try (have c44b2 : (t367 == t369) = false := by simpa using c44))
                  (try (have c44b3 : ¬ (t367 = t369) := by simpa using c44))
                  clear c44
                  (first | rw [c44b0] | (simp only [i64_w, i32_w]; rw [c44b0]) | skip)
                  have H' := Aside0.mk H
                  clear H
                  go_wp2
                  go_meet
                  case rel => exact ⟨_, (true), (by first | rfl | (simp; done) | (simp [*]; done)), H', ⟨by have := HJ9.out; have := HJ24.out; first | omega | exact Nat.le_refl _⟩, ⟨by (with_reducible repeat (first | apply Kd.R_alloc | apply Kd.R_drewN | apply Kd.R_drew)); exact HO365.out⟩, ⟨by repeat (first | (with_reducible first | exact HB.out | apply below_alloc | apply pw_below_drewN | apply below_drew1) | exact HB.out)⟩⟩
                · rw [if_neg c44] at H
                  have c44b0 : (t367 != t369) = false := by simpa using c44
                  (try (have c44b1 : decide (t367 = t369) = true := by simpa using c44))
                  (try (have c44b2 : (t367 == t369) = true := by simpa using c44))
                  clear c44
                  (first | rw [c44b0] | (simp only [i64_w, i32_w]; rw [c44b0]) | skip)
                  by_cases c45 : (t366 != t368) = true
                  · rw [if_pos c45] at H
                    have c45b0 : (t366 != t368) = true := c45
                    (try (have c45b1 : decide (t366 = t368) = false := by simpa using c45))
                    (try (have c45b2 : (t366 == t368) = false := by simpa using c45))
                    (try (have c45b3 : ¬ (t366 = t368) := by simpa using c45))
                    clear c45
                    have H' := Aside0.mk H
                    clear H
                    go_wp2
                    go_meet
                    case rel => exact ⟨_, (true), (by first | rfl | (simp; done) | (simp [*]; done)), H', ⟨by have := HJ9.out; have := HJ24.out; first | omega | exact Nat.le_refl _⟩, ⟨by (with_reducible repeat (first | apply Kd.R_alloc | apply Kd.R_drewN | apply Kd.R_drew)); exact HO365.out⟩, ⟨by repeat (first | (with_reducible first | exact HB.out | apply below_alloc | apply pw_below_drewN | apply below_drew1) | exact HB.out)⟩⟩
                  · rw [if_neg c45] at H
                    have c45b0 : (t366 != t368) = false := by simpa using c45
                    (try (have c45b1 : decide (t366 = t368) = true := by simpa using c45))
                    (try (have c45b2 : (t366 == t368) = true := by simpa using c45))
                    clear c45
                    by_cases c46 : (t371 != t373) = true
                    · rw [if_pos c46] at H
                      have c46b0 : (t371 != t373) = true := c46
                      (try (have c46b1 : decide (t371 = t373) = false := by simpa using c46))
                      (try (have c46b2 : (t371 == t373) = false := by simpa using c46))
                      (try (have c46b3 : ¬ (t371 = t373) := by simpa using c46))
                      clear c46
                      have H' := Aside0.mk H
                      clear H
                      go_wp2
                      go_meet
                      case rel => exact ⟨_, (true), (by first | rfl | (simp; done) | (simp [*]; done)), H', ⟨by have := HJ9.out; have := HJ24.out; first | omega | exact Nat.le_refl _⟩, ⟨by (with_reducible repeat (first | apply Kd.R_alloc | apply Kd.R_drewN | apply Kd.R_drew)); exact HO365.out⟩, ⟨by repeat (first | (with_reducible first | exact HB.out | apply below_alloc | apply pw_below_drewN | apply below_drew1) | exact HB.out)⟩⟩
                    · rw [if_neg c46] at H
                      have c46b0 : (t371 != t373) = false := by simpa using c46
                      (try (have c46b1 : decide (t371 = t373) = true := by simpa using c46))
                      (try (have c46b2 : (t371 == t373) = true := by simpa using c46))
                      clear c46
                      by_cases c47 : (t370 != t372) = true
                      · rw [if_pos c47] at H
                        have c47b0 : (t370 != t372) = true := c47
                        (try (have c47b1 : decide (t370 = t372) = false := by simpa using c47))
                        (try (have c47b2 : (t370 == t372) = false := by simpa using c47))
                        (try (have c47b3 : ¬ (t370 = t372) := by simpa using c47))
                        clear c47
                        have H' := Aside0.mk H
                        clear H
                        go_wp2
                        go_meet
                        case rel => exact ⟨_, (true), (by first | rfl | (simp; done) | (simp [*]; done)), H', ⟨by have := HJ9.out; have := HJ24.out; first | omega | exact Nat.le_refl _⟩, ⟨by (with_reducible repeat (first | apply Kd.R_alloc | apply Kd.R_drewN | apply Kd.R_drew)); exact HO365.out⟩, ⟨by repeat (first | (with_reducible first | exact HB.out | apply below_alloc | apply pw_below_drewN | apply below_drew1) | exact HB.out)⟩⟩
                      · rw [if_neg c47] at H
                        have c47b0 : (t370 != t372) = false := by simpa using c47
                        (try (have c47b1 : decide (t370 = t372) = true := by simpa using c47))
                        (try (have c47b2 : (t370 == t372) = true := by simpa using c47))
                        clear c47
                        by_cases c48 : (t367 != t371) = true
                        · rw [if_pos c48] at H
                          have c48b0 : (t367 != t371) = true := c48
                          (try (have c48b1 : decide (t367 = t371) = false := by simpa using c48))
                          (try (have c48b2 : (t367 == t371) = false := by simpa using c48))
                          (try (have c48b3 : ¬ (t367 = t371) := by simpa using c48))
                          clear c48
                          have H' := Aside0.mk H
                          clear H
                          go_wp2
                          go_meet
                          case rel => exact ⟨_, (true), (by first | rfl | (simp; done) | (simp [*]; done)), H', ⟨by have := HJ9.out; have := HJ24.out; first | omega | exact Nat.le_refl _⟩, ⟨by (with_reducible repeat (first | apply Kd.R_alloc | apply Kd.R_drewN | apply Kd.R_drew)); exact HO365.out⟩, ⟨by repeat (first | (with_reducible first | exact HB.out | apply below_alloc | apply pw_below_drewN | apply below_drew1) | exact HB.out)⟩⟩
                        · rw [if_neg c48] at H
                          have c48b0 : (t367 != t371) = false := by simpa using c48
                          (try (have c48b1 : decide (t367 = t371) = true := by simpa using c48))
                          (try (have c48b2 : (t367 == t371) = true := by simpa using c48))
                          clear c48
                          have H' := Aside0.mk H
                          clear H
                          go_wp2
                          go_meet
                          case rel => exact ⟨_, ((t366 != t370)), (by first | rfl | (simp; done) | (simp [*]; done)), H', ⟨by have := HJ9.out; have := HJ24.out; first | omega | exact Nat.le_refl _⟩, ⟨by (with_reducible repeat (first | apply Kd.R_alloc | apply Kd.R_drewN | apply Kd.R_drew)); exact HO365.out⟩, ⟨by repeat (first | (with_reducible first | exact HB.out | apply below_alloc | apply pw_below_drewN | apply below_drew1) | exact HB.out)⟩⟩
              case rest => as_aux_lemma =>
                clear HC37
                try clear c1
                try clear c2
                try clear p2
                try clear c3
                try clear p3
                try clear q3
                try clear hx3
                try clear c4
                try clear c5
                try clear p6
                try clear c7
                try clear c8
                try clear c13
                try clear c14
                try clear c16
                try clear c16b0
                try clear c16b1
                try clear c16b2
                try clear c17
                try clear c17b0
                try clear c17b1
                try clear c18
                try clear c18b0
                try clear c18b1
                try clear c18b2
                try clear c19
                try clear c19b0
                try clear c19b1
                try clear c19b2
                try clear c20
                try clear c21
                try clear c21b0
                try clear c21b1
                try clear c21b2
                try clear c22
                try clear c23
                try clear c24
                try clear c26
                try clear c27
                try clear c27b0
                try clear c28
                try clear c28b0
                try clear c29
                try clear c29b0
                try clear c30
                try clear c30b0
                try clear c31
                try clear c31b0
                try clear p36
                try clear q36
                try clear hx36
                try clear c44
                try clear c44b0
                try clear c44b1
                try clear c44b2
                try clear c45
                try clear c45b0
                try clear c45b1
                try clear c45b2
                try clear c46
                try clear c46b0
                try clear c46b1
                try clear c46b2
                try clear c47
                try clear c47b0
                try clear c47b1
                try clear c47b2
                try clear c48
                try clear c48b0
                try clear c48b1
                try clear c48b2
                try clear hx362_0
                try clear p2
                try clear p3
                try clear p362
                try clear p6
                try clear q3
                try clear q362
                obtain ⟨kq, x163_36, rfl, HA, HJ36, HO_18, HB⟩ := hcut
                cases kq with
                | zero => exact absurd HA.out (by simp [laws_FnParkingDecided.j3])
                | succ kj36 =>
                  have H := HA.out
                  clear HA
                  simp only [laws_FnParkingDecided.j3] at H
                  by_cases c49 : x163_36 = true
                  · subst c49
                    have H1 : (some false) = some r := by rw [if_pos rfl] at H; exact H
                    clear H
                    have H := H1
                    clear H1
                    obtain rfl := Option.some.inj H
                    go_wp2
                    go_ret
                    exact ⟨by first | rfl | (simp [errW_none, errW_some] <;> rfl) | (simp [*, errW_none, errW_some] <;> rfl), by repeat (first | (with_reducible first | exact HB.out | apply below_alloc | apply pw_below_drewN | apply below_drew1) | exact HB.out)⟩
                  · replace c49 := Bool.eq_false_iff.mpr c49
                    subst c49
                    have H1 : (if t366 = true then (laws_FnParkingDecided.j4 kj36 t363 (decide ((t363.length : Int) > 0))) else (laws_FnParkingDecided.j4 kj36 t363 false)) = some r := by rw [if_neg (show ¬ (false = true) by decide)] at H; exact H
                    clear H
                    have H := H1
                    clear H1
                    have HC50 := Aside0.mk H
                    clear H
                    go_upto_region 27 with (fail)
                    go_cut [169] (fun v169 wc => ∃ (kq : Nat) (x169_49 : Bool), v169 = .bool x169_49 ∧ Aside0 (laws_FnParkingDecided.j4 kq t363 x169_49 = some r) ∧ Aside0 (kq ≤ kj36) ∧ Aside0 (Kd.R (Kd.int .i64) 3 wc w.heap.size (fun _ => True) (.slice Ao39 t363.length co39) t363) ∧ Aside0 (Below w.heap.size w wc))
                    case first => as_aux_lemma =>
                      have H := HC50.out
                      clear HC50
                      by_cases c51 : t366 = true
                      · subst c51
                        have H1 : (laws_FnParkingDecided.j4 kj36 t363 (decide ((t363.length : Int) > 0))) = some r := by rw [if_pos rfl] at H; exact H
                        clear H
                        have H := H1
                        clear H1
                        have H' := Aside0.mk H
                        clear H
                        go_wp2
                        go_meet
                        case rel => exact ⟨_, (decide ((t363.length : Int) > 0)), (by first | rfl | (simp; done) | (simp [*]; done)), H', ⟨by have := HJ9.out; have := HJ24.out; have := HJ36.out; first | omega | exact Nat.le_refl _⟩, ⟨by (with_reducible repeat (first | apply Kd.R_alloc | apply Kd.R_drewN | apply Kd.R_drew)); exact HO_18.out⟩, ⟨by repeat (first | (with_reducible first | exact HB.out | apply below_alloc | apply pw_below_drewN | apply below_drew1) | exact HB.out)⟩⟩
                      · replace c51 := Bool.eq_false_iff.mpr c51
                        subst c51
                        have H1 : (laws_FnParkingDecided.j4 kj36 t363 false) = some r := by rw [if_neg (show ¬ (false = true) by decide)] at H; exact H
                        clear H
                        have H := H1
                        clear H1
                        have H' := Aside0.mk H
                        clear H
                        go_wp2
                        go_meet
                        case rel => exact ⟨_, (false), (by first | rfl | (simp; done) | (simp [*]; done)), H', ⟨by have := HJ9.out; have := HJ24.out; have := HJ36.out; first | omega | exact Nat.le_refl _⟩, ⟨by (with_reducible repeat (first | apply Kd.R_alloc | apply Kd.R_drewN | apply Kd.R_drew)); exact HO_18.out⟩, ⟨by repeat (first | (with_reducible first | exact HB.out | apply below_alloc | apply pw_below_drewN | apply below_drew1) | exact HB.out)⟩⟩
                    case rest => as_aux_lemma =>
                      clear HC50
                      try clear c1
                      try clear c2
                      try clear p2
                      try clear c3
                      try clear p3
                      try clear q3
                      try clear hx3
                      try clear c4
                      try clear c5
                      try clear p6
                      try clear c7
                      try clear c8
                      try clear c13
                      try clear c14
                      try clear c16
                      try clear c16b0
                      try clear c16b1
                      try clear c16b2
                      try clear c17
                      try clear c17b0
                      try clear c17b1
                      try clear c18
                      try clear c18b0
                      try clear c18b1
                      try clear c18b2
                      try clear c19
                      try clear c19b0
                      try clear c19b1
                      try clear c19b2
                      try clear c20
                      try clear c21
                      try clear c21b0
                      try clear c21b1
                      try clear c21b2
                      try clear c22
                      try clear c23
                      try clear c24
                      try clear c26
                      try clear c27
                      try clear c27b0
                      try clear c28
                      try clear c28b0
                      try clear c29
                      try clear c29b0
                      try clear c30
                      try clear c30b0
                      try clear c31
                      try clear c31b0
                      try clear p36
                      try clear q36
                      try clear hx36
                      try clear c44
                      try clear c44b0
                      try clear c44b1
                      try clear c44b2
                      try clear c45
                      try clear c45b0
                      try clear c45b1
                      try clear c45b2
                      try clear c46
                      try clear c46b0
                      try clear c46b1
                      try clear c46b2
                      try clear c47
                      try clear c47b0
                      try clear c47b1
                      try clear c47b2
                      try clear c48
                      try clear c48b0
                      try clear c48b1
                      try clear c48b2
                      try clear c49
                      try clear c51
                      try clear hx362_0
                      try clear p2
                      try clear p3
                      try clear p36
                      try clear p362
                      try clear p6
                      try clear q3
                      try clear q36
                      try clear q362
                      obtain ⟨kq, x169_49, rfl, HA, HJ49, HO_18, HB⟩ := hcut
                      cases kq with
                      | zero => exact absurd HA.out (by simp [laws_FnParkingDecided.j4])
                      | succ kj49 =>
                        have H := HA.out
                        clear HA
                        simp only [laws_FnParkingDecided.j4] at H
                        by_cases c52 : x169_49 = true
                        · subst c52
                          have H1 : ((impl_DriveCars.f kj49 t363 (t363.length : Int)).bind fun bt374 => ((impl_IsBelow.f kj49 t363 bt374.1).bind fun bt378 => (if bt374.2 = true then (if bt378.2 = true then (some bt378.1) else (some false)) else (some false)))) = some r := by rw [if_pos rfl] at H; exact H
                          clear H
                          have H := H1
                          clear H1
                          replace H := Option.bind_eq_some_iff.mp H
                          obtain ⟨⟨t374, t375⟩, A530, H⟩ := H
                          replace H : ((impl_IsBelow.f kj49 t363 t374).bind fun bt378 => (if t375 = true then (if bt378.2 = true then (some bt378.1) else (some false)) else (some false))) = some r := H
                          have A53 := Aside0.mk A530
                          clear A530
                          replace H := Option.bind_eq_some_iff.mp H
                          obtain ⟨⟨t378, t379⟩, A540, H⟩ := H
                          replace H : (if t375 = true then (if t379 = true then (some t378) else (some false)) else (some false)) = some r := H
                          have A54 := Aside0.mk A540
                          clear A540
                          by_cases c55 : t375 = true
                          · subst c55
                            have H1 : (if t379 = true then (some t378) else (some false)) = some r := by rw [if_pos rfl] at H; exact H
                            clear H
                            have H := H1
                            clear H1
                            by_cases c56 : t379 = true
                            · subst c56
                              have H1 : (some t378) = some r := by rw [if_pos rfl] at H; exact H
                              clear H
                              have H := H1
                              clear H1
                              obtain rfl := Option.some.inj H
                              go_wp2_with (first | ((with_reducible refine gate_callee (f := 30) rfl ?_); refine goesL_ (some 174) rfl rfl Try.func30 (by kernel_rfl) rfl #[.slice Ao39 t363.length co39, .int .i64 (t363.length : Int)] rfl (by (try simp only [List.map_toArray, List.map_cons, List.map_nil]); first | done | rfl | (simp only [List.length_drop, List.length_take]; rfl)) ?_; (with_reducible refine (impl_DriveCars.calls kj49 _ _ t363 (t363.length : Int) t374 true _ ?side1 ?side2 A53.out).mono ?_); (case side1 => repeat (first | exact (Kd.R_reads' HO_18.out).2.2 | (with_reducible refine Kd.C_alloc ?_ _) | (with_reducible refine Kd.C_drewN ?_ _) | (with_reducible refine Kd.C_drew ?_))); (case side2 => exact (Kd.R_reads' HO_18.out).2.1); rintro e w57 ⟨v376, rfl, ho0, hb⟩; refine ⟨_, rfl, ?_⟩; have n0_ := Aside0.mk (Kd.R_elder' (by (with_reducible repeat (first | apply Kd.R_alloc | apply Kd.R_drewN | apply Kd.R_drew)); exact HO_18.out) (Kd.R_base ho0) hb); have n1_ := Aside0.mk (Kd.R_lower (Kd.R_new' ho0 (Kd.R_lt (by (with_reducible repeat (first | apply Kd.R_alloc | apply Kd.R_drewN | apply Kd.R_drew)); exact HO_18.out))) (below_size (by repeat (first | (with_reducible first | exact HB.out | apply below_alloc | apply pw_below_drewN | apply below_drew1) | exact HB.out)))); have n2_ := Aside0.mk (below_step (by repeat (first | (with_reducible first | exact HB.out | apply below_alloc | apply pw_below_drewN | apply below_drew1) | exact HB.out)) hb); clear HO_18; clear HB; have HO_18 := n0_; have HO377 := n1_; have HB := n2_; clear n0_ n1_ n2_; (try clear hb); (try clear hb2); (try clear hk); (try clear hi); (try clear ho0); obtain ⟨Ao58, co58, eo58⟩ := Kd.R_slice HO377.out; subst eo58) | ((with_reducible refine gate_callee (f := 88) rfl ?_); refine goesL_ (some 180) rfl rfl Try.func88 (by kernel_rfl) rfl #[.slice Ao39 t363.length co39, .slice Ao58 t374.length co58] rfl (by (try simp only [List.map_toArray, List.map_cons, List.map_nil]); first | done | rfl | (simp only [List.length_drop, List.length_take]; rfl)) ?_; (with_reducible refine (impl_IsBelow.calls kj49 _ _ t363 _ _ t374 t378 true _ ?side1 ?side2 ?side3 ?side4 A54.out).mono ?_); (case side1 => repeat (first | exact (Kd.R_reads' HO_18.out).2.2 | (with_reducible refine Kd.C_alloc ?_ _) | (with_reducible refine Kd.C_drewN ?_ _) | (with_reducible refine Kd.C_drew ?_))); (case side2 => exact (Kd.R_reads' HO_18.out).2.1); (case side3 => repeat (first | exact (Kd.R_reads' HO377.out).2.2 | (with_reducible refine Kd.C_alloc ?_ _) | (with_reducible refine Kd.C_drewN ?_ _) | (with_reducible refine Kd.C_drew ?_))); (case side4 => exact (Kd.R_reads' HO377.out).2.1); rintro e w59 ⟨rfl, hb⟩; refine ⟨_, rfl, ?_⟩; have n0_ := Aside0.mk (Kd.R_below (by (with_reducible repeat (first | apply Kd.R_alloc | apply Kd.R_drewN | apply Kd.R_drew)); exact HO_18.out) hb); have n1_ := Aside0.mk (Kd.R_below (by (with_reducible repeat (first | apply Kd.R_alloc | apply Kd.R_drewN | apply Kd.R_drew)); exact HO377.out) hb); have n2_ := Aside0.mk (below_step (by repeat (first | (with_reducible first | exact HB.out | apply below_alloc | apply pw_below_drewN | apply below_drew1) | exact HB.out)) hb); clear HO_18; clear HO377; clear HB; have HO_18 := n0_; have HO377 := n1_; have HB := n2_; clear n0_ n1_ n2_; (try clear hb); (try clear hb2); (try clear hk); (try clear hi)))
                              go_ret
                              exact ⟨by first | rfl | (simp [errW_none, errW_some] <;> rfl) | (simp [*, errW_none, errW_some] <;> rfl), by repeat (first | (with_reducible first | exact HB.out | apply below_alloc | apply pw_below_drewN | apply below_drew1) | exact HB.out)⟩
                            · replace c56 := Bool.eq_false_iff.mpr c56
                              subst c56
                              have H1 : (some false) = some r := by rw [if_neg (show ¬ (false = true) by decide)] at H; exact H
                              clear H
                              have H := H1
                              clear H1
                              obtain rfl := Option.some.inj H
                              go_wp2_with (first | ((with_reducible refine gate_callee (f := 30) rfl ?_); refine goesL_ (some 174) rfl rfl Try.func30 (by kernel_rfl) rfl #[.slice Ao39 t363.length co39, .int .i64 (t363.length : Int)] rfl (by (try simp only [List.map_toArray, List.map_cons, List.map_nil]); first | done | rfl | (simp only [List.length_drop, List.length_take]; rfl)) ?_; (with_reducible refine (impl_DriveCars.calls kj49 _ _ t363 (t363.length : Int) t374 true _ ?side1 ?side2 A53.out).mono ?_); (case side1 => repeat (first | exact (Kd.R_reads' HO_18.out).2.2 | (with_reducible refine Kd.C_alloc ?_ _) | (with_reducible refine Kd.C_drewN ?_ _) | (with_reducible refine Kd.C_drew ?_))); (case side2 => exact (Kd.R_reads' HO_18.out).2.1); rintro e w60 ⟨v376, rfl, ho0, hb⟩; refine ⟨_, rfl, ?_⟩; have n0_ := Aside0.mk (Kd.R_elder' (by (with_reducible repeat (first | apply Kd.R_alloc | apply Kd.R_drewN | apply Kd.R_drew)); exact HO_18.out) (Kd.R_base ho0) hb); have n1_ := Aside0.mk (Kd.R_lower (Kd.R_new' ho0 (Kd.R_lt (by (with_reducible repeat (first | apply Kd.R_alloc | apply Kd.R_drewN | apply Kd.R_drew)); exact HO_18.out))) (below_size (by repeat (first | (with_reducible first | exact HB.out | apply below_alloc | apply pw_below_drewN | apply below_drew1) | exact HB.out)))); have n2_ := Aside0.mk (below_step (by repeat (first | (with_reducible first | exact HB.out | apply below_alloc | apply pw_below_drewN | apply below_drew1) | exact HB.out)) hb); clear HO_18; clear HB; have HO_18 := n0_; have HO377 := n1_; have HB := n2_; clear n0_ n1_ n2_; (try clear hb); (try clear hb2); (try clear hk); (try clear hi); (try clear ho0); obtain ⟨Ao61, co61, eo61⟩ := Kd.R_slice HO377.out; subst eo61) | ((with_reducible refine gate_callee (f := 88) rfl ?_); refine goesL_ (some 180) rfl rfl Try.func88 (by kernel_rfl) rfl #[.slice Ao39 t363.length co39, .slice Ao61 t374.length co61] rfl (by (try simp only [List.map_toArray, List.map_cons, List.map_nil]); first | done | rfl | (simp only [List.length_drop, List.length_take]; rfl)) ?_; (with_reducible refine (impl_IsBelow.calls kj49 _ _ t363 _ _ t374 t378 false _ ?side1 ?side2 ?side3 ?side4 A54.out).mono ?_); (case side1 => repeat (first | exact (Kd.R_reads' HO_18.out).2.2 | (with_reducible refine Kd.C_alloc ?_ _) | (with_reducible refine Kd.C_drewN ?_ _) | (with_reducible refine Kd.C_drew ?_))); (case side2 => exact (Kd.R_reads' HO_18.out).2.1); (case side3 => repeat (first | exact (Kd.R_reads' HO377.out).2.2 | (with_reducible refine Kd.C_alloc ?_ _) | (with_reducible refine Kd.C_drewN ?_ _) | (with_reducible refine Kd.C_drew ?_))); (case side4 => exact (Kd.R_reads' HO377.out).2.1); rintro e w62 ⟨rfl, hb⟩; refine ⟨_, rfl, ?_⟩; have n0_ := Aside0.mk (Kd.R_below (by (with_reducible repeat (first | apply Kd.R_alloc | apply Kd.R_drewN | apply Kd.R_drew)); exact HO_18.out) hb); have n1_ := Aside0.mk (Kd.R_below (by (with_reducible repeat (first | apply Kd.R_alloc | apply Kd.R_drewN | apply Kd.R_drew)); exact HO377.out) hb); have n2_ := Aside0.mk (below_step (by repeat (first | (with_reducible first | exact HB.out | apply below_alloc | apply pw_below_drewN | apply below_drew1) | exact HB.out)) hb); clear HO_18; clear HO377; clear HB; have HO_18 := n0_; have HO377 := n1_; have HB := n2_; clear n0_ n1_ n2_; (try clear hb); (try clear hb2); (try clear hk); (try clear hi)))
                              go_ret
                              exact ⟨by first | rfl | (simp [errW_none, errW_some] <;> rfl) | (simp [*, errW_none, errW_some] <;> rfl), by repeat (first | (with_reducible first | exact HB.out | apply below_alloc | apply pw_below_drewN | apply below_drew1) | exact HB.out)⟩
                          · replace c55 := Bool.eq_false_iff.mpr c55
                            subst c55
                            have H1 : (some false) = some r := by rw [if_neg (show ¬ (false = true) by decide)] at H; exact H
                            clear H
                            have H := H1
                            clear H1
                            obtain rfl := Option.some.inj H
                            go_wp2_with (first | ((with_reducible refine gate_callee (f := 30) rfl ?_); refine goesL_ (some 174) rfl rfl Try.func30 (by kernel_rfl) rfl #[.slice Ao39 t363.length co39, .int .i64 (t363.length : Int)] rfl (by (try simp only [List.map_toArray, List.map_cons, List.map_nil]); first | done | rfl | (simp only [List.length_drop, List.length_take]; rfl)) ?_; (with_reducible refine (impl_DriveCars.calls kj49 _ _ t363 (t363.length : Int) t374 false _ ?side1 ?side2 A53.out).mono ?_); (case side1 => repeat (first | exact (Kd.R_reads' HO_18.out).2.2 | (with_reducible refine Kd.C_alloc ?_ _) | (with_reducible refine Kd.C_drewN ?_ _) | (with_reducible refine Kd.C_drew ?_))); (case side2 => exact (Kd.R_reads' HO_18.out).2.1); rintro e w63 ⟨v376, rfl, ho0, hb⟩; refine ⟨_, rfl, ?_⟩; have n0_ := Aside0.mk (Kd.R_elder' (by (with_reducible repeat (first | apply Kd.R_alloc | apply Kd.R_drewN | apply Kd.R_drew)); exact HO_18.out) (Kd.R_base ho0) hb); have n1_ := Aside0.mk (Kd.R_lower (Kd.R_new' ho0 (Kd.R_lt (by (with_reducible repeat (first | apply Kd.R_alloc | apply Kd.R_drewN | apply Kd.R_drew)); exact HO_18.out))) (below_size (by repeat (first | (with_reducible first | exact HB.out | apply below_alloc | apply pw_below_drewN | apply below_drew1) | exact HB.out)))); have n2_ := Aside0.mk (below_step (by repeat (first | (with_reducible first | exact HB.out | apply below_alloc | apply pw_below_drewN | apply below_drew1) | exact HB.out)) hb); clear HO_18; clear HB; have HO_18 := n0_; have HO377 := n1_; have HB := n2_; clear n0_ n1_ n2_; (try clear hb); (try clear hb2); (try clear hk); (try clear hi); (try clear ho0); obtain ⟨Ao64, co64, eo64⟩ := Kd.R_slice HO377.out; subst eo64) | ((with_reducible refine gate_callee (f := 88) rfl ?_); refine goesL_ (some 180) rfl rfl Try.func88 (by kernel_rfl) rfl #[.slice Ao39 t363.length co39, .slice Ao64 t374.length co64] rfl (by (try simp only [List.map_toArray, List.map_cons, List.map_nil]); first | done | rfl | (simp only [List.length_drop, List.length_take]; rfl)) ?_; (with_reducible refine (impl_IsBelow.calls kj49 _ _ t363 _ _ t374 t378 t379 _ ?side1 ?side2 ?side3 ?side4 A54.out).mono ?_); (case side1 => repeat (first | exact (Kd.R_reads' HO_18.out).2.2 | (with_reducible refine Kd.C_alloc ?_ _) | (with_reducible refine Kd.C_drewN ?_ _) | (with_reducible refine Kd.C_drew ?_))); (case side2 => exact (Kd.R_reads' HO_18.out).2.1); (case side3 => repeat (first | exact (Kd.R_reads' HO377.out).2.2 | (with_reducible refine Kd.C_alloc ?_ _) | (with_reducible refine Kd.C_drewN ?_ _) | (with_reducible refine Kd.C_drew ?_))); (case side4 => exact (Kd.R_reads' HO377.out).2.1); rintro e w65 ⟨rfl, hb⟩; refine ⟨_, rfl, ?_⟩; have n0_ := Aside0.mk (Kd.R_below (by (with_reducible repeat (first | apply Kd.R_alloc | apply Kd.R_drewN | apply Kd.R_drew)); exact HO_18.out) hb); have n1_ := Aside0.mk (Kd.R_below (by (with_reducible repeat (first | apply Kd.R_alloc | apply Kd.R_drewN | apply Kd.R_drew)); exact HO377.out) hb); have n2_ := Aside0.mk (below_step (by repeat (first | (with_reducible first | exact HB.out | apply below_alloc | apply pw_below_drewN | apply below_drew1) | exact HB.out)) hb); clear HO_18; clear HO377; clear HB; have HO_18 := n0_; have HO377 := n1_; have HB := n2_; clear n0_ n1_ n2_; (try clear hb); (try clear hb2); (try clear hk); (try clear hi)))
                            go_ret
                            exact ⟨by first | rfl | (simp [errW_none, errW_some] <;> rfl) | (simp [*, errW_none, errW_some] <;> rfl), by repeat (first | (with_reducible first | exact HB.out | apply below_alloc | apply pw_below_drewN | apply below_drew1) | exact HB.out)⟩
                        · replace c52 := Bool.eq_false_iff.mpr c52
                          subst c52
                          have H1 : (some true) = some r := by rw [if_neg (show ¬ (false = true) by decide)] at H; exact H
                          clear H
                          have H := H1
                          clear H1
                          obtain rfl := Option.some.inj H
                          go_wp2
                          go_ret
                          exact ⟨by first | rfl | (simp [errW_none, errW_some] <;> rfl) | (simp [*, errW_none, errW_some] <;> rfl), by repeat (first | (with_reducible first | exact HB.out | apply below_alloc | apply pw_below_drewN | apply below_drew1) | exact HB.out)⟩

/-- THE ONE PURE STATEMENT of laws_FnParkingDecided: yours. -/
def laws_FnParkingDecided.Pure : Prop := ∀ (l0 : List Int) (l1 : List Int), l0.length ≤ maxLen → l0.length * 1 ≤ 140737488351232 → (∀ x ∈ l0, (Lit.int .u8 x).wf = true) → l1.length ≤ maxLen → l1.length * 1 ≤ 140737488351232 → (∀ x ∈ l1, (Lit.int .u8 x).wf = true) → ∃ k, laws_FnParkingDecided.f k l0 l1 = some true
theorem laws_FnParkingDecided.walk (P : laws_FnParkingDecided.Pure) (a0 : Option Addr) (len0 cap0 : Nat) (z0 : List Int) (a1 : Option Addr) (len1 cap1 : Nat) (z1 : List Int) (w : World) (w0 : (a0 = none ∧ len0 = 0 ∧ cap0 = 0 ∧ z0 = []) ∨ ∃ x, a0 = some x ∧ len0 ≤ cap0 ∧ cap0 ≤ maxLen ∧ z0.length = cap0 ∧ (∀ i, i < z0.length → w.cell? (x.add i) = some (.int .u8 (z0.getD i 0))) ∧ ∀ n ∈ z0, (Lit.int .u8 n).wf = true) (y0 : len0 * 1 ≤ 140737488351232) (w1 : (a1 = none ∧ len1 = 0 ∧ cap1 = 0 ∧ z1 = []) ∨ ∃ x, a1 = some x ∧ len1 ≤ cap1 ∧ cap1 ≤ maxLen ∧ z1.length = cap1 ∧ (∀ i, i < z1.length → w.cell? (x.add i) = some (.int .u8 (z1.getD i 0))) ∧ ∀ n ∈ z1, (Lit.int .u8 n).wf = true) (y1 : len1 * 1 ≤ 140737488351232) :
    Calls Try.prog 13 #[.slice a0 len0 cap0, .slice a1 len1 cap1] w fun e w' => e = .returned (.bool true) ∧ Below w.heap.size w w' := by
  obtain ⟨l0, rfl, hr0, hm0, hw0, hc0⟩ := ReadsInt.ofRowC w0
  obtain ⟨l1, rfl, hr1, hm1, hw1, hc1⟩ := ReadsInt.ofRowC w1
  obtain ⟨k, h⟩ := P l0 l1 hm0 y0 hw0 hm1 y1 hw1
  refine (laws_FnParkingDecided.calls k _ _ l0 _ _ l1 true w (Kd.C_of_reads (d := (0 : Int)) (h1 := fun _ => rfl) hr0) hc0 (Kd.C_of_reads (d := (0 : Int)) (h1 := fun _ => rfl) hr1) hc1 h).mono ?_
  rintro e w' ⟨rfl, hd⟩
  exact ⟨rfl, hd⟩

end Go.Proofs.Ytdiohjdfiambhaa.QFnParkingDecided
