/-
  No cell of these rows narrows 'for every input' (looked for: loops, veiled, ifaces, maps, wideKeys, modest, calm, conditions, laid).
  DERIVED. THE GIVEN ROWS OF THIS SEAT. 12 by the template 'for every input the law returns true; each argument reads behind the call as it read before'; 0 by the template 'total and deterministic' (their statements: YtchhfdhnoldngaaTotals.lean).
  GIVEN WITH THE SEED: the statements are not yours to turn. If you find one false, say at which input.
  Laid BY PROGRAM, IN A SANDBOX (cutbox-rows.mjs): the forced cells as the released guide's own fill.sh prints them over the translation 9d7ee711af000dfe… (all of the seat's roots in one cut). By AI agents, Wed Nov 11 2026. No macro, syntax, notation, axiom, sorry.
-/
import Derived.Test.YtchhfdhnoldngaaChecked
import GoSem.Claim
import GoSem.ClaimJoined
import GoSem.ClaimMapViews
import Derived.JoinedTies
import Derived.KernelRfl
namespace Go.Proofs.Ytchhfdhnoldngaa
/- THE CELL 'sum', in the pinned program and in every row, IS THE sha256 OF THE DUMP (.gsa) THAT YtchhfdhnoldngaaProg.lean LOADS. Nothing in Lean hashes anything: it is a label: what it is worth is what the hold of that sum in a sandbox is worth. -/
noncomputable def Try.pinned : Pinned := { name := "ytchhfdhnoldngaa", sum := "9d7ee711af000dfe06aeab5efc93c83b342402f40b7521f684a565a3a99157af", checked := Try.checked }
namespace Rows
def none {H : Type} : Left H := { results := [], args := [] }

/-- 'laws.FnExactJoinParking': WHATEVER THE INPUT: true; the input reads as it did. -/
def fnExactJoinParkingSpec : ChangeSpec := { name := "fnExactJoinParking", fn := fun _ => fun
  | [d1, d2] => { results := [.lit (.bool true)], args := [d1, d2] }
  | _ => none }
def fnExactJoinParkingRow : OpenClaim := { program := "ytchhfdhnoldngaa", sum := "9d7ee711af000dfe06aeab5efc93c83b342402f40b7521f684a565a3a99157af", func := "loop.example/g01115/laws.FnExactJoinParking", spec := "fnExactJoinParking", unfollowed := true, recurses := true, apart := false }
def FnExactJoinParkingSaid : Prop := fnExactJoinParkingRow.holds Try.pinned (OpenSpec.ofChange fnExactJoinParkingSpec)

/-- ITS FALSE NEIGHBOUR: 'it returns false'. Refute it at one input. -/
def fnExactJoinParkingWrong : ChangeSpec := { name := "fnExactJoinParking", fn := fun _ => fun
  | [d1, d2] => { results := [.lit (.bool false)], args := [d1, d2] }
  | _ => none }
def FnExactJoinParkingWrongFalsely : Prop := fnExactJoinParkingRow.holds Try.pinned (OpenSpec.ofChange fnExactJoinParkingWrong)

/-- 'laws.FnExactBreadthOrder': WHATEVER THE INPUT: true; the input reads as it did. -/
def fnExactBreadthOrderSpec : ChangeSpec := { name := "fnExactBreadthOrder", fn := fun _ => fun
  | [d] => { results := [.lit (.bool true)], args := [d] }
  | _ => none }
def fnExactBreadthOrderRow : OpenClaim := { program := "ytchhfdhnoldngaa", sum := "9d7ee711af000dfe06aeab5efc93c83b342402f40b7521f684a565a3a99157af", func := "loop.example/g01115/laws.FnExactBreadthOrder", spec := "fnExactBreadthOrder", unfollowed := true, recurses := true, apart := false }
def FnExactBreadthOrderSaid : Prop := fnExactBreadthOrderRow.holds Try.pinned (OpenSpec.ofChange fnExactBreadthOrderSpec)

/-- ITS FALSE NEIGHBOUR: 'it returns false'. Refute it at one input. -/
def fnExactBreadthOrderWrong : ChangeSpec := { name := "fnExactBreadthOrder", fn := fun _ => fun
  | [d] => { results := [.lit (.bool false)], args := [d] }
  | _ => none }
def FnExactBreadthOrderWrongFalsely : Prop := fnExactBreadthOrderRow.holds Try.pinned (OpenSpec.ofChange fnExactBreadthOrderWrong)

/-- 'laws.FnExactParkingOfClass': WHATEVER THE INPUT: true; the input reads as it did. -/
def fnExactParkingOfClassSpec : ChangeSpec := { name := "fnExactParkingOfClass", fn := fun _ => fun
  | [d] => { results := [.lit (.bool true)], args := [d] }
  | _ => none }
def fnExactParkingOfClassRow : OpenClaim := { program := "ytchhfdhnoldngaa", sum := "9d7ee711af000dfe06aeab5efc93c83b342402f40b7521f684a565a3a99157af", func := "loop.example/g01115/laws.FnExactParkingOfClass", spec := "fnExactParkingOfClass", unfollowed := true, recurses := true, apart := false }
def FnExactParkingOfClassSaid : Prop := fnExactParkingOfClassRow.holds Try.pinned (OpenSpec.ofChange fnExactParkingOfClassSpec)

/-- ITS FALSE NEIGHBOUR: 'it returns false'. Refute it at one input. -/
def fnExactParkingOfClassWrong : ChangeSpec := { name := "fnExactParkingOfClass", fn := fun _ => fun
  | [d] => { results := [.lit (.bool false)], args := [d] }
  | _ => none }
def FnExactParkingOfClassWrongFalsely : Prop := fnExactParkingOfClassRow.holds Try.pinned (OpenSpec.ofChange fnExactParkingOfClassWrong)

/-- 'laws.FnExactMixOf': WHATEVER THE INPUT: true; the input reads as it did. -/
def fnExactMixOfSpec : ChangeSpec := { name := "fnExactMixOf", fn := fun _ => fun
  | [d1, d2, d3] => { results := [.lit (.bool true)], args := [d1, d2, d3] }
  | _ => none }
def fnExactMixOfRow : OpenClaim := { program := "ytchhfdhnoldngaa", sum := "9d7ee711af000dfe06aeab5efc93c83b342402f40b7521f684a565a3a99157af", func := "loop.example/g01115/laws.FnExactMixOf", spec := "fnExactMixOf", unfollowed := true, recurses := true, apart := false }
def FnExactMixOfSaid : Prop := fnExactMixOfRow.holds Try.pinned (OpenSpec.ofChange fnExactMixOfSpec)

/-- ITS FALSE NEIGHBOUR: 'it returns false'. Refute it at one input. -/
def fnExactMixOfWrong : ChangeSpec := { name := "fnExactMixOf", fn := fun _ => fun
  | [d1, d2, d3] => { results := [.lit (.bool false)], args := [d1, d2, d3] }
  | _ => none }
def FnExactMixOfWrongFalsely : Prop := fnExactMixOfRow.holds Try.pinned (OpenSpec.ofChange fnExactMixOfWrong)

/-- 'laws.FnExactCutsOf': WHATEVER THE INPUT: true; the input reads as it did. -/
def fnExactCutsOfSpec : ChangeSpec := { name := "fnExactCutsOf", fn := fun _ => fun
  | [d] => { results := [.lit (.bool true)], args := [d] }
  | _ => none }
def fnExactCutsOfRow : OpenClaim := { program := "ytchhfdhnoldngaa", sum := "9d7ee711af000dfe06aeab5efc93c83b342402f40b7521f684a565a3a99157af", func := "loop.example/g01115/laws.FnExactCutsOf", spec := "fnExactCutsOf", unfollowed := true, recurses := true, apart := false }
def FnExactCutsOfSaid : Prop := fnExactCutsOfRow.holds Try.pinned (OpenSpec.ofChange fnExactCutsOfSpec)

/-- ITS FALSE NEIGHBOUR: 'it returns false'. Refute it at one input. -/
def fnExactCutsOfWrong : ChangeSpec := { name := "fnExactCutsOf", fn := fun _ => fun
  | [d] => { results := [.lit (.bool false)], args := [d] }
  | _ => none }
def FnExactCutsOfWrongFalsely : Prop := fnExactCutsOfRow.holds Try.pinned (OpenSpec.ofChange fnExactCutsOfWrong)

/-- 'laws.FnExactLuckyCars': WHATEVER THE INPUT: true; the input reads as it did. -/
def fnExactLuckyCarsSpec : ChangeSpec := { name := "fnExactLuckyCars", fn := fun _ => fun
  | [d1, d2] => { results := [.lit (.bool true)], args := [d1, d2] }
  | _ => none }
def fnExactLuckyCarsRow : OpenClaim := { program := "ytchhfdhnoldngaa", sum := "9d7ee711af000dfe06aeab5efc93c83b342402f40b7521f684a565a3a99157af", func := "loop.example/g01115/laws.FnExactLuckyCars", spec := "fnExactLuckyCars", unfollowed := true, recurses := true, apart := false }
def FnExactLuckyCarsSaid : Prop := fnExactLuckyCarsRow.holds Try.pinned (OpenSpec.ofChange fnExactLuckyCarsSpec)

/-- ITS FALSE NEIGHBOUR: 'it returns false'. Refute it at one input. -/
def fnExactLuckyCarsWrong : ChangeSpec := { name := "fnExactLuckyCars", fn := fun _ => fun
  | [d1, d2] => { results := [.lit (.bool false)], args := [d1, d2] }
  | _ => none }
def FnExactLuckyCarsWrongFalsely : Prop := fnExactLuckyCarsRow.holds Try.pinned (OpenSpec.ofChange fnExactLuckyCarsWrong)

/-- 'laws.FnExactParkingAt': WHATEVER THE INPUT: true; the input reads as it did. -/
def fnExactParkingAtSpec : ChangeSpec := { name := "fnExactParkingAt", fn := fun _ => fun
  | [d1, d2] => { results := [.lit (.bool true)], args := [d1, d2] }
  | _ => none }
def fnExactParkingAtRow : OpenClaim := { program := "ytchhfdhnoldngaa", sum := "9d7ee711af000dfe06aeab5efc93c83b342402f40b7521f684a565a3a99157af", func := "loop.example/g01115/laws.FnExactParkingAt", spec := "fnExactParkingAt", unfollowed := true, recurses := true, apart := false }
def FnExactParkingAtSaid : Prop := fnExactParkingAtRow.holds Try.pinned (OpenSpec.ofChange fnExactParkingAtSpec)

/-- ITS FALSE NEIGHBOUR: 'it returns false'. Refute it at one input. -/
def fnExactParkingAtWrong : ChangeSpec := { name := "fnExactParkingAt", fn := fun _ => fun
  | [d1, d2] => { results := [.lit (.bool false)], args := [d1, d2] }
  | _ => none }
def FnExactParkingAtWrongFalsely : Prop := fnExactParkingAtRow.holds Try.pinned (OpenSpec.ofChange fnExactParkingAtWrong)

/-- 'laws.FnExactAllParking': WHATEVER THE INPUT: true; the input reads as it did. -/
def fnExactAllParkingSpec : ChangeSpec := { name := "fnExactAllParking", fn := fun _ => fun
  | [d] => { results := [.lit (.bool true)], args := [d] }
  | _ => none }
def fnExactAllParkingRow : OpenClaim := { program := "ytchhfdhnoldngaa", sum := "9d7ee711af000dfe06aeab5efc93c83b342402f40b7521f684a565a3a99157af", func := "loop.example/g01115/laws.FnExactAllParking", spec := "fnExactAllParking", unfollowed := true, recurses := true, apart := false }
def FnExactAllParkingSaid : Prop := fnExactAllParkingRow.holds Try.pinned (OpenSpec.ofChange fnExactAllParkingSpec)

/-- ITS FALSE NEIGHBOUR: 'it returns false'. Refute it at one input. -/
def fnExactAllParkingWrong : ChangeSpec := { name := "fnExactAllParking", fn := fun _ => fun
  | [d] => { results := [.lit (.bool false)], args := [d] }
  | _ => none }
def FnExactAllParkingWrongFalsely : Prop := fnExactAllParkingRow.holds Try.pinned (OpenSpec.ofChange fnExactAllParkingWrong)

/-- 'laws.FnExactRankParking': WHATEVER THE INPUT: true; the input reads as it did. -/
def fnExactRankParkingSpec : ChangeSpec := { name := "fnExactRankParking", fn := fun _ => fun
  | [d] => { results := [.lit (.bool true)], args := [d] }
  | _ => none }
def fnExactRankParkingRow : OpenClaim := { program := "ytchhfdhnoldngaa", sum := "9d7ee711af000dfe06aeab5efc93c83b342402f40b7521f684a565a3a99157af", func := "loop.example/g01115/laws.FnExactRankParking", spec := "fnExactRankParking", unfollowed := true, recurses := true, apart := false }
def FnExactRankParkingSaid : Prop := fnExactRankParkingRow.holds Try.pinned (OpenSpec.ofChange fnExactRankParkingSpec)

/-- ITS FALSE NEIGHBOUR: 'it returns false'. Refute it at one input. -/
def fnExactRankParkingWrong : ChangeSpec := { name := "fnExactRankParking", fn := fun _ => fun
  | [d] => { results := [.lit (.bool false)], args := [d] }
  | _ => none }
def FnExactRankParkingWrongFalsely : Prop := fnExactRankParkingRow.holds Try.pinned (OpenSpec.ofChange fnExactRankParkingWrong)

/-- 'laws.FnExactCountByDistance': WHATEVER THE INPUT: true; the input reads as it did. -/
def fnExactCountByDistanceSpec : ChangeSpec := { name := "fnExactCountByDistance", fn := fun _ => fun
  | [d] => { results := [.lit (.bool true)], args := [d] }
  | _ => none }
def fnExactCountByDistanceRow : OpenClaim := { program := "ytchhfdhnoldngaa", sum := "9d7ee711af000dfe06aeab5efc93c83b342402f40b7521f684a565a3a99157af", func := "loop.example/g01115/laws.FnExactCountByDistance", spec := "fnExactCountByDistance", unfollowed := true, recurses := true, apart := false }
def FnExactCountByDistanceSaid : Prop := fnExactCountByDistanceRow.holds Try.pinned (OpenSpec.ofChange fnExactCountByDistanceSpec)

/-- ITS FALSE NEIGHBOUR: 'it returns false'. Refute it at one input. -/
def fnExactCountByDistanceWrong : ChangeSpec := { name := "fnExactCountByDistance", fn := fun _ => fun
  | [d] => { results := [.lit (.bool false)], args := [d] }
  | _ => none }
def FnExactCountByDistanceWrongFalsely : Prop := fnExactCountByDistanceRow.holds Try.pinned (OpenSpec.ofChange fnExactCountByDistanceWrong)

/-- 'laws.FnLesserListsPark': WHATEVER THE INPUT: true; the input reads as it did. -/
def fnLesserListsParkSpec : ChangeSpec := { name := "fnLesserListsPark", fn := fun _ => fun
  | [d1, d2] => { results := [.lit (.bool true)], args := [d1, d2] }
  | _ => none }
def fnLesserListsParkRow : OpenClaim := { program := "ytchhfdhnoldngaa", sum := "9d7ee711af000dfe06aeab5efc93c83b342402f40b7521f684a565a3a99157af", func := "loop.example/g01115/laws.FnLesserListsPark", spec := "fnLesserListsPark", unfollowed := true, recurses := true, apart := false }
def FnLesserListsParkSaid : Prop := fnLesserListsParkRow.holds Try.pinned (OpenSpec.ofChange fnLesserListsParkSpec)

/-- ITS FALSE NEIGHBOUR: 'it returns false'. Refute it at one input. -/
def fnLesserListsParkWrong : ChangeSpec := { name := "fnLesserListsPark", fn := fun _ => fun
  | [d1, d2] => { results := [.lit (.bool false)], args := [d1, d2] }
  | _ => none }
def FnLesserListsParkWrongFalsely : Prop := fnLesserListsParkRow.holds Try.pinned (OpenSpec.ofChange fnLesserListsParkWrong)

/-- 'laws.FnExactNextParking': WHATEVER THE INPUT: true; the input reads as it did. -/
def fnExactNextParkingSpec : ChangeSpec := { name := "fnExactNextParking", fn := fun _ => fun
  | [d] => { results := [.lit (.bool true)], args := [d] }
  | _ => none }
def fnExactNextParkingRow : OpenClaim := { program := "ytchhfdhnoldngaa", sum := "9d7ee711af000dfe06aeab5efc93c83b342402f40b7521f684a565a3a99157af", func := "loop.example/g01115/laws.FnExactNextParking", spec := "fnExactNextParking", unfollowed := true, recurses := true, apart := false }
def FnExactNextParkingSaid : Prop := fnExactNextParkingRow.holds Try.pinned (OpenSpec.ofChange fnExactNextParkingSpec)

/-- ITS FALSE NEIGHBOUR: 'it returns false'. Refute it at one input. -/
def fnExactNextParkingWrong : ChangeSpec := { name := "fnExactNextParking", fn := fun _ => fun
  | [d] => { results := [.lit (.bool false)], args := [d] }
  | _ => none }
def FnExactNextParkingWrongFalsely : Prop := fnExactNextParkingRow.holds Try.pinned (OpenSpec.ofChange fnExactNextParkingWrong)

/- THE SECOND FORM. 'bulk': how many values and letters a reading holds, each counted each time it is reached (what is shared counts as often as it is met; a slice's spare places count too). A statement '..UptoSaid' is the law's where the arguments, and the package variables that the reading takes, are together of bulk at most 1048576: NARROWER than '..Said'. Prove '..Said' where nothing that the law and all that it calls make is longer than what came in: it says more and counts as full. Else prove '..UptoSaid'. A law counts once. -/
mutual
def uptoBulk {H : Type} : DataW H → Nat
  | .lit (.string bytes) => bytes.length + 1
  | .lit _ => 1
  | .nil => 1
  | .ptr d => uptoBulk d + 1
  | .slice elems spare => uptoBulkAll elems + uptoBulkAll spare + 1
  | .agg parts => uptoBulkAll parts + 1
  | .iface _ d => uptoBulk d + 1
  | .map entries => uptoBulkEntries entries + 1
  | .held _ => 1
def uptoBulkAll {H : Type} : List (DataW H) → Nat
  | [] => 0
  | d :: r => uptoBulk d + uptoBulkAll r
def uptoBulkEntries {H : Type} : List (Lit × DataW H) → Nat
  | [] => 0
  | x :: r => uptoBulkEntry x + uptoBulkEntries r
def uptoBulkEntry {H : Type} : Lit × DataW H → Nat
  | (.string bytes, d) => bytes.length + uptoBulk d + 1
  | (_, d) => uptoBulk d + 1
 end
def uptoSmall : (H : Type) → List (DataW H) → Bool := fun _ ds => decide (uptoBulkAll ds ≤ 1048576)
def OpenSpec.upto (s : _root_.Go.ChangeSpec) : _root_.Go.OpenSpec := { _root_.Go.OpenSpec.ofChange s with cond := some uptoSmall }

/-- 'laws.FnExactJoinParking', WHERE WHAT IT READS IS OF BULK AT MOST 1048576: true; the input reads as it did. -/
def fnExactJoinParkingUptoRow : OpenClaim := { program := "ytchhfdhnoldngaa", sum := "9d7ee711af000dfe06aeab5efc93c83b342402f40b7521f684a565a3a99157af", func := "loop.example/g01115/laws.FnExactJoinParking", spec := "fnExactJoinParking", unfollowed := true, recurses := true, apart := false, narrowed := true }
def FnExactJoinParkingUptoSaid : Prop := fnExactJoinParkingUptoRow.holds Try.pinned (OpenSpec.upto fnExactJoinParkingSpec)

/-- 'laws.FnExactBreadthOrder', WHERE WHAT IT READS IS OF BULK AT MOST 1048576: true; the input reads as it did. -/
def fnExactBreadthOrderUptoRow : OpenClaim := { program := "ytchhfdhnoldngaa", sum := "9d7ee711af000dfe06aeab5efc93c83b342402f40b7521f684a565a3a99157af", func := "loop.example/g01115/laws.FnExactBreadthOrder", spec := "fnExactBreadthOrder", unfollowed := true, recurses := true, apart := false, narrowed := true }
def FnExactBreadthOrderUptoSaid : Prop := fnExactBreadthOrderUptoRow.holds Try.pinned (OpenSpec.upto fnExactBreadthOrderSpec)

/-- 'laws.FnExactParkingOfClass', WHERE WHAT IT READS IS OF BULK AT MOST 1048576: true; the input reads as it did. -/
def fnExactParkingOfClassUptoRow : OpenClaim := { program := "ytchhfdhnoldngaa", sum := "9d7ee711af000dfe06aeab5efc93c83b342402f40b7521f684a565a3a99157af", func := "loop.example/g01115/laws.FnExactParkingOfClass", spec := "fnExactParkingOfClass", unfollowed := true, recurses := true, apart := false, narrowed := true }
def FnExactParkingOfClassUptoSaid : Prop := fnExactParkingOfClassUptoRow.holds Try.pinned (OpenSpec.upto fnExactParkingOfClassSpec)

/-- 'laws.FnExactMixOf', WHERE WHAT IT READS IS OF BULK AT MOST 1048576: true; the input reads as it did. -/
def fnExactMixOfUptoRow : OpenClaim := { program := "ytchhfdhnoldngaa", sum := "9d7ee711af000dfe06aeab5efc93c83b342402f40b7521f684a565a3a99157af", func := "loop.example/g01115/laws.FnExactMixOf", spec := "fnExactMixOf", unfollowed := true, recurses := true, apart := false, narrowed := true }
def FnExactMixOfUptoSaid : Prop := fnExactMixOfUptoRow.holds Try.pinned (OpenSpec.upto fnExactMixOfSpec)

/-- 'laws.FnExactCutsOf', WHERE WHAT IT READS IS OF BULK AT MOST 1048576: true; the input reads as it did. -/
def fnExactCutsOfUptoRow : OpenClaim := { program := "ytchhfdhnoldngaa", sum := "9d7ee711af000dfe06aeab5efc93c83b342402f40b7521f684a565a3a99157af", func := "loop.example/g01115/laws.FnExactCutsOf", spec := "fnExactCutsOf", unfollowed := true, recurses := true, apart := false, narrowed := true }
def FnExactCutsOfUptoSaid : Prop := fnExactCutsOfUptoRow.holds Try.pinned (OpenSpec.upto fnExactCutsOfSpec)

/-- 'laws.FnExactLuckyCars', WHERE WHAT IT READS IS OF BULK AT MOST 1048576: true; the input reads as it did. -/
def fnExactLuckyCarsUptoRow : OpenClaim := { program := "ytchhfdhnoldngaa", sum := "9d7ee711af000dfe06aeab5efc93c83b342402f40b7521f684a565a3a99157af", func := "loop.example/g01115/laws.FnExactLuckyCars", spec := "fnExactLuckyCars", unfollowed := true, recurses := true, apart := false, narrowed := true }
def FnExactLuckyCarsUptoSaid : Prop := fnExactLuckyCarsUptoRow.holds Try.pinned (OpenSpec.upto fnExactLuckyCarsSpec)

/-- 'laws.FnExactParkingAt', WHERE WHAT IT READS IS OF BULK AT MOST 1048576: true; the input reads as it did. -/
def fnExactParkingAtUptoRow : OpenClaim := { program := "ytchhfdhnoldngaa", sum := "9d7ee711af000dfe06aeab5efc93c83b342402f40b7521f684a565a3a99157af", func := "loop.example/g01115/laws.FnExactParkingAt", spec := "fnExactParkingAt", unfollowed := true, recurses := true, apart := false, narrowed := true }
def FnExactParkingAtUptoSaid : Prop := fnExactParkingAtUptoRow.holds Try.pinned (OpenSpec.upto fnExactParkingAtSpec)

/-- 'laws.FnExactAllParking', WHERE WHAT IT READS IS OF BULK AT MOST 1048576: true; the input reads as it did. -/
def fnExactAllParkingUptoRow : OpenClaim := { program := "ytchhfdhnoldngaa", sum := "9d7ee711af000dfe06aeab5efc93c83b342402f40b7521f684a565a3a99157af", func := "loop.example/g01115/laws.FnExactAllParking", spec := "fnExactAllParking", unfollowed := true, recurses := true, apart := false, narrowed := true }
def FnExactAllParkingUptoSaid : Prop := fnExactAllParkingUptoRow.holds Try.pinned (OpenSpec.upto fnExactAllParkingSpec)

/-- 'laws.FnExactRankParking', WHERE WHAT IT READS IS OF BULK AT MOST 1048576: true; the input reads as it did. -/
def fnExactRankParkingUptoRow : OpenClaim := { program := "ytchhfdhnoldngaa", sum := "9d7ee711af000dfe06aeab5efc93c83b342402f40b7521f684a565a3a99157af", func := "loop.example/g01115/laws.FnExactRankParking", spec := "fnExactRankParking", unfollowed := true, recurses := true, apart := false, narrowed := true }
def FnExactRankParkingUptoSaid : Prop := fnExactRankParkingUptoRow.holds Try.pinned (OpenSpec.upto fnExactRankParkingSpec)

/-- 'laws.FnExactCountByDistance', WHERE WHAT IT READS IS OF BULK AT MOST 1048576: true; the input reads as it did. -/
def fnExactCountByDistanceUptoRow : OpenClaim := { program := "ytchhfdhnoldngaa", sum := "9d7ee711af000dfe06aeab5efc93c83b342402f40b7521f684a565a3a99157af", func := "loop.example/g01115/laws.FnExactCountByDistance", spec := "fnExactCountByDistance", unfollowed := true, recurses := true, apart := false, narrowed := true }
def FnExactCountByDistanceUptoSaid : Prop := fnExactCountByDistanceUptoRow.holds Try.pinned (OpenSpec.upto fnExactCountByDistanceSpec)

/-- 'laws.FnLesserListsPark', WHERE WHAT IT READS IS OF BULK AT MOST 1048576: true; the input reads as it did. -/
def fnLesserListsParkUptoRow : OpenClaim := { program := "ytchhfdhnoldngaa", sum := "9d7ee711af000dfe06aeab5efc93c83b342402f40b7521f684a565a3a99157af", func := "loop.example/g01115/laws.FnLesserListsPark", spec := "fnLesserListsPark", unfollowed := true, recurses := true, apart := false, narrowed := true }
def FnLesserListsParkUptoSaid : Prop := fnLesserListsParkUptoRow.holds Try.pinned (OpenSpec.upto fnLesserListsParkSpec)

/-- 'laws.FnExactNextParking', WHERE WHAT IT READS IS OF BULK AT MOST 1048576: true; the input reads as it did. -/
def fnExactNextParkingUptoRow : OpenClaim := { program := "ytchhfdhnoldngaa", sum := "9d7ee711af000dfe06aeab5efc93c83b342402f40b7521f684a565a3a99157af", func := "loop.example/g01115/laws.FnExactNextParking", spec := "fnExactNextParking", unfollowed := true, recurses := true, apart := false, narrowed := true }
def FnExactNextParkingUptoSaid : Prop := fnExactNextParkingUptoRow.holds Try.pinned (OpenSpec.upto fnExactNextParkingSpec)

end Rows
end Go.Proofs.Ytchhfdhnoldngaa
