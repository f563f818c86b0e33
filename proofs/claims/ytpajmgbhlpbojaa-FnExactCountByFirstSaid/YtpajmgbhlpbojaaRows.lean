/-
  No cell of these rows narrows 'for every input' (looked for: loops, veiled, ifaces, maps, wideKeys, modest, calm, conditions, laid).
  DERIVED. THE GIVEN ROWS OF THIS SEAT. 11 by the template 'for every input the law returns true; each argument reads behind the call as it read before'; 0 by the template 'total and deterministic' (their statements: YtpajmgbhlpbojaaTotals.lean).
  GIVEN WITH THE SEED: the statements are not yours to turn. If you find one false, say at which input.
  Laid BY PROGRAM, IN A SANDBOX (cutbox-rows.mjs): the forced cells as the released guide's own fill.sh prints them over the translation bf768a394539cad2… (all of the seat's roots in one cut). By AI agents, Wed Nov 11 2026. No macro, syntax, notation, axiom, sorry.
-/
import Derived.Test.YtpajmgbhlpbojaaChecked
import GoSem.Claim
import GoSem.ClaimJoined
import GoSem.ClaimMapViews
import Derived.JoinedTies
import Derived.KernelRfl
namespace Go.Proofs.Ytpajmgbhlpbojaa
/- THE CELL 'sum', in the pinned program and in every row, IS THE sha256 OF THE DUMP (.gsa) THAT YtpajmgbhlpbojaaProg.lean LOADS. Nothing in Lean hashes anything: it is a label: what it is worth is what the hold of that sum in a sandbox is worth. -/
noncomputable def Try.pinned : Pinned := { name := "ytpajmgbhlpbojaa", sum := "bf768a394539cad20a8d5f5d12a45d132320240ddc41e919260d15f8483fd74f", checked := Try.checked }
namespace Rows
def none {H : Type} : Left H := { results := [], args := [] }

/-- 'laws.FnExactDriveCircle': WHATEVER THE INPUT: true; the input reads as it did. -/
def fnExactDriveCircleSpec : ChangeSpec := { name := "fnExactDriveCircle", fn := fun _ => fun
  | [d1, d2] => { results := [.lit (.bool true)], args := [d1, d2] }
  | _ => none }
def fnExactDriveCircleRow : OpenClaim := { program := "ytpajmgbhlpbojaa", sum := "bf768a394539cad20a8d5f5d12a45d132320240ddc41e919260d15f8483fd74f", func := "loop.example/g01115/laws.FnExactDriveCircle", spec := "fnExactDriveCircle", unfollowed := true, recurses := true, apart := false }
def FnExactDriveCircleSaid : Prop := fnExactDriveCircleRow.holds Try.pinned (OpenSpec.ofChange fnExactDriveCircleSpec)

/-- ITS FALSE NEIGHBOUR: 'it returns false'. Refute it at one input. -/
def fnExactDriveCircleWrong : ChangeSpec := { name := "fnExactDriveCircle", fn := fun _ => fun
  | [d1, d2] => { results := [.lit (.bool false)], args := [d1, d2] }
  | _ => none }
def FnExactDriveCircleWrongFalsely : Prop := fnExactDriveCircleRow.holds Try.pinned (OpenSpec.ofChange fnExactDriveCircleWrong)

/-- 'laws.FnExactAllSorted': WHATEVER THE INPUT: true; the input reads as it did. -/
def fnExactAllSortedSpec : ChangeSpec := { name := "fnExactAllSorted", fn := fun _ => fun
  | [d] => { results := [.lit (.bool true)], args := [d] }
  | _ => none }
def fnExactAllSortedRow : OpenClaim := { program := "ytpajmgbhlpbojaa", sum := "bf768a394539cad20a8d5f5d12a45d132320240ddc41e919260d15f8483fd74f", func := "loop.example/g01115/laws.FnExactAllSorted", spec := "fnExactAllSorted", recurses := true, apart := false }
def FnExactAllSortedSaid : Prop := fnExactAllSortedRow.holds Try.pinned (OpenSpec.ofChange fnExactAllSortedSpec)

/-- ITS FALSE NEIGHBOUR: 'it returns false'. Refute it at one input. -/
def fnExactAllSortedWrong : ChangeSpec := { name := "fnExactAllSorted", fn := fun _ => fun
  | [d] => { results := [.lit (.bool false)], args := [d] }
  | _ => none }
def FnExactAllSortedWrongFalsely : Prop := fnExactAllSortedRow.holds Try.pinned (OpenSpec.ofChange fnExactAllSortedWrong)

/-- 'laws.FnExactDriveCars': WHATEVER THE INPUT: true; the input reads as it did. -/
def fnExactDriveCarsSpec : ChangeSpec := { name := "fnExactDriveCars", fn := fun _ => fun
  | [d1, d2] => { results := [.lit (.bool true)], args := [d1, d2] }
  | _ => none }
def fnExactDriveCarsRow : OpenClaim := { program := "ytpajmgbhlpbojaa", sum := "bf768a394539cad20a8d5f5d12a45d132320240ddc41e919260d15f8483fd74f", func := "loop.example/g01115/laws.FnExactDriveCars", spec := "fnExactDriveCars", unfollowed := true, recurses := true, apart := false }
def FnExactDriveCarsSaid : Prop := fnExactDriveCarsRow.holds Try.pinned (OpenSpec.ofChange fnExactDriveCarsSpec)

/-- ITS FALSE NEIGHBOUR: 'it returns false'. Refute it at one input. -/
def fnExactDriveCarsWrong : ChangeSpec := { name := "fnExactDriveCars", fn := fun _ => fun
  | [d1, d2] => { results := [.lit (.bool false)], args := [d1, d2] }
  | _ => none }
def FnExactDriveCarsWrongFalsely : Prop := fnExactDriveCarsRow.holds Try.pinned (OpenSpec.ofChange fnExactDriveCarsWrong)

/-- 'laws.FnExactCountByFirst': WHATEVER THE INPUT: true; the input reads as it did. -/
def fnExactCountByFirstSpec : ChangeSpec := { name := "fnExactCountByFirst", fn := fun _ => fun
  | [d] => { results := [.lit (.bool true)], args := [d] }
  | _ => none }
def fnExactCountByFirstRow : OpenClaim := { program := "ytpajmgbhlpbojaa", sum := "bf768a394539cad20a8d5f5d12a45d132320240ddc41e919260d15f8483fd74f", func := "loop.example/g01115/laws.FnExactCountByFirst", spec := "fnExactCountByFirst", unfollowed := true, recurses := true, apart := false }
def FnExactCountByFirstSaid : Prop := fnExactCountByFirstRow.holds Try.pinned (OpenSpec.ofChange fnExactCountByFirstSpec)

/-- ITS FALSE NEIGHBOUR: 'it returns false'. Refute it at one input. -/
def fnExactCountByFirstWrong : ChangeSpec := { name := "fnExactCountByFirst", fn := fun _ => fun
  | [d] => { results := [.lit (.bool false)], args := [d] }
  | _ => none }
def FnExactCountByFirstWrongFalsely : Prop := fnExactCountByFirstRow.holds Try.pinned (OpenSpec.ofChange fnExactCountByFirstWrong)

/-- 'laws.FnExactFreeOnCircle': WHATEVER THE INPUT: true; the input reads as it did. -/
def fnExactFreeOnCircleSpec : ChangeSpec := { name := "fnExactFreeOnCircle", fn := fun _ => fun
  | [d] => { results := [.lit (.bool true)], args := [d] }
  | _ => none }
def fnExactFreeOnCircleRow : OpenClaim := { program := "ytpajmgbhlpbojaa", sum := "bf768a394539cad20a8d5f5d12a45d132320240ddc41e919260d15f8483fd74f", func := "loop.example/g01115/laws.FnExactFreeOnCircle", spec := "fnExactFreeOnCircle", unfollowed := true, recurses := true, apart := false }
def FnExactFreeOnCircleSaid : Prop := fnExactFreeOnCircleRow.holds Try.pinned (OpenSpec.ofChange fnExactFreeOnCircleSpec)

/-- ITS FALSE NEIGHBOUR: 'it returns false'. Refute it at one input. -/
def fnExactFreeOnCircleWrong : ChangeSpec := { name := "fnExactFreeOnCircle", fn := fun _ => fun
  | [d] => { results := [.lit (.bool false)], args := [d] }
  | _ => none }
def FnExactFreeOnCircleWrongFalsely : Prop := fnExactFreeOnCircleRow.holds Try.pinned (OpenSpec.ofChange fnExactFreeOnCircleWrong)

/-- 'laws.FnExactIsBelow': WHATEVER THE INPUT: true; the input reads as it did. -/
def fnExactIsBelowSpec : ChangeSpec := { name := "fnExactIsBelow", fn := fun _ => fun
  | [d1, d2] => { results := [.lit (.bool true)], args := [d1, d2] }
  | _ => none }
def fnExactIsBelowRow : OpenClaim := { program := "ytpajmgbhlpbojaa", sum := "bf768a394539cad20a8d5f5d12a45d132320240ddc41e919260d15f8483fd74f", func := "loop.example/g01115/laws.FnExactIsBelow", spec := "fnExactIsBelow", unfollowed := true, recurses := true, apart := false }
def FnExactIsBelowSaid : Prop := fnExactIsBelowRow.holds Try.pinned (OpenSpec.ofChange fnExactIsBelowSpec)

/-- ITS FALSE NEIGHBOUR: 'it returns false'. Refute it at one input. -/
def fnExactIsBelowWrong : ChangeSpec := { name := "fnExactIsBelow", fn := fun _ => fun
  | [d1, d2] => { results := [.lit (.bool false)], args := [d1, d2] }
  | _ => none }
def FnExactIsBelowWrongFalsely : Prop := fnExactIsBelowRow.holds Try.pinned (OpenSpec.ofChange fnExactIsBelowWrong)

/-- 'laws.FnExactDistancesOf': WHATEVER THE INPUT: true; the input reads as it did. -/
def fnExactDistancesOfSpec : ChangeSpec := { name := "fnExactDistancesOf", fn := fun _ => fun
  | [d1, d2] => { results := [.lit (.bool true)], args := [d1, d2] }
  | _ => none }
def fnExactDistancesOfRow : OpenClaim := { program := "ytpajmgbhlpbojaa", sum := "bf768a394539cad20a8d5f5d12a45d132320240ddc41e919260d15f8483fd74f", func := "loop.example/g01115/laws.FnExactDistancesOf", spec := "fnExactDistancesOf", unfollowed := true, recurses := true, apart := false }
def FnExactDistancesOfSaid : Prop := fnExactDistancesOfRow.holds Try.pinned (OpenSpec.ofChange fnExactDistancesOfSpec)

/-- ITS FALSE NEIGHBOUR: 'it returns false'. Refute it at one input. -/
def fnExactDistancesOfWrong : ChangeSpec := { name := "fnExactDistancesOf", fn := fun _ => fun
  | [d1, d2] => { results := [.lit (.bool false)], args := [d1, d2] }
  | _ => none }
def FnExactDistancesOfWrongFalsely : Prop := fnExactDistancesOfRow.holds Try.pinned (OpenSpec.ofChange fnExactDistancesOfWrong)

/-- 'laws.FnExactDepthsOf': WHATEVER THE INPUT: true; the input reads as it did. -/
def fnExactDepthsOfSpec : ChangeSpec := { name := "fnExactDepthsOf", fn := fun _ => fun
  | [d] => { results := [.lit (.bool true)], args := [d] }
  | _ => none }
def fnExactDepthsOfRow : OpenClaim := { program := "ytpajmgbhlpbojaa", sum := "bf768a394539cad20a8d5f5d12a45d132320240ddc41e919260d15f8483fd74f", func := "loop.example/g01115/laws.FnExactDepthsOf", spec := "fnExactDepthsOf", unfollowed := true, recurses := true, apart := false }
def FnExactDepthsOfSaid : Prop := fnExactDepthsOfRow.holds Try.pinned (OpenSpec.ofChange fnExactDepthsOfSpec)

/-- ITS FALSE NEIGHBOUR: 'it returns false'. Refute it at one input. -/
def fnExactDepthsOfWrong : ChangeSpec := { name := "fnExactDepthsOf", fn := fun _ => fun
  | [d] => { results := [.lit (.bool false)], args := [d] }
  | _ => none }
def FnExactDepthsOfWrongFalsely : Prop := fnExactDepthsOfRow.holds Try.pinned (OpenSpec.ofChange fnExactDepthsOfWrong)

/-- 'laws.FnExactBelowCounts': WHATEVER THE INPUT: true; the input reads as it did. -/
def fnExactBelowCountsSpec : ChangeSpec := { name := "fnExactBelowCounts", fn := fun _ => fun
  | [d] => { results := [.lit (.bool true)], args := [d] }
  | _ => none }
def fnExactBelowCountsRow : OpenClaim := { program := "ytpajmgbhlpbojaa", sum := "bf768a394539cad20a8d5f5d12a45d132320240ddc41e919260d15f8483fd74f", func := "loop.example/g01115/laws.FnExactBelowCounts", spec := "fnExactBelowCounts", unfollowed := true, recurses := true, apart := false }
def FnExactBelowCountsSaid : Prop := fnExactBelowCountsRow.holds Try.pinned (OpenSpec.ofChange fnExactBelowCountsSpec)

/-- ITS FALSE NEIGHBOUR: 'it returns false'. Refute it at one input. -/
def fnExactBelowCountsWrong : ChangeSpec := { name := "fnExactBelowCounts", fn := fun _ => fun
  | [d] => { results := [.lit (.bool false)], args := [d] }
  | _ => none }
def FnExactBelowCountsWrongFalsely : Prop := fnExactBelowCountsRow.holds Try.pinned (OpenSpec.ofChange fnExactBelowCountsWrong)

/-- 'laws.FnExactRerootTree': WHATEVER THE INPUT: true; the input reads as it did. -/
def fnExactRerootTreeSpec : ChangeSpec := { name := "fnExactRerootTree", fn := fun _ => fun
  | [d1, d2] => { results := [.lit (.bool true)], args := [d1, d2] }
  | _ => none }
def fnExactRerootTreeRow : OpenClaim := { program := "ytpajmgbhlpbojaa", sum := "bf768a394539cad20a8d5f5d12a45d132320240ddc41e919260d15f8483fd74f", func := "loop.example/g01115/laws.FnExactRerootTree", spec := "fnExactRerootTree", unfollowed := true, recurses := true, apart := false }
def FnExactRerootTreeSaid : Prop := fnExactRerootTreeRow.holds Try.pinned (OpenSpec.ofChange fnExactRerootTreeSpec)

/-- ITS FALSE NEIGHBOUR: 'it returns false'. Refute it at one input. -/
def fnExactRerootTreeWrong : ChangeSpec := { name := "fnExactRerootTree", fn := fun _ => fun
  | [d1, d2] => { results := [.lit (.bool false)], args := [d1, d2] }
  | _ => none }
def FnExactRerootTreeWrongFalsely : Prop := fnExactRerootTreeRow.holds Try.pinned (OpenSpec.ofChange fnExactRerootTreeWrong)

/-- 'laws.FnExactTotalDistance': WHATEVER THE INPUT: true; the input reads as it did. -/
def fnExactTotalDistanceSpec : ChangeSpec := { name := "fnExactTotalDistance", fn := fun _ => fun
  | [d1, d2] => { results := [.lit (.bool true)], args := [d1, d2] }
  | _ => none }
def fnExactTotalDistanceRow : OpenClaim := { program := "ytpajmgbhlpbojaa", sum := "bf768a394539cad20a8d5f5d12a45d132320240ddc41e919260d15f8483fd74f", func := "loop.example/g01115/laws.FnExactTotalDistance", spec := "fnExactTotalDistance", unfollowed := true, recurses := true, apart := false }
def FnExactTotalDistanceSaid : Prop := fnExactTotalDistanceRow.holds Try.pinned (OpenSpec.ofChange fnExactTotalDistanceSpec)

/-- ITS FALSE NEIGHBOUR: 'it returns false'. Refute it at one input. -/
def fnExactTotalDistanceWrong : ChangeSpec := { name := "fnExactTotalDistance", fn := fun _ => fun
  | [d1, d2] => { results := [.lit (.bool false)], args := [d1, d2] }
  | _ => none }
def FnExactTotalDistanceWrongFalsely : Prop := fnExactTotalDistanceRow.holds Try.pinned (OpenSpec.ofChange fnExactTotalDistanceWrong)

/- THE SECOND FORM. 'bulk': how many values and letters a reading holds, each counted each time it is reached (what is shared counts as often as it is met; a slice's spare places count too). A statement '..UptoSaid' is the law's where the arguments, and the package variables that the reading takes, are together of bulk at most 1048576: NARROWER than '..Said'. Prove '..Said' where nothing that the law and all that it calls make is longer than what came in: it says more and counts as full. Else prove '..UptoSaid'. A law counts once. -/
mutual
def uptoBulk {H : Type} : DataW H → Nat
  | .lit (.string bytes) => bytes.length + 1
  | .lit _ => 1
  | .nil => 1
  | .ptr d => uptoBulk d + 1
  | .slice elems spare => uptoBulkAll elems + uptoBulkAll spare + 1
  | .agg parts => uptoBulkAll parts + 1
  | .iface _ d => uptoBulk d + 1
  | .map entries => uptoBulkEntries entries + 1
  | .held _ => 1
def uptoBulkAll {H : Type} : List (DataW H) → Nat
  | [] => 0
  | d :: r => uptoBulk d + uptoBulkAll r
def uptoBulkEntries {H : Type} : List (Lit × DataW H) → Nat
  | [] => 0
  | x :: r => uptoBulkEntry x + uptoBulkEntries r
def uptoBulkEntry {H : Type} : Lit × DataW H → Nat
  | (.string bytes, d) => bytes.length + uptoBulk d + 1
  | (_, d) => uptoBulk d + 1
 end
def uptoSmall : (H : Type) → List (DataW H) → Bool := fun _ ds => decide (uptoBulkAll ds ≤ 1048576)
def OpenSpec.upto (s : _root_.Go.ChangeSpec) : _root_.Go.OpenSpec := { _root_.Go.OpenSpec.ofChange s with cond := some uptoSmall }

/-- 'laws.FnExactDriveCircle', WHERE WHAT IT READS IS OF BULK AT MOST 1048576: true; the input reads as it did. -/
def fnExactDriveCircleUptoRow : OpenClaim := { program := "ytpajmgbhlpbojaa", sum := "bf768a394539cad20a8d5f5d12a45d132320240ddc41e919260d15f8483fd74f", func := "loop.example/g01115/laws.FnExactDriveCircle", spec := "fnExactDriveCircle", unfollowed := true, recurses := true, apart := false, narrowed := true }
def FnExactDriveCircleUptoSaid : Prop := fnExactDriveCircleUptoRow.holds Try.pinned (OpenSpec.upto fnExactDriveCircleSpec)

/-- 'laws.FnExactAllSorted', WHERE WHAT IT READS IS OF BULK AT MOST 1048576: true; the input reads as it did. -/
def fnExactAllSortedUptoRow : OpenClaim := { program := "ytpajmgbhlpbojaa", sum := "bf768a394539cad20a8d5f5d12a45d132320240ddc41e919260d15f8483fd74f", func := "loop.example/g01115/laws.FnExactAllSorted", spec := "fnExactAllSorted", recurses := true, apart := false, narrowed := true }
def FnExactAllSortedUptoSaid : Prop := fnExactAllSortedUptoRow.holds Try.pinned (OpenSpec.upto fnExactAllSortedSpec)

/-- 'laws.FnExactDriveCars', WHERE WHAT IT READS IS OF BULK AT MOST 1048576: true; the input reads as it did. -/
def fnExactDriveCarsUptoRow : OpenClaim := { program := "ytpajmgbhlpbojaa", sum := "bf768a394539cad20a8d5f5d12a45d132320240ddc41e919260d15f8483fd74f", func := "loop.example/g01115/laws.FnExactDriveCars", spec := "fnExactDriveCars", unfollowed := true, recurses := true, apart := false, narrowed := true }
def FnExactDriveCarsUptoSaid : Prop := fnExactDriveCarsUptoRow.holds Try.pinned (OpenSpec.upto fnExactDriveCarsSpec)

/-- 'laws.FnExactCountByFirst', WHERE WHAT IT READS IS OF BULK AT MOST 1048576: true; the input reads as it did. -/
def fnExactCountByFirstUptoRow : OpenClaim := { program := "ytpajmgbhlpbojaa", sum := "bf768a394539cad20a8d5f5d12a45d132320240ddc41e919260d15f8483fd74f", func := "loop.example/g01115/laws.FnExactCountByFirst", spec := "fnExactCountByFirst", unfollowed := true, recurses := true, apart := false, narrowed := true }
def FnExactCountByFirstUptoSaid : Prop := fnExactCountByFirstUptoRow.holds Try.pinned (OpenSpec.upto fnExactCountByFirstSpec)

/-- 'laws.FnExactFreeOnCircle', WHERE WHAT IT READS IS OF BULK AT MOST 1048576: true; the input reads as it did. -/
def fnExactFreeOnCircleUptoRow : OpenClaim := { program := "ytpajmgbhlpbojaa", sum := "bf768a394539cad20a8d5f5d12a45d132320240ddc41e919260d15f8483fd74f", func := "loop.example/g01115/laws.FnExactFreeOnCircle", spec := "fnExactFreeOnCircle", unfollowed := true, recurses := true, apart := false, narrowed := true }
def FnExactFreeOnCircleUptoSaid : Prop := fnExactFreeOnCircleUptoRow.holds Try.pinned (OpenSpec.upto fnExactFreeOnCircleSpec)

/-- 'laws.FnExactIsBelow', WHERE WHAT IT READS IS OF BULK AT MOST 1048576: true; the input reads as it did. -/
def fnExactIsBelowUptoRow : OpenClaim := { program := "ytpajmgbhlpbojaa", sum := "bf768a394539cad20a8d5f5d12a45d132320240ddc41e919260d15f8483fd74f", func := "loop.example/g01115/laws.FnExactIsBelow", spec := "fnExactIsBelow", unfollowed := true, recurses := true, apart := false, narrowed := true }
def FnExactIsBelowUptoSaid : Prop := fnExactIsBelowUptoRow.holds Try.pinned (OpenSpec.upto fnExactIsBelowSpec)

/-- 'laws.FnExactDistancesOf', WHERE WHAT IT READS IS OF BULK AT MOST 1048576: true; the input reads as it did. -/
def fnExactDistancesOfUptoRow : OpenClaim := { program := "ytpajmgbhlpbojaa", sum := "bf768a394539cad20a8d5f5d12a45d132320240ddc41e919260d15f8483fd74f", func := "loop.example/g01115/laws.FnExactDistancesOf", spec := "fnExactDistancesOf", unfollowed := true, recurses := true, apart := false, narrowed := true }
def FnExactDistancesOfUptoSaid : Prop := fnExactDistancesOfUptoRow.holds Try.pinned (OpenSpec.upto fnExactDistancesOfSpec)

/-- 'laws.FnExactDepthsOf', WHERE WHAT IT READS IS OF BULK AT MOST 1048576: true; the input reads as it did. -/
def fnExactDepthsOfUptoRow : OpenClaim := { program := "ytpajmgbhlpbojaa", sum := "bf768a394539cad20a8d5f5d12a45d132320240ddc41e919260d15f8483fd74f", func := "loop.example/g01115/laws.FnExactDepthsOf", spec := "fnExactDepthsOf", unfollowed := true, recurses := true, apart := false, narrowed := true }
def FnExactDepthsOfUptoSaid : Prop := fnExactDepthsOfUptoRow.holds Try.pinned (OpenSpec.upto fnExactDepthsOfSpec)

/-- 'laws.FnExactBelowCounts', WHERE WHAT IT READS IS OF BULK AT MOST 1048576: true; the input reads as it did. -/
def fnExactBelowCountsUptoRow : OpenClaim := { program := "ytpajmgbhlpbojaa", sum := "bf768a394539cad20a8d5f5d12a45d132320240ddc41e919260d15f8483fd74f", func := "loop.example/g01115/laws.FnExactBelowCounts", spec := "fnExactBelowCounts", unfollowed := true, recurses := true, apart := false, narrowed := true }
def FnExactBelowCountsUptoSaid : Prop := fnExactBelowCountsUptoRow.holds Try.pinned (OpenSpec.upto fnExactBelowCountsSpec)

/-- 'laws.FnExactRerootTree', WHERE WHAT IT READS IS OF BULK AT MOST 1048576: true; the input reads as it did. -/
def fnExactRerootTreeUptoRow : OpenClaim := { program := "ytpajmgbhlpbojaa", sum := "bf768a394539cad20a8d5f5d12a45d132320240ddc41e919260d15f8483fd74f", func := "loop.example/g01115/laws.FnExactRerootTree", spec := "fnExactRerootTree", unfollowed := true, recurses := true, apart := false, narrowed := true }
def FnExactRerootTreeUptoSaid : Prop := fnExactRerootTreeUptoRow.holds Try.pinned (OpenSpec.upto fnExactRerootTreeSpec)

/-- 'laws.FnExactTotalDistance', WHERE WHAT IT READS IS OF BULK AT MOST 1048576: true; the input reads as it did. -/
def fnExactTotalDistanceUptoRow : OpenClaim := { program := "ytpajmgbhlpbojaa", sum := "bf768a394539cad20a8d5f5d12a45d132320240ddc41e919260d15f8483fd74f", func := "loop.example/g01115/laws.FnExactTotalDistance", spec := "fnExactTotalDistance", unfollowed := true, recurses := true, apart := false, narrowed := true }
def FnExactTotalDistanceUptoSaid : Prop := fnExactTotalDistanceUptoRow.holds Try.pinned (OpenSpec.upto fnExactTotalDistanceSpec)

end Rows
end Go.Proofs.Ytpajmgbhlpbojaa
