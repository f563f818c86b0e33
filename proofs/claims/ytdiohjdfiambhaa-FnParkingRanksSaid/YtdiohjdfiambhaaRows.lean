/-
  No cell of these rows narrows 'for every input' (looked for: loops, veiled, ifaces, maps, wideKeys, modest, calm, conditions, laid).
  DERIVED. THE GIVEN ROWS OF THIS SEAT. 11 by the template 'for every input the law returns true; each argument reads behind the call as it read before'; 0 by the template 'total and deterministic' (their statements: YtdiohjdfiambhaaTotals.lean).
  GIVEN WITH THE SEED: the statements are not yours to turn. If you find one false, say at which input.
  Laid BY PROGRAM, IN A SANDBOX (cutbox-rows.mjs): the forced cells as the released guide's own fill.sh prints them over the translation 5cd1029796e90b15… (all of the seat's roots in one cut). By AI agents, Wed Nov 11 2026. No macro, syntax, notation, axiom, sorry.
-/
import Derived.Test.YtdiohjdfiambhaaChecked
import GoSem.Claim
import GoSem.ClaimJoined
import GoSem.ClaimMapViews
import Derived.JoinedTies
import Derived.KernelRfl
namespace Go.Proofs.Ytdiohjdfiambhaa
/- THE CELL 'sum', in the pinned program and in every row, IS THE sha256 OF THE DUMP (.gsa) THAT YtdiohjdfiambhaaProg.lean LOADS. Nothing in Lean hashes anything: it is a label: what it is worth is what the hold of that sum in a sandbox is worth. -/
noncomputable def Try.pinned : Pinned := { name := "ytdiohjdfiambhaa", sum := "5cd1029796e90b15bb03a0c866b0edf5ad42bef44c295d353ef7977e87494858", checked := Try.checked }
namespace Rows
def none {H : Type} : Left H := { results := [], args := [] }

/-- 'laws.FnCircles': WHATEVER THE INPUT: true; the input reads as it did. -/
def fnCirclesSpec : ChangeSpec := { name := "fnCircles", fn := fun _ => fun
  | [d1, d2] => { results := [.lit (.bool true)], args := [d1, d2] }
  | _ => none }
def fnCirclesRow : OpenClaim := { program := "ytdiohjdfiambhaa", sum := "5cd1029796e90b15bb03a0c866b0edf5ad42bef44c295d353ef7977e87494858", func := "loop.example/g01115/laws.FnCircles", spec := "fnCircles", unfollowed := true, recurses := true, apart := false }
def FnCirclesSaid : Prop := fnCirclesRow.holds Try.pinned (OpenSpec.ofChange fnCirclesSpec)

/-- ITS FALSE NEIGHBOUR: 'it returns false'. Refute it at one input. -/
def fnCirclesWrong : ChangeSpec := { name := "fnCircles", fn := fun _ => fun
  | [d1, d2] => { results := [.lit (.bool false)], args := [d1, d2] }
  | _ => none }
def FnCirclesWrongFalsely : Prop := fnCirclesRow.holds Try.pinned (OpenSpec.ofChange fnCirclesWrong)

/-- 'laws.FnParkingRanks': WHATEVER THE INPUT: true; the input reads as it did. -/
def fnParkingRanksSpec : ChangeSpec := { name := "fnParkingRanks", fn := fun _ => fun
  | [d1, d2] => { results := [.lit (.bool true)], args := [d1, d2] }
  | _ => none }
def fnParkingRanksRow : OpenClaim := { program := "ytdiohjdfiambhaa", sum := "5cd1029796e90b15bb03a0c866b0edf5ad42bef44c295d353ef7977e87494858", func := "loop.example/g01115/laws.FnParkingRanks", spec := "fnParkingRanks", unfollowed := true, recurses := true, apart := false }
def FnParkingRanksSaid : Prop := fnParkingRanksRow.holds Try.pinned (OpenSpec.ofChange fnParkingRanksSpec)

/-- ITS FALSE NEIGHBOUR: 'it returns false'. Refute it at one input. -/
def fnParkingRanksWrong : ChangeSpec := { name := "fnParkingRanks", fn := fun _ => fun
  | [d1, d2] => { results := [.lit (.bool false)], args := [d1, d2] }
  | _ => none }
def FnParkingRanksWrongFalsely : Prop := fnParkingRanksRow.holds Try.pinned (OpenSpec.ofChange fnParkingRanksWrong)

/-- 'laws.FnParkingCounts': WHATEVER THE INPUT: true; the input reads as it did. -/
def fnParkingCountsSpec : ChangeSpec := { name := "fnParkingCounts", fn := fun _ => fun
  | [d1, d2] => { results := [.lit (.bool true)], args := [d1, d2] }
  | _ => none }
def fnParkingCountsRow : OpenClaim := { program := "ytdiohjdfiambhaa", sum := "5cd1029796e90b15bb03a0c866b0edf5ad42bef44c295d353ef7977e87494858", func := "loop.example/g01115/laws.FnParkingCounts", spec := "fnParkingCounts", unfollowed := true, recurses := true, apart := false }
def FnParkingCountsSaid : Prop := fnParkingCountsRow.holds Try.pinned (OpenSpec.ofChange fnParkingCountsSpec)

/-- ITS FALSE NEIGHBOUR: 'it returns false'. Refute it at one input. -/
def fnParkingCountsWrong : ChangeSpec := { name := "fnParkingCounts", fn := fun _ => fun
  | [d1, d2] => { results := [.lit (.bool false)], args := [d1, d2] }
  | _ => none }
def FnParkingCountsWrongFalsely : Prop := fnParkingCountsRow.holds Try.pinned (OpenSpec.ofChange fnParkingCountsWrong)

/-- 'laws.FnExactSortedFits': WHATEVER THE INPUT: true; the input reads as it did. -/
def fnExactSortedFitsSpec : ChangeSpec := { name := "fnExactSortedFits", fn := fun _ => fun
  | [d] => { results := [.lit (.bool true)], args := [d] }
  | _ => none }
def fnExactSortedFitsRow : OpenClaim := { program := "ytdiohjdfiambhaa", sum := "5cd1029796e90b15bb03a0c866b0edf5ad42bef44c295d353ef7977e87494858", func := "loop.example/g01115/laws.FnExactSortedFits", spec := "fnExactSortedFits", unfollowed := true, recurses := true, apart := false }
def FnExactSortedFitsSaid : Prop := fnExactSortedFitsRow.holds Try.pinned (OpenSpec.ofChange fnExactSortedFitsSpec)

/-- ITS FALSE NEIGHBOUR: 'it returns false'. Refute it at one input. -/
def fnExactSortedFitsWrong : ChangeSpec := { name := "fnExactSortedFits", fn := fun _ => fun
  | [d] => { results := [.lit (.bool false)], args := [d] }
  | _ => none }
def FnExactSortedFitsWrongFalsely : Prop := fnExactSortedFitsRow.holds Try.pinned (OpenSpec.ofChange fnExactSortedFitsWrong)

/-- 'laws.FnExactCountWithOutcome': WHATEVER THE INPUT: true; the input reads as it did. -/
def fnExactCountWithOutcomeSpec : ChangeSpec := { name := "fnExactCountWithOutcome", fn := fun _ => fun
  | [d] => { results := [.lit (.bool true)], args := [d] }
  | _ => none }
def fnExactCountWithOutcomeRow : OpenClaim := { program := "ytdiohjdfiambhaa", sum := "5cd1029796e90b15bb03a0c866b0edf5ad42bef44c295d353ef7977e87494858", func := "loop.example/g01115/laws.FnExactCountWithOutcome", spec := "fnExactCountWithOutcome", unfollowed := true, recurses := true, apart := false }
def FnExactCountWithOutcomeSaid : Prop := fnExactCountWithOutcomeRow.holds Try.pinned (OpenSpec.ofChange fnExactCountWithOutcomeSpec)

/-- ITS FALSE NEIGHBOUR: 'it returns false'. Refute it at one input. -/
def fnExactCountWithOutcomeWrong : ChangeSpec := { name := "fnExactCountWithOutcome", fn := fun _ => fun
  | [d] => { results := [.lit (.bool false)], args := [d] }
  | _ => none }
def FnExactCountWithOutcomeWrongFalsely : Prop := fnExactCountWithOutcomeRow.holds Try.pinned (OpenSpec.ofChange fnExactCountWithOutcomeWrong)

/-- 'laws.FnExactTakenPlaces': WHATEVER THE INPUT: true; the input reads as it did. -/
def fnExactTakenPlacesSpec : ChangeSpec := { name := "fnExactTakenPlaces", fn := fun _ => fun
  | [d1, d2] => { results := [.lit (.bool true)], args := [d1, d2] }
  | _ => none }
def fnExactTakenPlacesRow : OpenClaim := { program := "ytdiohjdfiambhaa", sum := "5cd1029796e90b15bb03a0c866b0edf5ad42bef44c295d353ef7977e87494858", func := "loop.example/g01115/laws.FnExactTakenPlaces", spec := "fnExactTakenPlaces", unfollowed := true, recurses := true, apart := false }
def FnExactTakenPlacesSaid : Prop := fnExactTakenPlacesRow.holds Try.pinned (OpenSpec.ofChange fnExactTakenPlacesSpec)

/-- ITS FALSE NEIGHBOUR: 'it returns false'. Refute it at one input. -/
def fnExactTakenPlacesWrong : ChangeSpec := { name := "fnExactTakenPlaces", fn := fun _ => fun
  | [d1, d2] => { results := [.lit (.bool false)], args := [d1, d2] }
  | _ => none }
def FnExactTakenPlacesWrongFalsely : Prop := fnExactTakenPlacesRow.holds Try.pinned (OpenSpec.ofChange fnExactTakenPlacesWrong)

/-- 'laws.FnExactCountOrders': WHATEVER THE INPUT: true; the input reads as it did. -/
def fnExactCountOrdersSpec : ChangeSpec := { name := "fnExactCountOrders", fn := fun _ => fun
  | [d] => { results := [.lit (.bool true)], args := [d] }
  | _ => none }
def fnExactCountOrdersRow : OpenClaim := { program := "ytdiohjdfiambhaa", sum := "5cd1029796e90b15bb03a0c866b0edf5ad42bef44c295d353ef7977e87494858", func := "loop.example/g01115/laws.FnExactCountOrders", spec := "fnExactCountOrders", unfollowed := true, recurses := true, apart := false }
def FnExactCountOrdersSaid : Prop := fnExactCountOrdersRow.holds Try.pinned (OpenSpec.ofChange fnExactCountOrdersSpec)

/-- ITS FALSE NEIGHBOUR: 'it returns false'. Refute it at one input. -/
def fnExactCountOrdersWrong : ChangeSpec := { name := "fnExactCountOrders", fn := fun _ => fun
  | [d] => { results := [.lit (.bool false)], args := [d] }
  | _ => none }
def FnExactCountOrdersWrongFalsely : Prop := fnExactCountOrdersRow.holds Try.pinned (OpenSpec.ofChange fnExactCountOrdersWrong)

/-- 'laws.FnExactAllWithOutcome': WHATEVER THE INPUT: true; the input reads as it did. -/
def fnExactAllWithOutcomeSpec : ChangeSpec := { name := "fnExactAllWithOutcome", fn := fun _ => fun
  | [d] => { results := [.lit (.bool true)], args := [d] }
  | _ => none }
def fnExactAllWithOutcomeRow : OpenClaim := { program := "ytdiohjdfiambhaa", sum := "5cd1029796e90b15bb03a0c866b0edf5ad42bef44c295d353ef7977e87494858", func := "loop.example/g01115/laws.FnExactAllWithOutcome", spec := "fnExactAllWithOutcome", unfollowed := true, recurses := true, apart := false }
def FnExactAllWithOutcomeSaid : Prop := fnExactAllWithOutcomeRow.holds Try.pinned (OpenSpec.ofChange fnExactAllWithOutcomeSpec)

/-- ITS FALSE NEIGHBOUR: 'it returns false'. Refute it at one input. -/
def fnExactAllWithOutcomeWrong : ChangeSpec := { name := "fnExactAllWithOutcome", fn := fun _ => fun
  | [d] => { results := [.lit (.bool false)], args := [d] }
  | _ => none }
def FnExactAllWithOutcomeWrongFalsely : Prop := fnExactAllWithOutcomeRow.holds Try.pinned (OpenSpec.ofChange fnExactAllWithOutcomeWrong)

/-- 'laws.FnTakenPlacesStay': WHATEVER THE INPUT: true; the input reads as it did. -/
def fnTakenPlacesStaySpec : ChangeSpec := { name := "fnTakenPlacesStay", fn := fun _ => fun
  | [d1, d2] => { results := [.lit (.bool true)], args := [d1, d2] }
  | _ => none }
def fnTakenPlacesStayRow : OpenClaim := { program := "ytdiohjdfiambhaa", sum := "5cd1029796e90b15bb03a0c866b0edf5ad42bef44c295d353ef7977e87494858", func := "loop.example/g01115/laws.FnTakenPlacesStay", spec := "fnTakenPlacesStay", unfollowed := true, recurses := true, apart := false }
def FnTakenPlacesStaySaid : Prop := fnTakenPlacesStayRow.holds Try.pinned (OpenSpec.ofChange fnTakenPlacesStaySpec)

/-- ITS FALSE NEIGHBOUR: 'it returns false'. Refute it at one input. -/
def fnTakenPlacesStayWrong : ChangeSpec := { name := "fnTakenPlacesStay", fn := fun _ => fun
  | [d1, d2] => { results := [.lit (.bool false)], args := [d1, d2] }
  | _ => none }
def FnTakenPlacesStayWrongFalsely : Prop := fnTakenPlacesStayRow.holds Try.pinned (OpenSpec.ofChange fnTakenPlacesStayWrong)

/-- 'laws.FnOutcomesCounted': WHATEVER THE INPUT: true; the input reads as it did. -/
def fnOutcomesCountedSpec : ChangeSpec := { name := "fnOutcomesCounted", fn := fun _ => fun
  | [d1, d2] => { results := [.lit (.bool true)], args := [d1, d2] }
  | _ => none }
def fnOutcomesCountedRow : OpenClaim := { program := "ytdiohjdfiambhaa", sum := "5cd1029796e90b15bb03a0c866b0edf5ad42bef44c295d353ef7977e87494858", func := "loop.example/g01115/laws.FnOutcomesCounted", spec := "fnOutcomesCounted", unfollowed := true, recurses := true, apart := false }
def FnOutcomesCountedSaid : Prop := fnOutcomesCountedRow.holds Try.pinned (OpenSpec.ofChange fnOutcomesCountedSpec)

/-- ITS FALSE NEIGHBOUR: 'it returns false'. Refute it at one input. -/
def fnOutcomesCountedWrong : ChangeSpec := { name := "fnOutcomesCounted", fn := fun _ => fun
  | [d1, d2] => { results := [.lit (.bool false)], args := [d1, d2] }
  | _ => none }
def FnOutcomesCountedWrongFalsely : Prop := fnOutcomesCountedRow.holds Try.pinned (OpenSpec.ofChange fnOutcomesCountedWrong)

/-- 'laws.FnParkingDecided': WHATEVER THE INPUT: true; the input reads as it did. -/
def fnParkingDecidedSpec : ChangeSpec := { name := "fnParkingDecided", fn := fun _ => fun
  | [d1, d2] => { results := [.lit (.bool true)], args := [d1, d2] }
  | _ => none }
def fnParkingDecidedRow : OpenClaim := { program := "ytdiohjdfiambhaa", sum := "5cd1029796e90b15bb03a0c866b0edf5ad42bef44c295d353ef7977e87494858", func := "loop.example/g01115/laws.FnParkingDecided", spec := "fnParkingDecided", unfollowed := true, recurses := true, apart := false }
def FnParkingDecidedSaid : Prop := fnParkingDecidedRow.holds Try.pinned (OpenSpec.ofChange fnParkingDecidedSpec)

/-- ITS FALSE NEIGHBOUR: 'it returns false'. Refute it at one input. -/
def fnParkingDecidedWrong : ChangeSpec := { name := "fnParkingDecided", fn := fun _ => fun
  | [d1, d2] => { results := [.lit (.bool false)], args := [d1, d2] }
  | _ => none }
def FnParkingDecidedWrongFalsely : Prop := fnParkingDecidedRow.holds Try.pinned (OpenSpec.ofChange fnParkingDecidedWrong)

/- THE SECOND FORM. 'bulk': how many values and letters a reading holds, each counted each time it is reached (what is shared counts as often as it is met; a slice's spare places count too). A statement '..UptoSaid' is the law's where the arguments, and the package variables that the reading takes, are together of bulk at most 1048576: NARROWER than '..Said'. Prove '..Said' where nothing that the law and all that it calls make is longer than what came in: it says more and counts as full. Else prove '..UptoSaid'. A law counts once. -/
mutual
def uptoBulk {H : Type} : DataW H → Nat
  | .lit (.string bytes) => bytes.length + 1
  | .lit _ => 1
  | .nil => 1
  | .ptr d => uptoBulk d + 1
  | .slice elems spare => uptoBulkAll elems + uptoBulkAll spare + 1
  | .agg parts => uptoBulkAll parts + 1
  | .iface _ d => uptoBulk d + 1
  | .map entries => uptoBulkEntries entries + 1
  | .held _ => 1
def uptoBulkAll {H : Type} : List (DataW H) → Nat
  | [] => 0
  | d :: r => uptoBulk d + uptoBulkAll r
def uptoBulkEntries {H : Type} : List (Lit × DataW H) → Nat
  | [] => 0
  | x :: r => uptoBulkEntry x + uptoBulkEntries r
def uptoBulkEntry {H : Type} : Lit × DataW H → Nat
  | (.string bytes, d) => bytes.length + uptoBulk d + 1
  | (_, d) => uptoBulk d + 1
 end
def uptoSmall : (H : Type) → List (DataW H) → Bool := fun _ ds => decide (uptoBulkAll ds ≤ 1048576)
def OpenSpec.upto (s : _root_.Go.ChangeSpec) : _root_.Go.OpenSpec := { _root_.Go.OpenSpec.ofChange s with cond := some uptoSmall }

/-- 'laws.FnCircles', WHERE WHAT IT READS IS OF BULK AT MOST 1048576: true; the input reads as it did. -/
def fnCirclesUptoRow : OpenClaim := { program := "ytdiohjdfiambhaa", sum := "5cd1029796e90b15bb03a0c866b0edf5ad42bef44c295d353ef7977e87494858", func := "loop.example/g01115/laws.FnCircles", spec := "fnCircles", unfollowed := true, recurses := true, apart := false, narrowed := true }
def FnCirclesUptoSaid : Prop := fnCirclesUptoRow.holds Try.pinned (OpenSpec.upto fnCirclesSpec)

/-- 'laws.FnParkingRanks', WHERE WHAT IT READS IS OF BULK AT MOST 1048576: true; the input reads as it did. -/
def fnParkingRanksUptoRow : OpenClaim := { program := "ytdiohjdfiambhaa", sum := "5cd1029796e90b15bb03a0c866b0edf5ad42bef44c295d353ef7977e87494858", func := "loop.example/g01115/laws.FnParkingRanks", spec := "fnParkingRanks", unfollowed := true, recurses := true, apart := false, narrowed := true }
def FnParkingRanksUptoSaid : Prop := fnParkingRanksUptoRow.holds Try.pinned (OpenSpec.upto fnParkingRanksSpec)

/-- 'laws.FnParkingCounts', WHERE WHAT IT READS IS OF BULK AT MOST 1048576: true; the input reads as it did. -/
def fnParkingCountsUptoRow : OpenClaim := { program := "ytdiohjdfiambhaa", sum := "5cd1029796e90b15bb03a0c866b0edf5ad42bef44c295d353ef7977e87494858", func := "loop.example/g01115/laws.FnParkingCounts", spec := "fnParkingCounts", unfollowed := true, recurses := true, apart := false, narrowed := true }
def FnParkingCountsUptoSaid : Prop := fnParkingCountsUptoRow.holds Try.pinned (OpenSpec.upto fnParkingCountsSpec)

/-- 'laws.FnExactSortedFits', WHERE WHAT IT READS IS OF BULK AT MOST 1048576: true; the input reads as it did. -/
def fnExactSortedFitsUptoRow : OpenClaim := { program := "ytdiohjdfiambhaa", sum := "5cd1029796e90b15bb03a0c866b0edf5ad42bef44c295d353ef7977e87494858", func := "loop.example/g01115/laws.FnExactSortedFits", spec := "fnExactSortedFits", unfollowed := true, recurses := true, apart := false, narrowed := true }
def FnExactSortedFitsUptoSaid : Prop := fnExactSortedFitsUptoRow.holds Try.pinned (OpenSpec.upto fnExactSortedFitsSpec)

/-- 'laws.FnExactCountWithOutcome', WHERE WHAT IT READS IS OF BULK AT MOST 1048576: true; the input reads as it did. -/
def fnExactCountWithOutcomeUptoRow : OpenClaim := { program := "ytdiohjdfiambhaa", sum := "5cd1029796e90b15bb03a0c866b0edf5ad42bef44c295d353ef7977e87494858", func := "loop.example/g01115/laws.FnExactCountWithOutcome", spec := "fnExactCountWithOutcome", unfollowed := true, recurses := true, apart := false, narrowed := true }
def FnExactCountWithOutcomeUptoSaid : Prop := fnExactCountWithOutcomeUptoRow.holds Try.pinned (OpenSpec.upto fnExactCountWithOutcomeSpec)

/-- 'laws.FnExactTakenPlaces', WHERE WHAT IT READS IS OF BULK AT MOST 1048576: true; the input reads as it did. -/
def fnExactTakenPlacesUptoRow : OpenClaim := { program := "ytdiohjdfiambhaa", sum := "5cd1029796e90b15bb03a0c866b0edf5ad42bef44c295d353ef7977e87494858", func := "loop.example/g01115/laws.FnExactTakenPlaces", spec := "fnExactTakenPlaces", unfollowed := true, recurses := true, apart := false, narrowed := true }
def FnExactTakenPlacesUptoSaid : Prop := fnExactTakenPlacesUptoRow.holds Try.pinned (OpenSpec.upto fnExactTakenPlacesSpec)

/-- 'laws.FnExactCountOrders', WHERE WHAT IT READS IS OF BULK AT MOST 1048576: true; the input reads as it did. -/
def fnExactCountOrdersUptoRow : OpenClaim := { program := "ytdiohjdfiambhaa", sum := "5cd1029796e90b15bb03a0c866b0edf5ad42bef44c295d353ef7977e87494858", func := "loop.example/g01115/laws.FnExactCountOrders", spec := "fnExactCountOrders", unfollowed := true, recurses := true, apart := false, narrowed := true }
def FnExactCountOrdersUptoSaid : Prop := fnExactCountOrdersUptoRow.holds Try.pinned (OpenSpec.upto fnExactCountOrdersSpec)

/-- 'laws.FnExactAllWithOutcome', WHERE WHAT IT READS IS OF BULK AT MOST 1048576: true; the input reads as it did. -/
def fnExactAllWithOutcomeUptoRow : OpenClaim := { program := "ytdiohjdfiambhaa", sum := "5cd1029796e90b15bb03a0c866b0edf5ad42bef44c295d353ef7977e87494858", func := "loop.example/g01115/laws.FnExactAllWithOutcome", spec := "fnExactAllWithOutcome", unfollowed := true, recurses := true, apart := false, narrowed := true }
def FnExactAllWithOutcomeUptoSaid : Prop := fnExactAllWithOutcomeUptoRow.holds Try.pinned (OpenSpec.upto fnExactAllWithOutcomeSpec)

/-- 'laws.FnTakenPlacesStay', WHERE WHAT IT READS IS OF BULK AT MOST 1048576: true; the input reads as it did. -/
def fnTakenPlacesStayUptoRow : OpenClaim := { program := "ytdiohjdfiambhaa", sum := "5cd1029796e90b15bb03a0c866b0edf5ad42bef44c295d353ef7977e87494858", func := "loop.example/g01115/laws.FnTakenPlacesStay", spec := "fnTakenPlacesStay", unfollowed := true, recurses := true, apart := false, narrowed := true }
def FnTakenPlacesStayUptoSaid : Prop := fnTakenPlacesStayUptoRow.holds Try.pinned (OpenSpec.upto fnTakenPlacesStaySpec)

/-- 'laws.FnOutcomesCounted', WHERE WHAT IT READS IS OF BULK AT MOST 1048576: true; the input reads as it did. -/
def fnOutcomesCountedUptoRow : OpenClaim := { program := "ytdiohjdfiambhaa", sum := "5cd1029796e90b15bb03a0c866b0edf5ad42bef44c295d353ef7977e87494858", func := "loop.example/g01115/laws.FnOutcomesCounted", spec := "fnOutcomesCounted", unfollowed := true, recurses := true, apart := false, narrowed := true }
def FnOutcomesCountedUptoSaid : Prop := fnOutcomesCountedUptoRow.holds Try.pinned (OpenSpec.upto fnOutcomesCountedSpec)

/-- 'laws.FnParkingDecided', WHERE WHAT IT READS IS OF BULK AT MOST 1048576: true; the input reads as it did. -/
def fnParkingDecidedUptoRow : OpenClaim := { program := "ytdiohjdfiambhaa", sum := "5cd1029796e90b15bb03a0c866b0edf5ad42bef44c295d353ef7977e87494858", func := "loop.example/g01115/laws.FnParkingDecided", spec := "fnParkingDecided", unfollowed := true, recurses := true, apart := false, narrowed := true }
def FnParkingDecidedUptoSaid : Prop := fnParkingDecidedUptoRow.holds Try.pinned (OpenSpec.upto fnParkingDecidedSpec)

end Rows
end Go.Proofs.Ytdiohjdfiambhaa
