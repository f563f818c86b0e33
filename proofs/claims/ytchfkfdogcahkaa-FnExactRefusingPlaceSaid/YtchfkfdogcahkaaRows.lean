/-
  No cell of these rows narrows 'for every input' (looked for: loops, veiled, ifaces, maps, wideKeys, modest, calm, conditions, laid).
  DERIVED. THE GIVEN ROWS OF THIS SEAT. 12 by the template 'for every input the law returns true; each argument reads behind the call as it read before'; 0 by the template 'total and deterministic' (their statements: YtchfkfdogcahkaaTotals.lean).
  GIVEN WITH THE SEED: the statements are not yours to turn. If you find one false, say at which input.
  Laid BY PROGRAM, IN A SANDBOX (cutbox-rows.mjs): the forced cells as the released guide's own fill.sh prints them over the translation fd1410ecc7a2735b… (all of the seat's roots in one cut). By AI agents, Wed Nov 11 2026. No macro, syntax, notation, axiom, sorry.
-/
import Derived.Test.YtchfkfdogcahkaaChecked
import GoSem.Claim
import GoSem.ClaimJoined
import GoSem.ClaimMapViews
import Derived.JoinedTies
import Derived.KernelRfl
namespace Go.Proofs.Ytchfkfdogcahkaa
/- THE CELL 'sum', in the pinned program and in every row, IS THE sha256 OF THE DUMP (.gsa) THAT YtchfkfdogcahkaaProg.lean LOADS. Nothing in Lean hashes anything: it is a label: what it is worth is what the hold of that sum in a sandbox is worth. -/
noncomputable def Try.pinned : Pinned := { name := "ytchfkfdogcahkaa", sum := "fd1410ecc7a2735b670ad4f333a58cb26aa0491b53c47eb709f1d38fb220078e", checked := Try.checked }
namespace Rows
def none {H : Type} : Left H := { results := [], args := [] }

/-- 'laws.FnExactConstants': WHATEVER THE INPUT: true; the input reads as it did. -/
def fnExactConstantsSpec : ChangeSpec := { name := "fnExactConstants", fn := fun _ => fun
  | [] => { results := [.lit (.bool true)], args := [] }
  | _ => none }
def fnExactConstantsRow : OpenClaim := { program := "ytchfkfdogcahkaa", sum := "fd1410ecc7a2735b670ad4f333a58cb26aa0491b53c47eb709f1d38fb220078e", func := "loop.example/g01115/laws.FnExactConstants", spec := "fnExactConstants", apart := false }
def FnExactConstantsSaid : Prop := fnExactConstantsRow.holds Try.pinned (OpenSpec.ofChange fnExactConstantsSpec)

/-- ITS FALSE NEIGHBOUR: 'it returns false'. Refute it at one input. -/
def fnExactConstantsWrong : ChangeSpec := { name := "fnExactConstants", fn := fun _ => fun
  | [] => { results := [.lit (.bool false)], args := [] }
  | _ => none }
def FnExactConstantsWrongFalsely : Prop := fnExactConstantsRow.holds Try.pinned (OpenSpec.ofChange fnExactConstantsWrong)

/-- 'laws.FnExactCountSorted': WHATEVER THE INPUT: true; the input reads as it did. -/
def fnExactCountSortedSpec : ChangeSpec := { name := "fnExactCountSorted", fn := fun _ => fun
  | [d] => { results := [.lit (.bool true)], args := [d] }
  | _ => none }
def fnExactCountSortedRow : OpenClaim := { program := "ytchfkfdogcahkaa", sum := "fd1410ecc7a2735b670ad4f333a58cb26aa0491b53c47eb709f1d38fb220078e", func := "loop.example/g01115/laws.FnExactCountSorted", spec := "fnExactCountSorted", apart := false }
def FnExactCountSortedSaid : Prop := fnExactCountSortedRow.holds Try.pinned (OpenSpec.ofChange fnExactCountSortedSpec)

/-- ITS FALSE NEIGHBOUR: 'it returns false'. Refute it at one input. -/
def fnExactCountSortedWrong : ChangeSpec := { name := "fnExactCountSorted", fn := fun _ => fun
  | [d] => { results := [.lit (.bool false)], args := [d] }
  | _ => none }
def FnExactCountSortedWrongFalsely : Prop := fnExactCountSortedRow.holds Try.pinned (OpenSpec.ofChange fnExactCountSortedWrong)

/-- 'laws.FnExactCountTrees': WHATEVER THE INPUT: true; the input reads as it did. -/
def fnExactCountTreesSpec : ChangeSpec := { name := "fnExactCountTrees", fn := fun _ => fun
  | [d] => { results := [.lit (.bool true)], args := [d] }
  | _ => none }
def fnExactCountTreesRow : OpenClaim := { program := "ytchfkfdogcahkaa", sum := "fd1410ecc7a2735b670ad4f333a58cb26aa0491b53c47eb709f1d38fb220078e", func := "loop.example/g01115/laws.FnExactCountTrees", spec := "fnExactCountTrees", apart := false }
def FnExactCountTreesSaid : Prop := fnExactCountTreesRow.holds Try.pinned (OpenSpec.ofChange fnExactCountTreesSpec)

/-- ITS FALSE NEIGHBOUR: 'it returns false'. Refute it at one input. -/
def fnExactCountTreesWrong : ChangeSpec := { name := "fnExactCountTrees", fn := fun _ => fun
  | [d] => { results := [.lit (.bool false)], args := [d] }
  | _ => none }
def FnExactCountTreesWrongFalsely : Prop := fnExactCountTreesRow.holds Try.pinned (OpenSpec.ofChange fnExactCountTreesWrong)

/-- 'laws.FnExactCountParking': WHATEVER THE INPUT: true; the input reads as it did. -/
def fnExactCountParkingSpec : ChangeSpec := { name := "fnExactCountParking", fn := fun _ => fun
  | [d] => { results := [.lit (.bool true)], args := [d] }
  | _ => none }
def fnExactCountParkingRow : OpenClaim := { program := "ytchfkfdogcahkaa", sum := "fd1410ecc7a2735b670ad4f333a58cb26aa0491b53c47eb709f1d38fb220078e", func := "loop.example/g01115/laws.FnExactCountParking", spec := "fnExactCountParking", apart := false }
def FnExactCountParkingSaid : Prop := fnExactCountParkingRow.holds Try.pinned (OpenSpec.ofChange fnExactCountParkingSpec)

/-- ITS FALSE NEIGHBOUR: 'it returns false'. Refute it at one input. -/
def fnExactCountParkingWrong : ChangeSpec := { name := "fnExactCountParking", fn := fun _ => fun
  | [d] => { results := [.lit (.bool false)], args := [d] }
  | _ => none }
def FnExactCountParkingWrongFalsely : Prop := fnExactCountParkingRow.holds Try.pinned (OpenSpec.ofChange fnExactCountParkingWrong)

/-- 'laws.FnExactCountForStreet': WHATEVER THE INPUT: true; the input reads as it did. -/
def fnExactCountForStreetSpec : ChangeSpec := { name := "fnExactCountForStreet", fn := fun _ => fun
  | [d1, d2] => { results := [.lit (.bool true)], args := [d1, d2] }
  | _ => none }
def fnExactCountForStreetRow : OpenClaim := { program := "ytchfkfdogcahkaa", sum := "fd1410ecc7a2735b670ad4f333a58cb26aa0491b53c47eb709f1d38fb220078e", func := "loop.example/g01115/laws.FnExactCountForStreet", spec := "fnExactCountForStreet", apart := false }
def FnExactCountForStreetSaid : Prop := fnExactCountForStreetRow.holds Try.pinned (OpenSpec.ofChange fnExactCountForStreetSpec)

/-- ITS FALSE NEIGHBOUR: 'it returns false'. Refute it at one input. -/
def fnExactCountForStreetWrong : ChangeSpec := { name := "fnExactCountForStreet", fn := fun _ => fun
  | [d1, d2] => { results := [.lit (.bool false)], args := [d1, d2] }
  | _ => none }
def FnExactCountForStreetWrongFalsely : Prop := fnExactCountForStreetRow.holds Try.pinned (OpenSpec.ofChange fnExactCountForStreetWrong)

/-- 'laws.FnExactAreFavourites': WHATEVER THE INPUT: true; the input reads as it did. -/
def fnExactAreFavouritesSpec : ChangeSpec := { name := "fnExactAreFavourites", fn := fun _ => fun
  | [d1, d2] => { results := [.lit (.bool true)], args := [d1, d2] }
  | _ => none }
def fnExactAreFavouritesRow : OpenClaim := { program := "ytchfkfdogcahkaa", sum := "fd1410ecc7a2735b670ad4f333a58cb26aa0491b53c47eb709f1d38fb220078e", func := "loop.example/g01115/laws.FnExactAreFavourites", spec := "fnExactAreFavourites", unfollowed := true, recurses := true, apart := false }
def FnExactAreFavouritesSaid : Prop := fnExactAreFavouritesRow.holds Try.pinned (OpenSpec.ofChange fnExactAreFavouritesSpec)

/-- ITS FALSE NEIGHBOUR: 'it returns false'. Refute it at one input. -/
def fnExactAreFavouritesWrong : ChangeSpec := { name := "fnExactAreFavourites", fn := fun _ => fun
  | [d1, d2] => { results := [.lit (.bool false)], args := [d1, d2] }
  | _ => none }
def FnExactAreFavouritesWrongFalsely : Prop := fnExactAreFavouritesRow.holds Try.pinned (OpenSpec.ofChange fnExactAreFavouritesWrong)

/-- 'laws.FnExactCountByLucky': WHATEVER THE INPUT: true; the input reads as it did. -/
def fnExactCountByLuckySpec : ChangeSpec := { name := "fnExactCountByLucky", fn := fun _ => fun
  | [d] => { results := [.lit (.bool true)], args := [d] }
  | _ => none }
def fnExactCountByLuckyRow : OpenClaim := { program := "ytchfkfdogcahkaa", sum := "fd1410ecc7a2735b670ad4f333a58cb26aa0491b53c47eb709f1d38fb220078e", func := "loop.example/g01115/laws.FnExactCountByLucky", spec := "fnExactCountByLucky", apart := false }
def FnExactCountByLuckySaid : Prop := fnExactCountByLuckyRow.holds Try.pinned (OpenSpec.ofChange fnExactCountByLuckySpec)

/-- ITS FALSE NEIGHBOUR: 'it returns false'. Refute it at one input. -/
def fnExactCountByLuckyWrong : ChangeSpec := { name := "fnExactCountByLucky", fn := fun _ => fun
  | [d] => { results := [.lit (.bool false)], args := [d] }
  | _ => none }
def FnExactCountByLuckyWrongFalsely : Prop := fnExactCountByLuckyRow.holds Try.pinned (OpenSpec.ofChange fnExactCountByLuckyWrong)

/-- 'laws.FnExactIsTree': WHATEVER THE INPUT: true; the input reads as it did. -/
def fnExactIsTreeSpec : ChangeSpec := { name := "fnExactIsTree", fn := fun _ => fun
  | [d] => { results := [.lit (.bool true)], args := [d] }
  | _ => none }
def fnExactIsTreeRow : OpenClaim := { program := "ytchfkfdogcahkaa", sum := "fd1410ecc7a2735b670ad4f333a58cb26aa0491b53c47eb709f1d38fb220078e", func := "loop.example/g01115/laws.FnExactIsTree", spec := "fnExactIsTree", unfollowed := true, recurses := true, apart := false }
def FnExactIsTreeSaid : Prop := fnExactIsTreeRow.holds Try.pinned (OpenSpec.ofChange fnExactIsTreeSpec)

/-- ITS FALSE NEIGHBOUR: 'it returns false'. Refute it at one input. -/
def fnExactIsTreeWrong : ChangeSpec := { name := "fnExactIsTree", fn := fun _ => fun
  | [d] => { results := [.lit (.bool false)], args := [d] }
  | _ => none }
def FnExactIsTreeWrongFalsely : Prop := fnExactIsTreeRow.holds Try.pinned (OpenSpec.ofChange fnExactIsTreeWrong)

/-- 'laws.FnExactRefusingPlace': WHATEVER THE INPUT: true; the input reads as it did. -/
def fnExactRefusingPlaceSpec : ChangeSpec := { name := "fnExactRefusingPlace", fn := fun _ => fun
  | [d1, d2] => { results := [.lit (.bool true)], args := [d1, d2] }
  | _ => none }
def fnExactRefusingPlaceRow : OpenClaim := { program := "ytchfkfdogcahkaa", sum := "fd1410ecc7a2735b670ad4f333a58cb26aa0491b53c47eb709f1d38fb220078e", func := "loop.example/g01115/laws.FnExactRefusingPlace", spec := "fnExactRefusingPlace", unfollowed := true, recurses := true, apart := false }
def FnExactRefusingPlaceSaid : Prop := fnExactRefusingPlaceRow.holds Try.pinned (OpenSpec.ofChange fnExactRefusingPlaceSpec)

/-- ITS FALSE NEIGHBOUR: 'it returns false'. Refute it at one input. -/
def fnExactRefusingPlaceWrong : ChangeSpec := { name := "fnExactRefusingPlace", fn := fun _ => fun
  | [d1, d2] => { results := [.lit (.bool false)], args := [d1, d2] }
  | _ => none }
def FnExactRefusingPlaceWrongFalsely : Prop := fnExactRefusingPlaceRow.holds Try.pinned (OpenSpec.ofChange fnExactRefusingPlaceWrong)

/-- 'laws.FnExactTurnFavourites': WHATEVER THE INPUT: true; the input reads as it did. -/
def fnExactTurnFavouritesSpec : ChangeSpec := { name := "fnExactTurnFavourites", fn := fun _ => fun
  | [d1, d2, d3] => { results := [.lit (.bool true)], args := [d1, d2, d3] }
  | _ => none }
def fnExactTurnFavouritesRow : OpenClaim := { program := "ytchfkfdogcahkaa", sum := "fd1410ecc7a2735b670ad4f333a58cb26aa0491b53c47eb709f1d38fb220078e", func := "loop.example/g01115/laws.FnExactTurnFavourites", spec := "fnExactTurnFavourites", unfollowed := true, recurses := true, apart := false }
def FnExactTurnFavouritesSaid : Prop := fnExactTurnFavouritesRow.holds Try.pinned (OpenSpec.ofChange fnExactTurnFavouritesSpec)

/-- ITS FALSE NEIGHBOUR: 'it returns false'. Refute it at one input. -/
def fnExactTurnFavouritesWrong : ChangeSpec := { name := "fnExactTurnFavourites", fn := fun _ => fun
  | [d1, d2, d3] => { results := [.lit (.bool false)], args := [d1, d2, d3] }
  | _ => none }
def FnExactTurnFavouritesWrongFalsely : Prop := fnExactTurnFavouritesRow.holds Try.pinned (OpenSpec.ofChange fnExactTurnFavouritesWrong)

/-- 'laws.FnExactDoAllPark': WHATEVER THE INPUT: true; the input reads as it did. -/
def fnExactDoAllParkSpec : ChangeSpec := { name := "fnExactDoAllPark", fn := fun _ => fun
  | [d1, d2] => { results := [.lit (.bool true)], args := [d1, d2] }
  | _ => none }
def fnExactDoAllParkRow : OpenClaim := { program := "ytchfkfdogcahkaa", sum := "fd1410ecc7a2735b670ad4f333a58cb26aa0491b53c47eb709f1d38fb220078e", func := "loop.example/g01115/laws.FnExactDoAllPark", spec := "fnExactDoAllPark", unfollowed := true, recurses := true, apart := false }
def FnExactDoAllParkSaid : Prop := fnExactDoAllParkRow.holds Try.pinned (OpenSpec.ofChange fnExactDoAllParkSpec)

/-- ITS FALSE NEIGHBOUR: 'it returns false'. Refute it at one input. -/
def fnExactDoAllParkWrong : ChangeSpec := { name := "fnExactDoAllPark", fn := fun _ => fun
  | [d1, d2] => { results := [.lit (.bool false)], args := [d1, d2] }
  | _ => none }
def FnExactDoAllParkWrongFalsely : Prop := fnExactDoAllParkRow.holds Try.pinned (OpenSpec.ofChange fnExactDoAllParkWrong)

/-- 'laws.FnExactIsParking': WHATEVER THE INPUT: true; the input reads as it did. -/
def fnExactIsParkingSpec : ChangeSpec := { name := "fnExactIsParking", fn := fun _ => fun
  | [d] => { results := [.lit (.bool true)], args := [d] }
  | _ => none }
def fnExactIsParkingRow : OpenClaim := { program := "ytchfkfdogcahkaa", sum := "fd1410ecc7a2735b670ad4f333a58cb26aa0491b53c47eb709f1d38fb220078e", func := "loop.example/g01115/laws.FnExactIsParking", spec := "fnExactIsParking", unfollowed := true, recurses := true, apart := false }
def FnExactIsParkingSaid : Prop := fnExactIsParkingRow.holds Try.pinned (OpenSpec.ofChange fnExactIsParkingSpec)

/-- ITS FALSE NEIGHBOUR: 'it returns false'. Refute it at one input. -/
def fnExactIsParkingWrong : ChangeSpec := { name := "fnExactIsParking", fn := fun _ => fun
  | [d] => { results := [.lit (.bool false)], args := [d] }
  | _ => none }
def FnExactIsParkingWrongFalsely : Prop := fnExactIsParkingRow.holds Try.pinned (OpenSpec.ofChange fnExactIsParkingWrong)

/- THE SECOND FORM. 'bulk': how many values and letters a reading holds, each counted each time it is reached (what is shared counts as often as it is met; a slice's spare places count too). A statement '..UptoSaid' is the law's where the arguments, and the package variables that the reading takes, are together of bulk at most 1048576: NARROWER than '..Said'. Prove '..Said' where nothing that the law and all that it calls make is longer than what came in: it says more and counts as full. Else prove '..UptoSaid'. A law counts once. -/
mutual
def uptoBulk {H : Type} : DataW H → Nat
  | .lit (.string bytes) => bytes.length + 1
  | .lit _ => 1
  | .nil => 1
  | .ptr d => uptoBulk d + 1
  | .slice elems spare => uptoBulkAll elems + uptoBulkAll spare + 1
  | .agg parts => uptoBulkAll parts + 1
  | .iface _ d => uptoBulk d + 1
  | .map entries => uptoBulkEntries entries + 1
  | .held _ => 1
def uptoBulkAll {H : Type} : List (DataW H) → Nat
  | [] => 0
  | d :: r => uptoBulk d + uptoBulkAll r
def uptoBulkEntries {H : Type} : List (Lit × DataW H) → Nat
  | [] => 0
  | x :: r => uptoBulkEntry x + uptoBulkEntries r
def uptoBulkEntry {H : Type} : Lit × DataW H → Nat
  | (.string bytes, d) => bytes.length + uptoBulk d + 1
  | (_, d) => uptoBulk d + 1
 end
def uptoSmall : (H : Type) → List (DataW H) → Bool := fun _ ds => decide (uptoBulkAll ds ≤ 1048576)
def OpenSpec.upto (s : _root_.Go.ChangeSpec) : _root_.Go.OpenSpec := { _root_.Go.OpenSpec.ofChange s with cond := some uptoSmall }

/-- 'laws.FnExactConstants', WHERE WHAT IT READS IS OF BULK AT MOST 1048576: true; the input reads as it did. -/
def fnExactConstantsUptoRow : OpenClaim := { program := "ytchfkfdogcahkaa", sum := "fd1410ecc7a2735b670ad4f333a58cb26aa0491b53c47eb709f1d38fb220078e", func := "loop.example/g01115/laws.FnExactConstants", spec := "fnExactConstants", apart := false, narrowed := true }
def FnExactConstantsUptoSaid : Prop := fnExactConstantsUptoRow.holds Try.pinned (OpenSpec.upto fnExactConstantsSpec)

/-- 'laws.FnExactCountSorted', WHERE WHAT IT READS IS OF BULK AT MOST 1048576: true; the input reads as it did. -/
def fnExactCountSortedUptoRow : OpenClaim := { program := "ytchfkfdogcahkaa", sum := "fd1410ecc7a2735b670ad4f333a58cb26aa0491b53c47eb709f1d38fb220078e", func := "loop.example/g01115/laws.FnExactCountSorted", spec := "fnExactCountSorted", apart := false, narrowed := true }
def FnExactCountSortedUptoSaid : Prop := fnExactCountSortedUptoRow.holds Try.pinned (OpenSpec.upto fnExactCountSortedSpec)

/-- 'laws.FnExactCountTrees', WHERE WHAT IT READS IS OF BULK AT MOST 1048576: true; the input reads as it did. -/
def fnExactCountTreesUptoRow : OpenClaim := { program := "ytchfkfdogcahkaa", sum := "fd1410ecc7a2735b670ad4f333a58cb26aa0491b53c47eb709f1d38fb220078e", func := "loop.example/g01115/laws.FnExactCountTrees", spec := "fnExactCountTrees", apart := false, narrowed := true }
def FnExactCountTreesUptoSaid : Prop := fnExactCountTreesUptoRow.holds Try.pinned (OpenSpec.upto fnExactCountTreesSpec)

/-- 'laws.FnExactCountParking', WHERE WHAT IT READS IS OF BULK AT MOST 1048576: true; the input reads as it did. -/
def fnExactCountParkingUptoRow : OpenClaim := { program := "ytchfkfdogcahkaa", sum := "fd1410ecc7a2735b670ad4f333a58cb26aa0491b53c47eb709f1d38fb220078e", func := "loop.example/g01115/laws.FnExactCountParking", spec := "fnExactCountParking", apart := false, narrowed := true }
def FnExactCountParkingUptoSaid : Prop := fnExactCountParkingUptoRow.holds Try.pinned (OpenSpec.upto fnExactCountParkingSpec)

/-- 'laws.FnExactCountForStreet', WHERE WHAT IT READS IS OF BULK AT MOST 1048576: true; the input reads as it did. -/
def fnExactCountForStreetUptoRow : OpenClaim := { program := "ytchfkfdogcahkaa", sum := "fd1410ecc7a2735b670ad4f333a58cb26aa0491b53c47eb709f1d38fb220078e", func := "loop.example/g01115/laws.FnExactCountForStreet", spec := "fnExactCountForStreet", apart := false, narrowed := true }
def FnExactCountForStreetUptoSaid : Prop := fnExactCountForStreetUptoRow.holds Try.pinned (OpenSpec.upto fnExactCountForStreetSpec)

/-- 'laws.FnExactAreFavourites', WHERE WHAT IT READS IS OF BULK AT MOST 1048576: true; the input reads as it did. -/
def fnExactAreFavouritesUptoRow : OpenClaim := { program := "ytchfkfdogcahkaa", sum := "fd1410ecc7a2735b670ad4f333a58cb26aa0491b53c47eb709f1d38fb220078e", func := "loop.example/g01115/laws.FnExactAreFavourites", spec := "fnExactAreFavourites", unfollowed := true, recurses := true, apart := false, narrowed := true }
def FnExactAreFavouritesUptoSaid : Prop := fnExactAreFavouritesUptoRow.holds Try.pinned (OpenSpec.upto fnExactAreFavouritesSpec)

/-- 'laws.FnExactCountByLucky', WHERE WHAT IT READS IS OF BULK AT MOST 1048576: true; the input reads as it did. -/
def fnExactCountByLuckyUptoRow : OpenClaim := { program := "ytchfkfdogcahkaa", sum := "fd1410ecc7a2735b670ad4f333a58cb26aa0491b53c47eb709f1d38fb220078e", func := "loop.example/g01115/laws.FnExactCountByLucky", spec := "fnExactCountByLucky", apart := false, narrowed := true }
def FnExactCountByLuckyUptoSaid : Prop := fnExactCountByLuckyUptoRow.holds Try.pinned (OpenSpec.upto fnExactCountByLuckySpec)

/-- 'laws.FnExactIsTree', WHERE WHAT IT READS IS OF BULK AT MOST 1048576: true; the input reads as it did. -/
def fnExactIsTreeUptoRow : OpenClaim := { program := "ytchfkfdogcahkaa", sum := "fd1410ecc7a2735b670ad4f333a58cb26aa0491b53c47eb709f1d38fb220078e", func := "loop.example/g01115/laws.FnExactIsTree", spec := "fnExactIsTree", unfollowed := true, recurses := true, apart := false, narrowed := true }
def FnExactIsTreeUptoSaid : Prop := fnExactIsTreeUptoRow.holds Try.pinned (OpenSpec.upto fnExactIsTreeSpec)

/-- 'laws.FnExactRefusingPlace', WHERE WHAT IT READS IS OF BULK AT MOST 1048576: true; the input reads as it did. -/
def fnExactRefusingPlaceUptoRow : OpenClaim := { program := "ytchfkfdogcahkaa", sum := "fd1410ecc7a2735b670ad4f333a58cb26aa0491b53c47eb709f1d38fb220078e", func := "loop.example/g01115/laws.FnExactRefusingPlace", spec := "fnExactRefusingPlace", unfollowed := true, recurses := true, apart := false, narrowed := true }
def FnExactRefusingPlaceUptoSaid : Prop := fnExactRefusingPlaceUptoRow.holds Try.pinned (OpenSpec.upto fnExactRefusingPlaceSpec)

/-- 'laws.FnExactTurnFavourites', WHERE WHAT IT READS IS OF BULK AT MOST 1048576: true; the input reads as it did. -/
def fnExactTurnFavouritesUptoRow : OpenClaim := { program := "ytchfkfdogcahkaa", sum := "fd1410ecc7a2735b670ad4f333a58cb26aa0491b53c47eb709f1d38fb220078e", func := "loop.example/g01115/laws.FnExactTurnFavourites", spec := "fnExactTurnFavourites", unfollowed := true, recurses := true, apart := false, narrowed := true }
def FnExactTurnFavouritesUptoSaid : Prop := fnExactTurnFavouritesUptoRow.holds Try.pinned (OpenSpec.upto fnExactTurnFavouritesSpec)

/-- 'laws.FnExactDoAllPark', WHERE WHAT IT READS IS OF BULK AT MOST 1048576: true; the input reads as it did. -/
def fnExactDoAllParkUptoRow : OpenClaim := { program := "ytchfkfdogcahkaa", sum := "fd1410ecc7a2735b670ad4f333a58cb26aa0491b53c47eb709f1d38fb220078e", func := "loop.example/g01115/laws.FnExactDoAllPark", spec := "fnExactDoAllPark", unfollowed := true, recurses := true, apart := false, narrowed := true }
def FnExactDoAllParkUptoSaid : Prop := fnExactDoAllParkUptoRow.holds Try.pinned (OpenSpec.upto fnExactDoAllParkSpec)

/-- 'laws.FnExactIsParking', WHERE WHAT IT READS IS OF BULK AT MOST 1048576: true; the input reads as it did. -/
def fnExactIsParkingUptoRow : OpenClaim := { program := "ytchfkfdogcahkaa", sum := "fd1410ecc7a2735b670ad4f333a58cb26aa0491b53c47eb709f1d38fb220078e", func := "loop.example/g01115/laws.FnExactIsParking", spec := "fnExactIsParking", unfollowed := true, recurses := true, apart := false, narrowed := true }
def FnExactIsParkingUptoSaid : Prop := fnExactIsParkingUptoRow.holds Try.pinned (OpenSpec.upto fnExactIsParkingSpec)

end Rows
end Go.Proofs.Ytchfkfdogcahkaa
