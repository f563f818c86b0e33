/-
  DERIVED. GIVEN WITH THE SEED: THE CARDS: each row of YtjnchdccefdjmaaGreatDoorRows.lean that lists a variable, with what it lists TIED to the program's text (the seventh form; the later family's looks); each row that meets fmt, with fmt's text TOLD by the authors' own Lean function (tested against real Go, not proved from fmt's source: count such statements apart). THE CARD IS WHAT COUNTS. Prove the row's statement (the work); the ties are given (YtjnchdccefdjmaaGreatDoorTie.lean); close each card by the builder's one call (the guide's Derived/Test/ToyasCard.lean, 'card_holds'). Laid BY PROGRAM, IN A SANDBOX (cutbox-door.mjs). By AI agents, Wed Nov 11 2026. No macro, syntax, notation, axiom, sorry.
-/
import Derived.Test.YtjnchdccefdjmaaGreatDoorRows
import GoSem.ClaimSeven
namespace Go.Proofs.YtjnchdccefdjmaaGreatDoor
namespace Rows

/-- THE TIED CARD OF 'laws.FnCutsAndJoins'. -/
def fnCutsAndJoinsCard : Claim7 := { stood := { row := fnCutsAndJoinsRow, standIns := [], harness := (true, "76f7fd55906cc7633e78360ed3878682190fdaddecfaad38f7ebd5f3fa7687bc"), looks := true }, kinds := [], alts := [], laidByText := true, laidKinds := [.data, .data, .data, .data, .sentinel, .sentinel, .pinned], laidTests := true, laidLooks := .later }
def FnCutsAndJoinsCardSaid : Prop := Claim7.holds Tryz.pinned (.plain (OpenSpec.ofChange fnCutsAndJoinsSpec)) fnCutsAndJoinsCard

/-- THE SECOND FORM's CARD OF 'laws.FnCutsAndJoins'. -/
def fnCutsAndJoinsUptoCard : Claim7 := { stood := { row := fnCutsAndJoinsUptoRow, standIns := [], harness := (true, "76f7fd55906cc7633e78360ed3878682190fdaddecfaad38f7ebd5f3fa7687bc"), looks := true }, kinds := [], alts := [], laidByText := true, laidKinds := [.data, .data, .data, .data, .sentinel, .sentinel, .pinned], laidTests := true, laidLooks := .later }
def FnCutsAndJoinsUptoCardSaid : Prop := Claim7.holds Tryz.pinned (.plain (OpenSpec.upto fnCutsAndJoinsSpec)) fnCutsAndJoinsUptoCard
end Rows
end Go.Proofs.YtjnchdccefdjmaaGreatDoor
