/-
  DERIVED. GIVEN WITH THE SEED: THE CARDS: each row of YtjnchdccefdjmaaDoorRows.lean that lists a variable, with what it lists TIED to the program's text (the seventh form; the later family's looks); each row that meets fmt, with fmt's text TOLD by the authors' own Lean function (tested against real Go, not proved from fmt's source: count such statements apart). THE CARD IS WHAT COUNTS. Prove the row's statement (the work); the ties are given (YtjnchdccefdjmaaDoorTie.lean); close each card by the builder's one call (the guide's Derived/Test/ToyasCard.lean, 'card_holds'). Laid BY PROGRAM, IN A SANDBOX (cutbox-door.mjs). By AI agents, Wed Nov 11 2026. No macro, syntax, notation, axiom, sorry.
-/
import Derived.Test.YtjnchdccefdjmaaDoorRows
import GoSem.ClaimSeven
namespace Go.Proofs.YtjnchdccefdjmaaDoor
namespace Rows

/-- THE TIED CARD OF 'laws.FnExactParsePark'. -/
def fnExactParseParkCard : Claim7 := { stood := { row := fnExactParseParkRow, standIns := [], harness := (true, "4f3a7e6f7d50811ed0b05fd589cf4cc1f13a54f2e15d4be6ebf2a28196b71485"), looks := true }, kinds := [], alts := [], laidByText := true, laidKinds := [.data, .data, .data, .data, .sentinel, .sentinel, .pinned], laidTests := true, laidLooks := .later }
def FnExactParseParkCardSaid : Prop := Claim7.holds Tryd.pinned (.plain (OpenSpec.ofChange fnExactParseParkSpec)) fnExactParseParkCard

/-- THE TIED CARD OF 'laws.FnExactParkText'. -/
def fnExactParkTextCard : Claim7 := { stood := { row := fnExactParkTextRow, standIns := [], harness := (true, "4f3a7e6f7d50811ed0b05fd589cf4cc1f13a54f2e15d4be6ebf2a28196b71485"), looks := true }, kinds := [], alts := [], laidByText := true, laidKinds := [.data, .data, .data], laidTests := true, laidLooks := .later }
def FnExactParkTextCardSaid : Prop := Claim7.holds Tryd.pinned (.plain (OpenSpec.ofChange fnExactParkTextSpec)) fnExactParkTextCard

/-- THE SECOND FORM's CARD OF 'laws.FnExactParsePark'. -/
def fnExactParseParkUptoCard : Claim7 := { stood := { row := fnExactParseParkUptoRow, standIns := [], harness := (true, "4f3a7e6f7d50811ed0b05fd589cf4cc1f13a54f2e15d4be6ebf2a28196b71485"), looks := true }, kinds := [], alts := [], laidByText := true, laidKinds := [.data, .data, .data, .data, .sentinel, .sentinel, .pinned], laidTests := true, laidLooks := .later }
def FnExactParseParkUptoCardSaid : Prop := Claim7.holds Tryd.pinned (.plain (OpenSpec.upto fnExactParseParkSpec)) fnExactParseParkUptoCard

/-- THE SECOND FORM's CARD OF 'laws.FnExactParkText'. -/
def fnExactParkTextUptoCard : Claim7 := { stood := { row := fnExactParkTextUptoRow, standIns := [], harness := (true, "4f3a7e6f7d50811ed0b05fd589cf4cc1f13a54f2e15d4be6ebf2a28196b71485"), looks := true }, kinds := [], alts := [], laidByText := true, laidKinds := [.data, .data, .data], laidTests := true, laidLooks := .later }
def FnExactParkTextUptoCardSaid : Prop := Claim7.holds Tryd.pinned (.plain (OpenSpec.upto fnExactParkTextSpec)) fnExactParkTextUptoCard
end Rows
end Go.Proofs.YtjnchdccefdjmaaDoor
