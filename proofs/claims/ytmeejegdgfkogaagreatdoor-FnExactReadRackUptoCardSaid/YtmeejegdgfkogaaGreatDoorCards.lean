/-
  DERIVED. GIVEN WITH THE SEED: THE CARDS: each row of YtmeejegdgfkogaaGreatDoorRows.lean that lists a variable, with what it lists TIED to the program's text (the seventh form; the later family's looks); each row that meets fmt, with fmt's text TOLD by the authors' own Lean function (tested against real Go, not proved from fmt's source: count such statements apart). THE CARD IS WHAT COUNTS. Prove the row's statement (the work); the ties are given (YtmeejegdgfkogaaGreatDoorTie.lean); close each card by the builder's one call (the guide's Derived/Test/ToyasCard.lean, 'card_holds'). Laid BY PROGRAM, IN A SANDBOX (cutbox-door.mjs). By AI agents, Wed Nov 11 2026. No macro, syntax, notation, axiom, sorry.
-/
import Derived.Test.YtmeejegdgfkogaaGreatDoorRows
import GoSem.ClaimSeven
namespace Go.Proofs.YtmeejegdgfkogaaGreatDoor
namespace Rows

/-- THE TIED CARD OF 'laws.FnExactReadRack'. -/
def fnExactReadRackCard : Claim7 := { stood := { row := fnExactReadRackRow, standIns := [], harness := (true, "d151a0d552468cc117c5a97679cfa3ae2d9fa6a56cd887ae26d5e242c0e99ffd"), looks := true }, kinds := [], alts := [], laidByText := true, laidKinds := [.data, .data, .data, .data, .sentinel, .sentinel, .pinned], laidTests := true, laidLooks := .later }
def FnExactReadRackCardSaid : Prop := Claim7.holds Tryz.pinned (.plain (OpenSpec.ofChange fnExactReadRackSpec)) fnExactReadRackCard

/-- THE SECOND FORM's CARD OF 'laws.FnExactReadRack'. -/
def fnExactReadRackUptoCard : Claim7 := { stood := { row := fnExactReadRackUptoRow, standIns := [], harness := (true, "d151a0d552468cc117c5a97679cfa3ae2d9fa6a56cd887ae26d5e242c0e99ffd"), looks := true }, kinds := [], alts := [], laidByText := true, laidKinds := [.data, .data, .data, .data, .sentinel, .sentinel, .pinned], laidTests := true, laidLooks := .later }
def FnExactReadRackUptoCardSaid : Prop := Claim7.holds Tryz.pinned (.plain (OpenSpec.upto fnExactReadRackSpec)) fnExactReadRackUptoCard
end Rows
end Go.Proofs.YtmeejegdgfkogaaGreatDoor
