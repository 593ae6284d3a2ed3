/-
  DERIVED. GIVEN WITH THE SEED: THE CARDS: each row of YtmeejegdgfkogaaDoorRows.lean that lists a variable, with what it lists TIED to the program's text (the seventh form; the later family's looks); each row that meets fmt, with fmt's text TOLD by the authors' own Lean function (tested against real Go, not proved from fmt's source: count such statements apart). THE CARD IS WHAT COUNTS. Prove the row's statement (the work); the ties are given (YtmeejegdgfkogaaDoorTie.lean); close each card by the builder's one call (the guide's Derived/Test/ToyasCard.lean, 'card_holds'). Laid BY PROGRAM, IN A SANDBOX (cutbox-door.mjs). By AI agents, Wed Nov 11 2026. No macro, syntax, notation, axiom, sorry.
-/
import Derived.Test.YtmeejegdgfkogaaDoorRows
import GoSem.ClaimSeven
namespace Go.Proofs.YtmeejegdgfkogaaDoor
namespace Rows

/-- THE TIED CARD OF 'laws.FnExactReadActs'. -/
def fnExactReadActsCard : Claim7 := { stood := { row := fnExactReadActsRow, standIns := [], harness := (true, "9325ab8fdfea7c7423226e366c2b47159f3bc6f205bedbcbc8489ad569902194"), looks := true }, kinds := [], alts := [], laidByText := true, laidKinds := [.data, .data, .data, .data, .sentinel, .sentinel, .pinned], laidTests := true, laidLooks := .later }
def FnExactReadActsCardSaid : Prop := Claim7.holds Tryd.pinned (.plain (OpenSpec.ofChange fnExactReadActsSpec)) fnExactReadActsCard

/-- THE SECOND FORM's CARD OF 'laws.FnExactReadActs'. -/
def fnExactReadActsUptoCard : Claim7 := { stood := { row := fnExactReadActsUptoRow, standIns := [], harness := (true, "9325ab8fdfea7c7423226e366c2b47159f3bc6f205bedbcbc8489ad569902194"), looks := true }, kinds := [], alts := [], laidByText := true, laidKinds := [.data, .data, .data, .data, .sentinel, .sentinel, .pinned], laidTests := true, laidLooks := .later }
def FnExactReadActsUptoCardSaid : Prop := Claim7.holds Tryd.pinned (.plain (OpenSpec.upto fnExactReadActsSpec)) fnExactReadActsUptoCard
end Rows
end Go.Proofs.YtmeejegdgfkogaaDoor
