/-
  DERIVED. GIVEN WITH THE SEED: THE CARDS: each row of YtenknlnnnicdeaaGreatDoorRows.lean that lists a variable, with what it lists TIED to the program's text (the seventh form; the later family's looks); each row that meets fmt, with fmt's text TOLD by the authors' own Lean function (tested against real Go, not proved from fmt's source: count such statements apart). THE CARD IS WHAT COUNTS. Prove the row's statement (the work); the ties are given (YtenknlnnnicdeaaGreatDoorTie.lean); close each card by the builder's one call (the guide's Derived/Test/ToyasCard.lean, 'card_holds'). Laid BY PROGRAM, IN A SANDBOX (cutbox-door.mjs). By AI agents, Wed Nov 11 2026. No macro, syntax, notation, axiom, sorry.
-/
import Derived.Test.YtenknlnnnicdeaaGreatDoorRows
import GoSem.ClaimSeven
namespace Go.Proofs.YtenknlnnnicdeaaGreatDoor
namespace Rows

/-- THE TIED CARD OF 'laws.FnStock'. -/
def fnStockCard : Claim7 := { stood := { row := fnStockRow, standIns := [], harness := (true, "c1c0feb4c3ce9e5e817ea320a22ab73d896849e5a3ded3ae1f5cbba9dbf85743"), looks := false }, kinds := [], alts := [], laidByText := true, laidKinds := [.data, .data, .data], laidTests := true, laidLooks := .later }
def FnStockCardSaid : Prop := Claim7.holds Tryz.pinned (.plain (OpenSpec.ofChange fnStockSpec)) fnStockCard

/-- THE SECOND FORM's CARD OF 'laws.FnStock'. -/
def fnStockUptoCard : Claim7 := { stood := { row := fnStockUptoRow, standIns := [], harness := (true, "c1c0feb4c3ce9e5e817ea320a22ab73d896849e5a3ded3ae1f5cbba9dbf85743"), looks := false }, kinds := [], alts := [], laidByText := true, laidKinds := [.data, .data, .data], laidTests := true, laidLooks := .later }
def FnStockUptoCardSaid : Prop := Claim7.holds Tryz.pinned (.plain (OpenSpec.upto fnStockSpec)) fnStockUptoCard
end Rows
end Go.Proofs.YtenknlnnnicdeaaGreatDoor
