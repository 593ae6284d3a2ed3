/-
  DERIVED. GIVEN WITH THE SEED: THE CARDS: each row of YtilaphojceabkaaDoorRows.lean that lists a variable, with what it lists TIED to the program's text (the seventh form; the later family's looks); each row that meets fmt, with fmt's text TOLD by the authors' own Lean function (tested against real Go, not proved from fmt's source: count such statements apart). THE CARD IS WHAT COUNTS. Prove the row's statement (the work); the ties are given (YtilaphojceabkaaDoorTie.lean); close each card by the builder's one call (the guide's Derived/Test/ToyasCard.lean, 'card_holds'). Laid BY PROGRAM, IN A SANDBOX (cutbox-door.mjs). By AI agents, Wed Nov 11 2026. No macro, syntax, notation, axiom, sorry.
-/
import Derived.Test.YtilaphojceabkaaDoorRows
import GoSem.ClaimSeven
namespace Go.Proofs.YtilaphojceabkaaDoor
namespace Rows

/-- THE TIED CARD OF 'laws.FnExactActText'. -/
def fnExactActTextCard : Claim7 := { stood := { row := fnExactActTextRow, standIns := [], harness := (true, "454b455d720e1426f08d3771090aae80bd2f5d7e4151f033888baf36308672a4"), looks := true }, kinds := [], alts := [], laidByText := true, laidKinds := [.data, .data, .data], laidTests := true, laidLooks := .later }
def FnExactActTextCardSaid : Prop := Claim7.holds Tryd.pinned (.plain (OpenSpec.ofChange fnExactActTextSpec)) fnExactActTextCard

/-- THE TIED CARD OF 'laws.FnExactActsText'. -/
def fnExactActsTextCard : Claim7 := { stood := { row := fnExactActsTextRow, standIns := [], harness := (true, "454b455d720e1426f08d3771090aae80bd2f5d7e4151f033888baf36308672a4"), looks := true }, kinds := [], alts := [], laidByText := true, laidKinds := [.data, .data, .data], laidTests := true, laidLooks := .later }
def FnExactActsTextCardSaid : Prop := Claim7.holds Tryd.pinned (.plain (OpenSpec.ofChange fnExactActsTextSpec)) fnExactActsTextCard

/-- THE TIED CARD OF 'laws.FnExactLabelOf'. -/
def fnExactLabelOfCard : Claim7 := { stood := { row := fnExactLabelOfRow, standIns := [], harness := (true, "454b455d720e1426f08d3771090aae80bd2f5d7e4151f033888baf36308672a4"), looks := true }, kinds := [], alts := [], laidByText := true, laidKinds := [.data, .data, .data], laidTests := true, laidLooks := .later }
def FnExactLabelOfCardSaid : Prop := Claim7.holds Tryd.pinned (.plain (OpenSpec.ofChange fnExactLabelOfSpec)) fnExactLabelOfCard

/-- THE TIED CARD OF 'laws.FnExactRackText'. -/
def fnExactRackTextCard : Claim7 := { stood := { row := fnExactRackTextRow, standIns := [], harness := (true, "454b455d720e1426f08d3771090aae80bd2f5d7e4151f033888baf36308672a4"), looks := true }, kinds := [], alts := [], laidByText := true, laidKinds := [.data, .data, .data], laidTests := true, laidLooks := .later }
def FnExactRackTextCardSaid : Prop := Claim7.holds Tryd.pinned (.plain (OpenSpec.ofChange fnExactRackTextSpec)) fnExactRackTextCard

/-- THE TIED CARD OF 'laws.FnExactCheckLabel'. -/
def fnExactCheckLabelCard : Claim7 := { stood := { row := fnExactCheckLabelRow, standIns := [], harness := (true, "454b455d720e1426f08d3771090aae80bd2f5d7e4151f033888baf36308672a4"), looks := true }, kinds := [], alts := [], laidByText := true, laidKinds := [.data, .data, .data, .sentinel, .sentinel], laidTests := true, laidLooks := .later }
def FnExactCheckLabelCardSaid : Prop := Claim7.holds Tryd.pinned (.plain (OpenSpec.ofChange fnExactCheckLabelSpec)) fnExactCheckLabelCard

/-- THE TIED CARD OF 'laws.FnExactReadLabel'. -/
def fnExactReadLabelCard : Claim7 := { stood := { row := fnExactReadLabelRow, standIns := [], harness := (true, "454b455d720e1426f08d3771090aae80bd2f5d7e4151f033888baf36308672a4"), looks := true }, kinds := [], alts := [], laidByText := true, laidKinds := [.data, .data, .data, .sentinel, .sentinel], laidTests := true, laidLooks := .later }
def FnExactReadLabelCardSaid : Prop := Claim7.holds Tryd.pinned (.plain (OpenSpec.ofChange fnExactReadLabelSpec)) fnExactReadLabelCard

/-- THE TIED CARD OF 'laws.FnExactReadAct'. -/
def fnExactReadActCard : Claim7 := { stood := { row := fnExactReadActRow, standIns := [], harness := (true, "454b455d720e1426f08d3771090aae80bd2f5d7e4151f033888baf36308672a4"), looks := true }, kinds := [], alts := [], laidByText := true, laidKinds := [.data, .data, .data, .data, .sentinel, .sentinel, .pinned], laidTests := true, laidLooks := .later }
def FnExactReadActCardSaid : Prop := Claim7.holds Tryd.pinned (.plain (OpenSpec.ofChange fnExactReadActSpec)) fnExactReadActCard

/-- THE TIED CARD OF 'laws.FnExactReadActs'. -/
def fnExactReadActsCard : Claim7 := { stood := { row := fnExactReadActsRow, standIns := [], harness := (true, "454b455d720e1426f08d3771090aae80bd2f5d7e4151f033888baf36308672a4"), looks := true }, kinds := [], alts := [], laidByText := true, laidKinds := [.data, .data, .data, .data, .sentinel, .sentinel, .pinned], laidTests := true, laidLooks := .later }
def FnExactReadActsCardSaid : Prop := Claim7.holds Tryd.pinned (.plain (OpenSpec.ofChange fnExactReadActsSpec)) fnExactReadActsCard

/-- THE TIED CARD OF 'laws.FnExactSwappedLabels'. -/
def fnExactSwappedLabelsCard : Claim7 := { stood := { row := fnExactSwappedLabelsRow, standIns := [], harness := (true, "454b455d720e1426f08d3771090aae80bd2f5d7e4151f033888baf36308672a4"), looks := true }, kinds := [], alts := [], laidByText := true, laidKinds := [.data, .data, .data, .sentinel, .sentinel], laidTests := true, laidLooks := .later }
def FnExactSwappedLabelsCardSaid : Prop := Claim7.holds Tryd.pinned (.plain (OpenSpec.ofChange fnExactSwappedLabelsSpec)) fnExactSwappedLabelsCard

/-- THE TIED CARD OF 'laws.FnExactNearLabels'. -/
def fnExactNearLabelsCard : Claim7 := { stood := { row := fnExactNearLabelsRow, standIns := [], harness := (true, "454b455d720e1426f08d3771090aae80bd2f5d7e4151f033888baf36308672a4"), looks := true }, kinds := [], alts := [], laidByText := true, laidKinds := [.data, .data, .data, .sentinel, .sentinel], laidTests := true, laidLooks := .later }
def FnExactNearLabelsCardSaid : Prop := Claim7.holds Tryd.pinned (.plain (OpenSpec.ofChange fnExactNearLabelsSpec)) fnExactNearLabelsCard

/-- THE SECOND FORM's CARD OF 'laws.FnExactActText'. -/
def fnExactActTextUptoCard : Claim7 := { stood := { row := fnExactActTextUptoRow, standIns := [], harness := (true, "454b455d720e1426f08d3771090aae80bd2f5d7e4151f033888baf36308672a4"), looks := true }, kinds := [], alts := [], laidByText := true, laidKinds := [.data, .data, .data], laidTests := true, laidLooks := .later }
def FnExactActTextUptoCardSaid : Prop := Claim7.holds Tryd.pinned (.plain (OpenSpec.upto fnExactActTextSpec)) fnExactActTextUptoCard

/-- THE SECOND FORM's CARD OF 'laws.FnExactActsText'. -/
def fnExactActsTextUptoCard : Claim7 := { stood := { row := fnExactActsTextUptoRow, standIns := [], harness := (true, "454b455d720e1426f08d3771090aae80bd2f5d7e4151f033888baf36308672a4"), looks := true }, kinds := [], alts := [], laidByText := true, laidKinds := [.data, .data, .data], laidTests := true, laidLooks := .later }
def FnExactActsTextUptoCardSaid : Prop := Claim7.holds Tryd.pinned (.plain (OpenSpec.upto fnExactActsTextSpec)) fnExactActsTextUptoCard

/-- THE SECOND FORM's CARD OF 'laws.FnExactLabelOf'. -/
def fnExactLabelOfUptoCard : Claim7 := { stood := { row := fnExactLabelOfUptoRow, standIns := [], harness := (true, "454b455d720e1426f08d3771090aae80bd2f5d7e4151f033888baf36308672a4"), looks := true }, kinds := [], alts := [], laidByText := true, laidKinds := [.data, .data, .data], laidTests := true, laidLooks := .later }
def FnExactLabelOfUptoCardSaid : Prop := Claim7.holds Tryd.pinned (.plain (OpenSpec.upto fnExactLabelOfSpec)) fnExactLabelOfUptoCard

/-- THE SECOND FORM's CARD OF 'laws.FnExactRackText'. -/
def fnExactRackTextUptoCard : Claim7 := { stood := { row := fnExactRackTextUptoRow, standIns := [], harness := (true, "454b455d720e1426f08d3771090aae80bd2f5d7e4151f033888baf36308672a4"), looks := true }, kinds := [], alts := [], laidByText := true, laidKinds := [.data, .data, .data], laidTests := true, laidLooks := .later }
def FnExactRackTextUptoCardSaid : Prop := Claim7.holds Tryd.pinned (.plain (OpenSpec.upto fnExactRackTextSpec)) fnExactRackTextUptoCard

/-- THE SECOND FORM's CARD OF 'laws.FnExactCheckLabel'. -/
def fnExactCheckLabelUptoCard : Claim7 := { stood := { row := fnExactCheckLabelUptoRow, standIns := [], harness := (true, "454b455d720e1426f08d3771090aae80bd2f5d7e4151f033888baf36308672a4"), looks := true }, kinds := [], alts := [], laidByText := true, laidKinds := [.data, .data, .data, .sentinel, .sentinel], laidTests := true, laidLooks := .later }
def FnExactCheckLabelUptoCardSaid : Prop := Claim7.holds Tryd.pinned (.plain (OpenSpec.upto fnExactCheckLabelSpec)) fnExactCheckLabelUptoCard

/-- THE SECOND FORM's CARD OF 'laws.FnExactReadLabel'. -/
def fnExactReadLabelUptoCard : Claim7 := { stood := { row := fnExactReadLabelUptoRow, standIns := [], harness := (true, "454b455d720e1426f08d3771090aae80bd2f5d7e4151f033888baf36308672a4"), looks := true }, kinds := [], alts := [], laidByText := true, laidKinds := [.data, .data, .data, .sentinel, .sentinel], laidTests := true, laidLooks := .later }
def FnExactReadLabelUptoCardSaid : Prop := Claim7.holds Tryd.pinned (.plain (OpenSpec.upto fnExactReadLabelSpec)) fnExactReadLabelUptoCard

/-- THE SECOND FORM's CARD OF 'laws.FnExactReadAct'. -/
def fnExactReadActUptoCard : Claim7 := { stood := { row := fnExactReadActUptoRow, standIns := [], harness := (true, "454b455d720e1426f08d3771090aae80bd2f5d7e4151f033888baf36308672a4"), looks := true }, kinds := [], alts := [], laidByText := true, laidKinds := [.data, .data, .data, .data, .sentinel, .sentinel, .pinned], laidTests := true, laidLooks := .later }
def FnExactReadActUptoCardSaid : Prop := Claim7.holds Tryd.pinned (.plain (OpenSpec.upto fnExactReadActSpec)) fnExactReadActUptoCard

/-- THE SECOND FORM's CARD OF 'laws.FnExactReadActs'. -/
def fnExactReadActsUptoCard : Claim7 := { stood := { row := fnExactReadActsUptoRow, standIns := [], harness := (true, "454b455d720e1426f08d3771090aae80bd2f5d7e4151f033888baf36308672a4"), looks := true }, kinds := [], alts := [], laidByText := true, laidKinds := [.data, .data, .data, .data, .sentinel, .sentinel, .pinned], laidTests := true, laidLooks := .later }
def FnExactReadActsUptoCardSaid : Prop := Claim7.holds Tryd.pinned (.plain (OpenSpec.upto fnExactReadActsSpec)) fnExactReadActsUptoCard

/-- THE SECOND FORM's CARD OF 'laws.FnExactSwappedLabels'. -/
def fnExactSwappedLabelsUptoCard : Claim7 := { stood := { row := fnExactSwappedLabelsUptoRow, standIns := [], harness := (true, "454b455d720e1426f08d3771090aae80bd2f5d7e4151f033888baf36308672a4"), looks := true }, kinds := [], alts := [], laidByText := true, laidKinds := [.data, .data, .data, .sentinel, .sentinel], laidTests := true, laidLooks := .later }
def FnExactSwappedLabelsUptoCardSaid : Prop := Claim7.holds Tryd.pinned (.plain (OpenSpec.upto fnExactSwappedLabelsSpec)) fnExactSwappedLabelsUptoCard

/-- THE SECOND FORM's CARD OF 'laws.FnExactNearLabels'. -/
def fnExactNearLabelsUptoCard : Claim7 := { stood := { row := fnExactNearLabelsUptoRow, standIns := [], harness := (true, "454b455d720e1426f08d3771090aae80bd2f5d7e4151f033888baf36308672a4"), looks := true }, kinds := [], alts := [], laidByText := true, laidKinds := [.data, .data, .data, .sentinel, .sentinel], laidTests := true, laidLooks := .later }
def FnExactNearLabelsUptoCardSaid : Prop := Claim7.holds Tryd.pinned (.plain (OpenSpec.upto fnExactNearLabelsSpec)) fnExactNearLabelsUptoCard
end Rows
end Go.Proofs.YtilaphojceabkaaDoor
