/-
  No cell of these rows narrows 'for every input' (looked for: loops, veiled, ifaces, maps, wideKeys, modest, calm, conditions, laid).
  DERIVED. THE GIVEN ROWS OF THIS SEAT. 8 by the template 'for every input the law returns true; each argument reads behind the call as it read before'; 0 by the template 'total and deterministic' (their statements: YtahdgoddpkmhbaaTotals.lean).
  GIVEN WITH THE SEED: the statements are not yours to turn. If you find one false, say at which input.
  Laid BY PROGRAM, IN A SANDBOX (cutbox-rows.mjs): the forced cells as the released guide's own fill.sh prints them over the translation 3405fa6d238e4cb4… (all of the seat's roots in one cut). By AI agents, Wed Nov 11 2026. No macro, syntax, notation, axiom, sorry.
-/
import Derived.Test.YtahdgoddpkmhbaaChecked
import GoSem.Claim
import GoSem.ClaimJoined
import GoSem.ClaimMapViews
import Derived.JoinedTies
import Derived.KernelRfl
namespace Go.Proofs.Ytahdgoddpkmhbaa
/- THE CELL 'sum', in the pinned program and in every row, IS THE sha256 OF THE DUMP (.gsa) THAT YtahdgoddpkmhbaaProg.lean LOADS. Nothing in Lean hashes anything: it is a label: what it is worth is what the hold of that sum in a sandbox is worth. -/
noncomputable def Try.pinned : Pinned := { name := "ytahdgoddpkmhbaa", sum := "3405fa6d238e4cb4ad8e2741aa858383cad4986499f4caa8c7fced5e20bea2c6", checked := Try.checked }
namespace Rows
def none {H : Type} : Left H := { results := [], args := [] }

/-- 'laws.FnExactHeaviestShelf': WHATEVER THE INPUT: true; the input reads as it did. -/
def fnExactHeaviestShelfSpec : ChangeSpec := { name := "fnExactHeaviestShelf", fn := fun _ => fun
  | [d1, d2] => { results := [.lit (.bool true)], args := [d1, d2] }
  | _ => none }
def fnExactHeaviestShelfRow : OpenClaim := { program := "ytahdgoddpkmhbaa", sum := "3405fa6d238e4cb4ad8e2741aa858383cad4986499f4caa8c7fced5e20bea2c6", func := "loop.example/g01326/laws.FnExactHeaviestShelf", spec := "fnExactHeaviestShelf", unfollowed := true, recurses := true, plainKeys := false, apart := false }
def FnExactHeaviestShelfSaid : Prop := fnExactHeaviestShelfRow.holds Try.pinned (OpenSpec.ofChange fnExactHeaviestShelfSpec)

/-- ITS FALSE NEIGHBOUR: 'it returns false'. Refute it at one input. -/
def fnExactHeaviestShelfWrong : ChangeSpec := { name := "fnExactHeaviestShelf", fn := fun _ => fun
  | [d1, d2] => { results := [.lit (.bool false)], args := [d1, d2] }
  | _ => none }
def FnExactHeaviestShelfWrongFalsely : Prop := fnExactHeaviestShelfRow.holds Try.pinned (OpenSpec.ofChange fnExactHeaviestShelfWrong)

/-- 'laws.FnExactWithoutBooks': WHATEVER THE INPUT: true; the input reads as it did. -/
def fnExactWithoutBooksSpec : ChangeSpec := { name := "fnExactWithoutBooks", fn := fun _ => fun
  | [d1, d2] => { results := [.lit (.bool true)], args := [d1, d2] }
  | _ => none }
def fnExactWithoutBooksRow : OpenClaim := { program := "ytahdgoddpkmhbaa", sum := "3405fa6d238e4cb4ad8e2741aa858383cad4986499f4caa8c7fced5e20bea2c6", func := "loop.example/g01326/laws.FnExactWithoutBooks", spec := "fnExactWithoutBooks", unfollowed := true, recurses := true, plainKeys := false, apart := false }
def FnExactWithoutBooksSaid : Prop := fnExactWithoutBooksRow.holds Try.pinned (OpenSpec.ofChange fnExactWithoutBooksSpec)

/-- ITS FALSE NEIGHBOUR: 'it returns false'. Refute it at one input. -/
def fnExactWithoutBooksWrong : ChangeSpec := { name := "fnExactWithoutBooks", fn := fun _ => fun
  | [d1, d2] => { results := [.lit (.bool false)], args := [d1, d2] }
  | _ => none }
def FnExactWithoutBooksWrongFalsely : Prop := fnExactWithoutBooksRow.holds Try.pinned (OpenSpec.ofChange fnExactWithoutBooksWrong)

/-- 'laws.FnExactSameStock': WHATEVER THE INPUT: true; the input reads as it did. -/
def fnExactSameStockSpec : ChangeSpec := { name := "fnExactSameStock", fn := fun _ => fun
  | [d1, d2] => { results := [.lit (.bool true)], args := [d1, d2] }
  | _ => none }
def fnExactSameStockRow : OpenClaim := { program := "ytahdgoddpkmhbaa", sum := "3405fa6d238e4cb4ad8e2741aa858383cad4986499f4caa8c7fced5e20bea2c6", func := "loop.example/g01326/laws.FnExactSameStock", spec := "fnExactSameStock", unfollowed := true, recurses := true, plainKeys := false, apart := false }
def FnExactSameStockSaid : Prop := fnExactSameStockRow.holds Try.pinned (OpenSpec.ofChange fnExactSameStockSpec)

/-- ITS FALSE NEIGHBOUR: 'it returns false'. Refute it at one input. -/
def fnExactSameStockWrong : ChangeSpec := { name := "fnExactSameStock", fn := fun _ => fun
  | [d1, d2] => { results := [.lit (.bool false)], args := [d1, d2] }
  | _ => none }
def FnExactSameStockWrongFalsely : Prop := fnExactSameStockRow.holds Try.pinned (OpenSpec.ofChange fnExactSameStockWrong)

/-- 'laws.FnExactWalkTo': WHATEVER THE INPUT: true; the input reads as it did. -/
def fnExactWalkToSpec : ChangeSpec := { name := "fnExactWalkTo", fn := fun _ => fun
  | [d1, d2] => { results := [.lit (.bool true)], args := [d1, d2] }
  | _ => none }
def fnExactWalkToRow : OpenClaim := { program := "ytahdgoddpkmhbaa", sum := "3405fa6d238e4cb4ad8e2741aa858383cad4986499f4caa8c7fced5e20bea2c6", func := "loop.example/g01326/laws.FnExactWalkTo", spec := "fnExactWalkTo", unfollowed := true, recurses := true, plainKeys := false, apart := false }
def FnExactWalkToSaid : Prop := fnExactWalkToRow.holds Try.pinned (OpenSpec.ofChange fnExactWalkToSpec)

/-- ITS FALSE NEIGHBOUR: 'it returns false'. Refute it at one input. -/
def fnExactWalkToWrong : ChangeSpec := { name := "fnExactWalkTo", fn := fun _ => fun
  | [d1, d2] => { results := [.lit (.bool false)], args := [d1, d2] }
  | _ => none }
def FnExactWalkToWrongFalsely : Prop := fnExactWalkToRow.holds Try.pinned (OpenSpec.ofChange fnExactWalkToWrong)

/-- 'laws.FnExactForeignBooks': WHATEVER THE INPUT: true; the input reads as it did. -/
def fnExactForeignBooksSpec : ChangeSpec := { name := "fnExactForeignBooks", fn := fun _ => fun
  | [d1, d2] => { results := [.lit (.bool true)], args := [d1, d2] }
  | _ => none }
def fnExactForeignBooksRow : OpenClaim := { program := "ytahdgoddpkmhbaa", sum := "3405fa6d238e4cb4ad8e2741aa858383cad4986499f4caa8c7fced5e20bea2c6", func := "loop.example/g01326/laws.FnExactForeignBooks", spec := "fnExactForeignBooks", unfollowed := true, recurses := true, plainKeys := false, apart := false }
def FnExactForeignBooksSaid : Prop := fnExactForeignBooksRow.holds Try.pinned (OpenSpec.ofChange fnExactForeignBooksSpec)

/-- ITS FALSE NEIGHBOUR: 'it returns false'. Refute it at one input. -/
def fnExactForeignBooksWrong : ChangeSpec := { name := "fnExactForeignBooks", fn := fun _ => fun
  | [d1, d2] => { results := [.lit (.bool false)], args := [d1, d2] }
  | _ => none }
def FnExactForeignBooksWrongFalsely : Prop := fnExactForeignBooksRow.holds Try.pinned (OpenSpec.ofChange fnExactForeignBooksWrong)

/-- 'laws.FnExactMissingBooks': WHATEVER THE INPUT: true; the input reads as it did. -/
def fnExactMissingBooksSpec : ChangeSpec := { name := "fnExactMissingBooks", fn := fun _ => fun
  | [d1, d2] => { results := [.lit (.bool true)], args := [d1, d2] }
  | _ => none }
def fnExactMissingBooksRow : OpenClaim := { program := "ytahdgoddpkmhbaa", sum := "3405fa6d238e4cb4ad8e2741aa858383cad4986499f4caa8c7fced5e20bea2c6", func := "loop.example/g01326/laws.FnExactMissingBooks", spec := "fnExactMissingBooks", unfollowed := true, recurses := true, plainKeys := false, apart := false }
def FnExactMissingBooksSaid : Prop := fnExactMissingBooksRow.holds Try.pinned (OpenSpec.ofChange fnExactMissingBooksSpec)

/-- ITS FALSE NEIGHBOUR: 'it returns false'. Refute it at one input. -/
def fnExactMissingBooksWrong : ChangeSpec := { name := "fnExactMissingBooks", fn := fun _ => fun
  | [d1, d2] => { results := [.lit (.bool false)], args := [d1, d2] }
  | _ => none }
def FnExactMissingBooksWrongFalsely : Prop := fnExactMissingBooksRow.holds Try.pinned (OpenSpec.ofChange fnExactMissingBooksWrong)

/-- 'laws.FnExactOneSwap': WHATEVER THE INPUT: true; the input reads as it did. -/
def fnExactOneSwapSpec : ChangeSpec := { name := "fnExactOneSwap", fn := fun _ => fun
  | [d1, d2] => { results := [.lit (.bool true)], args := [d1, d2] }
  | _ => none }
def fnExactOneSwapRow : OpenClaim := { program := "ytahdgoddpkmhbaa", sum := "3405fa6d238e4cb4ad8e2741aa858383cad4986499f4caa8c7fced5e20bea2c6", func := "loop.example/g01326/laws.FnExactOneSwap", spec := "fnExactOneSwap", unfollowed := true, recurses := true, plainKeys := false, apart := false }
def FnExactOneSwapSaid : Prop := fnExactOneSwapRow.holds Try.pinned (OpenSpec.ofChange fnExactOneSwapSpec)

/-- ITS FALSE NEIGHBOUR: 'it returns false'. Refute it at one input. -/
def fnExactOneSwapWrong : ChangeSpec := { name := "fnExactOneSwap", fn := fun _ => fun
  | [d1, d2] => { results := [.lit (.bool false)], args := [d1, d2] }
  | _ => none }
def FnExactOneSwapWrongFalsely : Prop := fnExactOneSwapRow.holds Try.pinned (OpenSpec.ofChange fnExactOneSwapWrong)

/-- 'laws.FnExactRightPlaces': WHATEVER THE INPUT: true; the input reads as it did. -/
def fnExactRightPlacesSpec : ChangeSpec := { name := "fnExactRightPlaces", fn := fun _ => fun
  | [d1, d2] => { results := [.lit (.bool true)], args := [d1, d2] }
  | _ => none }
def fnExactRightPlacesRow : OpenClaim := { program := "ytahdgoddpkmhbaa", sum := "3405fa6d238e4cb4ad8e2741aa858383cad4986499f4caa8c7fced5e20bea2c6", func := "loop.example/g01326/laws.FnExactRightPlaces", spec := "fnExactRightPlaces", unfollowed := true, recurses := true, plainKeys := false, apart := false }
def FnExactRightPlacesSaid : Prop := fnExactRightPlacesRow.holds Try.pinned (OpenSpec.ofChange fnExactRightPlacesSpec)

/-- ITS FALSE NEIGHBOUR: 'it returns false'. Refute it at one input. -/
def fnExactRightPlacesWrong : ChangeSpec := { name := "fnExactRightPlaces", fn := fun _ => fun
  | [d1, d2] => { results := [.lit (.bool false)], args := [d1, d2] }
  | _ => none }
def FnExactRightPlacesWrongFalsely : Prop := fnExactRightPlacesRow.holds Try.pinned (OpenSpec.ofChange fnExactRightPlacesWrong)

/- THE SECOND FORM. 'bulk': how many values and letters a reading holds, each counted each time it is reached (what is shared counts as often as it is met; a slice's spare places count too). A statement '..UptoSaid' is the law's where the arguments, and the package variables that the reading takes, are together of bulk at most 1048576: NARROWER than '..Said'. Prove '..Said' where nothing that the law and all that it calls make is longer than what came in: it says more and counts as full. Else prove '..UptoSaid'. A law counts once. -/
mutual
def uptoBulk {H : Type} : DataW H → Nat
  | .lit (.string bytes) => bytes.length + 1
  | .lit _ => 1
  | .nil => 1
  | .ptr d => uptoBulk d + 1
  | .slice elems spare => uptoBulkAll elems + uptoBulkAll spare + 1
  | .agg parts => uptoBulkAll parts + 1
  | .iface _ d => uptoBulk d + 1
  | .map entries => uptoBulkEntries entries + 1
  | .held _ => 1
def uptoBulkAll {H : Type} : List (DataW H) → Nat
  | [] => 0
  | d :: r => uptoBulk d + uptoBulkAll r
def uptoBulkEntries {H : Type} : List (Lit × DataW H) → Nat
  | [] => 0
  | x :: r => uptoBulkEntry x + uptoBulkEntries r
def uptoBulkEntry {H : Type} : Lit × DataW H → Nat
  | (.string bytes, d) => bytes.length + uptoBulk d + 1
  | (_, d) => uptoBulk d + 1
 end
def uptoSmall : (H : Type) → List (DataW H) → Bool := fun _ ds => decide (uptoBulkAll ds ≤ 1048576)
def OpenSpec.upto (s : _root_.Go.ChangeSpec) : _root_.Go.OpenSpec := { _root_.Go.OpenSpec.ofChange s with cond := some uptoSmall }

/-- 'laws.FnExactHeaviestShelf', WHERE WHAT IT READS IS OF BULK AT MOST 1048576: true; the input reads as it did. -/
def fnExactHeaviestShelfUptoRow : OpenClaim := { program := "ytahdgoddpkmhbaa", sum := "3405fa6d238e4cb4ad8e2741aa858383cad4986499f4caa8c7fced5e20bea2c6", func := "loop.example/g01326/laws.FnExactHeaviestShelf", spec := "fnExactHeaviestShelf", unfollowed := true, recurses := true, plainKeys := false, apart := false, narrowed := true }
def FnExactHeaviestShelfUptoSaid : Prop := fnExactHeaviestShelfUptoRow.holds Try.pinned (OpenSpec.upto fnExactHeaviestShelfSpec)

/-- 'laws.FnExactWithoutBooks', WHERE WHAT IT READS IS OF BULK AT MOST 1048576: true; the input reads as it did. -/
def fnExactWithoutBooksUptoRow : OpenClaim := { program := "ytahdgoddpkmhbaa", sum := "3405fa6d238e4cb4ad8e2741aa858383cad4986499f4caa8c7fced5e20bea2c6", func := "loop.example/g01326/laws.FnExactWithoutBooks", spec := "fnExactWithoutBooks", unfollowed := true, recurses := true, plainKeys := false, apart := false, narrowed := true }
def FnExactWithoutBooksUptoSaid : Prop := fnExactWithoutBooksUptoRow.holds Try.pinned (OpenSpec.upto fnExactWithoutBooksSpec)

/-- 'laws.FnExactSameStock', WHERE WHAT IT READS IS OF BULK AT MOST 1048576: true; the input reads as it did. -/
def fnExactSameStockUptoRow : OpenClaim := { program := "ytahdgoddpkmhbaa", sum := "3405fa6d238e4cb4ad8e2741aa858383cad4986499f4caa8c7fced5e20bea2c6", func := "loop.example/g01326/laws.FnExactSameStock", spec := "fnExactSameStock", unfollowed := true, recurses := true, plainKeys := false, apart := false, narrowed := true }
def FnExactSameStockUptoSaid : Prop := fnExactSameStockUptoRow.holds Try.pinned (OpenSpec.upto fnExactSameStockSpec)

/-- 'laws.FnExactWalkTo', WHERE WHAT IT READS IS OF BULK AT MOST 1048576: true; the input reads as it did. -/
def fnExactWalkToUptoRow : OpenClaim := { program := "ytahdgoddpkmhbaa", sum := "3405fa6d238e4cb4ad8e2741aa858383cad4986499f4caa8c7fced5e20bea2c6", func := "loop.example/g01326/laws.FnExactWalkTo", spec := "fnExactWalkTo", unfollowed := true, recurses := true, plainKeys := false, apart := false, narrowed := true }
def FnExactWalkToUptoSaid : Prop := fnExactWalkToUptoRow.holds Try.pinned (OpenSpec.upto fnExactWalkToSpec)

/-- 'laws.FnExactForeignBooks', WHERE WHAT IT READS IS OF BULK AT MOST 1048576: true; the input reads as it did. -/
def fnExactForeignBooksUptoRow : OpenClaim := { program := "ytahdgoddpkmhbaa", sum := "3405fa6d238e4cb4ad8e2741aa858383cad4986499f4caa8c7fced5e20bea2c6", func := "loop.example/g01326/laws.FnExactForeignBooks", spec := "fnExactForeignBooks", unfollowed := true, recurses := true, plainKeys := false, apart := false, narrowed := true }
def FnExactForeignBooksUptoSaid : Prop := fnExactForeignBooksUptoRow.holds Try.pinned (OpenSpec.upto fnExactForeignBooksSpec)

/-- 'laws.FnExactMissingBooks', WHERE WHAT IT READS IS OF BULK AT MOST 1048576: true; the input reads as it did. -/
def fnExactMissingBooksUptoRow : OpenClaim := { program := "ytahdgoddpkmhbaa", sum := "3405fa6d238e4cb4ad8e2741aa858383cad4986499f4caa8c7fced5e20bea2c6", func := "loop.example/g01326/laws.FnExactMissingBooks", spec := "fnExactMissingBooks", unfollowed := true, recurses := true, plainKeys := false, apart := false, narrowed := true }
def FnExactMissingBooksUptoSaid : Prop := fnExactMissingBooksUptoRow.holds Try.pinned (OpenSpec.upto fnExactMissingBooksSpec)

/-- 'laws.FnExactOneSwap', WHERE WHAT IT READS IS OF BULK AT MOST 1048576: true; the input reads as it did. -/
def fnExactOneSwapUptoRow : OpenClaim := { program := "ytahdgoddpkmhbaa", sum := "3405fa6d238e4cb4ad8e2741aa858383cad4986499f4caa8c7fced5e20bea2c6", func := "loop.example/g01326/laws.FnExactOneSwap", spec := "fnExactOneSwap", unfollowed := true, recurses := true, plainKeys := false, apart := false, narrowed := true }
def FnExactOneSwapUptoSaid : Prop := fnExactOneSwapUptoRow.holds Try.pinned (OpenSpec.upto fnExactOneSwapSpec)

/-- 'laws.FnExactRightPlaces', WHERE WHAT IT READS IS OF BULK AT MOST 1048576: true; the input reads as it did. -/
def fnExactRightPlacesUptoRow : OpenClaim := { program := "ytahdgoddpkmhbaa", sum := "3405fa6d238e4cb4ad8e2741aa858383cad4986499f4caa8c7fced5e20bea2c6", func := "loop.example/g01326/laws.FnExactRightPlaces", spec := "fnExactRightPlaces", unfollowed := true, recurses := true, plainKeys := false, apart := false, narrowed := true }
def FnExactRightPlacesUptoSaid : Prop := fnExactRightPlacesUptoRow.holds Try.pinned (OpenSpec.upto fnExactRightPlacesSpec)

end Rows
end Go.Proofs.Ytahdgoddpkmhbaa
