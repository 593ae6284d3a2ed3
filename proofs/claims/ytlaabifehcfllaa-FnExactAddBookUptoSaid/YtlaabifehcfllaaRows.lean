/-
  No cell of these rows narrows 'for every input' (looked for: loops, veiled, ifaces, maps, wideKeys, modest, calm, conditions, laid).
  DERIVED. THE GIVEN ROWS OF THIS SEAT. 7 by the template 'for every input the law returns true; each argument reads behind the call as it read before'; 0 by the template 'total and deterministic' (their statements: YtlaabifehcfllaaTotals.lean).
  GIVEN WITH THE SEED: the statements are not yours to turn. If you find one false, say at which input.
  Laid BY PROGRAM, IN A SANDBOX (cutbox-rows.mjs): the forced cells as the released guide's own fill.sh prints them over the translation a1eee3c3967cf01d… (all of the seat's roots in one cut). By AI agents, Wed Nov 11 2026. No macro, syntax, notation, axiom, sorry.
-/
import Derived.Test.YtlaabifehcfllaaChecked
import GoSem.Claim
import GoSem.ClaimJoined
import GoSem.ClaimMapViews
import Derived.JoinedTies
import Derived.KernelRfl
namespace Go.Proofs.Ytlaabifehcfllaa
/- THE CELL 'sum', in the pinned program and in every row, IS THE sha256 OF THE DUMP (.gsa) THAT YtlaabifehcfllaaProg.lean LOADS. Nothing in Lean hashes anything: it is a label: what it is worth is what the hold of that sum in a sandbox is worth. -/
noncomputable def Try.pinned : Pinned := { name := "ytlaabifehcfllaa", sum := "a1eee3c3967cf01d199fd4bfbb29e1ed503a2e3e449dbc6650f8de3dd658d3c1", checked := Try.checked }
namespace Rows
def none {H : Type} : Left H := { results := [], args := [] }

/-- 'laws.FnExactOutOfPlace': WHATEVER THE INPUT: true; the input reads as it did. -/
def fnExactOutOfPlaceSpec : ChangeSpec := { name := "fnExactOutOfPlace", fn := fun _ => fun
  | [d] => { results := [.lit (.bool true)], args := [d] }
  | _ => none }
def fnExactOutOfPlaceRow : OpenClaim := { program := "ytlaabifehcfllaa", sum := "a1eee3c3967cf01d199fd4bfbb29e1ed503a2e3e449dbc6650f8de3dd658d3c1", func := "loop.example/g01326/laws.FnExactOutOfPlace", spec := "fnExactOutOfPlace", unfollowed := true, recurses := true, plainKeys := false, apart := false }
def FnExactOutOfPlaceSaid : Prop := fnExactOutOfPlaceRow.holds Try.pinned (OpenSpec.ofChange fnExactOutOfPlaceSpec)

/-- ITS FALSE NEIGHBOUR: 'it returns false'. Refute it at one input. -/
def fnExactOutOfPlaceWrong : ChangeSpec := { name := "fnExactOutOfPlace", fn := fun _ => fun
  | [d] => { results := [.lit (.bool false)], args := [d] }
  | _ => none }
def FnExactOutOfPlaceWrongFalsely : Prop := fnExactOutOfPlaceRow.holds Try.pinned (OpenSpec.ofChange fnExactOutOfPlaceWrong)

/-- 'laws.FnExactFewestSlips': WHATEVER THE INPUT: true; the input reads as it did. -/
def fnExactFewestSlipsSpec : ChangeSpec := { name := "fnExactFewestSlips", fn := fun _ => fun
  | [d1, d2] => { results := [.lit (.bool true)], args := [d1, d2] }
  | _ => none }
def fnExactFewestSlipsRow : OpenClaim := { program := "ytlaabifehcfllaa", sum := "a1eee3c3967cf01d199fd4bfbb29e1ed503a2e3e449dbc6650f8de3dd658d3c1", func := "loop.example/g01326/laws.FnExactFewestSlips", spec := "fnExactFewestSlips", unfollowed := true, recurses := true, plainKeys := false, apart := false }
def FnExactFewestSlipsSaid : Prop := fnExactFewestSlipsRow.holds Try.pinned (OpenSpec.ofChange fnExactFewestSlipsSpec)

/-- ITS FALSE NEIGHBOUR: 'it returns false'. Refute it at one input. -/
def fnExactFewestSlipsWrong : ChangeSpec := { name := "fnExactFewestSlips", fn := fun _ => fun
  | [d1, d2] => { results := [.lit (.bool false)], args := [d1, d2] }
  | _ => none }
def FnExactFewestSlipsWrongFalsely : Prop := fnExactFewestSlipsRow.holds Try.pinned (OpenSpec.ofChange fnExactFewestSlipsWrong)

/-- 'laws.FnExactOneSlip': WHATEVER THE INPUT: true; the input reads as it did. -/
def fnExactOneSlipSpec : ChangeSpec := { name := "fnExactOneSlip", fn := fun _ => fun
  | [d1, d2] => { results := [.lit (.bool true)], args := [d1, d2] }
  | _ => none }
def fnExactOneSlipRow : OpenClaim := { program := "ytlaabifehcfllaa", sum := "a1eee3c3967cf01d199fd4bfbb29e1ed503a2e3e449dbc6650f8de3dd658d3c1", func := "loop.example/g01326/laws.FnExactOneSlip", spec := "fnExactOneSlip", inPlace := ["slices.overlaps[loop.example/g01326/impl.Book]"], unfollowed := true, recurses := true, plainKeys := false, apart := false }
def FnExactOneSlipSaid : Prop := fnExactOneSlipRow.holds Try.pinned (OpenSpec.ofChange fnExactOneSlipSpec)

/-- ITS FALSE NEIGHBOUR: 'it returns false'. Refute it at one input. -/
def fnExactOneSlipWrong : ChangeSpec := { name := "fnExactOneSlip", fn := fun _ => fun
  | [d1, d2] => { results := [.lit (.bool false)], args := [d1, d2] }
  | _ => none }
def FnExactOneSlipWrongFalsely : Prop := fnExactOneSlipRow.holds Try.pinned (OpenSpec.ofChange fnExactOneSlipWrong)

/-- 'laws.FnExactTakeBook': WHATEVER THE INPUT: true; the input reads as it did. -/
def fnExactTakeBookSpec : ChangeSpec := { name := "fnExactTakeBook", fn := fun _ => fun
  | [d1, d2] => { results := [.lit (.bool true)], args := [d1, d2] }
  | _ => none }
def fnExactTakeBookRow : OpenClaim := { program := "ytlaabifehcfllaa", sum := "a1eee3c3967cf01d199fd4bfbb29e1ed503a2e3e449dbc6650f8de3dd658d3c1", func := "loop.example/g01326/laws.FnExactTakeBook", spec := "fnExactTakeBook", unfollowed := true, recurses := true, plainKeys := false, apart := false }
def FnExactTakeBookSaid : Prop := fnExactTakeBookRow.holds Try.pinned (OpenSpec.ofChange fnExactTakeBookSpec)

/-- ITS FALSE NEIGHBOUR: 'it returns false'. Refute it at one input. -/
def fnExactTakeBookWrong : ChangeSpec := { name := "fnExactTakeBook", fn := fun _ => fun
  | [d1, d2] => { results := [.lit (.bool false)], args := [d1, d2] }
  | _ => none }
def FnExactTakeBookWrongFalsely : Prop := fnExactTakeBookRow.holds Try.pinned (OpenSpec.ofChange fnExactTakeBookWrong)

/-- 'laws.FnExactAddBook': WHATEVER THE INPUT: true; the input reads as it did. -/
def fnExactAddBookSpec : ChangeSpec := { name := "fnExactAddBook", fn := fun _ => fun
  | [d1, d2] => { results := [.lit (.bool true)], args := [d1, d2] }
  | _ => none }
def fnExactAddBookRow : OpenClaim := { program := "ytlaabifehcfllaa", sum := "a1eee3c3967cf01d199fd4bfbb29e1ed503a2e3e449dbc6650f8de3dd658d3c1", func := "loop.example/g01326/laws.FnExactAddBook", spec := "fnExactAddBook", inPlace := ["slices.overlaps[loop.example/g01326/impl.Placed]"], unfollowed := true, recurses := true, plainKeys := false, apart := false }
def FnExactAddBookSaid : Prop := fnExactAddBookRow.holds Try.pinned (OpenSpec.ofChange fnExactAddBookSpec)

/-- ITS FALSE NEIGHBOUR: 'it returns false'. Refute it at one input. -/
def fnExactAddBookWrong : ChangeSpec := { name := "fnExactAddBook", fn := fun _ => fun
  | [d1, d2] => { results := [.lit (.bool false)], args := [d1, d2] }
  | _ => none }
def FnExactAddBookWrongFalsely : Prop := fnExactAddBookRow.holds Try.pinned (OpenSpec.ofChange fnExactAddBookWrong)

/-- 'laws.FnExactAddAll': WHATEVER THE INPUT: true; the input reads as it did. -/
def fnExactAddAllSpec : ChangeSpec := { name := "fnExactAddAll", fn := fun _ => fun
  | [d1, d2] => { results := [.lit (.bool true)], args := [d1, d2] }
  | _ => none }
def fnExactAddAllRow : OpenClaim := { program := "ytlaabifehcfllaa", sum := "a1eee3c3967cf01d199fd4bfbb29e1ed503a2e3e449dbc6650f8de3dd658d3c1", func := "loop.example/g01326/laws.FnExactAddAll", spec := "fnExactAddAll", inPlace := ["slices.overlaps[loop.example/g01326/impl.Placed]"], unfollowed := true, recurses := true, plainKeys := false, apart := false }
def FnExactAddAllSaid : Prop := fnExactAddAllRow.holds Try.pinned (OpenSpec.ofChange fnExactAddAllSpec)

/-- ITS FALSE NEIGHBOUR: 'it returns false'. Refute it at one input. -/
def fnExactAddAllWrong : ChangeSpec := { name := "fnExactAddAll", fn := fun _ => fun
  | [d1, d2] => { results := [.lit (.bool false)], args := [d1, d2] }
  | _ => none }
def FnExactAddAllWrongFalsely : Prop := fnExactAddAllRow.holds Try.pinned (OpenSpec.ofChange fnExactAddAllWrong)

/-- 'laws.FnExactShortestWalk': WHATEVER THE INPUT: true; the input reads as it did. -/
def fnExactShortestWalkSpec : ChangeSpec := { name := "fnExactShortestWalk", fn := fun _ => fun
  | [d1, d2] => { results := [.lit (.bool true)], args := [d1, d2] }
  | _ => none }
def fnExactShortestWalkRow : OpenClaim := { program := "ytlaabifehcfllaa", sum := "a1eee3c3967cf01d199fd4bfbb29e1ed503a2e3e449dbc6650f8de3dd658d3c1", func := "loop.example/g01326/laws.FnExactShortestWalk", spec := "fnExactShortestWalk", unfollowed := true, recurses := true, plainKeys := false, apart := false }
def FnExactShortestWalkSaid : Prop := fnExactShortestWalkRow.holds Try.pinned (OpenSpec.ofChange fnExactShortestWalkSpec)

/-- ITS FALSE NEIGHBOUR: 'it returns false'. Refute it at one input. -/
def fnExactShortestWalkWrong : ChangeSpec := { name := "fnExactShortestWalk", fn := fun _ => fun
  | [d1, d2] => { results := [.lit (.bool false)], args := [d1, d2] }
  | _ => none }
def FnExactShortestWalkWrongFalsely : Prop := fnExactShortestWalkRow.holds Try.pinned (OpenSpec.ofChange fnExactShortestWalkWrong)

/- THE SECOND FORM. 'bulk': how many values and letters a reading holds, each counted each time it is reached (what is shared counts as often as it is met; a slice's spare places count too). A statement '..UptoSaid' is the law's where the arguments, and the package variables that the reading takes, are together of bulk at most 1048576: NARROWER than '..Said'. Prove '..Said' where nothing that the law and all that it calls make is longer than what came in: it says more and counts as full. Else prove '..UptoSaid'. A law counts once. -/
mutual
def uptoBulk {H : Type} : DataW H → Nat
  | .lit (.string bytes) => bytes.length + 1
  | .lit _ => 1
  | .nil => 1
  | .ptr d => uptoBulk d + 1
  | .slice elems spare => uptoBulkAll elems + uptoBulkAll spare + 1
  | .agg parts => uptoBulkAll parts + 1
  | .iface _ d => uptoBulk d + 1
  | .map entries => uptoBulkEntries entries + 1
  | .held _ => 1
def uptoBulkAll {H : Type} : List (DataW H) → Nat
  | [] => 0
  | d :: r => uptoBulk d + uptoBulkAll r
def uptoBulkEntries {H : Type} : List (Lit × DataW H) → Nat
  | [] => 0
  | x :: r => uptoBulkEntry x + uptoBulkEntries r
def uptoBulkEntry {H : Type} : Lit × DataW H → Nat
  | (.string bytes, d) => bytes.length + uptoBulk d + 1
  | (_, d) => uptoBulk d + 1
 end
def uptoSmall : (H : Type) → List (DataW H) → Bool := fun _ ds => decide (uptoBulkAll ds ≤ 1048576)
def OpenSpec.upto (s : _root_.Go.ChangeSpec) : _root_.Go.OpenSpec := { _root_.Go.OpenSpec.ofChange s with cond := some uptoSmall }

/-- 'laws.FnExactOutOfPlace', WHERE WHAT IT READS IS OF BULK AT MOST 1048576: true; the input reads as it did. -/
def fnExactOutOfPlaceUptoRow : OpenClaim := { program := "ytlaabifehcfllaa", sum := "a1eee3c3967cf01d199fd4bfbb29e1ed503a2e3e449dbc6650f8de3dd658d3c1", func := "loop.example/g01326/laws.FnExactOutOfPlace", spec := "fnExactOutOfPlace", unfollowed := true, recurses := true, plainKeys := false, apart := false, narrowed := true }
def FnExactOutOfPlaceUptoSaid : Prop := fnExactOutOfPlaceUptoRow.holds Try.pinned (OpenSpec.upto fnExactOutOfPlaceSpec)

/-- 'laws.FnExactFewestSlips', WHERE WHAT IT READS IS OF BULK AT MOST 1048576: true; the input reads as it did. -/
def fnExactFewestSlipsUptoRow : OpenClaim := { program := "ytlaabifehcfllaa", sum := "a1eee3c3967cf01d199fd4bfbb29e1ed503a2e3e449dbc6650f8de3dd658d3c1", func := "loop.example/g01326/laws.FnExactFewestSlips", spec := "fnExactFewestSlips", unfollowed := true, recurses := true, plainKeys := false, apart := false, narrowed := true }
def FnExactFewestSlipsUptoSaid : Prop := fnExactFewestSlipsUptoRow.holds Try.pinned (OpenSpec.upto fnExactFewestSlipsSpec)

/-- 'laws.FnExactOneSlip', WHERE WHAT IT READS IS OF BULK AT MOST 1048576: true; the input reads as it did. -/
def fnExactOneSlipUptoRow : OpenClaim := { program := "ytlaabifehcfllaa", sum := "a1eee3c3967cf01d199fd4bfbb29e1ed503a2e3e449dbc6650f8de3dd658d3c1", func := "loop.example/g01326/laws.FnExactOneSlip", spec := "fnExactOneSlip", inPlace := ["slices.overlaps[loop.example/g01326/impl.Book]"], unfollowed := true, recurses := true, plainKeys := false, apart := false, narrowed := true }
def FnExactOneSlipUptoSaid : Prop := fnExactOneSlipUptoRow.holds Try.pinned (OpenSpec.upto fnExactOneSlipSpec)

/-- 'laws.FnExactTakeBook', WHERE WHAT IT READS IS OF BULK AT MOST 1048576: true; the input reads as it did. -/
def fnExactTakeBookUptoRow : OpenClaim := { program := "ytlaabifehcfllaa", sum := "a1eee3c3967cf01d199fd4bfbb29e1ed503a2e3e449dbc6650f8de3dd658d3c1", func := "loop.example/g01326/laws.FnExactTakeBook", spec := "fnExactTakeBook", unfollowed := true, recurses := true, plainKeys := false, apart := false, narrowed := true }
def FnExactTakeBookUptoSaid : Prop := fnExactTakeBookUptoRow.holds Try.pinned (OpenSpec.upto fnExactTakeBookSpec)

/-- 'laws.FnExactAddBook', WHERE WHAT IT READS IS OF BULK AT MOST 1048576: true; the input reads as it did. -/
def fnExactAddBookUptoRow : OpenClaim := { program := "ytlaabifehcfllaa", sum := "a1eee3c3967cf01d199fd4bfbb29e1ed503a2e3e449dbc6650f8de3dd658d3c1", func := "loop.example/g01326/laws.FnExactAddBook", spec := "fnExactAddBook", inPlace := ["slices.overlaps[loop.example/g01326/impl.Placed]"], unfollowed := true, recurses := true, plainKeys := false, apart := false, narrowed := true }
def FnExactAddBookUptoSaid : Prop := fnExactAddBookUptoRow.holds Try.pinned (OpenSpec.upto fnExactAddBookSpec)

/-- 'laws.FnExactAddAll', WHERE WHAT IT READS IS OF BULK AT MOST 1048576: true; the input reads as it did. -/
def fnExactAddAllUptoRow : OpenClaim := { program := "ytlaabifehcfllaa", sum := "a1eee3c3967cf01d199fd4bfbb29e1ed503a2e3e449dbc6650f8de3dd658d3c1", func := "loop.example/g01326/laws.FnExactAddAll", spec := "fnExactAddAll", inPlace := ["slices.overlaps[loop.example/g01326/impl.Placed]"], unfollowed := true, recurses := true, plainKeys := false, apart := false, narrowed := true }
def FnExactAddAllUptoSaid : Prop := fnExactAddAllUptoRow.holds Try.pinned (OpenSpec.upto fnExactAddAllSpec)

/-- 'laws.FnExactShortestWalk', WHERE WHAT IT READS IS OF BULK AT MOST 1048576: true; the input reads as it did. -/
def fnExactShortestWalkUptoRow : OpenClaim := { program := "ytlaabifehcfllaa", sum := "a1eee3c3967cf01d199fd4bfbb29e1ed503a2e3e449dbc6650f8de3dd658d3c1", func := "loop.example/g01326/laws.FnExactShortestWalk", spec := "fnExactShortestWalk", unfollowed := true, recurses := true, plainKeys := false, apart := false, narrowed := true }
def FnExactShortestWalkUptoSaid : Prop := fnExactShortestWalkUptoRow.holds Try.pinned (OpenSpec.upto fnExactShortestWalkSpec)

end Rows
end Go.Proofs.Ytlaabifehcfllaa
