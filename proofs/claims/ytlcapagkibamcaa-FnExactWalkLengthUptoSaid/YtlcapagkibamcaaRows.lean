/-
  No cell of these rows narrows 'for every input' (looked for: loops, veiled, ifaces, maps, wideKeys, modest, calm, conditions, laid).
  DERIVED. THE GIVEN ROWS OF THIS SEAT. 5 by the template 'for every input the law returns true; each argument reads behind the call as it read before'; 0 by the template 'total and deterministic' (their statements: YtlcapagkibamcaaTotals.lean).
  GIVEN WITH THE SEED: the statements are not yours to turn. If you find one false, say at which input.
  Laid BY PROGRAM, IN A SANDBOX (cutbox-rows.mjs): the forced cells as the released guide's own fill.sh prints them over the translation ab6fd441ae7a4238… (all of the seat's roots in one cut). By AI agents, Wed Nov 11 2026. No macro, syntax, notation, axiom, sorry.
-/
import Derived.Test.YtlcapagkibamcaaChecked
import GoSem.Claim
import GoSem.ClaimJoined
import GoSem.ClaimMapViews
import Derived.JoinedTies
import Derived.KernelRfl
namespace Go.Proofs.Ytlcapagkibamcaa
/- THE CELL 'sum', in the pinned program and in every row, IS THE sha256 OF THE DUMP (.gsa) THAT YtlcapagkibamcaaProg.lean LOADS. Nothing in Lean hashes anything: it is a label: what it is worth is what the hold of that sum in a sandbox is worth. -/
noncomputable def Try.pinned : Pinned := { name := "ytlcapagkibamcaa", sum := "ab6fd441ae7a42387ac6ae4f318d81e91fafbdf8cdc593ef94bc090c3e91bff4", checked := Try.checked }
namespace Rows
def none {H : Type} : Left H := { results := [], args := [] }

/-- 'laws.FnExactWalkLength': WHATEVER THE INPUT: true; the input reads as it did. -/
def fnExactWalkLengthSpec : ChangeSpec := { name := "fnExactWalkLength", fn := fun _ => fun
  | [d1, d2] => { results := [.lit (.bool true)], args := [d1, d2] }
  | _ => none }
def fnExactWalkLengthRow : OpenClaim := { program := "ytlcapagkibamcaa", sum := "ab6fd441ae7a42387ac6ae4f318d81e91fafbdf8cdc593ef94bc090c3e91bff4", func := "loop.example/g01326/laws.FnExactWalkLength", spec := "fnExactWalkLength", unfollowed := true, recurses := true, apart := false }
def FnExactWalkLengthSaid : Prop := fnExactWalkLengthRow.holds Try.pinned (OpenSpec.ofChange fnExactWalkLengthSpec)

/-- ITS FALSE NEIGHBOUR: 'it returns false'. Refute it at one input. -/
def fnExactWalkLengthWrong : ChangeSpec := { name := "fnExactWalkLength", fn := fun _ => fun
  | [d1, d2] => { results := [.lit (.bool false)], args := [d1, d2] }
  | _ => none }
def FnExactWalkLengthWrongFalsely : Prop := fnExactWalkLengthRow.holds Try.pinned (OpenSpec.ofChange fnExactWalkLengthWrong)

/-- 'laws.FnExactEmptyDesk': WHATEVER THE INPUT: true; the input reads as it did. -/
def fnExactEmptyDeskSpec : ChangeSpec := { name := "fnExactEmptyDesk", fn := fun _ => fun
  | [d] => { results := [.lit (.bool true)], args := [d] }
  | _ => none }
def fnExactEmptyDeskRow : OpenClaim := { program := "ytlcapagkibamcaa", sum := "ab6fd441ae7a42387ac6ae4f318d81e91fafbdf8cdc593ef94bc090c3e91bff4", func := "loop.example/g01326/laws.FnExactEmptyDesk", spec := "fnExactEmptyDesk", apart := false }
def FnExactEmptyDeskSaid : Prop := fnExactEmptyDeskRow.holds Try.pinned (OpenSpec.ofChange fnExactEmptyDeskSpec)

/-- ITS FALSE NEIGHBOUR: 'it returns false'. Refute it at one input. -/
def fnExactEmptyDeskWrong : ChangeSpec := { name := "fnExactEmptyDesk", fn := fun _ => fun
  | [d] => { results := [.lit (.bool false)], args := [d] }
  | _ => none }
def FnExactEmptyDeskWrongFalsely : Prop := fnExactEmptyDeskRow.holds Try.pinned (OpenSpec.ofChange fnExactEmptyDeskWrong)

/-- 'laws.FnExactSameDesk': WHATEVER THE INPUT: true; the input reads as it did. -/
def fnExactSameDeskSpec : ChangeSpec := { name := "fnExactSameDesk", fn := fun _ => fun
  | [d1, d2] => { results := [.lit (.bool true)], args := [d1, d2] }
  | _ => none }
def fnExactSameDeskRow : OpenClaim := { program := "ytlcapagkibamcaa", sum := "ab6fd441ae7a42387ac6ae4f318d81e91fafbdf8cdc593ef94bc090c3e91bff4", func := "loop.example/g01326/laws.FnExactSameDesk", spec := "fnExactSameDesk", unfollowed := true, recurses := true, apart := false }
def FnExactSameDeskSaid : Prop := fnExactSameDeskRow.holds Try.pinned (OpenSpec.ofChange fnExactSameDeskSpec)

/-- ITS FALSE NEIGHBOUR: 'it returns false'. Refute it at one input. -/
def fnExactSameDeskWrong : ChangeSpec := { name := "fnExactSameDesk", fn := fun _ => fun
  | [d1, d2] => { results := [.lit (.bool false)], args := [d1, d2] }
  | _ => none }
def FnExactSameDeskWrongFalsely : Prop := fnExactSameDeskRow.holds Try.pinned (OpenSpec.ofChange fnExactSameDeskWrong)

/-- 'laws.FnExactHeaviestShelf': WHATEVER THE INPUT: true; the input reads as it did. -/
def fnExactHeaviestShelfSpec : ChangeSpec := { name := "fnExactHeaviestShelf", fn := fun _ => fun
  | [d1, d2] => { results := [.lit (.bool true)], args := [d1, d2] }
  | _ => none }
def fnExactHeaviestShelfRow : OpenClaim := { program := "ytlcapagkibamcaa", sum := "ab6fd441ae7a42387ac6ae4f318d81e91fafbdf8cdc593ef94bc090c3e91bff4", func := "loop.example/g01326/laws.FnExactHeaviestShelf", spec := "fnExactHeaviestShelf", unfollowed := true, recurses := true, apart := false }
def FnExactHeaviestShelfSaid : Prop := fnExactHeaviestShelfRow.holds Try.pinned (OpenSpec.ofChange fnExactHeaviestShelfSpec)

/-- ITS FALSE NEIGHBOUR: 'it returns false'. Refute it at one input. -/
def fnExactHeaviestShelfWrong : ChangeSpec := { name := "fnExactHeaviestShelf", fn := fun _ => fun
  | [d1, d2] => { results := [.lit (.bool false)], args := [d1, d2] }
  | _ => none }
def FnExactHeaviestShelfWrongFalsely : Prop := fnExactHeaviestShelfRow.holds Try.pinned (OpenSpec.ofChange fnExactHeaviestShelfWrong)

/-- 'laws.FnExactValidDesk': WHATEVER THE INPUT: true; the input reads as it did. -/
def fnExactValidDeskSpec : ChangeSpec := { name := "fnExactValidDesk", fn := fun _ => fun
  | [d] => { results := [.lit (.bool true)], args := [d] }
  | _ => none }
def fnExactValidDeskRow : OpenClaim := { program := "ytlcapagkibamcaa", sum := "ab6fd441ae7a42387ac6ae4f318d81e91fafbdf8cdc593ef94bc090c3e91bff4", func := "loop.example/g01326/laws.FnExactValidDesk", spec := "fnExactValidDesk", unfollowed := true, recurses := true, apart := false }
def FnExactValidDeskSaid : Prop := fnExactValidDeskRow.holds Try.pinned (OpenSpec.ofChange fnExactValidDeskSpec)

/-- ITS FALSE NEIGHBOUR: 'it returns false'. Refute it at one input. -/
def fnExactValidDeskWrong : ChangeSpec := { name := "fnExactValidDesk", fn := fun _ => fun
  | [d] => { results := [.lit (.bool false)], args := [d] }
  | _ => none }
def FnExactValidDeskWrongFalsely : Prop := fnExactValidDeskRow.holds Try.pinned (OpenSpec.ofChange fnExactValidDeskWrong)

/- THE SECOND FORM. 'bulk': how many values and letters a reading holds, each counted each time it is reached (what is shared counts as often as it is met; a slice's spare places count too). A statement '..UptoSaid' is the law's where the arguments, and the package variables that the reading takes, are together of bulk at most 1048576: NARROWER than '..Said'. Prove '..Said' where nothing that the law and all that it calls make is longer than what came in: it says more and counts as full. Else prove '..UptoSaid'. A law counts once. -/
mutual
def uptoBulk {H : Type} : DataW H → Nat
  | .lit (.string bytes) => bytes.length + 1
  | .lit _ => 1
  | .nil => 1
  | .ptr d => uptoBulk d + 1
  | .slice elems spare => uptoBulkAll elems + uptoBulkAll spare + 1
  | .agg parts => uptoBulkAll parts + 1
  | .iface _ d => uptoBulk d + 1
  | .map entries => uptoBulkEntries entries + 1
  | .held _ => 1
def uptoBulkAll {H : Type} : List (DataW H) → Nat
  | [] => 0
  | d :: r => uptoBulk d + uptoBulkAll r
def uptoBulkEntries {H : Type} : List (Lit × DataW H) → Nat
  | [] => 0
  | x :: r => uptoBulkEntry x + uptoBulkEntries r
def uptoBulkEntry {H : Type} : Lit × DataW H → Nat
  | (.string bytes, d) => bytes.length + uptoBulk d + 1
  | (_, d) => uptoBulk d + 1
 end
def uptoSmall : (H : Type) → List (DataW H) → Bool := fun _ ds => decide (uptoBulkAll ds ≤ 1048576)
def OpenSpec.upto (s : _root_.Go.ChangeSpec) : _root_.Go.OpenSpec := { _root_.Go.OpenSpec.ofChange s with cond := some uptoSmall }

/-- 'laws.FnExactWalkLength', WHERE WHAT IT READS IS OF BULK AT MOST 1048576: true; the input reads as it did. -/
def fnExactWalkLengthUptoRow : OpenClaim := { program := "ytlcapagkibamcaa", sum := "ab6fd441ae7a42387ac6ae4f318d81e91fafbdf8cdc593ef94bc090c3e91bff4", func := "loop.example/g01326/laws.FnExactWalkLength", spec := "fnExactWalkLength", unfollowed := true, recurses := true, apart := false, narrowed := true }
def FnExactWalkLengthUptoSaid : Prop := fnExactWalkLengthUptoRow.holds Try.pinned (OpenSpec.upto fnExactWalkLengthSpec)

/-- 'laws.FnExactEmptyDesk', WHERE WHAT IT READS IS OF BULK AT MOST 1048576: true; the input reads as it did. -/
def fnExactEmptyDeskUptoRow : OpenClaim := { program := "ytlcapagkibamcaa", sum := "ab6fd441ae7a42387ac6ae4f318d81e91fafbdf8cdc593ef94bc090c3e91bff4", func := "loop.example/g01326/laws.FnExactEmptyDesk", spec := "fnExactEmptyDesk", apart := false, narrowed := true }
def FnExactEmptyDeskUptoSaid : Prop := fnExactEmptyDeskUptoRow.holds Try.pinned (OpenSpec.upto fnExactEmptyDeskSpec)

/-- 'laws.FnExactSameDesk', WHERE WHAT IT READS IS OF BULK AT MOST 1048576: true; the input reads as it did. -/
def fnExactSameDeskUptoRow : OpenClaim := { program := "ytlcapagkibamcaa", sum := "ab6fd441ae7a42387ac6ae4f318d81e91fafbdf8cdc593ef94bc090c3e91bff4", func := "loop.example/g01326/laws.FnExactSameDesk", spec := "fnExactSameDesk", unfollowed := true, recurses := true, apart := false, narrowed := true }
def FnExactSameDeskUptoSaid : Prop := fnExactSameDeskUptoRow.holds Try.pinned (OpenSpec.upto fnExactSameDeskSpec)

/-- 'laws.FnExactHeaviestShelf', WHERE WHAT IT READS IS OF BULK AT MOST 1048576: true; the input reads as it did. -/
def fnExactHeaviestShelfUptoRow : OpenClaim := { program := "ytlcapagkibamcaa", sum := "ab6fd441ae7a42387ac6ae4f318d81e91fafbdf8cdc593ef94bc090c3e91bff4", func := "loop.example/g01326/laws.FnExactHeaviestShelf", spec := "fnExactHeaviestShelf", unfollowed := true, recurses := true, apart := false, narrowed := true }
def FnExactHeaviestShelfUptoSaid : Prop := fnExactHeaviestShelfUptoRow.holds Try.pinned (OpenSpec.upto fnExactHeaviestShelfSpec)

/-- 'laws.FnExactValidDesk', WHERE WHAT IT READS IS OF BULK AT MOST 1048576: true; the input reads as it did. -/
def fnExactValidDeskUptoRow : OpenClaim := { program := "ytlcapagkibamcaa", sum := "ab6fd441ae7a42387ac6ae4f318d81e91fafbdf8cdc593ef94bc090c3e91bff4", func := "loop.example/g01326/laws.FnExactValidDesk", spec := "fnExactValidDesk", unfollowed := true, recurses := true, apart := false, narrowed := true }
def FnExactValidDeskUptoSaid : Prop := fnExactValidDeskUptoRow.holds Try.pinned (OpenSpec.upto fnExactValidDeskSpec)

end Rows
end Go.Proofs.Ytlcapagkibamcaa
