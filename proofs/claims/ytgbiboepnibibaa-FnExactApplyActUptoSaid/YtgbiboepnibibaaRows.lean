/-
  No cell of these rows narrows 'for every input' (looked for: loops, veiled, ifaces, maps, wideKeys, modest, calm, conditions, laid).
  DERIVED. THE GIVEN ROWS OF THIS SEAT. 5 by the template 'for every input the law returns true; each argument reads behind the call as it read before'; 0 by the template 'total and deterministic' (their statements: YtgbiboepnibibaaTotals.lean).
  GIVEN WITH THE SEED: the statements are not yours to turn. If you find one false, say at which input.
  Laid BY PROGRAM, IN A SANDBOX (cutbox-rows.mjs): the forced cells as the released guide's own fill.sh prints them over the translation c2c2d073b632b795… (all of the seat's roots in one cut). By AI agents, Wed Nov 11 2026. No macro, syntax, notation, axiom, sorry.
-/
import Derived.Test.YtgbiboepnibibaaChecked
import GoSem.Claim
import GoSem.ClaimJoined
import GoSem.ClaimMapViews
import Derived.JoinedTies
import Derived.KernelRfl
namespace Go.Proofs.Ytgbiboepnibibaa
/- THE CELL 'sum', in the pinned program and in every row, IS THE sha256 OF THE DUMP (.gsa) THAT YtgbiboepnibibaaProg.lean LOADS. Nothing in Lean hashes anything: it is a label: what it is worth is what the hold of that sum in a sandbox is worth. -/
noncomputable def Try.pinned : Pinned := { name := "ytgbiboepnibibaa", sum := "c2c2d073b632b795896dc6c9743e120daee53bef3a98a3a7166910a1e2f0c06b", checked := Try.checked }
namespace Rows
def none {H : Type} : Left H := { results := [], args := [] }

/-- 'laws.FnExactAskedBy': WHATEVER THE INPUT: true; the input reads as it did. -/
def fnExactAskedBySpec : ChangeSpec := { name := "fnExactAskedBy", fn := fun _ => fun
  | [d1, d2] => { results := [.lit (.bool true)], args := [d1, d2] }
  | _ => none }
def fnExactAskedByRow : OpenClaim := { program := "ytgbiboepnibibaa", sum := "c2c2d073b632b795896dc6c9743e120daee53bef3a98a3a7166910a1e2f0c06b", func := "loop.example/g01326/laws.FnExactAskedBy", spec := "fnExactAskedBy", unfollowed := true, recurses := true, apart := false }
def FnExactAskedBySaid : Prop := fnExactAskedByRow.holds Try.pinned (OpenSpec.ofChange fnExactAskedBySpec)

/-- ITS FALSE NEIGHBOUR: 'it returns false'. Refute it at one input. -/
def fnExactAskedByWrong : ChangeSpec := { name := "fnExactAskedBy", fn := fun _ => fun
  | [d1, d2] => { results := [.lit (.bool false)], args := [d1, d2] }
  | _ => none }
def FnExactAskedByWrongFalsely : Prop := fnExactAskedByRow.holds Try.pinned (OpenSpec.ofChange fnExactAskedByWrong)

/-- 'laws.FnExactApplyAct': WHATEVER THE INPUT: true; the input reads as it did. -/
def fnExactApplyActSpec : ChangeSpec := { name := "fnExactApplyAct", fn := fun _ => fun
  | [d1, d2] => { results := [.lit (.bool true)], args := [d1, d2] }
  | _ => none }
def fnExactApplyActRow : OpenClaim := { program := "ytgbiboepnibibaa", sum := "c2c2d073b632b795896dc6c9743e120daee53bef3a98a3a7166910a1e2f0c06b", func := "loop.example/g01326/laws.FnExactApplyAct", spec := "fnExactApplyAct", unfollowed := true, recurses := true, apart := false }
def FnExactApplyActSaid : Prop := fnExactApplyActRow.holds Try.pinned (OpenSpec.ofChange fnExactApplyActSpec)

/-- ITS FALSE NEIGHBOUR: 'it returns false'. Refute it at one input. -/
def fnExactApplyActWrong : ChangeSpec := { name := "fnExactApplyAct", fn := fun _ => fun
  | [d1, d2] => { results := [.lit (.bool false)], args := [d1, d2] }
  | _ => none }
def FnExactApplyActWrongFalsely : Prop := fnExactApplyActRow.holds Try.pinned (OpenSpec.ofChange fnExactApplyActWrong)

/-- 'laws.FnExactFirstRefused': WHATEVER THE INPUT: true; the input reads as it did. -/
def fnExactFirstRefusedSpec : ChangeSpec := { name := "fnExactFirstRefused", fn := fun _ => fun
  | [d1, d2] => { results := [.lit (.bool true)], args := [d1, d2] }
  | _ => none }
def fnExactFirstRefusedRow : OpenClaim := { program := "ytgbiboepnibibaa", sum := "c2c2d073b632b795896dc6c9743e120daee53bef3a98a3a7166910a1e2f0c06b", func := "loop.example/g01326/laws.FnExactFirstRefused", spec := "fnExactFirstRefused", unfollowed := true, recurses := true, apart := false }
def FnExactFirstRefusedSaid : Prop := fnExactFirstRefusedRow.holds Try.pinned (OpenSpec.ofChange fnExactFirstRefusedSpec)

/-- ITS FALSE NEIGHBOUR: 'it returns false'. Refute it at one input. -/
def fnExactFirstRefusedWrong : ChangeSpec := { name := "fnExactFirstRefused", fn := fun _ => fun
  | [d1, d2] => { results := [.lit (.bool false)], args := [d1, d2] }
  | _ => none }
def FnExactFirstRefusedWrongFalsely : Prop := fnExactFirstRefusedRow.holds Try.pinned (OpenSpec.ofChange fnExactFirstRefusedWrong)

/-- 'laws.FnExactApplyActs': WHATEVER THE INPUT: true; the input reads as it did. -/
def fnExactApplyActsSpec : ChangeSpec := { name := "fnExactApplyActs", fn := fun _ => fun
  | [d1, d2] => { results := [.lit (.bool true)], args := [d1, d2] }
  | _ => none }
def fnExactApplyActsRow : OpenClaim := { program := "ytgbiboepnibibaa", sum := "c2c2d073b632b795896dc6c9743e120daee53bef3a98a3a7166910a1e2f0c06b", func := "loop.example/g01326/laws.FnExactApplyActs", spec := "fnExactApplyActs", unfollowed := true, recurses := true, apart := false }
def FnExactApplyActsSaid : Prop := fnExactApplyActsRow.holds Try.pinned (OpenSpec.ofChange fnExactApplyActsSpec)

/-- ITS FALSE NEIGHBOUR: 'it returns false'. Refute it at one input. -/
def fnExactApplyActsWrong : ChangeSpec := { name := "fnExactApplyActs", fn := fun _ => fun
  | [d1, d2] => { results := [.lit (.bool false)], args := [d1, d2] }
  | _ => none }
def FnExactApplyActsWrongFalsely : Prop := fnExactApplyActsRow.holds Try.pinned (OpenSpec.ofChange fnExactApplyActsWrong)

/-- 'laws.FnLent': WHATEVER THE INPUT: true; the input reads as it did. -/
def fnLentSpec : ChangeSpec := { name := "fnLent", fn := fun _ => fun
  | [d1, d2] => { results := [.lit (.bool true)], args := [d1, d2] }
  | _ => none }
def fnLentRow : OpenClaim := { program := "ytgbiboepnibibaa", sum := "c2c2d073b632b795896dc6c9743e120daee53bef3a98a3a7166910a1e2f0c06b", func := "loop.example/g01326/laws.FnLent", spec := "fnLent", unfollowed := true, recurses := true, apart := false }
def FnLentSaid : Prop := fnLentRow.holds Try.pinned (OpenSpec.ofChange fnLentSpec)

/-- ITS FALSE NEIGHBOUR: 'it returns false'. Refute it at one input. -/
def fnLentWrong : ChangeSpec := { name := "fnLent", fn := fun _ => fun
  | [d1, d2] => { results := [.lit (.bool false)], args := [d1, d2] }
  | _ => none }
def FnLentWrongFalsely : Prop := fnLentRow.holds Try.pinned (OpenSpec.ofChange fnLentWrong)

/- THE SECOND FORM. 'bulk': how many values and letters a reading holds, each counted each time it is reached (what is shared counts as often as it is met; a slice's spare places count too). A statement '..UptoSaid' is the law's where the arguments, and the package variables that the reading takes, are together of bulk at most 1048576: NARROWER than '..Said'. Prove '..Said' where nothing that the law and all that it calls make is longer than what came in: it says more and counts as full. Else prove '..UptoSaid'. A law counts once. -/
mutual
def uptoBulk {H : Type} : DataW H → Nat
  | .lit (.string bytes) => bytes.length + 1
  | .lit _ => 1
  | .nil => 1
  | .ptr d => uptoBulk d + 1
  | .slice elems spare => uptoBulkAll elems + uptoBulkAll spare + 1
  | .agg parts => uptoBulkAll parts + 1
  | .iface _ d => uptoBulk d + 1
  | .map entries => uptoBulkEntries entries + 1
  | .held _ => 1
def uptoBulkAll {H : Type} : List (DataW H) → Nat
  | [] => 0
  | d :: r => uptoBulk d + uptoBulkAll r
def uptoBulkEntries {H : Type} : List (Lit × DataW H) → Nat
  | [] => 0
  | x :: r => uptoBulkEntry x + uptoBulkEntries r
def uptoBulkEntry {H : Type} : Lit × DataW H → Nat
  | (.string bytes, d) => bytes.length + uptoBulk d + 1
  | (_, d) => uptoBulk d + 1
 end
def uptoSmall : (H : Type) → List (DataW H) → Bool := fun _ ds => decide (uptoBulkAll ds ≤ 1048576)
def OpenSpec.upto (s : _root_.Go.ChangeSpec) : _root_.Go.OpenSpec := { _root_.Go.OpenSpec.ofChange s with cond := some uptoSmall }

/-- 'laws.FnExactAskedBy', WHERE WHAT IT READS IS OF BULK AT MOST 1048576: true; the input reads as it did. -/
def fnExactAskedByUptoRow : OpenClaim := { program := "ytgbiboepnibibaa", sum := "c2c2d073b632b795896dc6c9743e120daee53bef3a98a3a7166910a1e2f0c06b", func := "loop.example/g01326/laws.FnExactAskedBy", spec := "fnExactAskedBy", unfollowed := true, recurses := true, apart := false, narrowed := true }
def FnExactAskedByUptoSaid : Prop := fnExactAskedByUptoRow.holds Try.pinned (OpenSpec.upto fnExactAskedBySpec)

/-- 'laws.FnExactApplyAct', WHERE WHAT IT READS IS OF BULK AT MOST 1048576: true; the input reads as it did. -/
def fnExactApplyActUptoRow : OpenClaim := { program := "ytgbiboepnibibaa", sum := "c2c2d073b632b795896dc6c9743e120daee53bef3a98a3a7166910a1e2f0c06b", func := "loop.example/g01326/laws.FnExactApplyAct", spec := "fnExactApplyAct", unfollowed := true, recurses := true, apart := false, narrowed := true }
def FnExactApplyActUptoSaid : Prop := fnExactApplyActUptoRow.holds Try.pinned (OpenSpec.upto fnExactApplyActSpec)

/-- 'laws.FnExactFirstRefused', WHERE WHAT IT READS IS OF BULK AT MOST 1048576: true; the input reads as it did. -/
def fnExactFirstRefusedUptoRow : OpenClaim := { program := "ytgbiboepnibibaa", sum := "c2c2d073b632b795896dc6c9743e120daee53bef3a98a3a7166910a1e2f0c06b", func := "loop.example/g01326/laws.FnExactFirstRefused", spec := "fnExactFirstRefused", unfollowed := true, recurses := true, apart := false, narrowed := true }
def FnExactFirstRefusedUptoSaid : Prop := fnExactFirstRefusedUptoRow.holds Try.pinned (OpenSpec.upto fnExactFirstRefusedSpec)

/-- 'laws.FnExactApplyActs', WHERE WHAT IT READS IS OF BULK AT MOST 1048576: true; the input reads as it did. -/
def fnExactApplyActsUptoRow : OpenClaim := { program := "ytgbiboepnibibaa", sum := "c2c2d073b632b795896dc6c9743e120daee53bef3a98a3a7166910a1e2f0c06b", func := "loop.example/g01326/laws.FnExactApplyActs", spec := "fnExactApplyActs", unfollowed := true, recurses := true, apart := false, narrowed := true }
def FnExactApplyActsUptoSaid : Prop := fnExactApplyActsUptoRow.holds Try.pinned (OpenSpec.upto fnExactApplyActsSpec)

/-- 'laws.FnLent', WHERE WHAT IT READS IS OF BULK AT MOST 1048576: true; the input reads as it did. -/
def fnLentUptoRow : OpenClaim := { program := "ytgbiboepnibibaa", sum := "c2c2d073b632b795896dc6c9743e120daee53bef3a98a3a7166910a1e2f0c06b", func := "loop.example/g01326/laws.FnLent", spec := "fnLent", unfollowed := true, recurses := true, apart := false, narrowed := true }
def FnLentUptoSaid : Prop := fnLentUptoRow.holds Try.pinned (OpenSpec.upto fnLentSpec)

end Rows
end Go.Proofs.Ytgbiboepnibibaa
