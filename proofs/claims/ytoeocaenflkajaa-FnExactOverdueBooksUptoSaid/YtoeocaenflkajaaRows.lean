/-
  No cell of these rows narrows 'for every input' (looked for: loops, veiled, ifaces, maps, wideKeys, modest, calm, conditions, laid).
  DERIVED. THE GIVEN ROWS OF THIS SEAT. 12 by the template 'for every input the law returns true; each argument reads behind the call as it read before'; 0 by the template 'total and deterministic' (their statements: YtoeocaenflkajaaTotals.lean).
  GIVEN WITH THE SEED: the statements are not yours to turn. If you find one false, say at which input.
  Laid BY PROGRAM, IN A SANDBOX (cutbox-rows.mjs): the forced cells as the released guide's own fill.sh prints them over the translation 3960844120d2a200… (all of the seat's roots in one cut). By AI agents, Wed Nov 11 2026. No macro, syntax, notation, axiom, sorry.
-/
import Derived.Test.YtoeocaenflkajaaChecked
import GoSem.Claim
import GoSem.ClaimJoined
import GoSem.ClaimMapViews
import Derived.JoinedTies
import Derived.KernelRfl
namespace Go.Proofs.Ytoeocaenflkajaa
/- THE CELL 'sum', in the pinned program and in every row, IS THE sha256 OF THE DUMP (.gsa) THAT YtoeocaenflkajaaProg.lean LOADS. Nothing in Lean hashes anything: it is a label: what it is worth is what the hold of that sum in a sandbox is worth. -/
noncomputable def Try.pinned : Pinned := { name := "ytoeocaenflkajaa", sum := "3960844120d2a20029971c966856596004c301c2623cb3d1fc70d7b0ce74c615", checked := Try.checked }
namespace Rows
def none {H : Type} : Left H := { results := [], args := [] }

/-- 'laws.FnExactEmptyDesk': WHATEVER THE INPUT: true; the input reads as it did. -/
def fnExactEmptyDeskSpec : ChangeSpec := { name := "fnExactEmptyDesk", fn := fun _ => fun
  | [d] => { results := [.lit (.bool true)], args := [d] }
  | _ => none }
def fnExactEmptyDeskRow : OpenClaim := { program := "ytoeocaenflkajaa", sum := "3960844120d2a20029971c966856596004c301c2623cb3d1fc70d7b0ce74c615", func := "loop.example/g01326/laws.FnExactEmptyDesk", spec := "fnExactEmptyDesk", apart := false }
def FnExactEmptyDeskSaid : Prop := fnExactEmptyDeskRow.holds Try.pinned (OpenSpec.ofChange fnExactEmptyDeskSpec)

/-- ITS FALSE NEIGHBOUR: 'it returns false'. Refute it at one input. -/
def fnExactEmptyDeskWrong : ChangeSpec := { name := "fnExactEmptyDesk", fn := fun _ => fun
  | [d] => { results := [.lit (.bool false)], args := [d] }
  | _ => none }
def FnExactEmptyDeskWrongFalsely : Prop := fnExactEmptyDeskRow.holds Try.pinned (OpenSpec.ofChange fnExactEmptyDeskWrong)

/-- 'laws.FnExactSameDesk': WHATEVER THE INPUT: true; the input reads as it did. -/
def fnExactSameDeskSpec : ChangeSpec := { name := "fnExactSameDesk", fn := fun _ => fun
  | [d1, d2] => { results := [.lit (.bool true)], args := [d1, d2] }
  | _ => none }
def fnExactSameDeskRow : OpenClaim := { program := "ytoeocaenflkajaa", sum := "3960844120d2a20029971c966856596004c301c2623cb3d1fc70d7b0ce74c615", func := "loop.example/g01326/laws.FnExactSameDesk", spec := "fnExactSameDesk", unfollowed := true, recurses := true, apart := false }
def FnExactSameDeskSaid : Prop := fnExactSameDeskRow.holds Try.pinned (OpenSpec.ofChange fnExactSameDeskSpec)

/-- ITS FALSE NEIGHBOUR: 'it returns false'. Refute it at one input. -/
def fnExactSameDeskWrong : ChangeSpec := { name := "fnExactSameDesk", fn := fun _ => fun
  | [d1, d2] => { results := [.lit (.bool false)], args := [d1, d2] }
  | _ => none }
def FnExactSameDeskWrongFalsely : Prop := fnExactSameDeskRow.holds Try.pinned (OpenSpec.ofChange fnExactSameDeskWrong)

/-- 'laws.FnExactValidDesk': WHATEVER THE INPUT: true; the input reads as it did. -/
def fnExactValidDeskSpec : ChangeSpec := { name := "fnExactValidDesk", fn := fun _ => fun
  | [d] => { results := [.lit (.bool true)], args := [d] }
  | _ => none }
def fnExactValidDeskRow : OpenClaim := { program := "ytoeocaenflkajaa", sum := "3960844120d2a20029971c966856596004c301c2623cb3d1fc70d7b0ce74c615", func := "loop.example/g01326/laws.FnExactValidDesk", spec := "fnExactValidDesk", unfollowed := true, recurses := true, apart := false }
def FnExactValidDeskSaid : Prop := fnExactValidDeskRow.holds Try.pinned (OpenSpec.ofChange fnExactValidDeskSpec)

/-- ITS FALSE NEIGHBOUR: 'it returns false'. Refute it at one input. -/
def fnExactValidDeskWrong : ChangeSpec := { name := "fnExactValidDesk", fn := fun _ => fun
  | [d] => { results := [.lit (.bool false)], args := [d] }
  | _ => none }
def FnExactValidDeskWrongFalsely : Prop := fnExactValidDeskRow.holds Try.pinned (OpenSpec.ofChange fnExactValidDeskWrong)

/-- 'laws.FnExactCountStates': WHATEVER THE INPUT: true; the input reads as it did. -/
def fnExactCountStatesSpec : ChangeSpec := { name := "fnExactCountStates", fn := fun _ => fun
  | [d] => { results := [.lit (.bool true)], args := [d] }
  | _ => none }
def fnExactCountStatesRow : OpenClaim := { program := "ytoeocaenflkajaa", sum := "3960844120d2a20029971c966856596004c301c2623cb3d1fc70d7b0ce74c615", func := "loop.example/g01326/laws.FnExactCountStates", spec := "fnExactCountStates", unfollowed := true, recurses := true, apart := false }
def FnExactCountStatesSaid : Prop := fnExactCountStatesRow.holds Try.pinned (OpenSpec.ofChange fnExactCountStatesSpec)

/-- ITS FALSE NEIGHBOUR: 'it returns false'. Refute it at one input. -/
def fnExactCountStatesWrong : ChangeSpec := { name := "fnExactCountStates", fn := fun _ => fun
  | [d] => { results := [.lit (.bool false)], args := [d] }
  | _ => none }
def FnExactCountStatesWrongFalsely : Prop := fnExactCountStatesRow.holds Try.pinned (OpenSpec.ofChange fnExactCountStatesWrong)

/-- 'laws.FnExactFineOf': WHATEVER THE INPUT: true; the input reads as it did. -/
def fnExactFineOfSpec : ChangeSpec := { name := "fnExactFineOf", fn := fun _ => fun
  | [d1, d2] => { results := [.lit (.bool true)], args := [d1, d2] }
  | _ => none }
def fnExactFineOfRow : OpenClaim := { program := "ytoeocaenflkajaa", sum := "3960844120d2a20029971c966856596004c301c2623cb3d1fc70d7b0ce74c615", func := "loop.example/g01326/laws.FnExactFineOf", spec := "fnExactFineOf", unfollowed := true, recurses := true, apart := false }
def FnExactFineOfSaid : Prop := fnExactFineOfRow.holds Try.pinned (OpenSpec.ofChange fnExactFineOfSpec)

/-- ITS FALSE NEIGHBOUR: 'it returns false'. Refute it at one input. -/
def fnExactFineOfWrong : ChangeSpec := { name := "fnExactFineOf", fn := fun _ => fun
  | [d1, d2] => { results := [.lit (.bool false)], args := [d1, d2] }
  | _ => none }
def FnExactFineOfWrongFalsely : Prop := fnExactFineOfRow.holds Try.pinned (OpenSpec.ofChange fnExactFineOfWrong)

/-- 'laws.FnExactPlaceInQueue': WHATEVER THE INPUT: true; the input reads as it did. -/
def fnExactPlaceInQueueSpec : ChangeSpec := { name := "fnExactPlaceInQueue", fn := fun _ => fun
  | [d1, d2, d3] => { results := [.lit (.bool true)], args := [d1, d2, d3] }
  | _ => none }
def fnExactPlaceInQueueRow : OpenClaim := { program := "ytoeocaenflkajaa", sum := "3960844120d2a20029971c966856596004c301c2623cb3d1fc70d7b0ce74c615", func := "loop.example/g01326/laws.FnExactPlaceInQueue", spec := "fnExactPlaceInQueue", unfollowed := true, recurses := true, apart := false }
def FnExactPlaceInQueueSaid : Prop := fnExactPlaceInQueueRow.holds Try.pinned (OpenSpec.ofChange fnExactPlaceInQueueSpec)

/-- ITS FALSE NEIGHBOUR: 'it returns false'. Refute it at one input. -/
def fnExactPlaceInQueueWrong : ChangeSpec := { name := "fnExactPlaceInQueue", fn := fun _ => fun
  | [d1, d2, d3] => { results := [.lit (.bool false)], args := [d1, d2, d3] }
  | _ => none }
def FnExactPlaceInQueueWrongFalsely : Prop := fnExactPlaceInQueueRow.holds Try.pinned (OpenSpec.ofChange fnExactPlaceInQueueWrong)

/-- 'laws.FnExactMayLend': WHATEVER THE INPUT: true; the input reads as it did. -/
def fnExactMayLendSpec : ChangeSpec := { name := "fnExactMayLend", fn := fun _ => fun
  | [d1, d2, d3] => { results := [.lit (.bool true)], args := [d1, d2, d3] }
  | _ => none }
def fnExactMayLendRow : OpenClaim := { program := "ytoeocaenflkajaa", sum := "3960844120d2a20029971c966856596004c301c2623cb3d1fc70d7b0ce74c615", func := "loop.example/g01326/laws.FnExactMayLend", spec := "fnExactMayLend", unfollowed := true, recurses := true, apart := false }
def FnExactMayLendSaid : Prop := fnExactMayLendRow.holds Try.pinned (OpenSpec.ofChange fnExactMayLendSpec)

/-- ITS FALSE NEIGHBOUR: 'it returns false'. Refute it at one input. -/
def fnExactMayLendWrong : ChangeSpec := { name := "fnExactMayLend", fn := fun _ => fun
  | [d1, d2, d3] => { results := [.lit (.bool false)], args := [d1, d2, d3] }
  | _ => none }
def FnExactMayLendWrongFalsely : Prop := fnExactMayLendRow.holds Try.pinned (OpenSpec.ofChange fnExactMayLendWrong)

/-- 'laws.FnExactNextDue': WHATEVER THE INPUT: true; the input reads as it did. -/
def fnExactNextDueSpec : ChangeSpec := { name := "fnExactNextDue", fn := fun _ => fun
  | [d] => { results := [.lit (.bool true)], args := [d] }
  | _ => none }
def fnExactNextDueRow : OpenClaim := { program := "ytoeocaenflkajaa", sum := "3960844120d2a20029971c966856596004c301c2623cb3d1fc70d7b0ce74c615", func := "loop.example/g01326/laws.FnExactNextDue", spec := "fnExactNextDue", unfollowed := true, recurses := true, apart := false }
def FnExactNextDueSaid : Prop := fnExactNextDueRow.holds Try.pinned (OpenSpec.ofChange fnExactNextDueSpec)

/-- ITS FALSE NEIGHBOUR: 'it returns false'. Refute it at one input. -/
def fnExactNextDueWrong : ChangeSpec := { name := "fnExactNextDue", fn := fun _ => fun
  | [d] => { results := [.lit (.bool false)], args := [d] }
  | _ => none }
def FnExactNextDueWrongFalsely : Prop := fnExactNextDueRow.holds Try.pinned (OpenSpec.ofChange fnExactNextDueWrong)

/-- 'laws.FnExactWaitAtMost': WHATEVER THE INPUT: true; the input reads as it did. -/
def fnExactWaitAtMostSpec : ChangeSpec := { name := "fnExactWaitAtMost", fn := fun _ => fun
  | [d1, d2, d3] => { results := [.lit (.bool true)], args := [d1, d2, d3] }
  | _ => none }
def fnExactWaitAtMostRow : OpenClaim := { program := "ytoeocaenflkajaa", sum := "3960844120d2a20029971c966856596004c301c2623cb3d1fc70d7b0ce74c615", func := "loop.example/g01326/laws.FnExactWaitAtMost", spec := "fnExactWaitAtMost", unfollowed := true, recurses := true, apart := false }
def FnExactWaitAtMostSaid : Prop := fnExactWaitAtMostRow.holds Try.pinned (OpenSpec.ofChange fnExactWaitAtMostSpec)

/-- ITS FALSE NEIGHBOUR: 'it returns false'. Refute it at one input. -/
def fnExactWaitAtMostWrong : ChangeSpec := { name := "fnExactWaitAtMost", fn := fun _ => fun
  | [d1, d2, d3] => { results := [.lit (.bool false)], args := [d1, d2, d3] }
  | _ => none }
def FnExactWaitAtMostWrongFalsely : Prop := fnExactWaitAtMostRow.holds Try.pinned (OpenSpec.ofChange fnExactWaitAtMostWrong)

/-- 'laws.FnExactDummies': WHATEVER THE INPUT: true; the input reads as it did. -/
def fnExactDummiesSpec : ChangeSpec := { name := "fnExactDummies", fn := fun _ => fun
  | [d] => { results := [.lit (.bool true)], args := [d] }
  | _ => none }
def fnExactDummiesRow : OpenClaim := { program := "ytoeocaenflkajaa", sum := "3960844120d2a20029971c966856596004c301c2623cb3d1fc70d7b0ce74c615", func := "loop.example/g01326/laws.FnExactDummies", spec := "fnExactDummies", unfollowed := true, recurses := true, apart := false }
def FnExactDummiesSaid : Prop := fnExactDummiesRow.holds Try.pinned (OpenSpec.ofChange fnExactDummiesSpec)

/-- ITS FALSE NEIGHBOUR: 'it returns false'. Refute it at one input. -/
def fnExactDummiesWrong : ChangeSpec := { name := "fnExactDummies", fn := fun _ => fun
  | [d] => { results := [.lit (.bool false)], args := [d] }
  | _ => none }
def FnExactDummiesWrongFalsely : Prop := fnExactDummiesRow.holds Try.pinned (OpenSpec.ofChange fnExactDummiesWrong)

/-- 'laws.FnExactOverdueBooks': WHATEVER THE INPUT: true; the input reads as it did. -/
def fnExactOverdueBooksSpec : ChangeSpec := { name := "fnExactOverdueBooks", fn := fun _ => fun
  | [d] => { results := [.lit (.bool true)], args := [d] }
  | _ => none }
def fnExactOverdueBooksRow : OpenClaim := { program := "ytoeocaenflkajaa", sum := "3960844120d2a20029971c966856596004c301c2623cb3d1fc70d7b0ce74c615", func := "loop.example/g01326/laws.FnExactOverdueBooks", spec := "fnExactOverdueBooks", unfollowed := true, recurses := true, apart := false }
def FnExactOverdueBooksSaid : Prop := fnExactOverdueBooksRow.holds Try.pinned (OpenSpec.ofChange fnExactOverdueBooksSpec)

/-- ITS FALSE NEIGHBOUR: 'it returns false'. Refute it at one input. -/
def fnExactOverdueBooksWrong : ChangeSpec := { name := "fnExactOverdueBooks", fn := fun _ => fun
  | [d] => { results := [.lit (.bool false)], args := [d] }
  | _ => none }
def FnExactOverdueBooksWrongFalsely : Prop := fnExactOverdueBooksRow.holds Try.pinned (OpenSpec.ofChange fnExactOverdueBooksWrong)

/-- 'laws.FnExactLoansOf': WHATEVER THE INPUT: true; the input reads as it did. -/
def fnExactLoansOfSpec : ChangeSpec := { name := "fnExactLoansOf", fn := fun _ => fun
  | [d1, d2] => { results := [.lit (.bool true)], args := [d1, d2] }
  | _ => none }
def fnExactLoansOfRow : OpenClaim := { program := "ytoeocaenflkajaa", sum := "3960844120d2a20029971c966856596004c301c2623cb3d1fc70d7b0ce74c615", func := "loop.example/g01326/laws.FnExactLoansOf", spec := "fnExactLoansOf", unfollowed := true, recurses := true, apart := false }
def FnExactLoansOfSaid : Prop := fnExactLoansOfRow.holds Try.pinned (OpenSpec.ofChange fnExactLoansOfSpec)

/-- ITS FALSE NEIGHBOUR: 'it returns false'. Refute it at one input. -/
def fnExactLoansOfWrong : ChangeSpec := { name := "fnExactLoansOf", fn := fun _ => fun
  | [d1, d2] => { results := [.lit (.bool false)], args := [d1, d2] }
  | _ => none }
def FnExactLoansOfWrongFalsely : Prop := fnExactLoansOfRow.holds Try.pinned (OpenSpec.ofChange fnExactLoansOfWrong)

/- THE SECOND FORM. 'bulk': how many values and letters a reading holds, each counted each time it is reached (what is shared counts as often as it is met; a slice's spare places count too). A statement '..UptoSaid' is the law's where the arguments, and the package variables that the reading takes, are together of bulk at most 1048576: NARROWER than '..Said'. Prove '..Said' where nothing that the law and all that it calls make is longer than what came in: it says more and counts as full. Else prove '..UptoSaid'. A law counts once. -/
mutual
def uptoBulk {H : Type} : DataW H → Nat
  | .lit (.string bytes) => bytes.length + 1
  | .lit _ => 1
  | .nil => 1
  | .ptr d => uptoBulk d + 1
  | .slice elems spare => uptoBulkAll elems + uptoBulkAll spare + 1
  | .agg parts => uptoBulkAll parts + 1
  | .iface _ d => uptoBulk d + 1
  | .map entries => uptoBulkEntries entries + 1
  | .held _ => 1
def uptoBulkAll {H : Type} : List (DataW H) → Nat
  | [] => 0
  | d :: r => uptoBulk d + uptoBulkAll r
def uptoBulkEntries {H : Type} : List (Lit × DataW H) → Nat
  | [] => 0
  | x :: r => uptoBulkEntry x + uptoBulkEntries r
def uptoBulkEntry {H : Type} : Lit × DataW H → Nat
  | (.string bytes, d) => bytes.length + uptoBulk d + 1
  | (_, d) => uptoBulk d + 1
 end
def uptoSmall : (H : Type) → List (DataW H) → Bool := fun _ ds => decide (uptoBulkAll ds ≤ 1048576)
def OpenSpec.upto (s : _root_.Go.ChangeSpec) : _root_.Go.OpenSpec := { _root_.Go.OpenSpec.ofChange s with cond := some uptoSmall }

/-- 'laws.FnExactEmptyDesk', WHERE WHAT IT READS IS OF BULK AT MOST 1048576: true; the input reads as it did. -/
def fnExactEmptyDeskUptoRow : OpenClaim := { program := "ytoeocaenflkajaa", sum := "3960844120d2a20029971c966856596004c301c2623cb3d1fc70d7b0ce74c615", func := "loop.example/g01326/laws.FnExactEmptyDesk", spec := "fnExactEmptyDesk", apart := false, narrowed := true }
def FnExactEmptyDeskUptoSaid : Prop := fnExactEmptyDeskUptoRow.holds Try.pinned (OpenSpec.upto fnExactEmptyDeskSpec)

/-- 'laws.FnExactSameDesk', WHERE WHAT IT READS IS OF BULK AT MOST 1048576: true; the input reads as it did. -/
def fnExactSameDeskUptoRow : OpenClaim := { program := "ytoeocaenflkajaa", sum := "3960844120d2a20029971c966856596004c301c2623cb3d1fc70d7b0ce74c615", func := "loop.example/g01326/laws.FnExactSameDesk", spec := "fnExactSameDesk", unfollowed := true, recurses := true, apart := false, narrowed := true }
def FnExactSameDeskUptoSaid : Prop := fnExactSameDeskUptoRow.holds Try.pinned (OpenSpec.upto fnExactSameDeskSpec)

/-- 'laws.FnExactValidDesk', WHERE WHAT IT READS IS OF BULK AT MOST 1048576: true; the input reads as it did. -/
def fnExactValidDeskUptoRow : OpenClaim := { program := "ytoeocaenflkajaa", sum := "3960844120d2a20029971c966856596004c301c2623cb3d1fc70d7b0ce74c615", func := "loop.example/g01326/laws.FnExactValidDesk", spec := "fnExactValidDesk", unfollowed := true, recurses := true, apart := false, narrowed := true }
def FnExactValidDeskUptoSaid : Prop := fnExactValidDeskUptoRow.holds Try.pinned (OpenSpec.upto fnExactValidDeskSpec)

/-- 'laws.FnExactCountStates', WHERE WHAT IT READS IS OF BULK AT MOST 1048576: true; the input reads as it did. -/
def fnExactCountStatesUptoRow : OpenClaim := { program := "ytoeocaenflkajaa", sum := "3960844120d2a20029971c966856596004c301c2623cb3d1fc70d7b0ce74c615", func := "loop.example/g01326/laws.FnExactCountStates", spec := "fnExactCountStates", unfollowed := true, recurses := true, apart := false, narrowed := true }
def FnExactCountStatesUptoSaid : Prop := fnExactCountStatesUptoRow.holds Try.pinned (OpenSpec.upto fnExactCountStatesSpec)

/-- 'laws.FnExactFineOf', WHERE WHAT IT READS IS OF BULK AT MOST 1048576: true; the input reads as it did. -/
def fnExactFineOfUptoRow : OpenClaim := { program := "ytoeocaenflkajaa", sum := "3960844120d2a20029971c966856596004c301c2623cb3d1fc70d7b0ce74c615", func := "loop.example/g01326/laws.FnExactFineOf", spec := "fnExactFineOf", unfollowed := true, recurses := true, apart := false, narrowed := true }
def FnExactFineOfUptoSaid : Prop := fnExactFineOfUptoRow.holds Try.pinned (OpenSpec.upto fnExactFineOfSpec)

/-- 'laws.FnExactPlaceInQueue', WHERE WHAT IT READS IS OF BULK AT MOST 1048576: true; the input reads as it did. -/
def fnExactPlaceInQueueUptoRow : OpenClaim := { program := "ytoeocaenflkajaa", sum := "3960844120d2a20029971c966856596004c301c2623cb3d1fc70d7b0ce74c615", func := "loop.example/g01326/laws.FnExactPlaceInQueue", spec := "fnExactPlaceInQueue", unfollowed := true, recurses := true, apart := false, narrowed := true }
def FnExactPlaceInQueueUptoSaid : Prop := fnExactPlaceInQueueUptoRow.holds Try.pinned (OpenSpec.upto fnExactPlaceInQueueSpec)

/-- 'laws.FnExactMayLend', WHERE WHAT IT READS IS OF BULK AT MOST 1048576: true; the input reads as it did. -/
def fnExactMayLendUptoRow : OpenClaim := { program := "ytoeocaenflkajaa", sum := "3960844120d2a20029971c966856596004c301c2623cb3d1fc70d7b0ce74c615", func := "loop.example/g01326/laws.FnExactMayLend", spec := "fnExactMayLend", unfollowed := true, recurses := true, apart := false, narrowed := true }
def FnExactMayLendUptoSaid : Prop := fnExactMayLendUptoRow.holds Try.pinned (OpenSpec.upto fnExactMayLendSpec)

/-- 'laws.FnExactNextDue', WHERE WHAT IT READS IS OF BULK AT MOST 1048576: true; the input reads as it did. -/
def fnExactNextDueUptoRow : OpenClaim := { program := "ytoeocaenflkajaa", sum := "3960844120d2a20029971c966856596004c301c2623cb3d1fc70d7b0ce74c615", func := "loop.example/g01326/laws.FnExactNextDue", spec := "fnExactNextDue", unfollowed := true, recurses := true, apart := false, narrowed := true }
def FnExactNextDueUptoSaid : Prop := fnExactNextDueUptoRow.holds Try.pinned (OpenSpec.upto fnExactNextDueSpec)

/-- 'laws.FnExactWaitAtMost', WHERE WHAT IT READS IS OF BULK AT MOST 1048576: true; the input reads as it did. -/
def fnExactWaitAtMostUptoRow : OpenClaim := { program := "ytoeocaenflkajaa", sum := "3960844120d2a20029971c966856596004c301c2623cb3d1fc70d7b0ce74c615", func := "loop.example/g01326/laws.FnExactWaitAtMost", spec := "fnExactWaitAtMost", unfollowed := true, recurses := true, apart := false, narrowed := true }
def FnExactWaitAtMostUptoSaid : Prop := fnExactWaitAtMostUptoRow.holds Try.pinned (OpenSpec.upto fnExactWaitAtMostSpec)

/-- 'laws.FnExactDummies', WHERE WHAT IT READS IS OF BULK AT MOST 1048576: true; the input reads as it did. -/
def fnExactDummiesUptoRow : OpenClaim := { program := "ytoeocaenflkajaa", sum := "3960844120d2a20029971c966856596004c301c2623cb3d1fc70d7b0ce74c615", func := "loop.example/g01326/laws.FnExactDummies", spec := "fnExactDummies", unfollowed := true, recurses := true, apart := false, narrowed := true }
def FnExactDummiesUptoSaid : Prop := fnExactDummiesUptoRow.holds Try.pinned (OpenSpec.upto fnExactDummiesSpec)

/-- 'laws.FnExactOverdueBooks', WHERE WHAT IT READS IS OF BULK AT MOST 1048576: true; the input reads as it did. -/
def fnExactOverdueBooksUptoRow : OpenClaim := { program := "ytoeocaenflkajaa", sum := "3960844120d2a20029971c966856596004c301c2623cb3d1fc70d7b0ce74c615", func := "loop.example/g01326/laws.FnExactOverdueBooks", spec := "fnExactOverdueBooks", unfollowed := true, recurses := true, apart := false, narrowed := true }
def FnExactOverdueBooksUptoSaid : Prop := fnExactOverdueBooksUptoRow.holds Try.pinned (OpenSpec.upto fnExactOverdueBooksSpec)

/-- 'laws.FnExactLoansOf', WHERE WHAT IT READS IS OF BULK AT MOST 1048576: true; the input reads as it did. -/
def fnExactLoansOfUptoRow : OpenClaim := { program := "ytoeocaenflkajaa", sum := "3960844120d2a20029971c966856596004c301c2623cb3d1fc70d7b0ce74c615", func := "loop.example/g01326/laws.FnExactLoansOf", spec := "fnExactLoansOf", unfollowed := true, recurses := true, apart := false, narrowed := true }
def FnExactLoansOfUptoSaid : Prop := fnExactLoansOfUptoRow.holds Try.pinned (OpenSpec.upto fnExactLoansOfSpec)

end Rows
end Go.Proofs.Ytoeocaenflkajaa
