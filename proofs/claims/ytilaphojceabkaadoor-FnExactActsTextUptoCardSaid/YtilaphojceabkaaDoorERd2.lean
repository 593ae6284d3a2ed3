/- Contracts of the program's functions, and what follows from them. -/
import Derived.Test.YtilaphojceabkaaDoorERd
set_option linter.unusedVariables false
set_option maxRecDepth 100000
namespace Go.Proofs.YtilaphojceabkaaDoor
open Go Go.Av

def acsOk (l : List Ac) : Prop := l.length ≤ 1048576 ∧ ∀ a ∈ l, acRng a
theorem rdAcs : Rd Tryd.prog 1048576 29 1 (fun l : List Ac => .ro 3 false (l.map acA)) acsOk :=
  .slice Tryd.underlying29 (by kernel_rfl) (by decide) rdAc
end Go.Proofs.YtilaphojceabkaaDoor
