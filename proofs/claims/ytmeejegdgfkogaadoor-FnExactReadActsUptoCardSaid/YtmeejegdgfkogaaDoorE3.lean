/- Contracts of the program's functions, and what follows from them. -/
import Derived.Test.YtmeejegdgfkogaaDoorE2
import Derived.Test.YtmeejegdgfkogaaDoorMH
import Derived.WalkKit
import Derived.BigCall
import Derived.BigGuard
import Derived.Lib.Builder
import Derived.Lib.Walk
set_option linter.unusedVariables false
set_option maxRecDepth 100000
set_option linter.unusedSimpArgs false
namespace Go.Proofs.YtmeejegdgfkogaaDoor
open Go Go.Av Go.RowKit

/-! Builders: copyCheck, WriteString, String. -/

end Go.Proofs.YtmeejegdgfkogaaDoor
