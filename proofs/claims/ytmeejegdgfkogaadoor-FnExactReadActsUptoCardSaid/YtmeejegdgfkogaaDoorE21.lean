/- Contracts of the program's functions, and what follows from them. -/
import Derived.Test.YtmeejegdgfkogaaDoorE20
set_option linter.unusedVariables false
set_option maxRecDepth 100000
set_option linter.unusedSimpArgs false
namespace Go.Proofs.YtmeejegdgfkogaaDoor
open Go Go.Av

def rdA (s : List UInt8) : Ac × Int := if (raS s).2 then ((raS s).1, 0) else (ac0, 5)

end Go.Proofs.YtmeejegdgfkogaaDoor
