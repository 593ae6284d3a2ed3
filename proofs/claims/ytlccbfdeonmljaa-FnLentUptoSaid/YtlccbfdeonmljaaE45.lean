/- Contracts of the program's functions, and what follows from them. -/
import Derived.Test.YtlccbfdeonmljaaE44
set_option linter.unusedVariables false
set_option maxRecDepth 100000
set_option linter.unusedSimpArgs false
namespace Go.Proofs.Ytlccbfdeonmljaa
open Go Go.Av

/-! What is drawn out of bytes: words that fit. -/

end Go.Proofs.Ytlccbfdeonmljaa
