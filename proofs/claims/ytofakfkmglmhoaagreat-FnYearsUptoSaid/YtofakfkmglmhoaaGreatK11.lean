/- Contracts of the program's functions, and what follows from them. -/
import Derived.Test.YtofakfkmglmhoaaGreatK10
import Derived.Test.YtofakfkmglmhoaaGreatMF
import Derived.Test.YtofakfkmglmhoaaGreatKRd
import Derived.Test.YtofakfkmglmhoaaGreatMC
set_option linter.unusedVariables false
set_option maxRecDepth 100000
set_option linter.unusedSimpArgs false
namespace Go.Proofs.YtofakfkmglmhoaaGreat
open Go Go.Av

/-! Lists of lists of books. -/

end Go.Proofs.YtofakfkmglmhoaaGreat
