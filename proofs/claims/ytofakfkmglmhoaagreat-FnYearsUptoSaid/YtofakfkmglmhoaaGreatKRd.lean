/- Contracts of the program's functions, and what follows from them. -/
import Derived.Test.YtofakfkmglmhoaaGreatK2
import Derived.Test.YtofakfkmglmhoaaGreatMC
set_option linter.unusedVariables false
set_option maxRecDepth 100000
namespace Go.Proofs.YtofakfkmglmhoaaGreat
open Go Go.Av

end Go.Proofs.YtofakfkmglmhoaaGreat
