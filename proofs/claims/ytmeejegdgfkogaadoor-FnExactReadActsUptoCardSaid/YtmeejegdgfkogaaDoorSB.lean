/- Nothing of the library beside SA at this seat. -/
import Derived.Test.YtmeejegdgfkogaaDoorSA
namespace Go.Proofs
end Go.Proofs
