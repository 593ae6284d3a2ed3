/- Nothing of the library beside SA at this seat. -/
import Derived.Test.YtmeejegdgfkogaaGreatDoorSA
namespace Go.Proofs
end Go.Proofs
