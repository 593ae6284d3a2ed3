/- Contracts of the program's functions, and what follows from them. -/
import Derived.Test.YtjajfepcknieeaaGreatDoorE7
import Derived.Test.YtjajfepcknieeaaGreatDoorMF
import Derived.Test.YtjajfepcknieeaaGreatDoorSB
import Derived.Lib.AtoiTie
set_option linter.unusedVariables false
set_option maxRecDepth 100000
set_option linter.unusedSimpArgs false
namespace Go.Proofs.YtjajfepcknieeaaGreatDoor
open Go Go.Av

/-! Reading labels. -/

noncomputable def ambE : Amb := Amb.var Tryz.prog "strconv.ErrSyntax" 1 (fun cs => ∃ tp p, cs = #[.iface tp p])
noncomputable def ambS : Amb := Amb.and ambT ambE
theorem ambS_T {w : World} {F : List Nat} (h : ambS.on w F) : ambT.on w F := (Amb.on_and.1 h).1

end Go.Proofs.YtjajfepcknieeaaGreatDoor
