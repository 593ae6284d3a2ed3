/- Contracts of the program's functions, and what follows from them. -/
import Derived.Test.YtenknlnnnicdeaaGreatDoorE1
set_option linter.unusedVariables false
set_option maxRecDepth 100000
set_option linter.unusedSimpArgs false
namespace Go.Proofs.YtenknlnnnicdeaaGreatDoor
open Go Go.Av

/-! Texts of acts. -/

structure Ac where
  what : Int
  who : Int
  book : Int
  deriving DecidableEq
end Go.Proofs.YtenknlnnnicdeaaGreatDoor
