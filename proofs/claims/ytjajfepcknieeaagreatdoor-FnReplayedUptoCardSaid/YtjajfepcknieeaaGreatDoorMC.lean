/- Parts of a proof, in one text: B1, B2, BRd. -/
import Derived.Test.YtjajfepcknieeaaGreatDoorMD
import Derived.Test.YtjajfepcknieeaaGreatDoorMF
import Derived.Test.YtjajfepcknieeaaGreatDoorAvRow
set_option linter.unusedVariables false

/- Contracts of the program's functions, and what follows from them. -/
set_option maxRecDepth 100000
namespace Go.Proofs.YtjajfepcknieeaaGreatDoor
open Go Go.Av

/-! Books: copied, measured, compared. -/

structure Bk where
  cl : Int
  a : Int
  b : Int
  c : Int
  vol : Int
  wd : Int
  hi : Int
  wt : Int
  deriving DecidableEq

end Go.Proofs.YtjajfepcknieeaaGreatDoor

/- Contracts of the program's functions, and what follows from them. -/
set_option maxRecDepth 100000
namespace Go.Proofs.YtjajfepcknieeaaGreatDoor
open Go Go.Av

/-! Which books are valid. -/

end Go.Proofs.YtjajfepcknieeaaGreatDoor

/- Contracts of the program's functions, and what follows from them. -/
set_option maxRecDepth 100000
namespace Go.Proofs.YtjajfepcknieeaaGreatDoor
open Go Go.Av

end Go.Proofs.YtjajfepcknieeaaGreatDoor
