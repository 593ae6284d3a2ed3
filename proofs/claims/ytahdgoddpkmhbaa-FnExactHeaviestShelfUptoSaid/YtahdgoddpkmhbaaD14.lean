/- Contracts of the program's functions, and what follows from them. -/
import Derived.Test.YtahdgoddpkmhbaaD13
set_option linter.unusedVariables false
namespace Go.Proofs.Ytahdgoddpkmhbaa
open Go Go.Av

/-! Places in queues; how long one waits. -/

def plq (d : Dk) (who book : Int) : Int := fi (fun x => x == who) (d.cs.getD book.toNat cp0).q
def placeRes (d : Dk) (who book : Int) : Int × Int := if dCode d who book = 0 then (if plq d who book < 0 then (0, 6) else (plq d who book, 0)) else (0, dCode d who book)

theorem inr_wrap {who : Int} (h : inr who 0 49 = true) : IntKind.i8.wrap who = who := by
  simp [inr] at h
  exact wrap_i8 (by omega) (by omega)

end Go.Proofs.Ytahdgoddpkmhbaa
