/- Contracts of the program's functions, and what follows from them. -/
import Derived.Test.YtahdgoddpkmhbaaD4
set_option linter.unusedVariables false
namespace Go.Proofs.Ytahdgoddpkmhbaa
open Go Go.Av

theorem mkCs_get {l : List Cp} {j : Nat} (h : j < l.length) (k : Int) : (mkCs l k)[j]? = some (mkC l[j] (k + (cnt (l.take j) : Nat))) := by
  have e : mkCs l k = mkCs (l.take j) k ++ mkCs (l.drop j) (k + (cnt (l.take j) : Nat)) := by
    rw [← mkCs_append, List.take_append_drop]
  rw [e, List.getElem?_append_right (by rw [mkCs_len, List.length_take]; omega), mkCs_len, List.drop_eq_getElem_cons h]
  simp [mkCs, Nat.min_eq_left (Nat.le_of_lt h)]

end Go.Proofs.Ytahdgoddpkmhbaa
