/- Contracts of the program's functions, and what follows from them. -/
import Derived.Test.YtenknlnnnicdeaaGreatDoorE6
import Derived.Test.YtenknlnnnicdeaaGreatDoorRows
import Derived.Stop.LaidErr
set_option linter.unusedVariables false
set_option maxRecDepth 100000
namespace Go.Proofs.YtenknlnnnicdeaaGreatDoor
open Go Go.Av Go.RowKit

theorem ambT_laid {W : World} (rest : List (String × DataW Unit)) (h : laidMet Tryz.prog (("math/bits.deBruijn32tab", Rows.laid_math_bits_deBruijn32tab) :: ("math/bits.deBruijn64tab", Rows.laid_math_bits_deBruijn64tab) ::
    ("internal/strconv.uint64pow10", Rows.laid_internal_strconv_uint64pow10) :: rest) W) : ambT.on W [] := by
  have h2 := laidMet.tail (laidMet.tail h)
  have ht : Lib.TabIs Tryz.prog W "internal/strconv.uint64pow10" .u64 Lib.pow10Tab :=
    Lib.tabIs_of_head (rest := rest) (g := 0) (by kernel_rfl) (by kernel_rfl) Tryz.underlying182 Tryz.underlying95 (by kernel_rfl) (by kernel_rfl) h2
  exact Amb.var_on (by kernel_rfl) ht rfl
end Go.Proofs.YtenknlnnnicdeaaGreatDoor
