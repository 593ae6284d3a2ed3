/- Contracts of the program's functions, and what follows from them. -/
import Derived.Test.YtjajfepcknieeaaGreatDoorEAn
import Derived.Test.YtjajfepcknieeaaGreatDoorE19
import Derived.Shelf.Vars
set_option linter.unusedVariables false
set_option maxRecDepth 100000
namespace Go.Proofs.YtjajfepcknieeaaGreatDoor
open Go Go.Av Go.RowKit

theorem ambR_laid {W : World} (rest : List (String × DataW Unit)) (h : laidMet Tryz.prog (("strconv.ErrRange", Rows.laid_strconv_ErrRange) :: rest) W) : ambR.on W [] := by
  obtain ⟨a0, s0, hv0, -, -, -⟩ := laid_sentinel (g := 2) h (by kernel_rfl) (by kernel_rfl) Tryz.underlying132 rowErr Tryz.underlying248 Tryz.underlying250 rfl rfl Tryz.underlying9 (by kernel_rfl) (by kernel_rfl)
  exact Amb.var_on (by kernel_rfl) hv0 ⟨_, _, rfl⟩

theorem ambM_shaped {W : World} (h : W.ShapedOpen Tryz.prog) : ambM.on W [] := by
  obtain ⟨m, hm⟩ := cell_of_shapedOpen_int (g := 0) (t := 3) (zero := #[.int .i64 0]) h (by decide +kernel) (by kernel_rfl) rfl (by kernel_rfl) (by kernel_rfl) Tryz.underlying3
  exact ⟨⟨m, hm⟩, World.block_lt_of_cell? W _ hm, by simp⟩

theorem ambA_laid {W : World} (rest : List (String × DataW Unit)) (h : laidMet Tryz.prog (("math/bits.deBruijn32tab", Rows.laid_math_bits_deBruijn32tab) :: ("math/bits.deBruijn64tab", Rows.laid_math_bits_deBruijn64tab) ::
    ("internal/strconv.uint64pow10", Rows.laid_internal_strconv_uint64pow10) :: ("unicode/utf8.acceptRanges", Rows.laid_unicode_utf8_acceptRanges) :: ("strconv.ErrRange", Rows.laid_strconv_ErrRange) :: ("strconv.ErrSyntax", Rows.laid_strconv_ErrSyntax) :: rest) W)
    (hS : W.ShapedOpen Tryz.prog) : ambA.on W [] := by
  have h4 := laidMet.tail (laidMet.tail (laidMet.tail (laidMet.tail h)))
  exact Amb.on_and.2 ⟨Amb.on_and.2 ⟨ambT_laid _ h, ambE_laid rest (laidMet.tail h4)⟩, Amb.on_and.2 ⟨ambR_laid _ h4, ambM_shaped hS⟩⟩
end Go.Proofs.YtjajfepcknieeaaGreatDoor
