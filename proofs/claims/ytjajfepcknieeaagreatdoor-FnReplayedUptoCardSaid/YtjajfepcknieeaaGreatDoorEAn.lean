/- Contracts of the program's functions, and what follows from them. -/
import Derived.Test.YtjajfepcknieeaaGreatDoorEAm
import Derived.Test.YtjajfepcknieeaaGreatDoorE8
set_option linter.unusedVariables false
set_option maxRecDepth 100000
namespace Go.Proofs.YtjajfepcknieeaaGreatDoor
open Go Go.Av Go.RowKit

theorem rowErr : ∀ u, Tryz.prog.typeName? 3 u = some "*errors.errorString" → u = 248 := by
  intro u hu
  have star : "*errors.errorString" = "*" ++ "errors.errorString" := by decide
  rw [star] at hu
  exact typeName_ptr_named (nm := "errors.errorString") (by kernel_rfl) (by kernel_rfl) (by decide) u hu

theorem ambE_laid {W : World} (rest : List (String × DataW Unit)) (h : laidMet Tryz.prog (("strconv.ErrSyntax", Rows.laid_strconv_ErrSyntax) :: rest) W) : ambE.on W [] := by
  obtain ⟨a0, s0, hv0, -, -, -⟩ := laid_sentinel (g := 1) h (by kernel_rfl) (by kernel_rfl) Tryz.underlying132 rowErr Tryz.underlying248 Tryz.underlying250 rfl rfl Tryz.underlying9 (by kernel_rfl) (by kernel_rfl)
  exact Amb.var_on (by kernel_rfl) hv0 ⟨_, _, rfl⟩

end Go.Proofs.YtjajfepcknieeaaGreatDoor
