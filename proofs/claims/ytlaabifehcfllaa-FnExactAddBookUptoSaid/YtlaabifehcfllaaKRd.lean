/- Contracts of the program's functions, and what follows from them. -/
import Derived.Test.YtlaabifehcfllaaK2
import Derived.Test.YtlaabifehcfllaaMC
set_option linter.unusedVariables false
set_option maxRecDepth 100000
namespace Go.Proofs.Ytlaabifehcfllaa
open Go Go.Av

theorem rdPl : Rd Try.prog 1048576 133 9 plA plRng := by
  refine Rd.map (α := Int × Bk × Unit) (g := fun x => ⟨x.1, x.2.1⟩)
    (Rd.struct Try.underlying133 (by kernel_rfl) (.cons (.int Try.underlying37) (by kernel_rfl) rfl rfl rfl (.cons rdBk (by kernel_rfl) rfl rfl rfl .nil)))
    (fun x _ => rfl) (fun x hx => ⟨wf16 hx.1, hx.2.1⟩) (fun _ _ => rfl) (fun y => ⟨(y.p, y.b, ()), rfl⟩)

theorem rdRk : Rd Try.prog 1048576 45 2 (rkR false) rkOk := by
  refine Rd.map (α := Int × List Pl × Unit) (g := fun x => ⟨x.1, x.2.1⟩)
    (Rd.struct Try.underlying45 (by kernel_rfl) (.cons (.int Try.underlying37) (by kernel_rfl) rfl rfl rfl (.cons (.slice Try.underlying43 (by kernel_rfl) (by decide) rdPl) (by kernel_rfl) rfl rfl rfl .nil)))
    (fun x _ => rfl) (fun x hx => ⟨⟨wf16 hx.1, hx.2.1.1⟩, hx.2.1.2⟩) (fun _ _ => rfl) (fun y => ⟨(y.pl, y.bs, ()), rfl⟩)
end Go.Proofs.Ytlaabifehcfllaa
