/- Contracts of the program's functions, and what follows from them. -/
import Derived.Test.YtilaphojceabkaaDoorK2
import Derived.Test.YtilaphojceabkaaDoorMC
set_option linter.unusedVariables false
set_option maxRecDepth 100000
namespace Go.Proofs.YtilaphojceabkaaDoor
open Go Go.Av

theorem rdPl : Rd Tryd.prog 1048576 123 9 plA plRng := by
  refine Rd.map (α := Int × Bk × Unit) (g := fun x => ⟨x.1, x.2.1⟩)
    (Rd.struct Tryd.underlying123 (by kernel_rfl) (.cons (.int Tryd.underlying36) (by kernel_rfl) rfl rfl rfl (.cons rdBk (by kernel_rfl) rfl rfl rfl .nil)))
    (fun x _ => rfl) (fun x hx => ⟨wf16 hx.1, hx.2.1⟩) (fun _ _ => rfl) (fun y => ⟨(y.p, y.b, ()), rfl⟩)

theorem rdRk : Rd Tryd.prog 1048576 46 2 (rkR false) rkOk := by
  refine Rd.map (α := Int × List Pl × Unit) (g := fun x => ⟨x.1, x.2.1⟩)
    (Rd.struct Tryd.underlying46 (by kernel_rfl) (.cons (.int Tryd.underlying36) (by kernel_rfl) rfl rfl rfl (.cons (.slice Tryd.underlying44 (by kernel_rfl) (by decide) rdPl) (by kernel_rfl) rfl rfl rfl .nil)))
    (fun x _ => rfl) (fun x hx => ⟨⟨wf16 hx.1, hx.2.1.1⟩, hx.2.1.2⟩) (fun _ _ => rfl) (fun y => ⟨(y.pl, y.bs, ()), rfl⟩)
end Go.Proofs.YtilaphojceabkaaDoor
