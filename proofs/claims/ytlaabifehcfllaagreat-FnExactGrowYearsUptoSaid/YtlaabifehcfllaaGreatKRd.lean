/- Contracts of the program's functions, and what follows from them. -/
import Derived.Test.YtlaabifehcfllaaGreatK2
import Derived.Test.YtlaabifehcfllaaGreatMC
set_option linter.unusedVariables false
set_option maxRecDepth 100000
namespace Go.Proofs.YtlaabifehcfllaaGreat
open Go Go.Av

theorem rdPl : Rd Tryz.prog 1048576 149 9 plA plRng := by
  refine Rd.map (α := Int × Bk × Unit) (g := fun x => ⟨x.1, x.2.1⟩)
    (Rd.struct Tryz.underlying149 (by kernel_rfl) (.cons (.int Tryz.underlying22) (by kernel_rfl) rfl rfl rfl (.cons rdBk (by kernel_rfl) rfl rfl rfl .nil)))
    (fun x _ => rfl) (fun x hx => ⟨wf16 hx.1, hx.2.1⟩) (fun _ _ => rfl) (fun y => ⟨(y.p, y.b, ()), rfl⟩)

theorem rdRk : Rd Tryz.prog 1048576 25 2 (rkR false) rkOk := by
  refine Rd.map (α := Int × List Pl × Unit) (g := fun x => ⟨x.1, x.2.1⟩)
    (Rd.struct Tryz.underlying25 (by kernel_rfl) (.cons (.int Tryz.underlying22) (by kernel_rfl) rfl rfl rfl (.cons (.slice Tryz.underlying23 (by kernel_rfl) (by decide) rdPl) (by kernel_rfl) rfl rfl rfl .nil)))
    (fun x _ => rfl) (fun x hx => ⟨⟨wf16 hx.1, hx.2.1.1⟩, hx.2.1.2⟩) (fun _ _ => rfl) (fun y => ⟨(y.pl, y.bs, ()), rfl⟩)
end Go.Proofs.YtlaabifehcfllaaGreat
