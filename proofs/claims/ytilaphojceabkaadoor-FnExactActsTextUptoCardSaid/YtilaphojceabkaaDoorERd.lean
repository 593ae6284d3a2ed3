/- Contracts of the program's functions, and what follows from them. -/
import Derived.Test.YtilaphojceabkaaDoorE2
import Derived.Test.YtilaphojceabkaaDoorMD
set_option linter.unusedVariables false
set_option maxRecDepth 100000
namespace Go.Proofs.YtilaphojceabkaaDoor
open Go Go.Av

theorem rdAc : Rd Tryd.prog 1048576 24 3 acA acRng := by
  refine Rd.map (α := Int × Int × Int × Unit) (g := fun x => ⟨x.1, x.2.1, x.2.2.1⟩)
    (Rd.struct Tryd.underlying24 (by kernel_rfl) (.cons (.int Tryd.underlying22) (by kernel_rfl) rfl rfl rfl (.cons (.int Tryd.underlying22) (by kernel_rfl) rfl rfl rfl (.cons (.int Tryd.underlying22) (by kernel_rfl) rfl rfl rfl .nil))))
    (fun x _ => rfl) (fun x hx => ⟨wf8 hx.1, wf8 hx.2.1, wf8 hx.2.2.1⟩) (fun _ _ => rfl) (fun y => ⟨(y.what, y.who, y.book, ()), rfl⟩)
end Go.Proofs.YtilaphojceabkaaDoor
