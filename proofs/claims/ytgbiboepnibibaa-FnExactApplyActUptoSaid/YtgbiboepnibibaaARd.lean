/- Contracts of the program's functions, and what follows from them. -/
import Derived.Test.YtgbiboepnibibaaMG
import Derived.Test.YtgbiboepnibibaaMD
set_option linter.unusedVariables false
set_option maxRecDepth 100000
namespace Go.Proofs.Ytgbiboepnibibaa
open Go Go.Av

theorem rdAc : Rd Try.prog 1048576 41 3 acA acRng := by
  refine Rd.map (α := Int × Int × Int × Unit) (g := fun x => ⟨x.1, x.2.1, x.2.2.1⟩)
    (Rd.struct Try.underlying41 (by kernel_rfl) (.cons (.int Try.underlying39) (by kernel_rfl) rfl rfl rfl (.cons (.int Try.underlying39) (by kernel_rfl) rfl rfl rfl (.cons (.int Try.underlying39) (by kernel_rfl) rfl rfl rfl .nil))))
    (fun x _ => rfl) (fun x hx => ⟨wf8 hx.1, wf8 hx.2.1, wf8 hx.2.2.1⟩) (fun _ _ => rfl) (fun y => ⟨(y.what, y.who, y.book, ()), rfl⟩)

def acsOk (l : List Ac) : Prop := l.length ≤ 1048576 ∧ ∀ a ∈ l, acRng a
theorem rdAcs : Rd Try.prog 1048576 47 1 (fun l : List Ac => .ro 3 false (l.map acA)) acsOk :=
  .slice Try.underlying47 (by kernel_rfl) (by decide) rdAc
end Go.Proofs.Ytgbiboepnibibaa
