/- Contracts of the program's functions, and what follows from them. -/
import Derived.Test.YtoeocaenflkajaaD7
import Derived.Test.YtoeocaenflkajaaAvRow
set_option linter.unusedVariables false
namespace Go.Proofs.Ytoeocaenflkajaa
open Go Go.Av

def i8r (n : Int) : Prop := -128 ≤ n ∧ n ≤ 127
def i16r (n : Int) : Prop := -32768 ≤ n ∧ n ≤ 32767
def cpRng (c : Cp) : Prop := i8r c.st ∧ i8r c.who ∧ i16r c.due ∧ i8r c.ren ∧ ∀ x ∈ c.q, i8r x
def dkRng (d : Dk) : Prop := i16r d.day ∧ ∀ c ∈ d.cs, cpRng c

theorem wf8 {n : Int} (h : (Lit.int .i8 n).wf = true) : i8r n := by
  simpa [Lit.wf, IntKind.min, IntKind.max, IntKind.signed, IntKind.bits, i8r] using h
theorem wf16 {n : Int} (h : (Lit.int .i16 n).wf = true) : i16r n := by
  simpa [Lit.wf, IntKind.min, IntKind.max, IntKind.signed, IntKind.bits, i16r] using h

theorem rdCp : Rd Try.prog 1048576 100 5 (cpR false) (fun c => c.q.length ≤ 1048576 ∧ cpRng c) := by
  refine Rd.map (α := Int × Int × Int × Int × List Int × Unit) (g := fun x => ⟨x.1, x.2.1, x.2.2.1, x.2.2.2.1, x.2.2.2.2.1⟩)
    (Rd.struct Try.underlying100 (by kernel_rfl) (.cons (.int Try.underlying62) (by kernel_rfl) rfl rfl rfl (.cons (.int Try.underlying62) (by kernel_rfl) rfl rfl rfl
      (.cons (.int Try.underlying22) (by kernel_rfl) rfl rfl rfl (.cons (.int Try.underlying62) (by kernel_rfl) rfl rfl rfl
        (.cons (.slice Try.underlying63 (by kernel_rfl) (by decide) (.int Try.underlying62)) (by kernel_rfl) rfl rfl rfl .nil))))))
    (fun x _ => rfl) (fun x hx => ⟨hx.2.2.2.2.1.1, wf8 hx.1, wf8 hx.2.1, wf16 hx.2.2.1, wf8 hx.2.2.2.1, fun y hy => wf8 (hx.2.2.2.2.1.2 y hy)⟩) (fun _ _ => rfl) (fun y => ⟨(y.st, y.who, y.due, y.ren, y.q, ()), rfl⟩)

theorem rdDk : Rd Try.prog 1048576 33 2 (dkR false false) (fun d => dkOk d ∧ dkRng d) := by
  refine Rd.map (α := Int × List Cp × Unit) (g := fun x => ⟨x.1, x.2.1⟩)
    (Rd.struct Try.underlying33 (by kernel_rfl) (.cons (.int Try.underlying22) (by kernel_rfl) rfl rfl rfl (.cons (.slice Try.underlying31 (by kernel_rfl) (by decide) rdCp) (by kernel_rfl) rfl rfl rfl .nil)))
    (fun x _ => rfl) (fun x hx => ⟨⟨hx.2.1.1, fun c hc => (hx.2.1.2 c hc).1⟩, wf16 hx.1, fun c hc => (hx.2.1.2 c hc).2⟩) (fun _ _ => rfl) (fun y => ⟨(y.day, y.cs, ()), rfl⟩)
end Go.Proofs.Ytoeocaenflkajaa
