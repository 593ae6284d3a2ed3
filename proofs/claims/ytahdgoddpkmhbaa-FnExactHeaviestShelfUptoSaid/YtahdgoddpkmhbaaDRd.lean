/- Contracts of the program's functions, and what follows from them. -/
import Derived.Test.YtahdgoddpkmhbaaD7
import Derived.Test.YtahdgoddpkmhbaaAvRow
set_option linter.unusedVariables false
namespace Go.Proofs.Ytahdgoddpkmhbaa
open Go Go.Av

def i8r (n : Int) : Prop := -128 ≤ n ∧ n ≤ 127
def i16r (n : Int) : Prop := -32768 ≤ n ∧ n ≤ 32767
def cpRng (c : Cp) : Prop := i8r c.st ∧ i8r c.who ∧ i16r c.due ∧ i8r c.ren ∧ ∀ x ∈ c.q, i8r x
def dkRng (d : Dk) : Prop := i16r d.day ∧ ∀ c ∈ d.cs, cpRng c

theorem wf8 {n : Int} (h : (Lit.int .i8 n).wf = true) : i8r n := by
  simpa [Lit.wf, IntKind.min, IntKind.max, IntKind.signed, IntKind.bits, i8r] using h
theorem wf16 {n : Int} (h : (Lit.int .i16 n).wf = true) : i16r n := by
  simpa [Lit.wf, IntKind.min, IntKind.max, IntKind.signed, IntKind.bits, i16r] using h

end Go.Proofs.Ytahdgoddpkmhbaa
