/- Contracts of the program's functions, and what follows from them. -/
import Derived.Test.YtahdgoddpkmhbaaD6
import Derived.Test.YtahdgoddpkmhbaaAvDraw
set_option linter.unusedVariables false
namespace Go.Proofs.Ytahdgoddpkmhbaa
open Go Go.Av

theorem rp_bo {p q : Prop} [Decidable p] [Decidable q] (h : p ↔ q) : bo (decide p) = bo (decide q) := by
  congr 2; exact propext h

theorem szD_bound {d : Dk} {n : Int} (h : 0 ≤ n) (h2 : n ≤ 1048576) : szD d n ≤ 1048576 := by
  have : ∀ (l : List Cp) (n : Int), 0 ≤ n → n ≤ 1048576 → szCs l n ≤ 1048576 := by
    intro l
    induction l with
    | nil => intro n _ h; exact h
    | cons c l ih =>
      intro n h0 h1
      rw [szCs]
      have := szQ_le (l := c.q) h0
      split
      · omega
      · exact ih _ (by omega) (by omega)
  unfold szD
  split
  · omega
  · exact this _ _ (by omega) (by omega)

/-- A desk that a row may speak of. -/
def dkOk (d : Dk) : Prop := d.cs.length ≤ 1048576 ∧ ∀ c ∈ d.cs, c.q.length ≤ 1048576

theorem dk_exp (d : Dk) : [dkR true true d] = [dkR true true d] := rfl

end Go.Proofs.Ytahdgoddpkmhbaa
