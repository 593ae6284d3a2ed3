/- Contracts of the program's functions, and what follows from them. -/
import Derived.Test.YtahdgoddpkmhbaaD1
set_option linter.unusedVariables false
namespace Go.Proofs.Ytahdgoddpkmhbaa
open Go Go.Av

def cpZ : AV := .agg [i8 0, i8 0, i16 0, i8 0, .lit (.slice none 0 0)]

def szQ (l : List Int) (n : Int) : Int := if n - l.length < 0 then -1 else n - l.length
def szCs : List Cp → Int → Int
  | [], n => n
  | c :: cs, n => if szQ c.q n < 0 then -1 else szCs cs (szQ c.q n)
def szD (d : Dk) (n : Int) : Int := if n - d.cs.length < 0 then -1 else szCs d.cs (n - d.cs.length)

theorem szQ_le {l : List Int} {n : Int} (h : 0 ≤ n) : szQ l n ≤ n ∧ -1 ≤ szQ l n := by
  unfold szQ; split <;> omega
theorem szQ_neg {l : List Int} {n : Int} (h : 0 ≤ n) (h' : szQ l n < 0) : szQ l n = -1 := by
  unfold szQ at *; split <;> simp_all

theorem szCs_neg {l : List Cp} {n : Int} (h : 0 ≤ n) (h' : szCs l n < 0) : szCs l n = -1 := by
  induction l generalizing n with
  | nil => simp [szCs] at h'; omega
  | cons c l ih =>
    rw [szCs] at *
    split
    · rfl
    · rw [if_neg (by assumption)] at h'
      exact ih (by omega) h'
theorem szD_neg {d : Dk} {n : Int} (h : 0 ≤ n) (h' : szD d n < 0) : szD d n = -1 := by
  unfold szD at *
  split
  · rfl
  · rw [if_neg (by assumption)] at h'
    exact szCs_neg (by omega) h'

end Go.Proofs.Ytahdgoddpkmhbaa
