/- Contracts of the program's functions, and what follows from them. -/
import Derived.Test.YtahdgoddpkmhbaaD16
import Derived.Test.YtahdgoddpkmhbaaAvMore
set_option linter.unusedVariables false
namespace Go.Proofs.Ytahdgoddpkmhbaa
open Go Go.Av

/-! How many copies have each state. -/

def nst (s : Int) (l : List Cp) : Nat := (l.filter fun c => c.st == s).length
theorem nst_step {s : Int} {l : List Cp} {j : Nat} (h : j < l.length) : nst s (l.take (j + 1)) = nst s (l.take j) + (if l[j].st = s then 1 else 0) := by
  rw [List.take_succ_eq_append_getElem h, nst, List.filter_append, List.length_append]
  congr 1
  by_cases e : l[j].st = s <;> simp [e]
theorem nst_le (s : Int) (l : List Cp) (j : Nat) : nst s (l.take j) ≤ l.length := by
  refine Nat.le_trans (List.length_filter_le _ _) ?_
  rw [List.length_take]
  omega
theorem vC_st {c : Cp} {day : Int} (h : vC c day = true) : c.st = 0 ∨ c.st = 1 ∨ c.st = 2 := by
  unfold vC at h
  split at h
  · rename_i h0
    exact Or.inl h0
  · simp only [Bool.and_eq_true, Bool.or_eq_true, decide_eq_true_eq] at h
    omega

def c3 (a b c : Nat) : AV := .agg [i64 a, i64 b, i64 c]
def cntA (l : List Cp) : AV := c3 (nst 0 l) (nst 1 l) (nst 2 l)
def cntRes (d : Dk) : AV := if vD d then .tup [cntA d.cs, i64 0] else .tup [c3 0 0 0, i64 1]

end Go.Proofs.Ytahdgoddpkmhbaa
