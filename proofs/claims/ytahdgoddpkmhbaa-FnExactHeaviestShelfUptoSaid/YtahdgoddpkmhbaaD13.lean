/- Contracts of the program's functions, and what follows from them. -/
import Derived.Test.YtahdgoddpkmhbaaD12
set_option linter.unusedVariables false
namespace Go.Proofs.Ytahdgoddpkmhbaa
open Go Go.Av

/-! A desk, a person and a book: their code; fines. -/

def dCode (d : Dk) (who book : Int) : Int := if vD d then (if inr who 0 49 && inr book 0 (d.cs.length - 1) then 0 else 2) else 1

theorem dCode_0 {d : Dk} {who book : Int} (h : dCode d who book = 0) : vD d = true ∧ inr who 0 49 = true ∧ ∃ j : Nat, book = j ∧ j < d.cs.length := by
  unfold dCode at h
  split at h
  · rename_i hv
    split at h
    · rename_i hi
      rw [Bool.and_eq_true] at hi
      refine ⟨hv, hi.1, book.toNat, ?_, ?_⟩ <;> (have := hi.2; simp [inr] at this; omega)
    · cases h
  · cases h

theorem vD_day {d : Dk} (h : vD d = true) : 0 ≤ d.day ∧ d.day ≤ 10000 := by
  simp only [vD, Bool.and_eq_true] at h
  simpa [inr] using h.1.1.1
theorem vD_len {d : Dk} (h : vD d = true) : d.cs.length ≤ 60 := by
  simp only [vD, Bool.and_eq_true, decide_eq_true_eq] at h
  exact h.1.1.2
theorem vD_cp {d : Dk} (h : vD d = true) : ∀ c ∈ d.cs, vC c d.day = true := by
  simp only [vD, Bool.and_eq_true] at h
  simpa using h.1.2
theorem vC_due {c : Cp} {day : Int} (h : vC c day = true) : 0 ≤ c.due ∧ c.due ≤ 10028 := by
  unfold vC at h
  split at h
  · simp at h; omega
  · simp only [Bool.and_eq_true] at h
    simpa [inr] using h.1.1.1.2

def over (day : Int) (c : Cp) : Bool := decide (c.st = 1) && decide (c.due < day)
def fineP (day : Int) (c : Cp) : Int := if over day c then 5 * (day - c.due) else 0

def fineRes (d : Dk) (book : Int) : Int × Int := if dCode d 0 book = 0 then (fineP d.day (d.cs.getD book.toNat cp0), 0) else (0, dCode d 0 book)

end Go.Proofs.Ytahdgoddpkmhbaa
