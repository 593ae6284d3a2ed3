/- Contracts of the program's functions, and what follows from them. -/
import Derived.Test.YtahdgoddpkmhbaaD8
set_option linter.unusedVariables false
namespace Go.Proofs.Ytahdgoddpkmhbaa
open Go Go.Av

/-! A valid copy. -/

def qOk (who : Int) (q : List Int) : Bool := decide (∀ x ∈ q, inr x 0 49 = true) && decide ((who :: q).Nodup)
def vC (c : Cp) (day : Int) : Bool :=
  if c.st = 0 then decide (c.who = 0) && decide (c.due = 0) && decide (c.ren = 0) && decide (c.q = [])
  else (decide (c.st = 1) || decide (c.st = 2)) && inr c.who 0 49 && inr c.due 0 10028 && decide (c.q.length ≤ 4) && qOk c.who c.q &&
    (if c.st = 2 then decide (c.ren = 0) && decide (day ≤ c.due) else inr c.ren 0 2)

def seenL (l : List Int) : List (Int × Value) := l.map fun x => (x, .bool true)
theorem mget_seen (l : List Int) (n : Int) : (mget (seenL l) n).getD (.bool false) = .bool (decide (n ∈ l)) := by
  unfold mget seenL
  induction l with
  | nil => rfl
  | cons x l ih =>
    simp only [List.map_cons, List.find?_cons]
    by_cases h : x = n
    · subst h; simp
    · have e : (x == n) = false := by simpa using h
      rw [e]
      rw [ih]
      congr 1
      simp [Ne.symm h]
theorem mget_seen_none {l : List Int} {n : Int} (h : n ∉ l) : mget (seenL l) n = none := by
  unfold mget seenL
  induction l with
  | nil => rfl
  | cons x l ih =>
    simp only [List.map_cons, List.find?_cons]
    have e : (x == n) = false := by simp; rintro rfl; exact h (by simp)
    rw [e]
    exact ih fun hm => h (List.mem_cons_of_mem _ hm)

theorem qOk_false {who : Int} {q : List Int} {j : Nat} (hj : j < q.length) (h : inr q[j] 0 49 = false ∨ q[j] ∈ who :: q.take j) : qOk who q = false := by
  unfold qOk
  rw [Bool.and_eq_false_iff]
  rcases h with h | h
  · left
    rw [decide_eq_false_iff_not]
    intro hall
    have := hall q[j] (by simp)
    rw [h] at this
    cases this
  · right
    rw [decide_eq_false_iff_not]
    intro hn
    have e : who :: q = (who :: q.take j) ++ q[j] :: q.drop (j + 1) := by
      rw [← List.drop_eq_getElem_cons hj, List.cons_append, List.take_append_drop]
    rw [e, List.nodup_append] at hn
    exact hn.2.2 q[j] h q[j] List.mem_cons_self rfl

end Go.Proofs.Ytahdgoddpkmhbaa
