/- Contracts of the program's functions, and what follows from them. -/
import Derived.Test.YtjajfepcknieeaaGreatDoorE52
set_option linter.unusedVariables false
set_option maxRecDepth 100000
set_option linter.unusedSimpArgs false
namespace Go.Proofs.YtjajfepcknieeaaGreatDoor
open Go Go.Av

/-! Acts one behind another: with no program in sight. -/

/-- The code, the desk and the fines, told without the sums. -/
def acC : List Ac → Dk → Int
  | [], _ => 0
  | a :: r, d => if (apR d a).2.2 ≠ 0 then (apR d a).2.2 else acC r (apR d a).1
def acD : List Ac → Dk → Dk
  | [], d => d
  | a :: r, d => acD r (apR d a).1
def acS : List Ac → Dk → Int
  | [], _ => 0
  | a :: r, d => (apR d a).2.1 + acS r (apR d a).1
/-- How many acts are taken ahead of the first that is not. -/
def acN' : List Ac → Dk → Nat
  | [], _ => 0
  | a :: r, d => if (apR d a).2.2 ≠ 0 then 0 else acN' r (apR d a).1 + 1

theorem apL_eq : ∀ (l : List Ac) (d : Dk) (s : Int) (i : Nat), apL l d s i = if acC l d = 0 then (acD l d, s + acS l d, 0, 0) else (dk0, 0, i + acN' l d, acC l d)
  | [], d, s, i => by simp [apL, acC, acD, acS]
  | a :: r, d, s, i => by
    rw [apL, acC, acD, acS, acN']
    by_cases h : (apR d a).2.2 ≠ 0
    · rw [if_pos h, if_pos h, if_neg h, if_pos h, Nat.add_zero]
    · rw [if_neg h, if_neg h, if_neg h, apL_eq r]
      by_cases h2 : acC r (apR d a).1 = 0
      · rw [if_pos h2, if_pos h2, Int.add_assoc]
      · rw [if_neg h2, if_neg h2, Nat.add_assoc, Nat.add_comm 1]

theorem acC_append : ∀ (l m : List Ac) (d : Dk), acC l d = 0 → acC (l ++ m) d = acC m (acD l d)
  | [], m, d, _ => rfl
  | a :: r, m, d, h => by
    rw [acC] at h
    by_cases h1 : (apR d a).2.2 ≠ 0
    · rw [if_pos h1] at h; exact absurd h h1
    · rw [if_neg h1] at h
      rw [List.cons_append, acC, if_neg h1, acD, acC_append r m _ h]
theorem acC_left : ∀ (l m : List Ac) (d : Dk), acC (l ++ m) d = 0 → acC l d = 0
  | [], m, d, _ => rfl
  | a :: r, m, d, h => by
    rw [List.cons_append, acC] at h
    by_cases h1 : (apR d a).2.2 ≠ 0
    · rw [if_pos h1] at h; exact absurd h h1
    · rw [if_neg h1] at h
      rw [acC, if_neg h1]
      exact acC_left r m _ h
theorem acD_append : ∀ (l m : List Ac) (d : Dk), acD (l ++ m) d = acD m (acD l d)
  | [], m, d => rfl
  | a :: r, m, d => by rw [List.cons_append, acD, acD, acD_append r m]
theorem acS_append : ∀ (l m : List Ac) (d : Dk), acS (l ++ m) d = acS l d + acS m (acD l d)
  | [], m, d => by simp [acS, acD]
  | a :: r, m, d => by rw [List.cons_append, acS, acS, acD, acS_append r m, Int.add_assoc]

/-- The acts ahead of the first that is refused are all taken. -/
theorem acC_take : ∀ (l : List Ac) (d : Dk), acC (l.take (acN' l d)) d = 0
  | [], d => rfl
  | a :: r, d => by
    rw [acN']
    by_cases h1 : (apR d a).2.2 ≠ 0
    · rw [if_pos h1]; rfl
    · rw [if_neg h1, List.take_succ_cons, acC, if_neg h1]
      exact acC_take r _
theorem acN_lt : ∀ (l : List Ac) (d : Dk), acC l d ≠ 0 → acN' l d < l.length
  | [], d, h => absurd rfl h
  | a :: r, d, h => by
    rw [acC] at h
    rw [acN']
    by_cases h1 : (apR d a).2.2 ≠ 0
    · rw [if_pos h1]; simp
    · rw [if_neg h1] at h ⊢
      have := acN_lt r _ h
      simp only [List.length_cons]
      omega

theorem vD_acD : ∀ (l : List Ac) (d : Dk), vD d = true → acC l d = 0 → vD (acD l d) = true
  | [], d, h, _ => h
  | a :: r, d, h, hc => by
    rw [acC] at hc
    by_cases h1 : (apR d a).2.2 ≠ 0
    · rw [if_pos h1] at hc; exact absurd hc h1
    · rw [if_neg h1] at hc
      rw [acD]
      exact vD_acD r _ (vD_ap h (by simpa using h1)) hc
theorem WD_acD : ∀ (l : List Ac) (d : Dk), WD d → (∀ a ∈ l, acRng a) → acC l d = 0 → WD (acD l d)
  | [], d, h, _, _ => h
  | a :: r, d, h, ha, hc => by
    rw [acC] at hc
    by_cases h1 : (apR d a).2.2 ≠ 0
    · rw [if_pos h1] at hc; exact absurd hc h1
    · rw [if_neg h1] at hc
      rw [acD]
      exact WD_acD r _ (h.ap (ha a (by simp)) (by simpa using h1)).1 (fun b hb => ha b (List.mem_cons_of_mem _ hb)) hc
end Go.Proofs.YtjajfepcknieeaaGreatDoor
