/- Contracts of the program's functions, and what follows from them. -/
import Derived.Test.YtjajfepcknieeaaGreatDoorE19
import Derived.Test.YtjajfepcknieeaaGreatDoorMH
set_option linter.unusedVariables false
set_option maxRecDepth 100000
set_option linter.unusedSimpArgs false
namespace Go.Proofs.YtjajfepcknieeaaGreatDoor
open Go Go.Av

/-! Lines of a text, each with its end. -/

def lnE : List UInt8 → List (List UInt8)
  | [] => []
  | b :: r => if b = 10 then [10] :: lnE r else match lnE r with
    | [] => [[b]]
    | w :: ws => (b :: w) :: ws

theorem lnE_hit {u r : List UInt8} (h : (10 : UInt8) ∉ u) : lnE (u ++ 10 :: r) = (u ++ [10]) :: lnE r := by
  induction u with
  | nil => simp [lnE]
  | cons b u ih =>
    have hb : b ≠ 10 := fun e => h (by simp [e])
    rw [List.cons_append, lnE, if_neg hb, ih (fun h' => h (List.mem_cons_of_mem _ h'))]
    rfl

theorem lnE_miss {u : List UInt8} (h : (10 : UInt8) ∉ u) (h0 : u ≠ []) : lnE u = [u] := by
  induction u with
  | nil => exact absurd rfl h0
  | cons b u ih =>
    have hb : b ≠ 10 := fun e => h (by simp [e])
    rw [lnE, if_neg hb]
    cases u with
    | nil => rfl
    | cons c u => rw [ih (fun h' => h (List.mem_cons_of_mem _ h')) (by simp)]

/-- Where a byte is first. -/
theorem first_at {c : UInt8} : ∀ {s : List UInt8}, c ∈ s → ∃ u r, s = u ++ c :: r ∧ c ∉ u
  | b :: s, h => by
    by_cases hb : b = c
    · exact ⟨[], s, by rw [hb]; rfl, by simp⟩
    · obtain ⟨u, r, e, hu⟩ := first_at ((List.mem_cons.1 h).resolve_left fun e => hb e.symm)
      exact ⟨b :: u, r, by rw [e]; rfl, by simp only [List.mem_cons, not_or]; exact ⟨fun e => hb e.symm, hu⟩⟩

/-- The text ends where a line ends. -/
def ended (s : List UInt8) : Bool := decide (s = [] ∨ s.getLast? = some 10)

theorem last_app {α : Type} (u : List α) (c : α) (r : List α) : (u ++ c :: r).getLast? = if r = [] then some c else r.getLast? := by
  rw [List.getLast?_append]
  cases r with
  | nil => simp
  | cons d r =>
    rw [List.getLast?_cons_cons, if_neg (by simp)]
    cases h : (d :: r).getLast? with
    | none => simp at h
    | some x => rfl

/-- A text of ended lines: the lines, and nothing behind. -/
theorem spl_lnE : ∀ (k : Nat) (s : List UInt8), s.length ≤ k → ended s = true → ∃ ls, spl 10 s = ls ++ [[]] ∧ lnE s = ls.map (· ++ [10])
  | k, [], _, _ => ⟨[], rfl, rfl⟩
  | 0, b :: s, hk, _ => by simp at hk
  | k + 1, b :: s, hk, he => by
    simp only [ended, decide_eq_true_eq] at he
    have hl := he.resolve_left (by simp)
    obtain ⟨u, r, e, hu⟩ := first_at (List.mem_of_getLast? hl)
    rw [e] at hl hk ⊢
    rw [last_app] at hl
    obtain ⟨ls, h1, h2⟩ := spl_lnE k r (by simp at hk; omega) (by
      simp only [ended, decide_eq_true_eq]
      by_cases hr : r = []
      · exact .inl hr
      · rw [if_neg hr] at hl; exact .inr hl)
    exact ⟨u :: ls, by rw [spl_hit hu, h1]; rfl, by rw [lnE_hit hu, h2]; rfl⟩

theorem spl_last : ∀ (k : Nat) (s : List UInt8), s.length ≤ k → ended s = false → ∃ ls w, spl 10 s = ls ++ [w] ∧ w ≠ []
  | k, [], _, he => by simp [ended] at he
  | 0, b :: s, hk, _ => by simp at hk
  | k + 1, b :: s, hk, he => by
    simp only [ended, decide_eq_false_iff_not, not_or] at he
    by_cases hm : (10 : UInt8) ∈ b :: s
    · obtain ⟨u, r, e, hu⟩ := first_at hm
      have hl := he.2
      rw [e] at hl hk ⊢
      rw [last_app] at hl
      have hr : r ≠ [] := fun h => by rw [if_pos h] at hl; exact hl rfl
      rw [if_neg hr] at hl
      obtain ⟨ls, w, h1, h2⟩ := spl_last k r (by simp at hk; omega) (by
        simp only [ended, decide_eq_false_iff_not, not_or]
        exact ⟨hr, hl⟩)
      exact ⟨u :: ls, w, by rw [spl_hit hu, h1]; rfl, h2⟩
    · exact ⟨[], b :: s, by rw [spl_miss hm]; rfl, by simp⟩

theorem count_spl (s : List UInt8) : ∀ (k : Nat), s.length ≤ k → s.count 10 + 1 = (spl 10 s).length := by
  intro k
  induction k generalizing s with
  | zero => intro h; obtain rfl : s = [] := List.eq_nil_of_length_eq_zero (by omega); rfl
  | succ k ih =>
    intro h
    by_cases hm : (10 : UInt8) ∈ s
    · obtain ⟨u, r, e, hu⟩ := first_at hm
      rw [e] at h ⊢
      rw [spl_hit hu, List.length_cons, ← ih r (by simp at h; omega), List.count_append, List.count_cons, List.count_eq_zero.2 hu]
      simp
    · rw [spl_miss hm, List.count_eq_zero.2 hm]; rfl

theorem suff_last (s : List UInt8) : decide ([10] <:+ s) = decide (s.getLast? = some 10) := by
  refine decide_eq_decide.2 ⟨?_, fun h => ?_⟩
  · rintro ⟨t, rfl⟩; simp
  · obtain ⟨t, rfl⟩ := List.getLast?_eq_some_iff.1 h
    exact ⟨t, rfl⟩
end Go.Proofs.YtjajfepcknieeaaGreatDoor
