/- Contracts of the program's functions, and what follows from them. -/
import Derived.Test.YtjajfepcknieeaaGreatDoorE17
set_option linter.unusedVariables false
set_option maxRecDepth 100000
set_option linter.unusedSimpArgs false
namespace Go.Proofs.YtjajfepcknieeaaGreatDoor
open Go Go.Av

/-! Acts out of a text: the reference's answer. -/

/-- The word's number. -/
def lastW (w : List UInt8) : Nat → Int
  | 0 => -1
  | j + 1 => if wordsL.getD j [] = w then (j : Int) else lastW w j
theorem lastW_rng (w : List UInt8) (j : Nat) : -1 ≤ lastW w j ∧ lastW w j < j := by
  induction j with
  | zero => exact ⟨Int.le_refl _, by show (-1 : Int) < 0; omega⟩
  | succ j ih =>
    unfold lastW
    split <;> omega
theorem lastW_get {w : List UInt8} {j : Nat} (h : 0 ≤ lastW w j) : wordsL.getD (lastW w j).toNat [] = w := by
  induction j with
  | zero => exact absurd (show (0 : Int) ≤ -1 from h) (by decide)
  | succ j ih =>
    unfold lastW at h ⊢
    split at h
    · rename_i e
      rw [if_pos e]
      exact e
    · rename_i e
      rw [if_neg e]
      exact ih h

def raS (s : List UInt8) : Ac × Bool :=
  let W := spl 32 s
  let k := lastW (W.getD 0 []) 6
  if k < 0 then (ac0, false) else if k = 5 then (⟨5, 0, 0⟩, decide (W.length = 1)) else if W.length ≠ 3 then (ac0, false) else
    if (l1n (W.getD 1 [])).2 = true ∧ (l1n (W.getD 2 [])).2 = true ∧ (l1n (W.getD 1 [])).1 ≤ 49 ∧ (l1n (W.getD 2 [])).1 < 60 then (⟨k, (l1n (W.getD 1 [])).1, (l1n (W.getD 2 [])).1⟩, true) else (ac0, false)

theorem spl_len (c : UInt8) (s : List UInt8) : (spl c s).length ≤ s.length + 1 := by
  induction s with
  | nil => simp [spl]
  | cons b r ih =>
    unfold spl
    split
    · simp only [List.length_cons]; omega
    · split
      · simp
      · rename_i h
        rw [h] at ih
        simp only [List.length_cons] at ih ⊢
        omega
theorem jn_len {c : UInt8} : ∀ {ws : List (List UInt8)} {w : List UInt8}, w ∈ ws → w.length ≤ (jn c ws).length
  | [v], w, h => by rw [List.mem_singleton] at h; subst h; exact Nat.le_refl _
  | v :: u :: r, w, h => by
    rw [jn, List.length_append, List.length_cons]
    rcases List.mem_cons.1 h with h | h
    · subst h; omega
    · have := jn_len (c := c) h
      omega
theorem spl_wlen {c : UInt8} {s w : List UInt8} (h : w ∈ spl c s) : w.length ≤ s.length := by
  have := jn_len (c := c) h
  rwa [jn_spl] at this

end Go.Proofs.YtjajfepcknieeaaGreatDoor
