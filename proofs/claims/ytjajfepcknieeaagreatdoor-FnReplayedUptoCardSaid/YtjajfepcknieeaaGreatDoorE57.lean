/- Contracts of the program's functions, and what follows from them. -/
import Derived.Test.YtjajfepcknieeaaGreatDoorE56
import Derived.Test.YtjajfepcknieeaaGreatDoorMG
set_option linter.unusedVariables false
set_option maxRecDepth 100000
set_option linter.unusedSimpArgs false
namespace Go.Proofs.YtjajfepcknieeaaGreatDoor
open Go Go.Av

/-! What the laws' functions answer at a valid desk. -/

theorem acCode_ok {d : Dk} {l : List Ac} (hv : vD d = true) (hl : l.length ≤ 200) : acCode d l = 0 := by
  unfold acCode
  simp [hv]
  omega
theorem aasR_eq {d : Dk} {l : List Ac} (hv : vD d = true) (hl : l.length ≤ 200) : aasR d l = if acC l d = 0 then (acD l d, acS l d, 0) else (dk0, 0, acC l d) := by
  rw [aasR, if_neg (by rw [acCode_ok hv hl]; decide), apL_eq]
  split
  · simp
  · rfl
theorem frR_eq {d : Dk} {l : List Ac} (hv : vD d = true) (hl : l.length ≤ 200) : frR d l = if acC l d = 0 then (0, 0, 6) else ((acN' l d : Int), acC l d, 0) := by
  rw [frR, if_neg (by rw [acCode_ok hv hl]; decide), apL_eq]
  by_cases h : acC l d = 0
  · rw [if_pos h, if_pos h]; simp
  · rw [if_neg h, if_neg h]; simp [h]
theorem dum_emp {n : Int} (h : 0 ≤ n ∧ n ≤ 60) : dumRes (empD n) = ([], 0) := by
  have e : empD n = ⟨0, List.replicate n.toNat cp0⟩ := by rw [empD, if_pos (by simp [inr]; omega)]
  rw [dumRes, if_pos (vD_emp h), e]
  have : (idxs offShelf (List.replicate n.toNat cp0)).length = 0 := by
    rw [idxs_count]
    exact List.countP_eq_zero.2 fun c hc => by rw [(List.mem_replicate.1 hc).2]; simp [offShelf, cp0]
  rw [List.length_eq_zero_iff.1 this]
end Go.Proofs.YtjajfepcknieeaaGreatDoor
