/- Contracts of the program's functions, and what follows from them. -/
import Derived.Test.YtilomajfcjpmnaaGreatDoorE25
set_option linter.unusedVariables false
set_option maxRecDepth 100000
set_option linter.unusedSimpArgs false
namespace Go.Proofs.YtilomajfcjpmnaaGreatDoor
open Go Go.Av

/-! Lists of texts: alike, marked, held. -/

/-- A mark. -/
def dgs (n : Nat) : List UInt8 := if n = 0 then [] else Lib.decDigits n
theorem dgs_step {n : Nat} (h : 0 < n) : dgs n = dgs (n / 10) ++ [UInt8.ofNat (48 + n % 10)] := by
  unfold dgs
  rw [if_neg (by omega)]
  by_cases h1 : n < 10
  · rw [if_pos (by omega), Lib.decDigits_one h1]
    have : n % 10 = n := by omega
    rw [this]
    rfl
  · rw [if_neg (by omega), Lib.decDigits, dif_neg h1]
def mkT (k : Int) : List UInt8 := if k ≤ 0 then [109, 48] else [109] ++ dgs k.toNat
def mkTs (n : Nat) (k : Int) : List (List UInt8) := (List.range n).map fun i : Nat => mkT (k + (i : Int))


end Go.Proofs.YtilomajfcjpmnaaGreatDoor
