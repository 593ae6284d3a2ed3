/- Contracts of the program's functions, and what follows from them. -/
import Derived.Test.YtlccbfdeonmljaaE53
import Derived.Test.YtlccbfdeonmljaaE51
set_option linter.unusedVariables false
set_option maxRecDepth 100000
set_option linter.unusedSimpArgs false
namespace Go.Proofs.Ytlccbfdeonmljaa
open Go Go.Av

/-! The drawn desk is valid; acts compared. -/

theorem vD_emp {n : Int} (h : 0 ≤ n ∧ n ≤ 60) : vD (empD n) = true := by
  have e : empD n = ⟨0, List.replicate n.toNat cp0⟩ := by rw [empD, if_pos (by simp [inr]; omega)]
  rw [e]
  refine vD_parts.2 ⟨by simp, by simp; omega, fun c hc => ?_, fun w _ _ => ?_⟩
  · rw [(List.mem_replicate.1 hc).2]
    rfl
  · rw [List.countP_eq_zero.2 fun c hc => by rw [(List.mem_replicate.1 hc).2]; simp [lentTo, cp0]]
    omega
theorem vD_dwR : ∀ (l : List Ac) {d : Dk}, vD d = true → vD (dwR l d) = true
  | [], _, h => h
  | a :: l, d, h => by
    unfold dwR
    split
    · exact vD_dwR l (vD_ap h (by assumption))
    · exact vD_dwR l h
theorem vD_dyR : ∀ (k : Nat) {d : Dk}, vD d = true → vD (dyR k d) = true
  | 0, _, h => h
  | k + 1, d, h => by
    unfold dyR
    split
    · exact vD_dyR k (vD_ap h (by assumption))
    · exact h

end Go.Proofs.Ytlccbfdeonmljaa
