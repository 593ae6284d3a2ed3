/- Contracts of the program's functions, and what follows from them. -/
import Derived.Test.YtlaabifehcfllaaGreatK6
import Derived.Test.YtlaabifehcfllaaGreatKRd
import Derived.Test.YtlaabifehcfllaaGreatMC
set_option linter.unusedVariables false
set_option maxRecDepth 100000
namespace Go.Proofs.YtlaabifehcfllaaGreat
open Go Go.Av

theorem aaA_rf (x : Rk × Nat × Int) : (aaA x).rf = true := by simp only [aaA, AV.rf, AV.rfL, rk_rf]; rfl
theorem shf_len' (l : List Pl) (i c : Nat) (d : Int) : (shf l i c d).length = l.length := by simp [shf]; omega
theorem adL_len (n : Int) (l : List Pl) (b : Bk) : (adL n l b).length = l.length + 1 := by
  have h : (sh n l (idx l b)).length = l.length := by
    unfold sh
    split
    · rfl
    · split <;> exact shf_len' ..
  have := idx_le l b
  rw [adL, ins_len (by rw [h]; exact this), h]
theorem adAll_len (n : Int) : ∀ (lst : List Bk) (l : List Pl) (s : Nat), (adAll n lst l s).1.bs.length ≤ l.length + lst.length
  | [], l, s => by simp [adAll]
  | b :: r, l, s => by
    rw [adAll]
    split
    · simp [rk0]
    · have := adAll_len n r (adL n l b) (s + adM n l b)
      rw [adL_len] at this
      simp only [List.length_cons]
      omega
theorem aaRes_len (r : Rk) (lst : List Bk) (hr : rkOk r) : (aaRes r lst).1.bs.length ≤ 120 := by
  unfold aaRes
  split
  · rename_i hv
    split
    · rename_i h
      have hV := (vR_VR hr.2).1 hv
      have := hV.len
      have := hV.hn
      have := adAll_len r.pl lst r.bs 0
      have h2 : lst.length ≤ 60 := by
        simp only [vBs, Bool.and_eq_true, decide_eq_true_eq] at h
        exact h.1
      omega
    · simp [rk0]
  · simp [rk0]

end Go.Proofs.YtlaabifehcfllaaGreat
