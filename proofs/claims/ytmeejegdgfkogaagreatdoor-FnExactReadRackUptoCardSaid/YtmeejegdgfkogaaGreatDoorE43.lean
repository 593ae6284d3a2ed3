/- Contracts of the program's functions, and what follows from them. -/
import Derived.Test.YtmeejegdgfkogaaGreatDoorE42
set_option linter.unusedVariables false
set_option maxRecDepth 100000
set_option linter.unusedSimpArgs false
namespace Go.Proofs.YtmeejegdgfkogaaGreatDoor
open Go Go.Av

/-! The law of ReadRack. -/

theorem rkRes_rf (r : Rk × Int) : (rkRes r).rf = true := by simp only [rkRes, AV.rf, AV.rfL, rk_rf]; rfl
theorem rkS_len (s : List UInt8) : (rkS s).1.bs.length ≤ 60 := by
  rw [← rk_eq, rkP]
  split
  · exact rdLP_len _
  · simp [rk0]

noncomputable def X3 : Fx := ⟨Tryz.prog, tys, 3, Tryz.f3, [0]⟩
theorem X3_ok : X3.Ok := ⟨Tryz.func3, tys_ok⟩
theorem lawReadRack_ct (s : List UInt8) : CtA ambA Tryz.prog 3 [str s] (bo true) [] := by
  refine CtA.intro ambA X3 X3_ok rfl (by kernel_rfl) rfl rfl fun g hA hg => ?_
  repeat (refine Run.go rfl ?_)
  refine Run.cond rfl (fun h => ?_) (fun h => ?_)
  · repeat (refine Run.go rfl ?_)
    exact Run.ret hg rfl rfl
  have hlen : s.length ≤ 1048576 := by
    have h2 : decide ((1048576 : Int) < ((⟨s.toArray⟩ : ByteArray).size : Nat)) = false := h
    rw [bsz] at h2
    simp at h2
    omega
  have hS := specReadRack_ct s hlen
  have hI := implReadRack_ct s hlen
  have hL0 := rkS_len s
  rw [rk_eq s] at hI
  generalize rkS s = R at hS hI hL0
  obtain ⟨Q, c⟩ := R
  simp only at hL0
  have hL : Q.bs.length ≤ 1048576 := by omega
  repeat (refine Run.go rfl ?_)
  refine Run.cs rfl hS rfl (rkRes_rf _) ?_
  repeat (refine Run.go rfl ?_)
  refine Run.freeze (v' := rkR false Q) 17 rfl rfl (rk_frz _ _) ?_
  repeat (refine Run.go rfl ?_)
  refine Run.csA rfl (hI.at hA) rfl (rkRes_rf _) ?_
  repeat (refine Run.go rfl ?_)
  refine Run.unagg 22 1 (22, 1) rfl rfl rfl ?_
  repeat (refine Run.go rfl ?_)
  refine Run.cs rfl (eqRack_ct Q Q false false hL) (by rw [frzP, decide_eq_true rfl]; rfl) rfl ?_
  repeat (refine Run.go rfl ?_)
  refine Run.bool 28 rfl (fun h => by simp at h) (fun h => ?_)
  repeat (refine Run.go rfl ?_)
  refine Run.cond rfl (fun h => by simp at h) (fun h => ?_)
  repeat (refine Run.go rfl ?_)
  refine Run.callo (22, 1) (some 1) rfl rfl rfl rfl rfl rfl rfl rfl rfl rfl (markRack_ct Q 1 false hL (by omega)) rfl (rfP _) rfl ?_
  repeat (refine Run.go rfl ?_)
  refine Run.cs rfl (heldRack_ct Q 1 false hL (by omega)) (by rw [frzP, decide_eq_true (by simp [mkR, mkPs])]; rfl) rfl ?_
  repeat (refine Run.go rfl ?_)
  refine Run.cond rfl (fun h => by simp at h; omega) (fun h => ?_)
  repeat (refine Run.go rfl ?_)
  refine Run.cond rfl (fun h => by simp at h) (fun h => ?_)
  repeat (refine Run.go rfl ?_)
  refine Run.csA rfl (hI.at hA) rfl (rkRes_rf _) ?_
  repeat (refine Run.go rfl ?_)
  refine Run.freeze (v' := rkR false Q) 47 rfl rfl (rk_frz _ _) ?_
  repeat (refine Run.go rfl ?_)
  refine Run.cs rfl (eqRack_ct Q Q false false hL) rfl rfl ?_
  repeat (refine Run.go rfl ?_)
  refine Run.bool 53 rfl (fun h => by simp at h) (fun h => ?_)
  repeat (refine Run.go rfl ?_)
  refine Run.cond rfl (fun h => by simp at h) (fun h => ?_)
  repeat (refine Run.go rfl ?_)
  refine Run.cs rfl (heldRack_ct Q 1 false hL (by omega)) (by rw [frzP, decide_eq_true (by simp [mkR, mkPs])]; rfl) rfl ?_
  repeat (refine Run.go rfl ?_)
  refine Run.cond rfl (fun h => by simp at h; omega) (fun h => ?_)
  repeat (refine Run.go rfl ?_)
  refine Run.cond rfl (fun h => by simp at h) (fun h => ?_)
  repeat (refine Run.go rfl ?_)
  exact Run.ret hg rfl rfl
end Go.Proofs.YtmeejegdgfkogaaGreatDoor
