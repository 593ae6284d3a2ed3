/- Contracts of the program's functions, and what follows from them. -/
import Derived.Test.YtlaabifehcfllaaME
import Derived.Test.YtlaabifehcfllaaMC
set_option linter.unusedVariables false
set_option maxRecDepth 100000
namespace Go.Proofs.Ytlaabifehcfllaa
open Go Go.Av

noncomputable def X3 : Fx := ⟨Try.prog, tys, 3, Try.f3, [0]⟩
theorem X3_ok : X3.Ok := ⟨Try.func3, tys_ok⟩
theorem lawOutOfPlace_ct (a : List Bk) (ha : bksOk a) : Ct Try.prog 3 [.ro 8 false (a.map bkA)] (bo true) [] := by
  have hS := specOutOfPlace_ct a true ha
  have hI := implOutOfPlace_ct a true ha
  have hL := oopR_len a
  generalize oopR a = R at hS hI hL
  have hal := ha.1
  have hL : R.1.length ≤ 1048576 := by omega
  refine Ct.intro X3 X3_ok rfl (by kernel_rfl) rfl rfl fun g hg => ?_
  repeat (refine Run.go rfl ?_)
  refine Run.cs rfl (szBookS_ct a false 1048576 (by omega) (by omega) ha.1) rfl rfl ?_
  repeat (refine Run.go rfl ?_)
  refine Run.cond rfl (fun h => ?_) (fun hsa => ?_)
  · repeat (refine Run.go rfl ?_)
    exact Run.ret hg rfl rfl
  have hs1 : 0 ≤ szB a 1048576 ∧ szB a 1048576 ≤ 1048576 := by
    have : ¬ szB a 1048576 < 0 := by simpa using hsa
    refine ⟨by omega, ?_⟩
    unfold szB
    split <;> omega
  repeat (refine Run.go rfl ?_)
  refine Run.cs rfl (toBookS_ct a false ha.1) rfl (rfB _) ?_
  repeat (refine Run.go rfl ?_)
  refine Run.cs rfl hS (by rw [frzB]) (by simp only [lsR, AV.rf, AV.rfL, rf64]; rfl) ?_
  iterate 2 (refine Run.go rfl ?_)
  refine Run.freeze (v' := .ro 1 false (R.1.map i64)) 23 rfl rfl (by show AV.ro _ _ (AV.frzL _) = _; rw [frz64]) ?_
  repeat (refine Run.go rfl ?_)
  refine Run.cs rfl (toBookS_ct a false ha.1) rfl (rfB _) ?_
  refine Run.unpack 26 rfl rfl ?_
  repeat (refine Run.go rfl ?_)
  refine Run.cs rfl hI (by rw [frzB, decide_eq_true rfl]; rfl) (by simp only [lsR, AV.rf, AV.rfL, rf64]; rfl) ?_
  iterate 2 (refine Run.go rfl ?_)
  refine Run.unpack 30 rfl rfl ?_
  repeat (refine Run.go rfl ?_)
  refine Run.cs rfl (eqInt64S_ct R.1 R.1 false false hL) (by rw [frz64, decide_eq_true rfl]; rfl) rfl ?_
  repeat (refine Run.go rfl ?_)
  refine Run.bool 36 rfl (fun h => by simp at h) (fun h => ?_)
  repeat (refine Run.go rfl ?_)
  refine Run.cond rfl (fun h => by simp at h) (fun h => ?_)
  repeat (refine Run.go rfl ?_)
  refine Run.cs rfl (toBookS_ct a false ha.1) rfl (rfB _) ?_
  repeat (refine Run.go rfl ?_)
  refine Run.cs rfl (eqBookS_ct a a true true ha.1) (by rw [frzB, decide_eq_true rfl]; rfl) rfl ?_
  repeat (refine Run.go rfl ?_)
  refine Run.cond rfl (fun h => by simp at h) (fun h => ?_)
  repeat (refine Run.go rfl ?_)
  refine Run.callo (26, 0) none rfl rfl rfl rfl rfl rfl rfl rfl rfl rfl (markBookS_ct a 1 true ha.1 (by omega)) rfl (rfB _) rfl ?_
  repeat (refine Run.go rfl ?_)
  refine Run.bool 51 rfl (fun h => by simp at h; omega) (fun h => ?_)
  repeat (refine Run.go rfl ?_)
  refine Run.cs rfl (eqInt64S_ct R.1 R.1 false false hL) (by rw [frz64, decide_eq_true rfl]; rfl) rfl ?_
  repeat (refine Run.go rfl ?_)
  refine Run.bool 57 rfl (fun h => by simp at h) (fun h => ?_)
  repeat (refine Run.go rfl ?_)
  refine Run.cond rfl (fun h => by simp at h) (fun h => ?_)
  repeat (refine Run.go rfl ?_)
  refine Run.callo (30, 0) none rfl rfl rfl rfl rfl rfl rfl rfl rfl rfl (markInt64S_ct R.1 1 false hL (by omega)) rfl (rf64 _) rfl ?_
  repeat (refine Run.go rfl ?_)
  refine Run.cs rfl (heldInt64S_ct R.1.length 1 false hL (by omega)) (by rw [frz64, decide_eq_true (by simp [mk64])]; rfl) rfl ?_
  repeat (refine Run.go rfl ?_)
  refine Run.cond rfl (fun h => by simp at h; omega) (fun h => ?_)
  repeat (refine Run.go rfl ?_)
  refine Run.cond rfl (fun h => by simp at h) (fun h => ?_)
  repeat (refine Run.go rfl ?_)
  refine Run.cs rfl (toBookS_ct a false ha.1) rfl (rfB _) ?_
  repeat (refine Run.go rfl ?_)
  refine Run.cs rfl hI (by rw [frzB]) (by simp only [lsR, AV.rf, AV.rfL, rf64]; rfl) ?_
  iterate 2 (refine Run.go rfl ?_)
  refine Run.freeze (v' := .ro 1 false (R.1.map i64)) 77 rfl rfl (by show AV.ro _ _ (AV.frzL _) = _; rw [frz64]) ?_
  repeat (refine Run.go rfl ?_)
  refine Run.cs rfl (eqInt64S_ct R.1 R.1 false false hL) rfl rfl ?_
  repeat (refine Run.go rfl ?_)
  refine Run.bool 83 rfl (fun h => by simp at h) (fun h => ?_)
  repeat (refine Run.go rfl ?_)
  refine Run.cond rfl (fun h => by simp at h) (fun h => ?_)
  repeat (refine Run.go rfl ?_)
  refine Run.cs rfl (heldInt64S_ct R.1.length 1 false hL (by omega)) (by rw [frz64, decide_eq_true (by simp [mk64])]; rfl) rfl ?_
  repeat (refine Run.go rfl ?_)
  refine Run.cond rfl (fun h => by simp at h; omega) (fun h => ?_)
  repeat (refine Run.go rfl ?_)
  refine Run.cond rfl (fun h => by simp at h) (fun h => ?_)
  repeat (refine Run.go rfl ?_)
  exact Run.ret hg rfl rfl
end Go.Proofs.Ytlaabifehcfllaa
