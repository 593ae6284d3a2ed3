/- Contracts of the program's functions, and what follows from them. -/
import Derived.Test.YtahdgoddpkmhbaaMC
import Derived.Test.YtahdgoddpkmhbaaBRd
set_option linter.unusedVariables false
namespace Go.Proofs.Ytahdgoddpkmhbaa
open Go Go.Av

noncomputable def X10 : Fx := ⟨Try.prog, tys, 10, Try.f10, [0, 1]⟩
theorem X10_ok : X10.Ok := ⟨Try.func10, tys_ok⟩
theorem lawRightPlaces_ct (a b : List Bk) (ha : bksOk a) (hb : bksOk b) : Ct Try.prog 10 [.ro 8 false (a.map bkA), .ro 8 false (b.map bkA)] (bo true) [] := by
  have hS := specRightPlaces_ct a b true true ha hb
  have hI := implRightPlaces_ct a b true true ha hb
  have hL := rpRes_len a b
  generalize rpRes a b = R at hS hI hL
  have hal := ha.1
  have hbl := hb.1
  have hL : R.1.length ≤ 1048576 := by omega
  refine Ct.intro X10 X10_ok rfl (by kernel_rfl) rfl rfl fun g hg => ?_
  repeat (refine Run.go rfl ?_)
  refine Run.cs rfl (szBookS_ct a false 1048576 (by omega) (by omega) ha.1) rfl rfl ?_
  repeat (refine Run.go rfl ?_)
  refine Run.cond rfl (fun h => ?_) (fun hsa => ?_)
  · repeat (refine Run.go rfl ?_)
    exact Run.ret hg rfl rfl
  have hs1 : 0 ≤ szB a 1048576 ∧ szB a 1048576 ≤ 1048576 := by
    have : ¬ szB a 1048576 < 0 := by simpa using hsa
    refine ⟨by omega, ?_⟩
    unfold szB
    split <;> omega
  repeat (refine Run.go rfl ?_)
  refine Run.cs rfl (szBookS_ct b false (szB a 1048576) (by omega) (by omega) hb.1) rfl rfl ?_
  repeat (refine Run.go rfl ?_)
  refine Run.cond rfl (fun h => ?_) (fun hsb => ?_)
  · repeat (refine Run.go rfl ?_)
    exact Run.ret hg rfl rfl
  repeat (refine Run.go rfl ?_)
  refine Run.cs rfl (toBookS_ct a false ha.1) rfl (rfB _) ?_
  repeat (refine Run.go rfl ?_)
  refine Run.cs rfl (toBookS_ct b false hb.1) rfl (rfB _) ?_
  repeat (refine Run.go rfl ?_)
  refine Run.cs rfl hS (by rw [frzB, frzB]) (by simp only [lsR, AV.rf, AV.rfL, rf64]; rfl) ?_
  iterate 2 (refine Run.go rfl ?_)
  refine Run.freeze (v' := .ro 1 false (R.1.map i64)) 33 rfl rfl (by show AV.ro _ _ (AV.frzL _) = _; rw [frz64]) ?_
  repeat (refine Run.go rfl ?_)
  refine Run.cs rfl (toBookS_ct a false ha.1) rfl (rfB _) ?_
  refine Run.unpack 36 rfl rfl ?_
  repeat (refine Run.go rfl ?_)
  refine Run.cs rfl (toBookS_ct b false hb.1) rfl (rfB _) ?_
  refine Run.unpack 38 rfl rfl ?_
  repeat (refine Run.go rfl ?_)
  refine Run.cs rfl hI (by rw [frzB, frzB, decide_eq_true rfl, decide_eq_true rfl]; rfl) (by simp only [lsR, AV.rf, AV.rfL, rf64]; rfl) ?_
  iterate 2 (refine Run.go rfl ?_)
  refine Run.unpack 43 rfl rfl ?_
  repeat (refine Run.go rfl ?_)
  refine Run.cs rfl (eqInt64S_ct R.1 R.1 false false hL) (by rw [frz64, decide_eq_true rfl]; rfl) rfl ?_
  repeat (refine Run.go rfl ?_)
  refine Run.bool 49 rfl (fun h => by simp at h) (fun h => ?_)
  repeat (refine Run.go rfl ?_)
  refine Run.cond rfl (fun h => by simp at h) (fun h => ?_)
  repeat (refine Run.go rfl ?_)
  refine Run.cs rfl (toBookS_ct a false ha.1) rfl (rfB _) ?_
  repeat (refine Run.go rfl ?_)
  refine Run.cs rfl (eqBookS_ct a a true true ha.1) (by rw [frzB, decide_eq_true rfl]; rfl) rfl ?_
  repeat (refine Run.go rfl ?_)
  refine Run.cond rfl (fun h => by simp at h) (fun h => ?_)
  repeat (refine Run.go rfl ?_)
  refine Run.cs rfl (toBookS_ct b false hb.1) rfl (rfB _) ?_
  repeat (refine Run.go rfl ?_)
  refine Run.cs rfl (eqBookS_ct b b true true hb.1) (by rw [frzB, decide_eq_true rfl]; rfl) rfl ?_
  repeat (refine Run.go rfl ?_)
  refine Run.cond rfl (fun h => by simp at h) (fun h => ?_)
  repeat (refine Run.go rfl ?_)
  refine Run.callo (36, 0) none rfl rfl rfl rfl rfl rfl rfl rfl rfl rfl (markBookS_ct a 1 true ha.1 (by omega)) rfl (rfB _) rfl ?_
  repeat (refine Run.go rfl ?_)
  refine Run.callo (38, 0) none rfl rfl rfl rfl rfl rfl rfl rfl rfl rfl (markBookS_ct b (1 + 8 * (a.length : Nat)) true hb.1 (by omega)) rfl (rfB _) rfl ?_
  repeat (refine Run.go rfl ?_)
  refine Run.bool 72 rfl (fun h => by simp at h; omega) (fun h => ?_)
  repeat (refine Run.go rfl ?_)
  refine Run.cs rfl (eqInt64S_ct R.1 R.1 false false hL) (by rw [frz64, decide_eq_true rfl]; rfl) rfl ?_
  repeat (refine Run.go rfl ?_)
  refine Run.bool 78 rfl (fun h => by simp at h) (fun h => ?_)
  repeat (refine Run.go rfl ?_)
  refine Run.cond rfl (fun h => by simp at h) (fun h => ?_)
  repeat (refine Run.go rfl ?_)
  refine Run.callo (43, 0) none rfl rfl rfl rfl rfl rfl rfl rfl rfl rfl (markInt64S_ct R.1 1 false hL (by omega)) rfl (rf64 _) rfl ?_
  repeat (refine Run.go rfl ?_)
  refine Run.cs rfl (heldInt64S_ct R.1.length 1 false hL (by omega)) (by rw [frz64, decide_eq_true (by simp [mk64])]; rfl) rfl ?_
  repeat (refine Run.go rfl ?_)
  refine Run.cond rfl (fun h => by simp at h; omega) (fun h => ?_)
  repeat (refine Run.go rfl ?_)
  refine Run.cond rfl (fun h => by simp at h) (fun h => ?_)
  repeat (refine Run.go rfl ?_)
  refine Run.cs rfl (toBookS_ct a false ha.1) rfl (rfB _) ?_
  repeat (refine Run.go rfl ?_)
  refine Run.cs rfl (toBookS_ct b false hb.1) rfl (rfB _) ?_
  repeat (refine Run.go rfl ?_)
  refine Run.cs rfl hI (by rw [frzB, frzB]) (by simp only [lsR, AV.rf, AV.rfL, rf64]; rfl) ?_
  iterate 2 (refine Run.go rfl ?_)
  refine Run.freeze (v' := .ro 1 false (R.1.map i64)) 100 rfl rfl (by show AV.ro _ _ (AV.frzL _) = _; rw [frz64]) ?_
  repeat (refine Run.go rfl ?_)
  refine Run.cs rfl (eqInt64S_ct R.1 R.1 false false hL) rfl rfl ?_
  repeat (refine Run.go rfl ?_)
  refine Run.bool 106 rfl (fun h => by simp at h) (fun h => ?_)
  repeat (refine Run.go rfl ?_)
  refine Run.cond rfl (fun h => by simp at h) (fun h => ?_)
  repeat (refine Run.go rfl ?_)
  refine Run.cs rfl (heldInt64S_ct R.1.length 1 false hL (by omega)) (by rw [frz64, decide_eq_true (by simp [mk64])]; rfl) rfl ?_
  repeat (refine Run.go rfl ?_)
  refine Run.cond rfl (fun h => by simp at h; omega) (fun h => ?_)
  repeat (refine Run.go rfl ?_)
  refine Run.cond rfl (fun h => by simp at h) (fun h => ?_)
  repeat (refine Run.go rfl ?_)
  exact Run.ret hg rfl rfl
end Go.Proofs.Ytahdgoddpkmhbaa
