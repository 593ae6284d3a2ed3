/- Contracts of the program's functions, and what follows from them. -/
import Derived.Test.YtahdgoddpkmhbaaMC
import Derived.Test.YtahdgoddpkmhbaaBRd
set_option linter.unusedVariables false
namespace Go.Proofs.Ytahdgoddpkmhbaa
open Go Go.Av

noncomputable def X4 : Fx := ⟨Try.prog, tys, 4, Try.f4, [0, 1]⟩
theorem X4_ok : X4.Ok := ⟨Try.func4, tys_ok⟩
theorem lawWithoutBooks_ct (a : List Bk) (b : List Int) (ha : bksOk a) (hb : b.length ≤ 1048576) : Ct Try.prog 4 [.ro 8 false (a.map bkA), .ro 1 false (b.map i64)] (bo true) [] := by
  have hS := specWithoutBooks_ct a b true true ha hb
  have hI := implWithoutBooks_ct a b true true ha hb
  have hL := woRes_len a b
  generalize woRes a b = R at hS hI hL
  have hal := ha.1
  have hbl := hb
  have hL : R.1.length ≤ 1048576 := by omega
  refine Ct.intro X4 X4_ok rfl (by kernel_rfl) rfl rfl fun g hg => ?_
  repeat (refine Run.go rfl ?_)
  refine Run.cond rfl (fun h => by simp at h; omega) (fun h => ?_)
  repeat (refine Run.go rfl ?_)
  refine Run.cs rfl (szBookS_ct a false 1048576 (by omega) (by omega) ha.1) rfl rfl ?_
  repeat (refine Run.go rfl ?_)
  refine Run.cond rfl (fun h => ?_) (fun hsa => ?_)
  · repeat (refine Run.go rfl ?_)
    exact Run.ret hg rfl rfl
  repeat (refine Run.go rfl ?_)
  refine Run.cs rfl (toBookS_ct a false ha.1) rfl (rfB _) ?_
  repeat (refine Run.go rfl ?_)
  refine Run.cs rfl (toInt64S_ct b false hb) rfl (rf64 _) ?_
  repeat (refine Run.go rfl ?_)
  refine Run.cs rfl hS (by rw [frzB, frz64]) (by simp only [bR, AV.rf, AV.rfL, rfB]; rfl) ?_
  iterate 2 (refine Run.go rfl ?_)
  refine Run.freeze (v' := .ro 8 false (R.1.map bkA)) 31 rfl rfl (by show AV.ro _ _ (AV.frzL _) = _; rw [frzB]) ?_
  repeat (refine Run.go rfl ?_)
  refine Run.cs rfl (toBookS_ct a false ha.1) rfl (rfB _) ?_
  refine Run.unpack 34 rfl rfl ?_
  repeat (refine Run.go rfl ?_)
  refine Run.cs rfl (toInt64S_ct b false hb) rfl (rf64 _) ?_
  refine Run.unpack 36 rfl rfl ?_
  repeat (refine Run.go rfl ?_)
  refine Run.cs rfl hI (by rw [frzB, frz64, decide_eq_true rfl, decide_eq_true rfl]; rfl) (by simp only [bR, AV.rf, AV.rfL, rfB]; rfl) ?_
  iterate 2 (refine Run.go rfl ?_)
  refine Run.unpack 41 rfl rfl ?_
  repeat (refine Run.go rfl ?_)
  refine Run.cs rfl (eqBookS_ct R.1 R.1 false false hL) (by rw [frzB, decide_eq_true rfl]; rfl) rfl ?_
  repeat (refine Run.go rfl ?_)
  refine Run.bool 47 rfl (fun h => by simp at h) (fun h => ?_)
  repeat (refine Run.go rfl ?_)
  refine Run.cond rfl (fun h => by simp at h) (fun h => ?_)
  repeat (refine Run.go rfl ?_)
  refine Run.cs rfl (toBookS_ct a false ha.1) rfl (rfB _) ?_
  repeat (refine Run.go rfl ?_)
  refine Run.cs rfl (eqBookS_ct a a true true ha.1) (by rw [frzB, decide_eq_true rfl]; rfl) rfl ?_
  repeat (refine Run.go rfl ?_)
  refine Run.cond rfl (fun h => by simp at h) (fun h => ?_)
  repeat (refine Run.go rfl ?_)
  refine Run.cs rfl (toInt64S_ct b false hb) rfl (rf64 _) ?_
  repeat (refine Run.go rfl ?_)
  refine Run.cs rfl (eqInt64S_ct b b true true hb) (by rw [frz64, decide_eq_true rfl]; rfl) rfl ?_
  repeat (refine Run.go rfl ?_)
  refine Run.cond rfl (fun h => by simp at h) (fun h => ?_)
  repeat (refine Run.go rfl ?_)
  refine Run.callo (34, 0) none rfl rfl rfl rfl rfl rfl rfl rfl rfl rfl (markBookS_ct a 1 true ha.1 (by omega)) rfl (rfB _) rfl ?_
  repeat (refine Run.go rfl ?_)
  refine Run.callo (36, 0) none rfl rfl rfl rfl rfl rfl rfl rfl rfl rfl (markInt64S_ct b (1 + 8 * (a.length : Nat)) true hb (by omega)) rfl (rf64 _) rfl ?_
  repeat (refine Run.go rfl ?_)
  refine Run.bool 70 rfl (fun h => by simp at h; omega) (fun h => ?_)
  repeat (refine Run.go rfl ?_)
  refine Run.cs rfl (eqBookS_ct R.1 R.1 false false hL) (by rw [frzB, decide_eq_true rfl]; rfl) rfl ?_
  repeat (refine Run.go rfl ?_)
  refine Run.bool 76 rfl (fun h => by simp at h) (fun h => ?_)
  repeat (refine Run.go rfl ?_)
  refine Run.cond rfl (fun h => by simp at h) (fun h => ?_)
  repeat (refine Run.go rfl ?_)
  refine Run.callo (41, 0) none rfl rfl rfl rfl rfl rfl rfl rfl rfl rfl (markBookS_ct R.1 1 false hL (by omega)) rfl (rfB _) rfl ?_
  repeat (refine Run.go rfl ?_)
  refine Run.cs rfl (heldBookS_ct R.1.length 1 false hL (by omega)) (by rw [frzB, decide_eq_true (by simp [mkBs])]; rfl) rfl ?_
  repeat (refine Run.go rfl ?_)
  refine Run.cond rfl (fun h => by simp at h; omega) (fun h => ?_)
  repeat (refine Run.go rfl ?_)
  refine Run.cond rfl (fun h => by simp at h) (fun h => ?_)
  repeat (refine Run.go rfl ?_)
  refine Run.cs rfl (toBookS_ct a false ha.1) rfl (rfB _) ?_
  repeat (refine Run.go rfl ?_)
  refine Run.cs rfl (toInt64S_ct b false hb) rfl (rf64 _) ?_
  repeat (refine Run.go rfl ?_)
  refine Run.cs rfl hI (by rw [frzB, frz64]) (by simp only [bR, AV.rf, AV.rfL, rfB]; rfl) ?_
  iterate 2 (refine Run.go rfl ?_)
  refine Run.freeze (v' := .ro 8 false (R.1.map bkA)) 98 rfl rfl (by show AV.ro _ _ (AV.frzL _) = _; rw [frzB]) ?_
  repeat (refine Run.go rfl ?_)
  refine Run.cs rfl (eqBookS_ct R.1 R.1 false false hL) rfl rfl ?_
  repeat (refine Run.go rfl ?_)
  refine Run.bool 104 rfl (fun h => by simp at h) (fun h => ?_)
  repeat (refine Run.go rfl ?_)
  refine Run.cond rfl (fun h => by simp at h) (fun h => ?_)
  repeat (refine Run.go rfl ?_)
  refine Run.cs rfl (heldBookS_ct R.1.length 1 false hL (by omega)) (by rw [frzB, decide_eq_true (by simp [mkBs])]; rfl) rfl ?_
  repeat (refine Run.go rfl ?_)
  refine Run.cond rfl (fun h => by simp at h; omega) (fun h => ?_)
  repeat (refine Run.go rfl ?_)
  refine Run.cond rfl (fun h => by simp at h) (fun h => ?_)
  repeat (refine Run.go rfl ?_)
  exact Run.ret hg rfl rfl
end Go.Proofs.Ytahdgoddpkmhbaa
