/- Contracts of the program's functions, and what follows from them. -/
import Derived.Test.YtoeocaenflkajaaMD
set_option linter.unusedVariables false
namespace Go.Proofs.Ytoeocaenflkajaa
open Go Go.Av

noncomputable def X13 : Fx := ⟨Try.prog, tys, 13, Try.f13, [0]⟩
theorem X13_ok : X13.Ok := ⟨Try.func13, tys_ok⟩
theorem lawOverdueBooks_ct (c : Dk)  (hc : dkOk c) (hr : dkRng c) : Ct Try.prog 13 [dkR false false c] (bo true) [] := by
  have hS := specOverdueBooks_ct c true true  hc hr
  have hI := implOverdueBooks_ct c true true  hc hr
  have hL := overRes_len c
  generalize overRes c = R at hS hI hL
  have hL : R.1.length ≤ 1048576 := Nat.le_trans hL hc.1
  refine Ct.intro X13 X13_ok rfl (by kernel_rfl) rfl rfl fun g hg => ?_
  repeat (refine Run.go rfl ?_)
  refine Run.cs rfl (szDesk_ct c false false 1048576 (by omega) (by omega) hc.1 hc.2) rfl rfl ?_
  repeat (refine Run.go rfl ?_)
  refine Run.cond rfl (fun h => ?_) (fun hsz => ?_)
  · repeat (refine Run.go rfl ?_)
    exact Run.ret hg rfl rfl
  have hcnt : (cnt c.cs : Nat) ≤ 4 * (1048576 : Int) := szD_cnt c 1048576 (by omega) (by simpa using hsz)
  repeat (refine Run.go rfl ?_)
  refine Run.cs rfl (toDesk_ct c false false hc.1 hc.2) rfl (dkO_rf _) ?_
  repeat (refine Run.go rfl ?_)
  refine Run.cs rfl hS (by rw [frzL_map cpO_frz]; rfl) (by simp only [lsR, AV.rf, AV.rfL, rf64]; rfl) ?_
  iterate 2 (refine Run.go rfl ?_)
  refine Run.freeze (v' := .ro 1 false (R.1.map i64)) 23 rfl rfl (by show AV.ro _ _ (AV.frzL _) = _; rw [frz64]) ?_
  repeat (refine Run.go rfl ?_)
  refine Run.cs rfl (toDesk_ct c false false hc.1 hc.2) rfl (dkO_rf _) ?_
  refine Run.unagg 26 1 (26, 1) rfl rfl rfl ?_
  repeat (refine Run.go rfl ?_)
  refine Run.cs rfl hI (by rw [frzL_map cpO_frz, decide_eq_true rfl]; rfl) (by simp only [lsR, AV.rf, AV.rfL, rf64]; rfl) ?_
  iterate 2 (refine Run.go rfl ?_)
  refine Run.unpack 30 rfl rfl ?_
  repeat (refine Run.go rfl ?_)
  refine Run.cs rfl (eqInt64S_ct R.1 R.1 false false hL) (by rw [frz64, decide_eq_true rfl]; rfl) rfl ?_
  repeat (refine Run.go rfl ?_)
  refine Run.bool 36 rfl (fun h => by simp at h) (fun h => ?_)
  repeat (refine Run.go rfl ?_)
  refine Run.cond rfl (fun h => by simp at h) (fun h => ?_)
  repeat (refine Run.go rfl ?_)
  refine Run.drawn [[0, 1, 2, 3, 4], [1, 0, 2, 3, 4], [1, 2, 0, 3, 4]] ⟨[(1, .bp (1, 0) 0), (6, .bp (6, 0) 0), (4, .ro 1 false (R.1.map i64)), (5, i64 R.2), (7, .vec (30, 0) 0 (R.1.map i64).length), (8, i64 R.2), (45, bo (!decide (c = c)))], [((1, 0), .box (dkR false false c).cells), ((6, 0), .box [i16 c.day, .vec (26, 1) 0 (c.cs.map cpO).length]), ((26, 1), .vec 5 true (c.cs.map cpO)), ((30, 0), .vec 1 false (R.1.map i64))]⟩ (by decide +kernel) (by kernel_rfl) ?_ fun _ hN => ⟨?_, ?_, ?_, trivial⟩
  rotate_left
  iterate 3
    · repeat (refine Run.go rfl ?_)
      refine Run.cs rfl (toDesk_ct c false false hc.1 hc.2) rfl (dkO_rf _) ?_
      repeat (refine Run.go rfl ?_)
      refine Run.cs rfl (eqDesk_ct c c true true true true hc.1 hc.2) (by rw [frzL_map cpO_frz, decide_eq_true rfl]; rfl) rfl ?_
      repeat (refine Run.go rfl ?_)
      exact Run.of hN ⟨rfl, rfl, rfl, rfl, rfl, rfl, rfl, trivial⟩ ⟨rfl, rfl, rfl, rfl, trivial⟩
  refine Run.cond rfl (fun h => by simp at h) (fun h => ?_)
  repeat (refine Run.go rfl ?_)
  refine Run.callo (26, 1) (some 1) rfl rfl rfl rfl rfl rfl rfl rfl rfl rfl (markDesk_ct c 1 hc.1 hc.2 (by omega) (by omega)) rfl (rfL_map cpO_rf _) rfl ?_
  repeat (refine Run.go rfl ?_)
  refine Run.bool 51 rfl (fun h => by simp at h; omega) (fun h => ?_)
  repeat (refine Run.go rfl ?_)
  refine Run.cs rfl (eqInt64S_ct R.1 R.1 false false hL) (by rw [frz64, decide_eq_true rfl]; rfl) rfl ?_
  repeat (refine Run.go rfl ?_)
  refine Run.bool 57 rfl (fun h => by simp at h) (fun h => ?_)
  repeat (refine Run.go rfl ?_)
  refine Run.cond rfl (fun h => by simp at h) (fun h => ?_)
  repeat (refine Run.go rfl ?_)
  refine Run.callo (30, 0) none rfl rfl rfl rfl rfl rfl rfl rfl rfl rfl (markInt64S_ct R.1 1 false hL (by omega)) rfl (rf64 _) rfl ?_
  repeat (refine Run.go rfl ?_)
  refine Run.cs rfl (heldInt64S_ct R.1.length 1 false hL (by omega)) (by rw [frz64, decide_eq_true (by simp [mk64])]; rfl) rfl ?_
  repeat (refine Run.go rfl ?_)
  refine Run.cond rfl (fun h => by simp at h; omega) (fun h => ?_)
  repeat (refine Run.go rfl ?_)
  refine Run.cond rfl (fun h => by simp at h) (fun h => ?_)
  repeat (refine Run.go rfl ?_)
  refine Run.cs rfl (toDesk_ct c false false hc.1 hc.2) rfl (dkO_rf _) ?_
  repeat (refine Run.go rfl ?_)
  refine Run.cs rfl hI (by rw [frzL_map cpO_frz]; rfl) (by simp only [lsR, AV.rf, AV.rfL, rf64]; rfl) ?_
  iterate 2 (refine Run.go rfl ?_)
  refine Run.freeze (v' := .ro 1 false (R.1.map i64)) 77 rfl rfl (by show AV.ro _ _ (AV.frzL _) = _; rw [frz64]) ?_
  repeat (refine Run.go rfl ?_)
  refine Run.cs rfl (eqInt64S_ct R.1 R.1 false false hL) rfl rfl ?_
  repeat (refine Run.go rfl ?_)
  refine Run.bool 83 rfl (fun h => by simp at h) (fun h => ?_)
  repeat (refine Run.go rfl ?_)
  refine Run.cond rfl (fun h => by simp at h) (fun h => ?_)
  repeat (refine Run.go rfl ?_)
  refine Run.cs rfl (heldInt64S_ct R.1.length 1 false hL (by omega)) (by rw [frz64, decide_eq_true (by simp [mk64])]; rfl) rfl ?_
  repeat (refine Run.go rfl ?_)
  refine Run.cond rfl (fun h => by simp at h; omega) (fun h => ?_)
  repeat (refine Run.go rfl ?_)
  refine Run.cond rfl (fun h => by simp at h) (fun h => ?_)
  repeat (refine Run.go rfl ?_)
  exact Run.ret hg rfl rfl
end Go.Proofs.Ytoeocaenflkajaa
