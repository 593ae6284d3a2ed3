/- Contracts of the program's functions, and what follows from them. -/
import Derived.Test.YtoeocaenflkajaaD19
set_option linter.unusedVariables false
namespace Go.Proofs.Ytoeocaenflkajaa
open Go Go.Av

noncomputable def X14 : Fx := ⟨Try.prog, tys, 14, Try.f14, [0]⟩
theorem X14_ok : X14.Ok := ⟨Try.func14, tys_ok⟩
theorem lawLoansOf_ct (c : Dk) (who : Int) (hc : dkOk c) (hr : dkRng c) : Ct Try.prog 14 [dkR false false c, i64 who] (bo true) [] := by
  have hS := specLoansOf_ct c true true who hc hr
  have hI := implLoansOf_ct c true true who hc hr
  have hL := loanRes_len c who
  generalize loanRes c who = R at hS hI hL
  have hL : R.1.length ≤ 1048576 := Nat.le_trans hL hc.1
  refine Ct.intro X14 X14_ok rfl (by kernel_rfl) rfl rfl fun g hg => ?_
  repeat (refine Run.go rfl ?_)
  refine Run.cs rfl (szDesk_ct c false false 1048576 (by omega) (by omega) hc.1 hc.2) rfl rfl ?_
  repeat (refine Run.go rfl ?_)
  refine Run.cond rfl (fun h => ?_) (fun hsz => ?_)
  · repeat (refine Run.go rfl ?_)
    exact Run.ret hg rfl rfl
  have hcnt : (cnt c.cs : Nat) ≤ 4 * (1048576 : Int) := szD_cnt c 1048576 (by omega) (by simpa using hsz)
  repeat (refine Run.go rfl ?_)
  refine Run.cs rfl (toDesk_ct c false false hc.1 hc.2) rfl (dkO_rf _) ?_
  repeat (refine Run.go rfl ?_)
  refine Run.cs rfl hS (by rw [frzL_map cpO_frz]; rfl) (by simp only [lsR, AV.rf, AV.rfL, rf64]; rfl) ?_
  iterate 2 (refine Run.go rfl ?_)
  refine Run.freeze (v' := .ro 1 false (R.1.map i64)) 26 rfl rfl (by show AV.ro _ _ (AV.frzL _) = _; rw [frz64]) ?_
  repeat (refine Run.go rfl ?_)
  refine Run.cs rfl (toDesk_ct c false false hc.1 hc.2) rfl (dkO_rf _) ?_
  refine Run.unagg 29 1 (29, 1) rfl rfl rfl ?_
  repeat (refine Run.go rfl ?_)
  refine Run.cs rfl hI (by rw [frzL_map cpO_frz, decide_eq_true rfl]; rfl) (by simp only [lsR, AV.rf, AV.rfL, rf64]; rfl) ?_
  iterate 2 (refine Run.go rfl ?_)
  refine Run.unpack 34 rfl rfl ?_
  repeat (refine Run.go rfl ?_)
  refine Run.cs rfl (eqInt64S_ct R.1 R.1 false false hL) (by rw [frz64, decide_eq_true rfl]; rfl) rfl ?_
  repeat (refine Run.go rfl ?_)
  refine Run.bool 40 rfl (fun h => by simp at h) (fun h => ?_)
  repeat (refine Run.go rfl ?_)
  refine Run.cond rfl (fun h => by simp at h) (fun h => ?_)
  repeat (refine Run.go rfl ?_)
  refine Run.drawn [[0, 1, 2, 3, 4], [1, 0, 2, 3, 4], [1, 2, 0, 3, 4]] ⟨[(2, .bp (2, 0) 0), (8, .bp (8, 0) 0), (6, .ro 1 false (R.1.map i64)), (7, i64 R.2), (9, .vec (34, 0) 0 (R.1.map i64).length), (10, i64 R.2), (49, bo (!decide (c = c))), (1, i64 who)], [((2, 0), .box (dkR false false c).cells), ((8, 0), .box [i16 c.day, .vec (29, 1) 0 (c.cs.map cpO).length]), ((29, 1), .vec 5 true (c.cs.map cpO)), ((34, 0), .vec 1 false (R.1.map i64))]⟩ (by decide +kernel) (by kernel_rfl) ?_ fun _ hN => ⟨?_, ?_, ?_, trivial⟩
  rotate_left
  iterate 3
    · repeat (refine Run.go rfl ?_)
      refine Run.cs rfl (toDesk_ct c false false hc.1 hc.2) rfl (dkO_rf _) ?_
      repeat (refine Run.go rfl ?_)
      refine Run.cs rfl (eqDesk_ct c c true true true true hc.1 hc.2) (by rw [frzL_map cpO_frz, decide_eq_true rfl]; rfl) rfl ?_
      repeat (refine Run.go rfl ?_)
      exact Run.of hN ⟨rfl, rfl, rfl, rfl, rfl, rfl, rfl, rfl, trivial⟩ ⟨rfl, rfl, rfl, rfl, trivial⟩
  refine Run.cond rfl (fun h => by simp at h) (fun h => ?_)
  repeat (refine Run.go rfl ?_)
  refine Run.callo (29, 1) (some 1) rfl rfl rfl rfl rfl rfl rfl rfl rfl rfl (markDesk_ct c 1 hc.1 hc.2 (by omega) (by omega)) rfl (rfL_map cpO_rf _) rfl ?_
  repeat (refine Run.go rfl ?_)
  refine Run.bool 55 rfl (fun h => by simp at h; omega) (fun h => ?_)
  repeat (refine Run.go rfl ?_)
  refine Run.cs rfl (eqInt64S_ct R.1 R.1 false false hL) (by rw [frz64, decide_eq_true rfl]; rfl) rfl ?_
  repeat (refine Run.go rfl ?_)
  refine Run.bool 61 rfl (fun h => by simp at h) (fun h => ?_)
  repeat (refine Run.go rfl ?_)
  refine Run.cond rfl (fun h => by simp at h) (fun h => ?_)
  repeat (refine Run.go rfl ?_)
  refine Run.callo (34, 0) none rfl rfl rfl rfl rfl rfl rfl rfl rfl rfl (markInt64S_ct R.1 1 false hL (by omega)) rfl (rf64 _) rfl ?_
  repeat (refine Run.go rfl ?_)
  refine Run.cs rfl (heldInt64S_ct R.1.length 1 false hL (by omega)) (by rw [frz64, decide_eq_true (by simp [mk64])]; rfl) rfl ?_
  repeat (refine Run.go rfl ?_)
  refine Run.cond rfl (fun h => by simp at h; omega) (fun h => ?_)
  repeat (refine Run.go rfl ?_)
  refine Run.cond rfl (fun h => by simp at h) (fun h => ?_)
  repeat (refine Run.go rfl ?_)
  refine Run.cs rfl (toDesk_ct c false false hc.1 hc.2) rfl (dkO_rf _) ?_
  repeat (refine Run.go rfl ?_)
  refine Run.cs rfl hI (by rw [frzL_map cpO_frz]; rfl) (by simp only [lsR, AV.rf, AV.rfL, rf64]; rfl) ?_
  iterate 2 (refine Run.go rfl ?_)
  refine Run.freeze (v' := .ro 1 false (R.1.map i64)) 82 rfl rfl (by show AV.ro _ _ (AV.frzL _) = _; rw [frz64]) ?_
  repeat (refine Run.go rfl ?_)
  refine Run.cs rfl (eqInt64S_ct R.1 R.1 false false hL) rfl rfl ?_
  repeat (refine Run.go rfl ?_)
  refine Run.bool 88 rfl (fun h => by simp at h) (fun h => ?_)
  repeat (refine Run.go rfl ?_)
  refine Run.cond rfl (fun h => by simp at h) (fun h => ?_)
  repeat (refine Run.go rfl ?_)
  refine Run.cs rfl (heldInt64S_ct R.1.length 1 false hL (by omega)) (by rw [frz64, decide_eq_true (by simp [mk64])]; rfl) rfl ?_
  repeat (refine Run.go rfl ?_)
  refine Run.cond rfl (fun h => by simp at h; omega) (fun h => ?_)
  repeat (refine Run.go rfl ?_)
  refine Run.cond rfl (fun h => by simp at h) (fun h => ?_)
  repeat (refine Run.go rfl ?_)
  exact Run.ret hg rfl rfl
end Go.Proofs.Ytoeocaenflkajaa
