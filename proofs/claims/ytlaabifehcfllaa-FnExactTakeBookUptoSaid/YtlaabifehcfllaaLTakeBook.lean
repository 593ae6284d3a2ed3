/- Contracts of the program's functions, and what follows from them. -/
import Derived.Test.YtlaabifehcfllaaKRd
set_option linter.unusedVariables false
set_option maxRecDepth 100000
namespace Go.Proofs.Ytlaabifehcfllaa
open Go Go.Av

theorem rkRes_rf (r : Rk × Int) : (rkRes r).rf = true := by simp only [rkRes, AV.rf, AV.rfL, rk_rf]; rfl
theorem tkRes_len (r : Rk) (a : Int) : (tkRes r a).1.bs.length ≤ r.bs.length := by
  unfold tkRes
  split
  · split
    · split
      · exact List.length_filter_le _ _
      · simp [rk0]
    · simp [rk0]
  · simp [rk0]

noncomputable def X6 : Fx := ⟨Try.prog, tys, 6, Try.f6, [1]⟩
theorem X6_ok : X6.Ok := ⟨Try.func6, tys_ok⟩
theorem lawTakeBook_ct (r : Rk) (a : Int) (hr : rkOk r) : Ct Try.prog 6 [rkR false r, i64 a] (bo true) [] := by
  have hS := specTakeBook_ct r true a hr
  have hI := implTakeBook_ct r true a hr
  have hl := hr.1.2
  have hL := Nat.le_trans (tkRes_len r a) hl
  generalize tkRes r a = R at hS hI hL
  obtain ⟨Q, c⟩ := R
  simp only at hL
  refine Ct.intro X6 X6_ok rfl (by kernel_rfl) rfl rfl fun g hg => ?_
  repeat (refine Run.go rfl ?_)
  refine Run.cs rfl (szRack_ct r false 1048576 (by omega) (by omega) hl) rfl rfl ?_
  repeat (refine Run.go rfl ?_)
  refine Run.cond rfl (fun h => ?_) (fun hsz => ?_)
  · repeat (refine Run.go rfl ?_)
    exact Run.ret hg rfl rfl
  repeat (refine Run.go rfl ?_)
  refine Run.cs rfl (toRack_ct r false hl) rfl (rk_rf _ _) ?_
  repeat (refine Run.go rfl ?_)
  refine Run.cs rfl hS (by rw [frzP]; rfl) (rkRes_rf _) ?_
  repeat (refine Run.go rfl ?_)
  refine Run.freeze (v' := rkR false Q) 26 rfl rfl (rk_frz _ _) ?_
  repeat (refine Run.go rfl ?_)
  refine Run.cs rfl (toRack_ct r false hl) rfl (rk_rf _ _) ?_
  refine Run.unagg 29 1 (29, 1) rfl rfl rfl ?_
  repeat (refine Run.go rfl ?_)
  refine Run.cs rfl hI (by rw [frzP, decide_eq_true rfl]; rfl) (rkRes_rf _) ?_
  repeat (refine Run.go rfl ?_)
  refine Run.unagg 34 1 (34, 1) rfl rfl rfl ?_
  repeat (refine Run.go rfl ?_)
  refine Run.cs rfl (eqRack_ct Q Q false false hL) (by rw [frzP, decide_eq_true rfl]; rfl) rfl ?_
  repeat (refine Run.go rfl ?_)
  refine Run.bool 40 rfl (fun h => by simp at h) (fun h => ?_)
  repeat (refine Run.go rfl ?_)
  refine Run.cond rfl (fun h => by simp at h) (fun h => ?_)
  repeat (refine Run.go rfl ?_)
  refine Run.drawn [[0, 1, 2, 3, 4], [1, 0, 2, 3, 4], [1, 2, 0, 3, 4]] ⟨[(1, i64 a), (2, .bp (2, 0) 0), (6, .bp (6, 0) 0), (7, i64 c), (8, .bp (8, 0) 0), (9, .bp (9, 0) 0), (10, i64 c), (49, bo (!decide (r = r)))], [((2, 0), .box (rkR false r).cells), ((6, 0), .box (rkR false Q).cells), ((8, 0), .box [i16 r.pl, .vec (29, 1) 0 (r.bs.map plA).length]), ((29, 1), .vec 9 true (r.bs.map plA)), ((9, 0), .box [i16 Q.pl, .vec (34, 1) 0 (Q.bs.map plA).length]), ((34, 1), .vec 9 false (Q.bs.map plA))]⟩ (by decide +kernel) (by kernel_rfl) ?_ fun _ hN => ⟨?_, ?_, ?_, trivial⟩
  rotate_left
  iterate 3
    · repeat (refine Run.go rfl ?_)
      refine Run.cs rfl (toRack_ct r false hl) rfl (rk_rf _ _) ?_
      repeat (refine Run.go rfl ?_)
      refine Run.cs rfl (eqRack_ct r r true true hl) (by rw [frzP, decide_eq_true rfl]; rfl) rfl ?_
      repeat (refine Run.go rfl ?_)
      exact Run.of hN ⟨rfl, rfl, rfl, rfl, rfl, rfl, rfl, rfl, trivial⟩ ⟨rfl, rfl, rfl, rfl, rfl, rfl, trivial⟩
  refine Run.cond rfl (fun h => by simp at h) (fun h => ?_)
  repeat (refine Run.go rfl ?_)
  refine Run.callo (29, 1) (some 1) rfl rfl rfl rfl rfl rfl rfl rfl rfl rfl (markRack_ct r 1 true hl (by omega)) rfl (rfP _) rfl ?_
  repeat (refine Run.go rfl ?_)
  refine Run.bool 55 rfl (fun h => by simp at h; omega) (fun h => ?_)
  repeat (refine Run.go rfl ?_)
  refine Run.cs rfl (eqRack_ct Q Q false false hL) (by rw [frzP, decide_eq_true rfl]; rfl) rfl ?_
  repeat (refine Run.go rfl ?_)
  refine Run.bool 61 rfl (fun h => by simp at h) (fun h => ?_)
  repeat (refine Run.go rfl ?_)
  refine Run.cond rfl (fun h => by simp at h) (fun h => ?_)
  repeat (refine Run.go rfl ?_)
  refine Run.callo (34, 1) (some 1) rfl rfl rfl rfl rfl rfl rfl rfl rfl rfl (markRack_ct Q 1 false hL (by omega)) rfl (rfP _) rfl ?_
  repeat (refine Run.go rfl ?_)
  refine Run.cs rfl (heldRack_ct Q 1 false hL (by omega)) (by rw [frzP, decide_eq_true (by simp [mkR, mkPs])]; rfl) rfl ?_
  repeat (refine Run.go rfl ?_)
  refine Run.cond rfl (fun h => by simp at h; omega) (fun h => ?_)
  repeat (refine Run.go rfl ?_)
  refine Run.cond rfl (fun h => by simp at h) (fun h => ?_)
  repeat (refine Run.go rfl ?_)
  refine Run.cs rfl (toRack_ct r false hl) rfl (rk_rf _ _) ?_
  repeat (refine Run.go rfl ?_)
  refine Run.cs rfl hI (by rw [frzP]; rfl) (rkRes_rf _) ?_
  repeat (refine Run.go rfl ?_)
  refine Run.freeze (v' := rkR false Q) 82 rfl rfl (rk_frz _ _) ?_
  repeat (refine Run.go rfl ?_)
  refine Run.cs rfl (eqRack_ct Q Q false false hL) rfl rfl ?_
  repeat (refine Run.go rfl ?_)
  refine Run.bool 88 rfl (fun h => by simp at h) (fun h => ?_)
  repeat (refine Run.go rfl ?_)
  refine Run.cond rfl (fun h => by simp at h) (fun h => ?_)
  repeat (refine Run.go rfl ?_)
  refine Run.cs rfl (heldRack_ct Q 1 false hL (by omega)) (by rw [frzP, decide_eq_true (by simp [mkR, mkPs])]; rfl) rfl ?_
  repeat (refine Run.go rfl ?_)
  refine Run.cond rfl (fun h => by simp at h; omega) (fun h => ?_)
  repeat (refine Run.go rfl ?_)
  refine Run.cond rfl (fun h => by simp at h) (fun h => ?_)
  repeat (refine Run.go rfl ?_)
  exact Run.ret hg rfl rfl
end Go.Proofs.Ytlaabifehcfllaa
