/- Contracts of the program's functions, and what follows from them. -/
import Derived.Test.YtilaphojceabkaaDoorE30
set_option linter.unusedVariables false
set_option maxRecDepth 100000
set_option linter.unusedSimpArgs false
namespace Go.Proofs.YtilaphojceabkaaDoor
open Go Go.Av

noncomputable def X12 : Fx := ⟨Tryd.prog, tys, 12, Tryd.f12, [0]⟩
theorem X12_ok : X12.Ok := ⟨Tryd.func12, tys_ok⟩
theorem lawNear_ct (t : List UInt8) : CtA ambS Tryd.prog 12 [str t] (bo true) [] := by
  refine CtA.intro ambS X12 X12_ok rfl (by kernel_rfl) rfl rfl fun g hA hg => ?_
  repeat (refine Run.go rfl ?_)
  refine Run.cond rfl (fun h => ?_) (fun h => ?_)
  · repeat (refine Run.go rfl ?_)
    exact Run.ret hg rfl rfl
  have hlen : t.length ≤ 1048576 := by
    have h2 : decide ((1048576 : Int) < ((⟨t.toArray⟩ : ByteArray).size : Nat)) = false := h
    rw [bsz] at h2
    simp at h2
    omega
  have hS := specNear_ct t hlen
  have hI := implNear_ct t hlen
  have hR : (nrRes t).1.length ≤ 324 := by
    unfold nrRes
    split
    · have h1 := (lbsOf_facts t (nearAll t)).2.2
      have h2 := outsN_len t (List.range 9)
      have h3 : nearAll t = outsN t (List.range 9) := rfl
      rw [h3] at h1 ⊢
      rw [h2, List.length_range] at h1
      exact h1
    · simp
  generalize nrRes t = R at hS hI hR
  obtain ⟨l, c⟩ := R
  simp only at hS hI hR
  have hl2 : l.length ≤ 1048576 := by omega
  repeat (refine Run.go rfl ?_)
  refine Run.callp rfl rfl rfl rfl rfl rfl rfl rfl rfl hS (by decide) (by decide) ?_
  repeat (refine Run.go rfl ?_)
  refine Run.csA rfl (hI.at hA) rfl (by simp only [AV.rf, AV.rfL, rfS]; rfl) ?_
  iterate 2 (refine Run.go rfl ?_)
  refine Run.unpack 22 rfl rfl ?_
  repeat (refine Run.go rfl ?_)
  refine Run.cs rfl (eqStringS_ct l l false false hl2) (by rw [frzS, decide_eq_true rfl]; rfl) rfl ?_
  rw [decide_eq_true rfl]
  repeat (refine Run.go rfl ?_)
  refine Run.cond rfl (fun h => by simp at h) (fun h => ?_)
  repeat (refine Run.go rfl ?_)
  refine Run.callo (22, 0) none rfl rfl rfl rfl rfl rfl rfl rfl rfl rfl (markStringS_ct l 1 false hl2 (by omega)) rfl (rfS _) rfl ?_
  repeat (refine Run.go rfl ?_)
  refine Run.cs rfl (heldStringS_ct l.length 1 false hl2 (by omega)) (by rw [frzS, decide_eq_true (by simp [mkTs])]; rfl) rfl ?_
  repeat (refine Run.go rfl ?_)
  refine Run.cond rfl (fun h => by simp at h; omega) (fun h => ?_)
  repeat (refine Run.go rfl ?_)
  refine Run.cond rfl (fun h => by simp at h) (fun h => ?_)
  repeat (refine Run.go rfl ?_)
  refine Run.csA rfl (hI.at hA) rfl (by simp only [AV.rf, AV.rfL, rfS]; rfl) ?_
  iterate 2 (refine Run.go rfl ?_)
  refine Run.freeze (v' := .ro 1 false (l.map str)) 47 rfl rfl (by show AV.ro _ _ (AV.frzL _) = _; rw [frzS]) ?_
  repeat (refine Run.go rfl ?_)
  refine Run.cs rfl (eqStringS_ct l l false false hl2) rfl rfl ?_
  rw [decide_eq_true rfl]
  repeat (refine Run.go rfl ?_)
  refine Run.cond rfl (fun h => by simp at h) (fun h => ?_)
  repeat (refine Run.go rfl ?_)
  refine Run.cs rfl (heldStringS_ct l.length 1 false hl2 (by omega)) (by rw [frzS, decide_eq_true (by simp [mkTs])]; rfl) rfl ?_
  repeat (refine Run.go rfl ?_)
  refine Run.cond rfl (fun h => by simp at h; omega) (fun h => ?_)
  repeat (refine Run.go rfl ?_)
  refine Run.cond rfl (fun h => by simp at h) (fun h => ?_)
  repeat (refine Run.go rfl ?_)
  exact Run.ret hg rfl rfl
end Go.Proofs.YtilaphojceabkaaDoor
