/- Contracts of the program's functions, and what follows from them. -/
import Derived.Test.YtilaphojceabkaaGreatDoorE14
import Derived.Test.YtilaphojceabkaaGreatDoorMC
set_option linter.unusedVariables false
set_option maxRecDepth 100000
set_option linter.unusedSimpArgs false
namespace Go.Proofs.YtilaphojceabkaaGreatDoor
open Go Go.Av

noncomputable def X3 : Fx := ⟨Tryz.prog, tys, 3, Tryz.f3, [0, 1]⟩
theorem X3_ok : X3.Ok := ⟨Tryz.func3, tys_ok⟩
theorem lawReportOf_ct (a b : List Bk) (ha : bksOk a) (hb : bksOk b) : CtA ambT Tryz.prog 3 [.ro 8 false (a.map bkA), .ro 8 false (b.map bkA)] (bo true) [] := by
  have hS := specReportOf_ct a b true true ha hb
  have hI := implReportOf_ct a b true true ha hb
  obtain ⟨R1, R2, hR⟩ : ∃ (R1 : List UInt8) (R2 : Int), rpA a b = .tup [str R1, i64 R2] := by
    unfold rpA
    split
    · exact ⟨_, _, rfl⟩
    · exact ⟨_, _, rfl⟩
  rw [hR] at hS hI
  refine CtA.intro ambT X3 X3_ok rfl (by kernel_rfl) rfl rfl fun g hA hg => ?_
  repeat (refine Run.go rfl ?_)
  refine Run.cs rfl (szBookS_ct a false 1048576 (by omega) (by omega) ha.1) rfl rfl ?_
  repeat (refine Run.go rfl ?_)
  refine Run.cond rfl (fun h => ?_) (fun hsa => ?_)
  · repeat (refine Run.go rfl ?_)
    exact Run.ret hg rfl rfl
  have hs1 : 0 ≤ szB a 1048576 ∧ szB a 1048576 ≤ 1048576 := by
    have : ¬ szB a 1048576 < 0 := by simpa using hsa
    refine ⟨by omega, ?_⟩
    unfold szB
    split <;> omega
  repeat (refine Run.go rfl ?_)
  refine Run.cs rfl (szBookS_ct b false (szB a 1048576) (by omega) (by omega) hb.1) rfl rfl ?_
  repeat (refine Run.go rfl ?_)
  refine Run.cond rfl (fun h => ?_) (fun hsb => ?_)
  · repeat (refine Run.go rfl ?_)
    exact Run.ret hg rfl rfl
  repeat (refine Run.go rfl ?_)
  refine Run.cs rfl (toBookS_ct a false ha.1) rfl (rfB _) ?_
  repeat (refine Run.go rfl ?_)
  refine Run.cs rfl (toBookS_ct b false hb.1) rfl (rfB _) ?_
  repeat (refine Run.go rfl ?_)
  refine Run.cs rfl hS (by rw [frzB, frzB]) rfl ?_
  repeat (refine Run.go rfl ?_)
  refine Run.cs rfl (toBookS_ct a false ha.1) rfl (rfB _) ?_
  repeat (refine Run.go rfl ?_)
  refine Run.cs rfl (toBookS_ct b false hb.1) rfl (rfB _) ?_
  repeat (refine Run.go rfl ?_)
  refine Run.csA rfl (hI.at hA) (by rw [frzB, frzB, decide_eq_true rfl, decide_eq_true rfl]; rfl) rfl ?_
  repeat (refine Run.go rfl ?_)
  refine Run.bool 43 rfl (fun h => by simp at h) (fun h => ?_)
  repeat (refine Run.go rfl ?_)
  refine Run.cond rfl (fun h => by simp at h) (fun h => ?_)
  repeat (refine Run.go rfl ?_)
  refine Run.cs rfl (toBookS_ct a false ha.1) rfl (rfB _) ?_
  repeat (refine Run.go rfl ?_)
  refine Run.cs rfl (eqBookS_ct a a true true ha.1) (by rw [frzB, decide_eq_true rfl]; rfl) rfl ?_
  repeat (refine Run.go rfl ?_)
  refine Run.cond rfl (fun h => by simp at h) (fun h => ?_)
  repeat (refine Run.go rfl ?_)
  refine Run.cs rfl (toBookS_ct b false hb.1) rfl (rfB _) ?_
  repeat (refine Run.go rfl ?_)
  refine Run.cs rfl (eqBookS_ct b b true true hb.1) (by rw [frzB, decide_eq_true rfl]; rfl) rfl ?_
  repeat (refine Run.go rfl ?_)
  refine Run.cond rfl (fun h => by simp at h) (fun h => ?_)
  repeat (refine Run.go rfl ?_)
  exact Run.ret hg rfl rfl
end Go.Proofs.YtilaphojceabkaaGreatDoor
