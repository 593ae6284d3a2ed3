/- Contracts of the program's functions, and what follows from them. -/
import Derived.Test.YtlaabifehcfllaaME
import Derived.Test.YtlaabifehcfllaaMC
set_option linter.unusedVariables false
set_option maxRecDepth 100000
namespace Go.Proofs.Ytlaabifehcfllaa
open Go Go.Av

noncomputable def X23 : Fx := ⟨Try.prog, tys, 23, Try.f23, [0, 1]⟩
theorem X23_ok : X23.Ok := ⟨Try.func23, tys_ok⟩
theorem eqMove_ct (f t : Int) : Ct Try.prog 23 [mvA f t, mvA f t] (bo true) [] := by
  refine Ct.intro X23 X23_ok rfl rfl rfl rfl fun g hg => ?_
  repeat (refine Run.go rfl ?_)
  refine Run.cond rfl (fun h => by simp at h) (fun h => ?_)
  repeat (refine Run.go rfl ?_)
  refine Run.cond rfl (fun h => by simp at h) (fun h => ?_)
  repeat (refine Run.go rfl ?_)
  exact Run.ret hg rfl rfl

noncomputable def X5 : Fx := ⟨Try.prog, tys, 5, Try.f5, [0, 1]⟩
theorem X5_ok : X5.Ok := ⟨Try.func5, tys_ok⟩
theorem lawOneSlip_ct (a b : List Bk) (ha : bksOk a) (hb : bksOk b) : Ct Try.prog 5 [.ro 8 false (a.map bkA), .ro 8 false (b.map bkA)] (bo true) [] := by
  obtain ⟨R, hR⟩ := slip_ex a b
  have hS := specOneSlip_ct a b true true R hR ha hb
  have hI := implOneSlip_ct a b true true R hR ha hb
  obtain ⟨⟨f, t⟩, c⟩ := R
  refine Ct.intro X5 X5_ok rfl (by kernel_rfl) rfl rfl fun g hg => ?_
  repeat (refine Run.go rfl ?_)
  refine Run.cs rfl (szBookS_ct a false 1048576 (by omega) (by omega) ha.1) rfl rfl ?_
  repeat (refine Run.go rfl ?_)
  refine Run.cond rfl (fun h => ?_) (fun hsa => ?_)
  · repeat (refine Run.go rfl ?_)
    exact Run.ret hg rfl rfl
  have hs1 : 0 ≤ szB a 1048576 ∧ szB a 1048576 ≤ 1048576 := by
    have : ¬ szB a 1048576 < 0 := by simpa using hsa
    refine ⟨by omega, ?_⟩
    unfold szB
    split <;> omega
  repeat (refine Run.go rfl ?_)
  refine Run.cs rfl (szBookS_ct b false (szB a 1048576) (by omega) (by omega) hb.1) rfl rfl ?_
  repeat (refine Run.go rfl ?_)
  refine Run.cond rfl (fun h => ?_) (fun hsb => ?_)
  · repeat (refine Run.go rfl ?_)
    exact Run.ret hg rfl rfl
  repeat (refine Run.go rfl ?_)
  refine Run.cs rfl (toBookS_ct a false ha.1) rfl (rfB _) ?_
  repeat (refine Run.go rfl ?_)
  refine Run.cs rfl (toBookS_ct b false hb.1) rfl (rfB _) ?_
  repeat (refine Run.go rfl ?_)
  refine Run.cs rfl hS (by rw [frzB, frzB]) rfl ?_
  repeat (refine Run.go rfl ?_)
  refine Run.cs rfl (toBookS_ct a false ha.1) rfl (rfB _) ?_
  refine Run.unpack 31 rfl rfl ?_
  repeat (refine Run.go rfl ?_)
  refine Run.cs rfl (toBookS_ct b false hb.1) rfl (rfB _) ?_
  refine Run.unpack 33 rfl rfl ?_
  repeat (refine Run.go rfl ?_)
  refine Run.cs rfl hI (by rw [frzB, frzB, decide_eq_true rfl, decide_eq_true rfl]; rfl) rfl ?_
  repeat (refine Run.go rfl ?_)
  refine Run.cs rfl (eqMove_ct f t) rfl rfl ?_
  repeat (refine Run.go rfl ?_)
  refine Run.bool 47 rfl (fun h => by simp at h) (fun h => ?_)
  repeat (refine Run.go rfl ?_)
  refine Run.cond rfl (fun h => by simp at h) (fun h => ?_)
  repeat (refine Run.go rfl ?_)
  refine Run.cs rfl (toBookS_ct a false ha.1) rfl (rfB _) ?_
  repeat (refine Run.go rfl ?_)
  refine Run.cs rfl (eqBookS_ct a a true true ha.1) (by rw [frzB, decide_eq_true rfl]; rfl) rfl ?_
  repeat (refine Run.go rfl ?_)
  refine Run.cond rfl (fun h => by simp at h) (fun h => ?_)
  repeat (refine Run.go rfl ?_)
  refine Run.cs rfl (toBookS_ct b false hb.1) rfl (rfB _) ?_
  repeat (refine Run.go rfl ?_)
  refine Run.cs rfl (eqBookS_ct b b true true hb.1) (by rw [frzB, decide_eq_true rfl]; rfl) rfl ?_
  repeat (refine Run.go rfl ?_)
  refine Run.cond rfl (fun h => by simp at h) (fun h => ?_)
  repeat (refine Run.go rfl ?_)
  exact Run.ret hg rfl rfl
end Go.Proofs.Ytlaabifehcfllaa
