/- Contracts of the program's functions, and what follows from them. -/
import Derived.Test.YtlaabifehcfllaaME
import Derived.Test.YtlaabifehcfllaaMC
set_option linter.unusedVariables false
set_option maxRecDepth 100000
namespace Go.Proofs.Ytlaabifehcfllaa
open Go Go.Av

noncomputable def X4 : Fx := ⟨Try.prog, tys, 4, Try.f4, [0, 1]⟩
theorem X4_ok : X4.Ok := ⟨Try.func4, tys_ok⟩
theorem lawFewestSlips_ct (a b : List Bk) (ha : bksOk a) (hb : bksOk b) : Ct Try.prog 4 [.ro 8 false (a.map bkA), .ro 8 false (b.map bkA)] (bo true) [] := by
  have hS := specFewestSlips_ct a b true true ha hb
  have hI := implFewestSlips_ct a b true true ha hb
  refine Ct.intro X4 X4_ok rfl (by kernel_rfl) rfl rfl fun g hg => ?_
  repeat (refine Run.go rfl ?_)
  refine Run.cs rfl (szBookS_ct a false 1048576 (by omega) (by omega) ha.1) rfl rfl ?_
  repeat (refine Run.go rfl ?_)
  refine Run.cond rfl (fun h => ?_) (fun hsa => ?_)
  · repeat (refine Run.go rfl ?_)
    exact Run.ret hg rfl rfl
  have hs1 : 0 ≤ szB a 1048576 ∧ szB a 1048576 ≤ 1048576 := by
    have : ¬ szB a 1048576 < 0 := by simpa using hsa
    refine ⟨by omega, ?_⟩
    unfold szB
    split <;> omega
  repeat (refine Run.go rfl ?_)
  refine Run.cs rfl (szBookS_ct b false (szB a 1048576) (by omega) (by omega) hb.1) rfl rfl ?_
  repeat (refine Run.go rfl ?_)
  refine Run.cond rfl (fun h => ?_) (fun hsb => ?_)
  · repeat (refine Run.go rfl ?_)
    exact Run.ret hg rfl rfl
  repeat (refine Run.go rfl ?_)
  refine Run.cs rfl (toBookS_ct a false ha.1) rfl (rfB _) ?_
  repeat (refine Run.go rfl ?_)
  refine Run.cs rfl (toBookS_ct b false hb.1) rfl (rfB _) ?_
  repeat (refine Run.go rfl ?_)
  refine Run.cs rfl hS (by rw [frzB, frzB]) rfl ?_
  repeat (refine Run.go rfl ?_)
  refine Run.cs rfl (toBookS_ct a false ha.1) rfl (rfB _) ?_
  refine Run.unpack 31 rfl rfl ?_
  repeat (refine Run.go rfl ?_)
  refine Run.cs rfl (toBookS_ct b false hb.1) rfl (rfB _) ?_
  refine Run.unpack 33 rfl rfl ?_
  repeat (refine Run.go rfl ?_)
  refine Run.cs rfl hI (by rw [frzB, frzB, decide_eq_true rfl, decide_eq_true rfl]; rfl) rfl ?_
  repeat (refine Run.go rfl ?_)
  refine Run.bool 43 rfl (fun h => by simp at h) (fun h => ?_)
  repeat (refine Run.go rfl ?_)
  refine Run.cond rfl (fun h => by simp at h) (fun h => ?_)
  repeat (refine Run.go rfl ?_)
  refine Run.cs rfl (toBookS_ct a false ha.1) rfl (rfB _) ?_
  repeat (refine Run.go rfl ?_)
  refine Run.cs rfl (eqBookS_ct a a true true ha.1) (by rw [frzB, decide_eq_true rfl]; rfl) rfl ?_
  repeat (refine Run.go rfl ?_)
  refine Run.cond rfl (fun h => by simp at h) (fun h => ?_)
  repeat (refine Run.go rfl ?_)
  refine Run.cs rfl (toBookS_ct b false hb.1) rfl (rfB _) ?_
  repeat (refine Run.go rfl ?_)
  refine Run.cs rfl (eqBookS_ct b b true true hb.1) (by rw [frzB, decide_eq_true rfl]; rfl) rfl ?_
  repeat (refine Run.go rfl ?_)
  refine Run.cond rfl (fun h => by simp at h) (fun h => ?_)
  repeat (refine Run.go rfl ?_)
  exact Run.ret hg rfl rfl
end Go.Proofs.Ytlaabifehcfllaa
