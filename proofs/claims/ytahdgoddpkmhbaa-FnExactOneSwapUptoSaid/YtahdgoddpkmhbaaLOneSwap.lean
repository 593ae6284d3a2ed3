/- Contracts of the program's functions, and what follows from them. -/
import Derived.Test.YtahdgoddpkmhbaaME
import Derived.Test.YtahdgoddpkmhbaaMC
set_option linter.unusedVariables false
namespace Go.Proofs.Ytahdgoddpkmhbaa
open Go Go.Av

noncomputable def X34 : Fx := ⟨Try.prog, tys, 34, Try.f34, [0, 1]⟩
theorem X34_ok : X34.Ok := ⟨Try.func34, tys_ok⟩
theorem eqMove_ct (f t : Int) : Ct Try.prog 34 [mvA f t, mvA f t] (bo true) [] := by
  refine Ct.intro X34 X34_ok rfl rfl rfl rfl fun g hg => ?_
  repeat (refine Run.go rfl ?_)
  refine Run.cond rfl (fun h => by simp at h) (fun h => ?_)
  repeat (refine Run.go rfl ?_)
  refine Run.cond rfl (fun h => by simp at h) (fun h => ?_)
  repeat (refine Run.go rfl ?_)
  exact Run.ret hg rfl rfl

noncomputable def X9 : Fx := ⟨Try.prog, tys, 9, Try.f9, [0, 1]⟩
theorem X9_ok : X9.Ok := ⟨Try.func9, tys_ok⟩
theorem lawOneSwap_ct (a b : List Bk) (ha : bksOk a) (hb : bksOk b) : Ct Try.prog 9 [.ro 8 false (a.map bkA), .ro 8 false (b.map bkA)] (bo true) [] := by
  have hS := specOneSwap_ct a b true true ha hb
  have hI := implOneSwap_ct a b true true ha hb
  generalize osRes a b = R at hS hI
  obtain ⟨⟨f, t⟩, c⟩ := R
  refine Ct.intro X9 X9_ok rfl (by kernel_rfl) rfl rfl fun g hg => ?_
  repeat (refine Run.go rfl ?_)
  refine Run.cs rfl (szBookS_ct a false 1048576 (by omega) (by omega) ha.1) rfl rfl ?_
  repeat (refine Run.go rfl ?_)
  refine Run.cond rfl (fun h => ?_) (fun hsa => ?_)
  · repeat (refine Run.go rfl ?_)
    exact Run.ret hg rfl rfl
  have hs1 : 0 ≤ szB a 1048576 ∧ szB a 1048576 ≤ 1048576 := by
    have : ¬ szB a 1048576 < 0 := by simpa using hsa
    refine ⟨by omega, ?_⟩
    unfold szB
    split <;> omega
  repeat (refine Run.go rfl ?_)
  refine Run.cs rfl (szBookS_ct b false (szB a 1048576) (by omega) (by omega) hb.1) rfl rfl ?_
  repeat (refine Run.go rfl ?_)
  refine Run.cond rfl (fun h => ?_) (fun hsb => ?_)
  · repeat (refine Run.go rfl ?_)
    exact Run.ret hg rfl rfl
  repeat (refine Run.go rfl ?_)
  refine Run.cs rfl (toBookS_ct a false ha.1) rfl (rfB _) ?_
  repeat (refine Run.go rfl ?_)
  refine Run.cs rfl (toBookS_ct b false hb.1) rfl (rfB _) ?_
  repeat (refine Run.go rfl ?_)
  refine Run.cs rfl hS (by rw [frzB, frzB]) rfl ?_
  repeat (refine Run.go rfl ?_)
  refine Run.cs rfl (toBookS_ct a false ha.1) rfl (rfB _) ?_
  refine Run.unpack 31 rfl rfl ?_
  repeat (refine Run.go rfl ?_)
  refine Run.cs rfl (toBookS_ct b false hb.1) rfl (rfB _) ?_
  refine Run.unpack 33 rfl rfl ?_
  repeat (refine Run.go rfl ?_)
  refine Run.cs rfl hI (by rw [frzB, frzB, decide_eq_true rfl, decide_eq_true rfl]; rfl) rfl ?_
  repeat (refine Run.go rfl ?_)
  refine Run.cs rfl (eqMove_ct f t) rfl rfl ?_
  repeat (refine Run.go rfl ?_)
  refine Run.bool 47 rfl (fun h => by simp at h) (fun h => ?_)
  repeat (refine Run.go rfl ?_)
  refine Run.cond rfl (fun h => by simp at h) (fun h => ?_)
  repeat (refine Run.go rfl ?_)
  refine Run.cs rfl (toBookS_ct a false ha.1) rfl (rfB _) ?_
  repeat (refine Run.go rfl ?_)
  refine Run.cs rfl (eqBookS_ct a a true true ha.1) (by rw [frzB, decide_eq_true rfl]; rfl) rfl ?_
  repeat (refine Run.go rfl ?_)
  refine Run.cond rfl (fun h => by simp at h) (fun h => ?_)
  repeat (refine Run.go rfl ?_)
  refine Run.cs rfl (toBookS_ct b false hb.1) rfl (rfB _) ?_
  repeat (refine Run.go rfl ?_)
  refine Run.cs rfl (eqBookS_ct b b true true hb.1) (by rw [frzB, decide_eq_true rfl]; rfl) rfl ?_
  repeat (refine Run.go rfl ?_)
  refine Run.cond rfl (fun h => by simp at h) (fun h => ?_)
  repeat (refine Run.go rfl ?_)
  exact Run.ret hg rfl rfl
end Go.Proofs.Ytahdgoddpkmhbaa
