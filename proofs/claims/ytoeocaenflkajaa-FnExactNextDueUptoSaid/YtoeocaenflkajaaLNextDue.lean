/- Contracts of the program's functions, and what follows from them. -/
import Derived.Test.YtoeocaenflkajaaD20
set_option linter.unusedVariables false
namespace Go.Proofs.Ytoeocaenflkajaa
open Go Go.Av

noncomputable def X10 : Fx := ⟨Try.prog, tys, 10, Try.f10, [0]⟩
theorem X10_ok : X10.Ok := ⟨Try.func10, tys_ok⟩
theorem lawNextDue_ct (c : Dk)  (hc : dkOk c) (hr : dkRng c) : Ct Try.prog 10 [dkR false false c] (bo true) [] := by
  refine Ct.intro X10 X10_ok rfl rfl rfl rfl fun g hg => ?_
  repeat (refine Run.go rfl ?_)
  refine Run.cs rfl (szDesk_ct c false false 1048576 (by omega) (by omega) hc.1 hc.2) rfl rfl ?_
  repeat (refine Run.go rfl ?_)
  refine Run.cond rfl (fun h => ?_) (fun h => ?_)
  · repeat (refine Run.go rfl ?_)
    exact Run.ret hg rfl rfl
  repeat (refine Run.go rfl ?_)
  refine Run.cs rfl (toDesk_ct c false false hc.1 hc.2) rfl (dkO_rf _) ?_
  repeat (refine Run.go rfl ?_)
  refine Run.cs rfl (specNextDue_ct c true true  hc hr) (by rw [frzL_map cpO_frz]; rfl) rfl ?_
  repeat (refine Run.go rfl ?_)
  refine Run.cs rfl (toDesk_ct c false false hc.1 hc.2) rfl (dkO_rf _) ?_
  refine Run.unagg 24 1 (24, 1) rfl rfl rfl ?_
  repeat (refine Run.go rfl ?_)
  refine Run.cs rfl (implNextDue_ct c true true  hc hr) (by rw [frzL_map cpO_frz, decide_eq_true rfl]; rfl) rfl ?_
  repeat (refine Run.go rfl ?_)
  refine Run.bool 34 rfl (fun h => by simp at h) (fun h => ?_)
  repeat (refine Run.go rfl ?_)
  refine Run.bool 39 rfl (fun h => by simp at h) (fun h => ?_)
  repeat (refine Run.go rfl ?_)
  refine Run.cond rfl (fun h => by simp at h) (fun h => ?_)
  repeat (refine Run.go rfl ?_)
  refine Run.drawn [[0, 1, 2, 3, 4], [1, 0, 2, 3, 4], [1, 2, 0, 3, 4]] ⟨[(48, bo (!decide (c = c)))], []⟩ (by decide +kernel) (by kernel_rfl) ?_ fun _ hN => ⟨?_, ?_, ?_, trivial⟩
  rotate_left
  iterate 3
    · repeat (refine Run.go rfl ?_)
      refine Run.cs rfl (toDesk_ct c false false hc.1 hc.2) rfl (dkO_rf _) ?_
      repeat (refine Run.go rfl ?_)
      refine Run.cs rfl (eqDesk_ct c c true true true true hc.1 hc.2) (by rw [frzL_map cpO_frz, decide_eq_true rfl]; rfl) rfl ?_
      repeat (refine Run.go rfl ?_)
      exact Run.of hN ⟨rfl, trivial⟩ trivial
  refine Run.cond rfl (fun h => by simp at h) (fun h => ?_)
  repeat (refine Run.go rfl ?_)
  exact Run.ret hg rfl rfl
end Go.Proofs.Ytoeocaenflkajaa
