/- Contracts of the program's functions, and what follows from them. -/
import Derived.Test.YtoeocaenflkajaaD17
set_option linter.unusedVariables false
namespace Go.Proofs.Ytoeocaenflkajaa
open Go Go.Av

theorem cntRes_cases (d : Dk) : ∃ a b c : Nat, ∃ k : Int, cntRes d = .tup [c3 a b c, i64 k] := by
  unfold cntRes
  split
  · exact ⟨_, _, _, _, rfl⟩
  · exact ⟨_, _, _, _, rfl⟩

noncomputable def X6 : Fx := ⟨Try.prog, tys, 6, Try.f6, [0]⟩
theorem X6_ok : X6.Ok := ⟨Try.func6, tys_ok⟩
theorem lawCountStates_ct (c : Dk) (hc : dkOk c) (hr : dkRng c) : Ct Try.prog 6 [dkR false false c] (bo true) [] := by
  obtain ⟨p, q, r, m, hk⟩ := cntRes_cases c
  have hS := specCountStates_ct c true true hc hr
  have hI := implCountStates_ct c true true hc hr
  rw [hk] at hS hI
  refine Ct.intro X6 X6_ok rfl rfl rfl rfl fun g hg => ?_
  repeat (refine Run.go rfl ?_)
  refine Run.cs rfl (szDesk_ct c false false 1048576 (by omega) (by omega) hc.1 hc.2) rfl rfl ?_
  repeat (refine Run.go rfl ?_)
  refine Run.cond rfl (fun h => ?_) (fun h => ?_)
  · repeat (refine Run.go rfl ?_)
    exact Run.ret hg rfl rfl
  repeat (refine Run.go rfl ?_)
  refine Run.cs rfl (toDesk_ct c false false hc.1 hc.2) rfl (dkO_rf _) ?_
  repeat (refine Run.go rfl ?_)
  refine Run.cs rfl hS (by rw [frzL_map cpO_frz]; rfl) rfl ?_
  repeat (refine Run.go rfl ?_)
  refine Run.cs rfl (toDesk_ct c false false hc.1 hc.2) rfl (dkO_rf _) ?_
  refine Run.unagg 21 1 (21, 1) rfl rfl rfl ?_
  repeat (refine Run.go rfl ?_)
  refine Run.cs rfl hI (by rw [frzL_map cpO_frz, decide_eq_true rfl]; rfl) rfl ?_
  repeat (refine Run.go rfl ?_)
  refine Run.cs rfl (eqInt64A3_ct p q r) rfl rfl ?_
  repeat (refine Run.go rfl ?_)
  refine Run.bool 31 rfl (fun h => by simp at h) (fun h => ?_)
  repeat (refine Run.go rfl ?_)
  refine Run.cond rfl (fun h => by simp at h) (fun h => ?_)
  repeat (refine Run.go rfl ?_)
  refine Run.drawn [[0, 1, 2, 3, 4], [1, 0, 2, 3, 4], [1, 2, 0, 3, 4]] ⟨[(40, bo (!decide (c = c)))], []⟩ (by decide +kernel) (by kernel_rfl) ?_ fun _ hN => ⟨?_, ?_, ?_, trivial⟩
  rotate_left
  iterate 3
    · repeat (refine Run.go rfl ?_)
      refine Run.cs rfl (toDesk_ct c false false hc.1 hc.2) rfl (dkO_rf _) ?_
      repeat (refine Run.go rfl ?_)
      refine Run.cs rfl (eqDesk_ct c c true true true true hc.1 hc.2) (by rw [frzL_map cpO_frz, decide_eq_true rfl]; rfl) rfl ?_
      repeat (refine Run.go rfl ?_)
      exact Run.of hN ⟨rfl, trivial⟩ trivial
  refine Run.cond rfl (fun h => by simp at h) (fun h => ?_)
  repeat (refine Run.go rfl ?_)
  exact Run.ret hg rfl rfl
end Go.Proofs.Ytoeocaenflkajaa
