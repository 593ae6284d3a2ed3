/- Contracts of the program's functions, and what follows from them. -/
import Derived.Test.YtgbiboepnibibaaMG
import Derived.Test.YtgbiboepnibibaaARd
set_option linter.unusedVariables false
set_option maxRecDepth 100000
namespace Go.Proofs.Ytgbiboepnibibaa
open Go Go.Av

noncomputable def X5 : Fx := ⟨Try.prog, tys, 5, Try.f5, [0, 1]⟩
theorem X5_ok : X5.Ok := ⟨Try.func5, tys_ok⟩
theorem lawFirstRefused_ct (c : Dk) (l : List Ac) (hc : dkOk c) (hr : dkRng c) (hla : acsOk l) : Ct Try.prog 5 [dkR false false c, .ro 3 false (l.map acA)] (bo true) [] := by
  obtain ⟨hl, ha⟩ := hla
  have hS := specFirstRefused_ct c true true true l hc hr ha
  have hI := implFirstRefused_ct c true true true l hc hr ha
  generalize frR c l = R at hS hI
  refine Ct.intro X5 X5_ok rfl (by kernel_rfl) rfl rfl fun g hg => ?_
  repeat (refine Run.go rfl ?_)
  refine Run.cs rfl (szDesk_ct c false false 1048576 (by omega) (by omega) hc.1 hc.2) rfl rfl ?_
  repeat (refine Run.go rfl ?_)
  refine Run.cond rfl (fun h => ?_) (fun hsz => ?_)
  · repeat (refine Run.go rfl ?_)
    exact Run.ret hg rfl rfl
  have hs1 : 0 ≤ szD c 1048576 := by
    have : ¬ szD c 1048576 < 0 := by simpa using hsz
    omega
  have hs2 : szD c 1048576 ≤ 1048576 := szD_bound (by omega) (by omega)
  repeat (refine Run.go rfl ?_)
  refine Run.cs rfl (szActS_ct l false (szD c 1048576) hs1 hs2 hl) rfl rfl ?_
  repeat (refine Run.go rfl ?_)
  refine Run.cond rfl (fun h => ?_) (fun hsb => ?_)
  · repeat (refine Run.go rfl ?_)
    exact Run.ret hg rfl rfl
  repeat (refine Run.go rfl ?_)
  refine Run.cs rfl (toDesk_ct c false false hc.1 hc.2) rfl (dkO_rf _) ?_
  repeat (refine Run.go rfl ?_)
  refine Run.cs rfl (toActS_ct l false hl) rfl (rfA _) ?_
  refine Run.cs rfl hS (by rw [frzL_map cpO_frz, frzA]; rfl) rfl ?_
  repeat (refine Run.go rfl ?_)
  refine Run.cs rfl (toDesk_ct c false false hc.1 hc.2) rfl (dkO_rf _) ?_
  refine Run.unagg 34 1 (34, 1) rfl rfl rfl ?_
  repeat (refine Run.go rfl ?_)
  refine Run.cs rfl (toActS_ct l false hl) rfl (rfA _) ?_
  refine Run.unpack 36 rfl rfl ?_
  repeat (refine Run.go rfl ?_)
  refine Run.cs rfl hI (by rw [frzL_map cpO_frz, frzA, decide_eq_true rfl, decide_eq_true rfl]; rfl) rfl ?_
  repeat (refine Run.go rfl ?_)
  refine Run.bool 47 rfl (fun h => by simp at h) (fun h => ?_)
  repeat (refine Run.go rfl ?_)
  refine Run.bool 52 rfl (fun h => by simp at h) (fun h => ?_)
  repeat (refine Run.go rfl ?_)
  refine Run.cond rfl (fun h => by simp at h) (fun h => ?_)
  repeat (refine Run.go rfl ?_)
  refine Run.drawn [[0, 1, 2, 3, 4], [1, 0, 2, 3, 4], [1, 2, 0, 3, 4]] ⟨[(1, .ro 3 false (l.map acA)), (10, .vec (36, 0) 0 (l.map acA).length), (61, bo (!decide (c = c)))], [((36, 0), .vec 3 true (l.map acA))]⟩ (by decide +kernel) (by kernel_rfl) ?_ fun _ hN => ⟨?_, ?_, ?_, trivial⟩
  rotate_left
  iterate 3
    · repeat (refine Run.go rfl ?_)
      refine Run.cs rfl (toDesk_ct c false false hc.1 hc.2) rfl (dkO_rf _) ?_
      repeat (refine Run.go rfl ?_)
      refine Run.cs rfl (eqDesk_ct c c true true true true hc.1 hc.2) (by rw [frzL_map cpO_frz, decide_eq_true rfl]; rfl) rfl ?_
      repeat (refine Run.go rfl ?_)
      exact Run.of hN ⟨rfl, rfl, rfl, trivial⟩ ⟨rfl, trivial⟩
  refine Run.cond rfl (fun h => by simp at h) (fun h => ?_)
  repeat (refine Run.go rfl ?_)
  refine Run.cs rfl (toActS_ct l false hl) rfl (rfA _) ?_
  repeat (refine Run.go rfl ?_)
  refine Run.cs rfl (eqActS_ct l l true true hl) (by rw [frzA, decide_eq_true rfl]; rfl) rfl ?_
  repeat (refine Run.go rfl ?_)
  refine Run.cond rfl (fun h => by simp at h) (fun h => ?_)
  repeat (refine Run.go rfl ?_)
  exact Run.ret hg rfl rfl
end Go.Proofs.Ytgbiboepnibibaa
