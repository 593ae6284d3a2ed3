/- Contracts of the program's functions, and what follows from them. -/
import Derived.Test.YtilaphojceabkaaDoorE20
set_option linter.unusedVariables false
set_option maxRecDepth 100000
set_option linter.unusedSimpArgs false
namespace Go.Proofs.YtilaphojceabkaaDoor
open Go Go.Av

def rdA (s : List UInt8) : Ac × Int := if (raS s).2 then ((raS s).1, 0) else (ac0, 5)

noncomputable def X33 : Fx := ⟨Tryd.prog, tys, 33, Tryd.f33, [0]⟩
theorem X33_ok : X33.Ok := ⟨Tryd.func33, tys_ok⟩
theorem specReadAct_ct (s : List UInt8) (hlen : s.length ≤ 1048576) : Ct Tryd.prog 33 [str s] (.tup [acA (rdA s).1, i64 (rdA s).2]) [] := by
  have hr := l06Read_ct s hlen
  have hR : rdA s = if (raS s).2 then ((raS s).1, 0) else (ac0, 5) := rfl
  generalize raS s = R at hr hR
  obtain ⟨a, ok⟩ := R
  simp only at hr hR
  refine Ct.intro X33 X33_ok rfl (by kernel_rfl) rfl rfl fun g hg => ?_
  repeat (refine Run.go rfl ?_)
  refine Run.cs rfl hr rfl rfl ?_
  repeat (refine Run.go rfl ?_)
  refine Run.cond rfl (fun h => ?_) (fun h => ?_)
  · have h : ok = false := by simpa using h
    rw [h] at hR
    repeat (refine Run.go rfl ?_)
    refine Run.val rfl rfl rfl (ValOk.build rfl rfl rfl rfl rfl) rfl ?_
    repeat (refine Run.go rfl ?_)
    rw [hR] at hg
    exact Run.ret (r := .tup [acA ac0, i64 5]) hg (by kernel_rfl) rfl
  · have h : ok = true := by simpa using h
    rw [h] at hR
    repeat (refine Run.go rfl ?_)
    rw [hR] at hg
    exact Run.ret (r := .tup [acA a, i64 0]) hg (by kernel_rfl) rfl

noncomputable def X34 : Fx := ⟨Tryd.prog, tys, 34, Tryd.f34, [0]⟩
theorem X34_ok : X34.Ok := ⟨Tryd.func34, tys_ok⟩
theorem implReadAct_ct (s : List UInt8) (hlen : s.length ≤ 1048576) : CtA ambA Tryd.prog 34 [str s] (.tup [acA (rdA s).1, i64 (rdA s).2]) [] := by
  have hr := readAct_ct s hlen
  obtain ⟨h1, h2⟩ := raS_raA s
  rw [h1] at hr
  have hR : rdA s = if (raS s).2 then ((raS s).1, 0) else (ac0, 5) := rfl
  generalize raS s = R at hr hR h1 h2
  obtain ⟨a, ok⟩ := R
  simp only at hr hR h1 h2
  refine CtA.intro ambA X34 X34_ok rfl (by kernel_rfl) rfl rfl fun g hA hg => ?_
  repeat (refine Run.go rfl ?_)
  refine Run.csA rfl (hr.at hA) rfl rfl ?_
  repeat (refine Run.go rfl ?_)
  refine Run.cond rfl (fun h => ?_) (fun h => ?_)
  · have h : ok = false := by simpa using h
    rw [h] at hR
    repeat (refine Run.go rfl ?_)
    refine Run.val rfl rfl rfl (ValOk.build rfl rfl rfl rfl rfl) rfl ?_
    repeat (refine Run.go rfl ?_)
    rw [hR] at hg
    exact Run.ret (r := .tup [acA ac0, i64 5]) hg (by kernel_rfl) rfl
  · have h : ok = true := by simpa using h
    rw [h] at hR
    rw [h2 h]
    repeat (refine Run.go rfl ?_)
    rw [hR] at hg
    exact Run.ret (r := .tup [acA a, i64 0]) hg (by kernel_rfl) rfl

noncomputable def X9 : Fx := ⟨Tryd.prog, tys, 9, Tryd.f9, [0]⟩
theorem X9_ok : X9.Ok := ⟨Tryd.func9, tys_ok⟩
theorem lawReadAct_ct (s : List UInt8) : CtA ambA Tryd.prog 9 [str s] (bo true) [] := by
  refine CtA.intro ambA X9 X9_ok rfl (by kernel_rfl) rfl rfl fun g hA hg => ?_
  repeat (refine Run.go rfl ?_)
  refine Run.cond rfl (fun h => ?_) (fun h => ?_)
  · repeat (refine Run.go rfl ?_)
    exact Run.ret hg rfl rfl
  have hlen : s.length ≤ 1048576 := by
    have h2 : decide ((1048576 : Int) < ((⟨s.toArray⟩ : ByteArray).size : Nat)) = false := h
    rw [bsz] at h2
    simp at h2
    omega
  have hS := specReadAct_ct s hlen
  have hI := implReadAct_ct s hlen
  generalize rdA s = R at hS hI
  obtain ⟨a, c⟩ := R
  simp only at hS hI
  repeat (refine Run.go rfl ?_)
  refine Run.cs rfl hS rfl rfl ?_
  repeat (refine Run.go rfl ?_)
  refine Run.csA rfl (hI.at hA) rfl rfl ?_
  repeat (refine Run.go rfl ?_)
  refine Run.cs rfl (eqAct_ct a a) (by rfl) rfl ?_
  rw [decide_eq_true rfl]
  repeat (refine Run.go rfl ?_)
  refine Run.cond rfl (fun h => by simp at h) (fun h => ?_)
  repeat (refine Run.go rfl ?_)
  exact Run.ret hg rfl rfl
end Go.Proofs.YtilaphojceabkaaDoor
