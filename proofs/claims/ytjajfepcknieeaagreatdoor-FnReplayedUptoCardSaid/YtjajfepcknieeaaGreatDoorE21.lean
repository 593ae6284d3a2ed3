/- Contracts of the program's functions, and what follows from them. -/
import Derived.Test.YtjajfepcknieeaaGreatDoorE20
set_option linter.unusedVariables false
set_option maxRecDepth 100000
set_option linter.unusedSimpArgs false
namespace Go.Proofs.YtjajfepcknieeaaGreatDoor
open Go Go.Av

def rdA (s : List UInt8) : Ac × Int := if (raS s).2 then ((raS s).1, 0) else (ac0, 5)

noncomputable def X17 : Fx := ⟨Tryz.prog, tys, 17, Tryz.f17, [0]⟩
theorem X17_ok : X17.Ok := ⟨Tryz.func17, tys_ok⟩
theorem implReadAct_ct (s : List UInt8) (hlen : s.length ≤ 1048576) : CtA ambA Tryz.prog 17 [str s] (.tup [acA (rdA s).1, i64 (rdA s).2]) [] := by
  have hr := readAct_ct s hlen
  obtain ⟨h1, h2⟩ := raS_raA s
  rw [h1] at hr
  have hR : rdA s = if (raS s).2 then ((raS s).1, 0) else (ac0, 5) := rfl
  generalize raS s = R at hr hR h1 h2
  obtain ⟨a, ok⟩ := R
  simp only at hr hR h1 h2
  refine CtA.intro ambA X17 X17_ok rfl (by kernel_rfl) rfl rfl fun g hA hg => ?_
  repeat (refine Run.go rfl ?_)
  refine Run.csA rfl (hr.at hA) rfl rfl ?_
  repeat (refine Run.go rfl ?_)
  refine Run.cond rfl (fun h => ?_) (fun h => ?_)
  · have h : ok = false := by simpa using h
    rw [h] at hR
    repeat (refine Run.go rfl ?_)
    refine Run.val rfl rfl rfl (ValOk.build rfl rfl rfl rfl rfl) rfl ?_
    repeat (refine Run.go rfl ?_)
    rw [hR] at hg
    exact Run.ret (r := .tup [acA ac0, i64 5]) hg (by kernel_rfl) rfl
  · have h : ok = true := by simpa using h
    rw [h] at hR
    rw [h2 h]
    repeat (refine Run.go rfl ?_)
    rw [hR] at hg
    exact Run.ret (r := .tup [acA a, i64 0]) hg (by kernel_rfl) rfl

end Go.Proofs.YtjajfepcknieeaaGreatDoor
