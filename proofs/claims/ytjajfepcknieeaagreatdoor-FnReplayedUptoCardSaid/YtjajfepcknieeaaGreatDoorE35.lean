/- Contracts of the program's functions, and what follows from them. -/
import Derived.Test.YtjajfepcknieeaaGreatDoorE34
import Derived.Test.YtjajfepcknieeaaGreatDoorMG
set_option linter.unusedVariables false
set_option maxRecDepth 100000
set_option linter.unusedSimpArgs false
namespace Go.Proofs.YtjajfepcknieeaaGreatDoor
open Go Go.Av

/-! Acts out of a text of lines: the reference, the program, the law. -/

/-- What the reference reads. -/
def rsA (s : List UInt8) : List Ac × Int := if (rdOk s 200 && (lines s).all fun l => (raS l).2) = true then ((lines s).map fun l => (raS l).1, 0) else ([], 5)

theorem rsA_eq (s : List UInt8) : rsA s = ((rdLA s).1, if (rdLA s).2 then 0 else 5) := by
  have hok : (lines s).all okA = (lines s).all fun l => (raS l).2 := by
    congr 1; funext l; exact (raS_raA l).1
  rw [rsA, rdLA, ← hok]
  split
  · rename_i h
    simp only [if_true, Prod.mk.injEq, and_true]
    refine List.map_congr_left fun l hl => ?_
    rw [Bool.and_eq_true, List.all_eq_true] at h
    have := h.2 l hl
    rw [okA, (raS_raA l).1] at this
    exact ((raS_raA l).2 this).symm
  · simp

noncomputable def X8 : Fx := ⟨Tryz.prog, tys, 8, Tryz.f8, [0]⟩
theorem X8_ok : X8.Ok := ⟨Tryz.func8, tys_ok⟩
theorem implReadActs_ct (s : List UInt8) (hlen : s.length ≤ 1048576) : CtA ambA Tryz.prog 8 [str s] (.tup [.own 3 false ((rsA s).1.map acA), i64 (rsA s).2]) [] := by
  have hr := readLinesAct_ct s hlen
  have hR := rsA_eq s
  have he : (rdLA s).2 = false → (rdLA s).1 = [] := by
    rw [rdLA]; split
    · intro h; simp at h
    · intro _; rfl
  generalize rdLA s = R at hr hR he
  obtain ⟨l, ok⟩ := R
  simp only at hr hR he
  rw [hR]
  refine CtA.intro ambA X8 X8_ok rfl (by kernel_rfl) rfl rfl fun g hA hg => ?_
  repeat (refine Run.go rfl ?_)
  refine Run.csA rfl (hr.at hA) rfl (by simp only [AV.rf, AV.rfL, rfA]; rfl) ?_
  repeat (refine Run.go rfl ?_)
  refine Run.cond rfl (fun h => ?_) (fun h => ?_)
  · have h : ok = false := by simpa using h
    subst h
    rw [he rfl] at hg
    repeat (refine Run.go rfl ?_)
    refine Run.nilSlot 2 3 false rfl ?_
    exact Run.ret hg rfl rfl
  · have h : ok = true := by simpa using h
    subst h
    repeat (refine Run.go rfl ?_)
    refine Run.pack 2 rfl rfl rfl ?_
    exact Run.ret hg rfl rfl

end Go.Proofs.YtjajfepcknieeaaGreatDoor
