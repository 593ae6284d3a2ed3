/- Contracts of the program's functions, and what follows from them. -/
import Derived.Test.YtahdgoddpkmhbaaD5
set_option linter.unusedVariables false
namespace Go.Proofs.Ytahdgoddpkmhbaa
open Go Go.Av

def inr (a b c : Int) : Bool := decide (b ≤ a) && decide (a ≤ c)

noncomputable def X38 : Fx := ⟨Try.prog, tys, 38, Try.f38, [0, 1, 2]⟩
theorem X38_ok : X38.Ok := ⟨Try.func38, tys_ok⟩
theorem l00In_ct (a b c : Int) : Ct Try.prog 38 [i64 a, i64 b, i64 c] (bo (inr a b c)) [] := by
  refine Ct.intro X38 X38_ok rfl rfl rfl rfl fun g hg => ?_
  repeat (refine Run.step rfl ?_)
  refine Run.bool 10 rfl (fun h => ?_) (fun h => ?_)
  · repeat (refine Run.step rfl ?_)
    refine Run.ret hg rfl ?_
    show bo _ = _
    simp_all [inr]
  · repeat (refine Run.step rfl ?_)
    refine Run.ret hg rfl ?_
    show bo _ = _
    simp_all [inr] <;> omega

noncomputable def X41 : Fx := ⟨Try.prog, tys, 41, Try.f41, [0, 1, 2]⟩
theorem X41_ok : X41.Ok := ⟨Try.func41, tys_ok⟩
theorem within64_ct (a b c : Int) : Ct Try.prog 41 [i64 a, i64 b, i64 c] (bo (inr a b c)) [] := by
  refine Ct.intro X41 X41_ok rfl rfl rfl rfl fun g hg => ?_
  repeat (refine Run.step rfl ?_)
  refine Run.bool 10 rfl (fun h => ?_) (fun h => ?_)
  · repeat (refine Run.step rfl ?_)
    refine Run.ret hg rfl ?_
    show bo _ = _
    simp_all [inr]
  · repeat (refine Run.step rfl ?_)
    refine Run.ret hg rfl ?_
    show bo _ = _
    simp_all [inr] <;> omega

def cp0 : Cp := ⟨0, 0, 0, 0, []⟩
def empD (n : Int) : Dk := if inr n 0 60 then ⟨0, List.replicate n.toNat cp0⟩ else ⟨0, []⟩
def empC (n : Int) : Int := if inr n 0 60 then 0 else 2

theorem conv0 (n : Nat) (w : World) (L : Nat → Prop) (m : Nat) (x y : AV) (hx : (List.replicate n cpZ)[m]? = some x) (hy : ((List.replicate n cp0).map cpO)[m]? = some y) :
    ∀ (j : Nat) (p q : AV) (v : Value) (H : List Nat), x.cells[j]? = some p → y.cells[j]? = some q → Rel w L noEnv p v H → Rel w L noEnv q v H := by
  have ex : x = cpZ := (List.eq_of_mem_replicate (List.mem_of_getElem? hx))
  have ey : y = cpO cp0 := by
    rw [List.map_replicate] at hy
    exact (List.eq_of_mem_replicate (List.mem_of_getElem? hy))
  subst ex; subst ey
  intro j p q v H hp hq hr
  match j with
  | 0 => cases hp; cases hq; exact hr
  | 1 => cases hp; cases hq; exact hr
  | 2 => cases hp; cases hq; exact hr
  | 3 => cases hp; cases hq; exact hr
  | 4 => cases hp; cases hq; cases hr; exact .ownNil _ _ _ _
  | j + 5 => simp [cpZ, AV.cells] at hp

theorem cnt_rep (n : Nat) : cnt (List.replicate n cp0) = n * 4 := by
  simp [cnt, cp0]

theorem emp_len (n : Int) : (empD n).cs.length ≤ 60 ∧ (∀ c ∈ (empD n).cs, c.q.length ≤ 1048576) ∧ cnt (empD n).cs ≤ 240 := by
  unfold empD
  split
  · rename_i h
    simp [inr] at h
    refine ⟨by simp; omega, fun c hc => ?_, by rw [cnt_rep]; omega⟩
    rw [List.eq_of_mem_replicate hc]
    simp [cp0]
  · simp [cnt]

end Go.Proofs.Ytahdgoddpkmhbaa
