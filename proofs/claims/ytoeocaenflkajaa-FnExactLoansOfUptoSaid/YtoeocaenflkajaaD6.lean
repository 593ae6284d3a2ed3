/- Contracts of the program's functions, and what follows from them. -/
import Derived.Test.YtoeocaenflkajaaD5
set_option linter.unusedVariables false
namespace Go.Proofs.Ytoeocaenflkajaa
open Go Go.Av

def inr (a b c : Int) : Bool := decide (b ≤ a) && decide (a ≤ c)

noncomputable def X48 : Fx := ⟨Try.prog, tys, 48, Try.f48, [0, 1, 2]⟩
theorem X48_ok : X48.Ok := ⟨Try.func48, tys_ok⟩
theorem l00In_ct (a b c : Int) : Ct Try.prog 48 [i64 a, i64 b, i64 c] (bo (inr a b c)) [] := by
  refine Ct.intro X48 X48_ok rfl rfl rfl rfl fun g hg => ?_
  repeat (refine Run.step rfl ?_)
  refine Run.bool 10 rfl (fun h => ?_) (fun h => ?_)
  · repeat (refine Run.step rfl ?_)
    refine Run.ret hg rfl ?_
    show bo _ = _
    simp_all [inr]
  · repeat (refine Run.step rfl ?_)
    refine Run.ret hg rfl ?_
    show bo _ = _
    simp_all [inr] <;> omega

noncomputable def X49 : Fx := ⟨Try.prog, tys, 49, Try.f49, [0, 1, 2]⟩
theorem X49_ok : X49.Ok := ⟨Try.func49, tys_ok⟩
theorem within64_ct (a b c : Int) : Ct Try.prog 49 [i64 a, i64 b, i64 c] (bo (inr a b c)) [] := by
  refine Ct.intro X49 X49_ok rfl rfl rfl rfl fun g hg => ?_
  repeat (refine Run.step rfl ?_)
  refine Run.bool 10 rfl (fun h => ?_) (fun h => ?_)
  · repeat (refine Run.step rfl ?_)
    refine Run.ret hg rfl ?_
    show bo _ = _
    simp_all [inr]
  · repeat (refine Run.step rfl ?_)
    refine Run.ret hg rfl ?_
    show bo _ = _
    simp_all [inr] <;> omega

def cp0 : Cp := ⟨0, 0, 0, 0, []⟩
def empD (n : Int) : Dk := if inr n 0 60 then ⟨0, List.replicate n.toNat cp0⟩ else ⟨0, []⟩
def empC (n : Int) : Int := if inr n 0 60 then 0 else 2

theorem conv0 (n : Nat) (w : World) (L : Nat → Prop) (m : Nat) (x y : AV) (hx : (List.replicate n cpZ)[m]? = some x) (hy : ((List.replicate n cp0).map cpO)[m]? = some y) :
    ∀ (j : Nat) (p q : AV) (v : Value) (H : List Nat), x.cells[j]? = some p → y.cells[j]? = some q → Rel w L noEnv p v H → Rel w L noEnv q v H := by
  have ex : x = cpZ := (List.eq_of_mem_replicate (List.mem_of_getElem? hx))
  have ey : y = cpO cp0 := by
    rw [List.map_replicate] at hy
    exact (List.eq_of_mem_replicate (List.mem_of_getElem? hy))
  subst ex; subst ey
  intro j p q v H hp hq hr
  match j with
  | 0 => cases hp; cases hq; exact hr
  | 1 => cases hp; cases hq; exact hr
  | 2 => cases hp; cases hq; exact hr
  | 3 => cases hp; cases hq; exact hr
  | 4 => cases hp; cases hq; cases hr; exact .ownNil _ _ _ _
  | j + 5 => simp [cpZ, AV.cells] at hp

noncomputable def X15 : Fx := ⟨Try.prog, tys, 15, Try.f15, [0]⟩
theorem X15_ok : X15.Ok := ⟨Try.func15, tys_ok⟩
theorem specEmptyDesk_ct (n : Int) : Ct Try.prog 15 [i64 n] (.tup [dkO (empD n), i64 (empC n)]) [] := by
  refine Ct.intro X15 X15_ok rfl rfl rfl rfl fun g hg => ?_
  repeat (refine Run.go rfl ?_)
  refine Run.cs rfl (l00In_ct n 0 60) rfl rfl ?_
  repeat (refine Run.go rfl ?_)
  refine Run.cond rfl (fun h => ?_) (fun h => ?_)
  · repeat (refine Run.go rfl ?_)
    refine Run.val rfl rfl rfl (ValOk.build rfl rfl rfl rfl rfl) rfl ?_
    repeat (refine Run.go rfl ?_)
    refine Run.nilBox (2, 0) 1 5 true rfl rfl ?_
    have h : inr n 0 60 = false := by simpa using h
    have e : empD n = ⟨0, []⟩ := by simp [empD, h]
    have e2 : empC n = 2 := by simp [empC, h]
    rw [e, e2] at hg
    exact Run.ret (r := .tup [dkO ⟨0, []⟩, i64 2]) hg (by kernel_rfl) rfl
  · repeat (refine Run.go rfl ?_)
    have h : 0 ≤ n ∧ n ≤ 60 := by simpa [inr] using h
    obtain ⟨m, rfl⟩ : ∃ m : Nat, n = m := ⟨n.toNat, by omega⟩
    refine Run.make rfl rfl rfl rfl rfl rfl rfl rfl rfl rfl (by omega) (by show _ * 32 ≤ _; omega) rfl ?_
    refine Run.convOwn 9 ((List.replicate m cp0).map cpO) rfl (by simp) (by decide) (by intro y hy; obtain ⟨c, _, rfl⟩ := List.mem_map.1 hy; rfl) (conv0 m) ?_
    refine Run.unpack 9 rfl rfl ?_
    refine Run.val rfl rfl rfl (ValOk.build rfl rfl rfl rfl rfl) rfl ?_
    repeat (refine Run.go rfl ?_)
    refine Run.packBox (2, 0) 1 rfl rfl rfl rfl ?_
    have e : empD m = ⟨0, List.replicate m cp0⟩ := by simp [empD, inr, h]
    have e2 : empC m = 0 := by simp [empC, inr, h]
    rw [e, e2] at hg
    exact Run.ret (r := .tup [dkO ⟨0, List.replicate m cp0⟩, i64 0]) hg (by kernel_rfl) rfl
noncomputable def X16 : Fx := ⟨Try.prog, tys, 16, Try.f16, [0]⟩
theorem X16_ok : X16.Ok := ⟨Try.func16, tys_ok⟩
theorem implEmptyDesk_ct (n : Int) : Ct Try.prog 16 [i64 n] (.tup [dkO (empD n), i64 (empC n)]) [] := by
  refine Ct.intro X16 X16_ok rfl rfl rfl rfl fun g hg => ?_
  repeat (refine Run.go rfl ?_)
  refine Run.cs rfl (within64_ct n 0 60) rfl rfl ?_
  repeat (refine Run.go rfl ?_)
  refine Run.cond rfl (fun h => ?_) (fun h => ?_)
  · repeat (refine Run.go rfl ?_)
    refine Run.val rfl rfl rfl (ValOk.build rfl rfl rfl rfl rfl) rfl ?_
    repeat (refine Run.go rfl ?_)
    refine Run.nilBox (2, 0) 1 5 true rfl rfl ?_
    have h : inr n 0 60 = false := by simpa using h
    have e : empD n = ⟨0, []⟩ := by simp [empD, h]
    have e2 : empC n = 2 := by simp [empC, h]
    rw [e, e2] at hg
    exact Run.ret (r := .tup [dkO ⟨0, []⟩, i64 2]) hg (by kernel_rfl) rfl
  · repeat (refine Run.go rfl ?_)
    have h : 0 ≤ n ∧ n ≤ 60 := by simpa [inr] using h
    obtain ⟨m, rfl⟩ : ∃ m : Nat, n = m := ⟨n.toNat, by omega⟩
    refine Run.make rfl rfl rfl rfl rfl rfl rfl rfl rfl rfl (by omega) (by show _ * 32 ≤ _; omega) rfl ?_
    refine Run.convOwn 9 ((List.replicate m cp0).map cpO) rfl (by simp) (by decide) (by intro y hy; obtain ⟨c, _, rfl⟩ := List.mem_map.1 hy; rfl) (conv0 m) ?_
    refine Run.unpack 9 rfl rfl ?_
    refine Run.val rfl rfl rfl (ValOk.build rfl rfl rfl rfl rfl) rfl ?_
    repeat (refine Run.go rfl ?_)
    refine Run.packBox (2, 0) 1 rfl rfl rfl rfl ?_
    have e : empD m = ⟨0, List.replicate m cp0⟩ := by simp [empD, inr, h]
    have e2 : empC m = 0 := by simp [empC, inr, h]
    rw [e, e2] at hg
    exact Run.ret (r := .tup [dkO ⟨0, List.replicate m cp0⟩, i64 0]) hg (by kernel_rfl) rfl

theorem cnt_rep (n : Nat) : cnt (List.replicate n cp0) = n * 4 := by
  simp [cnt, cp0]

theorem emp_len (n : Int) : (empD n).cs.length ≤ 60 ∧ (∀ c ∈ (empD n).cs, c.q.length ≤ 1048576) ∧ cnt (empD n).cs ≤ 240 := by
  unfold empD
  split
  · rename_i h
    simp [inr] at h
    refine ⟨by simp; omega, fun c hc => ?_, by rw [cnt_rep]; omega⟩
    rw [List.eq_of_mem_replicate hc]
    simp [cp0]
  · simp [cnt]

noncomputable def X3 : Fx := ⟨Try.prog, tys, 3, Try.f3, [0]⟩
theorem X3_ok : X3.Ok := ⟨Try.func3, tys_ok⟩
theorem lawEmptyDesk_ct (n : Int) : Ct Try.prog 3 [i64 n] (bo true) [] := by
  obtain ⟨e1, e2, e3⟩ := emp_len n
  refine Ct.intro X3 X3_ok rfl rfl rfl rfl fun g hg => ?_
  repeat (refine Run.go rfl ?_)
  refine Run.cs rfl (specEmptyDesk_ct n) rfl (by simp only [AV.rf, AV.rfL, dkO_rf]; rfl) ?_
  repeat (refine Run.go rfl ?_)
  refine Run.unagg 14 1 (14, 1) rfl rfl rfl ?_
  repeat (refine Run.go rfl ?_)
  refine Run.cs rfl (implEmptyDesk_ct n) rfl (by simp only [AV.rf, AV.rfL, dkO_rf]; rfl) ?_
  repeat (refine Run.go rfl ?_)
  refine Run.unagg 19 1 (19, 1) rfl rfl rfl ?_
  repeat (refine Run.go rfl ?_)
  have hb : (empD n).cs.length ≤ 1048576 := by omega
  have hc : cnt (empD n).cs ≤ 1099511627776 := by omega
  refine Run.cs rfl (eqDesk_ct (empD n) (empD n) true true true true hb e2) (by rw [frzL_map cpO_frz, decide_eq_true rfl]; rfl) rfl ?_
  repeat (refine Run.go rfl ?_)
  refine Run.bool 25 rfl (fun h => by simp at h) (fun h => ?_)
  repeat (refine Run.go rfl ?_)
  refine Run.cond rfl (fun h => by simp at h) (fun h => ?_)
  repeat (refine Run.go rfl ?_)
  refine Run.callo (19, 1) (some 1) rfl rfl rfl rfl rfl rfl rfl rfl rfl rfl (markDesk_ct (empD n) 1 hb e2 hc (by omega)) rfl (rfL_map cpO_rf _) rfl ?_
  repeat (refine Run.go rfl ?_)
  refine Run.cs rfl (heldDesk_ct (empD n) 1 true true hb e2 hc (by omega)) (by rw [frzL_map cpO_frz, decide_eq_true (by simp [mkD, mkCs_len])]; rfl) rfl ?_
  repeat (refine Run.go rfl ?_)
  refine Run.cond rfl (fun h => by simp at h; omega) (fun h => ?_)
  repeat (refine Run.go rfl ?_)
  refine Run.cond rfl (fun h => by simp at h) (fun h => ?_)
  repeat (refine Run.go rfl ?_)
  refine Run.cs rfl (implEmptyDesk_ct n) rfl (by simp only [AV.rf, AV.rfL, dkO_rf]; rfl) ?_
  repeat (refine Run.go rfl ?_)
  refine Run.unagg 44 1 (44, 1) rfl rfl rfl ?_
  repeat (refine Run.go rfl ?_)
  refine Run.cs rfl (eqDesk_ct (empD n) (empD n) true true true true hb e2) (by rw [frzL_map cpO_frz, decide_eq_true rfl]; rfl) rfl ?_
  repeat (refine Run.go rfl ?_)
  refine Run.bool 50 rfl (fun h => by simp at h) (fun h => ?_)
  repeat (refine Run.go rfl ?_)
  refine Run.cond rfl (fun h => by simp at h) (fun h => ?_)
  repeat (refine Run.go rfl ?_)
  refine Run.cs rfl (heldDesk_ct (empD n) 1 true true hb e2 hc (by omega)) (by rw [frzL_map cpO_frz, decide_eq_true (by simp [mkD, mkCs_len])]; rfl) rfl ?_
  repeat (refine Run.go rfl ?_)
  refine Run.cond rfl (fun h => by simp at h; omega) (fun h => ?_)
  repeat (refine Run.go rfl ?_)
  refine Run.cond rfl (fun h => by simp at h) (fun h => ?_)
  repeat (refine Run.go rfl ?_)
  exact Run.ret hg rfl rfl
end Go.Proofs.Ytoeocaenflkajaa
