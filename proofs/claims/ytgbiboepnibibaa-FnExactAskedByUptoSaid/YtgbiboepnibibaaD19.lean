/- Contracts of the program's functions, and what follows from them. -/
import Derived.Test.YtgbiboepnibibaaD18
set_option linter.unusedVariables false
namespace Go.Proofs.Ytgbiboepnibibaa
open Go Go.Av

/-! Books as told, in a slice of their own. -/

def lsR (r : List Int × Int) : AV := .tup [.own 1 false (r.1.map i64), i64 r.2]
def offShelf (c : Cp) : Bool := decide (c.st ≠ 0)
def dumRes (d : Dk) : List Int × Int := if vD d then (idxs offShelf d.cs, 0) else ([], 1)

noncomputable def X82 : Fx := ⟨Try.prog, tys, 82, Try.f82, [0]⟩
theorem X82_ok : X82.Ok := ⟨Try.func82, tys_ok⟩
theorem dummies1_ct (c : Cp) (ex : Bool) : Ct Try.prog 82 [cpR ex c] (bo (offShelf c)) [] := by
  refine Ct.intro X82 X82_ok rfl rfl rfl rfl fun g hg => ?_
  repeat (refine Run.go rfl ?_)
  refine Run.ret hg rfl ?_
  show bo (c.st != 0) = bo _
  by_cases h : c.st = 0 <;> simp [offShelf, h]

noncomputable def X36 : Fx := ⟨Try.prog, tys, 36, Try.f36, [0]⟩
theorem X36_ok : X36.Ok := ⟨Try.func36, tys_ok⟩
theorem implDummies_ct (d : Dk) (e1 e2 : Bool) (hd : dkOk d) (hr : dkRng d) : Ct Try.prog 36 [dkR e1 e2 d] (lsR (dumRes d)) [] := by
  refine Ct.intro X36 X36_ok rfl rfl rfl rfl fun g hg => ?_
  repeat (refine Run.go rfl ?_)
  refine Run.cs rfl (implValidDesk_ct d e1 e2 hd hr) rfl rfl ?_
  repeat (refine Run.go rfl ?_)
  refine Run.cond rfl (fun h => ?_) (fun h => ?_)
  · have h : vD d = false := by simpa using h
    repeat (refine Run.go rfl ?_)
    refine Run.nilSlot 2 1 false rfl ?_
    refine Run.ret hg rfl ?_
    rw [dumRes, h]
    rfl
  have hv : vD d = true := by simpa using h
  repeat (refine Run.go rfl ?_)
  refine Run.cs rfl (which0_ct d e1 e2 _ offShelf hd fun c _ => dummies1_ct c e2) rfl (rf64 _) ?_
  repeat (refine Run.go rfl ?_)
  refine Run.ret hg rfl ?_
  rw [dumRes, hv]
  rfl

def loanRes (d : Dk) (who : Int) : List Int × Int := if vD d then (if inr who 0 49 then (idxs (lentTo who) d.cs, 0) else ([], 2)) else ([], 1)

def pCode (d : Dk) (who : Int) : Int := if vD d then (if inr who 0 49 then 0 else 2) else 1

noncomputable def X53 : Fx := ⟨Try.prog, tys, 53, Try.f53, [0, 1]⟩
theorem X53_ok : X53.Ok := ⟨Try.func53, tys_ok⟩
theorem personCode_ct (d : Dk) (e1 e2 : Bool) (who : Int) (hd : dkOk d) (hr : dkRng d) : Ct Try.prog 53 [dkR e1 e2 d, i64 who] (i64 (pCode d who)) [] := by
  refine Ct.intro X53 X53_ok rfl rfl rfl rfl fun g hg => ?_
  repeat (refine Run.go rfl ?_)
  refine Run.cs rfl (implValidDesk_ct d e1 e2 hd hr) rfl rfl ?_
  repeat (refine Run.go rfl ?_)
  refine Run.cond rfl (fun h => ?_) (fun h => ?_)
  · have h : vD d = false := by simpa using h
    repeat (refine Run.go rfl ?_)
    refine Run.ret hg rfl ?_
    rw [pCode, h]
    rfl
  have hv : vD d = true := by simpa using h
  repeat (refine Run.go rfl ?_)
  refine Run.cs rfl (isPerson64_ct who) rfl rfl ?_
  repeat (refine Run.go rfl ?_)
  refine Run.cond rfl (fun h => ?_) (fun h => ?_)
  · have h : inr who 0 49 = false := by simpa using h
    repeat (refine Run.go rfl ?_)
    refine Run.ret hg rfl ?_
    rw [pCode, hv, h]
    rfl
  have hw : inr who 0 49 = true := by simpa using h
  repeat (refine Run.go rfl ?_)
  refine Run.ret hg rfl ?_
  rw [pCode, hv, hw]
  rfl

noncomputable def X38 : Fx := ⟨Try.prog, tys, 38, Try.f38, [0, 1]⟩
theorem X38_ok : X38.Ok := ⟨Try.func38, tys_ok⟩
theorem implLoansOf_ct (d : Dk) (e1 e2 : Bool) (who : Int) (hd : dkOk d) (hr : dkRng d) : Ct Try.prog 38 [dkR e1 e2 d, i64 who] (lsR (loanRes d who)) [] := by
  refine Ct.intro X38 X38_ok rfl rfl rfl rfl fun g hg => ?_
  repeat (refine Run.go rfl ?_)
  refine Run.cs rfl (personCode_ct d e1 e2 who hd hr) rfl rfl ?_
  repeat (refine Run.go rfl ?_)
  refine Run.cond rfl (fun h => ?_) (fun h => ?_)
  · repeat (refine Run.go rfl ?_)
    refine Run.nilSlot 4 1 false rfl ?_
    refine Run.ret hg rfl ?_
    have : loanRes d who = ([], pCode d who) := by
      unfold pCode at h
      unfold loanRes pCode
      split
      · rename_i hv
        split
        · rename_i hw
          simp [hv, hw] at h
        · rfl
      · rfl
    rw [this]
    rfl
  have h : pCode d who = 0 := by simpa using h
  obtain ⟨hv, hw⟩ : vD d = true ∧ inr who 0 49 = true := by
    unfold pCode at h
    split at h
    · rename_i hv
      split at h
      · rename_i hw
        exact ⟨hv, hw⟩
      · cases h
    · cases h
  repeat (refine Run.go rfl ?_)
  rw [inr_wrap hw]
  refine Run.cs rfl (loans_ct d e1 e2 who hd) rfl (rf64 _) ?_
  repeat (refine Run.go rfl ?_)
  refine Run.ret hg rfl ?_
  rw [loanRes, hv, hw]
  rfl

theorem dumRes_len (d : Dk) : (dumRes d).1.length ≤ d.cs.length := by
  unfold dumRes
  split
  · exact idxs_len _ _
  · simp
theorem loanRes_len (d : Dk) (who : Int) : (loanRes d who).1.length ≤ d.cs.length := by
  unfold loanRes
  split
  · split
    · exact idxs_len _ _
    · simp
  · simp
end Go.Proofs.Ytgbiboepnibibaa
