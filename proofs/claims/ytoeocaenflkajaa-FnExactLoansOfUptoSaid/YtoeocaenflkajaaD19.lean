/- Contracts of the program's functions, and what follows from them. -/
import Derived.Test.YtoeocaenflkajaaD18
set_option linter.unusedVariables false
namespace Go.Proofs.Ytoeocaenflkajaa
open Go Go.Av

/-! Books as told, in a slice of their own. -/

def lsR (r : List Int × Int) : AV := .tup [.own 1 false (r.1.map i64), i64 r.2]
def offShelf (c : Cp) : Bool := decide (c.st ≠ 0)
def dumRes (d : Dk) : List Int × Int := if vD d then (idxs offShelf d.cs, 0) else ([], 1)

noncomputable def X39 : Fx := ⟨Try.prog, tys, 39, Try.f39, [0]⟩
theorem X39_ok : X39.Ok := ⟨Try.func39, tys_ok⟩
theorem specDummies_ct (d : Dk) (e1 e2 : Bool) (hd : dkOk d) (hr : dkRng d) : Ct Try.prog 39 [dkR e1 e2 d] (lsR (dumRes d)) [] := by
  refine Ct.intro X39 X39_ok rfl rfl rfl rfl fun g hg => ?_
  repeat (refine Run.go rfl ?_)
  refine Run.cs rfl (l06Ok_ct d e1 e2 hd hr) rfl rfl ?_
  repeat (refine Run.go rfl ?_)
  refine Run.cond rfl (fun h => ?_) (fun h => ?_)
  · have h : vD d = false := by simpa using h
    repeat (refine Run.go rfl ?_)
    refine Run.buildSlice [] rfl rfl rfl rfl rfl rfl rfl rfl rfl rfl rfl rfl rfl rfl ?_
    repeat (refine Run.go rfl ?_)
    refine Run.loosen0 2 rfl ?_
    refine Run.ret hg rfl ?_
    rw [dumRes, h]
    rfl
  have hv : vD d = true := by simpa using h
  have hb := vD_len hv
  repeat (refine Run.go rfl ?_)
  refine Run.buildSlice [] rfl rfl rfl rfl rfl rfl rfl rfl rfl rfl rfl rfl rfl rfl ?_
  repeat (refine Run.go rfl ?_)
  refine Run.loosen0 4 rfl ?_
  refine Run.loop (fun j : Nat => ⟨[(1, .bp (1, 0) 0), (4, .own 1 false ((idxs offShelf (d.cs.take j)).map i64)), (5, i64 j)], [((1, 0), .box (dkR e1 e2 d).cells)]⟩) (fun j => j ≤ d.cs.length) (fun j => d.cs.length - j) 0 (by omega) ?_ ?_
  · exact St.Le.mk' ⟨rfl, rfl, rfl, trivial⟩ ⟨rfl, trivial⟩
  intro j hj IH
  repeat (refine Run.go rfl ?_)
  refine Run.cond rfl (fun h => ?_) (fun h => ?_)
  · have hlt : j < d.cs.length := by simpa using h
    have hil := idxs_len offShelf (d.cs.take j)
    rw [List.length_take] at hil
    repeat (refine Run.go rfl ?_)
    refine Run.val rfl rfl rfl (ValOk.idx (cpR e2 d.cs[j]) rfl rfl rfl rfl rfl (by omega) (by simp [hlt])) rfl ?_
    repeat (refine Run.go rfl ?_)
    refine Run.cond rfl (fun hA => ?_) (fun hA => ?_)
    · have hA : offShelf d.cs[j] = true := by simpa [offShelf] using hA
      repeat (refine Run.go rfl ?_)
      refine Run.buildSlice [i64 j] rfl rfl rfl rfl rfl rfl rfl rfl rfl rfl rfl rfl rfl rfl ?_
      refine Run.appendo rfl rfl rfl rfl rfl rfl rfl rfl rfl rfl rfl rfl rfl rfl (by show (_ + 1) * 8 ≤ _; simp; omega) (by simp [capMax]; omega) (by decide) rfl ?_
      repeat (refine Run.go rfl ?_)
      refine Run.of (IH (j + 1) (by omega) (by omega)) ⟨rfl, ?_, ?_, trivial⟩ ⟨rfl, trivial⟩
      · rw [idxs_step hlt, if_pos hA]
        show AV.own _ _ _ = AV.own _ _ _
        simp
      · show i64 _ = _
        rw [wrap_i64 (by omega) (by omega)]
        rfl
    · have hA : ¬ offShelf d.cs[j] = true := by simpa [offShelf] using hA
      repeat (refine Run.go rfl ?_)
      refine Run.of (IH (j + 1) (by omega) (by omega)) ⟨rfl, ?_, ?_, trivial⟩ ⟨rfl, trivial⟩
      · rw [idxs_step hlt, if_neg hA]
        rfl
      · show i64 _ = _
        rw [wrap_i64 (by omega) (by omega)]
        rfl
  · have hj' : j = d.cs.length := by simp at h; omega
    subst hj'
    rw [List.take_length]
    repeat (refine Run.go rfl ?_)
    refine Run.pack 2 rfl rfl rfl ?_
    refine Run.ret hg rfl ?_
    rw [dumRes, hv]
    rfl

noncomputable def X81 : Fx := ⟨Try.prog, tys, 81, Try.f81, [0]⟩
theorem X81_ok : X81.Ok := ⟨Try.func81, tys_ok⟩
theorem dummies1_ct (c : Cp) (ex : Bool) : Ct Try.prog 81 [cpR ex c] (bo (offShelf c)) [] := by
  refine Ct.intro X81 X81_ok rfl rfl rfl rfl fun g hg => ?_
  repeat (refine Run.go rfl ?_)
  refine Run.ret hg rfl ?_
  show bo (c.st != 0) = bo _
  by_cases h : c.st = 0 <;> simp [offShelf, h]

noncomputable def X40 : Fx := ⟨Try.prog, tys, 40, Try.f40, [0]⟩
theorem X40_ok : X40.Ok := ⟨Try.func40, tys_ok⟩
theorem implDummies_ct (d : Dk) (e1 e2 : Bool) (hd : dkOk d) (hr : dkRng d) : Ct Try.prog 40 [dkR e1 e2 d] (lsR (dumRes d)) [] := by
  refine Ct.intro X40 X40_ok rfl rfl rfl rfl fun g hg => ?_
  repeat (refine Run.go rfl ?_)
  refine Run.cs rfl (implValidDesk_ct d e1 e2 hd hr) rfl rfl ?_
  repeat (refine Run.go rfl ?_)
  refine Run.cond rfl (fun h => ?_) (fun h => ?_)
  · have h : vD d = false := by simpa using h
    repeat (refine Run.go rfl ?_)
    refine Run.nilSlot 2 1 false rfl ?_
    refine Run.ret hg rfl ?_
    rw [dumRes, h]
    rfl
  have hv : vD d = true := by simpa using h
  repeat (refine Run.go rfl ?_)
  refine Run.cs rfl (which0_ct d e1 e2 _ offShelf hd fun c _ => dummies1_ct c e2) rfl (rf64 _) ?_
  repeat (refine Run.go rfl ?_)
  refine Run.ret hg rfl ?_
  rw [dumRes, hv]
  rfl

def loanRes (d : Dk) (who : Int) : List Int × Int := if vD d then (if inr who 0 49 then (idxs (lentTo who) d.cs, 0) else ([], 2)) else ([], 1)

noncomputable def X46 : Fx := ⟨Try.prog, tys, 46, Try.f46, [0, 1]⟩
theorem X46_ok : X46.Ok := ⟨Try.func46, tys_ok⟩
theorem specLoansOf_ct (d : Dk) (e1 e2 : Bool) (who : Int) (hd : dkOk d) (hr : dkRng d) : Ct Try.prog 46 [dkR e1 e2 d, i64 who] (lsR (loanRes d who)) [] := by
  refine Ct.intro X46 X46_ok rfl rfl rfl rfl fun g hg => ?_
  repeat (refine Run.go rfl ?_)
  refine Run.cs rfl (l06Ok_ct d e1 e2 hd hr) rfl rfl ?_
  repeat (refine Run.go rfl ?_)
  refine Run.cond rfl (fun h => ?_) (fun h => ?_)
  · have h : vD d = false := by simpa using h
    repeat (refine Run.go rfl ?_)
    refine Run.buildSlice [] rfl rfl rfl rfl rfl rfl rfl rfl rfl rfl rfl rfl rfl rfl ?_
    repeat (refine Run.go rfl ?_)
    refine Run.loosen0 4 rfl ?_
    refine Run.ret hg rfl ?_
    rw [loanRes, h]
    rfl
  have hv : vD d = true := by simpa using h
  repeat (refine Run.go rfl ?_)
  refine Run.cs rfl (l06Person_ct who) rfl rfl ?_
  repeat (refine Run.go rfl ?_)
  refine Run.cond rfl (fun h => ?_) (fun h => ?_)
  · have h : inr who 0 49 = false := by simpa using h
    repeat (refine Run.go rfl ?_)
    refine Run.buildSlice [] rfl rfl rfl rfl rfl rfl rfl rfl rfl rfl rfl rfl rfl rfl ?_
    repeat (refine Run.go rfl ?_)
    refine Run.loosen0 4 rfl ?_
    refine Run.ret hg rfl ?_
    rw [loanRes, hv, h]
    rfl
  have hw : inr who 0 49 = true := by simpa using h
  repeat (refine Run.go rfl ?_)
  refine Run.cs rfl (l06Loans_ct d e1 e2 who hd hr) rfl (rf64 _) ?_
  repeat (refine Run.go rfl ?_)
  refine Run.ret hg rfl ?_
  rw [loanRes, hv, hw]
  rfl

def pCode (d : Dk) (who : Int) : Int := if vD d then (if inr who 0 49 then 0 else 2) else 1

noncomputable def X86 : Fx := ⟨Try.prog, tys, 86, Try.f86, [0, 1]⟩
theorem X86_ok : X86.Ok := ⟨Try.func86, tys_ok⟩
theorem personCode_ct (d : Dk) (e1 e2 : Bool) (who : Int) (hd : dkOk d) (hr : dkRng d) : Ct Try.prog 86 [dkR e1 e2 d, i64 who] (i64 (pCode d who)) [] := by
  refine Ct.intro X86 X86_ok rfl rfl rfl rfl fun g hg => ?_
  repeat (refine Run.go rfl ?_)
  refine Run.cs rfl (implValidDesk_ct d e1 e2 hd hr) rfl rfl ?_
  repeat (refine Run.go rfl ?_)
  refine Run.cond rfl (fun h => ?_) (fun h => ?_)
  · have h : vD d = false := by simpa using h
    repeat (refine Run.go rfl ?_)
    refine Run.ret hg rfl ?_
    rw [pCode, h]
    rfl
  have hv : vD d = true := by simpa using h
  repeat (refine Run.go rfl ?_)
  refine Run.cs rfl (isPerson64_ct who) rfl rfl ?_
  repeat (refine Run.go rfl ?_)
  refine Run.cond rfl (fun h => ?_) (fun h => ?_)
  · have h : inr who 0 49 = false := by simpa using h
    repeat (refine Run.go rfl ?_)
    refine Run.ret hg rfl ?_
    rw [pCode, hv, h]
    rfl
  have hw : inr who 0 49 = true := by simpa using h
  repeat (refine Run.go rfl ?_)
  refine Run.ret hg rfl ?_
  rw [pCode, hv, hw]
  rfl

noncomputable def X47 : Fx := ⟨Try.prog, tys, 47, Try.f47, [0, 1]⟩
theorem X47_ok : X47.Ok := ⟨Try.func47, tys_ok⟩
theorem implLoansOf_ct (d : Dk) (e1 e2 : Bool) (who : Int) (hd : dkOk d) (hr : dkRng d) : Ct Try.prog 47 [dkR e1 e2 d, i64 who] (lsR (loanRes d who)) [] := by
  refine Ct.intro X47 X47_ok rfl rfl rfl rfl fun g hg => ?_
  repeat (refine Run.go rfl ?_)
  refine Run.cs rfl (personCode_ct d e1 e2 who hd hr) rfl rfl ?_
  repeat (refine Run.go rfl ?_)
  refine Run.cond rfl (fun h => ?_) (fun h => ?_)
  · repeat (refine Run.go rfl ?_)
    refine Run.nilSlot 4 1 false rfl ?_
    refine Run.ret hg rfl ?_
    have : loanRes d who = ([], pCode d who) := by
      unfold pCode at h
      unfold loanRes pCode
      split
      · rename_i hv
        split
        · rename_i hw
          simp [hv, hw] at h
        · rfl
      · rfl
    rw [this]
    rfl
  have h : pCode d who = 0 := by simpa using h
  obtain ⟨hv, hw⟩ : vD d = true ∧ inr who 0 49 = true := by
    unfold pCode at h
    split at h
    · rename_i hv
      split at h
      · rename_i hw
        exact ⟨hv, hw⟩
      · cases h
    · cases h
  repeat (refine Run.go rfl ?_)
  rw [inr_wrap hw]
  refine Run.cs rfl (loans_ct d e1 e2 who hd) rfl (rf64 _) ?_
  repeat (refine Run.go rfl ?_)
  refine Run.ret hg rfl ?_
  rw [loanRes, hv, hw]
  rfl

theorem dumRes_len (d : Dk) : (dumRes d).1.length ≤ d.cs.length := by
  unfold dumRes
  split
  · exact idxs_len _ _
  · simp
theorem loanRes_len (d : Dk) (who : Int) : (loanRes d who).1.length ≤ d.cs.length := by
  unfold loanRes
  split
  · split
    · exact idxs_len _ _
    · simp
  · simp
end Go.Proofs.Ytoeocaenflkajaa
