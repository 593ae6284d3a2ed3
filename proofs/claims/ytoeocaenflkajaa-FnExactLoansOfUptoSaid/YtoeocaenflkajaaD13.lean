/- Contracts of the program's functions, and what follows from them. -/
import Derived.Test.YtoeocaenflkajaaD12
set_option linter.unusedVariables false
namespace Go.Proofs.Ytoeocaenflkajaa
open Go Go.Av

/-! A desk, a person and a book: their code; fines. -/

def dCode (d : Dk) (who book : Int) : Int := if vD d then (if inr who 0 49 && inr book 0 (d.cs.length - 1) then 0 else 2) else 1

theorem dCode_0 {d : Dk} {who book : Int} (h : dCode d who book = 0) : vD d = true ∧ inr who 0 49 = true ∧ ∃ j : Nat, book = j ∧ j < d.cs.length := by
  unfold dCode at h
  split at h
  · rename_i hv
    split at h
    · rename_i hi
      rw [Bool.and_eq_true] at hi
      refine ⟨hv, hi.1, book.toNat, ?_, ?_⟩ <;> (have := hi.2; simp [inr] at this; omega)
    · cases h
  · cases h

theorem vD_day {d : Dk} (h : vD d = true) : 0 ≤ d.day ∧ d.day ≤ 10000 := by
  simp only [vD, Bool.and_eq_true] at h
  simpa [inr] using h.1.1.1
theorem vD_len {d : Dk} (h : vD d = true) : d.cs.length ≤ 60 := by
  simp only [vD, Bool.and_eq_true, decide_eq_true_eq] at h
  exact h.1.1.2
theorem vD_cp {d : Dk} (h : vD d = true) : ∀ c ∈ d.cs, vC c d.day = true := by
  simp only [vD, Bool.and_eq_true] at h
  simpa using h.1.2
theorem vC_due {c : Cp} {day : Int} (h : vC c day = true) : 0 ≤ c.due ∧ c.due ≤ 10028 := by
  unfold vC at h
  split at h
  · simp at h; omega
  · simp only [Bool.and_eq_true] at h
    simpa [inr] using h.1.1.1.2

noncomputable def X67 : Fx := ⟨Try.prog, tys, 67, Try.f67, [0, 1, 2]⟩
theorem X67_ok : X67.Ok := ⟨Try.func67, tys_ok⟩
theorem l06Asked_ct (d : Dk) (e1 e2 : Bool) (who book : Int) (hd : dkOk d) (hr : dkRng d) : Ct Try.prog 67 [.rp (dkR e1 e2 d).cells 0, i64 who, i64 book] (i64 (dCode d who book)) [] := by
  refine Ct.intro X67 X67_ok rfl rfl rfl rfl fun g hg => ?_
  have hl := hd.1
  have ew : IntKind.i64.wrap ((d.cs.map (cpR e2)).length - 1) = d.cs.length - 1 := by rw [List.length_map, wrap_i64 (by omega) (by omega)]
  repeat (refine Run.go rfl ?_)
  refine Run.cs rfl (l06Ok_ct d e1 e2 hd hr) rfl rfl ?_
  repeat (refine Run.go rfl ?_)
  refine Run.cond rfl (fun h => ?_) (fun h1 => ?_)
  · repeat (refine Run.go rfl ?_)
    refine Run.ret hg rfl ?_
    show i64 _ = _
    simp at h
    simp [dCode, h]
  have h1 : vD d = true := by simpa using h1
  repeat (refine Run.go rfl ?_)
  refine Run.cs rfl (l06Person_ct who) rfl rfl ?_
  repeat (refine Run.go rfl ?_)
  refine Run.bool 13 rfl (fun h => ?_) (fun h2 => ?_)
  · repeat (refine Run.go rfl ?_)
    refine Run.cond rfl (fun _ => ?_) (fun h => by simp at h)
    repeat (refine Run.go rfl ?_)
    refine Run.ret hg rfl ?_
    show i64 _ = _
    simp at h
    simp [dCode, h1, h]
  have h2 : inr who 0 49 = true := by simpa using h2
  repeat (refine Run.go rfl ?_)
  refine Run.cs rfl (l00In_ct book 0 (d.cs.length - 1)) (by rw [← ew]; rfl) rfl ?_
  repeat (refine Run.go rfl ?_)
  refine Run.cond rfl (fun h => ?_) (fun h3 => ?_)
  · repeat (refine Run.go rfl ?_)
    refine Run.ret hg rfl ?_
    show i64 _ = _
    have h : inr book 0 (d.cs.length - 1) = false := by simpa using h
    simp [dCode, h1, h2, h]
  have h3 : inr book 0 (d.cs.length - 1) = true := by simpa using h3
  repeat (refine Run.go rfl ?_)
  refine Run.ret hg rfl ?_
  show i64 _ = _
  simp [dCode, h1, h2, h3]

noncomputable def X101 : Fx := ⟨Try.prog, tys, 101, Try.f101, [0]⟩
theorem X101_ok : X101.Ok := ⟨Try.func101, tys_ok⟩
theorem isPerson64_ct (a : Int) : Ct Try.prog 101 [i64 a] (bo (inr a 0 49)) [] := by
  refine Ct.intro X101 X101_ok rfl rfl rfl rfl fun g hg => ?_
  repeat (refine Run.go rfl ?_)
  refine Run.cs rfl (within64_ct a 0 49) rfl rfl ?_
  repeat (refine Run.go rfl ?_)
  exact Run.ret hg rfl rfl

noncomputable def X69 : Fx := ⟨Try.prog, tys, 69, Try.f69, [0, 1, 2]⟩
theorem X69_ok : X69.Ok := ⟨Try.func69, tys_ok⟩
theorem deskCode_ct (d : Dk) (e1 e2 : Bool) (who book : Int) (hd : dkOk d) (hr : dkRng d) : Ct Try.prog 69 [dkR e1 e2 d, i64 who, i64 book] (i64 (dCode d who book)) [] := by
  refine Ct.intro X69 X69_ok rfl rfl rfl rfl fun g hg => ?_
  have hl := hd.1
  have ew : IntKind.i64.wrap ((d.cs.map (cpR e2)).length - 1) = d.cs.length - 1 := by rw [List.length_map, wrap_i64 (by omega) (by omega)]
  repeat (refine Run.go rfl ?_)
  refine Run.cs rfl (implValidDesk_ct d e1 e2 hd hr) rfl rfl ?_
  repeat (refine Run.go rfl ?_)
  refine Run.cond rfl (fun h => ?_) (fun h1 => ?_)
  · repeat (refine Run.go rfl ?_)
    refine Run.ret hg rfl ?_
    show i64 _ = _
    simp at h
    simp [dCode, h]
  have h1 : vD d = true := by simpa using h1
  repeat (refine Run.go rfl ?_)
  refine Run.cs rfl (isPerson64_ct who) rfl rfl ?_
  repeat (refine Run.go rfl ?_)
  refine Run.bool 15 rfl (fun h => ?_) (fun h2 => ?_)
  · repeat (refine Run.go rfl ?_)
    refine Run.cond rfl (fun _ => ?_) (fun h => by simp at h)
    repeat (refine Run.go rfl ?_)
    refine Run.ret hg rfl ?_
    show i64 _ = _
    simp at h
    simp [dCode, h1, h]
  have h2 : inr who 0 49 = true := by simpa using h2
  repeat (refine Run.go rfl ?_)
  refine Run.cs rfl (within64_ct book 0 (d.cs.length - 1)) (by rw [← ew]; rfl) rfl ?_
  repeat (refine Run.go rfl ?_)
  refine Run.cond rfl (fun h => ?_) (fun h3 => ?_)
  · repeat (refine Run.go rfl ?_)
    refine Run.ret hg rfl ?_
    show i64 _ = _
    have h : inr book 0 (d.cs.length - 1) = false := by simpa using h
    simp [dCode, h1, h2, h]
  have h3 : inr book 0 (d.cs.length - 1) = true := by simpa using h3
  repeat (refine Run.go rfl ?_)
  refine Run.ret hg rfl ?_
  show i64 _ = _
  simp [dCode, h1, h2, h3]

def over (day : Int) (c : Cp) : Bool := decide (c.st = 1) && decide (c.due < day)
def fineP (day : Int) (c : Cp) : Int := if over day c then 5 * (day - c.due) else 0

noncomputable def X68 : Fx := ⟨Try.prog, tys, 68, Try.f68, [0, 1]⟩
theorem X68_ok : X68.Ok := ⟨Try.func68, tys_ok⟩
theorem l06Fine_ct (c : Cp) (ex : Bool) (day : Int) (hr : cpRng c) (hd : i16r day) : Ct Try.prog 68 [.rp (cpR ex c).cells 0, i16 day] (i64 (fineP day c)) [] := by
  have e1 := w64 hd
  have e2 := w64 hr.2.2.1
  have b1 := hd
  have b2 := hr.2.2.1
  unfold i16r at b1 b2
  refine Ct.intro X68 X68_ok rfl rfl rfl rfl fun g hg => ?_
  repeat (refine Run.go rfl ?_)
  refine Run.bool 10 rfl (fun h => ?_) (fun h1 => ?_)
  · repeat (refine Run.go rfl ?_)
    refine Run.cond rfl (fun _ => ?_) (fun h => by simp at h)
    repeat (refine Run.go rfl ?_)
    refine Run.ret hg rfl ?_
    show i64 _ = _
    simp at h
    simp [fineP, over, h]
  have h1 : c.st = 1 := by simpa using h1
  repeat (refine Run.go rfl ?_)
  refine Run.cond rfl (fun h => ?_) (fun h2 => ?_)
  · repeat (refine Run.go rfl ?_)
    refine Run.ret hg rfl ?_
    show i64 _ = _
    simp at h
    simp [fineP, over, h1]
    omega
  have h2 : c.due < day := by simp at h2; omega
  repeat (refine Run.go rfl ?_)
  rw [e1, e2, wrap_i64 (n := day - c.due) (by omega) (by omega)]
  refine Run.ret hg rfl ?_
  show i64 (IntKind.i64.wrap (5 * (day - c.due))) = _
  rw [wrap_i64 (by omega) (by omega)]
  simp [fineP, over, h1, h2]

noncomputable def X83 : Fx := ⟨Try.prog, tys, 83, Try.f83, [0, 1]⟩
theorem X83_ok : X83.Ok := ⟨Try.func83, tys_ok⟩
theorem isOverdue_ct (d : Dk) (c : Cp) (e1 e2 e3 : Bool) : Ct Try.prog 83 [dkR e1 e2 d, cpR e3 c] (bo (over d.day c)) [] := by
  refine Ct.intro X83 X83_ok rfl rfl rfl rfl fun g hg => ?_
  repeat (refine Run.go rfl ?_)
  refine Run.bool 8 rfl (fun h => ?_) (fun h => ?_)
  · repeat (refine Run.go rfl ?_)
    refine Run.ret hg rfl ?_
    show bo _ = _
    simp at h
    simp [over, h]
  · repeat (refine Run.go rfl ?_)
    refine Run.ret hg rfl ?_
    show bo _ = _
    simp at h
    simp [over, h]

noncomputable def X70 : Fx := ⟨Try.prog, tys, 70, Try.f70, [0, 1]⟩
theorem X70_ok : X70.Ok := ⟨Try.func70, tys_ok⟩
theorem fine_ct (d : Dk) (c : Cp) (e1 e2 e3 : Bool) (h0 : 0 ≤ d.day ∧ d.day ≤ 10000) (h1 : 0 ≤ c.due ∧ c.due ≤ 10028) : Ct Try.prog 70 [dkR e1 e2 d, cpR e3 c] (i64 (fineP d.day c)) [] := by
  refine Ct.intro X70 X70_ok rfl rfl rfl rfl fun g hg => ?_
  repeat (refine Run.go rfl ?_)
  refine Run.cs rfl (isOverdue_ct d c e1 e2 e3) rfl rfl ?_
  repeat (refine Run.go rfl ?_)
  refine Run.cond rfl (fun h => ?_) (fun h => ?_)
  · repeat (refine Run.go rfl ?_)
    refine Run.ret hg rfl ?_
    show i64 _ = _
    simp at h
    simp [fineP, h]
  · have h : over d.day c = true := by simpa using h
    repeat (refine Run.go rfl ?_)
    rw [wrap_i16 (n := d.day - c.due) (by omega) (by omega), wrap_i64 (n := d.day - c.due) (by omega) (by omega)]
    refine Run.ret hg rfl ?_
    show i64 (IntKind.i64.wrap (5 * (d.day - c.due))) = _
    rw [wrap_i64 (by omega) (by omega)]
    simp [fineP, h]

def fineRes (d : Dk) (book : Int) : Int × Int := if dCode d 0 book = 0 then (fineP d.day (d.cs.getD book.toNat cp0), 0) else (0, dCode d 0 book)

noncomputable def X29 : Fx := ⟨Try.prog, tys, 29, Try.f29, [0, 1]⟩
theorem X29_ok : X29.Ok := ⟨Try.func29, tys_ok⟩
theorem specFineOf_ct (d : Dk) (e1 e2 : Bool) (book : Int) (hd : dkOk d) (hr : dkRng d) : Ct Try.prog 29 [dkR e1 e2 d, i64 book] (.tup [i64 (fineRes d book).1, i64 (fineRes d book).2]) [] := by
  refine Ct.intro X29 X29_ok rfl rfl rfl rfl fun g hg => ?_
  repeat (refine Run.go rfl ?_)
  refine Run.cs rfl (l06Asked_ct d e1 e2 0 book hd hr) rfl rfl ?_
  repeat (refine Run.go rfl ?_)
  refine Run.cond rfl (fun h => ?_) (fun h => ?_)
  · repeat (refine Run.go rfl ?_)
    refine Run.ret hg rfl ?_
    simp at h
    simp [fineRes, h]
    rfl
  · have h : dCode d 0 book = 0 := by simpa using h
    obtain ⟨_, _, j, rfl, hj⟩ := dCode_0 h
    repeat (refine Run.go rfl ?_)
    refine Run.draw (by kernel_rfl) (by decide +kernel) ?_
    repeat (refine Quiet.go rfl ?_)
    refine Quiet.val rfl rfl (ValOk.idx (cpR e2 d.cs[j]) rfl rfl rfl rfl rfl (by omega) (by simp [hj])) rfl ?_
    repeat (refine Quiet.go rfl ?_)
    refine Quiet.cs rfl rfl rfl rfl rfl (l06Fine_ct d.cs[j] e2 d.day (hr.2 _ (by simp)) hr.1) rfl rfl ?_
    repeat (refine Quiet.go rfl ?_)
    refine Quiet.nil ?_
    repeat (refine Run.go rfl ?_)
    refine Run.ret hg rfl ?_
    simp [fineRes, h, hj]
    rfl

noncomputable def X30 : Fx := ⟨Try.prog, tys, 30, Try.f30, [0, 1]⟩
theorem X30_ok : X30.Ok := ⟨Try.func30, tys_ok⟩
theorem implFineOf_ct (d : Dk) (e1 e2 : Bool) (book : Int) (hd : dkOk d) (hr : dkRng d) : Ct Try.prog 30 [dkR e1 e2 d, i64 book] (.tup [i64 (fineRes d book).1, i64 (fineRes d book).2]) [] := by
  refine Ct.intro X30 X30_ok rfl rfl rfl rfl fun g hg => ?_
  repeat (refine Run.go rfl ?_)
  refine Run.cs rfl (deskCode_ct d e1 e2 0 book hd hr) rfl rfl ?_
  repeat (refine Run.go rfl ?_)
  refine Run.cond rfl (fun h => ?_) (fun h => ?_)
  · repeat (refine Run.go rfl ?_)
    refine Run.ret hg rfl ?_
    simp at h
    simp [fineRes, h]
    rfl
  · have h : dCode d 0 book = 0 := by simpa using h
    obtain ⟨hv, _, j, rfl, hj⟩ := dCode_0 h
    repeat (refine Run.go rfl ?_)
    refine Run.draw (by kernel_rfl) (by decide +kernel) ?_
    repeat (refine Quiet.go rfl ?_)
    refine Quiet.val rfl rfl (ValOk.idx (cpR e2 d.cs[j]) rfl rfl rfl rfl rfl (by omega) (by simp [hj])) rfl ?_
    repeat (refine Quiet.go rfl ?_)
    refine Quiet.cs rfl rfl rfl rfl rfl (fine_ct d d.cs[j] e1 e2 e2 (vD_day hv) (vC_due (vD_cp hv _ (by simp)))) rfl rfl ?_
    repeat (refine Quiet.go rfl ?_)
    refine Quiet.nil ?_
    repeat (refine Run.go rfl ?_)
    refine Run.ret hg rfl ?_
    simp [fineRes, h, hj]
    rfl
end Go.Proofs.Ytoeocaenflkajaa
