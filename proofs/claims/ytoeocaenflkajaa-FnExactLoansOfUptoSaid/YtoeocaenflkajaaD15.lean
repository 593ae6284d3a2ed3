/- Contracts of the program's functions, and what follows from them. -/
import Derived.Test.YtoeocaenflkajaaD14
set_option linter.unusedVariables false
namespace Go.Proofs.Ytoeocaenflkajaa
open Go Go.Av

noncomputable def X80 : Fx := ⟨Try.prog, tys, 80, Try.f80, [0, 1]⟩
theorem X80_ok : X80.Ok := ⟨Try.func80, tys_ok⟩
theorem l00Max_ct (a b : Int) : Ct Try.prog 80 [i64 a, i64 b] (i64 (max a b)) [] := by
  refine Ct.intro X80 X80_ok rfl rfl rfl rfl fun g hg => ?_
  repeat (refine Run.go rfl ?_)
  refine Run.cond rfl (fun h => ?_) (fun h => ?_)
  · repeat (refine Run.go rfl ?_)
    refine Run.ret hg rfl ?_
    simp at h
    rw [Int.max_eq_left (by omega)]
    rfl
  · repeat (refine Run.go rfl ?_)
    refine Run.ret hg rfl ?_
    simp at h
    rw [Int.max_eq_right (by omega)]
    rfl

theorem fi_le {α : Type} (p : α → Bool) (l : List α) : fi p l ≤ l.length := by
  unfold fi
  split <;> omega

def waitP (d : Dk) (c : Cp) (p : Int) : Int := max 0 (c.due - d.day) + (if c.st = 2 then 28 else 0) + p * 35
def waitRes (d : Dk) (who book : Int) : Int × Int := if dCode d who book = 0 then (if plq d who book < 0 then (0, 6) else (waitP d (d.cs.getD book.toNat cp0) (plq d who book), 0)) else (0, dCode d who book)

noncomputable def X37 : Fx := ⟨Try.prog, tys, 37, Try.f37, [0, 1, 2]⟩
theorem X37_ok : X37.Ok := ⟨Try.func37, tys_ok⟩
theorem specWaitAtMost_ct (d : Dk) (e1 e2 : Bool) (who book : Int) (hd : dkOk d) (hr : dkRng d) : Ct Try.prog 37 [dkR e1 e2 d, i64 who, i64 book] (.tup [i64 (waitRes d who book).1, i64 (waitRes d who book).2]) [] := by
  refine Ct.intro X37 X37_ok rfl rfl rfl rfl fun g hg => ?_
  repeat (refine Run.go rfl ?_)
  refine Run.cs rfl (l06Asked_ct d e1 e2 who book hd hr) rfl rfl ?_
  repeat (refine Run.go rfl ?_)
  refine Run.cond rfl (fun h => ?_) (fun h => ?_)
  · repeat (refine Run.go rfl ?_)
    refine Run.ret hg rfl ?_
    simp at h
    simp [waitRes, h]
    rfl
  have h : dCode d who book = 0 := by simpa using h
  obtain ⟨hv, _, j, rfl, hj⟩ := dCode_0 h
  have hp : plq d who j = fi (fun x => x == who) d.cs[j].q := by simp [plq, hj]
  have hq := hd.2 d.cs[j] (by simp)
  have hpl : plq d who j ≤ d.cs[j].q.length := by rw [hp]; exact fi_le _ _
  have b1 := vD_day hv
  have b2 := vC_due (vD_cp hv d.cs[j] (by simp))
  repeat (refine Run.go rfl ?_)
  refine Run.val rfl rfl rfl (ValOk.idx (cpR e2 d.cs[j]) rfl rfl rfl rfl rfl (by omega) (by simp [hj])) rfl ?_
  repeat (refine Run.go rfl ?_)
  refine Run.cs rfl (l06Place_ct d.cs[j].q e2 who hq (hr.2 d.cs[j] (by simp)).2.2.2.2) rfl rfl ?_
  repeat (refine Run.go rfl ?_)
  rw [← hp]
  refine Run.cond rfl (fun h2 => ?_) (fun h2 => ?_)
  · repeat (refine Run.go rfl ?_)
    refine Run.ret hg rfl ?_
    simp at h2
    simp [waitRes, h, h2]
    rfl
  have h2 : ¬ plq d who j < 0 := by simpa using h2
  repeat (refine Run.go rfl ?_)
  refine Run.draw (by kernel_rfl) (by decide +kernel) ?_
  repeat (refine Quiet.go rfl ?_)
  rw [wrap_i64 (n := d.cs[j].due) (by omega) (by omega), wrap_i64 (n := d.day) (by omega) (by omega), wrap_i64 (n := d.cs[j].due - d.day) (by omega) (by omega)]
  refine Quiet.cs rfl rfl rfl rfl rfl (l00Max_ct 0 (d.cs[j].due - d.day)) rfl rfl ?_
  repeat (refine Quiet.go rfl ?_)
  refine Quiet.nil ?_
  repeat (refine Run.go rfl ?_)
  refine Run.cond rfl (fun h3 => ?_) (fun h3 => ?_)
  · have h3 : d.cs[j].st = 2 := by simpa using h3
    repeat (refine Run.go rfl ?_)
    refine Run.ret hg rfl ?_
    simp only [waitRes, if_pos h, if_neg h2]
    show AV.tup [i64 (IntKind.i64.wrap (IntKind.i64.wrap (max 0 (d.cs[j].due - d.day) + 28) + IntKind.i64.wrap (plq d who j * 35))), i64 0] = _
    rw [wrap_i64 (n := max 0 (d.cs[j].due - d.day) + 28) (by omega) (by omega), wrap_i64 (n := plq d who j * 35) (by omega) (by omega), wrap_i64 (by omega) (by omega)]
    simp [waitP, hj, h3]
  · have h3 : d.cs[j].st ≠ 2 := by simpa using h3
    repeat (refine Run.go rfl ?_)
    refine Run.ret hg rfl ?_
    simp only [waitRes, if_pos h, if_neg h2]
    show AV.tup [i64 (IntKind.i64.wrap (max 0 (d.cs[j].due - d.day) + IntKind.i64.wrap (plq d who j * 35))), i64 0] = _
    rw [wrap_i64 (n := plq d who j * 35) (by omega) (by omega), wrap_i64 (by omega) (by omega)]
    simp [waitP, hj, h3]

theorem placeRes_0 {d : Dk} {who book : Int} (h : (placeRes d who book).2 = 0) : dCode d who book = 0 ∧ ¬ plq d who book < 0 ∧ (placeRes d who book).1 = plq d who book := by
  unfold placeRes at h ⊢
  split at h
  · rename_i h0
    split at h
    · cases h
    · rename_i h1
      rw [if_pos h0, if_neg h1]
      exact ⟨h0, h1, rfl⟩
  · contradiction

noncomputable def X38 : Fx := ⟨Try.prog, tys, 38, Try.f38, [0, 1, 2]⟩
theorem X38_ok : X38.Ok := ⟨Try.func38, tys_ok⟩
theorem implWaitAtMost_ct (d : Dk) (e1 e2 : Bool) (who book : Int) (hd : dkOk d) (hr : dkRng d) : Ct Try.prog 38 [dkR e1 e2 d, i64 who, i64 book] (.tup [i64 (waitRes d who book).1, i64 (waitRes d who book).2]) [] := by
  refine Ct.intro X38 X38_ok rfl rfl rfl rfl fun g hg => ?_
  repeat (refine Run.go rfl ?_)
  refine Run.cs rfl (implPlaceInQueue_ct d e1 e2 who book hd hr) rfl rfl ?_
  repeat (refine Run.go rfl ?_)
  refine Run.cond rfl (fun h => ?_) (fun h => ?_)
  · repeat (refine Run.go rfl ?_)
    refine Run.ret hg rfl ?_
    have h : (placeRes d who book).2 ≠ 0 := by simpa using h
    have : waitRes d who book = (0, (placeRes d who book).2) := by
      unfold waitRes
      unfold placeRes at h ⊢
      split
      · rename_i h0
        rw [if_pos h0] at h
        split
        · rfl
        · rename_i h1
          rw [if_neg h1] at h
          exact absurd rfl h
      · rfl
    rw [this]
    rfl
  have h : (placeRes d who book).2 = 0 := by simpa using h
  obtain ⟨h, h2, hpe⟩ := placeRes_0 h
  rw [hpe]
  obtain ⟨hv, _, j, rfl, hj⟩ := dCode_0 h
  have hp : plq d who j = fi (fun x => x == who) d.cs[j].q := by simp [plq, hj]
  have hq := hd.2 d.cs[j] (by simp)
  have hpl : plq d who j ≤ d.cs[j].q.length := by rw [hp]; exact fi_le _ _
  have b1 := vD_day hv
  have b2 := vC_due (vD_cp hv d.cs[j] (by simp))
  have em : ∀ x : Int, (if 0 > x then 0 else x) = max 0 x := by intro x; split <;> omega
  repeat (refine Run.go rfl ?_)
  refine Run.val rfl rfl rfl (ValOk.idx (cpR e2 d.cs[j]) rfl rfl rfl rfl rfl (by omega) (by simp [hj])) rfl ?_
  repeat (refine Run.go rfl ?_)
  rw [wrap_i16 (n := d.cs[j].due - d.day) (by omega) (by omega)]
  refine Run.cond rfl (fun h3 => ?_) (fun h3 => ?_)
  · have h3 : d.cs[j].st = 2 := by simpa using h3
    repeat (refine Run.go rfl ?_)
    refine Run.ret hg rfl ?_
    simp only [waitRes, if_pos h, if_neg h2]
    show AV.tup [i64 (IntKind.i64.wrap (IntKind.i64.wrap (IntKind.i64.wrap (if 0 > d.cs[j].due - d.day then 0 else d.cs[j].due - d.day) + IntKind.i64.wrap (plq d who j * 35)) + 28)), i64 0] = _
    rw [em, wrap_i64 (n := plq d who j * 35) (by omega) (by omega), wrap_i64 (n := max 0 (d.cs[j].due - d.day)) (by omega) (by omega), wrap_i64 (n := max 0 (d.cs[j].due - d.day) + plq d who j * 35) (by omega) (by omega), wrap_i64 (by omega) (by omega)]
    simp [waitP, hj, h3]
    omega
  · have h3 : d.cs[j].st ≠ 2 := by simpa using h3
    repeat (refine Run.go rfl ?_)
    refine Run.ret hg rfl ?_
    simp only [waitRes, if_pos h, if_neg h2]
    show AV.tup [i64 (IntKind.i64.wrap (IntKind.i64.wrap (if 0 > d.cs[j].due - d.day then 0 else d.cs[j].due - d.day) + IntKind.i64.wrap (plq d who j * 35))), i64 0] = _
    rw [em, wrap_i64 (n := plq d who j * 35) (by omega) (by omega), wrap_i64 (n := max 0 (d.cs[j].due - d.day)) (by omega) (by omega), wrap_i64 (by omega) (by omega)]
    simp [waitP, hj, h3]
end Go.Proofs.Ytoeocaenflkajaa
