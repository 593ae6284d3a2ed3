/- Contracts of the program's functions, and what follows from them. -/
import Derived.Test.YtgbiboepnibibaaD19
set_option linter.unusedVariables false
namespace Go.Proofs.Ytgbiboepnibibaa
open Go Go.Av

/-! Books that a person waits for, or that are held for the person. -/

def askP (who : Int) (c : Cp) : Bool := (decide (c.st = 2) && decide (c.who = who)) || c.q.any (fun x => x == who)
def askRes (d : Dk) (who : Int) : List Int × Int := if vD d then (if inr who 0 49 then (idxs (askP who) d.cs, 0) else ([], 2)) else ([], 1)
theorem askRes_len (d : Dk) (who : Int) : (askRes d who).1.length ≤ d.cs.length := by
  unfold askRes
  split
  · split
    · exact idxs_len _ _
    · simp
  · simp

noncomputable def X57 : Fx := ⟨Try.prog, tys, 57, Try.f57, [0, 1]⟩
theorem X57_ok : X57.Ok := ⟨Try.func57, tys_ok⟩
theorem contains8_ct (l : List Int) (ex : Bool) (n : Int) (hlen : l.length ≤ 1048576) : Ct Try.prog 57 [.ro 1 ex (l.map i8), i8 n] (bo (l.any fun x => x == n)) [] := by
  refine Ct.intro X57 X57_ok rfl (by kernel_rfl) rfl rfl fun g hg => ?_
  repeat (refine Run.go rfl ?_)
  refine Run.cs rfl (index8_ct l ex n hlen) rfl rfl ?_
  repeat (refine Run.go rfl ?_)
  refine Run.ret hg rfl ?_
  show bo (decide (0 ≤ fi _ _)) = _
  rw [fi_nonneg]

noncomputable def X55 : Fx := ⟨Try.prog, tys, 55, Try.f55, [0, 1]⟩
theorem X55_ok : X55.Ok := ⟨Try.func55, tys_ok⟩
theorem askedBy1_ct (c : Cp) (ex : Bool) (who : Int) (hw : inr who 0 49 = true) (hlen : c.q.length ≤ 1048576) : Ct Try.prog 55 [cpR ex c, .rp [i64 who] 0] (bo (askP who c)) [] := by
  have ew := inr_wrap hw
  refine Ct.intro X55 X55_ok rfl rfl rfl rfl fun g hg => ?_
  repeat (refine Run.go rfl ?_)
  rw [ew]
  refine Run.cs rfl (isHeld_ct c ex who) rfl rfl ?_
  repeat (refine Run.go rfl ?_)
  refine Run.bool 8 rfl (fun h => ?_) (fun h => ?_)
  · have h : (decide (c.st = 2) && decide (c.who = who)) = true := h
    repeat (refine Run.go rfl ?_)
    refine Run.ret hg rfl ?_
    rw [askP, h, Bool.true_or]
    rfl
  · have h : (decide (c.st = 2) && decide (c.who = who)) = false := h
    repeat (refine Run.go rfl ?_)
    rw [ew]
    refine Run.cs rfl (contains8_ct c.q ex who hlen) rfl rfl ?_
    repeat (refine Run.go rfl ?_)
    refine Run.ret hg rfl ?_
    rw [askP, h, Bool.false_or]
    rfl

noncomputable def X11 : Fx := ⟨Try.prog, tys, 11, Try.f11, [0, 1]⟩
theorem X11_ok : X11.Ok := ⟨Try.func11, tys_ok⟩
theorem implAskedBy_ct (d : Dk) (e1 e2 : Bool) (who : Int) (hd : dkOk d) (hr : dkRng d) : Ct Try.prog 11 [dkR e1 e2 d, i64 who] (lsR (askRes d who)) [] := by
  refine Ct.intro X11 X11_ok rfl rfl rfl rfl fun g hg => ?_
  repeat (refine Run.go rfl ?_)
  refine Run.cs rfl (personCode_ct d e1 e2 who hd hr) rfl rfl ?_
  repeat (refine Run.go rfl ?_)
  refine Run.cond rfl (fun h => ?_) (fun h => ?_)
  · repeat (refine Run.go rfl ?_)
    refine Run.nilSlot 4 1 false rfl ?_
    refine Run.ret hg rfl ?_
    have : askRes d who = ([], pCode d who) := by
      unfold pCode at h
      unfold askRes pCode
      split
      · rename_i hv
        split
        · rename_i hw
          simp [hv, hw] at h
        · rfl
      · rfl
    rw [this]
    rfl
  have h : pCode d who = 0 := by simpa using h
  obtain ⟨hv, hw⟩ : vD d = true ∧ inr who 0 49 = true := by
    unfold pCode at h
    split at h
    · rename_i hv
      split at h
      · rename_i hw
        exact ⟨hv, hw⟩
      · cases h
    · cases h
  repeat (refine Run.go rfl ?_)
  refine Run.cs rfl (which_ct d e1 e2 _ [i64 who] 0 (askP who) hd fun c hc => askedBy1_ct c e2 who hw (hd.2 c hc)) rfl (rf64 _) ?_
  repeat (refine Run.go rfl ?_)
  refine Run.ret hg rfl ?_
  rw [askRes, hv, hw]
  rfl

noncomputable def X9 : Fx := ⟨Try.prog, tys, 9, Try.f9, [0, 1]⟩
theorem X9_ok : X9.Ok := ⟨Try.func9, tys_ok⟩
theorem specAskedBy_ct (d : Dk) (e1 e2 : Bool) (who : Int) (hd : dkOk d) (hr : dkRng d) : Ct Try.prog 9 [dkR e1 e2 d, i64 who] (lsR (askRes d who)) [] := by
  refine Ct.intro X9 X9_ok rfl rfl rfl rfl fun g hg => ?_
  repeat (refine Run.go rfl ?_)
  refine Run.cs rfl (l06Ok_ct d e1 e2 hd hr) rfl rfl ?_
  repeat (refine Run.go rfl ?_)
  refine Run.cond rfl (fun h => ?_) (fun h => ?_)
  · have h : vD d = false := by simpa using h
    repeat (refine Run.go rfl ?_)
    refine Run.buildSlice [] rfl rfl rfl rfl rfl rfl rfl rfl rfl rfl rfl rfl rfl rfl ?_
    repeat (refine Run.go rfl ?_)
    refine Run.loosen0 4 rfl ?_
    refine Run.ret hg rfl ?_
    rw [askRes, h]
    rfl
  have hv : vD d = true := by simpa using h
  have hb := vD_len hv
  repeat (refine Run.go rfl ?_)
  refine Run.cs rfl (l06Person_ct who) rfl rfl ?_
  repeat (refine Run.go rfl ?_)
  refine Run.cond rfl (fun h => ?_) (fun h => ?_)
  · have h : inr who 0 49 = false := by simpa using h
    repeat (refine Run.go rfl ?_)
    refine Run.buildSlice [] rfl rfl rfl rfl rfl rfl rfl rfl rfl rfl rfl rfl rfl rfl ?_
    repeat (refine Run.go rfl ?_)
    refine Run.loosen0 4 rfl ?_
    refine Run.ret hg rfl ?_
    rw [askRes, hv, h]
    rfl
  have hw : inr who 0 49 = true := by simpa using h
  repeat (refine Run.go rfl ?_)
  refine Run.buildSlice [] rfl rfl rfl rfl rfl rfl rfl rfl rfl rfl rfl rfl rfl rfl ?_
  repeat (refine Run.go rfl ?_)
  refine Run.loosen0 6 rfl ?_
  refine Run.loop (fun j : Nat => ⟨[(1, i64 who), (2, .bp (2, 0) 0), (6, .own 1 false ((idxs (askP who) (d.cs.take j)).map i64)), (7, i64 j)], [((2, 0), .box (dkR e1 e2 d).cells)]⟩) (fun j => j ≤ d.cs.length) (fun j => d.cs.length - j) 0 (by omega) ?_ ?_
  · exact St.Le.mk' ⟨rfl, rfl, rfl, rfl, trivial⟩ ⟨rfl, trivial⟩
  intro j hj IH
  repeat (refine Run.go rfl ?_)
  refine Run.cond rfl (fun h => ?_) (fun h => ?_)
  · have hlt : j < d.cs.length := by simpa using h
    have hil := idxs_len (askP who) (d.cs.take j)
    rw [List.length_take] at hil
    have ew : IntKind.i64.wrap d.cs[j].who = d.cs[j].who := w64' (hr.2 d.cs[j] (by simp)).2.1
    repeat (refine Run.go rfl ?_)
    refine Run.val rfl rfl rfl (ValOk.idx (cpR e2 d.cs[j]) rfl rfl rfl rfl rfl (by omega) (by simp [hlt])) rfl ?_
    iterate 3 (refine Run.go rfl ?_)
    refine Run.region ⟨[(1, i64 who), (2, .bp (2, 0) 0), (6, .own 1 false ((idxs (askP who) (d.cs.take j)).map i64)), (7, i64 j), (50, bo (askP who d.cs[j]))], [((2, 0), .box (dkR e1 e2 d).cells)]⟩ ?_ fun _ hN => ?_
    rotate_left
    · repeat (refine Run.go rfl ?_)
      have fin : ∀ b : Bool, (decide (d.cs[j].st = 2) && decide (d.cs[j].who = who)) = b → True := fun _ _ => trivial
      refine Run.bool 33 rfl (fun hA => ?_) (fun hA => ?_)
      · have hA : d.cs[j].st = 2 := by simpa using hA
        repeat (refine Run.go rfl ?_)
        rw [ew]
        refine Run.bool 42 rfl (fun hB => ?_) (fun hB => ?_)
        · have hB : d.cs[j].who = who := by simpa using hB
          repeat (refine Run.go rfl ?_)
          refine Run.of hN ⟨rfl, rfl, rfl, rfl, ?_, trivial⟩ ⟨rfl, trivial⟩
          show bo true = bo _
          simp [askP, hA, hB]
        · have hB : d.cs[j].who ≠ who := by simpa using hB
          repeat (refine Run.go rfl ?_)
          refine Run.cs rfl (l06Place_ct d.cs[j].q e2 who (hd.2 _ (by simp)) (hr.2 d.cs[j] (by simp)).2.2.2.2) rfl rfl ?_
          repeat (refine Run.go rfl ?_)
          refine Run.of hN ⟨rfl, rfl, rfl, rfl, ?_, trivial⟩ ⟨rfl, trivial⟩
          show bo (decide (0 ≤ fi _ _)) = bo _
          rw [fi_nonneg]
          simp [askP, hB]
      · have hA : d.cs[j].st ≠ 2 := by simpa using hA
        repeat (refine Run.go rfl ?_)
        refine Run.bool 42 rfl (fun hB => by simp at hB) (fun hB => ?_)
        repeat (refine Run.go rfl ?_)
        refine Run.cs rfl (l06Place_ct d.cs[j].q e2 who (hd.2 _ (by simp)) (hr.2 d.cs[j] (by simp)).2.2.2.2) rfl rfl ?_
        repeat (refine Run.go rfl ?_)
        refine Run.of hN ⟨rfl, rfl, rfl, rfl, ?_, trivial⟩ ⟨rfl, trivial⟩
        show bo (decide (0 ≤ fi _ _)) = bo _
        rw [fi_nonneg]
        simp [askP, hA]
    refine Run.cond rfl (fun hA => ?_) (fun hA => ?_)
    · have hA : askP who d.cs[j] = true := hA
      repeat (refine Run.go rfl ?_)
      refine Run.buildSlice [i64 j] rfl rfl rfl rfl rfl rfl rfl rfl rfl rfl rfl rfl rfl rfl ?_
      refine Run.appendo rfl rfl rfl rfl rfl rfl rfl rfl rfl rfl rfl rfl rfl rfl (by show (_ + 1) * 8 ≤ _; simp; omega) (by simp [capMax]; omega) (by decide) rfl ?_
      repeat (refine Run.go rfl ?_)
      refine Run.of (IH (j + 1) (by omega) (by omega)) ⟨rfl, rfl, ?_, ?_, trivial⟩ ⟨rfl, trivial⟩
      · rw [idxs_step hlt, if_pos hA]
        show AV.own _ _ _ = AV.own _ _ _
        simp
      · show i64 _ = _
        rw [wrap_i64 (by omega) (by omega)]
        rfl
    · have hA : askP who d.cs[j] = false := hA
      repeat (refine Run.go rfl ?_)
      refine Run.of (IH (j + 1) (by omega) (by omega)) ⟨rfl, rfl, ?_, ?_, trivial⟩ ⟨rfl, trivial⟩
      · rw [idxs_step hlt, if_neg (by simp [hA])]
        rfl
      · show i64 _ = _
        rw [wrap_i64 (by omega) (by omega)]
        rfl
  · have hj' : j = d.cs.length := by simp at h; omega
    subst hj'
    rw [List.take_length]
    repeat (refine Run.go rfl ?_)
    refine Run.pack 4 rfl rfl rfl ?_
    refine Run.ret hg rfl ?_
    rw [askRes, hv, hw]
    rfl
end Go.Proofs.Ytgbiboepnibibaa
