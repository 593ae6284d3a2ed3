/- A part of a proof in the texts 'av': contracts of the program's functions. -/
import Derived.Test.YtlcapagkibamcaaWL2
namespace Go.Proofs.Ytlcapagkibamcaa
open Go Go.Av

noncomputable def X11 : Fx := ⟨Try.prog, tys, 11, Try.f11, [0, 1]⟩
theorem X11_ok : X11.Ok := ⟨Try.func11, tys_ok⟩

theorem eqInt64S_ct (l m : List Int) (ex ex' : Bool) (hb : l.length ≤ 1048576) : Ct Try.prog 11 [.ro 1 ex (l.map i64), .ro 1 ex' (m.map i64)] (bo (decide (l = m))) [] := by
  refine Ct.intro X11 X11_ok rfl rfl rfl rfl fun g hg => ?_
  repeat (refine Run.go rfl ?_)
  refine Run.cond rfl (fun h => ?_) (fun h => ?_)
  · repeat (refine Run.go rfl ?_)
    refine Run.ret hg rfl ?_
    show bo _ = _
    congr 2
    simp at h
    symm
    simp
    rintro rfl
    exact h rfl
  · have hlen : l.length = m.length := by simp at h; omega
    repeat (refine Run.go rfl ?_)
    refine Run.loop (fun j : Nat => ⟨[(0, .ro 1 ex (l.map i64)), (1, .ro 1 ex' (m.map i64)), (5, i64 j)], []⟩) (fun j => j ≤ l.length ∧ l.take j = m.take j) (fun j => l.length - j) 0 ⟨by omega, rfl⟩ ?_ ?_
    · exact St.Le.mk' ⟨rfl, rfl, rfl, trivial⟩ trivial
    · rintro j ⟨hj, hjm⟩ IH
      repeat (refine Run.go rfl ?_)
      refine Run.cond rfl (fun h => ?_) (fun h => ?_)
      · have hlt : j < l.length := by simpa using h
        have hlt' : j < m.length := by omega
        repeat (refine Run.go rfl ?_)
        refine Run.draw (by kernel_rfl) (by decide +kernel) ?_
        repeat (refine Quiet.go rfl ?_)
        refine Quiet.val rfl rfl (ValOk.idx (i64 l[j]) rfl rfl rfl rfl rfl (by omega) (by simp [hlt])) rfl ?_
        repeat (refine Quiet.go rfl ?_)
        refine Quiet.val rfl rfl (ValOk.idx (i64 m[j]) rfl rfl rfl rfl rfl (by omega) (by simp [hlt'])) rfl ?_
        repeat (refine Quiet.go rfl ?_)
        refine Quiet.nil ?_
        repeat (refine Run.go rfl ?_)
        refine Run.cond rfl (fun h => ?_) (fun h => ?_)
        · repeat (refine Run.go rfl ?_)
          refine Run.ret hg rfl ?_
          show bo _ = _
          congr 2
          symm
          simp at h ⊢
          rintro rfl
          exact h rfl
        · repeat (refine Run.go rfl ?_)
          refine Run.of (IH (j + 1) ⟨by omega, ?_⟩ (by omega)) ⟨rfl, rfl, ?_, trivial⟩ trivial
          · rw [List.take_succ_eq_append_getElem hlt, List.take_succ_eq_append_getElem hlt', hjm]
            simp at h
            rw [h]
          · show i64 _ = _
            rw [wrap_i64 (by omega) (by omega)]
            rfl
      · have hj' : j = l.length := by simp at h; omega
        repeat (refine Run.go rfl ?_)
        refine Run.ret hg rfl ?_
        show bo _ = _
        rw [List.take_of_length_le (by omega), List.take_of_length_le (by omega)] at hjm
        simp [hjm]

def anyBad (l : List Int) : Bool := l.all fun x => inr x 0 999
def wcode (l : List Int) (s : Int) : Int := if !inr s 0 999 then 2 else if !anyBad l then 2 else if l.length > 60 then 3 else 0

noncomputable def X28 : Fx := ⟨Try.prog, tys, 28, Try.f28, [0, 1]⟩
theorem X28_ok : X28.Ok := ⟨Try.func28, tys_ok⟩
theorem l07Walk_ct (l : List Int) (ex : Bool) (s : Int) (hb : l.length ≤ 1048576) : Ct Try.prog 28 [.ro 1 ex (l.map i64), i64 s] (i64 (wcode l s)) [] := by
  refine Ct.intro X28 X28_ok rfl rfl rfl rfl fun g hg => ?_
  repeat (refine Run.go rfl ?_)
  refine Run.cs rfl (l01Class_ct s) rfl rfl ?_
  repeat (refine Run.go rfl ?_)
  refine Run.cond rfl (fun h => ?_) (fun h => ?_)
  · repeat (refine Run.go rfl ?_)
    refine Run.ret hg rfl ?_
    show i64 _ = _
    simp [wcode, h]
  · repeat (refine Run.go rfl ?_)
    refine Run.loop (fun j : Nat => ⟨[(0, .ro 1 ex (l.map i64)), (1, i64 s), (5, i64 j)], []⟩) (fun j => j ≤ l.length ∧ anyBad (l.take j) = true) (fun j => l.length - j) 0 ⟨by omega, rfl⟩ ?_ ?_
    · exact St.Le.mk' ⟨rfl, rfl, rfl, trivial⟩ trivial
    · rintro j ⟨hj, hjm⟩ IH
      repeat (refine Run.go rfl ?_)
      refine Run.cond rfl (fun h' => ?_) (fun h' => ?_)
      · have hlt : j < l.length := by simpa using h'
        repeat (refine Run.go rfl ?_)
        refine Run.val rfl rfl rfl (ValOk.idx (i64 l[j]) rfl rfl rfl rfl rfl (by omega) (by simp [hlt])) rfl ?_
        repeat (refine Run.go rfl ?_)
        refine Run.cs rfl (l01Class_ct l[j]) rfl rfl ?_
        repeat (refine Run.go rfl ?_)
        refine Run.cond rfl (fun h2 => ?_) (fun h2 => ?_)
        · repeat (refine Run.go rfl ?_)
          refine Run.ret hg rfl ?_
          show i64 _ = _
          have : anyBad l = false := by
            unfold anyBad
            rw [List.all_eq_false]
            exact ⟨l[j], by simp, by simpa using h2⟩
          simp [wcode, this]
        · repeat (refine Run.go rfl ?_)
          refine Run.of (IH (j + 1) ⟨by omega, ?_⟩ (by omega)) ⟨rfl, rfl, ?_, trivial⟩ trivial
          · rw [List.take_succ_eq_append_getElem hlt]
            simp only [anyBad, List.all_append, Bool.and_eq_true] at hjm ⊢
            exact ⟨hjm, by simpa using h2⟩
          · show i64 _ = _
            rw [wrap_i64 (by omega) (by omega)]
            rfl
      · have hj' : j = l.length := by simp at h'; omega
        subst hj'
        rw [List.take_length] at hjm
        repeat (refine Run.go rfl ?_)
        refine Run.cond rfl (fun h2 => ?_) (fun h2 => ?_)
        · repeat (refine Run.go rfl ?_)
          refine Run.ret hg rfl ?_
          show i64 _ = _
          have : 60 < l.length := by simp at h2; omega
          simp at h
          simp [wcode, hjm, this, h]
        · repeat (refine Run.go rfl ?_)
          refine Run.ret hg rfl ?_
          show i64 _ = _
          have : ¬ 60 < l.length := by simp at h2; omega
          simp at h
          simp [wcode, hjm, this, h]

noncomputable def X30 : Fx := ⟨Try.prog, tys, 30, Try.f30, [0, 1]⟩
theorem X30_ok : X30.Ok := ⟨Try.func30, tys_ok⟩
theorem walkCode_ct (l : List Int) (ex : Bool) (s : Int) (hb : l.length ≤ 1048576) : Ct Try.prog 30 [.ro 1 ex (l.map i64), i64 s] (i64 (wcode l s)) [] := by
  refine Ct.intro X30 X30_ok rfl rfl rfl rfl fun g hg => ?_
  repeat (refine Run.go rfl ?_)
  refine Run.cs rfl (within_ct s 0 999) rfl rfl ?_
  repeat (refine Run.go rfl ?_)
  refine Run.bool 9 rfl (fun h => ?_) (fun h => ?_)
  · repeat (refine Run.go rfl ?_)
    refine Run.cond rfl (fun h2 => ?_) (fun h2 => by simp at h2)
    repeat (refine Run.go rfl ?_)
    refine Run.ret hg rfl ?_
    show i64 _ = _
    simp at h
    simp [wcode, h]
  · repeat (refine Run.go rfl ?_)
    refine Run.cs rfl (areAll_ct l ex 59 (fun x => inr x 0 999) (by omega) (fun x _ => walkCode1_ct x)) rfl rfl ?_
    repeat (refine Run.go rfl ?_)
    refine Run.cond rfl (fun h2 => ?_) (fun h2 => ?_)
    · repeat (refine Run.go rfl ?_)
      refine Run.ret hg rfl ?_
      show i64 _ = _
      have : anyBad l = false := by simpa [anyBad] using h2
      simp [wcode, this]
    · repeat (refine Run.go rfl ?_)
      have h3 : anyBad l = true := by simpa [anyBad] using h2
      simp at h
      refine Run.cond rfl (fun h2 => ?_) (fun h2 => ?_)
      · repeat (refine Run.go rfl ?_)
        refine Run.ret hg rfl ?_
        show i64 _ = _
        have : 60 < l.length := by simp at h2; omega
        simp [wcode, h3, this, h]
      · repeat (refine Run.go rfl ?_)
        refine Run.ret hg rfl ?_
        show i64 _ = _
        have : ¬ 60 < l.length := by simp at h2; omega
        simp [wcode, h3, this, h]
end Go.Proofs.Ytlcapagkibamcaa
