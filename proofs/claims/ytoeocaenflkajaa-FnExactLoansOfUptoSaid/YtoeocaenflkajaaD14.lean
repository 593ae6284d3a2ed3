/- Contracts of the program's functions, and what follows from them. -/
import Derived.Test.YtoeocaenflkajaaD13
set_option linter.unusedVariables false
namespace Go.Proofs.Ytoeocaenflkajaa
open Go Go.Av

/-! Places in queues; how long one waits. -/

noncomputable def X72 : Fx := ⟨Try.prog, tys, 72, Try.f72, [0, 1]⟩
theorem X72_ok : X72.Ok := ⟨Try.func72, tys_ok⟩
theorem index8_ct (l : List Int) (ex : Bool) (n : Int) (hlen : l.length ≤ 1048576) : Ct Try.prog 72 [.ro 1 ex (l.map i8), i8 n] (i64 (fi (fun x => x == n) l)) [] := by
  refine Ct.intro X72 X72_ok rfl rfl rfl rfl fun g hg => ?_
  repeat (refine Run.go rfl ?_)
  refine Run.loop (fun j : Nat => ⟨[(0, .ro 1 ex (l.map i8)), (1, i8 n), (7, i64 l.length), (8, i64 j)], []⟩) (fun j => j ≤ l.length ∧ j ≤ l.findIdx (fun x => x == n)) (fun j => l.length - j) 0 ⟨by omega, by omega⟩ ?_ ?_
  · refine St.Le.mk' ⟨rfl, rfl, ?_, rfl, trivial⟩ trivial
    show i64 (l.map i8).length = _
    simp
  · rintro j ⟨hj1, hj2⟩ IH
    repeat (refine Run.go rfl ?_)
    refine Run.cond rfl (fun h => ?_) (fun h => ?_)
    · have hlt : j < l.length := by simpa using h
      repeat (refine Run.go rfl ?_)
      refine Run.val rfl rfl rfl (ValOk.idx (i8 l[j]) rfl rfl rfl rfl rfl (by omega) (by simp [hlt])) rfl ?_
      repeat (refine Run.go rfl ?_)
      refine Run.cond rfl (fun h => ?_) (fun h => ?_)
      · have h : (l[j] == n) = true := by simp at h; simp [h]
        repeat (refine Run.go rfl ?_)
        refine Run.ret hg rfl ?_
        show i64 _ = _
        rw [fi_at hlt h hj2]
      · have h : (l[j] == n) = false := by simp at h; simp; omega
        repeat (refine Run.go rfl ?_)
        refine Run.of (IH (j + 1) ⟨by omega, fi_next hlt h hj2⟩ (by omega)) ⟨rfl, rfl, rfl, ?_, trivial⟩ trivial
        show i64 _ = _
        rw [wrap_i64 (by omega) (by omega)]
        rfl
    · repeat (refine Run.go rfl ?_)
      have hj : j = l.length := by simp at h; omega
      refine Run.ret hg rfl ?_
      show i64 (-1) = _
      rw [fi_none (by omega)]

def plq (d : Dk) (who book : Int) : Int := fi (fun x => x == who) (d.cs.getD book.toNat cp0).q
def placeRes (d : Dk) (who book : Int) : Int × Int := if dCode d who book = 0 then (if plq d who book < 0 then (0, 6) else (plq d who book, 0)) else (0, dCode d who book)

theorem inr_wrap {who : Int} (h : inr who 0 49 = true) : IntKind.i8.wrap who = who := by
  simp [inr] at h
  exact wrap_i8 (by omega) (by omega)

noncomputable def X31 : Fx := ⟨Try.prog, tys, 31, Try.f31, [0, 1, 2]⟩
theorem X31_ok : X31.Ok := ⟨Try.func31, tys_ok⟩
theorem specPlaceInQueue_ct (d : Dk) (e1 e2 : Bool) (who book : Int) (hd : dkOk d) (hr : dkRng d) : Ct Try.prog 31 [dkR e1 e2 d, i64 who, i64 book] (.tup [i64 (placeRes d who book).1, i64 (placeRes d who book).2]) [] := by
  refine Ct.intro X31 X31_ok rfl rfl rfl rfl fun g hg => ?_
  repeat (refine Run.go rfl ?_)
  refine Run.cs rfl (l06Asked_ct d e1 e2 who book hd hr) rfl rfl ?_
  repeat (refine Run.go rfl ?_)
  refine Run.cond rfl (fun h => ?_) (fun h => ?_)
  · repeat (refine Run.go rfl ?_)
    refine Run.ret hg rfl ?_
    simp at h
    simp [placeRes, h]
    rfl
  · have h : dCode d who book = 0 := by simpa using h
    obtain ⟨_, _, j, rfl, hj⟩ := dCode_0 h
    have hp : plq d who j = fi (fun x => x == who) d.cs[j].q := by simp [plq, hj]
    repeat (refine Run.go rfl ?_)
    refine Run.val rfl rfl rfl (ValOk.idx (cpR e2 d.cs[j]) rfl rfl rfl rfl rfl (by omega) (by simp [hj])) rfl ?_
    repeat (refine Run.go rfl ?_)
    refine Run.cs rfl (l06Place_ct d.cs[j].q e2 who (hd.2 _ (by simp)) (hr.2 d.cs[j] (by simp)).2.2.2.2) rfl rfl ?_
    repeat (refine Run.go rfl ?_)
    rw [← hp]
    refine Run.cond rfl (fun h2 => ?_) (fun h2 => ?_)
    · repeat (refine Run.go rfl ?_)
      refine Run.ret hg rfl ?_
      simp at h2
      simp [placeRes, h, h2]
      rfl
    · repeat (refine Run.go rfl ?_)
      refine Run.ret hg rfl ?_
      have h2 : ¬ plq d who j < 0 := by simpa using h2
      simp only [placeRes, if_pos h, if_neg h2]
      rfl

noncomputable def X32 : Fx := ⟨Try.prog, tys, 32, Try.f32, [0, 1, 2]⟩
theorem X32_ok : X32.Ok := ⟨Try.func32, tys_ok⟩
theorem implPlaceInQueue_ct (d : Dk) (e1 e2 : Bool) (who book : Int) (hd : dkOk d) (hr : dkRng d) : Ct Try.prog 32 [dkR e1 e2 d, i64 who, i64 book] (.tup [i64 (placeRes d who book).1, i64 (placeRes d who book).2]) [] := by
  refine Ct.intro X32 X32_ok rfl rfl rfl rfl fun g hg => ?_
  repeat (refine Run.go rfl ?_)
  refine Run.cs rfl (deskCode_ct d e1 e2 who book hd hr) rfl rfl ?_
  repeat (refine Run.go rfl ?_)
  refine Run.cond rfl (fun h => ?_) (fun h => ?_)
  · repeat (refine Run.go rfl ?_)
    refine Run.ret hg rfl ?_
    simp at h
    simp [placeRes, h]
    rfl
  · have h : dCode d who book = 0 := by simpa using h
    obtain ⟨_, hw, j, rfl, hj⟩ := dCode_0 h
    have hp : plq d who j = fi (fun x => x == who) d.cs[j].q := by simp [plq, hj]
    have ew := inr_wrap hw
    repeat (refine Run.go rfl ?_)
    refine Run.val rfl rfl rfl (ValOk.idx (cpR e2 d.cs[j]) rfl rfl rfl rfl rfl (by omega) (by simp [hj])) rfl ?_
    repeat (refine Run.go rfl ?_)
    rw [ew]
    refine Run.cs rfl (index8_ct d.cs[j].q e2 who (hd.2 _ (by simp))) rfl rfl ?_
    repeat (refine Run.go rfl ?_)
    rw [← hp]
    refine Run.cond rfl (fun h2 => ?_) (fun h2 => ?_)
    · repeat (refine Run.go rfl ?_)
      refine Run.ret hg rfl ?_
      simp at h2
      simp [placeRes, h, h2]
      rfl
    · repeat (refine Run.go rfl ?_)
      refine Run.ret hg rfl ?_
      have h2 : ¬ plq d who j < 0 := by simpa using h2
      simp only [placeRes, if_pos h, if_neg h2]
      rfl
end Go.Proofs.Ytoeocaenflkajaa
