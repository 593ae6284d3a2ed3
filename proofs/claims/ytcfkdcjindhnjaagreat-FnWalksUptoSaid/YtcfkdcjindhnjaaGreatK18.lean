/- Contracts of the program's functions, and what follows from them. -/
import Derived.Test.YtcfkdcjindhnjaaGreatK15
import Derived.Test.YtcfkdcjindhnjaaGreatME
import Derived.Test.YtcfkdcjindhnjaaGreatMC
import Derived.Test.YtcfkdcjindhnjaaGreatMF
set_option linter.unusedVariables false
set_option maxRecDepth 100000
set_option linter.unusedSimpArgs false
namespace Go.Proofs.YtcfkdcjindhnjaaGreat
open Go Go.Av

/-! Racks, lists of books and of numbers compared. -/

noncomputable def X34 : Fx := ⟨Tryz.prog, tys, 34, Tryz.f34, [0, 1]⟩
theorem X34_ok : X34.Ok := ⟨Tryz.func34, tys_ok⟩
theorem l00Same_ct (l m : List Int) (ex ex' : Bool) (hb : l.length ≤ 1048576) : Ct Tryz.prog 34 [.ro 1 ex (l.map i64), .ro 1 ex' (m.map i64)] (bo (decide (l = m))) [] := by
  refine Ct.intro X34 X34_ok rfl (by kernel_rfl) rfl rfl fun g hg => ?_
  repeat (refine Run.go rfl ?_)
  refine Run.cond rfl (fun h => ?_) (fun h => ?_)
  · repeat (refine Run.go rfl ?_)
    refine Run.ret hg rfl ?_
    show bo _ = _
    congr 2
    simp at h
    symm
    simp
    rintro rfl
    exact h rfl
  · have hlen : l.length = m.length := by simp at h; omega
    repeat (refine Run.go rfl ?_)
    refine Run.loop (fun j : Nat => ⟨[(0, .ro 1 ex (l.map i64)), (1, .ro 1 ex' (m.map i64)), (5, i64 j)], []⟩) (fun j => j ≤ l.length ∧ l.take j = m.take j) (fun j => l.length - j) 0 ⟨by omega, rfl⟩ ?_ ?_
    · exact St.Le.mk' ⟨rfl, rfl, rfl, trivial⟩ trivial
    · rintro j ⟨hj, hjm⟩ IH
      repeat (refine Run.go rfl ?_)
      refine Run.cond rfl (fun h => ?_) (fun h => ?_)
      · have hlt : j < l.length := by simpa using h
        have hlt' : j < m.length := by omega
        repeat (refine Run.go rfl ?_)
        refine Run.draw (by kernel_rfl) (by decide +kernel) ?_
        repeat (refine Quiet.go rfl ?_)
        refine Quiet.val rfl rfl (ValOk.idx (i64 l[j]) rfl rfl rfl rfl rfl (by omega) (by simp [hlt])) rfl ?_
        repeat (refine Quiet.go rfl ?_)
        refine Quiet.val rfl rfl (ValOk.idx (i64 m[j]) rfl rfl rfl rfl rfl (by omega) (by simp [hlt'])) rfl ?_
        repeat (refine Quiet.go rfl ?_)
        refine Quiet.nil ?_
        repeat (refine Run.go rfl ?_)
        refine Run.cond rfl (fun h => ?_) (fun h => ?_)
        · repeat (refine Run.go rfl ?_)
          refine Run.ret hg rfl ?_
          show bo false = bo (decide (l = m))
          rw [decide_eq_false]
          rintro rfl
          simp at h
        · repeat (refine Run.go rfl ?_)
          refine Run.of (IH (j + 1) ⟨by omega, ?_⟩ (by omega)) ⟨rfl, rfl, ?_, trivial⟩ trivial
          · rw [List.take_succ_eq_append_getElem hlt, List.take_succ_eq_append_getElem hlt', hjm]
            simp at h
            rw [h]
          · show i64 _ = _
            rw [wrap_i64 (by omega) (by omega)]
            rfl
      · have hj' : j = l.length := by simp at h; omega
        repeat (refine Run.go rfl ?_)
        refine Run.ret hg rfl ?_
        show bo _ = _
        rw [List.take_of_length_le (by omega), List.take_of_length_le (by omega)] at hjm
        simp [hjm]

noncomputable def X10 : Fx := ⟨Tryz.prog, tys, 10, Tryz.f10, [0, 1]⟩
theorem X10_ok : X10.Ok := ⟨Tryz.func10, tys_ok⟩
theorem SameNumbers_ct (l m : List Int) (ex ex' : Bool) (hb : l.length ≤ 1048576) : Ct Tryz.prog 10 [.ro 1 ex (l.map i64), .ro 1 ex' (m.map i64)] (bo (decide (l = m))) [] := by
  refine Ct.intro X10 X10_ok rfl (by kernel_rfl) rfl rfl fun g hg => ?_
  repeat (refine Run.go rfl ?_)
  refine Run.cs rfl (l00Same_ct l m ex ex' hb) rfl rfl ?_
  repeat (refine Run.go rfl ?_)
  exact Run.ret hg rfl rfl

noncomputable def X18 : Fx := ⟨Tryz.prog, tys, 18, Tryz.f18, [0, 1]⟩
theorem X18_ok : X18.Ok := ⟨Tryz.func18, tys_ok⟩
theorem HasNumber_ct (l : List Int) (ex : Bool) (n : Int) (hlen : l.length ≤ 1048576) : Ct Tryz.prog 18 [.ro 1 ex (l.map i64), i64 n] (bo (l.any fun x => x == n)) [] := by
  refine Ct.intro X18 X18_ok rfl (by kernel_rfl) rfl rfl fun g hg => ?_
  repeat (refine Run.go rfl ?_)
  refine Run.cs rfl (l00Has_ct l ex n hlen) rfl rfl ?_
  repeat (refine Run.go rfl ?_)
  exact Run.ret hg rfl rfl

end Go.Proofs.YtcfkdcjindhnjaaGreat
