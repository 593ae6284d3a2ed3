/- Contracts of the program's functions, and what follows from them. -/
import Derived.Test.YtenknlnnnicdeaaGreatDoorK15
import Derived.Test.YtenknlnnnicdeaaGreatDoorME
import Derived.Test.YtenknlnnnicdeaaGreatDoorMC
import Derived.Test.YtenknlnnnicdeaaGreatDoorMF
set_option linter.unusedVariables false
set_option maxRecDepth 100000
set_option linter.unusedSimpArgs false
namespace Go.Proofs.YtenknlnnnicdeaaGreatDoor
open Go Go.Av

/-! Racks, lists of books and of numbers compared. -/

noncomputable def X65 : Fx := ⟨Tryz.prog, tys, 65, Tryz.f65, [0, 1]⟩
theorem X65_ok : X65.Ok := ⟨Tryz.func65, tys_ok⟩
theorem l00Same_ct (l m : List Int) (ex ex' : Bool) (hb : l.length ≤ 1048576) : Ct Tryz.prog 65 [.ro 1 ex (l.map i64), .ro 1 ex' (m.map i64)] (bo (decide (l = m))) [] := by
  refine Ct.intro X65 X65_ok rfl (by kernel_rfl) rfl rfl fun g hg => ?_
  repeat (refine Run.go rfl ?_)
  refine Run.cond rfl (fun h => ?_) (fun h => ?_)
  · repeat (refine Run.go rfl ?_)
    refine Run.ret hg rfl ?_
    show bo _ = _
    congr 2
    simp at h
    symm
    simp
    rintro rfl
    exact h rfl
  · have hlen : l.length = m.length := by simp at h; omega
    repeat (refine Run.go rfl ?_)
    refine Run.loop (fun j : Nat => ⟨[(0, .ro 1 ex (l.map i64)), (1, .ro 1 ex' (m.map i64)), (5, i64 j)], []⟩) (fun j => j ≤ l.length ∧ l.take j = m.take j) (fun j => l.length - j) 0 ⟨by omega, rfl⟩ ?_ ?_
    · exact St.Le.mk' ⟨rfl, rfl, rfl, trivial⟩ trivial
    · rintro j ⟨hj, hjm⟩ IH
      repeat (refine Run.go rfl ?_)
      refine Run.cond rfl (fun h => ?_) (fun h => ?_)
      · have hlt : j < l.length := by simpa using h
        have hlt' : j < m.length := by omega
        repeat (refine Run.go rfl ?_)
        refine Run.draw (by kernel_rfl) (by decide +kernel) ?_
        repeat (refine Quiet.go rfl ?_)
        refine Quiet.val rfl rfl (ValOk.idx (i64 l[j]) rfl rfl rfl rfl rfl (by omega) (by simp [hlt])) rfl ?_
        repeat (refine Quiet.go rfl ?_)
        refine Quiet.val rfl rfl (ValOk.idx (i64 m[j]) rfl rfl rfl rfl rfl (by omega) (by simp [hlt'])) rfl ?_
        repeat (refine Quiet.go rfl ?_)
        refine Quiet.nil ?_
        repeat (refine Run.go rfl ?_)
        refine Run.cond rfl (fun h => ?_) (fun h => ?_)
        · repeat (refine Run.go rfl ?_)
          refine Run.ret hg rfl ?_
          show bo false = bo (decide (l = m))
          rw [decide_eq_false]
          rintro rfl
          simp at h
        · repeat (refine Run.go rfl ?_)
          refine Run.of (IH (j + 1) ⟨by omega, ?_⟩ (by omega)) ⟨rfl, rfl, ?_, trivial⟩ trivial
          · rw [List.take_succ_eq_append_getElem hlt, List.take_succ_eq_append_getElem hlt', hjm]
            simp at h
            rw [h]
          · show i64 _ = _
            rw [wrap_i64 (by omega) (by omega)]
            rfl
      · have hj' : j = l.length := by simp at h; omega
        repeat (refine Run.go rfl ?_)
        refine Run.ret hg rfl ?_
        show bo _ = _
        rw [List.take_of_length_le (by omega), List.take_of_length_le (by omega)] at hjm
        simp [hjm]

noncomputable def X21 : Fx := ⟨Tryz.prog, tys, 21, Tryz.f21, [0, 1]⟩
theorem X21_ok : X21.Ok := ⟨Tryz.func21, tys_ok⟩
theorem SameNumbers_ct (l m : List Int) (ex ex' : Bool) (hb : l.length ≤ 1048576) : Ct Tryz.prog 21 [.ro 1 ex (l.map i64), .ro 1 ex' (m.map i64)] (bo (decide (l = m))) [] := by
  refine Ct.intro X21 X21_ok rfl (by kernel_rfl) rfl rfl fun g hg => ?_
  repeat (refine Run.go rfl ?_)
  refine Run.cs rfl (l00Same_ct l m ex ex' hb) rfl rfl ?_
  repeat (refine Run.go rfl ?_)
  exact Run.ret hg rfl rfl

noncomputable def X20 : Fx := ⟨Tryz.prog, tys, 20, Tryz.f20, [0, 1]⟩
theorem X20_ok : X20.Ok := ⟨Tryz.func20, tys_ok⟩
theorem specSameBooks_ct (a b : List Bk) (e1 e2 : Bool) (ha : a.length ≤ 1048576 ∧ ∀ x ∈ a, bkRng x) (hb : b.length ≤ 1048576 ∧ ∀ x ∈ b, bkRng x) : Ct Tryz.prog 20 [.ro 8 e1 (a.map bkA), .ro 8 e2 (b.map bkA)] (bo (decide (a = b))) [] := by
  refine Ct.intro X20 X20_ok rfl (by kernel_rfl) rfl rfl fun g hg => ?_
  repeat (refine Run.go rfl ?_)
  refine Run.cs rfl (l01Same_ct a b e1 e2 ha hb) rfl rfl ?_
  repeat (refine Run.go rfl ?_)
  exact Run.ret hg rfl rfl

end Go.Proofs.YtenknlnnnicdeaaGreatDoor
