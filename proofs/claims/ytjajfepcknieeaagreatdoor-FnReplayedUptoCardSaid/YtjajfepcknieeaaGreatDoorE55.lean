/- Contracts of the program's functions, and what follows from them. -/
import Derived.Test.YtjajfepcknieeaaGreatDoorE54
import Derived.Test.YtjajfepcknieeaaGreatDoorMF
set_option linter.unusedVariables false
set_option maxRecDepth 100000
set_option linter.unusedSimpArgs false
namespace Go.Proofs.YtjajfepcknieeaaGreatDoor
open Go Go.Av

/-! Acts compared as wholes. -/

theorem i8_wf {n : Int} (h : i8r n) : (Lit.int .i8 n).wf = true := by
  simpa [Lit.wf, IntKind.min, IntKind.max, IntKind.signed, IntKind.bits, i8r] using h

theorem ac_key (x : Ac) (hr : acRng x) : ∃ l, keyOf Tryz.prog 43 (.agg (acV x).toArray) = some l := by
  obtain ⟨r0, r1, r2⟩ := hr
  have e0 := i8_wf r0
  have e1 := i8_wf r1
  have e2 := i8_wf r2
  have u0 := Tryz.underlying43
  have u1 := Tryz.underlying41
  have hk : Tryz.prog.keyType 43 = true := by kernel_rfl
  have hf : (Value.agg (acV x).toArray).formed Tryz.prog 43 = true := by kernel_rfl
  have c0 : Tryz.prog.cellsOf 43 = 3 := by kernel_rfl
  have c1 : Tryz.prog.cellsOf 41 = 1 := by kernel_rfl
  obtain ⟨N, hN⟩ : ∃ N, Tryz.prog.types.size + 1 = N + 4 := ⟨Tryz.prog.types.size - 3, by kernel_rfl⟩
  refine ⟨.string (keyBytes [.int .i8 x.what, .int .i8 x.who, .int .i8 x.book]), ?_⟩
  unfold keyOf
  rw [u0]
  simp only [hk, hf, Bool.and_self, if_true, hN]
  simp [Program.keyLits, u0, u1, c0, c1, acV, Value.cells, e0, e1, e2, List.range_succ]
theorem acK : KTy Tryz.prog 43 acV acRng := by
  refine KTy.of 5 5 (by decide) (by kernel_rfl) (by kernel_rfl) (by rw [Tryz.underlying43]) ac_key ?_ (by kernel_rfl)
  intro a b h
  cases a; cases b
  simp [acV] at h
  obtain ⟨h1, h2, h3⟩ := h
  simp [h1, h2, h3]

noncomputable def X14 : Fx := ⟨Tryz.prog, tys, 14, Tryz.f14, [0, 1]⟩
theorem X14_ok : X14.Ok := ⟨Tryz.func14, tys_ok⟩
theorem A2SameActs_ct (l m : List Ac) (ex ex' : Bool) (hb : l.length ≤ 1048576) (hl : ∀ a ∈ l, acRng a) (hm : ∀ a ∈ m, acRng a) : Ct Tryz.prog 14 [.ro 3 ex (l.map acA), .ro 3 ex' (m.map acA)] (bo (decide (l = m))) [] := by
  refine Ct.intro X14 X14_ok rfl (by kernel_rfl) rfl rfl fun g hg => ?_
  repeat (refine Run.go rfl ?_)
  refine Run.cond rfl (fun h => ?_) (fun h => ?_)
  · repeat (refine Run.go rfl ?_)
    refine Run.ret hg rfl ?_
    show bo _ = _
    congr 2
    simp at h
    symm
    simp
    rintro rfl
    exact h rfl
  · have hlen : l.length = m.length := by simp at h; omega
    repeat (refine Run.go rfl ?_)
    refine Run.loop (fun j : Nat => ⟨[(0, .ro 3 ex (l.map acA)), (1, .ro 3 ex' (m.map acA)), (5, i64 j)], []⟩) (fun j => j ≤ l.length ∧ l.take j = m.take j) (fun j => l.length - j) 0 ⟨by omega, rfl⟩ ?_ ?_
    · exact St.Le.mk' ⟨rfl, rfl, rfl, trivial⟩ trivial
    · rintro j ⟨hj, hjm⟩ IH
      repeat (refine Run.go rfl ?_)
      refine Run.cond rfl (fun h => ?_) (fun h => ?_)
      · have hlt : j < l.length := by simpa using h
        have hlt' : j < m.length := by omega
        repeat (refine Run.go rfl ?_)
        refine Run.draw (by kernel_rfl) (by decide +kernel) ?_
        repeat (refine Quiet.go rfl ?_)
        refine Quiet.val rfl rfl (ValOk.idx (acA l[j]) rfl rfl rfl rfl rfl (by omega) (by simp [hlt])) rfl ?_
        repeat (refine Quiet.go rfl ?_)
        refine Quiet.val rfl rfl (ValOk.idx (acA m[j]) rfl rfl rfl rfl rfl (by omega) (by simp [hlt'])) rfl ?_
        repeat (refine Quiet.go rfl ?_)
        refine Quiet.val rfl rfl (ValOk.neK l[j] m[j] rfl acK rfl rfl (hl _ (by simp)) (hm _ (by simp))) rfl ?_
        repeat (refine Quiet.go rfl ?_)
        refine Quiet.nil ?_
        repeat (refine Run.go rfl ?_)
        refine Run.cond rfl (fun h => ?_) (fun h => ?_)
        · repeat (refine Run.go rfl ?_)
          refine Run.ret hg rfl ?_
          show bo false = bo (decide (l = m))
          rw [decide_eq_false]
          rintro rfl
          simp at h
        · repeat (refine Run.go rfl ?_)
          refine Run.of (IH (j + 1) ⟨by omega, ?_⟩ (by omega)) ⟨rfl, rfl, ?_, trivial⟩ trivial
          · rw [List.take_succ_eq_append_getElem hlt, List.take_succ_eq_append_getElem hlt', hjm]
            simp at h
            rw [h]
          · show i64 _ = _
            rw [wrap_i64 (by omega) (by omega)]
            rfl
      · have hj' : j = l.length := by simp at h; omega
        repeat (refine Run.go rfl ?_)
        refine Run.ret hg rfl ?_
        show bo _ = _
        rw [List.take_of_length_le (by omega), List.take_of_length_le (by omega)] at hjm
        simp [hjm]
end Go.Proofs.YtjajfepcknieeaaGreatDoor
