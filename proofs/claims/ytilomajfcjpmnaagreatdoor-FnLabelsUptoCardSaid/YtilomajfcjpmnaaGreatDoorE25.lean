/- Contracts of the program's functions, and what follows from them. -/
import Derived.Test.YtilomajfcjpmnaaGreatDoorE24
set_option linter.unusedVariables false
set_option maxRecDepth 100000
set_option linter.unusedSimpArgs false
namespace Go.Proofs.YtilomajfcjpmnaaGreatDoor
open Go Go.Av

/-! The reference: a text put into a sorted list. -/

theorem str_lt (l m : List UInt8) : Op.bytesLess (⟨l.toArray⟩ : ByteArray).toList (⟨m.toArray⟩ : ByteArray).toList = decide (l < m) := by
  rw [ByteArray.toList_mk, ByteArray.toList_mk]
  exact bytesLess_lt l m

theorem oneS (l : List (List UInt8)) : oneC (l.map str) = true := by
  simp only [oneC, List.all_eq_true, List.mem_map]
  rintro y ⟨x, _, rfl⟩
  intro z hz
  simp only [str, AV.cells, List.mem_singleton] at hz
  subst hz
  rfl

noncomputable def X68 : Fx := ⟨Tryz.prog, tys, 68, Tryz.f68, [0, 1]⟩
theorem X68_ok : X68.Ok := ⟨Tryz.func68, tys_ok⟩
theorem l07Put_ct (l : List (List UInt8)) (x : List UInt8) (hlen : l.length ≤ 1048576) : Ct Tryz.prog 68 [.ro 1 false (l.map str), str x] (.ro 1 false ((putS x l).map str)) [] := by
  have hat := List.findIdx_le_length (p := fun a => !decide (a < x)) (xs := l)
  have hdef : atS x l = l.findIdx fun a => !decide (a < x) := rfl
  refine Ct.intro X68 X68_ok rfl (by kernel_rfl) rfl rfl fun g hg => ?_
  repeat (refine Run.go rfl ?_)
  refine Run.loop (fun j : Nat => ⟨[(0, .ro 1 false (l.map str)), (1, str x), (5, i64 j)], []⟩) (fun j => j ≤ l.length ∧ j ≤ atS x l) (fun j => l.length - j) 0 ⟨by omega, by omega⟩ ?_ ?_
  · exact St.Le.mk' ⟨rfl, rfl, rfl, trivial⟩ trivial
  rintro j ⟨hj, hja⟩ IH
  iterate 2 (refine Run.go rfl ?_)
  refine Run.region ⟨[(0, .ro 1 false (l.map str)), (1, str x), (5, i64 j), (18, bo (decide (j < atS x l)))], []⟩ ?_ fun _ hN => ?_
  rotate_left
  · repeat (refine Run.go rfl ?_)
    refine Run.bool 11 rfl (fun h => ?_) (fun h => ?_)
    · have hlt : j < l.length := by
        have h : decide ((j : Int) < ((l.map str).length : Nat)) = true := h
        rw [List.length_map] at h
        simpa using h
      have hb : decide (l[j] < x) = decide (j < atS x l) := by
        by_cases hl : l[j] < x
        · rw [decide_eq_true hl, decide_eq_true]
          have : j ≠ atS x l := by
            rintro e
            have hlt2 : atS x l < l.length := by omega
            have h2 : (!decide (l[atS x l] < x)) = true := List.findIdx_getElem (w := hlt2)
            simp only [← e] at h2
            rw [decide_eq_true hl] at h2
            cases h2
          omega
        · rw [decide_eq_false hl, decide_eq_false]
          intro h2
          have := List.not_of_lt_findIdx h2
          apply hl
          simpa using this
      repeat (refine Run.go rfl ?_)
      refine Run.val rfl rfl rfl (ValOk.idx (str l[j]) rfl rfl rfl rfl rfl (by omega) (by simp [hlt])) rfl ?_
      repeat (refine Run.go rfl ?_)
      refine Run.of hN ⟨rfl, rfl, rfl, ?_, trivial⟩ trivial
      show bo _ = bo _
      rw [← hb, ← str_lt]
    · have hlt : ¬ j < l.length := by
        have h : decide ((j : Int) < ((l.map str).length : Nat)) = false := h
        rw [List.length_map] at h
        simpa using h
      have hb : decide (j < atS x l) = false := decide_eq_false (by omega)
      repeat (refine Run.go rfl ?_)
      refine Run.of hN ⟨rfl, rfl, rfl, ?_, trivial⟩ trivial
      rw [hb]
      rfl
  repeat (refine Run.go rfl ?_)
  refine Run.cond rfl (fun h => ?_) (fun h => ?_)
  · have h : j < atS x l := of_decide_eq_true h
    repeat (refine Run.go rfl ?_)
    refine Run.of (IH (j + 1) ⟨by omega, by omega⟩ (by omega)) ⟨rfl, rfl, ?_, trivial⟩ trivial
    show i64 _ = i64 _
    rw [wrap_i64 (by omega) (by omega)]
    rfl
  have hje : j = atS x l := by
    have := of_decide_eq_false h
    omega
  clear IH h hja
  have hput : putS x l = if l[j]? = some x then l else l.take j ++ x :: l.drop j := by rw [hje]; rfl
  clear hje
  iterate 3 (refine Run.go rfl ?_)
  refine Run.region ⟨[(0, .ro 1 false (l.map str)), (1, str x), (5, i64 j), (32, bo (decide (l[j]? = some x)))], []⟩ ?_ fun _ hN => ?_
  rotate_left
  · repeat (refine Run.go rfl ?_)
    refine Run.bool 25 rfl (fun h => ?_) (fun h => ?_)
    · have hlt : j < l.length := by
        have h : decide ((j : Int) < ((l.map str).length : Nat)) = true := h
        rw [List.length_map] at h
        simpa using h
      have hb : decide (l[j]? = some x) = decide (l[j] = x) := by
        rw [List.getElem?_eq_getElem hlt]
        simp
      repeat (refine Run.go rfl ?_)
      refine Run.val rfl rfl rfl (ValOk.idx (str l[j]) rfl rfl rfl rfl rfl (by omega) (by simp [hlt])) rfl ?_
      repeat (refine Run.go rfl ?_)
      refine Run.of hN ⟨rfl, rfl, rfl, ?_, trivial⟩ trivial
      show bo _ = bo _
      rw [hb, ← str_eq]
    · have hlt : ¬ j < l.length := by
        have h : decide ((j : Int) < ((l.map str).length : Nat)) = false := h
        rw [List.length_map] at h
        simpa using h
      have hb : decide (l[j]? = some x) = false := decide_eq_false (by rw [List.getElem?_eq_none (by omega)]; simp)
      repeat (refine Run.go rfl ?_)
      refine Run.of hN ⟨rfl, rfl, rfl, ?_, trivial⟩ trivial
      rw [hb]
      rfl
  repeat (refine Run.go rfl ?_)
  refine Run.cond rfl (fun h => ?_) (fun h => ?_)
  · have h : l[j]? = some x := of_decide_eq_true h
    rw [if_pos h] at hput
    rw [hput] at hg
    repeat (refine Run.go rfl ?_)
    exact Run.ret hg rfl rfl
  have h : ¬ l[j]? = some x := of_decide_eq_false h
  rw [if_neg h] at hput
  repeat (refine Run.go rfl ?_)
  refine Run.buildSlice [str x] rfl rfl rfl rfl rfl rfl rfl rfl rfl rfl rfl rfl rfl rfl ?_
  repeat (refine Run.go rfl ?_)
  refine Run.val rfl rfl rfl (ValOk.cut (ys := (l.drop j).map str) (l := (j : Int)) (h := ((l.map str).length : Int)) rfl rfl rfl rfl rfl rfl (by omega) (by rw [List.length_map]; omega) (by simp) (by simp only [Int.toNat_natCast, List.take_length, List.map_drop])) rfl ?_
  refine Run.unpack 35 rfl rfl ?_
  refine Run.appendr rfl rfl rfl rfl rfl rfl rfl rfl rfl rfl rfl rfl rfl (oneS _) (by show (1 + ((l.drop j).map str).length) * 16 ≤ _; simp; omega) (by simp [capMax]; omega) rfl ?_
  repeat (refine Run.go rfl ?_)
  refine Run.buildSlice [] rfl rfl rfl rfl rfl rfl rfl rfl rfl rfl rfl rfl rfl rfl ?_
  repeat (refine Run.go rfl ?_)
  refine Run.val rfl rfl rfl (ValOk.cut (ys := (l.take j).map str) (l := (0 : Int)) (h := (j : Int)) rfl rfl rfl rfl rfl rfl (by omega) (by omega) (by rw [List.length_map]; omega) (by simp only [Int.toNat_natCast, Int.toNat_zero, List.drop_zero, List.map_take])) rfl ?_
  refine Run.unpack 40 rfl rfl ?_
  refine Run.appendr rfl rfl rfl rfl rfl rfl rfl rfl rfl rfl rfl rfl rfl (oneS _) (by show (0 + ((l.take j).map str).length) * 16 ≤ _; simp; omega) (by simp [capMax]; omega) rfl ?_
  refine Run.freeze 6 (v' := .ro 1 false ((x :: l.drop j).map str)) rfl rfl (by show AV.ro 1 false (AV.frzL (([x] ++ l.drop j).map str)) = _; rw [frzS]; rfl) ?_
  repeat (refine Run.go rfl ?_)
  refine Run.unpack 44 rfl rfl ?_
  refine Run.appendr rfl rfl rfl rfl rfl rfl rfl rfl rfl rfl rfl rfl rfl (oneS _) (by show (((l.take j).map str).length + ((x :: l.drop j).map str).length) * 16 ≤ _; simp; omega) (by simp [capMax]; omega) rfl ?_
  repeat (refine Run.go rfl ?_)
  refine Run.freeze 4 (v' := .ro 1 false ((putS x l).map str)) rfl rfl (by
    rw [hput, List.map_append]
    show AV.ro 1 false (AV.frzL (([] ++ (l.take j).map str) ++ (x :: l.drop j).map str)) = _
    rw [List.nil_append, ← List.map_append, frzS]) ?_
  exact Run.ret hg rfl rfl
end Go.Proofs.YtilomajfcjpmnaaGreatDoor
