/- Contracts of the program's functions, and what follows from them. -/
import Derived.Test.YtilomajfcjpmnaaGreatDoorE22
import Derived.Test.YtilomajfcjpmnaaGreatDoorMH
import Derived.Test.YtilomajfcjpmnaaGreatDoorSS
set_option linter.unusedVariables false
set_option maxRecDepth 100000
set_option linter.unusedSimpArgs false
namespace Go.Proofs.YtilomajfcjpmnaaGreatDoor
open Go Go.Av

/-! Labels of a list: struck, sorted, each once. -/

def srtS (l : List (List UInt8)) : List (List UInt8) := l.mergeSort fun x y => decide (x ≤ y)
theorem srtS_len (l : List (List UInt8)) : (srtS l).length = l.length := List.length_mergeSort _

theorem SortS_ct (l : List (List UInt8)) (ex : Bool) (hlen : l.length ≤ 1048576) : Ct Tryz.prog 113 [.own 1 ex (l.map str)] (.lit (.tuple #[])) [.own 1 ex ((srtS l).map str)] :=
  Ct.turn Tryz.func113 (by kernel_rfl) (by kernel_rfl) l (srtS l) ex (srtS_len l) (fun w b c hH hb => Tryz.slices_Sort_string b 0 c l w hH hb (by omega)) (fun w A => Tryz.slices_Sort_string_none A 0 w)

theorem cmp_len (l : List (List UInt8)) : (Lib.compact l).length ≤ l.length := by
  unfold Lib.compact Lib.compactUpTo
  rw [List.length_map]
  exact Nat.le_trans (List.length_filter_le _ _) (by simp)
theorem CompactS_ct (l : List (List UInt8)) (ex : Bool) (hlen : l.length ≤ 1048576) : Ct Tryz.prog 114 [.own 1 ex (l.map str)] (.own 1 false ((Lib.compact l).map str)) [] :=
  Ct.turnCut Tryz.func114 (by kernel_rfl) (by kernel_rfl) l (Lib.compact l) (List.replicate (l.length - (Lib.compact l).length) []) ex (by have := cmp_len l; simp; omega)
    (fun w b c hH hc => Tryz.slices_Compact_string b 0 c l w hH (by omega) hc) (fun w A => Tryz.slices_Compact_string_empty A 0 w)

noncomputable def X112 : Fx := ⟨Tryz.prog, tys, 112, Tryz.f112, [0]⟩
theorem X112_ok : X112.Ok := ⟨Tryz.func112, tys_ok⟩
theorem labelsOf1_ct (t x : List UInt8) : CtA ambS Tryz.prog 112 [str x, .rp [str t] 0] (bo (decide (x = t) || !isLb x)) [] := by
  refine CtA.intro ambS X112 X112_ok rfl (by kernel_rfl) rfl rfl fun g hA hg => ?_
  repeat (refine Run.go rfl ?_)
  refine Run.bool 7 rfl (fun h => ?_) (fun h => ?_)
  · have h : decide (x = t) = true := (str_eq x t).symm.trans h
    repeat (refine Run.go rfl ?_)
    refine Run.ret hg rfl ?_
    rw [h]
    rfl
  · have h : decide (x = t) = false := (str_eq x t).symm.trans h
    repeat (refine Run.go rfl ?_)
    refine Run.csA rfl ((isLabel_ct x).at hA) rfl rfl ?_
    repeat (refine Run.go rfl ?_)
    refine Run.ret hg rfl ?_
    rw [h]
    rfl

/-- The labels among texts. -/
def lbsOf (t : List UInt8) (l : List (List UInt8)) : List (List UInt8) := Lib.compact (srtS (l.filter fun x => !(decide (x = t) || !isLb x)))

noncomputable def X66 : Fx := ⟨Tryz.prog, tys, 66, Tryz.f66, [1]⟩
theorem X66_ok : X66.Ok := ⟨Tryz.func66, tys_ok⟩
theorem labelsOf_all_ct (t : List UInt8) (l : List (List UInt8)) (ex : Bool) (hlen : l.length ≤ 1048576) : CtA ambS Tryz.prog 66 [.own 1 ex (l.map str), str t] (.own 1 false ((lbsOf t l).map str)) [] := by
  have hfl : (l.filter fun x => !(decide (x = t) || !isLb x)).length ≤ 1048576 := Nat.le_trans (List.length_filter_le _ _) hlen
  have hdel := deleteS_ct ambS l ex 112 [str t] (fun x => decide (x = t) || !isLb x) hlen (fun x _ => labelsOf1_ct t x)
  refine CtA.intro ambS X66 X66_ok rfl (by kernel_rfl) rfl rfl fun g hA hg => ?_
  iterate 3 (refine Run.go rfl ?_)
  refine Run.freezeBox 3 (3, 0) (cs := [str t]) [str t] rfl rfl rfl rfl ?_
  refine Run.unpack 0 rfl rfl ?_
  repeat (refine Run.go rfl ?_)
  refine Run.callgA (0, 0) rfl rfl rfl rfl rfl rfl rfl rfl rfl rfl rfl rfl (hdel.at hA) rfl ?_
  repeat (refine Run.go rfl ?_)
  refine Run.callo (5, 0) none rfl rfl rfl rfl rfl rfl rfl rfl rfl rfl (SortS_ct _ false hfl) rfl (rfS _) rfl ?_
  repeat (refine Run.go rfl ?_)
  refine Run.callg (5, 0) rfl rfl rfl rfl rfl rfl rfl rfl (by simp [srtS_len]) rfl rfl rfl (CompactS_ct _ false (by rw [srtS_len]; exact hfl)) rfl ?_
  repeat (refine Run.go rfl ?_)
  exact Run.ret hg rfl rfl
end Go.Proofs.YtilomajfcjpmnaaGreatDoor
