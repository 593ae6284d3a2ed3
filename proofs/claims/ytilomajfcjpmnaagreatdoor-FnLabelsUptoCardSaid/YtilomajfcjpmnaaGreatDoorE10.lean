/- Contracts of the program's functions, and what follows from them. -/
import Derived.Test.YtilomajfcjpmnaaGreatDoorE9
set_option linter.unusedVariables false
set_option maxRecDepth 100000
set_option linter.unusedSimpArgs false
namespace Go.Proofs.YtilomajfcjpmnaaGreatDoor
open Go Go.Av

/-! CheckLabel, ReadLabel. -/

noncomputable def X67 : Fx := ⟨Tryz.prog, tys, 67, Tryz.f67, [0]⟩
theorem X67_ok : X67.Ok := ⟨Tryz.func67, tys_ok⟩
theorem l07Is_ct (t : List UInt8) : Ct Tryz.prog 67 [str t] (bo (isLb t)) [] := by
  refine Ct.intro X67 X67_ok rfl (by kernel_rfl) rfl rfl fun g hg => ?_
  repeat (refine Run.go rfl ?_)
  refine Run.cond rfl (fun h => ?_) (fun h => ?_)
  · have h : t.length ≠ 9 := by
      have h : ¬ (⟨t.toArray⟩ : ByteArray).size = 9 := by
        simp only [bne_iff_ne, ne_eq] at h
        omega
      rwa [bsz] at h
    repeat (refine Run.go rfl ?_)
    refine Run.ret hg rfl ?_
    show bo false = bo _
    rw [isLb, decide_eq_false h, Bool.false_and]
  have hl : t.length = 9 := by
    have h : (⟨t.toArray⟩ : ByteArray).size = 9 := by
      simp only [bne_eq_false_iff_eq] at h
      omega
    rwa [bsz] at h
  repeat (refine Run.go rfl ?_)
  refine Run.loop (fun j : Nat => ⟨[(0, str t), (3, i64 j)], []⟩) (fun j => j ≤ 9 ∧ (List.range j).all (chOk t) = true) (fun j => 9 - j) 0 ⟨by omega, rfl⟩ ?_ ?_
  · exact St.Le.mk' ⟨rfl, rfl, trivial⟩ trivial
  rintro j ⟨hj, hall⟩ IH
  repeat (refine Run.go rfl ?_)
  refine Run.cond rfl (fun h => ?_) (fun h => ?_)
  · have hlt : j < 9 := by simp at h; omega
    have tail : chOk t j = false → isLb t = false := by
      intro hc
      have : (List.range 9).all (chOk t) = false := by
        rw [List.all_eq_false]
        exact ⟨j, List.mem_range.2 hlt, by rw [hc]; simp⟩
      rw [isLb, this]; simp
    have hb := bv_rng t j
    have fin2 : ∀ lt : Bool, lt = decide (3 ≤ j ∧ j < 6) → ¬ sv (bv t j) < 0 → (!(lt == decide (bv t j ≥ 97))) = true → chOk t j = false := by
      rintro lt rfl h1 h2
      rw [chOk, decide_eq_true (by omega), Bool.true_and]
      simpa using h2
    have fin1 : ∀ lt : Bool, lt = decide (3 ≤ j ∧ j < 6) → ¬ sv (bv t j) < 0 → (!(lt == decide (bv t j ≥ 97))) = false → chOk t j = true := by
      rintro lt rfl h1 h2
      rw [chOk, decide_eq_true (by omega), Bool.true_and]
      simpa using h2
    repeat (refine Run.go rfl ?_)
    refine Run.bool 15 rfl (fun hA => ?_) (fun hA => ?_)
    · have hA : 3 ≤ j := by
        have : (3 : Int) ≤ j := by simpa using hA
        omega
      have hLT : decide ((j : Int) < 6) = decide (3 ≤ j ∧ j < 6) := decide_eq_decide.2 (by omega)
      repeat (refine Run.go rfl ?_)
      refine Run.val rfl rfl rfl (ValOk.sidx t (t.getD j 0) rfl rfl rfl rfl rfl (by omega) (by rw [Int.toNat_natCast]; exact getD_some t j (by omega))) rfl ?_
      refine Run.cs rfl (l07Value_ct (bv t j) hb) rfl rfl ?_
      repeat (refine Run.go rfl ?_)
      refine Run.bool 25 rfl (fun hB => ?_) (fun hB => ?_)
      · have hB : sv (bv t j) < 0 := by simpa using hB
        repeat (refine Run.go rfl ?_)
        refine Run.cond rfl (fun _ => ?_) (fun h => by simp at h)
        repeat (refine Run.go rfl ?_)
        refine Run.ret hg rfl ?_
        rw [tail (by rw [chOk, decide_eq_false (by omega), Bool.false_and])]
        rfl
      · have hB : ¬ sv (bv t j) < 0 := by simpa using hB
        repeat (refine Run.go rfl ?_)
        refine Run.val rfl rfl rfl (ValOk.sidx t (t.getD j 0) rfl rfl rfl rfl rfl (by omega) (by rw [Int.toNat_natCast]; exact getD_some t j (by omega))) rfl ?_
        repeat (refine Run.go rfl ?_)
        refine Run.cond rfl (fun hC => ?_) (fun hC => ?_)
        · have hC : (!(decide ((j : Int) < 6) == decide (bv t j ≥ 97))) = true := hC
          repeat (refine Run.go rfl ?_)
          refine Run.ret hg rfl ?_
          rw [tail (fin2 _ hLT hB hC)]
          rfl
        · have hC : (!(decide ((j : Int) < 6) == decide (bv t j ≥ 97))) = false := hC
          repeat (refine Run.go rfl ?_)
          refine Run.of (IH (j + 1) ⟨by omega, by rw [List.range_succ, List.all_append, hall]; simp [fin1 _ hLT hB hC]⟩ (by omega)) ⟨rfl, ?_, trivial⟩ trivial
          show i64 _ = i64 _
          rw [wrap_i64 (by omega) (by omega)]
          rfl
    · have hA : ¬ 3 ≤ j := by
        have : ¬ (3 : Int) ≤ j := by simpa using hA
        omega
      have hLT : false = decide (3 ≤ j ∧ j < 6) := (decide_eq_false (by omega)).symm
      repeat (refine Run.go rfl ?_)
      refine Run.val rfl rfl rfl (ValOk.sidx t (t.getD j 0) rfl rfl rfl rfl rfl (by omega) (by rw [Int.toNat_natCast]; exact getD_some t j (by omega))) rfl ?_
      refine Run.cs rfl (l07Value_ct (bv t j) hb) rfl rfl ?_
      repeat (refine Run.go rfl ?_)
      refine Run.bool 25 rfl (fun hB => ?_) (fun hB => ?_)
      · have hB : sv (bv t j) < 0 := by simpa using hB
        repeat (refine Run.go rfl ?_)
        refine Run.cond rfl (fun _ => ?_) (fun h => by simp at h)
        repeat (refine Run.go rfl ?_)
        refine Run.ret hg rfl ?_
        rw [tail (by rw [chOk, decide_eq_false (by omega), Bool.false_and])]
        rfl
      · have hB : ¬ sv (bv t j) < 0 := by simpa using hB
        repeat (refine Run.go rfl ?_)
        refine Run.val rfl rfl rfl (ValOk.sidx t (t.getD j 0) rfl rfl rfl rfl rfl (by omega) (by rw [Int.toNat_natCast]; exact getD_some t j (by omega))) rfl ?_
        repeat (refine Run.go rfl ?_)
        refine Run.cond rfl (fun hC => ?_) (fun hC => ?_)
        · have hC : (!(false == decide (bv t j ≥ 97))) = true := hC
          repeat (refine Run.go rfl ?_)
          refine Run.ret hg rfl ?_
          rw [tail (fin2 _ hLT hB hC)]
          rfl
        · have hC : (!(false == decide (bv t j ≥ 97))) = false := hC
          repeat (refine Run.go rfl ?_)
          refine Run.of (IH (j + 1) ⟨by omega, by rw [List.range_succ, List.all_append, hall]; simp [fin1 _ hLT hB hC]⟩ (by omega)) ⟨rfl, ?_, trivial⟩ trivial
          show i64 _ = i64 _
          rw [wrap_i64 (by omega) (by omega)]
          rfl
  · have hj' : j = 9 := by simp at h; omega
    subst hj'
    have hv : ∀ i, i < 8 → 0 ≤ sv (bv t i) := by
      intro i hi
      have := List.all_eq_true.1 hall i (List.mem_range.2 (by omega))
      simp only [chOk, Bool.and_eq_true, decide_eq_true_eq] at this
      exact this.1
    have e1 : isLb t = (!decide ((t.take 8).drop 6 = [48, 48]) && decide (bv t 8 = ((48 + (psum t 8).toNat % 10 : Nat) : Int))) := by
      rw [isLb, decide_eq_true hl, hall]; simp
    have e00 : (!((⟨((t.take 8).drop 6).toArray⟩ : ByteArray).toList == (⟨([48, 48] : List UInt8).toArray⟩ : ByteArray).toList)) = !decide ((t.take 8).drop 6 = [48, 48]) := str_neq _ _
    rw [e1] at hg
    generalize hz : (t.take 8).drop 6 = z at hg e00
    repeat (refine Run.go rfl ?_)
    refine Run.draw (by kernel_rfl) (by decide +kernel) ?_
    repeat (refine Quiet.go rfl ?_)
    refine Quiet.val rfl rfl (ValOk.scut t z rfl rfl rfl rfl rfl rfl (by omega) (by omega) (by rw [hl]; omega) hz) rfl ?_
    repeat (refine Quiet.go rfl ?_)
    refine Quiet.bool 36 rfl (fun hD => ?_) (fun hD => ?_)
    · have hD : (!decide (z = [48, 48])) = true := e00 ▸ hD
      repeat (refine Quiet.go rfl ?_)
      refine Quiet.val rfl rfl (ValOk.sidx t (t.getD 8 0) rfl rfl rfl rfl rfl (by omega) (getD_some t 8 (by omega))) rfl ?_
      repeat (refine Quiet.go rfl ?_)
      refine Quiet.cs rfl rfl rfl rfl rfl (l07Check_ct t (by omega) hv) rfl rfl ?_
      repeat (refine Quiet.go rfl ?_)
      refine Quiet.nil ?_
      repeat (refine Run.go rfl ?_)
      refine Run.ret hg rfl ?_
      rw [hD, Bool.true_and]
      rfl
    · have hD : (!decide (z = [48, 48])) = false := e00 ▸ hD
      repeat (refine Quiet.go rfl ?_)
      refine Quiet.nil ?_
      repeat (refine Run.go rfl ?_)
      refine Run.ret hg rfl ?_
      rw [hD, Bool.false_and]
      rfl

noncomputable def X65 : Fx := ⟨Tryz.prog, tys, 65, Tryz.f65, [0]⟩
theorem X65_ok : X65.Ok := ⟨Tryz.func65, tys_ok⟩
theorem isLabel_ct (t : List UInt8) : CtA ambS Tryz.prog 65 [str t] (bo (isLb t)) [] := by
  refine CtA.intro ambS X65 X65_ok rfl (by kernel_rfl) rfl rfl fun g hA hg => ?_
  have e := rl_isLb t
  repeat (refine Run.go rfl ?_)
  refine Run.csA rfl ((readLabel_ct t).at hA) rfl rfl ?_
  repeat (refine Run.go rfl ?_)
  refine Run.ret hg rfl ?_
  rw [← e]
  rfl

noncomputable def X27 : Fx := ⟨Tryz.prog, tys, 27, Tryz.f27, [0]⟩
theorem X27_ok : X27.Ok := ⟨Tryz.func27, tys_ok⟩
theorem implCheckLabel_ct (t : List UInt8) : CtA ambS Tryz.prog 27 [str t] (bo (isLb t)) [] := by
  refine CtA.intro ambS X27 X27_ok rfl (by kernel_rfl) rfl rfl fun g hA hg => ?_
  repeat (refine Run.go rfl ?_)
  refine Run.csA rfl ((isLabel_ct t).at hA) rfl rfl ?_
  repeat (refine Run.go rfl ?_)
  exact Run.ret hg rfl rfl

end Go.Proofs.YtilomajfcjpmnaaGreatDoor
