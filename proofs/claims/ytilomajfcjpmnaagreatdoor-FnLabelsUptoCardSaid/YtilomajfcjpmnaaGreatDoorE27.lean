/- Contracts of the program's functions, and what follows from them. -/
import Derived.Test.YtilomajfcjpmnaaGreatDoorE26
set_option linter.unusedVariables false
set_option maxRecDepth 100000
set_option linter.unusedSimpArgs false
namespace Go.Proofs.YtilomajfcjpmnaaGreatDoor
open Go Go.Av

/-! Labels with two neighbours exchanged: the reference. -/

def swp (t : List UInt8) (i : Nat) : List UInt8 := t.take i ++ (t.take (i + 2)).drop (i + 1) ++ (t.take (i + 1)).drop i ++ t.drop (i + 2)
def swps (t : List UInt8) (n : Nat) : List (List UInt8) := (List.range n).map (swp t)
def swRes (t : List UInt8) : List (List UInt8) × Int := if t.length = 9 then (lbsOf t (swps t 8), 0) else ([], 5)

noncomputable def X32 : Fx := ⟨Tryz.prog, tys, 32, Tryz.f32, [0]⟩
theorem X32_ok : X32.Ok := ⟨Tryz.func32, tys_ok⟩
theorem specSwapped_ct (t : List UInt8) (hlen : t.length ≤ 1048576) : Ct Tryz.prog 32 [str t] (.tup [.ro 1 false ((swRes t).1.map str), i64 (swRes t).2]) [] := by
  refine Ct.intro X32 X32_ok rfl (by kernel_rfl) rfl rfl fun g hg => ?_
  repeat (refine Run.go rfl ?_)
  refine Run.cond rfl (fun h => ?_) (fun h => ?_)
  · have h9 : t.length ≠ 9 := by
      have h2 : ((((⟨t.toArray⟩ : ByteArray).size : Nat) : Int) != 9) = true := h
      rw [bsz] at h2
      intro e
      rw [e] at h2
      simp at h2
    have hr : swRes t = ([], 5) := by rw [swRes, if_neg h9]
    rw [hr] at hg
    repeat (refine Run.go rfl ?_)
    refine Run.buildSlice [] rfl rfl rfl rfl rfl rfl rfl rfl rfl rfl rfl rfl rfl rfl ?_
    repeat (refine Run.go rfl ?_)
    refine Run.loosen0 2 rfl ?_
    refine Run.freeze 2 (v' := .ro 1 false []) rfl rfl rfl ?_
    exact Run.ret hg rfl rfl
  have h9 : t.length = 9 := by
    have h2 : ((((⟨t.toArray⟩ : ByteArray).size : Nat) : Int) != 9) = false := h
    rw [bsz] at h2
    simp at h2
    omega
  have hr : swRes t = (lbsOf t (swps t 8), 0) := by rw [swRes, if_pos h9]
  rw [hr] at hg
  repeat (refine Run.go rfl ?_)
  refine Run.buildSlice [] rfl rfl rfl rfl rfl rfl rfl rfl rfl rfl rfl rfl rfl rfl ?_
  repeat (refine Run.go rfl ?_)
  refine Run.loosen0 4 rfl ?_
  refine Run.freeze 4 (v' := .ro 1 false []) rfl rfl rfl ?_
  refine Run.loop (fun q : Nat × List (List UInt8) => ⟨[(0, str t), (4, .ro 1 false (q.2.map str)), (5, i64 q.1)], []⟩)
    (fun q => q.1 ≤ 8 ∧ SS q.2 ∧ (∀ x, x ∈ q.2 ↔ ∃ i, i < q.1 ∧ x = swp t i ∧ x ≠ t ∧ isLb x = true) ∧ q.2.length ≤ q.1) (fun q => 8 - q.1) (0, []) ⟨by omega, by simp [SS], by simp, by simp⟩ ?_ ?_
  · exact St.Le.mk' ⟨rfl, rfl, rfl, trivial⟩ trivial
  rintro ⟨j, out⟩ ⟨hj, hss, hmem, hol⟩ IH
  simp only at hj hss hmem hol IH
  have w1 : IntKind.i64.wrap ((j : Int) + 1) = ((j + 1 : Nat) : Int) := by rw [wrap_i64 (by omega) (by omega)]; omega
  have w2 : IntKind.i64.wrap ((j : Int) + 2) = ((j + 2 : Nat) : Int) := by rw [wrap_i64 (by omega) (by omega)]; omega
  have w1' : IntKind.i64.wrap ((((j, out) : Nat × List (List UInt8)).1 : Int) + 1) = ((j + 1 : Nat) : Int) := w1
  have w2' : IntKind.i64.wrap ((((j, out) : Nat × List (List UInt8)).1 : Int) + 2) = ((j + 2 : Nat) : Int) := w2
  repeat (refine Run.go rfl ?_)
  rw [w1']
  refine Run.cond rfl (fun h => ?_) (fun h => ?_)
  · have hlt : j < 8 := by
      have h2 : decide (((j + 1 : Nat) : Int) < (((⟨t.toArray⟩ : ByteArray).size : Nat) : Int)) = true := h
      rw [bsz] at h2
      have := of_decide_eq_true h2
      omega
    clear h
    have hnext : ∀ out2 : List (List UInt8), (∀ x, x ∈ out2 ↔ (x = swp t j ∧ x ≠ t ∧ isLb x = true) ∨ x ∈ out) → ∀ x, x ∈ out2 ↔ ∃ i, i < j + 1 ∧ x = swp t i ∧ x ≠ t ∧ isLb x = true := by
      intro out2 h2 x
      rw [h2 x, hmem x]
      constructor
      · rintro (⟨q1, q2⟩ | ⟨i, hi, q1, q2⟩)
        · exact ⟨j, by omega, q1, q2⟩
        · exact ⟨i, by omega, q1, q2⟩
      · rintro ⟨i, hi, q1, q2⟩
        by_cases e : i = j
        · subst e; exact .inl ⟨q1, q2⟩
        · exact .inr ⟨i, by omega, q1, q2⟩
    repeat (refine Run.go rfl ?_)
    refine Run.draw (by kernel_rfl) (by decide +kernel) ?_
    repeat (refine Quiet.go rfl ?_)
    refine Quiet.val rfl rfl (ValOk.scut (s := (0 : Int)) (h := (j : Int)) t (t.take j) rfl rfl rfl rfl rfl rfl (by omega) (by omega) (by omega) (by simp only [Int.toNat_natCast, Int.toNat_zero, List.drop_zero])) rfl ?_
    repeat (refine Quiet.go rfl ?_)
    rw [w1']
    repeat (refine Quiet.go rfl ?_)
    rw [w2']
    refine Quiet.val rfl rfl (ValOk.scut (s := ((j + 1 : Nat) : Int)) (h := ((j + 2 : Nat) : Int)) t ((t.take (j + 2)).drop (j + 1)) rfl rfl rfl rfl rfl rfl (by omega) (by omega) (by omega) (by simp only [Int.toNat_natCast])) rfl ?_
    refine Quiet.val rfl rfl (ValOk.scat (t.take j) ((t.take (j + 2)).drop (j + 1)) rfl rfl rfl (by simp only [List.length_take, List.length_drop]; omega)) rfl ?_
    repeat (refine Quiet.go rfl ?_)
    rw [w1']
    refine Quiet.val rfl rfl (ValOk.scut (s := (j : Int)) (h := ((j + 1 : Nat) : Int)) t ((t.take (j + 1)).drop j) rfl rfl rfl rfl rfl rfl (by omega) (by omega) (by omega) (by simp only [Int.toNat_natCast])) rfl ?_
    refine Quiet.val rfl rfl (ValOk.scat (t.take j ++ (t.take (j + 2)).drop (j + 1)) ((t.take (j + 1)).drop j) rfl rfl rfl (by simp only [List.length_append, List.length_take, List.length_drop]; omega)) rfl ?_
    repeat (refine Quiet.go rfl ?_)
    rw [w2']
    refine Quiet.val rfl rfl (ValOk.scut (s := ((j + 2 : Nat) : Int)) (h := (t.length : Int)) t (t.drop (j + 2)) rfl rfl rfl rfl rfl rfl (by omega) (by omega) (by omega) (by simp only [Int.toNat_natCast, List.take_length])) rfl ?_
    refine Quiet.val rfl rfl (ValOk.scat (t.take j ++ (t.take (j + 2)).drop (j + 1) ++ (t.take (j + 1)).drop j) (t.drop (j + 2)) rfl rfl rfl (by simp only [List.length_append, List.length_take, List.length_drop]; omega)) rfl ?_
    repeat (refine Quiet.go rfl ?_)
    refine Quiet.nil ?_
    have hsw : t.take j ++ (t.take (j + 2)).drop (j + 1) ++ (t.take (j + 1)).drop j ++ t.drop (j + 2) = swp t j := rfl
    rw [hsw]
    generalize swp t j = x at hnext
    repeat (refine Run.go rfl ?_)
    refine Run.bool 43 rfl (fun h => ?_) (fun h => ?_)
    · have hne : x ≠ t := by
        have h2 : (!decide (x = t)) = true := (str_neq x t).symm.trans h
        simpa using h2
      repeat (refine Run.go rfl ?_)
      refine Run.cs rfl (l07Is_ct x) rfl rfl ?_
      repeat (refine Run.go rfl ?_)
      refine Run.cond rfl (fun h => ?_) (fun h => ?_)
      · have hlb : isLb x = true := h
        obtain ⟨p1, p2, p3⟩ := putS_facts (x := x) hss
        repeat (refine Run.go rfl ?_)
        refine Run.callp rfl rfl rfl rfl rfl rfl rfl rfl rfl (l07Put_ct out x (by omega)) (by decide) (by decide) ?_
        repeat (refine Run.go rfl ?_)
        refine Run.of (IH (j + 1, putS x out) ⟨by simp only; omega, p1, hnext _ (fun y => ?_), by simp only; omega⟩ (by simp only; omega)) ⟨rfl, rfl, ?_, trivial⟩ trivial
        · show y ∈ putS x out ↔ _
          rw [p2 y]
          constructor
          · rintro (rfl | hy)
            · exact .inl ⟨rfl, hne, hlb⟩
            · exact .inr hy
          · rintro (⟨rfl, -⟩ | hy)
            · exact .inl rfl
            · exact .inr hy
        · show i64 _ = i64 _
          rw [w1']
      · have hlb : isLb x = false := h
        repeat (refine Run.go rfl ?_)
        refine Run.of (IH (j + 1, out) ⟨by simp only; omega, hss, hnext _ (fun y => ?_), by simp only; omega⟩ (by simp only; omega)) ⟨rfl, rfl, ?_, trivial⟩ trivial
        · constructor
          · exact .inr
          · rintro (⟨rfl, -, h2⟩ | hy)
            · rw [hlb] at h2; cases h2
            · exact hy
        · show i64 _ = i64 _
          rw [w1']
    · have hne : x = t := by
        have h2 : (!decide (x = t)) = false := (str_neq x t).symm.trans h
        simpa using h2
      repeat (refine Run.go rfl ?_)
      refine Run.cond rfl (fun h => by cases h) (fun h => ?_)
      repeat (refine Run.go rfl ?_)
      refine Run.of (IH (j + 1, out) ⟨by simp only; omega, hss, hnext _ (fun y => ?_), by simp only; omega⟩ (by simp only; omega)) ⟨rfl, rfl, ?_, trivial⟩ trivial
      · constructor
        · exact .inr
        · rintro (⟨rfl, h2, -⟩ | hy)
          · exact absurd hne h2
          · exact hy
      · show i64 _ = i64 _
        rw [w1']
  · have hj8 : j = 8 := by
      have h2 : decide (((j + 1 : Nat) : Int) < (((⟨t.toArray⟩ : ByteArray).size : Nat) : Int)) = false := h
      rw [bsz] at h2
      have := of_decide_eq_false h2
      omega
    subst hj8
    obtain ⟨f1, f2, f3⟩ := lbsOf_facts t (swps t 8)
    have he : out = lbsOf t (swps t 8) := by
      refine ss_ext hss f1 fun x => ?_
      rw [hmem x, f2 x]
      unfold swps
      rw [List.mem_map]
      constructor
      · rintro ⟨i, hi, rfl, h2⟩
        exact ⟨⟨i, List.mem_range.2 hi, rfl⟩, h2⟩
      · rintro ⟨⟨i, hi, rfl⟩, h2⟩
        exact ⟨i, List.mem_range.1 hi, rfl, h2⟩
    rw [← he] at hg
    repeat (refine Run.go rfl ?_)
    exact Run.ret hg rfl rfl
end Go.Proofs.YtilomajfcjpmnaaGreatDoor
