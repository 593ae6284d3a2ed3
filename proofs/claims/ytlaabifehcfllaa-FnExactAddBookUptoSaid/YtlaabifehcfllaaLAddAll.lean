/- Contracts of the program's functions, and what follows from them. -/
import Derived.Test.YtlaabifehcfllaaK6
import Derived.Test.YtlaabifehcfllaaKRd
import Derived.Test.YtlaabifehcfllaaMC
set_option linter.unusedVariables false
set_option maxRecDepth 100000
namespace Go.Proofs.Ytlaabifehcfllaa
open Go Go.Av

theorem aaA_rf (x : Rk × Nat × Int) : (aaA x).rf = true := by simp only [aaA, AV.rf, AV.rfL, rk_rf]; rfl
theorem shf_len' (l : List Pl) (i c : Nat) (d : Int) : (shf l i c d).length = l.length := by simp [shf]; omega
theorem adL_len (n : Int) (l : List Pl) (b : Bk) : (adL n l b).length = l.length + 1 := by
  have h : (sh n l (idx l b)).length = l.length := by
    unfold sh
    split
    · rfl
    · split <;> exact shf_len' ..
  have := idx_le l b
  rw [adL, ins_len (by rw [h]; exact this), h]
theorem adAll_len (n : Int) : ∀ (lst : List Bk) (l : List Pl) (s : Nat), (adAll n lst l s).1.bs.length ≤ l.length + lst.length
  | [], l, s => by simp [adAll]
  | b :: r, l, s => by
    rw [adAll]
    split
    · simp [rk0]
    · have := adAll_len n r (adL n l b) (s + adM n l b)
      rw [adL_len] at this
      simp only [List.length_cons]
      omega
theorem aaRes_len (r : Rk) (lst : List Bk) (hr : rkOk r) : (aaRes r lst).1.bs.length ≤ 120 := by
  unfold aaRes
  split
  · rename_i hv
    split
    · rename_i h
      have hV := (vR_VR hr.2).1 hv
      have := hV.len
      have := hV.hn
      have := adAll_len r.pl lst r.bs 0
      have h2 : lst.length ≤ 60 := by
        simp only [vBs, Bool.and_eq_true, decide_eq_true_eq] at h
        exact h.1
      omega
    · simp [rk0]
  · simp [rk0]

noncomputable def X8 : Fx := ⟨Try.prog, tys, 8, Try.f8, [0, 1]⟩
theorem X8_ok : X8.Ok := ⟨Try.func8, tys_ok⟩
theorem lawAddAll_ct (r : Rk) (lst : List Bk) (hr : rkOk r) (hl1 : bksOk lst) : Ct Try.prog 8 [rkR false r, .ro 8 false (lst.map bkA)] (bo true) [] := by
  have hS := specAddAll_ct r true lst true hr hl1.2 hl1.1
  have hI := implAddAll_ct r true lst true hr hl1.2 hl1.1
  have hl := hr.1.2
  have hL : (aaRes r lst).1.bs.length ≤ 1048576 := Nat.le_trans (aaRes_len r lst hr) (by omega)
  generalize aaRes r lst = R at hS hI hL
  obtain ⟨Q, m, c⟩ := R
  simp only at hL
  refine Ct.intro X8 X8_ok rfl (by kernel_rfl) rfl rfl fun g hg => ?_
  repeat (refine Run.go rfl ?_)
  refine Run.cs rfl (szRack_ct r false 1048576 (by omega) (by omega) hl) rfl rfl ?_
  repeat (refine Run.go rfl ?_)
  refine Run.cond rfl (fun h => ?_) (fun hsz => ?_)
  · repeat (refine Run.go rfl ?_)
    exact Run.ret hg rfl rfl
  have hs1 : 0 ≤ szR r 1048576 ∧ szR r 1048576 ≤ 1048576 := by
    have : ¬ szR r 1048576 < 0 := by simpa using hsz
    refine ⟨by omega, ?_⟩
    unfold szR
    split <;> omega
  repeat (refine Run.go rfl ?_)
  refine Run.cs rfl (szBookS_ct lst false (szR r 1048576) (by omega) (by omega) hl1.1) rfl rfl ?_
  repeat (refine Run.go rfl ?_)
  refine Run.cond rfl (fun h => ?_) (fun hsb => ?_)
  · repeat (refine Run.go rfl ?_)
    exact Run.ret hg rfl rfl
  have hl2 : r.bs.length + lst.length ≤ 1048576 := by
    have h1 : ¬ szR r 1048576 < 0 := by simpa using hsz
    have h2 : ¬ szB lst (szR r 1048576) < 0 := by simpa using hsb
    unfold szB at h2
    unfold szR at h1 h2
    split at h2 <;> split at h2 <;> omega
  repeat (refine Run.go rfl ?_)
  refine Run.cs rfl (toRack_ct r false hl) rfl (rk_rf _ _) ?_
  repeat (refine Run.go rfl ?_)
  refine Run.cs rfl (toBookS_ct lst false hl1.1) rfl (rfB _) ?_
  refine Run.cs rfl hS (by rw [frzP, frzB]; rfl) (aaA_rf _) ?_
  repeat (refine Run.go rfl ?_)
  refine Run.freeze (v' := rkR false Q) 36 rfl rfl (rk_frz _ _) ?_
  repeat (refine Run.go rfl ?_)
  refine Run.cs rfl (toRack_ct r false hl) rfl (rk_rf _ _) ?_
  refine Run.unagg 40 1 (40, 1) rfl rfl rfl ?_
  repeat (refine Run.go rfl ?_)
  refine Run.cs rfl (toBookS_ct lst false hl1.1) rfl (rfB _) ?_
  refine Run.unpack 42 rfl rfl ?_
  repeat (refine Run.go rfl ?_)
  refine Run.cs rfl hI (by rw [frzP, frzB, decide_eq_true rfl, decide_eq_true rfl]; rfl) (aaA_rf _) ?_
  repeat (refine Run.go rfl ?_)
  refine Run.unagg 47 1 (47, 1) rfl rfl rfl ?_
  repeat (refine Run.go rfl ?_)
  refine Run.cs rfl (eqRack_ct Q Q false false hL) (by rw [frzP, decide_eq_true rfl]; rfl) rfl ?_
  repeat (refine Run.go rfl ?_)
  refine Run.bool 54 rfl (fun h => by simp at h) (fun h => ?_)
  repeat (refine Run.go rfl ?_)
  refine Run.bool 59 rfl (fun h => by simp at h) (fun h => ?_)
  repeat (refine Run.go rfl ?_)
  refine Run.cond rfl (fun h => by simp at h) (fun h => ?_)
  repeat (refine Run.go rfl ?_)
  refine Run.drawn [[0, 1, 2, 3, 4], [1, 0, 2, 3, 4], [1, 2, 0, 3, 4]] ⟨[(1, .ro 8 false (lst.map bkA)), (2, .bp (2, 0) 0), (6, .bp (6, 0) 0), (7, i64 (m : Nat)), (8, i64 c), (9, .bp (9, 0) 0), (10, .vec (42, 0) 0 (lst.map bkA).length), (11, .bp (11, 0) 0), (12, i64 (m : Nat)), (13, i64 c), (68, bo (!decide (r = r)))],
    [((2, 0), .box (rkR false r).cells), ((6, 0), .box (rkR false Q).cells), ((9, 0), .box [i16 r.pl, .vec (40, 1) 0 (r.bs.map plA).length]), ((40, 1), .vec 9 true (r.bs.map plA)), ((42, 0), .vec 8 true (lst.map bkA)), ((11, 0), .box [i16 Q.pl, .vec (47, 1) 0 (Q.bs.map plA).length]), ((47, 1), .vec 9 false (Q.bs.map plA))]⟩ (by decide +kernel) (by kernel_rfl) ?_ fun _ hN => ⟨?_, ?_, ?_, trivial⟩
  rotate_left
  iterate 3
    · repeat (refine Run.go rfl ?_)
      refine Run.cs rfl (toRack_ct r false hl) rfl (rk_rf _ _) ?_
      repeat (refine Run.go rfl ?_)
      refine Run.cs rfl (eqRack_ct r r true true hl) (by rw [frzP, decide_eq_true rfl]; rfl) rfl ?_
      repeat (refine Run.go rfl ?_)
      exact Run.of hN ⟨rfl, rfl, rfl, rfl, rfl, rfl, rfl, rfl, rfl, rfl, rfl, trivial⟩ ⟨rfl, rfl, rfl, rfl, rfl, rfl, rfl, trivial⟩
  refine Run.cond rfl (fun h => by simp at h) (fun h => ?_)
  repeat (refine Run.go rfl ?_)
  refine Run.cs rfl (toBookS_ct lst false hl1.1) rfl (rfB _) ?_
  repeat (refine Run.go rfl ?_)
  refine Run.cs rfl (eqBookS_ct lst lst true true hl1.1) (by rw [frzB, decide_eq_true rfl]; rfl) rfl ?_
  repeat (refine Run.go rfl ?_)
  refine Run.cond rfl (fun h => by simp at h) (fun h => ?_)
  repeat (refine Run.go rfl ?_)
  refine Run.callo (40, 1) (some 1) rfl rfl rfl rfl rfl rfl rfl rfl rfl rfl (markRack_ct r 1 true hl (by omega)) rfl (rfP _) rfl ?_
  repeat (refine Run.go rfl ?_)
  refine Run.callo (42, 0) none rfl rfl rfl rfl rfl rfl rfl rfl rfl rfl (markBookS_ct lst (1 + 9 * (r.bs.length : Nat)) true hl1.1 (by omega)) rfl (rfB _) rfl ?_
  repeat (refine Run.go rfl ?_)
  refine Run.bool 82 rfl (fun h => by simp at h; omega) (fun h => ?_)
  repeat (refine Run.go rfl ?_)
  refine Run.cs rfl (eqRack_ct Q Q false false hL) (by rw [frzP, decide_eq_true rfl]; rfl) rfl ?_
  repeat (refine Run.go rfl ?_)
  refine Run.bool 88 rfl (fun h => by simp at h) (fun h => ?_)
  repeat (refine Run.go rfl ?_)
  refine Run.bool 93 rfl (fun h => by simp at h) (fun h => ?_)
  repeat (refine Run.go rfl ?_)
  refine Run.cond rfl (fun h => by simp at h) (fun h => ?_)
  repeat (refine Run.go rfl ?_)
  refine Run.callo (47, 1) (some 1) rfl rfl rfl rfl rfl rfl rfl rfl rfl rfl (markRack_ct Q 1 false hL (by omega)) rfl (rfP _) rfl ?_
  repeat (refine Run.go rfl ?_)
  refine Run.cs rfl (heldRack_ct Q 1 false hL (by omega)) (by rw [frzP, decide_eq_true (by simp [mkR, mkPs])]; rfl) rfl ?_
  repeat (refine Run.go rfl ?_)
  refine Run.cond rfl (fun h => by simp at h; omega) (fun h => ?_)
  repeat (refine Run.go rfl ?_)
  refine Run.cond rfl (fun h => by simp at h) (fun h => ?_)
  repeat (refine Run.go rfl ?_)
  refine Run.cs rfl (toRack_ct r false hl) rfl (rk_rf _ _) ?_
  repeat (refine Run.go rfl ?_)
  refine Run.cs rfl (toBookS_ct lst false hl1.1) rfl (rfB _) ?_
  refine Run.cs rfl hI (by rw [frzP, frzB]; rfl) (aaA_rf _) ?_
  repeat (refine Run.go rfl ?_)
  refine Run.freeze (v' := rkR false Q) 115 rfl rfl (rk_frz _ _) ?_
  repeat (refine Run.go rfl ?_)
  refine Run.cs rfl (eqRack_ct Q Q false false hL) rfl rfl ?_
  repeat (refine Run.go rfl ?_)
  refine Run.bool 122 rfl (fun h => by simp at h) (fun h => ?_)
  repeat (refine Run.go rfl ?_)
  refine Run.bool 127 rfl (fun h => by simp at h) (fun h => ?_)
  repeat (refine Run.go rfl ?_)
  refine Run.cond rfl (fun h => by simp at h) (fun h => ?_)
  repeat (refine Run.go rfl ?_)
  refine Run.cs rfl (heldRack_ct Q 1 false hL (by omega)) (by rw [frzP, decide_eq_true (by simp [mkR, mkPs])]; rfl) rfl ?_
  repeat (refine Run.go rfl ?_)
  refine Run.cond rfl (fun h => by simp at h; omega) (fun h => ?_)
  repeat (refine Run.go rfl ?_)
  refine Run.cond rfl (fun h => by simp at h) (fun h => ?_)
  repeat (refine Run.go rfl ?_)
  exact Run.ret hg rfl rfl
end Go.Proofs.Ytlaabifehcfllaa
