/- Contracts of the program's functions, and what follows from them. -/
import Derived.Test.YtcfkdcjindhnjaaK38
import Derived.Test.YtcfkdcjindhnjaaMC
import Derived.Test.YtcfkdcjindhnjaaME
set_option linter.unusedVariables false
set_option maxRecDepth 100000
namespace Go.Proofs.Ytcfkdcjindhnjaa
open Go Go.Av

theorem grd_length : ∀ (n : Nat) (l : List Int) (s : Int), (grd n l s).length = n
  | 0, _, _ => rfl
  | n + 1, l, s => by rw [grd, List.length_cons, grd_length n]
theorem swL_length (l : List Int) (s : Int) : (swL l s).length ≤ l.length := by
  unfold swL
  split
  · rw [grd_length]; exact Nat.le_refl _
  · simp

noncomputable def X3 : Fx := ⟨Try.prog, tys, 3, Try.f3, [0, 1]⟩
theorem X3_ok : X3.Ok := ⟨Try.func3, tys_ok⟩
theorem lawShortest_ct (l : List Int) (s : Int) (hb : l.length ≤ 1048576) : Ct Try.prog 3 [.ro 1 false (l.map i64), i64 s] (bo true) [] := by
  have hS := swS_ct l true s hb
  have hI := swI_ct l true s hb
  have hL := swL_length l s
  generalize swL l s = R at hS hI hL
  generalize swD l s = D at hS hI
  generalize wcode l s = W at hS hI
  have hL : R.length ≤ 1048576 := by omega
  refine Ct.intro X3 X3_ok rfl (by kernel_rfl) rfl rfl fun g hg => ?_
  repeat (refine Run.go rfl ?_)
  refine Run.cond rfl (fun h => by simp at h; omega) (fun h => ?_)
  repeat (refine Run.go rfl ?_)
  refine Run.cs rfl (toInt64S_ct l false hb) rfl (rf64 _) ?_
  repeat (refine Run.go rfl ?_)
  refine Run.cs rfl hS (by rw [frz64]; rfl) (by simp only [AV.rf, AV.rfL, rf64]; rfl) ?_
  iterate 2 (refine Run.go rfl ?_)
  refine Run.freeze (v' := .ro 1 false (R.map i64)) 26 rfl rfl (by show AV.ro _ _ (AV.frzL _) = _; rw [frz64]) ?_
  repeat (refine Run.go rfl ?_)
  refine Run.cs rfl (toInt64S_ct l false hb) rfl (rf64 _) ?_
  refine Run.unpack 30 rfl rfl ?_
  repeat (refine Run.go rfl ?_)
  refine Run.cs rfl hI (by rw [frz64, decide_eq_true rfl]; rfl) (by simp only [AV.rf, AV.rfL, rf64]; rfl) ?_
  iterate 2 (refine Run.go rfl ?_)
  refine Run.unpack 35 rfl rfl ?_
  repeat (refine Run.go rfl ?_)
  refine Run.cs rfl (eqInt64S_ct R R false false hL) (by rw [frz64, decide_eq_true rfl]; rfl) rfl ?_
  repeat (refine Run.go rfl ?_)
  refine Run.bool 42 rfl (fun h => by simp at h) (fun h => ?_)
  repeat (refine Run.go rfl ?_)
  refine Run.bool 47 rfl (fun h => by simp at h) (fun h => ?_)
  repeat (refine Run.go rfl ?_)
  refine Run.cond rfl (fun h => by simp at h) (fun h => ?_)
  repeat (refine Run.go rfl ?_)
  refine Run.cs rfl (toInt64S_ct l false hb) rfl (rf64 _) ?_
  repeat (refine Run.go rfl ?_)
  refine Run.cs rfl (eqInt64S_ct l l true true hb) (by rw [frz64, decide_eq_true rfl]; rfl) rfl ?_
  repeat (refine Run.go rfl ?_)
  refine Run.cond rfl (fun h => by simp at h) (fun h => ?_)
  repeat (refine Run.go rfl ?_)
  refine Run.callo (30, 0) none rfl rfl rfl rfl rfl rfl rfl rfl rfl rfl (markInt64S_ct l 1 true hb (by omega)) rfl (rf64 _) rfl ?_
  repeat (refine Run.go rfl ?_)
  refine Run.bool 62 rfl (fun h => by simp at h; omega) (fun h => ?_)
  repeat (refine Run.go rfl ?_)
  refine Run.cs rfl (eqInt64S_ct R R false false hL) (by rw [frz64, decide_eq_true rfl]; rfl) rfl ?_
  repeat (refine Run.go rfl ?_)
  refine Run.bool 68 rfl (fun h => by simp at h) (fun h => ?_)
  repeat (refine Run.go rfl ?_)
  refine Run.bool 73 rfl (fun h => by simp at h) (fun h => ?_)
  repeat (refine Run.go rfl ?_)
  refine Run.cond rfl (fun h => by simp at h) (fun h => ?_)
  repeat (refine Run.go rfl ?_)
  refine Run.callo (35, 0) none rfl rfl rfl rfl rfl rfl rfl rfl rfl rfl (markInt64S_ct R 1 false hL (by omega)) rfl (rf64 _) rfl ?_
  repeat (refine Run.go rfl ?_)
  refine Run.cs rfl (heldInt64S_ct R.length 1 false hL (by omega)) (by rw [frz64, decide_eq_true (by simp [mk64])]; rfl) rfl ?_
  repeat (refine Run.go rfl ?_)
  refine Run.cond rfl (fun h => by simp at h; omega) (fun h => ?_)
  repeat (refine Run.go rfl ?_)
  refine Run.cond rfl (fun h => by simp at h) (fun h => ?_)
  repeat (refine Run.go rfl ?_)
  refine Run.cs rfl (toInt64S_ct l false hb) rfl (rf64 _) ?_
  repeat (refine Run.go rfl ?_)
  refine Run.cs rfl hI (by rw [frz64]; rfl) (by simp only [AV.rf, AV.rfL, rf64]; rfl) ?_
  iterate 2 (refine Run.go rfl ?_)
  refine Run.freeze (v' := .ro 1 false (R.map i64)) 94 rfl rfl (by show AV.ro _ _ (AV.frzL _) = _; rw [frz64]) ?_
  repeat (refine Run.go rfl ?_)
  refine Run.cs rfl (eqInt64S_ct R R false false hL) rfl rfl ?_
  repeat (refine Run.go rfl ?_)
  refine Run.bool 101 rfl (fun h => by simp at h) (fun h => ?_)
  repeat (refine Run.go rfl ?_)
  refine Run.bool 106 rfl (fun h => by simp at h) (fun h => ?_)
  repeat (refine Run.go rfl ?_)
  refine Run.cond rfl (fun h => by simp at h) (fun h => ?_)
  repeat (refine Run.go rfl ?_)
  refine Run.cs rfl (heldInt64S_ct R.length 1 false hL (by omega)) (by rw [frz64, decide_eq_true (by simp [mk64])]; rfl) rfl ?_
  repeat (refine Run.go rfl ?_)
  refine Run.cond rfl (fun h => by simp at h; omega) (fun h => ?_)
  repeat (refine Run.go rfl ?_)
  refine Run.cond rfl (fun h => by simp at h) (fun h => ?_)
  repeat (refine Run.go rfl ?_)
  exact Run.ret hg rfl rfl

theorem rdWalk : RdA Try.prog 1048576 Try.f3.params.toList (fun x : List Int × Int × Unit => [.ro 1 false (x.1.map i64), i64 x.2.1]) (fun x => (x.1.length ≤ 1048576 ∧ ∀ y ∈ x.1, (Lit.int .i64 y).wf = true) ∧ (Lit.int .i64 x.2.1).wf = true ∧ True) :=
  .cons (.slice Try.underlying22 (by kernel_rfl) (by decide) (.int Try.underlying2)) (.cons (.int Try.underlying2) .nil)
end Go.Proofs.Ytcfkdcjindhnjaa
