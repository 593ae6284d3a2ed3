/- Contracts of the program's functions, and what follows from them. -/
import Derived.Test.YtoeocaenflkajaaD4
set_option linter.unusedVariables false
namespace Go.Proofs.Ytoeocaenflkajaa
open Go Go.Av

noncomputable def X89 : Fx := ⟨Try.prog, tys, 89, Try.f89, [0]⟩
theorem X89_ok : X89.Ok := ⟨Try.func89, tys_ok⟩
theorem heldInt8S_ct (n : Nat) (k : Int) (ex : Bool) (hb : n ≤ 1048576) (hk : 0 ≤ k ∧ k ≤ 1099511627776) : Ct Try.prog 89 [.ro 1 ex ((mk8 n k).map i8), i64 k] (i64 (k + (n : Nat))) [] := by
  have hn : (mk8 n k).length = n := by simp [mk8]
  refine Ct.intro X89 X89_ok rfl rfl rfl rfl fun g hg => ?_
  repeat (refine Run.go rfl ?_)
  refine Run.loop (fun j : Nat => ⟨[(0, .ro 1 ex ((mk8 n k).map i8)), (1, i64 (k + j)), (5, i64 j)], []⟩) (fun j => j ≤ n) (fun j => n - j) 0 (by omega) ?_ ?_
  · refine St.Le.mk' ⟨rfl, ?_, rfl, trivial⟩ trivial
    show i64 k = _
    simp
  · intro j hj IH
    repeat (refine Run.go rfl ?_)
    refine Run.cond rfl (fun h => ?_) (fun h => ?_)
    · have hlt : j < n := by simp [hn] at h; omega
      repeat (refine Run.go rfl ?_)
      refine Run.val rfl rfl rfl (ValOk.idx (i8 (IntKind.i8.wrap (k + j))) rfl rfl rfl rfl rfl (by omega) (by simp [mk8, hlt])) rfl ?_
      repeat (refine Run.go rfl ?_)
      refine Run.cond rfl (fun h2 => by simp at h2) (fun h2 => ?_)
      repeat (refine Run.go rfl ?_)
      refine Run.of (IH (j + 1) (by omega) (by omega)) ⟨rfl, ?_, ?_, trivial⟩ trivial
      · show i64 (IntKind.i64.wrap (k + j + 1)) = _
        rw [wrap_i64 (by omega) (by omega)]
        exact congrArg i64 (by omega)
      · show i64 _ = _
        rw [wrap_i64 (by omega) (by omega)]
        rfl
    · have hj' : j = n := by simp [hn] at h; omega
      subst hj'
      repeat (refine Run.go rfl ?_)
      exact Run.ret hg rfl rfl

theorem mkCs_get {l : List Cp} {j : Nat} (h : j < l.length) (k : Int) : (mkCs l k)[j]? = some (mkC l[j] (k + (cnt (l.take j) : Nat))) := by
  have e : mkCs l k = mkCs (l.take j) k ++ mkCs (l.drop j) (k + (cnt (l.take j) : Nat)) := by
    rw [← mkCs_append, List.take_append_drop]
  rw [e, List.getElem?_append_right (by rw [mkCs_len, List.length_take]; omega), mkCs_len, List.drop_eq_getElem_cons h]
  simp [mkCs, Nat.min_eq_left (Nat.le_of_lt h)]

noncomputable def X52 : Fx := ⟨Try.prog, tys, 52, Try.f52, [0]⟩
theorem X52_ok : X52.Ok := ⟨Try.func52, tys_ok⟩
theorem heldCopyS_ct (l : List Cp) (k : Int) (ex ex' : Bool) (hb : l.length ≤ 1048576) (hq : ∀ c ∈ l, c.q.length ≤ 1048576) (hc : cnt l ≤ 1099511627776) (hk : 0 ≤ k ∧ k + (cnt l : Nat) ≤ 1099511627776) :
    Ct Try.prog 52 [.ro 5 ex ((mkCs l k).map (cpR ex')), i64 k] (i64 (k + (cnt l : Nat))) [] := by
  have hn := mkCs_len l k
  refine Ct.intro X52 X52_ok rfl rfl rfl rfl fun g hg => ?_
  repeat (refine Run.go rfl ?_)
  refine Run.loop (fun j : Nat => ⟨[(0, .ro 5 ex ((mkCs l k).map (cpR ex'))), (1, i64 (k + (cnt (l.take j) : Nat))), (5, i64 j)], []⟩) (fun j => j ≤ l.length) (fun j => l.length - j) 0 (by omega) ?_ ?_
  · refine St.Le.mk' ⟨rfl, ?_, rfl, trivial⟩ trivial
    show i64 k = _
    simp [cnt]
  · intro j hj IH
    repeat (refine Run.go rfl ?_)
    refine Run.cond rfl (fun h => ?_) (fun h => ?_)
    · have hlt : j < l.length := by simp [hn] at h; omega
      have hct := cnt_take l j
      have hct1 := cnt_take l (j + 1)
      have hcs := cnt_step hlt
      have hat : ((mkCs l k).map (cpR ex'))[((j : Int)).toNat]? = some (cpR ex' (mkC l[j] (k + (cnt (l.take j) : Nat)))) := by
        simp [mkCs_get hlt]
      have w1 : IntKind.i64.wrap (k + (cnt (l.take j) : Nat) + 1) = k + (cnt (l.take j) : Nat) + 1 := wrap_i64 (by omega) (by omega)
      have w2 : IntKind.i64.wrap (k + (cnt (l.take j) : Nat) + 1 + 1) = k + (cnt (l.take j) : Nat) + 2 := by rw [wrap_i64 (by omega) (by omega)]; omega
      have w3 : IntKind.i64.wrap (k + (cnt (l.take j) : Nat) + 2 + 1) = k + (cnt (l.take j) : Nat) + 3 := by rw [wrap_i64 (by omega) (by omega)]; omega
      have w4 : IntKind.i64.wrap (k + (cnt (l.take j) : Nat) + 3 + 1) = k + (cnt (l.take j) : Nat) + 4 := by rw [wrap_i64 (by omega) (by omega)]; omega
      repeat (refine Run.go rfl ?_)
      refine Run.val rfl rfl rfl (ValOk.idx _ rfl rfl rfl rfl rfl (by omega) hat) rfl ?_
      repeat (refine Run.go rfl ?_)
      refine Run.cond rfl (fun h2 => by simp [mkC] at h2) (fun h2 => ?_)
      repeat (refine Run.go rfl ?_)
      rw [w1]
      refine Run.val rfl rfl rfl (ValOk.idx _ rfl rfl rfl rfl rfl (by omega) hat) rfl ?_
      repeat (refine Run.go rfl ?_)
      refine Run.cond rfl (fun h2 => by simp [mkC] at h2) (fun h2 => ?_)
      repeat (refine Run.go rfl ?_)
      rw [w2]
      refine Run.val rfl rfl rfl (ValOk.idx _ rfl rfl rfl rfl rfl (by omega) hat) rfl ?_
      repeat (refine Run.go rfl ?_)
      refine Run.cond rfl (fun h2 => by simp [mkC] at h2) (fun h2 => ?_)
      repeat (refine Run.go rfl ?_)
      rw [w3]
      refine Run.val rfl rfl rfl (ValOk.idx _ rfl rfl rfl rfl rfl (by omega) hat) rfl ?_
      repeat (refine Run.go rfl ?_)
      refine Run.cond rfl (fun h2 => by simp [mkC] at h2) (fun h2 => ?_)
      repeat (refine Run.go rfl ?_)
      rw [w4]
      refine Run.val rfl rfl rfl (ValOk.idx _ rfl rfl rfl rfl rfl (by omega) hat) rfl ?_
      repeat (refine Run.go rfl ?_)
      refine Run.cs rfl (heldInt8S_ct l[j].q.length (k + (cnt (l.take j) : Nat) + 4) ex' (hq _ (by simp)) (by omega)) rfl rfl ?_
      repeat (refine Run.go rfl ?_)
      refine Run.cond rfl (fun h2 => by simp at h2; omega) (fun h2 => ?_)
      repeat (refine Run.go rfl ?_)
      refine Run.of (IH (j + 1) (by omega) (by omega)) ⟨rfl, ?_, ?_, trivial⟩ trivial
      · rw [hcs]
        show i64 (k + (cnt (l.take j) : Nat) + 4 + (l[j].q.length : Nat)) = i64 _
        exact congrArg i64 (by omega)
      · show i64 _ = _
        rw [wrap_i64 (by omega) (by omega)]
        rfl
    · have hj' : j = l.length := by simp [hn] at h; omega
      subst hj'
      rw [List.take_length]
      repeat (refine Run.go rfl ?_)
      exact Run.ret hg rfl rfl

noncomputable def X19 : Fx := ⟨Try.prog, tys, 19, Try.f19, [0]⟩
theorem X19_ok : X19.Ok := ⟨Try.func19, tys_ok⟩
theorem heldDesk_ct (d : Dk) (k : Int) (ex ex' : Bool) (hb : d.cs.length ≤ 1048576) (hq : ∀ c ∈ d.cs, c.q.length ≤ 1048576) (hc : cnt d.cs ≤ 1099511627776) (hk : 0 ≤ k ∧ k + (cnt d.cs : Nat) ≤ 1099511627776) :
    Ct Try.prog 19 [dkR ex ex' (mkD d k), i64 k] (i64 (k + (cnt d.cs : Nat))) [] := by
  refine Ct.intro X19 X19_ok rfl rfl rfl rfl fun g hg => ?_
  repeat (refine Run.go rfl ?_)
  refine Run.cs rfl (heldCopyS_ct d.cs k ex ex' hb hq hc hk) rfl rfl ?_
  repeat (refine Run.go rfl ?_)
  refine Run.cond rfl (fun h2 => by simp at h2; omega) (fun h2 => ?_)
  repeat (refine Run.go rfl ?_)
  exact Run.ret hg rfl rfl
end Go.Proofs.Ytoeocaenflkajaa
