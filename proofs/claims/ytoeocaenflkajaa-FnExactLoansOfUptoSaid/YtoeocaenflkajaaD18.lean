/- Contracts of the program's functions, and what follows from them. -/
import Derived.Test.YtoeocaenflkajaaD17
set_option linter.unusedVariables false
namespace Go.Proofs.Ytoeocaenflkajaa
open Go Go.Av

/-! Slices of whole numbers: compared, marked, held. -/

noncomputable def X41 : Fx := ⟨Try.prog, tys, 41, Try.f41, [0, 1]⟩
theorem X41_ok : X41.Ok := ⟨Try.func41, tys_ok⟩
theorem eqInt64S_ct (l m : List Int) (ex ex' : Bool) (hb : l.length ≤ 1048576) : Ct Try.prog 41 [.ro 1 ex (l.map i64), .ro 1 ex' (m.map i64)] (bo (decide (l = m))) [] := by
  refine Ct.intro X41 X41_ok rfl rfl rfl rfl fun g hg => ?_
  repeat (refine Run.go rfl ?_)
  refine Run.cond rfl (fun h => ?_) (fun h => ?_)
  · repeat (refine Run.go rfl ?_)
    refine Run.ret hg rfl ?_
    show bo _ = _
    congr 2
    simp at h
    symm
    simp
    rintro rfl
    exact h rfl
  · have hlen : l.length = m.length := by simp at h; omega
    repeat (refine Run.go rfl ?_)
    refine Run.loop (fun j : Nat => ⟨[(0, .ro 1 ex (l.map i64)), (1, .ro 1 ex' (m.map i64)), (5, i64 j)], []⟩) (fun j => j ≤ l.length ∧ l.take j = m.take j) (fun j => l.length - j) 0 ⟨by omega, rfl⟩ ?_ ?_
    · exact St.Le.mk' ⟨rfl, rfl, rfl, trivial⟩ trivial
    · rintro j ⟨hj, hjm⟩ IH
      repeat (refine Run.go rfl ?_)
      refine Run.cond rfl (fun h => ?_) (fun h => ?_)
      · have hlt : j < l.length := by simpa using h
        have hlt' : j < m.length := by omega
        repeat (refine Run.go rfl ?_)
        refine Run.draw (by kernel_rfl) (by decide +kernel) ?_
        repeat (refine Quiet.go rfl ?_)
        refine Quiet.val rfl rfl (ValOk.idx (i64 l[j]) rfl rfl rfl rfl rfl (by omega) (by simp [hlt])) rfl ?_
        repeat (refine Quiet.go rfl ?_)
        refine Quiet.val rfl rfl (ValOk.idx (i64 m[j]) rfl rfl rfl rfl rfl (by omega) (by simp [hlt'])) rfl ?_
        repeat (refine Quiet.go rfl ?_)
        refine Quiet.nil ?_
        repeat (refine Run.go rfl ?_)
        refine Run.cond rfl (fun h => ?_) (fun h => ?_)
        · repeat (refine Run.go rfl ?_)
          refine Run.ret hg rfl ?_
          show bo _ = _
          congr 2
          symm
          simp at h ⊢
          rintro rfl
          exact h rfl
        · repeat (refine Run.go rfl ?_)
          refine Run.of (IH (j + 1) ⟨by omega, ?_⟩ (by omega)) ⟨rfl, rfl, ?_, trivial⟩ trivial
          · rw [List.take_succ_eq_append_getElem hlt, List.take_succ_eq_append_getElem hlt', hjm]
            simp at h
            rw [h]
          · show i64 _ = _
            rw [wrap_i64 (by omega) (by omega)]
            rfl
      · have hj' : j = l.length := by simp at h; omega
        repeat (refine Run.go rfl ?_)
        refine Run.ret hg rfl ?_
        show bo _ = _
        rw [List.take_of_length_le (by omega), List.take_of_length_le (by omega)] at hjm
        simp [hjm]

def mk64 (n : Nat) (k : Int) : List Int := (List.range n).map fun i : Nat => k + (i : Int)

noncomputable def X42 : Fx := ⟨Try.prog, tys, 42, Try.f42, [0]⟩
theorem X42_ok : X42.Ok := ⟨Try.func42, tys_ok⟩
theorem markInt64S_ct (l : List Int) (k : Int) (ex : Bool) (hb : l.length ≤ 1048576) (hk : 0 ≤ k ∧ k ≤ 1099511627776) : Ct Try.prog 42 [.own 1 ex (l.map i64), i64 k] (i64 (k + l.length)) [.own 1 ex ((mk64 l.length k).map i64)] := by
  refine Ct.intro X42 X42_ok rfl rfl rfl rfl fun g hg => ?_
  refine Run.unpack 0 rfl rfl ?_
  repeat (refine Run.go rfl ?_)
  refine Run.loop (fun j : Nat => ⟨[(0, .vec (0, 0) 0 l.length), (1, i64 (k + j)), (5, i64 j)], [((0, 0), .vec 1 ex ((mk64 j k).map i64 ++ (l.drop j).map i64))]⟩) (fun j => j ≤ l.length) (fun j => l.length - j) 0 (by omega) ?_ ?_
  · refine St.Le.mk' ⟨?_, ?_, rfl, trivial⟩ ⟨?_, trivial⟩
    · show AV.vec _ _ (l.map i64).length = _
      simp
    · show i64 k = _
      simp
    · show Ob.vec _ _ _ = _
      simp [mk64]
  · intro j hj IH
    repeat (refine Run.go rfl ?_)
    refine Run.cond rfl (fun h => ?_) (fun h => ?_)
    · have hlt : j < l.length := by simpa using h
      repeat (refine Run.go rfl ?_)
      refine Run.val rfl rfl rfl (ValOk.idxv rfl rfl rfl rfl rfl rfl (by omega) (by simp; omega)) rfl ?_
      refine Run.storee (i64 l[j]) (i64 (k + j)) rfl rfl rfl rfl rfl rfl rfl ?_ rfl rfl rfl ?_
      · simp only [Nat.zero_add, Int.toNat_natCast]
        rw [List.getElem?_append_right (by simp [mk64])]
        simp [mk64, hlt]
      repeat (refine Run.go rfl ?_)
      refine Run.of (IH (j + 1) (by omega) (by omega)) ⟨rfl, ?_, ?_, trivial⟩ ⟨?_, trivial⟩
      · show i64 (IntKind.i64.wrap (k + j + 1)) = _
        rw [wrap_i64 (by omega) (by omega)]
        exact congrArg i64 (by omega)
      · show i64 _ = _
        rw [wrap_i64 (by omega) (by omega)]
        rfl
      · show Ob.vec _ _ _ = _
        congr 1
        simp only [Nat.zero_add, Int.toNat_natCast]
        rw [List.drop_eq_getElem_cons hlt, List.map_cons, List.set_append_right _ _ (by simp [mk64])]
        simp [mk64, List.range_succ]
    · have hj' : j = l.length := by simp at h; omega
      subst hj'
      repeat (refine Run.go rfl ?_)
      refine Run.pack 0 rfl rfl (by simp [mk64]) ?_
      refine Run.reto hg rfl rfl rfl ?_ rfl rfl
      show AV.own _ _ _ = _
      simp

noncomputable def X43 : Fx := ⟨Try.prog, tys, 43, Try.f43, [0]⟩
theorem X43_ok : X43.Ok := ⟨Try.func43, tys_ok⟩
theorem heldInt64S_ct (n : Nat) (k : Int) (ex : Bool) (hb : n ≤ 1048576) (hk : 0 ≤ k ∧ k ≤ 1099511627776) : Ct Try.prog 43 [.ro 1 ex ((mk64 n k).map i64), i64 k] (i64 (k + (n : Nat))) [] := by
  have hn : (mk64 n k).length = n := by simp [mk64]
  refine Ct.intro X43 X43_ok rfl rfl rfl rfl fun g hg => ?_
  repeat (refine Run.go rfl ?_)
  refine Run.loop (fun j : Nat => ⟨[(0, .ro 1 ex ((mk64 n k).map i64)), (1, i64 (k + j)), (5, i64 j)], []⟩) (fun j => j ≤ n) (fun j => n - j) 0 (by omega) ?_ ?_
  · refine St.Le.mk' ⟨rfl, ?_, rfl, trivial⟩ trivial
    show i64 k = _
    simp
  · intro j hj IH
    repeat (refine Run.go rfl ?_)
    refine Run.cond rfl (fun h => ?_) (fun h => ?_)
    · have hlt : j < n := by simp [hn] at h; omega
      repeat (refine Run.go rfl ?_)
      refine Run.val rfl rfl rfl (ValOk.idx (i64 (k + j)) rfl rfl rfl rfl rfl (by omega) (by simp [mk64, hlt])) rfl ?_
      repeat (refine Run.go rfl ?_)
      refine Run.cond rfl (fun h2 => by simp at h2) (fun h2 => ?_)
      repeat (refine Run.go rfl ?_)
      refine Run.of (IH (j + 1) (by omega) (by omega)) ⟨rfl, ?_, ?_, trivial⟩ trivial
      · show i64 (IntKind.i64.wrap (k + j + 1)) = _
        rw [wrap_i64 (by omega) (by omega)]
        exact congrArg i64 (by omega)
      · show i64 _ = _
        rw [wrap_i64 (by omega) (by omega)]
        rfl
    · have hj' : j = n := by simp [hn] at h; omega
      subst hj'
      repeat (refine Run.go rfl ?_)
      exact Run.ret hg rfl rfl


/-! The sizes that the law lets in. -/

theorem szCs_cnt (l : List Cp) (n : Int) (h : 0 ≤ n) (h' : ¬ szCs l n < 0) : (cnt l : Nat) ≤ n + 4 * l.length := by
  induction l generalizing n with
  | nil => simp [cnt]; exact h
  | cons c l ih =>
    unfold szCs at h'
    split at h'
    · exact absurd (by decide) h'
    · rename_i hq
      have := ih _ (by omega) h'
      rw [cnt_cons]
      unfold szQ at this hq
      split at hq
      · rename_i h1
        exact absurd (by decide) hq
      · rename_i h1
        rw [if_neg h1] at this
        simp only [List.length_cons]
        omega

theorem szD_cnt (d : Dk) (n : Int) (h : 0 ≤ n) (h' : ¬ szD d n < 0) : (cnt d.cs : Nat) ≤ 4 * n := by
  unfold szD at h'
  split at h'
  · exact absurd (by decide) h'
  · have := szCs_cnt d.cs _ (by omega) h'
    omega
end Go.Proofs.Ytoeocaenflkajaa
