/- Contracts of the program's functions, and what follows from them. -/
import Derived.Test.YtoeocaenflkajaaD11
set_option linter.unusedVariables false
namespace Go.Proofs.Ytoeocaenflkajaa
open Go Go.Av

noncomputable def X85 : Fx := ⟨Try.prog, tys, 85, Try.f85, [0, 1]⟩
theorem X85_ok : X85.Ok := ⟨Try.func85, tys_ok⟩
theorem l06Loans_ct (d : Dk) (e1 e2 : Bool) (w : Int) (hd : dkOk d) (hr : dkRng d) : Ct Try.prog 85 [.rp (dkR e1 e2 d).cells 0, i64 w] (.own 1 false ((idxs (lentTo w) d.cs).map i64)) [] := by
  obtain ⟨day, l⟩ := d
  obtain ⟨hb, hq⟩ := hd
  obtain ⟨_, hr⟩ := hr
  simp only at hb hq hr
  refine Ct.intro X85 X85_ok rfl rfl rfl rfl fun g hg => ?_
  repeat (refine Run.go rfl ?_)
  refine Run.buildSlice [] rfl rfl rfl rfl rfl rfl rfl rfl rfl rfl rfl rfl rfl rfl ?_
  repeat (refine Run.go rfl ?_)
  refine Run.loosen0 5 rfl ?_
  refine Run.loop (fun j : Nat => ⟨[(0, .rp (dkR e1 e2 ⟨day, l⟩).cells 0), (1, i64 w), (5, .own 1 false ((idxs (lentTo w) (l.take j)).map i64)), (6, i64 j)], []⟩) (fun j => j ≤ l.length) (fun j => l.length - j) 0 (by omega) ?_ ?_
  · exact St.Le.mk' ⟨rfl, rfl, rfl, rfl, trivial⟩ trivial
  · intro j hj IH
    repeat (refine Run.go rfl ?_)
    refine Run.cond rfl (fun h => ?_) (fun h => ?_)
    · have hlt : j < l.length := by simpa using h
      have hil := idxs_len (lentTo w) (l.take j)
      rw [List.length_take] at hil
      have ew := w64' (hr l[j] (by simp)).2.1
      repeat (refine Run.go rfl ?_)
      refine Run.val rfl rfl rfl (ValOk.idx (cpR e2 l[j]) rfl rfl rfl rfl rfl (by omega) (by simp [hlt])) rfl ?_
      repeat (refine Run.go rfl ?_)
      refine Run.bool 26 rfl (fun hA => ?_) (fun hA => ?_)
      · have hA : l[j].st = 1 := by simpa using hA
        repeat (refine Run.go rfl ?_)
        refine Run.val rfl rfl rfl (ValOk.idx (cpR e2 l[j]) rfl rfl rfl rfl rfl (by omega) (by simp [hlt])) rfl ?_
        repeat (refine Run.go rfl ?_)
        rw [ew]
        refine Run.cond rfl (fun hB => ?_) (fun hB => ?_)
        · have hB : l[j].who = w := by simpa using hB
          repeat (refine Run.go rfl ?_)
          refine Run.buildSlice [i64 j] rfl rfl rfl rfl rfl rfl rfl rfl rfl rfl rfl rfl rfl rfl ?_
          refine Run.appendo rfl rfl rfl rfl rfl rfl rfl rfl rfl rfl rfl rfl rfl rfl (by show (_ + 1) * 8 ≤ _; simp; omega) (by simp [capMax]; omega) (by decide) rfl ?_
          repeat (refine Run.go rfl ?_)
          refine Run.of (IH (j + 1) (by omega) (by omega)) ⟨rfl, rfl, ?_, ?_, trivial⟩ trivial
          · rw [idxs_step hlt, if_pos (by simp [lentTo, hA, hB])]
            show AV.own _ _ _ = AV.own _ _ _
            simp
          · show i64 _ = _
            rw [wrap_i64 (by omega) (by omega)]
            rfl
        · have hB : l[j].who ≠ w := by simpa using hB
          repeat (refine Run.go rfl ?_)
          refine Run.of (IH (j + 1) (by omega) (by omega)) ⟨rfl, rfl, ?_, ?_, trivial⟩ trivial
          · rw [idxs_step hlt, if_neg (by simp [lentTo, hB])]
            rfl
          · show i64 _ = _
            rw [wrap_i64 (by omega) (by omega)]
            rfl
      · have hA : l[j].st ≠ 1 := by simpa using hA
        repeat (refine Run.go rfl ?_)
        refine Run.cond rfl (fun hB => by simp at hB) (fun hB => ?_)
        repeat (refine Run.go rfl ?_)
        refine Run.of (IH (j + 1) (by omega) (by omega)) ⟨rfl, rfl, ?_, ?_, trivial⟩ trivial
        · rw [idxs_step hlt, if_neg (by simp [lentTo, hA])]
          rfl
        · show i64 _ = _
          rw [wrap_i64 (by omega) (by omega)]
          rfl
    · have hj' : j = l.length := by simp at h; omega
      subst hj'
      rw [List.take_length]
      repeat (refine Run.go rfl ?_)
      refine Run.pack 4 rfl rfl rfl ?_
      exact Run.ret hg rfl rfl

noncomputable def X58 : Fx := ⟨Try.prog, tys, 58, Try.f58, [0]⟩
theorem X58_ok : X58.Ok := ⟨Try.func58, tys_ok⟩
theorem l06Ok_ct (d : Dk) (e1 e2 : Bool) (hd : dkOk d) (hr : dkRng d) : Ct Try.prog 58 [.rp (dkR e1 e2 d).cells 0] (bo (vD d)) [] := by
  have ew := w64 hr.1
  refine Ct.intro X58 X58_ok rfl rfl rfl rfl fun g hg => ?_
  repeat (refine Run.go rfl ?_)
  rw [ew]
  refine Run.cs rfl (l00In_ct d.day 0 10000) rfl rfl ?_
  repeat (refine Run.go rfl ?_)
  refine Run.bool 12 rfl (fun h => ?_) (fun h1 => ?_)
  · repeat (refine Run.go rfl ?_)
    refine Run.cond rfl (fun _ => ?_) (fun h => by simp at h)
    repeat (refine Run.go rfl ?_)
    refine Run.ret hg rfl ?_
    show bo _ = _
    simp at h
    simp [vD, h]
  have h1 : inr d.day 0 10000 = true := by simpa using h1
  repeat (refine Run.go rfl ?_)
  refine Run.cond rfl (fun h => ?_) (fun h2 => ?_)
  · repeat (refine Run.go rfl ?_)
    refine Run.ret hg rfl ?_
    show bo _ = _
    have : ¬ d.cs.length ≤ 60 := by simp at h; omega
    simp [vD, this]
  have h2 : d.cs.length ≤ 60 := by simp at h2; omega
  repeat (refine Run.go rfl ?_)
  refine Run.loop (fun j : Nat => ⟨[(0, .rp (dkR e1 e2 d).cells 0), (3, i64 j)], []⟩) (fun j => j ≤ d.cs.length ∧ (d.cs.take j).all (fun c => vC c d.day) = true) (fun j => d.cs.length - j) 0 ⟨by omega, rfl⟩ ?_ ?_
  · exact St.Le.mk' ⟨rfl, rfl, trivial⟩ trivial
  rintro j ⟨hj, hall⟩ IH
  repeat (refine Run.go rfl ?_)
  refine Run.cond rfl (fun h => ?_) (fun h => ?_)
  · have hlt : j < d.cs.length := by simpa using h
    repeat (refine Run.go rfl ?_)
    refine Run.draw (by kernel_rfl) (by decide +kernel) ?_
    repeat (refine Quiet.go rfl ?_)
    refine Quiet.val rfl rfl (ValOk.idx (cpR e2 d.cs[j]) rfl rfl rfl rfl rfl (by omega) (by simp [hlt])) rfl ?_
    repeat (refine Quiet.go rfl ?_)
    refine Quiet.cs rfl rfl rfl rfl rfl (l06Copy_ct d.cs[j] e2 d.day (hd.2 _ (by simp)) (hr.2 _ (by simp))) rfl rfl ?_
    repeat (refine Quiet.go rfl ?_)
    refine Quiet.nil ?_
    repeat (refine Run.go rfl ?_)
    refine Run.cond rfl (fun h => ?_) (fun h => ?_)
    · repeat (refine Run.go rfl ?_)
      refine Run.ret hg rfl ?_
      show bo _ = _
      have : d.cs.all (fun c => vC c d.day) = false := by
        rw [List.all_eq_false]
        exact ⟨d.cs[j], by simp, by simpa using h⟩
      simp only [vD, this, Bool.and_false, Bool.false_and]
    · repeat (refine Run.go rfl ?_)
      refine Run.of (IH (j + 1) ⟨by omega, ?_⟩ (by omega)) ⟨rfl, ?_, trivial⟩ trivial
      · rw [List.take_succ_eq_append_getElem hlt, List.all_append, hall]
        simpa using h
      · show i64 _ = _
        rw [wrap_i64 (by omega) (by omega)]
        rfl
  have hj' : j = d.cs.length := by simp at h; omega
  subst hj'
  rw [List.take_length] at hall
  repeat (refine Run.go rfl ?_)
  refine Run.loop (fun j : Nat => ⟨[(0, .rp (dkR e1 e2 d).cells 0), (4, i64 j)], []⟩) (fun j => j ≤ 50 ∧ (nums j).all (fun w => decide ((idxs (lentTo w) d.cs).length ≤ 3)) = true) (fun j => 50 - j) 0 ⟨by omega, rfl⟩ ?_ ?_
  · exact St.Le.mk' ⟨rfl, rfl, trivial⟩ trivial
  rintro j ⟨hj, hall2⟩ IH2
  have hns : nums (j + 1) = nums j ++ [(j : Int)] := by simp [nums, List.range_succ]
  repeat (refine Run.go rfl ?_)
  refine Run.cond rfl (fun h => ?_) (fun h => ?_)
  · have hlt : j < 50 := by simp at h; omega
    repeat (refine Run.go rfl ?_)
    refine Run.cs rfl (l06Loans_ct d e1 e2 j hd hr) rfl (rf64 _) ?_
    refine Run.unpack 47 rfl rfl ?_
    repeat (refine Run.go rfl ?_)
    refine Run.cond rfl (fun h3 => ?_) (fun h3 => ?_)
    · repeat (refine Run.go rfl ?_)
      refine Run.ret hg rfl ?_
      show bo _ = _
      have : (nums 50).all (fun w => decide ((idxs (lentTo w) d.cs).length ≤ 3)) = false := by
        rw [List.all_eq_false]
        refine ⟨(j : Int), by simp [nums]; exact ⟨j, hlt, rfl⟩, ?_⟩
        simp at h3 ⊢
        omega
      simp only [vD, this, Bool.and_false]
    · repeat (refine Run.go rfl ?_)
      refine Run.of (IH2 (j + 1) ⟨by omega, ?_⟩ (by omega)) ⟨rfl, ?_, trivial⟩ trivial
      · rw [hns, List.all_append, hall2]
        simp at h3 ⊢
        omega
      · show i64 _ = _
        rw [wrap_i64 (by omega) (by omega)]
        rfl
  · have hj' : j = 50 := by simp at h; omega
    subst hj'
    repeat (refine Run.go rfl ?_)
    refine Run.ret hg rfl ?_
    show bo true = _
    simp only [vD, h1, h2, hall, hall2, decide_true, Bool.true_and]

noncomputable def X24 : Fx := ⟨Try.prog, tys, 24, Try.f24, [0]⟩
theorem X24_ok : X24.Ok := ⟨Try.func24, tys_ok⟩
theorem specValidDesk_ct (d : Dk) (e1 e2 : Bool) (hd : dkOk d) (hr : dkRng d) : Ct Try.prog 24 [dkR e1 e2 d] (bo (vD d)) [] := by
  refine Ct.intro X24 X24_ok rfl rfl rfl rfl fun g hg => ?_
  repeat (refine Run.go rfl ?_)
  refine Run.cs rfl (l06Ok_ct d e1 e2 hd hr) rfl rfl ?_
  repeat (refine Run.go rfl ?_)
  exact Run.ret hg rfl rfl
end Go.Proofs.Ytoeocaenflkajaa
