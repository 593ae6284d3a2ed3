/- Contracts of the program's functions, and what follows from them. -/
import Derived.Test.YtoeocaenflkajaaD10
set_option linter.unusedVariables false
namespace Go.Proofs.Ytoeocaenflkajaa
open Go Go.Av

/-! Valid desks, in the reference. -/

theorem w64 {n : Int} (h : i16r n) : IntKind.i64.wrap n = n := wrap_i64 (by have := h.1; omega) (by have := h.2; omega)
theorem w64' {n : Int} (h : i8r n) : IntKind.i64.wrap n = n := wrap_i64 (by have := h.1; omega) (by have := h.2; omega)

/-- The reference's word for a queue. -/
theorem fi_first {q : List Int} {j : Nat} (hj : j < q.length) : fi (fun x => x == q[j]) q = j ↔ q[j] ∉ q.take j := by
  unfold fi
  have hlt : q.findIdx (fun x => x == q[j]) < q.length := List.findIdx_lt_length_of_exists ⟨q[j], by simp, by simp⟩
  rw [if_pos hlt]
  constructor
  · intro h hm
    have h' : q.findIdx (fun x => x == q[j]) = j := by omega
    obtain ⟨i, hi, e⟩ := List.getElem_of_mem hm
    have hi' : i < j := by simp at hi; omega
    have := List.not_of_lt_findIdx (p := fun x => x == q[j]) (xs := q) (i := i) (by omega)
    simp at this
    apply this
    simpa using e
  · intro hn
    have hle : q.findIdx (fun x => x == q[j]) ≤ j := by
      refine Nat.le_of_not_lt fun hgt => ?_
      have := List.not_of_lt_findIdx (p := fun x => x == q[j]) (xs := q) (i := j) hgt
      simp at this
    have hat := List.findIdx_getElem (p := fun x => x == q[j]) (xs := q) (w := hlt)
    have hge : ¬ q.findIdx (fun x => x == q[j]) < j := by
      intro hl
      apply hn
      have e : q[q.findIdx (fun x => x == q[j])] = q[j] := by simpa using hat
      rw [← e]
      exact List.mem_take_iff_getElem.2 ⟨_, by omega, rfl⟩
    omega

noncomputable def X92 : Fx := ⟨Try.prog, tys, 92, Try.f92, [0, 1]⟩
theorem X92_ok : X92.Ok := ⟨Try.func92, tys_ok⟩
theorem l06Copy_ct (c : Cp) (ex : Bool) (day : Int) (hlen : c.q.length ≤ 1048576) (hr : cpRng c) : Ct Try.prog 92 [.rp (cpR ex c).cells 0, i16 day] (bo (vC c day)) [] := by
  obtain ⟨st, who, due, ren, q⟩ := c
  obtain ⟨r1, r2, r3, r4, r5⟩ := hr
  simp only at hlen r1 r2 r3 r4 r5
  refine Ct.intro X92 X92_ok rfl rfl rfl rfl fun g hg => ?_
  repeat (refine Run.go rfl ?_)
  refine Run.cond rfl (fun h => ?_) (fun h => ?_)
  · have h0 : st = 0 := by simpa using h
    subst h0
    repeat (refine Run.go rfl ?_)
    refine Run.bool 16 rfl (fun h1 => ?_) (fun h1 => ?_)
    · repeat (refine Run.go rfl ?_)
      refine Run.bool 23 rfl (fun h2 => ?_) (fun h2 => ?_)
      · repeat (refine Run.go rfl ?_)
        refine Run.bool 30 rfl (fun h3 => ?_) (fun h3 => ?_)
        · repeat (refine Run.go rfl ?_)
          refine Run.ret hg rfl ?_
          show bo _ = _
          simp at h1 h2 h3
          simp [vC, h1, h2, h3]
          cases q <;> simp <;> omega
        · repeat (refine Run.go rfl ?_)
          refine Run.ret hg rfl ?_
          show bo _ = _
          simp at h1 h2 h3
          simp [vC, h1, h2, h3]
      · repeat (refine Run.go rfl ?_)
        refine Run.ret hg rfl ?_
        show bo _ = _
        simp at h1 h2
        simp [vC, h1, h2]
    · repeat (refine Run.go rfl ?_)
      refine Run.ret hg rfl ?_
      show bo _ = _
      simp at h1
      simp [vC, h1]
  · have h0 : st ≠ 0 := by simpa using h
    refine Run.go rfl ?_
    refine Run.go rfl ?_
    refine Run.go rfl ?_
    refine Run.region ⟨[(0, .rp (cpR ex ⟨st, who, due, ren, q⟩).cells 0), (1, i16 day), (49, bo (decide (st ≠ 1) && decide (st ≠ 2)))], []⟩ ?_ fun _ hN => ?_
    rotate_left
    · repeat (refine Run.go rfl ?_)
      refine Run.bool 43 rfl (fun hA => ?_) (fun hA => ?_)
      · repeat (refine Run.go rfl ?_)
        refine Run.of hN ⟨rfl, rfl, ?_, trivial⟩ trivial
        show bo _ = bo _
        have hA : st ≠ 1 := by simpa using hA
        simp [hA]
        rfl
      · repeat (refine Run.go rfl ?_)
        refine Run.of hN ⟨rfl, rfl, ?_, trivial⟩ trivial
        show bo _ = bo _
        have hA : st = 1 := by simpa using hA
        simp [hA]
    refine Run.cond rfl (fun hA => ?_) (fun hA => ?_)
    · repeat (refine Run.go rfl ?_)
      refine Run.ret hg rfl ?_
      show bo _ = _
      simp at hA
      simp [vC, h0, hA]
    have hst : st = 1 ∨ st = 2 := by simp at hA; omega
    repeat (refine Run.go rfl ?_)
    have ew := w64' r2
    have ed := w64 r3
    refine Run.drawS ⟨[(0, .rp (cpR ex ⟨st, who, due, ren, q⟩).cells 0), (1, i16 day), (86, bo (!(inr who 0 49 && inr due 0 10028 && decide (q.length ≤ 4) && !decide (who ∈ q))))], []⟩ (by kernel_rfl) (by decide +kernel) ?_ ?_
    · repeat (refine Quiet.go rfl ?_)
      rw [ew]
      refine Quiet.cs rfl rfl rfl rfl rfl (l06Person_ct who) rfl rfl ?_
      repeat (refine Quiet.go rfl ?_)
      refine Quiet.bool 57 rfl (fun h1 => ?_) (fun h1 => ?_)
      · repeat (refine Quiet.go rfl ?_)
        refine Quiet.nil (St.Le.mk' ⟨rfl, rfl, ?_, trivial⟩ trivial)
        show bo _ = bo _
        simp at h1
        simp [h1]
      have h1 : inr who 0 49 = true := by simpa using h1
      repeat (refine Quiet.go rfl ?_)
      rw [ed]
      refine Quiet.cs rfl rfl rfl rfl rfl (l00In_ct due 0 10028) rfl rfl ?_
      repeat (refine Quiet.go rfl ?_)
      refine Quiet.bool 66 rfl (fun h2 => ?_) (fun h2 => ?_)
      · repeat (refine Quiet.go rfl ?_)
        refine Quiet.nil (St.Le.mk' ⟨rfl, rfl, ?_, trivial⟩ trivial)
        show bo _ = bo _
        simp at h2
        simp [h2]
      have h2 : inr due 0 10028 = true := by simpa using h2
      repeat (refine Quiet.go rfl ?_)
      refine Quiet.bool 74 rfl (fun h3 => ?_) (fun h3 => ?_)
      · repeat (refine Quiet.go rfl ?_)
        refine Quiet.nil (St.Le.mk' ⟨rfl, rfl, ?_, trivial⟩ trivial)
        show bo _ = bo _
        have : ¬ q.length ≤ 4 := by simp at h3; omega
        simp [this]
      have h3 : q.length ≤ 4 := by simp at h3; omega
      repeat (refine Quiet.go rfl ?_)
      rw [ew]
      refine Quiet.cs rfl rfl rfl rfl rfl (l06Place_ct q ex who hlen r5) rfl rfl ?_
      repeat (refine Quiet.go rfl ?_)
      refine Quiet.nil (St.Le.mk' ⟨rfl, rfl, ?_, trivial⟩ trivial)
      show bo (decide (fi _ _ ≥ 0)) = bo _
      have := fi_nonneg (fun x => x == who) q
      simp only [ge_iff_le, this, h1, h2, h3, decide_true, Bool.true_and, Bool.not_not]
      congr 2
      rw [List.any_beq']
      simp
    refine Run.cond rfl (fun hB => ?_) (fun hB => ?_)
    · repeat (refine Run.go rfl ?_)
      refine Run.ret hg rfl ?_
      show bo _ = _
      have hqf : who ∈ q → qOk who q = false := by
        intro hm
        unfold qOk
        rw [Bool.and_eq_false_iff]
        right
        rw [decide_eq_false_iff_not, List.nodup_cons]
        exact fun h => h.1 hm
      by_cases b1 : inr who 0 49 = true
      · by_cases b2 : inr due 0 10028 = true
        · by_cases b3 : q.length ≤ 4
          · simp [b1, b2, b3] at hB
            simp [vC, h0, hqf hB]
          · simp [vC, h0, b3]
        · simp [vC, h0, b2]
      · simp [vC, h0, b1]
    have hC : inr who 0 49 = true ∧ inr due 0 10028 = true ∧ q.length ≤ 4 ∧ who ∉ q := by
      simp at hB
      exact ⟨hB.1.1.1, hB.1.1.2, hB.1.2, hB.2⟩
    obtain ⟨c1, c2, c3, c4⟩ := hC
    repeat (refine Run.go rfl ?_)
    refine Run.loop (fun j : Nat => ⟨[(0, .rp (cpR ex ⟨st, who, due, ren, q⟩).cells 0), (1, i16 day), (5, i64 j)], []⟩) (fun j => j ≤ q.length ∧ (∀ x ∈ q.take j, inr x 0 49 = true) ∧ (q.take j).Nodup) (fun j => q.length - j) 0 ⟨by omega, by simp, by simp⟩ ?_ ?_
    · exact St.Le.mk' ⟨rfl, rfl, rfl, trivial⟩ trivial
    rintro j ⟨hj, hall, hnd⟩ IH
    repeat (refine Run.go rfl ?_)
    refine Run.cond rfl (fun h' => ?_) (fun h' => ?_)
    · have hlt : j < q.length := by simpa using h'
      have eq := w64' (r5 q[j] (by simp))
      repeat (refine Run.go rfl ?_)
      refine Run.drawS ⟨[(0, .rp (cpR ex ⟨st, who, due, ren, q⟩).cells 0), (1, i16 day), (5, i64 j), (122, bo (!(inr q[j] 0 49 && decide (q[j] ∉ q.take j))))], []⟩ (by kernel_rfl) (by decide +kernel) ?_ ?_
      · repeat (refine Quiet.go rfl ?_)
        refine Quiet.val rfl rfl (ValOk.idx (i8 q[j]) rfl rfl rfl rfl rfl (by omega) (by simp [hlt])) rfl ?_
        repeat (refine Quiet.go rfl ?_)
        rw [eq]
        refine Quiet.cs rfl rfl rfl rfl rfl (l06Person_ct q[j]) rfl rfl ?_
        repeat (refine Quiet.go rfl ?_)
        refine Quiet.bool 106 rfl (fun h1 => ?_) (fun h1 => ?_)
        · repeat (refine Quiet.go rfl ?_)
          refine Quiet.nil (St.Le.mk' ⟨rfl, rfl, rfl, ?_, trivial⟩ trivial)
          show bo _ = bo _
          simp at h1
          simp [h1]
        have h1 : inr q[j] 0 49 = true := by simpa using h1
        repeat (refine Quiet.go rfl ?_)
        refine Quiet.val rfl rfl (ValOk.idx (i8 q[j]) rfl rfl rfl rfl rfl (by omega) (by simp [hlt])) rfl ?_
        repeat (refine Quiet.go rfl ?_)
        rw [eq]
        refine Quiet.cs rfl rfl rfl rfl rfl (l06Place_ct q ex q[j] hlen r5) rfl rfl ?_
        repeat (refine Quiet.go rfl ?_)
        refine Quiet.nil (St.Le.mk' ⟨rfl, rfl, rfl, ?_, trivial⟩ trivial)
        show bo (fi _ _ != (j : Int)) = bo _
        have := fi_first hlt
        congr 2
        rw [h1, Bool.true_and, Bool.eq_iff_iff]
        simp [← this]
      refine Run.cond rfl (fun h2 => ?_) (fun h2 => ?_)
      · repeat (refine Run.go rfl ?_)
        refine Run.ret hg rfl ?_
        show bo _ = _
        have : qOk who q = false := by
          refine qOk_false hlt ?_
          by_cases b1 : inr q[j] 0 49 = true
          · right
            simp [b1] at h2
            exact List.mem_cons_of_mem _ h2
          · left; simpa using b1
        simp [vC, h0, this]
      · have h2 : inr q[j] 0 49 = true ∧ q[j] ∉ q.take j := by simpa using h2
        repeat (refine Run.go rfl ?_)
        refine Run.of (IH (j + 1) ⟨by omega, ?_, ?_⟩ (by omega)) ⟨rfl, rfl, ?_, trivial⟩ trivial
        · rw [List.take_succ_eq_append_getElem hlt]
          intro x hx
          rcases List.mem_append.1 hx with hx | hx
          · exact hall x hx
          · rw [List.mem_singleton.1 hx]; exact h2.1
        · rw [List.take_succ_eq_append_getElem hlt, List.nodup_append]
          refine ⟨hnd, by simp, fun x hx y hy e => ?_⟩
          rw [List.mem_singleton.1 hy] at e
          rw [e] at hx
          exact h2.2 hx
        · show i64 _ = _
          rw [wrap_i64 (by omega) (by omega)]
          rfl
    · have hj' : j = q.length := by simp at h'; omega
      subst hj'
      rw [List.take_length] at hall hnd
      have hqo : qOk who q = true := by
        unfold qOk
        rw [Bool.and_eq_true, decide_eq_true_eq, decide_eq_true_eq, List.nodup_cons]
        exact ⟨hall, c4, hnd⟩
      have base : vC ⟨st, who, due, ren, q⟩ day = (if st = 2 then decide (ren = 0) && decide (day ≤ due) else inr ren 0 2) := by
        have : (decide (st = 1) || decide (st = 2)) = true := by simpa using hst
        simp only [vC, if_neg h0, this, c1, c2, c3, hqo, decide_true, Bool.true_and]
      repeat (refine Run.go rfl ?_)
      refine Run.cond rfl (fun h2 => ?_) (fun h2 => ?_)
      · have h2 : st = 2 := by simpa using h2
        subst h2
        repeat (refine Run.go rfl ?_)
        refine Run.bool 133 rfl (fun h3 => ?_) (fun h3 => ?_)
        · repeat (refine Run.go rfl ?_)
          refine Run.ret hg rfl ?_
          rw [base]
          show bo _ = _
          simp at h3
          simp [h3]
        · repeat (refine Run.go rfl ?_)
          refine Run.ret hg rfl ?_
          rw [base]
          show bo _ = _
          simp at h3
          simp [h3]
      · have h2 : st ≠ 2 := by simpa using h2
        have er := w64' r4
        repeat (refine Run.go rfl ?_)
        rw [er]
        refine Run.cs rfl (l00In_ct ren 0 2) rfl rfl ?_
        repeat (refine Run.go rfl ?_)
        refine Run.ret hg rfl ?_
        rw [base, if_neg h2]
        rfl
end Go.Proofs.Ytoeocaenflkajaa
