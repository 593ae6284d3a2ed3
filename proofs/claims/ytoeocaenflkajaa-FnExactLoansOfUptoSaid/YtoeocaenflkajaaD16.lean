/- Contracts of the program's functions, and what follows from them. -/
import Derived.Test.YtoeocaenflkajaaD15
set_option linter.unusedVariables false
namespace Go.Proofs.Ytoeocaenflkajaa
open Go Go.Av

/-! Whether somebody may take a book. -/

noncomputable def X82 : Fx := ⟨Try.prog, tys, 82, Try.f82, [0, 1]⟩
theorem X82_ok : X82.Ok := ⟨Try.func82, tys_ok⟩
theorem l06Overdue_ct (c : Cp) (ex : Bool) (day : Int) : Ct Try.prog 82 [.rp (cpR ex c).cells 0, i16 day] (bo (over day c)) [] := by
  refine Ct.intro X82 X82_ok rfl rfl rfl rfl fun g hg => ?_
  repeat (refine Run.go rfl ?_)
  refine Run.bool 10 rfl (fun h => ?_) (fun h => ?_)
  · repeat (refine Run.go rfl ?_)
    refine Run.ret hg rfl ?_
    show bo _ = _
    simp at h
    simp [over, h]
  · repeat (refine Run.go rfl ?_)
    refine Run.ret hg rfl ?_
    show bo _ = _
    simp at h
    simp [over, h]

noncomputable def X102 : Fx := ⟨Try.prog, tys, 102, Try.f102, [0, 1]⟩
theorem X102_ok : X102.Ok := ⟨Try.func102, tys_ok⟩
theorem isHeld_ct (c : Cp) (ex : Bool) (w : Int) : Ct Try.prog 102 [cpR ex c, i8 w] (bo (decide (c.st = 2) && decide (c.who = w))) [] := by
  refine Ct.intro X102 X102_ok rfl rfl rfl rfl fun g hg => ?_
  repeat (refine Run.go rfl ?_)
  refine Run.bool 8 rfl (fun h => ?_) (fun h => ?_)
  · repeat (refine Run.go rfl ?_)
    refine Run.ret hg rfl ?_
    show bo _ = _
    simp at h
    simp [h]
    rfl
  · repeat (refine Run.go rfl ?_)
    refine Run.ret hg rfl ?_
    show bo _ = _
    simp at h
    simp [h]

noncomputable def X103 : Fx := ⟨Try.prog, tys, 103, Try.f103, [0, 1, 2]⟩
theorem X103_ok : X103.Ok := ⟨Try.func103, tys_ok⟩
theorem mayLend1_ct (c : Cp) (d : Dk) (e1 e2 e3 : Bool) (w : Int) : Ct Try.prog 103 [cpR e3 c, .rp [i8 w] 0, .rp (dkR e1 e2 d).cells 0] (bo (lentTo w c && over d.day c)) [] := by
  refine Ct.intro X103 X103_ok rfl rfl rfl rfl fun g hg => ?_
  repeat (refine Run.go rfl ?_)
  refine Run.cs rfl (isLent_ct c e3 w) rfl rfl ?_
  repeat (refine Run.go rfl ?_)
  refine Run.bool 8 rfl (fun h => ?_) (fun h => ?_)
  · have h : lentTo w c = true := h
    repeat (refine Run.go rfl ?_)
    refine Run.cs rfl (isOverdue_ct d c e1 e2 e3) rfl rfl ?_
    repeat (refine Run.go rfl ?_)
    refine Run.ret hg rfl ?_
    show bo _ = _
    rw [h, Bool.true_and]
  · have h : lentTo w c = false := h
    repeat (refine Run.go rfl ?_)
    refine Run.ret hg rfl ?_
    show bo _ = _
    rw [h, Bool.false_and]

def stMay (w : Int) (c : Cp) : Bool := decide (c.st = 0) || (decide (c.st = 2) && decide (c.who = w))
def mayP (d : Dk) (w : Int) (c : Cp) : Bool := stMay w c && decide ((idxs (lentTo w) d.cs).length < 3) && !d.cs.any (fun x => lentTo w x && over d.day x)

theorem mem_idxs {α : Type} {p : α → Bool} {l : List α} {i : Int} : i ∈ idxs p l ↔ ∃ j : Nat, ∃ h : j < l.length, i = j ∧ p l[j] = true := by
  simp only [idxs, List.mem_map, List.mem_filter, Prod.exists, List.mem_zipIdx_iff_getElem?]
  constructor
  · rintro ⟨a, b, ⟨h1, h2⟩, rfl⟩
    obtain ⟨hb, rfl⟩ := List.getElem?_eq_some_iff.mp h1
    exact ⟨b, hb, rfl, h2⟩
  · rintro ⟨j, hj, rfl, h⟩
    exact ⟨l[j], j, ⟨List.getElem?_eq_getElem hj, h⟩, rfl⟩

theorem any_idxs {l : List Cp} {p q : Cp → Bool} : (l.any fun x => p x && q x) = (idxs p l).any fun i => q (l.getD i.toNat cp0) := by
  rw [Bool.eq_iff_iff, List.any_eq_true, List.any_eq_true]
  constructor
  · rintro ⟨x, hx, hpq⟩
    obtain ⟨j, hj, rfl⟩ := List.getElem_of_mem hx
    rw [Bool.and_eq_true] at hpq
    exact ⟨(j : Int), mem_idxs.mpr ⟨j, hj, rfl, hpq.1⟩, by simpa [hj] using hpq.2⟩
  · rintro ⟨i, hi, hq⟩
    obtain ⟨j, hj, rfl, hp⟩ := mem_idxs.mp hi
    refine ⟨l[j], by simp, ?_⟩
    rw [hp]
    simpa [hj] using hq

noncomputable def X74 : Fx := ⟨Try.prog, tys, 74, Try.f74, [0, 1, 2]⟩
theorem X74_ok : X74.Ok := ⟨Try.func74, tys_ok⟩
theorem mayLend_ct (d : Dk) (c : Cp) (e1 e2 e3 : Bool) (w : Int) (hd : dkOk d) : Ct Try.prog 74 [dkR e1 e2 d, i8 w, cpR e3 c] (bo (mayP d w c)) [] := by
  refine Ct.intro X74 X74_ok rfl rfl rfl rfl fun g hg => ?_
  repeat (refine Run.go rfl ?_)
  refine Run.bool 10 rfl (fun h1 => ?_) (fun h1 => ?_)
  · have h1 : stMay w c = true := by simp at h1; simp [stMay, h1]
    repeat (refine Run.go rfl ?_)
    refine Run.bool 15 rfl (fun h => ?_) (fun h => by simp at h)
    repeat (refine Run.go rfl ?_)
    refine Run.cs rfl (loans_ct d e1 e2 w hd) rfl (rf64 _) ?_
    refine Run.freeze 18 rfl rfl rfl ?_
    repeat (refine Run.go rfl ?_)
    refine Run.bool 22 rfl (fun h2 => ?_) (fun h2 => ?_)
    · have h2 : (idxs (lentTo w) d.cs).length < 3 := by
        have := of_decide_eq_true h2
        rw [frz64, List.length_map] at this
        exact Int.ofNat_lt.mp this
      repeat (refine Run.go rfl ?_)
      refine Run.cs rfl (containsC_ct d.cs e1 e2 _ [.rp [i8 w] 0, .rp (dkR e1 e2 d).cells 0] (fun x => lentTo w x && over d.day x) hd.1 rfl fun x hx => mayLend1_ct x d e1 e2 e2 w) rfl rfl ?_
      repeat (refine Run.go rfl ?_)
      refine Run.ret hg rfl ?_
      show bo (!d.cs.any fun x => lentTo w x && over d.day x) = _
      simp only [mayP, h1, h2, decide_true, Bool.true_and]
    · have h2 : ¬ (idxs (lentTo w) d.cs).length < 3 := by
        have := of_decide_eq_false h2
        rw [frz64, List.length_map] at this
        exact fun h => this (Int.ofNat_lt.mpr h)
      repeat (refine Run.go rfl ?_)
      refine Run.ret hg rfl ?_
      show bo false = _
      simp only [mayP, h1, h2, decide_false, Bool.true_and, Bool.false_and]
  · have h0 : c.st ≠ 0 := by simpa using h1
    have he : stMay w c = (decide (c.st = 2) && decide (c.who = w)) := by simp [stMay, h0]
    repeat (refine Run.go rfl ?_)
    refine Run.cs rfl (isHeld_ct c e3 w) rfl rfl ?_
    rw [← he]
    repeat (refine Run.go rfl ?_)
    refine Run.bool 15 rfl (fun h1 => ?_) (fun h1 => ?_)
    · have h1 : stMay w c = true := h1
      repeat (refine Run.go rfl ?_)
      refine Run.cs rfl (loans_ct d e1 e2 w hd) rfl (rf64 _) ?_
      refine Run.freeze 18 rfl rfl rfl ?_
      repeat (refine Run.go rfl ?_)
      refine Run.bool 22 rfl (fun h2 => ?_) (fun h2 => ?_)
      · have h2 : (idxs (lentTo w) d.cs).length < 3 := by
          have := of_decide_eq_true h2
          rw [frz64, List.length_map] at this
          exact Int.ofNat_lt.mp this
        repeat (refine Run.go rfl ?_)
        refine Run.cs rfl (containsC_ct d.cs e1 e2 _ [.rp [i8 w] 0, .rp (dkR e1 e2 d).cells 0] (fun x => lentTo w x && over d.day x) hd.1 rfl fun x hx => mayLend1_ct x d e1 e2 e2 w) rfl rfl ?_
        repeat (refine Run.go rfl ?_)
        refine Run.ret hg rfl ?_
        show bo (!d.cs.any fun x => lentTo w x && over d.day x) = _
        simp only [mayP, h1, h2, decide_true, Bool.true_and]
      · have h2 : ¬ (idxs (lentTo w) d.cs).length < 3 := by
          have := of_decide_eq_false h2
          rw [frz64, List.length_map] at this
          exact fun h => this (Int.ofNat_lt.mpr h)
        repeat (refine Run.go rfl ?_)
        refine Run.ret hg rfl ?_
        show bo false = _
        simp only [mayP, h1, h2, decide_false, Bool.true_and, Bool.false_and]
    · have h1 : stMay w c = false := h1
      repeat (refine Run.go rfl ?_)
      refine Run.bool 22 rfl (fun h2 => by simp at h2) (fun h2 => ?_)
      repeat (refine Run.go rfl ?_)
      refine Run.ret hg rfl ?_
      show bo false = _
      simp only [mayP, h1, Bool.false_and]

noncomputable def X73 : Fx := ⟨Try.prog, tys, 73, Try.f73, [0, 1, 2]⟩
theorem X73_ok : X73.Ok := ⟨Try.func73, tys_ok⟩
theorem l06Lends_ct (d : Dk) (e1 e2 : Bool) (w : Int) (j : Nat) (hd : dkOk d) (hr : dkRng d) (hj : j < d.cs.length) : Ct Try.prog 73 [.rp (dkR e1 e2 d).cells 0, i64 w, i64 j] (bo (mayP d w d.cs[j])) [] := by
  have hl := hd.1
  have ew : IntKind.i64.wrap d.cs[j].who = d.cs[j].who := w64' (hr.2 d.cs[j] (by simp)).2.1
  refine Ct.intro X73 X73_ok rfl rfl rfl rfl fun g hg => ?_
  repeat (refine Run.go rfl ?_)
  refine Run.val rfl rfl rfl (ValOk.idx (cpR e2 d.cs[j]) rfl rfl rfl rfl rfl (by omega) (by simp [hj])) rfl ?_
  iterate 4 (refine Run.go rfl ?_)
  refine Run.region ⟨[(0, .rp (dkR e1 e2 d).cells 0), (1, i64 w), (36, bo (!stMay w d.cs[j]))], []⟩ ?_ fun _ hN => ?_
  rotate_left
  · repeat (refine Run.go rfl ?_)
    refine Run.bool 21 rfl (fun hA => ?_) (fun hA => ?_)
    · have hA : d.cs[j].st ≠ 0 := by simpa using hA
      repeat (refine Run.go rfl ?_)
      refine Run.bool 27 rfl (fun hB => ?_) (fun hB => ?_)
      · have hB : d.cs[j].st ≠ 2 := by simpa using hB
        repeat (refine Run.go rfl ?_)
        refine Run.of hN ⟨rfl, rfl, ?_, trivial⟩ trivial
        show bo _ = bo _
        simp [stMay, hA, hB]
      · have hB : d.cs[j].st = 2 := by simpa using hB
        repeat (refine Run.go rfl ?_)
        rw [ew]
        refine Run.of hN ⟨rfl, rfl, ?_, trivial⟩ trivial
        show bo (d.cs[j].who != w) = bo _
        by_cases hw : d.cs[j].who = w <;> simp [stMay, hB, hw]
    · have hA : d.cs[j].st = 0 := by simpa using hA
      repeat (refine Run.go rfl ?_)
      refine Run.of hN ⟨rfl, rfl, ?_, trivial⟩ trivial
      show bo _ = bo _
      simp [stMay, hA]
  refine Run.cond rfl (fun h => ?_) (fun h => ?_)
  · have h : stMay w d.cs[j] = false := by simpa using h
    repeat (refine Run.go rfl ?_)
    refine Run.ret hg rfl ?_
    show bo false = _
    simp only [mayP, h, Bool.false_and]
  have hs : stMay w d.cs[j] = true := by simpa using h
  repeat (refine Run.go rfl ?_)
  refine Run.cs rfl (l06Loans_ct d e1 e2 w hd hr) rfl (rf64 _) ?_
  refine Run.freeze (v' := .ro 1 false ((idxs (lentTo w) d.cs).map i64)) 39 rfl rfl (by show AV.ro _ _ (AV.frzL _) = _; rw [frz64]) ?_
  repeat (refine Run.go rfl ?_)
  generalize hL : idxs (lentTo w) d.cs = L
  have hLm : ∀ x ∈ L, ∃ i : Nat, ∃ h : i < d.cs.length, x = i ∧ lentTo w d.cs[i] = true := fun x hx => mem_idxs.mp (by rw [hL]; exact hx)
  have hLl : L.length ≤ 1048576 := by rw [← hL]; have := idxs_len (lentTo w) d.cs; omega
  have hm : ∀ c, stMay w c = true → mayP d w c = (decide (L.length < 3) && !L.any fun i => over d.day (d.cs.getD i.toNat cp0)) := by
    intro c hc
    simp only [mayP, hc, Bool.true_and, any_idxs, hL]
  rw [hm _ hs] at hg
  refine Run.loop (fun k : Nat => ⟨[(0, .rp (dkR e1 e2 d).cells 0), (8, .ro 1 false (L.map i64)), (9, i64 k)], []⟩) (fun k => k ≤ L.length ∧ ((L.take k).any fun i => over d.day (d.cs.getD i.toNat cp0)) = false) (fun k => L.length - k) 0 ⟨by omega, rfl⟩ ?_ ?_
  · exact St.Le.mk' ⟨rfl, rfl, rfl, trivial⟩ trivial
  rintro k ⟨hk, hany⟩ IH
  repeat (refine Run.go rfl ?_)
  refine Run.cond rfl (fun h => ?_) (fun h => ?_)
  · have hlt : k < L.length := by simpa using h
    obtain ⟨i, hi, he, _⟩ := hLm L[k] (by simp)
    repeat (refine Run.go rfl ?_)
    refine Run.draw (by kernel_rfl) (by decide +kernel) ?_
    repeat (refine Quiet.go rfl ?_)
    refine Quiet.val rfl rfl (ValOk.idx (i64 i) rfl rfl rfl rfl rfl (by omega) (by simp [hlt, he])) rfl ?_
    repeat (refine Quiet.go rfl ?_)
    refine Quiet.val rfl rfl (ValOk.idx (cpR e2 d.cs[i]) rfl rfl rfl rfl rfl (by omega) (by simp [hi])) rfl ?_
    repeat (refine Quiet.go rfl ?_)
    refine Quiet.cs rfl rfl rfl rfl rfl (l06Overdue_ct d.cs[i] e2 d.day) rfl rfl ?_
    repeat (refine Quiet.go rfl ?_)
    refine Quiet.nil ?_
    have hat : over d.day (d.cs.getD (L[k]).toNat cp0) = over d.day d.cs[i] := by rw [he]; simp [hi]
    repeat (refine Run.go rfl ?_)
    refine Run.cond rfl (fun h => ?_) (fun h => ?_)
    · have h : over d.day d.cs[i] = true := h
      repeat (refine Run.go rfl ?_)
      refine Run.ret hg rfl ?_
      show bo false = _
      have : (L.any fun i => over d.day (d.cs.getD i.toNat cp0)) = true := List.any_eq_true.mpr ⟨L[k], by simp, by rw [hat]; exact h⟩
      simp only [this, Bool.not_true, Bool.and_false]
    · have h : over d.day d.cs[i] = false := h
      repeat (refine Run.go rfl ?_)
      refine Run.of (IH (k + 1) ⟨by omega, ?_⟩ (by omega)) ⟨rfl, rfl, ?_, trivial⟩ trivial
      · rw [List.take_succ_eq_append_getElem hlt, List.any_append, hany]
        simp only [List.any_cons, List.any_nil, hat, h, Bool.or_false]
      · show i64 _ = _
        rw [wrap_i64 (by omega) (by omega)]
        rfl
  · have hk' : k = L.length := by simp at h; omega
    subst hk'
    rw [List.take_length] at hany
    repeat (refine Run.go rfl ?_)
    refine Run.ret hg rfl ?_
    rw [hany]
    show bo (decide (((L.map i64).length : Int) < 3)) = _
    rw [List.length_map]
    simp only [Bool.not_false, Bool.and_true]
    exact congrArg bo (decide_eq_decide.mpr (by omega))

def mayRes (d : Dk) (who book : Int) : Bool × Int := if dCode d who book = 0 then (mayP d who (d.cs.getD book.toNat cp0), 0) else (false, dCode d who book)

noncomputable def X33 : Fx := ⟨Try.prog, tys, 33, Try.f33, [0, 1, 2]⟩
theorem X33_ok : X33.Ok := ⟨Try.func33, tys_ok⟩
theorem specMayLend_ct (d : Dk) (e1 e2 : Bool) (who book : Int) (hd : dkOk d) (hr : dkRng d) : Ct Try.prog 33 [dkR e1 e2 d, i64 who, i64 book] (.tup [bo (mayRes d who book).1, i64 (mayRes d who book).2]) [] := by
  refine Ct.intro X33 X33_ok rfl rfl rfl rfl fun g hg => ?_
  repeat (refine Run.go rfl ?_)
  refine Run.cs rfl (l06Asked_ct d e1 e2 who book hd hr) rfl rfl ?_
  repeat (refine Run.go rfl ?_)
  refine Run.cond rfl (fun h => ?_) (fun h => ?_)
  · repeat (refine Run.go rfl ?_)
    refine Run.ret hg rfl ?_
    simp at h
    simp [mayRes, h]
    rfl
  · have h : dCode d who book = 0 := by simpa using h
    obtain ⟨_, _, j, rfl, hj⟩ := dCode_0 h
    repeat (refine Run.go rfl ?_)
    refine Run.cs rfl (l06Lends_ct d e1 e2 who j hd hr hj) rfl rfl ?_
    repeat (refine Run.go rfl ?_)
    refine Run.ret hg rfl ?_
    simp [mayRes, h, hj]
    rfl

noncomputable def X34 : Fx := ⟨Try.prog, tys, 34, Try.f34, [0, 1, 2]⟩
theorem X34_ok : X34.Ok := ⟨Try.func34, tys_ok⟩
theorem implMayLend_ct (d : Dk) (e1 e2 : Bool) (who book : Int) (hd : dkOk d) (hr : dkRng d) : Ct Try.prog 34 [dkR e1 e2 d, i64 who, i64 book] (.tup [bo (mayRes d who book).1, i64 (mayRes d who book).2]) [] := by
  refine Ct.intro X34 X34_ok rfl rfl rfl rfl fun g hg => ?_
  repeat (refine Run.go rfl ?_)
  refine Run.cs rfl (deskCode_ct d e1 e2 who book hd hr) rfl rfl ?_
  repeat (refine Run.go rfl ?_)
  refine Run.cond rfl (fun h => ?_) (fun h => ?_)
  · repeat (refine Run.go rfl ?_)
    refine Run.ret hg rfl ?_
    simp at h
    simp [mayRes, h]
    rfl
  · have h : dCode d who book = 0 := by simpa using h
    obtain ⟨_, hw, j, rfl, hj⟩ := dCode_0 h
    have ew := inr_wrap hw
    repeat (refine Run.go rfl ?_)
    refine Run.draw (by kernel_rfl) (by decide +kernel) ?_
    repeat (refine Quiet.go rfl ?_)
    refine Quiet.val rfl rfl (ValOk.idx (cpR e2 d.cs[j]) rfl rfl rfl rfl rfl (by omega) (by simp [hj])) rfl ?_
    repeat (refine Quiet.go rfl ?_)
    rw [ew]
    refine Quiet.cs rfl rfl rfl rfl rfl (mayLend_ct d d.cs[j] e1 e2 e2 who hd) rfl rfl ?_
    repeat (refine Quiet.go rfl ?_)
    refine Quiet.nil ?_
    repeat (refine Run.go rfl ?_)
    refine Run.ret hg rfl ?_
    simp [mayRes, h, hj]
    rfl
end Go.Proofs.Ytoeocaenflkajaa
