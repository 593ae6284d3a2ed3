/- Contracts of the program's functions, and what follows from them. -/
import Derived.Test.YtgbiboepnibibaaD6
import Derived.Test.YtgbiboepnibibaaAvDraw
set_option linter.unusedVariables false
namespace Go.Proofs.Ytgbiboepnibibaa
open Go Go.Av

theorem rp_bo {p q : Prop} [Decidable p] [Decidable q] (h : p ↔ q) : bo (decide p) = bo (decide q) := by
  congr 2; exact propext h

noncomputable def X33 : Fx := ⟨Try.prog, tys, 33, Try.f33, [0, 1]⟩
theorem X33_ok : X33.Ok := ⟨Try.func33, tys_ok⟩
theorem specSameDesk_ct (c d : Dk) (e1 e2 e3 e4 : Bool) (hb : c.cs.length ≤ 1048576) (hq : ∀ x ∈ c.cs, x.q.length ≤ 1048576) : Ct Try.prog 33 [dkR e1 e2 c, dkR e3 e4 d] (bo (decide (c = d))) [] := by
  obtain ⟨a1, l⟩ := c
  obtain ⟨b1, m⟩ := d
  simp only at hb hq
  refine Ct.intro X33 X33_ok rfl rfl rfl rfl fun g hg => ?_
  repeat (refine Run.go rfl ?_)
  refine Run.bool 14 rfl (fun h => ?_) (fun h1 => ?_)
  · repeat (refine Run.go rfl ?_)
    refine Run.cond rfl (fun _ => ?_) (fun h => by simp at h)
    repeat (refine Run.go rfl ?_)
    refine Run.ret hg rfl ?_
    show bo _ = _
    simp at h
    simp [h]
  repeat (refine Run.go rfl ?_)
  refine Run.cond rfl (fun h => ?_) (fun h2 => ?_)
  · repeat (refine Run.go rfl ?_)
    refine Run.ret hg rfl ?_
    show bo _ = _
    congr 2
    simp at h
    symm
    simp
    rintro _ rfl
    exact h rfl
  have hlen : l.length = m.length := by simp at h2; omega
  have h1 : a1 = b1 := by simpa using h1
  subst h1
  repeat (refine Run.go rfl ?_)
  refine Run.loop (fun j : Nat => ⟨[(2, .bp (2, 0) 0), (3, .bp (3, 0) 0), (5, i64 j)], [((2, 0), .box [i16 a1, .ro 5 e1 (l.map (cpR e2))]), ((3, 0), .box [i16 a1, .ro 5 e3 (m.map (cpR e4))])]⟩)
    (fun j => j ≤ l.length ∧ l.take j = m.take j) (fun j => l.length - j) 0 ⟨by omega, rfl⟩ ?_ ?_
  · exact St.Le.mk' ⟨rfl, rfl, rfl, trivial⟩ ⟨rfl, rfl, trivial⟩
  rintro j ⟨hj, hjm⟩ IH
  repeat (refine Run.go rfl ?_)
  refine Run.cond rfl (fun h => ?_) (fun h => ?_)
  · have hlt : j < l.length := by simpa using h
    have hlt' : j < m.length := by omega
    have no : ∀ {P : Prop}, l[j] ≠ m[j] → bo false = bo (decide (({ day := a1, cs := l } : Dk) = { day := a1, cs := m })) := by
      intro _ hne
      congr 2
      symm
      simp
      rintro rfl
      exact hne rfl
    repeat (refine Run.go rfl ?_)
    refine Run.val rfl rfl rfl (ValOk.idx (cpR e2 l[j]) rfl rfl rfl rfl rfl (by omega) (by simp [hlt])) rfl ?_
    repeat (refine Run.go rfl ?_)
    refine Run.val rfl rfl rfl (ValOk.idx (cpR e4 m[j]) rfl rfl rfl rfl rfl (by omega) (by simp [hlt'])) rfl ?_
    repeat (refine Run.go rfl ?_)
    generalize hx : l[j] = x at no
    generalize hy : m[j] = y at no
    obtain ⟨x1, x2, x3, x4, x5⟩ := x
    obtain ⟨y1, y2, y3, y4, y5⟩ := y
    refine Run.bool 45 rfl (fun h => ?_) (fun h3 => ?_)
    · repeat (refine Run.go rfl ?_)
      refine Run.cond rfl (fun _ => ?_) (fun h => by simp at h)
      repeat (refine Run.go rfl ?_)
      exact Run.ret hg rfl (no (P := True) (by simp at h; simp [h]))
    repeat (refine Run.go rfl ?_)
    refine Run.bool 52 rfl (fun h => ?_) (fun h4 => ?_)
    · repeat (refine Run.go rfl ?_)
      refine Run.cond rfl (fun _ => ?_) (fun h => by simp at h)
      repeat (refine Run.go rfl ?_)
      exact Run.ret hg rfl (no (P := True) (by simp at h; simp [h]))
    repeat (refine Run.go rfl ?_)
    refine Run.bool 59 rfl (fun h => ?_) (fun h5 => ?_)
    · repeat (refine Run.go rfl ?_)
      refine Run.cond rfl (fun _ => ?_) (fun h => by simp at h)
      repeat (refine Run.go rfl ?_)
      exact Run.ret hg rfl (no (P := True) (by simp at h; simp [h]))
    repeat (refine Run.go rfl ?_)
    refine Run.bool 66 rfl (fun h => ?_) (fun h6 => ?_)
    · repeat (refine Run.go rfl ?_)
      refine Run.cond rfl (fun _ => ?_) (fun h => by simp at h)
      repeat (refine Run.go rfl ?_)
      exact Run.ret hg rfl (no (P := True) (by simp at h; simp [h]))
    repeat (refine Run.go rfl ?_)
    refine Run.cond rfl (fun h => ?_) (fun h7 => ?_)
    · repeat (refine Run.go rfl ?_)
      refine Run.ret hg rfl (no (P := True) ?_)
      simp at h ⊢
      rintro _ _ _ _ rfl
      exact h rfl
    have hl5 : x5.length = y5.length := by simp at h7; omega
    have hq5 : x5.length ≤ 1048576 := by have := hq l[j] (by simp); rw [hx] at this; exact this
    simp at h3 h4 h5 h6
    subst h3; subst h4; subst h5; subst h6
    repeat (refine Run.go rfl ?_)
    refine Run.loop (fun i : Nat => ⟨[(2, .bp (2, 0) 0), (3, .bp (3, 0) 0), (5, i64 j), (6, .bp (6, 0) 0), (7, .bp (7, 0) 0), (8, i64 i)],
      [((2, 0), .box [i16 a1, .ro 5 e1 (l.map (cpR e2))]), ((3, 0), .box [i16 a1, .ro 5 e3 (m.map (cpR e4))]), ((6, 0), .box (cpR e2 ⟨x1, x2, x3, x4, x5⟩).cells), ((7, 0), .box (cpR e4 ⟨x1, x2, x3, x4, y5⟩).cells)]⟩)
      (fun i => i ≤ x5.length ∧ x5.take i = y5.take i) (fun i => x5.length - i) 0 ⟨by omega, rfl⟩ ?_ ?_
    · exact St.Le.mk' ⟨rfl, rfl, rfl, rfl, rfl, rfl, trivial⟩ ⟨rfl, rfl, rfl, rfl, trivial⟩
    rintro i ⟨hi, him⟩ IH2
    repeat (refine Run.go rfl ?_)
    refine Run.cond rfl (fun h => ?_) (fun h => ?_)
    · have hit : i < x5.length := by simpa using h
      have hit' : i < y5.length := by omega
      repeat (refine Run.go rfl ?_)
      refine Run.draw (by kernel_rfl) (by decide +kernel) ?_
      repeat (refine Quiet.go rfl ?_)
      refine Quiet.val rfl rfl (ValOk.idx (i8 x5[i]) rfl rfl rfl rfl rfl (by omega) (by simp [hit])) rfl ?_
      repeat (refine Quiet.go rfl ?_)
      refine Quiet.val rfl rfl (ValOk.idx (i8 y5[i]) rfl rfl rfl rfl rfl (by omega) (by simp [hit'])) rfl ?_
      repeat (refine Quiet.go rfl ?_)
      refine Quiet.nil ?_
      repeat (refine Run.go rfl ?_)
      refine Run.cond rfl (fun h => ?_) (fun h => ?_)
      · repeat (refine Run.go rfl ?_)
        refine Run.ret hg rfl (no (P := True) ?_)
        simp at h ⊢
        rintro rfl
        exact h rfl
      · repeat (refine Run.go rfl ?_)
        refine Run.of (IH2 (i + 1) ⟨by omega, ?_⟩ (by omega)) ⟨rfl, rfl, rfl, rfl, rfl, ?_, trivial⟩ ⟨rfl, rfl, rfl, rfl, trivial⟩
        · rw [List.take_succ_eq_append_getElem hit, List.take_succ_eq_append_getElem hit', him]
          simp at h
          rw [h]
        · show i64 _ = _
          rw [wrap_i64 (by omega) (by omega)]
          rfl
    · have hi' : i = x5.length := by simp at h; omega
      rw [List.take_of_length_le (by omega), List.take_of_length_le (by omega)] at him
      subst him
      repeat (refine Run.go rfl ?_)
      refine Run.of (IH (j + 1) ⟨by omega, ?_⟩ (by omega)) ⟨rfl, rfl, ?_, trivial⟩ ⟨rfl, rfl, trivial⟩
      · rw [List.take_succ_eq_append_getElem hlt, List.take_succ_eq_append_getElem hlt', hjm, hx, hy]
      · show i64 _ = _
        rw [wrap_i64 (by omega) (by omega)]
        rfl
  · have hj' : j = l.length := by simp at h; omega
    repeat (refine Run.go rfl ?_)
    refine Run.ret hg rfl ?_
    show bo _ = _
    rw [List.take_of_length_le (by omega), List.take_of_length_le (by omega)] at hjm
    simp [hjm]

noncomputable def X81 : Fx := ⟨Try.prog, tys, 81, Try.f81, [0, 1]⟩
theorem X81_ok : X81.Ok := ⟨Try.func81, tys_ok⟩
theorem equal8_ct (l m : List Int) (ex ex' : Bool) (hb : l.length ≤ 1048576) : Ct Try.prog 81 [.ro 1 ex (l.map i8), .ro 1 ex' (m.map i8)] (bo (decide (l = m))) [] := by
  refine Ct.intro X81 X81_ok rfl rfl rfl rfl fun g hg => ?_
  repeat (refine Run.go rfl ?_)
  refine Run.cond rfl (fun h => ?_) (fun h => ?_)
  · repeat (refine Run.go rfl ?_)
    refine Run.ret hg rfl ?_
    show bo _ = _
    congr 2
    simp at h
    symm
    simp
    rintro rfl
    exact h rfl
  · have hlen : l.length = m.length := by simp at h; omega
    repeat (refine Run.go rfl ?_)
    refine Run.loop (fun j : Nat => ⟨[(0, .ro 1 ex (l.map i8)), (1, .ro 1 ex' (m.map i8)), (12, i64 l.length), (13, i64 j)], []⟩) (fun j => j ≤ l.length ∧ l.take j = m.take j) (fun j => l.length - j) 0 ⟨by omega, rfl⟩ ?_ ?_
    · refine St.Le.mk' ⟨rfl, rfl, ?_, rfl, trivial⟩ trivial
      show i64 _ = _
      simp
    · rintro j ⟨hj, hjm⟩ IH
      repeat (refine Run.go rfl ?_)
      refine Run.cond rfl (fun h => ?_) (fun h => ?_)
      · have hlt : j < l.length := by simpa using h
        have hlt' : j < m.length := by omega
        repeat (refine Run.go rfl ?_)
        refine Run.draw (by kernel_rfl) (by decide +kernel) ?_
        repeat (refine Quiet.go rfl ?_)
        refine Quiet.val rfl rfl (ValOk.idx (i8 l[j]) rfl rfl rfl rfl rfl (by omega) (by simp [hlt])) rfl ?_
        repeat (refine Quiet.go rfl ?_)
        refine Quiet.val rfl rfl (ValOk.idx (i8 m[j]) rfl rfl rfl rfl rfl (by omega) (by simp [hlt'])) rfl ?_
        repeat (refine Quiet.go rfl ?_)
        refine Quiet.nil ?_
        repeat (refine Run.go rfl ?_)
        refine Run.cond rfl (fun h => ?_) (fun h => ?_)
        · repeat (refine Run.go rfl ?_)
          refine Run.ret hg rfl ?_
          show bo _ = _
          congr 2
          symm
          simp at h ⊢
          rintro rfl
          exact h rfl
        · repeat (refine Run.go rfl ?_)
          refine Run.of (IH (j + 1) ⟨by omega, ?_⟩ (by omega)) ⟨rfl, rfl, rfl, ?_, trivial⟩ trivial
          · rw [List.take_succ_eq_append_getElem hlt, List.take_succ_eq_append_getElem hlt', hjm]
            simp at h
            rw [h]
          · show i64 _ = _
            rw [wrap_i64 (by omega) (by omega)]
            rfl
      · have hj' : j = l.length := by simp at h; omega
        repeat (refine Run.go rfl ?_)
        refine Run.ret hg rfl ?_
        show bo _ = _
        rw [List.take_of_length_le (by omega), List.take_of_length_le (by omega)] at hjm
        simp [hjm]

noncomputable def X80 : Fx := ⟨Try.prog, tys, 80, Try.f80, [0, 1]⟩
theorem X80_ok : X80.Ok := ⟨Try.func80, tys_ok⟩
theorem sameDesk1_ct (c d : Cp) (e2 e4 : Bool) (hb : c.q.length ≤ 1048576) : Ct Try.prog 80 [cpR e2 c, cpR e4 d] (bo (decide (c = d))) [] := by
  obtain ⟨x1, x2, x3, x4, x5⟩ := c
  obtain ⟨y1, y2, y3, y4, y5⟩ := d
  refine Ct.intro X80 X80_ok rfl rfl rfl rfl fun g hg => ?_
  repeat (refine Run.go rfl ?_)
  refine Run.bool 10 rfl (fun h1 => ?_) (fun h => ?_)
  · repeat (refine Run.go rfl ?_)
    refine Run.bool 17 rfl (fun h2 => ?_) (fun h => ?_)
    · repeat (refine Run.go rfl ?_)
      refine Run.bool 24 rfl (fun h3 => ?_) (fun h => ?_)
      · repeat (refine Run.go rfl ?_)
        refine Run.bool 31 rfl (fun h4 => ?_) (fun h => ?_)
        · repeat (refine Run.go rfl ?_)
          refine Run.cs rfl (equal8_ct x5 y5 e2 e4 hb) rfl rfl ?_
          repeat (refine Run.go rfl ?_)
          refine Run.ret hg rfl ?_
          show bo _ = _
          simp at h1 h2 h3 h4
          simp [h1, h2, h3, h4]
        · repeat (refine Run.go rfl ?_)
          refine Run.ret hg rfl ?_
          show bo _ = _
          simp at h
          simp [h]
      · repeat (refine Run.go rfl ?_)
        refine Run.ret hg rfl ?_
        show bo _ = _
        simp at h
        simp [h]
    · repeat (refine Run.go rfl ?_)
      refine Run.ret hg rfl ?_
      show bo _ = _
      simp at h
      simp [h]
  · repeat (refine Run.go rfl ?_)
    refine Run.ret hg rfl ?_
    show bo _ = _
    simp at h
    simp [h]

noncomputable def X79 : Fx := ⟨Try.prog, tys, 79, Try.f79, [0, 1, 2]⟩
theorem X79_ok : X79.Ok := ⟨Try.func79, tys_ok⟩
theorem equalFunc_ct (l m : List Cp) (e1 e2 e3 e4 : Bool) (f : Nat) (hb : l.length ≤ 1048576) (hf : ∀ x ∈ l, ∀ y ∈ m, Ct Try.prog f [cpR e2 x, cpR e4 y] (bo (decide (x = y))) []) :
    Ct Try.prog 79 [.ro 5 e1 (l.map (cpR e2)), .ro 5 e3 (m.map (cpR e4)), .fn f []] (bo (decide (l = m))) [] := by
  refine Ct.intro X79 X79_ok rfl (by kernel_rfl) rfl rfl fun g hg => ?_
  repeat (refine Run.go rfl ?_)
  refine Run.cond rfl (fun h => ?_) (fun h => ?_)
  · repeat (refine Run.go rfl ?_)
    refine Run.ret hg rfl ?_
    show bo _ = _
    congr 2
    simp at h
    symm
    simp
    rintro rfl
    exact h rfl
  · have hlen : l.length = m.length := by simp at h; omega
    repeat (refine Run.go rfl ?_)
    refine Run.loop (fun j : Nat => ⟨[(1, .ro 5 e3 (m.map (cpR e4))), (2, .fn f []), (15, .ro 5 e1 (l.map (cpR e2))), (16, i64 l.length), (17, i64 j)], []⟩) (fun j => j ≤ l.length ∧ l.take j = m.take j) (fun j => l.length - j) 0 ⟨by omega, rfl⟩ ?_ ?_
    · refine St.Le.mk' ⟨rfl, rfl, rfl, ?_, rfl, trivial⟩ trivial
      show i64 _ = _
      simp
    · rintro j ⟨hj, hjm⟩ IH
      repeat (refine Run.go rfl ?_)
      refine Run.cond rfl (fun h => ?_) (fun h => ?_)
      · have hlt : j < l.length := by simpa using h
        have hlt' : j < m.length := by omega
        repeat (refine Run.go rfl ?_)
        refine Run.val rfl rfl rfl (ValOk.idx (cpR e2 l[j]) rfl rfl rfl rfl rfl (by omega) (by simp [hlt])) rfl ?_
        repeat (refine Run.go rfl ?_)
        refine Run.val rfl rfl rfl (ValOk.idx (cpR e4 m[j]) rfl rfl rfl rfl rfl (by omega) (by simp [hlt'])) rfl ?_
        repeat (refine Run.go rfl ?_)
        refine Run.cs rfl (hf l[j] (by simp) m[j] (by simp)) rfl rfl ?_
        repeat (refine Run.go rfl ?_)
        refine Run.cond rfl (fun h => ?_) (fun h => ?_)
        · repeat (refine Run.go rfl ?_)
          refine Run.ret hg rfl ?_
          show bo _ = _
          congr 2
          symm
          simp at h ⊢
          rintro rfl
          exact h rfl
        · repeat (refine Run.go rfl ?_)
          refine Run.of (IH (j + 1) ⟨by omega, ?_⟩ (by omega)) ⟨rfl, rfl, rfl, rfl, ?_, trivial⟩ trivial
          · rw [List.take_succ_eq_append_getElem hlt, List.take_succ_eq_append_getElem hlt', hjm]
            simp at h
            rw [h]
          · show i64 _ = _
            rw [wrap_i64 (by omega) (by omega)]
            rfl
      · have hj' : j = l.length := by simp at h; omega
        repeat (refine Run.go rfl ?_)
        refine Run.ret hg rfl ?_
        show bo _ = _
        rw [List.take_of_length_le (by omega), List.take_of_length_le (by omega)] at hjm
        simp [hjm]

noncomputable def X34 : Fx := ⟨Try.prog, tys, 34, Try.f34, [0, 1]⟩
theorem X34_ok : X34.Ok := ⟨Try.func34, tys_ok⟩
theorem implSameDesk_ct (c d : Dk) (e1 e2 e3 e4 : Bool) (hb : c.cs.length ≤ 1048576) (hq : ∀ x ∈ c.cs, x.q.length ≤ 1048576) : Ct Try.prog 34 [dkR e1 e2 c, dkR e3 e4 d] (bo (decide (c = d))) [] := by
  obtain ⟨a1, l⟩ := c
  obtain ⟨b1, m⟩ := d
  simp only at hb hq
  refine Ct.intro X34 X34_ok rfl rfl rfl rfl fun g hg => ?_
  repeat (refine Run.go rfl ?_)
  refine Run.bool 10 rfl (fun h1 => ?_) (fun h => ?_)
  · repeat (refine Run.go rfl ?_)
    refine Run.cs rfl (equalFunc_ct l m e1 e2 e3 e4 80 hb (fun x hx y _ => sameDesk1_ct x y e2 e4 (hq x hx))) rfl rfl ?_
    repeat (refine Run.go rfl ?_)
    refine Run.ret hg rfl ?_
    show bo _ = _
    simp at h1
    simp [h1]
  · repeat (refine Run.go rfl ?_)
    refine Run.ret hg rfl ?_
    show bo _ = _
    simp at h
    simp [h]

theorem szD_bound {d : Dk} {n : Int} (h : 0 ≤ n) (h2 : n ≤ 1048576) : szD d n ≤ 1048576 := by
  have : ∀ (l : List Cp) (n : Int), 0 ≤ n → n ≤ 1048576 → szCs l n ≤ 1048576 := by
    intro l
    induction l with
    | nil => intro n _ h; exact h
    | cons c l ih =>
      intro n h0 h1
      rw [szCs]
      have := szQ_le (l := c.q) h0
      split
      · omega
      · exact ih _ (by omega) (by omega)
  unfold szD
  split
  · omega
  · exact this _ _ (by omega) (by omega)

/-- A desk that a row may speak of. -/
def dkOk (d : Dk) : Prop := d.cs.length ≤ 1048576 ∧ ∀ c ∈ d.cs, c.q.length ≤ 1048576

theorem dk_exp (d : Dk) : [dkR true true d] = [dkR true true d] := rfl

end Go.Proofs.Ytgbiboepnibibaa
