/- Contracts of the program's functions, and what follows from them. -/
import Derived.Test.YtoeocaenflkajaaD6
import Derived.Test.YtoeocaenflkajaaAvDraw
set_option linter.unusedVariables false
namespace Go.Proofs.Ytoeocaenflkajaa
open Go Go.Av

theorem rp_bo {p q : Prop} [Decidable p] [Decidable q] (h : p ↔ q) : bo (decide p) = bo (decide q) := by
  congr 2; exact propext h

noncomputable def X21 : Fx := ⟨Try.prog, tys, 21, Try.f21, [0, 1]⟩
theorem X21_ok : X21.Ok := ⟨Try.func21, tys_ok⟩
theorem specSameDesk_ct (c d : Dk) (e1 e2 e3 e4 : Bool) (hb : c.cs.length ≤ 1048576) (hq : ∀ x ∈ c.cs, x.q.length ≤ 1048576) : Ct Try.prog 21 [dkR e1 e2 c, dkR e3 e4 d] (bo (decide (c = d))) [] := by
  obtain ⟨a1, l⟩ := c
  obtain ⟨b1, m⟩ := d
  simp only at hb hq
  refine Ct.intro X21 X21_ok rfl rfl rfl rfl fun g hg => ?_
  repeat (refine Run.go rfl ?_)
  refine Run.bool 14 rfl (fun h => ?_) (fun h1 => ?_)
  · repeat (refine Run.go rfl ?_)
    refine Run.cond rfl (fun _ => ?_) (fun h => by simp at h)
    repeat (refine Run.go rfl ?_)
    refine Run.ret hg rfl ?_
    show bo _ = _
    simp at h
    simp [h]
  repeat (refine Run.go rfl ?_)
  refine Run.cond rfl (fun h => ?_) (fun h2 => ?_)
  · repeat (refine Run.go rfl ?_)
    refine Run.ret hg rfl ?_
    show bo _ = _
    congr 2
    simp at h
    symm
    simp
    rintro _ rfl
    exact h rfl
  have hlen : l.length = m.length := by simp at h2; omega
  have h1 : a1 = b1 := by simpa using h1
  subst h1
  repeat (refine Run.go rfl ?_)
  refine Run.loop (fun j : Nat => ⟨[(2, .bp (2, 0) 0), (3, .bp (3, 0) 0), (5, i64 j)], [((2, 0), .box [i16 a1, .ro 5 e1 (l.map (cpR e2))]), ((3, 0), .box [i16 a1, .ro 5 e3 (m.map (cpR e4))])]⟩)
    (fun j => j ≤ l.length ∧ l.take j = m.take j) (fun j => l.length - j) 0 ⟨by omega, rfl⟩ ?_ ?_
  · exact St.Le.mk' ⟨rfl, rfl, rfl, trivial⟩ ⟨rfl, rfl, trivial⟩
  rintro j ⟨hj, hjm⟩ IH
  repeat (refine Run.go rfl ?_)
  refine Run.cond rfl (fun h => ?_) (fun h => ?_)
  · have hlt : j < l.length := by simpa using h
    have hlt' : j < m.length := by omega
    have no : ∀ {P : Prop}, l[j] ≠ m[j] → bo false = bo (decide (({ day := a1, cs := l } : Dk) = { day := a1, cs := m })) := by
      intro _ hne
      congr 2
      symm
      simp
      rintro rfl
      exact hne rfl
    repeat (refine Run.go rfl ?_)
    refine Run.val rfl rfl rfl (ValOk.idx (cpR e2 l[j]) rfl rfl rfl rfl rfl (by omega) (by simp [hlt])) rfl ?_
    repeat (refine Run.go rfl ?_)
    refine Run.val rfl rfl rfl (ValOk.idx (cpR e4 m[j]) rfl rfl rfl rfl rfl (by omega) (by simp [hlt'])) rfl ?_
    repeat (refine Run.go rfl ?_)
    generalize hx : l[j] = x at no
    generalize hy : m[j] = y at no
    obtain ⟨x1, x2, x3, x4, x5⟩ := x
    obtain ⟨y1, y2, y3, y4, y5⟩ := y
    refine Run.bool 45 rfl (fun h => ?_) (fun h3 => ?_)
    · repeat (refine Run.go rfl ?_)
      refine Run.cond rfl (fun _ => ?_) (fun h => by simp at h)
      repeat (refine Run.go rfl ?_)
      exact Run.ret hg rfl (no (P := True) (by simp at h; simp [h]))
    repeat (refine Run.go rfl ?_)
    refine Run.bool 52 rfl (fun h => ?_) (fun h4 => ?_)
    · repeat (refine Run.go rfl ?_)
      refine Run.cond rfl (fun _ => ?_) (fun h => by simp at h)
      repeat (refine Run.go rfl ?_)
      exact Run.ret hg rfl (no (P := True) (by simp at h; simp [h]))
    repeat (refine Run.go rfl ?_)
    refine Run.bool 59 rfl (fun h => ?_) (fun h5 => ?_)
    · repeat (refine Run.go rfl ?_)
      refine Run.cond rfl (fun _ => ?_) (fun h => by simp at h)
      repeat (refine Run.go rfl ?_)
      exact Run.ret hg rfl (no (P := True) (by simp at h; simp [h]))
    repeat (refine Run.go rfl ?_)
    refine Run.bool 66 rfl (fun h => ?_) (fun h6 => ?_)
    · repeat (refine Run.go rfl ?_)
      refine Run.cond rfl (fun _ => ?_) (fun h => by simp at h)
      repeat (refine Run.go rfl ?_)
      exact Run.ret hg rfl (no (P := True) (by simp at h; simp [h]))
    repeat (refine Run.go rfl ?_)
    refine Run.cond rfl (fun h => ?_) (fun h7 => ?_)
    · repeat (refine Run.go rfl ?_)
      refine Run.ret hg rfl (no (P := True) ?_)
      simp at h ⊢
      rintro _ _ _ _ rfl
      exact h rfl
    have hl5 : x5.length = y5.length := by simp at h7; omega
    have hq5 : x5.length ≤ 1048576 := by have := hq l[j] (by simp); rw [hx] at this; exact this
    simp at h3 h4 h5 h6
    subst h3; subst h4; subst h5; subst h6
    repeat (refine Run.go rfl ?_)
    refine Run.loop (fun i : Nat => ⟨[(2, .bp (2, 0) 0), (3, .bp (3, 0) 0), (5, i64 j), (6, .bp (6, 0) 0), (7, .bp (7, 0) 0), (8, i64 i)],
      [((2, 0), .box [i16 a1, .ro 5 e1 (l.map (cpR e2))]), ((3, 0), .box [i16 a1, .ro 5 e3 (m.map (cpR e4))]), ((6, 0), .box (cpR e2 ⟨x1, x2, x3, x4, x5⟩).cells), ((7, 0), .box (cpR e4 ⟨x1, x2, x3, x4, y5⟩).cells)]⟩)
      (fun i => i ≤ x5.length ∧ x5.take i = y5.take i) (fun i => x5.length - i) 0 ⟨by omega, rfl⟩ ?_ ?_
    · exact St.Le.mk' ⟨rfl, rfl, rfl, rfl, rfl, rfl, trivial⟩ ⟨rfl, rfl, rfl, rfl, trivial⟩
    rintro i ⟨hi, him⟩ IH2
    repeat (refine Run.go rfl ?_)
    refine Run.cond rfl (fun h => ?_) (fun h => ?_)
    · have hit : i < x5.length := by simpa using h
      have hit' : i < y5.length := by omega
      repeat (refine Run.go rfl ?_)
      refine Run.draw (by kernel_rfl) (by decide +kernel) ?_
      repeat (refine Quiet.go rfl ?_)
      refine Quiet.val rfl rfl (ValOk.idx (i8 x5[i]) rfl rfl rfl rfl rfl (by omega) (by simp [hit])) rfl ?_
      repeat (refine Quiet.go rfl ?_)
      refine Quiet.val rfl rfl (ValOk.idx (i8 y5[i]) rfl rfl rfl rfl rfl (by omega) (by simp [hit'])) rfl ?_
      repeat (refine Quiet.go rfl ?_)
      refine Quiet.nil ?_
      repeat (refine Run.go rfl ?_)
      refine Run.cond rfl (fun h => ?_) (fun h => ?_)
      · repeat (refine Run.go rfl ?_)
        refine Run.ret hg rfl (no (P := True) ?_)
        simp at h ⊢
        rintro rfl
        exact h rfl
      · repeat (refine Run.go rfl ?_)
        refine Run.of (IH2 (i + 1) ⟨by omega, ?_⟩ (by omega)) ⟨rfl, rfl, rfl, rfl, rfl, ?_, trivial⟩ ⟨rfl, rfl, rfl, rfl, trivial⟩
        · rw [List.take_succ_eq_append_getElem hit, List.take_succ_eq_append_getElem hit', him]
          simp at h
          rw [h]
        · show i64 _ = _
          rw [wrap_i64 (by omega) (by omega)]
          rfl
    · have hi' : i = x5.length := by simp at h; omega
      rw [List.take_of_length_le (by omega), List.take_of_length_le (by omega)] at him
      subst him
      repeat (refine Run.go rfl ?_)
      refine Run.of (IH (j + 1) ⟨by omega, ?_⟩ (by omega)) ⟨rfl, rfl, ?_, trivial⟩ ⟨rfl, rfl, trivial⟩
      · rw [List.take_succ_eq_append_getElem hlt, List.take_succ_eq_append_getElem hlt', hjm, hx, hy]
      · show i64 _ = _
        rw [wrap_i64 (by omega) (by omega)]
        rfl
  · have hj' : j = l.length := by simp at h; omega
    repeat (refine Run.go rfl ?_)
    refine Run.ret hg rfl ?_
    show bo _ = _
    rw [List.take_of_length_le (by omega), List.take_of_length_le (by omega)] at hjm
    simp [hjm]

noncomputable def X57 : Fx := ⟨Try.prog, tys, 57, Try.f57, [0, 1]⟩
theorem X57_ok : X57.Ok := ⟨Try.func57, tys_ok⟩
theorem equal8_ct (l m : List Int) (ex ex' : Bool) (hb : l.length ≤ 1048576) : Ct Try.prog 57 [.ro 1 ex (l.map i8), .ro 1 ex' (m.map i8)] (bo (decide (l = m))) [] := by
  refine Ct.intro X57 X57_ok rfl rfl rfl rfl fun g hg => ?_
  repeat (refine Run.go rfl ?_)
  refine Run.cond rfl (fun h => ?_) (fun h => ?_)
  · repeat (refine Run.go rfl ?_)
    refine Run.ret hg rfl ?_
    show bo _ = _
    congr 2
    simp at h
    symm
    simp
    rintro rfl
    exact h rfl
  · have hlen : l.length = m.length := by simp at h; omega
    repeat (refine Run.go rfl ?_)
    refine Run.loop (fun j : Nat => ⟨[(0, .ro 1 ex (l.map i8)), (1, .ro 1 ex' (m.map i8)), (12, i64 l.length), (13, i64 j)], []⟩) (fun j => j ≤ l.length ∧ l.take j = m.take j) (fun j => l.length - j) 0 ⟨by omega, rfl⟩ ?_ ?_
    · refine St.Le.mk' ⟨rfl, rfl, ?_, rfl, trivial⟩ trivial
      show i64 _ = _
      simp
    · rintro j ⟨hj, hjm⟩ IH
      repeat (refine Run.go rfl ?_)
      refine Run.cond rfl (fun h => ?_) (fun h => ?_)
      · have hlt : j < l.length := by simpa using h
        have hlt' : j < m.length := by omega
        repeat (refine Run.go rfl ?_)
        refine Run.draw (by kernel_rfl) (by decide +kernel) ?_
        repeat (refine Quiet.go rfl ?_)
        refine Quiet.val rfl rfl (ValOk.idx (i8 l[j]) rfl rfl rfl rfl rfl (by omega) (by simp [hlt])) rfl ?_
        repeat (refine Quiet.go rfl ?_)
        refine Quiet.val rfl rfl (ValOk.idx (i8 m[j]) rfl rfl rfl rfl rfl (by omega) (by simp [hlt'])) rfl ?_
        repeat (refine Quiet.go rfl ?_)
        refine Quiet.nil ?_
        repeat (refine Run.go rfl ?_)
        refine Run.cond rfl (fun h => ?_) (fun h => ?_)
        · repeat (refine Run.go rfl ?_)
          refine Run.ret hg rfl ?_
          show bo _ = _
          congr 2
          symm
          simp at h ⊢
          rintro rfl
          exact h rfl
        · repeat (refine Run.go rfl ?_)
          refine Run.of (IH (j + 1) ⟨by omega, ?_⟩ (by omega)) ⟨rfl, rfl, rfl, ?_, trivial⟩ trivial
          · rw [List.take_succ_eq_append_getElem hlt, List.take_succ_eq_append_getElem hlt', hjm]
            simp at h
            rw [h]
          · show i64 _ = _
            rw [wrap_i64 (by omega) (by omega)]
            rfl
      · have hj' : j = l.length := by simp at h; omega
        repeat (refine Run.go rfl ?_)
        refine Run.ret hg rfl ?_
        show bo _ = _
        rw [List.take_of_length_le (by omega), List.take_of_length_le (by omega)] at hjm
        simp [hjm]

noncomputable def X56 : Fx := ⟨Try.prog, tys, 56, Try.f56, [0, 1]⟩
theorem X56_ok : X56.Ok := ⟨Try.func56, tys_ok⟩
theorem sameDesk1_ct (c d : Cp) (e2 e4 : Bool) (hb : c.q.length ≤ 1048576) : Ct Try.prog 56 [cpR e2 c, cpR e4 d] (bo (decide (c = d))) [] := by
  obtain ⟨x1, x2, x3, x4, x5⟩ := c
  obtain ⟨y1, y2, y3, y4, y5⟩ := d
  refine Ct.intro X56 X56_ok rfl rfl rfl rfl fun g hg => ?_
  repeat (refine Run.go rfl ?_)
  refine Run.bool 10 rfl (fun h1 => ?_) (fun h => ?_)
  · repeat (refine Run.go rfl ?_)
    refine Run.bool 17 rfl (fun h2 => ?_) (fun h => ?_)
    · repeat (refine Run.go rfl ?_)
      refine Run.bool 24 rfl (fun h3 => ?_) (fun h => ?_)
      · repeat (refine Run.go rfl ?_)
        refine Run.bool 31 rfl (fun h4 => ?_) (fun h => ?_)
        · repeat (refine Run.go rfl ?_)
          refine Run.cs rfl (equal8_ct x5 y5 e2 e4 hb) rfl rfl ?_
          repeat (refine Run.go rfl ?_)
          refine Run.ret hg rfl ?_
          show bo _ = _
          simp at h1 h2 h3 h4
          simp [h1, h2, h3, h4]
        · repeat (refine Run.go rfl ?_)
          refine Run.ret hg rfl ?_
          show bo _ = _
          simp at h
          simp [h]
      · repeat (refine Run.go rfl ?_)
        refine Run.ret hg rfl ?_
        show bo _ = _
        simp at h
        simp [h]
    · repeat (refine Run.go rfl ?_)
      refine Run.ret hg rfl ?_
      show bo _ = _
      simp at h
      simp [h]
  · repeat (refine Run.go rfl ?_)
    refine Run.ret hg rfl ?_
    show bo _ = _
    simp at h
    simp [h]

noncomputable def X55 : Fx := ⟨Try.prog, tys, 55, Try.f55, [0, 1, 2]⟩
theorem X55_ok : X55.Ok := ⟨Try.func55, tys_ok⟩
theorem equalFunc_ct (l m : List Cp) (e1 e2 e3 e4 : Bool) (f : Nat) (hb : l.length ≤ 1048576) (hf : ∀ x ∈ l, ∀ y ∈ m, Ct Try.prog f [cpR e2 x, cpR e4 y] (bo (decide (x = y))) []) :
    Ct Try.prog 55 [.ro 5 e1 (l.map (cpR e2)), .ro 5 e3 (m.map (cpR e4)), .fn f []] (bo (decide (l = m))) [] := by
  refine Ct.intro X55 X55_ok rfl (by kernel_rfl) rfl rfl fun g hg => ?_
  repeat (refine Run.go rfl ?_)
  refine Run.cond rfl (fun h => ?_) (fun h => ?_)
  · repeat (refine Run.go rfl ?_)
    refine Run.ret hg rfl ?_
    show bo _ = _
    congr 2
    simp at h
    symm
    simp
    rintro rfl
    exact h rfl
  · have hlen : l.length = m.length := by simp at h; omega
    repeat (refine Run.go rfl ?_)
    refine Run.loop (fun j : Nat => ⟨[(1, .ro 5 e3 (m.map (cpR e4))), (2, .fn f []), (15, .ro 5 e1 (l.map (cpR e2))), (16, i64 l.length), (17, i64 j)], []⟩) (fun j => j ≤ l.length ∧ l.take j = m.take j) (fun j => l.length - j) 0 ⟨by omega, rfl⟩ ?_ ?_
    · refine St.Le.mk' ⟨rfl, rfl, rfl, ?_, rfl, trivial⟩ trivial
      show i64 _ = _
      simp
    · rintro j ⟨hj, hjm⟩ IH
      repeat (refine Run.go rfl ?_)
      refine Run.cond rfl (fun h => ?_) (fun h => ?_)
      · have hlt : j < l.length := by simpa using h
        have hlt' : j < m.length := by omega
        repeat (refine Run.go rfl ?_)
        refine Run.val rfl rfl rfl (ValOk.idx (cpR e2 l[j]) rfl rfl rfl rfl rfl (by omega) (by simp [hlt])) rfl ?_
        repeat (refine Run.go rfl ?_)
        refine Run.val rfl rfl rfl (ValOk.idx (cpR e4 m[j]) rfl rfl rfl rfl rfl (by omega) (by simp [hlt'])) rfl ?_
        repeat (refine Run.go rfl ?_)
        refine Run.cs rfl (hf l[j] (by simp) m[j] (by simp)) rfl rfl ?_
        repeat (refine Run.go rfl ?_)
        refine Run.cond rfl (fun h => ?_) (fun h => ?_)
        · repeat (refine Run.go rfl ?_)
          refine Run.ret hg rfl ?_
          show bo _ = _
          congr 2
          symm
          simp at h ⊢
          rintro rfl
          exact h rfl
        · repeat (refine Run.go rfl ?_)
          refine Run.of (IH (j + 1) ⟨by omega, ?_⟩ (by omega)) ⟨rfl, rfl, rfl, rfl, ?_, trivial⟩ trivial
          · rw [List.take_succ_eq_append_getElem hlt, List.take_succ_eq_append_getElem hlt', hjm]
            simp at h
            rw [h]
          · show i64 _ = _
            rw [wrap_i64 (by omega) (by omega)]
            rfl
      · have hj' : j = l.length := by simp at h; omega
        repeat (refine Run.go rfl ?_)
        refine Run.ret hg rfl ?_
        show bo _ = _
        rw [List.take_of_length_le (by omega), List.take_of_length_le (by omega)] at hjm
        simp [hjm]

noncomputable def X23 : Fx := ⟨Try.prog, tys, 23, Try.f23, [0, 1]⟩
theorem X23_ok : X23.Ok := ⟨Try.func23, tys_ok⟩
theorem implSameDesk_ct (c d : Dk) (e1 e2 e3 e4 : Bool) (hb : c.cs.length ≤ 1048576) (hq : ∀ x ∈ c.cs, x.q.length ≤ 1048576) : Ct Try.prog 23 [dkR e1 e2 c, dkR e3 e4 d] (bo (decide (c = d))) [] := by
  obtain ⟨a1, l⟩ := c
  obtain ⟨b1, m⟩ := d
  simp only at hb hq
  refine Ct.intro X23 X23_ok rfl rfl rfl rfl fun g hg => ?_
  repeat (refine Run.go rfl ?_)
  refine Run.bool 10 rfl (fun h1 => ?_) (fun h => ?_)
  · repeat (refine Run.go rfl ?_)
    refine Run.cs rfl (equalFunc_ct l m e1 e2 e3 e4 56 hb (fun x hx y _ => sameDesk1_ct x y e2 e4 (hq x hx))) rfl rfl ?_
    repeat (refine Run.go rfl ?_)
    refine Run.ret hg rfl ?_
    show bo _ = _
    simp at h1
    simp [h1]
  · repeat (refine Run.go rfl ?_)
    refine Run.ret hg rfl ?_
    show bo _ = _
    simp at h
    simp [h]

theorem szD_bound {d : Dk} {n : Int} (h : 0 ≤ n) (h2 : n ≤ 1048576) : szD d n ≤ 1048576 := by
  have : ∀ (l : List Cp) (n : Int), 0 ≤ n → n ≤ 1048576 → szCs l n ≤ 1048576 := by
    intro l
    induction l with
    | nil => intro n _ h; exact h
    | cons c l ih =>
      intro n h0 h1
      rw [szCs]
      have := szQ_le (l := c.q) h0
      split
      · omega
      · exact ih _ (by omega) (by omega)
  unfold szD
  split
  · omega
  · exact this _ _ (by omega) (by omega)

/-- A desk that a row may speak of. -/
def dkOk (d : Dk) : Prop := d.cs.length ≤ 1048576 ∧ ∀ c ∈ d.cs, c.q.length ≤ 1048576

theorem dk_exp (d : Dk) : [dkR true true d] = [dkR true true d] := rfl

noncomputable def X4 : Fx := ⟨Try.prog, tys, 4, Try.f4, [0, 1]⟩
theorem X4_ok : X4.Ok := ⟨Try.func4, tys_ok⟩
theorem lawSameDesk_ct (c d : Dk) (hc : dkOk c) (hd : dkOk d) : Ct Try.prog 4 [dkR false false c, dkR false false d] (bo true) [] := by
  refine Ct.intro X4 X4_ok rfl rfl rfl rfl fun g hg => ?_
  repeat (refine Run.go rfl ?_)
  refine Run.cs rfl (szDesk_ct c false false 1048576 (by omega) (by omega) hc.1 hc.2) rfl rfl ?_
  repeat (refine Run.go rfl ?_)
  refine Run.cond rfl (fun h => ?_) (fun h => ?_)
  · repeat (refine Run.go rfl ?_)
    exact Run.ret hg rfl rfl
  have hz : 0 ≤ szD c 1048576 := by simpa using h
  repeat (refine Run.go rfl ?_)
  refine Run.cs rfl (szDesk_ct d false false _ hz (szD_bound (by omega) (by omega)) hd.1 hd.2) rfl rfl ?_
  repeat (refine Run.go rfl ?_)
  refine Run.cond rfl (fun h => ?_) (fun h => ?_)
  · repeat (refine Run.go rfl ?_)
    exact Run.ret hg rfl rfl
  repeat (refine Run.go rfl ?_)
  refine Run.drawn [[0, 1, 2, 3, 4, 5], [0, 2, 1, 3, 4, 5], [2, 0, 1, 3, 4, 5]] ⟨[(2, .bp (2, 0) 0), (3, .bp (3, 0) 0), (6, bo (decide (c = d)))], [((2, 0), .box (dkR false false c).cells), ((3, 0), .box (dkR false false d).cells)]⟩ (by decide +kernel) (by kernel_rfl) ?_ fun _ hN => ⟨?_, ?_, ?_, trivial⟩
  rotate_left
  · repeat (refine Run.go rfl ?_)
    refine Run.cs rfl (toDesk_ct c false false hc.1 hc.2) rfl (dkO_rf _) ?_
    repeat (refine Run.go rfl ?_)
    refine Run.cs rfl (toDesk_ct d false false hd.1 hd.2) rfl (dkO_rf _) ?_
    repeat (refine Run.go rfl ?_)
    refine Run.cs rfl (specSameDesk_ct c d true true true true hc.1 hc.2) (by rw [frzL_map cpO_frz, frzL_map cpO_frz]; rfl) rfl ?_
    repeat (refine Run.go rfl ?_)
    exact Run.of hN ⟨rfl, rfl, rfl, trivial⟩ ⟨rfl, rfl, trivial⟩
  · repeat (refine Run.go rfl ?_)
    refine Run.cs rfl (toDesk_ct c false false hc.1 hc.2) rfl (dkO_rf _) ?_
    repeat (refine Run.go rfl ?_)
    refine Run.cs rfl (toDesk_ct d false false hd.1 hd.2) rfl (dkO_rf _) ?_
    repeat (refine Run.go rfl ?_)
    refine Run.cs rfl (specSameDesk_ct c d true true true true hc.1 hc.2) (by rw [frzL_map cpO_frz, frzL_map cpO_frz]; rfl) rfl ?_
    repeat (refine Run.go rfl ?_)
    exact Run.of hN ⟨rfl, rfl, rfl, trivial⟩ ⟨rfl, rfl, trivial⟩
  · repeat (refine Run.go rfl ?_)
    refine Run.cs rfl (toDesk_ct c false false hc.1 hc.2) rfl (dkO_rf _) ?_
    repeat (refine Run.go rfl ?_)
    refine Run.cs rfl (toDesk_ct d false false hd.1 hd.2) rfl (dkO_rf _) ?_
    repeat (refine Run.go rfl ?_)
    refine Run.cs rfl (specSameDesk_ct c d true true true true hc.1 hc.2) (by rw [frzL_map cpO_frz, frzL_map cpO_frz]; rfl) rfl ?_
    repeat (refine Run.go rfl ?_)
    exact Run.of hN ⟨rfl, rfl, rfl, trivial⟩ ⟨rfl, rfl, trivial⟩
  repeat (refine Run.go rfl ?_)
  refine Run.cs rfl (toDesk_ct c false false hc.1 hc.2) rfl (dkO_rf _) ?_
  refine Run.unagg 26 1 (26, 1) rfl rfl rfl ?_
  repeat (refine Run.go rfl ?_)
  refine Run.cs rfl (toDesk_ct d false false hd.1 hd.2) rfl (dkO_rf _) ?_
  refine Run.unagg 28 1 (28, 1) rfl rfl rfl ?_
  repeat (refine Run.go rfl ?_)
  refine Run.cs rfl (implSameDesk_ct c d true true true true hc.1 hc.2) (by rw [frzL_map cpO_frz, frzL_map cpO_frz, decide_eq_true rfl, decide_eq_true rfl]; rfl) rfl ?_
  repeat (refine Run.go rfl ?_)
  refine Run.cond rfl (fun h => by simp at h) (fun h => ?_)
  repeat (refine Run.go rfl ?_)
  refine Run.drawn [[0, 1, 2, 3, 4], [1, 0, 2, 3, 4], [1, 2, 0, 3, 4]] ⟨[(2, .bp (2, 0) 0), (3, .bp (3, 0) 0), (7, .bp (7, 0) 0), (8, .bp (8, 0) 0), (39, bo (!decide (c = c)))], [((2, 0), .box (dkR false false c).cells), ((3, 0), .box (dkR false false d).cells), ((7, 0), .box [i16 c.day, .vec (26, 1) 0 (c.cs.map cpO).length]), ((8, 0), .box [i16 d.day, .vec (28, 1) 0 (d.cs.map cpO).length]), ((26, 1), .vec 5 true (c.cs.map cpO)), ((28, 1), .vec 5 true (d.cs.map cpO))]⟩ (by decide +kernel) (by kernel_rfl) ?_ fun _ hN => ⟨?_, ?_, ?_, trivial⟩
  rotate_left
  · repeat (refine Run.go rfl ?_)
    refine Run.cs rfl (toDesk_ct c false false hc.1 hc.2) rfl (dkO_rf _) ?_
    repeat (refine Run.go rfl ?_)
    refine Run.cs rfl (eqDesk_ct c c true true true true hc.1 hc.2) (by rw [frzL_map cpO_frz, decide_eq_true rfl]; rfl) rfl ?_
    repeat (refine Run.go rfl ?_)
    exact Run.of hN ⟨rfl, rfl, rfl, rfl, rfl, trivial⟩ ⟨rfl, rfl, rfl, rfl, rfl, rfl, trivial⟩
  · repeat (refine Run.go rfl ?_)
    refine Run.cs rfl (toDesk_ct c false false hc.1 hc.2) rfl (dkO_rf _) ?_
    repeat (refine Run.go rfl ?_)
    refine Run.cs rfl (eqDesk_ct c c true true true true hc.1 hc.2) (by rw [frzL_map cpO_frz, decide_eq_true rfl]; rfl) rfl ?_
    repeat (refine Run.go rfl ?_)
    exact Run.of hN ⟨rfl, rfl, rfl, rfl, rfl, trivial⟩ ⟨rfl, rfl, rfl, rfl, rfl, rfl, trivial⟩
  · repeat (refine Run.go rfl ?_)
    refine Run.cs rfl (toDesk_ct c false false hc.1 hc.2) rfl (dkO_rf _) ?_
    repeat (refine Run.go rfl ?_)
    refine Run.cs rfl (eqDesk_ct c c true true true true hc.1 hc.2) (by rw [frzL_map cpO_frz, decide_eq_true rfl]; rfl) rfl ?_
    repeat (refine Run.go rfl ?_)
    exact Run.of hN ⟨rfl, rfl, rfl, rfl, rfl, trivial⟩ ⟨rfl, rfl, rfl, rfl, rfl, rfl, trivial⟩
  refine Run.cond rfl (fun h => by simp at h) (fun h => ?_)
  repeat (refine Run.go rfl ?_)
  refine Run.drawn [[0, 1, 2, 3, 4], [1, 0, 2, 3, 4], [1, 2, 0, 3, 4]] ⟨[(2, .bp (2, 0) 0), (3, .bp (3, 0) 0), (7, .bp (7, 0) 0), (8, .bp (8, 0) 0), (44, bo (!decide (d = d)))], [((2, 0), .box (dkR false false c).cells), ((3, 0), .box (dkR false false d).cells), ((7, 0), .box [i16 c.day, .vec (26, 1) 0 (c.cs.map cpO).length]), ((8, 0), .box [i16 d.day, .vec (28, 1) 0 (d.cs.map cpO).length]), ((26, 1), .vec 5 true (c.cs.map cpO)), ((28, 1), .vec 5 true (d.cs.map cpO))]⟩ (by decide +kernel) (by kernel_rfl) ?_ fun _ hN => ⟨?_, ?_, ?_, trivial⟩
  rotate_left
  · repeat (refine Run.go rfl ?_)
    refine Run.cs rfl (toDesk_ct d false false hd.1 hd.2) rfl (dkO_rf _) ?_
    repeat (refine Run.go rfl ?_)
    refine Run.cs rfl (eqDesk_ct d d true true true true hd.1 hd.2) (by rw [frzL_map cpO_frz, decide_eq_true rfl]; rfl) rfl ?_
    repeat (refine Run.go rfl ?_)
    exact Run.of hN ⟨rfl, rfl, rfl, rfl, rfl, trivial⟩ ⟨rfl, rfl, rfl, rfl, rfl, rfl, trivial⟩
  · repeat (refine Run.go rfl ?_)
    refine Run.cs rfl (toDesk_ct d false false hd.1 hd.2) rfl (dkO_rf _) ?_
    repeat (refine Run.go rfl ?_)
    refine Run.cs rfl (eqDesk_ct d d true true true true hd.1 hd.2) (by rw [frzL_map cpO_frz, decide_eq_true rfl]; rfl) rfl ?_
    repeat (refine Run.go rfl ?_)
    exact Run.of hN ⟨rfl, rfl, rfl, rfl, rfl, trivial⟩ ⟨rfl, rfl, rfl, rfl, rfl, rfl, trivial⟩
  · repeat (refine Run.go rfl ?_)
    refine Run.cs rfl (toDesk_ct d false false hd.1 hd.2) rfl (dkO_rf _) ?_
    repeat (refine Run.go rfl ?_)
    refine Run.cs rfl (eqDesk_ct d d true true true true hd.1 hd.2) (by rw [frzL_map cpO_frz, decide_eq_true rfl]; rfl) rfl ?_
    repeat (refine Run.go rfl ?_)
    exact Run.of hN ⟨rfl, rfl, rfl, rfl, rfl, trivial⟩ ⟨rfl, rfl, rfl, rfl, rfl, rfl, trivial⟩
  refine Run.cond rfl (fun h => by simp at h) (fun h => ?_)
  repeat (refine Run.go rfl ?_)
  exact Run.ret hg rfl rfl
end Go.Proofs.Ytoeocaenflkajaa
