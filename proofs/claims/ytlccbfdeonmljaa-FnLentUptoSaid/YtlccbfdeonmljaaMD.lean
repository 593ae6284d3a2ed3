/- Parts of a proof, in one text: D1, D2, D3, D4, D5, D6, D7, DRd, D8, D9, D10, D11, D12, D13, D14, D15, D16, D17, D18, D19, D20. -/
import Derived.Test.YtlccbfdeonmljaaAvTys
import Derived.Test.YtlccbfdeonmljaaMB
import Derived.Test.YtlccbfdeonmljaaAvRow
set_option linter.unusedVariables false

/- Contracts of the program's functions, and what follows from them. -/
set_option maxRecDepth 100000
namespace Go.Proofs.Ytlccbfdeonmljaa
open Go Go.Av

structure Cp where
  st : Int
  who : Int
  due : Int
  ren : Int
  q : List Int
  deriving DecidableEq
structure Dk where
  day : Int
  cs : List Cp
  deriving DecidableEq

def cpO (c : Cp) : AV := .agg [i8 c.st, i8 c.who, i16 c.due, i8 c.ren, .own 1 true (c.q.map i8)]
def cpR (ex : Bool) (c : Cp) : AV := .agg [i8 c.st, i8 c.who, i16 c.due, i8 c.ren, .ro 1 ex (c.q.map i8)]
def dkO (d : Dk) : AV := .agg [i16 d.day, .own 5 true (d.cs.map cpO)]
def dkR (ex ex' : Bool) (d : Dk) : AV := .agg [i16 d.day, .ro 5 ex (d.cs.map (cpR ex'))]

theorem frz8 (l : List Int) : AV.frzL (l.map i8) = l.map i8 := frzL_map (fun _ => rfl) l
theorem rf8 (l : List Int) : AV.rfL (l.map i8) = true := rfL_map (fun _ => rfl) l
theorem cpO_rf (c : Cp) : (cpO c).rf = true := by
  simp only [cpO, AV.rf, AV.rfL, rf8]; rfl
theorem cpO_frz (c : Cp) : (cpO c).frz = cpR true c := by
  simp only [cpO, cpR, AV.frz, AV.frzL, frz8]
theorem dkO_rf (d : Dk) : (dkO d).rf = true := by
  simp only [dkO, AV.rf, AV.rfL, rfL_map cpO_rf]; rfl
theorem dkO_frz (d : Dk) : (dkO d).frz = dkR true true d := by
  simp only [dkO, dkR, AV.frz, AV.frzL, frzL_map cpO_frz]

end Go.Proofs.Ytlccbfdeonmljaa

/- Contracts of the program's functions, and what follows from them. -/
set_option maxRecDepth 100000
namespace Go.Proofs.Ytlccbfdeonmljaa
open Go Go.Av

def cpZ : AV := .agg [i8 0, i8 0, i16 0, i8 0, .lit (.slice none 0 0)]

end Go.Proofs.Ytlccbfdeonmljaa

/- Contracts of the program's functions, and what follows from them. -/
set_option maxRecDepth 100000
namespace Go.Proofs.Ytlccbfdeonmljaa
open Go Go.Av

end Go.Proofs.Ytlccbfdeonmljaa

/- Contracts of the program's functions, and what follows from them. -/
set_option maxRecDepth 100000
namespace Go.Proofs.Ytlccbfdeonmljaa
open Go Go.Av

def cnt (l : List Cp) : Nat := (l.map fun c => c.q.length + 4).sum
end Go.Proofs.Ytlccbfdeonmljaa

/- Contracts of the program's functions, and what follows from them. -/
set_option maxRecDepth 100000
namespace Go.Proofs.Ytlccbfdeonmljaa
open Go Go.Av

end Go.Proofs.Ytlccbfdeonmljaa

/- Contracts of the program's functions, and what follows from them. -/
set_option maxRecDepth 100000
namespace Go.Proofs.Ytlccbfdeonmljaa
open Go Go.Av

def inr (a b c : Int) : Bool := decide (b ≤ a) && decide (a ≤ c)

noncomputable def X84 : Fx := ⟨Try.prog, tys, 84, Try.f84, [0, 1, 2]⟩
theorem X84_ok : X84.Ok := ⟨Try.func84, tys_ok⟩
theorem l00In_ct (a b c : Int) : Ct Try.prog 84 [i64 a, i64 b, i64 c] (bo (inr a b c)) [] := by
  refine Ct.intro X84 X84_ok rfl rfl rfl rfl fun g hg => ?_
  repeat (refine Run.step rfl ?_)
  refine Run.bool 10 rfl (fun h => ?_) (fun h => ?_)
  · repeat (refine Run.step rfl ?_)
    refine Run.ret hg rfl ?_
    show bo _ = _
    simp_all [inr]
  · repeat (refine Run.step rfl ?_)
    refine Run.ret hg rfl ?_
    show bo _ = _
    simp_all [inr] <;> omega

noncomputable def X93 : Fx := ⟨Try.prog, tys, 93, Try.f93, [0, 1, 2]⟩
theorem X93_ok : X93.Ok := ⟨Try.func93, tys_ok⟩
theorem within64_ct (a b c : Int) : Ct Try.prog 93 [i64 a, i64 b, i64 c] (bo (inr a b c)) [] := by
  refine Ct.intro X93 X93_ok rfl rfl rfl rfl fun g hg => ?_
  repeat (refine Run.step rfl ?_)
  refine Run.bool 10 rfl (fun h => ?_) (fun h => ?_)
  · repeat (refine Run.step rfl ?_)
    refine Run.ret hg rfl ?_
    show bo _ = _
    simp_all [inr]
  · repeat (refine Run.step rfl ?_)
    refine Run.ret hg rfl ?_
    show bo _ = _
    simp_all [inr] <;> omega

def cp0 : Cp := ⟨0, 0, 0, 0, []⟩
def empD (n : Int) : Dk := if inr n 0 60 then ⟨0, List.replicate n.toNat cp0⟩ else ⟨0, []⟩
def empC (n : Int) : Int := if inr n 0 60 then 0 else 2

theorem conv0 (n : Nat) (w : World) (L : Nat → Prop) (m : Nat) (x y : AV) (hx : (List.replicate n cpZ)[m]? = some x) (hy : ((List.replicate n cp0).map cpO)[m]? = some y) :
    ∀ (j : Nat) (p q : AV) (v : Value) (H : List Nat), x.cells[j]? = some p → y.cells[j]? = some q → Rel w L noEnv p v H → Rel w L noEnv q v H := by
  have ex : x = cpZ := (List.eq_of_mem_replicate (List.mem_of_getElem? hx))
  have ey : y = cpO cp0 := by
    rw [List.map_replicate] at hy
    exact (List.eq_of_mem_replicate (List.mem_of_getElem? hy))
  subst ex; subst ey
  intro j p q v H hp hq hr
  match j with
  | 0 => cases hp; cases hq; exact hr
  | 1 => cases hp; cases hq; exact hr
  | 2 => cases hp; cases hq; exact hr
  | 3 => cases hp; cases hq; exact hr
  | 4 => cases hp; cases hq; cases hr; exact .ownNil _ _ _ _
  | j + 5 => simp [cpZ, AV.cells] at hp

noncomputable def X66 : Fx := ⟨Try.prog, tys, 66, Try.f66, [0]⟩
theorem X66_ok : X66.Ok := ⟨Try.func66, tys_ok⟩
theorem specEmptyDesk_ct (n : Int) : Ct Try.prog 66 [i64 n] (.tup [dkO (empD n), i64 (empC n)]) [] := by
  refine Ct.intro X66 X66_ok rfl rfl rfl rfl fun g hg => ?_
  repeat (refine Run.go rfl ?_)
  refine Run.cs rfl (l00In_ct n 0 60) rfl rfl ?_
  repeat (refine Run.go rfl ?_)
  refine Run.cond rfl (fun h => ?_) (fun h => ?_)
  · repeat (refine Run.go rfl ?_)
    refine Run.val rfl rfl rfl (ValOk.build rfl rfl rfl rfl rfl) rfl ?_
    repeat (refine Run.go rfl ?_)
    refine Run.nilBox (2, 0) 1 5 true rfl rfl ?_
    have h : inr n 0 60 = false := by simpa using h
    have e : empD n = ⟨0, []⟩ := by simp [empD, h]
    have e2 : empC n = 2 := by simp [empC, h]
    rw [e, e2] at hg
    exact Run.ret (r := .tup [dkO ⟨0, []⟩, i64 2]) hg (by kernel_rfl) rfl
  · repeat (refine Run.go rfl ?_)
    have h : 0 ≤ n ∧ n ≤ 60 := by simpa [inr] using h
    obtain ⟨m, rfl⟩ : ∃ m : Nat, n = m := ⟨n.toNat, by omega⟩
    refine Run.make rfl rfl rfl rfl rfl rfl rfl rfl rfl rfl (by omega) (by show _ * 32 ≤ _; omega) rfl ?_
    refine Run.convOwn 9 ((List.replicate m cp0).map cpO) rfl (by simp) (by decide) (by intro y hy; obtain ⟨c, _, rfl⟩ := List.mem_map.1 hy; rfl) (conv0 m) ?_
    refine Run.unpack 9 rfl rfl ?_
    refine Run.val rfl rfl rfl (ValOk.build rfl rfl rfl rfl rfl) rfl ?_
    repeat (refine Run.go rfl ?_)
    refine Run.packBox (2, 0) 1 rfl rfl rfl rfl ?_
    have e : empD m = ⟨0, List.replicate m cp0⟩ := by simp [empD, inr, h]
    have e2 : empC m = 0 := by simp [empC, inr, h]
    rw [e, e2] at hg
    exact Run.ret (r := .tup [dkO ⟨0, List.replicate m cp0⟩, i64 0]) hg (by kernel_rfl) rfl

end Go.Proofs.Ytlccbfdeonmljaa

/- Contracts of the program's functions, and what follows from them. -/
set_option maxRecDepth 100000
namespace Go.Proofs.Ytlccbfdeonmljaa
open Go Go.Av

noncomputable def X10 : Fx := ⟨Try.prog, tys, 10, Try.f10, [0, 1]⟩
theorem X10_ok : X10.Ok := ⟨Try.func10, tys_ok⟩
theorem specSameDesk_ct (c d : Dk) (e1 e2 e3 e4 : Bool) (hb : c.cs.length ≤ 1048576) (hq : ∀ x ∈ c.cs, x.q.length ≤ 1048576) : Ct Try.prog 10 [dkR e1 e2 c, dkR e3 e4 d] (bo (decide (c = d))) [] := by
  obtain ⟨a1, l⟩ := c
  obtain ⟨b1, m⟩ := d
  simp only at hb hq
  refine Ct.intro X10 X10_ok rfl rfl rfl rfl fun g hg => ?_
  repeat (refine Run.go rfl ?_)
  refine Run.bool 14 rfl (fun h => ?_) (fun h1 => ?_)
  · repeat (refine Run.go rfl ?_)
    refine Run.cond rfl (fun _ => ?_) (fun h => by simp at h)
    repeat (refine Run.go rfl ?_)
    refine Run.ret hg rfl ?_
    show bo _ = _
    simp at h
    simp [h]
  repeat (refine Run.go rfl ?_)
  refine Run.cond rfl (fun h => ?_) (fun h2 => ?_)
  · repeat (refine Run.go rfl ?_)
    refine Run.ret hg rfl ?_
    show bo _ = _
    congr 2
    simp at h
    symm
    simp
    rintro _ rfl
    exact h rfl
  have hlen : l.length = m.length := by simp at h2; omega
  have h1 : a1 = b1 := by simpa using h1
  subst h1
  repeat (refine Run.go rfl ?_)
  refine Run.loop (fun j : Nat => ⟨[(2, .bp (2, 0) 0), (3, .bp (3, 0) 0), (5, i64 j)], [((2, 0), .box [i16 a1, .ro 5 e1 (l.map (cpR e2))]), ((3, 0), .box [i16 a1, .ro 5 e3 (m.map (cpR e4))])]⟩)
    (fun j => j ≤ l.length ∧ l.take j = m.take j) (fun j => l.length - j) 0 ⟨by omega, rfl⟩ ?_ ?_
  · exact St.Le.mk' ⟨rfl, rfl, rfl, trivial⟩ ⟨rfl, rfl, trivial⟩
  rintro j ⟨hj, hjm⟩ IH
  repeat (refine Run.go rfl ?_)
  refine Run.cond rfl (fun h => ?_) (fun h => ?_)
  · have hlt : j < l.length := by simpa using h
    have hlt' : j < m.length := by omega
    have no : ∀ {P : Prop}, l[j] ≠ m[j] → bo false = bo (decide (({ day := a1, cs := l } : Dk) = { day := a1, cs := m })) := by
      intro _ hne
      congr 2
      symm
      simp
      rintro rfl
      exact hne rfl
    repeat (refine Run.go rfl ?_)
    refine Run.val rfl rfl rfl (ValOk.idx (cpR e2 l[j]) rfl rfl rfl rfl rfl (by omega) (by simp [hlt])) rfl ?_
    repeat (refine Run.go rfl ?_)
    refine Run.val rfl rfl rfl (ValOk.idx (cpR e4 m[j]) rfl rfl rfl rfl rfl (by omega) (by simp [hlt'])) rfl ?_
    repeat (refine Run.go rfl ?_)
    generalize hx : l[j] = x at no
    generalize hy : m[j] = y at no
    obtain ⟨x1, x2, x3, x4, x5⟩ := x
    obtain ⟨y1, y2, y3, y4, y5⟩ := y
    refine Run.bool 45 rfl (fun h => ?_) (fun h3 => ?_)
    · repeat (refine Run.go rfl ?_)
      refine Run.cond rfl (fun _ => ?_) (fun h => by simp at h)
      repeat (refine Run.go rfl ?_)
      exact Run.ret hg rfl (no (P := True) (by simp at h; simp [h]))
    repeat (refine Run.go rfl ?_)
    refine Run.bool 52 rfl (fun h => ?_) (fun h4 => ?_)
    · repeat (refine Run.go rfl ?_)
      refine Run.cond rfl (fun _ => ?_) (fun h => by simp at h)
      repeat (refine Run.go rfl ?_)
      exact Run.ret hg rfl (no (P := True) (by simp at h; simp [h]))
    repeat (refine Run.go rfl ?_)
    refine Run.bool 59 rfl (fun h => ?_) (fun h5 => ?_)
    · repeat (refine Run.go rfl ?_)
      refine Run.cond rfl (fun _ => ?_) (fun h => by simp at h)
      repeat (refine Run.go rfl ?_)
      exact Run.ret hg rfl (no (P := True) (by simp at h; simp [h]))
    repeat (refine Run.go rfl ?_)
    refine Run.bool 66 rfl (fun h => ?_) (fun h6 => ?_)
    · repeat (refine Run.go rfl ?_)
      refine Run.cond rfl (fun _ => ?_) (fun h => by simp at h)
      repeat (refine Run.go rfl ?_)
      exact Run.ret hg rfl (no (P := True) (by simp at h; simp [h]))
    repeat (refine Run.go rfl ?_)
    refine Run.cond rfl (fun h => ?_) (fun h7 => ?_)
    · repeat (refine Run.go rfl ?_)
      refine Run.ret hg rfl (no (P := True) ?_)
      simp at h ⊢
      rintro _ _ _ _ rfl
      exact h rfl
    have hl5 : x5.length = y5.length := by simp at h7; omega
    have hq5 : x5.length ≤ 1048576 := by have := hq l[j] (by simp); rw [hx] at this; exact this
    simp at h3 h4 h5 h6
    subst h3; subst h4; subst h5; subst h6
    repeat (refine Run.go rfl ?_)
    refine Run.loop (fun i : Nat => ⟨[(2, .bp (2, 0) 0), (3, .bp (3, 0) 0), (5, i64 j), (6, .bp (6, 0) 0), (7, .bp (7, 0) 0), (8, i64 i)],
      [((2, 0), .box [i16 a1, .ro 5 e1 (l.map (cpR e2))]), ((3, 0), .box [i16 a1, .ro 5 e3 (m.map (cpR e4))]), ((6, 0), .box (cpR e2 ⟨x1, x2, x3, x4, x5⟩).cells), ((7, 0), .box (cpR e4 ⟨x1, x2, x3, x4, y5⟩).cells)]⟩)
      (fun i => i ≤ x5.length ∧ x5.take i = y5.take i) (fun i => x5.length - i) 0 ⟨by omega, rfl⟩ ?_ ?_
    · exact St.Le.mk' ⟨rfl, rfl, rfl, rfl, rfl, rfl, trivial⟩ ⟨rfl, rfl, rfl, rfl, trivial⟩
    rintro i ⟨hi, him⟩ IH2
    repeat (refine Run.go rfl ?_)
    refine Run.cond rfl (fun h => ?_) (fun h => ?_)
    · have hit : i < x5.length := by simpa using h
      have hit' : i < y5.length := by omega
      repeat (refine Run.go rfl ?_)
      refine Run.draw (by kernel_rfl) (by decide +kernel) ?_
      repeat (refine Quiet.go rfl ?_)
      refine Quiet.val rfl rfl (ValOk.idx (i8 x5[i]) rfl rfl rfl rfl rfl (by omega) (by simp [hit])) rfl ?_
      repeat (refine Quiet.go rfl ?_)
      refine Quiet.val rfl rfl (ValOk.idx (i8 y5[i]) rfl rfl rfl rfl rfl (by omega) (by simp [hit'])) rfl ?_
      repeat (refine Quiet.go rfl ?_)
      refine Quiet.nil ?_
      repeat (refine Run.go rfl ?_)
      refine Run.cond rfl (fun h => ?_) (fun h => ?_)
      · repeat (refine Run.go rfl ?_)
        refine Run.ret hg rfl (no (P := True) ?_)
        simp at h ⊢
        rintro rfl
        exact h rfl
      · repeat (refine Run.go rfl ?_)
        refine Run.of (IH2 (i + 1) ⟨by omega, ?_⟩ (by omega)) ⟨rfl, rfl, rfl, rfl, rfl, ?_, trivial⟩ ⟨rfl, rfl, rfl, rfl, trivial⟩
        · rw [List.take_succ_eq_append_getElem hit, List.take_succ_eq_append_getElem hit', him]
          simp at h
          rw [h]
        · show i64 _ = _
          rw [wrap_i64 (by omega) (by omega)]
          rfl
    · have hi' : i = x5.length := by simp at h; omega
      rw [List.take_of_length_le (by omega), List.take_of_length_le (by omega)] at him
      subst him
      repeat (refine Run.go rfl ?_)
      refine Run.of (IH (j + 1) ⟨by omega, ?_⟩ (by omega)) ⟨rfl, rfl, ?_, trivial⟩ ⟨rfl, rfl, trivial⟩
      · rw [List.take_succ_eq_append_getElem hlt, List.take_succ_eq_append_getElem hlt', hjm, hx, hy]
      · show i64 _ = _
        rw [wrap_i64 (by omega) (by omega)]
        rfl
  · have hj' : j = l.length := by simp at h; omega
    repeat (refine Run.go rfl ?_)
    refine Run.ret hg rfl ?_
    show bo _ = _
    rw [List.take_of_length_le (by omega), List.take_of_length_le (by omega)] at hjm
    simp [hjm]

noncomputable def X44 : Fx := ⟨Try.prog, tys, 44, Try.f44, [0, 1]⟩
theorem X44_ok : X44.Ok := ⟨Try.func44, tys_ok⟩
theorem equal8_ct (l m : List Int) (ex ex' : Bool) (hb : l.length ≤ 1048576) : Ct Try.prog 44 [.ro 1 ex (l.map i8), .ro 1 ex' (m.map i8)] (bo (decide (l = m))) [] := by
  refine Ct.intro X44 X44_ok rfl rfl rfl rfl fun g hg => ?_
  repeat (refine Run.go rfl ?_)
  refine Run.cond rfl (fun h => ?_) (fun h => ?_)
  · repeat (refine Run.go rfl ?_)
    refine Run.ret hg rfl ?_
    show bo _ = _
    congr 2
    simp at h
    symm
    simp
    rintro rfl
    exact h rfl
  · have hlen : l.length = m.length := by simp at h; omega
    repeat (refine Run.go rfl ?_)
    refine Run.loop (fun j : Nat => ⟨[(0, .ro 1 ex (l.map i8)), (1, .ro 1 ex' (m.map i8)), (12, i64 l.length), (13, i64 j)], []⟩) (fun j => j ≤ l.length ∧ l.take j = m.take j) (fun j => l.length - j) 0 ⟨by omega, rfl⟩ ?_ ?_
    · refine St.Le.mk' ⟨rfl, rfl, ?_, rfl, trivial⟩ trivial
      show i64 _ = _
      simp
    · rintro j ⟨hj, hjm⟩ IH
      repeat (refine Run.go rfl ?_)
      refine Run.cond rfl (fun h => ?_) (fun h => ?_)
      · have hlt : j < l.length := by simpa using h
        have hlt' : j < m.length := by omega
        repeat (refine Run.go rfl ?_)
        refine Run.draw (by kernel_rfl) (by decide +kernel) ?_
        repeat (refine Quiet.go rfl ?_)
        refine Quiet.val rfl rfl (ValOk.idx (i8 l[j]) rfl rfl rfl rfl rfl (by omega) (by simp [hlt])) rfl ?_
        repeat (refine Quiet.go rfl ?_)
        refine Quiet.val rfl rfl (ValOk.idx (i8 m[j]) rfl rfl rfl rfl rfl (by omega) (by simp [hlt'])) rfl ?_
        repeat (refine Quiet.go rfl ?_)
        refine Quiet.nil ?_
        repeat (refine Run.go rfl ?_)
        refine Run.cond rfl (fun h => ?_) (fun h => ?_)
        · repeat (refine Run.go rfl ?_)
          refine Run.ret hg rfl ?_
          show bo _ = _
          congr 2
          symm
          simp at h ⊢
          rintro rfl
          exact h rfl
        · repeat (refine Run.go rfl ?_)
          refine Run.of (IH (j + 1) ⟨by omega, ?_⟩ (by omega)) ⟨rfl, rfl, rfl, ?_, trivial⟩ trivial
          · rw [List.take_succ_eq_append_getElem hlt, List.take_succ_eq_append_getElem hlt', hjm]
            simp at h
            rw [h]
          · show i64 _ = _
            rw [wrap_i64 (by omega) (by omega)]
            rfl
      · have hj' : j = l.length := by simp at h; omega
        repeat (refine Run.go rfl ?_)
        refine Run.ret hg rfl ?_
        show bo _ = _
        rw [List.take_of_length_le (by omega), List.take_of_length_le (by omega)] at hjm
        simp [hjm]

noncomputable def X43 : Fx := ⟨Try.prog, tys, 43, Try.f43, [0, 1]⟩
theorem X43_ok : X43.Ok := ⟨Try.func43, tys_ok⟩
theorem sameDesk1_ct (c d : Cp) (e2 e4 : Bool) (hb : c.q.length ≤ 1048576) : Ct Try.prog 43 [cpR e2 c, cpR e4 d] (bo (decide (c = d))) [] := by
  obtain ⟨x1, x2, x3, x4, x5⟩ := c
  obtain ⟨y1, y2, y3, y4, y5⟩ := d
  refine Ct.intro X43 X43_ok rfl rfl rfl rfl fun g hg => ?_
  repeat (refine Run.go rfl ?_)
  refine Run.bool 10 rfl (fun h1 => ?_) (fun h => ?_)
  · repeat (refine Run.go rfl ?_)
    refine Run.bool 17 rfl (fun h2 => ?_) (fun h => ?_)
    · repeat (refine Run.go rfl ?_)
      refine Run.bool 24 rfl (fun h3 => ?_) (fun h => ?_)
      · repeat (refine Run.go rfl ?_)
        refine Run.bool 31 rfl (fun h4 => ?_) (fun h => ?_)
        · repeat (refine Run.go rfl ?_)
          refine Run.cs rfl (equal8_ct x5 y5 e2 e4 hb) rfl rfl ?_
          repeat (refine Run.go rfl ?_)
          refine Run.ret hg rfl ?_
          show bo _ = _
          simp at h1 h2 h3 h4
          simp [h1, h2, h3, h4]
        · repeat (refine Run.go rfl ?_)
          refine Run.ret hg rfl ?_
          show bo _ = _
          simp at h
          simp [h]
      · repeat (refine Run.go rfl ?_)
        refine Run.ret hg rfl ?_
        show bo _ = _
        simp at h
        simp [h]
    · repeat (refine Run.go rfl ?_)
      refine Run.ret hg rfl ?_
      show bo _ = _
      simp at h
      simp [h]
  · repeat (refine Run.go rfl ?_)
    refine Run.ret hg rfl ?_
    show bo _ = _
    simp at h
    simp [h]

noncomputable def X42 : Fx := ⟨Try.prog, tys, 42, Try.f42, [0, 1, 2]⟩
theorem X42_ok : X42.Ok := ⟨Try.func42, tys_ok⟩
theorem equalFunc_ct (l m : List Cp) (e1 e2 e3 e4 : Bool) (f : Nat) (hb : l.length ≤ 1048576) (hf : ∀ x ∈ l, ∀ y ∈ m, Ct Try.prog f [cpR e2 x, cpR e4 y] (bo (decide (x = y))) []) :
    Ct Try.prog 42 [.ro 5 e1 (l.map (cpR e2)), .ro 5 e3 (m.map (cpR e4)), .fn f []] (bo (decide (l = m))) [] := by
  refine Ct.intro X42 X42_ok rfl (by kernel_rfl) rfl rfl fun g hg => ?_
  repeat (refine Run.go rfl ?_)
  refine Run.cond rfl (fun h => ?_) (fun h => ?_)
  · repeat (refine Run.go rfl ?_)
    refine Run.ret hg rfl ?_
    show bo _ = _
    congr 2
    simp at h
    symm
    simp
    rintro rfl
    exact h rfl
  · have hlen : l.length = m.length := by simp at h; omega
    repeat (refine Run.go rfl ?_)
    refine Run.loop (fun j : Nat => ⟨[(1, .ro 5 e3 (m.map (cpR e4))), (2, .fn f []), (15, .ro 5 e1 (l.map (cpR e2))), (16, i64 l.length), (17, i64 j)], []⟩) (fun j => j ≤ l.length ∧ l.take j = m.take j) (fun j => l.length - j) 0 ⟨by omega, rfl⟩ ?_ ?_
    · refine St.Le.mk' ⟨rfl, rfl, rfl, ?_, rfl, trivial⟩ trivial
      show i64 _ = _
      simp
    · rintro j ⟨hj, hjm⟩ IH
      repeat (refine Run.go rfl ?_)
      refine Run.cond rfl (fun h => ?_) (fun h => ?_)
      · have hlt : j < l.length := by simpa using h
        have hlt' : j < m.length := by omega
        repeat (refine Run.go rfl ?_)
        refine Run.val rfl rfl rfl (ValOk.idx (cpR e2 l[j]) rfl rfl rfl rfl rfl (by omega) (by simp [hlt])) rfl ?_
        repeat (refine Run.go rfl ?_)
        refine Run.val rfl rfl rfl (ValOk.idx (cpR e4 m[j]) rfl rfl rfl rfl rfl (by omega) (by simp [hlt'])) rfl ?_
        repeat (refine Run.go rfl ?_)
        refine Run.cs rfl (hf l[j] (by simp) m[j] (by simp)) rfl rfl ?_
        repeat (refine Run.go rfl ?_)
        refine Run.cond rfl (fun h => ?_) (fun h => ?_)
        · repeat (refine Run.go rfl ?_)
          refine Run.ret hg rfl ?_
          show bo _ = _
          congr 2
          symm
          simp at h ⊢
          rintro rfl
          exact h rfl
        · repeat (refine Run.go rfl ?_)
          refine Run.of (IH (j + 1) ⟨by omega, ?_⟩ (by omega)) ⟨rfl, rfl, rfl, rfl, ?_, trivial⟩ trivial
          · rw [List.take_succ_eq_append_getElem hlt, List.take_succ_eq_append_getElem hlt', hjm]
            simp at h
            rw [h]
          · show i64 _ = _
            rw [wrap_i64 (by omega) (by omega)]
            rfl
      · have hj' : j = l.length := by simp at h; omega
        repeat (refine Run.go rfl ?_)
        refine Run.ret hg rfl ?_
        show bo _ = _
        rw [List.take_of_length_le (by omega), List.take_of_length_le (by omega)] at hjm
        simp [hjm]

noncomputable def X11 : Fx := ⟨Try.prog, tys, 11, Try.f11, [0, 1]⟩
theorem X11_ok : X11.Ok := ⟨Try.func11, tys_ok⟩
theorem implSameDesk_ct (c d : Dk) (e1 e2 e3 e4 : Bool) (hb : c.cs.length ≤ 1048576) (hq : ∀ x ∈ c.cs, x.q.length ≤ 1048576) : Ct Try.prog 11 [dkR e1 e2 c, dkR e3 e4 d] (bo (decide (c = d))) [] := by
  obtain ⟨a1, l⟩ := c
  obtain ⟨b1, m⟩ := d
  simp only at hb hq
  refine Ct.intro X11 X11_ok rfl rfl rfl rfl fun g hg => ?_
  repeat (refine Run.go rfl ?_)
  refine Run.bool 10 rfl (fun h1 => ?_) (fun h => ?_)
  · repeat (refine Run.go rfl ?_)
    refine Run.cs rfl (equalFunc_ct l m e1 e2 e3 e4 43 hb (fun x hx y _ => sameDesk1_ct x y e2 e4 (hq x hx))) rfl rfl ?_
    repeat (refine Run.go rfl ?_)
    refine Run.ret hg rfl ?_
    show bo _ = _
    simp at h1
    simp [h1]
  · repeat (refine Run.go rfl ?_)
    refine Run.ret hg rfl ?_
    show bo _ = _
    simp at h
    simp [h]

/-- A desk that a row may speak of. -/
def dkOk (d : Dk) : Prop := d.cs.length ≤ 1048576 ∧ ∀ c ∈ d.cs, c.q.length ≤ 1048576

end Go.Proofs.Ytlccbfdeonmljaa

/- Contracts of the program's functions, and what follows from them. -/
set_option maxRecDepth 100000
namespace Go.Proofs.Ytlccbfdeonmljaa
open Go Go.Av

def i8r (n : Int) : Prop := -128 ≤ n ∧ n ≤ 127
def i16r (n : Int) : Prop := -32768 ≤ n ∧ n ≤ 32767
def cpRng (c : Cp) : Prop := i8r c.st ∧ i8r c.who ∧ i16r c.due ∧ i8r c.ren ∧ ∀ x ∈ c.q, i8r x
def dkRng (d : Dk) : Prop := i16r d.day ∧ ∀ c ∈ d.cs, cpRng c

end Go.Proofs.Ytlccbfdeonmljaa

/- Contracts of the program's functions, and what follows from them. -/
set_option maxRecDepth 100000
namespace Go.Proofs.Ytlccbfdeonmljaa
open Go Go.Av

/-! Persons, places in queues. -/

noncomputable def X52 : Fx := ⟨Try.prog, tys, 52, Try.f52, [0]⟩
theorem X52_ok : X52.Ok := ⟨Try.func52, tys_ok⟩
theorem l06Person_ct (a : Int) : Ct Try.prog 52 [i64 a] (bo (inr a 0 49)) [] := by
  refine Ct.intro X52 X52_ok rfl rfl rfl rfl fun g hg => ?_
  repeat (refine Run.go rfl ?_)
  refine Run.cs rfl (l00In_ct a 0 49) rfl rfl ?_
  repeat (refine Run.go rfl ?_)
  exact Run.ret hg rfl rfl

/-- The place of the first, or -1. -/
def fi {α : Type} (p : α → Bool) (l : List α) : Int := if l.findIdx p < l.length then (l.findIdx p : Int) else -1

theorem fi_nonneg {α : Type} (p : α → Bool) (l : List α) : decide (0 ≤ fi p l) = l.any p := by
  unfold fi
  by_cases h : l.any p = true
  · rw [if_pos (List.findIdx_lt_length_of_exists (by simpa using h))]
    simp [h]
  · have : ¬ l.findIdx p < l.length := by
      intro h'
      apply h
      rw [List.any_eq_true]
      exact ⟨_, List.getElem_mem h', List.findIdx_getElem⟩
    rw [if_neg this]
    simp only [Bool.not_eq_true] at h
    simp [h]

theorem fi_at {α : Type} {p : α → Bool} {l : List α} {j : Nat} (hj : j < l.length) (hp : p l[j] = true) (hn : j ≤ l.findIdx p) : fi p l = j := by
  have : l.findIdx p = j := by
    refine Nat.le_antisymm (Nat.le_of_not_lt fun hlt' => ?_) hn
    have := List.not_of_lt_findIdx hlt'
    simp_all
  simp [fi, this, hj]
theorem fi_none {α : Type} {p : α → Bool} {l : List α} (hn : l.length ≤ l.findIdx p) : fi p l = -1 := by
  rw [fi, if_neg (by omega)]
theorem fi_next {α : Type} {p : α → Bool} {l : List α} {j : Nat} (hj : j < l.length) (hp : p l[j] = false) (hn : j ≤ l.findIdx p) : j + 1 ≤ l.findIdx p := by
  refine Nat.lt_of_le_of_ne hn fun e => ?_
  have := List.findIdx_getElem (p := p) (xs := l) (w := e ▸ hj)
  simp_all

noncomputable def X53 : Fx := ⟨Try.prog, tys, 53, Try.f53, [0, 1]⟩
theorem X53_ok : X53.Ok := ⟨Try.func53, tys_ok⟩
theorem l06Place_ct (l : List Int) (ex : Bool) (n : Int) (hlen : l.length ≤ 1048576) (hr : ∀ x ∈ l, i8r x) : Ct Try.prog 53 [.ro 1 ex (l.map i8), i64 n] (i64 (fi (fun x => x == n) l)) [] := by
  refine Ct.intro X53 X53_ok rfl rfl rfl rfl fun g hg => ?_
  repeat (refine Run.go rfl ?_)
  refine Run.loop (fun j : Nat => ⟨[(0, .ro 1 ex (l.map i8)), (1, i64 n), (5, i64 j)], []⟩) (fun j => j ≤ l.length ∧ j ≤ l.findIdx (fun x => x == n)) (fun j => l.length - j) 0 ⟨by omega, by omega⟩ ?_ ?_
  · exact St.Le.mk' ⟨rfl, rfl, rfl, trivial⟩ trivial
  · rintro j ⟨hj1, hj2⟩ IH
    repeat (refine Run.go rfl ?_)
    refine Run.cond rfl (fun h => ?_) (fun h => ?_)
    · have hlt : j < l.length := by simpa using h
      have hx := hr l[j] (by simp)
      have hw : IntKind.i64.wrap l[j] = l[j] := wrap_i64 (by have := hx.1; omega) (by have := hx.2; omega)
      repeat (refine Run.go rfl ?_)
      refine Run.val rfl rfl rfl (ValOk.idx (i8 l[j]) rfl rfl rfl rfl rfl (by omega) (by simp [hlt])) rfl ?_
      repeat (refine Run.go rfl ?_)
      refine Run.cond rfl (fun h => ?_) (fun h => ?_)
      · rw [hw] at h
        repeat (refine Run.go rfl ?_)
        refine Run.ret hg rfl ?_
        show i64 _ = _
        rw [fi_at hlt h hj2]
      · rw [hw] at h
        repeat (refine Run.go rfl ?_)
        refine Run.of (IH (j + 1) ⟨by omega, fi_next hlt h hj2⟩ (by omega)) ⟨rfl, rfl, ?_, trivial⟩ trivial
        show i64 _ = _
        rw [wrap_i64 (by omega) (by omega)]
        rfl
    · repeat (refine Run.go rfl ?_)
      have hj : j = l.length := by simp at h; omega
      refine Run.ret hg rfl ?_
      show i64 (-1) = _
      rw [fi_none (by omega)]

noncomputable def X31 : Fx := ⟨Try.prog, tys, 31, Try.f31, [0, 1, 2]⟩
theorem X31_ok : X31.Ok := ⟨Try.func31, tys_ok⟩
theorem within16_ct (a b c : Int) : Ct Try.prog 31 [i16 a, i16 b, i16 c] (bo (inr a b c)) [] := by
  refine Ct.intro X31 X31_ok rfl rfl rfl rfl fun g hg => ?_
  repeat (refine Run.step rfl ?_)
  refine Run.bool 10 rfl (fun h => ?_) (fun h => ?_)
  · repeat (refine Run.step rfl ?_)
    refine Run.ret hg rfl ?_
    show bo _ = _
    simp_all [inr]
  · repeat (refine Run.step rfl ?_)
    refine Run.ret hg rfl ?_
    show bo _ = _
    simp_all [inr] <;> omega

noncomputable def X74 : Fx := ⟨Try.prog, tys, 74, Try.f74, [0, 1, 2]⟩
theorem X74_ok : X74.Ok := ⟨Try.func74, tys_ok⟩
theorem within8_ct (a b c : Int) : Ct Try.prog 74 [i8 a, i8 b, i8 c] (bo (inr a b c)) [] := by
  refine Ct.intro X74 X74_ok rfl rfl rfl rfl fun g hg => ?_
  repeat (refine Run.step rfl ?_)
  refine Run.bool 10 rfl (fun h => ?_) (fun h => ?_)
  · repeat (refine Run.step rfl ?_)
    refine Run.ret hg rfl ?_
    show bo _ = _
    simp_all [inr]
  · repeat (refine Run.step rfl ?_)
    refine Run.ret hg rfl ?_
    show bo _ = _
    simp_all [inr] <;> omega

noncomputable def X73 : Fx := ⟨Try.prog, tys, 73, Try.f73, [0]⟩
theorem X73_ok : X73.Ok := ⟨Try.func73, tys_ok⟩
theorem isPerson8_ct (a : Int) (h : i8r a) : Ct Try.prog 73 [i8 a] (bo (inr a 0 49)) [] := by
  refine Ct.intro X73 X73_ok rfl rfl rfl rfl fun g hg => ?_
  have hw : IntKind.i64.wrap a = a := wrap_i64 (by have := h.1; omega) (by have := h.2; omega)
  repeat (refine Run.go rfl ?_)
  rw [hw]
  refine Run.cs rfl (within64_ct a 0 49) rfl rfl ?_
  repeat (refine Run.go rfl ?_)
  exact Run.ret hg rfl rfl

noncomputable def X78 : Fx := ⟨Try.prog, tys, 78, Try.f78, [0, 1]⟩
theorem X78_ok : X78.Ok := ⟨Try.func78, tys_ok⟩
theorem isLent_ct (c : Cp) (ex : Bool) (w : Int) : Ct Try.prog 78 [cpR ex c, i8 w] (bo (decide (c.st = 1) && decide (c.who = w))) [] := by
  refine Ct.intro X78 X78_ok rfl rfl rfl rfl fun g hg => ?_
  repeat (refine Run.go rfl ?_)
  refine Run.bool 8 rfl (fun h => ?_) (fun h => ?_)
  · repeat (refine Run.go rfl ?_)
    refine Run.ret hg rfl ?_
    show bo _ = _
    simp at h
    simp [h]
    rfl
  · repeat (refine Run.go rfl ?_)
    refine Run.ret hg rfl ?_
    show bo _ = _
    simp at h
    simp [h]

noncomputable def X77 : Fx := ⟨Try.prog, tys, 77, Try.f77, [0, 1]⟩
theorem X77_ok : X77.Ok := ⟨Try.func77, tys_ok⟩
theorem loans1_ct (c : Cp) (ex : Bool) (w : Int) : Ct Try.prog 77 [cpR ex c, .rp [i8 w] 0] (bo (decide (c.st = 1) && decide (c.who = w))) [] := by
  refine Ct.intro X77 X77_ok rfl rfl rfl rfl fun g hg => ?_
  repeat (refine Run.go rfl ?_)
  refine Run.cs rfl (isLent_ct c ex w) rfl rfl ?_
  repeat (refine Run.go rfl ?_)
  exact Run.ret hg rfl rfl

/-- The places at which something holds, as numbers. -/
def idxs {α : Type} (p : α → Bool) (l : List α) : List Int := (l.zipIdx.filter fun x => p x.1).map fun x => (x.2 : Int)

theorem idxs_step {α : Type} {p : α → Bool} {l : List α} {j : Nat} (h : j < l.length) : idxs p (l.take (j + 1)) = if p l[j] then idxs p (l.take j) ++ [(j : Int)] else idxs p (l.take j) := by
  unfold idxs
  rw [List.take_succ_eq_append_getElem h, List.zipIdx_append, List.filter_append, List.map_append]
  have e : (l.take j).length = j := by simp; omega
  simp only [List.zipIdx_cons, List.zipIdx_nil, Nat.zero_add, e]
  split <;> rename_i hp <;> simp [hp]
theorem idxs_len {α : Type} (p : α → Bool) (l : List α) : (idxs p l).length ≤ l.length := by
  unfold idxs
  rw [List.length_map]
  exact Nat.le_trans (List.length_filter_le _ _) (by simp)

theorem frz64 (l : List Int) : AV.frzL (l.map i64) = l.map i64 := frzL_map (fun _ => rfl) l
theorem rf64 (l : List Int) : AV.rfL (l.map i64) = true := rfL_map (fun _ => rfl) l

noncomputable def X45 : Fx := ⟨Try.prog, tys, 45, Try.f45, [0, 1]⟩
theorem X45_ok : X45.Ok := ⟨Try.func45, tys_ok⟩
theorem which_ct (d : Dk) (e1 e2 : Bool) (f : Nat) (cs : List AV) (jj : Nat) (p : Cp → Bool) (hd : dkOk d) (hf : ∀ c ∈ d.cs, Ct Try.prog f [cpR e2 c, .rp cs jj] (bo (p c)) []) :
    Ct Try.prog 45 [dkR e1 e2 d, .fn f [.rp cs jj]] (.own 1 false ((idxs p d.cs).map i64)) [] := by
  obtain ⟨day, l⟩ := d
  obtain ⟨hb, hq⟩ := hd
  simp only at hb hq hf
  refine Ct.intro X45 X45_ok rfl rfl rfl rfl fun g hg => ?_
  repeat (refine Run.go rfl ?_)
  refine Run.nilSlot 5 1 false rfl ?_
  refine Run.loop (fun j : Nat => ⟨[(1, .fn f [.rp cs jj]), (5, .own 1 false ((idxs p (l.take j)).map i64)), (9, .ro 5 e1 (l.map (cpR e2))), (10, i64 l.length), (11, i64 j)], []⟩) (fun j => j ≤ l.length) (fun j => l.length - j) 0 (by omega) ?_ ?_
  · refine St.Le.mk' ⟨rfl, rfl, rfl, ?_, rfl, trivial⟩ trivial
    show i64 _ = _
    simp
  · intro j hj IH
    repeat (refine Run.go rfl ?_)
    refine Run.cond rfl (fun h => ?_) (fun h => ?_)
    · have hlt : j < l.length := by simpa using h
      repeat (refine Run.go rfl ?_)
      refine Run.val rfl rfl rfl (ValOk.idx (cpR e2 l[j]) rfl rfl rfl rfl rfl (by omega) (by simp [hlt])) rfl ?_
      repeat (refine Run.go rfl ?_)
      refine Run.cs rfl (hf l[j] (by simp)) rfl rfl ?_
      repeat (refine Run.go rfl ?_)
      have hil := idxs_len p (l.take j)
      rw [List.length_take] at hil
      refine Run.cond rfl (fun h => ?_) (fun h => ?_)
      · repeat (refine Run.go rfl ?_)
        refine Run.buildSlice [i64 j] rfl rfl rfl rfl rfl rfl rfl rfl rfl rfl rfl rfl rfl rfl ?_
        refine Run.appendo rfl rfl rfl rfl rfl rfl rfl rfl rfl rfl rfl rfl rfl rfl (by show (_ + 1) * 8 ≤ _; simp; omega) (by simp [capMax]; omega) (by decide) rfl ?_
        repeat (refine Run.go rfl ?_)
        refine Run.of (IH (j + 1) (by omega) (by omega)) ⟨rfl, ?_, rfl, rfl, ?_, trivial⟩ trivial
        · rw [idxs_step hlt, if_pos h]
          show AV.own _ _ _ = AV.own _ _ _
          simp
        · show i64 _ = _
          rw [wrap_i64 (by omega) (by omega)]
          rfl
      · repeat (refine Run.go rfl ?_)
        refine Run.of (IH (j + 1) (by omega) (by omega)) ⟨rfl, ?_, rfl, rfl, ?_, trivial⟩ trivial
        · rw [idxs_step hlt, if_neg (by simp [h])]
          rfl
        · show i64 _ = _
          rw [wrap_i64 (by omega) (by omega)]
          rfl
    · have hj' : j = l.length := by simp at h; omega
      subst hj'
      rw [List.take_length]
      repeat (refine Run.go rfl ?_)
      refine Run.pack 4 rfl rfl rfl ?_
      exact Run.ret hg rfl rfl
theorem which0_ct (d : Dk) (e1 e2 : Bool) (f : Nat) (p : Cp → Bool) (hd : dkOk d) (hf : ∀ c ∈ d.cs, Ct Try.prog f [cpR e2 c] (bo (p c)) []) :
    Ct Try.prog 45 [dkR e1 e2 d, .fn f []] (.own 1 false ((idxs p d.cs).map i64)) [] := by
  obtain ⟨day, l⟩ := d
  obtain ⟨hb, hq⟩ := hd
  simp only at hb hq hf
  refine Ct.intro X45 X45_ok rfl rfl rfl rfl fun g hg => ?_
  repeat (refine Run.go rfl ?_)
  refine Run.nilSlot 5 1 false rfl ?_
  refine Run.loop (fun j : Nat => ⟨[(1, .fn f []), (5, .own 1 false ((idxs p (l.take j)).map i64)), (9, .ro 5 e1 (l.map (cpR e2))), (10, i64 l.length), (11, i64 j)], []⟩) (fun j => j ≤ l.length) (fun j => l.length - j) 0 (by omega) ?_ ?_
  · refine St.Le.mk' ⟨rfl, rfl, rfl, ?_, rfl, trivial⟩ trivial
    show i64 _ = _
    simp
  · intro j hj IH
    repeat (refine Run.go rfl ?_)
    refine Run.cond rfl (fun h => ?_) (fun h => ?_)
    · have hlt : j < l.length := by simpa using h
      repeat (refine Run.go rfl ?_)
      refine Run.val rfl rfl rfl (ValOk.idx (cpR e2 l[j]) rfl rfl rfl rfl rfl (by omega) (by simp [hlt])) rfl ?_
      repeat (refine Run.go rfl ?_)
      refine Run.cs rfl (hf l[j] (by simp)) rfl rfl ?_
      repeat (refine Run.go rfl ?_)
      have hil := idxs_len p (l.take j)
      rw [List.length_take] at hil
      refine Run.cond rfl (fun h => ?_) (fun h => ?_)
      · repeat (refine Run.go rfl ?_)
        refine Run.buildSlice [i64 j] rfl rfl rfl rfl rfl rfl rfl rfl rfl rfl rfl rfl rfl rfl ?_
        refine Run.appendo rfl rfl rfl rfl rfl rfl rfl rfl rfl rfl rfl rfl rfl rfl (by show (_ + 1) * 8 ≤ _; simp; omega) (by simp [capMax]; omega) (by decide) rfl ?_
        repeat (refine Run.go rfl ?_)
        refine Run.of (IH (j + 1) (by omega) (by omega)) ⟨rfl, ?_, rfl, rfl, ?_, trivial⟩ trivial
        · rw [idxs_step hlt, if_pos h]
          show AV.own _ _ _ = AV.own _ _ _
          simp
        · show i64 _ = _
          rw [wrap_i64 (by omega) (by omega)]
          rfl
      · repeat (refine Run.go rfl ?_)
        refine Run.of (IH (j + 1) (by omega) (by omega)) ⟨rfl, ?_, rfl, rfl, ?_, trivial⟩ trivial
        · rw [idxs_step hlt, if_neg (by simp [h])]
          rfl
        · show i64 _ = _
          rw [wrap_i64 (by omega) (by omega)]
          rfl
    · have hj' : j = l.length := by simp at h; omega
      subst hj'
      rw [List.take_length]
      repeat (refine Run.go rfl ?_)
      refine Run.pack 4 rfl rfl rfl ?_
      exact Run.ret hg rfl rfl

noncomputable def X38 : Fx := ⟨Try.prog, tys, 38, Try.f38, [0, 1]⟩
theorem X38_ok : X38.Ok := ⟨Try.func38, tys_ok⟩
theorem loans_ct (d : Dk) (e1 e2 : Bool) (w : Int) (hd : dkOk d) : Ct Try.prog 38 [dkR e1 e2 d, i8 w] (.own 1 false ((idxs (fun c : Cp => decide (c.st = 1) && decide (c.who = w)) d.cs).map i64)) [] := by
  refine Ct.intro X38 X38_ok rfl rfl rfl rfl fun g hg => ?_
  repeat (refine Run.go rfl ?_)
  refine Run.cs rfl (which_ct d e1 e2 77 [i8 w] 0 _ hd (fun c _ => loans1_ct c e2 w)) rfl (rf64 _) ?_
  repeat (refine Run.go rfl ?_)
  exact Run.ret hg rfl rfl
end Go.Proofs.Ytlccbfdeonmljaa

/- Contracts of the program's functions, and what follows from them. -/
set_option maxRecDepth 100000
namespace Go.Proofs.Ytlccbfdeonmljaa
open Go Go.Av

/-! A valid copy. -/

def qOk (who : Int) (q : List Int) : Bool := decide (∀ x ∈ q, inr x 0 49 = true) && decide ((who :: q).Nodup)
def vC (c : Cp) (day : Int) : Bool :=
  if c.st = 0 then decide (c.who = 0) && decide (c.due = 0) && decide (c.ren = 0) && decide (c.q = [])
  else (decide (c.st = 1) || decide (c.st = 2)) && inr c.who 0 49 && inr c.due 0 10028 && decide (c.q.length ≤ 4) && qOk c.who c.q &&
    (if c.st = 2 then decide (c.ren = 0) && decide (day ≤ c.due) else inr c.ren 0 2)

def seenL (l : List Int) : List (Int × Value) := l.map fun x => (x, .bool true)
theorem mget_seen (l : List Int) (n : Int) : (mget (seenL l) n).getD (.bool false) = .bool (decide (n ∈ l)) := by
  unfold mget seenL
  induction l with
  | nil => rfl
  | cons x l ih =>
    simp only [List.map_cons, List.find?_cons]
    by_cases h : x = n
    · subst h; simp
    · have e : (x == n) = false := by simpa using h
      rw [e]
      rw [ih]
      congr 1
      simp [Ne.symm h]
theorem mget_seen_none {l : List Int} {n : Int} (h : n ∉ l) : mget (seenL l) n = none := by
  unfold mget seenL
  induction l with
  | nil => rfl
  | cons x l ih =>
    simp only [List.map_cons, List.find?_cons]
    have e : (x == n) = false := by simp; rintro rfl; exact h (by simp)
    rw [e]
    exact ih fun hm => h (List.mem_cons_of_mem _ hm)

theorem qOk_false {who : Int} {q : List Int} {j : Nat} (hj : j < q.length) (h : inr q[j] 0 49 = false ∨ q[j] ∈ who :: q.take j) : qOk who q = false := by
  unfold qOk
  rw [Bool.and_eq_false_iff]
  rcases h with h | h
  · left
    rw [decide_eq_false_iff_not]
    intro hall
    have := hall q[j] (by simp)
    rw [h] at this
    cases this
  · right
    rw [decide_eq_false_iff_not]
    intro hn
    have e : who :: q = (who :: q.take j) ++ q[j] :: q.drop (j + 1) := by
      rw [← List.drop_eq_getElem_cons hj, List.cons_append, List.take_append_drop]
    rw [e, List.nodup_append] at hn
    exact hn.2.2 q[j] h q[j] List.mem_cons_self rfl

noncomputable def X34 : Fx := ⟨Try.prog, tys, 34, Try.f34, [0, 1]⟩
theorem X34_ok : X34.Ok := ⟨Try.func34, tys_ok⟩
theorem isCopy_ct (c : Cp) (ex : Bool) (day : Int) (hlen : c.q.length ≤ 1048576) (hr : cpRng c) : Ct Try.prog 34 [cpR ex c, i16 day] (bo (vC c day)) [] := by
  obtain ⟨st, who, due, ren, q⟩ := c
  obtain ⟨r1, r2, r3, r4, r5⟩ := hr
  simp only at hlen r1 r2 r3 r4 r5
  refine Ct.intro X34 X34_ok rfl rfl rfl rfl fun g hg => ?_
  repeat (refine Run.go rfl ?_)
  refine Run.cond rfl (fun h => ?_) (fun h => ?_)
  · have h0 : st = 0 := by simpa using h
    subst h0
    repeat (refine Run.go rfl ?_)
    refine Run.bool 14 rfl (fun h1 => ?_) (fun h1 => ?_)
    · repeat (refine Run.go rfl ?_)
      refine Run.bool 19 rfl (fun h2 => ?_) (fun h2 => ?_)
      · repeat (refine Run.go rfl ?_)
        refine Run.bool 24 rfl (fun h3 => ?_) (fun h3 => ?_)
        · repeat (refine Run.go rfl ?_)
          refine Run.ret hg rfl ?_
          show bo _ = _
          simp at h1 h2 h3
          simp [vC, h1, h2, h3]
          cases q <;> simp <;> omega
        · repeat (refine Run.go rfl ?_)
          refine Run.ret hg rfl ?_
          show bo _ = _
          simp at h1 h2 h3
          simp [vC, h1, h2, h3]
      · repeat (refine Run.go rfl ?_)
        refine Run.ret hg rfl ?_
        show bo _ = _
        simp at h1 h2
        simp [vC, h1, h2]
    · repeat (refine Run.go rfl ?_)
      refine Run.ret hg rfl ?_
      show bo _ = _
      simp at h1
      simp [vC, h1]
  · have h0 : st ≠ 0 := by simpa using h
    repeat (refine Run.go rfl ?_)
    refine Run.makeMap (30, 0) .i8 rfl rfl rfl rfl rfl fun b => ?_
    repeat (refine Run.go rfl ?_)
    refine Run.mapNew (id := (30, 0)) rfl rfl rfl (.inr rfl) rfl rfl rfl rfl rfl rfl rfl rfl rfl ?_
    repeat (refine Run.go rfl ?_)
    refine Run.loop (fun j : Nat => ⟨[(1, i16 day), (2, .bp (2, 0) 0), (5, .lit (.map (some b))), (35, .ro 1 ex (q.map i8)), (36, i64 q.length), (37, i64 j)],
      [((2, 0), .box [i8 st, i8 who, i16 due, i8 ren, .ro 1 ex (q.map i8)]), ((30, 0), .mp b .i8 (seenL (who :: q.take j)))]⟩) (fun j => j ≤ q.length ∧ (∀ x ∈ q.take j, inr x 0 49 = true) ∧ (who :: q.take j).Nodup) (fun j => q.length - j) 0 ⟨by omega, by simp, by simp⟩ ?_ ?_
    · refine St.Le.mk' ⟨rfl, rfl, rfl, rfl, ?_, rfl, trivial⟩ ⟨rfl, rfl, trivial⟩
      show i64 _ = _
      simp
    · rintro j ⟨hj, hall, hnd⟩ IH
      repeat (refine Run.go rfl ?_)
      refine Run.cond rfl (fun h => ?_) (fun h => ?_)
      · have hlt : j < q.length := by simpa using h
        repeat (refine Run.go rfl ?_)
        refine Run.val rfl rfl rfl (ValOk.idx (i8 q[j]) rfl rfl rfl rfl rfl (by omega) (by simp [hlt])) rfl ?_
        repeat (refine Run.go rfl ?_)
        refine Run.cs rfl (isPerson8_ct q[j] (r5 _ (by simp))) rfl rfl ?_
        repeat (refine Run.go rfl ?_)
        refine Run.bool 44 rfl (fun hp => ?_) (fun hp => ?_)
        · repeat (refine Run.go rfl ?_)
          refine Run.cond rfl (fun _ => ?_) (fun h => by simp at h)
          repeat (refine Run.go rfl ?_)
          refine Run.ret hg rfl ?_
          show bo _ = _
          have := qOk_false (who := who) hlt (.inl (by simpa using hp))
          simp [vC, h0, this]
        · repeat (refine Run.go rfl ?_)
          refine Run.val rfl rfl rfl (ValOk.lookup (id := (30, 0)) (z := .bool false) rfl rfl rfl rfl rfl (by kernel_rfl) rfl rfl rfl) rfl ?_
          rw [mget_seen]
          repeat (refine Run.go rfl ?_)
          refine Run.cond rfl (fun h2 => ?_) (fun h2 => ?_)
          · repeat (refine Run.go rfl ?_)
            refine Run.ret hg rfl ?_
            show bo _ = _
            have := qOk_false (who := who) hlt (.inr (by simpa using h2))
            simp [vC, h0, this]
          · have hni : q[j] ∉ who :: q.take j := by simpa using h2
            repeat (refine Run.go rfl ?_)
            refine Run.mapNew (id := (30, 0)) rfl rfl rfl (.inl rfl) rfl rfl rfl rfl rfl rfl rfl rfl (mget_seen_none hni) ?_
            repeat (refine Run.go rfl ?_)
            refine Run.of (IH (j + 1) ⟨by omega, ?_, ?_⟩ (by omega)) ⟨rfl, rfl, rfl, rfl, rfl, ?_, trivial⟩ ⟨rfl, ?_, trivial⟩
            · rw [List.take_succ_eq_append_getElem hlt]
              intro x hx
              rcases List.mem_append.1 hx with hx | hx
              · exact hall x hx
              · rw [List.mem_singleton.1 hx]; simpa using hp
            · rw [List.take_succ_eq_append_getElem hlt, ← List.cons_append, List.nodup_append]
              refine ⟨hnd, by simp, fun x hx y hy e => ?_⟩
              rw [List.mem_singleton.1 hy] at e
              rw [e] at hx
              exact hni hx
            · show i64 _ = _
              rw [wrap_i64 (by omega) (by omega)]
              rfl
            · show Ob.mp _ _ _ = _
              rw [List.take_succ_eq_append_getElem hlt]
              simp only [seenL, List.map_cons, List.map_append, List.map_nil, List.cons_append]
      · have hj' : j = q.length := by simp at h; omega
        subst hj'
        rw [List.take_length] at hall hnd
        have hqo : qOk who q = true := by simp [qOk, hnd]; exact hall
        repeat (refine Run.go rfl ?_)
        refine Run.cs rfl (isPerson8_ct who r2) rfl rfl ?_
        repeat (refine Run.go rfl ?_)
        refine Run.bool 56 rfl (fun h1 => ?_) (fun h1 => ?_)
        · repeat (refine Run.go rfl ?_)
          refine Run.cond rfl (fun _ => ?_) (fun h => by simp at h)
          repeat (refine Run.go rfl ?_)
          refine Run.ret hg rfl ?_
          show bo _ = _
          simp at h1
          simp [vC, h0, h1]
        have h1 : inr who 0 49 = true := by simpa using h1
        repeat (refine Run.go rfl ?_)
        refine Run.cs rfl (within16_ct due 0 10028) rfl rfl ?_
        repeat (refine Run.go rfl ?_)
        refine Run.bool 62 rfl (fun h2 => ?_) (fun h2 => ?_)
        · repeat (refine Run.go rfl ?_)
          refine Run.cond rfl (fun _ => ?_) (fun h => by simp at h)
          repeat (refine Run.go rfl ?_)
          refine Run.ret hg rfl ?_
          show bo _ = _
          simp at h2
          simp [vC, h0, h2]
        have h2 : inr due 0 10028 = true := by simpa using h2
        repeat (refine Run.go rfl ?_)
        refine Run.cond rfl (fun h3 => ?_) (fun h3 => ?_)
        · repeat (refine Run.go rfl ?_)
          refine Run.ret hg rfl ?_
          show bo _ = _
          have : ¬ q.length ≤ 4 := by simp at h3; omega
          simp [vC, h0, this]
        have h3 : q.length ≤ 4 := by simp at h3; omega
        repeat (refine Run.go rfl ?_)
        have base : vC ⟨st, who, due, ren, q⟩ day = ((decide (st = 1) || decide (st = 2)) && (if st = 2 then decide (ren = 0) && decide (day ≤ due) else inr ren 0 2)) := by
          simp [vC, h0, h1, h2, h3, hqo]
        refine Run.bool 71 rfl (fun h4 => ?_) (fun h4 => ?_)
        · have h4 : st = 1 := by simpa using h4
          repeat (refine Run.go rfl ?_)
          refine Run.cs rfl (within8_ct ren 0 2) rfl rfl ?_
          repeat (refine Run.go rfl ?_)
          refine Run.bool 76 rfl (fun h5 => ?_) (fun h5 => ?_)
          · repeat (refine Run.go rfl ?_)
            refine Run.ret hg rfl ?_
            rw [base]
            show bo _ = _
            subst h4
            simp [h5]
          · subst h4
            repeat (refine Run.go rfl ?_)
            refine Run.ret hg rfl ?_
            rw [base]
            show bo _ = _
            simp [h5]
        · have h4 : st ≠ 1 := by simpa using h4
          repeat (refine Run.go rfl ?_)
          refine Run.bool 80 rfl (fun h6 => ?_) (fun h6 => ?_)
          · have h6 : st = 2 := by simpa using h6
            subst h6
            repeat (refine Run.go rfl ?_)
            refine Run.bool 85 rfl (fun h7 => ?_) (fun h7 => ?_)
            · repeat (refine Run.go rfl ?_)
              refine Run.ret hg rfl ?_
              rw [base]
              show bo _ = _
              simp at h7
              simp [h7]
            · repeat (refine Run.go rfl ?_)
              refine Run.ret hg rfl ?_
              rw [base]
              show bo _ = _
              simp at h7
              simp [h7]
          · have h6 : st ≠ 2 := by simpa using h6
            repeat (refine Run.go rfl ?_)
            refine Run.ret hg rfl ?_
            rw [base]
            show bo _ = _
            simp [h4, h6]
end Go.Proofs.Ytlccbfdeonmljaa

/- Contracts of the program's functions, and what follows from them. -/
set_option maxRecDepth 100000
namespace Go.Proofs.Ytlccbfdeonmljaa
open Go Go.Av

/-! Valid desks, in the program. -/

noncomputable def X96 : Fx := ⟨Try.prog, tys, 96, Try.f96, [0, 1]⟩
theorem X96_ok : X96.Ok := ⟨Try.func96, tys_ok⟩
theorem indexC_ct (l : List Cp) (ex e2 : Bool) (f : Nat) (caps : List AV) (p : Cp → Bool) (hlen : l.length ≤ 1048576) (hc : AV.freeL caps = true)
    (hf : ∀ x ∈ l, Ct Try.prog f ([cpR e2 x] ++ caps) (bo (p x)) []) : Ct Try.prog 96 [.ro 5 ex (l.map (cpR e2)), .fn f caps] (i64 (fi p l)) [] := by
  refine Ct.intro X96 X96_ok rfl (by kernel_rfl) rfl rfl fun g hg => ?_
  repeat (refine Run.step rfl ?_)
  refine Run.loop (fun j : Nat => ⟨[(0, .ro 5 ex (l.map (cpR e2))), (1, .fn f caps), (7, i64 l.length), (8, i64 j)], []⟩) (fun j => j ≤ l.length ∧ j ≤ l.findIdx p) (fun j => l.length - j) 0 ⟨by omega, by omega⟩ ?_ ?_
  · refine St.Le.mk' ⟨rfl, rfl, ?_, rfl, trivial⟩ trivial
    show i64 _ = _
    simp
  · rintro j ⟨hj1, hj2⟩ IH
    repeat (refine Run.step rfl ?_)
    refine Run.cond rfl (fun h => ?_) (fun h => ?_)
    · have hlt : j < l.length := by simpa using h
      repeat (refine Run.step rfl ?_)
      refine Run.val rfl rfl rfl (ValOk.idx (cpR e2 l[j]) rfl rfl rfl rfl rfl (by omega) (by simp [hlt])) rfl ?_
      repeat (refine Run.step rfl ?_)
      refine Run.callp rfl rfl rfl rfl rfl rfl rfl hc rfl (hf l[j] (by simp)) (by decide) (by decide) ?_
      repeat (refine Run.step rfl ?_)
      refine Run.cond rfl (fun h => ?_) (fun h => ?_)
      · repeat (refine Run.step rfl ?_)
        refine Run.ret hg rfl ?_
        show i64 _ = _
        rw [fi_at hlt h hj2]
      · repeat (refine Run.step rfl ?_)
        refine Run.of (IH (j + 1) ⟨by omega, fi_next hlt h hj2⟩ (by omega)) ⟨rfl, rfl, rfl, ?_, trivial⟩ trivial
        show i64 _ = _
        rw [wrap_i64 (by omega) (by omega)]
        rfl
    · repeat (refine Run.step rfl ?_)
      have hj : j = l.length := by simp at h; omega
      refine Run.ret hg rfl ?_
      show i64 (-1) = _
      rw [fi_none (by omega)]

noncomputable def X71 : Fx := ⟨Try.prog, tys, 71, Try.f71, [0, 1]⟩
theorem X71_ok : X71.Ok := ⟨Try.func71, tys_ok⟩
theorem containsC_ct (l : List Cp) (ex e2 : Bool) (f : Nat) (caps : List AV) (p : Cp → Bool) (hlen : l.length ≤ 1048576) (hc : AV.freeL caps = true)
    (hf : ∀ x ∈ l, Ct Try.prog f ([cpR e2 x] ++ caps) (bo (p x)) []) : Ct Try.prog 71 [.ro 5 ex (l.map (cpR e2)), .fn f caps] (bo (l.any p)) [] := by
  refine Ct.intro X71 X71_ok rfl (by kernel_rfl) rfl rfl fun g hg => ?_
  repeat (refine Run.go rfl ?_)
  refine Run.callp rfl rfl rfl rfl rfl rfl (by simp [AV.freeL, AV.free, hc]) rfl rfl (indexC_ct l ex e2 f caps p hlen hc hf) (by decide) (by decide) ?_
  repeat (refine Run.go rfl ?_)
  refine Run.ret hg rfl ?_
  show bo _ = _
  rw [← fi_nonneg]

noncomputable def X72 : Fx := ⟨Try.prog, tys, 72, Try.f72, [0, 1]⟩
theorem X72_ok : X72.Ok := ⟨Try.func72, tys_ok⟩
theorem areAllC1_ct (c : Cp) (e2 : Bool) (f : Nat) (cs : List AV) (jj : Nat) (p : Bool) (hf : Ct Try.prog f [cpR e2 c, .rp cs jj] (bo p) []) : Ct Try.prog 72 [cpR e2 c, .rp [.fn f [.rp cs jj]] 0] (bo (!p)) [] := by
  refine Ct.intro X72 X72_ok rfl (by kernel_rfl) rfl rfl fun g hg => ?_
  repeat (refine Run.go rfl ?_)
  refine Run.cs rfl hf rfl rfl ?_
  repeat (refine Run.go rfl ?_)
  exact Run.ret hg rfl rfl

noncomputable def X32 : Fx := ⟨Try.prog, tys, 32, Try.f32, [0, 1]⟩
theorem X32_ok : X32.Ok := ⟨Try.func32, tys_ok⟩
theorem areAllC_ct (l : List Cp) (ex e2 : Bool) (f : Nat) (cs : List AV) (jj : Nat) (p : Cp → Bool) (hlen : l.length ≤ 1048576) (hf : ∀ x ∈ l, Ct Try.prog f [cpR e2 x, .rp cs jj] (bo (p x)) []) :
    Ct Try.prog 32 [.ro 5 ex (l.map (cpR e2)), .fn f [.rp cs jj]] (bo (l.all p)) [] := by
  refine Ct.intro X32 X32_ok rfl (by kernel_rfl) rfl rfl fun g hg => ?_
  repeat (refine Run.go rfl ?_)
  refine Run.cs rfl (containsC_ct l ex e2 72 [.rp [.fn f [.rp cs jj]] 0] (fun x => !p x) hlen rfl (fun x hx => areAllC1_ct x e2 f cs jj (p x) (hf x hx))) rfl rfl ?_
  repeat (refine Run.go rfl ?_)
  refine Run.ret hg rfl ?_
  show bo (!l.any fun x => !p x) = _
  congr 2
  simp [List.all_eq_not_any_not]

noncomputable def X97 : Fx := ⟨Try.prog, tys, 97, Try.f97, [0, 1]⟩
theorem X97_ok : X97.Ok := ⟨Try.func97, tys_ok⟩
theorem indexI_ct (l : List Int) (ex : Bool) (f : Nat) (caps : List AV) (p : Int → Bool) (hlen : l.length ≤ 1048576) (hc : AV.freeL caps = true)
    (hf : ∀ x ∈ l, Ct Try.prog f ([i64 x] ++ caps) (bo (p x)) []) : Ct Try.prog 97 [.ro 1 ex (l.map i64), .fn f caps] (i64 (fi p l)) [] := by
  refine Ct.intro X97 X97_ok rfl (by kernel_rfl) rfl rfl fun g hg => ?_
  repeat (refine Run.step rfl ?_)
  refine Run.loop (fun j : Nat => ⟨[(0, .ro 1 ex (l.map i64)), (1, .fn f caps), (7, i64 l.length), (8, i64 j)], []⟩) (fun j => j ≤ l.length ∧ j ≤ l.findIdx p) (fun j => l.length - j) 0 ⟨by omega, by omega⟩ ?_ ?_
  · refine St.Le.mk' ⟨rfl, rfl, ?_, rfl, trivial⟩ trivial
    show i64 _ = _
    simp
  · rintro j ⟨hj1, hj2⟩ IH
    repeat (refine Run.step rfl ?_)
    refine Run.cond rfl (fun h => ?_) (fun h => ?_)
    · have hlt : j < l.length := by simpa using h
      repeat (refine Run.step rfl ?_)
      refine Run.val rfl rfl rfl (ValOk.idx (i64 l[j]) rfl rfl rfl rfl rfl (by omega) (by simp [hlt])) rfl ?_
      repeat (refine Run.step rfl ?_)
      refine Run.callp rfl rfl rfl rfl rfl rfl rfl hc rfl (hf l[j] (by simp)) (by decide) (by decide) ?_
      repeat (refine Run.step rfl ?_)
      refine Run.cond rfl (fun h => ?_) (fun h => ?_)
      · repeat (refine Run.step rfl ?_)
        refine Run.ret hg rfl ?_
        show i64 _ = _
        rw [fi_at hlt h hj2]
      · repeat (refine Run.step rfl ?_)
        refine Run.of (IH (j + 1) ⟨by omega, fi_next hlt h hj2⟩ (by omega)) ⟨rfl, rfl, rfl, ?_, trivial⟩ trivial
        show i64 _ = _
        rw [wrap_i64 (by omega) (by omega)]
        rfl
    · repeat (refine Run.step rfl ?_)
      have hj : j = l.length := by simp at h; omega
      refine Run.ret hg rfl ?_
      show i64 (-1) = _
      rw [fi_none (by omega)]

noncomputable def X75 : Fx := ⟨Try.prog, tys, 75, Try.f75, [0, 1]⟩
theorem X75_ok : X75.Ok := ⟨Try.func75, tys_ok⟩
theorem containsI_ct (l : List Int) (ex : Bool) (f : Nat) (caps : List AV) (p : Int → Bool) (hlen : l.length ≤ 1048576) (hc : AV.freeL caps = true)
    (hf : ∀ x ∈ l, Ct Try.prog f ([i64 x] ++ caps) (bo (p x)) []) : Ct Try.prog 75 [.ro 1 ex (l.map i64), .fn f caps] (bo (l.any p)) [] := by
  refine Ct.intro X75 X75_ok rfl (by kernel_rfl) rfl rfl fun g hg => ?_
  repeat (refine Run.go rfl ?_)
  refine Run.callp rfl rfl rfl rfl rfl rfl (by simp [AV.freeL, AV.free, hc]) rfl rfl (indexI_ct l ex f caps p hlen hc hf) (by decide) (by decide) ?_
  repeat (refine Run.go rfl ?_)
  refine Run.ret hg rfl ?_
  show bo _ = _
  rw [← fi_nonneg]

noncomputable def X76 : Fx := ⟨Try.prog, tys, 76, Try.f76, [0, 1]⟩
theorem X76_ok : X76.Ok := ⟨Try.func76, tys_ok⟩
theorem areAllI1_ct (a : Int) (f : Nat) (cs : List AV) (jj : Nat) (p : Bool) (hf : Ct Try.prog f [i64 a, .rp cs jj] (bo p) []) : Ct Try.prog 76 [i64 a, .rp [.fn f [.rp cs jj]] 0] (bo (!p)) [] := by
  refine Ct.intro X76 X76_ok rfl (by kernel_rfl) rfl rfl fun g hg => ?_
  repeat (refine Run.go rfl ?_)
  refine Run.cs rfl hf rfl rfl ?_
  repeat (refine Run.go rfl ?_)
  exact Run.ret hg rfl rfl

noncomputable def X35 : Fx := ⟨Try.prog, tys, 35, Try.f35, [0, 1]⟩
theorem X35_ok : X35.Ok := ⟨Try.func35, tys_ok⟩
theorem areAllI_ct (l : List Int) (ex : Bool) (f : Nat) (cs : List AV) (jj : Nat) (p : Int → Bool) (hlen : l.length ≤ 1048576) (hf : ∀ x ∈ l, Ct Try.prog f [i64 x, .rp cs jj] (bo (p x)) []) :
    Ct Try.prog 35 [.ro 1 ex (l.map i64), .fn f [.rp cs jj]] (bo (l.all p)) [] := by
  refine Ct.intro X35 X35_ok rfl (by kernel_rfl) rfl rfl fun g hg => ?_
  repeat (refine Run.go rfl ?_)
  refine Run.cs rfl (containsI_ct l ex 76 [.rp [.fn f [.rp cs jj]] 0] (fun x => !p x) hlen rfl (fun x hx => areAllI1_ct x f cs jj (p x) (hf x hx))) rfl rfl ?_
  repeat (refine Run.go rfl ?_)
  refine Run.ret hg rfl ?_
  show bo (!l.any fun x => !p x) = _
  congr 2
  simp [List.all_eq_not_any_not]

def nums (n : Nat) : List Int := (List.range n).map fun k : Nat => (k : Int)

noncomputable def X36 : Fx := ⟨Try.prog, tys, 36, Try.f36, [0]⟩
theorem X36_ok : X36.Ok := ⟨Try.func36, tys_ok⟩
theorem upTo_ct (n : Nat) (hn : n ≤ 1048576) : Ct Try.prog 36 [i64 n] (.own 1 false ((nums n).map i64)) [] := by
  refine Ct.intro X36 X36_ok rfl rfl rfl rfl fun g hg => ?_
  repeat (refine Run.go rfl ?_)
  refine Run.nilSlot 3 1 false rfl ?_
  refine Run.loop (fun j : Nat => ⟨[(3, .own 1 false ((nums j).map i64)), (5, i64 n), (6, i64 j)], []⟩) (fun j => j ≤ n) (fun j => n - j) 0 (by omega) ?_ ?_
  · exact St.Le.mk' ⟨rfl, rfl, rfl, trivial⟩ trivial
  · intro j hj IH
    repeat (refine Run.go rfl ?_)
    refine Run.cond rfl (fun h => ?_) (fun h => ?_)
    · have hlt : j < n := by simpa using h
      repeat (refine Run.go rfl ?_)
      refine Run.buildSlice [i64 j] rfl rfl rfl rfl rfl rfl rfl rfl rfl rfl rfl rfl rfl rfl ?_
      refine Run.appendo rfl rfl rfl rfl rfl rfl rfl rfl rfl rfl rfl rfl rfl rfl (by show (_ + 1) * 8 ≤ _; simp [nums]; omega) (by simp [capMax, nums]; omega) (by decide) rfl ?_
      repeat (refine Run.go rfl ?_)
      refine Run.of (IH (j + 1) (by omega) (by omega)) ⟨?_, rfl, ?_, trivial⟩ trivial
      · show AV.own _ _ _ = AV.own _ _ _
        simp [nums, List.range_succ]
      · show i64 _ = _
        rw [wrap_i64 (by omega) (by omega)]
        rfl
    · have hj' : j = n := by simp at h; omega
      subst hj'
      repeat (refine Run.go rfl ?_)
      refine Run.pack 2 rfl rfl rfl ?_
      exact Run.ret hg rfl rfl

def lentTo (w : Int) (c : Cp) : Bool := decide (c.st = 1) && decide (c.who = w)
def vD (d : Dk) : Bool := inr d.day 0 10000 && decide (d.cs.length ≤ 60) && d.cs.all (fun c => vC c d.day) && (nums 50).all fun w => decide ((idxs (lentTo w) d.cs).length ≤ 3)

noncomputable def X33 : Fx := ⟨Try.prog, tys, 33, Try.f33, [0, 1]⟩
theorem X33_ok : X33.Ok := ⟨Try.func33, tys_ok⟩
theorem validDesk1_ct (c : Cp) (d : Dk) (e1 e2 e3 : Bool) (hlen : c.q.length ≤ 1048576) (hr : cpRng c) : Ct Try.prog 33 [cpR e3 c, .rp (dkR e1 e2 d).cells 0] (bo (vC c d.day)) [] := by
  refine Ct.intro X33 X33_ok rfl rfl rfl rfl fun g hg => ?_
  repeat (refine Run.go rfl ?_)
  refine Run.cs rfl (isCopy_ct c e3 d.day hlen hr) rfl rfl ?_
  repeat (refine Run.go rfl ?_)
  exact Run.ret hg rfl rfl

noncomputable def X37 : Fx := ⟨Try.prog, tys, 37, Try.f37, [0, 1]⟩
theorem X37_ok : X37.Ok := ⟨Try.func37, tys_ok⟩
theorem validDesk2_ct (w : Int) (d : Dk) (e1 e2 : Bool) (hd : dkOk d) (hw : 0 ≤ w ∧ w < 50) : Ct Try.prog 37 [i64 w, .rp (dkR e1 e2 d).cells 0] (bo (decide ((idxs (lentTo w) d.cs).length ≤ 3))) [] := by
  refine Ct.intro X37 X37_ok rfl rfl rfl rfl fun g hg => ?_
  have e : IntKind.i8.wrap w = w := wrap_i8 (by omega) (by omega)
  repeat (refine Run.go rfl ?_)
  rw [e]
  refine Run.cs rfl (loans_ct d e1 e2 w hd) rfl (rf64 _) ?_
  refine Run.unpack 7 rfl rfl ?_
  repeat (refine Run.go rfl ?_)
  refine Run.ret hg rfl ?_
  show bo _ = _
  have e2 : lentTo w = fun c : Cp => decide (c.st = 1) && decide (c.who = w) := rfl
  rw [e2]
  simp
  omega

noncomputable def X7 : Fx := ⟨Try.prog, tys, 7, Try.f7, [0]⟩
theorem X7_ok : X7.Ok := ⟨Try.func7, tys_ok⟩
theorem implValidDesk_ct (d : Dk) (e1 e2 : Bool) (hd : dkOk d) (hr : dkRng d) : Ct Try.prog 7 [dkR e1 e2 d] (bo (vD d)) [] := by
  refine Ct.intro X7 X7_ok rfl rfl rfl rfl fun g hg => ?_
  repeat (refine Run.go rfl ?_)
  refine Run.cs rfl (within16_ct d.day 0 10000) rfl rfl ?_
  repeat (refine Run.go rfl ?_)
  refine Run.bool 7 rfl (fun h => ?_) (fun h1 => ?_)
  · repeat (refine Run.go rfl ?_)
    refine Run.cond rfl (fun _ => ?_) (fun h => by simp at h)
    repeat (refine Run.go rfl ?_)
    refine Run.ret hg rfl ?_
    show bo _ = _
    simp at h
    simp [vD, h]
  have h1 : inr d.day 0 10000 = true := by simpa using h1
  repeat (refine Run.go rfl ?_)
  refine Run.bool 13 rfl (fun h => ?_) (fun h2 => ?_)
  · repeat (refine Run.go rfl ?_)
    refine Run.cond rfl (fun _ => ?_) (fun h => by simp at h)
    repeat (refine Run.go rfl ?_)
    refine Run.ret hg rfl ?_
    show bo _ = _
    have : ¬ d.cs.length ≤ 60 := by simp at h; omega
    simp [vD, this]
  have h2 : d.cs.length ≤ 60 := by simp at h2; omega
  repeat (refine Run.go rfl ?_)
  refine Run.cs rfl (areAllC_ct d.cs e1 e2 33 (dkR e1 e2 d).cells 0 (fun c => vC c d.day) hd.1 (fun c hc => validDesk1_ct c d e1 e2 e2 (hd.2 c hc) (hr.2 c hc))) rfl rfl ?_
  repeat (refine Run.go rfl ?_)
  refine Run.cond rfl (fun h => ?_) (fun h3 => ?_)
  · repeat (refine Run.go rfl ?_)
    refine Run.ret hg rfl ?_
    show bo _ = _
    have h : d.cs.all (fun c => vC c d.day) = false := by simpa using h
    simp only [vD, h, Bool.and_false, Bool.false_and]
  have h3 : d.cs.all (fun c => vC c d.day) = true := by simpa using h3
  repeat (refine Run.go rfl ?_)
  refine Run.cs rfl (upTo_ct 50 (by omega)) rfl (rf64 _) ?_
  repeat (refine Run.go rfl ?_)
  refine Run.cs rfl (areAllI_ct (nums 50) false 37 (dkR e1 e2 d).cells 0 (fun w => decide ((idxs (lentTo w) d.cs).length ≤ 3)) (by simp [nums]) (fun w hw => validDesk2_ct w d e1 e2 hd (by simp [nums] at hw; omega))) (by rw [frz64]; rfl) rfl ?_
  repeat (refine Run.go rfl ?_)
  refine Run.ret hg rfl ?_
  show bo _ = _
  simp only [vD, h1, h2, h3, decide_true, Bool.true_and]
end Go.Proofs.Ytlccbfdeonmljaa

/- Contracts of the program's functions, and what follows from them. -/
set_option maxRecDepth 100000
namespace Go.Proofs.Ytlccbfdeonmljaa
open Go Go.Av

/-! Valid desks, in the reference. -/

theorem w64 {n : Int} (h : i16r n) : IntKind.i64.wrap n = n := wrap_i64 (by have := h.1; omega) (by have := h.2; omega)
theorem w64' {n : Int} (h : i8r n) : IntKind.i64.wrap n = n := wrap_i64 (by have := h.1; omega) (by have := h.2; omega)

/-- The reference's word for a queue. -/
theorem fi_first {q : List Int} {j : Nat} (hj : j < q.length) : fi (fun x => x == q[j]) q = j ↔ q[j] ∉ q.take j := by
  unfold fi
  have hlt : q.findIdx (fun x => x == q[j]) < q.length := List.findIdx_lt_length_of_exists ⟨q[j], by simp, by simp⟩
  rw [if_pos hlt]
  constructor
  · intro h hm
    have h' : q.findIdx (fun x => x == q[j]) = j := by omega
    obtain ⟨i, hi, e⟩ := List.getElem_of_mem hm
    have hi' : i < j := by simp at hi; omega
    have := List.not_of_lt_findIdx (p := fun x => x == q[j]) (xs := q) (i := i) (by omega)
    simp at this
    apply this
    simpa using e
  · intro hn
    have hle : q.findIdx (fun x => x == q[j]) ≤ j := by
      refine Nat.le_of_not_lt fun hgt => ?_
      have := List.not_of_lt_findIdx (p := fun x => x == q[j]) (xs := q) (i := j) hgt
      simp at this
    have hat := List.findIdx_getElem (p := fun x => x == q[j]) (xs := q) (w := hlt)
    have hge : ¬ q.findIdx (fun x => x == q[j]) < j := by
      intro hl
      apply hn
      have e : q[q.findIdx (fun x => x == q[j])] = q[j] := by simpa using hat
      rw [← e]
      exact List.mem_take_iff_getElem.2 ⟨_, by omega, rfl⟩
    omega

noncomputable def X85 : Fx := ⟨Try.prog, tys, 85, Try.f85, [0, 1]⟩
theorem X85_ok : X85.Ok := ⟨Try.func85, tys_ok⟩
theorem l06Copy_ct (c : Cp) (ex : Bool) (day : Int) (hlen : c.q.length ≤ 1048576) (hr : cpRng c) : Ct Try.prog 85 [.rp (cpR ex c).cells 0, i16 day] (bo (vC c day)) [] := by
  obtain ⟨st, who, due, ren, q⟩ := c
  obtain ⟨r1, r2, r3, r4, r5⟩ := hr
  simp only at hlen r1 r2 r3 r4 r5
  refine Ct.intro X85 X85_ok rfl rfl rfl rfl fun g hg => ?_
  repeat (refine Run.go rfl ?_)
  refine Run.cond rfl (fun h => ?_) (fun h => ?_)
  · have h0 : st = 0 := by simpa using h
    subst h0
    repeat (refine Run.go rfl ?_)
    refine Run.bool 16 rfl (fun h1 => ?_) (fun h1 => ?_)
    · repeat (refine Run.go rfl ?_)
      refine Run.bool 23 rfl (fun h2 => ?_) (fun h2 => ?_)
      · repeat (refine Run.go rfl ?_)
        refine Run.bool 30 rfl (fun h3 => ?_) (fun h3 => ?_)
        · repeat (refine Run.go rfl ?_)
          refine Run.ret hg rfl ?_
          show bo _ = _
          simp at h1 h2 h3
          simp [vC, h1, h2, h3]
          cases q <;> simp <;> omega
        · repeat (refine Run.go rfl ?_)
          refine Run.ret hg rfl ?_
          show bo _ = _
          simp at h1 h2 h3
          simp [vC, h1, h2, h3]
      · repeat (refine Run.go rfl ?_)
        refine Run.ret hg rfl ?_
        show bo _ = _
        simp at h1 h2
        simp [vC, h1, h2]
    · repeat (refine Run.go rfl ?_)
      refine Run.ret hg rfl ?_
      show bo _ = _
      simp at h1
      simp [vC, h1]
  · have h0 : st ≠ 0 := by simpa using h
    refine Run.go rfl ?_
    refine Run.go rfl ?_
    refine Run.go rfl ?_
    refine Run.region ⟨[(0, .rp (cpR ex ⟨st, who, due, ren, q⟩).cells 0), (1, i16 day), (49, bo (decide (st ≠ 1) && decide (st ≠ 2)))], []⟩ ?_ fun _ hN => ?_
    rotate_left
    · repeat (refine Run.go rfl ?_)
      refine Run.bool 43 rfl (fun hA => ?_) (fun hA => ?_)
      · repeat (refine Run.go rfl ?_)
        refine Run.of hN ⟨rfl, rfl, ?_, trivial⟩ trivial
        show bo _ = bo _
        have hA : st ≠ 1 := by simpa using hA
        simp [hA]
        rfl
      · repeat (refine Run.go rfl ?_)
        refine Run.of hN ⟨rfl, rfl, ?_, trivial⟩ trivial
        show bo _ = bo _
        have hA : st = 1 := by simpa using hA
        simp [hA]
    refine Run.cond rfl (fun hA => ?_) (fun hA => ?_)
    · repeat (refine Run.go rfl ?_)
      refine Run.ret hg rfl ?_
      show bo _ = _
      simp at hA
      simp [vC, h0, hA]
    have hst : st = 1 ∨ st = 2 := by simp at hA; omega
    repeat (refine Run.go rfl ?_)
    have ew := w64' r2
    have ed := w64 r3
    refine Run.drawS ⟨[(0, .rp (cpR ex ⟨st, who, due, ren, q⟩).cells 0), (1, i16 day), (86, bo (!(inr who 0 49 && inr due 0 10028 && decide (q.length ≤ 4) && !decide (who ∈ q))))], []⟩ (by kernel_rfl) (by decide +kernel) ?_ ?_
    · repeat (refine Quiet.go rfl ?_)
      rw [ew]
      refine Quiet.cs rfl rfl rfl rfl rfl (l06Person_ct who) rfl rfl ?_
      repeat (refine Quiet.go rfl ?_)
      refine Quiet.bool 57 rfl (fun h1 => ?_) (fun h1 => ?_)
      · repeat (refine Quiet.go rfl ?_)
        refine Quiet.nil (St.Le.mk' ⟨rfl, rfl, ?_, trivial⟩ trivial)
        show bo _ = bo _
        simp at h1
        simp [h1]
      have h1 : inr who 0 49 = true := by simpa using h1
      repeat (refine Quiet.go rfl ?_)
      rw [ed]
      refine Quiet.cs rfl rfl rfl rfl rfl (l00In_ct due 0 10028) rfl rfl ?_
      repeat (refine Quiet.go rfl ?_)
      refine Quiet.bool 66 rfl (fun h2 => ?_) (fun h2 => ?_)
      · repeat (refine Quiet.go rfl ?_)
        refine Quiet.nil (St.Le.mk' ⟨rfl, rfl, ?_, trivial⟩ trivial)
        show bo _ = bo _
        simp at h2
        simp [h2]
      have h2 : inr due 0 10028 = true := by simpa using h2
      repeat (refine Quiet.go rfl ?_)
      refine Quiet.bool 74 rfl (fun h3 => ?_) (fun h3 => ?_)
      · repeat (refine Quiet.go rfl ?_)
        refine Quiet.nil (St.Le.mk' ⟨rfl, rfl, ?_, trivial⟩ trivial)
        show bo _ = bo _
        have : ¬ q.length ≤ 4 := by simp at h3; omega
        simp [this]
      have h3 : q.length ≤ 4 := by simp at h3; omega
      repeat (refine Quiet.go rfl ?_)
      rw [ew]
      refine Quiet.cs rfl rfl rfl rfl rfl (l06Place_ct q ex who hlen r5) rfl rfl ?_
      repeat (refine Quiet.go rfl ?_)
      refine Quiet.nil (St.Le.mk' ⟨rfl, rfl, ?_, trivial⟩ trivial)
      show bo (decide (fi _ _ ≥ 0)) = bo _
      have := fi_nonneg (fun x => x == who) q
      simp only [ge_iff_le, this, h1, h2, h3, decide_true, Bool.true_and, Bool.not_not]
      congr 2
      rw [List.any_beq']
      simp
    refine Run.cond rfl (fun hB => ?_) (fun hB => ?_)
    · repeat (refine Run.go rfl ?_)
      refine Run.ret hg rfl ?_
      show bo _ = _
      have hqf : who ∈ q → qOk who q = false := by
        intro hm
        unfold qOk
        rw [Bool.and_eq_false_iff]
        right
        rw [decide_eq_false_iff_not, List.nodup_cons]
        exact fun h => h.1 hm
      by_cases b1 : inr who 0 49 = true
      · by_cases b2 : inr due 0 10028 = true
        · by_cases b3 : q.length ≤ 4
          · simp [b1, b2, b3] at hB
            simp [vC, h0, hqf hB]
          · simp [vC, h0, b3]
        · simp [vC, h0, b2]
      · simp [vC, h0, b1]
    have hC : inr who 0 49 = true ∧ inr due 0 10028 = true ∧ q.length ≤ 4 ∧ who ∉ q := by
      simp at hB
      exact ⟨hB.1.1.1, hB.1.1.2, hB.1.2, hB.2⟩
    obtain ⟨c1, c2, c3, c4⟩ := hC
    repeat (refine Run.go rfl ?_)
    refine Run.loop (fun j : Nat => ⟨[(0, .rp (cpR ex ⟨st, who, due, ren, q⟩).cells 0), (1, i16 day), (5, i64 j)], []⟩) (fun j => j ≤ q.length ∧ (∀ x ∈ q.take j, inr x 0 49 = true) ∧ (q.take j).Nodup) (fun j => q.length - j) 0 ⟨by omega, by simp, by simp⟩ ?_ ?_
    · exact St.Le.mk' ⟨rfl, rfl, rfl, trivial⟩ trivial
    rintro j ⟨hj, hall, hnd⟩ IH
    repeat (refine Run.go rfl ?_)
    refine Run.cond rfl (fun h' => ?_) (fun h' => ?_)
    · have hlt : j < q.length := by simpa using h'
      have eq := w64' (r5 q[j] (by simp))
      repeat (refine Run.go rfl ?_)
      refine Run.drawS ⟨[(0, .rp (cpR ex ⟨st, who, due, ren, q⟩).cells 0), (1, i16 day), (5, i64 j), (122, bo (!(inr q[j] 0 49 && decide (q[j] ∉ q.take j))))], []⟩ (by kernel_rfl) (by decide +kernel) ?_ ?_
      · repeat (refine Quiet.go rfl ?_)
        refine Quiet.val rfl rfl (ValOk.idx (i8 q[j]) rfl rfl rfl rfl rfl (by omega) (by simp [hlt])) rfl ?_
        repeat (refine Quiet.go rfl ?_)
        rw [eq]
        refine Quiet.cs rfl rfl rfl rfl rfl (l06Person_ct q[j]) rfl rfl ?_
        repeat (refine Quiet.go rfl ?_)
        refine Quiet.bool 106 rfl (fun h1 => ?_) (fun h1 => ?_)
        · repeat (refine Quiet.go rfl ?_)
          refine Quiet.nil (St.Le.mk' ⟨rfl, rfl, rfl, ?_, trivial⟩ trivial)
          show bo _ = bo _
          simp at h1
          simp [h1]
        have h1 : inr q[j] 0 49 = true := by simpa using h1
        repeat (refine Quiet.go rfl ?_)
        refine Quiet.val rfl rfl (ValOk.idx (i8 q[j]) rfl rfl rfl rfl rfl (by omega) (by simp [hlt])) rfl ?_
        repeat (refine Quiet.go rfl ?_)
        rw [eq]
        refine Quiet.cs rfl rfl rfl rfl rfl (l06Place_ct q ex q[j] hlen r5) rfl rfl ?_
        repeat (refine Quiet.go rfl ?_)
        refine Quiet.nil (St.Le.mk' ⟨rfl, rfl, rfl, ?_, trivial⟩ trivial)
        show bo (fi _ _ != (j : Int)) = bo _
        have := fi_first hlt
        congr 2
        rw [h1, Bool.true_and, Bool.eq_iff_iff]
        simp [← this]
      refine Run.cond rfl (fun h2 => ?_) (fun h2 => ?_)
      · repeat (refine Run.go rfl ?_)
        refine Run.ret hg rfl ?_
        show bo _ = _
        have : qOk who q = false := by
          refine qOk_false hlt ?_
          by_cases b1 : inr q[j] 0 49 = true
          · right
            simp [b1] at h2
            exact List.mem_cons_of_mem _ h2
          · left; simpa using b1
        simp [vC, h0, this]
      · have h2 : inr q[j] 0 49 = true ∧ q[j] ∉ q.take j := by simpa using h2
        repeat (refine Run.go rfl ?_)
        refine Run.of (IH (j + 1) ⟨by omega, ?_, ?_⟩ (by omega)) ⟨rfl, rfl, ?_, trivial⟩ trivial
        · rw [List.take_succ_eq_append_getElem hlt]
          intro x hx
          rcases List.mem_append.1 hx with hx | hx
          · exact hall x hx
          · rw [List.mem_singleton.1 hx]; exact h2.1
        · rw [List.take_succ_eq_append_getElem hlt, List.nodup_append]
          refine ⟨hnd, by simp, fun x hx y hy e => ?_⟩
          rw [List.mem_singleton.1 hy] at e
          rw [e] at hx
          exact h2.2 hx
        · show i64 _ = _
          rw [wrap_i64 (by omega) (by omega)]
          rfl
    · have hj' : j = q.length := by simp at h'; omega
      subst hj'
      rw [List.take_length] at hall hnd
      have hqo : qOk who q = true := by
        unfold qOk
        rw [Bool.and_eq_true, decide_eq_true_eq, decide_eq_true_eq, List.nodup_cons]
        exact ⟨hall, c4, hnd⟩
      have base : vC ⟨st, who, due, ren, q⟩ day = (if st = 2 then decide (ren = 0) && decide (day ≤ due) else inr ren 0 2) := by
        have : (decide (st = 1) || decide (st = 2)) = true := by simpa using hst
        simp only [vC, if_neg h0, this, c1, c2, c3, hqo, decide_true, Bool.true_and]
      repeat (refine Run.go rfl ?_)
      refine Run.cond rfl (fun h2 => ?_) (fun h2 => ?_)
      · have h2 : st = 2 := by simpa using h2
        subst h2
        repeat (refine Run.go rfl ?_)
        refine Run.bool 133 rfl (fun h3 => ?_) (fun h3 => ?_)
        · repeat (refine Run.go rfl ?_)
          refine Run.ret hg rfl ?_
          rw [base]
          show bo _ = _
          simp at h3
          simp [h3]
        · repeat (refine Run.go rfl ?_)
          refine Run.ret hg rfl ?_
          rw [base]
          show bo _ = _
          simp at h3
          simp [h3]
      · have h2 : st ≠ 2 := by simpa using h2
        have er := w64' r4
        repeat (refine Run.go rfl ?_)
        rw [er]
        refine Run.cs rfl (l00In_ct ren 0 2) rfl rfl ?_
        repeat (refine Run.go rfl ?_)
        refine Run.ret hg rfl ?_
        rw [base, if_neg h2]
        rfl
end Go.Proofs.Ytlccbfdeonmljaa

/- Contracts of the program's functions, and what follows from them. -/
set_option maxRecDepth 100000
namespace Go.Proofs.Ytlccbfdeonmljaa
open Go Go.Av

noncomputable def X86 : Fx := ⟨Try.prog, tys, 86, Try.f86, [0, 1]⟩
theorem X86_ok : X86.Ok := ⟨Try.func86, tys_ok⟩
theorem l06Loans_ct (d : Dk) (e1 e2 : Bool) (w : Int) (hd : dkOk d) (hr : dkRng d) : Ct Try.prog 86 [.rp (dkR e1 e2 d).cells 0, i64 w] (.own 1 false ((idxs (lentTo w) d.cs).map i64)) [] := by
  obtain ⟨day, l⟩ := d
  obtain ⟨hb, hq⟩ := hd
  obtain ⟨_, hr⟩ := hr
  simp only at hb hq hr
  refine Ct.intro X86 X86_ok rfl rfl rfl rfl fun g hg => ?_
  repeat (refine Run.go rfl ?_)
  refine Run.buildSlice [] rfl rfl rfl rfl rfl rfl rfl rfl rfl rfl rfl rfl rfl rfl ?_
  repeat (refine Run.go rfl ?_)
  refine Run.loosen0 5 rfl ?_
  refine Run.loop (fun j : Nat => ⟨[(0, .rp (dkR e1 e2 ⟨day, l⟩).cells 0), (1, i64 w), (5, .own 1 false ((idxs (lentTo w) (l.take j)).map i64)), (6, i64 j)], []⟩) (fun j => j ≤ l.length) (fun j => l.length - j) 0 (by omega) ?_ ?_
  · exact St.Le.mk' ⟨rfl, rfl, rfl, rfl, trivial⟩ trivial
  · intro j hj IH
    repeat (refine Run.go rfl ?_)
    refine Run.cond rfl (fun h => ?_) (fun h => ?_)
    · have hlt : j < l.length := by simpa using h
      have hil := idxs_len (lentTo w) (l.take j)
      rw [List.length_take] at hil
      have ew := w64' (hr l[j] (by simp)).2.1
      repeat (refine Run.go rfl ?_)
      refine Run.val rfl rfl rfl (ValOk.idx (cpR e2 l[j]) rfl rfl rfl rfl rfl (by omega) (by simp [hlt])) rfl ?_
      repeat (refine Run.go rfl ?_)
      refine Run.bool 26 rfl (fun hA => ?_) (fun hA => ?_)
      · have hA : l[j].st = 1 := by simpa using hA
        repeat (refine Run.go rfl ?_)
        refine Run.val rfl rfl rfl (ValOk.idx (cpR e2 l[j]) rfl rfl rfl rfl rfl (by omega) (by simp [hlt])) rfl ?_
        repeat (refine Run.go rfl ?_)
        rw [ew]
        refine Run.cond rfl (fun hB => ?_) (fun hB => ?_)
        · have hB : l[j].who = w := by simpa using hB
          repeat (refine Run.go rfl ?_)
          refine Run.buildSlice [i64 j] rfl rfl rfl rfl rfl rfl rfl rfl rfl rfl rfl rfl rfl rfl ?_
          refine Run.appendo rfl rfl rfl rfl rfl rfl rfl rfl rfl rfl rfl rfl rfl rfl (by show (_ + 1) * 8 ≤ _; simp; omega) (by simp [capMax]; omega) (by decide) rfl ?_
          repeat (refine Run.go rfl ?_)
          refine Run.of (IH (j + 1) (by omega) (by omega)) ⟨rfl, rfl, ?_, ?_, trivial⟩ trivial
          · rw [idxs_step hlt, if_pos (by simp [lentTo, hA, hB])]
            show AV.own _ _ _ = AV.own _ _ _
            simp
          · show i64 _ = _
            rw [wrap_i64 (by omega) (by omega)]
            rfl
        · have hB : l[j].who ≠ w := by simpa using hB
          repeat (refine Run.go rfl ?_)
          refine Run.of (IH (j + 1) (by omega) (by omega)) ⟨rfl, rfl, ?_, ?_, trivial⟩ trivial
          · rw [idxs_step hlt, if_neg (by simp [lentTo, hB])]
            rfl
          · show i64 _ = _
            rw [wrap_i64 (by omega) (by omega)]
            rfl
      · have hA : l[j].st ≠ 1 := by simpa using hA
        repeat (refine Run.go rfl ?_)
        refine Run.cond rfl (fun hB => by simp at hB) (fun hB => ?_)
        repeat (refine Run.go rfl ?_)
        refine Run.of (IH (j + 1) (by omega) (by omega)) ⟨rfl, rfl, ?_, ?_, trivial⟩ trivial
        · rw [idxs_step hlt, if_neg (by simp [lentTo, hA])]
          rfl
        · show i64 _ = _
          rw [wrap_i64 (by omega) (by omega)]
          rfl
    · have hj' : j = l.length := by simp at h; omega
      subst hj'
      rw [List.take_length]
      repeat (refine Run.go rfl ?_)
      refine Run.pack 4 rfl rfl rfl ?_
      exact Run.ret hg rfl rfl

noncomputable def X40 : Fx := ⟨Try.prog, tys, 40, Try.f40, [0]⟩
theorem X40_ok : X40.Ok := ⟨Try.func40, tys_ok⟩
theorem l06Ok_ct (d : Dk) (e1 e2 : Bool) (hd : dkOk d) (hr : dkRng d) : Ct Try.prog 40 [.rp (dkR e1 e2 d).cells 0] (bo (vD d)) [] := by
  have ew := w64 hr.1
  refine Ct.intro X40 X40_ok rfl rfl rfl rfl fun g hg => ?_
  repeat (refine Run.go rfl ?_)
  rw [ew]
  refine Run.cs rfl (l00In_ct d.day 0 10000) rfl rfl ?_
  repeat (refine Run.go rfl ?_)
  refine Run.bool 12 rfl (fun h => ?_) (fun h1 => ?_)
  · repeat (refine Run.go rfl ?_)
    refine Run.cond rfl (fun _ => ?_) (fun h => by simp at h)
    repeat (refine Run.go rfl ?_)
    refine Run.ret hg rfl ?_
    show bo _ = _
    simp at h
    simp [vD, h]
  have h1 : inr d.day 0 10000 = true := by simpa using h1
  repeat (refine Run.go rfl ?_)
  refine Run.cond rfl (fun h => ?_) (fun h2 => ?_)
  · repeat (refine Run.go rfl ?_)
    refine Run.ret hg rfl ?_
    show bo _ = _
    have : ¬ d.cs.length ≤ 60 := by simp at h; omega
    simp [vD, this]
  have h2 : d.cs.length ≤ 60 := by simp at h2; omega
  repeat (refine Run.go rfl ?_)
  refine Run.loop (fun j : Nat => ⟨[(0, .rp (dkR e1 e2 d).cells 0), (3, i64 j)], []⟩) (fun j => j ≤ d.cs.length ∧ (d.cs.take j).all (fun c => vC c d.day) = true) (fun j => d.cs.length - j) 0 ⟨by omega, rfl⟩ ?_ ?_
  · exact St.Le.mk' ⟨rfl, rfl, trivial⟩ trivial
  rintro j ⟨hj, hall⟩ IH
  repeat (refine Run.go rfl ?_)
  refine Run.cond rfl (fun h => ?_) (fun h => ?_)
  · have hlt : j < d.cs.length := by simpa using h
    repeat (refine Run.go rfl ?_)
    refine Run.draw (by kernel_rfl) (by decide +kernel) ?_
    repeat (refine Quiet.go rfl ?_)
    refine Quiet.val rfl rfl (ValOk.idx (cpR e2 d.cs[j]) rfl rfl rfl rfl rfl (by omega) (by simp [hlt])) rfl ?_
    repeat (refine Quiet.go rfl ?_)
    refine Quiet.cs rfl rfl rfl rfl rfl (l06Copy_ct d.cs[j] e2 d.day (hd.2 _ (by simp)) (hr.2 _ (by simp))) rfl rfl ?_
    repeat (refine Quiet.go rfl ?_)
    refine Quiet.nil ?_
    repeat (refine Run.go rfl ?_)
    refine Run.cond rfl (fun h => ?_) (fun h => ?_)
    · repeat (refine Run.go rfl ?_)
      refine Run.ret hg rfl ?_
      show bo _ = _
      have : d.cs.all (fun c => vC c d.day) = false := by
        rw [List.all_eq_false]
        exact ⟨d.cs[j], by simp, by simpa using h⟩
      simp only [vD, this, Bool.and_false, Bool.false_and]
    · repeat (refine Run.go rfl ?_)
      refine Run.of (IH (j + 1) ⟨by omega, ?_⟩ (by omega)) ⟨rfl, ?_, trivial⟩ trivial
      · rw [List.take_succ_eq_append_getElem hlt, List.all_append, hall]
        simpa using h
      · show i64 _ = _
        rw [wrap_i64 (by omega) (by omega)]
        rfl
  have hj' : j = d.cs.length := by simp at h; omega
  subst hj'
  rw [List.take_length] at hall
  repeat (refine Run.go rfl ?_)
  refine Run.loop (fun j : Nat => ⟨[(0, .rp (dkR e1 e2 d).cells 0), (4, i64 j)], []⟩) (fun j => j ≤ 50 ∧ (nums j).all (fun w => decide ((idxs (lentTo w) d.cs).length ≤ 3)) = true) (fun j => 50 - j) 0 ⟨by omega, rfl⟩ ?_ ?_
  · exact St.Le.mk' ⟨rfl, rfl, trivial⟩ trivial
  rintro j ⟨hj, hall2⟩ IH2
  have hns : nums (j + 1) = nums j ++ [(j : Int)] := by simp [nums, List.range_succ]
  repeat (refine Run.go rfl ?_)
  refine Run.cond rfl (fun h => ?_) (fun h => ?_)
  · have hlt : j < 50 := by simp at h; omega
    repeat (refine Run.go rfl ?_)
    refine Run.cs rfl (l06Loans_ct d e1 e2 j hd hr) rfl (rf64 _) ?_
    refine Run.unpack 47 rfl rfl ?_
    repeat (refine Run.go rfl ?_)
    refine Run.cond rfl (fun h3 => ?_) (fun h3 => ?_)
    · repeat (refine Run.go rfl ?_)
      refine Run.ret hg rfl ?_
      show bo _ = _
      have : (nums 50).all (fun w => decide ((idxs (lentTo w) d.cs).length ≤ 3)) = false := by
        rw [List.all_eq_false]
        refine ⟨(j : Int), by simp [nums]; exact ⟨j, hlt, rfl⟩, ?_⟩
        simp at h3 ⊢
        omega
      simp only [vD, this, Bool.and_false]
    · repeat (refine Run.go rfl ?_)
      refine Run.of (IH2 (j + 1) ⟨by omega, ?_⟩ (by omega)) ⟨rfl, ?_, trivial⟩ trivial
      · rw [hns, List.all_append, hall2]
        simp at h3 ⊢
        omega
      · show i64 _ = _
        rw [wrap_i64 (by omega) (by omega)]
        rfl
  · have hj' : j = 50 := by simp at h; omega
    subst hj'
    repeat (refine Run.go rfl ?_)
    refine Run.ret hg rfl ?_
    show bo true = _
    simp only [vD, h1, h2, hall, hall2, decide_true, Bool.true_and]

end Go.Proofs.Ytlccbfdeonmljaa

/- Contracts of the program's functions, and what follows from them. -/
set_option maxRecDepth 100000
namespace Go.Proofs.Ytlccbfdeonmljaa
open Go Go.Av

/-! A desk, a person and a book: their code; fines. -/

def dCode (d : Dk) (who book : Int) : Int := if vD d then (if inr who 0 49 && inr book 0 (d.cs.length - 1) then 0 else 2) else 1

theorem dCode_0 {d : Dk} {who book : Int} (h : dCode d who book = 0) : vD d = true ∧ inr who 0 49 = true ∧ ∃ j : Nat, book = j ∧ j < d.cs.length := by
  unfold dCode at h
  split at h
  · rename_i hv
    split at h
    · rename_i hi
      rw [Bool.and_eq_true] at hi
      refine ⟨hv, hi.1, book.toNat, ?_, ?_⟩ <;> (have := hi.2; simp [inr] at this; omega)
    · cases h
  · cases h

theorem vD_day {d : Dk} (h : vD d = true) : 0 ≤ d.day ∧ d.day ≤ 10000 := by
  simp only [vD, Bool.and_eq_true] at h
  simpa [inr] using h.1.1.1
theorem vD_len {d : Dk} (h : vD d = true) : d.cs.length ≤ 60 := by
  simp only [vD, Bool.and_eq_true, decide_eq_true_eq] at h
  exact h.1.1.2
theorem vD_cp {d : Dk} (h : vD d = true) : ∀ c ∈ d.cs, vC c d.day = true := by
  simp only [vD, Bool.and_eq_true] at h
  simpa using h.1.2
theorem vC_due {c : Cp} {day : Int} (h : vC c day = true) : 0 ≤ c.due ∧ c.due ≤ 10028 := by
  unfold vC at h
  split at h
  · simp at h; omega
  · simp only [Bool.and_eq_true] at h
    simpa [inr] using h.1.1.1.2

noncomputable def X59 : Fx := ⟨Try.prog, tys, 59, Try.f59, [0, 1, 2]⟩
theorem X59_ok : X59.Ok := ⟨Try.func59, tys_ok⟩
theorem l06Asked_ct (d : Dk) (e1 e2 : Bool) (who book : Int) (hd : dkOk d) (hr : dkRng d) : Ct Try.prog 59 [.rp (dkR e1 e2 d).cells 0, i64 who, i64 book] (i64 (dCode d who book)) [] := by
  refine Ct.intro X59 X59_ok rfl rfl rfl rfl fun g hg => ?_
  have hl := hd.1
  have ew : IntKind.i64.wrap ((d.cs.map (cpR e2)).length - 1) = d.cs.length - 1 := by rw [List.length_map, wrap_i64 (by omega) (by omega)]
  repeat (refine Run.go rfl ?_)
  refine Run.cs rfl (l06Ok_ct d e1 e2 hd hr) rfl rfl ?_
  repeat (refine Run.go rfl ?_)
  refine Run.cond rfl (fun h => ?_) (fun h1 => ?_)
  · repeat (refine Run.go rfl ?_)
    refine Run.ret hg rfl ?_
    show i64 _ = _
    simp at h
    simp [dCode, h]
  have h1 : vD d = true := by simpa using h1
  repeat (refine Run.go rfl ?_)
  refine Run.cs rfl (l06Person_ct who) rfl rfl ?_
  repeat (refine Run.go rfl ?_)
  refine Run.bool 13 rfl (fun h => ?_) (fun h2 => ?_)
  · repeat (refine Run.go rfl ?_)
    refine Run.cond rfl (fun _ => ?_) (fun h => by simp at h)
    repeat (refine Run.go rfl ?_)
    refine Run.ret hg rfl ?_
    show i64 _ = _
    simp at h
    simp [dCode, h1, h]
  have h2 : inr who 0 49 = true := by simpa using h2
  repeat (refine Run.go rfl ?_)
  refine Run.cs rfl (l00In_ct book 0 (d.cs.length - 1)) (by rw [← ew]; rfl) rfl ?_
  repeat (refine Run.go rfl ?_)
  refine Run.cond rfl (fun h => ?_) (fun h3 => ?_)
  · repeat (refine Run.go rfl ?_)
    refine Run.ret hg rfl ?_
    show i64 _ = _
    have h : inr book 0 (d.cs.length - 1) = false := by simpa using h
    simp [dCode, h1, h2, h]
  have h3 : inr book 0 (d.cs.length - 1) = true := by simpa using h3
  repeat (refine Run.go rfl ?_)
  refine Run.ret hg rfl ?_
  show i64 _ = _
  simp [dCode, h1, h2, h3]

noncomputable def X92 : Fx := ⟨Try.prog, tys, 92, Try.f92, [0]⟩
theorem X92_ok : X92.Ok := ⟨Try.func92, tys_ok⟩
theorem isPerson64_ct (a : Int) : Ct Try.prog 92 [i64 a] (bo (inr a 0 49)) [] := by
  refine Ct.intro X92 X92_ok rfl rfl rfl rfl fun g hg => ?_
  repeat (refine Run.go rfl ?_)
  refine Run.cs rfl (within64_ct a 0 49) rfl rfl ?_
  repeat (refine Run.go rfl ?_)
  exact Run.ret hg rfl rfl

noncomputable def X56 : Fx := ⟨Try.prog, tys, 56, Try.f56, [0, 1, 2]⟩
theorem X56_ok : X56.Ok := ⟨Try.func56, tys_ok⟩
theorem deskCode_ct (d : Dk) (e1 e2 : Bool) (who book : Int) (hd : dkOk d) (hr : dkRng d) : Ct Try.prog 56 [dkR e1 e2 d, i64 who, i64 book] (i64 (dCode d who book)) [] := by
  refine Ct.intro X56 X56_ok rfl rfl rfl rfl fun g hg => ?_
  have hl := hd.1
  have ew : IntKind.i64.wrap ((d.cs.map (cpR e2)).length - 1) = d.cs.length - 1 := by rw [List.length_map, wrap_i64 (by omega) (by omega)]
  repeat (refine Run.go rfl ?_)
  refine Run.cs rfl (implValidDesk_ct d e1 e2 hd hr) rfl rfl ?_
  repeat (refine Run.go rfl ?_)
  refine Run.cond rfl (fun h => ?_) (fun h1 => ?_)
  · repeat (refine Run.go rfl ?_)
    refine Run.ret hg rfl ?_
    show i64 _ = _
    simp at h
    simp [dCode, h]
  have h1 : vD d = true := by simpa using h1
  repeat (refine Run.go rfl ?_)
  refine Run.cs rfl (isPerson64_ct who) rfl rfl ?_
  repeat (refine Run.go rfl ?_)
  refine Run.bool 15 rfl (fun h => ?_) (fun h2 => ?_)
  · repeat (refine Run.go rfl ?_)
    refine Run.cond rfl (fun _ => ?_) (fun h => by simp at h)
    repeat (refine Run.go rfl ?_)
    refine Run.ret hg rfl ?_
    show i64 _ = _
    simp at h
    simp [dCode, h1, h]
  have h2 : inr who 0 49 = true := by simpa using h2
  repeat (refine Run.go rfl ?_)
  refine Run.cs rfl (within64_ct book 0 (d.cs.length - 1)) (by rw [← ew]; rfl) rfl ?_
  repeat (refine Run.go rfl ?_)
  refine Run.cond rfl (fun h => ?_) (fun h3 => ?_)
  · repeat (refine Run.go rfl ?_)
    refine Run.ret hg rfl ?_
    show i64 _ = _
    have h : inr book 0 (d.cs.length - 1) = false := by simpa using h
    simp [dCode, h1, h2, h]
  have h3 : inr book 0 (d.cs.length - 1) = true := by simpa using h3
  repeat (refine Run.go rfl ?_)
  refine Run.ret hg rfl ?_
  show i64 _ = _
  simp [dCode, h1, h2, h3]

def over (day : Int) (c : Cp) : Bool := decide (c.st = 1) && decide (c.due < day)
def fineP (day : Int) (c : Cp) : Int := if over day c then 5 * (day - c.due) else 0

noncomputable def X90 : Fx := ⟨Try.prog, tys, 90, Try.f90, [0, 1]⟩
theorem X90_ok : X90.Ok := ⟨Try.func90, tys_ok⟩
theorem l06Fine_ct (c : Cp) (ex : Bool) (day : Int) (hr : cpRng c) (hd : i16r day) : Ct Try.prog 90 [.rp (cpR ex c).cells 0, i16 day] (i64 (fineP day c)) [] := by
  have e1 := w64 hd
  have e2 := w64 hr.2.2.1
  have b1 := hd
  have b2 := hr.2.2.1
  unfold i16r at b1 b2
  refine Ct.intro X90 X90_ok rfl rfl rfl rfl fun g hg => ?_
  repeat (refine Run.go rfl ?_)
  refine Run.bool 10 rfl (fun h => ?_) (fun h1 => ?_)
  · repeat (refine Run.go rfl ?_)
    refine Run.cond rfl (fun _ => ?_) (fun h => by simp at h)
    repeat (refine Run.go rfl ?_)
    refine Run.ret hg rfl ?_
    show i64 _ = _
    simp at h
    simp [fineP, over, h]
  have h1 : c.st = 1 := by simpa using h1
  repeat (refine Run.go rfl ?_)
  refine Run.cond rfl (fun h => ?_) (fun h2 => ?_)
  · repeat (refine Run.go rfl ?_)
    refine Run.ret hg rfl ?_
    show i64 _ = _
    simp at h
    simp [fineP, over, h1]
    omega
  have h2 : c.due < day := by simp at h2; omega
  repeat (refine Run.go rfl ?_)
  rw [e1, e2, wrap_i64 (n := day - c.due) (by omega) (by omega)]
  refine Run.ret hg rfl ?_
  show i64 (IntKind.i64.wrap (5 * (day - c.due))) = _
  rw [wrap_i64 (by omega) (by omega)]
  simp [fineP, over, h1, h2]

noncomputable def X47 : Fx := ⟨Try.prog, tys, 47, Try.f47, [0, 1]⟩
theorem X47_ok : X47.Ok := ⟨Try.func47, tys_ok⟩
theorem isOverdue_ct (d : Dk) (c : Cp) (e1 e2 e3 : Bool) : Ct Try.prog 47 [dkR e1 e2 d, cpR e3 c] (bo (over d.day c)) [] := by
  refine Ct.intro X47 X47_ok rfl rfl rfl rfl fun g hg => ?_
  repeat (refine Run.go rfl ?_)
  refine Run.bool 8 rfl (fun h => ?_) (fun h => ?_)
  · repeat (refine Run.go rfl ?_)
    refine Run.ret hg rfl ?_
    show bo _ = _
    simp at h
    simp [over, h]
  · repeat (refine Run.go rfl ?_)
    refine Run.ret hg rfl ?_
    show bo _ = _
    simp at h
    simp [over, h]

noncomputable def X61 : Fx := ⟨Try.prog, tys, 61, Try.f61, [0, 1]⟩
theorem X61_ok : X61.Ok := ⟨Try.func61, tys_ok⟩
theorem fine_ct (d : Dk) (c : Cp) (e1 e2 e3 : Bool) (h0 : 0 ≤ d.day ∧ d.day ≤ 10000) (h1 : 0 ≤ c.due ∧ c.due ≤ 10028) : Ct Try.prog 61 [dkR e1 e2 d, cpR e3 c] (i64 (fineP d.day c)) [] := by
  refine Ct.intro X61 X61_ok rfl rfl rfl rfl fun g hg => ?_
  repeat (refine Run.go rfl ?_)
  refine Run.cs rfl (isOverdue_ct d c e1 e2 e3) rfl rfl ?_
  repeat (refine Run.go rfl ?_)
  refine Run.cond rfl (fun h => ?_) (fun h => ?_)
  · repeat (refine Run.go rfl ?_)
    refine Run.ret hg rfl ?_
    show i64 _ = _
    simp at h
    simp [fineP, h]
  · have h : over d.day c = true := by simpa using h
    repeat (refine Run.go rfl ?_)
    rw [wrap_i16 (n := d.day - c.due) (by omega) (by omega), wrap_i64 (n := d.day - c.due) (by omega) (by omega)]
    refine Run.ret hg rfl ?_
    show i64 (IntKind.i64.wrap (5 * (d.day - c.due))) = _
    rw [wrap_i64 (by omega) (by omega)]
    simp [fineP, h]

def fineRes (d : Dk) (book : Int) : Int × Int := if dCode d 0 book = 0 then (fineP d.day (d.cs.getD book.toNat cp0), 0) else (0, dCode d 0 book)

noncomputable def X24 : Fx := ⟨Try.prog, tys, 24, Try.f24, [0, 1]⟩
theorem X24_ok : X24.Ok := ⟨Try.func24, tys_ok⟩
theorem implFineOf_ct (d : Dk) (e1 e2 : Bool) (book : Int) (hd : dkOk d) (hr : dkRng d) : Ct Try.prog 24 [dkR e1 e2 d, i64 book] (.tup [i64 (fineRes d book).1, i64 (fineRes d book).2]) [] := by
  refine Ct.intro X24 X24_ok rfl rfl rfl rfl fun g hg => ?_
  repeat (refine Run.go rfl ?_)
  refine Run.cs rfl (deskCode_ct d e1 e2 0 book hd hr) rfl rfl ?_
  repeat (refine Run.go rfl ?_)
  refine Run.cond rfl (fun h => ?_) (fun h => ?_)
  · repeat (refine Run.go rfl ?_)
    refine Run.ret hg rfl ?_
    simp at h
    simp [fineRes, h]
    rfl
  · have h : dCode d 0 book = 0 := by simpa using h
    obtain ⟨hv, _, j, rfl, hj⟩ := dCode_0 h
    repeat (refine Run.go rfl ?_)
    refine Run.draw (by kernel_rfl) (by decide +kernel) ?_
    repeat (refine Quiet.go rfl ?_)
    refine Quiet.val rfl rfl (ValOk.idx (cpR e2 d.cs[j]) rfl rfl rfl rfl rfl (by omega) (by simp [hj])) rfl ?_
    repeat (refine Quiet.go rfl ?_)
    refine Quiet.cs rfl rfl rfl rfl rfl (fine_ct d d.cs[j] e1 e2 e2 (vD_day hv) (vC_due (vD_cp hv _ (by simp)))) rfl rfl ?_
    repeat (refine Quiet.go rfl ?_)
    refine Quiet.nil ?_
    repeat (refine Run.go rfl ?_)
    refine Run.ret hg rfl ?_
    simp [fineRes, h, hj]
    rfl
end Go.Proofs.Ytlccbfdeonmljaa

/- Contracts of the program's functions, and what follows from them. -/
set_option maxRecDepth 100000
namespace Go.Proofs.Ytlccbfdeonmljaa
open Go Go.Av

/-! Places in queues; how long one waits. -/

noncomputable def X58 : Fx := ⟨Try.prog, tys, 58, Try.f58, [0, 1]⟩
theorem X58_ok : X58.Ok := ⟨Try.func58, tys_ok⟩
theorem index8_ct (l : List Int) (ex : Bool) (n : Int) (hlen : l.length ≤ 1048576) : Ct Try.prog 58 [.ro 1 ex (l.map i8), i8 n] (i64 (fi (fun x => x == n) l)) [] := by
  refine Ct.intro X58 X58_ok rfl rfl rfl rfl fun g hg => ?_
  repeat (refine Run.go rfl ?_)
  refine Run.loop (fun j : Nat => ⟨[(0, .ro 1 ex (l.map i8)), (1, i8 n), (7, i64 l.length), (8, i64 j)], []⟩) (fun j => j ≤ l.length ∧ j ≤ l.findIdx (fun x => x == n)) (fun j => l.length - j) 0 ⟨by omega, by omega⟩ ?_ ?_
  · refine St.Le.mk' ⟨rfl, rfl, ?_, rfl, trivial⟩ trivial
    show i64 (l.map i8).length = _
    simp
  · rintro j ⟨hj1, hj2⟩ IH
    repeat (refine Run.go rfl ?_)
    refine Run.cond rfl (fun h => ?_) (fun h => ?_)
    · have hlt : j < l.length := by simpa using h
      repeat (refine Run.go rfl ?_)
      refine Run.val rfl rfl rfl (ValOk.idx (i8 l[j]) rfl rfl rfl rfl rfl (by omega) (by simp [hlt])) rfl ?_
      repeat (refine Run.go rfl ?_)
      refine Run.cond rfl (fun h => ?_) (fun h => ?_)
      · have h : (l[j] == n) = true := by simp at h; simp [h]
        repeat (refine Run.go rfl ?_)
        refine Run.ret hg rfl ?_
        show i64 _ = _
        rw [fi_at hlt h hj2]
      · have h : (l[j] == n) = false := by simp at h; simp; omega
        repeat (refine Run.go rfl ?_)
        refine Run.of (IH (j + 1) ⟨by omega, fi_next hlt h hj2⟩ (by omega)) ⟨rfl, rfl, rfl, ?_, trivial⟩ trivial
        show i64 _ = _
        rw [wrap_i64 (by omega) (by omega)]
        rfl
    · repeat (refine Run.go rfl ?_)
      have hj : j = l.length := by simp at h; omega
      refine Run.ret hg rfl ?_
      show i64 (-1) = _
      rw [fi_none (by omega)]

def plq (d : Dk) (who book : Int) : Int := fi (fun x => x == who) (d.cs.getD book.toNat cp0).q
def placeRes (d : Dk) (who book : Int) : Int × Int := if dCode d who book = 0 then (if plq d who book < 0 then (0, 6) else (plq d who book, 0)) else (0, dCode d who book)

theorem inr_wrap {who : Int} (h : inr who 0 49 = true) : IntKind.i8.wrap who = who := by
  simp [inr] at h
  exact wrap_i8 (by omega) (by omega)

noncomputable def X21 : Fx := ⟨Try.prog, tys, 21, Try.f21, [0, 1, 2]⟩
theorem X21_ok : X21.Ok := ⟨Try.func21, tys_ok⟩
theorem implPlaceInQueue_ct (d : Dk) (e1 e2 : Bool) (who book : Int) (hd : dkOk d) (hr : dkRng d) : Ct Try.prog 21 [dkR e1 e2 d, i64 who, i64 book] (.tup [i64 (placeRes d who book).1, i64 (placeRes d who book).2]) [] := by
  refine Ct.intro X21 X21_ok rfl rfl rfl rfl fun g hg => ?_
  repeat (refine Run.go rfl ?_)
  refine Run.cs rfl (deskCode_ct d e1 e2 who book hd hr) rfl rfl ?_
  repeat (refine Run.go rfl ?_)
  refine Run.cond rfl (fun h => ?_) (fun h => ?_)
  · repeat (refine Run.go rfl ?_)
    refine Run.ret hg rfl ?_
    simp at h
    simp [placeRes, h]
    rfl
  · have h : dCode d who book = 0 := by simpa using h
    obtain ⟨_, hw, j, rfl, hj⟩ := dCode_0 h
    have hp : plq d who j = fi (fun x => x == who) d.cs[j].q := by simp [plq, hj]
    have ew := inr_wrap hw
    repeat (refine Run.go rfl ?_)
    refine Run.val rfl rfl rfl (ValOk.idx (cpR e2 d.cs[j]) rfl rfl rfl rfl rfl (by omega) (by simp [hj])) rfl ?_
    repeat (refine Run.go rfl ?_)
    rw [ew]
    refine Run.cs rfl (index8_ct d.cs[j].q e2 who (hd.2 _ (by simp))) rfl rfl ?_
    repeat (refine Run.go rfl ?_)
    rw [← hp]
    refine Run.cond rfl (fun h2 => ?_) (fun h2 => ?_)
    · repeat (refine Run.go rfl ?_)
      refine Run.ret hg rfl ?_
      simp at h2
      simp [placeRes, h, h2]
      rfl
    · repeat (refine Run.go rfl ?_)
      refine Run.ret hg rfl ?_
      have h2 : ¬ plq d who j < 0 := by simpa using h2
      simp only [placeRes, if_pos h, if_neg h2]
      rfl
end Go.Proofs.Ytlccbfdeonmljaa

/- Contracts of the program's functions, and what follows from them. -/
set_option maxRecDepth 100000
namespace Go.Proofs.Ytlccbfdeonmljaa
open Go Go.Av

noncomputable def X60 : Fx := ⟨Try.prog, tys, 60, Try.f60, [0, 1]⟩
theorem X60_ok : X60.Ok := ⟨Try.func60, tys_ok⟩
theorem l00Max_ct (a b : Int) : Ct Try.prog 60 [i64 a, i64 b] (i64 (max a b)) [] := by
  refine Ct.intro X60 X60_ok rfl rfl rfl rfl fun g hg => ?_
  repeat (refine Run.go rfl ?_)
  refine Run.cond rfl (fun h => ?_) (fun h => ?_)
  · repeat (refine Run.go rfl ?_)
    refine Run.ret hg rfl ?_
    simp at h
    rw [Int.max_eq_left (by omega)]
    rfl
  · repeat (refine Run.go rfl ?_)
    refine Run.ret hg rfl ?_
    simp at h
    rw [Int.max_eq_right (by omega)]
    rfl

theorem fi_le {α : Type} (p : α → Bool) (l : List α) : fi p l ≤ l.length := by
  unfold fi
  split <;> omega

def waitP (d : Dk) (c : Cp) (p : Int) : Int := max 0 (c.due - d.day) + (if c.st = 2 then 28 else 0) + p * 35
def waitRes (d : Dk) (who book : Int) : Int × Int := if dCode d who book = 0 then (if plq d who book < 0 then (0, 6) else (waitP d (d.cs.getD book.toNat cp0) (plq d who book), 0)) else (0, dCode d who book)

noncomputable def X23 : Fx := ⟨Try.prog, tys, 23, Try.f23, [0, 1, 2]⟩
theorem X23_ok : X23.Ok := ⟨Try.func23, tys_ok⟩
theorem specWaitAtMost_ct (d : Dk) (e1 e2 : Bool) (who book : Int) (hd : dkOk d) (hr : dkRng d) : Ct Try.prog 23 [dkR e1 e2 d, i64 who, i64 book] (.tup [i64 (waitRes d who book).1, i64 (waitRes d who book).2]) [] := by
  refine Ct.intro X23 X23_ok rfl rfl rfl rfl fun g hg => ?_
  repeat (refine Run.go rfl ?_)
  refine Run.cs rfl (l06Asked_ct d e1 e2 who book hd hr) rfl rfl ?_
  repeat (refine Run.go rfl ?_)
  refine Run.cond rfl (fun h => ?_) (fun h => ?_)
  · repeat (refine Run.go rfl ?_)
    refine Run.ret hg rfl ?_
    simp at h
    simp [waitRes, h]
    rfl
  have h : dCode d who book = 0 := by simpa using h
  obtain ⟨hv, _, j, rfl, hj⟩ := dCode_0 h
  have hp : plq d who j = fi (fun x => x == who) d.cs[j].q := by simp [plq, hj]
  have hq := hd.2 d.cs[j] (by simp)
  have hpl : plq d who j ≤ d.cs[j].q.length := by rw [hp]; exact fi_le _ _
  have b1 := vD_day hv
  have b2 := vC_due (vD_cp hv d.cs[j] (by simp))
  repeat (refine Run.go rfl ?_)
  refine Run.val rfl rfl rfl (ValOk.idx (cpR e2 d.cs[j]) rfl rfl rfl rfl rfl (by omega) (by simp [hj])) rfl ?_
  repeat (refine Run.go rfl ?_)
  refine Run.cs rfl (l06Place_ct d.cs[j].q e2 who hq (hr.2 d.cs[j] (by simp)).2.2.2.2) rfl rfl ?_
  repeat (refine Run.go rfl ?_)
  rw [← hp]
  refine Run.cond rfl (fun h2 => ?_) (fun h2 => ?_)
  · repeat (refine Run.go rfl ?_)
    refine Run.ret hg rfl ?_
    simp at h2
    simp [waitRes, h, h2]
    rfl
  have h2 : ¬ plq d who j < 0 := by simpa using h2
  repeat (refine Run.go rfl ?_)
  refine Run.draw (by kernel_rfl) (by decide +kernel) ?_
  repeat (refine Quiet.go rfl ?_)
  rw [wrap_i64 (n := d.cs[j].due) (by omega) (by omega), wrap_i64 (n := d.day) (by omega) (by omega), wrap_i64 (n := d.cs[j].due - d.day) (by omega) (by omega)]
  refine Quiet.cs rfl rfl rfl rfl rfl (l00Max_ct 0 (d.cs[j].due - d.day)) rfl rfl ?_
  repeat (refine Quiet.go rfl ?_)
  refine Quiet.nil ?_
  repeat (refine Run.go rfl ?_)
  refine Run.cond rfl (fun h3 => ?_) (fun h3 => ?_)
  · have h3 : d.cs[j].st = 2 := by simpa using h3
    repeat (refine Run.go rfl ?_)
    refine Run.ret hg rfl ?_
    simp only [waitRes, if_pos h, if_neg h2]
    show AV.tup [i64 (IntKind.i64.wrap (IntKind.i64.wrap (max 0 (d.cs[j].due - d.day) + 28) + IntKind.i64.wrap (plq d who j * 35))), i64 0] = _
    rw [wrap_i64 (n := max 0 (d.cs[j].due - d.day) + 28) (by omega) (by omega), wrap_i64 (n := plq d who j * 35) (by omega) (by omega), wrap_i64 (by omega) (by omega)]
    simp [waitP, hj, h3]
  · have h3 : d.cs[j].st ≠ 2 := by simpa using h3
    repeat (refine Run.go rfl ?_)
    refine Run.ret hg rfl ?_
    simp only [waitRes, if_pos h, if_neg h2]
    show AV.tup [i64 (IntKind.i64.wrap (max 0 (d.cs[j].due - d.day) + IntKind.i64.wrap (plq d who j * 35))), i64 0] = _
    rw [wrap_i64 (n := plq d who j * 35) (by omega) (by omega), wrap_i64 (by omega) (by omega)]
    simp [waitP, hj, h3]

theorem placeRes_0 {d : Dk} {who book : Int} (h : (placeRes d who book).2 = 0) : dCode d who book = 0 ∧ ¬ plq d who book < 0 ∧ (placeRes d who book).1 = plq d who book := by
  unfold placeRes at h ⊢
  split at h
  · rename_i h0
    split at h
    · cases h
    · rename_i h1
      rw [if_pos h0, if_neg h1]
      exact ⟨h0, h1, rfl⟩
  · contradiction

noncomputable def X22 : Fx := ⟨Try.prog, tys, 22, Try.f22, [0, 1, 2]⟩
theorem X22_ok : X22.Ok := ⟨Try.func22, tys_ok⟩
theorem implWaitAtMost_ct (d : Dk) (e1 e2 : Bool) (who book : Int) (hd : dkOk d) (hr : dkRng d) : Ct Try.prog 22 [dkR e1 e2 d, i64 who, i64 book] (.tup [i64 (waitRes d who book).1, i64 (waitRes d who book).2]) [] := by
  refine Ct.intro X22 X22_ok rfl rfl rfl rfl fun g hg => ?_
  repeat (refine Run.go rfl ?_)
  refine Run.cs rfl (implPlaceInQueue_ct d e1 e2 who book hd hr) rfl rfl ?_
  repeat (refine Run.go rfl ?_)
  refine Run.cond rfl (fun h => ?_) (fun h => ?_)
  · repeat (refine Run.go rfl ?_)
    refine Run.ret hg rfl ?_
    have h : (placeRes d who book).2 ≠ 0 := by simpa using h
    have : waitRes d who book = (0, (placeRes d who book).2) := by
      unfold waitRes
      unfold placeRes at h ⊢
      split
      · rename_i h0
        rw [if_pos h0] at h
        split
        · rfl
        · rename_i h1
          rw [if_neg h1] at h
          exact absurd rfl h
      · rfl
    rw [this]
    rfl
  have h : (placeRes d who book).2 = 0 := by simpa using h
  obtain ⟨h, h2, hpe⟩ := placeRes_0 h
  rw [hpe]
  obtain ⟨hv, _, j, rfl, hj⟩ := dCode_0 h
  have hp : plq d who j = fi (fun x => x == who) d.cs[j].q := by simp [plq, hj]
  have hq := hd.2 d.cs[j] (by simp)
  have hpl : plq d who j ≤ d.cs[j].q.length := by rw [hp]; exact fi_le _ _
  have b1 := vD_day hv
  have b2 := vC_due (vD_cp hv d.cs[j] (by simp))
  have em : ∀ x : Int, (if 0 > x then 0 else x) = max 0 x := by intro x; split <;> omega
  repeat (refine Run.go rfl ?_)
  refine Run.val rfl rfl rfl (ValOk.idx (cpR e2 d.cs[j]) rfl rfl rfl rfl rfl (by omega) (by simp [hj])) rfl ?_
  repeat (refine Run.go rfl ?_)
  rw [wrap_i16 (n := d.cs[j].due - d.day) (by omega) (by omega)]
  refine Run.cond rfl (fun h3 => ?_) (fun h3 => ?_)
  · have h3 : d.cs[j].st = 2 := by simpa using h3
    repeat (refine Run.go rfl ?_)
    refine Run.ret hg rfl ?_
    simp only [waitRes, if_pos h, if_neg h2]
    show AV.tup [i64 (IntKind.i64.wrap (IntKind.i64.wrap (IntKind.i64.wrap (if 0 > d.cs[j].due - d.day then 0 else d.cs[j].due - d.day) + IntKind.i64.wrap (plq d who j * 35)) + 28)), i64 0] = _
    rw [em, wrap_i64 (n := plq d who j * 35) (by omega) (by omega), wrap_i64 (n := max 0 (d.cs[j].due - d.day)) (by omega) (by omega), wrap_i64 (n := max 0 (d.cs[j].due - d.day) + plq d who j * 35) (by omega) (by omega), wrap_i64 (by omega) (by omega)]
    simp [waitP, hj, h3]
    omega
  · have h3 : d.cs[j].st ≠ 2 := by simpa using h3
    repeat (refine Run.go rfl ?_)
    refine Run.ret hg rfl ?_
    simp only [waitRes, if_pos h, if_neg h2]
    show AV.tup [i64 (IntKind.i64.wrap (IntKind.i64.wrap (if 0 > d.cs[j].due - d.day then 0 else d.cs[j].due - d.day) + IntKind.i64.wrap (plq d who j * 35))), i64 0] = _
    rw [em, wrap_i64 (n := plq d who j * 35) (by omega) (by omega), wrap_i64 (n := max 0 (d.cs[j].due - d.day)) (by omega) (by omega), wrap_i64 (by omega) (by omega)]
    simp [waitP, hj, h3]
end Go.Proofs.Ytlccbfdeonmljaa

/- Contracts of the program's functions, and what follows from them. -/
set_option maxRecDepth 100000
namespace Go.Proofs.Ytlccbfdeonmljaa
open Go Go.Av

/-! Whether somebody may take a book. -/

noncomputable def X91 : Fx := ⟨Try.prog, tys, 91, Try.f91, [0, 1]⟩
theorem X91_ok : X91.Ok := ⟨Try.func91, tys_ok⟩
theorem l06Overdue_ct (c : Cp) (ex : Bool) (day : Int) : Ct Try.prog 91 [.rp (cpR ex c).cells 0, i16 day] (bo (over day c)) [] := by
  refine Ct.intro X91 X91_ok rfl rfl rfl rfl fun g hg => ?_
  repeat (refine Run.go rfl ?_)
  refine Run.bool 10 rfl (fun h => ?_) (fun h => ?_)
  · repeat (refine Run.go rfl ?_)
    refine Run.ret hg rfl ?_
    show bo _ = _
    simp at h
    simp [over, h]
  · repeat (refine Run.go rfl ?_)
    refine Run.ret hg rfl ?_
    show bo _ = _
    simp at h
    simp [over, h]

noncomputable def X50 : Fx := ⟨Try.prog, tys, 50, Try.f50, [0, 1]⟩
theorem X50_ok : X50.Ok := ⟨Try.func50, tys_ok⟩
theorem isHeld_ct (c : Cp) (ex : Bool) (w : Int) : Ct Try.prog 50 [cpR ex c, i8 w] (bo (decide (c.st = 2) && decide (c.who = w))) [] := by
  refine Ct.intro X50 X50_ok rfl rfl rfl rfl fun g hg => ?_
  repeat (refine Run.go rfl ?_)
  refine Run.bool 8 rfl (fun h => ?_) (fun h => ?_)
  · repeat (refine Run.go rfl ?_)
    refine Run.ret hg rfl ?_
    show bo _ = _
    simp at h
    simp [h]
    rfl
  · repeat (refine Run.go rfl ?_)
    refine Run.ret hg rfl ?_
    show bo _ = _
    simp at h
    simp [h]

noncomputable def X94 : Fx := ⟨Try.prog, tys, 94, Try.f94, [0, 1, 2]⟩
theorem X94_ok : X94.Ok := ⟨Try.func94, tys_ok⟩
theorem mayLend1_ct (c : Cp) (d : Dk) (e1 e2 e3 : Bool) (w : Int) : Ct Try.prog 94 [cpR e3 c, .rp [i8 w] 0, .rp (dkR e1 e2 d).cells 0] (bo (lentTo w c && over d.day c)) [] := by
  refine Ct.intro X94 X94_ok rfl rfl rfl rfl fun g hg => ?_
  repeat (refine Run.go rfl ?_)
  refine Run.cs rfl (isLent_ct c e3 w) rfl rfl ?_
  repeat (refine Run.go rfl ?_)
  refine Run.bool 8 rfl (fun h => ?_) (fun h => ?_)
  · have h : lentTo w c = true := h
    repeat (refine Run.go rfl ?_)
    refine Run.cs rfl (isOverdue_ct d c e1 e2 e3) rfl rfl ?_
    repeat (refine Run.go rfl ?_)
    refine Run.ret hg rfl ?_
    show bo _ = _
    rw [h, Bool.true_and]
  · have h : lentTo w c = false := h
    repeat (refine Run.go rfl ?_)
    refine Run.ret hg rfl ?_
    show bo _ = _
    rw [h, Bool.false_and]

def stMay (w : Int) (c : Cp) : Bool := decide (c.st = 0) || (decide (c.st = 2) && decide (c.who = w))
def mayP (d : Dk) (w : Int) (c : Cp) : Bool := stMay w c && decide ((idxs (lentTo w) d.cs).length < 3) && !d.cs.any (fun x => lentTo w x && over d.day x)

theorem mem_idxs {α : Type} {p : α → Bool} {l : List α} {i : Int} : i ∈ idxs p l ↔ ∃ j : Nat, ∃ h : j < l.length, i = j ∧ p l[j] = true := by
  simp only [idxs, List.mem_map, List.mem_filter, Prod.exists, List.mem_zipIdx_iff_getElem?]
  constructor
  · rintro ⟨a, b, ⟨h1, h2⟩, rfl⟩
    obtain ⟨hb, rfl⟩ := List.getElem?_eq_some_iff.mp h1
    exact ⟨b, hb, rfl, h2⟩
  · rintro ⟨j, hj, rfl, h⟩
    exact ⟨l[j], j, ⟨List.getElem?_eq_getElem hj, h⟩, rfl⟩

theorem any_idxs {l : List Cp} {p q : Cp → Bool} : (l.any fun x => p x && q x) = (idxs p l).any fun i => q (l.getD i.toNat cp0) := by
  rw [Bool.eq_iff_iff, List.any_eq_true, List.any_eq_true]
  constructor
  · rintro ⟨x, hx, hpq⟩
    obtain ⟨j, hj, rfl⟩ := List.getElem_of_mem hx
    rw [Bool.and_eq_true] at hpq
    exact ⟨(j : Int), mem_idxs.mpr ⟨j, hj, rfl, hpq.1⟩, by simpa [hj] using hpq.2⟩
  · rintro ⟨i, hi, hq⟩
    obtain ⟨j, hj, rfl, hp⟩ := mem_idxs.mp hi
    refine ⟨l[j], by simp, ?_⟩
    rw [hp]
    simpa [hj] using hq

noncomputable def X57 : Fx := ⟨Try.prog, tys, 57, Try.f57, [0, 1, 2]⟩
theorem X57_ok : X57.Ok := ⟨Try.func57, tys_ok⟩
theorem mayLend_ct (d : Dk) (c : Cp) (e1 e2 e3 : Bool) (w : Int) (hd : dkOk d) : Ct Try.prog 57 [dkR e1 e2 d, i8 w, cpR e3 c] (bo (mayP d w c)) [] := by
  refine Ct.intro X57 X57_ok rfl rfl rfl rfl fun g hg => ?_
  repeat (refine Run.go rfl ?_)
  refine Run.bool 10 rfl (fun h1 => ?_) (fun h1 => ?_)
  · have h1 : stMay w c = true := by simp at h1; simp [stMay, h1]
    repeat (refine Run.go rfl ?_)
    refine Run.bool 15 rfl (fun h => ?_) (fun h => by simp at h)
    repeat (refine Run.go rfl ?_)
    refine Run.cs rfl (loans_ct d e1 e2 w hd) rfl (rf64 _) ?_
    refine Run.freeze 18 rfl rfl rfl ?_
    repeat (refine Run.go rfl ?_)
    refine Run.bool 22 rfl (fun h2 => ?_) (fun h2 => ?_)
    · have h2 : (idxs (lentTo w) d.cs).length < 3 := by
        have := of_decide_eq_true h2
        rw [frz64, List.length_map] at this
        exact Int.ofNat_lt.mp this
      repeat (refine Run.go rfl ?_)
      refine Run.cs rfl (containsC_ct d.cs e1 e2 _ [.rp [i8 w] 0, .rp (dkR e1 e2 d).cells 0] (fun x => lentTo w x && over d.day x) hd.1 rfl fun x hx => mayLend1_ct x d e1 e2 e2 w) rfl rfl ?_
      repeat (refine Run.go rfl ?_)
      refine Run.ret hg rfl ?_
      show bo (!d.cs.any fun x => lentTo w x && over d.day x) = _
      simp only [mayP, h1, h2, decide_true, Bool.true_and]
    · have h2 : ¬ (idxs (lentTo w) d.cs).length < 3 := by
        have := of_decide_eq_false h2
        rw [frz64, List.length_map] at this
        exact fun h => this (Int.ofNat_lt.mpr h)
      repeat (refine Run.go rfl ?_)
      refine Run.ret hg rfl ?_
      show bo false = _
      simp only [mayP, h1, h2, decide_false, Bool.true_and, Bool.false_and]
  · have h0 : c.st ≠ 0 := by simpa using h1
    have he : stMay w c = (decide (c.st = 2) && decide (c.who = w)) := by simp [stMay, h0]
    repeat (refine Run.go rfl ?_)
    refine Run.cs rfl (isHeld_ct c e3 w) rfl rfl ?_
    rw [← he]
    repeat (refine Run.go rfl ?_)
    refine Run.bool 15 rfl (fun h1 => ?_) (fun h1 => ?_)
    · have h1 : stMay w c = true := h1
      repeat (refine Run.go rfl ?_)
      refine Run.cs rfl (loans_ct d e1 e2 w hd) rfl (rf64 _) ?_
      refine Run.freeze 18 rfl rfl rfl ?_
      repeat (refine Run.go rfl ?_)
      refine Run.bool 22 rfl (fun h2 => ?_) (fun h2 => ?_)
      · have h2 : (idxs (lentTo w) d.cs).length < 3 := by
          have := of_decide_eq_true h2
          rw [frz64, List.length_map] at this
          exact Int.ofNat_lt.mp this
        repeat (refine Run.go rfl ?_)
        refine Run.cs rfl (containsC_ct d.cs e1 e2 _ [.rp [i8 w] 0, .rp (dkR e1 e2 d).cells 0] (fun x => lentTo w x && over d.day x) hd.1 rfl fun x hx => mayLend1_ct x d e1 e2 e2 w) rfl rfl ?_
        repeat (refine Run.go rfl ?_)
        refine Run.ret hg rfl ?_
        show bo (!d.cs.any fun x => lentTo w x && over d.day x) = _
        simp only [mayP, h1, h2, decide_true, Bool.true_and]
      · have h2 : ¬ (idxs (lentTo w) d.cs).length < 3 := by
          have := of_decide_eq_false h2
          rw [frz64, List.length_map] at this
          exact fun h => this (Int.ofNat_lt.mpr h)
        repeat (refine Run.go rfl ?_)
        refine Run.ret hg rfl ?_
        show bo false = _
        simp only [mayP, h1, h2, decide_false, Bool.true_and, Bool.false_and]
    · have h1 : stMay w c = false := h1
      repeat (refine Run.go rfl ?_)
      refine Run.bool 22 rfl (fun h2 => by simp at h2) (fun h2 => ?_)
      repeat (refine Run.go rfl ?_)
      refine Run.ret hg rfl ?_
      show bo false = _
      simp only [mayP, h1, Bool.false_and]

noncomputable def X89 : Fx := ⟨Try.prog, tys, 89, Try.f89, [0, 1, 2]⟩
theorem X89_ok : X89.Ok := ⟨Try.func89, tys_ok⟩
theorem l06Lends_ct (d : Dk) (e1 e2 : Bool) (w : Int) (j : Nat) (hd : dkOk d) (hr : dkRng d) (hj : j < d.cs.length) : Ct Try.prog 89 [.rp (dkR e1 e2 d).cells 0, i64 w, i64 j] (bo (mayP d w d.cs[j])) [] := by
  have hl := hd.1
  have ew : IntKind.i64.wrap d.cs[j].who = d.cs[j].who := w64' (hr.2 d.cs[j] (by simp)).2.1
  refine Ct.intro X89 X89_ok rfl rfl rfl rfl fun g hg => ?_
  repeat (refine Run.go rfl ?_)
  refine Run.val rfl rfl rfl (ValOk.idx (cpR e2 d.cs[j]) rfl rfl rfl rfl rfl (by omega) (by simp [hj])) rfl ?_
  iterate 4 (refine Run.go rfl ?_)
  refine Run.region ⟨[(0, .rp (dkR e1 e2 d).cells 0), (1, i64 w), (36, bo (!stMay w d.cs[j]))], []⟩ ?_ fun _ hN => ?_
  rotate_left
  · repeat (refine Run.go rfl ?_)
    refine Run.bool 21 rfl (fun hA => ?_) (fun hA => ?_)
    · have hA : d.cs[j].st ≠ 0 := by simpa using hA
      repeat (refine Run.go rfl ?_)
      refine Run.bool 27 rfl (fun hB => ?_) (fun hB => ?_)
      · have hB : d.cs[j].st ≠ 2 := by simpa using hB
        repeat (refine Run.go rfl ?_)
        refine Run.of hN ⟨rfl, rfl, ?_, trivial⟩ trivial
        show bo _ = bo _
        simp [stMay, hA, hB]
      · have hB : d.cs[j].st = 2 := by simpa using hB
        repeat (refine Run.go rfl ?_)
        rw [ew]
        refine Run.of hN ⟨rfl, rfl, ?_, trivial⟩ trivial
        show bo (d.cs[j].who != w) = bo _
        by_cases hw : d.cs[j].who = w <;> simp [stMay, hB, hw]
    · have hA : d.cs[j].st = 0 := by simpa using hA
      repeat (refine Run.go rfl ?_)
      refine Run.of hN ⟨rfl, rfl, ?_, trivial⟩ trivial
      show bo _ = bo _
      simp [stMay, hA]
  refine Run.cond rfl (fun h => ?_) (fun h => ?_)
  · have h : stMay w d.cs[j] = false := by simpa using h
    repeat (refine Run.go rfl ?_)
    refine Run.ret hg rfl ?_
    show bo false = _
    simp only [mayP, h, Bool.false_and]
  have hs : stMay w d.cs[j] = true := by simpa using h
  repeat (refine Run.go rfl ?_)
  refine Run.cs rfl (l06Loans_ct d e1 e2 w hd hr) rfl (rf64 _) ?_
  refine Run.freeze (v' := .ro 1 false ((idxs (lentTo w) d.cs).map i64)) 39 rfl rfl (by show AV.ro _ _ (AV.frzL _) = _; rw [frz64]) ?_
  repeat (refine Run.go rfl ?_)
  generalize hL : idxs (lentTo w) d.cs = L
  have hLm : ∀ x ∈ L, ∃ i : Nat, ∃ h : i < d.cs.length, x = i ∧ lentTo w d.cs[i] = true := fun x hx => mem_idxs.mp (by rw [hL]; exact hx)
  have hLl : L.length ≤ 1048576 := by rw [← hL]; have := idxs_len (lentTo w) d.cs; omega
  have hm : ∀ c, stMay w c = true → mayP d w c = (decide (L.length < 3) && !L.any fun i => over d.day (d.cs.getD i.toNat cp0)) := by
    intro c hc
    simp only [mayP, hc, Bool.true_and, any_idxs, hL]
  rw [hm _ hs] at hg
  refine Run.loop (fun k : Nat => ⟨[(0, .rp (dkR e1 e2 d).cells 0), (8, .ro 1 false (L.map i64)), (9, i64 k)], []⟩) (fun k => k ≤ L.length ∧ ((L.take k).any fun i => over d.day (d.cs.getD i.toNat cp0)) = false) (fun k => L.length - k) 0 ⟨by omega, rfl⟩ ?_ ?_
  · exact St.Le.mk' ⟨rfl, rfl, rfl, trivial⟩ trivial
  rintro k ⟨hk, hany⟩ IH
  repeat (refine Run.go rfl ?_)
  refine Run.cond rfl (fun h => ?_) (fun h => ?_)
  · have hlt : k < L.length := by simpa using h
    obtain ⟨i, hi, he, _⟩ := hLm L[k] (by simp)
    repeat (refine Run.go rfl ?_)
    refine Run.draw (by kernel_rfl) (by decide +kernel) ?_
    repeat (refine Quiet.go rfl ?_)
    refine Quiet.val rfl rfl (ValOk.idx (i64 i) rfl rfl rfl rfl rfl (by omega) (by simp [hlt, he])) rfl ?_
    repeat (refine Quiet.go rfl ?_)
    refine Quiet.val rfl rfl (ValOk.idx (cpR e2 d.cs[i]) rfl rfl rfl rfl rfl (by omega) (by simp [hi])) rfl ?_
    repeat (refine Quiet.go rfl ?_)
    refine Quiet.cs rfl rfl rfl rfl rfl (l06Overdue_ct d.cs[i] e2 d.day) rfl rfl ?_
    repeat (refine Quiet.go rfl ?_)
    refine Quiet.nil ?_
    have hat : over d.day (d.cs.getD (L[k]).toNat cp0) = over d.day d.cs[i] := by rw [he]; simp [hi]
    repeat (refine Run.go rfl ?_)
    refine Run.cond rfl (fun h => ?_) (fun h => ?_)
    · have h : over d.day d.cs[i] = true := h
      repeat (refine Run.go rfl ?_)
      refine Run.ret hg rfl ?_
      show bo false = _
      have : (L.any fun i => over d.day (d.cs.getD i.toNat cp0)) = true := List.any_eq_true.mpr ⟨L[k], by simp, by rw [hat]; exact h⟩
      simp only [this, Bool.not_true, Bool.and_false]
    · have h : over d.day d.cs[i] = false := h
      repeat (refine Run.go rfl ?_)
      refine Run.of (IH (k + 1) ⟨by omega, ?_⟩ (by omega)) ⟨rfl, rfl, ?_, trivial⟩ trivial
      · rw [List.take_succ_eq_append_getElem hlt, List.any_append, hany]
        simp only [List.any_cons, List.any_nil, hat, h, Bool.or_false]
      · show i64 _ = _
        rw [wrap_i64 (by omega) (by omega)]
        rfl
  · have hk' : k = L.length := by simp at h; omega
    subst hk'
    rw [List.take_length] at hany
    repeat (refine Run.go rfl ?_)
    refine Run.ret hg rfl ?_
    rw [hany]
    show bo (decide (((L.map i64).length : Int) < 3)) = _
    rw [List.length_map]
    simp only [Bool.not_false, Bool.and_true]
    exact congrArg bo (decide_eq_decide.mpr (by omega))

def mayRes (d : Dk) (who book : Int) : Bool × Int := if dCode d who book = 0 then (mayP d who (d.cs.getD book.toNat cp0), 0) else (false, dCode d who book)

noncomputable def X20 : Fx := ⟨Try.prog, tys, 20, Try.f20, [0, 1, 2]⟩
theorem X20_ok : X20.Ok := ⟨Try.func20, tys_ok⟩
theorem implMayLend_ct (d : Dk) (e1 e2 : Bool) (who book : Int) (hd : dkOk d) (hr : dkRng d) : Ct Try.prog 20 [dkR e1 e2 d, i64 who, i64 book] (.tup [bo (mayRes d who book).1, i64 (mayRes d who book).2]) [] := by
  refine Ct.intro X20 X20_ok rfl rfl rfl rfl fun g hg => ?_
  repeat (refine Run.go rfl ?_)
  refine Run.cs rfl (deskCode_ct d e1 e2 who book hd hr) rfl rfl ?_
  repeat (refine Run.go rfl ?_)
  refine Run.cond rfl (fun h => ?_) (fun h => ?_)
  · repeat (refine Run.go rfl ?_)
    refine Run.ret hg rfl ?_
    simp at h
    simp [mayRes, h]
    rfl
  · have h : dCode d who book = 0 := by simpa using h
    obtain ⟨_, hw, j, rfl, hj⟩ := dCode_0 h
    have ew := inr_wrap hw
    repeat (refine Run.go rfl ?_)
    refine Run.draw (by kernel_rfl) (by decide +kernel) ?_
    repeat (refine Quiet.go rfl ?_)
    refine Quiet.val rfl rfl (ValOk.idx (cpR e2 d.cs[j]) rfl rfl rfl rfl rfl (by omega) (by simp [hj])) rfl ?_
    repeat (refine Quiet.go rfl ?_)
    rw [ew]
    refine Quiet.cs rfl rfl rfl rfl rfl (mayLend_ct d d.cs[j] e1 e2 e2 who hd) rfl rfl ?_
    repeat (refine Quiet.go rfl ?_)
    refine Quiet.nil ?_
    repeat (refine Run.go rfl ?_)
    refine Run.ret hg rfl ?_
    simp [mayRes, h, hj]
    rfl
end Go.Proofs.Ytlccbfdeonmljaa

/- Contracts of the program's functions, and what follows from them. -/
set_option maxRecDepth 100000
namespace Go.Proofs.Ytlccbfdeonmljaa
open Go Go.Av

/-! How many copies have each state. -/

def nst (s : Int) (l : List Cp) : Nat := (l.filter fun c => c.st == s).length
theorem nst_step {s : Int} {l : List Cp} {j : Nat} (h : j < l.length) : nst s (l.take (j + 1)) = nst s (l.take j) + (if l[j].st = s then 1 else 0) := by
  rw [List.take_succ_eq_append_getElem h, nst, List.filter_append, List.length_append]
  congr 1
  by_cases e : l[j].st = s <;> simp [e]
theorem nst_le (s : Int) (l : List Cp) (j : Nat) : nst s (l.take j) ≤ l.length := by
  refine Nat.le_trans (List.length_filter_le _ _) ?_
  rw [List.length_take]
  omega
theorem vC_st {c : Cp} {day : Int} (h : vC c day = true) : c.st = 0 ∨ c.st = 1 ∨ c.st = 2 := by
  unfold vC at h
  split at h
  · rename_i h0
    exact Or.inl h0
  · simp only [Bool.and_eq_true, Bool.or_eq_true, decide_eq_true_eq] at h
    omega

def c3 (a b c : Nat) : AV := .agg [i64 a, i64 b, i64 c]
def cntA (l : List Cp) : AV := c3 (nst 0 l) (nst 1 l) (nst 2 l)
def cntRes (d : Dk) : AV := if vD d then .tup [cntA d.cs, i64 0] else .tup [c3 0 0 0, i64 1]

noncomputable def X12 : Fx := ⟨Try.prog, tys, 12, Try.f12, [0]⟩
theorem X12_ok : X12.Ok := ⟨Try.func12, tys_ok⟩
theorem implCountStates_ct (d : Dk) (e1 e2 : Bool) (hd : dkOk d) (hr : dkRng d) : Ct Try.prog 12 [dkR e1 e2 d] (cntRes d) [] := by
  refine Ct.intro X12 X12_ok rfl rfl rfl rfl fun g hg => ?_
  repeat (refine Run.go rfl ?_)
  refine Run.cs rfl (implValidDesk_ct d e1 e2 hd hr) rfl rfl ?_
  repeat (refine Run.go rfl ?_)
  refine Run.cond rfl (fun h => ?_) (fun h => ?_)
  · repeat (refine Run.go rfl ?_)
    refine Run.ret hg rfl ?_
    have h : vD d = false := by simpa using h
    rw [cntRes, h]
    rfl
  have hv : vD d = true := by simpa using h
  have hl := vD_len hv
  repeat (refine Run.go rfl ?_)
  refine Run.loop (fun j : Nat => ⟨[(2, .bp (2, 0) 0), (4, .bp (4, 0) 0), (12, .ro 5 e1 (d.cs.map (cpR e2))), (13, i64 d.cs.length), (14, i64 j)], [((2, 0), .box (c3 0 0 0).cells), ((4, 0), .box (cntA (d.cs.take j)).cells)]⟩) (fun j => j ≤ d.cs.length) (fun j => d.cs.length - j) 0 (by omega) ?_ ?_
  · refine St.Le.mk' ⟨rfl, rfl, rfl, ?_, rfl, trivial⟩ ⟨rfl, rfl, trivial⟩
    show i64 (d.cs.map (cpR e2)).length = _
    rw [List.length_map]
  · intro j hj IH
    repeat (refine Run.go rfl ?_)
    refine Run.cond rfl (fun h => ?_) (fun h => ?_)
    · have hlt : j < d.cs.length := by simpa using h
      have n0 := nst_le 0 d.cs j
      have n1 := nst_le 1 d.cs j
      have n2 := nst_le 2 d.cs j
      repeat (refine Run.go rfl ?_)
      refine Run.val rfl rfl rfl (ValOk.idx (cpR e2 d.cs[j]) rfl rfl rfl rfl rfl (by omega) (by simp [hlt])) rfl ?_
      repeat (refine Run.go rfl ?_)
      have e0 := nst_step (s := 0) hlt
      have e1' := nst_step (s := 1) hlt
      have e2' := nst_step (s := 2) hlt
      rcases vC_st (vD_cp hv d.cs[j] (by simp)) with hs | hs | hs
      · rw [hs] at e0 e1' e2'
        simp at e0 e1' e2'
        rw [hs]
        repeat (refine Run.go rfl ?_)
        refine Run.of (IH (j + 1) (by omega) (by omega)) ⟨rfl, rfl, rfl, rfl, ?_, trivial⟩ ⟨rfl, ?_, trivial⟩
        · show i64 _ = _
          rw [wrap_i64 (by omega) (by omega)]
          rfl
        · show Ob.box [i64 (IntKind.i64.wrap ((nst 0 (d.cs.take j) : Nat) + 1)), i64 ((nst 1 (d.cs.take j) : Nat) : Int), i64 ((nst 2 (d.cs.take j) : Nat) : Int)] = Ob.box [i64 ((nst 0 (d.cs.take (j + 1)) : Nat) : Int), i64 ((nst 1 (d.cs.take (j + 1)) : Nat) : Int), i64 ((nst 2 (d.cs.take (j + 1)) : Nat) : Int)]
          rw [e0, e1', e2', wrap_i64 (by omega) (by omega)]
          rfl
      · rw [hs] at e0 e1' e2'
        simp at e0 e1' e2'
        rw [hs]
        repeat (refine Run.go rfl ?_)
        refine Run.of (IH (j + 1) (by omega) (by omega)) ⟨rfl, rfl, rfl, rfl, ?_, trivial⟩ ⟨rfl, ?_, trivial⟩
        · show i64 _ = _
          rw [wrap_i64 (by omega) (by omega)]
          rfl
        · show Ob.box [i64 ((nst 0 (d.cs.take j) : Nat) : Int), i64 (IntKind.i64.wrap ((nst 1 (d.cs.take j) : Nat) + 1)), i64 ((nst 2 (d.cs.take j) : Nat) : Int)] = Ob.box [i64 ((nst 0 (d.cs.take (j + 1)) : Nat) : Int), i64 ((nst 1 (d.cs.take (j + 1)) : Nat) : Int), i64 ((nst 2 (d.cs.take (j + 1)) : Nat) : Int)]
          rw [e0, e1', e2', wrap_i64 (by omega) (by omega)]
          rfl
      · rw [hs] at e0 e1' e2'
        simp at e0 e1' e2'
        rw [hs]
        repeat (refine Run.go rfl ?_)
        refine Run.of (IH (j + 1) (by omega) (by omega)) ⟨rfl, rfl, rfl, rfl, ?_, trivial⟩ ⟨rfl, ?_, trivial⟩
        · show i64 _ = _
          rw [wrap_i64 (by omega) (by omega)]
          rfl
        · show Ob.box [i64 ((nst 0 (d.cs.take j) : Nat) : Int), i64 ((nst 1 (d.cs.take j) : Nat) : Int), i64 (IntKind.i64.wrap ((nst 2 (d.cs.take j) : Nat) + 1))] = Ob.box [i64 ((nst 0 (d.cs.take (j + 1)) : Nat) : Int), i64 ((nst 1 (d.cs.take (j + 1)) : Nat) : Int), i64 ((nst 2 (d.cs.take (j + 1)) : Nat) : Int)]
          rw [e0, e1', e2', wrap_i64 (by omega) (by omega)]
          rfl
    · have hj' : j = d.cs.length := by simp at h; omega
      subst hj'
      rw [List.take_length]
      repeat (refine Run.go rfl ?_)
      refine Run.ret hg rfl ?_
      rw [cntRes, hv]
      rfl

end Go.Proofs.Ytlccbfdeonmljaa

/- Contracts of the program's functions, and what follows from them. -/
set_option maxRecDepth 100000
namespace Go.Proofs.Ytlccbfdeonmljaa
open Go Go.Av

/-! Slices of whole numbers: compared, marked, held. -/

/-! The sizes that the law lets in. -/

end Go.Proofs.Ytlccbfdeonmljaa

/- Contracts of the program's functions, and what follows from them. -/
set_option maxRecDepth 100000
namespace Go.Proofs.Ytlccbfdeonmljaa
open Go Go.Av

/-! Books as told, in a slice of their own. -/

def lsR (r : List Int × Int) : AV := .tup [.own 1 false (r.1.map i64), i64 r.2]
def offShelf (c : Cp) : Bool := decide (c.st ≠ 0)
def dumRes (d : Dk) : List Int × Int := if vD d then (idxs offShelf d.cs, 0) else ([], 1)

noncomputable def X46 : Fx := ⟨Try.prog, tys, 46, Try.f46, [0]⟩
theorem X46_ok : X46.Ok := ⟨Try.func46, tys_ok⟩
theorem dummies1_ct (c : Cp) (ex : Bool) : Ct Try.prog 46 [cpR ex c] (bo (offShelf c)) [] := by
  refine Ct.intro X46 X46_ok rfl rfl rfl rfl fun g hg => ?_
  repeat (refine Run.go rfl ?_)
  refine Run.ret hg rfl ?_
  show bo (c.st != 0) = bo _
  by_cases h : c.st = 0 <;> simp [offShelf, h]

noncomputable def X13 : Fx := ⟨Try.prog, tys, 13, Try.f13, [0]⟩
theorem X13_ok : X13.Ok := ⟨Try.func13, tys_ok⟩
theorem implDummies_ct (d : Dk) (e1 e2 : Bool) (hd : dkOk d) (hr : dkRng d) : Ct Try.prog 13 [dkR e1 e2 d] (lsR (dumRes d)) [] := by
  refine Ct.intro X13 X13_ok rfl rfl rfl rfl fun g hg => ?_
  repeat (refine Run.go rfl ?_)
  refine Run.cs rfl (implValidDesk_ct d e1 e2 hd hr) rfl rfl ?_
  repeat (refine Run.go rfl ?_)
  refine Run.cond rfl (fun h => ?_) (fun h => ?_)
  · have h : vD d = false := by simpa using h
    repeat (refine Run.go rfl ?_)
    refine Run.nilSlot 2 1 false rfl ?_
    refine Run.ret hg rfl ?_
    rw [dumRes, h]
    rfl
  have hv : vD d = true := by simpa using h
  repeat (refine Run.go rfl ?_)
  refine Run.cs rfl (which0_ct d e1 e2 _ offShelf hd fun c _ => dummies1_ct c e2) rfl (rf64 _) ?_
  repeat (refine Run.go rfl ?_)
  refine Run.ret hg rfl ?_
  rw [dumRes, hv]
  rfl

def loanRes (d : Dk) (who : Int) : List Int × Int := if vD d then (if inr who 0 49 then (idxs (lentTo who) d.cs, 0) else ([], 2)) else ([], 1)

def pCode (d : Dk) (who : Int) : Int := if vD d then (if inr who 0 49 then 0 else 2) else 1

noncomputable def X48 : Fx := ⟨Try.prog, tys, 48, Try.f48, [0, 1]⟩
theorem X48_ok : X48.Ok := ⟨Try.func48, tys_ok⟩
theorem personCode_ct (d : Dk) (e1 e2 : Bool) (who : Int) (hd : dkOk d) (hr : dkRng d) : Ct Try.prog 48 [dkR e1 e2 d, i64 who] (i64 (pCode d who)) [] := by
  refine Ct.intro X48 X48_ok rfl rfl rfl rfl fun g hg => ?_
  repeat (refine Run.go rfl ?_)
  refine Run.cs rfl (implValidDesk_ct d e1 e2 hd hr) rfl rfl ?_
  repeat (refine Run.go rfl ?_)
  refine Run.cond rfl (fun h => ?_) (fun h => ?_)
  · have h : vD d = false := by simpa using h
    repeat (refine Run.go rfl ?_)
    refine Run.ret hg rfl ?_
    rw [pCode, h]
    rfl
  have hv : vD d = true := by simpa using h
  repeat (refine Run.go rfl ?_)
  refine Run.cs rfl (isPerson64_ct who) rfl rfl ?_
  repeat (refine Run.go rfl ?_)
  refine Run.cond rfl (fun h => ?_) (fun h => ?_)
  · have h : inr who 0 49 = false := by simpa using h
    repeat (refine Run.go rfl ?_)
    refine Run.ret hg rfl ?_
    rw [pCode, hv, h]
    rfl
  have hw : inr who 0 49 = true := by simpa using h
  repeat (refine Run.go rfl ?_)
  refine Run.ret hg rfl ?_
  rw [pCode, hv, hw]
  rfl

noncomputable def X15 : Fx := ⟨Try.prog, tys, 15, Try.f15, [0, 1]⟩
theorem X15_ok : X15.Ok := ⟨Try.func15, tys_ok⟩
theorem implLoansOf_ct (d : Dk) (e1 e2 : Bool) (who : Int) (hd : dkOk d) (hr : dkRng d) : Ct Try.prog 15 [dkR e1 e2 d, i64 who] (lsR (loanRes d who)) [] := by
  refine Ct.intro X15 X15_ok rfl rfl rfl rfl fun g hg => ?_
  repeat (refine Run.go rfl ?_)
  refine Run.cs rfl (personCode_ct d e1 e2 who hd hr) rfl rfl ?_
  repeat (refine Run.go rfl ?_)
  refine Run.cond rfl (fun h => ?_) (fun h => ?_)
  · repeat (refine Run.go rfl ?_)
    refine Run.nilSlot 4 1 false rfl ?_
    refine Run.ret hg rfl ?_
    have : loanRes d who = ([], pCode d who) := by
      unfold pCode at h
      unfold loanRes pCode
      split
      · rename_i hv
        split
        · rename_i hw
          simp [hv, hw] at h
        · rfl
      · rfl
    rw [this]
    rfl
  have h : pCode d who = 0 := by simpa using h
  obtain ⟨hv, hw⟩ : vD d = true ∧ inr who 0 49 = true := by
    unfold pCode at h
    split at h
    · rename_i hv
      split at h
      · rename_i hw
        exact ⟨hv, hw⟩
      · cases h
    · cases h
  repeat (refine Run.go rfl ?_)
  rw [inr_wrap hw]
  refine Run.cs rfl (loans_ct d e1 e2 who hd) rfl (rf64 _) ?_
  repeat (refine Run.go rfl ?_)
  refine Run.ret hg rfl ?_
  rw [loanRes, hv, hw]
  rfl

end Go.Proofs.Ytlccbfdeonmljaa

/- Contracts of the program's functions, and what follows from them. -/
set_option maxRecDepth 100000
namespace Go.Proofs.Ytlccbfdeonmljaa
open Go Go.Av

/-! The book that is due next. -/

/-- The first member with the least value. -/
def mnL (F : Int → Int) : List Int → Int
  | [] => -1
  | x :: xs => xs.foldl (fun m y => if F y < F m then y else m) x

theorem mnL_snoc (F : Int → Int) (L : List Int) (y : Int) : mnL F (L ++ [y]) = if L = [] then y else if F y < F (mnL F L) then y else mnL F L := by
  cases L with
  | nil => rfl
  | cons x xs =>
    rw [if_neg (List.cons_ne_nil _ _)]
    show ((xs ++ [y]).foldl (fun m y => if F y < F m then y else m) x) = _
    rw [List.foldl_append]
    rfl

theorem mnL_mem (F : Int → Int) (L : List Int) (h : L ≠ []) : mnL F L ∈ L := by
  cases L with
  | nil => exact absurd rfl h
  | cons x xs =>
    simp only [mnL]
    clear h
    induction xs generalizing x with
    | nil => simp
    | cons z xs ih =>
      simp only [List.foldl_cons]
      have := ih (if F z < F x then z else x)
      split at this <;> rename_i hc
      · rw [if_pos hc]
        exact List.mem_cons_of_mem _ this
      · rw [if_neg hc]
        rcases List.mem_cons.mp this with h | h
        · rw [h]; simp
        · exact List.mem_cons_of_mem _ (List.mem_cons_of_mem _ h)

def cmpI (a b : Int) : Int := if a < b then -1 else if b < a then 1 else 0

noncomputable def X95 : Fx := ⟨Try.prog, tys, 95, Try.f95, [0]⟩
theorem X95_ok : X95.Ok := ⟨Try.func95, tys_ok⟩
theorem isNaN16_ct (a : Int) : Ct Try.prog 95 [i16 a] (bo false) [] := by
  refine Ct.intro X95 X95_ok rfl rfl rfl rfl fun g hg => ?_
  repeat (refine Run.go rfl ?_)
  refine Run.ret hg rfl ?_
  show bo (a != a) = _
  simp

noncomputable def X65 : Fx := ⟨Try.prog, tys, 65, Try.f65, [0, 1]⟩
theorem X65_ok : X65.Ok := ⟨Try.func65, tys_ok⟩
theorem compare16_ct (a b : Int) : Ct Try.prog 65 [i16 a, i16 b] (i64 (cmpI a b)) [] := by
  refine Ct.intro X65 X65_ok rfl rfl rfl rfl fun g hg => ?_
  repeat (refine Run.go rfl ?_)
  refine Run.cs rfl (isNaN16_ct a) rfl rfl ?_
  repeat (refine Run.go rfl ?_)
  refine Run.cs rfl (isNaN16_ct b) rfl rfl ?_
  repeat (refine Run.go rfl ?_)
  refine Run.cond rfl (fun h => by simp at h) (fun h => ?_)
  repeat (refine Run.go rfl ?_)
  refine Run.cond rfl (fun h => by simp at h) (fun h => ?_)
  repeat (refine Run.go rfl ?_)
  refine Run.cond rfl (fun h => ?_) (fun h => ?_)
  · repeat (refine Run.go rfl ?_)
    refine Run.ret hg rfl ?_
    have h : a < b := by simpa using h
    simp only [cmpI, if_pos h]
    rfl
  have h : ¬ a < b := by simpa using h
  repeat (refine Run.go rfl ?_)
  refine Run.cond rfl (fun h2 => ?_) (fun h2 => ?_)
  · repeat (refine Run.go rfl ?_)
    refine Run.ret hg rfl ?_
    have h2 : b < a := by simpa using h2
    simp only [cmpI, if_neg h, if_pos h2]
    rfl
  have h2 : ¬ b < a := by simpa using h2
  repeat (refine Run.go rfl ?_)
  refine Run.ret hg rfl ?_
  simp only [cmpI, if_neg h, if_neg h2]
  rfl

def dueOf (d : Dk) (i : Int) : Int := (d.cs.getD i.toNat cp0).due

noncomputable def X64 : Fx := ⟨Try.prog, tys, 64, Try.f64, [0, 1]⟩
theorem X64_ok : X64.Ok := ⟨Try.func64, tys_ok⟩
theorem nextDue2_ct (d : Dk) (e1 e2 : Bool) (i j : Nat) (hi : i < d.cs.length) (hj : j < d.cs.length) (hd : dkOk d) : Ct Try.prog 64 [i64 i, i64 j, .rp (dkR e1 e2 d).cells 0] (i64 (cmpI (dueOf d i) (dueOf d j))) [] := by
  have ei : dueOf d i = d.cs[i].due := by simp [dueOf, hi]
  have ej : dueOf d j = d.cs[j].due := by simp [dueOf, hj]
  rw [ei, ej]
  refine Ct.intro X64 X64_ok rfl rfl rfl rfl fun g hg => ?_
  repeat (refine Run.go rfl ?_)
  refine Run.draw (by kernel_rfl) (by decide +kernel) ?_
  repeat (refine Quiet.go rfl ?_)
  refine Quiet.val rfl rfl (ValOk.idx (cpR e2 d.cs[i]) rfl rfl rfl rfl rfl (by omega) (by simp [hi])) rfl ?_
  repeat (refine Quiet.go rfl ?_)
  refine Quiet.val rfl rfl (ValOk.idx (cpR e2 d.cs[j]) rfl rfl rfl rfl rfl (by omega) (by simp [hj])) rfl ?_
  repeat (refine Quiet.go rfl ?_)
  refine Quiet.cs rfl rfl rfl rfl rfl (compare16_ct d.cs[i].due d.cs[j].due) rfl rfl ?_
  repeat (refine Quiet.go rfl ?_)
  refine Quiet.nil ?_
  repeat (refine Run.go rfl ?_)
  exact Run.ret hg rfl rfl

theorem cmpI_neg {a b : Int} : decide (cmpI a b < 0) = decide (a < b) := by
  unfold cmpI
  split
  · rename_i h; simp [h]
  · rename_i h
    split <;> simp [h]

noncomputable def X63 : Fx := ⟨Try.prog, tys, 63, Try.f63, [0, 1]⟩
theorem X63_ok : X63.Ok := ⟨Try.func63, tys_ok⟩
theorem minFunc_ct (L : List Int) (ex : Bool) (f : Nat) (cs : List AV) (jj : Nat) (F : Int → Int) (hlen : L.length ≤ 1048576) (hne : L ≠ []) (hf : ∀ x ∈ L, ∀ y ∈ L, Ct Try.prog f [i64 x, i64 y, .rp cs jj] (i64 (cmpI (F x) (F y))) []) :
    Ct Try.prog 63 [.ro 1 ex (L.map i64), .fn f [.rp cs jj]] (i64 (mnL F L)) [] := by
  have hpos : 0 < L.length := List.length_pos_iff.mpr hne
  refine Ct.intro X63 X63_ok rfl rfl rfl rfl fun g hg => ?_
  repeat (refine Run.go rfl ?_)
  refine Run.cond rfl (fun h => by simp at h; omega) (fun h => ?_)
  repeat (refine Run.go rfl ?_)
  refine Run.val rfl rfl rfl (ValOk.idx (i64 L[0]) rfl rfl rfl rfl rfl (by omega) (by simp [hpos])) rfl ?_
  repeat (refine Run.go rfl ?_)
  refine Run.loop (fun j : Nat => ⟨[(0, .ro 1 ex (L.map i64)), (1, .fn f [.rp cs jj]), (5, i64 (mnL F (L.take j))), (6, i64 j)], []⟩) (fun j => 1 ≤ j ∧ j ≤ L.length) (fun j => L.length - j) 1 (by omega) ?_ ?_
  · refine St.Le.mk' ⟨rfl, rfl, ?_, rfl, trivial⟩ trivial
    show i64 L[0] = _
    congr 1
    cases L with
    | nil => exact absurd rfl hne
    | cons x xs => rfl
  · rintro j ⟨hj1, hj⟩ IH
    repeat (refine Run.go rfl ?_)
    refine Run.cond rfl (fun h => ?_) (fun h => ?_)
    · have hlt : j < L.length := by simpa using h
      have hnt : L.take j ≠ [] := by
        intro e
        have := congrArg List.length e
        rw [List.length_take, List.length_nil] at this
        omega
      have hm : mnL F (L.take j) ∈ L := List.mem_of_mem_take (mnL_mem F _ hnt)
      have hst := mnL_snoc F (L.take j) L[j]
      rw [← List.take_succ_eq_append_getElem hlt, if_neg hnt] at hst
      repeat (refine Run.go rfl ?_)
      refine Run.val rfl rfl rfl (ValOk.idx (i64 L[j]) rfl rfl rfl rfl rfl (by omega) (by simp [hlt])) rfl ?_
      repeat (refine Run.go rfl ?_)
      refine Run.cs rfl (hf L[j] (by simp) _ hm) rfl rfl ?_
      repeat (refine Run.go rfl ?_)
      refine Run.cond rfl (fun h => ?_) (fun h => ?_)
      · have h : F L[j] < F (mnL F (L.take j)) := by
          have h : decide (cmpI (F L[j]) (F (mnL F (L.take j))) < 0) = true := h
          rw [cmpI_neg] at h
          simpa using h
        rw [if_pos h] at hst
        repeat (refine Run.go rfl ?_)
        refine Run.val rfl rfl rfl (ValOk.idx (i64 L[j]) rfl rfl rfl rfl rfl (by omega) (by simp [hlt])) rfl ?_
        repeat (refine Run.go rfl ?_)
        refine Run.of (IH (j + 1) (by omega) (by omega)) ⟨rfl, rfl, ?_, ?_, trivial⟩ trivial
        · exact congrArg i64 hst.symm
        · show i64 _ = _
          rw [wrap_i64 (by omega) (by omega)]
          rfl
      · have h : ¬ F L[j] < F (mnL F (L.take j)) := by
          have h : decide (cmpI (F L[j]) (F (mnL F (L.take j))) < 0) = false := h
          rw [cmpI_neg] at h
          simpa using h
        rw [if_neg h] at hst
        repeat (refine Run.go rfl ?_)
        refine Run.of (IH (j + 1) (by omega) (by omega)) ⟨rfl, rfl, ?_, ?_, trivial⟩ trivial
        · exact congrArg i64 hst.symm
        · show i64 _ = _
          rw [wrap_i64 (by omega) (by omega)]
          rfl
    · have hj' : j = L.length := by simp at h; omega
      subst hj'
      rw [List.take_length]
      repeat (refine Run.go rfl ?_)
      exact Run.ret hg rfl rfl

def isL (c : Cp) : Bool := decide (c.st = 1)
def ndI (d : Dk) : Int := mnL (dueOf d) (idxs isL d.cs)
def ndRes (d : Dk) : Int × Int × Int := if vD d then (if idxs isL d.cs = [] then (0, 0, 6) else (ndI d, dueOf d (ndI d), 0)) else (0, 0, 1)
def r3 (r : Int × Int × Int) : AV := .tup [i64 r.1, i64 r.2.1, i64 r.2.2]

noncomputable def X62 : Fx := ⟨Try.prog, tys, 62, Try.f62, [0]⟩
theorem X62_ok : X62.Ok := ⟨Try.func62, tys_ok⟩
theorem nextDue1_ct (c : Cp) (ex : Bool) : Ct Try.prog 62 [cpR ex c] (bo (isL c)) [] := by
  refine Ct.intro X62 X62_ok rfl rfl rfl rfl fun g hg => ?_
  repeat (refine Run.go rfl ?_)
  refine Run.ret hg rfl ?_
  show bo (c.st == 1) = bo _
  by_cases h : c.st = 1 <;> simp [isL, h]

theorem ndI_at (d : Dk) (h : idxs isL d.cs ≠ []) : ∃ i : Nat, ndI d = i ∧ i < d.cs.length := by
  obtain ⟨j, hj, e, _⟩ := mem_idxs.mp (mnL_mem (dueOf d) _ h)
  exact ⟨j, e, hj⟩

noncomputable def X25 : Fx := ⟨Try.prog, tys, 25, Try.f25, [0]⟩
theorem X25_ok : X25.Ok := ⟨Try.func25, tys_ok⟩
theorem implNextDue_ct (d : Dk) (e1 e2 : Bool) (hd : dkOk d) (hr : dkRng d) : Ct Try.prog 25 [dkR e1 e2 d] (r3 (ndRes d)) [] := by
  refine Ct.intro X25 X25_ok rfl rfl rfl rfl fun g hg => ?_
  repeat (refine Run.go rfl ?_)
  refine Run.cs rfl (implValidDesk_ct d e1 e2 hd hr) rfl rfl ?_
  repeat (refine Run.go rfl ?_)
  refine Run.cond rfl (fun h => ?_) (fun h => ?_)
  · have h : vD d = false := by simpa using h
    repeat (refine Run.go rfl ?_)
    refine Run.ret hg rfl ?_
    rw [ndRes, h]
    rfl
  have hv : vD d = true := by simpa using h
  repeat (refine Run.go rfl ?_)
  refine Run.cs rfl (which0_ct d e1 e2 _ isL hd fun c _ => nextDue1_ct c e2) rfl (rf64 _) ?_
  refine Run.freeze (v' := .ro 1 false ((idxs isL d.cs).map i64)) 11 rfl rfl (by show AV.ro _ _ (AV.frzL _) = _; rw [frz64]) ?_
  repeat (refine Run.go rfl ?_)
  refine Run.cond rfl (fun h => ?_) (fun h => ?_)
  · have h : idxs isL d.cs = [] := by simpa using h
    repeat (refine Run.go rfl ?_)
    refine Run.ret hg rfl ?_
    rw [ndRes, hv, h]
    rfl
  have h : idxs isL d.cs ≠ [] := by simpa using h
  have hil := idxs_len isL d.cs
  have hlen := hd.1
  repeat (refine Run.go rfl ?_)
  refine Run.cs rfl (minFunc_ct (idxs isL d.cs) false _ (dkR e1 e2 d).cells 0 (dueOf d) (by omega) h ?_) rfl rfl ?_
  · intro x hx y hy
    obtain ⟨i, hi, rfl, _⟩ := mem_idxs.mp hx
    obtain ⟨j, hj, rfl, _⟩ := mem_idxs.mp hy
    exact nextDue2_ct d e1 e2 i j hi hj hd
  obtain ⟨i, ei, hi⟩ := ndI_at d h
  have ew : IntKind.i64.wrap d.cs[i].due = d.cs[i].due := w64 (hr.2 d.cs[i] (by simp)).2.2.1
  rw [show mnL (dueOf d) (idxs isL d.cs) = (i : Int) from ei]
  repeat (refine Run.go rfl ?_)
  refine Run.draw (by kernel_rfl) (by decide +kernel) ?_
  repeat (refine Quiet.go rfl ?_)
  refine Quiet.val rfl rfl (ValOk.idx (cpR e2 d.cs[i]) rfl rfl rfl rfl rfl (by omega) (by simp [hi])) rfl ?_
  repeat (refine Quiet.go rfl ?_)
  rw [ew]
  refine Quiet.nil ?_
  repeat (refine Run.go rfl ?_)
  refine Run.ret hg rfl ?_
  rw [ndRes, hv, if_pos rfl, if_neg h, ei]
  simp only [r3, dueOf, Int.toNat_natCast, List.getD_eq_getElem?_getD, List.getElem?_eq_getElem hi, Option.getD_some]
  rfl

theorem mnL_idxs {d : Dk} {j : Nat} (h : j < d.cs.length) : mnL (dueOf d) (idxs isL (d.cs.take (j + 1))) =
    if isL d.cs[j] = true ∧ (mnL (dueOf d) (idxs isL (d.cs.take j)) < 0 ∨ d.cs[j].due < dueOf d (mnL (dueOf d) (idxs isL (d.cs.take j)))) then (j : Int) else mnL (dueOf d) (idxs isL (d.cs.take j)) := by
  rw [idxs_step h]
  have ed : dueOf d (j : Int) = d.cs[j].due := by simp [dueOf, h]
  by_cases hl : isL d.cs[j] = true
  · rw [if_pos hl, mnL_snoc]
    by_cases he : idxs isL (d.cs.take j) = []
    · rw [if_pos he, he, if_pos ⟨hl, Or.inl (show (-1 : Int) < 0 by decide)⟩]
    · rw [if_neg he]
      have hn : ¬ mnL (dueOf d) (idxs isL (d.cs.take j)) < 0 := by
        obtain ⟨i, hi, e, _⟩ := mem_idxs.mp (mnL_mem (dueOf d) _ he)
        omega
      rw [ed]
      by_cases hc : d.cs[j].due < dueOf d (mnL (dueOf d) (idxs isL (d.cs.take j)))
      · rw [if_pos hc, if_pos ⟨hl, Or.inr hc⟩]
      · rw [if_neg hc, if_neg (fun h => h.2.elim hn hc)]
  · rw [if_neg hl, if_neg (fun h => hl h.1)]

theorem mnL_neg {d : Dk} {l : List Cp} : mnL (dueOf d) (idxs isL l) < 0 ↔ idxs isL l = [] := by
  constructor
  · intro h
    apply Classical.byContradiction
    intro he
    obtain ⟨i, hi, e, _⟩ := mem_idxs.mp (mnL_mem (dueOf d) _ he)
    omega
  · intro h
    rw [h]
    exact (show (-1 : Int) < 0 by decide)

noncomputable def X26 : Fx := ⟨Try.prog, tys, 26, Try.f26, [0]⟩
theorem X26_ok : X26.Ok := ⟨Try.func26, tys_ok⟩
theorem specNextDue_ct (d : Dk) (e1 e2 : Bool) (hd : dkOk d) (hr : dkRng d) : Ct Try.prog 26 [dkR e1 e2 d] (r3 (ndRes d)) [] := by
  have hlen := hd.1
  refine Ct.intro X26 X26_ok rfl rfl rfl rfl fun g hg => ?_
  repeat (refine Run.go rfl ?_)
  refine Run.cs rfl (l06Ok_ct d e1 e2 hd hr) rfl rfl ?_
  repeat (refine Run.go rfl ?_)
  refine Run.cond rfl (fun h => ?_) (fun h => ?_)
  · have h : vD d = false := by simpa using h
    repeat (refine Run.go rfl ?_)
    refine Run.ret hg rfl ?_
    rw [ndRes, h]
    rfl
  have hv : vD d = true := by simpa using h
  repeat (refine Run.go rfl ?_)
  refine Run.loop (fun j : Nat => ⟨[(1, .bp (1, 0) 0), (5, i64 (mnL (dueOf d) (idxs isL (d.cs.take j)))), (6, i64 j)], [((1, 0), .box (dkR e1 e2 d).cells)]⟩) (fun j => j ≤ d.cs.length) (fun j => d.cs.length - j) 0 (by omega) ?_ ?_
  · exact St.Le.mk' ⟨rfl, rfl, rfl, trivial⟩ ⟨rfl, trivial⟩
  · intro j hj IH
    repeat (refine Run.go rfl ?_)
    refine Run.cond rfl (fun h => ?_) (fun h => ?_)
    · have hlt : j < d.cs.length := by simpa using h
      have hst := mnL_idxs hlt
      have hneg : ∀ h : ¬ mnL (dueOf d) (idxs isL (d.cs.take j)) < 0, ∃ i : Nat, mnL (dueOf d) (idxs isL (d.cs.take j)) = i ∧ i < d.cs.length := by
        intro h
        obtain ⟨i, hi, e, _⟩ := mem_idxs.mp (mnL_mem (dueOf d) _ (fun he => h (mnL_neg.mpr he)))
        exact ⟨i, e, by rw [List.length_take] at hi; omega⟩
      generalize hA : mnL (dueOf d) (idxs isL (d.cs.take j)) = A at hst hneg
      repeat (refine Run.go rfl ?_)
      refine Run.drawS ⟨[(1, .bp (1, 0) 0), (5, i64 A), (6, i64 j), (41, bo (isL d.cs[j] && (decide (A < 0) || decide (d.cs[j].due < dueOf d A))))], [((1, 0), .box (dkR e1 e2 d).cells)]⟩ (by kernel_rfl) (by decide +kernel) ?_ ?_
      · repeat (refine Quiet.go rfl ?_)
        refine Quiet.val rfl rfl (ValOk.idx (cpR e2 d.cs[j]) rfl rfl rfl rfl rfl (by omega) (by simp [hlt])) rfl ?_
        repeat (refine Quiet.go rfl ?_)
        refine Quiet.bool 23 rfl (fun h1 => ?_) (fun h1 => ?_)
        · have h1 : isL d.cs[j] = true := by simpa [isL] using h1
          repeat (refine Quiet.go rfl ?_)
          refine Quiet.bool 26 rfl (fun h2 => ?_) (fun h2 => ?_)
          · have h2 : A < 0 := by simpa using h2
            repeat (refine Quiet.go rfl ?_)
            refine Quiet.nil (St.Le.mk' ⟨rfl, rfl, rfl, ?_, trivial⟩ ⟨rfl, trivial⟩)
            show bo true = bo _
            simp [h1, h2]
          · have h2 : ¬ A < 0 := by simpa using h2
            obtain ⟨i, rfl, hi⟩ := hneg h2
            have ed : dueOf d (i : Int) = d.cs[i].due := by simp [dueOf, hi]
            repeat (refine Quiet.go rfl ?_)
            refine Quiet.val rfl rfl (ValOk.idx (cpR e2 d.cs[j]) rfl rfl rfl rfl rfl (by omega) (by simp [hlt])) rfl ?_
            repeat (refine Quiet.go rfl ?_)
            refine Quiet.val rfl rfl (ValOk.idx (cpR e2 d.cs[i]) rfl rfl rfl rfl rfl (by omega) (by simp [hi])) rfl ?_
            repeat (refine Quiet.go rfl ?_)
            refine Quiet.nil (St.Le.mk' ⟨rfl, rfl, rfl, ?_, trivial⟩ ⟨rfl, trivial⟩)
            show bo (decide (d.cs[j].due < d.cs[i].due)) = bo _
            rw [ed, h1, Bool.true_and, decide_eq_false h2, Bool.false_or]
        · have h1 : isL d.cs[j] = false := by simpa [isL] using h1
          repeat (refine Quiet.go rfl ?_)
          refine Quiet.nil (St.Le.mk' ⟨rfl, rfl, rfl, ?_, trivial⟩ ⟨rfl, trivial⟩)
          show bo false = bo _
          rw [h1, Bool.false_and]
      refine Run.cond rfl (fun h => ?_) (fun h => ?_)
      · have h : isL d.cs[j] = true ∧ (A < 0 ∨ d.cs[j].due < dueOf d A) := by simpa using h
        rw [if_pos h] at hst
        repeat (refine Run.go rfl ?_)
        refine Run.of (IH (j + 1) (by omega) (by omega)) ⟨rfl, ?_, ?_, trivial⟩ ⟨rfl, trivial⟩
        · exact congrArg i64 hst.symm
        · show i64 _ = _
          rw [wrap_i64 (by omega) (by omega)]
          rfl
      · have h : ¬ (isL d.cs[j] = true ∧ (A < 0 ∨ d.cs[j].due < dueOf d A)) := by
          have h : (isL d.cs[j] && (decide (A < 0) || decide (d.cs[j].due < dueOf d A))) = false := h
          intro hh
          simp [hh] at h
          omega
        rw [if_neg h] at hst
        repeat (refine Run.go rfl ?_)
        refine Run.of (IH (j + 1) (by omega) (by omega)) ⟨rfl, ?_, ?_, trivial⟩ ⟨rfl, trivial⟩
        · exact congrArg i64 hst.symm
        · show i64 _ = _
          rw [wrap_i64 (by omega) (by omega)]
          rfl
    · have hj' : j = d.cs.length := by simp at h; omega
      subst hj'
      rw [List.take_length]
      repeat (refine Run.go rfl ?_)
      refine Run.cond rfl (fun h => ?_) (fun h => ?_)
      · have h : idxs isL d.cs = [] := mnL_neg.mp (of_decide_eq_true h)
        repeat (refine Run.go rfl ?_)
        refine Run.ret hg rfl ?_
        rw [ndRes, hv, if_pos rfl, if_pos h]
        rfl
      · have h : idxs isL d.cs ≠ [] := fun he => of_decide_eq_false h (mnL_neg.mpr he)
        obtain ⟨i, ei, hi⟩ := ndI_at d h
        have ew : IntKind.i64.wrap d.cs[i].due = d.cs[i].due := w64 (hr.2 d.cs[i] (by simp)).2.2.1
        rw [show mnL (dueOf d) (idxs isL d.cs) = (i : Int) from ei]
        repeat (refine Run.go rfl ?_)
        refine Run.draw (by kernel_rfl) (by decide +kernel) ?_
        repeat (refine Quiet.go rfl ?_)
        refine Quiet.val rfl rfl (ValOk.idx (cpR e2 d.cs[i]) rfl rfl rfl rfl rfl (by omega) (by simp [hi])) rfl ?_
        repeat (refine Quiet.go rfl ?_)
        rw [ew]
        refine Quiet.nil ?_
        repeat (refine Run.go rfl ?_)
        refine Run.ret hg rfl ?_
        rw [ndRes, hv, if_pos rfl, if_neg h, ei]
        simp only [r3, dueOf, Int.toNat_natCast, List.getD_eq_getElem?_getD, List.getElem?_eq_getElem hi, Option.getD_some]
        rfl
end Go.Proofs.Ytlccbfdeonmljaa
