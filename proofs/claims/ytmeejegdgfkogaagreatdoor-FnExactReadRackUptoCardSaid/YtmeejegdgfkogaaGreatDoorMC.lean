/- Parts of a proof, in one text: B1, B2, BRd, B4, B5, B6, B7, B8, B9. -/
import Derived.Test.YtmeejegdgfkogaaGreatDoorMD
import Derived.Test.YtmeejegdgfkogaaGreatDoorMF
import Derived.Test.YtmeejegdgfkogaaGreatDoorAvRow
set_option linter.unusedVariables false

/- Contracts of the program's functions, and what follows from them. -/
set_option maxRecDepth 100000
namespace Go.Proofs.YtmeejegdgfkogaaGreatDoor
open Go Go.Av

/-! Books: copied, measured, compared. -/

structure Bk where
  cl : Int
  a : Int
  b : Int
  c : Int
  vol : Int
  wd : Int
  hi : Int
  wt : Int
  deriving DecidableEq

def bkV (x : Bk) : List Value := [.int .i16 x.cl, .int .u8 x.a, .int .u8 x.b, .int .u8 x.c, .int .i16 x.vol, .int .i16 x.wd, .int .i16 x.hi, .int .i16 x.wt]
def bkA (x : Bk) : AV := .agg [i16 x.cl, u8 x.a, u8 x.b, u8 x.c, i16 x.vol, i16 x.wd, i16 x.hi, i16 x.wt]
def bk0 : Bk := ⟨0, 0, 0, 0, 0, 0, 0, 0⟩
theorem bk_rf (x : Bk) : (bkA x).rf = true := rfl
theorem bk_frz (x : Bk) : (bkA x).frz = bkA x := rfl
theorem frzB (l : List Bk) : AV.frzL (l.map bkA) = l.map bkA := frzL_map bk_frz l
theorem rfB (l : List Bk) : AV.rfL (l.map bkA) = true := rfL_map bk_rf l
def m3 (a b c : Int) : Nat → AV
  | 0 => .agg [u8 0, u8 0, u8 0]
  | 1 => .agg [u8 a, u8 0, u8 0]
  | 2 => .agg [u8 a, u8 b, u8 0]
  | _ => .agg [u8 a, u8 b, u8 c]

def szB (l : List Bk) (n : Int) : Int := if n - l.length < 0 then -1 else n - l.length

noncomputable def X91 : Fx := ⟨Tryz.prog, tys, 91, Tryz.f91, [0, 1]⟩
theorem X91_ok : X91.Ok := ⟨Tryz.func91, tys_ok⟩
theorem eqByteA3_ct (a b c a' b' c' : Int) : Ct Tryz.prog 91 [.agg [u8 a, u8 b, u8 c], .agg [u8 a', u8 b', u8 c']] (bo (decide (a = a' ∧ b = b' ∧ c = c'))) [] := by
  refine Ct.intro X91 X91_ok rfl rfl rfl rfl fun g hg => ?_
  repeat (refine Run.go rfl ?_)
  refine Run.loop (fun j : Nat => ⟨[(2, .bp (2, 0) 0), (3, .bp (3, 0) 0), (5, i64 j)], [((2, 0), .box [u8 a, u8 b, u8 c]), ((3, 0), .box [u8 a', u8 b', u8 c'])]⟩) (fun j => j ≤ 3 ∧ (0 < j → a = a') ∧ (1 < j → b = b') ∧ (2 < j → c = c')) (fun j => 3 - j) 0 (by omega) ?_ ?_
  · exact St.Le.mk' ⟨rfl, rfl, rfl, trivial⟩ ⟨rfl, rfl, trivial⟩
  · rintro j ⟨hj, q0, q1, q2⟩ IH
    have hj4 : j = 0 ∨ j = 1 ∨ j = 2 ∨ j = 3 := by omega
    rcases hj4 with rfl | rfl | rfl | rfl
    · repeat (refine Run.go rfl ?_)
      refine Run.cond rfl (fun h => ?_) (fun h => by simp at h)
      repeat (refine Run.go rfl ?_)
      refine Run.draw (by kernel_rfl) (by decide +kernel) ?_
      repeat (refine Quiet.go rfl ?_)
      refine Quiet.nil ?_
      repeat (refine Run.go rfl ?_)
      refine Run.cond rfl (fun h => ?_) (fun h => ?_)
      · have h : a ≠ a' := by simpa using h
        repeat (refine Run.go rfl ?_)
        refine Run.ret hg rfl ?_
        show bo false = _
        simp [h]
      · have h : a = a' := by simpa using h
        repeat (refine Run.go rfl ?_)
        exact Run.of (IH 1 ⟨by omega, fun _ => h, by omega, by omega⟩ (by omega)) ⟨rfl, rfl, rfl, trivial⟩ ⟨rfl, rfl, trivial⟩
    · repeat (refine Run.go rfl ?_)
      refine Run.cond rfl (fun h => ?_) (fun h => by simp at h)
      repeat (refine Run.go rfl ?_)
      refine Run.draw (by kernel_rfl) (by decide +kernel) ?_
      repeat (refine Quiet.go rfl ?_)
      refine Quiet.nil ?_
      repeat (refine Run.go rfl ?_)
      refine Run.cond rfl (fun h => ?_) (fun h => ?_)
      · have h : b ≠ b' := by simpa using h
        repeat (refine Run.go rfl ?_)
        refine Run.ret hg rfl ?_
        show bo false = _
        simp [h]
      · have h : b = b' := by simpa using h
        repeat (refine Run.go rfl ?_)
        exact Run.of (IH 2 ⟨by omega, fun _ => q0 (by omega), fun _ => h, by omega⟩ (by omega)) ⟨rfl, rfl, rfl, trivial⟩ ⟨rfl, rfl, trivial⟩
    · repeat (refine Run.go rfl ?_)
      refine Run.cond rfl (fun h => ?_) (fun h => by simp at h)
      repeat (refine Run.go rfl ?_)
      refine Run.draw (by kernel_rfl) (by decide +kernel) ?_
      repeat (refine Quiet.go rfl ?_)
      refine Quiet.nil ?_
      repeat (refine Run.go rfl ?_)
      refine Run.cond rfl (fun h => ?_) (fun h => ?_)
      · have h : c ≠ c' := by simpa using h
        repeat (refine Run.go rfl ?_)
        refine Run.ret hg rfl ?_
        show bo false = _
        simp [h]
      · have h : c = c' := by simpa using h
        repeat (refine Run.go rfl ?_)
        exact Run.of (IH 3 ⟨by omega, fun _ => q0 (by omega), fun _ => q1 (by omega), fun _ => h⟩ (by omega)) ⟨rfl, rfl, rfl, trivial⟩ ⟨rfl, rfl, trivial⟩
    · repeat (refine Run.go rfl ?_)
      refine Run.cond rfl (fun h => by simp at h) (fun h => ?_)
      repeat (refine Run.go rfl ?_)
      refine Run.ret hg rfl ?_
      show bo true = _
      simp [q0 (by omega), q1 (by omega), q2 (by omega)]

noncomputable def X73 : Fx := ⟨Tryz.prog, tys, 73, Tryz.f73, [0, 1]⟩
theorem X73_ok : X73.Ok := ⟨Tryz.func73, tys_ok⟩
theorem eqBook_ct (x y : Bk) : Ct Tryz.prog 73 [bkA x, bkA y] (bo (decide (x = y))) [] := by
  obtain ⟨xc, xa, xb, xd, xv, xw, xh, xt⟩ := x
  obtain ⟨yc, ya, yb, yd, yv, yw, yh, yt⟩ := y
  refine Ct.intro X73 X73_ok rfl rfl rfl rfl fun g hg => ?_
  repeat (refine Run.go rfl ?_)
  refine Run.cond rfl (fun h => ?_) (fun h1 => ?_)
  · have h : xc ≠ yc := by simpa using h
    repeat (refine Run.go rfl ?_)
    refine Run.ret hg rfl ?_
    show bo false = _
    simp [h]
  have h1 : xc = yc := by simpa using h1
  repeat (refine Run.go rfl ?_)
  refine Run.cs rfl (eqByteA3_ct xa xb xd ya yb yd) rfl rfl ?_
  repeat (refine Run.go rfl ?_)
  refine Run.cond rfl (fun h => ?_) (fun h2 => ?_)
  · have h : ¬ (xa = ya ∧ xb = yb ∧ xd = yd) := of_decide_eq_false (by simpa only [Bool.not_eq_true'] using h)
    repeat (refine Run.go rfl ?_)
    refine Run.ret hg rfl ?_
    show bo false = _
    have : ¬ (⟨xc, xa, xb, xd, xv, xw, xh, xt⟩ : Bk) = ⟨yc, ya, yb, yd, yv, yw, yh, yt⟩ := by
      intro e
      injection e with e1 e2 e3 e4
      exact h ⟨e2, e3, e4⟩
    rw [decide_eq_false this]
  have h2 : xa = ya ∧ xb = yb ∧ xd = yd := by simpa using h2
  repeat (refine Run.go rfl ?_)
  refine Run.cond rfl (fun h => ?_) (fun h3 => ?_)
  · have h : xv ≠ yv := by simpa using h
    repeat (refine Run.go rfl ?_)
    refine Run.ret hg rfl ?_
    show bo false = _
    simp [h]
  have h3 : xv = yv := by simpa using h3
  repeat (refine Run.go rfl ?_)
  refine Run.cond rfl (fun h => ?_) (fun h4 => ?_)
  · have h : xw ≠ yw := by simpa using h
    repeat (refine Run.go rfl ?_)
    refine Run.ret hg rfl ?_
    show bo false = _
    simp [h]
  have h4 : xw = yw := by simpa using h4
  repeat (refine Run.go rfl ?_)
  refine Run.cond rfl (fun h => ?_) (fun h5 => ?_)
  · have h : xh ≠ yh := by simpa using h
    repeat (refine Run.go rfl ?_)
    refine Run.ret hg rfl ?_
    show bo false = _
    simp [h]
  have h5 : xh = yh := by simpa using h5
  repeat (refine Run.go rfl ?_)
  refine Run.cond rfl (fun h => ?_) (fun h6 => ?_)
  · have h : xt ≠ yt := by simpa using h
    repeat (refine Run.go rfl ?_)
    refine Run.ret hg rfl ?_
    show bo false = _
    simp [h]
  have h6 : xt = yt := by simpa using h6
  repeat (refine Run.go rfl ?_)
  refine Run.ret hg rfl ?_
  show bo true = _
  simp [h1, h2, h3, h4, h5, h6]

end Go.Proofs.YtmeejegdgfkogaaGreatDoor

/- Contracts of the program's functions, and what follows from them. -/
set_option maxRecDepth 100000
namespace Go.Proofs.YtmeejegdgfkogaaGreatDoor
open Go Go.Av

/-! Which books are valid. -/

noncomputable def X101 : Fx := ⟨Tryz.prog, tys, 101, Tryz.f101, [0, 1]⟩
theorem X101_ok : X101.Ok := ⟨Tryz.func101, tys_ok⟩
theorem indexBy_ct (l : List Int) (ex : Bool) (f : Nat) (caps : List AV) (p : Int → Bool) (hlen : l.length ≤ 1048576) (hc : AV.freeL caps = true)
    (hf : ∀ x ∈ l, Ct Tryz.prog f ([u8 x] ++ caps) (bo (p x)) []) : Ct Tryz.prog 101 [.ro 1 ex (l.map u8), .fn f caps] (i64 (fi p l)) [] := by
  refine Ct.intro X101 X101_ok rfl (by kernel_rfl) rfl rfl fun g hg => ?_
  repeat (refine Run.step rfl ?_)
  refine Run.loop (fun j : Nat => ⟨[(0, .ro 1 ex (l.map u8)), (1, .fn f caps), (7, i64 l.length), (8, i64 j)], []⟩) (fun j => j ≤ l.length ∧ j ≤ l.findIdx p) (fun j => l.length - j) 0 ⟨by omega, by omega⟩ ?_ ?_
  · refine St.Le.mk' ⟨rfl, rfl, ?_, rfl, trivial⟩ trivial
    show i64 _ = _
    simp
  · rintro j ⟨hj1, hj2⟩ IH
    repeat (refine Run.step rfl ?_)
    refine Run.cond rfl (fun h => ?_) (fun h => ?_)
    · have hlt : j < l.length := by simpa using h
      repeat (refine Run.step rfl ?_)
      refine Run.val rfl rfl rfl (ValOk.idx (u8 l[j]) rfl rfl rfl rfl rfl (by omega) (by simp [hlt])) rfl ?_
      repeat (refine Run.step rfl ?_)
      refine Run.callp rfl rfl rfl rfl rfl rfl rfl hc rfl (hf l[j] (by simp)) (by decide) (by decide) ?_
      repeat (refine Run.step rfl ?_)
      refine Run.cond rfl (fun h => ?_) (fun h => ?_)
      · repeat (refine Run.step rfl ?_)
        refine Run.ret hg rfl ?_
        show i64 _ = _
        rw [fi_at hlt h hj2]
      · repeat (refine Run.step rfl ?_)
        refine Run.of (IH (j + 1) ⟨by omega, fi_next hlt h hj2⟩ (by omega)) ⟨rfl, rfl, rfl, ?_, trivial⟩ trivial
        show i64 _ = _
        rw [wrap_i64 (by omega) (by omega)]
        rfl
    · repeat (refine Run.step rfl ?_)
      have hj : j = l.length := by simp at h; omega
      refine Run.ret hg rfl ?_
      show i64 (-1) = _
      rw [fi_none (by omega)]

noncomputable def X85 : Fx := ⟨Tryz.prog, tys, 85, Tryz.f85, [0, 1]⟩
theorem X85_ok : X85.Ok := ⟨Tryz.func85, tys_ok⟩
theorem containsBy_ct (l : List Int) (ex : Bool) (f : Nat) (caps : List AV) (p : Int → Bool) (hlen : l.length ≤ 1048576) (hc : AV.freeL caps = true)
    (hf : ∀ x ∈ l, Ct Tryz.prog f ([u8 x] ++ caps) (bo (p x)) []) : Ct Tryz.prog 85 [.ro 1 ex (l.map u8), .fn f caps] (bo (l.any p)) [] := by
  refine Ct.intro X85 X85_ok rfl (by kernel_rfl) rfl rfl fun g hg => ?_
  repeat (refine Run.go rfl ?_)
  refine Run.callp rfl rfl rfl rfl rfl rfl (by simp [AV.freeL, AV.free, hc]) rfl rfl (indexBy_ct l ex f caps p hlen hc hf) (by decide) (by decide) ?_
  repeat (refine Run.go rfl ?_)
  refine Run.ret hg rfl ?_
  show bo _ = _
  rw [← fi_nonneg]

noncomputable def X86 : Fx := ⟨Tryz.prog, tys, 86, Tryz.f86, [0, 1]⟩
theorem X86_ok : X86.Ok := ⟨Tryz.func86, tys_ok⟩
theorem areAllBy10_ct (c : Int) (f : Nat) (p : Bool) (hf : Ct Tryz.prog f [u8 c] (bo p) []) : Ct Tryz.prog 86 [u8 c, .rp [.fn f []] 0] (bo (!p)) [] := by
  refine Ct.intro X86 X86_ok rfl (by kernel_rfl) rfl rfl fun g hg => ?_
  repeat (refine Run.go rfl ?_)
  refine Run.cs rfl hf rfl rfl ?_
  repeat (refine Run.go rfl ?_)
  exact Run.ret hg rfl rfl

noncomputable def X64 : Fx := ⟨Tryz.prog, tys, 64, Tryz.f64, [0, 1]⟩
theorem X64_ok : X64.Ok := ⟨Tryz.func64, tys_ok⟩
theorem areAllBy0_ct (l : List Int) (ex : Bool) (f : Nat) (p : Int → Bool) (hlen : l.length ≤ 1048576) (hf : ∀ x ∈ l, Ct Tryz.prog f [u8 x] (bo (p x)) []) :
    Ct Tryz.prog 64 [.ro 1 ex (l.map u8), .fn f []] (bo (l.all p)) [] := by
  refine Ct.intro X64 X64_ok rfl (by kernel_rfl) rfl rfl fun g hg => ?_
  repeat (refine Run.go rfl ?_)
  refine Run.cs rfl (containsBy_ct l ex 86 [.rp [.fn f []] 0] (fun x => !p x) hlen rfl (fun x hx => areAllBy10_ct x f (p x) (hf x hx))) rfl rfl ?_
  repeat (refine Run.go rfl ?_)
  refine Run.ret hg rfl ?_
  show bo (!l.any fun x => !p x) = _
  congr 2
  simp [List.all_eq_not_any_not]

theorem areAllBy1_ct (c : Int) (f : Nat) (cs : List AV) (jj : Nat) (p : Bool) (hf : Ct Tryz.prog f [u8 c, .rp cs jj] (bo p) []) : Ct Tryz.prog 86 [u8 c, .rp [.fn f [.rp cs jj]] 0] (bo (!p)) [] := by
  refine Ct.intro X86 X86_ok rfl (by kernel_rfl) rfl rfl fun g hg => ?_
  repeat (refine Run.go rfl ?_)
  refine Run.cs rfl hf rfl rfl ?_
  repeat (refine Run.go rfl ?_)
  exact Run.ret hg rfl rfl

theorem areAllBy_ct (l : List Int) (ex : Bool) (f : Nat) (cs : List AV) (jj : Nat) (p : Int → Bool) (hlen : l.length ≤ 1048576) (hf : ∀ x ∈ l, Ct Tryz.prog f [u8 x, .rp cs jj] (bo (p x)) []) :
    Ct Tryz.prog 64 [.ro 1 ex (l.map u8), .fn f [.rp cs jj]] (bo (l.all p)) [] := by
  refine Ct.intro X64 X64_ok rfl (by kernel_rfl) rfl rfl fun g hg => ?_
  repeat (refine Run.go rfl ?_)
  refine Run.cs rfl (containsBy_ct l ex 86 [.rp [.fn f [.rp cs jj]] 0] (fun x => !p x) hlen rfl (fun x hx => areAllBy1_ct x f cs jj (p x) (hf x hx))) rfl rfl ?_
  repeat (refine Run.go rfl ?_)
  refine Run.ret hg rfl ?_
  show bo (!l.any fun x => !p x) = _
  congr 2
  simp [List.all_eq_not_any_not]


def u8r (n : Int) : Prop := 0 ≤ n ∧ n ≤ 255
def bkRng (x : Bk) : Prop := i16r x.cl ∧ u8r x.a ∧ u8r x.b ∧ u8r x.c ∧ i16r x.vol ∧ i16r x.wd ∧ i16r x.hi ∧ i16r x.wt
def sm (n : Int) : Bool := decide (97 ≤ n) && decide (n ≤ 122)
def vB (x : Bk) : Bool := inr x.cl 0 999 && (sm x.a && (sm x.b && sm x.c)) && inr x.vol 1 99 && inr x.wd 1 100 && inr x.hi 50 400 && inr x.wt 1 9999
def vBs (l : List Bk) : Bool := decide (l.length ≤ 60) && l.all vB

noncomputable def X65 : Fx := ⟨Tryz.prog, tys, 65, Tryz.f65, [0]⟩
theorem X65_ok : X65.Ok := ⟨Tryz.func65, tys_ok⟩
theorem isSmall_ct (n : Int) : Ct Tryz.prog 65 [u8 n] (bo (sm n)) [] := by
  refine Ct.intro X65 X65_ok rfl rfl rfl rfl fun g hg => ?_
  repeat (refine Run.go rfl ?_)
  refine Run.bool 5 rfl (fun h => ?_) (fun h => ?_)
  · repeat (refine Run.go rfl ?_)
    refine Run.ret hg rfl ?_
    show bo _ = _
    simp at h
    simp [sm, h]
  · repeat (refine Run.go rfl ?_)
    refine Run.ret hg rfl ?_
    show bo _ = _
    simp at h
    simp [sm]
    omega

noncomputable def X40 : Fx := ⟨Tryz.prog, tys, 40, Tryz.f40, [0]⟩
theorem X40_ok : X40.Ok := ⟨Tryz.func40, tys_ok⟩
theorem validBook_ct (x : Bk) : Ct Tryz.prog 40 [bkA x] (bo (vB x)) [] := by
  refine Ct.intro X40 X40_ok rfl rfl rfl rfl fun g hg => ?_
  iterate 3 (refine Run.go rfl ?_)
  refine Run.freezeBox 1 (1, 0) (bkA x).cells rfl rfl rfl rfl ?_
  repeat (refine Run.go rfl ?_)
  refine Run.cs rfl (within16_ct x.cl 0 999) rfl rfl ?_
  repeat (refine Run.go rfl ?_)
  refine Run.bool 6 rfl (fun h1 => ?_) (fun h1 => ?_)
  · have h1 : inr x.cl 0 999 = true := h1
    repeat (refine Run.go rfl ?_)
    refine Run.val rfl rfl rfl (ValOk.cutArr (ys := [x.a, x.b, x.c].map u8) rfl rfl rfl rfl rfl rfl rfl rfl rfl (by decide)) rfl ?_
    refine Run.cs rfl (areAllBy0_ct [x.a, x.b, x.c] true _ sm (by simp) fun y _ => isSmall_ct y) rfl rfl ?_
    repeat (refine Run.go rfl ?_)
    refine Run.bool 11 rfl (fun h2 => ?_) (fun h2 => ?_)
    · have h2 : (sm x.a && (sm x.b && sm x.c)) = true := by simpa using h2
      repeat (refine Run.go rfl ?_)
      refine Run.cs rfl (within16_ct x.vol 1 99) rfl rfl ?_
      repeat (refine Run.go rfl ?_)
      refine Run.bool 16 rfl (fun h3 => ?_) (fun h3 => ?_)
      · have h3 : inr x.vol 1 99 = true := h3
        repeat (refine Run.go rfl ?_)
        refine Run.cs rfl (within16_ct x.wd 1 100) rfl rfl ?_
        repeat (refine Run.go rfl ?_)
        refine Run.bool 21 rfl (fun h4 => ?_) (fun h4 => ?_)
        · have h4 : inr x.wd 1 100 = true := h4
          repeat (refine Run.go rfl ?_)
          refine Run.cs rfl (within16_ct x.hi 50 400) rfl rfl ?_
          repeat (refine Run.go rfl ?_)
          refine Run.bool 26 rfl (fun h5 => ?_) (fun h5 => ?_)
          · have h5 : inr x.hi 50 400 = true := h5
            repeat (refine Run.go rfl ?_)
            refine Run.cs rfl (within16_ct x.wt 1 9999) rfl rfl ?_
            repeat (refine Run.go rfl ?_)
            refine Run.ret hg rfl ?_
            rw [vB, h1, h2, h3, h4, h5]
            rfl
          · have h5 : inr x.hi 50 400 = false := h5
            repeat (refine Run.go rfl ?_)
            refine Run.ret hg rfl ?_
            rw [vB, h1, h2, h3, h4, h5]
            rfl
        · have h4 : inr x.wd 1 100 = false := h4
          repeat (refine Run.go rfl ?_)
          refine Run.bool 26 rfl (fun h => by simp at h) (fun h => ?_)
          repeat (refine Run.go rfl ?_)
          refine Run.ret hg rfl ?_
          rw [vB, h1, h2, h3, h4]
          rfl
      · have h3 : inr x.vol 1 99 = false := h3
        repeat (refine Run.go rfl ?_)
        refine Run.bool 21 rfl (fun h => by simp at h) (fun h => ?_)
        repeat (refine Run.go rfl ?_)
        refine Run.bool 26 rfl (fun h => by simp at h) (fun h => ?_)
        repeat (refine Run.go rfl ?_)
        refine Run.ret hg rfl ?_
        rw [vB, h1, h2, h3]
        rfl
    · have h2 : (sm x.a && (sm x.b && sm x.c)) = false := by simpa using h2
      repeat (refine Run.go rfl ?_)
      refine Run.bool 16 rfl (fun h => by simp at h) (fun h => ?_)
      repeat (refine Run.go rfl ?_)
      refine Run.bool 21 rfl (fun h => by simp at h) (fun h => ?_)
      repeat (refine Run.go rfl ?_)
      refine Run.bool 26 rfl (fun h => by simp at h) (fun h => ?_)
      repeat (refine Run.go rfl ?_)
      refine Run.ret hg rfl ?_
      rw [vB, h1, h2]
      rfl
  · have h1 : inr x.cl 0 999 = false := h1
    repeat (refine Run.go rfl ?_)
    refine Run.bool 11 rfl (fun h => by simp at h) (fun h => ?_)
    repeat (refine Run.go rfl ?_)
    refine Run.bool 16 rfl (fun h => by simp at h) (fun h => ?_)
    repeat (refine Run.go rfl ?_)
    refine Run.bool 21 rfl (fun h => by simp at h) (fun h => ?_)
    repeat (refine Run.go rfl ?_)
    refine Run.bool 26 rfl (fun h => by simp at h) (fun h => ?_)
    repeat (refine Run.go rfl ?_)
    refine Run.ret hg rfl ?_
    rw [vB, h1]
    rfl

noncomputable def X48 : Fx := ⟨Tryz.prog, tys, 48, Tryz.f48, [0]⟩
theorem X48_ok : X48.Ok := ⟨Tryz.func48, tys_ok⟩
theorem l01Mark_ct (a b c : Int) : Ct Tryz.prog 48 [.agg [u8 a, u8 b, u8 c]] (bo (sm a && (sm b && sm c))) [] := by
  refine Ct.intro X48 X48_ok rfl rfl rfl rfl fun g hg => ?_
  repeat (refine Run.go rfl ?_)
  refine Run.loop (fun j : Nat => ⟨[(1, .bp (1, 0) 0), (3, i64 j)], [((1, 0), .box [u8 a, u8 b, u8 c])]⟩) (fun j => j ≤ 3 ∧ (0 < j → sm a = true) ∧ (1 < j → sm b = true) ∧ (2 < j → sm c = true)) (fun j => 3 - j) 0 (by omega) ?_ ?_
  · exact St.Le.mk' ⟨rfl, rfl, trivial⟩ ⟨rfl, trivial⟩
  · rintro j ⟨hj, q0, q1, q2⟩ IH
    have hj4 : j = 0 ∨ j = 1 ∨ j = 2 ∨ j = 3 := by omega
    have key : ∀ n : Int, (97 ≤ n → n ≤ 122 → sm n = true) ∧ (n < 97 → sm n = false) ∧ (122 < n → sm n = false) := by
      intro n
      refine ⟨fun h1 h2 => by simp [sm, h1, h2], fun h => by simp [sm]; omega, fun h => by simp [sm]; omega⟩
    rcases hj4 with rfl | rfl | rfl | rfl
    · repeat (refine Run.go rfl ?_)
      refine Run.cond rfl (fun h => ?_) (fun h => by simp at h)
      repeat (refine Run.go rfl ?_)
      refine Run.bool 12 rfl (fun hA => ?_) (fun hA => ?_)
      · have F : sm a = false := (key a).2.1 (by simpa using hA)
        repeat (refine Run.go rfl ?_)
        refine Run.cond rfl (fun _ => ?_) (fun h => by simp at h)
        repeat (refine Run.go rfl ?_)
        refine Run.ret hg rfl ?_
        have : (sm a && (sm b && sm c)) = false := by rw [F, Bool.false_and]
        rw [this]
        rfl
      · have hA : 97 ≤ a := by simpa using hA
        repeat (refine Run.go rfl ?_)
        refine Run.cond rfl (fun hB => ?_) (fun hB => ?_)
        · have F : sm a = false := (key a).2.2 (by simpa using hB)
          repeat (refine Run.go rfl ?_)
          refine Run.ret hg rfl ?_
          have : (sm a && (sm b && sm c)) = false := by rw [F, Bool.false_and]
          rw [this]
          rfl
        · have S : sm a = true := (key a).1 hA (by simpa using hB)
          repeat (refine Run.go rfl ?_)
          exact Run.of (IH 1 ⟨by omega, fun _ => S, by omega, by omega⟩ (by omega)) ⟨rfl, rfl, trivial⟩ ⟨rfl, trivial⟩
    · repeat (refine Run.go rfl ?_)
      refine Run.cond rfl (fun h => ?_) (fun h => by simp at h)
      repeat (refine Run.go rfl ?_)
      refine Run.bool 12 rfl (fun hA => ?_) (fun hA => ?_)
      · have F : sm b = false := (key b).2.1 (by simpa using hA)
        repeat (refine Run.go rfl ?_)
        refine Run.cond rfl (fun _ => ?_) (fun h => by simp at h)
        repeat (refine Run.go rfl ?_)
        refine Run.ret hg rfl ?_
        have : (sm a && (sm b && sm c)) = false := by rw [F, Bool.false_and, Bool.and_false]
        rw [this]
        rfl
      · have hA : 97 ≤ b := by simpa using hA
        repeat (refine Run.go rfl ?_)
        refine Run.cond rfl (fun hB => ?_) (fun hB => ?_)
        · have F : sm b = false := (key b).2.2 (by simpa using hB)
          repeat (refine Run.go rfl ?_)
          refine Run.ret hg rfl ?_
          have : (sm a && (sm b && sm c)) = false := by rw [F, Bool.false_and, Bool.and_false]
          rw [this]
          rfl
        · have S : sm b = true := (key b).1 hA (by simpa using hB)
          repeat (refine Run.go rfl ?_)
          exact Run.of (IH 2 ⟨by omega, fun _ => q0 (by omega), fun _ => S, by omega⟩ (by omega)) ⟨rfl, rfl, trivial⟩ ⟨rfl, trivial⟩
    · repeat (refine Run.go rfl ?_)
      refine Run.cond rfl (fun h => ?_) (fun h => by simp at h)
      repeat (refine Run.go rfl ?_)
      refine Run.bool 12 rfl (fun hA => ?_) (fun hA => ?_)
      · have F : sm c = false := (key c).2.1 (by simpa using hA)
        repeat (refine Run.go rfl ?_)
        refine Run.cond rfl (fun _ => ?_) (fun h => by simp at h)
        repeat (refine Run.go rfl ?_)
        refine Run.ret hg rfl ?_
        have : (sm a && (sm b && sm c)) = false := by rw [F, Bool.and_false, Bool.and_false]
        rw [this]
        rfl
      · have hA : 97 ≤ c := by simpa using hA
        repeat (refine Run.go rfl ?_)
        refine Run.cond rfl (fun hB => ?_) (fun hB => ?_)
        · have F : sm c = false := (key c).2.2 (by simpa using hB)
          repeat (refine Run.go rfl ?_)
          refine Run.ret hg rfl ?_
          have : (sm a && (sm b && sm c)) = false := by rw [F, Bool.and_false, Bool.and_false]
          rw [this]
          rfl
        · have S : sm c = true := (key c).1 hA (by simpa using hB)
          repeat (refine Run.go rfl ?_)
          exact Run.of (IH 3 ⟨by omega, fun _ => q0 (by omega), fun _ => q1 (by omega), fun _ => S⟩ (by omega)) ⟨rfl, rfl, trivial⟩ ⟨rfl, trivial⟩
    · repeat (refine Run.go rfl ?_)
      refine Run.cond rfl (fun h => by simp at h) (fun h => ?_)
      repeat (refine Run.go rfl ?_)
      refine Run.ret hg rfl ?_
      rw [q0 (by omega), q1 (by omega), q2 (by omega)]
      rfl

noncomputable def X47 : Fx := ⟨Tryz.prog, tys, 47, Tryz.f47, [0]⟩
theorem X47_ok : X47.Ok := ⟨Tryz.func47, tys_ok⟩
theorem l01Class_ct (n : Int) : Ct Tryz.prog 47 [i64 n] (bo (inr n 0 999)) [] := by
  refine Ct.intro X47 X47_ok rfl rfl rfl rfl fun g hg => ?_
  repeat (refine Run.go rfl ?_)
  refine Run.cs rfl (l00In_ct n 0 999) rfl rfl ?_
  repeat (refine Run.go rfl ?_)
  exact Run.ret hg rfl rfl

noncomputable def X24 : Fx := ⟨Tryz.prog, tys, 24, Tryz.f24, [0]⟩
theorem X24_ok : X24.Ok := ⟨Tryz.func24, tys_ok⟩
theorem l01Book_ct (x : Bk) (hr : bkRng x) : Ct Tryz.prog 24 [.rp (bkA x).cells 0] (bo (vB x)) [] := by
  obtain ⟨r1, _, _, _, r2, r3, r4, r5⟩ := hr
  have w1 := w64 r1
  have w2 := w64 r2
  have w3 := w64 r3
  have w4 := w64 r4
  have w5 := w64 r5
  refine Ct.intro X24 X24_ok rfl rfl rfl rfl fun g hg => ?_
  repeat (refine Run.go rfl ?_)
  rw [w1]
  refine Run.cs rfl (l01Class_ct x.cl) rfl rfl ?_
  repeat (refine Run.go rfl ?_)
  refine Run.bool 10 rfl (fun h1 => ?_) (fun h1 => ?_)
  · have h1 : inr x.cl 0 999 = false := by simpa using h1
    repeat (refine Run.go rfl ?_)
    refine Run.bool 18 rfl (fun h => ?_) (fun h => by simp at h)
    repeat (refine Run.go rfl ?_)
    refine Run.cond rfl (fun h => ?_) (fun h => by simp at h)
    repeat (refine Run.go rfl ?_)
    refine Run.ret hg rfl ?_
    rw [vB, h1]
    rfl
  have h1 : inr x.cl 0 999 = true := by simpa using h1
  repeat (refine Run.go rfl ?_)
  refine Run.cs rfl (l01Mark_ct x.a x.b x.c) rfl rfl ?_
  repeat (refine Run.go rfl ?_)
  refine Run.bool 18 rfl (fun h2 => ?_) (fun h2 => ?_)
  · have h2 : (sm x.a && (sm x.b && sm x.c)) = false := by rw [Bool.not_eq_true'] at h2; exact h2
    repeat (refine Run.go rfl ?_)
    refine Run.cond rfl (fun h => ?_) (fun h => by simp at h)
    repeat (refine Run.go rfl ?_)
    refine Run.ret hg rfl ?_
    rw [vB, h1, h2]
    rfl
  have h2 : (sm x.a && (sm x.b && sm x.c)) = true := by rw [Bool.not_eq_false'] at h2; exact h2
  repeat (refine Run.go rfl ?_)
  rw [w2]
  refine Run.cs rfl (l00In_ct x.vol 1 99) rfl rfl ?_
  repeat (refine Run.go rfl ?_)
  refine Run.cond rfl (fun h3 => ?_) (fun h3 => ?_)
  · have h3 : inr x.vol 1 99 = false := by simpa using h3
    repeat (refine Run.go rfl ?_)
    refine Run.ret hg rfl ?_
    rw [vB, h1, h2, h3]
    rfl
  have h3 : inr x.vol 1 99 = true := by simpa using h3
  repeat (refine Run.go rfl ?_)
  rw [w3]
  refine Run.cs rfl (l00In_ct x.wd 1 100) rfl rfl ?_
  repeat (refine Run.go rfl ?_)
  refine Run.bool 33 rfl (fun h4 => ?_) (fun h4 => ?_)
  · have h4 : inr x.wd 1 100 = true := h4
    repeat (refine Run.go rfl ?_)
    rw [w4]
    refine Run.cs rfl (l00In_ct x.hi 50 400) rfl rfl ?_
    repeat (refine Run.go rfl ?_)
    refine Run.bool 41 rfl (fun h5 => ?_) (fun h5 => ?_)
    · have h5 : inr x.hi 50 400 = true := h5
      repeat (refine Run.go rfl ?_)
      rw [w5]
      refine Run.cs rfl (l00In_ct x.wt 1 9999) rfl rfl ?_
      repeat (refine Run.go rfl ?_)
      refine Run.ret hg rfl ?_
      rw [vB, h1, h2, h3, h4, h5]
      rfl
    · have h5 : inr x.hi 50 400 = false := h5
      repeat (refine Run.go rfl ?_)
      refine Run.ret hg rfl ?_
      rw [vB, h1, h2, h3, h4, h5]
      rfl
  · have h4 : inr x.wd 1 100 = false := h4
    repeat (refine Run.go rfl ?_)
    refine Run.bool 41 rfl (fun h => by simp at h) (fun h => ?_)
    repeat (refine Run.go rfl ?_)
    refine Run.ret hg rfl ?_
    rw [vB, h1, h2, h3, h4]
    rfl

end Go.Proofs.YtmeejegdgfkogaaGreatDoor

/- Contracts of the program's functions, and what follows from them. -/
set_option maxRecDepth 100000
namespace Go.Proofs.YtmeejegdgfkogaaGreatDoor
open Go Go.Av

theorem wfu8 {n : Int} (h : (Lit.int .u8 n).wf = true) : u8r n := by
  simpa [Lit.wf, IntKind.min, IntKind.max, IntKind.signed, IntKind.bits, u8r] using h

theorem rdMk : Rd Tryz.prog 1048576 36 3 (fun x : Int × Int × Int => .agg [u8 x.1, u8 x.2.1, u8 x.2.2]) (fun x => u8r x.1 ∧ u8r x.2.1 ∧ u8r x.2.2) := by
  refine Rd.map (α := List Int) (g := fun l => (l.getD 0 0, l.getD 1 0, l.getD 2 0)) (Rd.array Tryz.underlying36 (by kernel_rfl) rfl (.int Tryz.underlying5) (by kernel_rfl)) ?_ ?_ (fun _ _ => rfl) (fun y => ⟨[y.1, y.2.1, y.2.2], rfl⟩)
  · rintro l ⟨hl, _⟩
    match l, hl with
    | [a, b, c], _ => rfl
  · rintro l ⟨hl, hx⟩
    match l, hl with
    | [a, b, c], _ => exact ⟨wfu8 (hx a (by simp)), wfu8 (hx b (by simp)), wfu8 (hx c (by simp))⟩

end Go.Proofs.YtmeejegdgfkogaaGreatDoor

/- Contracts of the program's functions, and what follows from them. -/
set_option maxRecDepth 100000
namespace Go.Proofs.YtmeejegdgfkogaaGreatDoor
open Go Go.Av

/-! Books compared by the usual order; sorted lists. -/

def lex3 (p q : Int × Int × Int) : Int := if cmpI p.1 q.1 ≠ 0 then cmpI p.1 q.1 else if cmpI p.2.1 q.2.1 ≠ 0 then cmpI p.2.1 q.2.1 else cmpI p.2.2 q.2.2
def nm (x : Bk) : Nat → Int × Int × Int
  | 0 => (x.cl, 0, 0)
  | 1 => (x.a, x.b, x.c)
  | _ => (x.vol, 0, 0)
def fc (x y : Bk) (i : Nat) : Int := lex3 (nm x i) (nm y i)
def uc (x y : Bk) : Int := if fc x y 0 ≠ 0 then fc x y 0 else if fc x y 1 ≠ 0 then fc x y 1 else fc x y 2

theorem cmpI_self (a : Int) : cmpI a a = 0 := by simp [cmpI]
theorem cmpI_ne {a b : Int} (h : a ≠ b) : cmpI a b ≠ 0 := by
  unfold cmpI
  split
  · decide
  · split
    · decide
    · omega
theorem cmpI_zero {a b : Int} (h : cmpI a b = 0) : a = b := Classical.byContradiction fun hne => cmpI_ne hne h
theorem cmpI_lt {a b : Int} (h : a < b) : cmpI a b = -1 := by rw [cmpI, if_pos h]
theorem cmpI_gt {a b : Int} (h : a ≠ b) (h2 : ¬ a < b) : cmpI a b = 1 := by rw [cmpI, if_neg h2, if_pos (by omega)]
theorem lex3_one (a b : Int) : lex3 (a, 0, 0) (b, 0, 0) = cmpI a b := by
  unfold lex3
  by_cases h : cmpI a b = 0
  · simp [h, cmpI_self]
  · simp [h]
theorem fc0 (x y : Bk) : fc x y 0 = cmpI x.cl y.cl := lex3_one _ _
theorem fc2 (x y : Bk) : fc x y 2 = cmpI x.vol y.vol := lex3_one _ _
theorem uc_at {x y : Bk} {i : Nat} (hi : i < 3) (h0 : 0 < i → fc x y 0 = 0) (h1 : 1 < i → fc x y 1 = 0) (hn : fc x y i ≠ 0) : uc x y = fc x y i := by
  have : i = 0 ∨ i = 1 ∨ i = 2 := by omega
  rcases this with rfl | rfl | rfl
  · rw [uc, if_pos hn]
  · rw [uc, if_neg (by rw [h0 (by omega)]; simp), if_pos hn]
  · rw [uc, if_neg (by rw [h0 (by omega)]; simp), if_neg (by rw [h1 (by omega)]; simp)]
theorem uc_end {x y : Bk} (h0 : fc x y 0 = 0) (h1 : fc x y 1 = 0) (h2 : fc x y 2 = 0) : uc x y = 0 := by
  rw [uc, if_neg (by rw [h0]; simp), if_neg (by rw [h1]; simp), h2]

noncomputable def X130 : Fx := ⟨Tryz.prog, tys, 130, Tryz.f130, [0]⟩
theorem X130_ok : X130.Ok := ⟨Tryz.func130, tys_ok⟩
theorem isNaN8_ct (a : Int) : Ct Tryz.prog 130 [u8 a] (bo false) [] := by
  refine Ct.intro X130 X130_ok rfl rfl rfl rfl fun g hg => ?_
  repeat (refine Run.go rfl ?_)
  refine Run.ret hg rfl ?_
  show bo (a != a) = _
  simp

noncomputable def X127 : Fx := ⟨Tryz.prog, tys, 127, Tryz.f127, [0, 1]⟩
theorem X127_ok : X127.Ok := ⟨Tryz.func127, tys_ok⟩
theorem compareU8_ct (a b : Int) : Ct Tryz.prog 127 [u8 a, u8 b] (i64 (cmpI a b)) [] := by
  refine Ct.intro X127 X127_ok rfl rfl rfl rfl fun g hg => ?_
  repeat (refine Run.go rfl ?_)
  refine Run.cs rfl (isNaN8_ct a) rfl rfl ?_
  repeat (refine Run.go rfl ?_)
  refine Run.cs rfl (isNaN8_ct b) rfl rfl ?_
  repeat (refine Run.go rfl ?_)
  refine Run.cond rfl (fun h => by simp at h) (fun h => ?_)
  repeat (refine Run.go rfl ?_)
  refine Run.cond rfl (fun h => by simp at h) (fun h => ?_)
  repeat (refine Run.go rfl ?_)
  refine Run.cond rfl (fun h => ?_) (fun h => ?_)
  · repeat (refine Run.go rfl ?_)
    refine Run.ret hg rfl ?_
    have h : a < b := by simpa using h
    simp only [cmpI, if_pos h]
    rfl
  have h : ¬ a < b := by simpa using h
  repeat (refine Run.go rfl ?_)
  refine Run.cond rfl (fun h2 => ?_) (fun h2 => ?_)
  · repeat (refine Run.go rfl ?_)
    refine Run.ret hg rfl ?_
    have h2 : b < a := by simpa using h2
    simp only [cmpI, if_neg h, if_pos h2]
    rfl
  have h2 : ¬ b < a := by simpa using h2
  repeat (refine Run.go rfl ?_)
  refine Run.ret hg rfl ?_
  simp only [cmpI, if_neg h, if_neg h2]
  rfl

noncomputable def X117 : Fx := ⟨Tryz.prog, tys, 117, Tryz.f117, [0, 1]⟩
theorem X117_ok : X117.Ok := ⟨Tryz.func117, tys_ok⟩
theorem compareBy3_ct (p q : Int × Int × Int) : Ct Tryz.prog 117 [.ro 1 true ([p.1, p.2.1, p.2.2].map u8), .ro 1 true ([q.1, q.2.1, q.2.2].map u8)] (i64 (lex3 p q)) [] := by
  obtain ⟨p0, p1, p2⟩ := p
  obtain ⟨q0, q1, q2⟩ := q
  refine Ct.intro X117 X117_ok rfl (by kernel_rfl) rfl rfl fun g hg => ?_
  repeat (refine Run.go rfl ?_)
  refine Run.loop (fun j : Nat => ⟨[(0, .ro 1 true ([p0, p1, p2].map u8)), (1, .ro 1 true ([q0, q1, q2].map u8)), (9, .ro 1 true ([p0, p1, p2].map u8)), (10, i64 3), (11, i64 j)], []⟩) (fun j => j ≤ 3 ∧ (0 < j → p0 = q0) ∧ (1 < j → p1 = q1) ∧ (2 < j → p2 = q2)) (fun j => 3 - j) 0 (by omega) ?_ ?_
  · exact St.Le.mk' ⟨rfl, rfl, rfl, rfl, rfl, trivial⟩ trivial
  · rintro j ⟨hj, r0, r1, r2⟩ IH
    have hj4 : j = 0 ∨ j = 1 ∨ j = 2 ∨ j = 3 := by omega
    rcases hj4 with rfl | rfl | rfl | rfl
    · repeat (refine Run.go rfl ?_)
      refine Run.cond rfl (fun h => ?_) (fun h => by simp at h)
      repeat (refine Run.go rfl ?_)
      refine Run.val rfl rfl rfl (ValOk.idx (u8 p0) rfl rfl rfl rfl rfl (by decide) rfl) rfl ?_
      repeat (refine Run.go rfl ?_)
      refine Run.cond rfl (fun h => by simp at h) (fun h => ?_)
      repeat (refine Run.go rfl ?_)
      refine Run.val rfl rfl rfl (ValOk.idx (u8 q0) rfl rfl rfl rfl rfl (by decide) rfl) rfl ?_
      repeat (refine Run.go rfl ?_)
      refine Run.cs rfl (compareU8_ct p0 q0) rfl rfl ?_
      repeat (refine Run.go rfl ?_)
      refine Run.cond rfl (fun h => ?_) (fun h => ?_)
      · have h : cmpI p0 q0 ≠ 0 := by simpa using h
        repeat (refine Run.go rfl ?_)
        refine Run.ret hg rfl ?_
        rw [lex3, if_pos h]
        rfl
      · have e : p0 = q0 := cmpI_zero (by simpa using h)
        repeat (refine Run.go rfl ?_)
        exact Run.of (IH 1 ⟨by omega, fun _ => e, by omega, by omega⟩ (by omega)) ⟨rfl, rfl, rfl, rfl, rfl, trivial⟩ trivial
    · repeat (refine Run.go rfl ?_)
      refine Run.cond rfl (fun h => ?_) (fun h => by simp at h)
      repeat (refine Run.go rfl ?_)
      refine Run.val rfl rfl rfl (ValOk.idx (u8 p1) rfl rfl rfl rfl rfl (by decide) rfl) rfl ?_
      repeat (refine Run.go rfl ?_)
      refine Run.cond rfl (fun h => by simp at h) (fun h => ?_)
      repeat (refine Run.go rfl ?_)
      refine Run.val rfl rfl rfl (ValOk.idx (u8 q1) rfl rfl rfl rfl rfl (by decide) rfl) rfl ?_
      repeat (refine Run.go rfl ?_)
      refine Run.cs rfl (compareU8_ct p1 q1) rfl rfl ?_
      repeat (refine Run.go rfl ?_)
      refine Run.cond rfl (fun h => ?_) (fun h => ?_)
      · have h : cmpI p1 q1 ≠ 0 := by simpa using h
        repeat (refine Run.go rfl ?_)
        refine Run.ret hg rfl ?_
        rw [lex3, if_neg (by simp [r0 (by omega), cmpI_self]), if_pos h]
        rfl
      · have e : p1 = q1 := cmpI_zero (by simpa using h)
        repeat (refine Run.go rfl ?_)
        exact Run.of (IH 2 ⟨by omega, fun _ => r0 (by omega), fun _ => e, by omega⟩ (by omega)) ⟨rfl, rfl, rfl, rfl, rfl, trivial⟩ trivial
    · repeat (refine Run.go rfl ?_)
      refine Run.cond rfl (fun h => ?_) (fun h => by simp at h)
      repeat (refine Run.go rfl ?_)
      refine Run.val rfl rfl rfl (ValOk.idx (u8 p2) rfl rfl rfl rfl rfl (by decide) rfl) rfl ?_
      repeat (refine Run.go rfl ?_)
      refine Run.cond rfl (fun h => by simp at h) (fun h => ?_)
      repeat (refine Run.go rfl ?_)
      refine Run.val rfl rfl rfl (ValOk.idx (u8 q2) rfl rfl rfl rfl rfl (by decide) rfl) rfl ?_
      repeat (refine Run.go rfl ?_)
      refine Run.cs rfl (compareU8_ct p2 q2) rfl rfl ?_
      repeat (refine Run.go rfl ?_)
      refine Run.cond rfl (fun h => ?_) (fun h => ?_)
      · have h : cmpI p2 q2 ≠ 0 := by simpa using h
        repeat (refine Run.go rfl ?_)
        refine Run.ret hg rfl ?_
        rw [lex3, if_neg (by simp [r0 (by omega), cmpI_self]), if_neg (by simp [r1 (by omega), cmpI_self])]
        rfl
      · have e : p2 = q2 := cmpI_zero (by simpa using h)
        repeat (refine Run.go rfl ?_)
        exact Run.of (IH 3 ⟨by omega, fun _ => r0 (by omega), fun _ => r1 (by omega), fun _ => e⟩ (by omega)) ⟨rfl, rfl, rfl, rfl, rfl, trivial⟩ trivial
    · repeat (refine Run.go rfl ?_)
      refine Run.cond rfl (fun h => by simp at h) (fun h => ?_)
      repeat (refine Run.go rfl ?_)
      refine Run.cond rfl (fun h => by simp at h) (fun h => ?_)
      repeat (refine Run.go rfl ?_)
      refine Run.ret hg rfl ?_
      have e : lex3 (p0, p1, p2) (q0, q1, q2) = 0 := by
        rw [r0 (by omega), r1 (by omega), r2 (by omega)]
        simp [lex3, cmpI_self]
      rw [e]
      rfl

noncomputable def X103 : Fx := ⟨Tryz.prog, tys, 103, Tryz.f103, [0]⟩
theorem X103_ok : X103.Ok := ⟨Tryz.func103, tys_ok⟩
theorem field_ct (n : Int) (h : 1 ≤ n ∧ n ≤ 3) : Ct Tryz.prog 103 [i8 n] (i8 n) [] := by
  refine Ct.intro X103 X103_ok rfl rfl rfl rfl fun g hg => ?_
  repeat (refine Run.go rfl ?_)
  refine Run.ret hg rfl ?_
  show i8 (if IntKind.i8.wrap (0 - n) > n then IntKind.i8.wrap (0 - n) else n) = _
  rw [wrap_i8 (by omega) (by omega), if_neg (by omega)]

noncomputable def X102 : Fx := ⟨Tryz.prog, tys, 102, Tryz.f102, [0]⟩
theorem X102_ok : X102.Ok := ⟨Tryz.func102, tys_ok⟩
theorem compareIn0_ct (x y : Bk) : Ct Tryz.prog 102 [i8 1, bkA x, bkA y] (i64 (fc x y 0)) [] := by
  rw [fc0]
  refine Ct.intro X102 X102_ok rfl rfl rfl rfl fun g hg => ?_
  repeat (refine Run.go rfl ?_)
  refine Run.cond rfl (fun h => ?_) (fun h => by simp at h)
  repeat (refine Run.go rfl ?_)
  refine Run.cs rfl (compare16_ct x.cl y.cl) rfl rfl ?_
  repeat (refine Run.go rfl ?_)
  exact Run.ret hg rfl rfl
theorem compareIn1_ct (x y : Bk) : Ct Tryz.prog 102 [i8 2, bkA x, bkA y] (i64 (fc x y 1)) [] := by
  refine Ct.intro X102 X102_ok rfl rfl rfl rfl fun g hg => ?_
  iterate 4 (refine Run.go rfl ?_)
  refine Run.freezeBox 4 (4, 0) (bkA x).cells rfl rfl rfl rfl ?_
  refine Run.freezeBox 5 (5, 0) (bkA y).cells rfl rfl rfl rfl ?_
  repeat (refine Run.go rfl ?_)
  refine Run.cond rfl (fun h => by simp at h) (fun h => ?_)
  repeat (refine Run.go rfl ?_)
  refine Run.cond rfl (fun h => ?_) (fun h => by simp at h)
  repeat (refine Run.go rfl ?_)
  refine Run.draw (by kernel_rfl) (by decide +kernel) ?_
  repeat (refine Quiet.go rfl ?_)
  refine Quiet.val rfl rfl (ValOk.cutArr (ys := [x.a, x.b, x.c].map u8) rfl rfl rfl rfl rfl rfl rfl rfl rfl (by decide)) rfl ?_
  repeat (refine Quiet.go rfl ?_)
  refine Quiet.val rfl rfl (ValOk.cutArr (ys := [y.a, y.b, y.c].map u8) rfl rfl rfl rfl rfl rfl rfl rfl rfl (by decide)) rfl ?_
  repeat (refine Quiet.go rfl ?_)
  refine Quiet.cs rfl rfl rfl rfl rfl (compareBy3_ct (x.a, x.b, x.c) (y.a, y.b, y.c)) rfl rfl ?_
  repeat (refine Quiet.go rfl ?_)
  refine Quiet.nil ?_
  repeat (refine Run.go rfl ?_)
  exact Run.ret hg rfl rfl
theorem compareIn2_ct (x y : Bk) : Ct Tryz.prog 102 [i8 3, bkA x, bkA y] (i64 (fc x y 2)) [] := by
  rw [fc2]
  refine Ct.intro X102 X102_ok rfl rfl rfl rfl fun g hg => ?_
  repeat (refine Run.go rfl ?_)
  refine Run.cond rfl (fun h => by simp at h) (fun h => ?_)
  repeat (refine Run.go rfl ?_)
  refine Run.cond rfl (fun h => by simp at h) (fun h => ?_)
  repeat (refine Run.go rfl ?_)
  refine Run.cond rfl (fun h => ?_) (fun h => by simp at h)
  repeat (refine Run.go rfl ?_)
  refine Run.cs rfl (compare16_ct x.vol y.vol) rfl rfl ?_
  repeat (refine Run.go rfl ?_)
  exact Run.ret hg rfl rfl

theorem compareIn_ct (x y : Bk) (i : Nat) (hi : i < 3) : Ct Tryz.prog 102 [i8 ((i : Int) + 1), bkA x, bkA y] (i64 (fc x y i)) [] := by
  have : i = 0 ∨ i = 1 ∨ i = 2 := by omega
  rcases this with rfl | rfl | rfl
  · exact compareIn0_ct x y
  · exact compareIn1_ct x y
  · exact compareIn2_ct x y

def usl : List AV := [i8 1, i8 2, i8 3]
theorem usl_at {i : Nat} (h : i < 3) : usl[i]? = some (i8 ((i : Int) + 1)) := by
  have : i = 0 ∨ i = 1 ∨ i = 2 := by omega
  rcases this with rfl | rfl | rfl <;> rfl

noncomputable def X87 : Fx := ⟨Tryz.prog, tys, 87, Tryz.f87, [0]⟩
theorem X87_ok : X87.Ok := ⟨Tryz.func87, tys_ok⟩
theorem compareBy_ct (x y : Bk) (ex : Bool) : Ct Tryz.prog 87 [.ro 1 ex usl, bkA x, bkA y] (i64 (uc x y)) [] := by
  refine Ct.intro X87 X87_ok rfl rfl rfl rfl fun g hg => ?_
  repeat (refine Run.go rfl ?_)
  refine Run.loop (fun i : Nat => ⟨[(4, .bp (4, 0) 0), (5, .bp (5, 0) 0), (10, .ro 1 ex usl), (11, i64 3), (12, i64 i)], [((4, 0), .box (bkA x).cells), ((5, 0), .box (bkA y).cells)]⟩) (fun i => i ≤ 3 ∧ (0 < i → fc x y 0 = 0) ∧ (1 < i → fc x y 1 = 0) ∧ (2 < i → fc x y 2 = 0)) (fun i => 3 - i) 0 (by omega) ?_ ?_
  · exact St.Le.mk' ⟨rfl, rfl, rfl, rfl, rfl, trivial⟩ ⟨rfl, rfl, trivial⟩
  rintro i ⟨hi, r0, r1, r2⟩ IH
  repeat (refine Run.go rfl ?_)
  refine Run.cond rfl (fun h => ?_) (fun h => ?_)
  · have hlt : i < 3 := by simp at h; omega
    repeat (refine Run.go rfl ?_)
    refine Run.val rfl rfl rfl (ValOk.idx (i8 ((i : Int) + 1)) rfl rfl rfl rfl rfl (by omega) (by rw [Int.toNat_natCast]; exact usl_at hlt)) rfl ?_
    repeat (refine Run.go rfl ?_)
    refine Run.draw (by kernel_rfl) (by decide +kernel) ?_
    repeat (refine Quiet.go rfl ?_)
    refine Quiet.cs rfl rfl rfl rfl rfl (field_ct ((i : Int) + 1) (by omega)) rfl rfl ?_
    repeat (refine Quiet.go rfl ?_)
    refine Quiet.cs rfl rfl rfl rfl rfl (compareIn_ct x y i hlt) rfl rfl ?_
    repeat (refine Quiet.go rfl ?_)
    refine Quiet.nil ?_
    repeat (refine Run.go rfl ?_)
    refine Run.cond rfl (fun h => by simp at h; omega) (fun h => ?_)
    repeat (refine Run.go rfl ?_)
    refine Run.cond rfl (fun h => ?_) (fun h => ?_)
    · have h : fc x y i ≠ 0 := by simpa using h
      repeat (refine Run.go rfl ?_)
      refine Run.ret hg rfl ?_
      rw [uc_at hlt r0 r1 h]
      rfl
    · have h : fc x y i = 0 := by simpa using h
      repeat (refine Run.go rfl ?_)
      refine Run.of (IH (i + 1) ⟨by omega, fun h0 => ?_, fun h0 => ?_, fun h0 => ?_⟩ (by omega)) ⟨rfl, rfl, rfl, rfl, ?_, trivial⟩ ⟨rfl, rfl, trivial⟩
      · by_cases e : i = 0
        · rw [e] at h; exact h
        · exact r0 (by omega)
      · by_cases e : i = 1
        · rw [e] at h; exact h
        · exact r1 (by omega)
      · by_cases e : i = 2
        · rw [e] at h; exact h
        · exact r2 (by omega)
      · show i64 _ = _
        rw [wrap_i64 (by omega) (by omega)]
        rfl
  · have hi' : i = 3 := by simp at h; omega
    subst hi'
    repeat (refine Run.go rfl ?_)
    refine Run.ret hg rfl ?_
    rw [uc_end (r0 (by omega)) (r1 (by omega)) (r2 (by omega))]
    rfl

noncomputable def X88 : Fx := ⟨Tryz.prog, tys, 88, Tryz.f88, []⟩
theorem X88_ok : X88.Ok := ⟨Tryz.func88, tys_ok⟩
theorem usual_ct : Ct Tryz.prog 88 [] (.own 1 true usl) [] := by
  refine Ct.intro X88 X88_ok rfl rfl rfl rfl fun g hg => ?_
  repeat (refine Run.go rfl ?_)
  refine Run.buildSlice usl rfl rfl rfl rfl rfl rfl rfl rfl rfl rfl rfl rfl rfl rfl ?_
  repeat (refine Run.go rfl ?_)
  exact Run.ret hg rfl rfl

noncomputable def X67 : Fx := ⟨Tryz.prog, tys, 67, Tryz.f67, [0, 1]⟩
theorem X67_ok : X67.Ok := ⟨Tryz.func67, tys_ok⟩
theorem compare_ct (x y : Bk) : Ct Tryz.prog 67 [bkA x, bkA y] (i64 (uc x y)) [] := by
  refine Ct.intro X67 X67_ok rfl rfl rfl rfl fun g hg => ?_
  repeat (refine Run.go rfl ?_)
  refine Run.drawn [[0, 1, 2, 3, 4], [0, 2, 1, 3, 4], [1, 0, 2, 3, 4], [1, 2, 0, 3, 4], [2, 0, 1, 3, 4], [2, 1, 0, 3, 4]] ⟨[(4, i64 (uc x y))], []⟩ (by decide +kernel) (by kernel_rfl) ?_ fun _ hN => ⟨?_, ?_, ?_, ?_, ?_, ?_, trivial⟩
  rotate_left
  iterate 6
    · repeat (refine Run.go rfl ?_)
      refine Run.cs rfl usual_ct rfl rfl ?_
      repeat (refine Run.go rfl ?_)
      refine Run.cs rfl (compareBy_ct x y true) rfl rfl ?_
      repeat (refine Run.go rfl ?_)
      exact Run.of hN ⟨rfl, trivial⟩ trivial
  repeat (refine Run.go rfl ?_)
  exact Run.ret hg rfl rfl

def ooo (l : List Bk) (j : Nat) : Bool := decide (uc (l.getD (j + 1) bk0) (l.getD j bk0) < 0)
def srt (l : List Bk) : Bool := !((List.range (l.length - 1)).any (ooo l))
theorem ooo_at {l : List Bk} {j : Nat} (h : j + 1 < l.length) : ooo l j = decide (uc l[j + 1] l[j] < 0) := by
  unfold ooo
  simp [h, Nat.lt_of_succ_lt h]

noncomputable def X66 : Fx := ⟨Tryz.prog, tys, 66, Tryz.f66, [0, 1]⟩
theorem X66_ok : X66.Ok := ⟨Tryz.func66, tys_ok⟩
theorem isSortedFunc_ct (l : List Bk) (ex : Bool) (f : Nat) (hlen : l.length ≤ 1048576) (hf : ∀ x y : Bk, Ct Tryz.prog f [bkA x, bkA y] (i64 (uc x y)) []) : Ct Tryz.prog 66 [.ro 8 ex (l.map bkA), .fn f []] (bo (srt l)) [] := by
  refine Ct.intro X66 X66_ok rfl (by kernel_rfl) rfl rfl fun g hg => ?_
  have ew : IntKind.i64.wrap (((l.map bkA).length : Int) - 1) = (l.length : Int) - 1 := by rw [List.length_map, wrap_i64 (by omega) (by omega)]
  repeat (refine Run.go rfl ?_)
  rw [ew]
  refine Run.loop (fun m : Nat => ⟨[(0, .ro 8 ex (l.map bkA)), (1, .fn f []), (5, i64 ((l.length : Int) - 1 - m))], []⟩) (fun m => m ≤ l.length - 1 ∧ ∀ j, l.length - 1 ≤ j + m → j < l.length - 1 → ooo l j = false) (fun m => l.length - 1 - m) 0 ⟨by omega, fun j h1 h2 => by omega⟩ ?_ ?_
  · refine St.Le.mk' ⟨rfl, rfl, ?_, trivial⟩ trivial
    show i64 ((l.length : Int) - 1) = i64 ((l.length : Int) - 1 - 0)
    rw [Int.sub_zero]
  rintro m ⟨hm, hall⟩ IH
  repeat (refine Run.go rfl ?_)
  refine Run.cond rfl (fun h => ?_) (fun h => ?_)
  · have hlt : m < l.length - 1 := by simp at h; omega
    obtain ⟨i, hi⟩ : ∃ i, i = l.length - 2 - m := ⟨_, rfl⟩
    have hi1 : i + 1 < l.length := by omega
    have e5 : (l.length : Int) - 1 - m = ((i + 1 : Nat) : Int) := by omega
    rw [e5]
    repeat (refine Run.go rfl ?_)
    refine Run.draw (by kernel_rfl) (by decide +kernel) ?_
    repeat (refine Quiet.go rfl ?_)
    refine Quiet.val rfl rfl (ValOk.idx (bkA l[i + 1]) rfl rfl rfl rfl rfl (by omega) (by simp only [Int.toNat_natCast, List.getElem?_map, List.getElem?_eq_getElem hi1, Option.map_some])) rfl ?_
    repeat (refine Quiet.go rfl ?_)
    rw [show IntKind.i64.wrap (((i + 1 : Nat) : Int) - 1) = (i : Int) by rw [wrap_i64 (by omega) (by omega)]; omega]
    refine Quiet.val rfl rfl (ValOk.idx (bkA l[i]) rfl rfl rfl rfl rfl (by omega) (by simp only [Int.toNat_natCast, List.getElem?_map, List.getElem?_eq_getElem (Nat.lt_of_succ_lt hi1), Option.map_some])) rfl ?_
    repeat (refine Quiet.go rfl ?_)
    refine Quiet.cs rfl rfl rfl rfl rfl (hf l[i + 1] l[i]) rfl rfl ?_
    repeat (refine Quiet.go rfl ?_)
    refine Quiet.nil ?_
    repeat (refine Run.go rfl ?_)
    refine Run.cond rfl (fun h => ?_) (fun h => ?_)
    · have h : ooo l i = true := by rw [ooo_at hi1]; exact h
      repeat (refine Run.go rfl ?_)
      refine Run.ret hg rfl ?_
      have : (List.range (l.length - 1)).any (ooo l) = true := List.any_eq_true.mpr ⟨i, List.mem_range.mpr (by omega), h⟩
      rw [srt, this]
      rfl
    · have h : ooo l i = false := by rw [ooo_at hi1]; exact h
      repeat (refine Run.go rfl ?_)
      refine Run.of (IH (m + 1) ⟨by omega, fun j h1 h2 => ?_⟩ (by omega)) ⟨rfl, rfl, ?_, trivial⟩ trivial
      · by_cases e : j = i
        · rw [e]; exact h
        · exact hall j (by omega) h2
      · show i64 (IntKind.i64.wrap (((i + 1 : Nat) : Int) - 1)) = _
        rw [wrap_i64 (by omega) (by omega)]
        exact congrArg i64 (by omega)
  · have hm' : ¬ m < l.length - 1 := by simp at h; omega
    repeat (refine Run.go rfl ?_)
    refine Run.ret hg rfl ?_
    have : (List.range (l.length - 1)).any (ooo l) = false := by
      rw [List.any_eq_false]
      intro j hj
      rw [hall j (by omega) (List.mem_range.mp hj)]
      decide
    rw [srt, this]
    rfl

noncomputable def X41 : Fx := ⟨Tryz.prog, tys, 41, Tryz.f41, [0]⟩
theorem X41_ok : X41.Ok := ⟨Tryz.func41, tys_ok⟩
theorem isSorted_ct (l : List Bk) (ex : Bool) (hlen : l.length ≤ 1048576) : Ct Tryz.prog 41 [.ro 8 ex (l.map bkA)] (bo (srt l)) [] := by
  refine Ct.intro X41 X41_ok rfl rfl rfl rfl fun g hg => ?_
  repeat (refine Run.go rfl ?_)
  refine Run.cs rfl (isSortedFunc_ct l ex _ hlen compare_ct) rfl rfl ?_
  repeat (refine Run.go rfl ?_)
  exact Run.ret hg rfl rfl
end Go.Proofs.YtmeejegdgfkogaaGreatDoor

/- Contracts of the program's functions, and what follows from them. -/
set_option maxRecDepth 100000
namespace Go.Proofs.YtmeejegdgfkogaaGreatDoor
open Go Go.Av

/-! The reference's order of books; the codes of catalogues and shelves. -/

def numA (p : Int × Int × Int) : AV := .agg [i64 p.1, i64 p.2.1, i64 p.2.2]

theorem wu8 {n : Int} (h : u8r n) : IntKind.i64.wrap n = n := wrap_i64 (by have := h.1; omega) (by have := h.2; omega)

noncomputable def X74 : Fx := ⟨Tryz.prog, tys, 74, Tryz.f74, [0]⟩
theorem X74_ok : X74.Ok := ⟨Tryz.func74, tys_ok⟩
theorem l01Field_ct (n : Int) (h : 1 ≤ n ∧ n ≤ 3) : Ct Tryz.prog 74 [i8 n] (i8 n) [] := by
  refine Ct.intro X74 X74_ok rfl rfl rfl rfl fun g hg => ?_
  repeat (refine Run.go rfl ?_)
  refine Run.cond rfl (fun h => by simp at h; omega) (fun h => ?_)
  repeat (refine Run.go rfl ?_)
  exact Run.ret hg rfl rfl

noncomputable def X75 : Fx := ⟨Tryz.prog, tys, 75, Tryz.f75, [0, 1]⟩
theorem X75_ok : X75.Ok := ⟨Tryz.func75, tys_ok⟩
theorem l01Numbers0_ct (x : Bk) (hr : bkRng x) : Ct Tryz.prog 75 [.rp (bkA x).cells 0, i8 1] (numA (nm x 0)) [] := by
  have w := w64 hr.1
  refine Ct.intro X75 X75_ok rfl rfl rfl rfl fun g hg => ?_
  repeat (refine Run.go rfl ?_)
  refine Run.cond rfl (fun h => ?_) (fun h => by simp at h)
  repeat (refine Run.go rfl ?_)
  rw [w]
  refine Run.val rfl rfl rfl (ValOk.buildArr rfl rfl rfl rfl rfl) rfl ?_
  repeat (refine Run.go rfl ?_)
  exact Run.ret hg rfl rfl
theorem l01Numbers1_ct (x : Bk) (hr : bkRng x) : Ct Tryz.prog 75 [.rp (bkA x).cells 0, i8 2] (numA (nm x 1)) [] := by
  have w1 := wu8 hr.2.1
  have w2 := wu8 hr.2.2.1
  have w3 := wu8 hr.2.2.2.1
  refine Ct.intro X75 X75_ok rfl rfl rfl rfl fun g hg => ?_
  repeat (refine Run.go rfl ?_)
  refine Run.cond rfl (fun h => by simp at h) (fun h => ?_)
  repeat (refine Run.go rfl ?_)
  refine Run.cond rfl (fun h => ?_) (fun h => by simp at h)
  repeat (refine Run.go rfl ?_)
  refine Run.drawSt rfl (by kernel_rfl) (by decide +kernel) ?_
  repeat (refine Quiet.go rfl ?_)
  rw [w1, w2, w3]
  refine Quiet.val rfl rfl (ValOk.buildArr rfl rfl rfl rfl rfl) rfl ?_
  repeat (refine Quiet.go rfl ?_)
  refine Quiet.nil ⟨_, rfl, ?_⟩
  repeat (refine Run.go rfl ?_)
  exact Run.ret (r := numA (nm x 1)) hg (by kernel_rfl) rfl
theorem l01Numbers2_ct (x : Bk) (hr : bkRng x) : Ct Tryz.prog 75 [.rp (bkA x).cells 0, i8 3] (numA (nm x 2)) [] := by
  have w := w64 hr.2.2.2.2.1
  refine Ct.intro X75 X75_ok rfl rfl rfl rfl fun g hg => ?_
  repeat (refine Run.go rfl ?_)
  refine Run.cond rfl (fun h => by simp at h) (fun h => ?_)
  repeat (refine Run.go rfl ?_)
  refine Run.cond rfl (fun h => by simp at h) (fun h => ?_)
  repeat (refine Run.go rfl ?_)
  refine Run.cond rfl (fun h => ?_) (fun h => by simp at h)
  repeat (refine Run.go rfl ?_)
  rw [w]
  refine Run.val rfl rfl rfl (ValOk.buildArr rfl rfl rfl rfl rfl) rfl ?_
  repeat (refine Run.go rfl ?_)
  exact Run.ret hg rfl rfl

theorem l01Numbers_ct (x : Bk) (i : Nat) (hi : i < 3) (hr : bkRng x) : Ct Tryz.prog 75 [.rp (bkA x).cells 0, i8 ((i : Int) + 1)] (numA (nm x i)) [] := by
  have : i = 0 ∨ i = 1 ∨ i = 2 := by omega
  rcases this with rfl | rfl | rfl
  · exact l01Numbers0_ct x hr
  · exact l01Numbers1_ct x hr
  · exact l01Numbers2_ct x hr

noncomputable def X49 : Fx := ⟨Tryz.prog, tys, 49, Tryz.f49, [0, 1, 2]⟩
theorem X49_ok : X49.Ok := ⟨Tryz.func49, tys_ok⟩
theorem l01Compare_ct (x y : Bk) (ex : Bool) (hx : bkRng x) (hy : bkRng y) : Ct Tryz.prog 49 [.ro 1 ex usl, .rp (bkA x).cells 0, .rp (bkA y).cells 0] (i64 (uc x y)) [] := by
  refine Ct.intro X49 X49_ok rfl (by kernel_rfl) rfl rfl fun g hg => ?_
  repeat (refine Run.go rfl ?_)
  refine Run.loop (fun i : Nat => ⟨[(0, .ro 1 ex usl), (1, .rp (bkA x).cells 0), (2, .rp (bkA y).cells 0), (7, i64 i)], []⟩) (fun i => i ≤ 3 ∧ (0 < i → fc x y 0 = 0) ∧ (1 < i → fc x y 1 = 0) ∧ (2 < i → fc x y 2 = 0)) (fun i => 3 - i) 0 (by omega) ?_ ?_
  · exact St.Le.mk' ⟨rfl, rfl, rfl, rfl, trivial⟩ trivial
  rintro i ⟨hi, r0, r1, r2⟩ IH
  repeat (refine Run.go rfl ?_)
  refine Run.cond rfl (fun h => ?_) (fun h => ?_)
  · have h : (i : Int) < 3 := of_decide_eq_true h
    have hlt : i < 3 := by omega
    have hX := l01Numbers_ct x i hlt hx
    have hY := l01Numbers_ct y i hlt hy
    have hfc : fc x y i = lex3 (nm x i) (nm y i) := rfl
    generalize nm x i = p at hX hfc
    generalize nm y i = q at hY hfc
    obtain ⟨p0, p1, p2⟩ := p
    obtain ⟨q0, q1, q2⟩ := q
    repeat (refine Run.go rfl ?_)
    refine Run.val rfl rfl rfl (ValOk.idx (i8 ((i : Int) + 1)) rfl rfl rfl rfl rfl (by omega) (by rw [Int.toNat_natCast]; exact usl_at hlt)) rfl ?_
    repeat (refine Run.go rfl ?_)
    refine Run.cs rfl (l01Field_ct ((i : Int) + 1) (by omega)) rfl rfl ?_
    repeat (refine Run.go rfl ?_)
    refine Run.cs rfl hX rfl rfl ?_
    repeat (refine Run.go rfl ?_)
    refine Run.cs rfl hY rfl rfl ?_
    repeat (refine Run.go rfl ?_)
    refine Run.loop (fun k : Nat => ⟨[(0, .ro 1 ex usl), (1, .rp (bkA x).cells 0), (2, .rp (bkA y).cells 0), (7, i64 i), (9, .bp (9, 0) 0), (10, .bp (10, 0) 0), (11, i64 k)], [((9, 0), .box [i64 p0, i64 p1, i64 p2]), ((10, 0), .box [i64 q0, i64 q1, i64 q2])]⟩) (fun k => k ≤ 3 ∧ (0 < k → p0 = q0) ∧ (1 < k → p1 = q1) ∧ (2 < k → p2 = q2)) (fun k => 3 - k) 0 (by omega) ?_ ?_
    · exact St.Le.mk' ⟨rfl, rfl, rfl, rfl, rfl, rfl, rfl, trivial⟩ ⟨rfl, rfl, trivial⟩
    rintro k ⟨hk, s0, s1, s2⟩ IH2
    have hk4 : k = 0 ∨ k = 1 ∨ k = 2 ∨ k = 3 := by omega
    have hpos : decide ((0 : Int) < (i : Int) + 1) = true := decide_eq_true (by omega)
    rcases hk4 with rfl | rfl | rfl | rfl
    · repeat (refine Run.go rfl ?_)
      refine Run.cond rfl (fun h => ?_) (fun h => by simp at h)
      repeat (refine Run.go rfl ?_)
      refine Run.draw (by kernel_rfl) (by decide +kernel) ?_
      repeat (refine Quiet.go rfl ?_)
      refine Quiet.nil ?_
      repeat (refine Run.go rfl ?_)
      refine Run.cond rfl (fun h => ?_) (fun h => ?_)
      · have e : p0 = q0 := by simpa using h
        repeat (refine Run.go rfl ?_)
        exact Run.of (IH2 1 ⟨by omega, fun _ => e, by omega, by omega⟩ (by omega)) ⟨rfl, rfl, rfl, rfl, rfl, rfl, rfl, trivial⟩ ⟨rfl, rfl, trivial⟩
      · have hne : p0 ≠ q0 := by simpa using h
        have hl : fc x y i = cmpI p0 q0 := by
          rw [hfc]
          rw [lex3, if_pos (cmpI_ne hne)]
        have hu : uc x y = cmpI p0 q0 := by
          rw [← hl]
          exact uc_at hlt r0 r1 (by rw [hl]; exact cmpI_ne hne)
        repeat (refine Run.go rfl ?_)
        refine Run.draw (by kernel_rfl) (by decide +kernel) ?_
        repeat (refine Quiet.go rfl ?_)
        refine Quiet.val rfl rfl (ValOk.idx (i8 ((i : Int) + 1)) rfl rfl rfl rfl rfl (by omega) (by rw [Int.toNat_natCast]; exact usl_at hlt)) rfl ?_
        repeat (refine Quiet.go rfl ?_)
        refine Quiet.nil ?_
        repeat (refine Run.go rfl ?_)
        refine Run.cond rfl (fun h => ?_) (fun h => ?_)
        · have h : (decide (p0 < q0) == decide ((0 : Int) < (i : Int) + 1)) = true := h
          rw [hpos] at h
          have h : p0 < q0 := by simpa using h
          repeat (refine Run.go rfl ?_)
          refine Run.ret hg rfl ?_
          rw [hu, cmpI_lt h]
          rfl
        · have h : (decide (p0 < q0) == decide ((0 : Int) < (i : Int) + 1)) = false := h
          rw [hpos] at h
          have h : ¬ p0 < q0 := by simpa using h
          repeat (refine Run.go rfl ?_)
          refine Run.ret hg rfl ?_
          rw [hu, cmpI_gt hne h]
          rfl
    · repeat (refine Run.go rfl ?_)
      refine Run.cond rfl (fun h => ?_) (fun h => by simp at h)
      repeat (refine Run.go rfl ?_)
      refine Run.draw (by kernel_rfl) (by decide +kernel) ?_
      repeat (refine Quiet.go rfl ?_)
      refine Quiet.nil ?_
      repeat (refine Run.go rfl ?_)
      refine Run.cond rfl (fun h => ?_) (fun h => ?_)
      · have e : p1 = q1 := by simpa using h
        repeat (refine Run.go rfl ?_)
        exact Run.of (IH2 2 ⟨by omega, fun _ => s0 (by omega), fun _ => e, by omega⟩ (by omega)) ⟨rfl, rfl, rfl, rfl, rfl, rfl, rfl, trivial⟩ ⟨rfl, rfl, trivial⟩
      · have hne : p1 ≠ q1 := by simpa using h
        have hl : fc x y i = cmpI p1 q1 := by
          rw [hfc]
          rw [lex3, if_neg (by simp [s0 (by omega), cmpI_self]), if_pos (cmpI_ne hne)]
        have hu : uc x y = cmpI p1 q1 := by
          rw [← hl]
          exact uc_at hlt r0 r1 (by rw [hl]; exact cmpI_ne hne)
        repeat (refine Run.go rfl ?_)
        refine Run.draw (by kernel_rfl) (by decide +kernel) ?_
        repeat (refine Quiet.go rfl ?_)
        refine Quiet.val rfl rfl (ValOk.idx (i8 ((i : Int) + 1)) rfl rfl rfl rfl rfl (by omega) (by rw [Int.toNat_natCast]; exact usl_at hlt)) rfl ?_
        repeat (refine Quiet.go rfl ?_)
        refine Quiet.nil ?_
        repeat (refine Run.go rfl ?_)
        refine Run.cond rfl (fun h => ?_) (fun h => ?_)
        · have h : (decide (p1 < q1) == decide ((0 : Int) < (i : Int) + 1)) = true := h
          rw [hpos] at h
          have h : p1 < q1 := by simpa using h
          repeat (refine Run.go rfl ?_)
          refine Run.ret hg rfl ?_
          rw [hu, cmpI_lt h]
          rfl
        · have h : (decide (p1 < q1) == decide ((0 : Int) < (i : Int) + 1)) = false := h
          rw [hpos] at h
          have h : ¬ p1 < q1 := by simpa using h
          repeat (refine Run.go rfl ?_)
          refine Run.ret hg rfl ?_
          rw [hu, cmpI_gt hne h]
          rfl
    · repeat (refine Run.go rfl ?_)
      refine Run.cond rfl (fun h => ?_) (fun h => by simp at h)
      repeat (refine Run.go rfl ?_)
      refine Run.draw (by kernel_rfl) (by decide +kernel) ?_
      repeat (refine Quiet.go rfl ?_)
      refine Quiet.nil ?_
      repeat (refine Run.go rfl ?_)
      refine Run.cond rfl (fun h => ?_) (fun h => ?_)
      · have e : p2 = q2 := by simpa using h
        repeat (refine Run.go rfl ?_)
        exact Run.of (IH2 3 ⟨by omega, fun _ => s0 (by omega), fun _ => s1 (by omega), fun _ => e⟩ (by omega)) ⟨rfl, rfl, rfl, rfl, rfl, rfl, rfl, trivial⟩ ⟨rfl, rfl, trivial⟩
      · have hne : p2 ≠ q2 := by simpa using h
        have hl : fc x y i = cmpI p2 q2 := by
          rw [hfc]
          rw [lex3, if_neg (by simp [s0 (by omega), cmpI_self]), if_neg (by simp [s1 (by omega), cmpI_self])]
        have hu : uc x y = cmpI p2 q2 := by
          rw [← hl]
          exact uc_at hlt r0 r1 (by rw [hl]; exact cmpI_ne hne)
        repeat (refine Run.go rfl ?_)
        refine Run.draw (by kernel_rfl) (by decide +kernel) ?_
        repeat (refine Quiet.go rfl ?_)
        refine Quiet.val rfl rfl (ValOk.idx (i8 ((i : Int) + 1)) rfl rfl rfl rfl rfl (by omega) (by rw [Int.toNat_natCast]; exact usl_at hlt)) rfl ?_
        repeat (refine Quiet.go rfl ?_)
        refine Quiet.nil ?_
        repeat (refine Run.go rfl ?_)
        refine Run.cond rfl (fun h => ?_) (fun h => ?_)
        · have h : (decide (p2 < q2) == decide ((0 : Int) < (i : Int) + 1)) = true := h
          rw [hpos] at h
          have h : p2 < q2 := by simpa using h
          repeat (refine Run.go rfl ?_)
          refine Run.ret hg rfl ?_
          rw [hu, cmpI_lt h]
          rfl
        · have h : (decide (p2 < q2) == decide ((0 : Int) < (i : Int) + 1)) = false := h
          rw [hpos] at h
          have h : ¬ p2 < q2 := by simpa using h
          repeat (refine Run.go rfl ?_)
          refine Run.ret hg rfl ?_
          rw [hu, cmpI_gt hne h]
          rfl
    · have hz : fc x y i = 0 := by
        rw [hfc, s0 (by omega), s1 (by omega), s2 (by omega)]
        simp [lex3, cmpI_self]
      repeat (refine Run.go rfl ?_)
      refine Run.cond rfl (fun h => by simp at h) (fun h => ?_)
      repeat (refine Run.go rfl ?_)
      refine Run.of (IH (i + 1) ⟨by omega, fun h0 => ?_, fun h0 => ?_, fun h0 => ?_⟩ (by omega)) ⟨rfl, rfl, rfl, ?_, trivial⟩ trivial
      · by_cases e : i = 0
        · rw [e] at hz; exact hz
        · exact r0 (by omega)
      · by_cases e : i = 1
        · rw [e] at hz; exact hz
        · exact r1 (by omega)
      · by_cases e : i = 2
        · rw [e] at hz; exact hz
        · exact r2 (by omega)
      · show i64 _ = _
        rw [wrap_i64 (by omega) (by omega)]
        rfl
  · have h : ¬ (i : Int) < 3 := of_decide_eq_false h
    have hi' : i = 3 := by omega
    subst hi'
    repeat (refine Run.go rfl ?_)
    refine Run.ret hg rfl ?_
    rw [uc_end (r0 (by omega)) (r1 (by omega)) (r2 (by omega))]
    rfl

noncomputable def X25 : Fx := ⟨Tryz.prog, tys, 25, Tryz.f25, [0, 1]⟩
theorem X25_ok : X25.Ok := ⟨Tryz.func25, tys_ok⟩
theorem l01Usual_ct (x y : Bk) (hx : bkRng x) (hy : bkRng y) : Ct Tryz.prog 25 [.rp (bkA x).cells 0, .rp (bkA y).cells 0] (i64 (uc x y)) [] := by
  refine Ct.intro X25 X25_ok rfl rfl rfl rfl fun g hg => ?_
  repeat (refine Run.go rfl ?_)
  refine Run.buildSlice usl rfl rfl rfl rfl rfl rfl rfl rfl rfl rfl rfl rfl rfl rfl ?_
  repeat (refine Run.go rfl ?_)
  refine Run.cs rfl (l01Compare_ct x y true hx hy) rfl rfl ?_
  repeat (refine Run.go rfl ?_)
  exact Run.ret hg rfl rfl

def outI (l : List Bk) : Int := if fi (ooo l) (List.range (l.length - 1)) < 0 then -1 else fi (ooo l) (List.range (l.length - 1)) + 1
theorem outI_srt (l : List Bk) : decide (0 ≤ outI l) = !srt l := by
  have h := fi_nonneg (ooo l) (List.range (l.length - 1))
  unfold outI srt
  rw [Bool.not_not, ← h]
  congr 1
  by_cases h0 : fi (ooo l) (List.range (l.length - 1)) < 0
  · rw [if_pos h0]
    simp
    omega
  · rw [if_neg h0]
    simp
    omega

def stCode (a b : List Bk) : Int := if vBs a && vBs b then (if srt a then 0 else 4) else 1

end Go.Proofs.YtmeejegdgfkogaaGreatDoor

/- Contracts of the program's functions, and what follows from them. -/
set_option maxRecDepth 100000
namespace Go.Proofs.YtmeejegdgfkogaaGreatDoor
open Go Go.Av

/-! Books as keys; which books one list has more often than another one. -/

theorem i16_wf {n : Int} (h : i16r n) : (Lit.int .i16 n).wf = true := by
  simpa [Lit.wf, IntKind.min, IntKind.max, IntKind.signed, IntKind.bits, i16r] using h
theorem u8_wf {n : Int} (h : u8r n) : (Lit.int .u8 n).wf = true := by
  simpa [Lit.wf, IntKind.min, IntKind.max, IntKind.signed, IntKind.bits, u8r] using h

theorem bk_key (x : Bk) (hr : bkRng x) : ∃ l, keyOf Tryz.prog 38 (.agg (bkV x).toArray) = some l := by
  obtain ⟨r0, r1, r2, r3, r4, r5, r6, r7⟩ := hr
  have e0 := i16_wf r0
  have e1 := u8_wf r1
  have e2 := u8_wf r2
  have e3 := u8_wf r3
  have e4 := i16_wf r4
  have e5 := i16_wf r5
  have e6 := i16_wf r6
  have e7 := i16_wf r7
  have u0 := Tryz.underlying38
  have u1 := Tryz.underlying22
  have u2 := Tryz.underlying5
  have u3 := Tryz.underlying36
  have hk : Tryz.prog.keyType 38 = true := by kernel_rfl
  have hf : (Value.agg (bkV x).toArray).formed Tryz.prog 38 = true := by kernel_rfl
  have c0 : Tryz.prog.cellsOf 38 = 8 := by kernel_rfl
  have c1 : Tryz.prog.cellsOf 22 = 1 := by kernel_rfl
  have c2 : Tryz.prog.cellsOf 5 = 1 := by kernel_rfl
  have c3 : Tryz.prog.cellsOf 36 = 3 := by kernel_rfl
  obtain ⟨N, hN⟩ : ∃ N, Tryz.prog.types.size + 1 = N + 4 := ⟨Tryz.prog.types.size - 3, by kernel_rfl⟩
  refine ⟨.string (keyBytes [.int .i16 x.cl, .int .u8 x.a, .int .u8 x.b, .int .u8 x.c, .int .i16 x.vol, .int .i16 x.wd, .int .i16 x.hi, .int .i16 x.wt]), ?_⟩
  unfold keyOf
  rw [u0]
  simp only [hk, hf, Bool.and_self, if_true, hN]
  simp [Program.keyLits, u0, u1, u2, u3, c0, c1, c2, c3, bkV, Value.cells, e0, e1, e2, e3, e4, e5, e6, e7, List.range_succ]
theorem bkK : KTy Tryz.prog 38 bkV bkRng := by
  refine KTy.of 5 5 (by decide) (by kernel_rfl) (by kernel_rfl) (by rw [Tryz.underlying38]) bk_key ?_ (by kernel_rfl)
  intro a b h
  cases a; cases b
  simp [bkV] at h
  obtain ⟨h1, h2, h3, h4, h5, h6, h7, h8⟩ := h
  simp [h1, h2, h3, h4, h5, h6, h7, h8]
theorem bk_same (x : Bk) : Instr.sameBits 10000 (.agg (bkV x).toArray) (.agg (bkV x).toArray) = true := by
  simp [Instr.sameBits, bkV]

def moreP (l o : List Bk) (j : Nat) : Bool := decide (o.count (l.getD j bk0) ≤ (l.take j).count (l.getD j bk0))
def more (l o : List Bk) : Nat → List Bk
  | 0 => []
  | j + 1 => more l o j ++ (if moreP l o j then [l.getD j bk0] else [])
theorem more_len (l o : List Bk) (j : Nat) : (more l o j).length ≤ j := by
  induction j with
  | zero => exact Nat.le_refl 0
  | succ j ih =>
    unfold more
    rw [List.length_append]
    split <;> simp <;> omega

/-! The number at a key. -/

def kget (n : Bk) (l : List (Bk × Int)) : Int := ((kfind n l 0).map (·.2)).getD 0
def kput (n : Bk) (u : Int) (l : List (Bk × Int)) : List (Bk × Int) := match kfind n l 0 with
  | some (j, _) => l.set j (n, u)
  | none => l ++ [(n, u)]

theorem kfind_shift (n : Bk) (l : List (Bk × Int)) (i : Nat) : kfind n l i = (kfind n l 0).map fun x => (x.1 + i, x.2) := by
  induction l generalizing i with
  | nil => rfl
  | cons x r ih =>
    unfold kfind
    by_cases h : n = x.1
    · simp [h]
    · simp only [if_neg h]
      rw [ih (i + 1), ih (0 + 1), Option.map_map]
      congr 1
      funext y
      simp only [Function.comp]
      congr 1
      omega

theorem kfind_append_none {n m : Bk} {u : Int} {l : List (Bk × Int)} (h : kfind n l 0 = none) : kfind n (l ++ [(m, u)]) 0 = if n = m then some (l.length, u) else none := by
  induction l with
  | nil => simp [kfind]
  | cons x r ih =>
    unfold kfind at h ⊢
    rw [List.cons_append]
    by_cases hx : n = x.1
    · simp [hx] at h
    · simp only [if_neg hx] at h ⊢
      rw [kfind_shift] at h ⊢
      have h0 : kfind n r 0 = none := by
        cases hk : kfind n r 0 with
        | none => rfl
        | some y => rw [hk] at h; simp at h
      rw [ih h0]
      split <;> simp

theorem kget_append (n m : Bk) (u : Int) (l : List (Bk × Int)) (h : kfind m l 0 = none) : kget n (l ++ [(m, u)]) = if n = m then u else kget n l := by
  unfold kget
  by_cases hn : n = m
  · subst hn
    rw [kfind_append_none h, if_pos rfl, if_pos rfl]
    rfl
  · rw [if_neg hn]
    cases hk : kfind n l 0 with
    | none => rw [kfind_append_none hk, if_neg hn]
    | some y =>
      have : kfind n (l ++ [(m, u)]) 0 = some y := by
        clear h
        induction l generalizing y with
        | nil => simp [kfind] at hk
        | cons x r ih =>
          unfold kfind at hk ⊢
          rw [List.cons_append]
          by_cases hx : n = x.1
          · simpa [hx] using hk
          · simp only [if_neg hx] at hk ⊢
            rw [kfind_shift] at hk ⊢
            cases hr : kfind n r 0 with
            | none => rw [hr] at hk; simp at hk
            | some z => rw [ih z hr]; rw [hr] at hk; exact hk
      rw [this]

theorem kget_set (n m : Bk) (u : Int) : ∀ (l : List (Bk × Int)) (j : Nat) (v : Int), kfind m l 0 = some (j, v) → kget n (l.set j (m, u)) = if n = m then u else kget n l := by
  intro l
  induction l with
  | nil => intro j v h; simp [kfind] at h
  | cons x r ih =>
    intro j v h
    unfold kfind at h
    by_cases hx : m = x.1
    · rw [if_pos hx] at h
      cases h
      rw [List.set_cons_zero]
      unfold kget
      simp only [kfind]
      by_cases hn : n = m
      · simp [hn]
      · rw [if_neg hn, if_neg hn, if_neg (by rw [← hx]; exact hn)]
    · rw [if_neg hx, kfind_shift] at h
      cases hr : kfind m r 0 with
      | none => rw [hr] at h; simp at h
      | some z =>
        rw [hr] at h
        simp only [Option.map_some, Option.some.injEq, Prod.mk.injEq] at h
        obtain ⟨h1, h2⟩ := h
        have ihz := ih z.1 z.2 hr
        rw [← h1, show z.1 + (0 + 1) = z.1 + 1 from rfl, List.set_cons_succ]
        have e : ∀ t : List (Bk × Int), kget n (x :: t) = if n = x.1 then x.2 else kget n t := by
          intro t
          unfold kget
          simp only [kfind]
          by_cases hn : n = x.1
          · simp [hn]
          · rw [if_neg hn, if_neg hn, kfind_shift]
            cases kfind n t 0 <;> rfl
        rw [e, e, ihz]
        by_cases hn : n = x.1
        · rw [if_pos hn, if_pos hn, if_neg (by rw [hn]; exact fun h => hx h.symm)]
        · rw [if_neg hn, if_neg hn]

theorem kget_kput (n m : Bk) (u : Int) (l : List (Bk × Int)) : kget n (kput m u l) = if n = m then u else kget n l := by
  unfold kput
  cases hk : kfind m l 0 with
  | none => exact kget_append n m u l hk
  | some p => exact kget_set n m u l p.1 p.2 hk

theorem kput_ok {m : Bk} {u : Int} {l : List (Bk × Int)} (hm : bkRng m) (hl : ∀ x ∈ l, bkRng x.1) : ∀ x ∈ kput m u l, bkRng x.1 := by
  intro x hx
  unfold kput at hx
  split at hx
  · rcases List.mem_or_eq_of_mem_set hx with h | h
    · exact hl x h
    · rw [h]; exact hm
  · rcases List.mem_append.mp hx with h | h
    · exact hl x h
    · rw [List.mem_singleton.mp h]; exact hm

def incs : List Bk → List (Bk × Int)
  | l => l.foldl (fun m b => kput b (kget b m + 1) m) []
theorem incs_snoc (l : List Bk) (x : Bk) : incs (l ++ [x]) = kput x (kget x (incs l) + 1) (incs l) := by simp [incs]
theorem incs_get (n : Bk) (l : List Bk) : kget n (incs l) = (l.count n : Nat) := by
  suffices h : ∀ k, k ≤ l.length → kget n (incs (l.take k)) = ((l.take k).count n : Nat) by
    have := h l.length (Nat.le_refl _)
    rwa [List.take_length] at this
  intro k
  induction k with
  | zero => intro _; rfl
  | succ k ih =>
    intro hk
    have hlt : k < l.length := hk
    rw [List.take_succ_eq_append_getElem hlt, incs_snoc, kget_kput, List.count_append, List.count_singleton]
    have := ih (by omega)
    by_cases e : n = l[k]
    · rw [if_pos e, ← e, this]
      simp
    · rw [if_neg e, this]
      have : (l[k] == n) = false := by simpa using fun h => e h.symm
      simp [this]
theorem incs_ok {l : List Bk} (h : ∀ x ∈ l, bkRng x) : ∀ k, ∀ x ∈ incs (l.take k), bkRng x.1 := by
  intro k
  induction k with
  | zero => intro x hx; simp [incs] at hx
  | succ k ih =>
    by_cases hk : k < l.length
    · rw [List.take_succ_eq_append_getElem hk, incs_snoc]
      exact kput_ok (h _ (by simp)) ih
    · rw [List.take_of_length_le (by omega)] at ih ⊢
      exact ih

def decs (m : List (Bk × Int)) (l : List Bk) : List (Bk × Int) := l.foldl (fun m b => kput b (kget b m - 1) m) m
theorem decs_snoc (m : List (Bk × Int)) (l : List Bk) (x : Bk) : decs m (l ++ [x]) = kput x (kget x (decs m l) - 1) (decs m l) := by simp [decs]
theorem decs_get (n : Bk) (m : List (Bk × Int)) (l : List Bk) : kget n (decs m l) = kget n m - (l.count n : Nat) := by
  suffices h : ∀ k, k ≤ l.length → kget n (decs m (l.take k)) = kget n m - ((l.take k).count n : Nat) by
    have := h l.length (Nat.le_refl _)
    rwa [List.take_length] at this
  intro k
  induction k with
  | zero => intro _; simp [decs]
  | succ k ih =>
    intro hk
    have hlt : k < l.length := hk
    rw [List.take_succ_eq_append_getElem hlt, decs_snoc, kget_kput, List.count_append, List.count_singleton]
    have := ih (by omega)
    by_cases e : n = l[k]
    · rw [if_pos e, ← e, this]
      simp
      omega
    · rw [if_neg e, this]
      have : (l[k] == n) = false := by simpa using fun h => e h.symm
      simp [this]
theorem decs_ok {m : List (Bk × Int)} {l : List Bk} (hm : ∀ x ∈ m, bkRng x.1) (h : ∀ x ∈ l, bkRng x) : ∀ k, ∀ x ∈ decs m (l.take k), bkRng x.1 := by
  intro k
  induction k with
  | zero => exact hm
  | succ k ih =>
    by_cases hk : k < l.length
    · rw [List.take_succ_eq_append_getElem hk, decs_snoc]
      exact kput_ok (h _ (by simp)) ih
    · rw [List.take_of_length_le (by omega)] at ih ⊢
      exact ih
end Go.Proofs.YtmeejegdgfkogaaGreatDoor

/- Contracts of the program's functions, and what follows from them. -/
set_option maxRecDepth 100000
namespace Go.Proofs.YtmeejegdgfkogaaGreatDoor
open Go Go.Av

/-! What one list has more often, by a map of numbers. -/

end Go.Proofs.YtmeejegdgfkogaaGreatDoor

/- Contracts of the program's functions, and what follows from them. -/
set_option maxRecDepth 100000
namespace Go.Proofs.YtmeejegdgfkogaaGreatDoor
open Go Go.Av

/-! The same stock; missing and foreign books. -/

theorem more_nil {l o : List Bk} {n : Nat} : more l o n = [] ↔ ∀ j, j < n → moreP l o j = false := by
  induction n with
  | zero => simp [more]
  | succ n ih =>
    unfold more
    rw [List.append_eq_nil_iff, ih]
    constructor
    · rintro ⟨h1, h2⟩ j hj
      by_cases e : j = n
      · subst e
        cases hm : moreP l o j with
        | false => rfl
        | true => rw [hm] at h2; simp at h2
      · exact h1 j (by omega)
    · intro h
      exact ⟨fun j hj => h j (by omega), by rw [h n (by omega)]; rfl⟩

theorem count_step {l : List Bk} {j : Nat} (h : j < l.length) (x : Bk) : (l.take (j + 1)).count x = (l.take j).count x + (if l[j] = x then 1 else 0) := by
  rw [List.take_succ_eq_append_getElem h, List.count_append, List.count_singleton]
  congr 1
  by_cases e : l[j] = x <;> simp [e]

theorem count_take_le (l : List Bk) (x : Bk) (n : Nat) : (l.take n).count x ≤ l.count x := by
  have : l.count x = (l.take n).count x + (l.drop n).count x := by rw [← List.count_append, List.take_append_drop]
  omega

theorem more_counts {l o : List Bk} : more l o l.length = [] ↔ ∀ x, l.count x ≤ o.count x := by
  rw [more_nil]
  constructor
  · intro h x
    suffices hh : ∀ n, n ≤ l.length → (l.take n).count x ≤ o.count x by
      have := hh l.length (Nat.le_refl _)
      rwa [List.take_length] at this
    intro n
    induction n with
    | zero => intro _; simp
    | succ n ih =>
      intro hn
      have hlt : n < l.length := hn
      have h1 := h n hlt
      rw [moreP, show l.getD n bk0 = l[n] by simp [hlt]] at h1
      have h1 := of_decide_eq_false h1
      rw [count_step hlt]
      by_cases e : l[n] = x
      · rw [if_pos e]
        rw [e] at h1
        omega
      · rw [if_neg e]
        exact ih (by omega)
  · intro h j hj
    rw [moreP, show l.getD j bk0 = l[j] by simp [hj]]
    refine decide_eq_false ?_
    have h1 := h l[j]
    have h2 := count_take_le l l[j] (j + 1)
    rw [count_step hj, if_pos rfl] at h2
    omega

theorem counts_len : ∀ (l o : List Bk), (∀ x, l.count x ≤ o.count x) → l.length ≤ o.length ∧ (l.length = o.length → ∀ x, o.count x ≤ l.count x) := by
  intro l
  induction l with
  | nil =>
    intro o _
    refine ⟨Nat.zero_le _, fun h x => ?_⟩
    have : o = [] := List.length_eq_zero_iff.mp h.symm
    rw [this]
    exact Nat.le_refl _
  | cons a l ih =>
    intro o h
    have ha := h a
    rw [List.count_cons_self] at ha
    have hmem : a ∈ o := List.count_pos_iff.mp (by omega)
    have hlen := List.length_erase_of_mem hmem
    have hpos : 0 < o.length := List.length_pos_of_mem hmem
    have hce : ∀ x, (o.erase a).count x = o.count x - if a = x then 1 else 0 := by
      intro x
      rw [List.count_erase]
      by_cases e : a = x <;> simp [e]
    obtain ⟨h1, h2⟩ := ih (o.erase a) (by
      intro x
      have := h x
      rw [hce]
      by_cases e : a = x
      · subst e
        rw [List.count_cons_self] at this
        simp
        omega
      · rw [List.count_cons_of_ne e] at this
        simp [e]
        exact this)
    rw [hlen] at h1 h2
    refine ⟨by rw [List.length_cons]; omega, fun he x => ?_⟩
    rw [List.length_cons] at he
    have h3 := h2 (by omega) x
    rw [hce] at h3
    by_cases e : a = x
    · subst e
      rw [List.count_cons_self]
      simp at h3
      omega
    · rw [List.count_cons_of_ne e]
      simp [e] at h3
      exact h3

def sameP (a b : List Bk) : Bool := decide (a.length = b.length) && decide (more a b a.length = [])
theorem sameP_iff (a b : List Bk) : sameP a b = true ↔ more a b a.length = [] ∧ more b a b.length = [] := by
  simp only [sameP, Bool.and_eq_true, decide_eq_true_eq]
  constructor
  · rintro ⟨h1, h2⟩
    exact ⟨h2, more_counts.mpr ((counts_len a b (more_counts.mp h2)).2 h1)⟩
  · rintro ⟨h1, h2⟩
    have k1 := (counts_len a b (more_counts.mp h1)).1
    have k2 := (counts_len b a (more_counts.mp h2)).1
    exact ⟨by omega, h1⟩

def ssRes (a b : List Bk) : Bool × Int := if stCode a b = 0 then (sameP a b, 0) else (false, stCode a b)

def bR (r : List Bk × Int) : AV := .tup [.own 8 false (r.1.map bkA), i64 r.2]
def misRes (a b : List Bk) : List Bk × Int := if stCode a b = 0 then (more a b a.length, 0) else ([], stCode a b)
def forRes (a b : List Bk) : List Bk × Int := if stCode a b = 0 then (more b a b.length, 0) else ([], stCode a b)
theorem misRes_len (a b : List Bk) : (misRes a b).1.length ≤ a.length := by
  unfold misRes
  split
  · exact more_len _ _ _
  · simp
theorem forRes_len (a b : List Bk) : (forRes a b).1.length ≤ b.length := by
  unfold forRes
  split
  · exact more_len _ _ _
  · simp

end Go.Proofs.YtmeejegdgfkogaaGreatDoor

/- Contracts of the program's functions, and what follows from them. -/
set_option maxRecDepth 100000
namespace Go.Proofs.YtmeejegdgfkogaaGreatDoor
open Go Go.Av

/-! Lists of books: marked, held. -/

def mkB (K : Int) : Bk := ⟨IntKind.i16.wrap K, IntKind.u8.wrap (K + 1), IntKind.u8.wrap (K + 2), IntKind.u8.wrap (K + 3), IntKind.i16.wrap (K + 4), IntKind.i16.wrap (K + 5), IntKind.i16.wrap (K + 6), IntKind.i16.wrap (K + 7)⟩
def mkBs (n : Nat) (k : Int) : List Bk := (List.range n).map fun i : Nat => mkB (k + 8 * (i : Int))
theorem mkBs_len (n : Nat) (k : Int) : (mkBs n k).length = n := by simp [mkBs]
theorem mkBs_step (n : Nat) (k : Int) : mkBs (n + 1) k = mkBs n k ++ [mkB (k + 8 * (n : Int))] := by simp [mkBs, List.range_succ]
theorem mkBs_get {n j : Nat} (h : j < n) (k : Int) : (mkBs n k)[j]? = some (mkB (k + 8 * (j : Int))) := by simp [mkBs, h]
def emB (x : Bk) (K : Int) : Nat → Bk
  | 0 => ⟨IntKind.i16.wrap K, x.a, x.b, x.c, x.vol, x.wd, x.hi, x.wt⟩
  | 1 => ⟨IntKind.i16.wrap K, IntKind.u8.wrap (K + 1), x.b, x.c, x.vol, x.wd, x.hi, x.wt⟩
  | 2 => ⟨IntKind.i16.wrap K, IntKind.u8.wrap (K + 1), IntKind.u8.wrap (K + 2), x.c, x.vol, x.wd, x.hi, x.wt⟩
  | _ => ⟨IntKind.i16.wrap K, IntKind.u8.wrap (K + 1), IntKind.u8.wrap (K + 2), IntKind.u8.wrap (K + 3), x.vol, x.wd, x.hi, x.wt⟩

end Go.Proofs.YtmeejegdgfkogaaGreatDoor
