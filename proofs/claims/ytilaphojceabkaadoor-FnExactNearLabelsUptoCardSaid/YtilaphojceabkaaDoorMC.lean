/- Parts of a proof, in one text: B1, B2, BRd. -/
import Derived.Test.YtilaphojceabkaaDoorMD
import Derived.Test.YtilaphojceabkaaDoorMF
import Derived.Test.YtilaphojceabkaaDoorAvRow
set_option linter.unusedVariables false

/- Contracts of the program's functions, and what follows from them. -/
set_option maxRecDepth 100000
namespace Go.Proofs.YtilaphojceabkaaDoor
open Go Go.Av

/-! Books: copied, measured, compared. -/

structure Bk where
  cl : Int
  a : Int
  b : Int
  c : Int
  vol : Int
  wd : Int
  hi : Int
  wt : Int
  deriving DecidableEq

def bkV (x : Bk) : List Value := [.int .i16 x.cl, .int .u8 x.a, .int .u8 x.b, .int .u8 x.c, .int .i16 x.vol, .int .i16 x.wd, .int .i16 x.hi, .int .i16 x.wt]
def bkA (x : Bk) : AV := .agg [i16 x.cl, u8 x.a, u8 x.b, u8 x.c, i16 x.vol, i16 x.wd, i16 x.hi, i16 x.wt]
def bk0 : Bk := ⟨0, 0, 0, 0, 0, 0, 0, 0⟩
theorem bk_rf (x : Bk) : (bkA x).rf = true := rfl
theorem bk_frz (x : Bk) : (bkA x).frz = bkA x := rfl
theorem frzB (l : List Bk) : AV.frzL (l.map bkA) = l.map bkA := frzL_map bk_frz l
theorem rfB (l : List Bk) : AV.rfL (l.map bkA) = true := rfL_map bk_rf l
def m3 (a b c : Int) : Nat → AV
  | 0 => .agg [u8 0, u8 0, u8 0]
  | 1 => .agg [u8 a, u8 0, u8 0]
  | 2 => .agg [u8 a, u8 b, u8 0]
  | _ => .agg [u8 a, u8 b, u8 c]

noncomputable def X56 : Fx := ⟨Tryd.prog, tys, 56, Tryd.f56, [0]⟩
theorem X56_ok : X56.Ok := ⟨Tryd.func56, tys_ok⟩
theorem toByteA3_ct (a b c : Int) : Ct Tryd.prog 56 [.agg [u8 a, u8 b, u8 c]] (.agg [u8 a, u8 b, u8 c]) [] := by
  refine Ct.intro X56 X56_ok rfl rfl rfl rfl fun g hg => ?_
  repeat (refine Run.go rfl ?_)
  refine Run.loop (fun j : Nat => ⟨[(1, .bp (1, 0) 0), (2, .bp (2, 0) 0), (3, .bp (3, 0) 0), (4, i64 j)], [((1, 0), .box [u8 a, u8 b, u8 c]), ((2, 0), .box [u8 0, u8 0, u8 0]), ((3, 0), .box (m3 a b c j).cells)]⟩) (fun j => j ≤ 3) (fun j => 3 - j) 0 (by omega) ?_ ?_
  · exact St.Le.mk' ⟨rfl, rfl, rfl, rfl, trivial⟩ ⟨rfl, rfl, rfl, trivial⟩
  · intro j hj IH
    have hj4 : j = 0 ∨ j = 1 ∨ j = 2 ∨ j = 3 := by omega
    rcases hj4 with rfl | rfl | rfl | rfl
    · repeat (refine Run.go rfl ?_)
      refine Run.cond rfl (fun h => ?_) (fun h => by simp at h)
      repeat (refine Run.go rfl ?_)
      exact Run.of (IH 1 (by omega) (by omega)) ⟨rfl, rfl, rfl, rfl, trivial⟩ ⟨rfl, rfl, rfl, trivial⟩
    · repeat (refine Run.go rfl ?_)
      refine Run.cond rfl (fun h => ?_) (fun h => by simp at h)
      repeat (refine Run.go rfl ?_)
      exact Run.of (IH 2 (by omega) (by omega)) ⟨rfl, rfl, rfl, rfl, trivial⟩ ⟨rfl, rfl, rfl, trivial⟩
    · repeat (refine Run.go rfl ?_)
      refine Run.cond rfl (fun h => ?_) (fun h => by simp at h)
      repeat (refine Run.go rfl ?_)
      exact Run.of (IH 3 (by omega) (by omega)) ⟨rfl, rfl, rfl, rfl, trivial⟩ ⟨rfl, rfl, rfl, trivial⟩
    · repeat (refine Run.go rfl ?_)
      refine Run.cond rfl (fun h => by simp at h) (fun h => ?_)
      repeat (refine Run.go rfl ?_)
      exact Run.ret hg rfl rfl

noncomputable def X22 : Fx := ⟨Tryd.prog, tys, 22, Tryd.f22, [0]⟩
theorem X22_ok : X22.Ok := ⟨Tryd.func22, tys_ok⟩
theorem toBook_ct (x : Bk) : Ct Tryd.prog 22 [bkA x] (bkA x) [] := by
  refine Ct.intro X22 X22_ok rfl rfl rfl rfl fun g hg => ?_
  repeat (refine Run.go rfl ?_)
  refine Run.cs rfl (toByteA3_ct x.a x.b x.c) rfl rfl ?_
  iterate 4 (refine Run.go rfl ?_)
  refine Run.region ⟨[(1, .bp (1, 0) 0), (2, .bp (2, 0) 0), (3, .bp (3, 0) 0)], [((1, 0), .box (bkA x).cells), ((2, 0), .box (bkA bk0).cells), ((3, 0), .box (bkA ⟨x.cl, x.a, x.b, x.c, x.vol, 0, 0, 0⟩).cells)]⟩ ?_ fun _ hN => ?_
  rotate_left
  · repeat (refine Run.go rfl ?_)
    exact Run.of hN ⟨rfl, rfl, rfl, trivial⟩ ⟨rfl, rfl, rfl, trivial⟩
  refine Run.go rfl ?_
  refine Run.region ⟨[(1, .bp (1, 0) 0), (2, .bp (2, 0) 0), (3, .bp (3, 0) 0)], [((1, 0), .box (bkA x).cells), ((2, 0), .box (bkA bk0).cells), ((3, 0), .box (bkA ⟨x.cl, x.a, x.b, x.c, x.vol, x.wd, 0, 0⟩).cells)]⟩ ?_ fun _ hN => ?_
  rotate_left
  · repeat (refine Run.go rfl ?_)
    exact Run.of hN ⟨rfl, rfl, rfl, trivial⟩ ⟨rfl, rfl, rfl, trivial⟩
  refine Run.go rfl ?_
  refine Run.region ⟨[(1, .bp (1, 0) 0), (2, .bp (2, 0) 0), (3, .bp (3, 0) 0)], [((1, 0), .box (bkA x).cells), ((2, 0), .box (bkA bk0).cells), ((3, 0), .box (bkA ⟨x.cl, x.a, x.b, x.c, x.vol, x.wd, x.hi, 0⟩).cells)]⟩ ?_ fun _ hN => ?_
  rotate_left
  · repeat (refine Run.go rfl ?_)
    exact Run.of hN ⟨rfl, rfl, rfl, trivial⟩ ⟨rfl, rfl, rfl, trivial⟩
  refine Run.go rfl ?_
  refine Run.region ⟨[(1, .bp (1, 0) 0), (2, .bp (2, 0) 0), (3, .bp (3, 0) 0)], [((1, 0), .box (bkA x).cells), ((2, 0), .box (bkA bk0).cells), ((3, 0), .box (bkA ⟨x.cl, x.a, x.b, x.c, x.vol, x.wd, x.hi, x.wt⟩).cells)]⟩ ?_ fun _ hN => ?_
  rotate_left
  · repeat (refine Run.go rfl ?_)
    exact Run.of hN ⟨rfl, rfl, rfl, trivial⟩ ⟨rfl, rfl, rfl, trivial⟩
  repeat (refine Run.go rfl ?_)
  exact Run.ret hg rfl rfl

def szB (l : List Bk) (n : Int) : Int := if n - l.length < 0 then -1 else n - l.length

noncomputable def X172 : Fx := ⟨Tryd.prog, tys, 172, Tryd.f172, [0, 1]⟩
theorem X172_ok : X172.Ok := ⟨Tryd.func172, tys_ok⟩
theorem eqByteA3_ct (a b c a' b' c' : Int) : Ct Tryd.prog 172 [.agg [u8 a, u8 b, u8 c], .agg [u8 a', u8 b', u8 c']] (bo (decide (a = a' ∧ b = b' ∧ c = c'))) [] := by
  refine Ct.intro X172 X172_ok rfl rfl rfl rfl fun g hg => ?_
  repeat (refine Run.go rfl ?_)
  refine Run.loop (fun j : Nat => ⟨[(2, .bp (2, 0) 0), (3, .bp (3, 0) 0), (5, i64 j)], [((2, 0), .box [u8 a, u8 b, u8 c]), ((3, 0), .box [u8 a', u8 b', u8 c'])]⟩) (fun j => j ≤ 3 ∧ (0 < j → a = a') ∧ (1 < j → b = b') ∧ (2 < j → c = c')) (fun j => 3 - j) 0 (by omega) ?_ ?_
  · exact St.Le.mk' ⟨rfl, rfl, rfl, trivial⟩ ⟨rfl, rfl, trivial⟩
  · rintro j ⟨hj, q0, q1, q2⟩ IH
    have hj4 : j = 0 ∨ j = 1 ∨ j = 2 ∨ j = 3 := by omega
    rcases hj4 with rfl | rfl | rfl | rfl
    · repeat (refine Run.go rfl ?_)
      refine Run.cond rfl (fun h => ?_) (fun h => by simp at h)
      repeat (refine Run.go rfl ?_)
      refine Run.draw (by kernel_rfl) (by decide +kernel) ?_
      repeat (refine Quiet.go rfl ?_)
      refine Quiet.nil ?_
      repeat (refine Run.go rfl ?_)
      refine Run.cond rfl (fun h => ?_) (fun h => ?_)
      · have h : a ≠ a' := by simpa using h
        repeat (refine Run.go rfl ?_)
        refine Run.ret hg rfl ?_
        show bo false = _
        simp [h]
      · have h : a = a' := by simpa using h
        repeat (refine Run.go rfl ?_)
        exact Run.of (IH 1 ⟨by omega, fun _ => h, by omega, by omega⟩ (by omega)) ⟨rfl, rfl, rfl, trivial⟩ ⟨rfl, rfl, trivial⟩
    · repeat (refine Run.go rfl ?_)
      refine Run.cond rfl (fun h => ?_) (fun h => by simp at h)
      repeat (refine Run.go rfl ?_)
      refine Run.draw (by kernel_rfl) (by decide +kernel) ?_
      repeat (refine Quiet.go rfl ?_)
      refine Quiet.nil ?_
      repeat (refine Run.go rfl ?_)
      refine Run.cond rfl (fun h => ?_) (fun h => ?_)
      · have h : b ≠ b' := by simpa using h
        repeat (refine Run.go rfl ?_)
        refine Run.ret hg rfl ?_
        show bo false = _
        simp [h]
      · have h : b = b' := by simpa using h
        repeat (refine Run.go rfl ?_)
        exact Run.of (IH 2 ⟨by omega, fun _ => q0 (by omega), fun _ => h, by omega⟩ (by omega)) ⟨rfl, rfl, rfl, trivial⟩ ⟨rfl, rfl, trivial⟩
    · repeat (refine Run.go rfl ?_)
      refine Run.cond rfl (fun h => ?_) (fun h => by simp at h)
      repeat (refine Run.go rfl ?_)
      refine Run.draw (by kernel_rfl) (by decide +kernel) ?_
      repeat (refine Quiet.go rfl ?_)
      refine Quiet.nil ?_
      repeat (refine Run.go rfl ?_)
      refine Run.cond rfl (fun h => ?_) (fun h => ?_)
      · have h : c ≠ c' := by simpa using h
        repeat (refine Run.go rfl ?_)
        refine Run.ret hg rfl ?_
        show bo false = _
        simp [h]
      · have h : c = c' := by simpa using h
        repeat (refine Run.go rfl ?_)
        exact Run.of (IH 3 ⟨by omega, fun _ => q0 (by omega), fun _ => q1 (by omega), fun _ => h⟩ (by omega)) ⟨rfl, rfl, rfl, trivial⟩ ⟨rfl, rfl, trivial⟩
    · repeat (refine Run.go rfl ?_)
      refine Run.cond rfl (fun h => by simp at h) (fun h => ?_)
      repeat (refine Run.go rfl ?_)
      refine Run.ret hg rfl ?_
      show bo true = _
      simp [q0 (by omega), q1 (by omega), q2 (by omega)]

noncomputable def X144 : Fx := ⟨Tryd.prog, tys, 144, Tryd.f144, [0, 1]⟩
theorem X144_ok : X144.Ok := ⟨Tryd.func144, tys_ok⟩
theorem eqBook_ct (x y : Bk) : Ct Tryd.prog 144 [bkA x, bkA y] (bo (decide (x = y))) [] := by
  obtain ⟨xc, xa, xb, xd, xv, xw, xh, xt⟩ := x
  obtain ⟨yc, ya, yb, yd, yv, yw, yh, yt⟩ := y
  refine Ct.intro X144 X144_ok rfl rfl rfl rfl fun g hg => ?_
  repeat (refine Run.go rfl ?_)
  refine Run.cond rfl (fun h => ?_) (fun h1 => ?_)
  · have h : xc ≠ yc := by simpa using h
    repeat (refine Run.go rfl ?_)
    refine Run.ret hg rfl ?_
    show bo false = _
    simp [h]
  have h1 : xc = yc := by simpa using h1
  repeat (refine Run.go rfl ?_)
  refine Run.cs rfl (eqByteA3_ct xa xb xd ya yb yd) rfl rfl ?_
  repeat (refine Run.go rfl ?_)
  refine Run.cond rfl (fun h => ?_) (fun h2 => ?_)
  · have h : ¬ (xa = ya ∧ xb = yb ∧ xd = yd) := of_decide_eq_false (by simpa only [Bool.not_eq_true'] using h)
    repeat (refine Run.go rfl ?_)
    refine Run.ret hg rfl ?_
    show bo false = _
    have : ¬ (⟨xc, xa, xb, xd, xv, xw, xh, xt⟩ : Bk) = ⟨yc, ya, yb, yd, yv, yw, yh, yt⟩ := by
      intro e
      injection e with e1 e2 e3 e4
      exact h ⟨e2, e3, e4⟩
    rw [decide_eq_false this]
  have h2 : xa = ya ∧ xb = yb ∧ xd = yd := by simpa using h2
  repeat (refine Run.go rfl ?_)
  refine Run.cond rfl (fun h => ?_) (fun h3 => ?_)
  · have h : xv ≠ yv := by simpa using h
    repeat (refine Run.go rfl ?_)
    refine Run.ret hg rfl ?_
    show bo false = _
    simp [h]
  have h3 : xv = yv := by simpa using h3
  repeat (refine Run.go rfl ?_)
  refine Run.cond rfl (fun h => ?_) (fun h4 => ?_)
  · have h : xw ≠ yw := by simpa using h
    repeat (refine Run.go rfl ?_)
    refine Run.ret hg rfl ?_
    show bo false = _
    simp [h]
  have h4 : xw = yw := by simpa using h4
  repeat (refine Run.go rfl ?_)
  refine Run.cond rfl (fun h => ?_) (fun h5 => ?_)
  · have h : xh ≠ yh := by simpa using h
    repeat (refine Run.go rfl ?_)
    refine Run.ret hg rfl ?_
    show bo false = _
    simp [h]
  have h5 : xh = yh := by simpa using h5
  repeat (refine Run.go rfl ?_)
  refine Run.cond rfl (fun h => ?_) (fun h6 => ?_)
  · have h : xt ≠ yt := by simpa using h
    repeat (refine Run.go rfl ?_)
    refine Run.ret hg rfl ?_
    show bo false = _
    simp [h]
  have h6 : xt = yt := by simpa using h6
  repeat (refine Run.go rfl ?_)
  refine Run.ret hg rfl ?_
  show bo true = _
  simp [h1, h2, h3, h4, h5, h6]

end Go.Proofs.YtilaphojceabkaaDoor

/- Contracts of the program's functions, and what follows from them. -/
set_option maxRecDepth 100000
namespace Go.Proofs.YtilaphojceabkaaDoor
open Go Go.Av

/-! Which books are valid. -/

noncomputable def X161 : Fx := ⟨Tryd.prog, tys, 161, Tryd.f161, [0, 1]⟩
theorem X161_ok : X161.Ok := ⟨Tryd.func161, tys_ok⟩
theorem indexBy_ct (l : List Int) (ex : Bool) (f : Nat) (caps : List AV) (p : Int → Bool) (hlen : l.length ≤ 1048576) (hc : AV.freeL caps = true)
    (hf : ∀ x ∈ l, Ct Tryd.prog f ([u8 x] ++ caps) (bo (p x)) []) : Ct Tryd.prog 161 [.ro 1 ex (l.map u8), .fn f caps] (i64 (fi p l)) [] := by
  refine Ct.intro X161 X161_ok rfl (by kernel_rfl) rfl rfl fun g hg => ?_
  repeat (refine Run.step rfl ?_)
  refine Run.loop (fun j : Nat => ⟨[(0, .ro 1 ex (l.map u8)), (1, .fn f caps), (7, i64 l.length), (8, i64 j)], []⟩) (fun j => j ≤ l.length ∧ j ≤ l.findIdx p) (fun j => l.length - j) 0 ⟨by omega, by omega⟩ ?_ ?_
  · refine St.Le.mk' ⟨rfl, rfl, ?_, rfl, trivial⟩ trivial
    show i64 _ = _
    simp
  · rintro j ⟨hj1, hj2⟩ IH
    repeat (refine Run.step rfl ?_)
    refine Run.cond rfl (fun h => ?_) (fun h => ?_)
    · have hlt : j < l.length := by simpa using h
      repeat (refine Run.step rfl ?_)
      refine Run.val rfl rfl rfl (ValOk.idx (u8 l[j]) rfl rfl rfl rfl rfl (by omega) (by simp [hlt])) rfl ?_
      repeat (refine Run.step rfl ?_)
      refine Run.callp rfl rfl rfl rfl rfl rfl rfl hc rfl (hf l[j] (by simp)) (by decide) (by decide) ?_
      repeat (refine Run.step rfl ?_)
      refine Run.cond rfl (fun h => ?_) (fun h => ?_)
      · repeat (refine Run.step rfl ?_)
        refine Run.ret hg rfl ?_
        show i64 _ = _
        rw [fi_at hlt h hj2]
      · repeat (refine Run.step rfl ?_)
        refine Run.of (IH (j + 1) ⟨by omega, fi_next hlt h hj2⟩ (by omega)) ⟨rfl, rfl, rfl, ?_, trivial⟩ trivial
        show i64 _ = _
        rw [wrap_i64 (by omega) (by omega)]
        rfl
    · repeat (refine Run.step rfl ?_)
      have hj : j = l.length := by simp at h; omega
      refine Run.ret hg rfl ?_
      show i64 (-1) = _
      rw [fi_none (by omega)]

noncomputable def X130 : Fx := ⟨Tryd.prog, tys, 130, Tryd.f130, [0, 1]⟩
theorem X130_ok : X130.Ok := ⟨Tryd.func130, tys_ok⟩
theorem containsBy_ct (l : List Int) (ex : Bool) (f : Nat) (caps : List AV) (p : Int → Bool) (hlen : l.length ≤ 1048576) (hc : AV.freeL caps = true)
    (hf : ∀ x ∈ l, Ct Tryd.prog f ([u8 x] ++ caps) (bo (p x)) []) : Ct Tryd.prog 130 [.ro 1 ex (l.map u8), .fn f caps] (bo (l.any p)) [] := by
  refine Ct.intro X130 X130_ok rfl (by kernel_rfl) rfl rfl fun g hg => ?_
  repeat (refine Run.go rfl ?_)
  refine Run.callp rfl rfl rfl rfl rfl rfl (by simp [AV.freeL, AV.free, hc]) rfl rfl (indexBy_ct l ex f caps p hlen hc hf) (by decide) (by decide) ?_
  repeat (refine Run.go rfl ?_)
  refine Run.ret hg rfl ?_
  show bo _ = _
  rw [← fi_nonneg]

noncomputable def X131 : Fx := ⟨Tryd.prog, tys, 131, Tryd.f131, [0, 1]⟩
theorem X131_ok : X131.Ok := ⟨Tryd.func131, tys_ok⟩
theorem areAllBy10_ct (c : Int) (f : Nat) (p : Bool) (hf : Ct Tryd.prog f [u8 c] (bo p) []) : Ct Tryd.prog 131 [u8 c, .rp [.fn f []] 0] (bo (!p)) [] := by
  refine Ct.intro X131 X131_ok rfl (by kernel_rfl) rfl rfl fun g hg => ?_
  repeat (refine Run.go rfl ?_)
  refine Run.cs rfl hf rfl rfl ?_
  repeat (refine Run.go rfl ?_)
  exact Run.ret hg rfl rfl

noncomputable def X94 : Fx := ⟨Tryd.prog, tys, 94, Tryd.f94, [0, 1]⟩
theorem X94_ok : X94.Ok := ⟨Tryd.func94, tys_ok⟩
theorem areAllBy0_ct (l : List Int) (ex : Bool) (f : Nat) (p : Int → Bool) (hlen : l.length ≤ 1048576) (hf : ∀ x ∈ l, Ct Tryd.prog f [u8 x] (bo (p x)) []) :
    Ct Tryd.prog 94 [.ro 1 ex (l.map u8), .fn f []] (bo (l.all p)) [] := by
  refine Ct.intro X94 X94_ok rfl (by kernel_rfl) rfl rfl fun g hg => ?_
  repeat (refine Run.go rfl ?_)
  refine Run.cs rfl (containsBy_ct l ex 131 [.rp [.fn f []] 0] (fun x => !p x) hlen rfl (fun x hx => areAllBy10_ct x f (p x) (hf x hx))) rfl rfl ?_
  repeat (refine Run.go rfl ?_)
  refine Run.ret hg rfl ?_
  show bo (!l.any fun x => !p x) = _
  congr 2
  simp [List.all_eq_not_any_not]

theorem areAllBy1_ct (c : Int) (f : Nat) (cs : List AV) (jj : Nat) (p : Bool) (hf : Ct Tryd.prog f [u8 c, .rp cs jj] (bo p) []) : Ct Tryd.prog 131 [u8 c, .rp [.fn f [.rp cs jj]] 0] (bo (!p)) [] := by
  refine Ct.intro X131 X131_ok rfl (by kernel_rfl) rfl rfl fun g hg => ?_
  repeat (refine Run.go rfl ?_)
  refine Run.cs rfl hf rfl rfl ?_
  repeat (refine Run.go rfl ?_)
  exact Run.ret hg rfl rfl

theorem areAllBy_ct (l : List Int) (ex : Bool) (f : Nat) (cs : List AV) (jj : Nat) (p : Int → Bool) (hlen : l.length ≤ 1048576) (hf : ∀ x ∈ l, Ct Tryd.prog f [u8 x, .rp cs jj] (bo (p x)) []) :
    Ct Tryd.prog 94 [.ro 1 ex (l.map u8), .fn f [.rp cs jj]] (bo (l.all p)) [] := by
  refine Ct.intro X94 X94_ok rfl (by kernel_rfl) rfl rfl fun g hg => ?_
  repeat (refine Run.go rfl ?_)
  refine Run.cs rfl (containsBy_ct l ex 131 [.rp [.fn f [.rp cs jj]] 0] (fun x => !p x) hlen rfl (fun x hx => areAllBy1_ct x f cs jj (p x) (hf x hx))) rfl rfl ?_
  repeat (refine Run.go rfl ?_)
  refine Run.ret hg rfl ?_
  show bo (!l.any fun x => !p x) = _
  congr 2
  simp [List.all_eq_not_any_not]


def u8r (n : Int) : Prop := 0 ≤ n ∧ n ≤ 255
def bkRng (x : Bk) : Prop := i16r x.cl ∧ u8r x.a ∧ u8r x.b ∧ u8r x.c ∧ i16r x.vol ∧ i16r x.wd ∧ i16r x.hi ∧ i16r x.wt
def sm (n : Int) : Bool := decide (97 ≤ n) && decide (n ≤ 122)
def vB (x : Bk) : Bool := inr x.cl 0 999 && (sm x.a && (sm x.b && sm x.c)) && inr x.vol 1 99 && inr x.wd 1 100 && inr x.hi 50 400 && inr x.wt 1 9999
def vBs (l : List Bk) : Bool := decide (l.length ≤ 60) && l.all vB

noncomputable def X95 : Fx := ⟨Tryd.prog, tys, 95, Tryd.f95, [0]⟩
theorem X95_ok : X95.Ok := ⟨Tryd.func95, tys_ok⟩
theorem isSmall_ct (n : Int) : Ct Tryd.prog 95 [u8 n] (bo (sm n)) [] := by
  refine Ct.intro X95 X95_ok rfl rfl rfl rfl fun g hg => ?_
  repeat (refine Run.go rfl ?_)
  refine Run.bool 5 rfl (fun h => ?_) (fun h => ?_)
  · repeat (refine Run.go rfl ?_)
    refine Run.ret hg rfl ?_
    show bo _ = _
    simp at h
    simp [sm, h]
  · repeat (refine Run.go rfl ?_)
    refine Run.ret hg rfl ?_
    show bo _ = _
    simp at h
    simp [sm]
    omega

noncomputable def X57 : Fx := ⟨Tryd.prog, tys, 57, Tryd.f57, [0]⟩
theorem X57_ok : X57.Ok := ⟨Tryd.func57, tys_ok⟩
theorem validBook_ct (x : Bk) : Ct Tryd.prog 57 [bkA x] (bo (vB x)) [] := by
  refine Ct.intro X57 X57_ok rfl rfl rfl rfl fun g hg => ?_
  iterate 3 (refine Run.go rfl ?_)
  refine Run.freezeBox 1 (1, 0) (bkA x).cells rfl rfl rfl rfl ?_
  repeat (refine Run.go rfl ?_)
  refine Run.cs rfl (within16_ct x.cl 0 999) rfl rfl ?_
  repeat (refine Run.go rfl ?_)
  refine Run.bool 6 rfl (fun h1 => ?_) (fun h1 => ?_)
  · have h1 : inr x.cl 0 999 = true := h1
    repeat (refine Run.go rfl ?_)
    refine Run.val rfl rfl rfl (ValOk.cutArr (ys := [x.a, x.b, x.c].map u8) rfl rfl rfl rfl rfl rfl rfl rfl rfl (by decide)) rfl ?_
    refine Run.cs rfl (areAllBy0_ct [x.a, x.b, x.c] true _ sm (by simp) fun y _ => isSmall_ct y) rfl rfl ?_
    repeat (refine Run.go rfl ?_)
    refine Run.bool 11 rfl (fun h2 => ?_) (fun h2 => ?_)
    · have h2 : (sm x.a && (sm x.b && sm x.c)) = true := by simpa using h2
      repeat (refine Run.go rfl ?_)
      refine Run.cs rfl (within16_ct x.vol 1 99) rfl rfl ?_
      repeat (refine Run.go rfl ?_)
      refine Run.bool 16 rfl (fun h3 => ?_) (fun h3 => ?_)
      · have h3 : inr x.vol 1 99 = true := h3
        repeat (refine Run.go rfl ?_)
        refine Run.cs rfl (within16_ct x.wd 1 100) rfl rfl ?_
        repeat (refine Run.go rfl ?_)
        refine Run.bool 21 rfl (fun h4 => ?_) (fun h4 => ?_)
        · have h4 : inr x.wd 1 100 = true := h4
          repeat (refine Run.go rfl ?_)
          refine Run.cs rfl (within16_ct x.hi 50 400) rfl rfl ?_
          repeat (refine Run.go rfl ?_)
          refine Run.bool 26 rfl (fun h5 => ?_) (fun h5 => ?_)
          · have h5 : inr x.hi 50 400 = true := h5
            repeat (refine Run.go rfl ?_)
            refine Run.cs rfl (within16_ct x.wt 1 9999) rfl rfl ?_
            repeat (refine Run.go rfl ?_)
            refine Run.ret hg rfl ?_
            rw [vB, h1, h2, h3, h4, h5]
            rfl
          · have h5 : inr x.hi 50 400 = false := h5
            repeat (refine Run.go rfl ?_)
            refine Run.ret hg rfl ?_
            rw [vB, h1, h2, h3, h4, h5]
            rfl
        · have h4 : inr x.wd 1 100 = false := h4
          repeat (refine Run.go rfl ?_)
          refine Run.bool 26 rfl (fun h => by simp at h) (fun h => ?_)
          repeat (refine Run.go rfl ?_)
          refine Run.ret hg rfl ?_
          rw [vB, h1, h2, h3, h4]
          rfl
      · have h3 : inr x.vol 1 99 = false := h3
        repeat (refine Run.go rfl ?_)
        refine Run.bool 21 rfl (fun h => by simp at h) (fun h => ?_)
        repeat (refine Run.go rfl ?_)
        refine Run.bool 26 rfl (fun h => by simp at h) (fun h => ?_)
        repeat (refine Run.go rfl ?_)
        refine Run.ret hg rfl ?_
        rw [vB, h1, h2, h3]
        rfl
    · have h2 : (sm x.a && (sm x.b && sm x.c)) = false := by simpa using h2
      repeat (refine Run.go rfl ?_)
      refine Run.bool 16 rfl (fun h => by simp at h) (fun h => ?_)
      repeat (refine Run.go rfl ?_)
      refine Run.bool 21 rfl (fun h => by simp at h) (fun h => ?_)
      repeat (refine Run.go rfl ?_)
      refine Run.bool 26 rfl (fun h => by simp at h) (fun h => ?_)
      repeat (refine Run.go rfl ?_)
      refine Run.ret hg rfl ?_
      rw [vB, h1, h2]
      rfl
  · have h1 : inr x.cl 0 999 = false := h1
    repeat (refine Run.go rfl ?_)
    refine Run.bool 11 rfl (fun h => by simp at h) (fun h => ?_)
    repeat (refine Run.go rfl ?_)
    refine Run.bool 16 rfl (fun h => by simp at h) (fun h => ?_)
    repeat (refine Run.go rfl ?_)
    refine Run.bool 21 rfl (fun h => by simp at h) (fun h => ?_)
    repeat (refine Run.go rfl ?_)
    refine Run.bool 26 rfl (fun h => by simp at h) (fun h => ?_)
    repeat (refine Run.go rfl ?_)
    refine Run.ret hg rfl ?_
    rw [vB, h1]
    rfl

noncomputable def X90 : Fx := ⟨Tryd.prog, tys, 90, Tryd.f90, [0]⟩
theorem X90_ok : X90.Ok := ⟨Tryd.func90, tys_ok⟩
theorem l01Mark_ct (a b c : Int) : Ct Tryd.prog 90 [.agg [u8 a, u8 b, u8 c]] (bo (sm a && (sm b && sm c))) [] := by
  refine Ct.intro X90 X90_ok rfl rfl rfl rfl fun g hg => ?_
  repeat (refine Run.go rfl ?_)
  refine Run.loop (fun j : Nat => ⟨[(1, .bp (1, 0) 0), (3, i64 j)], [((1, 0), .box [u8 a, u8 b, u8 c])]⟩) (fun j => j ≤ 3 ∧ (0 < j → sm a = true) ∧ (1 < j → sm b = true) ∧ (2 < j → sm c = true)) (fun j => 3 - j) 0 (by omega) ?_ ?_
  · exact St.Le.mk' ⟨rfl, rfl, trivial⟩ ⟨rfl, trivial⟩
  · rintro j ⟨hj, q0, q1, q2⟩ IH
    have hj4 : j = 0 ∨ j = 1 ∨ j = 2 ∨ j = 3 := by omega
    have key : ∀ n : Int, (97 ≤ n → n ≤ 122 → sm n = true) ∧ (n < 97 → sm n = false) ∧ (122 < n → sm n = false) := by
      intro n
      refine ⟨fun h1 h2 => by simp [sm, h1, h2], fun h => by simp [sm]; omega, fun h => by simp [sm]; omega⟩
    rcases hj4 with rfl | rfl | rfl | rfl
    · repeat (refine Run.go rfl ?_)
      refine Run.cond rfl (fun h => ?_) (fun h => by simp at h)
      repeat (refine Run.go rfl ?_)
      refine Run.bool 12 rfl (fun hA => ?_) (fun hA => ?_)
      · have F : sm a = false := (key a).2.1 (by simpa using hA)
        repeat (refine Run.go rfl ?_)
        refine Run.cond rfl (fun _ => ?_) (fun h => by simp at h)
        repeat (refine Run.go rfl ?_)
        refine Run.ret hg rfl ?_
        have : (sm a && (sm b && sm c)) = false := by rw [F, Bool.false_and]
        rw [this]
        rfl
      · have hA : 97 ≤ a := by simpa using hA
        repeat (refine Run.go rfl ?_)
        refine Run.cond rfl (fun hB => ?_) (fun hB => ?_)
        · have F : sm a = false := (key a).2.2 (by simpa using hB)
          repeat (refine Run.go rfl ?_)
          refine Run.ret hg rfl ?_
          have : (sm a && (sm b && sm c)) = false := by rw [F, Bool.false_and]
          rw [this]
          rfl
        · have S : sm a = true := (key a).1 hA (by simpa using hB)
          repeat (refine Run.go rfl ?_)
          exact Run.of (IH 1 ⟨by omega, fun _ => S, by omega, by omega⟩ (by omega)) ⟨rfl, rfl, trivial⟩ ⟨rfl, trivial⟩
    · repeat (refine Run.go rfl ?_)
      refine Run.cond rfl (fun h => ?_) (fun h => by simp at h)
      repeat (refine Run.go rfl ?_)
      refine Run.bool 12 rfl (fun hA => ?_) (fun hA => ?_)
      · have F : sm b = false := (key b).2.1 (by simpa using hA)
        repeat (refine Run.go rfl ?_)
        refine Run.cond rfl (fun _ => ?_) (fun h => by simp at h)
        repeat (refine Run.go rfl ?_)
        refine Run.ret hg rfl ?_
        have : (sm a && (sm b && sm c)) = false := by rw [F, Bool.false_and, Bool.and_false]
        rw [this]
        rfl
      · have hA : 97 ≤ b := by simpa using hA
        repeat (refine Run.go rfl ?_)
        refine Run.cond rfl (fun hB => ?_) (fun hB => ?_)
        · have F : sm b = false := (key b).2.2 (by simpa using hB)
          repeat (refine Run.go rfl ?_)
          refine Run.ret hg rfl ?_
          have : (sm a && (sm b && sm c)) = false := by rw [F, Bool.false_and, Bool.and_false]
          rw [this]
          rfl
        · have S : sm b = true := (key b).1 hA (by simpa using hB)
          repeat (refine Run.go rfl ?_)
          exact Run.of (IH 2 ⟨by omega, fun _ => q0 (by omega), fun _ => S, by omega⟩ (by omega)) ⟨rfl, rfl, trivial⟩ ⟨rfl, trivial⟩
    · repeat (refine Run.go rfl ?_)
      refine Run.cond rfl (fun h => ?_) (fun h => by simp at h)
      repeat (refine Run.go rfl ?_)
      refine Run.bool 12 rfl (fun hA => ?_) (fun hA => ?_)
      · have F : sm c = false := (key c).2.1 (by simpa using hA)
        repeat (refine Run.go rfl ?_)
        refine Run.cond rfl (fun _ => ?_) (fun h => by simp at h)
        repeat (refine Run.go rfl ?_)
        refine Run.ret hg rfl ?_
        have : (sm a && (sm b && sm c)) = false := by rw [F, Bool.and_false, Bool.and_false]
        rw [this]
        rfl
      · have hA : 97 ≤ c := by simpa using hA
        repeat (refine Run.go rfl ?_)
        refine Run.cond rfl (fun hB => ?_) (fun hB => ?_)
        · have F : sm c = false := (key c).2.2 (by simpa using hB)
          repeat (refine Run.go rfl ?_)
          refine Run.ret hg rfl ?_
          have : (sm a && (sm b && sm c)) = false := by rw [F, Bool.and_false, Bool.and_false]
          rw [this]
          rfl
        · have S : sm c = true := (key c).1 hA (by simpa using hB)
          repeat (refine Run.go rfl ?_)
          exact Run.of (IH 3 ⟨by omega, fun _ => q0 (by omega), fun _ => q1 (by omega), fun _ => S⟩ (by omega)) ⟨rfl, rfl, trivial⟩ ⟨rfl, trivial⟩
    · repeat (refine Run.go rfl ?_)
      refine Run.cond rfl (fun h => by simp at h) (fun h => ?_)
      repeat (refine Run.go rfl ?_)
      refine Run.ret hg rfl ?_
      rw [q0 (by omega), q1 (by omega), q2 (by omega)]
      rfl

noncomputable def X89 : Fx := ⟨Tryd.prog, tys, 89, Tryd.f89, [0]⟩
theorem X89_ok : X89.Ok := ⟨Tryd.func89, tys_ok⟩
theorem l01Class_ct (n : Int) : Ct Tryd.prog 89 [i64 n] (bo (inr n 0 999)) [] := by
  refine Ct.intro X89 X89_ok rfl rfl rfl rfl fun g hg => ?_
  repeat (refine Run.go rfl ?_)
  refine Run.cs rfl (l00In_ct n 0 999) rfl rfl ?_
  repeat (refine Run.go rfl ?_)
  exact Run.ret hg rfl rfl

noncomputable def X54 : Fx := ⟨Tryd.prog, tys, 54, Tryd.f54, [0]⟩
theorem X54_ok : X54.Ok := ⟨Tryd.func54, tys_ok⟩
theorem l01Book_ct (x : Bk) (hr : bkRng x) : Ct Tryd.prog 54 [.rp (bkA x).cells 0] (bo (vB x)) [] := by
  obtain ⟨r1, _, _, _, r2, r3, r4, r5⟩ := hr
  have w1 := w64 r1
  have w2 := w64 r2
  have w3 := w64 r3
  have w4 := w64 r4
  have w5 := w64 r5
  refine Ct.intro X54 X54_ok rfl rfl rfl rfl fun g hg => ?_
  repeat (refine Run.go rfl ?_)
  rw [w1]
  refine Run.cs rfl (l01Class_ct x.cl) rfl rfl ?_
  repeat (refine Run.go rfl ?_)
  refine Run.bool 10 rfl (fun h1 => ?_) (fun h1 => ?_)
  · have h1 : inr x.cl 0 999 = false := by simpa using h1
    repeat (refine Run.go rfl ?_)
    refine Run.bool 18 rfl (fun h => ?_) (fun h => by simp at h)
    repeat (refine Run.go rfl ?_)
    refine Run.cond rfl (fun h => ?_) (fun h => by simp at h)
    repeat (refine Run.go rfl ?_)
    refine Run.ret hg rfl ?_
    rw [vB, h1]
    rfl
  have h1 : inr x.cl 0 999 = true := by simpa using h1
  repeat (refine Run.go rfl ?_)
  refine Run.cs rfl (l01Mark_ct x.a x.b x.c) rfl rfl ?_
  repeat (refine Run.go rfl ?_)
  refine Run.bool 18 rfl (fun h2 => ?_) (fun h2 => ?_)
  · have h2 : (sm x.a && (sm x.b && sm x.c)) = false := by rw [Bool.not_eq_true'] at h2; exact h2
    repeat (refine Run.go rfl ?_)
    refine Run.cond rfl (fun h => ?_) (fun h => by simp at h)
    repeat (refine Run.go rfl ?_)
    refine Run.ret hg rfl ?_
    rw [vB, h1, h2]
    rfl
  have h2 : (sm x.a && (sm x.b && sm x.c)) = true := by rw [Bool.not_eq_false'] at h2; exact h2
  repeat (refine Run.go rfl ?_)
  rw [w2]
  refine Run.cs rfl (l00In_ct x.vol 1 99) rfl rfl ?_
  repeat (refine Run.go rfl ?_)
  refine Run.cond rfl (fun h3 => ?_) (fun h3 => ?_)
  · have h3 : inr x.vol 1 99 = false := by simpa using h3
    repeat (refine Run.go rfl ?_)
    refine Run.ret hg rfl ?_
    rw [vB, h1, h2, h3]
    rfl
  have h3 : inr x.vol 1 99 = true := by simpa using h3
  repeat (refine Run.go rfl ?_)
  rw [w3]
  refine Run.cs rfl (l00In_ct x.wd 1 100) rfl rfl ?_
  repeat (refine Run.go rfl ?_)
  refine Run.bool 33 rfl (fun h4 => ?_) (fun h4 => ?_)
  · have h4 : inr x.wd 1 100 = true := h4
    repeat (refine Run.go rfl ?_)
    rw [w4]
    refine Run.cs rfl (l00In_ct x.hi 50 400) rfl rfl ?_
    repeat (refine Run.go rfl ?_)
    refine Run.bool 41 rfl (fun h5 => ?_) (fun h5 => ?_)
    · have h5 : inr x.hi 50 400 = true := h5
      repeat (refine Run.go rfl ?_)
      rw [w5]
      refine Run.cs rfl (l00In_ct x.wt 1 9999) rfl rfl ?_
      repeat (refine Run.go rfl ?_)
      refine Run.ret hg rfl ?_
      rw [vB, h1, h2, h3, h4, h5]
      rfl
    · have h5 : inr x.hi 50 400 = false := h5
      repeat (refine Run.go rfl ?_)
      refine Run.ret hg rfl ?_
      rw [vB, h1, h2, h3, h4, h5]
      rfl
  · have h4 : inr x.wd 1 100 = false := h4
    repeat (refine Run.go rfl ?_)
    refine Run.bool 41 rfl (fun h => by simp at h) (fun h => ?_)
    repeat (refine Run.go rfl ?_)
    refine Run.ret hg rfl ?_
    rw [vB, h1, h2, h3, h4]
    rfl

end Go.Proofs.YtilaphojceabkaaDoor

/- Contracts of the program's functions, and what follows from them. -/
set_option maxRecDepth 100000
namespace Go.Proofs.YtilaphojceabkaaDoor
open Go Go.Av

theorem wfu8 {n : Int} (h : (Lit.int .u8 n).wf = true) : u8r n := by
  simpa [Lit.wf, IntKind.min, IntKind.max, IntKind.signed, IntKind.bits, u8r] using h

theorem rdMk : Rd Tryd.prog 1048576 37 3 (fun x : Int × Int × Int => .agg [u8 x.1, u8 x.2.1, u8 x.2.2]) (fun x => u8r x.1 ∧ u8r x.2.1 ∧ u8r x.2.2) := by
  refine Rd.map (α := List Int) (g := fun l => (l.getD 0 0, l.getD 1 0, l.getD 2 0)) (Rd.array Tryd.underlying37 (by kernel_rfl) rfl (.int Tryd.underlying5) (by kernel_rfl)) ?_ ?_ (fun _ _ => rfl) (fun y => ⟨[y.1, y.2.1, y.2.2], rfl⟩)
  · rintro l ⟨hl, _⟩
    match l, hl with
    | [a, b, c], _ => rfl
  · rintro l ⟨hl, hx⟩
    match l, hl with
    | [a, b, c], _ => exact ⟨wfu8 (hx a (by simp)), wfu8 (hx b (by simp)), wfu8 (hx c (by simp))⟩

theorem rdBk : Rd Tryd.prog 1048576 39 8 bkA bkRng := by
  refine Rd.map (α := Int × (Int × Int × Int) × Int × Int × Int × Int × Unit) (g := fun x => ⟨x.1, x.2.1.1, x.2.1.2.1, x.2.1.2.2, x.2.2.1, x.2.2.2.1, x.2.2.2.2.1, x.2.2.2.2.2.1⟩)
    (Rd.struct Tryd.underlying39 (by kernel_rfl) (.cons (.int Tryd.underlying36) (by kernel_rfl) rfl rfl rfl (.cons rdMk (by kernel_rfl) rfl rfl rfl
      (.cons (.int Tryd.underlying36) (by kernel_rfl) rfl rfl rfl (.cons (.int Tryd.underlying36) (by kernel_rfl) rfl rfl rfl
        (.cons (.int Tryd.underlying36) (by kernel_rfl) rfl rfl rfl (.cons (.int Tryd.underlying36) (by kernel_rfl) rfl rfl rfl .nil)))))))
    (fun x _ => rfl) (fun x hx => ⟨wf16 hx.1, hx.2.1.1, hx.2.1.2.1, hx.2.1.2.2, wf16 hx.2.2.1, wf16 hx.2.2.2.1, wf16 hx.2.2.2.2.1, wf16 hx.2.2.2.2.2.1⟩) (fun _ _ => rfl)
    (fun y => ⟨(y.cl, (y.a, y.b, y.c), y.vol, y.wd, y.hi, y.wt, ()), rfl⟩)

end Go.Proofs.YtilaphojceabkaaDoor
