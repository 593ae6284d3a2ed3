/- Contracts of the program's functions, and what follows from them. -/
import Derived.Test.YtahdgoddpkmhbaaD20
import Derived.Test.YtahdgoddpkmhbaaAvKey
set_option linter.unusedVariables false
namespace Go.Proofs.Ytahdgoddpkmhbaa
open Go Go.Av

/-! Books: copied, measured, compared. -/

structure Bk where
  cl : Int
  a : Int
  b : Int
  c : Int
  vol : Int
  wd : Int
  hi : Int
  wt : Int
  deriving DecidableEq

def bkV (x : Bk) : List Value := [.int .i16 x.cl, .int .u8 x.a, .int .u8 x.b, .int .u8 x.c, .int .i16 x.vol, .int .i16 x.wd, .int .i16 x.hi, .int .i16 x.wt]
def bkA (x : Bk) : AV := .agg [i16 x.cl, u8 x.a, u8 x.b, u8 x.c, i16 x.vol, i16 x.wd, i16 x.hi, i16 x.wt]
def bk0 : Bk := ⟨0, 0, 0, 0, 0, 0, 0, 0⟩
theorem bk_rf (x : Bk) : (bkA x).rf = true := rfl
theorem bk_frz (x : Bk) : (bkA x).frz = bkA x := rfl
theorem frzB (l : List Bk) : AV.frzL (l.map bkA) = l.map bkA := frzL_map bk_frz l
theorem rfB (l : List Bk) : AV.rfL (l.map bkA) = true := rfL_map bk_rf l
def m3 (a b c : Int) : Nat → AV
  | 0 => .agg [u8 0, u8 0, u8 0]
  | 1 => .agg [u8 a, u8 0, u8 0]
  | 2 => .agg [u8 a, u8 b, u8 0]
  | _ => .agg [u8 a, u8 b, u8 c]

noncomputable def X67 : Fx := ⟨Try.prog, tys, 67, Try.f67, [0]⟩
theorem X67_ok : X67.Ok := ⟨Try.func67, tys_ok⟩
theorem toByteA3_ct (a b c : Int) : Ct Try.prog 67 [.agg [u8 a, u8 b, u8 c]] (.agg [u8 a, u8 b, u8 c]) [] := by
  refine Ct.intro X67 X67_ok rfl rfl rfl rfl fun g hg => ?_
  repeat (refine Run.go rfl ?_)
  refine Run.loop (fun j : Nat => ⟨[(1, .bp (1, 0) 0), (2, .bp (2, 0) 0), (3, .bp (3, 0) 0), (4, i64 j)], [((1, 0), .box [u8 a, u8 b, u8 c]), ((2, 0), .box [u8 0, u8 0, u8 0]), ((3, 0), .box (m3 a b c j).cells)]⟩) (fun j => j ≤ 3) (fun j => 3 - j) 0 (by omega) ?_ ?_
  · exact St.Le.mk' ⟨rfl, rfl, rfl, rfl, trivial⟩ ⟨rfl, rfl, rfl, trivial⟩
  · intro j hj IH
    have hj4 : j = 0 ∨ j = 1 ∨ j = 2 ∨ j = 3 := by omega
    rcases hj4 with rfl | rfl | rfl | rfl
    · repeat (refine Run.go rfl ?_)
      refine Run.cond rfl (fun h => ?_) (fun h => by simp at h)
      repeat (refine Run.go rfl ?_)
      exact Run.of (IH 1 (by omega) (by omega)) ⟨rfl, rfl, rfl, rfl, trivial⟩ ⟨rfl, rfl, rfl, trivial⟩
    · repeat (refine Run.go rfl ?_)
      refine Run.cond rfl (fun h => ?_) (fun h => by simp at h)
      repeat (refine Run.go rfl ?_)
      exact Run.of (IH 2 (by omega) (by omega)) ⟨rfl, rfl, rfl, rfl, trivial⟩ ⟨rfl, rfl, rfl, trivial⟩
    · repeat (refine Run.go rfl ?_)
      refine Run.cond rfl (fun h => ?_) (fun h => by simp at h)
      repeat (refine Run.go rfl ?_)
      exact Run.of (IH 3 (by omega) (by omega)) ⟨rfl, rfl, rfl, rfl, trivial⟩ ⟨rfl, rfl, rfl, trivial⟩
    · repeat (refine Run.go rfl ?_)
      refine Run.cond rfl (fun h => by simp at h) (fun h => ?_)
      repeat (refine Run.go rfl ?_)
      exact Run.ret hg rfl rfl

noncomputable def X39 : Fx := ⟨Try.prog, tys, 39, Try.f39, [0]⟩
theorem X39_ok : X39.Ok := ⟨Try.func39, tys_ok⟩
theorem toBook_ct (x : Bk) : Ct Try.prog 39 [bkA x] (bkA x) [] := by
  refine Ct.intro X39 X39_ok rfl rfl rfl rfl fun g hg => ?_
  repeat (refine Run.go rfl ?_)
  refine Run.cs rfl (toByteA3_ct x.a x.b x.c) rfl rfl ?_
  iterate 4 (refine Run.go rfl ?_)
  refine Run.region ⟨[(1, .bp (1, 0) 0), (2, .bp (2, 0) 0), (3, .bp (3, 0) 0)], [((1, 0), .box (bkA x).cells), ((2, 0), .box (bkA bk0).cells), ((3, 0), .box (bkA ⟨x.cl, x.a, x.b, x.c, x.vol, 0, 0, 0⟩).cells)]⟩ ?_ fun _ hN => ?_
  rotate_left
  · repeat (refine Run.go rfl ?_)
    exact Run.of hN ⟨rfl, rfl, rfl, trivial⟩ ⟨rfl, rfl, rfl, trivial⟩
  refine Run.go rfl ?_
  refine Run.region ⟨[(1, .bp (1, 0) 0), (2, .bp (2, 0) 0), (3, .bp (3, 0) 0)], [((1, 0), .box (bkA x).cells), ((2, 0), .box (bkA bk0).cells), ((3, 0), .box (bkA ⟨x.cl, x.a, x.b, x.c, x.vol, x.wd, 0, 0⟩).cells)]⟩ ?_ fun _ hN => ?_
  rotate_left
  · repeat (refine Run.go rfl ?_)
    exact Run.of hN ⟨rfl, rfl, rfl, trivial⟩ ⟨rfl, rfl, rfl, trivial⟩
  refine Run.go rfl ?_
  refine Run.region ⟨[(1, .bp (1, 0) 0), (2, .bp (2, 0) 0), (3, .bp (3, 0) 0)], [((1, 0), .box (bkA x).cells), ((2, 0), .box (bkA bk0).cells), ((3, 0), .box (bkA ⟨x.cl, x.a, x.b, x.c, x.vol, x.wd, x.hi, 0⟩).cells)]⟩ ?_ fun _ hN => ?_
  rotate_left
  · repeat (refine Run.go rfl ?_)
    exact Run.of hN ⟨rfl, rfl, rfl, trivial⟩ ⟨rfl, rfl, rfl, trivial⟩
  refine Run.go rfl ?_
  refine Run.region ⟨[(1, .bp (1, 0) 0), (2, .bp (2, 0) 0), (3, .bp (3, 0) 0)], [((1, 0), .box (bkA x).cells), ((2, 0), .box (bkA bk0).cells), ((3, 0), .box (bkA ⟨x.cl, x.a, x.b, x.c, x.vol, x.wd, x.hi, x.wt⟩).cells)]⟩ ?_ fun _ hN => ?_
  rotate_left
  · repeat (refine Run.go rfl ?_)
    exact Run.of hN ⟨rfl, rfl, rfl, trivial⟩ ⟨rfl, rfl, rfl, trivial⟩
  repeat (refine Run.go rfl ?_)
  exact Run.ret hg rfl rfl

noncomputable def X13 : Fx := ⟨Try.prog, tys, 13, Try.f13, [0]⟩
theorem X13_ok : X13.Ok := ⟨Try.func13, tys_ok⟩
theorem toBookS_ct (l : List Bk) (ex : Bool) (hlen : l.length ≤ 1048576) : Ct Try.prog 13 [.ro 8 ex (l.map bkA)] (.own 8 true (l.map bkA)) [] := by
  refine Ct.intro X13 X13_ok rfl rfl rfl rfl fun g hg => ?_
  repeat (refine Run.go rfl ?_)
  refine Run.make rfl rfl rfl rfl rfl rfl rfl rfl rfl rfl (by simp; omega) (by show _ * 14 ≤ _; simp; omega) rfl ?_
  repeat (refine Run.go rfl ?_)
  refine Run.loop (fun j : Nat => ⟨[(0, .ro 8 ex (l.map bkA)), (3, .own 8 true ((l.take j).map bkA ++ List.replicate (l.length - j) (bkA bk0))), (4, i64 j)], []⟩) (fun j => j ≤ l.length) (fun j => l.length - j) 0 (by omega) ?_ ?_
  · refine St.Le.mk' ⟨rfl, ?_, rfl, trivial⟩ trivial
    show AV.own 8 true (List.replicate (l.map bkA).length (bkA bk0)) = _
    simp
  · intro j hj IH
    repeat (refine Run.go rfl ?_)
    refine Run.cond rfl (fun h => ?_) (fun h => ?_)
    · have hlt : j < l.length := by simpa using h
      repeat (refine Run.go rfl ?_)
      refine Run.val rfl rfl rfl (ValOk.idx (bkA l[j]) rfl rfl rfl rfl rfl (by omega) (by simp [hlt])) rfl ?_
      repeat (refine Run.go rfl ?_)
      refine Run.cs rfl (toBook_ct l[j]) rfl rfl ?_
      refine Run.val rfl rfl rfl (ValOk.idxv rfl rfl rfl rfl rfl rfl (by omega) (by simp; omega)) rfl ?_
      refine Run.storee (bkA bk0) (bkA l[j]) rfl rfl rfl rfl rfl rfl rfl ?_ rfl rfl rfl ?_
      · simpa using fill_at hlt
      repeat (refine Run.go rfl ?_)
      refine Run.pack 3 rfl rfl (by simp) ?_
      refine Run.of (IH (j + 1) (by omega) (by omega)) ⟨rfl, ?_, ?_, trivial⟩ trivial
      · show AV.own _ _ _ = _
        congr 1
        simp only [Nat.zero_add, Int.toNat_natCast]
        exact fill_step (f := bkA) hlt
      · show i64 _ = _
        rw [wrap_i64 (by omega) (by omega)]
        rfl
    · have hj' : j = l.length := by simp at h; omega
      subst hj'
      repeat (refine Run.go rfl ?_)
      refine Run.pack 2 rfl rfl rfl ?_
      refine Run.ret hg rfl ?_
      show AV.own _ _ _ = _
      simp

def szB (l : List Bk) (n : Int) : Int := if n - l.length < 0 then -1 else n - l.length

noncomputable def X11 : Fx := ⟨Try.prog, tys, 11, Try.f11, [0]⟩
theorem X11_ok : X11.Ok := ⟨Try.func11, tys_ok⟩
theorem szBookS_ct (l : List Bk) (ex : Bool) (n : Int) (h0 : 0 ≤ n) (h1 : n ≤ 1048576) (hlen : l.length ≤ 1048576) : Ct Try.prog 11 [.ro 8 ex (l.map bkA), i64 n] (i64 (szB l n)) [] := by
  have ew : IntKind.i64.wrap (n - (l.map bkA).length) = n - l.length := by rw [List.length_map, wrap_i64 (by omega) (by omega)]
  refine Ct.intro X11 X11_ok rfl rfl rfl rfl fun g hg => ?_
  repeat (refine Run.go rfl ?_)
  rw [ew]
  refine Run.cond rfl (fun h => ?_) (fun h => ?_)
  · repeat (refine Run.go rfl ?_)
    refine Run.ret hg rfl ?_
    have h : n - l.length < 0 := by simpa using h
    rw [szB, if_pos h]
    rfl
  · repeat (refine Run.go rfl ?_)
    refine Run.ret hg rfl ?_
    have h : ¬ n - l.length < 0 := by simpa using h
    rw [szB, if_neg h]
    rfl

noncomputable def X70 : Fx := ⟨Try.prog, tys, 70, Try.f70, [0, 1]⟩
theorem X70_ok : X70.Ok := ⟨Try.func70, tys_ok⟩
theorem eqByteA3_ct (a b c a' b' c' : Int) : Ct Try.prog 70 [.agg [u8 a, u8 b, u8 c], .agg [u8 a', u8 b', u8 c']] (bo (decide (a = a' ∧ b = b' ∧ c = c'))) [] := by
  refine Ct.intro X70 X70_ok rfl rfl rfl rfl fun g hg => ?_
  repeat (refine Run.go rfl ?_)
  refine Run.loop (fun j : Nat => ⟨[(2, .bp (2, 0) 0), (3, .bp (3, 0) 0), (5, i64 j)], [((2, 0), .box [u8 a, u8 b, u8 c]), ((3, 0), .box [u8 a', u8 b', u8 c'])]⟩) (fun j => j ≤ 3 ∧ (0 < j → a = a') ∧ (1 < j → b = b') ∧ (2 < j → c = c')) (fun j => 3 - j) 0 (by omega) ?_ ?_
  · exact St.Le.mk' ⟨rfl, rfl, rfl, trivial⟩ ⟨rfl, rfl, trivial⟩
  · rintro j ⟨hj, q0, q1, q2⟩ IH
    have hj4 : j = 0 ∨ j = 1 ∨ j = 2 ∨ j = 3 := by omega
    rcases hj4 with rfl | rfl | rfl | rfl
    · repeat (refine Run.go rfl ?_)
      refine Run.cond rfl (fun h => ?_) (fun h => by simp at h)
      repeat (refine Run.go rfl ?_)
      refine Run.draw (by kernel_rfl) (by decide +kernel) ?_
      repeat (refine Quiet.go rfl ?_)
      refine Quiet.nil ?_
      repeat (refine Run.go rfl ?_)
      refine Run.cond rfl (fun h => ?_) (fun h => ?_)
      · have h : a ≠ a' := by simpa using h
        repeat (refine Run.go rfl ?_)
        refine Run.ret hg rfl ?_
        show bo false = _
        simp [h]
      · have h : a = a' := by simpa using h
        repeat (refine Run.go rfl ?_)
        exact Run.of (IH 1 ⟨by omega, fun _ => h, by omega, by omega⟩ (by omega)) ⟨rfl, rfl, rfl, trivial⟩ ⟨rfl, rfl, trivial⟩
    · repeat (refine Run.go rfl ?_)
      refine Run.cond rfl (fun h => ?_) (fun h => by simp at h)
      repeat (refine Run.go rfl ?_)
      refine Run.draw (by kernel_rfl) (by decide +kernel) ?_
      repeat (refine Quiet.go rfl ?_)
      refine Quiet.nil ?_
      repeat (refine Run.go rfl ?_)
      refine Run.cond rfl (fun h => ?_) (fun h => ?_)
      · have h : b ≠ b' := by simpa using h
        repeat (refine Run.go rfl ?_)
        refine Run.ret hg rfl ?_
        show bo false = _
        simp [h]
      · have h : b = b' := by simpa using h
        repeat (refine Run.go rfl ?_)
        exact Run.of (IH 2 ⟨by omega, fun _ => q0 (by omega), fun _ => h, by omega⟩ (by omega)) ⟨rfl, rfl, rfl, trivial⟩ ⟨rfl, rfl, trivial⟩
    · repeat (refine Run.go rfl ?_)
      refine Run.cond rfl (fun h => ?_) (fun h => by simp at h)
      repeat (refine Run.go rfl ?_)
      refine Run.draw (by kernel_rfl) (by decide +kernel) ?_
      repeat (refine Quiet.go rfl ?_)
      refine Quiet.nil ?_
      repeat (refine Run.go rfl ?_)
      refine Run.cond rfl (fun h => ?_) (fun h => ?_)
      · have h : c ≠ c' := by simpa using h
        repeat (refine Run.go rfl ?_)
        refine Run.ret hg rfl ?_
        show bo false = _
        simp [h]
      · have h : c = c' := by simpa using h
        repeat (refine Run.go rfl ?_)
        exact Run.of (IH 3 ⟨by omega, fun _ => q0 (by omega), fun _ => q1 (by omega), fun _ => h⟩ (by omega)) ⟨rfl, rfl, rfl, trivial⟩ ⟨rfl, rfl, trivial⟩
    · repeat (refine Run.go rfl ?_)
      refine Run.cond rfl (fun h => by simp at h) (fun h => ?_)
      repeat (refine Run.go rfl ?_)
      refine Run.ret hg rfl ?_
      show bo true = _
      simp [q0 (by omega), q1 (by omega), q2 (by omega)]

noncomputable def X43 : Fx := ⟨Try.prog, tys, 43, Try.f43, [0, 1]⟩
theorem X43_ok : X43.Ok := ⟨Try.func43, tys_ok⟩
theorem eqBook_ct (x y : Bk) : Ct Try.prog 43 [bkA x, bkA y] (bo (decide (x = y))) [] := by
  obtain ⟨xc, xa, xb, xd, xv, xw, xh, xt⟩ := x
  obtain ⟨yc, ya, yb, yd, yv, yw, yh, yt⟩ := y
  refine Ct.intro X43 X43_ok rfl rfl rfl rfl fun g hg => ?_
  repeat (refine Run.go rfl ?_)
  refine Run.cond rfl (fun h => ?_) (fun h1 => ?_)
  · have h : xc ≠ yc := by simpa using h
    repeat (refine Run.go rfl ?_)
    refine Run.ret hg rfl ?_
    show bo false = _
    simp [h]
  have h1 : xc = yc := by simpa using h1
  repeat (refine Run.go rfl ?_)
  refine Run.cs rfl (eqByteA3_ct xa xb xd ya yb yd) rfl rfl ?_
  repeat (refine Run.go rfl ?_)
  refine Run.cond rfl (fun h => ?_) (fun h2 => ?_)
  · have h : ¬ (xa = ya ∧ xb = yb ∧ xd = yd) := of_decide_eq_false (by simpa only [Bool.not_eq_true'] using h)
    repeat (refine Run.go rfl ?_)
    refine Run.ret hg rfl ?_
    show bo false = _
    have : ¬ (⟨xc, xa, xb, xd, xv, xw, xh, xt⟩ : Bk) = ⟨yc, ya, yb, yd, yv, yw, yh, yt⟩ := by
      intro e
      injection e with e1 e2 e3 e4
      exact h ⟨e2, e3, e4⟩
    rw [decide_eq_false this]
  have h2 : xa = ya ∧ xb = yb ∧ xd = yd := by simpa using h2
  repeat (refine Run.go rfl ?_)
  refine Run.cond rfl (fun h => ?_) (fun h3 => ?_)
  · have h : xv ≠ yv := by simpa using h
    repeat (refine Run.go rfl ?_)
    refine Run.ret hg rfl ?_
    show bo false = _
    simp [h]
  have h3 : xv = yv := by simpa using h3
  repeat (refine Run.go rfl ?_)
  refine Run.cond rfl (fun h => ?_) (fun h4 => ?_)
  · have h : xw ≠ yw := by simpa using h
    repeat (refine Run.go rfl ?_)
    refine Run.ret hg rfl ?_
    show bo false = _
    simp [h]
  have h4 : xw = yw := by simpa using h4
  repeat (refine Run.go rfl ?_)
  refine Run.cond rfl (fun h => ?_) (fun h5 => ?_)
  · have h : xh ≠ yh := by simpa using h
    repeat (refine Run.go rfl ?_)
    refine Run.ret hg rfl ?_
    show bo false = _
    simp [h]
  have h5 : xh = yh := by simpa using h5
  repeat (refine Run.go rfl ?_)
  refine Run.cond rfl (fun h => ?_) (fun h6 => ?_)
  · have h : xt ≠ yt := by simpa using h
    repeat (refine Run.go rfl ?_)
    refine Run.ret hg rfl ?_
    show bo false = _
    simp [h]
  have h6 : xt = yt := by simpa using h6
  repeat (refine Run.go rfl ?_)
  refine Run.ret hg rfl ?_
  show bo true = _
  simp [h1, h2, h3, h4, h5, h6]

noncomputable def X15 : Fx := ⟨Try.prog, tys, 15, Try.f15, [0, 1]⟩
theorem X15_ok : X15.Ok := ⟨Try.func15, tys_ok⟩
theorem eqBookS_ct (l m : List Bk) (ex ex' : Bool) (hb : l.length ≤ 1048576) : Ct Try.prog 15 [.ro 8 ex (l.map bkA), .ro 8 ex' (m.map bkA)] (bo (decide (l = m))) [] := by
  refine Ct.intro X15 X15_ok rfl rfl rfl rfl fun g hg => ?_
  repeat (refine Run.go rfl ?_)
  refine Run.cond rfl (fun h => ?_) (fun h => ?_)
  · repeat (refine Run.go rfl ?_)
    refine Run.ret hg rfl ?_
    show bo _ = _
    congr 2
    simp at h
    symm
    simp
    rintro rfl
    exact h rfl
  · have hlen : l.length = m.length := by simp at h; omega
    repeat (refine Run.go rfl ?_)
    refine Run.loop (fun j : Nat => ⟨[(0, .ro 8 ex (l.map bkA)), (1, .ro 8 ex' (m.map bkA)), (5, i64 j)], []⟩) (fun j => j ≤ l.length ∧ l.take j = m.take j) (fun j => l.length - j) 0 ⟨by omega, rfl⟩ ?_ ?_
    · exact St.Le.mk' ⟨rfl, rfl, rfl, trivial⟩ trivial
    · rintro j ⟨hj, hjm⟩ IH
      repeat (refine Run.go rfl ?_)
      refine Run.cond rfl (fun h => ?_) (fun h => ?_)
      · have hlt : j < l.length := by simpa using h
        have hlt' : j < m.length := by omega
        repeat (refine Run.go rfl ?_)
        refine Run.draw (by kernel_rfl) (by decide +kernel) ?_
        repeat (refine Quiet.go rfl ?_)
        refine Quiet.val rfl rfl (ValOk.idx (bkA l[j]) rfl rfl rfl rfl rfl (by omega) (by simp [hlt])) rfl ?_
        repeat (refine Quiet.go rfl ?_)
        refine Quiet.val rfl rfl (ValOk.idx (bkA m[j]) rfl rfl rfl rfl rfl (by omega) (by simp [hlt'])) rfl ?_
        repeat (refine Quiet.go rfl ?_)
        refine Quiet.cs rfl rfl rfl rfl rfl (eqBook_ct l[j] m[j]) rfl rfl ?_
        repeat (refine Quiet.go rfl ?_)
        refine Quiet.nil ?_
        repeat (refine Run.go rfl ?_)
        refine Run.cond rfl (fun h => ?_) (fun h => ?_)
        · repeat (refine Run.go rfl ?_)
          refine Run.ret hg rfl ?_
          show bo _ = _
          congr 2
          symm
          simp at h ⊢
          rintro rfl
          exact h rfl
        · repeat (refine Run.go rfl ?_)
          refine Run.of (IH (j + 1) ⟨by omega, ?_⟩ (by omega)) ⟨rfl, rfl, ?_, trivial⟩ trivial
          · rw [List.take_succ_eq_append_getElem hlt, List.take_succ_eq_append_getElem hlt', hjm]
            simp at h
            rw [h]
          · show i64 _ = _
            rw [wrap_i64 (by omega) (by omega)]
            rfl
      · have hj' : j = l.length := by simp at h; omega
        repeat (refine Run.go rfl ?_)
        refine Run.ret hg rfl ?_
        show bo _ = _
        rw [List.take_of_length_le (by omega), List.take_of_length_le (by omega)] at hjm
        simp [hjm]
end Go.Proofs.Ytahdgoddpkmhbaa
