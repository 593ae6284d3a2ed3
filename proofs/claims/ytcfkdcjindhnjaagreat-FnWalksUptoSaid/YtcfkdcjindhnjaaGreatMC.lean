/- Parts of a proof, in one text: B1, B2, BRd, B3, B4, B5, B6, B7, B8, B9. -/
import Derived.Test.YtcfkdcjindhnjaaGreatMD
import Derived.Test.YtcfkdcjindhnjaaGreatMF
import Derived.Test.YtcfkdcjindhnjaaGreatAvRow
set_option linter.unusedVariables false

/- Contracts of the program's functions, and what follows from them. -/
set_option maxRecDepth 100000
namespace Go.Proofs.YtcfkdcjindhnjaaGreat
open Go Go.Av

/-! Books: copied, measured, compared. -/

structure Bk where
  cl : Int
  a : Int
  b : Int
  c : Int
  vol : Int
  wd : Int
  hi : Int
  wt : Int
  deriving DecidableEq

def bkA (x : Bk) : AV := .agg [i16 x.cl, u8 x.a, u8 x.b, u8 x.c, i16 x.vol, i16 x.wd, i16 x.hi, i16 x.wt]
def bk0 : Bk := ⟨0, 0, 0, 0, 0, 0, 0, 0⟩
theorem bk_rf (x : Bk) : (bkA x).rf = true := rfl
theorem bk_frz (x : Bk) : (bkA x).frz = bkA x := rfl
theorem frzB (l : List Bk) : AV.frzL (l.map bkA) = l.map bkA := frzL_map bk_frz l
theorem rfB (l : List Bk) : AV.rfL (l.map bkA) = true := rfL_map bk_rf l
end Go.Proofs.YtcfkdcjindhnjaaGreat

/- Contracts of the program's functions, and what follows from them. -/
set_option maxRecDepth 100000
namespace Go.Proofs.YtcfkdcjindhnjaaGreat
open Go Go.Av

/-! Which books are valid. -/

noncomputable def X106 : Fx := ⟨Tryz.prog, tys, 106, Tryz.f106, [0, 1]⟩
theorem X106_ok : X106.Ok := ⟨Tryz.func106, tys_ok⟩
theorem indexBy_ct (l : List Int) (ex : Bool) (f : Nat) (caps : List AV) (p : Int → Bool) (hlen : l.length ≤ 1048576) (hc : AV.freeL caps = true)
    (hf : ∀ x ∈ l, Ct Tryz.prog f ([u8 x] ++ caps) (bo (p x)) []) : Ct Tryz.prog 106 [.ro 1 ex (l.map u8), .fn f caps] (i64 (fi p l)) [] := by
  refine Ct.intro X106 X106_ok rfl (by kernel_rfl) rfl rfl fun g hg => ?_
  repeat (refine Run.step rfl ?_)
  refine Run.loop (fun j : Nat => ⟨[(0, .ro 1 ex (l.map u8)), (1, .fn f caps), (7, i64 l.length), (8, i64 j)], []⟩) (fun j => j ≤ l.length ∧ j ≤ l.findIdx p) (fun j => l.length - j) 0 ⟨by omega, by omega⟩ ?_ ?_
  · refine St.Le.mk' ⟨rfl, rfl, ?_, rfl, trivial⟩ trivial
    show i64 _ = _
    simp
  · rintro j ⟨hj1, hj2⟩ IH
    repeat (refine Run.step rfl ?_)
    refine Run.cond rfl (fun h => ?_) (fun h => ?_)
    · have hlt : j < l.length := by simpa using h
      repeat (refine Run.step rfl ?_)
      refine Run.val rfl rfl rfl (ValOk.idx (u8 l[j]) rfl rfl rfl rfl rfl (by omega) (by simp [hlt])) rfl ?_
      repeat (refine Run.step rfl ?_)
      refine Run.callp rfl rfl rfl rfl rfl rfl rfl hc rfl (hf l[j] (by simp)) (by decide) (by decide) ?_
      repeat (refine Run.step rfl ?_)
      refine Run.cond rfl (fun h => ?_) (fun h => ?_)
      · repeat (refine Run.step rfl ?_)
        refine Run.ret hg rfl ?_
        show i64 _ = _
        rw [fi_at hlt h hj2]
      · repeat (refine Run.step rfl ?_)
        refine Run.of (IH (j + 1) ⟨by omega, fi_next hlt h hj2⟩ (by omega)) ⟨rfl, rfl, rfl, ?_, trivial⟩ trivial
        show i64 _ = _
        rw [wrap_i64 (by omega) (by omega)]
        rfl
    · repeat (refine Run.step rfl ?_)
      have hj : j = l.length := by simp at h; omega
      refine Run.ret hg rfl ?_
      show i64 (-1) = _
      rw [fi_none (by omega)]

noncomputable def X97 : Fx := ⟨Tryz.prog, tys, 97, Tryz.f97, [0, 1]⟩
theorem X97_ok : X97.Ok := ⟨Tryz.func97, tys_ok⟩
theorem containsBy_ct (l : List Int) (ex : Bool) (f : Nat) (caps : List AV) (p : Int → Bool) (hlen : l.length ≤ 1048576) (hc : AV.freeL caps = true)
    (hf : ∀ x ∈ l, Ct Tryz.prog f ([u8 x] ++ caps) (bo (p x)) []) : Ct Tryz.prog 97 [.ro 1 ex (l.map u8), .fn f caps] (bo (l.any p)) [] := by
  refine Ct.intro X97 X97_ok rfl (by kernel_rfl) rfl rfl fun g hg => ?_
  repeat (refine Run.go rfl ?_)
  refine Run.callp rfl rfl rfl rfl rfl rfl (by simp [AV.freeL, AV.free, hc]) rfl rfl (indexBy_ct l ex f caps p hlen hc hf) (by decide) (by decide) ?_
  repeat (refine Run.go rfl ?_)
  refine Run.ret hg rfl ?_
  show bo _ = _
  rw [← fi_nonneg]

noncomputable def X98 : Fx := ⟨Tryz.prog, tys, 98, Tryz.f98, [0, 1]⟩
theorem X98_ok : X98.Ok := ⟨Tryz.func98, tys_ok⟩
theorem areAllBy10_ct (c : Int) (f : Nat) (p : Bool) (hf : Ct Tryz.prog f [u8 c] (bo p) []) : Ct Tryz.prog 98 [u8 c, .rp [.fn f []] 0] (bo (!p)) [] := by
  refine Ct.intro X98 X98_ok rfl (by kernel_rfl) rfl rfl fun g hg => ?_
  repeat (refine Run.go rfl ?_)
  refine Run.cs rfl hf rfl rfl ?_
  repeat (refine Run.go rfl ?_)
  exact Run.ret hg rfl rfl

noncomputable def X77 : Fx := ⟨Tryz.prog, tys, 77, Tryz.f77, [0, 1]⟩
theorem X77_ok : X77.Ok := ⟨Tryz.func77, tys_ok⟩
theorem areAllBy0_ct (l : List Int) (ex : Bool) (f : Nat) (p : Int → Bool) (hlen : l.length ≤ 1048576) (hf : ∀ x ∈ l, Ct Tryz.prog f [u8 x] (bo (p x)) []) :
    Ct Tryz.prog 77 [.ro 1 ex (l.map u8), .fn f []] (bo (l.all p)) [] := by
  refine Ct.intro X77 X77_ok rfl (by kernel_rfl) rfl rfl fun g hg => ?_
  repeat (refine Run.go rfl ?_)
  refine Run.cs rfl (containsBy_ct l ex 98 [.rp [.fn f []] 0] (fun x => !p x) hlen rfl (fun x hx => areAllBy10_ct x f (p x) (hf x hx))) rfl rfl ?_
  repeat (refine Run.go rfl ?_)
  refine Run.ret hg rfl ?_
  show bo (!l.any fun x => !p x) = _
  congr 2
  simp [List.all_eq_not_any_not]

noncomputable def X52 : Fx := ⟨Tryz.prog, tys, 52, Tryz.f52, [0, 1]⟩
theorem X52_ok : X52.Ok := ⟨Tryz.func52, tys_ok⟩
theorem indexW_ct (l : List Int) (ex : Bool) (f : Nat) (caps : List AV) (p : Int → Bool) (hlen : l.length ≤ 1048576) (hc : AV.freeL caps = true)
    (hf : ∀ x ∈ l, Ct Tryz.prog f ([i64 x] ++ caps) (bo (p x)) []) : Ct Tryz.prog 52 [.ro 1 ex (l.map i64), .fn f caps] (i64 (fi p l)) [] := by
  refine Ct.intro X52 X52_ok rfl (by kernel_rfl) rfl rfl fun g hg => ?_
  repeat (refine Run.step rfl ?_)
  refine Run.loop (fun j : Nat => ⟨[(0, .ro 1 ex (l.map i64)), (1, .fn f caps), (7, i64 l.length), (8, i64 j)], []⟩) (fun j => j ≤ l.length ∧ j ≤ l.findIdx p) (fun j => l.length - j) 0 ⟨by omega, by omega⟩ ?_ ?_
  · refine St.Le.mk' ⟨rfl, rfl, ?_, rfl, trivial⟩ trivial
    show i64 _ = _
    simp
  · rintro j ⟨hj1, hj2⟩ IH
    repeat (refine Run.step rfl ?_)
    refine Run.cond rfl (fun h => ?_) (fun h => ?_)
    · have hlt : j < l.length := by simpa using h
      repeat (refine Run.step rfl ?_)
      refine Run.val rfl rfl rfl (ValOk.idx (i64 l[j]) rfl rfl rfl rfl rfl (by omega) (by simp [hlt])) rfl ?_
      repeat (refine Run.step rfl ?_)
      refine Run.callp rfl rfl rfl rfl rfl rfl rfl hc rfl (hf l[j] (by simp)) (by decide) (by decide) ?_
      repeat (refine Run.step rfl ?_)
      refine Run.cond rfl (fun h => ?_) (fun h => ?_)
      · repeat (refine Run.step rfl ?_)
        refine Run.ret hg rfl ?_
        show i64 _ = _
        rw [fi_at hlt h hj2]
      · repeat (refine Run.step rfl ?_)
        refine Run.of (IH (j + 1) ⟨by omega, fi_next hlt h hj2⟩ (by omega)) ⟨rfl, rfl, rfl, ?_, trivial⟩ trivial
        show i64 _ = _
        rw [wrap_i64 (by omega) (by omega)]
        rfl
    · repeat (refine Run.step rfl ?_)
      have hj : j = l.length := by simp at h; omega
      refine Run.ret hg rfl ?_
      show i64 (-1) = _
      rw [fi_none (by omega)]

noncomputable def X69 : Fx := ⟨Tryz.prog, tys, 69, Tryz.f69, [0, 1]⟩
theorem X69_ok : X69.Ok := ⟨Tryz.func69, tys_ok⟩
theorem containsW_ct (l : List Int) (ex : Bool) (f : Nat) (caps : List AV) (p : Int → Bool) (hlen : l.length ≤ 1048576) (hc : AV.freeL caps = true)
    (hf : ∀ x ∈ l, Ct Tryz.prog f ([i64 x] ++ caps) (bo (p x)) []) : Ct Tryz.prog 69 [.ro 1 ex (l.map i64), .fn f caps] (bo (l.any p)) [] := by
  refine Ct.intro X69 X69_ok rfl (by kernel_rfl) rfl rfl fun g hg => ?_
  repeat (refine Run.go rfl ?_)
  refine Run.callp rfl rfl rfl rfl rfl rfl (by simp [AV.freeL, AV.free, hc]) rfl rfl (indexW_ct l ex f caps p hlen hc hf) (by decide) (by decide) ?_
  repeat (refine Run.go rfl ?_)
  refine Run.ret hg rfl ?_
  show bo _ = _
  rw [← fi_nonneg]

noncomputable def X70 : Fx := ⟨Tryz.prog, tys, 70, Tryz.f70, [0, 1]⟩
theorem X70_ok : X70.Ok := ⟨Tryz.func70, tys_ok⟩
theorem areAllW10_ct (c : Int) (f : Nat) (p : Bool) (hf : Ct Tryz.prog f [i64 c] (bo p) []) : Ct Tryz.prog 70 [i64 c, .rp [.fn f []] 0] (bo (!p)) [] := by
  refine Ct.intro X70 X70_ok rfl (by kernel_rfl) rfl rfl fun g hg => ?_
  repeat (refine Run.go rfl ?_)
  refine Run.cs rfl hf rfl rfl ?_
  repeat (refine Run.go rfl ?_)
  exact Run.ret hg rfl rfl

noncomputable def X47 : Fx := ⟨Tryz.prog, tys, 47, Tryz.f47, [0, 1]⟩
theorem X47_ok : X47.Ok := ⟨Tryz.func47, tys_ok⟩
theorem areAllW0_ct (l : List Int) (ex : Bool) (f : Nat) (p : Int → Bool) (hlen : l.length ≤ 1048576) (hf : ∀ x ∈ l, Ct Tryz.prog f [i64 x] (bo (p x)) []) :
    Ct Tryz.prog 47 [.ro 1 ex (l.map i64), .fn f []] (bo (l.all p)) [] := by
  refine Ct.intro X47 X47_ok rfl (by kernel_rfl) rfl rfl fun g hg => ?_
  repeat (refine Run.go rfl ?_)
  refine Run.cs rfl (containsW_ct l ex 70 [.rp [.fn f []] 0] (fun x => !p x) hlen rfl (fun x hx => areAllW10_ct x f (p x) (hf x hx))) rfl rfl ?_
  repeat (refine Run.go rfl ?_)
  refine Run.ret hg rfl ?_
  show bo (!l.any fun x => !p x) = _
  congr 2
  simp [List.all_eq_not_any_not]

noncomputable def X96 : Fx := ⟨Tryz.prog, tys, 96, Tryz.f96, [0, 1]⟩
theorem X96_ok : X96.Ok := ⟨Tryz.func96, tys_ok⟩
theorem indexB_ct (l : List Bk) (ex : Bool) (f : Nat) (caps : List AV) (p : Bk → Bool) (hlen : l.length ≤ 1048576) (hc : AV.freeL caps = true)
    (hf : ∀ x ∈ l, Ct Tryz.prog f ([bkA x] ++ caps) (bo (p x)) []) : Ct Tryz.prog 96 [.ro 8 ex (l.map bkA), .fn f caps] (i64 (fi p l)) [] := by
  refine Ct.intro X96 X96_ok rfl (by kernel_rfl) rfl rfl fun g hg => ?_
  repeat (refine Run.step rfl ?_)
  refine Run.loop (fun j : Nat => ⟨[(0, .ro 8 ex (l.map bkA)), (1, .fn f caps), (7, i64 l.length), (8, i64 j)], []⟩) (fun j => j ≤ l.length ∧ j ≤ l.findIdx p) (fun j => l.length - j) 0 ⟨by omega, by omega⟩ ?_ ?_
  · refine St.Le.mk' ⟨rfl, rfl, ?_, rfl, trivial⟩ trivial
    show i64 _ = _
    simp
  · rintro j ⟨hj1, hj2⟩ IH
    repeat (refine Run.step rfl ?_)
    refine Run.cond rfl (fun h => ?_) (fun h => ?_)
    · have hlt : j < l.length := by simpa using h
      repeat (refine Run.step rfl ?_)
      refine Run.val rfl rfl rfl (ValOk.idx (bkA l[j]) rfl rfl rfl rfl rfl (by omega) (by simp [hlt])) rfl ?_
      repeat (refine Run.step rfl ?_)
      refine Run.callp rfl rfl rfl rfl rfl rfl rfl hc rfl (hf l[j] (by simp)) (by decide) (by decide) ?_
      repeat (refine Run.step rfl ?_)
      refine Run.cond rfl (fun h => ?_) (fun h => ?_)
      · repeat (refine Run.step rfl ?_)
        refine Run.ret hg rfl ?_
        show i64 _ = _
        rw [fi_at hlt h hj2]
      · repeat (refine Run.step rfl ?_)
        refine Run.of (IH (j + 1) ⟨by omega, fi_next hlt h hj2⟩ (by omega)) ⟨rfl, rfl, rfl, ?_, trivial⟩ trivial
        show i64 _ = _
        rw [wrap_i64 (by omega) (by omega)]
        rfl
    · repeat (refine Run.step rfl ?_)
      have hj : j = l.length := by simp at h; omega
      refine Run.ret hg rfl ?_
      show i64 (-1) = _
      rw [fi_none (by omega)]

noncomputable def X74 : Fx := ⟨Tryz.prog, tys, 74, Tryz.f74, [0, 1]⟩
theorem X74_ok : X74.Ok := ⟨Tryz.func74, tys_ok⟩
theorem containsB_ct (l : List Bk) (ex : Bool) (f : Nat) (caps : List AV) (p : Bk → Bool) (hlen : l.length ≤ 1048576) (hc : AV.freeL caps = true)
    (hf : ∀ x ∈ l, Ct Tryz.prog f ([bkA x] ++ caps) (bo (p x)) []) : Ct Tryz.prog 74 [.ro 8 ex (l.map bkA), .fn f caps] (bo (l.any p)) [] := by
  refine Ct.intro X74 X74_ok rfl (by kernel_rfl) rfl rfl fun g hg => ?_
  repeat (refine Run.go rfl ?_)
  refine Run.callp rfl rfl rfl rfl rfl rfl (by simp [AV.freeL, AV.free, hc]) rfl rfl (indexB_ct l ex f caps p hlen hc hf) (by decide) (by decide) ?_
  repeat (refine Run.go rfl ?_)
  refine Run.ret hg rfl ?_
  show bo _ = _
  rw [← fi_nonneg]

noncomputable def X75 : Fx := ⟨Tryz.prog, tys, 75, Tryz.f75, [0, 1]⟩
theorem X75_ok : X75.Ok := ⟨Tryz.func75, tys_ok⟩
theorem areAllB10_ct (c : Bk) (f : Nat) (p : Bool) (hf : Ct Tryz.prog f [bkA c] (bo p) []) : Ct Tryz.prog 75 [bkA c, .rp [.fn f []] 0] (bo (!p)) [] := by
  refine Ct.intro X75 X75_ok rfl (by kernel_rfl) rfl rfl fun g hg => ?_
  repeat (refine Run.go rfl ?_)
  refine Run.cs rfl hf rfl rfl ?_
  repeat (refine Run.go rfl ?_)
  exact Run.ret hg rfl rfl

noncomputable def X60 : Fx := ⟨Tryz.prog, tys, 60, Tryz.f60, [0, 1]⟩
theorem X60_ok : X60.Ok := ⟨Tryz.func60, tys_ok⟩
theorem areAllB0_ct (l : List Bk) (ex : Bool) (f : Nat) (p : Bk → Bool) (hlen : l.length ≤ 1048576) (hf : ∀ x ∈ l, Ct Tryz.prog f [bkA x] (bo (p x)) []) :
    Ct Tryz.prog 60 [.ro 8 ex (l.map bkA), .fn f []] (bo (l.all p)) [] := by
  refine Ct.intro X60 X60_ok rfl (by kernel_rfl) rfl rfl fun g hg => ?_
  repeat (refine Run.go rfl ?_)
  refine Run.cs rfl (containsB_ct l ex 75 [.rp [.fn f []] 0] (fun x => !p x) hlen rfl (fun x hx => areAllB10_ct x f (p x) (hf x hx))) rfl rfl ?_
  repeat (refine Run.go rfl ?_)
  refine Run.ret hg rfl ?_
  show bo (!l.any fun x => !p x) = _
  congr 2
  simp [List.all_eq_not_any_not]

def u8r (n : Int) : Prop := 0 ≤ n ∧ n ≤ 255
def bkRng (x : Bk) : Prop := i16r x.cl ∧ u8r x.a ∧ u8r x.b ∧ u8r x.c ∧ i16r x.vol ∧ i16r x.wd ∧ i16r x.hi ∧ i16r x.wt
def sm (n : Int) : Bool := decide (97 ≤ n) && decide (n ≤ 122)
def vB (x : Bk) : Bool := inr x.cl 0 999 && (sm x.a && (sm x.b && sm x.c)) && inr x.vol 1 99 && inr x.wd 1 100 && inr x.hi 50 400 && inr x.wt 1 9999
def vBs (l : List Bk) : Bool := decide (l.length ≤ 60) && l.all vB

noncomputable def X78 : Fx := ⟨Tryz.prog, tys, 78, Tryz.f78, [0]⟩
theorem X78_ok : X78.Ok := ⟨Tryz.func78, tys_ok⟩
theorem isSmall_ct (n : Int) : Ct Tryz.prog 78 [u8 n] (bo (sm n)) [] := by
  refine Ct.intro X78 X78_ok rfl rfl rfl rfl fun g hg => ?_
  repeat (refine Run.go rfl ?_)
  refine Run.bool 5 rfl (fun h => ?_) (fun h => ?_)
  · repeat (refine Run.go rfl ?_)
    refine Run.ret hg rfl ?_
    show bo _ = _
    simp at h
    simp [sm, h]
  · repeat (refine Run.go rfl ?_)
    refine Run.ret hg rfl ?_
    show bo _ = _
    simp at h
    simp [sm]
    omega

noncomputable def X61 : Fx := ⟨Tryz.prog, tys, 61, Tryz.f61, [0]⟩
theorem X61_ok : X61.Ok := ⟨Tryz.func61, tys_ok⟩
theorem validBook_ct (x : Bk) : Ct Tryz.prog 61 [bkA x] (bo (vB x)) [] := by
  refine Ct.intro X61 X61_ok rfl rfl rfl rfl fun g hg => ?_
  iterate 3 (refine Run.go rfl ?_)
  refine Run.freezeBox 1 (1, 0) (bkA x).cells rfl rfl rfl rfl ?_
  repeat (refine Run.go rfl ?_)
  refine Run.cs rfl (within16_ct x.cl 0 999) rfl rfl ?_
  repeat (refine Run.go rfl ?_)
  refine Run.bool 6 rfl (fun h1 => ?_) (fun h1 => ?_)
  · have h1 : inr x.cl 0 999 = true := h1
    repeat (refine Run.go rfl ?_)
    refine Run.val rfl rfl rfl (ValOk.cutArr (ys := [x.a, x.b, x.c].map u8) rfl rfl rfl rfl rfl rfl rfl rfl rfl (by decide)) rfl ?_
    refine Run.cs rfl (areAllBy0_ct [x.a, x.b, x.c] true _ sm (by simp) fun y _ => isSmall_ct y) rfl rfl ?_
    repeat (refine Run.go rfl ?_)
    refine Run.bool 11 rfl (fun h2 => ?_) (fun h2 => ?_)
    · have h2 : (sm x.a && (sm x.b && sm x.c)) = true := by simpa using h2
      repeat (refine Run.go rfl ?_)
      refine Run.cs rfl (within16_ct x.vol 1 99) rfl rfl ?_
      repeat (refine Run.go rfl ?_)
      refine Run.bool 16 rfl (fun h3 => ?_) (fun h3 => ?_)
      · have h3 : inr x.vol 1 99 = true := h3
        repeat (refine Run.go rfl ?_)
        refine Run.cs rfl (within16_ct x.wd 1 100) rfl rfl ?_
        repeat (refine Run.go rfl ?_)
        refine Run.bool 21 rfl (fun h4 => ?_) (fun h4 => ?_)
        · have h4 : inr x.wd 1 100 = true := h4
          repeat (refine Run.go rfl ?_)
          refine Run.cs rfl (within16_ct x.hi 50 400) rfl rfl ?_
          repeat (refine Run.go rfl ?_)
          refine Run.bool 26 rfl (fun h5 => ?_) (fun h5 => ?_)
          · have h5 : inr x.hi 50 400 = true := h5
            repeat (refine Run.go rfl ?_)
            refine Run.cs rfl (within16_ct x.wt 1 9999) rfl rfl ?_
            repeat (refine Run.go rfl ?_)
            refine Run.ret hg rfl ?_
            rw [vB, h1, h2, h3, h4, h5]
            rfl
          · have h5 : inr x.hi 50 400 = false := h5
            repeat (refine Run.go rfl ?_)
            refine Run.ret hg rfl ?_
            rw [vB, h1, h2, h3, h4, h5]
            rfl
        · have h4 : inr x.wd 1 100 = false := h4
          repeat (refine Run.go rfl ?_)
          refine Run.bool 26 rfl (fun h => by simp at h) (fun h => ?_)
          repeat (refine Run.go rfl ?_)
          refine Run.ret hg rfl ?_
          rw [vB, h1, h2, h3, h4]
          rfl
      · have h3 : inr x.vol 1 99 = false := h3
        repeat (refine Run.go rfl ?_)
        refine Run.bool 21 rfl (fun h => by simp at h) (fun h => ?_)
        repeat (refine Run.go rfl ?_)
        refine Run.bool 26 rfl (fun h => by simp at h) (fun h => ?_)
        repeat (refine Run.go rfl ?_)
        refine Run.ret hg rfl ?_
        rw [vB, h1, h2, h3]
        rfl
    · have h2 : (sm x.a && (sm x.b && sm x.c)) = false := by simpa using h2
      repeat (refine Run.go rfl ?_)
      refine Run.bool 16 rfl (fun h => by simp at h) (fun h => ?_)
      repeat (refine Run.go rfl ?_)
      refine Run.bool 21 rfl (fun h => by simp at h) (fun h => ?_)
      repeat (refine Run.go rfl ?_)
      refine Run.bool 26 rfl (fun h => by simp at h) (fun h => ?_)
      repeat (refine Run.go rfl ?_)
      refine Run.ret hg rfl ?_
      rw [vB, h1, h2]
      rfl
  · have h1 : inr x.cl 0 999 = false := h1
    repeat (refine Run.go rfl ?_)
    refine Run.bool 11 rfl (fun h => by simp at h) (fun h => ?_)
    repeat (refine Run.go rfl ?_)
    refine Run.bool 16 rfl (fun h => by simp at h) (fun h => ?_)
    repeat (refine Run.go rfl ?_)
    refine Run.bool 21 rfl (fun h => by simp at h) (fun h => ?_)
    repeat (refine Run.go rfl ?_)
    refine Run.bool 26 rfl (fun h => by simp at h) (fun h => ?_)
    repeat (refine Run.go rfl ?_)
    refine Run.ret hg rfl ?_
    rw [vB, h1]
    rfl

noncomputable def X36 : Fx := ⟨Tryz.prog, tys, 36, Tryz.f36, [0]⟩
theorem X36_ok : X36.Ok := ⟨Tryz.func36, tys_ok⟩
theorem validBooks_ct (l : List Bk) (ex : Bool) (hlen : l.length ≤ 1048576) : Ct Tryz.prog 36 [.ro 8 ex (l.map bkA)] (bo (vBs l)) [] := by
  refine Ct.intro X36 X36_ok rfl rfl rfl rfl fun g hg => ?_
  repeat (refine Run.go rfl ?_)
  refine Run.bool 6 rfl (fun h => ?_) (fun h => ?_)
  · have h : l.length ≤ 60 := by simp at h; omega
    repeat (refine Run.go rfl ?_)
    refine Run.cs rfl (areAllB0_ct l ex _ vB hlen fun y _ => validBook_ct y) rfl rfl ?_
    repeat (refine Run.go rfl ?_)
    refine Run.ret hg rfl ?_
    show bo _ = _
    simp [vBs, h]
  · have h : ¬ l.length ≤ 60 := by simp at h; omega
    repeat (refine Run.go rfl ?_)
    refine Run.ret hg rfl ?_
    show bo false = _
    simp [vBs, h]

noncomputable def X79 : Fx := ⟨Tryz.prog, tys, 79, Tryz.f79, [0]⟩
theorem X79_ok : X79.Ok := ⟨Tryz.func79, tys_ok⟩
theorem l01Mark_ct (a b c : Int) : Ct Tryz.prog 79 [.agg [u8 a, u8 b, u8 c]] (bo (sm a && (sm b && sm c))) [] := by
  refine Ct.intro X79 X79_ok rfl rfl rfl rfl fun g hg => ?_
  repeat (refine Run.go rfl ?_)
  refine Run.loop (fun j : Nat => ⟨[(1, .bp (1, 0) 0), (3, i64 j)], [((1, 0), .box [u8 a, u8 b, u8 c])]⟩) (fun j => j ≤ 3 ∧ (0 < j → sm a = true) ∧ (1 < j → sm b = true) ∧ (2 < j → sm c = true)) (fun j => 3 - j) 0 (by omega) ?_ ?_
  · exact St.Le.mk' ⟨rfl, rfl, trivial⟩ ⟨rfl, trivial⟩
  · rintro j ⟨hj, q0, q1, q2⟩ IH
    have hj4 : j = 0 ∨ j = 1 ∨ j = 2 ∨ j = 3 := by omega
    have key : ∀ n : Int, (97 ≤ n → n ≤ 122 → sm n = true) ∧ (n < 97 → sm n = false) ∧ (122 < n → sm n = false) := by
      intro n
      refine ⟨fun h1 h2 => by simp [sm, h1, h2], fun h => by simp [sm]; omega, fun h => by simp [sm]; omega⟩
    rcases hj4 with rfl | rfl | rfl | rfl
    · repeat (refine Run.go rfl ?_)
      refine Run.cond rfl (fun h => ?_) (fun h => by simp at h)
      repeat (refine Run.go rfl ?_)
      refine Run.bool 12 rfl (fun hA => ?_) (fun hA => ?_)
      · have F : sm a = false := (key a).2.1 (by simpa using hA)
        repeat (refine Run.go rfl ?_)
        refine Run.cond rfl (fun _ => ?_) (fun h => by simp at h)
        repeat (refine Run.go rfl ?_)
        refine Run.ret hg rfl ?_
        have : (sm a && (sm b && sm c)) = false := by rw [F, Bool.false_and]
        rw [this]
        rfl
      · have hA : 97 ≤ a := by simpa using hA
        repeat (refine Run.go rfl ?_)
        refine Run.cond rfl (fun hB => ?_) (fun hB => ?_)
        · have F : sm a = false := (key a).2.2 (by simpa using hB)
          repeat (refine Run.go rfl ?_)
          refine Run.ret hg rfl ?_
          have : (sm a && (sm b && sm c)) = false := by rw [F, Bool.false_and]
          rw [this]
          rfl
        · have S : sm a = true := (key a).1 hA (by simpa using hB)
          repeat (refine Run.go rfl ?_)
          exact Run.of (IH 1 ⟨by omega, fun _ => S, by omega, by omega⟩ (by omega)) ⟨rfl, rfl, trivial⟩ ⟨rfl, trivial⟩
    · repeat (refine Run.go rfl ?_)
      refine Run.cond rfl (fun h => ?_) (fun h => by simp at h)
      repeat (refine Run.go rfl ?_)
      refine Run.bool 12 rfl (fun hA => ?_) (fun hA => ?_)
      · have F : sm b = false := (key b).2.1 (by simpa using hA)
        repeat (refine Run.go rfl ?_)
        refine Run.cond rfl (fun _ => ?_) (fun h => by simp at h)
        repeat (refine Run.go rfl ?_)
        refine Run.ret hg rfl ?_
        have : (sm a && (sm b && sm c)) = false := by rw [F, Bool.false_and, Bool.and_false]
        rw [this]
        rfl
      · have hA : 97 ≤ b := by simpa using hA
        repeat (refine Run.go rfl ?_)
        refine Run.cond rfl (fun hB => ?_) (fun hB => ?_)
        · have F : sm b = false := (key b).2.2 (by simpa using hB)
          repeat (refine Run.go rfl ?_)
          refine Run.ret hg rfl ?_
          have : (sm a && (sm b && sm c)) = false := by rw [F, Bool.false_and, Bool.and_false]
          rw [this]
          rfl
        · have S : sm b = true := (key b).1 hA (by simpa using hB)
          repeat (refine Run.go rfl ?_)
          exact Run.of (IH 2 ⟨by omega, fun _ => q0 (by omega), fun _ => S, by omega⟩ (by omega)) ⟨rfl, rfl, trivial⟩ ⟨rfl, trivial⟩
    · repeat (refine Run.go rfl ?_)
      refine Run.cond rfl (fun h => ?_) (fun h => by simp at h)
      repeat (refine Run.go rfl ?_)
      refine Run.bool 12 rfl (fun hA => ?_) (fun hA => ?_)
      · have F : sm c = false := (key c).2.1 (by simpa using hA)
        repeat (refine Run.go rfl ?_)
        refine Run.cond rfl (fun _ => ?_) (fun h => by simp at h)
        repeat (refine Run.go rfl ?_)
        refine Run.ret hg rfl ?_
        have : (sm a && (sm b && sm c)) = false := by rw [F, Bool.and_false, Bool.and_false]
        rw [this]
        rfl
      · have hA : 97 ≤ c := by simpa using hA
        repeat (refine Run.go rfl ?_)
        refine Run.cond rfl (fun hB => ?_) (fun hB => ?_)
        · have F : sm c = false := (key c).2.2 (by simpa using hB)
          repeat (refine Run.go rfl ?_)
          refine Run.ret hg rfl ?_
          have : (sm a && (sm b && sm c)) = false := by rw [F, Bool.and_false, Bool.and_false]
          rw [this]
          rfl
        · have S : sm c = true := (key c).1 hA (by simpa using hB)
          repeat (refine Run.go rfl ?_)
          exact Run.of (IH 3 ⟨by omega, fun _ => q0 (by omega), fun _ => q1 (by omega), fun _ => S⟩ (by omega)) ⟨rfl, rfl, trivial⟩ ⟨rfl, trivial⟩
    · repeat (refine Run.go rfl ?_)
      refine Run.cond rfl (fun h => by simp at h) (fun h => ?_)
      repeat (refine Run.go rfl ?_)
      refine Run.ret hg rfl ?_
      rw [q0 (by omega), q1 (by omega), q2 (by omega)]
      rfl

noncomputable def X54 : Fx := ⟨Tryz.prog, tys, 54, Tryz.f54, [0]⟩
theorem X54_ok : X54.Ok := ⟨Tryz.func54, tys_ok⟩
theorem l01Class_ct (n : Int) : Ct Tryz.prog 54 [i64 n] (bo (inr n 0 999)) [] := by
  refine Ct.intro X54 X54_ok rfl rfl rfl rfl fun g hg => ?_
  repeat (refine Run.go rfl ?_)
  refine Run.cs rfl (l00In_ct n 0 999) rfl rfl ?_
  repeat (refine Run.go rfl ?_)
  exact Run.ret hg rfl rfl

noncomputable def X62 : Fx := ⟨Tryz.prog, tys, 62, Tryz.f62, [0]⟩
theorem X62_ok : X62.Ok := ⟨Tryz.func62, tys_ok⟩
theorem l01Book_ct (x : Bk) (hr : bkRng x) : Ct Tryz.prog 62 [.rp (bkA x).cells 0] (bo (vB x)) [] := by
  obtain ⟨r1, _, _, _, r2, r3, r4, r5⟩ := hr
  have w1 := w64 r1
  have w2 := w64 r2
  have w3 := w64 r3
  have w4 := w64 r4
  have w5 := w64 r5
  refine Ct.intro X62 X62_ok rfl rfl rfl rfl fun g hg => ?_
  repeat (refine Run.go rfl ?_)
  rw [w1]
  refine Run.cs rfl (l01Class_ct x.cl) rfl rfl ?_
  repeat (refine Run.go rfl ?_)
  refine Run.bool 10 rfl (fun h1 => ?_) (fun h1 => ?_)
  · have h1 : inr x.cl 0 999 = false := by simpa using h1
    repeat (refine Run.go rfl ?_)
    refine Run.bool 18 rfl (fun h => ?_) (fun h => by simp at h)
    repeat (refine Run.go rfl ?_)
    refine Run.cond rfl (fun h => ?_) (fun h => by simp at h)
    repeat (refine Run.go rfl ?_)
    refine Run.ret hg rfl ?_
    rw [vB, h1]
    rfl
  have h1 : inr x.cl 0 999 = true := by simpa using h1
  repeat (refine Run.go rfl ?_)
  refine Run.cs rfl (l01Mark_ct x.a x.b x.c) rfl rfl ?_
  repeat (refine Run.go rfl ?_)
  refine Run.bool 18 rfl (fun h2 => ?_) (fun h2 => ?_)
  · have h2 : (sm x.a && (sm x.b && sm x.c)) = false := by rw [Bool.not_eq_true'] at h2; exact h2
    repeat (refine Run.go rfl ?_)
    refine Run.cond rfl (fun h => ?_) (fun h => by simp at h)
    repeat (refine Run.go rfl ?_)
    refine Run.ret hg rfl ?_
    rw [vB, h1, h2]
    rfl
  have h2 : (sm x.a && (sm x.b && sm x.c)) = true := by rw [Bool.not_eq_false'] at h2; exact h2
  repeat (refine Run.go rfl ?_)
  rw [w2]
  refine Run.cs rfl (l00In_ct x.vol 1 99) rfl rfl ?_
  repeat (refine Run.go rfl ?_)
  refine Run.cond rfl (fun h3 => ?_) (fun h3 => ?_)
  · have h3 : inr x.vol 1 99 = false := by simpa using h3
    repeat (refine Run.go rfl ?_)
    refine Run.ret hg rfl ?_
    rw [vB, h1, h2, h3]
    rfl
  have h3 : inr x.vol 1 99 = true := by simpa using h3
  repeat (refine Run.go rfl ?_)
  rw [w3]
  refine Run.cs rfl (l00In_ct x.wd 1 100) rfl rfl ?_
  repeat (refine Run.go rfl ?_)
  refine Run.bool 33 rfl (fun h4 => ?_) (fun h4 => ?_)
  · have h4 : inr x.wd 1 100 = true := h4
    repeat (refine Run.go rfl ?_)
    rw [w4]
    refine Run.cs rfl (l00In_ct x.hi 50 400) rfl rfl ?_
    repeat (refine Run.go rfl ?_)
    refine Run.bool 41 rfl (fun h5 => ?_) (fun h5 => ?_)
    · have h5 : inr x.hi 50 400 = true := h5
      repeat (refine Run.go rfl ?_)
      rw [w5]
      refine Run.cs rfl (l00In_ct x.wt 1 9999) rfl rfl ?_
      repeat (refine Run.go rfl ?_)
      refine Run.ret hg rfl ?_
      rw [vB, h1, h2, h3, h4, h5]
      rfl
    · have h5 : inr x.hi 50 400 = false := h5
      repeat (refine Run.go rfl ?_)
      refine Run.ret hg rfl ?_
      rw [vB, h1, h2, h3, h4, h5]
      rfl
  · have h4 : inr x.wd 1 100 = false := h4
    repeat (refine Run.go rfl ?_)
    refine Run.bool 41 rfl (fun h => by simp at h) (fun h => ?_)
    repeat (refine Run.go rfl ?_)
    refine Run.ret hg rfl ?_
    rw [vB, h1, h2, h3, h4]
    rfl

noncomputable def X39 : Fx := ⟨Tryz.prog, tys, 39, Tryz.f39, [0]⟩
theorem X39_ok : X39.Ok := ⟨Tryz.func39, tys_ok⟩
theorem l01Ok_ct (l : List Bk) (ex : Bool) (hlen : l.length ≤ 1048576) (hr : ∀ x ∈ l, bkRng x) : Ct Tryz.prog 39 [.ro 8 ex (l.map bkA)] (bo (vBs l)) [] := by
  refine Ct.intro X39 X39_ok rfl rfl rfl rfl fun g hg => ?_
  repeat (refine Run.go rfl ?_)
  refine Run.loop (fun j : Nat => ⟨[(0, .ro 8 ex (l.map bkA)), (3, i64 j)], []⟩) (fun j => j ≤ l.length ∧ (l.take j).all vB = true) (fun j => l.length - j) 0 ⟨by omega, rfl⟩ ?_ ?_
  · exact St.Le.mk' ⟨rfl, rfl, trivial⟩ trivial
  rintro j ⟨hj, hall⟩ IH
  repeat (refine Run.go rfl ?_)
  refine Run.cond rfl (fun h => ?_) (fun h => ?_)
  · have hlt : j < l.length := by simpa using h
    repeat (refine Run.go rfl ?_)
    refine Run.val rfl rfl rfl (ValOk.idx (bkA l[j]) rfl rfl rfl rfl rfl (by omega) (by simp [hlt])) rfl ?_
    repeat (refine Run.go rfl ?_)
    refine Run.cs rfl (l01Book_ct l[j] (hr _ (by simp))) rfl rfl ?_
    repeat (refine Run.go rfl ?_)
    refine Run.cond rfl (fun h => ?_) (fun h => ?_)
    · have h : vB l[j] = false := by simpa using h
      repeat (refine Run.go rfl ?_)
      refine Run.ret hg rfl ?_
      have : l.all vB = false := by
        rw [List.all_eq_false]
        exact ⟨l[j], by simp, by simp [h]⟩
      rw [vBs, this, Bool.and_false]
      rfl
    · have h : vB l[j] = true := by simpa using h
      repeat (refine Run.go rfl ?_)
      refine Run.of (IH (j + 1) ⟨by omega, ?_⟩ (by omega)) ⟨rfl, ?_, trivial⟩ trivial
      · rw [List.take_succ_eq_append_getElem hlt, List.all_append, hall]
        simpa using h
      · show i64 _ = _
        rw [wrap_i64 (by omega) (by omega)]
        rfl
  · have hj' : j = l.length := by simp at h; omega
    subst hj'
    rw [List.take_length] at hall
    repeat (refine Run.go rfl ?_)
    refine Run.ret hg rfl ?_
    show bo (decide (((l.map bkA).length : Int) ≤ 60)) = _
    rw [vBs, hall, Bool.and_true, List.length_map]
    exact congrArg bo (decide_eq_decide.mpr (by omega))
end Go.Proofs.YtcfkdcjindhnjaaGreat

/- Contracts of the program's functions, and what follows from them. -/
set_option maxRecDepth 100000
namespace Go.Proofs.YtcfkdcjindhnjaaGreat
open Go Go.Av

end Go.Proofs.YtcfkdcjindhnjaaGreat

/- Contracts of the program's functions, and what follows from them. -/
set_option maxRecDepth 100000
namespace Go.Proofs.YtcfkdcjindhnjaaGreat
open Go Go.Av

/-! The heaviest books next to each other. -/

def sW (l : List Bk) : Int := (l.map Bk.wd).sum
def sT (l : List Bk) : Int := (l.map Bk.wt).sum
def tH (l : List Bk) : Int := l.foldl (fun m x => if x.hi > m then x.hi else m) 0

theorem sW_snoc (l : List Bk) (x : Bk) : sW (l ++ [x]) = sW l + x.wd := by simp [sW]
theorem sT_snoc (l : List Bk) (x : Bk) : sT (l ++ [x]) = sT l + x.wt := by simp [sT]
theorem tH_snoc (l : List Bk) (x : Bk) : tH (l ++ [x]) = if x.hi > tH l then x.hi else tH l := by simp [tH]
theorem sW_bd (l : List Bk) (h : ∀ x ∈ l, bkRng x) : -32768 * (l.length : Int) ≤ sW l ∧ sW l ≤ 32768 * (l.length : Int) := by
  induction l with
  | nil => simp [sW]
  | cons x l ih =>
    have h1 := ih fun y hy => h y (by simp [hy])
    have h2 := (h x (by simp)).2.2.2.2.2.1
    unfold i16r at h2
    have e : sW (x :: l) = x.wd + sW l := by simp [sW]
    rw [e, List.length_cons]
    omega
theorem sT_bd (l : List Bk) (h : ∀ x ∈ l, bkRng x) : -32768 * (l.length : Int) ≤ sT l ∧ sT l ≤ 32768 * (l.length : Int) := by
  induction l with
  | nil => simp [sT]
  | cons x l ih =>
    have h1 := ih fun y hy => h y (by simp [hy])
    have h2 := (h x (by simp)).2.2.2.2.2.2.2
    unfold i16r at h2
    have e : sT (x :: l) = x.wt + sT l := by simp [sT]
    rw [e, List.length_cons]
    omega

noncomputable def X38 : Fx := ⟨Tryz.prog, tys, 38, Tryz.f38, [0]⟩
theorem X38_ok : X38.Ok := ⟨Tryz.func38, tys_ok⟩
theorem totals_ct (l : List Bk) (ex : Bool) (hlen : l.length ≤ 1048576) (hr : ∀ x ∈ l, bkRng x) : Ct Tryz.prog 38 [.ro 8 ex (l.map bkA)] (.agg [i64 (sW l), i64 (tH l), i64 (sT l)]) [] := by
  refine Ct.intro X38 X38_ok rfl rfl rfl rfl fun g hg => ?_
  repeat (refine Run.go rfl ?_)
  refine Run.loop (fun j : Nat => ⟨[(2, .bp (2, 0) 0), (3, .bp (3, 0) 0), (6, .ro 8 ex (l.map bkA)), (7, i64 l.length), (8, i64 j)], [((2, 0), .box [i64 0, i64 0, i64 0]), ((3, 0), .box [i64 (sW (l.take j)), i64 (tH (l.take j)), i64 (sT (l.take j))])]⟩) (fun j => j ≤ l.length) (fun j => l.length - j) 0 (by omega) ?_ ?_
  · refine St.Le.mk' ⟨rfl, rfl, rfl, ?_, rfl, trivial⟩ ⟨rfl, rfl, trivial⟩
    show i64 (l.map bkA).length = _
    simp
  intro j hj IH
  repeat (refine Run.go rfl ?_)
  refine Run.cond rfl (fun h => ?_) (fun h => ?_)
  · have hlt : j < l.length := by simpa using h
    have hx := hr l[j] (by simp)
    have b1 := sW_bd (l.take j) fun y hy => hr y (List.mem_of_mem_take hy)
    have b2 := sT_bd (l.take j) fun y hy => hr y (List.mem_of_mem_take hy)
    rw [List.length_take, Nat.min_eq_left hj] at b1 b2
    have e1 := sW_snoc (l.take j) l[j]
    have e2 := sT_snoc (l.take j) l[j]
    have e3 := tH_snoc (l.take j) l[j]
    rw [← List.take_succ_eq_append_getElem hlt] at e1 e2 e3
    have w1 := w64 hx.2.2.2.2.2.1
    have w2 := w64 hx.2.2.2.2.2.2.1
    have w3 := w64 hx.2.2.2.2.2.2.2
    have c1 := hx.2.2.2.2.2.1
    have c2 := hx.2.2.2.2.2.2.2
    unfold i16r at c1 c2
    repeat (refine Run.go rfl ?_)
    refine Run.val rfl rfl rfl (ValOk.idx (bkA l[j]) rfl rfl rfl rfl rfl (by omega) (by simp [hlt])) rfl ?_
    repeat (refine Run.go rfl ?_)
    refine Run.of (IH (j + 1) (by omega) (by omega)) ⟨rfl, rfl, rfl, rfl, ?_, trivial⟩ ⟨rfl, ?_, trivial⟩
    · show i64 _ = _
      rw [wrap_i64 (by omega) (by omega)]
      rfl
    · show Ob.box [i64 (IntKind.i64.wrap (sW (l.take j) + IntKind.i64.wrap l[j].wd)), i64 (if IntKind.i64.wrap l[j].hi > tH (l.take j) then IntKind.i64.wrap l[j].hi else tH (l.take j)), i64 (IntKind.i64.wrap (sT (l.take j) + IntKind.i64.wrap l[j].wt))] = Ob.box [i64 (sW (l.take (j + 1))), i64 (tH (l.take (j + 1))), i64 (sT (l.take (j + 1)))]
      rw [w1, w2, w3, e1, e2, e3, wrap_i64 (by omega) (by omega), wrap_i64 (by omega) (by omega)]
  · have hj' : j = l.length := by simp at h; omega
    subst hj'
    rw [List.take_length]
    repeat (refine Run.go rfl ?_)
    exact Run.ret hg rfl rfl

def part (l : List Bk) (i k : Nat) : List Bk := (l.take k).drop i
def hsStep (l : List Bk) (w : Int) (i k : Nat) (s : Int × Int × Int) : Int × Int × Int := if sW (part l i k) ≤ w ∧ s.2.2 < sT (part l i k) then ((i : Int), (k : Int) - i, sT (part l i k)) else s
def hsIn (l : List Bk) (w : Int) (i : Nat) (s : Int × Int × Int) : Nat → Int × Int × Int
  | 0 => s
  | m + 1 => hsStep l w i (i + m + 1) (hsIn l w i s m)
def hs (l : List Bk) (w : Int) : Nat → Int × Int × Int
  | 0 => (0, 0, 0)
  | i + 1 => hsIn l w i (hs l w i) (l.length - i)
def hsRes (l : List Bk) (w : Int) : AV :=
  if vBs l then (if inr w 1 6000 then (if (hs l w l.length).2.1 = 0 then .tup [i64 0, i64 0, i64 0, i64 6] else .tup [i64 (hs l w l.length).1, i64 (hs l w l.length).2.1, i64 (hs l w l.length).2.2, i64 0]) else .tup [i64 0, i64 0, i64 0, i64 2]) else .tup [i64 0, i64 0, i64 0, i64 1]

theorem part_snoc {l : List Bk} {i k : Nat} (h : k < l.length) (hi : i ≤ k) : part l i (k + 1) = part l i k ++ [l[k]] := by
  unfold part
  rw [List.take_succ_eq_append_getElem h, List.drop_append_of_le_length (by rw [List.length_take]; omega)]
theorem part_mem {l : List Bk} {i k : Nat} {x : Bk} (h : x ∈ part l i k) : x ∈ l := List.mem_of_mem_take (List.mem_of_mem_drop h)
theorem part_len (l : List Bk) (i k : Nat) : (part l i k).length ≤ l.length := by
  unfold part
  rw [List.length_drop, List.length_take]
  omega
theorem part_self (l : List Bk) (i : Nat) : part l i i = [] := by
  unfold part
  exact List.drop_eq_nil_of_le (by rw [List.length_take]; omega)

noncomputable def X13 : Fx := ⟨Tryz.prog, tys, 13, Tryz.f13, [0, 1]⟩
theorem X13_ok : X13.Ok := ⟨Tryz.func13, tys_ok⟩
theorem specHeaviestShelf_ct (l : List Bk) (ex : Bool) (w : Int) (hlen : l.length ≤ 1048576) (hr : ∀ x ∈ l, bkRng x) : Ct Tryz.prog 13 [.ro 8 ex (l.map bkA), i64 w] (hsRes l w) [] := by
  refine Ct.intro X13 X13_ok rfl (by kernel_rfl) rfl rfl fun g hg => ?_
  repeat (refine Run.go rfl ?_)
  refine Run.cs rfl (l01Ok_ct l ex hlen hr) rfl rfl ?_
  repeat (refine Run.go rfl ?_)
  refine Run.cond rfl (fun h => ?_) (fun h => ?_)
  · have h : vBs l = false := by simpa using h
    repeat (refine Run.go rfl ?_)
    refine Run.ret hg rfl ?_
    rw [hsRes, h]
    rfl
  have hv : vBs l = true := by simpa using h
  repeat (refine Run.go rfl ?_)
  refine Run.cs rfl (l00In_ct w 1 6000) rfl rfl ?_
  repeat (refine Run.go rfl ?_)
  refine Run.cond rfl (fun h => ?_) (fun h => ?_)
  · have h : inr w 1 6000 = false := by simpa using h
    repeat (refine Run.go rfl ?_)
    refine Run.ret hg rfl ?_
    rw [hsRes, hv, h]
    rfl
  have hw : inr w 1 6000 = true := by simpa using h
  have hw2 : 1 ≤ w ∧ w ≤ 6000 := by simpa [inr] using hw
  repeat (refine Run.go rfl ?_)
  refine Run.loop (fun i : Nat => ⟨[(0, .ro 8 ex (l.map bkA)), (1, i64 w), (8, i64 (hs l w i).1), (9, i64 (hs l w i).2.1), (10, i64 (hs l w i).2.2), (11, i64 i)], []⟩) (fun i => i ≤ l.length) (fun i => l.length - i) 0 (by omega) ?_ ?_
  · exact St.Le.mk' ⟨rfl, rfl, rfl, rfl, rfl, rfl, trivial⟩ trivial
  intro i hi IH
  repeat (refine Run.go rfl ?_)
  refine Run.cond rfl (fun h => ?_) (fun h => ?_)
  · have hlt : i < l.length := by simpa using h
    repeat (refine Run.go rfl ?_)
    refine Run.loop (fun m : Nat => ⟨[(0, .ro 8 ex (l.map bkA)), (1, i64 w), (8, i64 (hsIn l w i (hs l w i) m).1), (9, i64 (hsIn l w i (hs l w i) m).2.1), (10, i64 (hsIn l w i (hs l w i) m).2.2), (11, i64 i), (12, i64 (w - sW (part l i (i + m)))), (13, i64 (sT (part l i (i + m)))), (14, i64 ((i + m : Nat) : Int))], []⟩) (fun m => i + m ≤ l.length) (fun m => l.length - (i + m)) 0 (by omega) ?_ ?_
    · refine St.Le.mk' ⟨rfl, rfl, rfl, rfl, rfl, rfl, ?_, ?_, rfl, trivial⟩ trivial
      · show i64 w = i64 (w - sW (part l i i))
        rw [part_self]
        simp [sW]
      · show i64 0 = i64 (sT (part l i i))
        rw [part_self]
        rfl
    intro m hm IH2
    repeat (refine Run.go rfl ?_)
    refine Run.cond rfl (fun h => ?_) (fun h => ?_)
    · have hlt2 : i + m < l.length := by simp at h; omega
      have hx := hr l[i + m] (by simp)
      have ps := part_snoc hlt2 (Nat.le_add_right i m)
      have b1 := sW_bd (part l i (i + m)) fun y hy => hr y (part_mem hy)
      have b2 := sT_bd (part l i (i + m)) fun y hy => hr y (part_mem hy)
      have pl := part_len l i (i + m)
      have e1 := sW_snoc (part l i (i + m)) l[i + m]
      have e2 := sT_snoc (part l i (i + m)) l[i + m]
      rw [← ps] at e1 e2
      have w1 := w64 hx.2.2.2.2.2.1
      have w3 := w64 hx.2.2.2.2.2.2.2
      have c1 := hx.2.2.2.2.2.1
      have c2 := hx.2.2.2.2.2.2.2
      unfold i16r at c1 c2
      have hstep : hsIn l w i (hs l w i) (m + 1) = hsStep l w i (i + m + 1) (hsIn l w i (hs l w i) m) := rfl
      generalize hsIn l w i (hs l w i) m = s at hstep
      obtain ⟨s1, s2, s3⟩ := s
      repeat (refine Run.go rfl ?_)
      refine Run.val rfl rfl rfl (ValOk.idx (bkA l[i + m]) rfl rfl rfl rfl rfl (by omega) (by simp only [Int.toNat_natCast, List.getElem?_map, List.getElem?_eq_getElem hlt2, Option.map_some])) rfl ?_
      repeat (refine Run.go rfl ?_)
      refine Run.val rfl rfl rfl (ValOk.idx (bkA l[i + m]) rfl rfl rfl rfl rfl (by omega) (by simp only [Int.toNat_natCast, List.getElem?_map, List.getElem?_eq_getElem hlt2, Option.map_some])) rfl ?_
      repeat (refine Run.go rfl ?_)
      rw [w1, w3, wrap_i64 (n := w - sW (part l i (i + m)) - l[i + m].wd) (by omega) (by omega), wrap_i64 (n := sT (part l i (i + m)) + l[i + m].wt) (by omega) (by omega)]
      rw [show w - sW (part l i (i + m)) - l[i + m].wd = w - sW (part l i (i + m + 1)) by rw [e1]; omega, ← e2]
      have ek : IntKind.i64.wrap (((i + m : Nat) : Int) + 1) = ((i + (m + 1) : Nat) : Int) := by rw [wrap_i64 (by omega) (by omega)]; omega
      refine Run.bool 53 rfl (fun hA => ?_) (fun hA => ?_)
      · have hA : sW (part l i (i + m + 1)) ≤ w := by simp at hA; omega
        repeat (refine Run.go rfl ?_)
        refine Run.cond rfl (fun hB => ?_) (fun hB => ?_)
        · have hB : s3 < sT (part l i (i + m + 1)) := by simpa using hB
          have hs1 : hsStep l w i (i + m + 1) (s1, s2, s3) = ((i : Int), ((i + m + 1 : Nat) : Int) - i, sT (part l i (i + m + 1))) := by rw [hsStep, if_pos ⟨hA, hB⟩]
          rw [hs1] at hstep
          repeat (refine Run.go rfl ?_)
          refine Run.of (IH2 (m + 1) (by omega) (by omega)) ⟨rfl, rfl, ?_, ?_, ?_, rfl, rfl, rfl, ?_, trivial⟩ trivial
          · rw [hstep]
            rfl
          · rw [hstep]
            show i64 (IntKind.i64.wrap (IntKind.i64.wrap (((i + m : Nat) : Int) - i) + 1)) = i64 (((i + m + 1 : Nat) : Int) - i)
            rw [wrap_i64 (n := ((i + m : Nat) : Int) - i) (by omega) (by omega), wrap_i64 (by omega) (by omega)]
            exact congrArg i64 (by omega)
          · rw [hstep]
            rfl
          · exact congrArg i64 ek
        · have hB : ¬ s3 < sT (part l i (i + m + 1)) := by simpa using hB
          rw [hsStep, if_neg (fun h => hB h.2)] at hstep
          repeat (refine Run.go rfl ?_)
          refine Run.of (IH2 (m + 1) (by omega) (by omega)) ⟨rfl, rfl, ?_, ?_, ?_, rfl, rfl, rfl, ?_, trivial⟩ trivial
          · rw [hstep]
            rfl
          · rw [hstep]
            rfl
          · rw [hstep]
            rfl
          · exact congrArg i64 ek
      · have hA : ¬ sW (part l i (i + m + 1)) ≤ w := by simp at hA; omega
        rw [hsStep, if_neg (fun h => hA h.1)] at hstep
        repeat (refine Run.go rfl ?_)
        refine Run.cond rfl (fun hB => by simp at hB) (fun hB => ?_)
        repeat (refine Run.go rfl ?_)
        refine Run.of (IH2 (m + 1) (by omega) (by omega)) ⟨rfl, rfl, ?_, ?_, ?_, rfl, rfl, rfl, ?_, trivial⟩ trivial
        · rw [hstep]
          rfl
        · rw [hstep]
          rfl
        · rw [hstep]
          rfl
        · exact congrArg i64 ek
    · have hm' : m = l.length - i := by simp at h; omega
      subst hm'
      have hstep : hs l w (i + 1) = hsIn l w i (hs l w i) (l.length - i) := rfl
      repeat (refine Run.go rfl ?_)
      refine Run.of (IH (i + 1) (by omega) (by omega)) ⟨rfl, rfl, ?_, ?_, ?_, ?_, trivial⟩ trivial
      · rw [hstep]
        rfl
      · rw [hstep]
        rfl
      · rw [hstep]
        rfl
      · show i64 _ = _
        rw [wrap_i64 (by omega) (by omega)]
        rfl
  · have hi' : i = l.length := by simp at h; omega
    subst hi'
    repeat (refine Run.go rfl ?_)
    refine Run.cond rfl (fun h => ?_) (fun h => ?_)
    · have h : (hs l w l.length).2.1 = 0 := by simpa using h
      repeat (refine Run.go rfl ?_)
      refine Run.ret hg rfl ?_
      rw [hsRes, hv, hw, if_pos rfl, if_pos rfl, if_pos h]
      rfl
    · have h : (hs l w l.length).2.1 ≠ 0 := by simpa using h
      repeat (refine Run.go rfl ?_)
      refine Run.ret hg rfl ?_
      rw [hsRes, hv, hw, if_pos rfl, if_pos rfl, if_neg h]
      rfl

noncomputable def X12 : Fx := ⟨Tryz.prog, tys, 12, Tryz.f12, [0, 1]⟩
theorem X12_ok : X12.Ok := ⟨Tryz.func12, tys_ok⟩
theorem implHeaviestShelf_ct (l : List Bk) (ex : Bool) (w : Int) (hlen : l.length ≤ 1048576) (hr : ∀ x ∈ l, bkRng x) : Ct Tryz.prog 12 [.ro 8 ex (l.map bkA), i64 w] (hsRes l w) [] := by
  refine Ct.intro X12 X12_ok rfl (by kernel_rfl) rfl rfl fun g hg => ?_
  repeat (refine Run.go rfl ?_)
  refine Run.cs rfl (validBooks_ct l ex hlen) rfl rfl ?_
  repeat (refine Run.go rfl ?_)
  refine Run.cond rfl (fun h => ?_) (fun h => ?_)
  · have h : vBs l = false := by simpa using h
    repeat (refine Run.go rfl ?_)
    refine Run.ret hg rfl ?_
    rw [hsRes, h]
    rfl
  have hv : vBs l = true := by simpa using h
  repeat (refine Run.go rfl ?_)
  refine Run.cs rfl (within64_ct w 1 6000) rfl rfl ?_
  repeat (refine Run.go rfl ?_)
  refine Run.cond rfl (fun h => ?_) (fun h => ?_)
  · have h : inr w 1 6000 = false := by simpa using h
    repeat (refine Run.go rfl ?_)
    refine Run.ret hg rfl ?_
    rw [hsRes, hv, h]
    rfl
  have hw : inr w 1 6000 = true := by simpa using h
  have hw2 : 1 ≤ w ∧ w ≤ 6000 := by simpa [inr] using hw
  repeat (refine Run.go rfl ?_)
  refine Run.loop (fun i : Nat => ⟨[(0, .ro 8 ex (l.map bkA)), (1, i64 w), (8, i64 (hs l w i).1), (9, i64 (hs l w i).2.1), (10, i64 (hs l w i).2.2), (23, i64 l.length), (24, i64 i)], []⟩) (fun i => i ≤ l.length) (fun i => l.length - i) 0 (by omega) ?_ ?_
  · refine St.Le.mk' ⟨rfl, rfl, rfl, rfl, rfl, ?_, rfl, trivial⟩ trivial
    show i64 (l.map bkA).length = _
    simp
  intro i hi IH
  repeat (refine Run.go rfl ?_)
  refine Run.cond rfl (fun h => ?_) (fun h => ?_)
  · have hlt : i < l.length := by simpa using h
    repeat (refine Run.go rfl ?_)
    refine Run.loop (fun m : Nat => ⟨[(0, .ro 8 ex (l.map bkA)), (1, i64 w), (8, i64 (hsIn l w i (hs l w i) m).1), (9, i64 (hsIn l w i (hs l w i) m).2.1), (10, i64 (hsIn l w i (hs l w i) m).2.2), (11, i64 i), (12, i64 ((i + m + 1 : Nat) : Int)), (23, i64 l.length), (24, i64 i)], []⟩) (fun m => i + m ≤ l.length) (fun m => l.length - (i + m)) 0 (by omega) ?_ ?_
    · refine St.Le.mk' ⟨rfl, rfl, rfl, rfl, rfl, rfl, ?_, rfl, rfl, trivial⟩ trivial
      show i64 _ = _
      rw [wrap_i64 (by omega) (by omega)]
      rfl
    intro m hm IH2
    repeat (refine Run.go rfl ?_)
    refine Run.cond rfl (fun h => ?_) (fun h => ?_)
    · have hlt2 : i + m < l.length := by simp at h; omega
      have b1 := sW_bd (part l i (i + m + 1)) fun y hy => hr y (part_mem hy)
      have pl := part_len l i (i + m + 1)
      have hstep : hsIn l w i (hs l w i) (m + 1) = hsStep l w i (i + m + 1) (hsIn l w i (hs l w i) m) := rfl
      generalize hsIn l w i (hs l w i) m = s at hstep
      obtain ⟨s1, s2, s3⟩ := s
      have ek : IntKind.i64.wrap (((i + m + 1 : Nat) : Int) + 1) = ((i + (m + 1) + 1 : Nat) : Int) := by rw [wrap_i64 (by omega) (by omega)]; omega
      repeat (refine Run.go rfl ?_)
      refine Run.val rfl rfl rfl (ValOk.cut (ys := (part l i (i + m + 1)).map bkA) (l := (i : Int)) (h := ((i + m + 1 : Nat) : Int)) rfl rfl rfl rfl rfl rfl (by omega) (by omega) (by simp; omega) (by simp only [Int.toNat_natCast, part, List.map_drop, List.map_take])) rfl ?_
      refine Run.cs rfl (totals_ct (part l i (i + m + 1)) false (by omega) fun y hy => hr y (part_mem hy)) rfl rfl ?_
      repeat (refine Run.go rfl ?_)
      refine Run.bool 44 rfl (fun hA => ?_) (fun hA => ?_)
      · have hA : sW (part l i (i + m + 1)) ≤ w := by simpa using hA
        repeat (refine Run.go rfl ?_)
        refine Run.cond rfl (fun hB => ?_) (fun hB => ?_)
        · have hB : s3 < sT (part l i (i + m + 1)) := by simpa using hB
          have hs1 : hsStep l w i (i + m + 1) (s1, s2, s3) = ((i : Int), ((i + m + 1 : Nat) : Int) - i, sT (part l i (i + m + 1))) := by rw [hsStep, if_pos ⟨hA, hB⟩]
          rw [hs1] at hstep
          repeat (refine Run.go rfl ?_)
          refine Run.draw (by kernel_rfl) (by decide +kernel) ?_
          repeat (refine Quiet.go rfl ?_)
          refine Quiet.nil ?_
          repeat (refine Run.go rfl ?_)
          refine Run.of (IH2 (m + 1) (by omega) (by omega)) ⟨rfl, rfl, ?_, ?_, ?_, rfl, ?_, rfl, rfl, trivial⟩ trivial
          · rw [hstep]
            rfl
          · rw [hstep]
            show i64 (IntKind.i64.wrap (((i + m + 1 : Nat) : Int) - i)) = i64 (((i + m + 1 : Nat) : Int) - i)
            rw [wrap_i64 (by omega) (by omega)]
          · rw [hstep]
            rfl
          · exact congrArg i64 ek
        · have hB : ¬ s3 < sT (part l i (i + m + 1)) := by simpa using hB
          rw [hsStep, if_neg (fun h => hB h.2)] at hstep
          repeat (refine Run.go rfl ?_)
          refine Run.of (IH2 (m + 1) (by omega) (by omega)) ⟨rfl, rfl, ?_, ?_, ?_, rfl, ?_, rfl, rfl, trivial⟩ trivial
          · rw [hstep]
            rfl
          · rw [hstep]
            rfl
          · rw [hstep]
            rfl
          · exact congrArg i64 ek
      · have hA : ¬ sW (part l i (i + m + 1)) ≤ w := by simpa using hA
        rw [hsStep, if_neg (fun h => hA h.1)] at hstep
        repeat (refine Run.go rfl ?_)
        refine Run.cond rfl (fun hB => by simp at hB) (fun hB => ?_)
        repeat (refine Run.go rfl ?_)
        refine Run.of (IH2 (m + 1) (by omega) (by omega)) ⟨rfl, rfl, ?_, ?_, ?_, rfl, ?_, rfl, rfl, trivial⟩ trivial
        · rw [hstep]
          rfl
        · rw [hstep]
          rfl
        · rw [hstep]
          rfl
        · exact congrArg i64 ek
    · have hm' : m = l.length - i := by simp at h; omega
      subst hm'
      have hstep : hs l w (i + 1) = hsIn l w i (hs l w i) (l.length - i) := rfl
      repeat (refine Run.go rfl ?_)
      refine Run.of (IH (i + 1) (by omega) (by omega)) ⟨rfl, rfl, ?_, ?_, ?_, rfl, ?_, trivial⟩ trivial
      · rw [hstep]
        rfl
      · rw [hstep]
        rfl
      · rw [hstep]
        rfl
      · show i64 _ = _
        rw [wrap_i64 (by omega) (by omega)]
        rfl
  · have hi' : i = l.length := by simp at h; omega
    subst hi'
    repeat (refine Run.go rfl ?_)
    refine Run.cond rfl (fun h => ?_) (fun h => ?_)
    · have h : (hs l w l.length).2.1 = 0 := by simpa using h
      repeat (refine Run.go rfl ?_)
      refine Run.ret hg rfl ?_
      rw [hsRes, hv, hw, if_pos rfl, if_pos rfl, if_pos h]
      rfl
    · have h : (hs l w l.length).2.1 ≠ 0 := by simpa using h
      repeat (refine Run.go rfl ?_)
      refine Run.ret hg rfl ?_
      rw [hsRes, hv, hw, if_pos rfl, if_pos rfl, if_neg h]
      rfl
end Go.Proofs.YtcfkdcjindhnjaaGreat

/- Contracts of the program's functions, and what follows from them. -/
set_option maxRecDepth 100000
namespace Go.Proofs.YtcfkdcjindhnjaaGreat
open Go Go.Av

/-! Books compared by the usual order; sorted lists. -/

def lex3 (p q : Int × Int × Int) : Int := if cmpI p.1 q.1 ≠ 0 then cmpI p.1 q.1 else if cmpI p.2.1 q.2.1 ≠ 0 then cmpI p.2.1 q.2.1 else cmpI p.2.2 q.2.2
def nm (x : Bk) : Nat → Int × Int × Int
  | 0 => (x.cl, 0, 0)
  | 1 => (x.a, x.b, x.c)
  | _ => (x.vol, 0, 0)
def fc (x y : Bk) (i : Nat) : Int := lex3 (nm x i) (nm y i)
def uc (x y : Bk) : Int := if fc x y 0 ≠ 0 then fc x y 0 else if fc x y 1 ≠ 0 then fc x y 1 else fc x y 2

theorem cmpI_self (a : Int) : cmpI a a = 0 := by simp [cmpI]
theorem cmpI_ne {a b : Int} (h : a ≠ b) : cmpI a b ≠ 0 := by
  unfold cmpI
  split
  · decide
  · split
    · decide
    · omega
theorem cmpI_zero {a b : Int} (h : cmpI a b = 0) : a = b := Classical.byContradiction fun hne => cmpI_ne hne h
theorem cmpI_lt {a b : Int} (h : a < b) : cmpI a b = -1 := by rw [cmpI, if_pos h]
theorem cmpI_gt {a b : Int} (h : a ≠ b) (h2 : ¬ a < b) : cmpI a b = 1 := by rw [cmpI, if_neg h2, if_pos (by omega)]
theorem lex3_one (a b : Int) : lex3 (a, 0, 0) (b, 0, 0) = cmpI a b := by
  unfold lex3
  by_cases h : cmpI a b = 0
  · simp [h, cmpI_self]
  · simp [h]
theorem fc0 (x y : Bk) : fc x y 0 = cmpI x.cl y.cl := lex3_one _ _
theorem fc2 (x y : Bk) : fc x y 2 = cmpI x.vol y.vol := lex3_one _ _
theorem uc_at {x y : Bk} {i : Nat} (hi : i < 3) (h0 : 0 < i → fc x y 0 = 0) (h1 : 1 < i → fc x y 1 = 0) (hn : fc x y i ≠ 0) : uc x y = fc x y i := by
  have : i = 0 ∨ i = 1 ∨ i = 2 := by omega
  rcases this with rfl | rfl | rfl
  · rw [uc, if_pos hn]
  · rw [uc, if_neg (by rw [h0 (by omega)]; simp), if_pos hn]
  · rw [uc, if_neg (by rw [h0 (by omega)]; simp), if_neg (by rw [h1 (by omega)]; simp)]
theorem uc_end {x y : Bk} (h0 : fc x y 0 = 0) (h1 : fc x y 1 = 0) (h2 : fc x y 2 = 0) : uc x y = 0 := by
  rw [uc, if_neg (by rw [h0]; simp), if_neg (by rw [h1]; simp), h2]

noncomputable def X110 : Fx := ⟨Tryz.prog, tys, 110, Tryz.f110, [0]⟩
theorem X110_ok : X110.Ok := ⟨Tryz.func110, tys_ok⟩
theorem isNaN8_ct (a : Int) : Ct Tryz.prog 110 [u8 a] (bo false) [] := by
  refine Ct.intro X110 X110_ok rfl rfl rfl rfl fun g hg => ?_
  repeat (refine Run.go rfl ?_)
  refine Run.ret hg rfl ?_
  show bo (a != a) = _
  simp

noncomputable def X108 : Fx := ⟨Tryz.prog, tys, 108, Tryz.f108, [0, 1]⟩
theorem X108_ok : X108.Ok := ⟨Tryz.func108, tys_ok⟩
theorem compareU8_ct (a b : Int) : Ct Tryz.prog 108 [u8 a, u8 b] (i64 (cmpI a b)) [] := by
  refine Ct.intro X108 X108_ok rfl rfl rfl rfl fun g hg => ?_
  repeat (refine Run.go rfl ?_)
  refine Run.cs rfl (isNaN8_ct a) rfl rfl ?_
  repeat (refine Run.go rfl ?_)
  refine Run.cs rfl (isNaN8_ct b) rfl rfl ?_
  repeat (refine Run.go rfl ?_)
  refine Run.cond rfl (fun h => by simp at h) (fun h => ?_)
  repeat (refine Run.go rfl ?_)
  refine Run.cond rfl (fun h => by simp at h) (fun h => ?_)
  repeat (refine Run.go rfl ?_)
  refine Run.cond rfl (fun h => ?_) (fun h => ?_)
  · repeat (refine Run.go rfl ?_)
    refine Run.ret hg rfl ?_
    have h : a < b := by simpa using h
    simp only [cmpI, if_pos h]
    rfl
  have h : ¬ a < b := by simpa using h
  repeat (refine Run.go rfl ?_)
  refine Run.cond rfl (fun h2 => ?_) (fun h2 => ?_)
  · repeat (refine Run.go rfl ?_)
    refine Run.ret hg rfl ?_
    have h2 : b < a := by simpa using h2
    simp only [cmpI, if_neg h, if_pos h2]
    rfl
  have h2 : ¬ b < a := by simpa using h2
  repeat (refine Run.go rfl ?_)
  refine Run.ret hg rfl ?_
  simp only [cmpI, if_neg h, if_neg h2]
  rfl

noncomputable def X100 : Fx := ⟨Tryz.prog, tys, 100, Tryz.f100, [0, 1]⟩
theorem X100_ok : X100.Ok := ⟨Tryz.func100, tys_ok⟩
theorem compareBy3_ct (p q : Int × Int × Int) : Ct Tryz.prog 100 [.ro 1 true ([p.1, p.2.1, p.2.2].map u8), .ro 1 true ([q.1, q.2.1, q.2.2].map u8)] (i64 (lex3 p q)) [] := by
  obtain ⟨p0, p1, p2⟩ := p
  obtain ⟨q0, q1, q2⟩ := q
  refine Ct.intro X100 X100_ok rfl (by kernel_rfl) rfl rfl fun g hg => ?_
  repeat (refine Run.go rfl ?_)
  refine Run.loop (fun j : Nat => ⟨[(0, .ro 1 true ([p0, p1, p2].map u8)), (1, .ro 1 true ([q0, q1, q2].map u8)), (9, .ro 1 true ([p0, p1, p2].map u8)), (10, i64 3), (11, i64 j)], []⟩) (fun j => j ≤ 3 ∧ (0 < j → p0 = q0) ∧ (1 < j → p1 = q1) ∧ (2 < j → p2 = q2)) (fun j => 3 - j) 0 (by omega) ?_ ?_
  · exact St.Le.mk' ⟨rfl, rfl, rfl, rfl, rfl, trivial⟩ trivial
  · rintro j ⟨hj, r0, r1, r2⟩ IH
    have hj4 : j = 0 ∨ j = 1 ∨ j = 2 ∨ j = 3 := by omega
    rcases hj4 with rfl | rfl | rfl | rfl
    · repeat (refine Run.go rfl ?_)
      refine Run.cond rfl (fun h => ?_) (fun h => by simp at h)
      repeat (refine Run.go rfl ?_)
      refine Run.val rfl rfl rfl (ValOk.idx (u8 p0) rfl rfl rfl rfl rfl (by decide) rfl) rfl ?_
      repeat (refine Run.go rfl ?_)
      refine Run.cond rfl (fun h => by simp at h) (fun h => ?_)
      repeat (refine Run.go rfl ?_)
      refine Run.val rfl rfl rfl (ValOk.idx (u8 q0) rfl rfl rfl rfl rfl (by decide) rfl) rfl ?_
      repeat (refine Run.go rfl ?_)
      refine Run.cs rfl (compareU8_ct p0 q0) rfl rfl ?_
      repeat (refine Run.go rfl ?_)
      refine Run.cond rfl (fun h => ?_) (fun h => ?_)
      · have h : cmpI p0 q0 ≠ 0 := by simpa using h
        repeat (refine Run.go rfl ?_)
        refine Run.ret hg rfl ?_
        rw [lex3, if_pos h]
        rfl
      · have e : p0 = q0 := cmpI_zero (by simpa using h)
        repeat (refine Run.go rfl ?_)
        exact Run.of (IH 1 ⟨by omega, fun _ => e, by omega, by omega⟩ (by omega)) ⟨rfl, rfl, rfl, rfl, rfl, trivial⟩ trivial
    · repeat (refine Run.go rfl ?_)
      refine Run.cond rfl (fun h => ?_) (fun h => by simp at h)
      repeat (refine Run.go rfl ?_)
      refine Run.val rfl rfl rfl (ValOk.idx (u8 p1) rfl rfl rfl rfl rfl (by decide) rfl) rfl ?_
      repeat (refine Run.go rfl ?_)
      refine Run.cond rfl (fun h => by simp at h) (fun h => ?_)
      repeat (refine Run.go rfl ?_)
      refine Run.val rfl rfl rfl (ValOk.idx (u8 q1) rfl rfl rfl rfl rfl (by decide) rfl) rfl ?_
      repeat (refine Run.go rfl ?_)
      refine Run.cs rfl (compareU8_ct p1 q1) rfl rfl ?_
      repeat (refine Run.go rfl ?_)
      refine Run.cond rfl (fun h => ?_) (fun h => ?_)
      · have h : cmpI p1 q1 ≠ 0 := by simpa using h
        repeat (refine Run.go rfl ?_)
        refine Run.ret hg rfl ?_
        rw [lex3, if_neg (by simp [r0 (by omega), cmpI_self]), if_pos h]
        rfl
      · have e : p1 = q1 := cmpI_zero (by simpa using h)
        repeat (refine Run.go rfl ?_)
        exact Run.of (IH 2 ⟨by omega, fun _ => r0 (by omega), fun _ => e, by omega⟩ (by omega)) ⟨rfl, rfl, rfl, rfl, rfl, trivial⟩ trivial
    · repeat (refine Run.go rfl ?_)
      refine Run.cond rfl (fun h => ?_) (fun h => by simp at h)
      repeat (refine Run.go rfl ?_)
      refine Run.val rfl rfl rfl (ValOk.idx (u8 p2) rfl rfl rfl rfl rfl (by decide) rfl) rfl ?_
      repeat (refine Run.go rfl ?_)
      refine Run.cond rfl (fun h => by simp at h) (fun h => ?_)
      repeat (refine Run.go rfl ?_)
      refine Run.val rfl rfl rfl (ValOk.idx (u8 q2) rfl rfl rfl rfl rfl (by decide) rfl) rfl ?_
      repeat (refine Run.go rfl ?_)
      refine Run.cs rfl (compareU8_ct p2 q2) rfl rfl ?_
      repeat (refine Run.go rfl ?_)
      refine Run.cond rfl (fun h => ?_) (fun h => ?_)
      · have h : cmpI p2 q2 ≠ 0 := by simpa using h
        repeat (refine Run.go rfl ?_)
        refine Run.ret hg rfl ?_
        rw [lex3, if_neg (by simp [r0 (by omega), cmpI_self]), if_neg (by simp [r1 (by omega), cmpI_self])]
        rfl
      · have e : p2 = q2 := cmpI_zero (by simpa using h)
        repeat (refine Run.go rfl ?_)
        exact Run.of (IH 3 ⟨by omega, fun _ => r0 (by omega), fun _ => r1 (by omega), fun _ => e⟩ (by omega)) ⟨rfl, rfl, rfl, rfl, rfl, trivial⟩ trivial
    · repeat (refine Run.go rfl ?_)
      refine Run.cond rfl (fun h => by simp at h) (fun h => ?_)
      repeat (refine Run.go rfl ?_)
      refine Run.cond rfl (fun h => by simp at h) (fun h => ?_)
      repeat (refine Run.go rfl ?_)
      refine Run.ret hg rfl ?_
      have e : lex3 (p0, p1, p2) (q0, q1, q2) = 0 := by
        rw [r0 (by omega), r1 (by omega), r2 (by omega)]
        simp [lex3, cmpI_self]
      rw [e]
      rfl

noncomputable def X82 : Fx := ⟨Tryz.prog, tys, 82, Tryz.f82, [0]⟩
theorem X82_ok : X82.Ok := ⟨Tryz.func82, tys_ok⟩
theorem field_ct (n : Int) (h : 1 ≤ n ∧ n ≤ 3) : Ct Tryz.prog 82 [i8 n] (i8 n) [] := by
  refine Ct.intro X82 X82_ok rfl rfl rfl rfl fun g hg => ?_
  repeat (refine Run.go rfl ?_)
  refine Run.ret hg rfl ?_
  show i8 (if IntKind.i8.wrap (0 - n) > n then IntKind.i8.wrap (0 - n) else n) = _
  rw [wrap_i8 (by omega) (by omega), if_neg (by omega)]

noncomputable def X81 : Fx := ⟨Tryz.prog, tys, 81, Tryz.f81, [0]⟩
theorem X81_ok : X81.Ok := ⟨Tryz.func81, tys_ok⟩
theorem compareIn0_ct (x y : Bk) : Ct Tryz.prog 81 [i8 1, bkA x, bkA y] (i64 (fc x y 0)) [] := by
  rw [fc0]
  refine Ct.intro X81 X81_ok rfl rfl rfl rfl fun g hg => ?_
  repeat (refine Run.go rfl ?_)
  refine Run.cond rfl (fun h => ?_) (fun h => by simp at h)
  repeat (refine Run.go rfl ?_)
  refine Run.cs rfl (compare16_ct x.cl y.cl) rfl rfl ?_
  repeat (refine Run.go rfl ?_)
  exact Run.ret hg rfl rfl
theorem compareIn1_ct (x y : Bk) : Ct Tryz.prog 81 [i8 2, bkA x, bkA y] (i64 (fc x y 1)) [] := by
  refine Ct.intro X81 X81_ok rfl rfl rfl rfl fun g hg => ?_
  iterate 4 (refine Run.go rfl ?_)
  refine Run.freezeBox 4 (4, 0) (bkA x).cells rfl rfl rfl rfl ?_
  refine Run.freezeBox 5 (5, 0) (bkA y).cells rfl rfl rfl rfl ?_
  repeat (refine Run.go rfl ?_)
  refine Run.cond rfl (fun h => by simp at h) (fun h => ?_)
  repeat (refine Run.go rfl ?_)
  refine Run.cond rfl (fun h => ?_) (fun h => by simp at h)
  repeat (refine Run.go rfl ?_)
  refine Run.draw (by kernel_rfl) (by decide +kernel) ?_
  repeat (refine Quiet.go rfl ?_)
  refine Quiet.val rfl rfl (ValOk.cutArr (ys := [x.a, x.b, x.c].map u8) rfl rfl rfl rfl rfl rfl rfl rfl rfl (by decide)) rfl ?_
  repeat (refine Quiet.go rfl ?_)
  refine Quiet.val rfl rfl (ValOk.cutArr (ys := [y.a, y.b, y.c].map u8) rfl rfl rfl rfl rfl rfl rfl rfl rfl (by decide)) rfl ?_
  repeat (refine Quiet.go rfl ?_)
  refine Quiet.cs rfl rfl rfl rfl rfl (compareBy3_ct (x.a, x.b, x.c) (y.a, y.b, y.c)) rfl rfl ?_
  repeat (refine Quiet.go rfl ?_)
  refine Quiet.nil ?_
  repeat (refine Run.go rfl ?_)
  exact Run.ret hg rfl rfl
theorem compareIn2_ct (x y : Bk) : Ct Tryz.prog 81 [i8 3, bkA x, bkA y] (i64 (fc x y 2)) [] := by
  rw [fc2]
  refine Ct.intro X81 X81_ok rfl rfl rfl rfl fun g hg => ?_
  repeat (refine Run.go rfl ?_)
  refine Run.cond rfl (fun h => by simp at h) (fun h => ?_)
  repeat (refine Run.go rfl ?_)
  refine Run.cond rfl (fun h => by simp at h) (fun h => ?_)
  repeat (refine Run.go rfl ?_)
  refine Run.cond rfl (fun h => ?_) (fun h => by simp at h)
  repeat (refine Run.go rfl ?_)
  refine Run.cs rfl (compare16_ct x.vol y.vol) rfl rfl ?_
  repeat (refine Run.go rfl ?_)
  exact Run.ret hg rfl rfl

theorem compareIn_ct (x y : Bk) (i : Nat) (hi : i < 3) : Ct Tryz.prog 81 [i8 ((i : Int) + 1), bkA x, bkA y] (i64 (fc x y i)) [] := by
  have : i = 0 ∨ i = 1 ∨ i = 2 := by omega
  rcases this with rfl | rfl | rfl
  · exact compareIn0_ct x y
  · exact compareIn1_ct x y
  · exact compareIn2_ct x y

def usl : List AV := [i8 1, i8 2, i8 3]
theorem usl_at {i : Nat} (h : i < 3) : usl[i]? = some (i8 ((i : Int) + 1)) := by
  have : i = 0 ∨ i = 1 ∨ i = 2 := by omega
  rcases this with rfl | rfl | rfl <;> rfl

noncomputable def X66 : Fx := ⟨Tryz.prog, tys, 66, Tryz.f66, [0]⟩
theorem X66_ok : X66.Ok := ⟨Tryz.func66, tys_ok⟩
theorem compareBy_ct (x y : Bk) (ex : Bool) : Ct Tryz.prog 66 [.ro 1 ex usl, bkA x, bkA y] (i64 (uc x y)) [] := by
  refine Ct.intro X66 X66_ok rfl rfl rfl rfl fun g hg => ?_
  repeat (refine Run.go rfl ?_)
  refine Run.loop (fun i : Nat => ⟨[(4, .bp (4, 0) 0), (5, .bp (5, 0) 0), (10, .ro 1 ex usl), (11, i64 3), (12, i64 i)], [((4, 0), .box (bkA x).cells), ((5, 0), .box (bkA y).cells)]⟩) (fun i => i ≤ 3 ∧ (0 < i → fc x y 0 = 0) ∧ (1 < i → fc x y 1 = 0) ∧ (2 < i → fc x y 2 = 0)) (fun i => 3 - i) 0 (by omega) ?_ ?_
  · exact St.Le.mk' ⟨rfl, rfl, rfl, rfl, rfl, trivial⟩ ⟨rfl, rfl, trivial⟩
  rintro i ⟨hi, r0, r1, r2⟩ IH
  repeat (refine Run.go rfl ?_)
  refine Run.cond rfl (fun h => ?_) (fun h => ?_)
  · have hlt : i < 3 := by simp at h; omega
    repeat (refine Run.go rfl ?_)
    refine Run.val rfl rfl rfl (ValOk.idx (i8 ((i : Int) + 1)) rfl rfl rfl rfl rfl (by omega) (by rw [Int.toNat_natCast]; exact usl_at hlt)) rfl ?_
    repeat (refine Run.go rfl ?_)
    refine Run.draw (by kernel_rfl) (by decide +kernel) ?_
    repeat (refine Quiet.go rfl ?_)
    refine Quiet.cs rfl rfl rfl rfl rfl (field_ct ((i : Int) + 1) (by omega)) rfl rfl ?_
    repeat (refine Quiet.go rfl ?_)
    refine Quiet.cs rfl rfl rfl rfl rfl (compareIn_ct x y i hlt) rfl rfl ?_
    repeat (refine Quiet.go rfl ?_)
    refine Quiet.nil ?_
    repeat (refine Run.go rfl ?_)
    refine Run.cond rfl (fun h => by simp at h; omega) (fun h => ?_)
    repeat (refine Run.go rfl ?_)
    refine Run.cond rfl (fun h => ?_) (fun h => ?_)
    · have h : fc x y i ≠ 0 := by simpa using h
      repeat (refine Run.go rfl ?_)
      refine Run.ret hg rfl ?_
      rw [uc_at hlt r0 r1 h]
      rfl
    · have h : fc x y i = 0 := by simpa using h
      repeat (refine Run.go rfl ?_)
      refine Run.of (IH (i + 1) ⟨by omega, fun h0 => ?_, fun h0 => ?_, fun h0 => ?_⟩ (by omega)) ⟨rfl, rfl, rfl, rfl, ?_, trivial⟩ ⟨rfl, rfl, trivial⟩
      · by_cases e : i = 0
        · rw [e] at h; exact h
        · exact r0 (by omega)
      · by_cases e : i = 1
        · rw [e] at h; exact h
        · exact r1 (by omega)
      · by_cases e : i = 2
        · rw [e] at h; exact h
        · exact r2 (by omega)
      · show i64 _ = _
        rw [wrap_i64 (by omega) (by omega)]
        rfl
  · have hi' : i = 3 := by simp at h; omega
    subst hi'
    repeat (refine Run.go rfl ?_)
    refine Run.ret hg rfl ?_
    rw [uc_end (r0 (by omega)) (r1 (by omega)) (r2 (by omega))]
    rfl

noncomputable def X67 : Fx := ⟨Tryz.prog, tys, 67, Tryz.f67, []⟩
theorem X67_ok : X67.Ok := ⟨Tryz.func67, tys_ok⟩
theorem usual_ct : Ct Tryz.prog 67 [] (.own 1 true usl) [] := by
  refine Ct.intro X67 X67_ok rfl rfl rfl rfl fun g hg => ?_
  repeat (refine Run.go rfl ?_)
  refine Run.buildSlice usl rfl rfl rfl rfl rfl rfl rfl rfl rfl rfl rfl rfl rfl rfl ?_
  repeat (refine Run.go rfl ?_)
  exact Run.ret hg rfl rfl

noncomputable def X43 : Fx := ⟨Tryz.prog, tys, 43, Tryz.f43, [0, 1]⟩
theorem X43_ok : X43.Ok := ⟨Tryz.func43, tys_ok⟩
theorem compare_ct (x y : Bk) : Ct Tryz.prog 43 [bkA x, bkA y] (i64 (uc x y)) [] := by
  refine Ct.intro X43 X43_ok rfl rfl rfl rfl fun g hg => ?_
  repeat (refine Run.go rfl ?_)
  refine Run.drawn [[0, 1, 2, 3, 4], [0, 2, 1, 3, 4], [1, 0, 2, 3, 4], [1, 2, 0, 3, 4], [2, 0, 1, 3, 4], [2, 1, 0, 3, 4]] ⟨[(4, i64 (uc x y))], []⟩ (by decide +kernel) (by kernel_rfl) ?_ fun _ hN => ⟨?_, ?_, ?_, ?_, ?_, ?_, trivial⟩
  rotate_left
  iterate 6
    · repeat (refine Run.go rfl ?_)
      refine Run.cs rfl usual_ct rfl rfl ?_
      repeat (refine Run.go rfl ?_)
      refine Run.cs rfl (compareBy_ct x y true) rfl rfl ?_
      repeat (refine Run.go rfl ?_)
      exact Run.of hN ⟨rfl, trivial⟩ trivial
  repeat (refine Run.go rfl ?_)
  exact Run.ret hg rfl rfl

def ooo (l : List Bk) (j : Nat) : Bool := decide (uc (l.getD (j + 1) bk0) (l.getD j bk0) < 0)
def srt (l : List Bk) : Bool := !((List.range (l.length - 1)).any (ooo l))
end Go.Proofs.YtcfkdcjindhnjaaGreat

/- Contracts of the program's functions, and what follows from them. -/
set_option maxRecDepth 100000
namespace Go.Proofs.YtcfkdcjindhnjaaGreat
open Go Go.Av

/-! The reference's order of books; the codes of catalogues and shelves. -/

def numA (p : Int × Int × Int) : AV := .agg [i64 p.1, i64 p.2.1, i64 p.2.2]

theorem wu8 {n : Int} (h : u8r n) : IntKind.i64.wrap n = n := wrap_i64 (by have := h.1; omega) (by have := h.2; omega)

noncomputable def X83 : Fx := ⟨Tryz.prog, tys, 83, Tryz.f83, [0]⟩
theorem X83_ok : X83.Ok := ⟨Tryz.func83, tys_ok⟩
theorem l01Field_ct (n : Int) (h : 1 ≤ n ∧ n ≤ 3) : Ct Tryz.prog 83 [i8 n] (i8 n) [] := by
  refine Ct.intro X83 X83_ok rfl rfl rfl rfl fun g hg => ?_
  repeat (refine Run.go rfl ?_)
  refine Run.cond rfl (fun h => by simp at h; omega) (fun h => ?_)
  repeat (refine Run.go rfl ?_)
  exact Run.ret hg rfl rfl

noncomputable def X84 : Fx := ⟨Tryz.prog, tys, 84, Tryz.f84, [0, 1]⟩
theorem X84_ok : X84.Ok := ⟨Tryz.func84, tys_ok⟩
theorem l01Numbers0_ct (x : Bk) (hr : bkRng x) : Ct Tryz.prog 84 [.rp (bkA x).cells 0, i8 1] (numA (nm x 0)) [] := by
  have w := w64 hr.1
  refine Ct.intro X84 X84_ok rfl rfl rfl rfl fun g hg => ?_
  repeat (refine Run.go rfl ?_)
  refine Run.cond rfl (fun h => ?_) (fun h => by simp at h)
  repeat (refine Run.go rfl ?_)
  rw [w]
  refine Run.val rfl rfl rfl (ValOk.buildArr rfl rfl rfl rfl rfl) rfl ?_
  repeat (refine Run.go rfl ?_)
  exact Run.ret hg rfl rfl
theorem l01Numbers1_ct (x : Bk) (hr : bkRng x) : Ct Tryz.prog 84 [.rp (bkA x).cells 0, i8 2] (numA (nm x 1)) [] := by
  have w1 := wu8 hr.2.1
  have w2 := wu8 hr.2.2.1
  have w3 := wu8 hr.2.2.2.1
  refine Ct.intro X84 X84_ok rfl rfl rfl rfl fun g hg => ?_
  repeat (refine Run.go rfl ?_)
  refine Run.cond rfl (fun h => by simp at h) (fun h => ?_)
  repeat (refine Run.go rfl ?_)
  refine Run.cond rfl (fun h => ?_) (fun h => by simp at h)
  repeat (refine Run.go rfl ?_)
  refine Run.drawSt rfl (by kernel_rfl) (by decide +kernel) ?_
  repeat (refine Quiet.go rfl ?_)
  rw [w1, w2, w3]
  refine Quiet.val rfl rfl (ValOk.buildArr rfl rfl rfl rfl rfl) rfl ?_
  repeat (refine Quiet.go rfl ?_)
  refine Quiet.nil ⟨_, rfl, ?_⟩
  repeat (refine Run.go rfl ?_)
  exact Run.ret (r := numA (nm x 1)) hg (by kernel_rfl) rfl
theorem l01Numbers2_ct (x : Bk) (hr : bkRng x) : Ct Tryz.prog 84 [.rp (bkA x).cells 0, i8 3] (numA (nm x 2)) [] := by
  have w := w64 hr.2.2.2.2.1
  refine Ct.intro X84 X84_ok rfl rfl rfl rfl fun g hg => ?_
  repeat (refine Run.go rfl ?_)
  refine Run.cond rfl (fun h => by simp at h) (fun h => ?_)
  repeat (refine Run.go rfl ?_)
  refine Run.cond rfl (fun h => by simp at h) (fun h => ?_)
  repeat (refine Run.go rfl ?_)
  refine Run.cond rfl (fun h => ?_) (fun h => by simp at h)
  repeat (refine Run.go rfl ?_)
  rw [w]
  refine Run.val rfl rfl rfl (ValOk.buildArr rfl rfl rfl rfl rfl) rfl ?_
  repeat (refine Run.go rfl ?_)
  exact Run.ret hg rfl rfl

theorem l01Numbers_ct (x : Bk) (i : Nat) (hi : i < 3) (hr : bkRng x) : Ct Tryz.prog 84 [.rp (bkA x).cells 0, i8 ((i : Int) + 1)] (numA (nm x i)) [] := by
  have : i = 0 ∨ i = 1 ∨ i = 2 := by omega
  rcases this with rfl | rfl | rfl
  · exact l01Numbers0_ct x hr
  · exact l01Numbers1_ct x hr
  · exact l01Numbers2_ct x hr

noncomputable def X68 : Fx := ⟨Tryz.prog, tys, 68, Tryz.f68, [0, 1, 2]⟩
theorem X68_ok : X68.Ok := ⟨Tryz.func68, tys_ok⟩
theorem l01Compare_ct (x y : Bk) (ex : Bool) (hx : bkRng x) (hy : bkRng y) : Ct Tryz.prog 68 [.ro 1 ex usl, .rp (bkA x).cells 0, .rp (bkA y).cells 0] (i64 (uc x y)) [] := by
  refine Ct.intro X68 X68_ok rfl (by kernel_rfl) rfl rfl fun g hg => ?_
  repeat (refine Run.go rfl ?_)
  refine Run.loop (fun i : Nat => ⟨[(0, .ro 1 ex usl), (1, .rp (bkA x).cells 0), (2, .rp (bkA y).cells 0), (7, i64 i)], []⟩) (fun i => i ≤ 3 ∧ (0 < i → fc x y 0 = 0) ∧ (1 < i → fc x y 1 = 0) ∧ (2 < i → fc x y 2 = 0)) (fun i => 3 - i) 0 (by omega) ?_ ?_
  · exact St.Le.mk' ⟨rfl, rfl, rfl, rfl, trivial⟩ trivial
  rintro i ⟨hi, r0, r1, r2⟩ IH
  repeat (refine Run.go rfl ?_)
  refine Run.cond rfl (fun h => ?_) (fun h => ?_)
  · have h : (i : Int) < 3 := of_decide_eq_true h
    have hlt : i < 3 := by omega
    have hX := l01Numbers_ct x i hlt hx
    have hY := l01Numbers_ct y i hlt hy
    have hfc : fc x y i = lex3 (nm x i) (nm y i) := rfl
    generalize nm x i = p at hX hfc
    generalize nm y i = q at hY hfc
    obtain ⟨p0, p1, p2⟩ := p
    obtain ⟨q0, q1, q2⟩ := q
    repeat (refine Run.go rfl ?_)
    refine Run.val rfl rfl rfl (ValOk.idx (i8 ((i : Int) + 1)) rfl rfl rfl rfl rfl (by omega) (by rw [Int.toNat_natCast]; exact usl_at hlt)) rfl ?_
    repeat (refine Run.go rfl ?_)
    refine Run.cs rfl (l01Field_ct ((i : Int) + 1) (by omega)) rfl rfl ?_
    repeat (refine Run.go rfl ?_)
    refine Run.cs rfl hX rfl rfl ?_
    repeat (refine Run.go rfl ?_)
    refine Run.cs rfl hY rfl rfl ?_
    repeat (refine Run.go rfl ?_)
    refine Run.loop (fun k : Nat => ⟨[(0, .ro 1 ex usl), (1, .rp (bkA x).cells 0), (2, .rp (bkA y).cells 0), (7, i64 i), (9, .bp (9, 0) 0), (10, .bp (10, 0) 0), (11, i64 k)], [((9, 0), .box [i64 p0, i64 p1, i64 p2]), ((10, 0), .box [i64 q0, i64 q1, i64 q2])]⟩) (fun k => k ≤ 3 ∧ (0 < k → p0 = q0) ∧ (1 < k → p1 = q1) ∧ (2 < k → p2 = q2)) (fun k => 3 - k) 0 (by omega) ?_ ?_
    · exact St.Le.mk' ⟨rfl, rfl, rfl, rfl, rfl, rfl, rfl, trivial⟩ ⟨rfl, rfl, trivial⟩
    rintro k ⟨hk, s0, s1, s2⟩ IH2
    have hk4 : k = 0 ∨ k = 1 ∨ k = 2 ∨ k = 3 := by omega
    have hpos : decide ((0 : Int) < (i : Int) + 1) = true := decide_eq_true (by omega)
    rcases hk4 with rfl | rfl | rfl | rfl
    · repeat (refine Run.go rfl ?_)
      refine Run.cond rfl (fun h => ?_) (fun h => by simp at h)
      repeat (refine Run.go rfl ?_)
      refine Run.draw (by kernel_rfl) (by decide +kernel) ?_
      repeat (refine Quiet.go rfl ?_)
      refine Quiet.nil ?_
      repeat (refine Run.go rfl ?_)
      refine Run.cond rfl (fun h => ?_) (fun h => ?_)
      · have e : p0 = q0 := by simpa using h
        repeat (refine Run.go rfl ?_)
        exact Run.of (IH2 1 ⟨by omega, fun _ => e, by omega, by omega⟩ (by omega)) ⟨rfl, rfl, rfl, rfl, rfl, rfl, rfl, trivial⟩ ⟨rfl, rfl, trivial⟩
      · have hne : p0 ≠ q0 := by simpa using h
        have hl : fc x y i = cmpI p0 q0 := by
          rw [hfc]
          rw [lex3, if_pos (cmpI_ne hne)]
        have hu : uc x y = cmpI p0 q0 := by
          rw [← hl]
          exact uc_at hlt r0 r1 (by rw [hl]; exact cmpI_ne hne)
        repeat (refine Run.go rfl ?_)
        refine Run.draw (by kernel_rfl) (by decide +kernel) ?_
        repeat (refine Quiet.go rfl ?_)
        refine Quiet.val rfl rfl (ValOk.idx (i8 ((i : Int) + 1)) rfl rfl rfl rfl rfl (by omega) (by rw [Int.toNat_natCast]; exact usl_at hlt)) rfl ?_
        repeat (refine Quiet.go rfl ?_)
        refine Quiet.nil ?_
        repeat (refine Run.go rfl ?_)
        refine Run.cond rfl (fun h => ?_) (fun h => ?_)
        · have h : (decide (p0 < q0) == decide ((0 : Int) < (i : Int) + 1)) = true := h
          rw [hpos] at h
          have h : p0 < q0 := by simpa using h
          repeat (refine Run.go rfl ?_)
          refine Run.ret hg rfl ?_
          rw [hu, cmpI_lt h]
          rfl
        · have h : (decide (p0 < q0) == decide ((0 : Int) < (i : Int) + 1)) = false := h
          rw [hpos] at h
          have h : ¬ p0 < q0 := by simpa using h
          repeat (refine Run.go rfl ?_)
          refine Run.ret hg rfl ?_
          rw [hu, cmpI_gt hne h]
          rfl
    · repeat (refine Run.go rfl ?_)
      refine Run.cond rfl (fun h => ?_) (fun h => by simp at h)
      repeat (refine Run.go rfl ?_)
      refine Run.draw (by kernel_rfl) (by decide +kernel) ?_
      repeat (refine Quiet.go rfl ?_)
      refine Quiet.nil ?_
      repeat (refine Run.go rfl ?_)
      refine Run.cond rfl (fun h => ?_) (fun h => ?_)
      · have e : p1 = q1 := by simpa using h
        repeat (refine Run.go rfl ?_)
        exact Run.of (IH2 2 ⟨by omega, fun _ => s0 (by omega), fun _ => e, by omega⟩ (by omega)) ⟨rfl, rfl, rfl, rfl, rfl, rfl, rfl, trivial⟩ ⟨rfl, rfl, trivial⟩
      · have hne : p1 ≠ q1 := by simpa using h
        have hl : fc x y i = cmpI p1 q1 := by
          rw [hfc]
          rw [lex3, if_neg (by simp [s0 (by omega), cmpI_self]), if_pos (cmpI_ne hne)]
        have hu : uc x y = cmpI p1 q1 := by
          rw [← hl]
          exact uc_at hlt r0 r1 (by rw [hl]; exact cmpI_ne hne)
        repeat (refine Run.go rfl ?_)
        refine Run.draw (by kernel_rfl) (by decide +kernel) ?_
        repeat (refine Quiet.go rfl ?_)
        refine Quiet.val rfl rfl (ValOk.idx (i8 ((i : Int) + 1)) rfl rfl rfl rfl rfl (by omega) (by rw [Int.toNat_natCast]; exact usl_at hlt)) rfl ?_
        repeat (refine Quiet.go rfl ?_)
        refine Quiet.nil ?_
        repeat (refine Run.go rfl ?_)
        refine Run.cond rfl (fun h => ?_) (fun h => ?_)
        · have h : (decide (p1 < q1) == decide ((0 : Int) < (i : Int) + 1)) = true := h
          rw [hpos] at h
          have h : p1 < q1 := by simpa using h
          repeat (refine Run.go rfl ?_)
          refine Run.ret hg rfl ?_
          rw [hu, cmpI_lt h]
          rfl
        · have h : (decide (p1 < q1) == decide ((0 : Int) < (i : Int) + 1)) = false := h
          rw [hpos] at h
          have h : ¬ p1 < q1 := by simpa using h
          repeat (refine Run.go rfl ?_)
          refine Run.ret hg rfl ?_
          rw [hu, cmpI_gt hne h]
          rfl
    · repeat (refine Run.go rfl ?_)
      refine Run.cond rfl (fun h => ?_) (fun h => by simp at h)
      repeat (refine Run.go rfl ?_)
      refine Run.draw (by kernel_rfl) (by decide +kernel) ?_
      repeat (refine Quiet.go rfl ?_)
      refine Quiet.nil ?_
      repeat (refine Run.go rfl ?_)
      refine Run.cond rfl (fun h => ?_) (fun h => ?_)
      · have e : p2 = q2 := by simpa using h
        repeat (refine Run.go rfl ?_)
        exact Run.of (IH2 3 ⟨by omega, fun _ => s0 (by omega), fun _ => s1 (by omega), fun _ => e⟩ (by omega)) ⟨rfl, rfl, rfl, rfl, rfl, rfl, rfl, trivial⟩ ⟨rfl, rfl, trivial⟩
      · have hne : p2 ≠ q2 := by simpa using h
        have hl : fc x y i = cmpI p2 q2 := by
          rw [hfc]
          rw [lex3, if_neg (by simp [s0 (by omega), cmpI_self]), if_neg (by simp [s1 (by omega), cmpI_self])]
        have hu : uc x y = cmpI p2 q2 := by
          rw [← hl]
          exact uc_at hlt r0 r1 (by rw [hl]; exact cmpI_ne hne)
        repeat (refine Run.go rfl ?_)
        refine Run.draw (by kernel_rfl) (by decide +kernel) ?_
        repeat (refine Quiet.go rfl ?_)
        refine Quiet.val rfl rfl (ValOk.idx (i8 ((i : Int) + 1)) rfl rfl rfl rfl rfl (by omega) (by rw [Int.toNat_natCast]; exact usl_at hlt)) rfl ?_
        repeat (refine Quiet.go rfl ?_)
        refine Quiet.nil ?_
        repeat (refine Run.go rfl ?_)
        refine Run.cond rfl (fun h => ?_) (fun h => ?_)
        · have h : (decide (p2 < q2) == decide ((0 : Int) < (i : Int) + 1)) = true := h
          rw [hpos] at h
          have h : p2 < q2 := by simpa using h
          repeat (refine Run.go rfl ?_)
          refine Run.ret hg rfl ?_
          rw [hu, cmpI_lt h]
          rfl
        · have h : (decide (p2 < q2) == decide ((0 : Int) < (i : Int) + 1)) = false := h
          rw [hpos] at h
          have h : ¬ p2 < q2 := by simpa using h
          repeat (refine Run.go rfl ?_)
          refine Run.ret hg rfl ?_
          rw [hu, cmpI_gt hne h]
          rfl
    · have hz : fc x y i = 0 := by
        rw [hfc, s0 (by omega), s1 (by omega), s2 (by omega)]
        simp [lex3, cmpI_self]
      repeat (refine Run.go rfl ?_)
      refine Run.cond rfl (fun h => by simp at h) (fun h => ?_)
      repeat (refine Run.go rfl ?_)
      refine Run.of (IH (i + 1) ⟨by omega, fun h0 => ?_, fun h0 => ?_, fun h0 => ?_⟩ (by omega)) ⟨rfl, rfl, rfl, ?_, trivial⟩ trivial
      · by_cases e : i = 0
        · rw [e] at hz; exact hz
        · exact r0 (by omega)
      · by_cases e : i = 1
        · rw [e] at hz; exact hz
        · exact r1 (by omega)
      · by_cases e : i = 2
        · rw [e] at hz; exact hz
        · exact r2 (by omega)
      · show i64 _ = _
        rw [wrap_i64 (by omega) (by omega)]
        rfl
  · have h : ¬ (i : Int) < 3 := of_decide_eq_false h
    have hi' : i = 3 := by omega
    subst hi'
    repeat (refine Run.go rfl ?_)
    refine Run.ret hg rfl ?_
    rw [uc_end (r0 (by omega)) (r1 (by omega)) (r2 (by omega))]
    rfl

noncomputable def X44 : Fx := ⟨Tryz.prog, tys, 44, Tryz.f44, [0, 1]⟩
theorem X44_ok : X44.Ok := ⟨Tryz.func44, tys_ok⟩
theorem l01Usual_ct (x y : Bk) (hx : bkRng x) (hy : bkRng y) : Ct Tryz.prog 44 [.rp (bkA x).cells 0, .rp (bkA y).cells 0] (i64 (uc x y)) [] := by
  refine Ct.intro X44 X44_ok rfl rfl rfl rfl fun g hg => ?_
  repeat (refine Run.go rfl ?_)
  refine Run.buildSlice usl rfl rfl rfl rfl rfl rfl rfl rfl rfl rfl rfl rfl rfl rfl ?_
  repeat (refine Run.go rfl ?_)
  refine Run.cs rfl (l01Compare_ct x y true hx hy) rfl rfl ?_
  repeat (refine Run.go rfl ?_)
  exact Run.ret hg rfl rfl

def stCode (a b : List Bk) : Int := if vBs a && vBs b then (if srt a then 0 else 4) else 1

end Go.Proofs.YtcfkdcjindhnjaaGreat

/- Contracts of the program's functions, and what follows from them. -/
set_option maxRecDepth 100000
namespace Go.Proofs.YtcfkdcjindhnjaaGreat
open Go Go.Av

/-! Books as keys; which books one list has more often than another one. -/

def moreP (l o : List Bk) (j : Nat) : Bool := decide (o.count (l.getD j bk0) ≤ (l.take j).count (l.getD j bk0))
def more (l o : List Bk) : Nat → List Bk
  | 0 => []
  | j + 1 => more l o j ++ (if moreP l o j then [l.getD j bk0] else [])
/-! The number at a key. -/

end Go.Proofs.YtcfkdcjindhnjaaGreat

/- Contracts of the program's functions, and what follows from them. -/
set_option maxRecDepth 100000
namespace Go.Proofs.YtcfkdcjindhnjaaGreat
open Go Go.Av

/-! What one list has more often, by a map of numbers. -/

end Go.Proofs.YtcfkdcjindhnjaaGreat

/- Contracts of the program's functions, and what follows from them. -/
set_option maxRecDepth 100000
namespace Go.Proofs.YtcfkdcjindhnjaaGreat
open Go Go.Av

/-! The same stock; missing and foreign books. -/

def sameP (a b : List Bk) : Bool := decide (a.length = b.length) && decide (more a b a.length = [])
end Go.Proofs.YtcfkdcjindhnjaaGreat

/- Contracts of the program's functions, and what follows from them. -/
set_option maxRecDepth 100000
namespace Go.Proofs.YtcfkdcjindhnjaaGreat
open Go Go.Av

/-! Lists of books: marked, held. -/

end Go.Proofs.YtcfkdcjindhnjaaGreat
