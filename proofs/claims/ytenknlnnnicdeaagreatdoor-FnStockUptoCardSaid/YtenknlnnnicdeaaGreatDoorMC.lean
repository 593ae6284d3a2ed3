/- Parts of a proof, in one text: B1, B2, BRd, B4, B5, B6, B7, B8, B9. -/
import Derived.Test.YtenknlnnnicdeaaGreatDoorMD
import Derived.Test.YtenknlnnnicdeaaGreatDoorMF
import Derived.Test.YtenknlnnnicdeaaGreatDoorAvRow
set_option linter.unusedVariables false

/- Contracts of the program's functions, and what follows from them. -/
set_option maxRecDepth 100000
namespace Go.Proofs.YtenknlnnnicdeaaGreatDoor
open Go Go.Av

/-! Books: copied, measured, compared. -/

structure Bk where
  cl : Int
  a : Int
  b : Int
  c : Int
  vol : Int
  wd : Int
  hi : Int
  wt : Int
  deriving DecidableEq

def bkV (x : Bk) : List Value := [.int .i16 x.cl, .int .u8 x.a, .int .u8 x.b, .int .u8 x.c, .int .i16 x.vol, .int .i16 x.wd, .int .i16 x.hi, .int .i16 x.wt]
def bkA (x : Bk) : AV := .agg [i16 x.cl, u8 x.a, u8 x.b, u8 x.c, i16 x.vol, i16 x.wd, i16 x.hi, i16 x.wt]
def bk0 : Bk := ⟨0, 0, 0, 0, 0, 0, 0, 0⟩
theorem bk_rf (x : Bk) : (bkA x).rf = true := rfl
theorem bk_frz (x : Bk) : (bkA x).frz = bkA x := rfl
theorem frzB (l : List Bk) : AV.frzL (l.map bkA) = l.map bkA := frzL_map bk_frz l
theorem rfB (l : List Bk) : AV.rfL (l.map bkA) = true := rfL_map bk_rf l
end Go.Proofs.YtenknlnnnicdeaaGreatDoor

/- Contracts of the program's functions, and what follows from them. -/
set_option maxRecDepth 100000
namespace Go.Proofs.YtenknlnnnicdeaaGreatDoor
open Go Go.Av

/-! Which books are valid. -/

noncomputable def X163 : Fx := ⟨Tryz.prog, tys, 163, Tryz.f163, [0, 1]⟩
theorem X163_ok : X163.Ok := ⟨Tryz.func163, tys_ok⟩
theorem indexBy_ct (l : List Int) (ex : Bool) (f : Nat) (caps : List AV) (p : Int → Bool) (hlen : l.length ≤ 1048576) (hc : AV.freeL caps = true)
    (hf : ∀ x ∈ l, Ct Tryz.prog f ([u8 x] ++ caps) (bo (p x)) []) : Ct Tryz.prog 163 [.ro 1 ex (l.map u8), .fn f caps] (i64 (fi p l)) [] := by
  refine Ct.intro X163 X163_ok rfl (by kernel_rfl) rfl rfl fun g hg => ?_
  repeat (refine Run.step rfl ?_)
  refine Run.loop (fun j : Nat => ⟨[(0, .ro 1 ex (l.map u8)), (1, .fn f caps), (7, i64 l.length), (8, i64 j)], []⟩) (fun j => j ≤ l.length ∧ j ≤ l.findIdx p) (fun j => l.length - j) 0 ⟨by omega, by omega⟩ ?_ ?_
  · refine St.Le.mk' ⟨rfl, rfl, ?_, rfl, trivial⟩ trivial
    show i64 _ = _
    simp
  · rintro j ⟨hj1, hj2⟩ IH
    repeat (refine Run.step rfl ?_)
    refine Run.cond rfl (fun h => ?_) (fun h => ?_)
    · have hlt : j < l.length := by simpa using h
      repeat (refine Run.step rfl ?_)
      refine Run.val rfl rfl rfl (ValOk.idx (u8 l[j]) rfl rfl rfl rfl rfl (by omega) (by simp [hlt])) rfl ?_
      repeat (refine Run.step rfl ?_)
      refine Run.callp rfl rfl rfl rfl rfl rfl rfl hc rfl (hf l[j] (by simp)) (by decide) (by decide) ?_
      repeat (refine Run.step rfl ?_)
      refine Run.cond rfl (fun h => ?_) (fun h => ?_)
      · repeat (refine Run.step rfl ?_)
        refine Run.ret hg rfl ?_
        show i64 _ = _
        rw [fi_at hlt h hj2]
      · repeat (refine Run.step rfl ?_)
        refine Run.of (IH (j + 1) ⟨by omega, fi_next hlt h hj2⟩ (by omega)) ⟨rfl, rfl, rfl, ?_, trivial⟩ trivial
        show i64 _ = _
        rw [wrap_i64 (by omega) (by omega)]
        rfl
    · repeat (refine Run.step rfl ?_)
      have hj : j = l.length := by simp at h; omega
      refine Run.ret hg rfl ?_
      show i64 (-1) = _
      rw [fi_none (by omega)]

noncomputable def X147 : Fx := ⟨Tryz.prog, tys, 147, Tryz.f147, [0, 1]⟩
theorem X147_ok : X147.Ok := ⟨Tryz.func147, tys_ok⟩
theorem containsBy_ct (l : List Int) (ex : Bool) (f : Nat) (caps : List AV) (p : Int → Bool) (hlen : l.length ≤ 1048576) (hc : AV.freeL caps = true)
    (hf : ∀ x ∈ l, Ct Tryz.prog f ([u8 x] ++ caps) (bo (p x)) []) : Ct Tryz.prog 147 [.ro 1 ex (l.map u8), .fn f caps] (bo (l.any p)) [] := by
  refine Ct.intro X147 X147_ok rfl (by kernel_rfl) rfl rfl fun g hg => ?_
  repeat (refine Run.go rfl ?_)
  refine Run.callp rfl rfl rfl rfl rfl rfl (by simp [AV.freeL, AV.free, hc]) rfl rfl (indexBy_ct l ex f caps p hlen hc hf) (by decide) (by decide) ?_
  repeat (refine Run.go rfl ?_)
  refine Run.ret hg rfl ?_
  show bo _ = _
  rw [← fi_nonneg]

noncomputable def X148 : Fx := ⟨Tryz.prog, tys, 148, Tryz.f148, [0, 1]⟩
theorem X148_ok : X148.Ok := ⟨Tryz.func148, tys_ok⟩
theorem areAllBy10_ct (c : Int) (f : Nat) (p : Bool) (hf : Ct Tryz.prog f [u8 c] (bo p) []) : Ct Tryz.prog 148 [u8 c, .rp [.fn f []] 0] (bo (!p)) [] := by
  refine Ct.intro X148 X148_ok rfl (by kernel_rfl) rfl rfl fun g hg => ?_
  repeat (refine Run.go rfl ?_)
  refine Run.cs rfl hf rfl rfl ?_
  repeat (refine Run.go rfl ?_)
  exact Run.ret hg rfl rfl

noncomputable def X121 : Fx := ⟨Tryz.prog, tys, 121, Tryz.f121, [0, 1]⟩
theorem X121_ok : X121.Ok := ⟨Tryz.func121, tys_ok⟩
theorem areAllBy0_ct (l : List Int) (ex : Bool) (f : Nat) (p : Int → Bool) (hlen : l.length ≤ 1048576) (hf : ∀ x ∈ l, Ct Tryz.prog f [u8 x] (bo (p x)) []) :
    Ct Tryz.prog 121 [.ro 1 ex (l.map u8), .fn f []] (bo (l.all p)) [] := by
  refine Ct.intro X121 X121_ok rfl (by kernel_rfl) rfl rfl fun g hg => ?_
  repeat (refine Run.go rfl ?_)
  refine Run.cs rfl (containsBy_ct l ex 148 [.rp [.fn f []] 0] (fun x => !p x) hlen rfl (fun x hx => areAllBy10_ct x f (p x) (hf x hx))) rfl rfl ?_
  repeat (refine Run.go rfl ?_)
  refine Run.ret hg rfl ?_
  show bo (!l.any fun x => !p x) = _
  congr 2
  simp [List.all_eq_not_any_not]

noncomputable def X130 : Fx := ⟨Tryz.prog, tys, 130, Tryz.f130, [0, 1]⟩
theorem X130_ok : X130.Ok := ⟨Tryz.func130, tys_ok⟩
theorem indexW_ct (l : List Int) (ex : Bool) (f : Nat) (caps : List AV) (p : Int → Bool) (hlen : l.length ≤ 1048576) (hc : AV.freeL caps = true)
    (hf : ∀ x ∈ l, Ct Tryz.prog f ([i64 x] ++ caps) (bo (p x)) []) : Ct Tryz.prog 130 [.ro 1 ex (l.map i64), .fn f caps] (i64 (fi p l)) [] := by
  refine Ct.intro X130 X130_ok rfl (by kernel_rfl) rfl rfl fun g hg => ?_
  repeat (refine Run.step rfl ?_)
  refine Run.loop (fun j : Nat => ⟨[(0, .ro 1 ex (l.map i64)), (1, .fn f caps), (7, i64 l.length), (8, i64 j)], []⟩) (fun j => j ≤ l.length ∧ j ≤ l.findIdx p) (fun j => l.length - j) 0 ⟨by omega, by omega⟩ ?_ ?_
  · refine St.Le.mk' ⟨rfl, rfl, ?_, rfl, trivial⟩ trivial
    show i64 _ = _
    simp
  · rintro j ⟨hj1, hj2⟩ IH
    repeat (refine Run.step rfl ?_)
    refine Run.cond rfl (fun h => ?_) (fun h => ?_)
    · have hlt : j < l.length := by simpa using h
      repeat (refine Run.step rfl ?_)
      refine Run.val rfl rfl rfl (ValOk.idx (i64 l[j]) rfl rfl rfl rfl rfl (by omega) (by simp [hlt])) rfl ?_
      repeat (refine Run.step rfl ?_)
      refine Run.callp rfl rfl rfl rfl rfl rfl rfl hc rfl (hf l[j] (by simp)) (by decide) (by decide) ?_
      repeat (refine Run.step rfl ?_)
      refine Run.cond rfl (fun h => ?_) (fun h => ?_)
      · repeat (refine Run.step rfl ?_)
        refine Run.ret hg rfl ?_
        show i64 _ = _
        rw [fi_at hlt h hj2]
      · repeat (refine Run.step rfl ?_)
        refine Run.of (IH (j + 1) ⟨by omega, fi_next hlt h hj2⟩ (by omega)) ⟨rfl, rfl, rfl, ?_, trivial⟩ trivial
        show i64 _ = _
        rw [wrap_i64 (by omega) (by omega)]
        rfl
    · repeat (refine Run.step rfl ?_)
      have hj : j = l.length := by simp at h; omega
      refine Run.ret hg rfl ?_
      show i64 (-1) = _
      rw [fi_none (by omega)]

noncomputable def X96 : Fx := ⟨Tryz.prog, tys, 96, Tryz.f96, [0, 1]⟩
theorem X96_ok : X96.Ok := ⟨Tryz.func96, tys_ok⟩
theorem containsW_ct (l : List Int) (ex : Bool) (f : Nat) (caps : List AV) (p : Int → Bool) (hlen : l.length ≤ 1048576) (hc : AV.freeL caps = true)
    (hf : ∀ x ∈ l, Ct Tryz.prog f ([i64 x] ++ caps) (bo (p x)) []) : Ct Tryz.prog 96 [.ro 1 ex (l.map i64), .fn f caps] (bo (l.any p)) [] := by
  refine Ct.intro X96 X96_ok rfl (by kernel_rfl) rfl rfl fun g hg => ?_
  repeat (refine Run.go rfl ?_)
  refine Run.callp rfl rfl rfl rfl rfl rfl (by simp [AV.freeL, AV.free, hc]) rfl rfl (indexW_ct l ex f caps p hlen hc hf) (by decide) (by decide) ?_
  repeat (refine Run.go rfl ?_)
  refine Run.ret hg rfl ?_
  show bo _ = _
  rw [← fi_nonneg]

noncomputable def X97 : Fx := ⟨Tryz.prog, tys, 97, Tryz.f97, [0, 1]⟩
theorem X97_ok : X97.Ok := ⟨Tryz.func97, tys_ok⟩
noncomputable def X49 : Fx := ⟨Tryz.prog, tys, 49, Tryz.f49, [0, 1]⟩
theorem X49_ok : X49.Ok := ⟨Tryz.func49, tys_ok⟩
theorem areAllW1_ct (c : Int) (f : Nat) (cs : List AV) (jj : Nat) (p : Bool) (hf : Ct Tryz.prog f [i64 c, .rp cs jj] (bo p) []) : Ct Tryz.prog 97 [i64 c, .rp [.fn f [.rp cs jj]] 0] (bo (!p)) [] := by
  refine Ct.intro X97 X97_ok rfl (by kernel_rfl) rfl rfl fun g hg => ?_
  repeat (refine Run.go rfl ?_)
  refine Run.cs rfl hf rfl rfl ?_
  repeat (refine Run.go rfl ?_)
  exact Run.ret hg rfl rfl

theorem areAllW_ct (l : List Int) (ex : Bool) (f : Nat) (cs : List AV) (jj : Nat) (p : Int → Bool) (hlen : l.length ≤ 1048576) (hf : ∀ x ∈ l, Ct Tryz.prog f [i64 x, .rp cs jj] (bo (p x)) []) :
    Ct Tryz.prog 49 [.ro 1 ex (l.map i64), .fn f [.rp cs jj]] (bo (l.all p)) [] := by
  refine Ct.intro X49 X49_ok rfl (by kernel_rfl) rfl rfl fun g hg => ?_
  repeat (refine Run.go rfl ?_)
  refine Run.cs rfl (containsW_ct l ex 97 [.rp [.fn f [.rp cs jj]] 0] (fun x => !p x) hlen rfl (fun x hx => areAllW1_ct x f cs jj (p x) (hf x hx))) rfl rfl ?_
  repeat (refine Run.go rfl ?_)
  refine Run.ret hg rfl ?_
  show bo (!l.any fun x => !p x) = _
  congr 2
  simp [List.all_eq_not_any_not]

noncomputable def X146 : Fx := ⟨Tryz.prog, tys, 146, Tryz.f146, [0, 1]⟩
theorem X146_ok : X146.Ok := ⟨Tryz.func146, tys_ok⟩
theorem indexB_ct (l : List Bk) (ex : Bool) (f : Nat) (caps : List AV) (p : Bk → Bool) (hlen : l.length ≤ 1048576) (hc : AV.freeL caps = true)
    (hf : ∀ x ∈ l, Ct Tryz.prog f ([bkA x] ++ caps) (bo (p x)) []) : Ct Tryz.prog 146 [.ro 8 ex (l.map bkA), .fn f caps] (i64 (fi p l)) [] := by
  refine Ct.intro X146 X146_ok rfl (by kernel_rfl) rfl rfl fun g hg => ?_
  repeat (refine Run.step rfl ?_)
  refine Run.loop (fun j : Nat => ⟨[(0, .ro 8 ex (l.map bkA)), (1, .fn f caps), (7, i64 l.length), (8, i64 j)], []⟩) (fun j => j ≤ l.length ∧ j ≤ l.findIdx p) (fun j => l.length - j) 0 ⟨by omega, by omega⟩ ?_ ?_
  · refine St.Le.mk' ⟨rfl, rfl, ?_, rfl, trivial⟩ trivial
    show i64 _ = _
    simp
  · rintro j ⟨hj1, hj2⟩ IH
    repeat (refine Run.step rfl ?_)
    refine Run.cond rfl (fun h => ?_) (fun h => ?_)
    · have hlt : j < l.length := by simpa using h
      repeat (refine Run.step rfl ?_)
      refine Run.val rfl rfl rfl (ValOk.idx (bkA l[j]) rfl rfl rfl rfl rfl (by omega) (by simp [hlt])) rfl ?_
      repeat (refine Run.step rfl ?_)
      refine Run.callp rfl rfl rfl rfl rfl rfl rfl hc rfl (hf l[j] (by simp)) (by decide) (by decide) ?_
      repeat (refine Run.step rfl ?_)
      refine Run.cond rfl (fun h => ?_) (fun h => ?_)
      · repeat (refine Run.step rfl ?_)
        refine Run.ret hg rfl ?_
        show i64 _ = _
        rw [fi_at hlt h hj2]
      · repeat (refine Run.step rfl ?_)
        refine Run.of (IH (j + 1) ⟨by omega, fi_next hlt h hj2⟩ (by omega)) ⟨rfl, rfl, rfl, ?_, trivial⟩ trivial
        show i64 _ = _
        rw [wrap_i64 (by omega) (by omega)]
        rfl
    · repeat (refine Run.step rfl ?_)
      have hj : j = l.length := by simp at h; omega
      refine Run.ret hg rfl ?_
      show i64 (-1) = _
      rw [fi_none (by omega)]

noncomputable def X119 : Fx := ⟨Tryz.prog, tys, 119, Tryz.f119, [0, 1]⟩
theorem X119_ok : X119.Ok := ⟨Tryz.func119, tys_ok⟩
theorem containsB_ct (l : List Bk) (ex : Bool) (f : Nat) (caps : List AV) (p : Bk → Bool) (hlen : l.length ≤ 1048576) (hc : AV.freeL caps = true)
    (hf : ∀ x ∈ l, Ct Tryz.prog f ([bkA x] ++ caps) (bo (p x)) []) : Ct Tryz.prog 119 [.ro 8 ex (l.map bkA), .fn f caps] (bo (l.any p)) [] := by
  refine Ct.intro X119 X119_ok rfl (by kernel_rfl) rfl rfl fun g hg => ?_
  repeat (refine Run.go rfl ?_)
  refine Run.callp rfl rfl rfl rfl rfl rfl (by simp [AV.freeL, AV.free, hc]) rfl rfl (indexB_ct l ex f caps p hlen hc hf) (by decide) (by decide) ?_
  repeat (refine Run.go rfl ?_)
  refine Run.ret hg rfl ?_
  show bo _ = _
  rw [← fi_nonneg]

noncomputable def X120 : Fx := ⟨Tryz.prog, tys, 120, Tryz.f120, [0, 1]⟩
theorem X120_ok : X120.Ok := ⟨Tryz.func120, tys_ok⟩
theorem areAllB10_ct (c : Bk) (f : Nat) (p : Bool) (hf : Ct Tryz.prog f [bkA c] (bo p) []) : Ct Tryz.prog 120 [bkA c, .rp [.fn f []] 0] (bo (!p)) [] := by
  refine Ct.intro X120 X120_ok rfl (by kernel_rfl) rfl rfl fun g hg => ?_
  repeat (refine Run.go rfl ?_)
  refine Run.cs rfl hf rfl rfl ?_
  repeat (refine Run.go rfl ?_)
  exact Run.ret hg rfl rfl

noncomputable def X86 : Fx := ⟨Tryz.prog, tys, 86, Tryz.f86, [0, 1]⟩
theorem X86_ok : X86.Ok := ⟨Tryz.func86, tys_ok⟩
theorem areAllB0_ct (l : List Bk) (ex : Bool) (f : Nat) (p : Bk → Bool) (hlen : l.length ≤ 1048576) (hf : ∀ x ∈ l, Ct Tryz.prog f [bkA x] (bo (p x)) []) :
    Ct Tryz.prog 86 [.ro 8 ex (l.map bkA), .fn f []] (bo (l.all p)) [] := by
  refine Ct.intro X86 X86_ok rfl (by kernel_rfl) rfl rfl fun g hg => ?_
  repeat (refine Run.go rfl ?_)
  refine Run.cs rfl (containsB_ct l ex 120 [.rp [.fn f []] 0] (fun x => !p x) hlen rfl (fun x hx => areAllB10_ct x f (p x) (hf x hx))) rfl rfl ?_
  repeat (refine Run.go rfl ?_)
  refine Run.ret hg rfl ?_
  show bo (!l.any fun x => !p x) = _
  congr 2
  simp [List.all_eq_not_any_not]

def u8r (n : Int) : Prop := 0 ≤ n ∧ n ≤ 255
def bkRng (x : Bk) : Prop := i16r x.cl ∧ u8r x.a ∧ u8r x.b ∧ u8r x.c ∧ i16r x.vol ∧ i16r x.wd ∧ i16r x.hi ∧ i16r x.wt
def sm (n : Int) : Bool := decide (97 ≤ n) && decide (n ≤ 122)
def vB (x : Bk) : Bool := inr x.cl 0 999 && (sm x.a && (sm x.b && sm x.c)) && inr x.vol 1 99 && inr x.wd 1 100 && inr x.hi 50 400 && inr x.wt 1 9999
def vBs (l : List Bk) : Bool := decide (l.length ≤ 60) && l.all vB

noncomputable def X122 : Fx := ⟨Tryz.prog, tys, 122, Tryz.f122, [0]⟩
theorem X122_ok : X122.Ok := ⟨Tryz.func122, tys_ok⟩
theorem isSmall_ct (n : Int) : Ct Tryz.prog 122 [u8 n] (bo (sm n)) [] := by
  refine Ct.intro X122 X122_ok rfl rfl rfl rfl fun g hg => ?_
  repeat (refine Run.go rfl ?_)
  refine Run.bool 5 rfl (fun h => ?_) (fun h => ?_)
  · repeat (refine Run.go rfl ?_)
    refine Run.ret hg rfl ?_
    show bo _ = _
    simp at h
    simp [sm, h]
  · repeat (refine Run.go rfl ?_)
    refine Run.ret hg rfl ?_
    show bo _ = _
    simp at h
    simp [sm]
    omega

noncomputable def X87 : Fx := ⟨Tryz.prog, tys, 87, Tryz.f87, [0]⟩
theorem X87_ok : X87.Ok := ⟨Tryz.func87, tys_ok⟩
theorem validBook_ct (x : Bk) : Ct Tryz.prog 87 [bkA x] (bo (vB x)) [] := by
  refine Ct.intro X87 X87_ok rfl rfl rfl rfl fun g hg => ?_
  iterate 3 (refine Run.go rfl ?_)
  refine Run.freezeBox 1 (1, 0) (bkA x).cells rfl rfl rfl rfl ?_
  repeat (refine Run.go rfl ?_)
  refine Run.cs rfl (within16_ct x.cl 0 999) rfl rfl ?_
  repeat (refine Run.go rfl ?_)
  refine Run.bool 6 rfl (fun h1 => ?_) (fun h1 => ?_)
  · have h1 : inr x.cl 0 999 = true := h1
    repeat (refine Run.go rfl ?_)
    refine Run.val rfl rfl rfl (ValOk.cutArr (ys := [x.a, x.b, x.c].map u8) rfl rfl rfl rfl rfl rfl rfl rfl rfl (by decide)) rfl ?_
    refine Run.cs rfl (areAllBy0_ct [x.a, x.b, x.c] true _ sm (by simp) fun y _ => isSmall_ct y) rfl rfl ?_
    repeat (refine Run.go rfl ?_)
    refine Run.bool 11 rfl (fun h2 => ?_) (fun h2 => ?_)
    · have h2 : (sm x.a && (sm x.b && sm x.c)) = true := by simpa using h2
      repeat (refine Run.go rfl ?_)
      refine Run.cs rfl (within16_ct x.vol 1 99) rfl rfl ?_
      repeat (refine Run.go rfl ?_)
      refine Run.bool 16 rfl (fun h3 => ?_) (fun h3 => ?_)
      · have h3 : inr x.vol 1 99 = true := h3
        repeat (refine Run.go rfl ?_)
        refine Run.cs rfl (within16_ct x.wd 1 100) rfl rfl ?_
        repeat (refine Run.go rfl ?_)
        refine Run.bool 21 rfl (fun h4 => ?_) (fun h4 => ?_)
        · have h4 : inr x.wd 1 100 = true := h4
          repeat (refine Run.go rfl ?_)
          refine Run.cs rfl (within16_ct x.hi 50 400) rfl rfl ?_
          repeat (refine Run.go rfl ?_)
          refine Run.bool 26 rfl (fun h5 => ?_) (fun h5 => ?_)
          · have h5 : inr x.hi 50 400 = true := h5
            repeat (refine Run.go rfl ?_)
            refine Run.cs rfl (within16_ct x.wt 1 9999) rfl rfl ?_
            repeat (refine Run.go rfl ?_)
            refine Run.ret hg rfl ?_
            rw [vB, h1, h2, h3, h4, h5]
            rfl
          · have h5 : inr x.hi 50 400 = false := h5
            repeat (refine Run.go rfl ?_)
            refine Run.ret hg rfl ?_
            rw [vB, h1, h2, h3, h4, h5]
            rfl
        · have h4 : inr x.wd 1 100 = false := h4
          repeat (refine Run.go rfl ?_)
          refine Run.bool 26 rfl (fun h => by simp at h) (fun h => ?_)
          repeat (refine Run.go rfl ?_)
          refine Run.ret hg rfl ?_
          rw [vB, h1, h2, h3, h4]
          rfl
      · have h3 : inr x.vol 1 99 = false := h3
        repeat (refine Run.go rfl ?_)
        refine Run.bool 21 rfl (fun h => by simp at h) (fun h => ?_)
        repeat (refine Run.go rfl ?_)
        refine Run.bool 26 rfl (fun h => by simp at h) (fun h => ?_)
        repeat (refine Run.go rfl ?_)
        refine Run.ret hg rfl ?_
        rw [vB, h1, h2, h3]
        rfl
    · have h2 : (sm x.a && (sm x.b && sm x.c)) = false := by simpa using h2
      repeat (refine Run.go rfl ?_)
      refine Run.bool 16 rfl (fun h => by simp at h) (fun h => ?_)
      repeat (refine Run.go rfl ?_)
      refine Run.bool 21 rfl (fun h => by simp at h) (fun h => ?_)
      repeat (refine Run.go rfl ?_)
      refine Run.bool 26 rfl (fun h => by simp at h) (fun h => ?_)
      repeat (refine Run.go rfl ?_)
      refine Run.ret hg rfl ?_
      rw [vB, h1, h2]
      rfl
  · have h1 : inr x.cl 0 999 = false := h1
    repeat (refine Run.go rfl ?_)
    refine Run.bool 11 rfl (fun h => by simp at h) (fun h => ?_)
    repeat (refine Run.go rfl ?_)
    refine Run.bool 16 rfl (fun h => by simp at h) (fun h => ?_)
    repeat (refine Run.go rfl ?_)
    refine Run.bool 21 rfl (fun h => by simp at h) (fun h => ?_)
    repeat (refine Run.go rfl ?_)
    refine Run.bool 26 rfl (fun h => by simp at h) (fun h => ?_)
    repeat (refine Run.go rfl ?_)
    refine Run.ret hg rfl ?_
    rw [vB, h1]
    rfl

noncomputable def X44 : Fx := ⟨Tryz.prog, tys, 44, Tryz.f44, [0]⟩
theorem X44_ok : X44.Ok := ⟨Tryz.func44, tys_ok⟩
theorem validBooks_ct (l : List Bk) (ex : Bool) (hlen : l.length ≤ 1048576) : Ct Tryz.prog 44 [.ro 8 ex (l.map bkA)] (bo (vBs l)) [] := by
  refine Ct.intro X44 X44_ok rfl rfl rfl rfl fun g hg => ?_
  repeat (refine Run.go rfl ?_)
  refine Run.bool 6 rfl (fun h => ?_) (fun h => ?_)
  · have h : l.length ≤ 60 := by simp at h; omega
    repeat (refine Run.go rfl ?_)
    refine Run.cs rfl (areAllB0_ct l ex _ vB hlen fun y _ => validBook_ct y) rfl rfl ?_
    repeat (refine Run.go rfl ?_)
    refine Run.ret hg rfl ?_
    show bo _ = _
    simp [vBs, h]
  · have h : ¬ l.length ≤ 60 := by simp at h; omega
    repeat (refine Run.go rfl ?_)
    refine Run.ret hg rfl ?_
    show bo false = _
    simp [vBs, h]

noncomputable def X126 : Fx := ⟨Tryz.prog, tys, 126, Tryz.f126, [0]⟩
theorem X126_ok : X126.Ok := ⟨Tryz.func126, tys_ok⟩
theorem l01Mark_ct (a b c : Int) : Ct Tryz.prog 126 [.agg [u8 a, u8 b, u8 c]] (bo (sm a && (sm b && sm c))) [] := by
  refine Ct.intro X126 X126_ok rfl rfl rfl rfl fun g hg => ?_
  repeat (refine Run.go rfl ?_)
  refine Run.loop (fun j : Nat => ⟨[(1, .bp (1, 0) 0), (3, i64 j)], [((1, 0), .box [u8 a, u8 b, u8 c])]⟩) (fun j => j ≤ 3 ∧ (0 < j → sm a = true) ∧ (1 < j → sm b = true) ∧ (2 < j → sm c = true)) (fun j => 3 - j) 0 (by omega) ?_ ?_
  · exact St.Le.mk' ⟨rfl, rfl, trivial⟩ ⟨rfl, trivial⟩
  · rintro j ⟨hj, q0, q1, q2⟩ IH
    have hj4 : j = 0 ∨ j = 1 ∨ j = 2 ∨ j = 3 := by omega
    have key : ∀ n : Int, (97 ≤ n → n ≤ 122 → sm n = true) ∧ (n < 97 → sm n = false) ∧ (122 < n → sm n = false) := by
      intro n
      refine ⟨fun h1 h2 => by simp [sm, h1, h2], fun h => by simp [sm]; omega, fun h => by simp [sm]; omega⟩
    rcases hj4 with rfl | rfl | rfl | rfl
    · repeat (refine Run.go rfl ?_)
      refine Run.cond rfl (fun h => ?_) (fun h => by simp at h)
      repeat (refine Run.go rfl ?_)
      refine Run.bool 12 rfl (fun hA => ?_) (fun hA => ?_)
      · have F : sm a = false := (key a).2.1 (by simpa using hA)
        repeat (refine Run.go rfl ?_)
        refine Run.cond rfl (fun _ => ?_) (fun h => by simp at h)
        repeat (refine Run.go rfl ?_)
        refine Run.ret hg rfl ?_
        have : (sm a && (sm b && sm c)) = false := by rw [F, Bool.false_and]
        rw [this]
        rfl
      · have hA : 97 ≤ a := by simpa using hA
        repeat (refine Run.go rfl ?_)
        refine Run.cond rfl (fun hB => ?_) (fun hB => ?_)
        · have F : sm a = false := (key a).2.2 (by simpa using hB)
          repeat (refine Run.go rfl ?_)
          refine Run.ret hg rfl ?_
          have : (sm a && (sm b && sm c)) = false := by rw [F, Bool.false_and]
          rw [this]
          rfl
        · have S : sm a = true := (key a).1 hA (by simpa using hB)
          repeat (refine Run.go rfl ?_)
          exact Run.of (IH 1 ⟨by omega, fun _ => S, by omega, by omega⟩ (by omega)) ⟨rfl, rfl, trivial⟩ ⟨rfl, trivial⟩
    · repeat (refine Run.go rfl ?_)
      refine Run.cond rfl (fun h => ?_) (fun h => by simp at h)
      repeat (refine Run.go rfl ?_)
      refine Run.bool 12 rfl (fun hA => ?_) (fun hA => ?_)
      · have F : sm b = false := (key b).2.1 (by simpa using hA)
        repeat (refine Run.go rfl ?_)
        refine Run.cond rfl (fun _ => ?_) (fun h => by simp at h)
        repeat (refine Run.go rfl ?_)
        refine Run.ret hg rfl ?_
        have : (sm a && (sm b && sm c)) = false := by rw [F, Bool.false_and, Bool.and_false]
        rw [this]
        rfl
      · have hA : 97 ≤ b := by simpa using hA
        repeat (refine Run.go rfl ?_)
        refine Run.cond rfl (fun hB => ?_) (fun hB => ?_)
        · have F : sm b = false := (key b).2.2 (by simpa using hB)
          repeat (refine Run.go rfl ?_)
          refine Run.ret hg rfl ?_
          have : (sm a && (sm b && sm c)) = false := by rw [F, Bool.false_and, Bool.and_false]
          rw [this]
          rfl
        · have S : sm b = true := (key b).1 hA (by simpa using hB)
          repeat (refine Run.go rfl ?_)
          exact Run.of (IH 2 ⟨by omega, fun _ => q0 (by omega), fun _ => S, by omega⟩ (by omega)) ⟨rfl, rfl, trivial⟩ ⟨rfl, trivial⟩
    · repeat (refine Run.go rfl ?_)
      refine Run.cond rfl (fun h => ?_) (fun h => by simp at h)
      repeat (refine Run.go rfl ?_)
      refine Run.bool 12 rfl (fun hA => ?_) (fun hA => ?_)
      · have F : sm c = false := (key c).2.1 (by simpa using hA)
        repeat (refine Run.go rfl ?_)
        refine Run.cond rfl (fun _ => ?_) (fun h => by simp at h)
        repeat (refine Run.go rfl ?_)
        refine Run.ret hg rfl ?_
        have : (sm a && (sm b && sm c)) = false := by rw [F, Bool.and_false, Bool.and_false]
        rw [this]
        rfl
      · have hA : 97 ≤ c := by simpa using hA
        repeat (refine Run.go rfl ?_)
        refine Run.cond rfl (fun hB => ?_) (fun hB => ?_)
        · have F : sm c = false := (key c).2.2 (by simpa using hB)
          repeat (refine Run.go rfl ?_)
          refine Run.ret hg rfl ?_
          have : (sm a && (sm b && sm c)) = false := by rw [F, Bool.and_false, Bool.and_false]
          rw [this]
          rfl
        · have S : sm c = true := (key c).1 hA (by simpa using hB)
          repeat (refine Run.go rfl ?_)
          exact Run.of (IH 3 ⟨by omega, fun _ => q0 (by omega), fun _ => q1 (by omega), fun _ => S⟩ (by omega)) ⟨rfl, rfl, trivial⟩ ⟨rfl, trivial⟩
    · repeat (refine Run.go rfl ?_)
      refine Run.cond rfl (fun h => by simp at h) (fun h => ?_)
      repeat (refine Run.go rfl ?_)
      refine Run.ret hg rfl ?_
      rw [q0 (by omega), q1 (by omega), q2 (by omega)]
      rfl

noncomputable def X125 : Fx := ⟨Tryz.prog, tys, 125, Tryz.f125, [0]⟩
theorem X125_ok : X125.Ok := ⟨Tryz.func125, tys_ok⟩
theorem l01Class_ct (n : Int) : Ct Tryz.prog 125 [i64 n] (bo (inr n 0 999)) [] := by
  refine Ct.intro X125 X125_ok rfl rfl rfl rfl fun g hg => ?_
  repeat (refine Run.go rfl ?_)
  refine Run.cs rfl (l00In_ct n 0 999) rfl rfl ?_
  repeat (refine Run.go rfl ?_)
  exact Run.ret hg rfl rfl

noncomputable def X94 : Fx := ⟨Tryz.prog, tys, 94, Tryz.f94, [0]⟩
theorem X94_ok : X94.Ok := ⟨Tryz.func94, tys_ok⟩
theorem l01Book_ct (x : Bk) (hr : bkRng x) : Ct Tryz.prog 94 [.rp (bkA x).cells 0] (bo (vB x)) [] := by
  obtain ⟨r1, _, _, _, r2, r3, r4, r5⟩ := hr
  have w1 := w64 r1
  have w2 := w64 r2
  have w3 := w64 r3
  have w4 := w64 r4
  have w5 := w64 r5
  refine Ct.intro X94 X94_ok rfl rfl rfl rfl fun g hg => ?_
  repeat (refine Run.go rfl ?_)
  rw [w1]
  refine Run.cs rfl (l01Class_ct x.cl) rfl rfl ?_
  repeat (refine Run.go rfl ?_)
  refine Run.bool 10 rfl (fun h1 => ?_) (fun h1 => ?_)
  · have h1 : inr x.cl 0 999 = false := by simpa using h1
    repeat (refine Run.go rfl ?_)
    refine Run.bool 18 rfl (fun h => ?_) (fun h => by simp at h)
    repeat (refine Run.go rfl ?_)
    refine Run.cond rfl (fun h => ?_) (fun h => by simp at h)
    repeat (refine Run.go rfl ?_)
    refine Run.ret hg rfl ?_
    rw [vB, h1]
    rfl
  have h1 : inr x.cl 0 999 = true := by simpa using h1
  repeat (refine Run.go rfl ?_)
  refine Run.cs rfl (l01Mark_ct x.a x.b x.c) rfl rfl ?_
  repeat (refine Run.go rfl ?_)
  refine Run.bool 18 rfl (fun h2 => ?_) (fun h2 => ?_)
  · have h2 : (sm x.a && (sm x.b && sm x.c)) = false := by rw [Bool.not_eq_true'] at h2; exact h2
    repeat (refine Run.go rfl ?_)
    refine Run.cond rfl (fun h => ?_) (fun h => by simp at h)
    repeat (refine Run.go rfl ?_)
    refine Run.ret hg rfl ?_
    rw [vB, h1, h2]
    rfl
  have h2 : (sm x.a && (sm x.b && sm x.c)) = true := by rw [Bool.not_eq_false'] at h2; exact h2
  repeat (refine Run.go rfl ?_)
  rw [w2]
  refine Run.cs rfl (l00In_ct x.vol 1 99) rfl rfl ?_
  repeat (refine Run.go rfl ?_)
  refine Run.cond rfl (fun h3 => ?_) (fun h3 => ?_)
  · have h3 : inr x.vol 1 99 = false := by simpa using h3
    repeat (refine Run.go rfl ?_)
    refine Run.ret hg rfl ?_
    rw [vB, h1, h2, h3]
    rfl
  have h3 : inr x.vol 1 99 = true := by simpa using h3
  repeat (refine Run.go rfl ?_)
  rw [w3]
  refine Run.cs rfl (l00In_ct x.wd 1 100) rfl rfl ?_
  repeat (refine Run.go rfl ?_)
  refine Run.bool 33 rfl (fun h4 => ?_) (fun h4 => ?_)
  · have h4 : inr x.wd 1 100 = true := h4
    repeat (refine Run.go rfl ?_)
    rw [w4]
    refine Run.cs rfl (l00In_ct x.hi 50 400) rfl rfl ?_
    repeat (refine Run.go rfl ?_)
    refine Run.bool 41 rfl (fun h5 => ?_) (fun h5 => ?_)
    · have h5 : inr x.hi 50 400 = true := h5
      repeat (refine Run.go rfl ?_)
      rw [w5]
      refine Run.cs rfl (l00In_ct x.wt 1 9999) rfl rfl ?_
      repeat (refine Run.go rfl ?_)
      refine Run.ret hg rfl ?_
      rw [vB, h1, h2, h3, h4, h5]
      rfl
    · have h5 : inr x.hi 50 400 = false := h5
      repeat (refine Run.go rfl ?_)
      refine Run.ret hg rfl ?_
      rw [vB, h1, h2, h3, h4, h5]
      rfl
  · have h4 : inr x.wd 1 100 = false := h4
    repeat (refine Run.go rfl ?_)
    refine Run.bool 41 rfl (fun h => by simp at h) (fun h => ?_)
    repeat (refine Run.go rfl ?_)
    refine Run.ret hg rfl ?_
    rw [vB, h1, h2, h3, h4]
    rfl

noncomputable def X46 : Fx := ⟨Tryz.prog, tys, 46, Tryz.f46, [0]⟩
theorem X46_ok : X46.Ok := ⟨Tryz.func46, tys_ok⟩
theorem l01Ok_ct (l : List Bk) (ex : Bool) (hlen : l.length ≤ 1048576) (hr : ∀ x ∈ l, bkRng x) : Ct Tryz.prog 46 [.ro 8 ex (l.map bkA)] (bo (vBs l)) [] := by
  refine Ct.intro X46 X46_ok rfl rfl rfl rfl fun g hg => ?_
  repeat (refine Run.go rfl ?_)
  refine Run.loop (fun j : Nat => ⟨[(0, .ro 8 ex (l.map bkA)), (3, i64 j)], []⟩) (fun j => j ≤ l.length ∧ (l.take j).all vB = true) (fun j => l.length - j) 0 ⟨by omega, rfl⟩ ?_ ?_
  · exact St.Le.mk' ⟨rfl, rfl, trivial⟩ trivial
  rintro j ⟨hj, hall⟩ IH
  repeat (refine Run.go rfl ?_)
  refine Run.cond rfl (fun h => ?_) (fun h => ?_)
  · have hlt : j < l.length := by simpa using h
    repeat (refine Run.go rfl ?_)
    refine Run.val rfl rfl rfl (ValOk.idx (bkA l[j]) rfl rfl rfl rfl rfl (by omega) (by simp [hlt])) rfl ?_
    repeat (refine Run.go rfl ?_)
    refine Run.cs rfl (l01Book_ct l[j] (hr _ (by simp))) rfl rfl ?_
    repeat (refine Run.go rfl ?_)
    refine Run.cond rfl (fun h => ?_) (fun h => ?_)
    · have h : vB l[j] = false := by simpa using h
      repeat (refine Run.go rfl ?_)
      refine Run.ret hg rfl ?_
      have : l.all vB = false := by
        rw [List.all_eq_false]
        exact ⟨l[j], by simp, by simp [h]⟩
      rw [vBs, this, Bool.and_false]
      rfl
    · have h : vB l[j] = true := by simpa using h
      repeat (refine Run.go rfl ?_)
      refine Run.of (IH (j + 1) ⟨by omega, ?_⟩ (by omega)) ⟨rfl, ?_, trivial⟩ trivial
      · rw [List.take_succ_eq_append_getElem hlt, List.all_append, hall]
        simpa using h
      · show i64 _ = _
        rw [wrap_i64 (by omega) (by omega)]
        rfl
  · have hj' : j = l.length := by simp at h; omega
    subst hj'
    rw [List.take_length] at hall
    repeat (refine Run.go rfl ?_)
    refine Run.ret hg rfl ?_
    show bo (decide (((l.map bkA).length : Int) ≤ 60)) = _
    rw [vBs, hall, Bool.and_true, List.length_map]
    exact congrArg bo (decide_eq_decide.mpr (by omega))
end Go.Proofs.YtenknlnnnicdeaaGreatDoor

/- Contracts of the program's functions, and what follows from them. -/
set_option maxRecDepth 100000
namespace Go.Proofs.YtenknlnnnicdeaaGreatDoor
open Go Go.Av

end Go.Proofs.YtenknlnnnicdeaaGreatDoor

/- Contracts of the program's functions, and what follows from them. -/
set_option maxRecDepth 100000
namespace Go.Proofs.YtenknlnnnicdeaaGreatDoor
open Go Go.Av

/-! Books compared by the usual order; sorted lists. -/

def lex3 (p q : Int × Int × Int) : Int := if cmpI p.1 q.1 ≠ 0 then cmpI p.1 q.1 else if cmpI p.2.1 q.2.1 ≠ 0 then cmpI p.2.1 q.2.1 else cmpI p.2.2 q.2.2
def nm (x : Bk) : Nat → Int × Int × Int
  | 0 => (x.cl, 0, 0)
  | 1 => (x.a, x.b, x.c)
  | _ => (x.vol, 0, 0)
def fc (x y : Bk) (i : Nat) : Int := lex3 (nm x i) (nm y i)
def uc (x y : Bk) : Int := if fc x y 0 ≠ 0 then fc x y 0 else if fc x y 1 ≠ 0 then fc x y 1 else fc x y 2

theorem cmpI_self (a : Int) : cmpI a a = 0 := by simp [cmpI]
theorem cmpI_ne {a b : Int} (h : a ≠ b) : cmpI a b ≠ 0 := by
  unfold cmpI
  split
  · decide
  · split
    · decide
    · omega
theorem cmpI_zero {a b : Int} (h : cmpI a b = 0) : a = b := Classical.byContradiction fun hne => cmpI_ne hne h
theorem cmpI_lt {a b : Int} (h : a < b) : cmpI a b = -1 := by rw [cmpI, if_pos h]
theorem cmpI_gt {a b : Int} (h : a ≠ b) (h2 : ¬ a < b) : cmpI a b = 1 := by rw [cmpI, if_neg h2, if_pos (by omega)]
theorem lex3_one (a b : Int) : lex3 (a, 0, 0) (b, 0, 0) = cmpI a b := by
  unfold lex3
  by_cases h : cmpI a b = 0
  · simp [h, cmpI_self]
  · simp [h]
theorem fc0 (x y : Bk) : fc x y 0 = cmpI x.cl y.cl := lex3_one _ _
theorem fc2 (x y : Bk) : fc x y 2 = cmpI x.vol y.vol := lex3_one _ _
theorem uc_at {x y : Bk} {i : Nat} (hi : i < 3) (h0 : 0 < i → fc x y 0 = 0) (h1 : 1 < i → fc x y 1 = 0) (hn : fc x y i ≠ 0) : uc x y = fc x y i := by
  have : i = 0 ∨ i = 1 ∨ i = 2 := by omega
  rcases this with rfl | rfl | rfl
  · rw [uc, if_pos hn]
  · rw [uc, if_neg (by rw [h0 (by omega)]; simp), if_pos hn]
  · rw [uc, if_neg (by rw [h0 (by omega)]; simp), if_neg (by rw [h1 (by omega)]; simp)]
theorem uc_end {x y : Bk} (h0 : fc x y 0 = 0) (h1 : fc x y 1 = 0) (h2 : fc x y 2 = 0) : uc x y = 0 := by
  rw [uc, if_neg (by rw [h0]; simp), if_neg (by rw [h1]; simp), h2]

noncomputable def X184 : Fx := ⟨Tryz.prog, tys, 184, Tryz.f184, [0]⟩
theorem X184_ok : X184.Ok := ⟨Tryz.func184, tys_ok⟩
theorem isNaN8_ct (a : Int) : Ct Tryz.prog 184 [u8 a] (bo false) [] := by
  refine Ct.intro X184 X184_ok rfl rfl rfl rfl fun g hg => ?_
  repeat (refine Run.go rfl ?_)
  refine Run.ret hg rfl ?_
  show bo (a != a) = _
  simp

noncomputable def X178 : Fx := ⟨Tryz.prog, tys, 178, Tryz.f178, [0, 1]⟩
theorem X178_ok : X178.Ok := ⟨Tryz.func178, tys_ok⟩
theorem compareU8_ct (a b : Int) : Ct Tryz.prog 178 [u8 a, u8 b] (i64 (cmpI a b)) [] := by
  refine Ct.intro X178 X178_ok rfl rfl rfl rfl fun g hg => ?_
  repeat (refine Run.go rfl ?_)
  refine Run.cs rfl (isNaN8_ct a) rfl rfl ?_
  repeat (refine Run.go rfl ?_)
  refine Run.cs rfl (isNaN8_ct b) rfl rfl ?_
  repeat (refine Run.go rfl ?_)
  refine Run.cond rfl (fun h => by simp at h) (fun h => ?_)
  repeat (refine Run.go rfl ?_)
  refine Run.cond rfl (fun h => by simp at h) (fun h => ?_)
  repeat (refine Run.go rfl ?_)
  refine Run.cond rfl (fun h => ?_) (fun h => ?_)
  · repeat (refine Run.go rfl ?_)
    refine Run.ret hg rfl ?_
    have h : a < b := by simpa using h
    simp only [cmpI, if_pos h]
    rfl
  have h : ¬ a < b := by simpa using h
  repeat (refine Run.go rfl ?_)
  refine Run.cond rfl (fun h2 => ?_) (fun h2 => ?_)
  · repeat (refine Run.go rfl ?_)
    refine Run.ret hg rfl ?_
    have h2 : b < a := by simpa using h2
    simp only [cmpI, if_neg h, if_pos h2]
    rfl
  have h2 : ¬ b < a := by simpa using h2
  repeat (refine Run.go rfl ?_)
  refine Run.ret hg rfl ?_
  simp only [cmpI, if_neg h, if_neg h2]
  rfl

noncomputable def X165 : Fx := ⟨Tryz.prog, tys, 165, Tryz.f165, [0, 1]⟩
theorem X165_ok : X165.Ok := ⟨Tryz.func165, tys_ok⟩
theorem compareBy3_ct (p q : Int × Int × Int) : Ct Tryz.prog 165 [.ro 1 true ([p.1, p.2.1, p.2.2].map u8), .ro 1 true ([q.1, q.2.1, q.2.2].map u8)] (i64 (lex3 p q)) [] := by
  obtain ⟨p0, p1, p2⟩ := p
  obtain ⟨q0, q1, q2⟩ := q
  refine Ct.intro X165 X165_ok rfl (by kernel_rfl) rfl rfl fun g hg => ?_
  repeat (refine Run.go rfl ?_)
  refine Run.loop (fun j : Nat => ⟨[(0, .ro 1 true ([p0, p1, p2].map u8)), (1, .ro 1 true ([q0, q1, q2].map u8)), (9, .ro 1 true ([p0, p1, p2].map u8)), (10, i64 3), (11, i64 j)], []⟩) (fun j => j ≤ 3 ∧ (0 < j → p0 = q0) ∧ (1 < j → p1 = q1) ∧ (2 < j → p2 = q2)) (fun j => 3 - j) 0 (by omega) ?_ ?_
  · exact St.Le.mk' ⟨rfl, rfl, rfl, rfl, rfl, trivial⟩ trivial
  · rintro j ⟨hj, r0, r1, r2⟩ IH
    have hj4 : j = 0 ∨ j = 1 ∨ j = 2 ∨ j = 3 := by omega
    rcases hj4 with rfl | rfl | rfl | rfl
    · repeat (refine Run.go rfl ?_)
      refine Run.cond rfl (fun h => ?_) (fun h => by simp at h)
      repeat (refine Run.go rfl ?_)
      refine Run.val rfl rfl rfl (ValOk.idx (u8 p0) rfl rfl rfl rfl rfl (by decide) rfl) rfl ?_
      repeat (refine Run.go rfl ?_)
      refine Run.cond rfl (fun h => by simp at h) (fun h => ?_)
      repeat (refine Run.go rfl ?_)
      refine Run.val rfl rfl rfl (ValOk.idx (u8 q0) rfl rfl rfl rfl rfl (by decide) rfl) rfl ?_
      repeat (refine Run.go rfl ?_)
      refine Run.cs rfl (compareU8_ct p0 q0) rfl rfl ?_
      repeat (refine Run.go rfl ?_)
      refine Run.cond rfl (fun h => ?_) (fun h => ?_)
      · have h : cmpI p0 q0 ≠ 0 := by simpa using h
        repeat (refine Run.go rfl ?_)
        refine Run.ret hg rfl ?_
        rw [lex3, if_pos h]
        rfl
      · have e : p0 = q0 := cmpI_zero (by simpa using h)
        repeat (refine Run.go rfl ?_)
        exact Run.of (IH 1 ⟨by omega, fun _ => e, by omega, by omega⟩ (by omega)) ⟨rfl, rfl, rfl, rfl, rfl, trivial⟩ trivial
    · repeat (refine Run.go rfl ?_)
      refine Run.cond rfl (fun h => ?_) (fun h => by simp at h)
      repeat (refine Run.go rfl ?_)
      refine Run.val rfl rfl rfl (ValOk.idx (u8 p1) rfl rfl rfl rfl rfl (by decide) rfl) rfl ?_
      repeat (refine Run.go rfl ?_)
      refine Run.cond rfl (fun h => by simp at h) (fun h => ?_)
      repeat (refine Run.go rfl ?_)
      refine Run.val rfl rfl rfl (ValOk.idx (u8 q1) rfl rfl rfl rfl rfl (by decide) rfl) rfl ?_
      repeat (refine Run.go rfl ?_)
      refine Run.cs rfl (compareU8_ct p1 q1) rfl rfl ?_
      repeat (refine Run.go rfl ?_)
      refine Run.cond rfl (fun h => ?_) (fun h => ?_)
      · have h : cmpI p1 q1 ≠ 0 := by simpa using h
        repeat (refine Run.go rfl ?_)
        refine Run.ret hg rfl ?_
        rw [lex3, if_neg (by simp [r0 (by omega), cmpI_self]), if_pos h]
        rfl
      · have e : p1 = q1 := cmpI_zero (by simpa using h)
        repeat (refine Run.go rfl ?_)
        exact Run.of (IH 2 ⟨by omega, fun _ => r0 (by omega), fun _ => e, by omega⟩ (by omega)) ⟨rfl, rfl, rfl, rfl, rfl, trivial⟩ trivial
    · repeat (refine Run.go rfl ?_)
      refine Run.cond rfl (fun h => ?_) (fun h => by simp at h)
      repeat (refine Run.go rfl ?_)
      refine Run.val rfl rfl rfl (ValOk.idx (u8 p2) rfl rfl rfl rfl rfl (by decide) rfl) rfl ?_
      repeat (refine Run.go rfl ?_)
      refine Run.cond rfl (fun h => by simp at h) (fun h => ?_)
      repeat (refine Run.go rfl ?_)
      refine Run.val rfl rfl rfl (ValOk.idx (u8 q2) rfl rfl rfl rfl rfl (by decide) rfl) rfl ?_
      repeat (refine Run.go rfl ?_)
      refine Run.cs rfl (compareU8_ct p2 q2) rfl rfl ?_
      repeat (refine Run.go rfl ?_)
      refine Run.cond rfl (fun h => ?_) (fun h => ?_)
      · have h : cmpI p2 q2 ≠ 0 := by simpa using h
        repeat (refine Run.go rfl ?_)
        refine Run.ret hg rfl ?_
        rw [lex3, if_neg (by simp [r0 (by omega), cmpI_self]), if_neg (by simp [r1 (by omega), cmpI_self])]
        rfl
      · have e : p2 = q2 := cmpI_zero (by simpa using h)
        repeat (refine Run.go rfl ?_)
        exact Run.of (IH 3 ⟨by omega, fun _ => r0 (by omega), fun _ => r1 (by omega), fun _ => e⟩ (by omega)) ⟨rfl, rfl, rfl, rfl, rfl, trivial⟩ trivial
    · repeat (refine Run.go rfl ?_)
      refine Run.cond rfl (fun h => by simp at h) (fun h => ?_)
      repeat (refine Run.go rfl ?_)
      refine Run.cond rfl (fun h => by simp at h) (fun h => ?_)
      repeat (refine Run.go rfl ?_)
      refine Run.ret hg rfl ?_
      have e : lex3 (p0, p1, p2) (q0, q1, q2) = 0 := by
        rw [r0 (by omega), r1 (by omega), r2 (by omega)]
        simp [lex3, cmpI_self]
      rw [e]
      rfl

noncomputable def X150 : Fx := ⟨Tryz.prog, tys, 150, Tryz.f150, [0]⟩
theorem X150_ok : X150.Ok := ⟨Tryz.func150, tys_ok⟩
theorem field_ct (n : Int) (h : 1 ≤ n ∧ n ≤ 3) : Ct Tryz.prog 150 [i8 n] (i8 n) [] := by
  refine Ct.intro X150 X150_ok rfl rfl rfl rfl fun g hg => ?_
  repeat (refine Run.go rfl ?_)
  refine Run.ret hg rfl ?_
  show i8 (if IntKind.i8.wrap (0 - n) > n then IntKind.i8.wrap (0 - n) else n) = _
  rw [wrap_i8 (by omega) (by omega), if_neg (by omega)]

noncomputable def X149 : Fx := ⟨Tryz.prog, tys, 149, Tryz.f149, [0]⟩
theorem X149_ok : X149.Ok := ⟨Tryz.func149, tys_ok⟩
theorem compareIn0_ct (x y : Bk) : Ct Tryz.prog 149 [i8 1, bkA x, bkA y] (i64 (fc x y 0)) [] := by
  rw [fc0]
  refine Ct.intro X149 X149_ok rfl rfl rfl rfl fun g hg => ?_
  repeat (refine Run.go rfl ?_)
  refine Run.cond rfl (fun h => ?_) (fun h => by simp at h)
  repeat (refine Run.go rfl ?_)
  refine Run.cs rfl (compare16_ct x.cl y.cl) rfl rfl ?_
  repeat (refine Run.go rfl ?_)
  exact Run.ret hg rfl rfl
theorem compareIn1_ct (x y : Bk) : Ct Tryz.prog 149 [i8 2, bkA x, bkA y] (i64 (fc x y 1)) [] := by
  refine Ct.intro X149 X149_ok rfl rfl rfl rfl fun g hg => ?_
  iterate 4 (refine Run.go rfl ?_)
  refine Run.freezeBox 4 (4, 0) (bkA x).cells rfl rfl rfl rfl ?_
  refine Run.freezeBox 5 (5, 0) (bkA y).cells rfl rfl rfl rfl ?_
  repeat (refine Run.go rfl ?_)
  refine Run.cond rfl (fun h => by simp at h) (fun h => ?_)
  repeat (refine Run.go rfl ?_)
  refine Run.cond rfl (fun h => ?_) (fun h => by simp at h)
  repeat (refine Run.go rfl ?_)
  refine Run.draw (by kernel_rfl) (by decide +kernel) ?_
  repeat (refine Quiet.go rfl ?_)
  refine Quiet.val rfl rfl (ValOk.cutArr (ys := [x.a, x.b, x.c].map u8) rfl rfl rfl rfl rfl rfl rfl rfl rfl (by decide)) rfl ?_
  repeat (refine Quiet.go rfl ?_)
  refine Quiet.val rfl rfl (ValOk.cutArr (ys := [y.a, y.b, y.c].map u8) rfl rfl rfl rfl rfl rfl rfl rfl rfl (by decide)) rfl ?_
  repeat (refine Quiet.go rfl ?_)
  refine Quiet.cs rfl rfl rfl rfl rfl (compareBy3_ct (x.a, x.b, x.c) (y.a, y.b, y.c)) rfl rfl ?_
  repeat (refine Quiet.go rfl ?_)
  refine Quiet.nil ?_
  repeat (refine Run.go rfl ?_)
  exact Run.ret hg rfl rfl
theorem compareIn2_ct (x y : Bk) : Ct Tryz.prog 149 [i8 3, bkA x, bkA y] (i64 (fc x y 2)) [] := by
  rw [fc2]
  refine Ct.intro X149 X149_ok rfl rfl rfl rfl fun g hg => ?_
  repeat (refine Run.go rfl ?_)
  refine Run.cond rfl (fun h => by simp at h) (fun h => ?_)
  repeat (refine Run.go rfl ?_)
  refine Run.cond rfl (fun h => by simp at h) (fun h => ?_)
  repeat (refine Run.go rfl ?_)
  refine Run.cond rfl (fun h => ?_) (fun h => by simp at h)
  repeat (refine Run.go rfl ?_)
  refine Run.cs rfl (compare16_ct x.vol y.vol) rfl rfl ?_
  repeat (refine Run.go rfl ?_)
  exact Run.ret hg rfl rfl

theorem compareIn_ct (x y : Bk) (i : Nat) (hi : i < 3) : Ct Tryz.prog 149 [i8 ((i : Int) + 1), bkA x, bkA y] (i64 (fc x y i)) [] := by
  have : i = 0 ∨ i = 1 ∨ i = 2 := by omega
  rcases this with rfl | rfl | rfl
  · exact compareIn0_ct x y
  · exact compareIn1_ct x y
  · exact compareIn2_ct x y

def usl : List AV := [i8 1, i8 2, i8 3]
theorem usl_at {i : Nat} (h : i < 3) : usl[i]? = some (i8 ((i : Int) + 1)) := by
  have : i = 0 ∨ i = 1 ∨ i = 2 := by omega
  rcases this with rfl | rfl | rfl <;> rfl

noncomputable def X131 : Fx := ⟨Tryz.prog, tys, 131, Tryz.f131, [0]⟩
theorem X131_ok : X131.Ok := ⟨Tryz.func131, tys_ok⟩
theorem compareBy_ct (x y : Bk) (ex : Bool) : Ct Tryz.prog 131 [.ro 1 ex usl, bkA x, bkA y] (i64 (uc x y)) [] := by
  refine Ct.intro X131 X131_ok rfl rfl rfl rfl fun g hg => ?_
  repeat (refine Run.go rfl ?_)
  refine Run.loop (fun i : Nat => ⟨[(4, .bp (4, 0) 0), (5, .bp (5, 0) 0), (10, .ro 1 ex usl), (11, i64 3), (12, i64 i)], [((4, 0), .box (bkA x).cells), ((5, 0), .box (bkA y).cells)]⟩) (fun i => i ≤ 3 ∧ (0 < i → fc x y 0 = 0) ∧ (1 < i → fc x y 1 = 0) ∧ (2 < i → fc x y 2 = 0)) (fun i => 3 - i) 0 (by omega) ?_ ?_
  · exact St.Le.mk' ⟨rfl, rfl, rfl, rfl, rfl, trivial⟩ ⟨rfl, rfl, trivial⟩
  rintro i ⟨hi, r0, r1, r2⟩ IH
  repeat (refine Run.go rfl ?_)
  refine Run.cond rfl (fun h => ?_) (fun h => ?_)
  · have hlt : i < 3 := by simp at h; omega
    repeat (refine Run.go rfl ?_)
    refine Run.val rfl rfl rfl (ValOk.idx (i8 ((i : Int) + 1)) rfl rfl rfl rfl rfl (by omega) (by rw [Int.toNat_natCast]; exact usl_at hlt)) rfl ?_
    repeat (refine Run.go rfl ?_)
    refine Run.draw (by kernel_rfl) (by decide +kernel) ?_
    repeat (refine Quiet.go rfl ?_)
    refine Quiet.cs rfl rfl rfl rfl rfl (field_ct ((i : Int) + 1) (by omega)) rfl rfl ?_
    repeat (refine Quiet.go rfl ?_)
    refine Quiet.cs rfl rfl rfl rfl rfl (compareIn_ct x y i hlt) rfl rfl ?_
    repeat (refine Quiet.go rfl ?_)
    refine Quiet.nil ?_
    repeat (refine Run.go rfl ?_)
    refine Run.cond rfl (fun h => by simp at h; omega) (fun h => ?_)
    repeat (refine Run.go rfl ?_)
    refine Run.cond rfl (fun h => ?_) (fun h => ?_)
    · have h : fc x y i ≠ 0 := by simpa using h
      repeat (refine Run.go rfl ?_)
      refine Run.ret hg rfl ?_
      rw [uc_at hlt r0 r1 h]
      rfl
    · have h : fc x y i = 0 := by simpa using h
      repeat (refine Run.go rfl ?_)
      refine Run.of (IH (i + 1) ⟨by omega, fun h0 => ?_, fun h0 => ?_, fun h0 => ?_⟩ (by omega)) ⟨rfl, rfl, rfl, rfl, ?_, trivial⟩ ⟨rfl, rfl, trivial⟩
      · by_cases e : i = 0
        · rw [e] at h; exact h
        · exact r0 (by omega)
      · by_cases e : i = 1
        · rw [e] at h; exact h
        · exact r1 (by omega)
      · by_cases e : i = 2
        · rw [e] at h; exact h
        · exact r2 (by omega)
      · show i64 _ = _
        rw [wrap_i64 (by omega) (by omega)]
        rfl
  · have hi' : i = 3 := by simp at h; omega
    subst hi'
    repeat (refine Run.go rfl ?_)
    refine Run.ret hg rfl ?_
    rw [uc_end (r0 (by omega)) (r1 (by omega)) (r2 (by omega))]
    rfl

noncomputable def X132 : Fx := ⟨Tryz.prog, tys, 132, Tryz.f132, []⟩
theorem X132_ok : X132.Ok := ⟨Tryz.func132, tys_ok⟩
theorem usual_ct : Ct Tryz.prog 132 [] (.own 1 true usl) [] := by
  refine Ct.intro X132 X132_ok rfl rfl rfl rfl fun g hg => ?_
  repeat (refine Run.go rfl ?_)
  refine Run.buildSlice usl rfl rfl rfl rfl rfl rfl rfl rfl rfl rfl rfl rfl rfl rfl ?_
  repeat (refine Run.go rfl ?_)
  exact Run.ret hg rfl rfl

noncomputable def X100 : Fx := ⟨Tryz.prog, tys, 100, Tryz.f100, [0, 1]⟩
theorem X100_ok : X100.Ok := ⟨Tryz.func100, tys_ok⟩
theorem compare_ct (x y : Bk) : Ct Tryz.prog 100 [bkA x, bkA y] (i64 (uc x y)) [] := by
  refine Ct.intro X100 X100_ok rfl rfl rfl rfl fun g hg => ?_
  repeat (refine Run.go rfl ?_)
  refine Run.drawn [[0, 1, 2, 3, 4], [0, 2, 1, 3, 4], [1, 0, 2, 3, 4], [1, 2, 0, 3, 4], [2, 0, 1, 3, 4], [2, 1, 0, 3, 4]] ⟨[(4, i64 (uc x y))], []⟩ (by decide +kernel) (by kernel_rfl) ?_ fun _ hN => ⟨?_, ?_, ?_, ?_, ?_, ?_, trivial⟩
  rotate_left
  iterate 6
    · repeat (refine Run.go rfl ?_)
      refine Run.cs rfl usual_ct rfl rfl ?_
      repeat (refine Run.go rfl ?_)
      refine Run.cs rfl (compareBy_ct x y true) rfl rfl ?_
      repeat (refine Run.go rfl ?_)
      exact Run.of hN ⟨rfl, trivial⟩ trivial
  repeat (refine Run.go rfl ?_)
  exact Run.ret hg rfl rfl

def ooo (l : List Bk) (j : Nat) : Bool := decide (uc (l.getD (j + 1) bk0) (l.getD j bk0) < 0)
def srt (l : List Bk) : Bool := !((List.range (l.length - 1)).any (ooo l))
theorem ooo_at {l : List Bk} {j : Nat} (h : j + 1 < l.length) : ooo l j = decide (uc l[j + 1] l[j] < 0) := by
  unfold ooo
  simp [h, Nat.lt_of_succ_lt h]

noncomputable def X99 : Fx := ⟨Tryz.prog, tys, 99, Tryz.f99, [0, 1]⟩
theorem X99_ok : X99.Ok := ⟨Tryz.func99, tys_ok⟩
theorem isSortedFunc_ct (l : List Bk) (ex : Bool) (f : Nat) (hlen : l.length ≤ 1048576) (hf : ∀ x y : Bk, Ct Tryz.prog f [bkA x, bkA y] (i64 (uc x y)) []) : Ct Tryz.prog 99 [.ro 8 ex (l.map bkA), .fn f []] (bo (srt l)) [] := by
  refine Ct.intro X99 X99_ok rfl (by kernel_rfl) rfl rfl fun g hg => ?_
  have ew : IntKind.i64.wrap (((l.map bkA).length : Int) - 1) = (l.length : Int) - 1 := by rw [List.length_map, wrap_i64 (by omega) (by omega)]
  repeat (refine Run.go rfl ?_)
  rw [ew]
  refine Run.loop (fun m : Nat => ⟨[(0, .ro 8 ex (l.map bkA)), (1, .fn f []), (5, i64 ((l.length : Int) - 1 - m))], []⟩) (fun m => m ≤ l.length - 1 ∧ ∀ j, l.length - 1 ≤ j + m → j < l.length - 1 → ooo l j = false) (fun m => l.length - 1 - m) 0 ⟨by omega, fun j h1 h2 => by omega⟩ ?_ ?_
  · refine St.Le.mk' ⟨rfl, rfl, ?_, trivial⟩ trivial
    show i64 ((l.length : Int) - 1) = i64 ((l.length : Int) - 1 - 0)
    rw [Int.sub_zero]
  rintro m ⟨hm, hall⟩ IH
  repeat (refine Run.go rfl ?_)
  refine Run.cond rfl (fun h => ?_) (fun h => ?_)
  · have hlt : m < l.length - 1 := by simp at h; omega
    obtain ⟨i, hi⟩ : ∃ i, i = l.length - 2 - m := ⟨_, rfl⟩
    have hi1 : i + 1 < l.length := by omega
    have e5 : (l.length : Int) - 1 - m = ((i + 1 : Nat) : Int) := by omega
    rw [e5]
    repeat (refine Run.go rfl ?_)
    refine Run.draw (by kernel_rfl) (by decide +kernel) ?_
    repeat (refine Quiet.go rfl ?_)
    refine Quiet.val rfl rfl (ValOk.idx (bkA l[i + 1]) rfl rfl rfl rfl rfl (by omega) (by simp only [Int.toNat_natCast, List.getElem?_map, List.getElem?_eq_getElem hi1, Option.map_some])) rfl ?_
    repeat (refine Quiet.go rfl ?_)
    rw [show IntKind.i64.wrap (((i + 1 : Nat) : Int) - 1) = (i : Int) by rw [wrap_i64 (by omega) (by omega)]; omega]
    refine Quiet.val rfl rfl (ValOk.idx (bkA l[i]) rfl rfl rfl rfl rfl (by omega) (by simp only [Int.toNat_natCast, List.getElem?_map, List.getElem?_eq_getElem (Nat.lt_of_succ_lt hi1), Option.map_some])) rfl ?_
    repeat (refine Quiet.go rfl ?_)
    refine Quiet.cs rfl rfl rfl rfl rfl (hf l[i + 1] l[i]) rfl rfl ?_
    repeat (refine Quiet.go rfl ?_)
    refine Quiet.nil ?_
    repeat (refine Run.go rfl ?_)
    refine Run.cond rfl (fun h => ?_) (fun h => ?_)
    · have h : ooo l i = true := by rw [ooo_at hi1]; exact h
      repeat (refine Run.go rfl ?_)
      refine Run.ret hg rfl ?_
      have : (List.range (l.length - 1)).any (ooo l) = true := List.any_eq_true.mpr ⟨i, List.mem_range.mpr (by omega), h⟩
      rw [srt, this]
      rfl
    · have h : ooo l i = false := by rw [ooo_at hi1]; exact h
      repeat (refine Run.go rfl ?_)
      refine Run.of (IH (m + 1) ⟨by omega, fun j h1 h2 => ?_⟩ (by omega)) ⟨rfl, rfl, ?_, trivial⟩ trivial
      · by_cases e : j = i
        · rw [e]; exact h
        · exact hall j (by omega) h2
      · show i64 (IntKind.i64.wrap (((i + 1 : Nat) : Int) - 1)) = _
        rw [wrap_i64 (by omega) (by omega)]
        exact congrArg i64 (by omega)
  · have hm' : ¬ m < l.length - 1 := by simp at h; omega
    repeat (refine Run.go rfl ?_)
    refine Run.ret hg rfl ?_
    have : (List.range (l.length - 1)).any (ooo l) = false := by
      rw [List.any_eq_false]
      intro j hj
      rw [hall j (by omega) (List.mem_range.mp hj)]
      decide
    rw [srt, this]
    rfl

noncomputable def X53 : Fx := ⟨Tryz.prog, tys, 53, Tryz.f53, [0]⟩
theorem X53_ok : X53.Ok := ⟨Tryz.func53, tys_ok⟩
theorem isSorted_ct (l : List Bk) (ex : Bool) (hlen : l.length ≤ 1048576) : Ct Tryz.prog 53 [.ro 8 ex (l.map bkA)] (bo (srt l)) [] := by
  refine Ct.intro X53 X53_ok rfl rfl rfl rfl fun g hg => ?_
  repeat (refine Run.go rfl ?_)
  refine Run.cs rfl (isSortedFunc_ct l ex _ hlen compare_ct) rfl rfl ?_
  repeat (refine Run.go rfl ?_)
  exact Run.ret hg rfl rfl
end Go.Proofs.YtenknlnnnicdeaaGreatDoor

/- Contracts of the program's functions, and what follows from them. -/
set_option maxRecDepth 100000
namespace Go.Proofs.YtenknlnnnicdeaaGreatDoor
open Go Go.Av

/-! The reference's order of books; the codes of catalogues and shelves. -/

def numA (p : Int × Int × Int) : AV := .agg [i64 p.1, i64 p.2.1, i64 p.2.2]

theorem wu8 {n : Int} (h : u8r n) : IntKind.i64.wrap n = n := wrap_i64 (by have := h.1; omega) (by have := h.2; omega)

noncomputable def X116 : Fx := ⟨Tryz.prog, tys, 116, Tryz.f116, [0]⟩
theorem X116_ok : X116.Ok := ⟨Tryz.func116, tys_ok⟩
theorem l01Field_ct (n : Int) (h : 1 ≤ n ∧ n ≤ 3) : Ct Tryz.prog 116 [i8 n] (i8 n) [] := by
  refine Ct.intro X116 X116_ok rfl rfl rfl rfl fun g hg => ?_
  repeat (refine Run.go rfl ?_)
  refine Run.cond rfl (fun h => by simp at h; omega) (fun h => ?_)
  repeat (refine Run.go rfl ?_)
  exact Run.ret hg rfl rfl

noncomputable def X117 : Fx := ⟨Tryz.prog, tys, 117, Tryz.f117, [0, 1]⟩
theorem X117_ok : X117.Ok := ⟨Tryz.func117, tys_ok⟩
theorem l01Numbers0_ct (x : Bk) (hr : bkRng x) : Ct Tryz.prog 117 [.rp (bkA x).cells 0, i8 1] (numA (nm x 0)) [] := by
  have w := w64 hr.1
  refine Ct.intro X117 X117_ok rfl rfl rfl rfl fun g hg => ?_
  repeat (refine Run.go rfl ?_)
  refine Run.cond rfl (fun h => ?_) (fun h => by simp at h)
  repeat (refine Run.go rfl ?_)
  rw [w]
  refine Run.val rfl rfl rfl (ValOk.buildArr rfl rfl rfl rfl rfl) rfl ?_
  repeat (refine Run.go rfl ?_)
  exact Run.ret hg rfl rfl
theorem l01Numbers1_ct (x : Bk) (hr : bkRng x) : Ct Tryz.prog 117 [.rp (bkA x).cells 0, i8 2] (numA (nm x 1)) [] := by
  have w1 := wu8 hr.2.1
  have w2 := wu8 hr.2.2.1
  have w3 := wu8 hr.2.2.2.1
  refine Ct.intro X117 X117_ok rfl rfl rfl rfl fun g hg => ?_
  repeat (refine Run.go rfl ?_)
  refine Run.cond rfl (fun h => by simp at h) (fun h => ?_)
  repeat (refine Run.go rfl ?_)
  refine Run.cond rfl (fun h => ?_) (fun h => by simp at h)
  repeat (refine Run.go rfl ?_)
  refine Run.drawSt rfl (by kernel_rfl) (by decide +kernel) ?_
  repeat (refine Quiet.go rfl ?_)
  rw [w1, w2, w3]
  refine Quiet.val rfl rfl (ValOk.buildArr rfl rfl rfl rfl rfl) rfl ?_
  repeat (refine Quiet.go rfl ?_)
  refine Quiet.nil ⟨_, rfl, ?_⟩
  repeat (refine Run.go rfl ?_)
  exact Run.ret (r := numA (nm x 1)) hg (by kernel_rfl) rfl
theorem l01Numbers2_ct (x : Bk) (hr : bkRng x) : Ct Tryz.prog 117 [.rp (bkA x).cells 0, i8 3] (numA (nm x 2)) [] := by
  have w := w64 hr.2.2.2.2.1
  refine Ct.intro X117 X117_ok rfl rfl rfl rfl fun g hg => ?_
  repeat (refine Run.go rfl ?_)
  refine Run.cond rfl (fun h => by simp at h) (fun h => ?_)
  repeat (refine Run.go rfl ?_)
  refine Run.cond rfl (fun h => by simp at h) (fun h => ?_)
  repeat (refine Run.go rfl ?_)
  refine Run.cond rfl (fun h => ?_) (fun h => by simp at h)
  repeat (refine Run.go rfl ?_)
  rw [w]
  refine Run.val rfl rfl rfl (ValOk.buildArr rfl rfl rfl rfl rfl) rfl ?_
  repeat (refine Run.go rfl ?_)
  exact Run.ret hg rfl rfl

theorem l01Numbers_ct (x : Bk) (i : Nat) (hi : i < 3) (hr : bkRng x) : Ct Tryz.prog 117 [.rp (bkA x).cells 0, i8 ((i : Int) + 1)] (numA (nm x i)) [] := by
  have : i = 0 ∨ i = 1 ∨ i = 2 := by omega
  rcases this with rfl | rfl | rfl
  · exact l01Numbers0_ct x hr
  · exact l01Numbers1_ct x hr
  · exact l01Numbers2_ct x hr

noncomputable def X82 : Fx := ⟨Tryz.prog, tys, 82, Tryz.f82, [0, 1, 2]⟩
theorem X82_ok : X82.Ok := ⟨Tryz.func82, tys_ok⟩
theorem l01Compare_ct (x y : Bk) (ex : Bool) (hx : bkRng x) (hy : bkRng y) : Ct Tryz.prog 82 [.ro 1 ex usl, .rp (bkA x).cells 0, .rp (bkA y).cells 0] (i64 (uc x y)) [] := by
  refine Ct.intro X82 X82_ok rfl (by kernel_rfl) rfl rfl fun g hg => ?_
  repeat (refine Run.go rfl ?_)
  refine Run.loop (fun i : Nat => ⟨[(0, .ro 1 ex usl), (1, .rp (bkA x).cells 0), (2, .rp (bkA y).cells 0), (7, i64 i)], []⟩) (fun i => i ≤ 3 ∧ (0 < i → fc x y 0 = 0) ∧ (1 < i → fc x y 1 = 0) ∧ (2 < i → fc x y 2 = 0)) (fun i => 3 - i) 0 (by omega) ?_ ?_
  · exact St.Le.mk' ⟨rfl, rfl, rfl, rfl, trivial⟩ trivial
  rintro i ⟨hi, r0, r1, r2⟩ IH
  repeat (refine Run.go rfl ?_)
  refine Run.cond rfl (fun h => ?_) (fun h => ?_)
  · have h : (i : Int) < 3 := of_decide_eq_true h
    have hlt : i < 3 := by omega
    have hX := l01Numbers_ct x i hlt hx
    have hY := l01Numbers_ct y i hlt hy
    have hfc : fc x y i = lex3 (nm x i) (nm y i) := rfl
    generalize nm x i = p at hX hfc
    generalize nm y i = q at hY hfc
    obtain ⟨p0, p1, p2⟩ := p
    obtain ⟨q0, q1, q2⟩ := q
    repeat (refine Run.go rfl ?_)
    refine Run.val rfl rfl rfl (ValOk.idx (i8 ((i : Int) + 1)) rfl rfl rfl rfl rfl (by omega) (by rw [Int.toNat_natCast]; exact usl_at hlt)) rfl ?_
    repeat (refine Run.go rfl ?_)
    refine Run.cs rfl (l01Field_ct ((i : Int) + 1) (by omega)) rfl rfl ?_
    repeat (refine Run.go rfl ?_)
    refine Run.cs rfl hX rfl rfl ?_
    repeat (refine Run.go rfl ?_)
    refine Run.cs rfl hY rfl rfl ?_
    repeat (refine Run.go rfl ?_)
    refine Run.loop (fun k : Nat => ⟨[(0, .ro 1 ex usl), (1, .rp (bkA x).cells 0), (2, .rp (bkA y).cells 0), (7, i64 i), (9, .bp (9, 0) 0), (10, .bp (10, 0) 0), (11, i64 k)], [((9, 0), .box [i64 p0, i64 p1, i64 p2]), ((10, 0), .box [i64 q0, i64 q1, i64 q2])]⟩) (fun k => k ≤ 3 ∧ (0 < k → p0 = q0) ∧ (1 < k → p1 = q1) ∧ (2 < k → p2 = q2)) (fun k => 3 - k) 0 (by omega) ?_ ?_
    · exact St.Le.mk' ⟨rfl, rfl, rfl, rfl, rfl, rfl, rfl, trivial⟩ ⟨rfl, rfl, trivial⟩
    rintro k ⟨hk, s0, s1, s2⟩ IH2
    have hk4 : k = 0 ∨ k = 1 ∨ k = 2 ∨ k = 3 := by omega
    have hpos : decide ((0 : Int) < (i : Int) + 1) = true := decide_eq_true (by omega)
    rcases hk4 with rfl | rfl | rfl | rfl
    · repeat (refine Run.go rfl ?_)
      refine Run.cond rfl (fun h => ?_) (fun h => by simp at h)
      repeat (refine Run.go rfl ?_)
      refine Run.draw (by kernel_rfl) (by decide +kernel) ?_
      repeat (refine Quiet.go rfl ?_)
      refine Quiet.nil ?_
      repeat (refine Run.go rfl ?_)
      refine Run.cond rfl (fun h => ?_) (fun h => ?_)
      · have e : p0 = q0 := by simpa using h
        repeat (refine Run.go rfl ?_)
        exact Run.of (IH2 1 ⟨by omega, fun _ => e, by omega, by omega⟩ (by omega)) ⟨rfl, rfl, rfl, rfl, rfl, rfl, rfl, trivial⟩ ⟨rfl, rfl, trivial⟩
      · have hne : p0 ≠ q0 := by simpa using h
        have hl : fc x y i = cmpI p0 q0 := by
          rw [hfc]
          rw [lex3, if_pos (cmpI_ne hne)]
        have hu : uc x y = cmpI p0 q0 := by
          rw [← hl]
          exact uc_at hlt r0 r1 (by rw [hl]; exact cmpI_ne hne)
        repeat (refine Run.go rfl ?_)
        refine Run.draw (by kernel_rfl) (by decide +kernel) ?_
        repeat (refine Quiet.go rfl ?_)
        refine Quiet.val rfl rfl (ValOk.idx (i8 ((i : Int) + 1)) rfl rfl rfl rfl rfl (by omega) (by rw [Int.toNat_natCast]; exact usl_at hlt)) rfl ?_
        repeat (refine Quiet.go rfl ?_)
        refine Quiet.nil ?_
        repeat (refine Run.go rfl ?_)
        refine Run.cond rfl (fun h => ?_) (fun h => ?_)
        · have h : (decide (p0 < q0) == decide ((0 : Int) < (i : Int) + 1)) = true := h
          rw [hpos] at h
          have h : p0 < q0 := by simpa using h
          repeat (refine Run.go rfl ?_)
          refine Run.ret hg rfl ?_
          rw [hu, cmpI_lt h]
          rfl
        · have h : (decide (p0 < q0) == decide ((0 : Int) < (i : Int) + 1)) = false := h
          rw [hpos] at h
          have h : ¬ p0 < q0 := by simpa using h
          repeat (refine Run.go rfl ?_)
          refine Run.ret hg rfl ?_
          rw [hu, cmpI_gt hne h]
          rfl
    · repeat (refine Run.go rfl ?_)
      refine Run.cond rfl (fun h => ?_) (fun h => by simp at h)
      repeat (refine Run.go rfl ?_)
      refine Run.draw (by kernel_rfl) (by decide +kernel) ?_
      repeat (refine Quiet.go rfl ?_)
      refine Quiet.nil ?_
      repeat (refine Run.go rfl ?_)
      refine Run.cond rfl (fun h => ?_) (fun h => ?_)
      · have e : p1 = q1 := by simpa using h
        repeat (refine Run.go rfl ?_)
        exact Run.of (IH2 2 ⟨by omega, fun _ => s0 (by omega), fun _ => e, by omega⟩ (by omega)) ⟨rfl, rfl, rfl, rfl, rfl, rfl, rfl, trivial⟩ ⟨rfl, rfl, trivial⟩
      · have hne : p1 ≠ q1 := by simpa using h
        have hl : fc x y i = cmpI p1 q1 := by
          rw [hfc]
          rw [lex3, if_neg (by simp [s0 (by omega), cmpI_self]), if_pos (cmpI_ne hne)]
        have hu : uc x y = cmpI p1 q1 := by
          rw [← hl]
          exact uc_at hlt r0 r1 (by rw [hl]; exact cmpI_ne hne)
        repeat (refine Run.go rfl ?_)
        refine Run.draw (by kernel_rfl) (by decide +kernel) ?_
        repeat (refine Quiet.go rfl ?_)
        refine Quiet.val rfl rfl (ValOk.idx (i8 ((i : Int) + 1)) rfl rfl rfl rfl rfl (by omega) (by rw [Int.toNat_natCast]; exact usl_at hlt)) rfl ?_
        repeat (refine Quiet.go rfl ?_)
        refine Quiet.nil ?_
        repeat (refine Run.go rfl ?_)
        refine Run.cond rfl (fun h => ?_) (fun h => ?_)
        · have h : (decide (p1 < q1) == decide ((0 : Int) < (i : Int) + 1)) = true := h
          rw [hpos] at h
          have h : p1 < q1 := by simpa using h
          repeat (refine Run.go rfl ?_)
          refine Run.ret hg rfl ?_
          rw [hu, cmpI_lt h]
          rfl
        · have h : (decide (p1 < q1) == decide ((0 : Int) < (i : Int) + 1)) = false := h
          rw [hpos] at h
          have h : ¬ p1 < q1 := by simpa using h
          repeat (refine Run.go rfl ?_)
          refine Run.ret hg rfl ?_
          rw [hu, cmpI_gt hne h]
          rfl
    · repeat (refine Run.go rfl ?_)
      refine Run.cond rfl (fun h => ?_) (fun h => by simp at h)
      repeat (refine Run.go rfl ?_)
      refine Run.draw (by kernel_rfl) (by decide +kernel) ?_
      repeat (refine Quiet.go rfl ?_)
      refine Quiet.nil ?_
      repeat (refine Run.go rfl ?_)
      refine Run.cond rfl (fun h => ?_) (fun h => ?_)
      · have e : p2 = q2 := by simpa using h
        repeat (refine Run.go rfl ?_)
        exact Run.of (IH2 3 ⟨by omega, fun _ => s0 (by omega), fun _ => s1 (by omega), fun _ => e⟩ (by omega)) ⟨rfl, rfl, rfl, rfl, rfl, rfl, rfl, trivial⟩ ⟨rfl, rfl, trivial⟩
      · have hne : p2 ≠ q2 := by simpa using h
        have hl : fc x y i = cmpI p2 q2 := by
          rw [hfc]
          rw [lex3, if_neg (by simp [s0 (by omega), cmpI_self]), if_neg (by simp [s1 (by omega), cmpI_self])]
        have hu : uc x y = cmpI p2 q2 := by
          rw [← hl]
          exact uc_at hlt r0 r1 (by rw [hl]; exact cmpI_ne hne)
        repeat (refine Run.go rfl ?_)
        refine Run.draw (by kernel_rfl) (by decide +kernel) ?_
        repeat (refine Quiet.go rfl ?_)
        refine Quiet.val rfl rfl (ValOk.idx (i8 ((i : Int) + 1)) rfl rfl rfl rfl rfl (by omega) (by rw [Int.toNat_natCast]; exact usl_at hlt)) rfl ?_
        repeat (refine Quiet.go rfl ?_)
        refine Quiet.nil ?_
        repeat (refine Run.go rfl ?_)
        refine Run.cond rfl (fun h => ?_) (fun h => ?_)
        · have h : (decide (p2 < q2) == decide ((0 : Int) < (i : Int) + 1)) = true := h
          rw [hpos] at h
          have h : p2 < q2 := by simpa using h
          repeat (refine Run.go rfl ?_)
          refine Run.ret hg rfl ?_
          rw [hu, cmpI_lt h]
          rfl
        · have h : (decide (p2 < q2) == decide ((0 : Int) < (i : Int) + 1)) = false := h
          rw [hpos] at h
          have h : ¬ p2 < q2 := by simpa using h
          repeat (refine Run.go rfl ?_)
          refine Run.ret hg rfl ?_
          rw [hu, cmpI_gt hne h]
          rfl
    · have hz : fc x y i = 0 := by
        rw [hfc, s0 (by omega), s1 (by omega), s2 (by omega)]
        simp [lex3, cmpI_self]
      repeat (refine Run.go rfl ?_)
      refine Run.cond rfl (fun h => by simp at h) (fun h => ?_)
      repeat (refine Run.go rfl ?_)
      refine Run.of (IH (i + 1) ⟨by omega, fun h0 => ?_, fun h0 => ?_, fun h0 => ?_⟩ (by omega)) ⟨rfl, rfl, rfl, ?_, trivial⟩ trivial
      · by_cases e : i = 0
        · rw [e] at hz; exact hz
        · exact r0 (by omega)
      · by_cases e : i = 1
        · rw [e] at hz; exact hz
        · exact r1 (by omega)
      · by_cases e : i = 2
        · rw [e] at hz; exact hz
        · exact r2 (by omega)
      · show i64 _ = _
        rw [wrap_i64 (by omega) (by omega)]
        rfl
  · have h : ¬ (i : Int) < 3 := of_decide_eq_false h
    have hi' : i = 3 := by omega
    subst hi'
    repeat (refine Run.go rfl ?_)
    refine Run.ret hg rfl ?_
    rw [uc_end (r0 (by omega)) (r1 (by omega)) (r2 (by omega))]
    rfl

noncomputable def X118 : Fx := ⟨Tryz.prog, tys, 118, Tryz.f118, [0, 1]⟩
theorem X118_ok : X118.Ok := ⟨Tryz.func118, tys_ok⟩
theorem l01Usual_ct (x y : Bk) (hx : bkRng x) (hy : bkRng y) : Ct Tryz.prog 118 [.rp (bkA x).cells 0, .rp (bkA y).cells 0] (i64 (uc x y)) [] := by
  refine Ct.intro X118 X118_ok rfl rfl rfl rfl fun g hg => ?_
  repeat (refine Run.go rfl ?_)
  refine Run.buildSlice usl rfl rfl rfl rfl rfl rfl rfl rfl rfl rfl rfl rfl rfl rfl ?_
  repeat (refine Run.go rfl ?_)
  refine Run.cs rfl (l01Compare_ct x y true hx hy) rfl rfl ?_
  repeat (refine Run.go rfl ?_)
  exact Run.ret hg rfl rfl

def outI (l : List Bk) : Int := if fi (ooo l) (List.range (l.length - 1)) < 0 then -1 else fi (ooo l) (List.range (l.length - 1)) + 1
theorem outI_srt (l : List Bk) : decide (0 ≤ outI l) = !srt l := by
  have h := fi_nonneg (ooo l) (List.range (l.length - 1))
  unfold outI srt
  rw [Bool.not_not, ← h]
  congr 1
  by_cases h0 : fi (ooo l) (List.range (l.length - 1)) < 0
  · rw [if_pos h0]
    simp
    omega
  · rw [if_neg h0]
    simp
    omega

noncomputable def X85 : Fx := ⟨Tryz.prog, tys, 85, Tryz.f85, [0]⟩
theorem X85_ok : X85.Ok := ⟨Tryz.func85, tys_ok⟩
theorem l01Out_ct (l : List Bk) (ex : Bool) (hlen : l.length ≤ 1048576) (hr : ∀ x ∈ l, bkRng x) : Ct Tryz.prog 85 [.ro 8 ex (l.map bkA)] (i64 (outI l)) [] := by
  refine Ct.intro X85 X85_ok rfl rfl rfl rfl fun g hg => ?_
  repeat (refine Run.go rfl ?_)
  refine Run.loop (fun j : Nat => ⟨[(0, .ro 8 ex (l.map bkA)), (3, i64 ((j + 1 : Nat) : Int))], []⟩) (fun j => j ≤ l.length - 1 ∧ j ≤ (List.range (l.length - 1)).findIdx (ooo l)) (fun j => l.length - 1 - j) 0 ⟨by omega, by omega⟩ ?_ ?_
  · exact St.Le.mk' ⟨rfl, rfl, trivial⟩ trivial
  rintro j ⟨hj1, hj2⟩ IH
  repeat (refine Run.go rfl ?_)
  refine Run.cond rfl (fun h => ?_) (fun h => ?_)
  · have hlt : j + 1 < l.length := by simp at h; omega
    have hjr : j < (List.range (l.length - 1)).length := by rw [List.length_range]; omega
    have hoo : ooo l (List.range (l.length - 1))[j] = decide (uc l[j + 1] l[j] < 0) := by rw [List.getElem_range]; exact ooo_at hlt
    repeat (refine Run.go rfl ?_)
    refine Run.draw (by kernel_rfl) (by decide +kernel) ?_
    repeat (refine Quiet.go rfl ?_)
    refine Quiet.val rfl rfl (ValOk.idx (bkA l[j + 1]) rfl rfl rfl rfl rfl (by omega) (by simp only [Int.toNat_natCast, List.getElem?_map, List.getElem?_eq_getElem hlt, Option.map_some])) rfl ?_
    repeat (refine Quiet.go rfl ?_)
    rw [show IntKind.i64.wrap (((j + 1 : Nat) : Int) - 1) = (j : Int) by rw [wrap_i64 (by omega) (by omega)]; omega]
    refine Quiet.val rfl rfl (ValOk.idx (bkA l[j]) rfl rfl rfl rfl rfl (by omega) (by simp only [Int.toNat_natCast, List.getElem?_map, List.getElem?_eq_getElem (Nat.lt_of_succ_lt hlt), Option.map_some])) rfl ?_
    repeat (refine Quiet.go rfl ?_)
    refine Quiet.cs rfl rfl rfl rfl rfl (l01Usual_ct l[j + 1] l[j] (hr _ (by simp)) (hr _ (by simp))) rfl rfl ?_
    repeat (refine Quiet.go rfl ?_)
    refine Quiet.nil ?_
    repeat (refine Run.go rfl ?_)
    refine Run.cond rfl (fun h => ?_) (fun h => ?_)
    · have h : ooo l (List.range (l.length - 1))[j] = true := by rw [hoo]; exact h
      have hf := fi_at hjr h hj2
      repeat (refine Run.go rfl ?_)
      refine Run.ret hg rfl ?_
      rw [outI, hf, if_neg (by omega)]
      rfl
    · have h : ooo l (List.range (l.length - 1))[j] = false := by rw [hoo]; exact h
      repeat (refine Run.go rfl ?_)
      refine Run.of (IH (j + 1) ⟨by omega, fi_next hjr h hj2⟩ (by omega)) ⟨rfl, ?_, trivial⟩ trivial
      show i64 _ = _
      rw [wrap_i64 (by omega) (by omega)]
      rfl
  · have hj : l.length - 1 ≤ j := by simp at h; omega
    repeat (refine Run.go rfl ?_)
    refine Run.ret hg rfl ?_
    have hf := fi_none (p := ooo l) (l := List.range (l.length - 1)) (by rw [List.length_range]; omega)
    rw [outI, hf, if_pos (by decide)]
    rfl

def stCode (a b : List Bk) : Int := if vBs a && vBs b then (if srt a then 0 else 4) else 1

noncomputable def X41 : Fx := ⟨Tryz.prog, tys, 41, Tryz.f41, [0, 1]⟩
theorem X41_ok : X41.Ok := ⟨Tryz.func41, tys_ok⟩
theorem l07Both_ct (a b : List Bk) (e1 e2 : Bool) (ha : a.length ≤ 1048576 ∧ ∀ x ∈ a, bkRng x) (hb : b.length ≤ 1048576 ∧ ∀ x ∈ b, bkRng x) : Ct Tryz.prog 41 [.ro 8 e1 (a.map bkA), .ro 8 e2 (b.map bkA)] (i64 (stCode a b)) [] := by
  refine Ct.intro X41 X41_ok rfl rfl rfl rfl fun g hg => ?_
  repeat (refine Run.go rfl ?_)
  refine Run.cs rfl (l01Ok_ct a e1 ha.1 ha.2) rfl rfl ?_
  repeat (refine Run.go rfl ?_)
  refine Run.bool 8 rfl (fun h => ?_) (fun h1 => ?_)
  · have h : vBs a = false := by simpa using h
    repeat (refine Run.go rfl ?_)
    refine Run.cond rfl (fun _ => ?_) (fun h => by simp at h)
    repeat (refine Run.go rfl ?_)
    refine Run.ret hg rfl ?_
    rw [stCode, h]
    rfl
  have h1 : vBs a = true := by simpa using h1
  repeat (refine Run.go rfl ?_)
  refine Run.cs rfl (l01Ok_ct b e2 hb.1 hb.2) rfl rfl ?_
  repeat (refine Run.go rfl ?_)
  refine Run.cond rfl (fun h => ?_) (fun h2 => ?_)
  · have h : vBs b = false := by simpa using h
    repeat (refine Run.go rfl ?_)
    refine Run.ret hg rfl ?_
    rw [stCode, h1, h]
    rfl
  have h2 : vBs b = true := by simpa using h2
  repeat (refine Run.go rfl ?_)
  refine Run.cs rfl (l01Out_ct a e1 ha.1 ha.2) rfl rfl ?_
  repeat (refine Run.go rfl ?_)
  have ho := outI_srt a
  refine Run.cond rfl (fun h => ?_) (fun h => ?_)
  · have h : decide (0 ≤ outI a) = true := h
    rw [ho] at h
    have h : srt a = false := by simpa using h
    repeat (refine Run.go rfl ?_)
    refine Run.ret hg rfl ?_
    rw [stCode, h1, h2, h]
    rfl
  · have h : decide (0 ≤ outI a) = false := h
    rw [ho] at h
    have h : srt a = true := by simpa using h
    repeat (refine Run.go rfl ?_)
    refine Run.ret hg rfl ?_
    rw [stCode, h1, h2, h]
    rfl

noncomputable def X39 : Fx := ⟨Tryz.prog, tys, 39, Tryz.f39, [0, 1]⟩
theorem X39_ok : X39.Ok := ⟨Tryz.func39, tys_ok⟩
theorem stockCode_ct (a b : List Bk) (e1 e2 : Bool) (ha : a.length ≤ 1048576) (hb : b.length ≤ 1048576) : Ct Tryz.prog 39 [.ro 8 e1 (a.map bkA), .ro 8 e2 (b.map bkA)] (i64 (stCode a b)) [] := by
  refine Ct.intro X39 X39_ok rfl rfl rfl rfl fun g hg => ?_
  repeat (refine Run.go rfl ?_)
  refine Run.cs rfl (validBooks_ct a e1 ha) rfl rfl ?_
  repeat (refine Run.go rfl ?_)
  refine Run.bool 9 rfl (fun h => ?_) (fun h1 => ?_)
  · have h : vBs a = false := by simpa using h
    repeat (refine Run.go rfl ?_)
    refine Run.cond rfl (fun _ => ?_) (fun h => by simp at h)
    repeat (refine Run.go rfl ?_)
    refine Run.ret hg rfl ?_
    rw [stCode, h]
    rfl
  have h1 : vBs a = true := by simpa using h1
  repeat (refine Run.go rfl ?_)
  refine Run.cs rfl (validBooks_ct b e2 hb) rfl rfl ?_
  repeat (refine Run.go rfl ?_)
  refine Run.cond rfl (fun h => ?_) (fun h2 => ?_)
  · have h : vBs b = false := by simpa using h
    repeat (refine Run.go rfl ?_)
    refine Run.ret hg rfl ?_
    rw [stCode, h1, h]
    rfl
  have h2 : vBs b = true := by simpa using h2
  repeat (refine Run.go rfl ?_)
  refine Run.cs rfl (isSorted_ct a e1 ha) rfl rfl ?_
  repeat (refine Run.go rfl ?_)
  refine Run.cond rfl (fun h => ?_) (fun h => ?_)
  · have h : srt a = false := by simpa using h
    repeat (refine Run.go rfl ?_)
    refine Run.ret hg rfl ?_
    rw [stCode, h1, h2, h]
    rfl
  · have h : srt a = true := by simpa using h
    repeat (refine Run.go rfl ?_)
    refine Run.ret hg rfl ?_
    rw [stCode, h1, h2, h]
    rfl
end Go.Proofs.YtenknlnnnicdeaaGreatDoor

/- Contracts of the program's functions, and what follows from them. -/
set_option maxRecDepth 100000
namespace Go.Proofs.YtenknlnnnicdeaaGreatDoor
open Go Go.Av

/-! Books as keys; which books one list has more often than another one. -/

theorem i16_wf {n : Int} (h : i16r n) : (Lit.int .i16 n).wf = true := by
  simpa [Lit.wf, IntKind.min, IntKind.max, IntKind.signed, IntKind.bits, i16r] using h
theorem u8_wf {n : Int} (h : u8r n) : (Lit.int .u8 n).wf = true := by
  simpa [Lit.wf, IntKind.min, IntKind.max, IntKind.signed, IntKind.bits, u8r] using h

theorem bk_key (x : Bk) (hr : bkRng x) : ∃ l, keyOf Tryz.prog 47 (.agg (bkV x).toArray) = some l := by
  obtain ⟨r0, r1, r2, r3, r4, r5, r6, r7⟩ := hr
  have e0 := i16_wf r0
  have e1 := u8_wf r1
  have e2 := u8_wf r2
  have e3 := u8_wf r3
  have e4 := i16_wf r4
  have e5 := i16_wf r5
  have e6 := i16_wf r6
  have e7 := i16_wf r7
  have u0 := Tryz.underlying47
  have u1 := Tryz.underlying44
  have u2 := Tryz.underlying5
  have u3 := Tryz.underlying45
  have hk : Tryz.prog.keyType 47 = true := by kernel_rfl
  have hf : (Value.agg (bkV x).toArray).formed Tryz.prog 47 = true := by kernel_rfl
  have c0 : Tryz.prog.cellsOf 47 = 8 := by kernel_rfl
  have c1 : Tryz.prog.cellsOf 44 = 1 := by kernel_rfl
  have c2 : Tryz.prog.cellsOf 5 = 1 := by kernel_rfl
  have c3 : Tryz.prog.cellsOf 45 = 3 := by kernel_rfl
  obtain ⟨N, hN⟩ : ∃ N, Tryz.prog.types.size + 1 = N + 4 := ⟨Tryz.prog.types.size - 3, by kernel_rfl⟩
  refine ⟨.string (keyBytes [.int .i16 x.cl, .int .u8 x.a, .int .u8 x.b, .int .u8 x.c, .int .i16 x.vol, .int .i16 x.wd, .int .i16 x.hi, .int .i16 x.wt]), ?_⟩
  unfold keyOf
  rw [u0]
  simp only [hk, hf, Bool.and_self, if_true, hN]
  simp [Program.keyLits, u0, u1, u2, u3, c0, c1, c2, c3, bkV, Value.cells, e0, e1, e2, e3, e4, e5, e6, e7, List.range_succ]
theorem bkK : KTy Tryz.prog 47 bkV bkRng := by
  refine KTy.of 5 5 (by decide) (by kernel_rfl) (by kernel_rfl) (by rw [Tryz.underlying47]) bk_key ?_ (by kernel_rfl)
  intro a b h
  cases a; cases b
  simp [bkV] at h
  obtain ⟨h1, h2, h3, h4, h5, h6, h7, h8⟩ := h
  simp [h1, h2, h3, h4, h5, h6, h7, h8]
theorem bk_same (x : Bk) : Instr.sameBits 10000 (.agg (bkV x).toArray) (.agg (bkV x).toArray) = true := by
  simp [Instr.sameBits, bkV]

noncomputable def X66 : Fx := ⟨Tryz.prog, tys, 66, Tryz.f66, [0]⟩
theorem X66_ok : X66.Ok := ⟨Tryz.func66, tys_ok⟩
theorem l07Count_ct (l : List Bk) (ex : Bool) (x : Bk) (hlen : l.length ≤ 1048576) (hr : ∀ y ∈ l, bkRng y) (hx : bkRng x) : Ct Tryz.prog 66 [.ro 8 ex (l.map bkA), bkA x] (i64 ((l.count x : Nat) : Int)) [] := by
  refine Ct.intro X66 X66_ok rfl rfl rfl rfl fun g hg => ?_
  repeat (refine Run.go rfl ?_)
  refine Run.loop (fun j : Nat => ⟨[(0, .ro 8 ex (l.map bkA)), (3, .bp (3, 0) 0), (5, i64 (((l.take j).count x : Nat) : Int)), (6, i64 j)], [((3, 0), .box (bkA x).cells)]⟩) (fun j => j ≤ l.length) (fun j => l.length - j) 0 (by omega) ?_ ?_
  · exact St.Le.mk' ⟨rfl, rfl, rfl, rfl, trivial⟩ ⟨rfl, trivial⟩
  intro j hj IH
  repeat (refine Run.go rfl ?_)
  refine Run.cond rfl (fun h => ?_) (fun h => ?_)
  · have hlt : j < l.length := by simpa using h
    have hc : (l.take j).count x ≤ j := Nat.le_trans List.count_le_length (by rw [List.length_take]; omega)
    have hst : (l.take (j + 1)).count x = (l.take j).count x + (if l[j] = x then 1 else 0) := by
      rw [List.take_succ_eq_append_getElem hlt, List.count_append, List.count_singleton]
      congr 1
      by_cases e : l[j] = x <;> simp [e]
    repeat (refine Run.go rfl ?_)
    refine Run.draw (by kernel_rfl) (by decide +kernel) ?_
    repeat (refine Quiet.go rfl ?_)
    refine Quiet.val rfl rfl (ValOk.idx (bkA l[j]) rfl rfl rfl rfl rfl (by omega) (by simp [hlt])) rfl ?_
    repeat (refine Quiet.go rfl ?_)
    refine Quiet.val rfl rfl (ValOk.eqK l[j] x rfl bkK rfl rfl (hr _ (by simp)) hx) rfl ?_
    repeat (refine Quiet.go rfl ?_)
    refine Quiet.nil ?_
    repeat (refine Run.go rfl ?_)
    refine Run.cond rfl (fun h => ?_) (fun h => ?_)
    · have h : l[j] = x := of_decide_eq_true h
      rw [if_pos h] at hst
      repeat (refine Run.go rfl ?_)
      refine Run.of (IH (j + 1) (by omega) (by omega)) ⟨rfl, rfl, ?_, ?_, trivial⟩ ⟨rfl, trivial⟩
      · show i64 (IntKind.i64.wrap ((((l.take j).count x : Nat) : Int) + 1)) = i64 _
        rw [wrap_i64 (by omega) (by omega), hst]
        rfl
      · show i64 _ = _
        rw [wrap_i64 (by omega) (by omega)]
        rfl
    · have h : l[j] ≠ x := of_decide_eq_false h
      rw [if_neg h] at hst
      repeat (refine Run.go rfl ?_)
      refine Run.of (IH (j + 1) (by omega) (by omega)) ⟨rfl, rfl, ?_, ?_, trivial⟩ ⟨rfl, trivial⟩
      · rw [hst]
        rfl
      · show i64 _ = _
        rw [wrap_i64 (by omega) (by omega)]
        rfl
  · have hj' : j = l.length := by simp at h; omega
    subst hj'
    rw [List.take_length]
    repeat (refine Run.go rfl ?_)
    exact Run.ret hg rfl rfl

def moreP (l o : List Bk) (j : Nat) : Bool := decide (o.count (l.getD j bk0) ≤ (l.take j).count (l.getD j bk0))
def more (l o : List Bk) : Nat → List Bk
  | 0 => []
  | j + 1 => more l o j ++ (if moreP l o j then [l.getD j bk0] else [])
theorem more_len (l o : List Bk) (j : Nat) : (more l o j).length ≤ j := by
  induction j with
  | zero => exact Nat.le_refl 0
  | succ j ih =>
    unfold more
    rw [List.length_append]
    split <;> simp <;> omega

noncomputable def X42 : Fx := ⟨Tryz.prog, tys, 42, Tryz.f42, [0, 1]⟩
theorem X42_ok : X42.Ok := ⟨Tryz.func42, tys_ok⟩
theorem l07More_ct (l o : List Bk) (e1 e2 : Bool) (hl : l.length ≤ 1048576 ∧ ∀ x ∈ l, bkRng x) (ho : o.length ≤ 1048576 ∧ ∀ x ∈ o, bkRng x) : Ct Tryz.prog 42 [.ro 8 e1 (l.map bkA), .ro 8 e2 (o.map bkA)] (.own 8 false ((more l o l.length).map bkA)) [] := by
  obtain ⟨hlen, hr⟩ := hl
  refine Ct.intro X42 X42_ok rfl rfl rfl rfl fun g hg => ?_
  repeat (refine Run.go rfl ?_)
  refine Run.buildSlice [] rfl rfl rfl rfl rfl rfl rfl rfl rfl rfl rfl rfl rfl rfl ?_
  repeat (refine Run.go rfl ?_)
  refine Run.loosen0 5 rfl ?_
  refine Run.loop (fun j : Nat => ⟨[(0, .ro 8 e1 (l.map bkA)), (1, .ro 8 e2 (o.map bkA)), (5, .own 8 false ((more l o j).map bkA)), (6, i64 j)], []⟩) (fun j => j ≤ l.length) (fun j => l.length - j) 0 (by omega) ?_ ?_
  · exact St.Le.mk' ⟨rfl, rfl, rfl, rfl, trivial⟩ trivial
  intro j hj IH
  repeat (refine Run.go rfl ?_)
  refine Run.cond rfl (fun h => ?_) (fun h => ?_)
  · have hlt : j < l.length := by simpa using h
    have hm := more_len l o j
    have hst : more l o (j + 1) = more l o j ++ (if moreP l o j then [l.getD j bk0] else []) := rfl
    have hg' : l.getD j bk0 = l[j] := by simp [hlt]
    have hmp : moreP l o j = decide (o.count l[j] ≤ (l.take j).count l[j]) := by rw [moreP, hg']
    rw [hg'] at hst
    repeat (refine Run.go rfl ?_)
    refine Run.draw (by kernel_rfl) (by decide +kernel) ?_
    repeat (refine Quiet.go rfl ?_)
    refine Quiet.val rfl rfl (ValOk.cut (ys := (l.take j).map bkA) (l := 0) (h := (j : Int)) rfl rfl rfl rfl rfl rfl (by omega) (by omega) (by simp; omega) (by simp only [Int.toNat_natCast, Int.toNat_zero, List.drop_zero, List.map_take])) rfl ?_
    repeat (refine Quiet.go rfl ?_)
    refine Quiet.val rfl rfl (ValOk.idx (bkA l[j]) rfl rfl rfl rfl rfl (by omega) (by simp [hlt])) rfl ?_
    repeat (refine Quiet.go rfl ?_)
    refine Quiet.cs rfl rfl rfl rfl rfl (l07Count_ct (l.take j) false l[j] (by rw [List.length_take]; omega) (fun y hy => hr y (List.mem_of_mem_take hy)) (hr _ (by simp))) rfl rfl ?_
    repeat (refine Quiet.go rfl ?_)
    refine Quiet.val rfl rfl (ValOk.idx (bkA l[j]) rfl rfl rfl rfl rfl (by omega) (by simp [hlt])) rfl ?_
    repeat (refine Quiet.go rfl ?_)
    refine Quiet.cs rfl rfl rfl rfl rfl (l07Count_ct o e2 l[j] ho.1 ho.2 (hr _ (by simp))) rfl rfl ?_
    repeat (refine Quiet.go rfl ?_)
    refine Quiet.nil ?_
    repeat (refine Run.go rfl ?_)
    refine Run.cond rfl (fun h => ?_) (fun h => ?_)
    · have h : moreP l o j = true := by
        rw [hmp]
        have : ((o.count l[j] : Nat) : Int) ≤ (((l.take j).count l[j] : Nat) : Int) := of_decide_eq_true h
        exact decide_eq_true (by omega)
      rw [if_pos h] at hst
      repeat (refine Run.go rfl ?_)
      refine Run.val rfl rfl rfl (ValOk.idx (bkA l[j]) rfl rfl rfl rfl rfl (by omega) (by simp [hlt])) rfl ?_
      repeat (refine Run.go rfl ?_)
      refine Run.buildSlice [bkA l[j]] rfl rfl rfl rfl rfl rfl rfl rfl rfl rfl rfl rfl rfl rfl ?_
      refine Run.appendo rfl rfl rfl rfl rfl rfl rfl rfl rfl rfl rfl rfl rfl rfl (by show (_ + 1) * 14 ≤ _; simp; omega) (by simp [capMax]; omega) (by decide) rfl ?_
      repeat (refine Run.go rfl ?_)
      refine Run.of (IH (j + 1) (by omega) (by omega)) ⟨rfl, rfl, ?_, ?_, trivial⟩ trivial
      · rw [hst]
        show AV.own _ _ _ = AV.own _ _ _
        simp
      · show i64 _ = _
        rw [wrap_i64 (by omega) (by omega)]
        rfl
    · have h : moreP l o j = false := by
        rw [hmp]
        have : ¬ ((o.count l[j] : Nat) : Int) ≤ (((l.take j).count l[j] : Nat) : Int) := of_decide_eq_false h
        exact decide_eq_false (by omega)
      rw [if_neg (by simp [h]), List.append_nil] at hst
      repeat (refine Run.go rfl ?_)
      refine Run.of (IH (j + 1) (by omega) (by omega)) ⟨rfl, rfl, ?_, ?_, trivial⟩ trivial
      · rw [hst]
        rfl
      · show i64 _ = _
        rw [wrap_i64 (by omega) (by omega)]
        rfl
  · have hj' : j = l.length := by simp at h; omega
    subst hj'
    repeat (refine Run.go rfl ?_)
    refine Run.pack 4 rfl rfl rfl ?_
    exact Run.ret hg rfl rfl

/-! The number at a key. -/

def kget (n : Bk) (l : List (Bk × Int)) : Int := ((kfind n l 0).map (·.2)).getD 0
def kput (n : Bk) (u : Int) (l : List (Bk × Int)) : List (Bk × Int) := match kfind n l 0 with
  | some (j, _) => l.set j (n, u)
  | none => l ++ [(n, u)]

theorem kfind_shift (n : Bk) (l : List (Bk × Int)) (i : Nat) : kfind n l i = (kfind n l 0).map fun x => (x.1 + i, x.2) := by
  induction l generalizing i with
  | nil => rfl
  | cons x r ih =>
    unfold kfind
    by_cases h : n = x.1
    · simp [h]
    · simp only [if_neg h]
      rw [ih (i + 1), ih (0 + 1), Option.map_map]
      congr 1
      funext y
      simp only [Function.comp]
      congr 1
      omega

theorem kfind_append_none {n m : Bk} {u : Int} {l : List (Bk × Int)} (h : kfind n l 0 = none) : kfind n (l ++ [(m, u)]) 0 = if n = m then some (l.length, u) else none := by
  induction l with
  | nil => simp [kfind]
  | cons x r ih =>
    unfold kfind at h ⊢
    rw [List.cons_append]
    by_cases hx : n = x.1
    · simp [hx] at h
    · simp only [if_neg hx] at h ⊢
      rw [kfind_shift] at h ⊢
      have h0 : kfind n r 0 = none := by
        cases hk : kfind n r 0 with
        | none => rfl
        | some y => rw [hk] at h; simp at h
      rw [ih h0]
      split <;> simp

theorem kget_append (n m : Bk) (u : Int) (l : List (Bk × Int)) (h : kfind m l 0 = none) : kget n (l ++ [(m, u)]) = if n = m then u else kget n l := by
  unfold kget
  by_cases hn : n = m
  · subst hn
    rw [kfind_append_none h, if_pos rfl, if_pos rfl]
    rfl
  · rw [if_neg hn]
    cases hk : kfind n l 0 with
    | none => rw [kfind_append_none hk, if_neg hn]
    | some y =>
      have : kfind n (l ++ [(m, u)]) 0 = some y := by
        clear h
        induction l generalizing y with
        | nil => simp [kfind] at hk
        | cons x r ih =>
          unfold kfind at hk ⊢
          rw [List.cons_append]
          by_cases hx : n = x.1
          · simpa [hx] using hk
          · simp only [if_neg hx] at hk ⊢
            rw [kfind_shift] at hk ⊢
            cases hr : kfind n r 0 with
            | none => rw [hr] at hk; simp at hk
            | some z => rw [ih z hr]; rw [hr] at hk; exact hk
      rw [this]

theorem kget_set (n m : Bk) (u : Int) : ∀ (l : List (Bk × Int)) (j : Nat) (v : Int), kfind m l 0 = some (j, v) → kget n (l.set j (m, u)) = if n = m then u else kget n l := by
  intro l
  induction l with
  | nil => intro j v h; simp [kfind] at h
  | cons x r ih =>
    intro j v h
    unfold kfind at h
    by_cases hx : m = x.1
    · rw [if_pos hx] at h
      cases h
      rw [List.set_cons_zero]
      unfold kget
      simp only [kfind]
      by_cases hn : n = m
      · simp [hn]
      · rw [if_neg hn, if_neg hn, if_neg (by rw [← hx]; exact hn)]
    · rw [if_neg hx, kfind_shift] at h
      cases hr : kfind m r 0 with
      | none => rw [hr] at h; simp at h
      | some z =>
        rw [hr] at h
        simp only [Option.map_some, Option.some.injEq, Prod.mk.injEq] at h
        obtain ⟨h1, h2⟩ := h
        have ihz := ih z.1 z.2 hr
        rw [← h1, show z.1 + (0 + 1) = z.1 + 1 from rfl, List.set_cons_succ]
        have e : ∀ t : List (Bk × Int), kget n (x :: t) = if n = x.1 then x.2 else kget n t := by
          intro t
          unfold kget
          simp only [kfind]
          by_cases hn : n = x.1
          · simp [hn]
          · rw [if_neg hn, if_neg hn, kfind_shift]
            cases kfind n t 0 <;> rfl
        rw [e, e, ihz]
        by_cases hn : n = x.1
        · rw [if_pos hn, if_pos hn, if_neg (by rw [hn]; exact fun h => hx h.symm)]
        · rw [if_neg hn, if_neg hn]

theorem kget_kput (n m : Bk) (u : Int) (l : List (Bk × Int)) : kget n (kput m u l) = if n = m then u else kget n l := by
  unfold kput
  cases hk : kfind m l 0 with
  | none => exact kget_append n m u l hk
  | some p => exact kget_set n m u l p.1 p.2 hk

theorem kput_ok {m : Bk} {u : Int} {l : List (Bk × Int)} (hm : bkRng m) (hl : ∀ x ∈ l, bkRng x.1) : ∀ x ∈ kput m u l, bkRng x.1 := by
  intro x hx
  unfold kput at hx
  split at hx
  · rcases List.mem_or_eq_of_mem_set hx with h | h
    · exact hl x h
    · rw [h]; exact hm
  · rcases List.mem_append.mp hx with h | h
    · exact hl x h
    · rw [List.mem_singleton.mp h]; exact hm

def incs : List Bk → List (Bk × Int)
  | l => l.foldl (fun m b => kput b (kget b m + 1) m) []
theorem incs_snoc (l : List Bk) (x : Bk) : incs (l ++ [x]) = kput x (kget x (incs l) + 1) (incs l) := by simp [incs]
theorem incs_get (n : Bk) (l : List Bk) : kget n (incs l) = (l.count n : Nat) := by
  suffices h : ∀ k, k ≤ l.length → kget n (incs (l.take k)) = ((l.take k).count n : Nat) by
    have := h l.length (Nat.le_refl _)
    rwa [List.take_length] at this
  intro k
  induction k with
  | zero => intro _; rfl
  | succ k ih =>
    intro hk
    have hlt : k < l.length := hk
    rw [List.take_succ_eq_append_getElem hlt, incs_snoc, kget_kput, List.count_append, List.count_singleton]
    have := ih (by omega)
    by_cases e : n = l[k]
    · rw [if_pos e, ← e, this]
      simp
    · rw [if_neg e, this]
      have : (l[k] == n) = false := by simpa using fun h => e h.symm
      simp [this]
theorem incs_ok {l : List Bk} (h : ∀ x ∈ l, bkRng x) : ∀ k, ∀ x ∈ incs (l.take k), bkRng x.1 := by
  intro k
  induction k with
  | zero => intro x hx; simp [incs] at hx
  | succ k ih =>
    by_cases hk : k < l.length
    · rw [List.take_succ_eq_append_getElem hk, incs_snoc]
      exact kput_ok (h _ (by simp)) ih
    · rw [List.take_of_length_le (by omega)] at ih ⊢
      exact ih

def decs (m : List (Bk × Int)) (l : List Bk) : List (Bk × Int) := l.foldl (fun m b => kput b (kget b m - 1) m) m
theorem decs_snoc (m : List (Bk × Int)) (l : List Bk) (x : Bk) : decs m (l ++ [x]) = kput x (kget x (decs m l) - 1) (decs m l) := by simp [decs]
theorem decs_get (n : Bk) (m : List (Bk × Int)) (l : List Bk) : kget n (decs m l) = kget n m - (l.count n : Nat) := by
  suffices h : ∀ k, k ≤ l.length → kget n (decs m (l.take k)) = kget n m - ((l.take k).count n : Nat) by
    have := h l.length (Nat.le_refl _)
    rwa [List.take_length] at this
  intro k
  induction k with
  | zero => intro _; simp [decs]
  | succ k ih =>
    intro hk
    have hlt : k < l.length := hk
    rw [List.take_succ_eq_append_getElem hlt, decs_snoc, kget_kput, List.count_append, List.count_singleton]
    have := ih (by omega)
    by_cases e : n = l[k]
    · rw [if_pos e, ← e, this]
      simp
      omega
    · rw [if_neg e, this]
      have : (l[k] == n) = false := by simpa using fun h => e h.symm
      simp [this]
theorem decs_ok {m : List (Bk × Int)} {l : List Bk} (hm : ∀ x ∈ m, bkRng x.1) (h : ∀ x ∈ l, bkRng x) : ∀ k, ∀ x ∈ decs m (l.take k), bkRng x.1 := by
  intro k
  induction k with
  | zero => exact hm
  | succ k ih =>
    by_cases hk : k < l.length
    · rw [List.take_succ_eq_append_getElem hk, decs_snoc]
      exact kput_ok (h _ (by simp)) ih
    · rw [List.take_of_length_le (by omega)] at ih ⊢
      exact ih
end Go.Proofs.YtenknlnnnicdeaaGreatDoor

/- Contracts of the program's functions, and what follows from them. -/
set_option maxRecDepth 100000
namespace Go.Proofs.YtenknlnnnicdeaaGreatDoor
open Go Go.Av

/-! What one list has more often, by a map of numbers. -/

noncomputable def X40 : Fx := ⟨Tryz.prog, tys, 40, Tryz.f40, [0, 1]⟩
theorem X40_ok : X40.Ok := ⟨Tryz.func40, tys_ok⟩
theorem surplus_ct (l o : List Bk) (e1 e2 : Bool) (hl : l.length ≤ 1048576 ∧ ∀ x ∈ l, bkRng x) (ho : o.length ≤ 1048576 ∧ ∀ x ∈ o, bkRng x) : Ct Tryz.prog 40 [.ro 8 e1 (l.map bkA), .ro 8 e2 (o.map bkA)] (.own 8 false ((more l o l.length).map bkA)) [] := by
  obtain ⟨hlen, hr⟩ := hl
  obtain ⟨holen, hor⟩ := ho
  refine Ct.intro X40 X40_ok rfl rfl rfl rfl fun g hg => ?_
  repeat (refine Run.go rfl ?_)
  refine Run.makeMapK (5, 0) rfl rfl rfl rfl rfl fun b => ?_
  repeat (refine Run.go rfl ?_)
  refine Run.loop (fun j : Nat => ⟨[(0, .ro 8 e1 (l.map bkA)), (5, .lit (.map (some b))), (12, .ro 8 e2 (o.map bkA)), (13, i64 o.length), (14, i64 j)], [((5, 0), .mq b (mqv bkV (incs (o.take j))))]⟩) (fun j => j ≤ o.length) (fun j => o.length - j) 0 (by omega) ?_ ?_
  · refine St.Le.mk' ⟨rfl, rfl, rfl, ?_, rfl, trivial⟩ ⟨rfl, trivial⟩
    show i64 (o.map bkA).length = _
    simp
  intro j hj IH
  repeat (refine Run.go rfl ?_)
  refine Run.cond rfl (fun h => ?_) (fun h => ?_)
  · have hlt : j < o.length := by simpa using h
    repeat (refine Run.go rfl ?_)
    refine Run.val rfl rfl rfl (ValOk.idx (bkA o[j]) rfl rfl rfl rfl rfl (by omega) (by simp [hlt])) rfl ?_
    have hx : bkRng o[j] := hor _ (by simp)
    have hm := incs_ok hor j
    have hnext := incs_snoc (o.take j) o[j]
    rw [← List.take_succ_eq_append_getElem hlt] at hnext
    have hkg := incs_get o[j] (o.take j)
    have hc : (o.take j).count o[j] ≤ j := Nat.le_trans List.count_le_length (by rw [List.length_take]; omega)
    generalize incs (o.take j) = m at hm hnext hkg
    generalize hxx : o[j] = x at hx hnext hkg hc
    have hw : IntKind.i64.wrap (kget x m + 1) = kget x m + 1 := wrap_i64 (by omega) (by omega)
    repeat (refine Run.go rfl ?_)
    rcases hk : kfind x m 0 with _ | pv
    · -- a new key
      have hlast : (m ++ [(x, (0 : Int))])[m.length]? = some (x, 0) := by simp
      have hm1 : ∀ y ∈ m ++ [(x, (0 : Int))], bkRng y.1 := by
        intro y hy
        rcases List.mem_append.mp hy with h | h
        · exact hm y h
        · rw [List.mem_singleton.mp h]; exact hx
      have hk0 : kget x m = 0 := by rw [kget, hk]; rfl
      have hk1 : kget x (m ++ [(x, 0)]) = 0 := by rw [kget_append _ _ _ _ hk, if_pos rfl]
      have hset : (m ++ [(x, (0 : Int))]).set m.length (x, kget x m + 1) = incs (o.take (j + 1)) := by
        rw [hnext, kput, hk]
        simp
      have hnew0 : (m ++ [(x, (0 : Int))]).set m.length (x, IntKind.i64.wrap (kget x m + 1)) = incs (o.take (j + 1)) := by rw [hw, hset]
      have hnew1 : (m ++ [(x, (0 : Int))]).set m.length (x, IntKind.i64.wrap (kget x (m ++ [(x, 0)]) + 1)) = incs (o.take (j + 1)) := by rw [hk1.trans hk0.symm, hw, hset]
      refine Run.drawn [[0, 1, 2, 3, 4, 5, 6], [0, 1, 2, 4, 3, 5, 6], [0, 1, 2, 4, 5, 3, 6], [0, 1, 4, 2, 3, 5, 6], [0, 1, 4, 2, 5, 3, 6], [0, 1, 4, 5, 2, 3, 6], [1, 0, 2, 3, 4, 5, 6], [1, 0, 2, 4, 3, 5, 6], [1, 0, 2, 4, 5, 3, 6], [1, 0, 4, 2, 3, 5, 6], [1, 0, 4, 2, 5, 3, 6], [1, 0, 4, 5, 2, 3, 6]] ⟨[(0, .ro 8 e1 (l.map bkA)), (5, .lit (.map (some b))), (12, .ro 8 e2 (o.map bkA)), (13, i64 o.length), (14, i64 j)], [((5, 0), .mq b (mqv bkV (incs (o.take (j + 1)))))]⟩ (by decide +kernel) (by kernel_rfl) ?_ fun _ hN => ⟨?_, ?_, ?_, ?_, ?_, ?_, ?_, ?_, ?_, ?_, ?_, ?_, trivial⟩
      rotate_left
      · repeat (refine Run.go rfl ?_)
        refine Run.val rfl rfl rfl (ValOk.lookupK (id := (5, 0)) (kv := bkV) (l := m) x rfl rfl rfl bkK (by kernel_rfl) rfl rfl rfl hx hm) rfl ?_
        repeat (refine Run.go rfl ?_)
        refine Run.entryNew (id := (5, 0)) (kv := bkV) x rfl rfl rfl rfl rfl rfl bkK (by kernel_rfl) rfl rfl rfl hx hm hk rfl ?_
        repeat (refine Run.go rfl ?_)
        refine Run.entrySet (id := (5, 0)) (kv := bkV) m.length x rfl rfl rfl rfl rfl rfl rfl rfl hlast ?_
        repeat (refine Run.go rfl ?_)
        refine Run.of hN ⟨rfl, rfl, rfl, rfl, rfl, trivial⟩ ⟨?_, trivial⟩
        show Ob.mq b (mqv bkV ((m ++ [(x, 0)]).set m.length (x, IntKind.i64.wrap (kget x m + 1)))) = Ob.mq b (mqv bkV (incs (o.take (j + 1))))
        rw [hnew0]
      · repeat (refine Run.go rfl ?_)
        refine Run.val rfl rfl rfl (ValOk.lookupK (id := (5, 0)) (kv := bkV) (l := m) x rfl rfl rfl bkK (by kernel_rfl) rfl rfl rfl hx hm) rfl ?_
        repeat (refine Run.go rfl ?_)
        refine Run.entryNew (id := (5, 0)) (kv := bkV) x rfl rfl rfl rfl rfl rfl bkK (by kernel_rfl) rfl rfl rfl hx hm hk rfl ?_
        repeat (refine Run.go rfl ?_)
        refine Run.entrySet (id := (5, 0)) (kv := bkV) m.length x rfl rfl rfl rfl rfl rfl rfl rfl hlast ?_
        repeat (refine Run.go rfl ?_)
        refine Run.of hN ⟨rfl, rfl, rfl, rfl, rfl, trivial⟩ ⟨?_, trivial⟩
        show Ob.mq b (mqv bkV ((m ++ [(x, 0)]).set m.length (x, IntKind.i64.wrap (kget x m + 1)))) = Ob.mq b (mqv bkV (incs (o.take (j + 1))))
        rw [hnew0]
      · repeat (refine Run.go rfl ?_)
        refine Run.val rfl rfl rfl (ValOk.lookupK (id := (5, 0)) (kv := bkV) (l := m) x rfl rfl rfl bkK (by kernel_rfl) rfl rfl rfl hx hm) rfl ?_
        repeat (refine Run.go rfl ?_)
        refine Run.entryNew (id := (5, 0)) (kv := bkV) x rfl rfl rfl rfl rfl rfl bkK (by kernel_rfl) rfl rfl rfl hx hm hk rfl ?_
        repeat (refine Run.go rfl ?_)
        refine Run.entrySet (id := (5, 0)) (kv := bkV) m.length x rfl rfl rfl rfl rfl rfl rfl rfl hlast ?_
        repeat (refine Run.go rfl ?_)
        refine Run.of hN ⟨rfl, rfl, rfl, rfl, rfl, trivial⟩ ⟨?_, trivial⟩
        show Ob.mq b (mqv bkV ((m ++ [(x, 0)]).set m.length (x, IntKind.i64.wrap (kget x m + 1)))) = Ob.mq b (mqv bkV (incs (o.take (j + 1))))
        rw [hnew0]
      · repeat (refine Run.go rfl ?_)
        refine Run.entryNew (id := (5, 0)) (kv := bkV) x rfl rfl rfl rfl rfl rfl bkK (by kernel_rfl) rfl rfl rfl hx hm hk rfl ?_
        repeat (refine Run.go rfl ?_)
        refine Run.val rfl rfl rfl (ValOk.lookupK (id := (5, 0)) (kv := bkV) (l := m ++ [(x, 0)]) x rfl rfl rfl bkK (by kernel_rfl) rfl rfl rfl hx hm1) rfl ?_
        repeat (refine Run.go rfl ?_)
        refine Run.entrySet (id := (5, 0)) (kv := bkV) m.length x rfl rfl rfl rfl rfl rfl rfl rfl hlast ?_
        repeat (refine Run.go rfl ?_)
        refine Run.of hN ⟨rfl, rfl, rfl, rfl, rfl, trivial⟩ ⟨?_, trivial⟩
        show Ob.mq b (mqv bkV ((m ++ [(x, 0)]).set m.length (x, IntKind.i64.wrap (kget x (m ++ [(x, 0)]) + 1)))) = Ob.mq b (mqv bkV (incs (o.take (j + 1))))
        rw [hnew1]
      · repeat (refine Run.go rfl ?_)
        refine Run.entryNew (id := (5, 0)) (kv := bkV) x rfl rfl rfl rfl rfl rfl bkK (by kernel_rfl) rfl rfl rfl hx hm hk rfl ?_
        repeat (refine Run.go rfl ?_)
        refine Run.val rfl rfl rfl (ValOk.lookupK (id := (5, 0)) (kv := bkV) (l := m ++ [(x, 0)]) x rfl rfl rfl bkK (by kernel_rfl) rfl rfl rfl hx hm1) rfl ?_
        repeat (refine Run.go rfl ?_)
        refine Run.entrySet (id := (5, 0)) (kv := bkV) m.length x rfl rfl rfl rfl rfl rfl rfl rfl hlast ?_
        repeat (refine Run.go rfl ?_)
        refine Run.of hN ⟨rfl, rfl, rfl, rfl, rfl, trivial⟩ ⟨?_, trivial⟩
        show Ob.mq b (mqv bkV ((m ++ [(x, 0)]).set m.length (x, IntKind.i64.wrap (kget x (m ++ [(x, 0)]) + 1)))) = Ob.mq b (mqv bkV (incs (o.take (j + 1))))
        rw [hnew1]
      · repeat (refine Run.go rfl ?_)
        refine Run.entryNew (id := (5, 0)) (kv := bkV) x rfl rfl rfl rfl rfl rfl bkK (by kernel_rfl) rfl rfl rfl hx hm hk rfl ?_
        repeat (refine Run.go rfl ?_)
        refine Run.val rfl rfl rfl (ValOk.lookupK (id := (5, 0)) (kv := bkV) (l := m ++ [(x, 0)]) x rfl rfl rfl bkK (by kernel_rfl) rfl rfl rfl hx hm1) rfl ?_
        repeat (refine Run.go rfl ?_)
        refine Run.entrySet (id := (5, 0)) (kv := bkV) m.length x rfl rfl rfl rfl rfl rfl rfl rfl hlast ?_
        repeat (refine Run.go rfl ?_)
        refine Run.of hN ⟨rfl, rfl, rfl, rfl, rfl, trivial⟩ ⟨?_, trivial⟩
        show Ob.mq b (mqv bkV ((m ++ [(x, 0)]).set m.length (x, IntKind.i64.wrap (kget x (m ++ [(x, 0)]) + 1)))) = Ob.mq b (mqv bkV (incs (o.take (j + 1))))
        rw [hnew1]
      · repeat (refine Run.go rfl ?_)
        refine Run.val rfl rfl rfl (ValOk.lookupK (id := (5, 0)) (kv := bkV) (l := m) x rfl rfl rfl bkK (by kernel_rfl) rfl rfl rfl hx hm) rfl ?_
        repeat (refine Run.go rfl ?_)
        refine Run.entryNew (id := (5, 0)) (kv := bkV) x rfl rfl rfl rfl rfl rfl bkK (by kernel_rfl) rfl rfl rfl hx hm hk rfl ?_
        repeat (refine Run.go rfl ?_)
        refine Run.entrySet (id := (5, 0)) (kv := bkV) m.length x rfl rfl rfl rfl rfl rfl rfl rfl hlast ?_
        repeat (refine Run.go rfl ?_)
        refine Run.of hN ⟨rfl, rfl, rfl, rfl, rfl, trivial⟩ ⟨?_, trivial⟩
        show Ob.mq b (mqv bkV ((m ++ [(x, 0)]).set m.length (x, IntKind.i64.wrap (kget x m + 1)))) = Ob.mq b (mqv bkV (incs (o.take (j + 1))))
        rw [hnew0]
      · repeat (refine Run.go rfl ?_)
        refine Run.val rfl rfl rfl (ValOk.lookupK (id := (5, 0)) (kv := bkV) (l := m) x rfl rfl rfl bkK (by kernel_rfl) rfl rfl rfl hx hm) rfl ?_
        repeat (refine Run.go rfl ?_)
        refine Run.entryNew (id := (5, 0)) (kv := bkV) x rfl rfl rfl rfl rfl rfl bkK (by kernel_rfl) rfl rfl rfl hx hm hk rfl ?_
        repeat (refine Run.go rfl ?_)
        refine Run.entrySet (id := (5, 0)) (kv := bkV) m.length x rfl rfl rfl rfl rfl rfl rfl rfl hlast ?_
        repeat (refine Run.go rfl ?_)
        refine Run.of hN ⟨rfl, rfl, rfl, rfl, rfl, trivial⟩ ⟨?_, trivial⟩
        show Ob.mq b (mqv bkV ((m ++ [(x, 0)]).set m.length (x, IntKind.i64.wrap (kget x m + 1)))) = Ob.mq b (mqv bkV (incs (o.take (j + 1))))
        rw [hnew0]
      · repeat (refine Run.go rfl ?_)
        refine Run.val rfl rfl rfl (ValOk.lookupK (id := (5, 0)) (kv := bkV) (l := m) x rfl rfl rfl bkK (by kernel_rfl) rfl rfl rfl hx hm) rfl ?_
        repeat (refine Run.go rfl ?_)
        refine Run.entryNew (id := (5, 0)) (kv := bkV) x rfl rfl rfl rfl rfl rfl bkK (by kernel_rfl) rfl rfl rfl hx hm hk rfl ?_
        repeat (refine Run.go rfl ?_)
        refine Run.entrySet (id := (5, 0)) (kv := bkV) m.length x rfl rfl rfl rfl rfl rfl rfl rfl hlast ?_
        repeat (refine Run.go rfl ?_)
        refine Run.of hN ⟨rfl, rfl, rfl, rfl, rfl, trivial⟩ ⟨?_, trivial⟩
        show Ob.mq b (mqv bkV ((m ++ [(x, 0)]).set m.length (x, IntKind.i64.wrap (kget x m + 1)))) = Ob.mq b (mqv bkV (incs (o.take (j + 1))))
        rw [hnew0]
      · repeat (refine Run.go rfl ?_)
        refine Run.entryNew (id := (5, 0)) (kv := bkV) x rfl rfl rfl rfl rfl rfl bkK (by kernel_rfl) rfl rfl rfl hx hm hk rfl ?_
        repeat (refine Run.go rfl ?_)
        refine Run.val rfl rfl rfl (ValOk.lookupK (id := (5, 0)) (kv := bkV) (l := m ++ [(x, 0)]) x rfl rfl rfl bkK (by kernel_rfl) rfl rfl rfl hx hm1) rfl ?_
        repeat (refine Run.go rfl ?_)
        refine Run.entrySet (id := (5, 0)) (kv := bkV) m.length x rfl rfl rfl rfl rfl rfl rfl rfl hlast ?_
        repeat (refine Run.go rfl ?_)
        refine Run.of hN ⟨rfl, rfl, rfl, rfl, rfl, trivial⟩ ⟨?_, trivial⟩
        show Ob.mq b (mqv bkV ((m ++ [(x, 0)]).set m.length (x, IntKind.i64.wrap (kget x (m ++ [(x, 0)]) + 1)))) = Ob.mq b (mqv bkV (incs (o.take (j + 1))))
        rw [hnew1]
      · repeat (refine Run.go rfl ?_)
        refine Run.entryNew (id := (5, 0)) (kv := bkV) x rfl rfl rfl rfl rfl rfl bkK (by kernel_rfl) rfl rfl rfl hx hm hk rfl ?_
        repeat (refine Run.go rfl ?_)
        refine Run.val rfl rfl rfl (ValOk.lookupK (id := (5, 0)) (kv := bkV) (l := m ++ [(x, 0)]) x rfl rfl rfl bkK (by kernel_rfl) rfl rfl rfl hx hm1) rfl ?_
        repeat (refine Run.go rfl ?_)
        refine Run.entrySet (id := (5, 0)) (kv := bkV) m.length x rfl rfl rfl rfl rfl rfl rfl rfl hlast ?_
        repeat (refine Run.go rfl ?_)
        refine Run.of hN ⟨rfl, rfl, rfl, rfl, rfl, trivial⟩ ⟨?_, trivial⟩
        show Ob.mq b (mqv bkV ((m ++ [(x, 0)]).set m.length (x, IntKind.i64.wrap (kget x (m ++ [(x, 0)]) + 1)))) = Ob.mq b (mqv bkV (incs (o.take (j + 1))))
        rw [hnew1]
      · repeat (refine Run.go rfl ?_)
        refine Run.entryNew (id := (5, 0)) (kv := bkV) x rfl rfl rfl rfl rfl rfl bkK (by kernel_rfl) rfl rfl rfl hx hm hk rfl ?_
        repeat (refine Run.go rfl ?_)
        refine Run.val rfl rfl rfl (ValOk.lookupK (id := (5, 0)) (kv := bkV) (l := m ++ [(x, 0)]) x rfl rfl rfl bkK (by kernel_rfl) rfl rfl rfl hx hm1) rfl ?_
        repeat (refine Run.go rfl ?_)
        refine Run.entrySet (id := (5, 0)) (kv := bkV) m.length x rfl rfl rfl rfl rfl rfl rfl rfl hlast ?_
        repeat (refine Run.go rfl ?_)
        refine Run.of hN ⟨rfl, rfl, rfl, rfl, rfl, trivial⟩ ⟨?_, trivial⟩
        show Ob.mq b (mqv bkV ((m ++ [(x, 0)]).set m.length (x, IntKind.i64.wrap (kget x (m ++ [(x, 0)]) + 1)))) = Ob.mq b (mqv bkV (incs (o.take (j + 1))))
        rw [hnew1]
      repeat (refine Run.go rfl ?_)
      refine Run.of (IH (j + 1) (by omega) (by omega)) ⟨rfl, rfl, rfl, rfl, ?_, trivial⟩ ⟨rfl, trivial⟩
      show i64 _ = _
      rw [wrap_i64 (by omega) (by omega)]
      rfl
    · -- a key that is there
      obtain ⟨jj, v⟩ := pv
      obtain ⟨_, hjj⟩ := kfind_some hk
      rw [Nat.sub_zero] at hjj
      have hold : m.set jj (x, IntKind.i64.wrap (kget x m + 1)) = incs (o.take (j + 1)) := by
        rw [hw, hnext, kput, hk]
      refine Run.drawn [[0, 1, 2, 3, 4, 5, 6], [0, 1, 2, 4, 3, 5, 6], [0, 1, 2, 4, 5, 3, 6], [0, 1, 4, 2, 3, 5, 6], [0, 1, 4, 2, 5, 3, 6], [0, 1, 4, 5, 2, 3, 6], [1, 0, 2, 3, 4, 5, 6], [1, 0, 2, 4, 3, 5, 6], [1, 0, 2, 4, 5, 3, 6], [1, 0, 4, 2, 3, 5, 6], [1, 0, 4, 2, 5, 3, 6], [1, 0, 4, 5, 2, 3, 6]] ⟨[(0, .ro 8 e1 (l.map bkA)), (5, .lit (.map (some b))), (12, .ro 8 e2 (o.map bkA)), (13, i64 o.length), (14, i64 j)], [((5, 0), .mq b (mqv bkV (incs (o.take (j + 1)))))]⟩ (by decide +kernel) (by kernel_rfl) ?_ fun _ hN => ⟨?_, ?_, ?_, ?_, ?_, ?_, ?_, ?_, ?_, ?_, ?_, ?_, trivial⟩
      rotate_left
      · repeat (refine Run.go rfl ?_)
        refine Run.val rfl rfl rfl (ValOk.lookupK (id := (5, 0)) (kv := bkV) (l := m) x rfl rfl rfl bkK (by kernel_rfl) rfl rfl rfl hx hm) rfl ?_
        repeat (refine Run.go rfl ?_)
        refine Run.entryOld (id := (5, 0)) (kv := bkV) x rfl rfl rfl rfl rfl rfl bkK bk_same rfl rfl rfl hx hm hk rfl ?_
        repeat (refine Run.go rfl ?_)
        refine Run.entrySet (id := (5, 0)) (kv := bkV) jj x rfl rfl rfl rfl rfl rfl rfl rfl hjj ?_
        repeat (refine Run.go rfl ?_)
        refine Run.of hN ⟨rfl, rfl, rfl, rfl, rfl, trivial⟩ ⟨?_, trivial⟩
        show Ob.mq b (mqv bkV (m.set jj (x, IntKind.i64.wrap (kget x m + 1)))) = Ob.mq b (mqv bkV (incs (o.take (j + 1))))
        rw [hold]
      · repeat (refine Run.go rfl ?_)
        refine Run.val rfl rfl rfl (ValOk.lookupK (id := (5, 0)) (kv := bkV) (l := m) x rfl rfl rfl bkK (by kernel_rfl) rfl rfl rfl hx hm) rfl ?_
        repeat (refine Run.go rfl ?_)
        refine Run.entryOld (id := (5, 0)) (kv := bkV) x rfl rfl rfl rfl rfl rfl bkK bk_same rfl rfl rfl hx hm hk rfl ?_
        repeat (refine Run.go rfl ?_)
        refine Run.entrySet (id := (5, 0)) (kv := bkV) jj x rfl rfl rfl rfl rfl rfl rfl rfl hjj ?_
        repeat (refine Run.go rfl ?_)
        refine Run.of hN ⟨rfl, rfl, rfl, rfl, rfl, trivial⟩ ⟨?_, trivial⟩
        show Ob.mq b (mqv bkV (m.set jj (x, IntKind.i64.wrap (kget x m + 1)))) = Ob.mq b (mqv bkV (incs (o.take (j + 1))))
        rw [hold]
      · repeat (refine Run.go rfl ?_)
        refine Run.val rfl rfl rfl (ValOk.lookupK (id := (5, 0)) (kv := bkV) (l := m) x rfl rfl rfl bkK (by kernel_rfl) rfl rfl rfl hx hm) rfl ?_
        repeat (refine Run.go rfl ?_)
        refine Run.entryOld (id := (5, 0)) (kv := bkV) x rfl rfl rfl rfl rfl rfl bkK bk_same rfl rfl rfl hx hm hk rfl ?_
        repeat (refine Run.go rfl ?_)
        refine Run.entrySet (id := (5, 0)) (kv := bkV) jj x rfl rfl rfl rfl rfl rfl rfl rfl hjj ?_
        repeat (refine Run.go rfl ?_)
        refine Run.of hN ⟨rfl, rfl, rfl, rfl, rfl, trivial⟩ ⟨?_, trivial⟩
        show Ob.mq b (mqv bkV (m.set jj (x, IntKind.i64.wrap (kget x m + 1)))) = Ob.mq b (mqv bkV (incs (o.take (j + 1))))
        rw [hold]
      · repeat (refine Run.go rfl ?_)
        refine Run.entryOld (id := (5, 0)) (kv := bkV) x rfl rfl rfl rfl rfl rfl bkK bk_same rfl rfl rfl hx hm hk rfl ?_
        repeat (refine Run.go rfl ?_)
        refine Run.val rfl rfl rfl (ValOk.lookupK (id := (5, 0)) (kv := bkV) (l := m) x rfl rfl rfl bkK (by kernel_rfl) rfl rfl rfl hx hm) rfl ?_
        repeat (refine Run.go rfl ?_)
        refine Run.entrySet (id := (5, 0)) (kv := bkV) jj x rfl rfl rfl rfl rfl rfl rfl rfl hjj ?_
        repeat (refine Run.go rfl ?_)
        refine Run.of hN ⟨rfl, rfl, rfl, rfl, rfl, trivial⟩ ⟨?_, trivial⟩
        show Ob.mq b (mqv bkV (m.set jj (x, IntKind.i64.wrap (kget x m + 1)))) = Ob.mq b (mqv bkV (incs (o.take (j + 1))))
        rw [hold]
      · repeat (refine Run.go rfl ?_)
        refine Run.entryOld (id := (5, 0)) (kv := bkV) x rfl rfl rfl rfl rfl rfl bkK bk_same rfl rfl rfl hx hm hk rfl ?_
        repeat (refine Run.go rfl ?_)
        refine Run.val rfl rfl rfl (ValOk.lookupK (id := (5, 0)) (kv := bkV) (l := m) x rfl rfl rfl bkK (by kernel_rfl) rfl rfl rfl hx hm) rfl ?_
        repeat (refine Run.go rfl ?_)
        refine Run.entrySet (id := (5, 0)) (kv := bkV) jj x rfl rfl rfl rfl rfl rfl rfl rfl hjj ?_
        repeat (refine Run.go rfl ?_)
        refine Run.of hN ⟨rfl, rfl, rfl, rfl, rfl, trivial⟩ ⟨?_, trivial⟩
        show Ob.mq b (mqv bkV (m.set jj (x, IntKind.i64.wrap (kget x m + 1)))) = Ob.mq b (mqv bkV (incs (o.take (j + 1))))
        rw [hold]
      · repeat (refine Run.go rfl ?_)
        refine Run.entryOld (id := (5, 0)) (kv := bkV) x rfl rfl rfl rfl rfl rfl bkK bk_same rfl rfl rfl hx hm hk rfl ?_
        repeat (refine Run.go rfl ?_)
        refine Run.val rfl rfl rfl (ValOk.lookupK (id := (5, 0)) (kv := bkV) (l := m) x rfl rfl rfl bkK (by kernel_rfl) rfl rfl rfl hx hm) rfl ?_
        repeat (refine Run.go rfl ?_)
        refine Run.entrySet (id := (5, 0)) (kv := bkV) jj x rfl rfl rfl rfl rfl rfl rfl rfl hjj ?_
        repeat (refine Run.go rfl ?_)
        refine Run.of hN ⟨rfl, rfl, rfl, rfl, rfl, trivial⟩ ⟨?_, trivial⟩
        show Ob.mq b (mqv bkV (m.set jj (x, IntKind.i64.wrap (kget x m + 1)))) = Ob.mq b (mqv bkV (incs (o.take (j + 1))))
        rw [hold]
      · repeat (refine Run.go rfl ?_)
        refine Run.val rfl rfl rfl (ValOk.lookupK (id := (5, 0)) (kv := bkV) (l := m) x rfl rfl rfl bkK (by kernel_rfl) rfl rfl rfl hx hm) rfl ?_
        repeat (refine Run.go rfl ?_)
        refine Run.entryOld (id := (5, 0)) (kv := bkV) x rfl rfl rfl rfl rfl rfl bkK bk_same rfl rfl rfl hx hm hk rfl ?_
        repeat (refine Run.go rfl ?_)
        refine Run.entrySet (id := (5, 0)) (kv := bkV) jj x rfl rfl rfl rfl rfl rfl rfl rfl hjj ?_
        repeat (refine Run.go rfl ?_)
        refine Run.of hN ⟨rfl, rfl, rfl, rfl, rfl, trivial⟩ ⟨?_, trivial⟩
        show Ob.mq b (mqv bkV (m.set jj (x, IntKind.i64.wrap (kget x m + 1)))) = Ob.mq b (mqv bkV (incs (o.take (j + 1))))
        rw [hold]
      · repeat (refine Run.go rfl ?_)
        refine Run.val rfl rfl rfl (ValOk.lookupK (id := (5, 0)) (kv := bkV) (l := m) x rfl rfl rfl bkK (by kernel_rfl) rfl rfl rfl hx hm) rfl ?_
        repeat (refine Run.go rfl ?_)
        refine Run.entryOld (id := (5, 0)) (kv := bkV) x rfl rfl rfl rfl rfl rfl bkK bk_same rfl rfl rfl hx hm hk rfl ?_
        repeat (refine Run.go rfl ?_)
        refine Run.entrySet (id := (5, 0)) (kv := bkV) jj x rfl rfl rfl rfl rfl rfl rfl rfl hjj ?_
        repeat (refine Run.go rfl ?_)
        refine Run.of hN ⟨rfl, rfl, rfl, rfl, rfl, trivial⟩ ⟨?_, trivial⟩
        show Ob.mq b (mqv bkV (m.set jj (x, IntKind.i64.wrap (kget x m + 1)))) = Ob.mq b (mqv bkV (incs (o.take (j + 1))))
        rw [hold]
      · repeat (refine Run.go rfl ?_)
        refine Run.val rfl rfl rfl (ValOk.lookupK (id := (5, 0)) (kv := bkV) (l := m) x rfl rfl rfl bkK (by kernel_rfl) rfl rfl rfl hx hm) rfl ?_
        repeat (refine Run.go rfl ?_)
        refine Run.entryOld (id := (5, 0)) (kv := bkV) x rfl rfl rfl rfl rfl rfl bkK bk_same rfl rfl rfl hx hm hk rfl ?_
        repeat (refine Run.go rfl ?_)
        refine Run.entrySet (id := (5, 0)) (kv := bkV) jj x rfl rfl rfl rfl rfl rfl rfl rfl hjj ?_
        repeat (refine Run.go rfl ?_)
        refine Run.of hN ⟨rfl, rfl, rfl, rfl, rfl, trivial⟩ ⟨?_, trivial⟩
        show Ob.mq b (mqv bkV (m.set jj (x, IntKind.i64.wrap (kget x m + 1)))) = Ob.mq b (mqv bkV (incs (o.take (j + 1))))
        rw [hold]
      · repeat (refine Run.go rfl ?_)
        refine Run.entryOld (id := (5, 0)) (kv := bkV) x rfl rfl rfl rfl rfl rfl bkK bk_same rfl rfl rfl hx hm hk rfl ?_
        repeat (refine Run.go rfl ?_)
        refine Run.val rfl rfl rfl (ValOk.lookupK (id := (5, 0)) (kv := bkV) (l := m) x rfl rfl rfl bkK (by kernel_rfl) rfl rfl rfl hx hm) rfl ?_
        repeat (refine Run.go rfl ?_)
        refine Run.entrySet (id := (5, 0)) (kv := bkV) jj x rfl rfl rfl rfl rfl rfl rfl rfl hjj ?_
        repeat (refine Run.go rfl ?_)
        refine Run.of hN ⟨rfl, rfl, rfl, rfl, rfl, trivial⟩ ⟨?_, trivial⟩
        show Ob.mq b (mqv bkV (m.set jj (x, IntKind.i64.wrap (kget x m + 1)))) = Ob.mq b (mqv bkV (incs (o.take (j + 1))))
        rw [hold]
      · repeat (refine Run.go rfl ?_)
        refine Run.entryOld (id := (5, 0)) (kv := bkV) x rfl rfl rfl rfl rfl rfl bkK bk_same rfl rfl rfl hx hm hk rfl ?_
        repeat (refine Run.go rfl ?_)
        refine Run.val rfl rfl rfl (ValOk.lookupK (id := (5, 0)) (kv := bkV) (l := m) x rfl rfl rfl bkK (by kernel_rfl) rfl rfl rfl hx hm) rfl ?_
        repeat (refine Run.go rfl ?_)
        refine Run.entrySet (id := (5, 0)) (kv := bkV) jj x rfl rfl rfl rfl rfl rfl rfl rfl hjj ?_
        repeat (refine Run.go rfl ?_)
        refine Run.of hN ⟨rfl, rfl, rfl, rfl, rfl, trivial⟩ ⟨?_, trivial⟩
        show Ob.mq b (mqv bkV (m.set jj (x, IntKind.i64.wrap (kget x m + 1)))) = Ob.mq b (mqv bkV (incs (o.take (j + 1))))
        rw [hold]
      · repeat (refine Run.go rfl ?_)
        refine Run.entryOld (id := (5, 0)) (kv := bkV) x rfl rfl rfl rfl rfl rfl bkK bk_same rfl rfl rfl hx hm hk rfl ?_
        repeat (refine Run.go rfl ?_)
        refine Run.val rfl rfl rfl (ValOk.lookupK (id := (5, 0)) (kv := bkV) (l := m) x rfl rfl rfl bkK (by kernel_rfl) rfl rfl rfl hx hm) rfl ?_
        repeat (refine Run.go rfl ?_)
        refine Run.entrySet (id := (5, 0)) (kv := bkV) jj x rfl rfl rfl rfl rfl rfl rfl rfl hjj ?_
        repeat (refine Run.go rfl ?_)
        refine Run.of hN ⟨rfl, rfl, rfl, rfl, rfl, trivial⟩ ⟨?_, trivial⟩
        show Ob.mq b (mqv bkV (m.set jj (x, IntKind.i64.wrap (kget x m + 1)))) = Ob.mq b (mqv bkV (incs (o.take (j + 1))))
        rw [hold]
      repeat (refine Run.go rfl ?_)
      refine Run.of (IH (j + 1) (by omega) (by omega)) ⟨rfl, rfl, rfl, rfl, ?_, trivial⟩ ⟨rfl, trivial⟩
      show i64 _ = _
      rw [wrap_i64 (by omega) (by omega)]
      rfl
  · have hj' : j = o.length := by simp at h; omega
    subst hj'
    rw [List.take_length]
    clear IH
    have hm0 : ∀ x ∈ incs o, bkRng x.1 := by
      have := incs_ok hor o.length
      rwa [List.take_length] at this
    have hg0 : ∀ x, kget x (incs o) = (o.count x : Nat) := fun x => incs_get x o
    generalize incs o = m0 at hm0 hg0
    repeat (refine Run.go rfl ?_)
    refine Run.nilSlot 8 8 false rfl ?_
    refine Run.loop (fun j : Nat => ⟨[(5, .lit (.map (some b))), (8, .own 8 false ((more l o j).map bkA)), (25, .ro 8 e1 (l.map bkA)), (26, i64 l.length), (27, i64 j)], [((5, 0), .mq b (mqv bkV (decs m0 (l.take j))))]⟩) (fun j => j ≤ l.length) (fun j => l.length - j) 0 (by omega) ?_ ?_
    · refine St.Le.mk' ⟨rfl, rfl, rfl, ?_, rfl, trivial⟩ ⟨rfl, trivial⟩
      show i64 (l.map bkA).length = _
      simp
    intro j hj IH
    repeat (refine Run.go rfl ?_)
    refine Run.cond rfl (fun h => ?_) (fun h => ?_)
    · have hlt : j < l.length := by simpa using h
      repeat (refine Run.go rfl ?_)
      refine Run.val rfl rfl rfl (ValOk.idx (bkA l[j]) rfl rfl rfl rfl rfl (by omega) (by simp [hlt])) rfl ?_
      have hx : bkRng l[j] := hr _ (by simp)
      have hm := decs_ok hm0 hr j
      have hm2 := decs_ok hm0 hr (j + 1)
      have hnext := decs_snoc m0 (l.take j) l[j]
      rw [← List.take_succ_eq_append_getElem hlt] at hnext
      have hkg := decs_get l[j] m0 (l.take j)
      have hkg2 := decs_get l[j] m0 (l.take (j + 1))
      rw [hg0] at hkg hkg2
      have hc : (l.take j).count l[j] ≤ j := Nat.le_trans List.count_le_length (by rw [List.length_take]; omega)
      have hc2 : (l.take (j + 1)).count l[j] = (l.take j).count l[j] + 1 := by
        rw [List.take_succ_eq_append_getElem hlt, List.count_append, List.count_singleton]
        simp
      have hco : o.count l[j] ≤ o.length := List.count_le_length
      have hml := more_len l o j
      have hst : more l o (j + 1) = more l o j ++ (if moreP l o j then [l.getD j bk0] else []) := rfl
      have hg' : l.getD j bk0 = l[j] := by simp [hlt]
      have hmp : moreP l o j = decide (o.count l[j] ≤ (l.take j).count l[j]) := by rw [moreP, hg']
      rw [hg'] at hst
      generalize hM2 : decs m0 (l.take (j + 1)) = m2 at hm2 hnext hkg2
      generalize decs m0 (l.take j) = m at hm hnext hkg
      generalize hxx : l[j] = x at hx hnext hkg hkg2 hc hc2 hco hst hmp
      have hw : IntKind.i64.wrap (kget x m - 1) = kget x m - 1 := wrap_i64 (by omega) (by omega)
      repeat (refine Run.go rfl ?_)
      rcases hk : kfind x m 0 with _ | pv
      · -- a new key
        have hlast : (m ++ [(x, (0 : Int))])[m.length]? = some (x, 0) := by simp
        have hm1 : ∀ y ∈ m ++ [(x, (0 : Int))], bkRng y.1 := by
          intro y hy
          rcases List.mem_append.mp hy with h | h
          · exact hm y h
          · rw [List.mem_singleton.mp h]; exact hx
        have hk0 : kget x m = 0 := by rw [kget, hk]; rfl
        have hk1 : kget x (m ++ [(x, 0)]) = 0 := by rw [kget_append _ _ _ _ hk, if_pos rfl]
        have hset : (m ++ [(x, (0 : Int))]).set m.length (x, kget x m - 1) = m2 := by
          rw [hnext, kput, hk]
          simp
        have hnew0 : (m ++ [(x, (0 : Int))]).set m.length (x, IntKind.i64.wrap (kget x m - 1)) = m2 := by rw [hw, hset]
        have hnew1 : (m ++ [(x, (0 : Int))]).set m.length (x, IntKind.i64.wrap (kget x (m ++ [(x, 0)]) - 1)) = m2 := by rw [hk1.trans hk0.symm, hw, hset]
        refine Run.drawn [[0, 1, 2, 3, 4, 5, 6], [0, 1, 2, 4, 3, 5, 6], [0, 1, 2, 4, 5, 3, 6], [0, 1, 4, 2, 3, 5, 6], [0, 1, 4, 2, 5, 3, 6], [0, 1, 4, 5, 2, 3, 6], [1, 0, 2, 3, 4, 5, 6], [1, 0, 2, 4, 3, 5, 6], [1, 0, 2, 4, 5, 3, 6], [1, 0, 4, 2, 3, 5, 6], [1, 0, 4, 2, 5, 3, 6], [1, 0, 4, 5, 2, 3, 6]] ⟨[(5, .lit (.map (some b))), (8, .own 8 false ((more l o j).map bkA)), (10, .bp (10, 0) 0), (25, .ro 8 e1 (l.map bkA)), (26, i64 l.length), (27, i64 j)], [((5, 0), .mq b (mqv bkV m2)), ((10, 0), .box (bkA x).cells)]⟩ (by decide +kernel) (by kernel_rfl) ?_ fun _ hN => ⟨?_, ?_, ?_, ?_, ?_, ?_, ?_, ?_, ?_, ?_, ?_, ?_, trivial⟩
        rotate_left
        · repeat (refine Run.go rfl ?_)
          refine Run.val rfl rfl rfl (ValOk.lookupK (id := (5, 0)) (kv := bkV) (l := m) x rfl rfl rfl bkK (by kernel_rfl) rfl rfl rfl hx hm) rfl ?_
          repeat (refine Run.go rfl ?_)
          refine Run.entryNew (id := (5, 0)) (kv := bkV) x rfl rfl rfl rfl rfl rfl bkK (by kernel_rfl) rfl rfl rfl hx hm hk rfl ?_
          repeat (refine Run.go rfl ?_)
          refine Run.entrySet (id := (5, 0)) (kv := bkV) m.length x rfl rfl rfl rfl rfl rfl rfl rfl hlast ?_
          repeat (refine Run.go rfl ?_)
          refine Run.of hN ⟨rfl, rfl, rfl, rfl, rfl, rfl, trivial⟩ ⟨?_, rfl, trivial⟩
          show Ob.mq b (mqv bkV ((m ++ [(x, 0)]).set m.length (x, IntKind.i64.wrap (kget x m - 1)))) = Ob.mq b (mqv bkV (m2))
          rw [hnew0]
        · repeat (refine Run.go rfl ?_)
          refine Run.val rfl rfl rfl (ValOk.lookupK (id := (5, 0)) (kv := bkV) (l := m) x rfl rfl rfl bkK (by kernel_rfl) rfl rfl rfl hx hm) rfl ?_
          repeat (refine Run.go rfl ?_)
          refine Run.entryNew (id := (5, 0)) (kv := bkV) x rfl rfl rfl rfl rfl rfl bkK (by kernel_rfl) rfl rfl rfl hx hm hk rfl ?_
          repeat (refine Run.go rfl ?_)
          refine Run.entrySet (id := (5, 0)) (kv := bkV) m.length x rfl rfl rfl rfl rfl rfl rfl rfl hlast ?_
          repeat (refine Run.go rfl ?_)
          refine Run.of hN ⟨rfl, rfl, rfl, rfl, rfl, rfl, trivial⟩ ⟨?_, rfl, trivial⟩
          show Ob.mq b (mqv bkV ((m ++ [(x, 0)]).set m.length (x, IntKind.i64.wrap (kget x m - 1)))) = Ob.mq b (mqv bkV (m2))
          rw [hnew0]
        · repeat (refine Run.go rfl ?_)
          refine Run.val rfl rfl rfl (ValOk.lookupK (id := (5, 0)) (kv := bkV) (l := m) x rfl rfl rfl bkK (by kernel_rfl) rfl rfl rfl hx hm) rfl ?_
          repeat (refine Run.go rfl ?_)
          refine Run.entryNew (id := (5, 0)) (kv := bkV) x rfl rfl rfl rfl rfl rfl bkK (by kernel_rfl) rfl rfl rfl hx hm hk rfl ?_
          repeat (refine Run.go rfl ?_)
          refine Run.entrySet (id := (5, 0)) (kv := bkV) m.length x rfl rfl rfl rfl rfl rfl rfl rfl hlast ?_
          repeat (refine Run.go rfl ?_)
          refine Run.of hN ⟨rfl, rfl, rfl, rfl, rfl, rfl, trivial⟩ ⟨?_, rfl, trivial⟩
          show Ob.mq b (mqv bkV ((m ++ [(x, 0)]).set m.length (x, IntKind.i64.wrap (kget x m - 1)))) = Ob.mq b (mqv bkV (m2))
          rw [hnew0]
        · repeat (refine Run.go rfl ?_)
          refine Run.entryNew (id := (5, 0)) (kv := bkV) x rfl rfl rfl rfl rfl rfl bkK (by kernel_rfl) rfl rfl rfl hx hm hk rfl ?_
          repeat (refine Run.go rfl ?_)
          refine Run.val rfl rfl rfl (ValOk.lookupK (id := (5, 0)) (kv := bkV) (l := m ++ [(x, 0)]) x rfl rfl rfl bkK (by kernel_rfl) rfl rfl rfl hx hm1) rfl ?_
          repeat (refine Run.go rfl ?_)
          refine Run.entrySet (id := (5, 0)) (kv := bkV) m.length x rfl rfl rfl rfl rfl rfl rfl rfl hlast ?_
          repeat (refine Run.go rfl ?_)
          refine Run.of hN ⟨rfl, rfl, rfl, rfl, rfl, rfl, trivial⟩ ⟨?_, rfl, trivial⟩
          show Ob.mq b (mqv bkV ((m ++ [(x, 0)]).set m.length (x, IntKind.i64.wrap (kget x (m ++ [(x, 0)]) - 1)))) = Ob.mq b (mqv bkV (m2))
          rw [hnew1]
        · repeat (refine Run.go rfl ?_)
          refine Run.entryNew (id := (5, 0)) (kv := bkV) x rfl rfl rfl rfl rfl rfl bkK (by kernel_rfl) rfl rfl rfl hx hm hk rfl ?_
          repeat (refine Run.go rfl ?_)
          refine Run.val rfl rfl rfl (ValOk.lookupK (id := (5, 0)) (kv := bkV) (l := m ++ [(x, 0)]) x rfl rfl rfl bkK (by kernel_rfl) rfl rfl rfl hx hm1) rfl ?_
          repeat (refine Run.go rfl ?_)
          refine Run.entrySet (id := (5, 0)) (kv := bkV) m.length x rfl rfl rfl rfl rfl rfl rfl rfl hlast ?_
          repeat (refine Run.go rfl ?_)
          refine Run.of hN ⟨rfl, rfl, rfl, rfl, rfl, rfl, trivial⟩ ⟨?_, rfl, trivial⟩
          show Ob.mq b (mqv bkV ((m ++ [(x, 0)]).set m.length (x, IntKind.i64.wrap (kget x (m ++ [(x, 0)]) - 1)))) = Ob.mq b (mqv bkV (m2))
          rw [hnew1]
        · repeat (refine Run.go rfl ?_)
          refine Run.entryNew (id := (5, 0)) (kv := bkV) x rfl rfl rfl rfl rfl rfl bkK (by kernel_rfl) rfl rfl rfl hx hm hk rfl ?_
          repeat (refine Run.go rfl ?_)
          refine Run.val rfl rfl rfl (ValOk.lookupK (id := (5, 0)) (kv := bkV) (l := m ++ [(x, 0)]) x rfl rfl rfl bkK (by kernel_rfl) rfl rfl rfl hx hm1) rfl ?_
          repeat (refine Run.go rfl ?_)
          refine Run.entrySet (id := (5, 0)) (kv := bkV) m.length x rfl rfl rfl rfl rfl rfl rfl rfl hlast ?_
          repeat (refine Run.go rfl ?_)
          refine Run.of hN ⟨rfl, rfl, rfl, rfl, rfl, rfl, trivial⟩ ⟨?_, rfl, trivial⟩
          show Ob.mq b (mqv bkV ((m ++ [(x, 0)]).set m.length (x, IntKind.i64.wrap (kget x (m ++ [(x, 0)]) - 1)))) = Ob.mq b (mqv bkV (m2))
          rw [hnew1]
        · repeat (refine Run.go rfl ?_)
          refine Run.val rfl rfl rfl (ValOk.lookupK (id := (5, 0)) (kv := bkV) (l := m) x rfl rfl rfl bkK (by kernel_rfl) rfl rfl rfl hx hm) rfl ?_
          repeat (refine Run.go rfl ?_)
          refine Run.entryNew (id := (5, 0)) (kv := bkV) x rfl rfl rfl rfl rfl rfl bkK (by kernel_rfl) rfl rfl rfl hx hm hk rfl ?_
          repeat (refine Run.go rfl ?_)
          refine Run.entrySet (id := (5, 0)) (kv := bkV) m.length x rfl rfl rfl rfl rfl rfl rfl rfl hlast ?_
          repeat (refine Run.go rfl ?_)
          refine Run.of hN ⟨rfl, rfl, rfl, rfl, rfl, rfl, trivial⟩ ⟨?_, rfl, trivial⟩
          show Ob.mq b (mqv bkV ((m ++ [(x, 0)]).set m.length (x, IntKind.i64.wrap (kget x m - 1)))) = Ob.mq b (mqv bkV (m2))
          rw [hnew0]
        · repeat (refine Run.go rfl ?_)
          refine Run.val rfl rfl rfl (ValOk.lookupK (id := (5, 0)) (kv := bkV) (l := m) x rfl rfl rfl bkK (by kernel_rfl) rfl rfl rfl hx hm) rfl ?_
          repeat (refine Run.go rfl ?_)
          refine Run.entryNew (id := (5, 0)) (kv := bkV) x rfl rfl rfl rfl rfl rfl bkK (by kernel_rfl) rfl rfl rfl hx hm hk rfl ?_
          repeat (refine Run.go rfl ?_)
          refine Run.entrySet (id := (5, 0)) (kv := bkV) m.length x rfl rfl rfl rfl rfl rfl rfl rfl hlast ?_
          repeat (refine Run.go rfl ?_)
          refine Run.of hN ⟨rfl, rfl, rfl, rfl, rfl, rfl, trivial⟩ ⟨?_, rfl, trivial⟩
          show Ob.mq b (mqv bkV ((m ++ [(x, 0)]).set m.length (x, IntKind.i64.wrap (kget x m - 1)))) = Ob.mq b (mqv bkV (m2))
          rw [hnew0]
        · repeat (refine Run.go rfl ?_)
          refine Run.val rfl rfl rfl (ValOk.lookupK (id := (5, 0)) (kv := bkV) (l := m) x rfl rfl rfl bkK (by kernel_rfl) rfl rfl rfl hx hm) rfl ?_
          repeat (refine Run.go rfl ?_)
          refine Run.entryNew (id := (5, 0)) (kv := bkV) x rfl rfl rfl rfl rfl rfl bkK (by kernel_rfl) rfl rfl rfl hx hm hk rfl ?_
          repeat (refine Run.go rfl ?_)
          refine Run.entrySet (id := (5, 0)) (kv := bkV) m.length x rfl rfl rfl rfl rfl rfl rfl rfl hlast ?_
          repeat (refine Run.go rfl ?_)
          refine Run.of hN ⟨rfl, rfl, rfl, rfl, rfl, rfl, trivial⟩ ⟨?_, rfl, trivial⟩
          show Ob.mq b (mqv bkV ((m ++ [(x, 0)]).set m.length (x, IntKind.i64.wrap (kget x m - 1)))) = Ob.mq b (mqv bkV (m2))
          rw [hnew0]
        · repeat (refine Run.go rfl ?_)
          refine Run.entryNew (id := (5, 0)) (kv := bkV) x rfl rfl rfl rfl rfl rfl bkK (by kernel_rfl) rfl rfl rfl hx hm hk rfl ?_
          repeat (refine Run.go rfl ?_)
          refine Run.val rfl rfl rfl (ValOk.lookupK (id := (5, 0)) (kv := bkV) (l := m ++ [(x, 0)]) x rfl rfl rfl bkK (by kernel_rfl) rfl rfl rfl hx hm1) rfl ?_
          repeat (refine Run.go rfl ?_)
          refine Run.entrySet (id := (5, 0)) (kv := bkV) m.length x rfl rfl rfl rfl rfl rfl rfl rfl hlast ?_
          repeat (refine Run.go rfl ?_)
          refine Run.of hN ⟨rfl, rfl, rfl, rfl, rfl, rfl, trivial⟩ ⟨?_, rfl, trivial⟩
          show Ob.mq b (mqv bkV ((m ++ [(x, 0)]).set m.length (x, IntKind.i64.wrap (kget x (m ++ [(x, 0)]) - 1)))) = Ob.mq b (mqv bkV (m2))
          rw [hnew1]
        · repeat (refine Run.go rfl ?_)
          refine Run.entryNew (id := (5, 0)) (kv := bkV) x rfl rfl rfl rfl rfl rfl bkK (by kernel_rfl) rfl rfl rfl hx hm hk rfl ?_
          repeat (refine Run.go rfl ?_)
          refine Run.val rfl rfl rfl (ValOk.lookupK (id := (5, 0)) (kv := bkV) (l := m ++ [(x, 0)]) x rfl rfl rfl bkK (by kernel_rfl) rfl rfl rfl hx hm1) rfl ?_
          repeat (refine Run.go rfl ?_)
          refine Run.entrySet (id := (5, 0)) (kv := bkV) m.length x rfl rfl rfl rfl rfl rfl rfl rfl hlast ?_
          repeat (refine Run.go rfl ?_)
          refine Run.of hN ⟨rfl, rfl, rfl, rfl, rfl, rfl, trivial⟩ ⟨?_, rfl, trivial⟩
          show Ob.mq b (mqv bkV ((m ++ [(x, 0)]).set m.length (x, IntKind.i64.wrap (kget x (m ++ [(x, 0)]) - 1)))) = Ob.mq b (mqv bkV (m2))
          rw [hnew1]
        · repeat (refine Run.go rfl ?_)
          refine Run.entryNew (id := (5, 0)) (kv := bkV) x rfl rfl rfl rfl rfl rfl bkK (by kernel_rfl) rfl rfl rfl hx hm hk rfl ?_
          repeat (refine Run.go rfl ?_)
          refine Run.val rfl rfl rfl (ValOk.lookupK (id := (5, 0)) (kv := bkV) (l := m ++ [(x, 0)]) x rfl rfl rfl bkK (by kernel_rfl) rfl rfl rfl hx hm1) rfl ?_
          repeat (refine Run.go rfl ?_)
          refine Run.entrySet (id := (5, 0)) (kv := bkV) m.length x rfl rfl rfl rfl rfl rfl rfl rfl hlast ?_
          repeat (refine Run.go rfl ?_)
          refine Run.of hN ⟨rfl, rfl, rfl, rfl, rfl, rfl, trivial⟩ ⟨?_, rfl, trivial⟩
          show Ob.mq b (mqv bkV ((m ++ [(x, 0)]).set m.length (x, IntKind.i64.wrap (kget x (m ++ [(x, 0)]) - 1)))) = Ob.mq b (mqv bkV (m2))
          rw [hnew1]
        repeat (refine Run.go rfl ?_)
        refine Run.val rfl rfl rfl (ValOk.lookupK (id := (5, 0)) (kv := bkV) (l := m2) x rfl rfl rfl bkK (by kernel_rfl) rfl rfl rfl hx hm2) rfl ?_
        repeat (refine Run.go rfl ?_)
        refine Run.cond rfl (fun h => ?_) (fun h => ?_)
        · have h : kget x m2 < 0 := of_decide_eq_true h
          have h : moreP l o j = true := by rw [hmp]; exact decide_eq_true (by omega)
          rw [if_pos h] at hst
          repeat (refine Run.go rfl ?_)
          refine Run.buildSlice [bkA x] rfl rfl rfl rfl rfl rfl rfl rfl rfl rfl rfl rfl rfl rfl ?_
          refine Run.appendo rfl rfl rfl rfl rfl rfl rfl rfl rfl rfl rfl rfl rfl rfl (by show (_ + 1) * 14 ≤ _; simp; omega) (by simp [capMax]; omega) (by decide) rfl ?_
          repeat (refine Run.go rfl ?_)
          refine Run.of (IH (j + 1) (by omega) (by omega)) ⟨rfl, ?_, rfl, rfl, ?_, trivial⟩ ⟨?_, trivial⟩
          · rw [hst]
            show AV.own _ _ _ = AV.own _ _ _
            simp
          · show i64 _ = _
            rw [wrap_i64 (by omega) (by omega)]
            rfl
          · rw [hM2]
            rfl
        · have h : ¬ kget x m2 < 0 := of_decide_eq_false h
          have h : moreP l o j = false := by rw [hmp]; exact decide_eq_false (by omega)
          rw [if_neg (by simp [h]), List.append_nil] at hst
          repeat (refine Run.go rfl ?_)
          refine Run.of (IH (j + 1) (by omega) (by omega)) ⟨rfl, ?_, rfl, rfl, ?_, trivial⟩ ⟨?_, trivial⟩
          · rw [hst]
            rfl
          · show i64 _ = _
            rw [wrap_i64 (by omega) (by omega)]
            rfl
          · rw [hM2]
            rfl
      · -- a key that is there
        obtain ⟨jj, v⟩ := pv
        obtain ⟨_, hjj⟩ := kfind_some hk
        rw [Nat.sub_zero] at hjj
        have hold : m.set jj (x, IntKind.i64.wrap (kget x m - 1)) = m2 := by
          rw [hw, hnext, kput, hk]
        refine Run.drawn [[0, 1, 2, 3, 4, 5, 6], [0, 1, 2, 4, 3, 5, 6], [0, 1, 2, 4, 5, 3, 6], [0, 1, 4, 2, 3, 5, 6], [0, 1, 4, 2, 5, 3, 6], [0, 1, 4, 5, 2, 3, 6], [1, 0, 2, 3, 4, 5, 6], [1, 0, 2, 4, 3, 5, 6], [1, 0, 2, 4, 5, 3, 6], [1, 0, 4, 2, 3, 5, 6], [1, 0, 4, 2, 5, 3, 6], [1, 0, 4, 5, 2, 3, 6]] ⟨[(5, .lit (.map (some b))), (8, .own 8 false ((more l o j).map bkA)), (10, .bp (10, 0) 0), (25, .ro 8 e1 (l.map bkA)), (26, i64 l.length), (27, i64 j)], [((5, 0), .mq b (mqv bkV m2)), ((10, 0), .box (bkA x).cells)]⟩ (by decide +kernel) (by kernel_rfl) ?_ fun _ hN => ⟨?_, ?_, ?_, ?_, ?_, ?_, ?_, ?_, ?_, ?_, ?_, ?_, trivial⟩
        rotate_left
        · repeat (refine Run.go rfl ?_)
          refine Run.val rfl rfl rfl (ValOk.lookupK (id := (5, 0)) (kv := bkV) (l := m) x rfl rfl rfl bkK (by kernel_rfl) rfl rfl rfl hx hm) rfl ?_
          repeat (refine Run.go rfl ?_)
          refine Run.entryOld (id := (5, 0)) (kv := bkV) x rfl rfl rfl rfl rfl rfl bkK bk_same rfl rfl rfl hx hm hk rfl ?_
          repeat (refine Run.go rfl ?_)
          refine Run.entrySet (id := (5, 0)) (kv := bkV) jj x rfl rfl rfl rfl rfl rfl rfl rfl hjj ?_
          repeat (refine Run.go rfl ?_)
          refine Run.of hN ⟨rfl, rfl, rfl, rfl, rfl, rfl, trivial⟩ ⟨?_, rfl, trivial⟩
          show Ob.mq b (mqv bkV (m.set jj (x, IntKind.i64.wrap (kget x m - 1)))) = Ob.mq b (mqv bkV (m2))
          rw [hold]
        · repeat (refine Run.go rfl ?_)
          refine Run.val rfl rfl rfl (ValOk.lookupK (id := (5, 0)) (kv := bkV) (l := m) x rfl rfl rfl bkK (by kernel_rfl) rfl rfl rfl hx hm) rfl ?_
          repeat (refine Run.go rfl ?_)
          refine Run.entryOld (id := (5, 0)) (kv := bkV) x rfl rfl rfl rfl rfl rfl bkK bk_same rfl rfl rfl hx hm hk rfl ?_
          repeat (refine Run.go rfl ?_)
          refine Run.entrySet (id := (5, 0)) (kv := bkV) jj x rfl rfl rfl rfl rfl rfl rfl rfl hjj ?_
          repeat (refine Run.go rfl ?_)
          refine Run.of hN ⟨rfl, rfl, rfl, rfl, rfl, rfl, trivial⟩ ⟨?_, rfl, trivial⟩
          show Ob.mq b (mqv bkV (m.set jj (x, IntKind.i64.wrap (kget x m - 1)))) = Ob.mq b (mqv bkV (m2))
          rw [hold]
        · repeat (refine Run.go rfl ?_)
          refine Run.val rfl rfl rfl (ValOk.lookupK (id := (5, 0)) (kv := bkV) (l := m) x rfl rfl rfl bkK (by kernel_rfl) rfl rfl rfl hx hm) rfl ?_
          repeat (refine Run.go rfl ?_)
          refine Run.entryOld (id := (5, 0)) (kv := bkV) x rfl rfl rfl rfl rfl rfl bkK bk_same rfl rfl rfl hx hm hk rfl ?_
          repeat (refine Run.go rfl ?_)
          refine Run.entrySet (id := (5, 0)) (kv := bkV) jj x rfl rfl rfl rfl rfl rfl rfl rfl hjj ?_
          repeat (refine Run.go rfl ?_)
          refine Run.of hN ⟨rfl, rfl, rfl, rfl, rfl, rfl, trivial⟩ ⟨?_, rfl, trivial⟩
          show Ob.mq b (mqv bkV (m.set jj (x, IntKind.i64.wrap (kget x m - 1)))) = Ob.mq b (mqv bkV (m2))
          rw [hold]
        · repeat (refine Run.go rfl ?_)
          refine Run.entryOld (id := (5, 0)) (kv := bkV) x rfl rfl rfl rfl rfl rfl bkK bk_same rfl rfl rfl hx hm hk rfl ?_
          repeat (refine Run.go rfl ?_)
          refine Run.val rfl rfl rfl (ValOk.lookupK (id := (5, 0)) (kv := bkV) (l := m) x rfl rfl rfl bkK (by kernel_rfl) rfl rfl rfl hx hm) rfl ?_
          repeat (refine Run.go rfl ?_)
          refine Run.entrySet (id := (5, 0)) (kv := bkV) jj x rfl rfl rfl rfl rfl rfl rfl rfl hjj ?_
          repeat (refine Run.go rfl ?_)
          refine Run.of hN ⟨rfl, rfl, rfl, rfl, rfl, rfl, trivial⟩ ⟨?_, rfl, trivial⟩
          show Ob.mq b (mqv bkV (m.set jj (x, IntKind.i64.wrap (kget x m - 1)))) = Ob.mq b (mqv bkV (m2))
          rw [hold]
        · repeat (refine Run.go rfl ?_)
          refine Run.entryOld (id := (5, 0)) (kv := bkV) x rfl rfl rfl rfl rfl rfl bkK bk_same rfl rfl rfl hx hm hk rfl ?_
          repeat (refine Run.go rfl ?_)
          refine Run.val rfl rfl rfl (ValOk.lookupK (id := (5, 0)) (kv := bkV) (l := m) x rfl rfl rfl bkK (by kernel_rfl) rfl rfl rfl hx hm) rfl ?_
          repeat (refine Run.go rfl ?_)
          refine Run.entrySet (id := (5, 0)) (kv := bkV) jj x rfl rfl rfl rfl rfl rfl rfl rfl hjj ?_
          repeat (refine Run.go rfl ?_)
          refine Run.of hN ⟨rfl, rfl, rfl, rfl, rfl, rfl, trivial⟩ ⟨?_, rfl, trivial⟩
          show Ob.mq b (mqv bkV (m.set jj (x, IntKind.i64.wrap (kget x m - 1)))) = Ob.mq b (mqv bkV (m2))
          rw [hold]
        · repeat (refine Run.go rfl ?_)
          refine Run.entryOld (id := (5, 0)) (kv := bkV) x rfl rfl rfl rfl rfl rfl bkK bk_same rfl rfl rfl hx hm hk rfl ?_
          repeat (refine Run.go rfl ?_)
          refine Run.val rfl rfl rfl (ValOk.lookupK (id := (5, 0)) (kv := bkV) (l := m) x rfl rfl rfl bkK (by kernel_rfl) rfl rfl rfl hx hm) rfl ?_
          repeat (refine Run.go rfl ?_)
          refine Run.entrySet (id := (5, 0)) (kv := bkV) jj x rfl rfl rfl rfl rfl rfl rfl rfl hjj ?_
          repeat (refine Run.go rfl ?_)
          refine Run.of hN ⟨rfl, rfl, rfl, rfl, rfl, rfl, trivial⟩ ⟨?_, rfl, trivial⟩
          show Ob.mq b (mqv bkV (m.set jj (x, IntKind.i64.wrap (kget x m - 1)))) = Ob.mq b (mqv bkV (m2))
          rw [hold]
        · repeat (refine Run.go rfl ?_)
          refine Run.val rfl rfl rfl (ValOk.lookupK (id := (5, 0)) (kv := bkV) (l := m) x rfl rfl rfl bkK (by kernel_rfl) rfl rfl rfl hx hm) rfl ?_
          repeat (refine Run.go rfl ?_)
          refine Run.entryOld (id := (5, 0)) (kv := bkV) x rfl rfl rfl rfl rfl rfl bkK bk_same rfl rfl rfl hx hm hk rfl ?_
          repeat (refine Run.go rfl ?_)
          refine Run.entrySet (id := (5, 0)) (kv := bkV) jj x rfl rfl rfl rfl rfl rfl rfl rfl hjj ?_
          repeat (refine Run.go rfl ?_)
          refine Run.of hN ⟨rfl, rfl, rfl, rfl, rfl, rfl, trivial⟩ ⟨?_, rfl, trivial⟩
          show Ob.mq b (mqv bkV (m.set jj (x, IntKind.i64.wrap (kget x m - 1)))) = Ob.mq b (mqv bkV (m2))
          rw [hold]
        · repeat (refine Run.go rfl ?_)
          refine Run.val rfl rfl rfl (ValOk.lookupK (id := (5, 0)) (kv := bkV) (l := m) x rfl rfl rfl bkK (by kernel_rfl) rfl rfl rfl hx hm) rfl ?_
          repeat (refine Run.go rfl ?_)
          refine Run.entryOld (id := (5, 0)) (kv := bkV) x rfl rfl rfl rfl rfl rfl bkK bk_same rfl rfl rfl hx hm hk rfl ?_
          repeat (refine Run.go rfl ?_)
          refine Run.entrySet (id := (5, 0)) (kv := bkV) jj x rfl rfl rfl rfl rfl rfl rfl rfl hjj ?_
          repeat (refine Run.go rfl ?_)
          refine Run.of hN ⟨rfl, rfl, rfl, rfl, rfl, rfl, trivial⟩ ⟨?_, rfl, trivial⟩
          show Ob.mq b (mqv bkV (m.set jj (x, IntKind.i64.wrap (kget x m - 1)))) = Ob.mq b (mqv bkV (m2))
          rw [hold]
        · repeat (refine Run.go rfl ?_)
          refine Run.val rfl rfl rfl (ValOk.lookupK (id := (5, 0)) (kv := bkV) (l := m) x rfl rfl rfl bkK (by kernel_rfl) rfl rfl rfl hx hm) rfl ?_
          repeat (refine Run.go rfl ?_)
          refine Run.entryOld (id := (5, 0)) (kv := bkV) x rfl rfl rfl rfl rfl rfl bkK bk_same rfl rfl rfl hx hm hk rfl ?_
          repeat (refine Run.go rfl ?_)
          refine Run.entrySet (id := (5, 0)) (kv := bkV) jj x rfl rfl rfl rfl rfl rfl rfl rfl hjj ?_
          repeat (refine Run.go rfl ?_)
          refine Run.of hN ⟨rfl, rfl, rfl, rfl, rfl, rfl, trivial⟩ ⟨?_, rfl, trivial⟩
          show Ob.mq b (mqv bkV (m.set jj (x, IntKind.i64.wrap (kget x m - 1)))) = Ob.mq b (mqv bkV (m2))
          rw [hold]
        · repeat (refine Run.go rfl ?_)
          refine Run.entryOld (id := (5, 0)) (kv := bkV) x rfl rfl rfl rfl rfl rfl bkK bk_same rfl rfl rfl hx hm hk rfl ?_
          repeat (refine Run.go rfl ?_)
          refine Run.val rfl rfl rfl (ValOk.lookupK (id := (5, 0)) (kv := bkV) (l := m) x rfl rfl rfl bkK (by kernel_rfl) rfl rfl rfl hx hm) rfl ?_
          repeat (refine Run.go rfl ?_)
          refine Run.entrySet (id := (5, 0)) (kv := bkV) jj x rfl rfl rfl rfl rfl rfl rfl rfl hjj ?_
          repeat (refine Run.go rfl ?_)
          refine Run.of hN ⟨rfl, rfl, rfl, rfl, rfl, rfl, trivial⟩ ⟨?_, rfl, trivial⟩
          show Ob.mq b (mqv bkV (m.set jj (x, IntKind.i64.wrap (kget x m - 1)))) = Ob.mq b (mqv bkV (m2))
          rw [hold]
        · repeat (refine Run.go rfl ?_)
          refine Run.entryOld (id := (5, 0)) (kv := bkV) x rfl rfl rfl rfl rfl rfl bkK bk_same rfl rfl rfl hx hm hk rfl ?_
          repeat (refine Run.go rfl ?_)
          refine Run.val rfl rfl rfl (ValOk.lookupK (id := (5, 0)) (kv := bkV) (l := m) x rfl rfl rfl bkK (by kernel_rfl) rfl rfl rfl hx hm) rfl ?_
          repeat (refine Run.go rfl ?_)
          refine Run.entrySet (id := (5, 0)) (kv := bkV) jj x rfl rfl rfl rfl rfl rfl rfl rfl hjj ?_
          repeat (refine Run.go rfl ?_)
          refine Run.of hN ⟨rfl, rfl, rfl, rfl, rfl, rfl, trivial⟩ ⟨?_, rfl, trivial⟩
          show Ob.mq b (mqv bkV (m.set jj (x, IntKind.i64.wrap (kget x m - 1)))) = Ob.mq b (mqv bkV (m2))
          rw [hold]
        · repeat (refine Run.go rfl ?_)
          refine Run.entryOld (id := (5, 0)) (kv := bkV) x rfl rfl rfl rfl rfl rfl bkK bk_same rfl rfl rfl hx hm hk rfl ?_
          repeat (refine Run.go rfl ?_)
          refine Run.val rfl rfl rfl (ValOk.lookupK (id := (5, 0)) (kv := bkV) (l := m) x rfl rfl rfl bkK (by kernel_rfl) rfl rfl rfl hx hm) rfl ?_
          repeat (refine Run.go rfl ?_)
          refine Run.entrySet (id := (5, 0)) (kv := bkV) jj x rfl rfl rfl rfl rfl rfl rfl rfl hjj ?_
          repeat (refine Run.go rfl ?_)
          refine Run.of hN ⟨rfl, rfl, rfl, rfl, rfl, rfl, trivial⟩ ⟨?_, rfl, trivial⟩
          show Ob.mq b (mqv bkV (m.set jj (x, IntKind.i64.wrap (kget x m - 1)))) = Ob.mq b (mqv bkV (m2))
          rw [hold]
        repeat (refine Run.go rfl ?_)
        refine Run.val rfl rfl rfl (ValOk.lookupK (id := (5, 0)) (kv := bkV) (l := m2) x rfl rfl rfl bkK (by kernel_rfl) rfl rfl rfl hx hm2) rfl ?_
        repeat (refine Run.go rfl ?_)
        refine Run.cond rfl (fun h => ?_) (fun h => ?_)
        · have h : kget x m2 < 0 := of_decide_eq_true h
          have h : moreP l o j = true := by rw [hmp]; exact decide_eq_true (by omega)
          rw [if_pos h] at hst
          repeat (refine Run.go rfl ?_)
          refine Run.buildSlice [bkA x] rfl rfl rfl rfl rfl rfl rfl rfl rfl rfl rfl rfl rfl rfl ?_
          refine Run.appendo rfl rfl rfl rfl rfl rfl rfl rfl rfl rfl rfl rfl rfl rfl (by show (_ + 1) * 14 ≤ _; simp; omega) (by simp [capMax]; omega) (by decide) rfl ?_
          repeat (refine Run.go rfl ?_)
          refine Run.of (IH (j + 1) (by omega) (by omega)) ⟨rfl, ?_, rfl, rfl, ?_, trivial⟩ ⟨?_, trivial⟩
          · rw [hst]
            show AV.own _ _ _ = AV.own _ _ _
            simp
          · show i64 _ = _
            rw [wrap_i64 (by omega) (by omega)]
            rfl
          · rw [hM2]
            rfl
        · have h : ¬ kget x m2 < 0 := of_decide_eq_false h
          have h : moreP l o j = false := by rw [hmp]; exact decide_eq_false (by omega)
          rw [if_neg (by simp [h]), List.append_nil] at hst
          repeat (refine Run.go rfl ?_)
          refine Run.of (IH (j + 1) (by omega) (by omega)) ⟨rfl, ?_, rfl, rfl, ?_, trivial⟩ ⟨?_, trivial⟩
          · rw [hst]
            rfl
          · show i64 _ = _
            rw [wrap_i64 (by omega) (by omega)]
            rfl
          · rw [hM2]
            rfl
    · have hj' : j = l.length := by simp at h; omega
      subst hj'
      repeat (refine Run.go rfl ?_)
      refine Run.pack 4 rfl rfl rfl ?_
      exact Run.ret hg rfl rfl
end Go.Proofs.YtenknlnnnicdeaaGreatDoor

/- Contracts of the program's functions, and what follows from them. -/
set_option maxRecDepth 100000
namespace Go.Proofs.YtenknlnnnicdeaaGreatDoor
open Go Go.Av

/-! The same stock; missing and foreign books. -/

theorem more_nil {l o : List Bk} {n : Nat} : more l o n = [] ↔ ∀ j, j < n → moreP l o j = false := by
  induction n with
  | zero => simp [more]
  | succ n ih =>
    unfold more
    rw [List.append_eq_nil_iff, ih]
    constructor
    · rintro ⟨h1, h2⟩ j hj
      by_cases e : j = n
      · subst e
        cases hm : moreP l o j with
        | false => rfl
        | true => rw [hm] at h2; simp at h2
      · exact h1 j (by omega)
    · intro h
      exact ⟨fun j hj => h j (by omega), by rw [h n (by omega)]; rfl⟩

theorem count_step {l : List Bk} {j : Nat} (h : j < l.length) (x : Bk) : (l.take (j + 1)).count x = (l.take j).count x + (if l[j] = x then 1 else 0) := by
  rw [List.take_succ_eq_append_getElem h, List.count_append, List.count_singleton]
  congr 1
  by_cases e : l[j] = x <;> simp [e]

theorem count_take_le (l : List Bk) (x : Bk) (n : Nat) : (l.take n).count x ≤ l.count x := by
  have : l.count x = (l.take n).count x + (l.drop n).count x := by rw [← List.count_append, List.take_append_drop]
  omega

theorem more_counts {l o : List Bk} : more l o l.length = [] ↔ ∀ x, l.count x ≤ o.count x := by
  rw [more_nil]
  constructor
  · intro h x
    suffices hh : ∀ n, n ≤ l.length → (l.take n).count x ≤ o.count x by
      have := hh l.length (Nat.le_refl _)
      rwa [List.take_length] at this
    intro n
    induction n with
    | zero => intro _; simp
    | succ n ih =>
      intro hn
      have hlt : n < l.length := hn
      have h1 := h n hlt
      rw [moreP, show l.getD n bk0 = l[n] by simp [hlt]] at h1
      have h1 := of_decide_eq_false h1
      rw [count_step hlt]
      by_cases e : l[n] = x
      · rw [if_pos e]
        rw [e] at h1
        omega
      · rw [if_neg e]
        exact ih (by omega)
  · intro h j hj
    rw [moreP, show l.getD j bk0 = l[j] by simp [hj]]
    refine decide_eq_false ?_
    have h1 := h l[j]
    have h2 := count_take_le l l[j] (j + 1)
    rw [count_step hj, if_pos rfl] at h2
    omega

theorem counts_len : ∀ (l o : List Bk), (∀ x, l.count x ≤ o.count x) → l.length ≤ o.length ∧ (l.length = o.length → ∀ x, o.count x ≤ l.count x) := by
  intro l
  induction l with
  | nil =>
    intro o _
    refine ⟨Nat.zero_le _, fun h x => ?_⟩
    have : o = [] := List.length_eq_zero_iff.mp h.symm
    rw [this]
    exact Nat.le_refl _
  | cons a l ih =>
    intro o h
    have ha := h a
    rw [List.count_cons_self] at ha
    have hmem : a ∈ o := List.count_pos_iff.mp (by omega)
    have hlen := List.length_erase_of_mem hmem
    have hpos : 0 < o.length := List.length_pos_of_mem hmem
    have hce : ∀ x, (o.erase a).count x = o.count x - if a = x then 1 else 0 := by
      intro x
      rw [List.count_erase]
      by_cases e : a = x <;> simp [e]
    obtain ⟨h1, h2⟩ := ih (o.erase a) (by
      intro x
      have := h x
      rw [hce]
      by_cases e : a = x
      · subst e
        rw [List.count_cons_self] at this
        simp
        omega
      · rw [List.count_cons_of_ne e] at this
        simp [e]
        exact this)
    rw [hlen] at h1 h2
    refine ⟨by rw [List.length_cons]; omega, fun he x => ?_⟩
    rw [List.length_cons] at he
    have h3 := h2 (by omega) x
    rw [hce] at h3
    by_cases e : a = x
    · subst e
      rw [List.count_cons_self]
      simp at h3
      omega
    · rw [List.count_cons_of_ne e]
      simp [e] at h3
      exact h3

def sameP (a b : List Bk) : Bool := decide (a.length = b.length) && decide (more a b a.length = [])
theorem sameP_iff (a b : List Bk) : sameP a b = true ↔ more a b a.length = [] ∧ more b a b.length = [] := by
  simp only [sameP, Bool.and_eq_true, decide_eq_true_eq]
  constructor
  · rintro ⟨h1, h2⟩
    exact ⟨h2, more_counts.mpr ((counts_len a b (more_counts.mp h2)).2 h1)⟩
  · rintro ⟨h1, h2⟩
    have k1 := (counts_len a b (more_counts.mp h1)).1
    have k2 := (counts_len b a (more_counts.mp h2)).1
    exact ⟨by omega, h1⟩

noncomputable def X111 : Fx := ⟨Tryz.prog, tys, 111, Tryz.f111, [0, 1]⟩
theorem X111_ok : X111.Ok := ⟨Tryz.func111, tys_ok⟩
theorem l07Stock_ct (a b : List Bk) (e1 e2 : Bool) (ha : a.length ≤ 1048576 ∧ ∀ x ∈ a, bkRng x) (hb : b.length ≤ 1048576 ∧ ∀ x ∈ b, bkRng x) : Ct Tryz.prog 111 [.ro 8 e1 (a.map bkA), .ro 8 e2 (b.map bkA)] (bo (sameP a b)) [] := by
  refine Ct.intro X111 X111_ok rfl rfl rfl rfl fun g hg => ?_
  repeat (refine Run.go rfl ?_)
  refine Run.bool 10 rfl (fun h => ?_) (fun h => ?_)
  · have h : a.length = b.length := by simp at h; omega
    repeat (refine Run.go rfl ?_)
    refine Run.cs rfl (l07More_ct a b e1 e2 ha hb) rfl (rfB _) ?_
    refine Run.freeze (v' := .ro 8 false ((more a b a.length).map bkA)) 13 rfl rfl (by show AV.ro _ _ (AV.frzL _) = _; rw [frzB]) ?_
    repeat (refine Run.go rfl ?_)
    refine Run.ret hg rfl ?_
    show bo ((((more a b a.length).map bkA).length : Int) == 0) = _
    rw [sameP, decide_eq_true h, Bool.true_and, List.length_map]
    congr 1
    cases more a b a.length <;> simp
    omega
  · have h : ¬ a.length = b.length := by simp at h; omega
    repeat (refine Run.go rfl ?_)
    refine Run.ret hg rfl ?_
    show bo false = _
    rw [sameP, decide_eq_false h, Bool.false_and]

noncomputable def X43 : Fx := ⟨Tryz.prog, tys, 43, Tryz.f43, [0, 1]⟩
theorem X43_ok : X43.Ok := ⟨Tryz.func43, tys_ok⟩
theorem isSameStock_ct (a b : List Bk) (e1 e2 : Bool) (ha : a.length ≤ 1048576 ∧ ∀ x ∈ a, bkRng x) (hb : b.length ≤ 1048576 ∧ ∀ x ∈ b, bkRng x) : Ct Tryz.prog 43 [.ro 8 e1 (a.map bkA), .ro 8 e2 (b.map bkA)] (bo (sameP a b)) [] := by
  have hiff := sameP_iff a b
  have hz : ∀ r : List Bk, (((r.map bkA).length : Int) == 0) = decide (r = []) := by
    intro r
    cases r <;> simp
    omega
  refine Ct.intro X43 X43_ok rfl rfl rfl rfl fun g hg => ?_
  repeat (refine Run.go rfl ?_)
  refine Run.cs rfl (surplus_ct a b e1 e2 ha hb) rfl (rfB _) ?_
  refine Run.freeze (v' := .ro 8 false ((more a b a.length).map bkA)) 7 rfl rfl (by show AV.ro _ _ (AV.frzL _) = _; rw [frzB]) ?_
  repeat (refine Run.go rfl ?_)
  refine Run.bool 10 rfl (fun h => ?_) (fun h => ?_)
  · have h : more a b a.length = [] := by
      have h : (((( more a b a.length).map bkA).length : Int) == 0) = true := h
      rw [hz] at h
      exact of_decide_eq_true h
    repeat (refine Run.go rfl ?_)
    refine Run.cs rfl (surplus_ct b a e2 e1 hb ha) rfl (rfB _) ?_
    refine Run.freeze (v' := .ro 8 false ((more b a b.length).map bkA)) 13 rfl rfl (by show AV.ro _ _ (AV.frzL _) = _; rw [frzB]) ?_
    repeat (refine Run.go rfl ?_)
    refine Run.ret hg rfl ?_
    show bo ((((more b a b.length).map bkA).length : Int) == 0) = _
    rw [hz]
    congr 1
    rw [Bool.eq_iff_iff, hiff, decide_eq_true_eq]
    exact ⟨fun h2 => ⟨h, h2⟩, fun h2 => h2.2⟩
  · have h : ¬ more a b a.length = [] := by
      have h : (((( more a b a.length).map bkA).length : Int) == 0) = false := h
      rw [hz] at h
      exact of_decide_eq_false h
    repeat (refine Run.go rfl ?_)
    refine Run.ret hg rfl ?_
    show bo false = _
    congr 1
    symm
    rw [← Bool.not_eq_true, hiff]
    exact fun h2 => h h2.1

def ssRes (a b : List Bk) : Bool × Int := if stCode a b = 0 then (sameP a b, 0) else (false, stCode a b)

noncomputable def X12 : Fx := ⟨Tryz.prog, tys, 12, Tryz.f12, [0, 1]⟩
theorem X12_ok : X12.Ok := ⟨Tryz.func12, tys_ok⟩
theorem implSameStock_ct (a b : List Bk) (e1 e2 : Bool) (ha : a.length ≤ 1048576 ∧ ∀ x ∈ a, bkRng x) (hb : b.length ≤ 1048576 ∧ ∀ x ∈ b, bkRng x) : Ct Tryz.prog 12 [.ro 8 e1 (a.map bkA), .ro 8 e2 (b.map bkA)] (.tup [bo (ssRes a b).1, i64 (ssRes a b).2]) [] := by
  refine Ct.intro X12 X12_ok rfl rfl rfl rfl fun g hg => ?_
  repeat (refine Run.go rfl ?_)
  refine Run.cs rfl (stockCode_ct a b e1 e2 ha.1 hb.1) rfl rfl ?_
  repeat (refine Run.go rfl ?_)
  refine Run.cond rfl (fun h => ?_) (fun h => ?_)
  · repeat (refine Run.go rfl ?_)
    refine Run.ret hg rfl ?_
    have h : stCode a b ≠ 0 := by simpa using h
    rw [ssRes, if_neg h]
    rfl
  · have h : stCode a b = 0 := by simpa using h
    repeat (refine Run.go rfl ?_)
    refine Run.cs rfl (isSameStock_ct a b e1 e2 ha hb) rfl rfl ?_
    repeat (refine Run.go rfl ?_)
    refine Run.ret hg rfl ?_
    rw [ssRes, if_pos h]
    rfl

def bR (r : List Bk × Int) : AV := .tup [.own 8 false (r.1.map bkA), i64 r.2]
def misRes (a b : List Bk) : List Bk × Int := if stCode a b = 0 then (more a b a.length, 0) else ([], stCode a b)
def forRes (a b : List Bk) : List Bk × Int := if stCode a b = 0 then (more b a b.length, 0) else ([], stCode a b)
noncomputable def X9 : Fx := ⟨Tryz.prog, tys, 9, Tryz.f9, [0, 1]⟩
theorem X9_ok : X9.Ok := ⟨Tryz.func9, tys_ok⟩
theorem specMissingBooks_ct (a b : List Bk) (e1 e2 : Bool) (ha : a.length ≤ 1048576 ∧ ∀ x ∈ a, bkRng x) (hb : b.length ≤ 1048576 ∧ ∀ x ∈ b, bkRng x) : Ct Tryz.prog 9 [.ro 8 e1 (a.map bkA), .ro 8 e2 (b.map bkA)] (bR (misRes a b)) [] := by
  refine Ct.intro X9 X9_ok rfl rfl rfl rfl fun g hg => ?_
  repeat (refine Run.go rfl ?_)
  refine Run.cs rfl (l07Both_ct a b e1 e2 ha hb) rfl rfl ?_
  repeat (refine Run.go rfl ?_)
  refine Run.cond rfl (fun h => ?_) (fun h => ?_)
  · have h : stCode a b ≠ 0 := by simpa using h
    repeat (refine Run.go rfl ?_)
    refine Run.buildSlice [] rfl rfl rfl rfl rfl rfl rfl rfl rfl rfl rfl rfl rfl rfl ?_
    repeat (refine Run.go rfl ?_)
    refine Run.loosen0 4 rfl ?_
    refine Run.ret hg rfl ?_
    rw [misRes, if_neg h]
    rfl
  · have h : stCode a b = 0 := by simpa using h
    repeat (refine Run.go rfl ?_)
    refine Run.cs rfl (l07More_ct a b e1 e2 ha hb) rfl (rfB _) ?_
    repeat (refine Run.go rfl ?_)
    refine Run.ret hg rfl ?_
    rw [misRes, if_pos h]
    rfl

noncomputable def X8 : Fx := ⟨Tryz.prog, tys, 8, Tryz.f8, [0, 1]⟩
theorem X8_ok : X8.Ok := ⟨Tryz.func8, tys_ok⟩
theorem implMissingBooks_ct (a b : List Bk) (e1 e2 : Bool) (ha : a.length ≤ 1048576 ∧ ∀ x ∈ a, bkRng x) (hb : b.length ≤ 1048576 ∧ ∀ x ∈ b, bkRng x) : Ct Tryz.prog 8 [.ro 8 e1 (a.map bkA), .ro 8 e2 (b.map bkA)] (bR (misRes a b)) [] := by
  refine Ct.intro X8 X8_ok rfl rfl rfl rfl fun g hg => ?_
  repeat (refine Run.go rfl ?_)
  refine Run.cs rfl (stockCode_ct a b e1 e2 ha.1 hb.1) rfl rfl ?_
  repeat (refine Run.go rfl ?_)
  refine Run.cond rfl (fun h => ?_) (fun h => ?_)
  · have h : stCode a b ≠ 0 := by simpa using h
    repeat (refine Run.go rfl ?_)
    refine Run.nilSlot 4 8 false rfl ?_
    refine Run.ret hg rfl ?_
    rw [misRes, if_neg h]
    rfl
  · have h : stCode a b = 0 := by simpa using h
    repeat (refine Run.go rfl ?_)
    refine Run.cs rfl (surplus_ct a b e1 e2 ha hb) rfl (rfB _) ?_
    repeat (refine Run.go rfl ?_)
    refine Run.ret hg rfl ?_
    rw [misRes, if_pos h]
    rfl

noncomputable def X11 : Fx := ⟨Tryz.prog, tys, 11, Tryz.f11, [0, 1]⟩
theorem X11_ok : X11.Ok := ⟨Tryz.func11, tys_ok⟩
theorem specForeignBooks_ct (a b : List Bk) (e1 e2 : Bool) (ha : a.length ≤ 1048576 ∧ ∀ x ∈ a, bkRng x) (hb : b.length ≤ 1048576 ∧ ∀ x ∈ b, bkRng x) : Ct Tryz.prog 11 [.ro 8 e1 (a.map bkA), .ro 8 e2 (b.map bkA)] (bR (forRes a b)) [] := by
  refine Ct.intro X11 X11_ok rfl rfl rfl rfl fun g hg => ?_
  repeat (refine Run.go rfl ?_)
  refine Run.cs rfl (l07Both_ct a b e1 e2 ha hb) rfl rfl ?_
  repeat (refine Run.go rfl ?_)
  refine Run.cond rfl (fun h => ?_) (fun h => ?_)
  · have h : stCode a b ≠ 0 := by simpa using h
    repeat (refine Run.go rfl ?_)
    refine Run.buildSlice [] rfl rfl rfl rfl rfl rfl rfl rfl rfl rfl rfl rfl rfl rfl ?_
    repeat (refine Run.go rfl ?_)
    refine Run.loosen0 4 rfl ?_
    refine Run.ret hg rfl ?_
    rw [forRes, if_neg h]
    rfl
  · have h : stCode a b = 0 := by simpa using h
    repeat (refine Run.go rfl ?_)
    refine Run.cs rfl (l07More_ct b a e2 e1 hb ha) rfl (rfB _) ?_
    repeat (refine Run.go rfl ?_)
    refine Run.ret hg rfl ?_
    rw [forRes, if_pos h]
    rfl

noncomputable def X10 : Fx := ⟨Tryz.prog, tys, 10, Tryz.f10, [0, 1]⟩
theorem X10_ok : X10.Ok := ⟨Tryz.func10, tys_ok⟩
theorem implForeignBooks_ct (a b : List Bk) (e1 e2 : Bool) (ha : a.length ≤ 1048576 ∧ ∀ x ∈ a, bkRng x) (hb : b.length ≤ 1048576 ∧ ∀ x ∈ b, bkRng x) : Ct Tryz.prog 10 [.ro 8 e1 (a.map bkA), .ro 8 e2 (b.map bkA)] (bR (forRes a b)) [] := by
  refine Ct.intro X10 X10_ok rfl rfl rfl rfl fun g hg => ?_
  repeat (refine Run.go rfl ?_)
  refine Run.cs rfl (stockCode_ct a b e1 e2 ha.1 hb.1) rfl rfl ?_
  repeat (refine Run.go rfl ?_)
  refine Run.cond rfl (fun h => ?_) (fun h => ?_)
  · have h : stCode a b ≠ 0 := by simpa using h
    repeat (refine Run.go rfl ?_)
    refine Run.nilSlot 4 8 false rfl ?_
    refine Run.ret hg rfl ?_
    rw [forRes, if_neg h]
    rfl
  · have h : stCode a b = 0 := by simpa using h
    repeat (refine Run.go rfl ?_)
    refine Run.cs rfl (surplus_ct b a e2 e1 hb ha) rfl (rfB _) ?_
    repeat (refine Run.go rfl ?_)
    refine Run.ret hg rfl ?_
    rw [forRes, if_pos h]
    rfl
end Go.Proofs.YtenknlnnnicdeaaGreatDoor

/- Contracts of the program's functions, and what follows from them. -/
set_option maxRecDepth 100000
namespace Go.Proofs.YtenknlnnnicdeaaGreatDoor
open Go Go.Av

/-! Lists of books: marked, held. -/

end Go.Proofs.YtenknlnnnicdeaaGreatDoor
