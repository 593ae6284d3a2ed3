/- Parts of a proof, in one text: B1, B2, BRd, B4, B5, B6, B7, B8, B9. -/
import Derived.Test.YtbkelajnngdimaaGreatDoorMD
import Derived.Test.YtbkelajnngdimaaGreatDoorMF
import Derived.Test.YtbkelajnngdimaaGreatDoorAvRow
set_option linter.unusedVariables false

/- Contracts of the program's functions, and what follows from them. -/
set_option maxRecDepth 100000
namespace Go.Proofs.YtbkelajnngdimaaGreatDoor
open Go Go.Av
structure Bk where
  cl : Int
  a : Int
  b : Int
  c : Int
  vol : Int
  wd : Int
  hi : Int
  wt : Int
  deriving DecidableEq
def bkV (x : Bk) : List Value := [.int .i16 x.cl, .int .u8 x.a, .int .u8 x.b, .int .u8 x.c, .int .i16 x.vol, .int .i16 x.wd, .int .i16 x.hi, .int .i16 x.wt]
def bkA (x : Bk) : AV := .agg [i16 x.cl, u8 x.a, u8 x.b, u8 x.c, i16 x.vol, i16 x.wd, i16 x.hi, i16 x.wt]
def bk0 : Bk := ⟨0, 0, 0, 0, 0, 0, 0, 0⟩
theorem bk_rf (x : Bk) : (bkA x).rf = true := rfl
theorem bk_frz (x : Bk) : (bkA x).frz = bkA x := rfl
theorem frzB (l : List Bk) : AV.frzL (l.map bkA) = l.map bkA := frzL_map bk_frz l
theorem rfB (l : List Bk) : AV.rfL (l.map bkA) = true := rfL_map bk_rf l
def m3 (a b c : Int) : Nat → AV
  | 0 => .agg [u8 0, u8 0, u8 0]
  | 1 => .agg [u8 a, u8 0, u8 0]
  | 2 => .agg [u8 a, u8 b, u8 0]
  | _ => .agg [u8 a, u8 b, u8 c]
end Go.Proofs.YtbkelajnngdimaaGreatDoor

/- Contracts of the program's functions, and what follows from them. -/
set_option maxRecDepth 100000
namespace Go.Proofs.YtbkelajnngdimaaGreatDoor
open Go Go.Av
noncomputable def X264 : Fx := ⟨Tryz.prog, tys, 264, Tryz.f264, [0, 1]⟩
theorem X264_ok : X264.Ok := ⟨Tryz.func264, tys_ok⟩
theorem indexBy_ct (l : List Int) (ex : Bool) (f : Nat) (caps : List AV) (p : Int → Bool) (hlen : l.length ≤ 1048576) (hc : AV.freeL caps = true)
    (hf : ∀ x ∈ l, Ct Tryz.prog f ([u8 x] ++ caps) (bo (p x)) []) : Ct Tryz.prog 264 [.ro 1 ex (l.map u8), .fn f caps] (i64 (fi p l)) [] := by
  refine Ct.intro X264 X264_ok rfl (by kernel_rfl) rfl rfl fun g hg => ?_
  repeat (refine Run.step rfl ?_)
  refine Run.loop (fun j : Nat => ⟨[(0, .ro 1 ex (l.map u8)), (1, .fn f caps), (7, i64 l.length), (8, i64 j)], []⟩) (fun j => j ≤ l.length ∧ j ≤ l.findIdx p) (fun j => l.length - j) 0 ⟨by omega, by omega⟩ ?_ ?_
  · refine St.Le.mk' ⟨rfl, rfl, ?_, rfl, trivial⟩ trivial
    show i64 _ = _
    simp
  · rintro j ⟨hj1, hj2⟩ IH
    repeat (refine Run.step rfl ?_)
    refine Run.cond rfl (fun h => ?_) (fun h => ?_)
    · have hlt : j < l.length := by simpa using h
      repeat (refine Run.step rfl ?_)
      refine Run.val rfl rfl rfl (ValOk.idx (u8 l[j]) rfl rfl rfl rfl rfl (by omega) (by simp [hlt])) rfl ?_
      repeat (refine Run.step rfl ?_)
      refine Run.callp rfl rfl rfl rfl rfl rfl rfl hc rfl (hf l[j] (by simp)) (by decide) (by decide) ?_
      repeat (refine Run.step rfl ?_)
      refine Run.cond rfl (fun h => ?_) (fun h => ?_)
      · repeat (refine Run.step rfl ?_)
        refine Run.ret hg rfl ?_
        show i64 _ = _
        rw [fi_at hlt h hj2]
      · repeat (refine Run.step rfl ?_)
        refine Run.of (IH (j + 1) ⟨by omega, fi_next hlt h hj2⟩ (by omega)) ⟨rfl, rfl, rfl, ?_, trivial⟩ trivial
        show i64 _ = _
        rw [wrap_i64 (by omega) (by omega)]
        rfl
    · repeat (refine Run.step rfl ?_)
      have hj : j = l.length := by simp at h; omega
      refine Run.ret hg rfl ?_
      show i64 (-1) = _
      rw [fi_none (by omega)]
noncomputable def X228 : Fx := ⟨Tryz.prog, tys, 228, Tryz.f228, [0, 1]⟩
theorem X228_ok : X228.Ok := ⟨Tryz.func228, tys_ok⟩
theorem containsBy_ct (l : List Int) (ex : Bool) (f : Nat) (caps : List AV) (p : Int → Bool) (hlen : l.length ≤ 1048576) (hc : AV.freeL caps = true)
    (hf : ∀ x ∈ l, Ct Tryz.prog f ([u8 x] ++ caps) (bo (p x)) []) : Ct Tryz.prog 228 [.ro 1 ex (l.map u8), .fn f caps] (bo (l.any p)) [] := by
  refine Ct.intro X228 X228_ok rfl (by kernel_rfl) rfl rfl fun g hg => ?_
  repeat (refine Run.go rfl ?_)
  refine Run.callp rfl rfl rfl rfl rfl rfl (by simp [AV.freeL, AV.free, hc]) rfl rfl (indexBy_ct l ex f caps p hlen hc hf) (by decide) (by decide) ?_
  repeat (refine Run.go rfl ?_)
  refine Run.ret hg rfl ?_
  show bo _ = _
  rw [← fi_nonneg]
noncomputable def X229 : Fx := ⟨Tryz.prog, tys, 229, Tryz.f229, [0, 1]⟩
theorem X229_ok : X229.Ok := ⟨Tryz.func229, tys_ok⟩
theorem areAllBy10_ct (c : Int) (f : Nat) (p : Bool) (hf : Ct Tryz.prog f [u8 c] (bo p) []) : Ct Tryz.prog 229 [u8 c, .rp [.fn f []] 0] (bo (!p)) [] := by
  refine Ct.intro X229 X229_ok rfl (by kernel_rfl) rfl rfl fun g hg => ?_
  repeat (refine Run.go rfl ?_)
  refine Run.cs rfl hf rfl rfl ?_
  repeat (refine Run.go rfl ?_)
  exact Run.ret hg rfl rfl
noncomputable def X163 : Fx := ⟨Tryz.prog, tys, 163, Tryz.f163, [0, 1]⟩
theorem X163_ok : X163.Ok := ⟨Tryz.func163, tys_ok⟩
theorem areAllBy0_ct (l : List Int) (ex : Bool) (f : Nat) (p : Int → Bool) (hlen : l.length ≤ 1048576) (hf : ∀ x ∈ l, Ct Tryz.prog f [u8 x] (bo (p x)) []) :
    Ct Tryz.prog 163 [.ro 1 ex (l.map u8), .fn f []] (bo (l.all p)) [] := by
  refine Ct.intro X163 X163_ok rfl (by kernel_rfl) rfl rfl fun g hg => ?_
  repeat (refine Run.go rfl ?_)
  refine Run.cs rfl (containsBy_ct l ex 229 [.rp [.fn f []] 0] (fun x => !p x) hlen rfl (fun x hx => areAllBy10_ct x f (p x) (hf x hx))) rfl rfl ?_
  repeat (refine Run.go rfl ?_)
  refine Run.ret hg rfl ?_
  show bo (!l.any fun x => !p x) = _
  congr 2
  simp [List.all_eq_not_any_not]
noncomputable def X144 : Fx := ⟨Tryz.prog, tys, 144, Tryz.f144, [0, 1]⟩
theorem X144_ok : X144.Ok := ⟨Tryz.func144, tys_ok⟩
theorem indexB_ct (l : List Bk) (ex : Bool) (f : Nat) (caps : List AV) (p : Bk → Bool) (hlen : l.length ≤ 1048576) (hc : AV.freeL caps = true)
    (hf : ∀ x ∈ l, Ct Tryz.prog f ([bkA x] ++ caps) (bo (p x)) []) : Ct Tryz.prog 144 [.ro 8 ex (l.map bkA), .fn f caps] (i64 (fi p l)) [] := by
  refine Ct.intro X144 X144_ok rfl (by kernel_rfl) rfl rfl fun g hg => ?_
  repeat (refine Run.step rfl ?_)
  refine Run.loop (fun j : Nat => ⟨[(0, .ro 8 ex (l.map bkA)), (1, .fn f caps), (7, i64 l.length), (8, i64 j)], []⟩) (fun j => j ≤ l.length ∧ j ≤ l.findIdx p) (fun j => l.length - j) 0 ⟨by omega, by omega⟩ ?_ ?_
  · refine St.Le.mk' ⟨rfl, rfl, ?_, rfl, trivial⟩ trivial
    show i64 _ = _
    simp
  · rintro j ⟨hj1, hj2⟩ IH
    repeat (refine Run.step rfl ?_)
    refine Run.cond rfl (fun h => ?_) (fun h => ?_)
    · have hlt : j < l.length := by simpa using h
      repeat (refine Run.step rfl ?_)
      refine Run.val rfl rfl rfl (ValOk.idx (bkA l[j]) rfl rfl rfl rfl rfl (by omega) (by simp [hlt])) rfl ?_
      repeat (refine Run.step rfl ?_)
      refine Run.callp rfl rfl rfl rfl rfl rfl rfl hc rfl (hf l[j] (by simp)) (by decide) (by decide) ?_
      repeat (refine Run.step rfl ?_)
      refine Run.cond rfl (fun h => ?_) (fun h => ?_)
      · repeat (refine Run.step rfl ?_)
        refine Run.ret hg rfl ?_
        show i64 _ = _
        rw [fi_at hlt h hj2]
      · repeat (refine Run.step rfl ?_)
        refine Run.of (IH (j + 1) ⟨by omega, fi_next hlt h hj2⟩ (by omega)) ⟨rfl, rfl, rfl, ?_, trivial⟩ trivial
        show i64 _ = _
        rw [wrap_i64 (by omega) (by omega)]
        rfl
    · repeat (refine Run.step rfl ?_)
      have hj : j = l.length := by simp at h; omega
      refine Run.ret hg rfl ?_
      show i64 (-1) = _
      rw [fi_none (by omega)]
noncomputable def X235 : Fx := ⟨Tryz.prog, tys, 235, Tryz.f235, [0, 1]⟩
theorem X235_ok : X235.Ok := ⟨Tryz.func235, tys_ok⟩
theorem containsB_ct (l : List Bk) (ex : Bool) (f : Nat) (caps : List AV) (p : Bk → Bool) (hlen : l.length ≤ 1048576) (hc : AV.freeL caps = true)
    (hf : ∀ x ∈ l, Ct Tryz.prog f ([bkA x] ++ caps) (bo (p x)) []) : Ct Tryz.prog 235 [.ro 8 ex (l.map bkA), .fn f caps] (bo (l.any p)) [] := by
  refine Ct.intro X235 X235_ok rfl (by kernel_rfl) rfl rfl fun g hg => ?_
  repeat (refine Run.go rfl ?_)
  refine Run.callp rfl rfl rfl rfl rfl rfl (by simp [AV.freeL, AV.free, hc]) rfl rfl (indexB_ct l ex f caps p hlen hc hf) (by decide) (by decide) ?_
  repeat (refine Run.go rfl ?_)
  refine Run.ret hg rfl ?_
  show bo _ = _
  rw [← fi_nonneg]
noncomputable def X236 : Fx := ⟨Tryz.prog, tys, 236, Tryz.f236, [0, 1]⟩
theorem X236_ok : X236.Ok := ⟨Tryz.func236, tys_ok⟩
theorem areAllB10_ct (c : Bk) (f : Nat) (p : Bool) (hf : Ct Tryz.prog f [bkA c] (bo p) []) : Ct Tryz.prog 236 [bkA c, .rp [.fn f []] 0] (bo (!p)) [] := by
  refine Ct.intro X236 X236_ok rfl (by kernel_rfl) rfl rfl fun g hg => ?_
  repeat (refine Run.go rfl ?_)
  refine Run.cs rfl hf rfl rfl ?_
  repeat (refine Run.go rfl ?_)
  exact Run.ret hg rfl rfl
noncomputable def X181 : Fx := ⟨Tryz.prog, tys, 181, Tryz.f181, [0, 1]⟩
theorem X181_ok : X181.Ok := ⟨Tryz.func181, tys_ok⟩
theorem areAllB0_ct (l : List Bk) (ex : Bool) (f : Nat) (p : Bk → Bool) (hlen : l.length ≤ 1048576) (hf : ∀ x ∈ l, Ct Tryz.prog f [bkA x] (bo (p x)) []) :
    Ct Tryz.prog 181 [.ro 8 ex (l.map bkA), .fn f []] (bo (l.all p)) [] := by
  refine Ct.intro X181 X181_ok rfl (by kernel_rfl) rfl rfl fun g hg => ?_
  repeat (refine Run.go rfl ?_)
  refine Run.cs rfl (containsB_ct l ex 236 [.rp [.fn f []] 0] (fun x => !p x) hlen rfl (fun x hx => areAllB10_ct x f (p x) (hf x hx))) rfl rfl ?_
  repeat (refine Run.go rfl ?_)
  refine Run.ret hg rfl ?_
  show bo (!l.any fun x => !p x) = _
  congr 2
  simp [List.all_eq_not_any_not]
def u8r (n : Int) : Prop := 0 ≤ n ∧ n ≤ 255
def bkRng (x : Bk) : Prop := i16r x.cl ∧ u8r x.a ∧ u8r x.b ∧ u8r x.c ∧ i16r x.vol ∧ i16r x.wd ∧ i16r x.hi ∧ i16r x.wt
def sm (n : Int) : Bool := decide (97 ≤ n) && decide (n ≤ 122)
def vB (x : Bk) : Bool := inr x.cl 0 999 && (sm x.a && (sm x.b && sm x.c)) && inr x.vol 1 99 && inr x.wd 1 100 && inr x.hi 50 400 && inr x.wt 1 9999
def vBs (l : List Bk) : Bool := decide (l.length ≤ 60) && l.all vB
noncomputable def X164 : Fx := ⟨Tryz.prog, tys, 164, Tryz.f164, [0]⟩
theorem X164_ok : X164.Ok := ⟨Tryz.func164, tys_ok⟩
theorem isSmall_ct (n : Int) : Ct Tryz.prog 164 [u8 n] (bo (sm n)) [] := by
  refine Ct.intro X164 X164_ok rfl rfl rfl rfl fun g hg => ?_
  repeat (refine Run.go rfl ?_)
  refine Run.bool 5 rfl (fun h => ?_) (fun h => ?_)
  · repeat (refine Run.go rfl ?_)
    refine Run.ret hg rfl ?_
    show bo _ = _
    simp at h
    simp [sm, h]
  · repeat (refine Run.go rfl ?_)
    refine Run.ret hg rfl ?_
    show bo _ = _
    simp at h
    simp [sm]
    omega
noncomputable def X69 : Fx := ⟨Tryz.prog, tys, 69, Tryz.f69, [0]⟩
theorem X69_ok : X69.Ok := ⟨Tryz.func69, tys_ok⟩
theorem validBook_ct (x : Bk) : Ct Tryz.prog 69 [bkA x] (bo (vB x)) [] := by
  refine Ct.intro X69 X69_ok rfl rfl rfl rfl fun g hg => ?_
  iterate 3 (refine Run.go rfl ?_)
  refine Run.freezeBox 1 (1, 0) (bkA x).cells rfl rfl rfl rfl ?_
  repeat (refine Run.go rfl ?_)
  refine Run.cs rfl (within16_ct x.cl 0 999) rfl rfl ?_
  repeat (refine Run.go rfl ?_)
  refine Run.bool 6 rfl (fun h1 => ?_) (fun h1 => ?_)
  · have h1 : inr x.cl 0 999 = true := h1
    repeat (refine Run.go rfl ?_)
    refine Run.val rfl rfl rfl (ValOk.cutArr (ys := [x.a, x.b, x.c].map u8) rfl rfl rfl rfl rfl rfl rfl rfl rfl (by decide)) rfl ?_
    refine Run.cs rfl (areAllBy0_ct [x.a, x.b, x.c] true _ sm (by simp) fun y _ => isSmall_ct y) rfl rfl ?_
    repeat (refine Run.go rfl ?_)
    refine Run.bool 11 rfl (fun h2 => ?_) (fun h2 => ?_)
    · have h2 : (sm x.a && (sm x.b && sm x.c)) = true := by simpa using h2
      repeat (refine Run.go rfl ?_)
      refine Run.cs rfl (within16_ct x.vol 1 99) rfl rfl ?_
      repeat (refine Run.go rfl ?_)
      refine Run.bool 16 rfl (fun h3 => ?_) (fun h3 => ?_)
      · have h3 : inr x.vol 1 99 = true := h3
        repeat (refine Run.go rfl ?_)
        refine Run.cs rfl (within16_ct x.wd 1 100) rfl rfl ?_
        repeat (refine Run.go rfl ?_)
        refine Run.bool 21 rfl (fun h4 => ?_) (fun h4 => ?_)
        · have h4 : inr x.wd 1 100 = true := h4
          repeat (refine Run.go rfl ?_)
          refine Run.cs rfl (within16_ct x.hi 50 400) rfl rfl ?_
          repeat (refine Run.go rfl ?_)
          refine Run.bool 26 rfl (fun h5 => ?_) (fun h5 => ?_)
          · have h5 : inr x.hi 50 400 = true := h5
            repeat (refine Run.go rfl ?_)
            refine Run.cs rfl (within16_ct x.wt 1 9999) rfl rfl ?_
            repeat (refine Run.go rfl ?_)
            refine Run.ret hg rfl ?_
            rw [vB, h1, h2, h3, h4, h5]
            rfl
          · have h5 : inr x.hi 50 400 = false := h5
            repeat (refine Run.go rfl ?_)
            refine Run.ret hg rfl ?_
            rw [vB, h1, h2, h3, h4, h5]
            rfl
        · have h4 : inr x.wd 1 100 = false := h4
          repeat (refine Run.go rfl ?_)
          refine Run.bool 26 rfl (fun h => by simp at h) (fun h => ?_)
          repeat (refine Run.go rfl ?_)
          refine Run.ret hg rfl ?_
          rw [vB, h1, h2, h3, h4]
          rfl
      · have h3 : inr x.vol 1 99 = false := h3
        repeat (refine Run.go rfl ?_)
        refine Run.bool 21 rfl (fun h => by simp at h) (fun h => ?_)
        repeat (refine Run.go rfl ?_)
        refine Run.bool 26 rfl (fun h => by simp at h) (fun h => ?_)
        repeat (refine Run.go rfl ?_)
        refine Run.ret hg rfl ?_
        rw [vB, h1, h2, h3]
        rfl
    · have h2 : (sm x.a && (sm x.b && sm x.c)) = false := by simpa using h2
      repeat (refine Run.go rfl ?_)
      refine Run.bool 16 rfl (fun h => by simp at h) (fun h => ?_)
      repeat (refine Run.go rfl ?_)
      refine Run.bool 21 rfl (fun h => by simp at h) (fun h => ?_)
      repeat (refine Run.go rfl ?_)
      refine Run.bool 26 rfl (fun h => by simp at h) (fun h => ?_)
      repeat (refine Run.go rfl ?_)
      refine Run.ret hg rfl ?_
      rw [vB, h1, h2]
      rfl
  · have h1 : inr x.cl 0 999 = false := h1
    repeat (refine Run.go rfl ?_)
    refine Run.bool 11 rfl (fun h => by simp at h) (fun h => ?_)
    repeat (refine Run.go rfl ?_)
    refine Run.bool 16 rfl (fun h => by simp at h) (fun h => ?_)
    repeat (refine Run.go rfl ?_)
    refine Run.bool 21 rfl (fun h => by simp at h) (fun h => ?_)
    repeat (refine Run.go rfl ?_)
    refine Run.bool 26 rfl (fun h => by simp at h) (fun h => ?_)
    repeat (refine Run.go rfl ?_)
    refine Run.ret hg rfl ?_
    rw [vB, h1]
    rfl
noncomputable def X103 : Fx := ⟨Tryz.prog, tys, 103, Tryz.f103, [0]⟩
theorem X103_ok : X103.Ok := ⟨Tryz.func103, tys_ok⟩
theorem validBooks_ct (l : List Bk) (ex : Bool) (hlen : l.length ≤ 1048576) : Ct Tryz.prog 103 [.ro 8 ex (l.map bkA)] (bo (vBs l)) [] := by
  refine Ct.intro X103 X103_ok rfl rfl rfl rfl fun g hg => ?_
  repeat (refine Run.go rfl ?_)
  refine Run.bool 6 rfl (fun h => ?_) (fun h => ?_)
  · have h : l.length ≤ 60 := by simp at h; omega
    repeat (refine Run.go rfl ?_)
    refine Run.cs rfl (areAllB0_ct l ex _ vB hlen fun y _ => validBook_ct y) rfl rfl ?_
    repeat (refine Run.go rfl ?_)
    refine Run.ret hg rfl ?_
    show bo _ = _
    simp [vBs, h]
  · have h : ¬ l.length ≤ 60 := by simp at h; omega
    repeat (refine Run.go rfl ?_)
    refine Run.ret hg rfl ?_
    show bo false = _
    simp [vBs, h]
noncomputable def X167 : Fx := ⟨Tryz.prog, tys, 167, Tryz.f167, [0]⟩
theorem X167_ok : X167.Ok := ⟨Tryz.func167, tys_ok⟩
theorem l01Mark_ct (a b c : Int) : Ct Tryz.prog 167 [.agg [u8 a, u8 b, u8 c]] (bo (sm a && (sm b && sm c))) [] := by
  refine Ct.intro X167 X167_ok rfl rfl rfl rfl fun g hg => ?_
  repeat (refine Run.go rfl ?_)
  refine Run.loop (fun j : Nat => ⟨[(1, .bp (1, 0) 0), (3, i64 j)], [((1, 0), .box [u8 a, u8 b, u8 c])]⟩) (fun j => j ≤ 3 ∧ (0 < j → sm a = true) ∧ (1 < j → sm b = true) ∧ (2 < j → sm c = true)) (fun j => 3 - j) 0 (by omega) ?_ ?_
  · exact St.Le.mk' ⟨rfl, rfl, trivial⟩ ⟨rfl, trivial⟩
  · rintro j ⟨hj, q0, q1, q2⟩ IH
    have hj4 : j = 0 ∨ j = 1 ∨ j = 2 ∨ j = 3 := by omega
    have key : ∀ n : Int, (97 ≤ n → n ≤ 122 → sm n = true) ∧ (n < 97 → sm n = false) ∧ (122 < n → sm n = false) := by
      intro n
      refine ⟨fun h1 h2 => by simp [sm, h1, h2], fun h => by simp [sm]; omega, fun h => by simp [sm]; omega⟩
    rcases hj4 with rfl | rfl | rfl | rfl
    · repeat (refine Run.go rfl ?_)
      refine Run.cond rfl (fun h => ?_) (fun h => by simp at h)
      repeat (refine Run.go rfl ?_)
      refine Run.bool 12 rfl (fun hA => ?_) (fun hA => ?_)
      · have F : sm a = false := (key a).2.1 (by simpa using hA)
        repeat (refine Run.go rfl ?_)
        refine Run.cond rfl (fun _ => ?_) (fun h => by simp at h)
        repeat (refine Run.go rfl ?_)
        refine Run.ret hg rfl ?_
        have : (sm a && (sm b && sm c)) = false := by rw [F, Bool.false_and]
        rw [this]
        rfl
      · have hA : 97 ≤ a := by simpa using hA
        repeat (refine Run.go rfl ?_)
        refine Run.cond rfl (fun hB => ?_) (fun hB => ?_)
        · have F : sm a = false := (key a).2.2 (by simpa using hB)
          repeat (refine Run.go rfl ?_)
          refine Run.ret hg rfl ?_
          have : (sm a && (sm b && sm c)) = false := by rw [F, Bool.false_and]
          rw [this]
          rfl
        · have S : sm a = true := (key a).1 hA (by simpa using hB)
          repeat (refine Run.go rfl ?_)
          exact Run.of (IH 1 ⟨by omega, fun _ => S, by omega, by omega⟩ (by omega)) ⟨rfl, rfl, trivial⟩ ⟨rfl, trivial⟩
    · repeat (refine Run.go rfl ?_)
      refine Run.cond rfl (fun h => ?_) (fun h => by simp at h)
      repeat (refine Run.go rfl ?_)
      refine Run.bool 12 rfl (fun hA => ?_) (fun hA => ?_)
      · have F : sm b = false := (key b).2.1 (by simpa using hA)
        repeat (refine Run.go rfl ?_)
        refine Run.cond rfl (fun _ => ?_) (fun h => by simp at h)
        repeat (refine Run.go rfl ?_)
        refine Run.ret hg rfl ?_
        have : (sm a && (sm b && sm c)) = false := by rw [F, Bool.false_and, Bool.and_false]
        rw [this]
        rfl
      · have hA : 97 ≤ b := by simpa using hA
        repeat (refine Run.go rfl ?_)
        refine Run.cond rfl (fun hB => ?_) (fun hB => ?_)
        · have F : sm b = false := (key b).2.2 (by simpa using hB)
          repeat (refine Run.go rfl ?_)
          refine Run.ret hg rfl ?_
          have : (sm a && (sm b && sm c)) = false := by rw [F, Bool.false_and, Bool.and_false]
          rw [this]
          rfl
        · have S : sm b = true := (key b).1 hA (by simpa using hB)
          repeat (refine Run.go rfl ?_)
          exact Run.of (IH 2 ⟨by omega, fun _ => q0 (by omega), fun _ => S, by omega⟩ (by omega)) ⟨rfl, rfl, trivial⟩ ⟨rfl, trivial⟩
    · repeat (refine Run.go rfl ?_)
      refine Run.cond rfl (fun h => ?_) (fun h => by simp at h)
      repeat (refine Run.go rfl ?_)
      refine Run.bool 12 rfl (fun hA => ?_) (fun hA => ?_)
      · have F : sm c = false := (key c).2.1 (by simpa using hA)
        repeat (refine Run.go rfl ?_)
        refine Run.cond rfl (fun _ => ?_) (fun h => by simp at h)
        repeat (refine Run.go rfl ?_)
        refine Run.ret hg rfl ?_
        have : (sm a && (sm b && sm c)) = false := by rw [F, Bool.and_false, Bool.and_false]
        rw [this]
        rfl
      · have hA : 97 ≤ c := by simpa using hA
        repeat (refine Run.go rfl ?_)
        refine Run.cond rfl (fun hB => ?_) (fun hB => ?_)
        · have F : sm c = false := (key c).2.2 (by simpa using hB)
          repeat (refine Run.go rfl ?_)
          refine Run.ret hg rfl ?_
          have : (sm a && (sm b && sm c)) = false := by rw [F, Bool.and_false, Bool.and_false]
          rw [this]
          rfl
        · have S : sm c = true := (key c).1 hA (by simpa using hB)
          repeat (refine Run.go rfl ?_)
          exact Run.of (IH 3 ⟨by omega, fun _ => q0 (by omega), fun _ => q1 (by omega), fun _ => S⟩ (by omega)) ⟨rfl, rfl, trivial⟩ ⟨rfl, trivial⟩
    · repeat (refine Run.go rfl ?_)
      refine Run.cond rfl (fun h => by simp at h) (fun h => ?_)
      repeat (refine Run.go rfl ?_)
      refine Run.ret hg rfl ?_
      rw [q0 (by omega), q1 (by omega), q2 (by omega)]
      rfl
noncomputable def X166 : Fx := ⟨Tryz.prog, tys, 166, Tryz.f166, [0]⟩
theorem X166_ok : X166.Ok := ⟨Tryz.func166, tys_ok⟩
theorem l01Class_ct (n : Int) : Ct Tryz.prog 166 [i64 n] (bo (inr n 0 999)) [] := by
  refine Ct.intro X166 X166_ok rfl rfl rfl rfl fun g hg => ?_
  repeat (refine Run.go rfl ?_)
  refine Run.cs rfl (l00In_ct n 0 999) rfl rfl ?_
  repeat (refine Run.go rfl ?_)
  exact Run.ret hg rfl rfl
noncomputable def X72 : Fx := ⟨Tryz.prog, tys, 72, Tryz.f72, [0]⟩
theorem X72_ok : X72.Ok := ⟨Tryz.func72, tys_ok⟩
theorem l01Book_ct (x : Bk) (hr : bkRng x) : Ct Tryz.prog 72 [.rp (bkA x).cells 0] (bo (vB x)) [] := by
  obtain ⟨r1, _, _, _, r2, r3, r4, r5⟩ := hr
  have w1 := w64 r1
  have w2 := w64 r2
  have w3 := w64 r3
  have w4 := w64 r4
  have w5 := w64 r5
  refine Ct.intro X72 X72_ok rfl rfl rfl rfl fun g hg => ?_
  repeat (refine Run.go rfl ?_)
  rw [w1]
  refine Run.cs rfl (l01Class_ct x.cl) rfl rfl ?_
  repeat (refine Run.go rfl ?_)
  refine Run.bool 10 rfl (fun h1 => ?_) (fun h1 => ?_)
  · have h1 : inr x.cl 0 999 = false := by simpa using h1
    repeat (refine Run.go rfl ?_)
    refine Run.bool 18 rfl (fun h => ?_) (fun h => by simp at h)
    repeat (refine Run.go rfl ?_)
    refine Run.cond rfl (fun h => ?_) (fun h => by simp at h)
    repeat (refine Run.go rfl ?_)
    refine Run.ret hg rfl ?_
    rw [vB, h1]
    rfl
  have h1 : inr x.cl 0 999 = true := by simpa using h1
  repeat (refine Run.go rfl ?_)
  refine Run.cs rfl (l01Mark_ct x.a x.b x.c) rfl rfl ?_
  repeat (refine Run.go rfl ?_)
  refine Run.bool 18 rfl (fun h2 => ?_) (fun h2 => ?_)
  · have h2 : (sm x.a && (sm x.b && sm x.c)) = false := by rw [Bool.not_eq_true'] at h2; exact h2
    repeat (refine Run.go rfl ?_)
    refine Run.cond rfl (fun h => ?_) (fun h => by simp at h)
    repeat (refine Run.go rfl ?_)
    refine Run.ret hg rfl ?_
    rw [vB, h1, h2]
    rfl
  have h2 : (sm x.a && (sm x.b && sm x.c)) = true := by rw [Bool.not_eq_false'] at h2; exact h2
  repeat (refine Run.go rfl ?_)
  rw [w2]
  refine Run.cs rfl (l00In_ct x.vol 1 99) rfl rfl ?_
  repeat (refine Run.go rfl ?_)
  refine Run.cond rfl (fun h3 => ?_) (fun h3 => ?_)
  · have h3 : inr x.vol 1 99 = false := by simpa using h3
    repeat (refine Run.go rfl ?_)
    refine Run.ret hg rfl ?_
    rw [vB, h1, h2, h3]
    rfl
  have h3 : inr x.vol 1 99 = true := by simpa using h3
  repeat (refine Run.go rfl ?_)
  rw [w3]
  refine Run.cs rfl (l00In_ct x.wd 1 100) rfl rfl ?_
  repeat (refine Run.go rfl ?_)
  refine Run.bool 33 rfl (fun h4 => ?_) (fun h4 => ?_)
  · have h4 : inr x.wd 1 100 = true := h4
    repeat (refine Run.go rfl ?_)
    rw [w4]
    refine Run.cs rfl (l00In_ct x.hi 50 400) rfl rfl ?_
    repeat (refine Run.go rfl ?_)
    refine Run.bool 41 rfl (fun h5 => ?_) (fun h5 => ?_)
    · have h5 : inr x.hi 50 400 = true := h5
      repeat (refine Run.go rfl ?_)
      rw [w5]
      refine Run.cs rfl (l00In_ct x.wt 1 9999) rfl rfl ?_
      repeat (refine Run.go rfl ?_)
      refine Run.ret hg rfl ?_
      rw [vB, h1, h2, h3, h4, h5]
      rfl
    · have h5 : inr x.hi 50 400 = false := h5
      repeat (refine Run.go rfl ?_)
      refine Run.ret hg rfl ?_
      rw [vB, h1, h2, h3, h4, h5]
      rfl
  · have h4 : inr x.wd 1 100 = false := h4
    repeat (refine Run.go rfl ?_)
    refine Run.bool 41 rfl (fun h => by simp at h) (fun h => ?_)
    repeat (refine Run.go rfl ?_)
    refine Run.ret hg rfl ?_
    rw [vB, h1, h2, h3, h4]
    rfl
end Go.Proofs.YtbkelajnngdimaaGreatDoor

/- Contracts of the program's functions, and what follows from them. -/
set_option maxRecDepth 100000
namespace Go.Proofs.YtbkelajnngdimaaGreatDoor
open Go Go.Av
end Go.Proofs.YtbkelajnngdimaaGreatDoor

/- Contracts of the program's functions, and what follows from them. -/
set_option maxRecDepth 100000
namespace Go.Proofs.YtbkelajnngdimaaGreatDoor
open Go Go.Av
def lex3 (p q : Int × Int × Int) : Int := if cmpI p.1 q.1 ≠ 0 then cmpI p.1 q.1 else if cmpI p.2.1 q.2.1 ≠ 0 then cmpI p.2.1 q.2.1 else cmpI p.2.2 q.2.2
def nm (x : Bk) : Nat → Int × Int × Int
  | 0 => (x.cl, 0, 0)
  | 1 => (x.a, x.b, x.c)
  | _ => (x.vol, 0, 0)
def fc (x y : Bk) (i : Nat) : Int := lex3 (nm x i) (nm y i)
def uc (x y : Bk) : Int := if fc x y 0 ≠ 0 then fc x y 0 else if fc x y 1 ≠ 0 then fc x y 1 else fc x y 2
theorem cmpI_self (a : Int) : cmpI a a = 0 := by simp [cmpI]
theorem cmpI_ne {a b : Int} (h : a ≠ b) : cmpI a b ≠ 0 := by
  unfold cmpI
  split
  · decide
  · split
    · decide
    · omega
theorem cmpI_zero {a b : Int} (h : cmpI a b = 0) : a = b := Classical.byContradiction fun hne => cmpI_ne hne h
theorem cmpI_lt {a b : Int} (h : a < b) : cmpI a b = -1 := by rw [cmpI, if_pos h]
theorem cmpI_gt {a b : Int} (h : a ≠ b) (h2 : ¬ a < b) : cmpI a b = 1 := by rw [cmpI, if_neg h2, if_pos (by omega)]
theorem lex3_one (a b : Int) : lex3 (a, 0, 0) (b, 0, 0) = cmpI a b := by
  unfold lex3
  by_cases h : cmpI a b = 0
  · simp [h, cmpI_self]
  · simp [h]
theorem fc0 (x y : Bk) : fc x y 0 = cmpI x.cl y.cl := lex3_one _ _
theorem fc2 (x y : Bk) : fc x y 2 = cmpI x.vol y.vol := lex3_one _ _
theorem uc_at {x y : Bk} {i : Nat} (hi : i < 3) (h0 : 0 < i → fc x y 0 = 0) (h1 : 1 < i → fc x y 1 = 0) (hn : fc x y i ≠ 0) : uc x y = fc x y i := by
  have : i = 0 ∨ i = 1 ∨ i = 2 := by omega
  rcases this with rfl | rfl | rfl
  · rw [uc, if_pos hn]
  · rw [uc, if_neg (by rw [h0 (by omega)]; simp), if_pos hn]
  · rw [uc, if_neg (by rw [h0 (by omega)]; simp), if_neg (by rw [h1 (by omega)]; simp)]
theorem uc_end {x y : Bk} (h0 : fc x y 0 = 0) (h1 : fc x y 1 = 0) (h2 : fc x y 2 = 0) : uc x y = 0 := by
  rw [uc, if_neg (by rw [h0]; simp), if_neg (by rw [h1]; simp), h2]
noncomputable def X314 : Fx := ⟨Tryz.prog, tys, 314, Tryz.f314, [0]⟩
theorem X314_ok : X314.Ok := ⟨Tryz.func314, tys_ok⟩
theorem isNaN8_ct (a : Int) : Ct Tryz.prog 314 [u8 a] (bo false) [] := by
  refine Ct.intro X314 X314_ok rfl rfl rfl rfl fun g hg => ?_
  repeat (refine Run.go rfl ?_)
  refine Run.ret hg rfl ?_
  show bo (a != a) = _
  simp
noncomputable def X295 : Fx := ⟨Tryz.prog, tys, 295, Tryz.f295, [0, 1]⟩
theorem X295_ok : X295.Ok := ⟨Tryz.func295, tys_ok⟩
theorem compareU8_ct (a b : Int) : Ct Tryz.prog 295 [u8 a, u8 b] (i64 (cmpI a b)) [] := by
  refine Ct.intro X295 X295_ok rfl rfl rfl rfl fun g hg => ?_
  repeat (refine Run.go rfl ?_)
  refine Run.cs rfl (isNaN8_ct a) rfl rfl ?_
  repeat (refine Run.go rfl ?_)
  refine Run.cs rfl (isNaN8_ct b) rfl rfl ?_
  repeat (refine Run.go rfl ?_)
  refine Run.cond rfl (fun h => by simp at h) (fun h => ?_)
  repeat (refine Run.go rfl ?_)
  refine Run.cond rfl (fun h => by simp at h) (fun h => ?_)
  repeat (refine Run.go rfl ?_)
  refine Run.cond rfl (fun h => ?_) (fun h => ?_)
  · repeat (refine Run.go rfl ?_)
    refine Run.ret hg rfl ?_
    have h : a < b := by simpa using h
    simp only [cmpI, if_pos h]
    rfl
  have h : ¬ a < b := by simpa using h
  repeat (refine Run.go rfl ?_)
  refine Run.cond rfl (fun h2 => ?_) (fun h2 => ?_)
  · repeat (refine Run.go rfl ?_)
    refine Run.ret hg rfl ?_
    have h2 : b < a := by simpa using h2
    simp only [cmpI, if_neg h, if_pos h2]
    rfl
  have h2 : ¬ b < a := by simpa using h2
  repeat (refine Run.go rfl ?_)
  refine Run.ret hg rfl ?_
  simp only [cmpI, if_neg h, if_neg h2]
  rfl
noncomputable def X269 : Fx := ⟨Tryz.prog, tys, 269, Tryz.f269, [0, 1]⟩
theorem X269_ok : X269.Ok := ⟨Tryz.func269, tys_ok⟩
theorem compareBy3_ct (p q : Int × Int × Int) : Ct Tryz.prog 269 [.ro 1 true ([p.1, p.2.1, p.2.2].map u8), .ro 1 true ([q.1, q.2.1, q.2.2].map u8)] (i64 (lex3 p q)) [] := by
  obtain ⟨p0, p1, p2⟩ := p
  obtain ⟨q0, q1, q2⟩ := q
  refine Ct.intro X269 X269_ok rfl (by kernel_rfl) rfl rfl fun g hg => ?_
  repeat (refine Run.go rfl ?_)
  refine Run.loop (fun j : Nat => ⟨[(0, .ro 1 true ([p0, p1, p2].map u8)), (1, .ro 1 true ([q0, q1, q2].map u8)), (9, .ro 1 true ([p0, p1, p2].map u8)), (10, i64 3), (11, i64 j)], []⟩) (fun j => j ≤ 3 ∧ (0 < j → p0 = q0) ∧ (1 < j → p1 = q1) ∧ (2 < j → p2 = q2)) (fun j => 3 - j) 0 (by omega) ?_ ?_
  · exact St.Le.mk' ⟨rfl, rfl, rfl, rfl, rfl, trivial⟩ trivial
  · rintro j ⟨hj, r0, r1, r2⟩ IH
    have hj4 : j = 0 ∨ j = 1 ∨ j = 2 ∨ j = 3 := by omega
    rcases hj4 with rfl | rfl | rfl | rfl
    · repeat (refine Run.go rfl ?_)
      refine Run.cond rfl (fun h => ?_) (fun h => by simp at h)
      repeat (refine Run.go rfl ?_)
      refine Run.val rfl rfl rfl (ValOk.idx (u8 p0) rfl rfl rfl rfl rfl (by decide) rfl) rfl ?_
      repeat (refine Run.go rfl ?_)
      refine Run.cond rfl (fun h => by simp at h) (fun h => ?_)
      repeat (refine Run.go rfl ?_)
      refine Run.val rfl rfl rfl (ValOk.idx (u8 q0) rfl rfl rfl rfl rfl (by decide) rfl) rfl ?_
      repeat (refine Run.go rfl ?_)
      refine Run.cs rfl (compareU8_ct p0 q0) rfl rfl ?_
      repeat (refine Run.go rfl ?_)
      refine Run.cond rfl (fun h => ?_) (fun h => ?_)
      · have h : cmpI p0 q0 ≠ 0 := by simpa using h
        repeat (refine Run.go rfl ?_)
        refine Run.ret hg rfl ?_
        rw [lex3, if_pos h]
        rfl
      · have e : p0 = q0 := cmpI_zero (by simpa using h)
        repeat (refine Run.go rfl ?_)
        exact Run.of (IH 1 ⟨by omega, fun _ => e, by omega, by omega⟩ (by omega)) ⟨rfl, rfl, rfl, rfl, rfl, trivial⟩ trivial
    · repeat (refine Run.go rfl ?_)
      refine Run.cond rfl (fun h => ?_) (fun h => by simp at h)
      repeat (refine Run.go rfl ?_)
      refine Run.val rfl rfl rfl (ValOk.idx (u8 p1) rfl rfl rfl rfl rfl (by decide) rfl) rfl ?_
      repeat (refine Run.go rfl ?_)
      refine Run.cond rfl (fun h => by simp at h) (fun h => ?_)
      repeat (refine Run.go rfl ?_)
      refine Run.val rfl rfl rfl (ValOk.idx (u8 q1) rfl rfl rfl rfl rfl (by decide) rfl) rfl ?_
      repeat (refine Run.go rfl ?_)
      refine Run.cs rfl (compareU8_ct p1 q1) rfl rfl ?_
      repeat (refine Run.go rfl ?_)
      refine Run.cond rfl (fun h => ?_) (fun h => ?_)
      · have h : cmpI p1 q1 ≠ 0 := by simpa using h
        repeat (refine Run.go rfl ?_)
        refine Run.ret hg rfl ?_
        rw [lex3, if_neg (by simp [r0 (by omega), cmpI_self]), if_pos h]
        rfl
      · have e : p1 = q1 := cmpI_zero (by simpa using h)
        repeat (refine Run.go rfl ?_)
        exact Run.of (IH 2 ⟨by omega, fun _ => r0 (by omega), fun _ => e, by omega⟩ (by omega)) ⟨rfl, rfl, rfl, rfl, rfl, trivial⟩ trivial
    · repeat (refine Run.go rfl ?_)
      refine Run.cond rfl (fun h => ?_) (fun h => by simp at h)
      repeat (refine Run.go rfl ?_)
      refine Run.val rfl rfl rfl (ValOk.idx (u8 p2) rfl rfl rfl rfl rfl (by decide) rfl) rfl ?_
      repeat (refine Run.go rfl ?_)
      refine Run.cond rfl (fun h => by simp at h) (fun h => ?_)
      repeat (refine Run.go rfl ?_)
      refine Run.val rfl rfl rfl (ValOk.idx (u8 q2) rfl rfl rfl rfl rfl (by decide) rfl) rfl ?_
      repeat (refine Run.go rfl ?_)
      refine Run.cs rfl (compareU8_ct p2 q2) rfl rfl ?_
      repeat (refine Run.go rfl ?_)
      refine Run.cond rfl (fun h => ?_) (fun h => ?_)
      · have h : cmpI p2 q2 ≠ 0 := by simpa using h
        repeat (refine Run.go rfl ?_)
        refine Run.ret hg rfl ?_
        rw [lex3, if_neg (by simp [r0 (by omega), cmpI_self]), if_neg (by simp [r1 (by omega), cmpI_self])]
        rfl
      · have e : p2 = q2 := cmpI_zero (by simpa using h)
        repeat (refine Run.go rfl ?_)
        exact Run.of (IH 3 ⟨by omega, fun _ => r0 (by omega), fun _ => r1 (by omega), fun _ => e⟩ (by omega)) ⟨rfl, rfl, rfl, rfl, rfl, trivial⟩ trivial
    · repeat (refine Run.go rfl ?_)
      refine Run.cond rfl (fun h => by simp at h) (fun h => ?_)
      repeat (refine Run.go rfl ?_)
      refine Run.cond rfl (fun h => by simp at h) (fun h => ?_)
      repeat (refine Run.go rfl ?_)
      refine Run.ret hg rfl ?_
      have e : lex3 (p0, p1, p2) (q0, q1, q2) = 0 := by
        rw [r0 (by omega), r1 (by omega), r2 (by omega)]
        simp [lex3, cmpI_self]
      rw [e]
      rfl
noncomputable def X234 : Fx := ⟨Tryz.prog, tys, 234, Tryz.f234, [0]⟩
theorem X234_ok : X234.Ok := ⟨Tryz.func234, tys_ok⟩
theorem field_ct (n : Int) (h : 1 ≤ n ∧ n ≤ 3) : Ct Tryz.prog 234 [i8 n] (i8 n) [] := by
  refine Ct.intro X234 X234_ok rfl rfl rfl rfl fun g hg => ?_
  repeat (refine Run.go rfl ?_)
  refine Run.ret hg rfl ?_
  show i8 (if IntKind.i8.wrap (0 - n) > n then IntKind.i8.wrap (0 - n) else n) = _
  rw [wrap_i8 (by omega) (by omega), if_neg (by omega)]
noncomputable def X233 : Fx := ⟨Tryz.prog, tys, 233, Tryz.f233, [0]⟩
theorem X233_ok : X233.Ok := ⟨Tryz.func233, tys_ok⟩
theorem compareIn0_ct (x y : Bk) : Ct Tryz.prog 233 [i8 1, bkA x, bkA y] (i64 (fc x y 0)) [] := by
  rw [fc0]
  refine Ct.intro X233 X233_ok rfl rfl rfl rfl fun g hg => ?_
  repeat (refine Run.go rfl ?_)
  refine Run.cond rfl (fun h => ?_) (fun h => by simp at h)
  repeat (refine Run.go rfl ?_)
  refine Run.cs rfl (compare16_ct x.cl y.cl) rfl rfl ?_
  repeat (refine Run.go rfl ?_)
  exact Run.ret hg rfl rfl
theorem compareIn1_ct (x y : Bk) : Ct Tryz.prog 233 [i8 2, bkA x, bkA y] (i64 (fc x y 1)) [] := by
  refine Ct.intro X233 X233_ok rfl rfl rfl rfl fun g hg => ?_
  iterate 4 (refine Run.go rfl ?_)
  refine Run.freezeBox 4 (4, 0) (bkA x).cells rfl rfl rfl rfl ?_
  refine Run.freezeBox 5 (5, 0) (bkA y).cells rfl rfl rfl rfl ?_
  repeat (refine Run.go rfl ?_)
  refine Run.cond rfl (fun h => by simp at h) (fun h => ?_)
  repeat (refine Run.go rfl ?_)
  refine Run.cond rfl (fun h => ?_) (fun h => by simp at h)
  repeat (refine Run.go rfl ?_)
  refine Run.draw (by kernel_rfl) (by decide +kernel) ?_
  repeat (refine Quiet.go rfl ?_)
  refine Quiet.val rfl rfl (ValOk.cutArr (ys := [x.a, x.b, x.c].map u8) rfl rfl rfl rfl rfl rfl rfl rfl rfl (by decide)) rfl ?_
  repeat (refine Quiet.go rfl ?_)
  refine Quiet.val rfl rfl (ValOk.cutArr (ys := [y.a, y.b, y.c].map u8) rfl rfl rfl rfl rfl rfl rfl rfl rfl (by decide)) rfl ?_
  repeat (refine Quiet.go rfl ?_)
  refine Quiet.cs rfl rfl rfl rfl rfl (compareBy3_ct (x.a, x.b, x.c) (y.a, y.b, y.c)) rfl rfl ?_
  repeat (refine Quiet.go rfl ?_)
  refine Quiet.nil ?_
  repeat (refine Run.go rfl ?_)
  exact Run.ret hg rfl rfl
theorem compareIn2_ct (x y : Bk) : Ct Tryz.prog 233 [i8 3, bkA x, bkA y] (i64 (fc x y 2)) [] := by
  rw [fc2]
  refine Ct.intro X233 X233_ok rfl rfl rfl rfl fun g hg => ?_
  repeat (refine Run.go rfl ?_)
  refine Run.cond rfl (fun h => by simp at h) (fun h => ?_)
  repeat (refine Run.go rfl ?_)
  refine Run.cond rfl (fun h => by simp at h) (fun h => ?_)
  repeat (refine Run.go rfl ?_)
  refine Run.cond rfl (fun h => ?_) (fun h => by simp at h)
  repeat (refine Run.go rfl ?_)
  refine Run.cs rfl (compare16_ct x.vol y.vol) rfl rfl ?_
  repeat (refine Run.go rfl ?_)
  exact Run.ret hg rfl rfl
theorem compareIn_ct (x y : Bk) (i : Nat) (hi : i < 3) : Ct Tryz.prog 233 [i8 ((i : Int) + 1), bkA x, bkA y] (i64 (fc x y i)) [] := by
  have : i = 0 ∨ i = 1 ∨ i = 2 := by omega
  rcases this with rfl | rfl | rfl
  · exact compareIn0_ct x y
  · exact compareIn1_ct x y
  · exact compareIn2_ct x y
def usl : List AV := [i8 1, i8 2, i8 3]
theorem usl_at {i : Nat} (h : i < 3) : usl[i]? = some (i8 ((i : Int) + 1)) := by
  have : i = 0 ∨ i = 1 ∨ i = 2 := by omega
  rcases this with rfl | rfl | rfl <;> rfl
noncomputable def X177 : Fx := ⟨Tryz.prog, tys, 177, Tryz.f177, [0]⟩
theorem X177_ok : X177.Ok := ⟨Tryz.func177, tys_ok⟩
theorem compareBy_ct (x y : Bk) (ex : Bool) : Ct Tryz.prog 177 [.ro 1 ex usl, bkA x, bkA y] (i64 (uc x y)) [] := by
  refine Ct.intro X177 X177_ok rfl rfl rfl rfl fun g hg => ?_
  repeat (refine Run.go rfl ?_)
  refine Run.loop (fun i : Nat => ⟨[(4, .bp (4, 0) 0), (5, .bp (5, 0) 0), (10, .ro 1 ex usl), (11, i64 3), (12, i64 i)], [((4, 0), .box (bkA x).cells), ((5, 0), .box (bkA y).cells)]⟩) (fun i => i ≤ 3 ∧ (0 < i → fc x y 0 = 0) ∧ (1 < i → fc x y 1 = 0) ∧ (2 < i → fc x y 2 = 0)) (fun i => 3 - i) 0 (by omega) ?_ ?_
  · exact St.Le.mk' ⟨rfl, rfl, rfl, rfl, rfl, trivial⟩ ⟨rfl, rfl, trivial⟩
  rintro i ⟨hi, r0, r1, r2⟩ IH
  repeat (refine Run.go rfl ?_)
  refine Run.cond rfl (fun h => ?_) (fun h => ?_)
  · have hlt : i < 3 := by simp at h; omega
    repeat (refine Run.go rfl ?_)
    refine Run.val rfl rfl rfl (ValOk.idx (i8 ((i : Int) + 1)) rfl rfl rfl rfl rfl (by omega) (by rw [Int.toNat_natCast]; exact usl_at hlt)) rfl ?_
    repeat (refine Run.go rfl ?_)
    refine Run.draw (by kernel_rfl) (by decide +kernel) ?_
    repeat (refine Quiet.go rfl ?_)
    refine Quiet.cs rfl rfl rfl rfl rfl (field_ct ((i : Int) + 1) (by omega)) rfl rfl ?_
    repeat (refine Quiet.go rfl ?_)
    refine Quiet.cs rfl rfl rfl rfl rfl (compareIn_ct x y i hlt) rfl rfl ?_
    repeat (refine Quiet.go rfl ?_)
    refine Quiet.nil ?_
    repeat (refine Run.go rfl ?_)
    refine Run.cond rfl (fun h => by simp at h; omega) (fun h => ?_)
    repeat (refine Run.go rfl ?_)
    refine Run.cond rfl (fun h => ?_) (fun h => ?_)
    · have h : fc x y i ≠ 0 := by simpa using h
      repeat (refine Run.go rfl ?_)
      refine Run.ret hg rfl ?_
      rw [uc_at hlt r0 r1 h]
      rfl
    · have h : fc x y i = 0 := by simpa using h
      repeat (refine Run.go rfl ?_)
      refine Run.of (IH (i + 1) ⟨by omega, fun h0 => ?_, fun h0 => ?_, fun h0 => ?_⟩ (by omega)) ⟨rfl, rfl, rfl, rfl, ?_, trivial⟩ ⟨rfl, rfl, trivial⟩
      · by_cases e : i = 0
        · rw [e] at h; exact h
        · exact r0 (by omega)
      · by_cases e : i = 1
        · rw [e] at h; exact h
        · exact r1 (by omega)
      · by_cases e : i = 2
        · rw [e] at h; exact h
        · exact r2 (by omega)
      · show i64 _ = _
        rw [wrap_i64 (by omega) (by omega)]
        rfl
  · have hi' : i = 3 := by simp at h; omega
    subst hi'
    repeat (refine Run.go rfl ?_)
    refine Run.ret hg rfl ?_
    rw [uc_end (r0 (by omega)) (r1 (by omega)) (r2 (by omega))]
    rfl
noncomputable def X178 : Fx := ⟨Tryz.prog, tys, 178, Tryz.f178, []⟩
theorem X178_ok : X178.Ok := ⟨Tryz.func178, tys_ok⟩
theorem usual_ct : Ct Tryz.prog 178 [] (.own 1 true usl) [] := by
  refine Ct.intro X178 X178_ok rfl rfl rfl rfl fun g hg => ?_
  repeat (refine Run.go rfl ?_)
  refine Run.buildSlice usl rfl rfl rfl rfl rfl rfl rfl rfl rfl rfl rfl rfl rfl rfl ?_
  repeat (refine Run.go rfl ?_)
  exact Run.ret hg rfl rfl
noncomputable def X92 : Fx := ⟨Tryz.prog, tys, 92, Tryz.f92, [0, 1]⟩
theorem X92_ok : X92.Ok := ⟨Tryz.func92, tys_ok⟩
theorem compare_ct (x y : Bk) : Ct Tryz.prog 92 [bkA x, bkA y] (i64 (uc x y)) [] := by
  refine Ct.intro X92 X92_ok rfl rfl rfl rfl fun g hg => ?_
  repeat (refine Run.go rfl ?_)
  refine Run.drawn [[0, 1, 2, 3, 4], [0, 2, 1, 3, 4], [1, 0, 2, 3, 4], [1, 2, 0, 3, 4], [2, 0, 1, 3, 4], [2, 1, 0, 3, 4]] ⟨[(4, i64 (uc x y))], []⟩ (by decide +kernel) (by kernel_rfl) ?_ fun _ hN => ⟨?_, ?_, ?_, ?_, ?_, ?_, trivial⟩
  rotate_left
  iterate 6
    · repeat (refine Run.go rfl ?_)
      refine Run.cs rfl usual_ct rfl rfl ?_
      repeat (refine Run.go rfl ?_)
      refine Run.cs rfl (compareBy_ct x y true) rfl rfl ?_
      repeat (refine Run.go rfl ?_)
      exact Run.of hN ⟨rfl, trivial⟩ trivial
  repeat (refine Run.go rfl ?_)
  exact Run.ret hg rfl rfl
def ooo (l : List Bk) (j : Nat) : Bool := decide (uc (l.getD (j + 1) bk0) (l.getD j bk0) < 0)
def srt (l : List Bk) : Bool := !((List.range (l.length - 1)).any (ooo l))
theorem ooo_at {l : List Bk} {j : Nat} (h : j + 1 < l.length) : ooo l j = decide (uc l[j + 1] l[j] < 0) := by
  unfold ooo
  simp [h, Nat.lt_of_succ_lt h]
noncomputable def X175 : Fx := ⟨Tryz.prog, tys, 175, Tryz.f175, [0, 1]⟩
theorem X175_ok : X175.Ok := ⟨Tryz.func175, tys_ok⟩
theorem isSortedFunc_ct (l : List Bk) (ex : Bool) (f : Nat) (hlen : l.length ≤ 1048576) (hf : ∀ x y : Bk, Ct Tryz.prog f [bkA x, bkA y] (i64 (uc x y)) []) : Ct Tryz.prog 175 [.ro 8 ex (l.map bkA), .fn f []] (bo (srt l)) [] := by
  refine Ct.intro X175 X175_ok rfl (by kernel_rfl) rfl rfl fun g hg => ?_
  have ew : IntKind.i64.wrap (((l.map bkA).length : Int) - 1) = (l.length : Int) - 1 := by rw [List.length_map, wrap_i64 (by omega) (by omega)]
  repeat (refine Run.go rfl ?_)
  rw [ew]
  refine Run.loop (fun m : Nat => ⟨[(0, .ro 8 ex (l.map bkA)), (1, .fn f []), (5, i64 ((l.length : Int) - 1 - m))], []⟩) (fun m => m ≤ l.length - 1 ∧ ∀ j, l.length - 1 ≤ j + m → j < l.length - 1 → ooo l j = false) (fun m => l.length - 1 - m) 0 ⟨by omega, fun j h1 h2 => by omega⟩ ?_ ?_
  · refine St.Le.mk' ⟨rfl, rfl, ?_, trivial⟩ trivial
    show i64 ((l.length : Int) - 1) = i64 ((l.length : Int) - 1 - 0)
    rw [Int.sub_zero]
  rintro m ⟨hm, hall⟩ IH
  repeat (refine Run.go rfl ?_)
  refine Run.cond rfl (fun h => ?_) (fun h => ?_)
  · have hlt : m < l.length - 1 := by simp at h; omega
    obtain ⟨i, hi⟩ : ∃ i, i = l.length - 2 - m := ⟨_, rfl⟩
    have hi1 : i + 1 < l.length := by omega
    have e5 : (l.length : Int) - 1 - m = ((i + 1 : Nat) : Int) := by omega
    rw [e5]
    repeat (refine Run.go rfl ?_)
    refine Run.draw (by kernel_rfl) (by decide +kernel) ?_
    repeat (refine Quiet.go rfl ?_)
    refine Quiet.val rfl rfl (ValOk.idx (bkA l[i + 1]) rfl rfl rfl rfl rfl (by omega) (by simp only [Int.toNat_natCast, List.getElem?_map, List.getElem?_eq_getElem hi1, Option.map_some])) rfl ?_
    repeat (refine Quiet.go rfl ?_)
    rw [show IntKind.i64.wrap (((i + 1 : Nat) : Int) - 1) = (i : Int) by rw [wrap_i64 (by omega) (by omega)]; omega]
    refine Quiet.val rfl rfl (ValOk.idx (bkA l[i]) rfl rfl rfl rfl rfl (by omega) (by simp only [Int.toNat_natCast, List.getElem?_map, List.getElem?_eq_getElem (Nat.lt_of_succ_lt hi1), Option.map_some])) rfl ?_
    repeat (refine Quiet.go rfl ?_)
    refine Quiet.cs rfl rfl rfl rfl rfl (hf l[i + 1] l[i]) rfl rfl ?_
    repeat (refine Quiet.go rfl ?_)
    refine Quiet.nil ?_
    repeat (refine Run.go rfl ?_)
    refine Run.cond rfl (fun h => ?_) (fun h => ?_)
    · have h : ooo l i = true := by rw [ooo_at hi1]; exact h
      repeat (refine Run.go rfl ?_)
      refine Run.ret hg rfl ?_
      have : (List.range (l.length - 1)).any (ooo l) = true := List.any_eq_true.mpr ⟨i, List.mem_range.mpr (by omega), h⟩
      rw [srt, this]
      rfl
    · have h : ooo l i = false := by rw [ooo_at hi1]; exact h
      repeat (refine Run.go rfl ?_)
      refine Run.of (IH (m + 1) ⟨by omega, fun j h1 h2 => ?_⟩ (by omega)) ⟨rfl, rfl, ?_, trivial⟩ trivial
      · by_cases e : j = i
        · rw [e]; exact h
        · exact hall j (by omega) h2
      · show i64 (IntKind.i64.wrap (((i + 1 : Nat) : Int) - 1)) = _
        rw [wrap_i64 (by omega) (by omega)]
        exact congrArg i64 (by omega)
  · have hm' : ¬ m < l.length - 1 := by simp at h; omega
    repeat (refine Run.go rfl ?_)
    refine Run.ret hg rfl ?_
    have : (List.range (l.length - 1)).any (ooo l) = false := by
      rw [List.any_eq_false]
      intro j hj
      rw [hall j (by omega) (List.mem_range.mp hj)]
      decide
    rw [srt, this]
    rfl
noncomputable def X88 : Fx := ⟨Tryz.prog, tys, 88, Tryz.f88, [0]⟩
theorem X88_ok : X88.Ok := ⟨Tryz.func88, tys_ok⟩
theorem isSorted_ct (l : List Bk) (ex : Bool) (hlen : l.length ≤ 1048576) : Ct Tryz.prog 88 [.ro 8 ex (l.map bkA)] (bo (srt l)) [] := by
  refine Ct.intro X88 X88_ok rfl rfl rfl rfl fun g hg => ?_
  repeat (refine Run.go rfl ?_)
  refine Run.cs rfl (isSortedFunc_ct l ex _ hlen compare_ct) rfl rfl ?_
  repeat (refine Run.go rfl ?_)
  exact Run.ret hg rfl rfl
end Go.Proofs.YtbkelajnngdimaaGreatDoor

/- Contracts of the program's functions, and what follows from them. -/
set_option maxRecDepth 100000
namespace Go.Proofs.YtbkelajnngdimaaGreatDoor
open Go Go.Av
def numA (p : Int × Int × Int) : AV := .agg [i64 p.1, i64 p.2.1, i64 p.2.2]
theorem wu8 {n : Int} (h : u8r n) : IntKind.i64.wrap n = n := wrap_i64 (by have := h.1; omega) (by have := h.2; omega)
noncomputable def X238 : Fx := ⟨Tryz.prog, tys, 238, Tryz.f238, [0]⟩
theorem X238_ok : X238.Ok := ⟨Tryz.func238, tys_ok⟩
theorem l01Field_ct (n : Int) (h : 1 ≤ n ∧ n ≤ 3) : Ct Tryz.prog 238 [i8 n] (i8 n) [] := by
  refine Ct.intro X238 X238_ok rfl rfl rfl rfl fun g hg => ?_
  repeat (refine Run.go rfl ?_)
  refine Run.cond rfl (fun h => by simp at h; omega) (fun h => ?_)
  repeat (refine Run.go rfl ?_)
  exact Run.ret hg rfl rfl
noncomputable def X239 : Fx := ⟨Tryz.prog, tys, 239, Tryz.f239, [0, 1]⟩
theorem X239_ok : X239.Ok := ⟨Tryz.func239, tys_ok⟩
theorem l01Numbers0_ct (x : Bk) (hr : bkRng x) : Ct Tryz.prog 239 [.rp (bkA x).cells 0, i8 1] (numA (nm x 0)) [] := by
  have w := w64 hr.1
  refine Ct.intro X239 X239_ok rfl rfl rfl rfl fun g hg => ?_
  repeat (refine Run.go rfl ?_)
  refine Run.cond rfl (fun h => ?_) (fun h => by simp at h)
  repeat (refine Run.go rfl ?_)
  rw [w]
  refine Run.val rfl rfl rfl (ValOk.buildArr rfl rfl rfl rfl rfl) rfl ?_
  repeat (refine Run.go rfl ?_)
  exact Run.ret hg rfl rfl
theorem l01Numbers1_ct (x : Bk) (hr : bkRng x) : Ct Tryz.prog 239 [.rp (bkA x).cells 0, i8 2] (numA (nm x 1)) [] := by
  have w1 := wu8 hr.2.1
  have w2 := wu8 hr.2.2.1
  have w3 := wu8 hr.2.2.2.1
  refine Ct.intro X239 X239_ok rfl rfl rfl rfl fun g hg => ?_
  repeat (refine Run.go rfl ?_)
  refine Run.cond rfl (fun h => by simp at h) (fun h => ?_)
  repeat (refine Run.go rfl ?_)
  refine Run.cond rfl (fun h => ?_) (fun h => by simp at h)
  repeat (refine Run.go rfl ?_)
  refine Run.drawSt rfl (by kernel_rfl) (by decide +kernel) ?_
  repeat (refine Quiet.go rfl ?_)
  rw [w1, w2, w3]
  refine Quiet.val rfl rfl (ValOk.buildArr rfl rfl rfl rfl rfl) rfl ?_
  repeat (refine Quiet.go rfl ?_)
  refine Quiet.nil ⟨_, rfl, ?_⟩
  repeat (refine Run.go rfl ?_)
  exact Run.ret (r := numA (nm x 1)) hg (by kernel_rfl) rfl
theorem l01Numbers2_ct (x : Bk) (hr : bkRng x) : Ct Tryz.prog 239 [.rp (bkA x).cells 0, i8 3] (numA (nm x 2)) [] := by
  have w := w64 hr.2.2.2.2.1
  refine Ct.intro X239 X239_ok rfl rfl rfl rfl fun g hg => ?_
  repeat (refine Run.go rfl ?_)
  refine Run.cond rfl (fun h => by simp at h) (fun h => ?_)
  repeat (refine Run.go rfl ?_)
  refine Run.cond rfl (fun h => by simp at h) (fun h => ?_)
  repeat (refine Run.go rfl ?_)
  refine Run.cond rfl (fun h => ?_) (fun h => by simp at h)
  repeat (refine Run.go rfl ?_)
  rw [w]
  refine Run.val rfl rfl rfl (ValOk.buildArr rfl rfl rfl rfl rfl) rfl ?_
  repeat (refine Run.go rfl ?_)
  exact Run.ret hg rfl rfl
theorem l01Numbers_ct (x : Bk) (i : Nat) (hi : i < 3) (hr : bkRng x) : Ct Tryz.prog 239 [.rp (bkA x).cells 0, i8 ((i : Int) + 1)] (numA (nm x i)) [] := by
  have : i = 0 ∨ i = 1 ∨ i = 2 := by omega
  rcases this with rfl | rfl | rfl
  · exact l01Numbers0_ct x hr
  · exact l01Numbers1_ct x hr
  · exact l01Numbers2_ct x hr
noncomputable def X189 : Fx := ⟨Tryz.prog, tys, 189, Tryz.f189, [0, 1, 2]⟩
theorem X189_ok : X189.Ok := ⟨Tryz.func189, tys_ok⟩
theorem l01Compare_ct (x y : Bk) (ex : Bool) (hx : bkRng x) (hy : bkRng y) : Ct Tryz.prog 189 [.ro 1 ex usl, .rp (bkA x).cells 0, .rp (bkA y).cells 0] (i64 (uc x y)) [] := by
  refine Ct.intro X189 X189_ok rfl (by kernel_rfl) rfl rfl fun g hg => ?_
  repeat (refine Run.go rfl ?_)
  refine Run.loop (fun i : Nat => ⟨[(0, .ro 1 ex usl), (1, .rp (bkA x).cells 0), (2, .rp (bkA y).cells 0), (7, i64 i)], []⟩) (fun i => i ≤ 3 ∧ (0 < i → fc x y 0 = 0) ∧ (1 < i → fc x y 1 = 0) ∧ (2 < i → fc x y 2 = 0)) (fun i => 3 - i) 0 (by omega) ?_ ?_
  · exact St.Le.mk' ⟨rfl, rfl, rfl, rfl, trivial⟩ trivial
  rintro i ⟨hi, r0, r1, r2⟩ IH
  repeat (refine Run.go rfl ?_)
  refine Run.cond rfl (fun h => ?_) (fun h => ?_)
  · have h : (i : Int) < 3 := of_decide_eq_true h
    have hlt : i < 3 := by omega
    have hX := l01Numbers_ct x i hlt hx
    have hY := l01Numbers_ct y i hlt hy
    have hfc : fc x y i = lex3 (nm x i) (nm y i) := rfl
    generalize nm x i = p at hX hfc
    generalize nm y i = q at hY hfc
    obtain ⟨p0, p1, p2⟩ := p
    obtain ⟨q0, q1, q2⟩ := q
    repeat (refine Run.go rfl ?_)
    refine Run.val rfl rfl rfl (ValOk.idx (i8 ((i : Int) + 1)) rfl rfl rfl rfl rfl (by omega) (by rw [Int.toNat_natCast]; exact usl_at hlt)) rfl ?_
    repeat (refine Run.go rfl ?_)
    refine Run.cs rfl (l01Field_ct ((i : Int) + 1) (by omega)) rfl rfl ?_
    repeat (refine Run.go rfl ?_)
    refine Run.cs rfl hX rfl rfl ?_
    repeat (refine Run.go rfl ?_)
    refine Run.cs rfl hY rfl rfl ?_
    repeat (refine Run.go rfl ?_)
    refine Run.loop (fun k : Nat => ⟨[(0, .ro 1 ex usl), (1, .rp (bkA x).cells 0), (2, .rp (bkA y).cells 0), (7, i64 i), (9, .bp (9, 0) 0), (10, .bp (10, 0) 0), (11, i64 k)], [((9, 0), .box [i64 p0, i64 p1, i64 p2]), ((10, 0), .box [i64 q0, i64 q1, i64 q2])]⟩) (fun k => k ≤ 3 ∧ (0 < k → p0 = q0) ∧ (1 < k → p1 = q1) ∧ (2 < k → p2 = q2)) (fun k => 3 - k) 0 (by omega) ?_ ?_
    · exact St.Le.mk' ⟨rfl, rfl, rfl, rfl, rfl, rfl, rfl, trivial⟩ ⟨rfl, rfl, trivial⟩
    rintro k ⟨hk, s0, s1, s2⟩ IH2
    have hk4 : k = 0 ∨ k = 1 ∨ k = 2 ∨ k = 3 := by omega
    have hpos : decide ((0 : Int) < (i : Int) + 1) = true := decide_eq_true (by omega)
    rcases hk4 with rfl | rfl | rfl | rfl
    · repeat (refine Run.go rfl ?_)
      refine Run.cond rfl (fun h => ?_) (fun h => by simp at h)
      repeat (refine Run.go rfl ?_)
      refine Run.draw (by kernel_rfl) (by decide +kernel) ?_
      repeat (refine Quiet.go rfl ?_)
      refine Quiet.nil ?_
      repeat (refine Run.go rfl ?_)
      refine Run.cond rfl (fun h => ?_) (fun h => ?_)
      · have e : p0 = q0 := by simpa using h
        repeat (refine Run.go rfl ?_)
        exact Run.of (IH2 1 ⟨by omega, fun _ => e, by omega, by omega⟩ (by omega)) ⟨rfl, rfl, rfl, rfl, rfl, rfl, rfl, trivial⟩ ⟨rfl, rfl, trivial⟩
      · have hne : p0 ≠ q0 := by simpa using h
        have hl : fc x y i = cmpI p0 q0 := by
          rw [hfc]
          rw [lex3, if_pos (cmpI_ne hne)]
        have hu : uc x y = cmpI p0 q0 := by
          rw [← hl]
          exact uc_at hlt r0 r1 (by rw [hl]; exact cmpI_ne hne)
        repeat (refine Run.go rfl ?_)
        refine Run.draw (by kernel_rfl) (by decide +kernel) ?_
        repeat (refine Quiet.go rfl ?_)
        refine Quiet.val rfl rfl (ValOk.idx (i8 ((i : Int) + 1)) rfl rfl rfl rfl rfl (by omega) (by rw [Int.toNat_natCast]; exact usl_at hlt)) rfl ?_
        repeat (refine Quiet.go rfl ?_)
        refine Quiet.nil ?_
        repeat (refine Run.go rfl ?_)
        refine Run.cond rfl (fun h => ?_) (fun h => ?_)
        · have h : (decide (p0 < q0) == decide ((0 : Int) < (i : Int) + 1)) = true := h
          rw [hpos] at h
          have h : p0 < q0 := by simpa using h
          repeat (refine Run.go rfl ?_)
          refine Run.ret hg rfl ?_
          rw [hu, cmpI_lt h]
          rfl
        · have h : (decide (p0 < q0) == decide ((0 : Int) < (i : Int) + 1)) = false := h
          rw [hpos] at h
          have h : ¬ p0 < q0 := by simpa using h
          repeat (refine Run.go rfl ?_)
          refine Run.ret hg rfl ?_
          rw [hu, cmpI_gt hne h]
          rfl
    · repeat (refine Run.go rfl ?_)
      refine Run.cond rfl (fun h => ?_) (fun h => by simp at h)
      repeat (refine Run.go rfl ?_)
      refine Run.draw (by kernel_rfl) (by decide +kernel) ?_
      repeat (refine Quiet.go rfl ?_)
      refine Quiet.nil ?_
      repeat (refine Run.go rfl ?_)
      refine Run.cond rfl (fun h => ?_) (fun h => ?_)
      · have e : p1 = q1 := by simpa using h
        repeat (refine Run.go rfl ?_)
        exact Run.of (IH2 2 ⟨by omega, fun _ => s0 (by omega), fun _ => e, by omega⟩ (by omega)) ⟨rfl, rfl, rfl, rfl, rfl, rfl, rfl, trivial⟩ ⟨rfl, rfl, trivial⟩
      · have hne : p1 ≠ q1 := by simpa using h
        have hl : fc x y i = cmpI p1 q1 := by
          rw [hfc]
          rw [lex3, if_neg (by simp [s0 (by omega), cmpI_self]), if_pos (cmpI_ne hne)]
        have hu : uc x y = cmpI p1 q1 := by
          rw [← hl]
          exact uc_at hlt r0 r1 (by rw [hl]; exact cmpI_ne hne)
        repeat (refine Run.go rfl ?_)
        refine Run.draw (by kernel_rfl) (by decide +kernel) ?_
        repeat (refine Quiet.go rfl ?_)
        refine Quiet.val rfl rfl (ValOk.idx (i8 ((i : Int) + 1)) rfl rfl rfl rfl rfl (by omega) (by rw [Int.toNat_natCast]; exact usl_at hlt)) rfl ?_
        repeat (refine Quiet.go rfl ?_)
        refine Quiet.nil ?_
        repeat (refine Run.go rfl ?_)
        refine Run.cond rfl (fun h => ?_) (fun h => ?_)
        · have h : (decide (p1 < q1) == decide ((0 : Int) < (i : Int) + 1)) = true := h
          rw [hpos] at h
          have h : p1 < q1 := by simpa using h
          repeat (refine Run.go rfl ?_)
          refine Run.ret hg rfl ?_
          rw [hu, cmpI_lt h]
          rfl
        · have h : (decide (p1 < q1) == decide ((0 : Int) < (i : Int) + 1)) = false := h
          rw [hpos] at h
          have h : ¬ p1 < q1 := by simpa using h
          repeat (refine Run.go rfl ?_)
          refine Run.ret hg rfl ?_
          rw [hu, cmpI_gt hne h]
          rfl
    · repeat (refine Run.go rfl ?_)
      refine Run.cond rfl (fun h => ?_) (fun h => by simp at h)
      repeat (refine Run.go rfl ?_)
      refine Run.draw (by kernel_rfl) (by decide +kernel) ?_
      repeat (refine Quiet.go rfl ?_)
      refine Quiet.nil ?_
      repeat (refine Run.go rfl ?_)
      refine Run.cond rfl (fun h => ?_) (fun h => ?_)
      · have e : p2 = q2 := by simpa using h
        repeat (refine Run.go rfl ?_)
        exact Run.of (IH2 3 ⟨by omega, fun _ => s0 (by omega), fun _ => s1 (by omega), fun _ => e⟩ (by omega)) ⟨rfl, rfl, rfl, rfl, rfl, rfl, rfl, trivial⟩ ⟨rfl, rfl, trivial⟩
      · have hne : p2 ≠ q2 := by simpa using h
        have hl : fc x y i = cmpI p2 q2 := by
          rw [hfc]
          rw [lex3, if_neg (by simp [s0 (by omega), cmpI_self]), if_neg (by simp [s1 (by omega), cmpI_self])]
        have hu : uc x y = cmpI p2 q2 := by
          rw [← hl]
          exact uc_at hlt r0 r1 (by rw [hl]; exact cmpI_ne hne)
        repeat (refine Run.go rfl ?_)
        refine Run.draw (by kernel_rfl) (by decide +kernel) ?_
        repeat (refine Quiet.go rfl ?_)
        refine Quiet.val rfl rfl (ValOk.idx (i8 ((i : Int) + 1)) rfl rfl rfl rfl rfl (by omega) (by rw [Int.toNat_natCast]; exact usl_at hlt)) rfl ?_
        repeat (refine Quiet.go rfl ?_)
        refine Quiet.nil ?_
        repeat (refine Run.go rfl ?_)
        refine Run.cond rfl (fun h => ?_) (fun h => ?_)
        · have h : (decide (p2 < q2) == decide ((0 : Int) < (i : Int) + 1)) = true := h
          rw [hpos] at h
          have h : p2 < q2 := by simpa using h
          repeat (refine Run.go rfl ?_)
          refine Run.ret hg rfl ?_
          rw [hu, cmpI_lt h]
          rfl
        · have h : (decide (p2 < q2) == decide ((0 : Int) < (i : Int) + 1)) = false := h
          rw [hpos] at h
          have h : ¬ p2 < q2 := by simpa using h
          repeat (refine Run.go rfl ?_)
          refine Run.ret hg rfl ?_
          rw [hu, cmpI_gt hne h]
          rfl
    · have hz : fc x y i = 0 := by
        rw [hfc, s0 (by omega), s1 (by omega), s2 (by omega)]
        simp [lex3, cmpI_self]
      repeat (refine Run.go rfl ?_)
      refine Run.cond rfl (fun h => by simp at h) (fun h => ?_)
      repeat (refine Run.go rfl ?_)
      refine Run.of (IH (i + 1) ⟨by omega, fun h0 => ?_, fun h0 => ?_, fun h0 => ?_⟩ (by omega)) ⟨rfl, rfl, rfl, ?_, trivial⟩ trivial
      · by_cases e : i = 0
        · rw [e] at hz; exact hz
        · exact r0 (by omega)
      · by_cases e : i = 1
        · rw [e] at hz; exact hz
        · exact r1 (by omega)
      · by_cases e : i = 2
        · rw [e] at hz; exact hz
        · exact r2 (by omega)
      · show i64 _ = _
        rw [wrap_i64 (by omega) (by omega)]
        rfl
  · have h : ¬ (i : Int) < 3 := of_decide_eq_false h
    have hi' : i = 3 := by omega
    subst hi'
    repeat (refine Run.go rfl ?_)
    refine Run.ret hg rfl ?_
    rw [uc_end (r0 (by omega)) (r1 (by omega)) (r2 (by omega))]
    rfl
noncomputable def X120 : Fx := ⟨Tryz.prog, tys, 120, Tryz.f120, [0, 1]⟩
theorem X120_ok : X120.Ok := ⟨Tryz.func120, tys_ok⟩
theorem l01Usual_ct (x y : Bk) (hx : bkRng x) (hy : bkRng y) : Ct Tryz.prog 120 [.rp (bkA x).cells 0, .rp (bkA y).cells 0] (i64 (uc x y)) [] := by
  refine Ct.intro X120 X120_ok rfl rfl rfl rfl fun g hg => ?_
  repeat (refine Run.go rfl ?_)
  refine Run.buildSlice usl rfl rfl rfl rfl rfl rfl rfl rfl rfl rfl rfl rfl rfl rfl ?_
  repeat (refine Run.go rfl ?_)
  refine Run.cs rfl (l01Compare_ct x y true hx hy) rfl rfl ?_
  repeat (refine Run.go rfl ?_)
  exact Run.ret hg rfl rfl
def stCode (a b : List Bk) : Int := if vBs a && vBs b then (if srt a then 0 else 4) else 1
end Go.Proofs.YtbkelajnngdimaaGreatDoor

/- Contracts of the program's functions, and what follows from them. -/
set_option maxRecDepth 100000
namespace Go.Proofs.YtbkelajnngdimaaGreatDoor
open Go Go.Av
theorem i16_wf {n : Int} (h : i16r n) : (Lit.int .i16 n).wf = true := by
  simpa [Lit.wf, IntKind.min, IntKind.max, IntKind.signed, IntKind.bits, i16r] using h
theorem u8_wf {n : Int} (h : u8r n) : (Lit.int .u8 n).wf = true := by
  simpa [Lit.wf, IntKind.min, IntKind.max, IntKind.signed, IntKind.bits, u8r] using h
theorem bk_key (x : Bk) (hr : bkRng x) : ∃ l, keyOf Tryz.prog 31 (.agg (bkV x).toArray) = some l := by
  obtain ⟨r0, r1, r2, r3, r4, r5, r6, r7⟩ := hr
  have e0 := i16_wf r0
  have e1 := u8_wf r1
  have e2 := u8_wf r2
  have e3 := u8_wf r3
  have e4 := i16_wf r4
  have e5 := i16_wf r5
  have e6 := i16_wf r6
  have e7 := i16_wf r7
  have u0 := Tryz.underlying31
  have u1 := Tryz.underlying24
  have u2 := Tryz.underlying5
  have u3 := Tryz.underlying29
  have hk : Tryz.prog.keyType 31 = true := by kernel_rfl
  have hf : (Value.agg (bkV x).toArray).formed Tryz.prog 31 = true := by kernel_rfl
  have c0 : Tryz.prog.cellsOf 31 = 8 := by kernel_rfl
  have c1 : Tryz.prog.cellsOf 24 = 1 := by kernel_rfl
  have c2 : Tryz.prog.cellsOf 5 = 1 := by kernel_rfl
  have c3 : Tryz.prog.cellsOf 29 = 3 := by kernel_rfl
  obtain ⟨N, hN⟩ : ∃ N, Tryz.prog.types.size + 1 = N + 4 := ⟨Tryz.prog.types.size - 3, by kernel_rfl⟩
  refine ⟨.string (keyBytes [.int .i16 x.cl, .int .u8 x.a, .int .u8 x.b, .int .u8 x.c, .int .i16 x.vol, .int .i16 x.wd, .int .i16 x.hi, .int .i16 x.wt]), ?_⟩
  unfold keyOf
  rw [u0]
  simp only [hk, hf, Bool.and_self, if_true, hN]
  simp [Program.keyLits, u0, u1, u2, u3, c0, c1, c2, c3, bkV, Value.cells, e0, e1, e2, e3, e4, e5, e6, e7, List.range_succ]
theorem bkK : KTy Tryz.prog 31 bkV bkRng := by
  refine KTy.of 5 5 (by decide) (by kernel_rfl) (by kernel_rfl) (by rw [Tryz.underlying31]) bk_key ?_ (by kernel_rfl)
  intro a b h
  cases a; cases b
  simp [bkV] at h
  obtain ⟨h1, h2, h3, h4, h5, h6, h7, h8⟩ := h
  simp [h1, h2, h3, h4, h5, h6, h7, h8]
def moreP (l o : List Bk) (j : Nat) : Bool := decide (o.count (l.getD j bk0) ≤ (l.take j).count (l.getD j bk0))
def more (l o : List Bk) : Nat → List Bk
  | 0 => []
  | j + 1 => more l o j ++ (if moreP l o j then [l.getD j bk0] else [])
end Go.Proofs.YtbkelajnngdimaaGreatDoor

/- Contracts of the program's functions, and what follows from them. -/
set_option maxRecDepth 100000
namespace Go.Proofs.YtbkelajnngdimaaGreatDoor
open Go Go.Av
end Go.Proofs.YtbkelajnngdimaaGreatDoor

/- Contracts of the program's functions, and what follows from them. -/
set_option maxRecDepth 100000
namespace Go.Proofs.YtbkelajnngdimaaGreatDoor
open Go Go.Av
def sameP (a b : List Bk) : Bool := decide (a.length = b.length) && decide (more a b a.length = [])
end Go.Proofs.YtbkelajnngdimaaGreatDoor

/- Contracts of the program's functions, and what follows from them. -/
set_option maxRecDepth 100000
namespace Go.Proofs.YtbkelajnngdimaaGreatDoor
open Go Go.Av
end Go.Proofs.YtbkelajnngdimaaGreatDoor
