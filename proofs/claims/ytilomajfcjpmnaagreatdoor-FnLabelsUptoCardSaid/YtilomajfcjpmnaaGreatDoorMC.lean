/- Parts of a proof, in one text: B1, B2, BRd. -/
import Derived.Test.YtilomajfcjpmnaaGreatDoorMD
import Derived.Test.YtilomajfcjpmnaaGreatDoorMF
import Derived.Test.YtilomajfcjpmnaaGreatDoorAvRow
set_option linter.unusedVariables false

/- Contracts of the program's functions, and what follows from them. -/
set_option maxRecDepth 100000
namespace Go.Proofs.YtilomajfcjpmnaaGreatDoor
open Go Go.Av

/-! Books: copied, measured, compared. -/

structure Bk where
  cl : Int
  a : Int
  b : Int
  c : Int
  vol : Int
  wd : Int
  hi : Int
  wt : Int
  deriving DecidableEq

def bkV (x : Bk) : List Value := [.int .i16 x.cl, .int .u8 x.a, .int .u8 x.b, .int .u8 x.c, .int .i16 x.vol, .int .i16 x.wd, .int .i16 x.hi, .int .i16 x.wt]
def bkA (x : Bk) : AV := .agg [i16 x.cl, u8 x.a, u8 x.b, u8 x.c, i16 x.vol, i16 x.wd, i16 x.hi, i16 x.wt]
def bk0 : Bk := ⟨0, 0, 0, 0, 0, 0, 0, 0⟩
theorem bk_rf (x : Bk) : (bkA x).rf = true := rfl
theorem bk_frz (x : Bk) : (bkA x).frz = bkA x := rfl
theorem frzB (l : List Bk) : AV.frzL (l.map bkA) = l.map bkA := frzL_map bk_frz l
theorem rfB (l : List Bk) : AV.rfL (l.map bkA) = true := rfL_map bk_rf l
def m3 (a b c : Int) : Nat → AV
  | 0 => .agg [u8 0, u8 0, u8 0]
  | 1 => .agg [u8 a, u8 0, u8 0]
  | 2 => .agg [u8 a, u8 b, u8 0]
  | _ => .agg [u8 a, u8 b, u8 c]

def szB (l : List Bk) (n : Int) : Int := if n - l.length < 0 then -1 else n - l.length

end Go.Proofs.YtilomajfcjpmnaaGreatDoor

/- Contracts of the program's functions, and what follows from them. -/
set_option maxRecDepth 100000
namespace Go.Proofs.YtilomajfcjpmnaaGreatDoor
open Go Go.Av

/-! Which books are valid. -/

noncomputable def X170 : Fx := ⟨Tryz.prog, tys, 170, Tryz.f170, [0, 1]⟩
theorem X170_ok : X170.Ok := ⟨Tryz.func170, tys_ok⟩
theorem indexBy_ct (l : List Int) (ex : Bool) (f : Nat) (caps : List AV) (p : Int → Bool) (hlen : l.length ≤ 1048576) (hc : AV.freeL caps = true)
    (hf : ∀ x ∈ l, Ct Tryz.prog f ([u8 x] ++ caps) (bo (p x)) []) : Ct Tryz.prog 170 [.ro 1 ex (l.map u8), .fn f caps] (i64 (fi p l)) [] := by
  refine Ct.intro X170 X170_ok rfl (by kernel_rfl) rfl rfl fun g hg => ?_
  repeat (refine Run.step rfl ?_)
  refine Run.loop (fun j : Nat => ⟨[(0, .ro 1 ex (l.map u8)), (1, .fn f caps), (7, i64 l.length), (8, i64 j)], []⟩) (fun j => j ≤ l.length ∧ j ≤ l.findIdx p) (fun j => l.length - j) 0 ⟨by omega, by omega⟩ ?_ ?_
  · refine St.Le.mk' ⟨rfl, rfl, ?_, rfl, trivial⟩ trivial
    show i64 _ = _
    simp
  · rintro j ⟨hj1, hj2⟩ IH
    repeat (refine Run.step rfl ?_)
    refine Run.cond rfl (fun h => ?_) (fun h => ?_)
    · have hlt : j < l.length := by simpa using h
      repeat (refine Run.step rfl ?_)
      refine Run.val rfl rfl rfl (ValOk.idx (u8 l[j]) rfl rfl rfl rfl rfl (by omega) (by simp [hlt])) rfl ?_
      repeat (refine Run.step rfl ?_)
      refine Run.callp rfl rfl rfl rfl rfl rfl rfl hc rfl (hf l[j] (by simp)) (by decide) (by decide) ?_
      repeat (refine Run.step rfl ?_)
      refine Run.cond rfl (fun h => ?_) (fun h => ?_)
      · repeat (refine Run.step rfl ?_)
        refine Run.ret hg rfl ?_
        show i64 _ = _
        rw [fi_at hlt h hj2]
      · repeat (refine Run.step rfl ?_)
        refine Run.of (IH (j + 1) ⟨by omega, fi_next hlt h hj2⟩ (by omega)) ⟨rfl, rfl, rfl, ?_, trivial⟩ trivial
        show i64 _ = _
        rw [wrap_i64 (by omega) (by omega)]
        rfl
    · repeat (refine Run.step rfl ?_)
      have hj : j = l.length := by simp at h; omega
      refine Run.ret hg rfl ?_
      show i64 (-1) = _
      rw [fi_none (by omega)]

noncomputable def X143 : Fx := ⟨Tryz.prog, tys, 143, Tryz.f143, [0, 1]⟩
theorem X143_ok : X143.Ok := ⟨Tryz.func143, tys_ok⟩
theorem containsBy_ct (l : List Int) (ex : Bool) (f : Nat) (caps : List AV) (p : Int → Bool) (hlen : l.length ≤ 1048576) (hc : AV.freeL caps = true)
    (hf : ∀ x ∈ l, Ct Tryz.prog f ([u8 x] ++ caps) (bo (p x)) []) : Ct Tryz.prog 143 [.ro 1 ex (l.map u8), .fn f caps] (bo (l.any p)) [] := by
  refine Ct.intro X143 X143_ok rfl (by kernel_rfl) rfl rfl fun g hg => ?_
  repeat (refine Run.go rfl ?_)
  refine Run.callp rfl rfl rfl rfl rfl rfl (by simp [AV.freeL, AV.free, hc]) rfl rfl (indexBy_ct l ex f caps p hlen hc hf) (by decide) (by decide) ?_
  repeat (refine Run.go rfl ?_)
  refine Run.ret hg rfl ?_
  show bo _ = _
  rw [← fi_nonneg]

noncomputable def X144 : Fx := ⟨Tryz.prog, tys, 144, Tryz.f144, [0, 1]⟩
theorem X144_ok : X144.Ok := ⟨Tryz.func144, tys_ok⟩
theorem areAllBy10_ct (c : Int) (f : Nat) (p : Bool) (hf : Ct Tryz.prog f [u8 c] (bo p) []) : Ct Tryz.prog 144 [u8 c, .rp [.fn f []] 0] (bo (!p)) [] := by
  refine Ct.intro X144 X144_ok rfl (by kernel_rfl) rfl rfl fun g hg => ?_
  repeat (refine Run.go rfl ?_)
  refine Run.cs rfl hf rfl rfl ?_
  repeat (refine Run.go rfl ?_)
  exact Run.ret hg rfl rfl

noncomputable def X102 : Fx := ⟨Tryz.prog, tys, 102, Tryz.f102, [0, 1]⟩
theorem X102_ok : X102.Ok := ⟨Tryz.func102, tys_ok⟩
theorem areAllBy0_ct (l : List Int) (ex : Bool) (f : Nat) (p : Int → Bool) (hlen : l.length ≤ 1048576) (hf : ∀ x ∈ l, Ct Tryz.prog f [u8 x] (bo (p x)) []) :
    Ct Tryz.prog 102 [.ro 1 ex (l.map u8), .fn f []] (bo (l.all p)) [] := by
  refine Ct.intro X102 X102_ok rfl (by kernel_rfl) rfl rfl fun g hg => ?_
  repeat (refine Run.go rfl ?_)
  refine Run.cs rfl (containsBy_ct l ex 144 [.rp [.fn f []] 0] (fun x => !p x) hlen rfl (fun x hx => areAllBy10_ct x f (p x) (hf x hx))) rfl rfl ?_
  repeat (refine Run.go rfl ?_)
  refine Run.ret hg rfl ?_
  show bo (!l.any fun x => !p x) = _
  congr 2
  simp [List.all_eq_not_any_not]

theorem areAllBy1_ct (c : Int) (f : Nat) (cs : List AV) (jj : Nat) (p : Bool) (hf : Ct Tryz.prog f [u8 c, .rp cs jj] (bo p) []) : Ct Tryz.prog 144 [u8 c, .rp [.fn f [.rp cs jj]] 0] (bo (!p)) [] := by
  refine Ct.intro X144 X144_ok rfl (by kernel_rfl) rfl rfl fun g hg => ?_
  repeat (refine Run.go rfl ?_)
  refine Run.cs rfl hf rfl rfl ?_
  repeat (refine Run.go rfl ?_)
  exact Run.ret hg rfl rfl

theorem areAllBy_ct (l : List Int) (ex : Bool) (f : Nat) (cs : List AV) (jj : Nat) (p : Int → Bool) (hlen : l.length ≤ 1048576) (hf : ∀ x ∈ l, Ct Tryz.prog f [u8 x, .rp cs jj] (bo (p x)) []) :
    Ct Tryz.prog 102 [.ro 1 ex (l.map u8), .fn f [.rp cs jj]] (bo (l.all p)) [] := by
  refine Ct.intro X102 X102_ok rfl (by kernel_rfl) rfl rfl fun g hg => ?_
  repeat (refine Run.go rfl ?_)
  refine Run.cs rfl (containsBy_ct l ex 144 [.rp [.fn f [.rp cs jj]] 0] (fun x => !p x) hlen rfl (fun x hx => areAllBy1_ct x f cs jj (p x) (hf x hx))) rfl rfl ?_
  repeat (refine Run.go rfl ?_)
  refine Run.ret hg rfl ?_
  show bo (!l.any fun x => !p x) = _
  congr 2
  simp [List.all_eq_not_any_not]


def u8r (n : Int) : Prop := 0 ≤ n ∧ n ≤ 255
def bkRng (x : Bk) : Prop := i16r x.cl ∧ u8r x.a ∧ u8r x.b ∧ u8r x.c ∧ i16r x.vol ∧ i16r x.wd ∧ i16r x.hi ∧ i16r x.wt
def sm (n : Int) : Bool := decide (97 ≤ n) && decide (n ≤ 122)
def vB (x : Bk) : Bool := inr x.cl 0 999 && (sm x.a && (sm x.b && sm x.c)) && inr x.vol 1 99 && inr x.wd 1 100 && inr x.hi 50 400 && inr x.wt 1 9999
def vBs (l : List Bk) : Bool := decide (l.length ≤ 60) && l.all vB

noncomputable def X103 : Fx := ⟨Tryz.prog, tys, 103, Tryz.f103, [0]⟩
theorem X103_ok : X103.Ok := ⟨Tryz.func103, tys_ok⟩
theorem isSmall_ct (n : Int) : Ct Tryz.prog 103 [u8 n] (bo (sm n)) [] := by
  refine Ct.intro X103 X103_ok rfl rfl rfl rfl fun g hg => ?_
  repeat (refine Run.go rfl ?_)
  refine Run.bool 5 rfl (fun h => ?_) (fun h => ?_)
  · repeat (refine Run.go rfl ?_)
    refine Run.ret hg rfl ?_
    show bo _ = _
    simp at h
    simp [sm, h]
  · repeat (refine Run.go rfl ?_)
    refine Run.ret hg rfl ?_
    show bo _ = _
    simp at h
    simp [sm]
    omega

noncomputable def X60 : Fx := ⟨Tryz.prog, tys, 60, Tryz.f60, [0]⟩
theorem X60_ok : X60.Ok := ⟨Tryz.func60, tys_ok⟩
theorem validBook_ct (x : Bk) : Ct Tryz.prog 60 [bkA x] (bo (vB x)) [] := by
  refine Ct.intro X60 X60_ok rfl rfl rfl rfl fun g hg => ?_
  iterate 3 (refine Run.go rfl ?_)
  refine Run.freezeBox 1 (1, 0) (bkA x).cells rfl rfl rfl rfl ?_
  repeat (refine Run.go rfl ?_)
  refine Run.cs rfl (within16_ct x.cl 0 999) rfl rfl ?_
  repeat (refine Run.go rfl ?_)
  refine Run.bool 6 rfl (fun h1 => ?_) (fun h1 => ?_)
  · have h1 : inr x.cl 0 999 = true := h1
    repeat (refine Run.go rfl ?_)
    refine Run.val rfl rfl rfl (ValOk.cutArr (ys := [x.a, x.b, x.c].map u8) rfl rfl rfl rfl rfl rfl rfl rfl rfl (by decide)) rfl ?_
    refine Run.cs rfl (areAllBy0_ct [x.a, x.b, x.c] true _ sm (by simp) fun y _ => isSmall_ct y) rfl rfl ?_
    repeat (refine Run.go rfl ?_)
    refine Run.bool 11 rfl (fun h2 => ?_) (fun h2 => ?_)
    · have h2 : (sm x.a && (sm x.b && sm x.c)) = true := by simpa using h2
      repeat (refine Run.go rfl ?_)
      refine Run.cs rfl (within16_ct x.vol 1 99) rfl rfl ?_
      repeat (refine Run.go rfl ?_)
      refine Run.bool 16 rfl (fun h3 => ?_) (fun h3 => ?_)
      · have h3 : inr x.vol 1 99 = true := h3
        repeat (refine Run.go rfl ?_)
        refine Run.cs rfl (within16_ct x.wd 1 100) rfl rfl ?_
        repeat (refine Run.go rfl ?_)
        refine Run.bool 21 rfl (fun h4 => ?_) (fun h4 => ?_)
        · have h4 : inr x.wd 1 100 = true := h4
          repeat (refine Run.go rfl ?_)
          refine Run.cs rfl (within16_ct x.hi 50 400) rfl rfl ?_
          repeat (refine Run.go rfl ?_)
          refine Run.bool 26 rfl (fun h5 => ?_) (fun h5 => ?_)
          · have h5 : inr x.hi 50 400 = true := h5
            repeat (refine Run.go rfl ?_)
            refine Run.cs rfl (within16_ct x.wt 1 9999) rfl rfl ?_
            repeat (refine Run.go rfl ?_)
            refine Run.ret hg rfl ?_
            rw [vB, h1, h2, h3, h4, h5]
            rfl
          · have h5 : inr x.hi 50 400 = false := h5
            repeat (refine Run.go rfl ?_)
            refine Run.ret hg rfl ?_
            rw [vB, h1, h2, h3, h4, h5]
            rfl
        · have h4 : inr x.wd 1 100 = false := h4
          repeat (refine Run.go rfl ?_)
          refine Run.bool 26 rfl (fun h => by simp at h) (fun h => ?_)
          repeat (refine Run.go rfl ?_)
          refine Run.ret hg rfl ?_
          rw [vB, h1, h2, h3, h4]
          rfl
      · have h3 : inr x.vol 1 99 = false := h3
        repeat (refine Run.go rfl ?_)
        refine Run.bool 21 rfl (fun h => by simp at h) (fun h => ?_)
        repeat (refine Run.go rfl ?_)
        refine Run.bool 26 rfl (fun h => by simp at h) (fun h => ?_)
        repeat (refine Run.go rfl ?_)
        refine Run.ret hg rfl ?_
        rw [vB, h1, h2, h3]
        rfl
    · have h2 : (sm x.a && (sm x.b && sm x.c)) = false := by simpa using h2
      repeat (refine Run.go rfl ?_)
      refine Run.bool 16 rfl (fun h => by simp at h) (fun h => ?_)
      repeat (refine Run.go rfl ?_)
      refine Run.bool 21 rfl (fun h => by simp at h) (fun h => ?_)
      repeat (refine Run.go rfl ?_)
      refine Run.bool 26 rfl (fun h => by simp at h) (fun h => ?_)
      repeat (refine Run.go rfl ?_)
      refine Run.ret hg rfl ?_
      rw [vB, h1, h2]
      rfl
  · have h1 : inr x.cl 0 999 = false := h1
    repeat (refine Run.go rfl ?_)
    refine Run.bool 11 rfl (fun h => by simp at h) (fun h => ?_)
    repeat (refine Run.go rfl ?_)
    refine Run.bool 16 rfl (fun h => by simp at h) (fun h => ?_)
    repeat (refine Run.go rfl ?_)
    refine Run.bool 21 rfl (fun h => by simp at h) (fun h => ?_)
    repeat (refine Run.go rfl ?_)
    refine Run.bool 26 rfl (fun h => by simp at h) (fun h => ?_)
    repeat (refine Run.go rfl ?_)
    refine Run.ret hg rfl ?_
    rw [vB, h1]
    rfl

noncomputable def X107 : Fx := ⟨Tryz.prog, tys, 107, Tryz.f107, [0]⟩
theorem X107_ok : X107.Ok := ⟨Tryz.func107, tys_ok⟩
theorem l01Mark_ct (a b c : Int) : Ct Tryz.prog 107 [.agg [u8 a, u8 b, u8 c]] (bo (sm a && (sm b && sm c))) [] := by
  refine Ct.intro X107 X107_ok rfl rfl rfl rfl fun g hg => ?_
  repeat (refine Run.go rfl ?_)
  refine Run.loop (fun j : Nat => ⟨[(1, .bp (1, 0) 0), (3, i64 j)], [((1, 0), .box [u8 a, u8 b, u8 c])]⟩) (fun j => j ≤ 3 ∧ (0 < j → sm a = true) ∧ (1 < j → sm b = true) ∧ (2 < j → sm c = true)) (fun j => 3 - j) 0 (by omega) ?_ ?_
  · exact St.Le.mk' ⟨rfl, rfl, trivial⟩ ⟨rfl, trivial⟩
  · rintro j ⟨hj, q0, q1, q2⟩ IH
    have hj4 : j = 0 ∨ j = 1 ∨ j = 2 ∨ j = 3 := by omega
    have key : ∀ n : Int, (97 ≤ n → n ≤ 122 → sm n = true) ∧ (n < 97 → sm n = false) ∧ (122 < n → sm n = false) := by
      intro n
      refine ⟨fun h1 h2 => by simp [sm, h1, h2], fun h => by simp [sm]; omega, fun h => by simp [sm]; omega⟩
    rcases hj4 with rfl | rfl | rfl | rfl
    · repeat (refine Run.go rfl ?_)
      refine Run.cond rfl (fun h => ?_) (fun h => by simp at h)
      repeat (refine Run.go rfl ?_)
      refine Run.bool 12 rfl (fun hA => ?_) (fun hA => ?_)
      · have F : sm a = false := (key a).2.1 (by simpa using hA)
        repeat (refine Run.go rfl ?_)
        refine Run.cond rfl (fun _ => ?_) (fun h => by simp at h)
        repeat (refine Run.go rfl ?_)
        refine Run.ret hg rfl ?_
        have : (sm a && (sm b && sm c)) = false := by rw [F, Bool.false_and]
        rw [this]
        rfl
      · have hA : 97 ≤ a := by simpa using hA
        repeat (refine Run.go rfl ?_)
        refine Run.cond rfl (fun hB => ?_) (fun hB => ?_)
        · have F : sm a = false := (key a).2.2 (by simpa using hB)
          repeat (refine Run.go rfl ?_)
          refine Run.ret hg rfl ?_
          have : (sm a && (sm b && sm c)) = false := by rw [F, Bool.false_and]
          rw [this]
          rfl
        · have S : sm a = true := (key a).1 hA (by simpa using hB)
          repeat (refine Run.go rfl ?_)
          exact Run.of (IH 1 ⟨by omega, fun _ => S, by omega, by omega⟩ (by omega)) ⟨rfl, rfl, trivial⟩ ⟨rfl, trivial⟩
    · repeat (refine Run.go rfl ?_)
      refine Run.cond rfl (fun h => ?_) (fun h => by simp at h)
      repeat (refine Run.go rfl ?_)
      refine Run.bool 12 rfl (fun hA => ?_) (fun hA => ?_)
      · have F : sm b = false := (key b).2.1 (by simpa using hA)
        repeat (refine Run.go rfl ?_)
        refine Run.cond rfl (fun _ => ?_) (fun h => by simp at h)
        repeat (refine Run.go rfl ?_)
        refine Run.ret hg rfl ?_
        have : (sm a && (sm b && sm c)) = false := by rw [F, Bool.false_and, Bool.and_false]
        rw [this]
        rfl
      · have hA : 97 ≤ b := by simpa using hA
        repeat (refine Run.go rfl ?_)
        refine Run.cond rfl (fun hB => ?_) (fun hB => ?_)
        · have F : sm b = false := (key b).2.2 (by simpa using hB)
          repeat (refine Run.go rfl ?_)
          refine Run.ret hg rfl ?_
          have : (sm a && (sm b && sm c)) = false := by rw [F, Bool.false_and, Bool.and_false]
          rw [this]
          rfl
        · have S : sm b = true := (key b).1 hA (by simpa using hB)
          repeat (refine Run.go rfl ?_)
          exact Run.of (IH 2 ⟨by omega, fun _ => q0 (by omega), fun _ => S, by omega⟩ (by omega)) ⟨rfl, rfl, trivial⟩ ⟨rfl, trivial⟩
    · repeat (refine Run.go rfl ?_)
      refine Run.cond rfl (fun h => ?_) (fun h => by simp at h)
      repeat (refine Run.go rfl ?_)
      refine Run.bool 12 rfl (fun hA => ?_) (fun hA => ?_)
      · have F : sm c = false := (key c).2.1 (by simpa using hA)
        repeat (refine Run.go rfl ?_)
        refine Run.cond rfl (fun _ => ?_) (fun h => by simp at h)
        repeat (refine Run.go rfl ?_)
        refine Run.ret hg rfl ?_
        have : (sm a && (sm b && sm c)) = false := by rw [F, Bool.and_false, Bool.and_false]
        rw [this]
        rfl
      · have hA : 97 ≤ c := by simpa using hA
        repeat (refine Run.go rfl ?_)
        refine Run.cond rfl (fun hB => ?_) (fun hB => ?_)
        · have F : sm c = false := (key c).2.2 (by simpa using hB)
          repeat (refine Run.go rfl ?_)
          refine Run.ret hg rfl ?_
          have : (sm a && (sm b && sm c)) = false := by rw [F, Bool.and_false, Bool.and_false]
          rw [this]
          rfl
        · have S : sm c = true := (key c).1 hA (by simpa using hB)
          repeat (refine Run.go rfl ?_)
          exact Run.of (IH 3 ⟨by omega, fun _ => q0 (by omega), fun _ => q1 (by omega), fun _ => S⟩ (by omega)) ⟨rfl, rfl, trivial⟩ ⟨rfl, trivial⟩
    · repeat (refine Run.go rfl ?_)
      refine Run.cond rfl (fun h => by simp at h) (fun h => ?_)
      repeat (refine Run.go rfl ?_)
      refine Run.ret hg rfl ?_
      rw [q0 (by omega), q1 (by omega), q2 (by omega)]
      rfl

noncomputable def X106 : Fx := ⟨Tryz.prog, tys, 106, Tryz.f106, [0]⟩
theorem X106_ok : X106.Ok := ⟨Tryz.func106, tys_ok⟩
theorem l01Class_ct (n : Int) : Ct Tryz.prog 106 [i64 n] (bo (inr n 0 999)) [] := by
  refine Ct.intro X106 X106_ok rfl rfl rfl rfl fun g hg => ?_
  repeat (refine Run.go rfl ?_)
  refine Run.cs rfl (l00In_ct n 0 999) rfl rfl ?_
  repeat (refine Run.go rfl ?_)
  exact Run.ret hg rfl rfl

noncomputable def X62 : Fx := ⟨Tryz.prog, tys, 62, Tryz.f62, [0]⟩
theorem X62_ok : X62.Ok := ⟨Tryz.func62, tys_ok⟩
theorem l01Book_ct (x : Bk) (hr : bkRng x) : Ct Tryz.prog 62 [.rp (bkA x).cells 0] (bo (vB x)) [] := by
  obtain ⟨r1, _, _, _, r2, r3, r4, r5⟩ := hr
  have w1 := w64 r1
  have w2 := w64 r2
  have w3 := w64 r3
  have w4 := w64 r4
  have w5 := w64 r5
  refine Ct.intro X62 X62_ok rfl rfl rfl rfl fun g hg => ?_
  repeat (refine Run.go rfl ?_)
  rw [w1]
  refine Run.cs rfl (l01Class_ct x.cl) rfl rfl ?_
  repeat (refine Run.go rfl ?_)
  refine Run.bool 10 rfl (fun h1 => ?_) (fun h1 => ?_)
  · have h1 : inr x.cl 0 999 = false := by simpa using h1
    repeat (refine Run.go rfl ?_)
    refine Run.bool 18 rfl (fun h => ?_) (fun h => by simp at h)
    repeat (refine Run.go rfl ?_)
    refine Run.cond rfl (fun h => ?_) (fun h => by simp at h)
    repeat (refine Run.go rfl ?_)
    refine Run.ret hg rfl ?_
    rw [vB, h1]
    rfl
  have h1 : inr x.cl 0 999 = true := by simpa using h1
  repeat (refine Run.go rfl ?_)
  refine Run.cs rfl (l01Mark_ct x.a x.b x.c) rfl rfl ?_
  repeat (refine Run.go rfl ?_)
  refine Run.bool 18 rfl (fun h2 => ?_) (fun h2 => ?_)
  · have h2 : (sm x.a && (sm x.b && sm x.c)) = false := by rw [Bool.not_eq_true'] at h2; exact h2
    repeat (refine Run.go rfl ?_)
    refine Run.cond rfl (fun h => ?_) (fun h => by simp at h)
    repeat (refine Run.go rfl ?_)
    refine Run.ret hg rfl ?_
    rw [vB, h1, h2]
    rfl
  have h2 : (sm x.a && (sm x.b && sm x.c)) = true := by rw [Bool.not_eq_false'] at h2; exact h2
  repeat (refine Run.go rfl ?_)
  rw [w2]
  refine Run.cs rfl (l00In_ct x.vol 1 99) rfl rfl ?_
  repeat (refine Run.go rfl ?_)
  refine Run.cond rfl (fun h3 => ?_) (fun h3 => ?_)
  · have h3 : inr x.vol 1 99 = false := by simpa using h3
    repeat (refine Run.go rfl ?_)
    refine Run.ret hg rfl ?_
    rw [vB, h1, h2, h3]
    rfl
  have h3 : inr x.vol 1 99 = true := by simpa using h3
  repeat (refine Run.go rfl ?_)
  rw [w3]
  refine Run.cs rfl (l00In_ct x.wd 1 100) rfl rfl ?_
  repeat (refine Run.go rfl ?_)
  refine Run.bool 33 rfl (fun h4 => ?_) (fun h4 => ?_)
  · have h4 : inr x.wd 1 100 = true := h4
    repeat (refine Run.go rfl ?_)
    rw [w4]
    refine Run.cs rfl (l00In_ct x.hi 50 400) rfl rfl ?_
    repeat (refine Run.go rfl ?_)
    refine Run.bool 41 rfl (fun h5 => ?_) (fun h5 => ?_)
    · have h5 : inr x.hi 50 400 = true := h5
      repeat (refine Run.go rfl ?_)
      rw [w5]
      refine Run.cs rfl (l00In_ct x.wt 1 9999) rfl rfl ?_
      repeat (refine Run.go rfl ?_)
      refine Run.ret hg rfl ?_
      rw [vB, h1, h2, h3, h4, h5]
      rfl
    · have h5 : inr x.hi 50 400 = false := h5
      repeat (refine Run.go rfl ?_)
      refine Run.ret hg rfl ?_
      rw [vB, h1, h2, h3, h4, h5]
      rfl
  · have h4 : inr x.wd 1 100 = false := h4
    repeat (refine Run.go rfl ?_)
    refine Run.bool 41 rfl (fun h => by simp at h) (fun h => ?_)
    repeat (refine Run.go rfl ?_)
    refine Run.ret hg rfl ?_
    rw [vB, h1, h2, h3, h4]
    rfl

end Go.Proofs.YtilomajfcjpmnaaGreatDoor

/- Contracts of the program's functions, and what follows from them. -/
set_option maxRecDepth 100000
namespace Go.Proofs.YtilomajfcjpmnaaGreatDoor
open Go Go.Av

theorem wfu8 {n : Int} (h : (Lit.int .u8 n).wf = true) : u8r n := by
  simpa [Lit.wf, IntKind.min, IntKind.max, IntKind.signed, IntKind.bits, u8r] using h

theorem rdMk : Rd Tryz.prog 1048576 54 3 (fun x : Int × Int × Int => .agg [u8 x.1, u8 x.2.1, u8 x.2.2]) (fun x => u8r x.1 ∧ u8r x.2.1 ∧ u8r x.2.2) := by
  refine Rd.map (α := List Int) (g := fun l => (l.getD 0 0, l.getD 1 0, l.getD 2 0)) (Rd.array Tryz.underlying54 (by kernel_rfl) rfl (.int Tryz.underlying5) (by kernel_rfl)) ?_ ?_ (fun _ _ => rfl) (fun y => ⟨[y.1, y.2.1, y.2.2], rfl⟩)
  · rintro l ⟨hl, _⟩
    match l, hl with
    | [a, b, c], _ => rfl
  · rintro l ⟨hl, hx⟩
    match l, hl with
    | [a, b, c], _ => exact ⟨wfu8 (hx a (by simp)), wfu8 (hx b (by simp)), wfu8 (hx c (by simp))⟩

end Go.Proofs.YtilomajfcjpmnaaGreatDoor
