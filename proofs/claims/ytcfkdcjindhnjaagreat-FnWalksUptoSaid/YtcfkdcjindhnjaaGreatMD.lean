/- Parts of a proof, in one text: D1, D2, D3, D4, D5, D6, D7, DRd, D8, D9, D10, D11, D12, D13, D14, D15, D16, D17, D18, D19, D20. -/
import Derived.Test.YtcfkdcjindhnjaaGreatAvTys
import Derived.Test.YtcfkdcjindhnjaaGreatMB
import Derived.Test.YtcfkdcjindhnjaaGreatAvRow
set_option linter.unusedVariables false

/- Contracts of the program's functions, and what follows from them. -/
set_option maxRecDepth 100000
namespace Go.Proofs.YtcfkdcjindhnjaaGreat
open Go Go.Av

structure Cp where
  st : Int
  who : Int
  due : Int
  ren : Int
  q : List Int
  deriving DecidableEq
structure Dk where
  day : Int
  cs : List Cp
  deriving DecidableEq

end Go.Proofs.YtcfkdcjindhnjaaGreat

/- Contracts of the program's functions, and what follows from them. -/
set_option maxRecDepth 100000
namespace Go.Proofs.YtcfkdcjindhnjaaGreat
open Go Go.Av

end Go.Proofs.YtcfkdcjindhnjaaGreat

/- Contracts of the program's functions, and what follows from them. -/
set_option maxRecDepth 100000
namespace Go.Proofs.YtcfkdcjindhnjaaGreat
open Go Go.Av

end Go.Proofs.YtcfkdcjindhnjaaGreat

/- Contracts of the program's functions, and what follows from them. -/
set_option maxRecDepth 100000
namespace Go.Proofs.YtcfkdcjindhnjaaGreat
open Go Go.Av

def cnt (l : List Cp) : Nat := (l.map fun c => c.q.length + 4).sum
end Go.Proofs.YtcfkdcjindhnjaaGreat

/- Contracts of the program's functions, and what follows from them. -/
set_option maxRecDepth 100000
namespace Go.Proofs.YtcfkdcjindhnjaaGreat
open Go Go.Av

end Go.Proofs.YtcfkdcjindhnjaaGreat

/- Contracts of the program's functions, and what follows from them. -/
set_option maxRecDepth 100000
namespace Go.Proofs.YtcfkdcjindhnjaaGreat
open Go Go.Av

def inr (a b c : Int) : Bool := decide (b ≤ a) && decide (a ≤ c)

noncomputable def X40 : Fx := ⟨Tryz.prog, tys, 40, Tryz.f40, [0, 1, 2]⟩
theorem X40_ok : X40.Ok := ⟨Tryz.func40, tys_ok⟩
theorem l00In_ct (a b c : Int) : Ct Tryz.prog 40 [i64 a, i64 b, i64 c] (bo (inr a b c)) [] := by
  refine Ct.intro X40 X40_ok rfl rfl rfl rfl fun g hg => ?_
  repeat (refine Run.step rfl ?_)
  refine Run.bool 10 rfl (fun h => ?_) (fun h => ?_)
  · repeat (refine Run.step rfl ?_)
    refine Run.ret hg rfl ?_
    show bo _ = _
    simp_all [inr]
  · repeat (refine Run.step rfl ?_)
    refine Run.ret hg rfl ?_
    show bo _ = _
    simp_all [inr] <;> omega

noncomputable def X37 : Fx := ⟨Tryz.prog, tys, 37, Tryz.f37, [0, 1, 2]⟩
theorem X37_ok : X37.Ok := ⟨Tryz.func37, tys_ok⟩
theorem within64_ct (a b c : Int) : Ct Tryz.prog 37 [i64 a, i64 b, i64 c] (bo (inr a b c)) [] := by
  refine Ct.intro X37 X37_ok rfl rfl rfl rfl fun g hg => ?_
  repeat (refine Run.step rfl ?_)
  refine Run.bool 10 rfl (fun h => ?_) (fun h => ?_)
  · repeat (refine Run.step rfl ?_)
    refine Run.ret hg rfl ?_
    show bo _ = _
    simp_all [inr]
  · repeat (refine Run.step rfl ?_)
    refine Run.ret hg rfl ?_
    show bo _ = _
    simp_all [inr] <;> omega

end Go.Proofs.YtcfkdcjindhnjaaGreat

/- Contracts of the program's functions, and what follows from them. -/
set_option maxRecDepth 100000
namespace Go.Proofs.YtcfkdcjindhnjaaGreat
open Go Go.Av

end Go.Proofs.YtcfkdcjindhnjaaGreat

/- Contracts of the program's functions, and what follows from them. -/
set_option maxRecDepth 100000
namespace Go.Proofs.YtcfkdcjindhnjaaGreat
open Go Go.Av

def i16r (n : Int) : Prop := -32768 ≤ n ∧ n ≤ 32767
end Go.Proofs.YtcfkdcjindhnjaaGreat

/- Contracts of the program's functions, and what follows from them. -/
set_option maxRecDepth 100000
namespace Go.Proofs.YtcfkdcjindhnjaaGreat
open Go Go.Av

/-! Persons, places in queues. -/

/-- The place of the first, or -1. -/
def fi {α : Type} (p : α → Bool) (l : List α) : Int := if l.findIdx p < l.length then (l.findIdx p : Int) else -1

theorem fi_nonneg {α : Type} (p : α → Bool) (l : List α) : decide (0 ≤ fi p l) = l.any p := by
  unfold fi
  by_cases h : l.any p = true
  · rw [if_pos (List.findIdx_lt_length_of_exists (by simpa using h))]
    simp [h]
  · have : ¬ l.findIdx p < l.length := by
      intro h'
      apply h
      rw [List.any_eq_true]
      exact ⟨_, List.getElem_mem h', List.findIdx_getElem⟩
    rw [if_neg this]
    simp only [Bool.not_eq_true] at h
    simp [h]

theorem fi_at {α : Type} {p : α → Bool} {l : List α} {j : Nat} (hj : j < l.length) (hp : p l[j] = true) (hn : j ≤ l.findIdx p) : fi p l = j := by
  have : l.findIdx p = j := by
    refine Nat.le_antisymm (Nat.le_of_not_lt fun hlt' => ?_) hn
    have := List.not_of_lt_findIdx hlt'
    simp_all
  simp [fi, this, hj]
theorem fi_none {α : Type} {p : α → Bool} {l : List α} (hn : l.length ≤ l.findIdx p) : fi p l = -1 := by
  rw [fi, if_neg (by omega)]
theorem fi_next {α : Type} {p : α → Bool} {l : List α} {j : Nat} (hj : j < l.length) (hp : p l[j] = false) (hn : j ≤ l.findIdx p) : j + 1 ≤ l.findIdx p := by
  refine Nat.lt_of_le_of_ne hn fun e => ?_
  have := List.findIdx_getElem (p := p) (xs := l) (w := e ▸ hj)
  simp_all

noncomputable def X76 : Fx := ⟨Tryz.prog, tys, 76, Tryz.f76, [0, 1, 2]⟩
theorem X76_ok : X76.Ok := ⟨Tryz.func76, tys_ok⟩
theorem within16_ct (a b c : Int) : Ct Tryz.prog 76 [i16 a, i16 b, i16 c] (bo (inr a b c)) [] := by
  refine Ct.intro X76 X76_ok rfl rfl rfl rfl fun g hg => ?_
  repeat (refine Run.step rfl ?_)
  refine Run.bool 10 rfl (fun h => ?_) (fun h => ?_)
  · repeat (refine Run.step rfl ?_)
    refine Run.ret hg rfl ?_
    show bo _ = _
    simp_all [inr]
  · repeat (refine Run.step rfl ?_)
    refine Run.ret hg rfl ?_
    show bo _ = _
    simp_all [inr] <;> omega

theorem frz64 (l : List Int) : AV.frzL (l.map i64) = l.map i64 := frzL_map (fun _ => rfl) l
theorem rf64 (l : List Int) : AV.rfL (l.map i64) = true := rfL_map (fun _ => rfl) l

end Go.Proofs.YtcfkdcjindhnjaaGreat

/- Contracts of the program's functions, and what follows from them. -/
set_option maxRecDepth 100000
namespace Go.Proofs.YtcfkdcjindhnjaaGreat
open Go Go.Av

/-! A valid copy. -/

end Go.Proofs.YtcfkdcjindhnjaaGreat

/- Contracts of the program's functions, and what follows from them. -/
set_option maxRecDepth 100000
namespace Go.Proofs.YtcfkdcjindhnjaaGreat
open Go Go.Av

/-! Valid desks, in the program. -/

noncomputable def X80 : Fx := ⟨Tryz.prog, tys, 80, Tryz.f80, [0, 1]⟩
theorem X80_ok : X80.Ok := ⟨Tryz.func80, tys_ok⟩
theorem indexI_ct (l : List Int) (ex : Bool) (f : Nat) (caps : List AV) (p : Int → Bool) (hlen : l.length ≤ 1048576) (hc : AV.freeL caps = true)
    (hf : ∀ x ∈ l, Ct Tryz.prog f ([i64 x] ++ caps) (bo (p x)) []) : Ct Tryz.prog 80 [.ro 1 ex (l.map i64), .fn f caps] (i64 (fi p l)) [] := by
  refine Ct.intro X80 X80_ok rfl (by kernel_rfl) rfl rfl fun g hg => ?_
  repeat (refine Run.step rfl ?_)
  refine Run.loop (fun j : Nat => ⟨[(0, .ro 1 ex (l.map i64)), (1, .fn f caps), (7, i64 l.length), (8, i64 j)], []⟩) (fun j => j ≤ l.length ∧ j ≤ l.findIdx p) (fun j => l.length - j) 0 ⟨by omega, by omega⟩ ?_ ?_
  · refine St.Le.mk' ⟨rfl, rfl, ?_, rfl, trivial⟩ trivial
    show i64 _ = _
    simp
  · rintro j ⟨hj1, hj2⟩ IH
    repeat (refine Run.step rfl ?_)
    refine Run.cond rfl (fun h => ?_) (fun h => ?_)
    · have hlt : j < l.length := by simpa using h
      repeat (refine Run.step rfl ?_)
      refine Run.val rfl rfl rfl (ValOk.idx (i64 l[j]) rfl rfl rfl rfl rfl (by omega) (by simp [hlt])) rfl ?_
      repeat (refine Run.step rfl ?_)
      refine Run.callp rfl rfl rfl rfl rfl rfl rfl hc rfl (hf l[j] (by simp)) (by decide) (by decide) ?_
      repeat (refine Run.step rfl ?_)
      refine Run.cond rfl (fun h => ?_) (fun h => ?_)
      · repeat (refine Run.step rfl ?_)
        refine Run.ret hg rfl ?_
        show i64 _ = _
        rw [fi_at hlt h hj2]
      · repeat (refine Run.step rfl ?_)
        refine Run.of (IH (j + 1) ⟨by omega, fi_next hlt h hj2⟩ (by omega)) ⟨rfl, rfl, rfl, ?_, trivial⟩ trivial
        show i64 _ = _
        rw [wrap_i64 (by omega) (by omega)]
        rfl
    · repeat (refine Run.step rfl ?_)
      have hj : j = l.length := by simp at h; omega
      refine Run.ret hg rfl ?_
      show i64 (-1) = _
      rw [fi_none (by omega)]

def nums (n : Nat) : List Int := (List.range n).map fun k : Nat => (k : Int)

noncomputable def X64 : Fx := ⟨Tryz.prog, tys, 64, Tryz.f64, [0]⟩
theorem X64_ok : X64.Ok := ⟨Tryz.func64, tys_ok⟩
theorem upTo_ct (n : Nat) (hn : n ≤ 1048576) : Ct Tryz.prog 64 [i64 n] (.own 1 false ((nums n).map i64)) [] := by
  refine Ct.intro X64 X64_ok rfl rfl rfl rfl fun g hg => ?_
  repeat (refine Run.go rfl ?_)
  refine Run.nilSlot 3 1 false rfl ?_
  refine Run.loop (fun j : Nat => ⟨[(3, .own 1 false ((nums j).map i64)), (5, i64 n), (6, i64 j)], []⟩) (fun j => j ≤ n) (fun j => n - j) 0 (by omega) ?_ ?_
  · exact St.Le.mk' ⟨rfl, rfl, rfl, trivial⟩ trivial
  · intro j hj IH
    repeat (refine Run.go rfl ?_)
    refine Run.cond rfl (fun h => ?_) (fun h => ?_)
    · have hlt : j < n := by simpa using h
      repeat (refine Run.go rfl ?_)
      refine Run.buildSlice [i64 j] rfl rfl rfl rfl rfl rfl rfl rfl rfl rfl rfl rfl rfl rfl ?_
      refine Run.appendo rfl rfl rfl rfl rfl rfl rfl rfl rfl rfl rfl rfl rfl rfl (by show (_ + 1) * 8 ≤ _; simp [nums]; omega) (by simp [capMax, nums]; omega) (by decide) rfl ?_
      repeat (refine Run.go rfl ?_)
      refine Run.of (IH (j + 1) (by omega) (by omega)) ⟨?_, rfl, ?_, trivial⟩ trivial
      · show AV.own _ _ _ = AV.own _ _ _
        simp [nums, List.range_succ]
      · show i64 _ = _
        rw [wrap_i64 (by omega) (by omega)]
        rfl
    · have hj' : j = n := by simp at h; omega
      subst hj'
      repeat (refine Run.go rfl ?_)
      refine Run.pack 2 rfl rfl rfl ?_
      exact Run.ret hg rfl rfl

end Go.Proofs.YtcfkdcjindhnjaaGreat

/- Contracts of the program's functions, and what follows from them. -/
set_option maxRecDepth 100000
namespace Go.Proofs.YtcfkdcjindhnjaaGreat
open Go Go.Av

/-! Valid desks, in the reference. -/

theorem w64 {n : Int} (h : i16r n) : IntKind.i64.wrap n = n := wrap_i64 (by have := h.1; omega) (by have := h.2; omega)
end Go.Proofs.YtcfkdcjindhnjaaGreat

/- Contracts of the program's functions, and what follows from them. -/
set_option maxRecDepth 100000
namespace Go.Proofs.YtcfkdcjindhnjaaGreat
open Go Go.Av

end Go.Proofs.YtcfkdcjindhnjaaGreat

/- Contracts of the program's functions, and what follows from them. -/
set_option maxRecDepth 100000
namespace Go.Proofs.YtcfkdcjindhnjaaGreat
open Go Go.Av

/-! A desk, a person and a book: their code; fines. -/

end Go.Proofs.YtcfkdcjindhnjaaGreat

/- Contracts of the program's functions, and what follows from them. -/
set_option maxRecDepth 100000
namespace Go.Proofs.YtcfkdcjindhnjaaGreat
open Go Go.Av

/-! Places in queues; how long one waits. -/

end Go.Proofs.YtcfkdcjindhnjaaGreat

/- Contracts of the program's functions, and what follows from them. -/
set_option maxRecDepth 100000
namespace Go.Proofs.YtcfkdcjindhnjaaGreat
open Go Go.Av

noncomputable def X56 : Fx := ⟨Tryz.prog, tys, 56, Tryz.f56, [0, 1]⟩
theorem X56_ok : X56.Ok := ⟨Tryz.func56, tys_ok⟩
theorem l00Max_ct (a b : Int) : Ct Tryz.prog 56 [i64 a, i64 b] (i64 (max a b)) [] := by
  refine Ct.intro X56 X56_ok rfl rfl rfl rfl fun g hg => ?_
  repeat (refine Run.go rfl ?_)
  refine Run.cond rfl (fun h => ?_) (fun h => ?_)
  · repeat (refine Run.go rfl ?_)
    refine Run.ret hg rfl ?_
    simp at h
    rw [Int.max_eq_left (by omega)]
    rfl
  · repeat (refine Run.go rfl ?_)
    refine Run.ret hg rfl ?_
    simp at h
    rw [Int.max_eq_right (by omega)]
    rfl

end Go.Proofs.YtcfkdcjindhnjaaGreat

/- Contracts of the program's functions, and what follows from them. -/
set_option maxRecDepth 100000
namespace Go.Proofs.YtcfkdcjindhnjaaGreat
open Go Go.Av

/-! Whether somebody may take a book. -/

end Go.Proofs.YtcfkdcjindhnjaaGreat

/- Contracts of the program's functions, and what follows from them. -/
set_option maxRecDepth 100000
namespace Go.Proofs.YtcfkdcjindhnjaaGreat
open Go Go.Av

/-! How many copies have each state. -/

def c3 (a b c : Nat) : AV := .agg [i64 a, i64 b, i64 c]
end Go.Proofs.YtcfkdcjindhnjaaGreat

/- Contracts of the program's functions, and what follows from them. -/
set_option maxRecDepth 100000
namespace Go.Proofs.YtcfkdcjindhnjaaGreat
open Go Go.Av

/-! Slices of whole numbers: compared, marked, held. -/

/-! The sizes that the law lets in. -/

end Go.Proofs.YtcfkdcjindhnjaaGreat

/- Contracts of the program's functions, and what follows from them. -/
set_option maxRecDepth 100000
namespace Go.Proofs.YtcfkdcjindhnjaaGreat
open Go Go.Av

/-! Books as told, in a slice of their own. -/

def lsR (r : List Int × Int) : AV := .tup [.own 1 false (r.1.map i64), i64 r.2]
end Go.Proofs.YtcfkdcjindhnjaaGreat

/- Contracts of the program's functions, and what follows from them. -/
set_option maxRecDepth 100000
namespace Go.Proofs.YtcfkdcjindhnjaaGreat
open Go Go.Av

/-! The book that is due next. -/

def cmpI (a b : Int) : Int := if a < b then -1 else if b < a then 1 else 0

noncomputable def X107 : Fx := ⟨Tryz.prog, tys, 107, Tryz.f107, [0]⟩
theorem X107_ok : X107.Ok := ⟨Tryz.func107, tys_ok⟩
theorem isNaN16_ct (a : Int) : Ct Tryz.prog 107 [i16 a] (bo false) [] := by
  refine Ct.intro X107 X107_ok rfl rfl rfl rfl fun g hg => ?_
  repeat (refine Run.go rfl ?_)
  refine Run.ret hg rfl ?_
  show bo (a != a) = _
  simp

noncomputable def X99 : Fx := ⟨Tryz.prog, tys, 99, Tryz.f99, [0, 1]⟩
theorem X99_ok : X99.Ok := ⟨Tryz.func99, tys_ok⟩
theorem compare16_ct (a b : Int) : Ct Tryz.prog 99 [i16 a, i16 b] (i64 (cmpI a b)) [] := by
  refine Ct.intro X99 X99_ok rfl rfl rfl rfl fun g hg => ?_
  repeat (refine Run.go rfl ?_)
  refine Run.cs rfl (isNaN16_ct a) rfl rfl ?_
  repeat (refine Run.go rfl ?_)
  refine Run.cs rfl (isNaN16_ct b) rfl rfl ?_
  repeat (refine Run.go rfl ?_)
  refine Run.cond rfl (fun h => by simp at h) (fun h => ?_)
  repeat (refine Run.go rfl ?_)
  refine Run.cond rfl (fun h => by simp at h) (fun h => ?_)
  repeat (refine Run.go rfl ?_)
  refine Run.cond rfl (fun h => ?_) (fun h => ?_)
  · repeat (refine Run.go rfl ?_)
    refine Run.ret hg rfl ?_
    have h : a < b := by simpa using h
    simp only [cmpI, if_pos h]
    rfl
  have h : ¬ a < b := by simpa using h
  repeat (refine Run.go rfl ?_)
  refine Run.cond rfl (fun h2 => ?_) (fun h2 => ?_)
  · repeat (refine Run.go rfl ?_)
    refine Run.ret hg rfl ?_
    have h2 : b < a := by simpa using h2
    simp only [cmpI, if_neg h, if_pos h2]
    rfl
  have h2 : ¬ b < a := by simpa using h2
  repeat (refine Run.go rfl ?_)
  refine Run.ret hg rfl ?_
  simp only [cmpI, if_neg h, if_neg h2]
  rfl

def r3 (r : Int × Int × Int) : AV := .tup [i64 r.1, i64 r.2.1, i64 r.2.2]

end Go.Proofs.YtcfkdcjindhnjaaGreat
