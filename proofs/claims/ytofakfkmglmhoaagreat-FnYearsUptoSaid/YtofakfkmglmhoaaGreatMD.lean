/- Parts of a proof, in one text: D1, D2, D3, D4, D5, D6, D7, DRd, D8, D9, D10, D11, D12, D13, D14, D15, D16, D17, D18, D19, D20. -/
import Derived.Test.YtofakfkmglmhoaaGreatAvTys
import Derived.Test.YtofakfkmglmhoaaGreatMB
import Derived.Test.YtofakfkmglmhoaaGreatAvRow
set_option linter.unusedVariables false

/- Contracts of the program's functions, and what follows from them. -/
set_option maxRecDepth 100000
namespace Go.Proofs.YtofakfkmglmhoaaGreat
open Go Go.Av

structure Cp where
  st : Int
  who : Int
  due : Int
  ren : Int
  q : List Int
  deriving DecidableEq
structure Dk where
  day : Int
  cs : List Cp
  deriving DecidableEq

end Go.Proofs.YtofakfkmglmhoaaGreat

/- Contracts of the program's functions, and what follows from them. -/
set_option maxRecDepth 100000
namespace Go.Proofs.YtofakfkmglmhoaaGreat
open Go Go.Av

end Go.Proofs.YtofakfkmglmhoaaGreat

/- Contracts of the program's functions, and what follows from them. -/
set_option maxRecDepth 100000
namespace Go.Proofs.YtofakfkmglmhoaaGreat
open Go Go.Av

end Go.Proofs.YtofakfkmglmhoaaGreat

/- Contracts of the program's functions, and what follows from them. -/
set_option maxRecDepth 100000
namespace Go.Proofs.YtofakfkmglmhoaaGreat
open Go Go.Av

def cnt (l : List Cp) : Nat := (l.map fun c => c.q.length + 4).sum
end Go.Proofs.YtofakfkmglmhoaaGreat

/- Contracts of the program's functions, and what follows from them. -/
set_option maxRecDepth 100000
namespace Go.Proofs.YtofakfkmglmhoaaGreat
open Go Go.Av

end Go.Proofs.YtofakfkmglmhoaaGreat

/- Contracts of the program's functions, and what follows from them. -/
set_option maxRecDepth 100000
namespace Go.Proofs.YtofakfkmglmhoaaGreat
open Go Go.Av

def inr (a b c : Int) : Bool := decide (b ≤ a) && decide (a ≤ c)

noncomputable def X38 : Fx := ⟨Tryz.prog, tys, 38, Tryz.f38, [0, 1, 2]⟩
theorem X38_ok : X38.Ok := ⟨Tryz.func38, tys_ok⟩
theorem l00In_ct (a b c : Int) : Ct Tryz.prog 38 [i64 a, i64 b, i64 c] (bo (inr a b c)) [] := by
  refine Ct.intro X38 X38_ok rfl rfl rfl rfl fun g hg => ?_
  repeat (refine Run.step rfl ?_)
  refine Run.bool 10 rfl (fun h => ?_) (fun h => ?_)
  · repeat (refine Run.step rfl ?_)
    refine Run.ret hg rfl ?_
    show bo _ = _
    simp_all [inr]
  · repeat (refine Run.step rfl ?_)
    refine Run.ret hg rfl ?_
    show bo _ = _
    simp_all [inr] <;> omega

noncomputable def X29 : Fx := ⟨Tryz.prog, tys, 29, Tryz.f29, [0, 1, 2]⟩
theorem X29_ok : X29.Ok := ⟨Tryz.func29, tys_ok⟩
theorem within64_ct (a b c : Int) : Ct Tryz.prog 29 [i64 a, i64 b, i64 c] (bo (inr a b c)) [] := by
  refine Ct.intro X29 X29_ok rfl rfl rfl rfl fun g hg => ?_
  repeat (refine Run.step rfl ?_)
  refine Run.bool 10 rfl (fun h => ?_) (fun h => ?_)
  · repeat (refine Run.step rfl ?_)
    refine Run.ret hg rfl ?_
    show bo _ = _
    simp_all [inr]
  · repeat (refine Run.step rfl ?_)
    refine Run.ret hg rfl ?_
    show bo _ = _
    simp_all [inr] <;> omega

end Go.Proofs.YtofakfkmglmhoaaGreat

/- Contracts of the program's functions, and what follows from them. -/
set_option maxRecDepth 100000
namespace Go.Proofs.YtofakfkmglmhoaaGreat
open Go Go.Av

end Go.Proofs.YtofakfkmglmhoaaGreat

/- Contracts of the program's functions, and what follows from them. -/
set_option maxRecDepth 100000
namespace Go.Proofs.YtofakfkmglmhoaaGreat
open Go Go.Av

def i16r (n : Int) : Prop := -32768 ≤ n ∧ n ≤ 32767
end Go.Proofs.YtofakfkmglmhoaaGreat

/- Contracts of the program's functions, and what follows from them. -/
set_option maxRecDepth 100000
namespace Go.Proofs.YtofakfkmglmhoaaGreat
open Go Go.Av

/-! Persons, places in queues. -/

/-- The place of the first, or -1. -/
def fi {α : Type} (p : α → Bool) (l : List α) : Int := if l.findIdx p < l.length then (l.findIdx p : Int) else -1

theorem fi_nonneg {α : Type} (p : α → Bool) (l : List α) : decide (0 ≤ fi p l) = l.any p := by
  unfold fi
  by_cases h : l.any p = true
  · rw [if_pos (List.findIdx_lt_length_of_exists (by simpa using h))]
    simp [h]
  · have : ¬ l.findIdx p < l.length := by
      intro h'
      apply h
      rw [List.any_eq_true]
      exact ⟨_, List.getElem_mem h', List.findIdx_getElem⟩
    rw [if_neg this]
    simp only [Bool.not_eq_true] at h
    simp [h]

theorem fi_at {α : Type} {p : α → Bool} {l : List α} {j : Nat} (hj : j < l.length) (hp : p l[j] = true) (hn : j ≤ l.findIdx p) : fi p l = j := by
  have : l.findIdx p = j := by
    refine Nat.le_antisymm (Nat.le_of_not_lt fun hlt' => ?_) hn
    have := List.not_of_lt_findIdx hlt'
    simp_all
  simp [fi, this, hj]
theorem fi_none {α : Type} {p : α → Bool} {l : List α} (hn : l.length ≤ l.findIdx p) : fi p l = -1 := by
  rw [fi, if_neg (by omega)]
theorem fi_next {α : Type} {p : α → Bool} {l : List α} {j : Nat} (hj : j < l.length) (hp : p l[j] = false) (hn : j ≤ l.findIdx p) : j + 1 ≤ l.findIdx p := by
  refine Nat.lt_of_le_of_ne hn fun e => ?_
  have := List.findIdx_getElem (p := p) (xs := l) (w := e ▸ hj)
  simp_all

noncomputable def X46 : Fx := ⟨Tryz.prog, tys, 46, Tryz.f46, [0, 1, 2]⟩
theorem X46_ok : X46.Ok := ⟨Tryz.func46, tys_ok⟩
theorem within16_ct (a b c : Int) : Ct Tryz.prog 46 [i16 a, i16 b, i16 c] (bo (inr a b c)) [] := by
  refine Ct.intro X46 X46_ok rfl rfl rfl rfl fun g hg => ?_
  repeat (refine Run.step rfl ?_)
  refine Run.bool 10 rfl (fun h => ?_) (fun h => ?_)
  · repeat (refine Run.step rfl ?_)
    refine Run.ret hg rfl ?_
    show bo _ = _
    simp_all [inr]
  · repeat (refine Run.step rfl ?_)
    refine Run.ret hg rfl ?_
    show bo _ = _
    simp_all [inr] <;> omega

/-- The places at which something holds, as numbers. -/
def idxs {α : Type} (p : α → Bool) (l : List α) : List Int := (l.zipIdx.filter fun x => p x.1).map fun x => (x.2 : Int)

theorem idxs_step {α : Type} {p : α → Bool} {l : List α} {j : Nat} (h : j < l.length) : idxs p (l.take (j + 1)) = if p l[j] then idxs p (l.take j) ++ [(j : Int)] else idxs p (l.take j) := by
  unfold idxs
  rw [List.take_succ_eq_append_getElem h, List.zipIdx_append, List.filter_append, List.map_append]
  have e : (l.take j).length = j := by simp; omega
  simp only [List.zipIdx_cons, List.zipIdx_nil, Nat.zero_add, e]
  split <;> rename_i hp <;> simp [hp]
theorem idxs_len {α : Type} (p : α → Bool) (l : List α) : (idxs p l).length ≤ l.length := by
  unfold idxs
  rw [List.length_map]
  exact Nat.le_trans (List.length_filter_le _ _) (by simp)

theorem frz64 (l : List Int) : AV.frzL (l.map i64) = l.map i64 := frzL_map (fun _ => rfl) l
theorem rf64 (l : List Int) : AV.rfL (l.map i64) = true := rfL_map (fun _ => rfl) l

end Go.Proofs.YtofakfkmglmhoaaGreat

/- Contracts of the program's functions, and what follows from them. -/
set_option maxRecDepth 100000
namespace Go.Proofs.YtofakfkmglmhoaaGreat
open Go Go.Av

/-! A valid copy. -/

end Go.Proofs.YtofakfkmglmhoaaGreat

/- Contracts of the program's functions, and what follows from them. -/
set_option maxRecDepth 100000
namespace Go.Proofs.YtofakfkmglmhoaaGreat
open Go Go.Av

/-! Valid desks, in the program. -/

end Go.Proofs.YtofakfkmglmhoaaGreat

/- Contracts of the program's functions, and what follows from them. -/
set_option maxRecDepth 100000
namespace Go.Proofs.YtofakfkmglmhoaaGreat
open Go Go.Av

/-! Valid desks, in the reference. -/

theorem w64 {n : Int} (h : i16r n) : IntKind.i64.wrap n = n := wrap_i64 (by have := h.1; omega) (by have := h.2; omega)
end Go.Proofs.YtofakfkmglmhoaaGreat

/- Contracts of the program's functions, and what follows from them. -/
set_option maxRecDepth 100000
namespace Go.Proofs.YtofakfkmglmhoaaGreat
open Go Go.Av

end Go.Proofs.YtofakfkmglmhoaaGreat

/- Contracts of the program's functions, and what follows from them. -/
set_option maxRecDepth 100000
namespace Go.Proofs.YtofakfkmglmhoaaGreat
open Go Go.Av

/-! A desk, a person and a book: their code; fines. -/

end Go.Proofs.YtofakfkmglmhoaaGreat

/- Contracts of the program's functions, and what follows from them. -/
set_option maxRecDepth 100000
namespace Go.Proofs.YtofakfkmglmhoaaGreat
open Go Go.Av

/-! Places in queues; how long one waits. -/

end Go.Proofs.YtofakfkmglmhoaaGreat

/- Contracts of the program's functions, and what follows from them. -/
set_option maxRecDepth 100000
namespace Go.Proofs.YtofakfkmglmhoaaGreat
open Go Go.Av

end Go.Proofs.YtofakfkmglmhoaaGreat

/- Contracts of the program's functions, and what follows from them. -/
set_option maxRecDepth 100000
namespace Go.Proofs.YtofakfkmglmhoaaGreat
open Go Go.Av

/-! Whether somebody may take a book. -/

theorem mem_idxs {α : Type} {p : α → Bool} {l : List α} {i : Int} : i ∈ idxs p l ↔ ∃ j : Nat, ∃ h : j < l.length, i = j ∧ p l[j] = true := by
  simp only [idxs, List.mem_map, List.mem_filter, Prod.exists, List.mem_zipIdx_iff_getElem?]
  constructor
  · rintro ⟨a, b, ⟨h1, h2⟩, rfl⟩
    obtain ⟨hb, rfl⟩ := List.getElem?_eq_some_iff.mp h1
    exact ⟨b, hb, rfl, h2⟩
  · rintro ⟨j, hj, rfl, h⟩
    exact ⟨l[j], j, ⟨List.getElem?_eq_getElem hj, h⟩, rfl⟩

end Go.Proofs.YtofakfkmglmhoaaGreat

/- Contracts of the program's functions, and what follows from them. -/
set_option maxRecDepth 100000
namespace Go.Proofs.YtofakfkmglmhoaaGreat
open Go Go.Av

/-! How many copies have each state. -/

def c3 (a b c : Nat) : AV := .agg [i64 a, i64 b, i64 c]
end Go.Proofs.YtofakfkmglmhoaaGreat

/- Contracts of the program's functions, and what follows from them. -/
set_option maxRecDepth 100000
namespace Go.Proofs.YtofakfkmglmhoaaGreat
open Go Go.Av

/-! Slices of whole numbers: compared, marked, held. -/

/-! The sizes that the law lets in. -/

end Go.Proofs.YtofakfkmglmhoaaGreat

/- Contracts of the program's functions, and what follows from them. -/
set_option maxRecDepth 100000
namespace Go.Proofs.YtofakfkmglmhoaaGreat
open Go Go.Av

/-! Books as told, in a slice of their own. -/

end Go.Proofs.YtofakfkmglmhoaaGreat

/- Contracts of the program's functions, and what follows from them. -/
set_option maxRecDepth 100000
namespace Go.Proofs.YtofakfkmglmhoaaGreat
open Go Go.Av

/-! The book that is due next. -/

def cmpI (a b : Int) : Int := if a < b then -1 else if b < a then 1 else 0

noncomputable def X112 : Fx := ⟨Tryz.prog, tys, 112, Tryz.f112, [0]⟩
theorem X112_ok : X112.Ok := ⟨Tryz.func112, tys_ok⟩
theorem isNaN16_ct (a : Int) : Ct Tryz.prog 112 [i16 a] (bo false) [] := by
  refine Ct.intro X112 X112_ok rfl rfl rfl rfl fun g hg => ?_
  repeat (refine Run.go rfl ?_)
  refine Run.ret hg rfl ?_
  show bo (a != a) = _
  simp

noncomputable def X109 : Fx := ⟨Tryz.prog, tys, 109, Tryz.f109, [0, 1]⟩
theorem X109_ok : X109.Ok := ⟨Tryz.func109, tys_ok⟩
theorem compare16_ct (a b : Int) : Ct Tryz.prog 109 [i16 a, i16 b] (i64 (cmpI a b)) [] := by
  refine Ct.intro X109 X109_ok rfl rfl rfl rfl fun g hg => ?_
  repeat (refine Run.go rfl ?_)
  refine Run.cs rfl (isNaN16_ct a) rfl rfl ?_
  repeat (refine Run.go rfl ?_)
  refine Run.cs rfl (isNaN16_ct b) rfl rfl ?_
  repeat (refine Run.go rfl ?_)
  refine Run.cond rfl (fun h => by simp at h) (fun h => ?_)
  repeat (refine Run.go rfl ?_)
  refine Run.cond rfl (fun h => by simp at h) (fun h => ?_)
  repeat (refine Run.go rfl ?_)
  refine Run.cond rfl (fun h => ?_) (fun h => ?_)
  · repeat (refine Run.go rfl ?_)
    refine Run.ret hg rfl ?_
    have h : a < b := by simpa using h
    simp only [cmpI, if_pos h]
    rfl
  have h : ¬ a < b := by simpa using h
  repeat (refine Run.go rfl ?_)
  refine Run.cond rfl (fun h2 => ?_) (fun h2 => ?_)
  · repeat (refine Run.go rfl ?_)
    refine Run.ret hg rfl ?_
    have h2 : b < a := by simpa using h2
    simp only [cmpI, if_neg h, if_pos h2]
    rfl
  have h2 : ¬ b < a := by simpa using h2
  repeat (refine Run.go rfl ?_)
  refine Run.ret hg rfl ?_
  simp only [cmpI, if_neg h, if_neg h2]
  rfl

def r3 (r : Int × Int × Int) : AV := .tup [i64 r.1, i64 r.2.1, i64 r.2.2]

end Go.Proofs.YtofakfkmglmhoaaGreat
