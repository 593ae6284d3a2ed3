/- Parts of a proof, in one text: D1, D2, D3, D4, D5, D6, D7, DRd, D8, D9, D10, D11, D12, D13, D14, D15, D16, D17, D18, D19, D20. -/
import Derived.Test.YtbkelajnngdimaaGreatDoorAvTys
import Derived.Test.YtbkelajnngdimaaGreatDoorMB
import Derived.Test.YtbkelajnngdimaaGreatDoorAvRow
set_option linter.unusedVariables false

/- Contracts of the program's functions, and what follows from them. -/
set_option maxRecDepth 100000
namespace Go.Proofs.YtbkelajnngdimaaGreatDoor
open Go Go.Av
structure Cp where
  st : Int
  who : Int
  due : Int
  ren : Int
  q : List Int
  deriving DecidableEq
structure Dk where
  day : Int
  cs : List Cp
  deriving DecidableEq
end Go.Proofs.YtbkelajnngdimaaGreatDoor

/- Contracts of the program's functions, and what follows from them. -/
set_option maxRecDepth 100000
namespace Go.Proofs.YtbkelajnngdimaaGreatDoor
open Go Go.Av
end Go.Proofs.YtbkelajnngdimaaGreatDoor

/- Contracts of the program's functions, and what follows from them. -/
set_option maxRecDepth 100000
namespace Go.Proofs.YtbkelajnngdimaaGreatDoor
open Go Go.Av
end Go.Proofs.YtbkelajnngdimaaGreatDoor

/- Contracts of the program's functions, and what follows from them. -/
set_option maxRecDepth 100000
namespace Go.Proofs.YtbkelajnngdimaaGreatDoor
open Go Go.Av
def cnt (l : List Cp) : Nat := (l.map fun c => c.q.length + 4).sum
end Go.Proofs.YtbkelajnngdimaaGreatDoor

/- Contracts of the program's functions, and what follows from them. -/
set_option maxRecDepth 100000
namespace Go.Proofs.YtbkelajnngdimaaGreatDoor
open Go Go.Av
end Go.Proofs.YtbkelajnngdimaaGreatDoor

/- Contracts of the program's functions, and what follows from them. -/
set_option maxRecDepth 100000
namespace Go.Proofs.YtbkelajnngdimaaGreatDoor
open Go Go.Av
def inr (a b c : Int) : Bool := decide (b ≤ a) && decide (a ≤ c)
noncomputable def X107 : Fx := ⟨Tryz.prog, tys, 107, Tryz.f107, [0, 1, 2]⟩
theorem X107_ok : X107.Ok := ⟨Tryz.func107, tys_ok⟩
theorem l00In_ct (a b c : Int) : Ct Tryz.prog 107 [i64 a, i64 b, i64 c] (bo (inr a b c)) [] := by
  refine Ct.intro X107 X107_ok rfl rfl rfl rfl fun g hg => ?_
  repeat (refine Run.step rfl ?_)
  refine Run.bool 10 rfl (fun h => ?_) (fun h => ?_)
  · repeat (refine Run.step rfl ?_)
    refine Run.ret hg rfl ?_
    show bo _ = _
    simp_all [inr]
  · repeat (refine Run.step rfl ?_)
    refine Run.ret hg rfl ?_
    show bo _ = _
    simp_all [inr] <;> omega
noncomputable def X93 : Fx := ⟨Tryz.prog, tys, 93, Tryz.f93, [0, 1, 2]⟩
theorem X93_ok : X93.Ok := ⟨Tryz.func93, tys_ok⟩
theorem within64_ct (a b c : Int) : Ct Tryz.prog 93 [i64 a, i64 b, i64 c] (bo (inr a b c)) [] := by
  refine Ct.intro X93 X93_ok rfl rfl rfl rfl fun g hg => ?_
  repeat (refine Run.step rfl ?_)
  refine Run.bool 10 rfl (fun h => ?_) (fun h => ?_)
  · repeat (refine Run.step rfl ?_)
    refine Run.ret hg rfl ?_
    show bo _ = _
    simp_all [inr]
  · repeat (refine Run.step rfl ?_)
    refine Run.ret hg rfl ?_
    show bo _ = _
    simp_all [inr] <;> omega
end Go.Proofs.YtbkelajnngdimaaGreatDoor

/- Contracts of the program's functions, and what follows from them. -/
set_option maxRecDepth 100000
namespace Go.Proofs.YtbkelajnngdimaaGreatDoor
open Go Go.Av
end Go.Proofs.YtbkelajnngdimaaGreatDoor

/- Contracts of the program's functions, and what follows from them. -/
set_option maxRecDepth 100000
namespace Go.Proofs.YtbkelajnngdimaaGreatDoor
open Go Go.Av
def i16r (n : Int) : Prop := -32768 ≤ n ∧ n ≤ 32767
end Go.Proofs.YtbkelajnngdimaaGreatDoor

/- Contracts of the program's functions, and what follows from them. -/
set_option maxRecDepth 100000
namespace Go.Proofs.YtbkelajnngdimaaGreatDoor
open Go Go.Av
def fi {α : Type} (p : α → Bool) (l : List α) : Int := if l.findIdx p < l.length then (l.findIdx p : Int) else -1
theorem fi_nonneg {α : Type} (p : α → Bool) (l : List α) : decide (0 ≤ fi p l) = l.any p := by
  unfold fi
  by_cases h : l.any p = true
  · rw [if_pos (List.findIdx_lt_length_of_exists (by simpa using h))]
    simp [h]
  · have : ¬ l.findIdx p < l.length := by
      intro h'
      apply h
      rw [List.any_eq_true]
      exact ⟨_, List.getElem_mem h', List.findIdx_getElem⟩
    rw [if_neg this]
    simp only [Bool.not_eq_true] at h
    simp [h]
theorem fi_at {α : Type} {p : α → Bool} {l : List α} {j : Nat} (hj : j < l.length) (hp : p l[j] = true) (hn : j ≤ l.findIdx p) : fi p l = j := by
  have : l.findIdx p = j := by
    refine Nat.le_antisymm (Nat.le_of_not_lt fun hlt' => ?_) hn
    have := List.not_of_lt_findIdx hlt'
    simp_all
  simp [fi, this, hj]
theorem fi_none {α : Type} {p : α → Bool} {l : List α} (hn : l.length ≤ l.findIdx p) : fi p l = -1 := by
  rw [fi, if_neg (by omega)]
theorem fi_next {α : Type} {p : α → Bool} {l : List α} {j : Nat} (hj : j < l.length) (hp : p l[j] = false) (hn : j ≤ l.findIdx p) : j + 1 ≤ l.findIdx p := by
  refine Nat.lt_of_le_of_ne hn fun e => ?_
  have := List.findIdx_getElem (p := p) (xs := l) (w := e ▸ hj)
  simp_all
noncomputable def X82 : Fx := ⟨Tryz.prog, tys, 82, Tryz.f82, [0, 1, 2]⟩
theorem X82_ok : X82.Ok := ⟨Tryz.func82, tys_ok⟩
theorem within16_ct (a b c : Int) : Ct Tryz.prog 82 [i16 a, i16 b, i16 c] (bo (inr a b c)) [] := by
  refine Ct.intro X82 X82_ok rfl rfl rfl rfl fun g hg => ?_
  repeat (refine Run.step rfl ?_)
  refine Run.bool 10 rfl (fun h => ?_) (fun h => ?_)
  · repeat (refine Run.step rfl ?_)
    refine Run.ret hg rfl ?_
    show bo _ = _
    simp_all [inr]
  · repeat (refine Run.step rfl ?_)
    refine Run.ret hg rfl ?_
    show bo _ = _
    simp_all [inr] <;> omega
def idxs {α : Type} (p : α → Bool) (l : List α) : List Int := (l.zipIdx.filter fun x => p x.1).map fun x => (x.2 : Int)
theorem idxs_step {α : Type} {p : α → Bool} {l : List α} {j : Nat} (h : j < l.length) : idxs p (l.take (j + 1)) = if p l[j] then idxs p (l.take j) ++ [(j : Int)] else idxs p (l.take j) := by
  unfold idxs
  rw [List.take_succ_eq_append_getElem h, List.zipIdx_append, List.filter_append, List.map_append]
  have e : (l.take j).length = j := by simp; omega
  simp only [List.zipIdx_cons, List.zipIdx_nil, Nat.zero_add, e]
  split <;> rename_i hp <;> simp [hp]
theorem idxs_len {α : Type} (p : α → Bool) (l : List α) : (idxs p l).length ≤ l.length := by
  unfold idxs
  rw [List.length_map]
  exact Nat.le_trans (List.length_filter_le _ _) (by simp)
theorem frz64 (l : List Int) : AV.frzL (l.map i64) = l.map i64 := frzL_map (fun _ => rfl) l
theorem rf64 (l : List Int) : AV.rfL (l.map i64) = true := rfL_map (fun _ => rfl) l
end Go.Proofs.YtbkelajnngdimaaGreatDoor

/- Contracts of the program's functions, and what follows from them. -/
set_option maxRecDepth 100000
namespace Go.Proofs.YtbkelajnngdimaaGreatDoor
open Go Go.Av
def qOk (who : Int) (q : List Int) : Bool := decide (∀ x ∈ q, inr x 0 49 = true) && decide ((who :: q).Nodup)
def vC (c : Cp) (day : Int) : Bool :=
  if c.st = 0 then decide (c.who = 0) && decide (c.due = 0) && decide (c.ren = 0) && decide (c.q = [])
  else (decide (c.st = 1) || decide (c.st = 2)) && inr c.who 0 49 && inr c.due 0 10028 && decide (c.q.length ≤ 4) && qOk c.who c.q &&
    (if c.st = 2 then decide (c.ren = 0) && decide (day ≤ c.due) else inr c.ren 0 2)
end Go.Proofs.YtbkelajnngdimaaGreatDoor

/- Contracts of the program's functions, and what follows from them. -/
set_option maxRecDepth 100000
namespace Go.Proofs.YtbkelajnngdimaaGreatDoor
open Go Go.Av
def nums (n : Nat) : List Int := (List.range n).map fun k : Nat => (k : Int)
def lentTo (w : Int) (c : Cp) : Bool := decide (c.st = 1) && decide (c.who = w)
def vD (d : Dk) : Bool := inr d.day 0 10000 && decide (d.cs.length ≤ 60) && d.cs.all (fun c => vC c d.day) && (nums 50).all fun w => decide ((idxs (lentTo w) d.cs).length ≤ 3)
end Go.Proofs.YtbkelajnngdimaaGreatDoor

/- Contracts of the program's functions, and what follows from them. -/
set_option maxRecDepth 100000
namespace Go.Proofs.YtbkelajnngdimaaGreatDoor
open Go Go.Av
theorem w64 {n : Int} (h : i16r n) : IntKind.i64.wrap n = n := wrap_i64 (by have := h.1; omega) (by have := h.2; omega)
end Go.Proofs.YtbkelajnngdimaaGreatDoor

/- Contracts of the program's functions, and what follows from them. -/
set_option maxRecDepth 100000
namespace Go.Proofs.YtbkelajnngdimaaGreatDoor
open Go Go.Av
end Go.Proofs.YtbkelajnngdimaaGreatDoor

/- Contracts of the program's functions, and what follows from them. -/
set_option maxRecDepth 100000
namespace Go.Proofs.YtbkelajnngdimaaGreatDoor
open Go Go.Av
end Go.Proofs.YtbkelajnngdimaaGreatDoor

/- Contracts of the program's functions, and what follows from them. -/
set_option maxRecDepth 100000
namespace Go.Proofs.YtbkelajnngdimaaGreatDoor
open Go Go.Av
end Go.Proofs.YtbkelajnngdimaaGreatDoor

/- Contracts of the program's functions, and what follows from them. -/
set_option maxRecDepth 100000
namespace Go.Proofs.YtbkelajnngdimaaGreatDoor
open Go Go.Av
end Go.Proofs.YtbkelajnngdimaaGreatDoor

/- Contracts of the program's functions, and what follows from them. -/
set_option maxRecDepth 100000
namespace Go.Proofs.YtbkelajnngdimaaGreatDoor
open Go Go.Av
end Go.Proofs.YtbkelajnngdimaaGreatDoor

/- Contracts of the program's functions, and what follows from them. -/
set_option maxRecDepth 100000
namespace Go.Proofs.YtbkelajnngdimaaGreatDoor
open Go Go.Av
def c3 (a b c : Nat) : AV := .agg [i64 a, i64 b, i64 c]
end Go.Proofs.YtbkelajnngdimaaGreatDoor

/- Contracts of the program's functions, and what follows from them. -/
set_option maxRecDepth 100000
namespace Go.Proofs.YtbkelajnngdimaaGreatDoor
open Go Go.Av
end Go.Proofs.YtbkelajnngdimaaGreatDoor

/- Contracts of the program's functions, and what follows from them. -/
set_option maxRecDepth 100000
namespace Go.Proofs.YtbkelajnngdimaaGreatDoor
open Go Go.Av
end Go.Proofs.YtbkelajnngdimaaGreatDoor

/- Contracts of the program's functions, and what follows from them. -/
set_option maxRecDepth 100000
namespace Go.Proofs.YtbkelajnngdimaaGreatDoor
open Go Go.Av
def cmpI (a b : Int) : Int := if a < b then -1 else if b < a then 1 else 0
noncomputable def X294 : Fx := ⟨Tryz.prog, tys, 294, Tryz.f294, [0]⟩
theorem X294_ok : X294.Ok := ⟨Tryz.func294, tys_ok⟩
theorem isNaN16_ct (a : Int) : Ct Tryz.prog 294 [i16 a] (bo false) [] := by
  refine Ct.intro X294 X294_ok rfl rfl rfl rfl fun g hg => ?_
  repeat (refine Run.go rfl ?_)
  refine Run.ret hg rfl ?_
  show bo (a != a) = _
  simp
noncomputable def X268 : Fx := ⟨Tryz.prog, tys, 268, Tryz.f268, [0, 1]⟩
theorem X268_ok : X268.Ok := ⟨Tryz.func268, tys_ok⟩
theorem compare16_ct (a b : Int) : Ct Tryz.prog 268 [i16 a, i16 b] (i64 (cmpI a b)) [] := by
  refine Ct.intro X268 X268_ok rfl rfl rfl rfl fun g hg => ?_
  repeat (refine Run.go rfl ?_)
  refine Run.cs rfl (isNaN16_ct a) rfl rfl ?_
  repeat (refine Run.go rfl ?_)
  refine Run.cs rfl (isNaN16_ct b) rfl rfl ?_
  repeat (refine Run.go rfl ?_)
  refine Run.cond rfl (fun h => by simp at h) (fun h => ?_)
  repeat (refine Run.go rfl ?_)
  refine Run.cond rfl (fun h => by simp at h) (fun h => ?_)
  repeat (refine Run.go rfl ?_)
  refine Run.cond rfl (fun h => ?_) (fun h => ?_)
  · repeat (refine Run.go rfl ?_)
    refine Run.ret hg rfl ?_
    have h : a < b := by simpa using h
    simp only [cmpI, if_pos h]
    rfl
  have h : ¬ a < b := by simpa using h
  repeat (refine Run.go rfl ?_)
  refine Run.cond rfl (fun h2 => ?_) (fun h2 => ?_)
  · repeat (refine Run.go rfl ?_)
    refine Run.ret hg rfl ?_
    have h2 : b < a := by simpa using h2
    simp only [cmpI, if_neg h, if_pos h2]
    rfl
  have h2 : ¬ b < a := by simpa using h2
  repeat (refine Run.go rfl ?_)
  refine Run.ret hg rfl ?_
  simp only [cmpI, if_neg h, if_neg h2]
  rfl
def r3 (r : Int × Int × Int) : AV := .tup [i64 r.1, i64 r.2.1, i64 r.2.2]
end Go.Proofs.YtbkelajnngdimaaGreatDoor
