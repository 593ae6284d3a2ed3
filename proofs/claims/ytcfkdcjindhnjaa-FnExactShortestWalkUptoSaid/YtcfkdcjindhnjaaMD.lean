/- Parts of a proof, in one text: D1, D2, D3, D4, D5, D6, D7, DRd, D8, D9, D10, D11, D12, D13, D14, D15, D16, D17, D18, D19, D20. -/
import Derived.Test.YtcfkdcjindhnjaaAvTys
import Derived.Test.YtcfkdcjindhnjaaMB
import Derived.Test.YtcfkdcjindhnjaaAvRow
set_option linter.unusedVariables false

/- Contracts of the program's functions, and what follows from them. -/
set_option maxRecDepth 100000
namespace Go.Proofs.Ytcfkdcjindhnjaa
open Go Go.Av

structure Cp where
  st : Int
  who : Int
  due : Int
  ren : Int
  q : List Int
  deriving DecidableEq
structure Dk where
  day : Int
  cs : List Cp
  deriving DecidableEq

end Go.Proofs.Ytcfkdcjindhnjaa

/- Contracts of the program's functions, and what follows from them. -/
set_option maxRecDepth 100000
namespace Go.Proofs.Ytcfkdcjindhnjaa
open Go Go.Av

end Go.Proofs.Ytcfkdcjindhnjaa

/- Contracts of the program's functions, and what follows from them. -/
set_option maxRecDepth 100000
namespace Go.Proofs.Ytcfkdcjindhnjaa
open Go Go.Av

end Go.Proofs.Ytcfkdcjindhnjaa

/- Contracts of the program's functions, and what follows from them. -/
set_option maxRecDepth 100000
namespace Go.Proofs.Ytcfkdcjindhnjaa
open Go Go.Av

def cnt (l : List Cp) : Nat := (l.map fun c => c.q.length + 4).sum
end Go.Proofs.Ytcfkdcjindhnjaa

/- Contracts of the program's functions, and what follows from them. -/
set_option maxRecDepth 100000
namespace Go.Proofs.Ytcfkdcjindhnjaa
open Go Go.Av

end Go.Proofs.Ytcfkdcjindhnjaa

/- Contracts of the program's functions, and what follows from them. -/
set_option maxRecDepth 100000
namespace Go.Proofs.Ytcfkdcjindhnjaa
open Go Go.Av

def inr (a b c : Int) : Bool := decide (b ≤ a) && decide (a ≤ c)

noncomputable def X34 : Fx := ⟨Try.prog, tys, 34, Try.f34, [0, 1, 2]⟩
theorem X34_ok : X34.Ok := ⟨Try.func34, tys_ok⟩
theorem l00In_ct (a b c : Int) : Ct Try.prog 34 [i64 a, i64 b, i64 c] (bo (inr a b c)) [] := by
  refine Ct.intro X34 X34_ok rfl rfl rfl rfl fun g hg => ?_
  repeat (refine Run.step rfl ?_)
  refine Run.bool 10 rfl (fun h => ?_) (fun h => ?_)
  · repeat (refine Run.step rfl ?_)
    refine Run.ret hg rfl ?_
    show bo _ = _
    simp_all [inr]
  · repeat (refine Run.step rfl ?_)
    refine Run.ret hg rfl ?_
    show bo _ = _
    simp_all [inr] <;> omega

noncomputable def X26 : Fx := ⟨Try.prog, tys, 26, Try.f26, [0, 1, 2]⟩
theorem X26_ok : X26.Ok := ⟨Try.func26, tys_ok⟩
theorem within64_ct (a b c : Int) : Ct Try.prog 26 [i64 a, i64 b, i64 c] (bo (inr a b c)) [] := by
  refine Ct.intro X26 X26_ok rfl rfl rfl rfl fun g hg => ?_
  repeat (refine Run.step rfl ?_)
  refine Run.bool 10 rfl (fun h => ?_) (fun h => ?_)
  · repeat (refine Run.step rfl ?_)
    refine Run.ret hg rfl ?_
    show bo _ = _
    simp_all [inr]
  · repeat (refine Run.step rfl ?_)
    refine Run.ret hg rfl ?_
    show bo _ = _
    simp_all [inr] <;> omega

end Go.Proofs.Ytcfkdcjindhnjaa

/- Contracts of the program's functions, and what follows from them. -/
set_option maxRecDepth 100000
namespace Go.Proofs.Ytcfkdcjindhnjaa
open Go Go.Av

end Go.Proofs.Ytcfkdcjindhnjaa

/- Contracts of the program's functions, and what follows from them. -/
set_option maxRecDepth 100000
namespace Go.Proofs.Ytcfkdcjindhnjaa
open Go Go.Av

end Go.Proofs.Ytcfkdcjindhnjaa

/- Contracts of the program's functions, and what follows from them. -/
set_option maxRecDepth 100000
namespace Go.Proofs.Ytcfkdcjindhnjaa
open Go Go.Av

/-! Persons, places in queues. -/

/-- The place of the first, or -1. -/
def fi {α : Type} (p : α → Bool) (l : List α) : Int := if l.findIdx p < l.length then (l.findIdx p : Int) else -1

theorem fi_nonneg {α : Type} (p : α → Bool) (l : List α) : decide (0 ≤ fi p l) = l.any p := by
  unfold fi
  by_cases h : l.any p = true
  · rw [if_pos (List.findIdx_lt_length_of_exists (by simpa using h))]
    simp [h]
  · have : ¬ l.findIdx p < l.length := by
      intro h'
      apply h
      rw [List.any_eq_true]
      exact ⟨_, List.getElem_mem h', List.findIdx_getElem⟩
    rw [if_neg this]
    simp only [Bool.not_eq_true] at h
    simp [h]

theorem fi_at {α : Type} {p : α → Bool} {l : List α} {j : Nat} (hj : j < l.length) (hp : p l[j] = true) (hn : j ≤ l.findIdx p) : fi p l = j := by
  have : l.findIdx p = j := by
    refine Nat.le_antisymm (Nat.le_of_not_lt fun hlt' => ?_) hn
    have := List.not_of_lt_findIdx hlt'
    simp_all
  simp [fi, this, hj]
theorem fi_none {α : Type} {p : α → Bool} {l : List α} (hn : l.length ≤ l.findIdx p) : fi p l = -1 := by
  rw [fi, if_neg (by omega)]
theorem fi_next {α : Type} {p : α → Bool} {l : List α} {j : Nat} (hj : j < l.length) (hp : p l[j] = false) (hn : j ≤ l.findIdx p) : j + 1 ≤ l.findIdx p := by
  refine Nat.lt_of_le_of_ne hn fun e => ?_
  have := List.findIdx_getElem (p := p) (xs := l) (w := e ▸ hj)
  simp_all

theorem frz64 (l : List Int) : AV.frzL (l.map i64) = l.map i64 := frzL_map (fun _ => rfl) l
theorem rf64 (l : List Int) : AV.rfL (l.map i64) = true := rfL_map (fun _ => rfl) l

end Go.Proofs.Ytcfkdcjindhnjaa

/- Contracts of the program's functions, and what follows from them. -/
set_option maxRecDepth 100000
namespace Go.Proofs.Ytcfkdcjindhnjaa
open Go Go.Av

/-! A valid copy. -/

end Go.Proofs.Ytcfkdcjindhnjaa

/- Contracts of the program's functions, and what follows from them. -/
set_option maxRecDepth 100000
namespace Go.Proofs.Ytcfkdcjindhnjaa
open Go Go.Av

/-! Valid desks, in the program. -/

end Go.Proofs.Ytcfkdcjindhnjaa

/- Contracts of the program's functions, and what follows from them. -/
set_option maxRecDepth 100000
namespace Go.Proofs.Ytcfkdcjindhnjaa
open Go Go.Av

/-! Valid desks, in the reference. -/

end Go.Proofs.Ytcfkdcjindhnjaa

/- Contracts of the program's functions, and what follows from them. -/
set_option maxRecDepth 100000
namespace Go.Proofs.Ytcfkdcjindhnjaa
open Go Go.Av

end Go.Proofs.Ytcfkdcjindhnjaa

/- Contracts of the program's functions, and what follows from them. -/
set_option maxRecDepth 100000
namespace Go.Proofs.Ytcfkdcjindhnjaa
open Go Go.Av

/-! A desk, a person and a book: their code; fines. -/

end Go.Proofs.Ytcfkdcjindhnjaa

/- Contracts of the program's functions, and what follows from them. -/
set_option maxRecDepth 100000
namespace Go.Proofs.Ytcfkdcjindhnjaa
open Go Go.Av

/-! Places in queues; how long one waits. -/

end Go.Proofs.Ytcfkdcjindhnjaa

/- Contracts of the program's functions, and what follows from them. -/
set_option maxRecDepth 100000
namespace Go.Proofs.Ytcfkdcjindhnjaa
open Go Go.Av

noncomputable def X25 : Fx := ⟨Try.prog, tys, 25, Try.f25, [0, 1]⟩
theorem X25_ok : X25.Ok := ⟨Try.func25, tys_ok⟩
theorem l00Max_ct (a b : Int) : Ct Try.prog 25 [i64 a, i64 b] (i64 (max a b)) [] := by
  refine Ct.intro X25 X25_ok rfl rfl rfl rfl fun g hg => ?_
  repeat (refine Run.go rfl ?_)
  refine Run.cond rfl (fun h => ?_) (fun h => ?_)
  · repeat (refine Run.go rfl ?_)
    refine Run.ret hg rfl ?_
    simp at h
    rw [Int.max_eq_left (by omega)]
    rfl
  · repeat (refine Run.go rfl ?_)
    refine Run.ret hg rfl ?_
    simp at h
    rw [Int.max_eq_right (by omega)]
    rfl

end Go.Proofs.Ytcfkdcjindhnjaa

/- Contracts of the program's functions, and what follows from them. -/
set_option maxRecDepth 100000
namespace Go.Proofs.Ytcfkdcjindhnjaa
open Go Go.Av

/-! Whether somebody may take a book. -/

end Go.Proofs.Ytcfkdcjindhnjaa

/- Contracts of the program's functions, and what follows from them. -/
set_option maxRecDepth 100000
namespace Go.Proofs.Ytcfkdcjindhnjaa
open Go Go.Av

/-! How many copies have each state. -/

def c3 (a b c : Nat) : AV := .agg [i64 a, i64 b, i64 c]
end Go.Proofs.Ytcfkdcjindhnjaa

/- Contracts of the program's functions, and what follows from them. -/
set_option maxRecDepth 100000
namespace Go.Proofs.Ytcfkdcjindhnjaa
open Go Go.Av

/-! Slices of whole numbers: compared, marked, held. -/

noncomputable def X7 : Fx := ⟨Try.prog, tys, 7, Try.f7, [0, 1]⟩
theorem X7_ok : X7.Ok := ⟨Try.func7, tys_ok⟩
theorem eqInt64S_ct (l m : List Int) (ex ex' : Bool) (hb : l.length ≤ 1048576) : Ct Try.prog 7 [.ro 1 ex (l.map i64), .ro 1 ex' (m.map i64)] (bo (decide (l = m))) [] := by
  refine Ct.intro X7 X7_ok rfl rfl rfl rfl fun g hg => ?_
  repeat (refine Run.go rfl ?_)
  refine Run.cond rfl (fun h => ?_) (fun h => ?_)
  · repeat (refine Run.go rfl ?_)
    refine Run.ret hg rfl ?_
    show bo _ = _
    congr 2
    simp at h
    symm
    simp
    rintro rfl
    exact h rfl
  · have hlen : l.length = m.length := by simp at h; omega
    repeat (refine Run.go rfl ?_)
    refine Run.loop (fun j : Nat => ⟨[(0, .ro 1 ex (l.map i64)), (1, .ro 1 ex' (m.map i64)), (5, i64 j)], []⟩) (fun j => j ≤ l.length ∧ l.take j = m.take j) (fun j => l.length - j) 0 ⟨by omega, rfl⟩ ?_ ?_
    · exact St.Le.mk' ⟨rfl, rfl, rfl, trivial⟩ trivial
    · rintro j ⟨hj, hjm⟩ IH
      repeat (refine Run.go rfl ?_)
      refine Run.cond rfl (fun h => ?_) (fun h => ?_)
      · have hlt : j < l.length := by simpa using h
        have hlt' : j < m.length := by omega
        repeat (refine Run.go rfl ?_)
        refine Run.draw (by kernel_rfl) (by decide +kernel) ?_
        repeat (refine Quiet.go rfl ?_)
        refine Quiet.val rfl rfl (ValOk.idx (i64 l[j]) rfl rfl rfl rfl rfl (by omega) (by simp [hlt])) rfl ?_
        repeat (refine Quiet.go rfl ?_)
        refine Quiet.val rfl rfl (ValOk.idx (i64 m[j]) rfl rfl rfl rfl rfl (by omega) (by simp [hlt'])) rfl ?_
        repeat (refine Quiet.go rfl ?_)
        refine Quiet.nil ?_
        repeat (refine Run.go rfl ?_)
        refine Run.cond rfl (fun h => ?_) (fun h => ?_)
        · repeat (refine Run.go rfl ?_)
          refine Run.ret hg rfl ?_
          show bo _ = _
          congr 2
          symm
          simp at h ⊢
          rintro rfl
          exact h rfl
        · repeat (refine Run.go rfl ?_)
          refine Run.of (IH (j + 1) ⟨by omega, ?_⟩ (by omega)) ⟨rfl, rfl, ?_, trivial⟩ trivial
          · rw [List.take_succ_eq_append_getElem hlt, List.take_succ_eq_append_getElem hlt', hjm]
            simp at h
            rw [h]
          · show i64 _ = _
            rw [wrap_i64 (by omega) (by omega)]
            rfl
      · have hj' : j = l.length := by simp at h; omega
        repeat (refine Run.go rfl ?_)
        refine Run.ret hg rfl ?_
        show bo _ = _
        rw [List.take_of_length_le (by omega), List.take_of_length_le (by omega)] at hjm
        simp [hjm]

def mk64 (n : Nat) (k : Int) : List Int := (List.range n).map fun i : Nat => k + (i : Int)

noncomputable def X8 : Fx := ⟨Try.prog, tys, 8, Try.f8, [0]⟩
theorem X8_ok : X8.Ok := ⟨Try.func8, tys_ok⟩
theorem markInt64S_ct (l : List Int) (k : Int) (ex : Bool) (hb : l.length ≤ 1048576) (hk : 0 ≤ k ∧ k ≤ 1099511627776) : Ct Try.prog 8 [.own 1 ex (l.map i64), i64 k] (i64 (k + l.length)) [.own 1 ex ((mk64 l.length k).map i64)] := by
  refine Ct.intro X8 X8_ok rfl rfl rfl rfl fun g hg => ?_
  refine Run.unpack 0 rfl rfl ?_
  repeat (refine Run.go rfl ?_)
  refine Run.loop (fun j : Nat => ⟨[(0, .vec (0, 0) 0 l.length), (1, i64 (k + j)), (5, i64 j)], [((0, 0), .vec 1 ex ((mk64 j k).map i64 ++ (l.drop j).map i64))]⟩) (fun j => j ≤ l.length) (fun j => l.length - j) 0 (by omega) ?_ ?_
  · refine St.Le.mk' ⟨?_, ?_, rfl, trivial⟩ ⟨?_, trivial⟩
    · show AV.vec _ _ (l.map i64).length = _
      simp
    · show i64 k = _
      simp
    · show Ob.vec _ _ _ = _
      simp [mk64]
  · intro j hj IH
    repeat (refine Run.go rfl ?_)
    refine Run.cond rfl (fun h => ?_) (fun h => ?_)
    · have hlt : j < l.length := by simpa using h
      repeat (refine Run.go rfl ?_)
      refine Run.val rfl rfl rfl (ValOk.idxv rfl rfl rfl rfl rfl rfl (by omega) (by simp; omega)) rfl ?_
      refine Run.storee (i64 l[j]) (i64 (k + j)) rfl rfl rfl rfl rfl rfl rfl ?_ rfl rfl rfl ?_
      · simp only [Nat.zero_add, Int.toNat_natCast]
        rw [List.getElem?_append_right (by simp [mk64])]
        simp [mk64, hlt]
      repeat (refine Run.go rfl ?_)
      refine Run.of (IH (j + 1) (by omega) (by omega)) ⟨rfl, ?_, ?_, trivial⟩ ⟨?_, trivial⟩
      · show i64 (IntKind.i64.wrap (k + j + 1)) = _
        rw [wrap_i64 (by omega) (by omega)]
        exact congrArg i64 (by omega)
      · show i64 _ = _
        rw [wrap_i64 (by omega) (by omega)]
        rfl
      · show Ob.vec _ _ _ = _
        congr 1
        simp only [Nat.zero_add, Int.toNat_natCast]
        rw [List.drop_eq_getElem_cons hlt, List.map_cons, List.set_append_right _ _ (by simp [mk64])]
        simp [mk64, List.range_succ]
    · have hj' : j = l.length := by simp at h; omega
      subst hj'
      repeat (refine Run.go rfl ?_)
      refine Run.pack 0 rfl rfl (by simp [mk64]) ?_
      refine Run.reto hg rfl rfl rfl ?_ rfl rfl
      show AV.own _ _ _ = _
      simp

noncomputable def X9 : Fx := ⟨Try.prog, tys, 9, Try.f9, [0]⟩
theorem X9_ok : X9.Ok := ⟨Try.func9, tys_ok⟩
theorem heldInt64S_ct (n : Nat) (k : Int) (ex : Bool) (hb : n ≤ 1048576) (hk : 0 ≤ k ∧ k ≤ 1099511627776) : Ct Try.prog 9 [.ro 1 ex ((mk64 n k).map i64), i64 k] (i64 (k + (n : Nat))) [] := by
  have hn : (mk64 n k).length = n := by simp [mk64]
  refine Ct.intro X9 X9_ok rfl rfl rfl rfl fun g hg => ?_
  repeat (refine Run.go rfl ?_)
  refine Run.loop (fun j : Nat => ⟨[(0, .ro 1 ex ((mk64 n k).map i64)), (1, i64 (k + j)), (5, i64 j)], []⟩) (fun j => j ≤ n) (fun j => n - j) 0 (by omega) ?_ ?_
  · refine St.Le.mk' ⟨rfl, ?_, rfl, trivial⟩ trivial
    show i64 k = _
    simp
  · intro j hj IH
    repeat (refine Run.go rfl ?_)
    refine Run.cond rfl (fun h => ?_) (fun h => ?_)
    · have hlt : j < n := by simp [hn] at h; omega
      repeat (refine Run.go rfl ?_)
      refine Run.val rfl rfl rfl (ValOk.idx (i64 (k + j)) rfl rfl rfl rfl rfl (by omega) (by simp [mk64, hlt])) rfl ?_
      repeat (refine Run.go rfl ?_)
      refine Run.cond rfl (fun h2 => by simp at h2) (fun h2 => ?_)
      repeat (refine Run.go rfl ?_)
      refine Run.of (IH (j + 1) (by omega) (by omega)) ⟨rfl, ?_, ?_, trivial⟩ trivial
      · show i64 (IntKind.i64.wrap (k + j + 1)) = _
        rw [wrap_i64 (by omega) (by omega)]
        exact congrArg i64 (by omega)
      · show i64 _ = _
        rw [wrap_i64 (by omega) (by omega)]
        rfl
    · have hj' : j = n := by simp [hn] at h; omega
      subst hj'
      repeat (refine Run.go rfl ?_)
      exact Run.ret hg rfl rfl


/-! The sizes that the law lets in. -/

end Go.Proofs.Ytcfkdcjindhnjaa

/- Contracts of the program's functions, and what follows from them. -/
set_option maxRecDepth 100000
namespace Go.Proofs.Ytcfkdcjindhnjaa
open Go Go.Av

/-! Books as told, in a slice of their own. -/

end Go.Proofs.Ytcfkdcjindhnjaa

/- Contracts of the program's functions, and what follows from them. -/
set_option maxRecDepth 100000
namespace Go.Proofs.Ytcfkdcjindhnjaa
open Go Go.Av

/-! The book that is due next. -/

def cmpI (a b : Int) : Int := if a < b then -1 else if b < a then 1 else 0

def r3 (r : Int × Int × Int) : AV := .tup [i64 r.1, i64 r.2.1, i64 r.2.2]

end Go.Proofs.Ytcfkdcjindhnjaa
