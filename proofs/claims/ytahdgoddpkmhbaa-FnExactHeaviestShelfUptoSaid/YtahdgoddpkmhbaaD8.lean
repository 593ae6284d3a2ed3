/- Contracts of the program's functions, and what follows from them. -/
import Derived.Test.YtahdgoddpkmhbaaDRd
import Derived.Test.YtahdgoddpkmhbaaAvMap
set_option linter.unusedVariables false
namespace Go.Proofs.Ytahdgoddpkmhbaa
open Go Go.Av

/-! Persons, places in queues. -/

/-- The place of the first, or -1. -/
def fi {α : Type} (p : α → Bool) (l : List α) : Int := if l.findIdx p < l.length then (l.findIdx p : Int) else -1

theorem fi_nonneg {α : Type} (p : α → Bool) (l : List α) : decide (0 ≤ fi p l) = l.any p := by
  unfold fi
  by_cases h : l.any p = true
  · rw [if_pos (List.findIdx_lt_length_of_exists (by simpa using h))]
    simp [h]
  · have : ¬ l.findIdx p < l.length := by
      intro h'
      apply h
      rw [List.any_eq_true]
      exact ⟨_, List.getElem_mem h', List.findIdx_getElem⟩
    rw [if_neg this]
    simp only [Bool.not_eq_true] at h
    simp [h]

theorem fi_at {α : Type} {p : α → Bool} {l : List α} {j : Nat} (hj : j < l.length) (hp : p l[j] = true) (hn : j ≤ l.findIdx p) : fi p l = j := by
  have : l.findIdx p = j := by
    refine Nat.le_antisymm (Nat.le_of_not_lt fun hlt' => ?_) hn
    have := List.not_of_lt_findIdx hlt'
    simp_all
  simp [fi, this, hj]
theorem fi_none {α : Type} {p : α → Bool} {l : List α} (hn : l.length ≤ l.findIdx p) : fi p l = -1 := by
  rw [fi, if_neg (by omega)]
theorem fi_next {α : Type} {p : α → Bool} {l : List α} {j : Nat} (hj : j < l.length) (hp : p l[j] = false) (hn : j ≤ l.findIdx p) : j + 1 ≤ l.findIdx p := by
  refine Nat.lt_of_le_of_ne hn fun e => ?_
  have := List.findIdx_getElem (p := p) (xs := l) (w := e ▸ hj)
  simp_all

noncomputable def X88 : Fx := ⟨Try.prog, tys, 88, Try.f88, [0, 1, 2]⟩
theorem X88_ok : X88.Ok := ⟨Try.func88, tys_ok⟩
theorem within16_ct (a b c : Int) : Ct Try.prog 88 [i16 a, i16 b, i16 c] (bo (inr a b c)) [] := by
  refine Ct.intro X88 X88_ok rfl rfl rfl rfl fun g hg => ?_
  repeat (refine Run.step rfl ?_)
  refine Run.bool 10 rfl (fun h => ?_) (fun h => ?_)
  · repeat (refine Run.step rfl ?_)
    refine Run.ret hg rfl ?_
    show bo _ = _
    simp_all [inr]
  · repeat (refine Run.step rfl ?_)
    refine Run.ret hg rfl ?_
    show bo _ = _
    simp_all [inr] <;> omega

/-- The places at which something holds, as numbers. -/
def idxs {α : Type} (p : α → Bool) (l : List α) : List Int := (l.zipIdx.filter fun x => p x.1).map fun x => (x.2 : Int)

theorem idxs_step {α : Type} {p : α → Bool} {l : List α} {j : Nat} (h : j < l.length) : idxs p (l.take (j + 1)) = if p l[j] then idxs p (l.take j) ++ [(j : Int)] else idxs p (l.take j) := by
  unfold idxs
  rw [List.take_succ_eq_append_getElem h, List.zipIdx_append, List.filter_append, List.map_append]
  have e : (l.take j).length = j := by simp; omega
  simp only [List.zipIdx_cons, List.zipIdx_nil, Nat.zero_add, e]
  split <;> rename_i hp <;> simp [hp]
theorem idxs_len {α : Type} (p : α → Bool) (l : List α) : (idxs p l).length ≤ l.length := by
  unfold idxs
  rw [List.length_map]
  exact Nat.le_trans (List.length_filter_le _ _) (by simp)

theorem frz64 (l : List Int) : AV.frzL (l.map i64) = l.map i64 := frzL_map (fun _ => rfl) l
theorem rf64 (l : List Int) : AV.rfL (l.map i64) = true := rfL_map (fun _ => rfl) l

end Go.Proofs.Ytahdgoddpkmhbaa
