/- Contracts of the program's functions, and what follows from them. -/
import Derived.Test.YtahdgoddpkmhbaaD18
set_option linter.unusedVariables false
namespace Go.Proofs.Ytahdgoddpkmhbaa
open Go Go.Av

/-! The book that is due next. -/

/-- The first member with the least value. -/
def mnL (F : Int → Int) : List Int → Int
  | [] => -1
  | x :: xs => xs.foldl (fun m y => if F y < F m then y else m) x

theorem mnL_snoc (F : Int → Int) (L : List Int) (y : Int) : mnL F (L ++ [y]) = if L = [] then y else if F y < F (mnL F L) then y else mnL F L := by
  cases L with
  | nil => rfl
  | cons x xs =>
    rw [if_neg (List.cons_ne_nil _ _)]
    show ((xs ++ [y]).foldl (fun m y => if F y < F m then y else m) x) = _
    rw [List.foldl_append]
    rfl

theorem mnL_mem (F : Int → Int) (L : List Int) (h : L ≠ []) : mnL F L ∈ L := by
  cases L with
  | nil => exact absurd rfl h
  | cons x xs =>
    simp only [mnL]
    clear h
    induction xs generalizing x with
    | nil => simp
    | cons z xs ih =>
      simp only [List.foldl_cons]
      have := ih (if F z < F x then z else x)
      split at this <;> rename_i hc
      · rw [if_pos hc]
        exact List.mem_cons_of_mem _ this
      · rw [if_neg hc]
        rcases List.mem_cons.mp this with h | h
        · rw [h]; simp
        · exact List.mem_cons_of_mem _ (List.mem_cons_of_mem _ h)

def cmpI (a b : Int) : Int := if a < b then -1 else if b < a then 1 else 0

noncomputable def X105 : Fx := ⟨Try.prog, tys, 105, Try.f105, [0]⟩
theorem X105_ok : X105.Ok := ⟨Try.func105, tys_ok⟩
theorem isNaN16_ct (a : Int) : Ct Try.prog 105 [i16 a] (bo false) [] := by
  refine Ct.intro X105 X105_ok rfl rfl rfl rfl fun g hg => ?_
  repeat (refine Run.go rfl ?_)
  refine Run.ret hg rfl ?_
  show bo (a != a) = _
  simp

noncomputable def X102 : Fx := ⟨Try.prog, tys, 102, Try.f102, [0, 1]⟩
theorem X102_ok : X102.Ok := ⟨Try.func102, tys_ok⟩
theorem compare16_ct (a b : Int) : Ct Try.prog 102 [i16 a, i16 b] (i64 (cmpI a b)) [] := by
  refine Ct.intro X102 X102_ok rfl rfl rfl rfl fun g hg => ?_
  repeat (refine Run.go rfl ?_)
  refine Run.cs rfl (isNaN16_ct a) rfl rfl ?_
  repeat (refine Run.go rfl ?_)
  refine Run.cs rfl (isNaN16_ct b) rfl rfl ?_
  repeat (refine Run.go rfl ?_)
  refine Run.cond rfl (fun h => by simp at h) (fun h => ?_)
  repeat (refine Run.go rfl ?_)
  refine Run.cond rfl (fun h => by simp at h) (fun h => ?_)
  repeat (refine Run.go rfl ?_)
  refine Run.cond rfl (fun h => ?_) (fun h => ?_)
  · repeat (refine Run.go rfl ?_)
    refine Run.ret hg rfl ?_
    have h : a < b := by simpa using h
    simp only [cmpI, if_pos h]
    rfl
  have h : ¬ a < b := by simpa using h
  repeat (refine Run.go rfl ?_)
  refine Run.cond rfl (fun h2 => ?_) (fun h2 => ?_)
  · repeat (refine Run.go rfl ?_)
    refine Run.ret hg rfl ?_
    have h2 : b < a := by simpa using h2
    simp only [cmpI, if_neg h, if_pos h2]
    rfl
  have h2 : ¬ b < a := by simpa using h2
  repeat (refine Run.go rfl ?_)
  refine Run.ret hg rfl ?_
  simp only [cmpI, if_neg h, if_neg h2]
  rfl

def dueOf (d : Dk) (i : Int) : Int := (d.cs.getD i.toNat cp0).due

theorem cmpI_neg {a b : Int} : decide (cmpI a b < 0) = decide (a < b) := by
  unfold cmpI
  split
  · rename_i h; simp [h]
  · rename_i h
    split <;> simp [h]

def isL (c : Cp) : Bool := decide (c.st = 1)
def ndI (d : Dk) : Int := mnL (dueOf d) (idxs isL d.cs)
def ndRes (d : Dk) : Int × Int × Int := if vD d then (if idxs isL d.cs = [] then (0, 0, 6) else (ndI d, dueOf d (ndI d), 0)) else (0, 0, 1)
def r3 (r : Int × Int × Int) : AV := .tup [i64 r.1, i64 r.2.1, i64 r.2.2]

theorem ndI_at (d : Dk) (h : idxs isL d.cs ≠ []) : ∃ i : Nat, ndI d = i ∧ i < d.cs.length := by
  obtain ⟨j, hj, e, _⟩ := mem_idxs.mp (mnL_mem (dueOf d) _ h)
  exact ⟨j, e, hj⟩

theorem mnL_idxs {d : Dk} {j : Nat} (h : j < d.cs.length) : mnL (dueOf d) (idxs isL (d.cs.take (j + 1))) =
    if isL d.cs[j] = true ∧ (mnL (dueOf d) (idxs isL (d.cs.take j)) < 0 ∨ d.cs[j].due < dueOf d (mnL (dueOf d) (idxs isL (d.cs.take j)))) then (j : Int) else mnL (dueOf d) (idxs isL (d.cs.take j)) := by
  rw [idxs_step h]
  have ed : dueOf d (j : Int) = d.cs[j].due := by simp [dueOf, h]
  by_cases hl : isL d.cs[j] = true
  · rw [if_pos hl, mnL_snoc]
    by_cases he : idxs isL (d.cs.take j) = []
    · rw [if_pos he, he, if_pos ⟨hl, Or.inl (show (-1 : Int) < 0 by decide)⟩]
    · rw [if_neg he]
      have hn : ¬ mnL (dueOf d) (idxs isL (d.cs.take j)) < 0 := by
        obtain ⟨i, hi, e, _⟩ := mem_idxs.mp (mnL_mem (dueOf d) _ he)
        omega
      rw [ed]
      by_cases hc : d.cs[j].due < dueOf d (mnL (dueOf d) (idxs isL (d.cs.take j)))
      · rw [if_pos hc, if_pos ⟨hl, Or.inr hc⟩]
      · rw [if_neg hc, if_neg (fun h => h.2.elim hn hc)]
  · rw [if_neg hl, if_neg (fun h => hl h.1)]

theorem mnL_neg {d : Dk} {l : List Cp} : mnL (dueOf d) (idxs isL l) < 0 ↔ idxs isL l = [] := by
  constructor
  · intro h
    apply Classical.byContradiction
    intro he
    obtain ⟨i, hi, e, _⟩ := mem_idxs.mp (mnL_mem (dueOf d) _ he)
    omega
  · intro h
    rw [h]
    exact (show (-1 : Int) < 0 by decide)

end Go.Proofs.Ytahdgoddpkmhbaa
