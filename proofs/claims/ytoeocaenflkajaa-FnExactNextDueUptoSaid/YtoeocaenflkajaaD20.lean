/- Contracts of the program's functions, and what follows from them. -/
import Derived.Test.YtoeocaenflkajaaD18
set_option linter.unusedVariables false
namespace Go.Proofs.Ytoeocaenflkajaa
open Go Go.Av

/-! The book that is due next. -/

/-- The first member with the least value. -/
def mnL (F : Int → Int) : List Int → Int
  | [] => -1
  | x :: xs => xs.foldl (fun m y => if F y < F m then y else m) x

theorem mnL_snoc (F : Int → Int) (L : List Int) (y : Int) : mnL F (L ++ [y]) = if L = [] then y else if F y < F (mnL F L) then y else mnL F L := by
  cases L with
  | nil => rfl
  | cons x xs =>
    rw [if_neg (List.cons_ne_nil _ _)]
    show ((xs ++ [y]).foldl (fun m y => if F y < F m then y else m) x) = _
    rw [List.foldl_append]
    rfl

theorem mnL_mem (F : Int → Int) (L : List Int) (h : L ≠ []) : mnL F L ∈ L := by
  cases L with
  | nil => exact absurd rfl h
  | cons x xs =>
    simp only [mnL]
    clear h
    induction xs generalizing x with
    | nil => simp
    | cons z xs ih =>
      simp only [List.foldl_cons]
      have := ih (if F z < F x then z else x)
      split at this <;> rename_i hc
      · rw [if_pos hc]
        exact List.mem_cons_of_mem _ this
      · rw [if_neg hc]
        rcases List.mem_cons.mp this with h | h
        · rw [h]; simp
        · exact List.mem_cons_of_mem _ (List.mem_cons_of_mem _ h)

def cmpI (a b : Int) : Int := if a < b then -1 else if b < a then 1 else 0

noncomputable def X104 : Fx := ⟨Try.prog, tys, 104, Try.f104, [0]⟩
theorem X104_ok : X104.Ok := ⟨Try.func104, tys_ok⟩
theorem isNaN16_ct (a : Int) : Ct Try.prog 104 [i16 a] (bo false) [] := by
  refine Ct.intro X104 X104_ok rfl rfl rfl rfl fun g hg => ?_
  repeat (refine Run.go rfl ?_)
  refine Run.ret hg rfl ?_
  show bo (a != a) = _
  simp

noncomputable def X79 : Fx := ⟨Try.prog, tys, 79, Try.f79, [0, 1]⟩
theorem X79_ok : X79.Ok := ⟨Try.func79, tys_ok⟩
theorem compare16_ct (a b : Int) : Ct Try.prog 79 [i16 a, i16 b] (i64 (cmpI a b)) [] := by
  refine Ct.intro X79 X79_ok rfl rfl rfl rfl fun g hg => ?_
  repeat (refine Run.go rfl ?_)
  refine Run.cs rfl (isNaN16_ct a) rfl rfl ?_
  repeat (refine Run.go rfl ?_)
  refine Run.cs rfl (isNaN16_ct b) rfl rfl ?_
  repeat (refine Run.go rfl ?_)
  refine Run.cond rfl (fun h => by simp at h) (fun h => ?_)
  repeat (refine Run.go rfl ?_)
  refine Run.cond rfl (fun h => by simp at h) (fun h => ?_)
  repeat (refine Run.go rfl ?_)
  refine Run.cond rfl (fun h => ?_) (fun h => ?_)
  · repeat (refine Run.go rfl ?_)
    refine Run.ret hg rfl ?_
    have h : a < b := by simpa using h
    simp only [cmpI, if_pos h]
    rfl
  have h : ¬ a < b := by simpa using h
  repeat (refine Run.go rfl ?_)
  refine Run.cond rfl (fun h2 => ?_) (fun h2 => ?_)
  · repeat (refine Run.go rfl ?_)
    refine Run.ret hg rfl ?_
    have h2 : b < a := by simpa using h2
    simp only [cmpI, if_neg h, if_pos h2]
    rfl
  have h2 : ¬ b < a := by simpa using h2
  repeat (refine Run.go rfl ?_)
  refine Run.ret hg rfl ?_
  simp only [cmpI, if_neg h, if_neg h2]
  rfl

def dueOf (d : Dk) (i : Int) : Int := (d.cs.getD i.toNat cp0).due

noncomputable def X78 : Fx := ⟨Try.prog, tys, 78, Try.f78, [0, 1]⟩
theorem X78_ok : X78.Ok := ⟨Try.func78, tys_ok⟩
theorem nextDue2_ct (d : Dk) (e1 e2 : Bool) (i j : Nat) (hi : i < d.cs.length) (hj : j < d.cs.length) (hd : dkOk d) : Ct Try.prog 78 [i64 i, i64 j, .rp (dkR e1 e2 d).cells 0] (i64 (cmpI (dueOf d i) (dueOf d j))) [] := by
  have ei : dueOf d i = d.cs[i].due := by simp [dueOf, hi]
  have ej : dueOf d j = d.cs[j].due := by simp [dueOf, hj]
  rw [ei, ej]
  refine Ct.intro X78 X78_ok rfl rfl rfl rfl fun g hg => ?_
  repeat (refine Run.go rfl ?_)
  refine Run.draw (by kernel_rfl) (by decide +kernel) ?_
  repeat (refine Quiet.go rfl ?_)
  refine Quiet.val rfl rfl (ValOk.idx (cpR e2 d.cs[i]) rfl rfl rfl rfl rfl (by omega) (by simp [hi])) rfl ?_
  repeat (refine Quiet.go rfl ?_)
  refine Quiet.val rfl rfl (ValOk.idx (cpR e2 d.cs[j]) rfl rfl rfl rfl rfl (by omega) (by simp [hj])) rfl ?_
  repeat (refine Quiet.go rfl ?_)
  refine Quiet.cs rfl rfl rfl rfl rfl (compare16_ct d.cs[i].due d.cs[j].due) rfl rfl ?_
  repeat (refine Quiet.go rfl ?_)
  refine Quiet.nil ?_
  repeat (refine Run.go rfl ?_)
  exact Run.ret hg rfl rfl

theorem cmpI_neg {a b : Int} : decide (cmpI a b < 0) = decide (a < b) := by
  unfold cmpI
  split
  · rename_i h; simp [h]
  · rename_i h
    split <;> simp [h]

noncomputable def X77 : Fx := ⟨Try.prog, tys, 77, Try.f77, [0, 1]⟩
theorem X77_ok : X77.Ok := ⟨Try.func77, tys_ok⟩
theorem minFunc_ct (L : List Int) (ex : Bool) (f : Nat) (cs : List AV) (jj : Nat) (F : Int → Int) (hlen : L.length ≤ 1048576) (hne : L ≠ []) (hf : ∀ x ∈ L, ∀ y ∈ L, Ct Try.prog f [i64 x, i64 y, .rp cs jj] (i64 (cmpI (F x) (F y))) []) :
    Ct Try.prog 77 [.ro 1 ex (L.map i64), .fn f [.rp cs jj]] (i64 (mnL F L)) [] := by
  have hpos : 0 < L.length := List.length_pos_iff.mpr hne
  refine Ct.intro X77 X77_ok rfl rfl rfl rfl fun g hg => ?_
  repeat (refine Run.go rfl ?_)
  refine Run.cond rfl (fun h => by simp at h; omega) (fun h => ?_)
  repeat (refine Run.go rfl ?_)
  refine Run.val rfl rfl rfl (ValOk.idx (i64 L[0]) rfl rfl rfl rfl rfl (by omega) (by simp [hpos])) rfl ?_
  repeat (refine Run.go rfl ?_)
  refine Run.loop (fun j : Nat => ⟨[(0, .ro 1 ex (L.map i64)), (1, .fn f [.rp cs jj]), (5, i64 (mnL F (L.take j))), (6, i64 j)], []⟩) (fun j => 1 ≤ j ∧ j ≤ L.length) (fun j => L.length - j) 1 (by omega) ?_ ?_
  · refine St.Le.mk' ⟨rfl, rfl, ?_, rfl, trivial⟩ trivial
    show i64 L[0] = _
    congr 1
    cases L with
    | nil => exact absurd rfl hne
    | cons x xs => rfl
  · rintro j ⟨hj1, hj⟩ IH
    repeat (refine Run.go rfl ?_)
    refine Run.cond rfl (fun h => ?_) (fun h => ?_)
    · have hlt : j < L.length := by simpa using h
      have hnt : L.take j ≠ [] := by
        intro e
        have := congrArg List.length e
        rw [List.length_take, List.length_nil] at this
        omega
      have hm : mnL F (L.take j) ∈ L := List.mem_of_mem_take (mnL_mem F _ hnt)
      have hst := mnL_snoc F (L.take j) L[j]
      rw [← List.take_succ_eq_append_getElem hlt, if_neg hnt] at hst
      repeat (refine Run.go rfl ?_)
      refine Run.val rfl rfl rfl (ValOk.idx (i64 L[j]) rfl rfl rfl rfl rfl (by omega) (by simp [hlt])) rfl ?_
      repeat (refine Run.go rfl ?_)
      refine Run.cs rfl (hf L[j] (by simp) _ hm) rfl rfl ?_
      repeat (refine Run.go rfl ?_)
      refine Run.cond rfl (fun h => ?_) (fun h => ?_)
      · have h : F L[j] < F (mnL F (L.take j)) := by
          have h : decide (cmpI (F L[j]) (F (mnL F (L.take j))) < 0) = true := h
          rw [cmpI_neg] at h
          simpa using h
        rw [if_pos h] at hst
        repeat (refine Run.go rfl ?_)
        refine Run.val rfl rfl rfl (ValOk.idx (i64 L[j]) rfl rfl rfl rfl rfl (by omega) (by simp [hlt])) rfl ?_
        repeat (refine Run.go rfl ?_)
        refine Run.of (IH (j + 1) (by omega) (by omega)) ⟨rfl, rfl, ?_, ?_, trivial⟩ trivial
        · exact congrArg i64 hst.symm
        · show i64 _ = _
          rw [wrap_i64 (by omega) (by omega)]
          rfl
      · have h : ¬ F L[j] < F (mnL F (L.take j)) := by
          have h : decide (cmpI (F L[j]) (F (mnL F (L.take j))) < 0) = false := h
          rw [cmpI_neg] at h
          simpa using h
        rw [if_neg h] at hst
        repeat (refine Run.go rfl ?_)
        refine Run.of (IH (j + 1) (by omega) (by omega)) ⟨rfl, rfl, ?_, ?_, trivial⟩ trivial
        · exact congrArg i64 hst.symm
        · show i64 _ = _
          rw [wrap_i64 (by omega) (by omega)]
          rfl
    · have hj' : j = L.length := by simp at h; omega
      subst hj'
      rw [List.take_length]
      repeat (refine Run.go rfl ?_)
      exact Run.ret hg rfl rfl

def isL (c : Cp) : Bool := decide (c.st = 1)
def ndI (d : Dk) : Int := mnL (dueOf d) (idxs isL d.cs)
def ndRes (d : Dk) : Int × Int × Int := if vD d then (if idxs isL d.cs = [] then (0, 0, 6) else (ndI d, dueOf d (ndI d), 0)) else (0, 0, 1)
def r3 (r : Int × Int × Int) : AV := .tup [i64 r.1, i64 r.2.1, i64 r.2.2]

noncomputable def X76 : Fx := ⟨Try.prog, tys, 76, Try.f76, [0]⟩
theorem X76_ok : X76.Ok := ⟨Try.func76, tys_ok⟩
theorem nextDue1_ct (c : Cp) (ex : Bool) : Ct Try.prog 76 [cpR ex c] (bo (isL c)) [] := by
  refine Ct.intro X76 X76_ok rfl rfl rfl rfl fun g hg => ?_
  repeat (refine Run.go rfl ?_)
  refine Run.ret hg rfl ?_
  show bo (c.st == 1) = bo _
  by_cases h : c.st = 1 <;> simp [isL, h]

theorem ndI_at (d : Dk) (h : idxs isL d.cs ≠ []) : ∃ i : Nat, ndI d = i ∧ i < d.cs.length := by
  obtain ⟨j, hj, e, _⟩ := mem_idxs.mp (mnL_mem (dueOf d) _ h)
  exact ⟨j, e, hj⟩

noncomputable def X36 : Fx := ⟨Try.prog, tys, 36, Try.f36, [0]⟩
theorem X36_ok : X36.Ok := ⟨Try.func36, tys_ok⟩
theorem implNextDue_ct (d : Dk) (e1 e2 : Bool) (hd : dkOk d) (hr : dkRng d) : Ct Try.prog 36 [dkR e1 e2 d] (r3 (ndRes d)) [] := by
  refine Ct.intro X36 X36_ok rfl rfl rfl rfl fun g hg => ?_
  repeat (refine Run.go rfl ?_)
  refine Run.cs rfl (implValidDesk_ct d e1 e2 hd hr) rfl rfl ?_
  repeat (refine Run.go rfl ?_)
  refine Run.cond rfl (fun h => ?_) (fun h => ?_)
  · have h : vD d = false := by simpa using h
    repeat (refine Run.go rfl ?_)
    refine Run.ret hg rfl ?_
    rw [ndRes, h]
    rfl
  have hv : vD d = true := by simpa using h
  repeat (refine Run.go rfl ?_)
  refine Run.cs rfl (which0_ct d e1 e2 _ isL hd fun c _ => nextDue1_ct c e2) rfl (rf64 _) ?_
  refine Run.freeze (v' := .ro 1 false ((idxs isL d.cs).map i64)) 11 rfl rfl (by show AV.ro _ _ (AV.frzL _) = _; rw [frz64]) ?_
  repeat (refine Run.go rfl ?_)
  refine Run.cond rfl (fun h => ?_) (fun h => ?_)
  · have h : idxs isL d.cs = [] := by simpa using h
    repeat (refine Run.go rfl ?_)
    refine Run.ret hg rfl ?_
    rw [ndRes, hv, h]
    rfl
  have h : idxs isL d.cs ≠ [] := by simpa using h
  have hil := idxs_len isL d.cs
  have hlen := hd.1
  repeat (refine Run.go rfl ?_)
  refine Run.cs rfl (minFunc_ct (idxs isL d.cs) false _ (dkR e1 e2 d).cells 0 (dueOf d) (by omega) h ?_) rfl rfl ?_
  · intro x hx y hy
    obtain ⟨i, hi, rfl, _⟩ := mem_idxs.mp hx
    obtain ⟨j, hj, rfl, _⟩ := mem_idxs.mp hy
    exact nextDue2_ct d e1 e2 i j hi hj hd
  obtain ⟨i, ei, hi⟩ := ndI_at d h
  have ew : IntKind.i64.wrap d.cs[i].due = d.cs[i].due := w64 (hr.2 d.cs[i] (by simp)).2.2.1
  rw [show mnL (dueOf d) (idxs isL d.cs) = (i : Int) from ei]
  repeat (refine Run.go rfl ?_)
  refine Run.draw (by kernel_rfl) (by decide +kernel) ?_
  repeat (refine Quiet.go rfl ?_)
  refine Quiet.val rfl rfl (ValOk.idx (cpR e2 d.cs[i]) rfl rfl rfl rfl rfl (by omega) (by simp [hi])) rfl ?_
  repeat (refine Quiet.go rfl ?_)
  rw [ew]
  refine Quiet.nil ?_
  repeat (refine Run.go rfl ?_)
  refine Run.ret hg rfl ?_
  rw [ndRes, hv, if_pos rfl, if_neg h, ei]
  simp only [r3, dueOf, Int.toNat_natCast, List.getD_eq_getElem?_getD, List.getElem?_eq_getElem hi, Option.getD_some]
  rfl

theorem mnL_idxs {d : Dk} {j : Nat} (h : j < d.cs.length) : mnL (dueOf d) (idxs isL (d.cs.take (j + 1))) =
    if isL d.cs[j] = true ∧ (mnL (dueOf d) (idxs isL (d.cs.take j)) < 0 ∨ d.cs[j].due < dueOf d (mnL (dueOf d) (idxs isL (d.cs.take j)))) then (j : Int) else mnL (dueOf d) (idxs isL (d.cs.take j)) := by
  rw [idxs_step h]
  have ed : dueOf d (j : Int) = d.cs[j].due := by simp [dueOf, h]
  by_cases hl : isL d.cs[j] = true
  · rw [if_pos hl, mnL_snoc]
    by_cases he : idxs isL (d.cs.take j) = []
    · rw [if_pos he, he, if_pos ⟨hl, Or.inl (show (-1 : Int) < 0 by decide)⟩]
    · rw [if_neg he]
      have hn : ¬ mnL (dueOf d) (idxs isL (d.cs.take j)) < 0 := by
        obtain ⟨i, hi, e, _⟩ := mem_idxs.mp (mnL_mem (dueOf d) _ he)
        omega
      rw [ed]
      by_cases hc : d.cs[j].due < dueOf d (mnL (dueOf d) (idxs isL (d.cs.take j)))
      · rw [if_pos hc, if_pos ⟨hl, Or.inr hc⟩]
      · rw [if_neg hc, if_neg (fun h => h.2.elim hn hc)]
  · rw [if_neg hl, if_neg (fun h => hl h.1)]

theorem mnL_neg {d : Dk} {l : List Cp} : mnL (dueOf d) (idxs isL l) < 0 ↔ idxs isL l = [] := by
  constructor
  · intro h
    apply Classical.byContradiction
    intro he
    obtain ⟨i, hi, e, _⟩ := mem_idxs.mp (mnL_mem (dueOf d) _ he)
    omega
  · intro h
    rw [h]
    exact (show (-1 : Int) < 0 by decide)

noncomputable def X35 : Fx := ⟨Try.prog, tys, 35, Try.f35, [0]⟩
theorem X35_ok : X35.Ok := ⟨Try.func35, tys_ok⟩
theorem specNextDue_ct (d : Dk) (e1 e2 : Bool) (hd : dkOk d) (hr : dkRng d) : Ct Try.prog 35 [dkR e1 e2 d] (r3 (ndRes d)) [] := by
  have hlen := hd.1
  refine Ct.intro X35 X35_ok rfl rfl rfl rfl fun g hg => ?_
  repeat (refine Run.go rfl ?_)
  refine Run.cs rfl (l06Ok_ct d e1 e2 hd hr) rfl rfl ?_
  repeat (refine Run.go rfl ?_)
  refine Run.cond rfl (fun h => ?_) (fun h => ?_)
  · have h : vD d = false := by simpa using h
    repeat (refine Run.go rfl ?_)
    refine Run.ret hg rfl ?_
    rw [ndRes, h]
    rfl
  have hv : vD d = true := by simpa using h
  repeat (refine Run.go rfl ?_)
  refine Run.loop (fun j : Nat => ⟨[(1, .bp (1, 0) 0), (5, i64 (mnL (dueOf d) (idxs isL (d.cs.take j)))), (6, i64 j)], [((1, 0), .box (dkR e1 e2 d).cells)]⟩) (fun j => j ≤ d.cs.length) (fun j => d.cs.length - j) 0 (by omega) ?_ ?_
  · exact St.Le.mk' ⟨rfl, rfl, rfl, trivial⟩ ⟨rfl, trivial⟩
  · intro j hj IH
    repeat (refine Run.go rfl ?_)
    refine Run.cond rfl (fun h => ?_) (fun h => ?_)
    · have hlt : j < d.cs.length := by simpa using h
      have hst := mnL_idxs hlt
      have hneg : ∀ h : ¬ mnL (dueOf d) (idxs isL (d.cs.take j)) < 0, ∃ i : Nat, mnL (dueOf d) (idxs isL (d.cs.take j)) = i ∧ i < d.cs.length := by
        intro h
        obtain ⟨i, hi, e, _⟩ := mem_idxs.mp (mnL_mem (dueOf d) _ (fun he => h (mnL_neg.mpr he)))
        exact ⟨i, e, by rw [List.length_take] at hi; omega⟩
      generalize hA : mnL (dueOf d) (idxs isL (d.cs.take j)) = A at hst hneg
      repeat (refine Run.go rfl ?_)
      refine Run.drawS ⟨[(1, .bp (1, 0) 0), (5, i64 A), (6, i64 j), (41, bo (isL d.cs[j] && (decide (A < 0) || decide (d.cs[j].due < dueOf d A))))], [((1, 0), .box (dkR e1 e2 d).cells)]⟩ (by kernel_rfl) (by decide +kernel) ?_ ?_
      · repeat (refine Quiet.go rfl ?_)
        refine Quiet.val rfl rfl (ValOk.idx (cpR e2 d.cs[j]) rfl rfl rfl rfl rfl (by omega) (by simp [hlt])) rfl ?_
        repeat (refine Quiet.go rfl ?_)
        refine Quiet.bool 23 rfl (fun h1 => ?_) (fun h1 => ?_)
        · have h1 : isL d.cs[j] = true := by simpa [isL] using h1
          repeat (refine Quiet.go rfl ?_)
          refine Quiet.bool 26 rfl (fun h2 => ?_) (fun h2 => ?_)
          · have h2 : A < 0 := by simpa using h2
            repeat (refine Quiet.go rfl ?_)
            refine Quiet.nil (St.Le.mk' ⟨rfl, rfl, rfl, ?_, trivial⟩ ⟨rfl, trivial⟩)
            show bo true = bo _
            simp [h1, h2]
          · have h2 : ¬ A < 0 := by simpa using h2
            obtain ⟨i, rfl, hi⟩ := hneg h2
            have ed : dueOf d (i : Int) = d.cs[i].due := by simp [dueOf, hi]
            repeat (refine Quiet.go rfl ?_)
            refine Quiet.val rfl rfl (ValOk.idx (cpR e2 d.cs[j]) rfl rfl rfl rfl rfl (by omega) (by simp [hlt])) rfl ?_
            repeat (refine Quiet.go rfl ?_)
            refine Quiet.val rfl rfl (ValOk.idx (cpR e2 d.cs[i]) rfl rfl rfl rfl rfl (by omega) (by simp [hi])) rfl ?_
            repeat (refine Quiet.go rfl ?_)
            refine Quiet.nil (St.Le.mk' ⟨rfl, rfl, rfl, ?_, trivial⟩ ⟨rfl, trivial⟩)
            show bo (decide (d.cs[j].due < d.cs[i].due)) = bo _
            rw [ed, h1, Bool.true_and, decide_eq_false h2, Bool.false_or]
        · have h1 : isL d.cs[j] = false := by simpa [isL] using h1
          repeat (refine Quiet.go rfl ?_)
          refine Quiet.nil (St.Le.mk' ⟨rfl, rfl, rfl, ?_, trivial⟩ ⟨rfl, trivial⟩)
          show bo false = bo _
          rw [h1, Bool.false_and]
      refine Run.cond rfl (fun h => ?_) (fun h => ?_)
      · have h : isL d.cs[j] = true ∧ (A < 0 ∨ d.cs[j].due < dueOf d A) := by simpa using h
        rw [if_pos h] at hst
        repeat (refine Run.go rfl ?_)
        refine Run.of (IH (j + 1) (by omega) (by omega)) ⟨rfl, ?_, ?_, trivial⟩ ⟨rfl, trivial⟩
        · exact congrArg i64 hst.symm
        · show i64 _ = _
          rw [wrap_i64 (by omega) (by omega)]
          rfl
      · have h : ¬ (isL d.cs[j] = true ∧ (A < 0 ∨ d.cs[j].due < dueOf d A)) := by
          have h : (isL d.cs[j] && (decide (A < 0) || decide (d.cs[j].due < dueOf d A))) = false := h
          intro hh
          simp [hh] at h
          omega
        rw [if_neg h] at hst
        repeat (refine Run.go rfl ?_)
        refine Run.of (IH (j + 1) (by omega) (by omega)) ⟨rfl, ?_, ?_, trivial⟩ ⟨rfl, trivial⟩
        · exact congrArg i64 hst.symm
        · show i64 _ = _
          rw [wrap_i64 (by omega) (by omega)]
          rfl
    · have hj' : j = d.cs.length := by simp at h; omega
      subst hj'
      rw [List.take_length]
      repeat (refine Run.go rfl ?_)
      refine Run.cond rfl (fun h => ?_) (fun h => ?_)
      · have h : idxs isL d.cs = [] := mnL_neg.mp (of_decide_eq_true h)
        repeat (refine Run.go rfl ?_)
        refine Run.ret hg rfl ?_
        rw [ndRes, hv, if_pos rfl, if_pos h]
        rfl
      · have h : idxs isL d.cs ≠ [] := fun he => of_decide_eq_false h (mnL_neg.mpr he)
        obtain ⟨i, ei, hi⟩ := ndI_at d h
        have ew : IntKind.i64.wrap d.cs[i].due = d.cs[i].due := w64 (hr.2 d.cs[i] (by simp)).2.2.1
        rw [show mnL (dueOf d) (idxs isL d.cs) = (i : Int) from ei]
        repeat (refine Run.go rfl ?_)
        refine Run.draw (by kernel_rfl) (by decide +kernel) ?_
        repeat (refine Quiet.go rfl ?_)
        refine Quiet.val rfl rfl (ValOk.idx (cpR e2 d.cs[i]) rfl rfl rfl rfl rfl (by omega) (by simp [hi])) rfl ?_
        repeat (refine Quiet.go rfl ?_)
        rw [ew]
        refine Quiet.nil ?_
        repeat (refine Run.go rfl ?_)
        refine Run.ret hg rfl ?_
        rw [ndRes, hv, if_pos rfl, if_neg h, ei]
        simp only [r3, dueOf, Int.toNat_natCast, List.getD_eq_getElem?_getD, List.getElem?_eq_getElem hi, Option.getD_some]
        rfl
end Go.Proofs.Ytoeocaenflkajaa
