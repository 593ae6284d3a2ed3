/- Contracts of the program's functions, and what follows from them. -/
import Derived.Test.YtoeocaenflkajaaD16
import Derived.Test.YtoeocaenflkajaaAvMore
set_option linter.unusedVariables false
namespace Go.Proofs.Ytoeocaenflkajaa
open Go Go.Av

/-! How many copies have each state. -/

def nst (s : Int) (l : List Cp) : Nat := (l.filter fun c => c.st == s).length
theorem nst_step {s : Int} {l : List Cp} {j : Nat} (h : j < l.length) : nst s (l.take (j + 1)) = nst s (l.take j) + (if l[j].st = s then 1 else 0) := by
  rw [List.take_succ_eq_append_getElem h, nst, List.filter_append, List.length_append]
  congr 1
  by_cases e : l[j].st = s <;> simp [e]
theorem nst_le (s : Int) (l : List Cp) (j : Nat) : nst s (l.take j) ≤ l.length := by
  refine Nat.le_trans (List.length_filter_le _ _) ?_
  rw [List.length_take]
  omega
theorem vC_st {c : Cp} {day : Int} (h : vC c day = true) : c.st = 0 ∨ c.st = 1 ∨ c.st = 2 := by
  unfold vC at h
  split at h
  · rename_i h0
    exact Or.inl h0
  · simp only [Bool.and_eq_true, Bool.or_eq_true, decide_eq_true_eq] at h
    omega

def c3 (a b c : Nat) : AV := .agg [i64 a, i64 b, i64 c]
def cntA (l : List Cp) : AV := c3 (nst 0 l) (nst 1 l) (nst 2 l)
def cntRes (d : Dk) : AV := if vD d then .tup [cntA d.cs, i64 0] else .tup [c3 0 0 0, i64 1]

noncomputable def X26 : Fx := ⟨Try.prog, tys, 26, Try.f26, [0]⟩
theorem X26_ok : X26.Ok := ⟨Try.func26, tys_ok⟩
theorem specCountStates_ct (d : Dk) (e1 e2 : Bool) (hd : dkOk d) (hr : dkRng d) : Ct Try.prog 26 [dkR e1 e2 d] (cntRes d) [] := by
  refine Ct.intro X26 X26_ok rfl rfl rfl rfl fun g hg => ?_
  repeat (refine Run.go rfl ?_)
  refine Run.val rfl rfl rfl (ValOk.buildArr rfl rfl rfl rfl rfl) rfl ?_
  repeat (refine Run.go rfl ?_)
  refine Run.cs rfl (l06Ok_ct d e1 e2 hd hr) rfl rfl ?_
  repeat (refine Run.go rfl ?_)
  refine Run.cond rfl (fun h => ?_) (fun h => ?_)
  · repeat (refine Run.go rfl ?_)
    refine Run.ret hg rfl ?_
    have h : vD d = false := by simpa using h
    rw [cntRes, h]
    rfl
  have hv : vD d = true := by simpa using h
  have hl := vD_len hv
  repeat (refine Run.go rfl ?_)
  refine Run.loop (fun j : Nat => ⟨[(1, .bp (1, 0) 0), (2, .bp (2, 0) 0), (4, .bp (4, 0) 0), (5, i64 j)], [((1, 0), .box (dkR e1 e2 d).cells), ((2, 0), .box (c3 0 0 0).cells), ((4, 0), .box (cntA (d.cs.take j)).cells)]⟩) (fun j => j ≤ d.cs.length) (fun j => d.cs.length - j) 0 (by omega) ?_ ?_
  · exact St.Le.mk' ⟨rfl, rfl, rfl, rfl, trivial⟩ ⟨rfl, rfl, rfl, trivial⟩
  · intro j hj IH
    repeat (refine Run.go rfl ?_)
    refine Run.cond rfl (fun h => ?_) (fun h => ?_)
    · have hlt : j < d.cs.length := by simpa using h
      have n0 := nst_le 0 d.cs j
      have n1 := nst_le 1 d.cs j
      have n2 := nst_le 2 d.cs j
      repeat (refine Run.go rfl ?_)
      refine Run.val rfl rfl rfl (ValOk.idx (cpR e2 d.cs[j]) rfl rfl rfl rfl rfl (by omega) (by simp [hlt])) rfl ?_
      repeat (refine Run.go rfl ?_)
      have e0 := nst_step (s := 0) hlt
      have e1' := nst_step (s := 1) hlt
      have e2' := nst_step (s := 2) hlt
      rcases vC_st (vD_cp hv d.cs[j] (by simp)) with hs | hs | hs
      · rw [hs] at e0 e1' e2'
        simp at e0 e1' e2'
        rw [hs]
        repeat (refine Run.go rfl ?_)
        refine Run.of (IH (j + 1) (by omega) (by omega)) ⟨rfl, rfl, rfl, ?_, trivial⟩ ⟨rfl, rfl, ?_, trivial⟩
        · show i64 _ = _
          rw [wrap_i64 (by omega) (by omega)]
          rfl
        · show Ob.box [i64 (IntKind.i64.wrap ((nst 0 (d.cs.take j) : Nat) + 1)), i64 ((nst 1 (d.cs.take j) : Nat) : Int), i64 ((nst 2 (d.cs.take j) : Nat) : Int)] = Ob.box [i64 ((nst 0 (d.cs.take (j + 1)) : Nat) : Int), i64 ((nst 1 (d.cs.take (j + 1)) : Nat) : Int), i64 ((nst 2 (d.cs.take (j + 1)) : Nat) : Int)]
          rw [e0, e1', e2', wrap_i64 (by omega) (by omega)]
          rfl
      · rw [hs] at e0 e1' e2'
        simp at e0 e1' e2'
        rw [hs]
        repeat (refine Run.go rfl ?_)
        refine Run.of (IH (j + 1) (by omega) (by omega)) ⟨rfl, rfl, rfl, ?_, trivial⟩ ⟨rfl, rfl, ?_, trivial⟩
        · show i64 _ = _
          rw [wrap_i64 (by omega) (by omega)]
          rfl
        · show Ob.box [i64 ((nst 0 (d.cs.take j) : Nat) : Int), i64 (IntKind.i64.wrap ((nst 1 (d.cs.take j) : Nat) + 1)), i64 ((nst 2 (d.cs.take j) : Nat) : Int)] = Ob.box [i64 ((nst 0 (d.cs.take (j + 1)) : Nat) : Int), i64 ((nst 1 (d.cs.take (j + 1)) : Nat) : Int), i64 ((nst 2 (d.cs.take (j + 1)) : Nat) : Int)]
          rw [e0, e1', e2', wrap_i64 (by omega) (by omega)]
          rfl
      · rw [hs] at e0 e1' e2'
        simp at e0 e1' e2'
        rw [hs]
        repeat (refine Run.go rfl ?_)
        refine Run.of (IH (j + 1) (by omega) (by omega)) ⟨rfl, rfl, rfl, ?_, trivial⟩ ⟨rfl, rfl, ?_, trivial⟩
        · show i64 _ = _
          rw [wrap_i64 (by omega) (by omega)]
          rfl
        · show Ob.box [i64 ((nst 0 (d.cs.take j) : Nat) : Int), i64 ((nst 1 (d.cs.take j) : Nat) : Int), i64 (IntKind.i64.wrap ((nst 2 (d.cs.take j) : Nat) + 1))] = Ob.box [i64 ((nst 0 (d.cs.take (j + 1)) : Nat) : Int), i64 ((nst 1 (d.cs.take (j + 1)) : Nat) : Int), i64 ((nst 2 (d.cs.take (j + 1)) : Nat) : Int)]
          rw [e0, e1', e2', wrap_i64 (by omega) (by omega)]
          rfl
    · have hj' : j = d.cs.length := by simp at h; omega
      subst hj'
      rw [List.take_length]
      repeat (refine Run.go rfl ?_)
      refine Run.ret hg rfl ?_
      rw [cntRes, hv]
      rfl
noncomputable def X27 : Fx := ⟨Try.prog, tys, 27, Try.f27, [0]⟩
theorem X27_ok : X27.Ok := ⟨Try.func27, tys_ok⟩
theorem implCountStates_ct (d : Dk) (e1 e2 : Bool) (hd : dkOk d) (hr : dkRng d) : Ct Try.prog 27 [dkR e1 e2 d] (cntRes d) [] := by
  refine Ct.intro X27 X27_ok rfl rfl rfl rfl fun g hg => ?_
  repeat (refine Run.go rfl ?_)
  refine Run.cs rfl (implValidDesk_ct d e1 e2 hd hr) rfl rfl ?_
  repeat (refine Run.go rfl ?_)
  refine Run.cond rfl (fun h => ?_) (fun h => ?_)
  · repeat (refine Run.go rfl ?_)
    refine Run.ret hg rfl ?_
    have h : vD d = false := by simpa using h
    rw [cntRes, h]
    rfl
  have hv : vD d = true := by simpa using h
  have hl := vD_len hv
  repeat (refine Run.go rfl ?_)
  refine Run.loop (fun j : Nat => ⟨[(2, .bp (2, 0) 0), (4, .bp (4, 0) 0), (12, .ro 5 e1 (d.cs.map (cpR e2))), (13, i64 d.cs.length), (14, i64 j)], [((2, 0), .box (c3 0 0 0).cells), ((4, 0), .box (cntA (d.cs.take j)).cells)]⟩) (fun j => j ≤ d.cs.length) (fun j => d.cs.length - j) 0 (by omega) ?_ ?_
  · refine St.Le.mk' ⟨rfl, rfl, rfl, ?_, rfl, trivial⟩ ⟨rfl, rfl, trivial⟩
    show i64 (d.cs.map (cpR e2)).length = _
    rw [List.length_map]
  · intro j hj IH
    repeat (refine Run.go rfl ?_)
    refine Run.cond rfl (fun h => ?_) (fun h => ?_)
    · have hlt : j < d.cs.length := by simpa using h
      have n0 := nst_le 0 d.cs j
      have n1 := nst_le 1 d.cs j
      have n2 := nst_le 2 d.cs j
      repeat (refine Run.go rfl ?_)
      refine Run.val rfl rfl rfl (ValOk.idx (cpR e2 d.cs[j]) rfl rfl rfl rfl rfl (by omega) (by simp [hlt])) rfl ?_
      repeat (refine Run.go rfl ?_)
      have e0 := nst_step (s := 0) hlt
      have e1' := nst_step (s := 1) hlt
      have e2' := nst_step (s := 2) hlt
      rcases vC_st (vD_cp hv d.cs[j] (by simp)) with hs | hs | hs
      · rw [hs] at e0 e1' e2'
        simp at e0 e1' e2'
        rw [hs]
        repeat (refine Run.go rfl ?_)
        refine Run.of (IH (j + 1) (by omega) (by omega)) ⟨rfl, rfl, rfl, rfl, ?_, trivial⟩ ⟨rfl, ?_, trivial⟩
        · show i64 _ = _
          rw [wrap_i64 (by omega) (by omega)]
          rfl
        · show Ob.box [i64 (IntKind.i64.wrap ((nst 0 (d.cs.take j) : Nat) + 1)), i64 ((nst 1 (d.cs.take j) : Nat) : Int), i64 ((nst 2 (d.cs.take j) : Nat) : Int)] = Ob.box [i64 ((nst 0 (d.cs.take (j + 1)) : Nat) : Int), i64 ((nst 1 (d.cs.take (j + 1)) : Nat) : Int), i64 ((nst 2 (d.cs.take (j + 1)) : Nat) : Int)]
          rw [e0, e1', e2', wrap_i64 (by omega) (by omega)]
          rfl
      · rw [hs] at e0 e1' e2'
        simp at e0 e1' e2'
        rw [hs]
        repeat (refine Run.go rfl ?_)
        refine Run.of (IH (j + 1) (by omega) (by omega)) ⟨rfl, rfl, rfl, rfl, ?_, trivial⟩ ⟨rfl, ?_, trivial⟩
        · show i64 _ = _
          rw [wrap_i64 (by omega) (by omega)]
          rfl
        · show Ob.box [i64 ((nst 0 (d.cs.take j) : Nat) : Int), i64 (IntKind.i64.wrap ((nst 1 (d.cs.take j) : Nat) + 1)), i64 ((nst 2 (d.cs.take j) : Nat) : Int)] = Ob.box [i64 ((nst 0 (d.cs.take (j + 1)) : Nat) : Int), i64 ((nst 1 (d.cs.take (j + 1)) : Nat) : Int), i64 ((nst 2 (d.cs.take (j + 1)) : Nat) : Int)]
          rw [e0, e1', e2', wrap_i64 (by omega) (by omega)]
          rfl
      · rw [hs] at e0 e1' e2'
        simp at e0 e1' e2'
        rw [hs]
        repeat (refine Run.go rfl ?_)
        refine Run.of (IH (j + 1) (by omega) (by omega)) ⟨rfl, rfl, rfl, rfl, ?_, trivial⟩ ⟨rfl, ?_, trivial⟩
        · show i64 _ = _
          rw [wrap_i64 (by omega) (by omega)]
          rfl
        · show Ob.box [i64 ((nst 0 (d.cs.take j) : Nat) : Int), i64 ((nst 1 (d.cs.take j) : Nat) : Int), i64 (IntKind.i64.wrap ((nst 2 (d.cs.take j) : Nat) + 1))] = Ob.box [i64 ((nst 0 (d.cs.take (j + 1)) : Nat) : Int), i64 ((nst 1 (d.cs.take (j + 1)) : Nat) : Int), i64 ((nst 2 (d.cs.take (j + 1)) : Nat) : Int)]
          rw [e0, e1', e2', wrap_i64 (by omega) (by omega)]
          rfl
    · have hj' : j = d.cs.length := by simp at h; omega
      subst hj'
      rw [List.take_length]
      repeat (refine Run.go rfl ?_)
      refine Run.ret hg rfl ?_
      rw [cntRes, hv]
      rfl

noncomputable def X28 : Fx := ⟨Try.prog, tys, 28, Try.f28, [0, 1]⟩
theorem X28_ok : X28.Ok := ⟨Try.func28, tys_ok⟩
theorem eqInt64A3_ct (a b c : Nat) : Ct Try.prog 28 [c3 a b c, c3 a b c] (bo true) [] := by
  refine Ct.intro X28 X28_ok rfl rfl rfl rfl fun g hg => ?_
  repeat (refine Run.go rfl ?_)
  refine Run.loop (fun j : Nat => ⟨[(2, .bp (2, 0) 0), (3, .bp (3, 0) 0), (5, i64 j)], [((2, 0), .box (c3 a b c).cells), ((3, 0), .box (c3 a b c).cells)]⟩) (fun j => j ≤ 3) (fun j => 3 - j) 0 (by omega) ?_ ?_
  · exact St.Le.mk' ⟨rfl, rfl, rfl, trivial⟩ ⟨rfl, rfl, trivial⟩
  · intro j hj IH
    have hj4 : j = 0 ∨ j = 1 ∨ j = 2 ∨ j = 3 := by omega
    rcases hj4 with rfl | rfl | rfl | rfl
    · repeat (refine Run.go rfl ?_)
      refine Run.cond rfl (fun h => ?_) (fun h => by simp at h)
      repeat (refine Run.go rfl ?_)
      refine Run.draw (by kernel_rfl) (by decide +kernel) ?_
      repeat (refine Quiet.go rfl ?_)
      refine Quiet.nil ?_
      repeat (refine Run.go rfl ?_)
      refine Run.cond rfl (fun h => by simp at h) (fun h => ?_)
      repeat (refine Run.go rfl ?_)
      exact Run.of (IH 1 (by omega) (by omega)) ⟨rfl, rfl, rfl, trivial⟩ ⟨rfl, rfl, trivial⟩
    · repeat (refine Run.go rfl ?_)
      refine Run.cond rfl (fun h => ?_) (fun h => by simp at h)
      repeat (refine Run.go rfl ?_)
      refine Run.draw (by kernel_rfl) (by decide +kernel) ?_
      repeat (refine Quiet.go rfl ?_)
      refine Quiet.nil ?_
      repeat (refine Run.go rfl ?_)
      refine Run.cond rfl (fun h => by simp at h) (fun h => ?_)
      repeat (refine Run.go rfl ?_)
      exact Run.of (IH 2 (by omega) (by omega)) ⟨rfl, rfl, rfl, trivial⟩ ⟨rfl, rfl, trivial⟩
    · repeat (refine Run.go rfl ?_)
      refine Run.cond rfl (fun h => ?_) (fun h => by simp at h)
      repeat (refine Run.go rfl ?_)
      refine Run.draw (by kernel_rfl) (by decide +kernel) ?_
      repeat (refine Quiet.go rfl ?_)
      refine Quiet.nil ?_
      repeat (refine Run.go rfl ?_)
      refine Run.cond rfl (fun h => by simp at h) (fun h => ?_)
      repeat (refine Run.go rfl ?_)
      exact Run.of (IH 3 (by omega) (by omega)) ⟨rfl, rfl, rfl, trivial⟩ ⟨rfl, rfl, trivial⟩
    · repeat (refine Run.go rfl ?_)
      refine Run.cond rfl (fun h => by simp at h) (fun h => ?_)
      repeat (refine Run.go rfl ?_)
      exact Run.ret hg rfl rfl
end Go.Proofs.Ytoeocaenflkajaa
