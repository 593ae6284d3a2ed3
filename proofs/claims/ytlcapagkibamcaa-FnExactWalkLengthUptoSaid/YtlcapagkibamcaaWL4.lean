/- A part of a proof in the texts 'av': contracts of the program's functions. -/
import Derived.Test.YtlcapagkibamcaaWL3
namespace Go.Proofs.Ytlcapagkibamcaa
open Go Go.Av

def wst (p : Int × Int) (x : Int) : Int × Int := (IntKind.i64.wrap (p.1 + apart p.2 x), x)
def wfold (l : List Int) (s : Int) : Int × Int := l.foldl wst (0, s)
theorem wfold_succ {l : List Int} {s : Int} {j : Nat} (h : j < l.length) : wfold (l.take (j + 1)) s = wst (wfold (l.take j) s) l[j] := by
  unfold wfold
  rw [List.take_succ_eq_append_getElem h, List.foldl_append]
  rfl
theorem apart_comm (a b : Int) : apart a b = apart b a := Int.max_comm _ _

noncomputable def X31 : Fx := ⟨Try.prog, tys, 31, Try.f31, [0, 1]⟩
theorem X31_ok : X31.Ok := ⟨Try.func31, tys_ok⟩
theorem walk_ct (l : List Int) (ex : Bool) (s : Int) (hb : l.length ≤ 1048576) : Ct Try.prog 31 [.ro 1 ex (l.map i64), i64 s] (i64 (wfold l s).1) [] := by
  refine Ct.intro X31 X31_ok rfl rfl rfl rfl fun g hg => ?_
  repeat (refine Run.go rfl ?_)
  refine Run.loop (fun j : Nat => ⟨[(5, i64 (wfold (l.take j) s).1), (6, i64 (wfold (l.take j) s).2), (10, .ro 1 ex (l.map i64)), (11, i64 l.length), (12, i64 j)], []⟩) (fun j => j ≤ l.length) (fun j => l.length - j) 0 (by omega) ?_ ?_
  · refine St.Le.mk' ⟨rfl, rfl, rfl, ?_, rfl, trivial⟩ trivial
    show i64 _ = _
    simp
  · intro j hj IH
    repeat (refine Run.go rfl ?_)
    refine Run.cond rfl (fun h => ?_) (fun h => ?_)
    · have hlt : j < l.length := by simpa using h
      repeat (refine Run.go rfl ?_)
      refine Run.val rfl rfl rfl (ValOk.idx (i64 l[j]) rfl rfl rfl rfl rfl (by omega) (by simp [hlt])) rfl ?_
      repeat (refine Run.go rfl ?_)
      refine Run.of (IH (j + 1) (by omega) (by omega)) ⟨?_, ?_, rfl, rfl, ?_, trivial⟩ trivial
      · rw [wfold_succ hlt]
        have e : ∀ a b : Int, (if b > a then b else a) = max b a := by intro a b; split <;> omega
        exact congrArg (fun z => i64 (IntKind.i64.wrap ((wfold (l.take j) s).1 + z))) (e (sub64 l[j] (wfold (l.take j) s).2) (sub64 (wfold (l.take j) s).2 l[j]))
      · rw [wfold_succ hlt]
        rfl
      · show i64 _ = _
        rw [wrap_i64 (by omega) (by omega)]
        rfl
    · have hj' : j = l.length := by simp at h; omega
      subst hj'
      rw [List.take_length]
      repeat (refine Run.go rfl ?_)
      exact Run.ret hg rfl rfl

def wres (l : List Int) (s : Int) : Int × Int := if wcode l s = 0 then ((wfold l s).1, 0) else (0, wcode l s)

noncomputable def X10 : Fx := ⟨Try.prog, tys, 10, Try.f10, [0, 1]⟩
theorem X10_ok : X10.Ok := ⟨Try.func10, tys_ok⟩
theorem implWalkLength_ct (l : List Int) (ex : Bool) (s : Int) (hb : l.length ≤ 1048576) : Ct Try.prog 10 [.ro 1 ex (l.map i64), i64 s] (.tup [i64 (wres l s).1, i64 (wres l s).2]) [] := by
  refine Ct.intro X10 X10_ok rfl rfl rfl rfl fun g hg => ?_
  repeat (refine Run.go rfl ?_)
  refine Run.cs rfl (walkCode_ct l ex s hb) rfl rfl ?_
  repeat (refine Run.go rfl ?_)
  refine Run.cond rfl (fun h => ?_) (fun h => ?_)
  · repeat (refine Run.go rfl ?_)
    refine Run.ret hg rfl ?_
    simp at h
    simp [wres, h]
    rfl
  · repeat (refine Run.go rfl ?_)
    refine Run.cs rfl (walk_ct l ex s hb) rfl rfl ?_
    repeat (refine Run.go rfl ?_)
    refine Run.ret hg rfl ?_
    simp at h
    simp [wres, h]
    rfl

noncomputable def X8 : Fx := ⟨Try.prog, tys, 8, Try.f8, [0]⟩
theorem X8_ok : X8.Ok := ⟨Try.func8, tys_ok⟩
theorem specWalkLength_ct (l : List Int) (ex : Bool) (s : Int) (hb : l.length ≤ 1048576) : Ct Try.prog 8 [.ro 1 ex (l.map i64), i64 s] (.tup [i64 (wres l s).1, i64 (wres l s).2]) [] := by
  refine Ct.intro X8 X8_ok rfl rfl rfl rfl fun g hg => ?_
  repeat (refine Run.go rfl ?_)
  refine Run.cs rfl (l07Walk_ct l ex s hb) rfl rfl ?_
  repeat (refine Run.go rfl ?_)
  refine Run.cond rfl (fun h => ?_) (fun h => ?_)
  · repeat (refine Run.go rfl ?_)
    refine Run.ret hg rfl ?_
    simp at h
    simp [wres, h]
    rfl
  · simp at h
    repeat (refine Run.go rfl ?_)
    refine Run.loop (fun j : Nat => ⟨[(0, .ro 1 ex (l.map i64)), (1, i64 (wfold (l.take j) s).2), (7, i64 (wfold (l.take j) s).1), (8, i64 j)], []⟩) (fun j => j ≤ l.length) (fun j => l.length - j) 0 (by omega) ?_ ?_
    · exact St.Le.mk' ⟨rfl, rfl, rfl, rfl, trivial⟩ trivial
    · intro j hj IH
      repeat (refine Run.go rfl ?_)
      refine Run.cond rfl (fun h' => ?_) (fun h' => ?_)
      · have hlt : j < l.length := by simpa using h'
        repeat (refine Run.go rfl ?_)
        refine Run.val rfl rfl rfl (ValOk.idx (i64 l[j]) rfl rfl rfl rfl rfl (by omega) (by simp [hlt])) rfl ?_
        repeat (refine Run.go rfl ?_)
        refine Run.cs rfl (l07Apart_ct (wfold (l.take j) s).2 l[j]) rfl rfl ?_
        repeat (refine Run.go rfl ?_)
        refine Run.val rfl rfl rfl (ValOk.idx (i64 l[j]) rfl rfl rfl rfl rfl (by omega) (by simp [hlt])) rfl ?_
        repeat (refine Run.go rfl ?_)
        refine Run.of (IH (j + 1) (by omega) (by omega)) ⟨rfl, ?_, ?_, ?_, trivial⟩ trivial
        · rw [wfold_succ hlt]
          rfl
        · rw [wfold_succ hlt]
          rfl
        · show i64 _ = _
          rw [wrap_i64 (by omega) (by omega)]
          rfl
      · have hj' : j = l.length := by simp at h'; omega
        subst hj'
        rw [List.take_length]
        repeat (refine Run.go rfl ?_)
        refine Run.ret hg rfl ?_
        simp [wres, h]
        rfl

theorem rf_own (l : List Int) (ex : Bool) : (AV.own 1 ex (l.map i64)).rf = true := by
  simp only [AV.rf]
  induction l with
  | nil => rfl
  | cons x l ih => simpa [AV.rfL, AV.rf] using ih

theorem frz64 (l : List Int) : AV.frzL (l.map i64) = l.map i64 := by
  rw [AV.frzL_eq, List.map_map]
  rfl

noncomputable def X3 : Fx := ⟨Try.prog, tys, 3, Try.f3, [0, 1]⟩
theorem X3_ok : X3.Ok := ⟨Try.func3, tys_ok⟩
theorem law_ct (l : List Int) (s : Int) (hb : l.length ≤ 1048576) : Ct Try.prog 3 [.ro 1 false (l.map i64), i64 s] (bo true) [] := by
  refine Ct.intro X3 X3_ok rfl rfl rfl rfl fun g hg => ?_
  repeat (refine Run.go rfl ?_)
  refine Run.cond rfl (fun h => by simp at h; omega) (fun h => ?_)
  repeat (refine Run.go rfl ?_)
  refine Run.cs rfl (toInt64S_ct l false hb) rfl (rf_own _ _) ?_
  repeat (refine Run.go rfl ?_)
  refine Run.cs rfl (specWalkLength_ct l true s hb) (by rw [frz64]; rfl) rfl ?_
  repeat (refine Run.go rfl ?_)
  refine Run.cs rfl (toInt64S_ct l false hb) rfl (rf_own _ _) ?_
  repeat (refine Run.go rfl ?_)
  refine Run.cs rfl (implWalkLength_ct l true s hb) (by rw [frz64, decide_eq_true rfl]; rfl) rfl ?_
  repeat (refine Run.go rfl ?_)
  refine Run.bool 31 rfl (fun h => by simp at h) (fun h => ?_)
  repeat (refine Run.go rfl ?_)
  refine Run.cond rfl (fun h => by simp at h) (fun h => ?_)
  repeat (refine Run.go rfl ?_)
  refine Run.cs rfl (toInt64S_ct l false hb) rfl (rf_own _ _) ?_
  repeat (refine Run.go rfl ?_)
  refine Run.cs rfl (eqInt64S_ct l l true true hb) (by rw [frz64, decide_eq_true rfl]; rfl) rfl ?_
  repeat (refine Run.go rfl ?_)
  refine Run.cond rfl (fun h => by simp at h) (fun h => ?_)
  repeat (refine Run.go rfl ?_)
  exact Run.ret hg rfl rfl

theorem rd : RdA Try.prog 1048576 Try.f3.params.toList (fun x : List Int × Int × Unit => [.ro 1 false (x.1.map i64), i64 x.2.1]) (fun x => (x.1.length ≤ 1048576 ∧ ∀ y ∈ x.1, (Lit.int .i64 y).wf = true) ∧ (Lit.int .i64 x.2.1).wf = true ∧ True) :=
  .cons (.slice Try.underlying22 (by kernel_rfl) (by decide) (.int Try.underlying2)) (.cons (.int Try.underlying2) .nil)
end Go.Proofs.Ytlcapagkibamcaa
