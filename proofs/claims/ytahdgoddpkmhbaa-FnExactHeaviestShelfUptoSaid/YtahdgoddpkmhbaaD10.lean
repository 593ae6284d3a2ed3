/- Contracts of the program's functions, and what follows from them. -/
import Derived.Test.YtahdgoddpkmhbaaD9
set_option linter.unusedVariables false
namespace Go.Proofs.Ytahdgoddpkmhbaa
open Go Go.Av

/-! Valid desks, in the program. -/

noncomputable def X95 : Fx := ⟨Try.prog, tys, 95, Try.f95, [0, 1]⟩
theorem X95_ok : X95.Ok := ⟨Try.func95, tys_ok⟩
theorem indexI_ct (l : List Int) (ex : Bool) (f : Nat) (caps : List AV) (p : Int → Bool) (hlen : l.length ≤ 1048576) (hc : AV.freeL caps = true)
    (hf : ∀ x ∈ l, Ct Try.prog f ([i64 x] ++ caps) (bo (p x)) []) : Ct Try.prog 95 [.ro 1 ex (l.map i64), .fn f caps] (i64 (fi p l)) [] := by
  refine Ct.intro X95 X95_ok rfl (by kernel_rfl) rfl rfl fun g hg => ?_
  repeat (refine Run.step rfl ?_)
  refine Run.loop (fun j : Nat => ⟨[(0, .ro 1 ex (l.map i64)), (1, .fn f caps), (7, i64 l.length), (8, i64 j)], []⟩) (fun j => j ≤ l.length ∧ j ≤ l.findIdx p) (fun j => l.length - j) 0 ⟨by omega, by omega⟩ ?_ ?_
  · refine St.Le.mk' ⟨rfl, rfl, ?_, rfl, trivial⟩ trivial
    show i64 _ = _
    simp
  · rintro j ⟨hj1, hj2⟩ IH
    repeat (refine Run.step rfl ?_)
    refine Run.cond rfl (fun h => ?_) (fun h => ?_)
    · have hlt : j < l.length := by simpa using h
      repeat (refine Run.step rfl ?_)
      refine Run.val rfl rfl rfl (ValOk.idx (i64 l[j]) rfl rfl rfl rfl rfl (by omega) (by simp [hlt])) rfl ?_
      repeat (refine Run.step rfl ?_)
      refine Run.callp rfl rfl rfl rfl rfl rfl rfl hc rfl (hf l[j] (by simp)) (by decide) (by decide) ?_
      repeat (refine Run.step rfl ?_)
      refine Run.cond rfl (fun h => ?_) (fun h => ?_)
      · repeat (refine Run.step rfl ?_)
        refine Run.ret hg rfl ?_
        show i64 _ = _
        rw [fi_at hlt h hj2]
      · repeat (refine Run.step rfl ?_)
        refine Run.of (IH (j + 1) ⟨by omega, fi_next hlt h hj2⟩ (by omega)) ⟨rfl, rfl, rfl, ?_, trivial⟩ trivial
        show i64 _ = _
        rw [wrap_i64 (by omega) (by omega)]
        rfl
    · repeat (refine Run.step rfl ?_)
      have hj : j = l.length := by simp at h; omega
      refine Run.ret hg rfl ?_
      show i64 (-1) = _
      rw [fi_none (by omega)]

def nums (n : Nat) : List Int := (List.range n).map fun k : Nat => (k : Int)

noncomputable def X78 : Fx := ⟨Try.prog, tys, 78, Try.f78, [0]⟩
theorem X78_ok : X78.Ok := ⟨Try.func78, tys_ok⟩
theorem upTo_ct (n : Nat) (hn : n ≤ 1048576) : Ct Try.prog 78 [i64 n] (.own 1 false ((nums n).map i64)) [] := by
  refine Ct.intro X78 X78_ok rfl rfl rfl rfl fun g hg => ?_
  repeat (refine Run.go rfl ?_)
  refine Run.nilSlot 3 1 false rfl ?_
  refine Run.loop (fun j : Nat => ⟨[(3, .own 1 false ((nums j).map i64)), (5, i64 n), (6, i64 j)], []⟩) (fun j => j ≤ n) (fun j => n - j) 0 (by omega) ?_ ?_
  · exact St.Le.mk' ⟨rfl, rfl, rfl, trivial⟩ trivial
  · intro j hj IH
    repeat (refine Run.go rfl ?_)
    refine Run.cond rfl (fun h => ?_) (fun h => ?_)
    · have hlt : j < n := by simpa using h
      repeat (refine Run.go rfl ?_)
      refine Run.buildSlice [i64 j] rfl rfl rfl rfl rfl rfl rfl rfl rfl rfl rfl rfl rfl rfl ?_
      refine Run.appendo rfl rfl rfl rfl rfl rfl rfl rfl rfl rfl rfl rfl rfl rfl (by show (_ + 1) * 8 ≤ _; simp [nums]; omega) (by simp [capMax, nums]; omega) (by decide) rfl ?_
      repeat (refine Run.go rfl ?_)
      refine Run.of (IH (j + 1) (by omega) (by omega)) ⟨?_, rfl, ?_, trivial⟩ trivial
      · show AV.own _ _ _ = AV.own _ _ _
        simp [nums, List.range_succ]
      · show i64 _ = _
        rw [wrap_i64 (by omega) (by omega)]
        rfl
    · have hj' : j = n := by simp at h; omega
      subst hj'
      repeat (refine Run.go rfl ?_)
      refine Run.pack 2 rfl rfl rfl ?_
      exact Run.ret hg rfl rfl

def lentTo (w : Int) (c : Cp) : Bool := decide (c.st = 1) && decide (c.who = w)
def vD (d : Dk) : Bool := inr d.day 0 10000 && decide (d.cs.length ≤ 60) && d.cs.all (fun c => vC c d.day) && (nums 50).all fun w => decide ((idxs (lentTo w) d.cs).length ≤ 3)

end Go.Proofs.Ytahdgoddpkmhbaa
