/- Contracts of the program's functions, and what follows from them. -/
import Derived.Test.YtahdgoddpkmhbaaB3
import Derived.Test.YtahdgoddpkmhbaaBRd
set_option linter.unusedVariables false
namespace Go.Proofs.Ytahdgoddpkmhbaa
open Go Go.Av

theorem hsRes_cases (l : List Bk) (w : Int) : ∃ a b c d : Int, hsRes l w = .tup [i64 a, i64 b, i64 c, i64 d] := by
  unfold hsRes
  split
  · split
    · split <;> exact ⟨_, _, _, _, rfl⟩
    · exact ⟨_, _, _, _, rfl⟩
  · exact ⟨_, _, _, _, rfl⟩

noncomputable def X3 : Fx := ⟨Try.prog, tys, 3, Try.f3, [0]⟩
theorem X3_ok : X3.Ok := ⟨Try.func3, tys_ok⟩
theorem lawHeaviest_ct (l : List Bk) (w : Int) (hl : bksOk l) : Ct Try.prog 3 [.ro 8 false (l.map bkA), i64 w] (bo true) [] := by
  obtain ⟨p, q, r, m, hk⟩ := hsRes_cases l w
  have hS := specHeaviestShelf_ct l true w hl.1 hl.2
  have hI := implHeaviestShelf_ct l true w hl.1 hl.2
  rw [hk] at hS hI
  refine Ct.intro X3 X3_ok rfl (by kernel_rfl) rfl rfl fun g hg => ?_
  repeat (refine Run.go rfl ?_)
  refine Run.cs rfl (szBookS_ct l false 1048576 (by omega) (by omega) hl.1) rfl rfl ?_
  repeat (refine Run.go rfl ?_)
  refine Run.cond rfl (fun h => ?_) (fun h => ?_)
  · repeat (refine Run.go rfl ?_)
    exact Run.ret hg rfl rfl
  repeat (refine Run.go rfl ?_)
  refine Run.cs rfl (toBookS_ct l false hl.1) rfl (rfB _) ?_
  repeat (refine Run.go rfl ?_)
  refine Run.cs rfl hS (by rw [frzB]; rfl) rfl ?_
  repeat (refine Run.go rfl ?_)
  refine Run.cs rfl (toBookS_ct l false hl.1) rfl (rfB _) ?_
  refine Run.unpack 30 rfl rfl ?_
  repeat (refine Run.go rfl ?_)
  refine Run.cs rfl hI (by rw [frzB, decide_eq_true rfl]; rfl) rfl ?_
  repeat (refine Run.go rfl ?_)
  refine Run.bool 42 rfl (fun h => by simp at h) (fun h => ?_)
  repeat (refine Run.go rfl ?_)
  refine Run.bool 47 rfl (fun h => by simp at h) (fun h => ?_)
  repeat (refine Run.go rfl ?_)
  refine Run.bool 52 rfl (fun h => by simp at h) (fun h => ?_)
  repeat (refine Run.go rfl ?_)
  refine Run.cond rfl (fun h => by simp at h) (fun h => ?_)
  repeat (refine Run.go rfl ?_)
  refine Run.cs rfl (toBookS_ct l false hl.1) rfl (rfB _) ?_
  repeat (refine Run.go rfl ?_)
  refine Run.cs rfl (eqBookS_ct l l true true hl.1) (by rw [frzB, decide_eq_true rfl]; rfl) rfl ?_
  repeat (refine Run.go rfl ?_)
  refine Run.cond rfl (fun h => by simp at h) (fun h => ?_)
  repeat (refine Run.go rfl ?_)
  exact Run.ret hg rfl rfl
end Go.Proofs.Ytahdgoddpkmhbaa
