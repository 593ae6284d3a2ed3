/- A part of a proof in the texts 'av': contracts of the program's functions. -/
import Derived.Test.YtlcapagkibamcaaWL1
namespace Go.Proofs.Ytlcapagkibamcaa
open Go Go.Av

noncomputable def X32 : Fx := ⟨Try.prog, tys, 32, Try.f32, [0, 1, 2]⟩
theorem X32_ok : X32.Ok := ⟨Try.func32, tys_ok⟩

def inr (a b c : Int) : Bool := decide (b ≤ a) && decide (a ≤ c)

theorem l00In_ct (a b c : Int) : Ct Try.prog 32 [i64 a, i64 b, i64 c] (bo (inr a b c)) [] := by
  refine Ct.intro X32 X32_ok rfl rfl rfl rfl fun g hg => ?_
  repeat (refine Run.step rfl ?_)
  refine Run.bool 10 rfl (fun h => ?_) (fun h => ?_)
  · repeat (refine Run.step rfl ?_)
    refine Run.ret hg rfl ?_
    show bo _ = _
    simp_all [inr]
  · repeat (refine Run.step rfl ?_)
    refine Run.ret hg rfl ?_
    show bo _ = _
    simp_all [inr] <;> omega

noncomputable def X33 : Fx := ⟨Try.prog, tys, 33, Try.f33, [0, 1, 2]⟩
theorem X33_ok : X33.Ok := ⟨Try.func33, tys_ok⟩

theorem within_ct (a b c : Int) : Ct Try.prog 33 [i64 a, i64 b, i64 c] (bo (inr a b c)) [] := by
  refine Ct.intro X33 X33_ok rfl rfl rfl rfl fun g hg => ?_
  repeat (refine Run.step rfl ?_)
  refine Run.bool 10 rfl (fun h => ?_) (fun h => ?_)
  · repeat (refine Run.step rfl ?_)
    refine Run.ret hg rfl ?_
    show bo _ = _
    simp_all [inr]
  · repeat (refine Run.step rfl ?_)
    refine Run.ret hg rfl ?_
    show bo _ = _
    simp_all [inr] <;> omega

noncomputable def X56 : Fx := ⟨Try.prog, tys, 56, Try.f56, [0]⟩
theorem X56_ok : X56.Ok := ⟨Try.func56, tys_ok⟩
theorem l01Class_ct (a : Int) : Ct Try.prog 56 [i64 a] (bo (inr a 0 999)) [] := by
  refine Ct.intro X56 X56_ok rfl rfl rfl rfl fun g hg => ?_
  repeat (refine Run.go rfl ?_)
  refine Run.cs rfl (l00In_ct a 0 999) rfl rfl ?_
  repeat (refine Run.go rfl ?_)
  exact Run.ret hg rfl rfl

noncomputable def X59 : Fx := ⟨Try.prog, tys, 59, Try.f59, [0]⟩
theorem X59_ok : X59.Ok := ⟨Try.func59, tys_ok⟩
theorem walkCode1_ct (a : Int) : Ct Try.prog 59 [i64 a] (bo (inr a 0 999)) [] := by
  refine Ct.intro X59 X59_ok rfl rfl rfl rfl fun g hg => ?_
  repeat (refine Run.go rfl ?_)
  refine Run.cs rfl (within_ct a 0 999) rfl rfl ?_
  repeat (refine Run.go rfl ?_)
  exact Run.ret hg rfl rfl

noncomputable def X57 : Fx := ⟨Try.prog, tys, 57, Try.f57, [0, 1]⟩
theorem X57_ok : X57.Ok := ⟨Try.func57, tys_ok⟩
theorem l00Max_ct (a b : Int) : Ct Try.prog 57 [i64 a, i64 b] (i64 (max a b)) [] := by
  refine Ct.intro X57 X57_ok rfl rfl rfl rfl fun g hg => ?_
  repeat (refine Run.go rfl ?_)
  refine Run.cond rfl (fun h => ?_) (fun h => ?_)
  · repeat (refine Run.go rfl ?_)
    refine Run.ret hg rfl ?_
    show i64 _ = _
    simp at h
    rw [Int.max_eq_left (by omega)]
  · repeat (refine Run.go rfl ?_)
    refine Run.ret hg rfl ?_
    show i64 _ = _
    simp at h
    rw [Int.max_eq_right (by omega)]

def sub64 (a b : Int) : Int := IntKind.i64.wrap (a - b)
def apart (a b : Int) : Int := max (sub64 a b) (sub64 b a)

noncomputable def X29 : Fx := ⟨Try.prog, tys, 29, Try.f29, [0, 1]⟩
theorem X29_ok : X29.Ok := ⟨Try.func29, tys_ok⟩
theorem l07Apart_ct (a b : Int) : Ct Try.prog 29 [i64 a, i64 b] (i64 (apart a b)) [] := by
  refine Ct.intro X29 X29_ok rfl rfl rfl rfl fun g hg => ?_
  repeat (refine Run.go rfl ?_)
  refine Run.cs rfl (l00Max_ct (sub64 a b) (sub64 b a)) rfl rfl ?_
  repeat (refine Run.go rfl ?_)
  exact Run.ret hg rfl rfl

noncomputable def X82 : Fx := ⟨Try.prog, tys, 82, Try.f82, [0, 1]⟩
theorem X82_ok : X82.Ok := ⟨Try.func82, tys_ok⟩
theorem areAll1_ct (a : Int) (f : Nat) (p : Bool) (hf : Ct Try.prog f [i64 a] (bo p) []) : Ct Try.prog 82 [i64 a, .rp [.fn f []] 0] (bo (!p)) [] := by
  refine Ct.intro X82 X82_ok rfl rfl rfl rfl fun g hg => ?_
  repeat (refine Run.go rfl ?_)
  refine Run.cs rfl hf rfl rfl ?_
  repeat (refine Run.go rfl ?_)
  exact Run.ret hg rfl rfl

noncomputable def X58 : Fx := ⟨Try.prog, tys, 58, Try.f58, [0, 1]⟩
theorem X58_ok : X58.Ok := ⟨Try.func58, tys_ok⟩
theorem areAll_ct (l : List Int) (ex : Bool) (f : Nat) (p : Int → Bool) (hlen : l.length ≤ 140737488355328) (hf : ∀ x ∈ l, Ct Try.prog f [i64 x] (bo (p x)) []) :
    Ct Try.prog 58 [.ro 1 ex (l.map i64), .fn f []] (bo (l.all p)) [] := by
  refine Ct.intro X58 X58_ok rfl rfl rfl rfl fun g hg => ?_
  repeat (refine Run.go rfl ?_)
  refine Run.cs rfl (ContainsFunc_ct l ex 82 [.rp [.fn f []] 0] (fun x => !p x) hlen (fun x hx => areAll1_ct x f (p x) (hf x hx)) rfl) rfl rfl ?_
  repeat (refine Run.go rfl ?_)
  refine Run.ret hg rfl ?_
  show bo (!l.any fun x => !p x) = _
  congr 2
  simp [List.all_eq_not_any_not]
end Go.Proofs.Ytlcapagkibamcaa
