/- Contracts of the program's functions, and what follows from them. -/
import Derived.Test.YtoeocaenflkajaaAvTys
import Derived.Test.YtoeocaenflkajaaAvKit
set_option linter.unusedVariables false
namespace Go.Proofs.Ytoeocaenflkajaa
open Go Go.Av

noncomputable def X107 : Fx := ⟨Try.prog, tys, 107, Try.f107, [0]⟩
theorem X107_ok : X107.Ok := ⟨Try.func107, tys_ok⟩
theorem toInt8S_ct (l : List Int) (ex : Bool) (hlen : l.length ≤ 1048576) : Ct Try.prog 107 [.ro 1 ex (l.map i8)] (.own 1 true (l.map i8)) [] := by
  refine Ct.intro X107 X107_ok rfl rfl rfl rfl fun g hg => ?_
  repeat (refine Run.go rfl ?_)
  refine Run.make rfl rfl rfl rfl rfl rfl rfl rfl rfl rfl (by simp; omega) (by show _ * 1 ≤ _; simp; omega) rfl ?_
  repeat (refine Run.go rfl ?_)
  refine Run.loop (fun j : Nat => ⟨[(0, .ro 1 ex (l.map i8)), (3, .own 1 true ((l.take j).map i8 ++ List.replicate (l.length - j) (i8 0))), (4, i64 j)], []⟩) (fun j => j ≤ l.length) (fun j => l.length - j) 0 (by omega) ?_ ?_
  · refine St.Le.mk' ⟨rfl, ?_, rfl, trivial⟩ trivial
    show AV.own 1 true (List.replicate (l.map i8).length (i8 0)) = _
    simp
  · intro j hj IH
    repeat (refine Run.go rfl ?_)
    refine Run.cond rfl (fun h => ?_) (fun h => ?_)
    · have hlt : j < l.length := by simpa using h
      repeat (refine Run.go rfl ?_)
      refine Run.val rfl rfl rfl (ValOk.idx (i8 l[j]) rfl rfl rfl rfl rfl (by omega) (by simp [hlt])) rfl ?_
      repeat (refine Run.go rfl ?_)
      refine Run.val rfl rfl rfl (ValOk.idxv rfl rfl rfl rfl rfl rfl (by omega) (by simp; omega)) rfl ?_
      refine Run.storee (i8 0) (i8 l[j]) rfl rfl rfl rfl rfl rfl rfl ?_ rfl rfl rfl ?_
      · simpa using fill_at hlt
      repeat (refine Run.go rfl ?_)
      refine Run.pack 3 rfl rfl (by simp) ?_
      refine Run.of (IH (j + 1) (by omega) (by omega)) ⟨rfl, ?_, ?_, trivial⟩ trivial
      · show AV.own _ _ _ = _
        congr 1
        simp only [Nat.zero_add, Int.toNat_natCast]
        exact fill_step hlt
      · show i64 _ = _
        rw [wrap_i64 (by omega) (by omega)]
        rfl
    · have hj' : j = l.length := by simp at h; omega
      subst hj'
      repeat (refine Run.go rfl ?_)
      refine Run.pack 2 rfl rfl rfl ?_
      refine Run.ret hg rfl ?_
      show AV.own _ _ _ = _
      simp

structure Cp where
  st : Int
  who : Int
  due : Int
  ren : Int
  q : List Int
  deriving DecidableEq
structure Dk where
  day : Int
  cs : List Cp
  deriving DecidableEq

def cpO (c : Cp) : AV := .agg [i8 c.st, i8 c.who, i16 c.due, i8 c.ren, .own 1 true (c.q.map i8)]
def cpR (ex : Bool) (c : Cp) : AV := .agg [i8 c.st, i8 c.who, i16 c.due, i8 c.ren, .ro 1 ex (c.q.map i8)]
def dkO (d : Dk) : AV := .agg [i16 d.day, .own 5 true (d.cs.map cpO)]
def dkR (ex ex' : Bool) (d : Dk) : AV := .agg [i16 d.day, .ro 5 ex (d.cs.map (cpR ex'))]

theorem frz8 (l : List Int) : AV.frzL (l.map i8) = l.map i8 := frzL_map (fun _ => rfl) l
theorem rf8 (l : List Int) : AV.rfL (l.map i8) = true := rfL_map (fun _ => rfl) l
theorem cpO_rf (c : Cp) : (cpO c).rf = true := by
  simp only [cpO, AV.rf, AV.rfL, rf8]; rfl
theorem cpO_frz (c : Cp) : (cpO c).frz = cpR true c := by
  simp only [cpO, cpR, AV.frz, AV.frzL, frz8]
theorem dkO_rf (d : Dk) : (dkO d).rf = true := by
  simp only [dkO, AV.rf, AV.rfL, rfL_map cpO_rf]; rfl
theorem dkO_frz (d : Dk) : (dkO d).frz = dkR true true d := by
  simp only [dkO, dkR, AV.frz, AV.frzL, frzL_map cpO_frz]

noncomputable def X91 : Fx := ⟨Try.prog, tys, 91, Try.f91, [0]⟩
theorem X91_ok : X91.Ok := ⟨Try.func91, tys_ok⟩
theorem toCopy_ct (c : Cp) (ex : Bool) (hlen : c.q.length ≤ 1048576) : Ct Try.prog 91 [cpR ex c] (cpO c) [] := by
  refine Ct.intro X91 X91_ok rfl rfl rfl rfl fun g hg => ?_
  repeat (refine Run.go rfl ?_)
  refine Run.cs rfl (toInt8S_ct c.q ex hlen) rfl (rf_own (fun _ => rfl) _) ?_
  refine Run.unpack 18 rfl rfl ?_
  repeat (refine Run.go rfl ?_)
  refine Run.packBox (2, 0) 4 rfl rfl rfl rfl ?_
  exact Run.ret (r := cpO c) hg (by kernel_rfl) rfl
end Go.Proofs.Ytoeocaenflkajaa
