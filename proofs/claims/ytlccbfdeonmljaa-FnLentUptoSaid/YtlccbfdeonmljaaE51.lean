/- Contracts of the program's functions, and what follows from them. -/
import Derived.Test.YtlccbfdeonmljaaE50
set_option linter.unusedVariables false
set_option maxRecDepth 100000
set_option linter.unusedSimpArgs false
namespace Go.Proofs.Ytlccbfdeonmljaa
open Go Go.Av

/-! What the law of replayed acts draws. -/

noncomputable def X5 : Fx := ⟨Try.prog, tys, 5, Try.f5, [0]⟩
theorem X5_ok : X5.Ok := ⟨Try.func5, tys_ok⟩
theorem A2Desk_ct (ex : Bool) (C : List Int) (hC : C.length ≤ 1048576) (hb : ∀ x ∈ C, 0 ≤ x ∧ x ≤ 255) :
    ∃ (p : Int) (l : List Ac) (m : Nat) (e : Bool), (0 ≤ p ∧ p < 5) ∧ l.length < 24 ∧ (∀ a ∈ l, acDr a) ∧ m < 40 ∧ Ct Try.prog 5 [.ro 1 ex (C.map u8)] (dkR e e (dyR m (dwR l (empD p)))) [] := by
  obtain ⟨p, l, m, e, n', s', hp, hl, hal, hm, hn, c1⟩ := l06Drawn_ct ex C hC hb 0 0 (by omega)
  refine ⟨p, l, m, e, hp, hl, hal, hm, ?_⟩
  generalize dyR m (dwR l (empD p)) = d at c1
  refine Ct.intro X5 X5_ok rfl (by kernel_rfl) rfl rfl fun g hg => ?_
  repeat (refine Run.go rfl ?_)
  refine Run.callN rfl rfl rfl rfl rfl rfl rfl from_calls rfl rfl ?_
  refine Run.callG (4, 0) rfl rfl rfl rfl rfl rfl rfl rfl c1 rfl rfl ?_
  repeat (refine Run.go rfl ?_)
  exact Run.ret hg rfl rfl

noncomputable def X4 : Fx := ⟨Try.prog, tys, 4, Try.f4, [0, 1]⟩
theorem X4_ok : X4.Ok := ⟨Try.func4, tys_ok⟩
theorem a2Long_ct (ex ex' : Bool) (ys zs : List AV) : Ct Try.prog 4 [.ro 1 ex ys, .ro 1 ex' zs] (bo (decide (3000 < ys.length) || decide (3000 < zs.length))) [] := by
  refine Ct.intro X4 X4_ok rfl (by kernel_rfl) rfl rfl fun g hg => ?_
  have e : ∀ n : Nat, decide ((n : Int) > 3000) = decide (3000 < n) := fun n => decide_eq_decide.2 (by omega)
  repeat (refine Run.go rfl ?_)
  refine Run.bool 8 rfl (fun h => ?_) (fun h => ?_)
  · have h : decide ((ys.length : Int) > 3000) = true := h
    rw [e] at h
    rw [h] at hg
    repeat (refine Run.go rfl ?_)
    exact Run.ret hg rfl rfl
  · have h : decide ((ys.length : Int) > 3000) = false := h
    rw [e] at h
    rw [h, Bool.false_or] at hg
    repeat (refine Run.go rfl ?_)
    refine Run.ret hg rfl ?_
    show bo (decide ((zs.length : Int) > 3000)) = _
    rw [e]

end Go.Proofs.Ytlccbfdeonmljaa
