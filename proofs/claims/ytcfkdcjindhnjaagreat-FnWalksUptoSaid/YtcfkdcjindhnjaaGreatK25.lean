/- Contracts of the program's functions, and what follows from them. -/
import Derived.Test.YtcfkdcjindhnjaaGreatK20
set_option linter.unusedVariables false
set_option maxRecDepth 100000
set_option linter.unusedSimpArgs false
namespace Go.Proofs.YtcfkdcjindhnjaaGreat
open Go Go.Av

/-! What is drawn. -/

noncomputable def X11 : Fx := ⟨Tryz.prog, tys, 11, Tryz.f11, [0]⟩
theorem X11_ok : X11.Ok := ⟨Tryz.func11, tys_ok⟩
theorem P6List_ct (ex : Bool) (C : List Int) (hC : C.length ≤ 1048576) (hb : ∀ x ∈ C, 0 ≤ x ∧ x ≤ 255) :
    ∃ L : List Bk, L.length ≤ 11 ∧ (∀ x ∈ L, bOk x) ∧ Ct Tryz.prog 11 [.ro 1 ex (C.map u8)] (.own 8 false (L.map bkA)) [] := by
  obtain ⟨L, n', s', hL, hLb, hn, c1⟩ := l01Drawn_ct ex C hC hb 0 0 (by omega)
  refine ⟨L, hL, hLb, ?_⟩
  refine Ct.intro X11 X11_ok rfl (by kernel_rfl) rfl rfl fun g hg => ?_
  repeat (refine Run.go rfl ?_)
  refine Run.callN rfl rfl rfl rfl rfl rfl rfl from_calls rfl rfl ?_
  refine Run.callG (4, 0) rfl rfl rfl rfl rfl rfl rfl rfl c1 rfl rfl ?_
  repeat (refine Run.go rfl ?_)
  first | exact Run.ret hg rfl rfl | (refine Run.pack 2 rfl rfl (by simp) ?_; exact Run.ret hg rfl rfl)

end Go.Proofs.YtcfkdcjindhnjaaGreat
