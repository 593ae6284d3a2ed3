/- Contracts of the program's functions, and what follows from them. -/
import Derived.Test.YtjajfepcknieeaaGreatDoorE50
set_option linter.unusedVariables false
set_option maxRecDepth 100000
set_option linter.unusedSimpArgs false
namespace Go.Proofs.YtjajfepcknieeaaGreatDoor
open Go Go.Av

/-! What the law of replayed acts draws. -/

noncomputable def X6 : Fx := ⟨Tryz.prog, tys, 6, Tryz.f6, [0]⟩
theorem X6_ok : X6.Ok := ⟨Tryz.func6, tys_ok⟩
theorem A2Desk_ct (ex : Bool) (C : List Int) (hC : C.length ≤ 1048576) (hb : ∀ x ∈ C, 0 ≤ x ∧ x ≤ 255) :
    ∃ (p : Int) (l : List Ac) (m : Nat) (e : Bool), (0 ≤ p ∧ p < 5) ∧ l.length < 24 ∧ (∀ a ∈ l, acDr a) ∧ m < 40 ∧ Ct Tryz.prog 6 [.ro 1 ex (C.map u8)] (dkR e e (dyR m (dwR l (empD p)))) [] := by
  obtain ⟨p, l, m, e, n', s', hp, hl, hal, hm, hn, c1⟩ := l06Drawn_ct ex C hC hb 0 0 (by omega)
  refine ⟨p, l, m, e, hp, hl, hal, hm, ?_⟩
  generalize dyR m (dwR l (empD p)) = d at c1
  refine Ct.intro X6 X6_ok rfl (by kernel_rfl) rfl rfl fun g hg => ?_
  repeat (refine Run.go rfl ?_)
  refine Run.callN rfl rfl rfl rfl rfl rfl rfl from_calls rfl rfl ?_
  refine Run.callG (4, 0) rfl rfl rfl rfl rfl rfl rfl rfl c1 rfl rfl ?_
  repeat (refine Run.go rfl ?_)
  exact Run.ret hg rfl rfl

noncomputable def X5 : Fx := ⟨Tryz.prog, tys, 5, Tryz.f5, [0, 1]⟩
theorem X5_ok : X5.Ok := ⟨Tryz.func5, tys_ok⟩
theorem a2Long_ct (ex ex' : Bool) (ys zs : List AV) : Ct Tryz.prog 5 [.ro 1 ex ys, .ro 1 ex' zs] (bo (decide (3000 < ys.length) || decide (3000 < zs.length))) [] := by
  refine Ct.intro X5 X5_ok rfl (by kernel_rfl) rfl rfl fun g hg => ?_
  have e : ∀ n : Nat, decide ((n : Int) > 3000) = decide (3000 < n) := fun n => decide_eq_decide.2 (by omega)
  repeat (refine Run.go rfl ?_)
  refine Run.bool 8 rfl (fun h => ?_) (fun h => ?_)
  · have h : decide ((ys.length : Int) > 3000) = true := h
    rw [e] at h
    rw [h] at hg
    repeat (refine Run.go rfl ?_)
    exact Run.ret hg rfl rfl
  · have h : decide ((ys.length : Int) > 3000) = false := h
    rw [e] at h
    rw [h, Bool.false_or] at hg
    repeat (refine Run.go rfl ?_)
    refine Run.ret hg rfl ?_
    show bo (decide ((zs.length : Int) > 3000)) = _
    rw [e]

noncomputable def X16 : Fx := ⟨Tryz.prog, tys, 16, Tryz.f16, [0, 1, 2]⟩
theorem X16_ok : X16.Ok := ⟨Tryz.func16, tys_ok⟩
theorem a2At_ct (ex : Bool) (C : List Int) (hb : ∀ x ∈ C, 0 ≤ x ∧ x ≤ 255) (j m : Int) (hj : 0 ≤ j) : ∃ r, 0 ≤ r ∧ (r = 0 ∨ r < m) ∧ Ct Tryz.prog 16 [.ro 1 ex (C.map u8), i64 j, i64 m] (i64 r) [] := by
  have hml : ((C.map u8).length : Int) = C.length := by rw [List.length_map]
  by_cases h1 : j ≥ C.length
  · refine ⟨0, by omega, .inl rfl, ?_⟩
    refine Ct.intro X16 X16_ok rfl (by kernel_rfl) rfl rfl fun g hg => ?_
    repeat (refine Run.go rfl ?_)
    refine Run.bool 11 rfl (fun _ => ?_) (fun h => absurd (show j ≥ ((C.map u8).length : Nat) by omega) (of_decide_eq_false h))
    repeat (refine Run.go rfl ?_)
    refine Run.cond rfl (fun _ => ?_) (fun h => by simp at h)
    repeat (refine Run.go rfl ?_)
    exact Run.ret hg rfl rfl
  by_cases h2 : m < 1
  · refine ⟨0, by omega, .inl rfl, ?_⟩
    refine Ct.intro X16 X16_ok rfl (by kernel_rfl) rfl rfl fun g hg => ?_
    repeat (refine Run.go rfl ?_)
    refine Run.bool 11 rfl (fun h => absurd (of_decide_eq_true h) (by omega)) (fun _ => ?_)
    repeat (refine Run.go rfl ?_)
    refine Run.cond rfl (fun _ => ?_) (fun h => absurd h2 (of_decide_eq_false h))
    repeat (refine Run.go rfl ?_)
    exact Run.ret hg rfl rfl
  · have hlt : j.toNat < C.length := by omega
    have hx := hb _ (List.getElem_mem hlt)
    refine ⟨(C[j.toNat]).tmod m, ?_, .inr ?_, ?_⟩
    · rw [Int.tmod_eq_emod_of_nonneg hx.1]; exact Int.emod_nonneg _ (by omega)
    · rw [Int.tmod_eq_emod_of_nonneg hx.1]; exact Int.emod_lt_of_pos _ (by omega)
    refine Ct.intro X16 X16_ok rfl (by kernel_rfl) rfl rfl fun g hg => ?_
    repeat (refine Run.go rfl ?_)
    refine Run.bool 11 rfl (fun h => absurd (of_decide_eq_true h) (by omega)) (fun _ => ?_)
    repeat (refine Run.go rfl ?_)
    refine Run.cond rfl (fun h => absurd (of_decide_eq_true h) h2) (fun _ => ?_)
    repeat (refine Run.go rfl ?_)
    refine Run.val rfl rfl rfl (ValOk.idx (u8 C[j.toNat]) rfl rfl rfl rfl rfl hj (by rw [List.getElem?_map, List.getElem?_eq_getElem hlt]; rfl)) rfl ?_
    repeat (refine Run.go rfl ?_)
    rw [wrap_i64 (by omega) (by omega)]
    refine Run.val rfl rfl rfl (ValOk.rem rfl rfl rfl (by omega)) rfl ?_
    repeat (refine Run.go rfl ?_)
    exact Run.ret hg rfl rfl
end Go.Proofs.YtjajfepcknieeaaGreatDoor
