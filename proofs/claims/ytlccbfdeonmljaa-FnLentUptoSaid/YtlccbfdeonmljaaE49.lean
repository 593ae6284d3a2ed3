/- Contracts of the program's functions, and what follows from them. -/
import Derived.Test.YtlccbfdeonmljaaE48
import Derived.Test.YtlccbfdeonmljaaMG
set_option linter.unusedVariables false
set_option maxRecDepth 100000
set_option linter.unusedSimpArgs false
namespace Go.Proofs.Ytlccbfdeonmljaa
open Go Go.Av

/-! What is drawn out of bytes: a desk. -/

/-- A new day. -/
def acN : Ac := ⟨5, 0, 0⟩
theorem acN_rng : acRng acN := by unfold acRng acN i8r; decide

/-- At most k days. -/
def dyR : Nat → Dk → Dk
  | 0, d => d
  | k + 1, d => if (apR d acN).2.2 = 0 then dyR k (apR d acN).1 else d
theorem dyR_wd : ∀ (k : Nat) {d : Dk}, WD d → WD (dyR k d)
  | 0, _, h => h
  | k + 1, d, h => by
    unfold dyR
    split
    · exact dyR_wd k (h.ap acN_rng (by assumption)).1
    · exact h

/-- Whether the copies are still those handed in. -/
def dyF : Nat → Dk → Bool → Bool
  | 0, _, e => e
  | k + 1, d, e => if (apR d acN).2.2 = 0 then dyF k (apR d acN).1 false else e

theorem apA_frz (x : Dk × Int × Int) : (apA x).frz = .tup [dkR false false x.1, i64 x.2.1, i64 x.2.2] := by
  simp only [apA, dkQ, dkR, AV.frz, AV.frzL, frzCQ]

noncomputable def X68 : Fx := ⟨Try.prog, tys, 68, Try.f68, [1]⟩
theorem X68_ok : X68.Ok := ⟨Try.func68, tys_ok⟩
theorem l06Days_ct (d : Dk) (e : Bool) (hW : WD d) (m : Nat) (hm : m ≤ 1000) : Ct Try.prog 68 [dkR e e d, i64 m] (dkR (dyF m d e) (dyF m d e) (dyR m d)) [] := by
  refine Ct.intro X68 X68_ok rfl (by kernel_rfl) rfl rfl fun g hg => ?_
  repeat (refine Run.go rfl ?_)
  refine Run.loop (fun q : Nat × Dk × Bool => ⟨[(1, i64 m), (2, .bp (2, 0) 0), (4, .bp (4, 0) 0), (5, i64 (q.1 : Nat))], [((2, 0), .box (dkR q.2.2 q.2.2 q.2.1).cells), ((4, 0), .box [i16 0, .lit (.slice none 0 0)])]⟩)
    (fun q => q.1 ≤ m ∧ WD q.2.1 ∧ dyR m d = dyR (m - q.1) q.2.1 ∧ dyF m d e = dyF (m - q.1) q.2.1 q.2.2) (fun q => m - q.1) (0, d, e) ⟨by simp, hW, rfl, rfl⟩ ?_ ?_
  · exact St.Le.mk' ⟨rfl, rfl, rfl, rfl, trivial⟩ ⟨rfl, rfl, trivial⟩
  rintro ⟨j, D, e'⟩ ⟨hj, hWD, hd, he⟩ IH
  simp only at hj hWD hd he IH
  repeat (refine Run.go rfl ?_)
  refine Run.cond rfl (fun h => ?_) (fun h => ?_)
  · have hlt : j < m := by
      have := of_decide_eq_true h
      omega
    have hct := l06Apply_ct D e' e' acN hWD acN_rng
    have hwd := hWD.ap acN_rng
    rw [show m - j = (m - (j + 1)) + 1 by omega] at hd he
    rw [dyR] at hd
    rw [dyF] at he
    have hfz := apA_frz (apR D acN)
    have hrf := apA_rf (apR D acN)
    generalize apR D acN = R at hct hwd hd he hfz hrf
    obtain ⟨D2, f, c⟩ := R
    simp only at hct hwd hd he hfz
    repeat (refine Run.go rfl ?_)
    refine Run.val rfl rfl rfl (ValOk.build (cs := [i8 5, i8 0, i8 0]) rfl rfl rfl rfl rfl) rfl ?_
    refine Run.cs rfl hct rfl hrf ?_
    refine Run.freeze (v' := .tup [dkR false false D2, i64 f, i64 c]) 16 rfl rfl hfz ?_
    repeat (refine Run.go rfl ?_)
    refine Run.cond rfl (fun h => ?_) (fun h => ?_)
    · have h : c ≠ 0 := by simpa using h
      rw [if_neg h] at hd he
      rw [hd, he] at hg
      repeat (refine Run.go rfl ?_)
      exact Run.ret hg rfl rfl
    · have h : c = 0 := by simpa using h
      rw [if_pos h] at hd he
      repeat (refine Run.go rfl ?_)
      refine Run.of (IH (j + 1, D2, false) ⟨hlt, (hwd h).1, hd, he⟩ (by show m - (j + 1) < m - j; omega)) ⟨rfl, rfl, rfl, ?_, trivial⟩ ⟨rfl, rfl, trivial⟩
      show i64 _ = i64 _
      rw [wrap_i64 (by omega) (by omega)]
      rfl
  · have hjm : j = m := by
      have := of_decide_eq_false h
      omega
    subst hjm
    rw [Nat.sub_self] at hd he
    rw [dyR] at hd
    rw [dyF] at he
    rw [hd, he] at hg
    repeat (refine Run.go rfl ?_)
    exact Run.ret hg rfl rfl
end Go.Proofs.Ytlccbfdeonmljaa
