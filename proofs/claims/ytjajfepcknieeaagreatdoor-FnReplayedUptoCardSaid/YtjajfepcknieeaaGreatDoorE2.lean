/- Contracts of the program's functions, and what follows from them. -/
import Derived.Test.YtjajfepcknieeaaGreatDoorE1
import Derived.Test.YtjajfepcknieeaaGreatDoorMG
set_option linter.unusedVariables false
set_option maxRecDepth 100000
set_option linter.unusedSimpArgs false
namespace Go.Proofs.YtjajfepcknieeaaGreatDoor
open Go Go.Av

/-! Texts of acts. -/

/-- An act as told. -/
def aOk (a : Ac) : Bool := if a.what = 5 then decide (a.who = 0) && decide (a.book = 0) else inr a.what 0 4 && inr a.who 0 49 && inr a.book 0 59
/-- The text of an act. -/
def aText (a : Ac) : List UInt8 :=
  let w := wordsL.getD a.what.toNat []
  if a.what = 5 then w else w ++ [32] ++ Lib.decDigits a.who.toNat ++ [32] ++ Lib.decDigits a.book.toNat

theorem aOk_what {a : Ac} (h : aOk a = true) : 0 ≤ a.what ∧ a.what ≤ 5 := by
  unfold aOk at h
  split at h
  · omega
  · simp only [Bool.and_eq_true, inr, decide_eq_true_eq] at h
    omega
theorem aOk_num {a : Ac} (h : aOk a = true) (h5 : a.what ≠ 5) : (0 ≤ a.who ∧ a.who ≤ 49) ∧ (0 ≤ a.book ∧ a.book ≤ 59) := by
  unfold aOk at h
  rw [if_neg h5] at h
  simp only [Bool.and_eq_true, inr, decide_eq_true_eq] at h
  omega

noncomputable def X41 : Fx := ⟨Tryz.prog, tys, 41, Tryz.f41, [0]⟩
theorem X41_ok : X41.Ok := ⟨Tryz.func41, tys_ok⟩
theorem isAct_ct (a : Ac) (hr : acRng a) : Ct Tryz.prog 41 [acA a] (bo (aOk a)) [] := by
  obtain ⟨w, p, b⟩ := a
  obtain ⟨h1, h2, h3⟩ := hr
  simp only at h1 h2 h3
  refine Ct.intro X41 X41_ok rfl rfl rfl rfl fun g hg => ?_
  repeat (refine Run.go rfl ?_)
  refine Run.cond rfl (fun h => ?_) (fun h => ?_)
  · have h5 : w = 5 := by simpa using h
    repeat (refine Run.go rfl ?_)
    refine Run.bool 9 rfl (fun hA => ?_) (fun hA => ?_)
    · repeat (refine Run.go rfl ?_)
      refine Run.ret hg rfl ?_
      show bo _ = bo _
      have hA : p = 0 := by simpa using hA
      simp [aOk, h5, hA]
      rfl
    · repeat (refine Run.go rfl ?_)
      refine Run.ret hg rfl ?_
      show bo _ = bo _
      have hA : ¬ p = 0 := by simpa using hA
      simp [aOk, h5, hA]
  · have h5 : ¬ w = 5 := by simpa using h
    have e5 : inr w 0 5 = inr w 0 4 := by
      unfold inr
      congr 1
      exact decide_eq_decide.2 (by omega)
    repeat (refine Run.go rfl ?_)
    refine Run.cs rfl (within8_ct w 0 5) rfl rfl ?_
    repeat (refine Run.go rfl ?_)
    rw [e5]
    refine Run.bool 17 rfl (fun hA => ?_) (fun hA => ?_)
    · repeat (refine Run.go rfl ?_)
      refine Run.cs rfl (isPerson8_ct p h2) rfl rfl ?_
      repeat (refine Run.go rfl ?_)
      refine Run.bool 22 rfl (fun hB => ?_) (fun hB => ?_)
      · repeat (refine Run.go rfl ?_)
        refine Run.cs rfl (within8_ct b 0 59) rfl rfl ?_
        repeat (refine Run.go rfl ?_)
        refine Run.ret hg rfl ?_
        show bo _ = bo _
        simp [aOk, h5, hA, hB]
      · repeat (refine Run.go rfl ?_)
        refine Run.ret hg rfl ?_
        show bo _ = bo _
        simp [aOk, h5, hA, hB]
    · repeat (refine Run.go rfl ?_)
      refine Run.bool 22 rfl (fun hB => by simp at hB) (fun hB => ?_)
      repeat (refine Run.go rfl ?_)
      refine Run.ret hg rfl ?_
      show bo _ = bo _
      simp [aOk, h5, hA]

noncomputable def X43 : Fx := ⟨Tryz.prog, tys, 43, Tryz.f43, [0]⟩
theorem X43_ok : X43.Ok := ⟨Tryz.func43, tys_ok⟩
theorem actText_ct (a : Ac) (hr : acRng a) (ha : aOk a = true) : Ct Tryz.prog 43 [acA a] (str (aText a)) [] := by
  have hw := aOk_what ha
  obtain ⟨w, p, b⟩ := a
  obtain ⟨h1, h2, h3⟩ := hr
  simp only at h1 h2 h3 hw
  have hwt : (wordsL.map str)[w.toNat]? = some (str (wordsL.getD w.toNat [])) := by
    have : w.toNat < 6 := by omega
    rw [List.getElem?_map, List.getElem?_eq_getElem (show w.toNat < wordsL.length from this), List.getD_eq_getElem?_getD, List.getElem?_eq_getElem (show w.toNat < wordsL.length from this)]
    rfl
  have hwl : (wordsL.getD w.toNat []).length ≤ 6 := by
    have hb : w.toNat = 0 ∨ w.toNat = 1 ∨ w.toNat = 2 ∨ w.toNat = 3 ∨ w.toNat = 4 ∨ w.toNat = 5 := by omega
    rcases hb with h | h | h | h | h | h <;> rw [h] <;> decide
  refine Ct.intro X43 X43_ok rfl (by kernel_rfl) rfl rfl fun g hg => ?_
  repeat (refine Run.go rfl ?_)
  refine Run.drawn [[0, 1, 2, 3, 4, 5], [1, 0, 2, 3, 4, 5], [1, 2, 0, 3, 4, 5]] ⟨[(1, .bp (1, 0) 0), (3, str (wordsL.getD w.toNat []))], [((1, 0), .box (acA ⟨w, p, b⟩).cells)]⟩ (by decide +kernel) (by kernel_rfl) ?_ fun _ hN => ⟨?_, ?_, ?_, trivial⟩
  rotate_left
  iterate 3
    · repeat (refine Run.go rfl ?_)
      refine Run.cs rfl actWords_ct rfl rfl ?_
      refine Run.unpack 4 rfl rfl ?_
      repeat (refine Run.go rfl ?_)
      refine Run.val rfl rfl rfl (ValOk.idxv rfl rfl rfl rfl rfl rfl (by show 0 ≤ w; omega) (by show w < 6; omega)) rfl ?_
      refine Run.val rfl rfl rfl (ValOk.loadv (str (wordsL.getD w.toNat [])) rfl rfl rfl rfl (by simpa using hwt) rfl) rfl ?_
      repeat (refine Run.go rfl ?_)
      exact Run.of hN ⟨rfl, rfl, trivial⟩ ⟨rfl, trivial⟩
  repeat (refine Run.go rfl ?_)
  refine Run.cond rfl (fun h => ?_) (fun h => ?_)
  · have h5 : w = 5 := by simpa using h
    repeat (refine Run.go rfl ?_)
    refine Run.ret hg rfl ?_
    show str _ = str _
    simp [aText, h5]
  · have h5 : ¬ w = 5 := by simpa using h
    obtain ⟨hp, hb⟩ := aOk_num ha h5
    simp only at hp hb
    have lp := dl_len p.toNat (by omega)
    have lb := dl_len b.toNat (by omega)
    repeat (refine Run.go rfl ?_)
    refine Run.draw (by kernel_rfl) (by decide +kernel) ?_
    repeat (refine Quiet.go rfl ?_)
    refine Quiet.val rfl rfl (ValOk.scat (wordsL.getD w.toNat []) [32] rfl rfl rfl (by simp only [List.length_append, List.length_cons, List.length_nil]; omega)) rfl ?_
    repeat (refine Quiet.go rfl ?_)
    refine Quiet.cs rfl rfl rfl rfl rfl (dec8_ct p hp.1 (by omega)) rfl rfl ?_
    refine Quiet.val rfl rfl (ValOk.scat (wordsL.getD w.toNat [] ++ [32]) (Lib.decDigits p.toNat) rfl rfl rfl (by simp only [List.length_append, List.length_cons, List.length_nil]; omega)) rfl ?_
    refine Quiet.val rfl rfl (ValOk.scat (wordsL.getD w.toNat [] ++ [32] ++ Lib.decDigits p.toNat) [32] rfl rfl rfl (by simp only [List.length_append, List.length_cons, List.length_nil]; omega)) rfl ?_
    repeat (refine Quiet.go rfl ?_)
    refine Quiet.cs rfl rfl rfl rfl rfl (dec8_ct b hb.1 (by omega)) rfl rfl ?_
    refine Quiet.val rfl rfl (ValOk.scat (wordsL.getD w.toNat [] ++ [32] ++ Lib.decDigits p.toNat ++ [32]) (Lib.decDigits b.toNat) rfl rfl rfl (by simp only [List.length_append, List.length_cons, List.length_nil]; omega)) rfl ?_
    repeat (refine Quiet.go rfl ?_)
    refine Quiet.nil ?_
    repeat (refine Run.go rfl ?_)
    refine Run.ret hg rfl ?_
    show str _ = str _
    simp [aText, h5]

def aRes (a : Ac) : List UInt8 := if aOk a then aText a else []

noncomputable def X18 : Fx := ⟨Tryz.prog, tys, 18, Tryz.f18, [0]⟩
theorem X18_ok : X18.Ok := ⟨Tryz.func18, tys_ok⟩
theorem implActText_ct (a : Ac) (hr : acRng a) : Ct Tryz.prog 18 [acA a] (str (aRes a)) [] := by
  refine Ct.intro X18 X18_ok rfl (by kernel_rfl) rfl rfl fun g hg => ?_
  repeat (refine Run.go rfl ?_)
  refine Run.cs rfl (isAct_ct a hr) rfl rfl ?_
  repeat (refine Run.go rfl ?_)
  refine Run.cond rfl (fun h => ?_) (fun h => ?_)
  · repeat (refine Run.go rfl ?_)
    refine Run.ret hg rfl ?_
    have h : aOk a = false := by simpa using h
    show str [] = str _
    simp [aRes, h]
  · have h : aOk a = true := by simpa using h
    repeat (refine Run.go rfl ?_)
    refine Run.cs rfl (actText_ct a hr h) rfl rfl ?_
    repeat (refine Run.go rfl ?_)
    refine Run.ret hg rfl ?_
    show str _ = str _
    simp [aRes, h]

end Go.Proofs.YtjajfepcknieeaaGreatDoor
