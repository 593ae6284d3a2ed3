/- Contracts of the program's functions, and what follows from them. -/
import Derived.Test.YtmeejegdgfkogaaGreatDoorE1
set_option linter.unusedVariables false
set_option maxRecDepth 100000
set_option linter.unusedSimpArgs false
namespace Go.Proofs.YtmeejegdgfkogaaGreatDoor
open Go Go.Av

/-! Texts of acts. -/

structure Ac where
  what : Int
  who : Int
  book : Int
  deriving DecidableEq
def acA (a : Ac) : AV := .agg [i8 a.what, i8 a.who, i8 a.book]
def acRng (a : Ac) : Prop := i8r a.what ∧ i8r a.who ∧ i8r a.book
def ac0 : Ac := ⟨0, 0, 0⟩
theorem ac_rf (a : Ac) : (acA a).rf = true := rfl
theorem ac_frz (a : Ac) : (acA a).frz = acA a := rfl
theorem frzA (l : List Ac) : AV.frzL (l.map acA) = l.map acA := frzL_map ac_frz l
theorem rfA (l : List Ac) : AV.rfL (l.map acA) = true := rfL_map ac_rf l

/-- An act as told. -/
def aOk (a : Ac) : Bool := if a.what = 5 then decide (a.who = 0) && decide (a.book = 0) else inr a.what 0 4 && inr a.who 0 49 && inr a.book 0 59
/-- The text of an act. -/
def aText (a : Ac) : List UInt8 :=
  let w := wordsL.getD a.what.toNat []
  if a.what = 5 then w else w ++ [32] ++ Lib.decDigits a.who.toNat ++ [32] ++ Lib.decDigits a.book.toNat

theorem aOk_what {a : Ac} (h : aOk a = true) : 0 ≤ a.what ∧ a.what ≤ 5 := by
  unfold aOk at h
  split at h
  · omega
  · simp only [Bool.and_eq_true, inr, decide_eq_true_eq] at h
    omega
theorem aOk_num {a : Ac} (h : aOk a = true) (h5 : a.what ≠ 5) : (0 ≤ a.who ∧ a.who ≤ 49) ∧ (0 ≤ a.book ∧ a.book ≤ 59) := by
  unfold aOk at h
  rw [if_neg h5] at h
  simp only [Bool.and_eq_true, inr, decide_eq_true_eq] at h
  omega

def aRes (a : Ac) : List UInt8 := if aOk a then aText a else []

theorem str_neq (l m : List UInt8) : (!((⟨l.toArray⟩ : ByteArray).toList == (⟨m.toArray⟩ : ByteArray).toList)) = !decide (l = m) := by
  rw [ByteArray.toList_mk, ByteArray.toList_mk]
  by_cases h : l = m <;> simp [h]

end Go.Proofs.YtmeejegdgfkogaaGreatDoor
