/- Contracts of the program's functions, and what follows from them. -/
import Derived.Test.YtjajfepcknieeaaGreatDoorE16
set_option linter.unusedVariables false
set_option maxRecDepth 100000
set_option linter.unusedSimpArgs false
namespace Go.Proofs.YtjajfepcknieeaaGreatDoor
open Go Go.Av

/-! Acts out of a text: the reference. -/

theorem rfS (l : List (List UInt8)) : AV.rfL (l.map str) = true := rfL_map (fun _ => rfl) l
theorem frzS (l : List (List UInt8)) : AV.frzL (l.map str) = l.map str := frzL_map (fun _ => rfl) l

theorem str_eq (l m : List UInt8) : ((⟨l.toArray⟩ : ByteArray).toList == (⟨m.toArray⟩ : ByteArray).toList) = decide (l = m) := by
  rw [ByteArray.toList_mk, ByteArray.toList_mk]
  by_cases h : l = m
  · subst h; simp
  · simp [h]

end Go.Proofs.YtjajfepcknieeaaGreatDoor
