/- Contracts of the program's functions, and what follows from them. -/
import Derived.Test.YtahdgoddpkmhbaaD14
set_option linter.unusedVariables false
namespace Go.Proofs.Ytahdgoddpkmhbaa
open Go Go.Av

theorem fi_le {α : Type} (p : α → Bool) (l : List α) : fi p l ≤ l.length := by
  unfold fi
  split <;> omega

def waitP (d : Dk) (c : Cp) (p : Int) : Int := max 0 (c.due - d.day) + (if c.st = 2 then 28 else 0) + p * 35
def waitRes (d : Dk) (who book : Int) : Int × Int := if dCode d who book = 0 then (if plq d who book < 0 then (0, 6) else (waitP d (d.cs.getD book.toNat cp0) (plq d who book), 0)) else (0, dCode d who book)

theorem placeRes_0 {d : Dk} {who book : Int} (h : (placeRes d who book).2 = 0) : dCode d who book = 0 ∧ ¬ plq d who book < 0 ∧ (placeRes d who book).1 = plq d who book := by
  unfold placeRes at h ⊢
  split at h
  · rename_i h0
    split at h
    · cases h
    · rename_i h1
      rw [if_pos h0, if_neg h1]
      exact ⟨h0, h1, rfl⟩
  · contradiction

end Go.Proofs.Ytahdgoddpkmhbaa
