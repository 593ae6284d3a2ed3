/- Contracts of the program's functions, and what follows from them. -/
import Derived.Test.YtahdgoddpkmhbaaD15
set_option linter.unusedVariables false
namespace Go.Proofs.Ytahdgoddpkmhbaa
open Go Go.Av

/-! Whether somebody may take a book. -/

def stMay (w : Int) (c : Cp) : Bool := decide (c.st = 0) || (decide (c.st = 2) && decide (c.who = w))
def mayP (d : Dk) (w : Int) (c : Cp) : Bool := stMay w c && decide ((idxs (lentTo w) d.cs).length < 3) && !d.cs.any (fun x => lentTo w x && over d.day x)

theorem mem_idxs {α : Type} {p : α → Bool} {l : List α} {i : Int} : i ∈ idxs p l ↔ ∃ j : Nat, ∃ h : j < l.length, i = j ∧ p l[j] = true := by
  simp only [idxs, List.mem_map, List.mem_filter, Prod.exists, List.mem_zipIdx_iff_getElem?]
  constructor
  · rintro ⟨a, b, ⟨h1, h2⟩, rfl⟩
    obtain ⟨hb, rfl⟩ := List.getElem?_eq_some_iff.mp h1
    exact ⟨b, hb, rfl, h2⟩
  · rintro ⟨j, hj, rfl, h⟩
    exact ⟨l[j], j, ⟨List.getElem?_eq_getElem hj, h⟩, rfl⟩

theorem any_idxs {l : List Cp} {p q : Cp → Bool} : (l.any fun x => p x && q x) = (idxs p l).any fun i => q (l.getD i.toNat cp0) := by
  rw [Bool.eq_iff_iff, List.any_eq_true, List.any_eq_true]
  constructor
  · rintro ⟨x, hx, hpq⟩
    obtain ⟨j, hj, rfl⟩ := List.getElem_of_mem hx
    rw [Bool.and_eq_true] at hpq
    exact ⟨(j : Int), mem_idxs.mpr ⟨j, hj, rfl, hpq.1⟩, by simpa [hj] using hpq.2⟩
  · rintro ⟨i, hi, hq⟩
    obtain ⟨j, hj, rfl, hp⟩ := mem_idxs.mp hi
    refine ⟨l[j], by simp, ?_⟩
    rw [hp]
    simpa [hj] using hq

def mayRes (d : Dk) (who book : Int) : Bool × Int := if dCode d who book = 0 then (mayP d who (d.cs.getD book.toNat cp0), 0) else (false, dCode d who book)

end Go.Proofs.Ytahdgoddpkmhbaa
