/- Contracts of the program's functions, and what follows from them. -/
import Derived.Test.YtjajfepcknieeaaGreatDoorE35
import Derived.Test.YtjajfepcknieeaaGreatDoorE55
set_option linter.unusedVariables false
set_option maxRecDepth 100000
set_option linter.unusedSimpArgs false
namespace Go.Proofs.YtjajfepcknieeaaGreatDoor
open Go Go.Av

/-! A drawn act's text reads back: with no program in sight. -/

theorem rd_all : ∀ w : Fin 5, ∀ p q : Fin 4, raS (aText ⟨(w.val : Int), (p.val : Int), (q.val : Int)⟩) = (⟨(w.val : Int), (p.val : Int), (q.val : Int)⟩, true) ∧ (10 : UInt8) ∉ aText ⟨(w.val : Int), (p.val : Int), (q.val : Int)⟩ := by decide +kernel
theorem rd_five : raS (aText ⟨5, 0, 0⟩) = (⟨5, 0, 0⟩, true) ∧ (10 : UInt8) ∉ aText ⟨5, 0, 0⟩ := by decide +kernel

theorem rd_dr {a : Ac} (h : acDr a) : raS (aText a) = (a, true) ∧ (10 : UInt8) ∉ aText a := by
  obtain ⟨w, p, q⟩ := a
  obtain ⟨⟨h1, h1'⟩, ⟨h2, h2'⟩, ⟨h3, h3'⟩, h4⟩ := h
  simp only at h1 h1' h2 h2' h3 h3' h4
  by_cases e : w = 5
  · obtain ⟨e2, e3⟩ := h4 e
    subst e; subst e2; subst e3
    exact rd_five
  · have := rd_all ⟨w.toNat, by omega⟩ ⟨p.toNat, by omega⟩ ⟨q.toNat, by omega⟩
    simp only [Int.toNat_of_nonneg h1, Int.toNat_of_nonneg h2, Int.toNat_of_nonneg h3] at this
    exact this
theorem rdA_dr {a : Ac} (h : acDr a) : rdA (aText a) = (a, 0) := by rw [rdA, (rd_dr h).1]; rfl

theorem spl_lns : ∀ (l : List Ac), (∀ a ∈ l, acDr a) → spl 10 (lns aText l) = l.map aText ++ [[]]
  | [], _ => rfl
  | a :: r, h => by
    have h1 := (rd_dr (h a (by simp))).2
    have h2 := spl_lns r fun b hb => h b (List.mem_cons_of_mem _ hb)
    have e : lns aText (a :: r) = aText a ++ 10 :: lns aText r := by simp [lns]
    rw [e, spl_hit h1, h2]
    rfl
/-- A drawn list's text reads back. -/
theorem rsA_dr {l : List Ac} (h : ∀ a ∈ l, acDr a) (hl : l.length ≤ 200) : rsA (asRes l) = (l, 0) := by
  have hall : l.all aOk = true := List.all_eq_true.2 fun a ha => acDr_ok (h a ha)
  have he : asRes l = lns aText l := by rw [asRes, if_pos ⟨hl, hall⟩]
  rw [he]
  have hs := spl_lns l h
  have hlines : lines (lns aText l) = l.map aText := by rw [lines, hs, List.dropLast_concat]
  obtain ⟨w, q1, q2, q3⟩ := lines_facts (lns aText l)
  rw [hs, hlines] at q1
  have hw : w = [] := by
    have := List.append_cancel_left q1
    simpa using this.symm
  rw [hlines, List.length_map] at q3
  have hrd : rdOk (lns aText l) 200 = true := by
    rw [rdOk, ← q2, q3]
    simp [hw, hl]
  have hra : (l.map aText).all (fun t => (raS t).2) = true := by
    rw [List.all_map, List.all_eq_true]
    intro a ha
    show (raS (aText a)).2 = true
    rw [(rd_dr (h a ha)).1]
  rw [rsA, hlines, hrd, hra]
  simp only [Bool.and_self, if_true, List.map_map]
  congr 1
  refine (List.map_congr_left fun a ha => ?_).trans (List.map_id _)
  show (raS (aText a)).1 = a
  rw [(rd_dr (h a ha)).1]
end Go.Proofs.YtjajfepcknieeaaGreatDoor
