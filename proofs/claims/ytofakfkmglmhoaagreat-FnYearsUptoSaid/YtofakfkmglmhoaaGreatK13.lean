/- Contracts of the program's functions, and what follows from them. -/
import Derived.Test.YtofakfkmglmhoaaGreatK12
set_option linter.unusedVariables false
set_option maxRecDepth 100000
set_option linter.unusedSimpArgs false
namespace Go.Proofs.YtofakfkmglmhoaaGreat
open Go Go.Av

/-! Rows of places that are taken, or free: with no program in sight. -/

/-- The longest row of t among the first places: where it begins, how long it is, and how long the row is that ends here. -/
def lg (D : List Bool) (t : Bool) : Nat → Nat × Nat × Nat
  | 0 => (0, 0, 0)
  | i + 1 => if D.getD i false = t then
      (if (lg D t i).2.1 < (lg D t i).2.2 + 1 then (i - (lg D t i).2.2, (lg D t i).2.2 + 1, (lg D t i).2.2 + 1) else ((lg D t i).1, (lg D t i).2.1, (lg D t i).2.2 + 1))
    else ((lg D t i).1, (lg D t i).2.1, 0)

structure LgOk (D : List Bool) (t : Bool) (i f m w : Nat) : Prop where
  wi : w ≤ i
  fm : f + m ≤ i
  row : ∀ j, f ≤ j → j < f + m → D.getD j false = t
  now : ∀ j, i - w ≤ j → j < i → D.getD j false = t
  ex : 0 < m ↔ ∃ j, j < i ∧ D.getD j false = t
  wm : w ≤ m

theorem lg_ok (D : List Bool) (t : Bool) : ∀ i, LgOk D t i (lg D t i).1 (lg D t i).2.1 (lg D t i).2.2
  | 0 => ⟨Nat.le_refl _, Nat.le_refl _, fun j h1 h2 => by exact absurd h2 (Nat.not_lt_zero _), fun j h1 h2 => absurd h2 (Nat.not_lt_zero _), ⟨fun h => absurd h (Nat.lt_irrefl _), fun ⟨j, h, _⟩ => absurd h (Nat.not_lt_zero _)⟩, Nat.le_refl _⟩
  | i + 1 => by
    obtain ⟨a1, a2, a3, a4, a5, a6⟩ := lg_ok D t i
    rw [lg]
    generalize (lg D t i).1 = f at *
    generalize (lg D t i).2.1 = m at *
    generalize (lg D t i).2.2 = w at *
    by_cases h : D.getD i false = t
    · rw [if_pos h]
      have hn : ∀ j, i + 1 - (w + 1) ≤ j → j < i + 1 → D.getD j false = t := by
        intro j h1 h2
        by_cases e : j = i
        · rw [e]; exact h
        · exact a4 j (by omega) (by omega)
      by_cases h2 : m < w + 1
      · rw [if_pos h2]
        exact ⟨by show w + 1 ≤ i + 1; omega, by show i - w + (w + 1) ≤ i + 1; omega, fun j g1 g2 => hn j (by have g1 : i - w ≤ j := g1; omega) (by have g2 : j < i - w + (w + 1) := g2; omega), hn,
          ⟨fun _ => ⟨i, by omega, h⟩, fun _ => by show 0 < w + 1; omega⟩, Nat.le_refl _⟩
      · rw [if_neg h2]
        exact ⟨by show w + 1 ≤ i + 1; omega, by show f + m ≤ i + 1; omega, a3, hn, ⟨fun _ => ⟨i, by omega, h⟩, fun _ => by show 0 < m; omega⟩, by show w + 1 ≤ m; omega⟩
    · rw [if_neg h]
      refine ⟨Nat.zero_le _, by show f + m ≤ i + 1; omega, a3, fun j h1 h2 => by have h1 : i + 1 - 0 ≤ j := h1; omega, ?_, Nat.zero_le _⟩
      show 0 < m ↔ _
      rw [a5]
      constructor
      · rintro ⟨j, h1, h2⟩
        exact ⟨j, by omega, h2⟩
      · rintro ⟨j, h1, h2⟩
        refine ⟨j, ?_, h2⟩
        by_cases e : j = i
        · rw [e] at h2; exact absurd h2 h
        · omega

theorem hasG_idxs {α : Type} {p : α → Bool} {l : List α} {j : Nat} (hj : j < l.length) : (idxs p l).any (fun x => x == (j : Int)) = p l[j] := by
  rw [Bool.eq_iff_iff, List.any_eq_true]
  constructor
  · rintro ⟨x, hx, e⟩
    obtain ⟨i, hi, rfl, hp⟩ := mem_idxs.1 hx
    have : i = j := by simp at e; omega
    subst this
    exact hp
  · intro h
    exact ⟨j, mem_idxs.2 ⟨j, hj, rfl, h⟩, by simp⟩
theorem idxsG_pos {α : Type} {p : α → Bool} {l : List α} : 0 < (idxs p l).length ↔ ∃ j, ∃ h : j < l.length, p l[j] = true := by
  rw [List.length_pos_iff_exists_mem]
  constructor
  · rintro ⟨x, hx⟩
    obtain ⟨i, hi, _, hp⟩ := mem_idxs.1 hx
    exact ⟨i, hi, hp⟩
  · rintro ⟨j, h, hp⟩
    exact ⟨j, mem_idxs.2 ⟨j, h, rfl, hp⟩⟩

theorem tk_getD {l : List Pl} {n i : Nat} (h : i < n) : (tk l n).getD i false = l.any fun x => x.p == (i : Int) := by
  rw [List.getD_eq_getElem?_getD, tk_get h]
  rfl

/-- A row is there exactly if a place is so. -/
theorem crowd_ok {n : Int} {l : List Pl} (h : VR n l) : 0 < (lg (tk l n.toNat) true n.toNat).2.1 ↔ 0 < l.length := by
  rw [(lg_ok (tk l n.toNat) true n.toNat).ex]
  constructor
  · rintro ⟨j, hj, e⟩
    rw [tk_getD hj, List.any_eq_true] at e
    obtain ⟨x, hx, _⟩ := e
    exact List.length_pos_of_mem hx
  · intro hl
    have hr := h.rng 0 hl
    rw [pa_get hl] at hr
    refine ⟨l[0].p.toNat, by omega, ?_⟩
    rw [tk_getD (by omega), List.any_eq_true]
    exact ⟨l[0], List.getElem_mem hl, by simp; omega⟩
theorem gap_ok {n : Int} {l : List Pl} : 0 < (lg (tk l n.toNat) false n.toNat).2.1 ↔ 0 < (idxs (fun b => !b) (tk l n.toNat)).length := by
  rw [(lg_ok (tk l n.toNat) false n.toNat).ex, idxsG_pos]
  constructor
  · rintro ⟨j, hj, e⟩
    refine ⟨j, by rw [tk_len]; exact hj, ?_⟩
    rw [List.getD_eq_getElem?_getD, List.getElem?_eq_getElem (by rw [tk_len]; exact hj)] at e
    have e : (tk l n.toNat)[j]'(by rw [tk_len]; exact hj) = false := e
    rw [e]
    rfl
  · rintro ⟨j, hj, e⟩
    refine ⟨j, by rw [tk_len] at hj; exact hj, ?_⟩
    rw [List.getD_eq_getElem?_getD, List.getElem?_eq_getElem hj]
    show (tk l n.toNat)[j] = false
    simpa using e
/-- In a row of t, all places are so. -/
theorem row_free {n : Int} {l : List Pl} {t : Bool} {k : Nat} (h1 : (lg (tk l n.toNat) t n.toNat).1 ≤ k) (h2 : k < (lg (tk l n.toNat) t n.toNat).1 + (lg (tk l n.toNat) t n.toNat).2.1) :
    (idxs (fun b => !b) (tk l n.toNat)).any (fun x => x == (k : Int)) = !t := by
  have hL := lg_ok (tk l n.toNat) t n.toNat
  have hk : k < (tk l n.toNat).length := by have := hL.fm; rw [tk_len]; omega
  have e := hL.row k h1 h2
  rw [List.getD_eq_getElem?_getD, List.getElem?_eq_getElem hk] at e
  have e : (tk l n.toNat)[k] = t := e
  rw [hasG_idxs hk, e]
end Go.Proofs.YtofakfkmglmhoaaGreat
