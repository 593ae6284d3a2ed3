/- Contracts of the program's functions, and what follows from them. -/
import Derived.Test.YtilomajfcjpmnaaGreatDoorE23
set_option linter.unusedVariables false
set_option maxRecDepth 100000
set_option linter.unusedSimpArgs false
namespace Go.Proofs.YtilomajfcjpmnaaGreatDoor
open Go Go.Av

/-! Sorted lists of texts, each once. -/

theorem bytesLess_lt : ∀ x y : List UInt8, Op.bytesLess x y = decide (x < y)
  | [], [] => by simp [Op.bytesLess]
  | [], _ :: _ => by simp [Op.bytesLess]
  | _ :: _, [] => by simp [Op.bytesLess]
  | a :: x, b :: y => by
    rw [Op.bytesLess, bytesLess_lt x y]
    simp only [List.cons_lt_cons_iff]
    by_cases h1 : a < b <;> by_cases h2 : a = b <;> simp [h1, h2]

def SS (l : List (List UInt8)) : Prop := l.Pairwise (· < ·)
theorem lt_of_le_ne' {a b : List UInt8} (h : a ≤ b) (h2 : a ≠ b) : a < b := by
  rcases Classical.em (a < b) with h3 | h3
  · exact h3
  · exact absurd (List.le_antisymm h (List.not_lt.1 h3)) h2

theorem ss_ext : ∀ {l m : List (List UInt8)}, SS l → SS m → (∀ x, x ∈ l ↔ x ∈ m) → l = m
  | [], [], _, _, _ => rfl
  | [], b :: m, _, _, h => absurd ((h b).2 (by simp)) (by simp)
  | a :: l, [], _, _, h => absurd ((h a).1 (by simp)) (by simp)
  | a :: l, b :: m, hl, hm, h => by
    obtain ⟨h1, h2⟩ := List.pairwise_cons.1 hl
    obtain ⟨h3, h4⟩ := List.pairwise_cons.1 hm
    have hab : a = b := by
      rcases List.mem_cons.1 ((h a).1 (by simp)) with e | e
      · exact e
      · rcases List.mem_cons.1 ((h b).2 (by simp)) with e2 | e2
        · exact e2.symm
        · exact absurd (List.lt_trans (h3 a e) (h1 b e2)) (List.lt_irrefl b)
    subst hab
    congr 1
    refine ss_ext h2 h4 fun x => ⟨fun hx => ?_, fun hx => ?_⟩
    · rcases List.mem_cons.1 ((h x).1 (by simp [hx])) with e | e
      · subst e; exact absurd (h1 _ hx) (List.lt_irrefl _)
      · exact e
    · rcases List.mem_cons.1 ((h x).2 (by simp [hx])) with e | e
      · subst e; exact absurd (h3 _ hx) (List.lt_irrefl _)
      · exact e

theorem cmp_facts (d : Array (List UInt8)) (hs : ∀ i j, i < j → j < d.size → d[i]! ≤ d[j]!) : ∀ m, m ≤ d.size → SS (Lib.compactUpTo d m) ∧ (∀ x, x ∈ Lib.compactUpTo d m ↔ ∃ i, i < m ∧ x = d[i]!) ∧ (Lib.compactUpTo d m).length ≤ m
  | 0, _ => by
    refine ⟨by simp [SS, Lib.compactUpTo], fun x => ?_, by simp [Lib.compactUpTo]⟩
    simp [Lib.compactUpTo]
  | m + 1, hm => by
    obtain ⟨h1, h2, h3⟩ := cmp_facts d hs m (by omega)
    rw [Lib.compactUpTo_succ]
    by_cases hk : Lib.keeps d m = true
    · rw [if_pos hk]
      refine ⟨?_, fun x => ?_, by simp; omega⟩
      · refine List.pairwise_append.2 ⟨h1, by simp, fun x hx y hy => ?_⟩
        rw [List.mem_singleton] at hy
        subst hy
        obtain ⟨i, hi, rfl⟩ := (h2 x).1 hx
        have hm0 : m ≠ 0 := by omega
        have hne : d[m]! ≠ d[m - 1]! := by
          have := of_decide_eq_true hk
          rcases this with e | e
          · exact absurd e hm0
          · exact e
        have hle : d[i]! ≤ d[m - 1]! := by
          by_cases e : i = m - 1
          · subst e; exact List.le_refl _
          · exact hs i (m - 1) (by omega) (by omega)
        have hlt : d[m - 1]! < d[m]! := lt_of_le_ne' (hs (m - 1) m (by omega) (by omega)) hne.symm
        exact List.lt_of_le_of_lt hle hlt
      · rw [List.mem_append, h2 x, List.mem_singleton]
        constructor
        · rintro (⟨i, hi, rfl⟩ | rfl)
          · exact ⟨i, by omega, rfl⟩
          · exact ⟨m, by omega, rfl⟩
        · rintro ⟨i, hi, rfl⟩
          by_cases e : i = m
          · subst e; exact .inr rfl
          · exact .inl ⟨i, by omega, rfl⟩
    · rw [if_neg hk, List.append_nil]
      refine ⟨h1, fun x => ?_, by omega⟩
      rw [h2 x]
      constructor
      · rintro ⟨i, hi, rfl⟩
        exact ⟨i, by omega, rfl⟩
      · rintro ⟨i, hi, rfl⟩
        by_cases e : i = m
        · subst e
          have hk : ¬ (i = 0 ∨ d[i]! ≠ d[i - 1]!) := fun h => hk (decide_eq_true h)
          simp only [not_or, ne_eq, Classical.not_not] at hk
          exact ⟨i - 1, by omega, hk.2⟩
        · exact ⟨i, by omega, rfl⟩

theorem lbsOf_facts (t : List UInt8) (l : List (List UInt8)) : SS (lbsOf t l) ∧ (∀ x, x ∈ lbsOf t l ↔ x ∈ l ∧ x ≠ t ∧ isLb x = true) ∧ (lbsOf t l).length ≤ l.length := by
  have hp := List.pairwise_mergeSort (le := fun x y : List UInt8 => decide (x ≤ y)) (fun a b c h1 h2 => by simp at *; exact List.le_trans h1 h2) (fun a b => by simp; exact List.le_total a b) (l.filter fun x => !(decide (x = t) || !isLb x))
  have hmem : ∀ x, x ∈ srtS (l.filter fun x => !(decide (x = t) || !isLb x)) ↔ x ∈ l ∧ x ≠ t ∧ isLb x = true := by
    intro x
    unfold srtS
    rw [List.mem_mergeSort, List.mem_filter]
    simp
  have hln : (srtS (l.filter fun x => !(decide (x = t) || !isLb x))).length ≤ l.length := by
    rw [srtS_len]
    exact List.length_filter_le _ _
  unfold lbsOf
  change List.Pairwise _ (srtS _) at hp
  generalize srtS (l.filter fun x => !(decide (x = t) || !isLb x)) = z at hp hmem hln
  have hs : ∀ i j, i < j → j < z.toArray.size → z.toArray[i]! ≤ z.toArray[j]! := by
    intro i j hij hj
    have hj : j < z.length := by simpa using hj
    have := List.pairwise_iff_getElem.1 hp i j (by omega) hj hij
    rw [getElem!_pos _ i (by simp; omega), getElem!_pos _ j (by simpa using hj)]
    simpa using this
  obtain ⟨h1, h2, h3⟩ := cmp_facts z.toArray hs z.length (by simp)
  refine ⟨h1, fun x => ?_, Nat.le_trans h3 hln⟩
  rw [← hmem x]
  show x ∈ Lib.compactUpTo _ _ ↔ _
  rw [h2 x]
  constructor
  · rintro ⟨i, hi, rfl⟩
    rw [getElem!_pos _ i (by simpa using hi)]
    simp
  · intro hx
    obtain ⟨i, hi, rfl⟩ := List.getElem_of_mem hx
    refine ⟨i, hi, ?_⟩
    rw [getElem!_pos _ i (by simpa using hi)]
    simp

/-! A text put into its place. -/

def atS (x : List UInt8) (l : List (List UInt8)) : Nat := l.findIdx fun a => !decide (a < x)
def putS (x : List UInt8) (l : List (List UInt8)) : List (List UInt8) := if l[atS x l]? = some x then l else l.take (atS x l) ++ x :: l.drop (atS x l)
theorem putS_facts {x : List UInt8} {l : List (List UInt8)} (h : SS l) : SS (putS x l) ∧ (∀ y, y ∈ putS x l ↔ y = x ∨ y ∈ l) ∧ (putS x l).length ≤ l.length + 1 := by
  have hle : atS x l ≤ l.length := List.findIdx_le_length
  have hbef : ∀ y ∈ l.take (atS x l), y < x := by
    intro y hy
    obtain ⟨i, hi, rfl⟩ := List.getElem_of_mem hy
    have hi2 : i < atS x l := by simp at hi; omega
    have := List.not_of_lt_findIdx hi2
    simp only [List.getElem_take]
    simpa using this
  by_cases hx : l[atS x l]? = some x
  · have e : putS x l = l := by rw [putS, if_pos hx]
    rw [e]
    refine ⟨h, fun y => ⟨.inr, ?_⟩, by omega⟩
    rintro (rfl | hy)
    · exact List.mem_of_getElem? hx
    · exact hy
  · have e : putS x l = l.take (atS x l) ++ x :: l.drop (atS x l) := by rw [putS, if_neg hx]
    rw [e]
    have hsp : SS (l.take (atS x l) ++ l.drop (atS x l)) := by rw [List.take_append_drop]; exact h
    obtain ⟨s1, s2, s3⟩ := List.pairwise_append.1 hsp
    have haft : ∀ y ∈ l.drop (atS x l), x < y := by
      by_cases hlt : atS x l < l.length
      · have hge : ¬ l[atS x l] < x := by
          have h2 : (!decide (l[atS x l] < x)) = true := List.findIdx_getElem (w := hlt)
          intro hh
          rw [decide_eq_true hh] at h2
          cases h2
        have hne : l[atS x l] ≠ x := fun e => hx (by rw [List.getElem?_eq_getElem hlt, e])
        have hgt : x < l[atS x l] := lt_of_le_ne' (List.not_lt.1 hge) (fun e => hne e.symm)
        rw [List.drop_eq_getElem_cons hlt] at s2 ⊢
        intro y hy
        rcases List.mem_cons.1 hy with rfl | hy
        · exact hgt
        · exact List.lt_trans hgt ((List.pairwise_cons.1 s2).1 y hy)
      · rw [List.drop_eq_nil_of_le (by omega)]
        simp
    refine ⟨?_, fun y => ?_, by simp; omega⟩
    · refine List.pairwise_append.2 ⟨s1, List.pairwise_cons.2 ⟨haft, s2⟩, fun a ha b hb => ?_⟩
      rcases List.mem_cons.1 hb with rfl | hb
      · exact hbef a ha
      · exact s3 a ha b hb
    · have hm : y ∈ l ↔ y ∈ l.take (atS x l) ∨ y ∈ l.drop (atS x l) := by
        rw [← List.mem_append, List.take_append_drop]
      rw [List.mem_append, List.mem_cons, hm]
      constructor
      · rintro (h | h | h)
        · exact .inr (.inl h)
        · exact .inl h
        · exact .inr (.inr h)
      · rintro (h | h | h)
        · exact .inr (.inl h)
        · exact .inl h
        · exact .inr (.inr h)
end Go.Proofs.YtilomajfcjpmnaaGreatDoor
