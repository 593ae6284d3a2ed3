/- Contracts of the program's functions, and what follows from them. -/
import Derived.Test.YtofakfkmglmhoaaGreatK7
import Derived.Test.YtofakfkmglmhoaaGreatK5
set_option linter.unusedVariables false
set_option maxRecDepth 100000
set_option linter.unusedSimpArgs false
namespace Go.Proofs.YtofakfkmglmhoaaGreat
open Go Go.Av

/-! Books that are added, year by year or all at once: with no program in sight. -/

/-- A book put into its place. -/
def insB (L : List Bk) (b : Bk) : List Bk := L.take (L.findIdx fun x => decide (0 < uc x b)) ++ [b] ++ L.drop (L.findIdx fun x => decide (0 < uc x b))
theorem insB_len (L : List Bk) (b : Bk) : (insB L b).length = L.length + 1 := by
  have := List.findIdx_le_length (p := fun x => decide (0 < uc x b)) (xs := L)
  simp [insB]
  omega
theorem insAll_len : ∀ (lst L : List Bk), (lst.foldl insB L).length = L.length + lst.length
  | [], L => rfl
  | b :: r, L => by
    rw [List.foldl_cons, insAll_len r, insB_len, List.length_cons]
    omega

theorem pbs_shf (l : List Pl) (i c : Nat) (d : Int) : pbs (shf l i c d) = pbs l := by
  unfold shf pbs
  rw [List.map_append, List.map_append, List.map_map]
  have e : ((fun x : Pl => x.b) ∘ mvP d) = fun x => x.b := rfl
  rw [e, ← List.map_append, ← List.map_append, ← List.drop_drop, List.append_assoc, List.take_append_drop, List.take_append_drop]
theorem pbs_sh (n : Int) (l : List Pl) (k : Nat) : pbs (sh n l k) = pbs l := by
  unfold sh
  split
  · rfl
  split
  · exact pbs_shf _ _ _ _
  · exact pbs_shf _ _ _ _
theorem idx_pbs (l : List Pl) (b : Bk) : idx l b = (pbs l).findIdx fun x => decide (0 < uc x b) := by
  unfold idx pbs
  rw [List.findIdx_map]
  rfl
theorem pbs_adL (n : Int) (l : List Pl) (b : Bk) : pbs (adL n l b) = insB (pbs l) b := by
  unfold adL ins
  have h : ∀ (S : List Pl) (k : Nat) (q : Int), pbs (S.take k ++ [⟨q, b⟩] ++ S.drop k) = (pbs S).take k ++ [b] ++ (pbs S).drop k := by
    intro S k q
    unfold pbs
    rw [List.map_append, List.map_append, List.map_take, List.map_drop]
    rfl
  rw [h, pbs_sh, idx_pbs]
  rfl
theorem pbs_gl (n most : Int) (l : List Pl) (b : Bk) : pbs (gl n most l b) = pbs l := by
  unfold gl
  split
  · exact sp_pbs _ _
  · rfl

/-- What is known of a rack that books are put into. -/
structure RkK (n : Int) (l : List Pl) (L : List Bk) : Prop where
  v : VR n l
  r : ∀ x ∈ l, bkRng x.b
  e : pbs l = L
theorem RkK.len {n : Int} {l : List Pl} {L : List Bk} (h : RkK n l L) : l.length = L.length := by rw [← h.e, pbs_len]

def bOk (b : Bk) : Prop := bkRng b ∧ vB b = true

theorem adAll_ok : ∀ (lst : List Bk) {n : Int} {l : List Pl} {L : List Bk} (s : Nat), RkK n l L → (∀ b ∈ lst, bOk b) →
    (((L.length + lst.length : Nat) : Int) ≤ n ∧ ∃ l' s', adAll n lst l s = (⟨n, l'⟩, s', 0) ∧ RkK n l' (lst.foldl insB L)) ∨ (n < ((L.length + lst.length : Nat) : Int) ∧ adAll n lst l s = (rk0, 0, 3))
  | [], n, l, L, s, h, _ => .inl ⟨by have := h.v.len; rw [h.len] at this; simpa using this, l, s, rfl, h⟩
  | b :: r, n, l, L, s, h, hb => by
    have hbb := hb b (by simp)
    have hl := h.len
    have hn := h.v.len
    rw [adAll]
    by_cases e : (l.length : Int) = n
    · rw [if_pos e]
      refine .inr ⟨?_, rfl⟩
      rw [List.length_cons]
      omega
    · rw [if_neg e]
      obtain ⟨q1, q2, q3, q4⟩ := h.v.added (b := b) (by omega) h.r hbb.1 hbb.2
      have hK : RkK n (adL n l b) (insB L b) := ⟨q1, fun x hx => by
        rcases q4 x hx with e | ⟨y, hy, e⟩
        · rw [e]; exact hbb.1
        · rw [e]; exact h.r y hy, by rw [pbs_adL, h.e]⟩
      have ih := adAll_ok r (s + adM n l b) hK (fun x hx => hb x (List.mem_cons_of_mem _ hx))
      rw [insB_len] at ih
      rw [List.foldl_cons, List.length_cons, show L.length + (r.length + 1) = L.length + 1 + r.length by omega]
      exact ih

theorem gy1_ok : ∀ (lst : List Bk) {n : Int} (most : Int) {l : List Pl} {L : List Bk} (s : Nat), RkK n l L → (∀ b ∈ lst, bOk b) →
    (((L.length + lst.length : Nat) : Int) ≤ n ∧ ∃ l' s', gy1 n most lst l s = some (l', s') ∧ RkK n l' (lst.foldl insB L)) ∨ (n < ((L.length + lst.length : Nat) : Int) ∧ gy1 n most lst l s = none)
  | [], n, most, l, L, s, h, _ => .inl ⟨by have := h.v.len; rw [h.len] at this; simpa using this, l, s, rfl, h⟩
  | b :: r, n, most, l, L, s, h, hb => by
    have hbb := hb b (by simp)
    have hl := h.len
    have hn := h.v.len
    rw [gy1]
    by_cases e : (l.length : Int) = n
    · rw [if_pos e]
      refine .inr ⟨?_, rfl⟩
      rw [List.length_cons]
      omega
    · rw [if_neg e]
      obtain ⟨q1, q2, _⟩ := h.v.gstep most (b := b) e h.r hbb.1 hbb.2
      have hK : RkK n (adL n (gl n most l b) b) (insB L b) := ⟨q1, q2, by rw [pbs_adL, pbs_gl, h.e]⟩
      have ih := gy1_ok r most (s + gm n most l b + adM n (gl n most l b) b) hK (fun x hx => hb x (List.mem_cons_of_mem _ hx))
      rw [insB_len] at ih
      rw [List.foldl_cons, List.length_cons, show L.length + (r.length + 1) = L.length + 1 + r.length by omega]
      exact ih

theorem gyA_ok : ∀ (ys : List (List Bk)) {n : Int} (most : Int) {l : List Pl} {L : List Bk} (ms : List Int), RkK n l L → (∀ y ∈ ys, ∀ b ∈ y, bOk b) →
    (((L.length + ys.flatten.length : Nat) : Int) ≤ n ∧ ∃ l' ms', gyA n most ys l ms = some (l', ms') ∧ ms'.length = ms.length + ys.length ∧ RkK n l' (ys.flatten.foldl insB L)) ∨
      (n < ((L.length + ys.flatten.length : Nat) : Int) ∧ gyA n most ys l ms = none)
  | [], n, most, l, L, ms, h, _ => .inl ⟨by have := h.v.len; rw [h.len] at this; simpa using this, l, ms, rfl, rfl, h⟩
  | y :: r, n, most, l, L, ms, h, hb => by
    have hle : (y :: r).flatten.length = y.length + r.flatten.length := by simp
    rw [hle, gyA]
    rcases gy1_ok y most 0 h (hb y (by simp)) with ⟨h1, l', s', e, hK⟩ | ⟨h1, e⟩
    · rw [e]
      have ih := gyA_ok r most (ms ++ [(s' : Int)]) hK (fun x hx => hb x (List.mem_cons_of_mem _ hx))
      rw [insAll_len] at ih
      rw [show L.length + (y.length + r.flatten.length) = L.length + y.length + r.flatten.length by omega, List.flatten_cons, List.foldl_append]
      rcases ih with ⟨i1, l2, ms2, e2, hl2, hK2⟩ | ⟨i1, e2⟩
      · refine .inl ⟨i1, l2, ms2, e2, ?_, hK2⟩
        rw [hl2]
        simp
        omega
      · exact .inr ⟨i1, e2⟩
    · rw [e]
      exact .inr ⟨by omega, rfl⟩
end Go.Proofs.YtofakfkmglmhoaaGreat
