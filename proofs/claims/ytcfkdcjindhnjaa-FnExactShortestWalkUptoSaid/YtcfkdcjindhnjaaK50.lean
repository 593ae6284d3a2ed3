/- Contracts of the program's functions, and what follows from them. -/
import Derived.Test.YtcfkdcjindhnjaaK34
import Derived.Test.YtcfkdcjindhnjaaMH
set_option linter.unusedVariables false
set_option maxRecDepth 100000
set_option linter.unusedSimpArgs false
namespace Go.Proofs.Ytcfkdcjindhnjaa
open Go Go.Av

/-! Numbers that are swapped within a part of a list. -/

def sZ (A : List Int) (i j : Nat) : List Int := (A.set i (A.getD j 0)).set j (A.getD i 0)
theorem sZ_len (A : List Int) (i j : Nat) : (sZ A i j).length = A.length := by simp [sZ]
theorem sZ_l {A : List Int} {i j : Nat} (hi : i < A.length) (hj : j < A.length) : (sZ A i j).getD i 0 = A.getD j 0 := by
  unfold sZ
  by_cases e : i = j
  · subst e; simp [List.getD_eq_getElem?_getD, hi]
  · simp only [List.getD_eq_getElem?_getD]
    rw [List.getElem?_set, if_neg (fun h => e h.symm), List.getElem?_set, if_pos rfl, if_pos hi]
    rfl
theorem sZ_r {A : List Int} {i j : Nat} (hj : j < A.length) : (sZ A i j).getD j 0 = A.getD i 0 := by
  unfold sZ
  simp only [List.getD_eq_getElem?_getD]
  rw [List.getElem?_set, if_pos rfl, if_pos (by simpa using hj)]
  rfl
theorem sZ_o {A : List Int} {i j k : Nat} (h1 : k ≠ i) (h2 : k ≠ j) : (sZ A i j).getD k 0 = A.getD k 0 := by
  unfold sZ
  simp only [List.getD_eq_getElem?_getD]
  rw [List.getElem?_set, if_neg (Ne.symm h2), List.getElem?_set, if_neg (Ne.symm h1)]
theorem sZ_perm {A : List Int} {i j : Nat} (hi : i < A.length) (hj : j < A.length) : (sZ A i j).Perm A := by
  have h := List.set_set_perm hi hj
  unfold sZ
  rwa [List.getD_eq_getElem?_getD, List.getD_eq_getElem?_getD, List.getElem?_eq_getElem hi, List.getElem?_eq_getElem hj]

inductive PS (a b : Nat) (A : List Int) : List Int → Prop
  | refl : PS a b A A
  | step {B : List Int} {i j : Nat} (h : PS a b A B) (h1 : a ≤ i) (h2 : i < b) (h3 : a ≤ j) (h4 : j < b) (h5 : b ≤ A.length) : PS a b A (sZ B i j)

section
variable {a b : Nat} {A B C : List Int}
theorem PS.len (h : PS a b A B) : B.length = A.length := by
  induction h with
  | refl => rfl
  | step h _ _ _ _ _ ih => rw [sZ_len, ih]
theorem PS.perm (h : PS a b A B) : B.Perm A := by
  induction h with
  | refl => exact .refl _
  | step h _ _ _ _ h5 ih => exact (sZ_perm (by rw [h.len]; omega) (by rw [h.len]; omega)).trans ih
theorem PS.out (h : PS a b A B) {k : Nat} (hk : k < a ∨ b ≤ k) : B.getD k 0 = A.getD k 0 := by
  induction h with
  | refl => rfl
  | step h _ _ _ _ h5 ih => rw [sZ_o (by omega) (by omega), ih]
theorem PS.all (h : PS a b A B) {P : Int → Prop} (hP : ∀ k, a ≤ k → k < b → P (A.getD k 0)) : ∀ k, a ≤ k → k < b → P (B.getD k 0) := by
  induction h with
  | refl => exact hP
  | @step B i j h h1 h2 h3 h4 h5 ih =>
    intro k hk1 hk2
    have hl := h.len
    by_cases e1 : k = i
    · subst e1; rw [sZ_l (by omega) (by omega)]; exact ih j h3 h4
    · by_cases e2 : k = j
      · subst e2; rw [sZ_r (by omega)]; exact ih i h1 h2
      · rw [sZ_o e1 e2]; exact ih k hk1 hk2
theorem PS.trans (h : PS a b A B) (h' : PS a b B C) : PS a b A C := by
  have hl := h.len
  induction h' with
  | refl => exact h
  | step _ h1 h2 h3 h4 h5 ih => exact .step ih h1 h2 h3 h4 (by omega)
theorem PS.mono {a' b' : Nat} (h : PS a b A B) (ha : a' ≤ a) (hb : b ≤ b') (hl : b' ≤ A.length) : PS a' b' A B := by
  induction h with
  | refl => exact .refl
  | step _ h1 h2 h3 h4 h5 ih => exact .step ih (by omega) (by omega) (by omega) (by omega) hl
end

/-- Sorted from a to b. -/
def SS (A : List Int) (a b : Nat) : Prop := ∀ i j, a ≤ i → i ≤ j → j < b → A.getD i 0 ≤ A.getD j 0
theorem SS.all {A : List Int} (h : SS A 0 A.length) : A.Pairwise (· ≤ ·) := by
  refine List.pairwise_iff_getElem.2 fun i j hi hj hij => ?_
  have := h i j (by omega) (by omega) hj
  rwa [List.getD_eq_getElem?_getD, List.getD_eq_getElem?_getD, List.getElem?_eq_getElem hi, List.getElem?_eq_getElem hj] at this
theorem SS.out {a b c d : Nat} {A B : List Int} (h : SS A a b) (hp : PS c d A B) (hd : b ≤ c ∨ d ≤ a) : SS B a b := by
  intro i j h1 h2 h3
  rw [hp.out (by omega), hp.out (by omega)]
  exact h i j h1 h2 h3

/-- What lies in the array's memory at a place. -/
theorem iat {A : List Int} {i : Nat} (h : i < A.length) : (A.map i64)[0 + ((i : Nat) : Int).toNat]? = some (i64 (A.getD i 0)) := by
  rw [Nat.zero_add, Int.toNat_natCast, List.getElem?_map, List.getElem?_eq_getElem h, List.getD_eq_getElem?_getD, List.getElem?_eq_getElem h]
  rfl
/-- .. behind the first store of a swap. -/
theorem iat2 {A : List Int} {i j : Nat} (hi : i < A.length) (hj : j < A.length) : ((A.map i64).set (0 + ((i : Nat) : Int).toNat) (i64 (A.getD j 0)))[0 + ((j : Nat) : Int).toNat]? = some (i64 (A.getD j 0)) := by
  rw [List.getElem?_set]
  split
  · rename_i h
    rw [if_pos (by rw [List.length_map]; simpa using hi)]
  · exact iat hj
theorem sZ_map (A : List Int) (i j : Nat) : ((A.map i64).set (0 + ((i : Nat) : Int).toNat) (i64 (A.getD j 0))).set (0 + ((j : Nat) : Int).toNat) (i64 (A.getD i 0)) = (sZ A i j).map i64 := by
  unfold sZ
  rw [List.map_set, List.map_set, Nat.zero_add, Nat.zero_add, Int.toNat_natCast, Int.toNat_natCast]
end Go.Proofs.Ytcfkdcjindhnjaa
