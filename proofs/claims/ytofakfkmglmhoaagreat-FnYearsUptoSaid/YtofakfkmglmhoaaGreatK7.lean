/- Contracts of the program's functions, and what follows from them. -/
import Derived.Test.YtofakfkmglmhoaaGreatK6
set_option linter.unusedVariables false
set_option maxRecDepth 100000
set_option linter.unusedSimpArgs false
namespace Go.Proofs.YtofakfkmglmhoaaGreat
open Go Go.Av

/-! Racks that are spread, and years of books, in numbers. -/

def spA (P n : Int) (i : Nat) : Int := ((2 * (i : Int) + 1) * P).tdiv (2 * n)
def sp (P : Int) (L : List Bk) : List Pl := (List.range L.length).map fun i => ⟨spA P L.length i, L.getD i bk0⟩
theorem sp_len (P : Int) (L : List Bk) : (sp P L).length = L.length := by simp [sp]
theorem sp_get {P : Int} {L : List Bk} {i : Nat} (h : i < L.length) : (sp P L)[i]'(by rw [sp_len]; exact h) = ⟨spA P L.length i, L[i]⟩ := by simp [sp, h]
theorem sp_pa {P : Int} {L : List Bk} {i : Nat} (h : i < L.length) : pa (sp P L) i = spA P L.length i := by rw [pa_get (by rw [sp_len]; exact h), sp_get h]
theorem sp_ba {P : Int} {L : List Bk} {i : Nat} (h : i < L.length) : ba (sp P L) i = L[i] := by rw [ba_get (by rw [sp_len]; exact h), sp_get h]
theorem sp_pbs (P : Int) (L : List Bk) : pbs (sp P L) = L := by
  refine List.ext_getElem (by rw [pbs_len, sp_len]) fun i h1 h2 => ?_
  simp [pbs, sp_get h2]
theorem spA_e {P n : Int} (hP : 0 ≤ P) {i : Nat} : spA P n i = ((2 * (i : Int) + 1) * P) / (2 * n) := by
  rw [spA, Int.tdiv_eq_ediv_of_nonneg (Int.mul_nonneg (by omega) hP)]
theorem spA_lt {P n : Int} (hn : 0 < n) (h : n ≤ P) (i : Nat) : spA P n i < spA P n (i + 1) := by
  rw [spA_e (by omega), spA_e (by omega)]
  have h1 : (2 * ((i + 1 : Nat) : Int) + 1) * P = (2 * (i : Int) + 1) * P + 2 * P := by
    rw [show (2 * ((i + 1 : Nat) : Int) + 1) = (2 * (i : Int) + 1) + 2 by omega, Int.add_mul]
  rw [h1]
  have h2 : ((2 * (i : Int) + 1) * P) / (2 * n) + 1 = ((2 * (i : Int) + 1) * P + 2 * n) / (2 * n) := by
    rw [Int.add_ediv_of_dvd_right (Int.dvd_refl _), Int.ediv_self (by omega)]
  have h3 := Int.ediv_le_ediv (a := (2 * (i : Int) + 1) * P + 2 * n) (b := (2 * (i : Int) + 1) * P + 2 * P) (c := 2 * n) (by omega) (by omega)
  omega
theorem spA_rng {P n : Int} (hP : 0 < P) {i : Nat} (hi : (i : Int) < n) : 0 ≤ spA P n i ∧ spA P n i < P := by
  rw [spA_e (by omega)]
  refine ⟨Int.ediv_nonneg (Int.mul_nonneg (by omega) (by omega)) (by omega), ?_⟩
  refine Int.ediv_lt_of_lt_mul (by omega) ?_
  rw [Int.mul_comm P]
  exact Int.mul_lt_mul_of_pos_right (by omega) hP
theorem spA_mono {P n : Int} (hn : 0 < n) (h : n ≤ P) : ∀ {j i : Nat}, i < j → spA P n i < spA P n j := by
  intro j
  induction j with
  | zero => intro i hi; omega
  | succ j ih =>
    intro i hi
    have := spA_lt hn h j
    by_cases e : i = j
    · subst e; exact this
    · have := ih (i := i) (by omega); omega

theorem VR.spread {n : Int} {l : List Pl} (h : VR n l) : VR n (sp n (pbs l)) := by
  have hn := h.hn
  have hlen := h.len
  have hl : (sp n (pbs l)).length = l.length := by rw [sp_len, pbs_len]
  have hb : ∀ i, i < l.length → ba (sp n (pbs l)) i = ba l i := fun i hi => by rw [sp_ba (by rw [pbs_len]; exact hi), ba_get hi]; simp [pbs]
  refine ⟨hn, fun i j hij hj => ?_, fun i hi => ?_, fun x hx => ?_, fun i j hij hj => ?_⟩
  · rw [hl] at hj
    rw [sp_pa (by rw [pbs_len]; omega), sp_pa (by rw [pbs_len]; omega), pbs_len]
    exact spA_mono (by omega) hlen hij
  · rw [hl] at hi
    rw [sp_pa (by rw [pbs_len]; omega), pbs_len]
    exact spA_rng (by omega) (by omega)
  · obtain ⟨i, hi, rfl⟩ := List.getElem_of_mem hx
    have hi' : i < l.length := by rw [hl] at hi; exact hi
    have := hb i hi'
    rw [ba_get hi, ba_get hi'] at this
    rw [this]
    exact h.vb _ (by simp)
  · rw [hl] at hj
    rw [hb i (by omega), hb j hj]
    exact h.so i j hij hj

/-- How many of the first books stand elsewhere. -/
def els (l m : List Pl) : Nat → Nat
  | 0 => 0
  | j + 1 => els l m j + if pa l j = pa m j then 0 else 1
theorem els_le (l m : List Pl) : ∀ j, els l m j ≤ j
  | 0 => Nat.le_refl 0
  | j + 1 => by have := els_le l m j; rw [els]; split <;> omega

def gl (n most : Int) (l : List Pl) (b : Bk) : List Pl := if most < adM n l b then sp n (pbs l) else l
def gm (n most : Int) (l : List Pl) (b : Bk) : Nat := if most < adM n l b then els l (sp n (pbs l)) l.length else 0
def gy1 (n most : Int) : List Bk → List Pl → Nat → Option (List Pl × Nat)
  | [], l, s => some (l, s)
  | b :: r, l, s => if (l.length : Int) = n then none else gy1 n most r (adL n (gl n most l b) b) (s + gm n most l b + adM n (gl n most l b) b)
def gyA (n most : Int) : List (List Bk) → List Pl → List Int → Option (List Pl × List Int)
  | [], l, ms => some (l, ms)
  | y :: r, l, ms => match gy1 n most y l 0 with
    | none => none
    | some (l', s) => gyA n most r l' (ms ++ [(s : Int)])
def gyRes (r : Rk) (ys : List (List Bk)) (most : Int) : Rk × List Int × Int :=
  if vR r = true ∧ ys.all vBs = true then (if ys.length ≤ 20 ∧ inr most 0 60 = true then (match gyA r.pl most ys r.bs [] with
    | none => (rk0, [], 3)
    | some (l, ms) => (⟨r.pl, l⟩, ms, 0)) else (rk0, [], 2)) else (rk0, [], 1)

theorem VR.glo {n : Int} {l : List Pl} (h : VR n l) (most : Int) (b : Bk) : VR n (gl n most l b) ∧ (gl n most l b).length = l.length ∧ ∀ x ∈ gl n most l b, ∃ y ∈ l, x.b = y.b := by
  unfold gl
  split
  · refine ⟨h.spread, by rw [sp_len, pbs_len], fun x hx => ?_⟩
    have : x.b ∈ pbs (sp n (pbs l)) := List.mem_map.2 ⟨x, hx, rfl⟩
    rw [sp_pbs] at this
    obtain ⟨y, hy, e⟩ := List.mem_map.1 this
    exact ⟨y, hy, e.symm⟩
  · exact ⟨h, rfl, fun x hx => ⟨x, hx, rfl⟩⟩
/-- A book of a year that is added. -/
theorem VR.gstep {n : Int} {l : List Pl} {b : Bk} (h : VR n l) (most : Int) (hf : (l.length : Int) ≠ n) (hr : ∀ x ∈ l, bkRng x.b) (hb : bkRng b) (hv : vB b = true) :
    VR n (adL n (gl n most l b) b) ∧ (∀ x ∈ adL n (gl n most l b) b, bkRng x.b) ∧ gm n most l b + adM n (gl n most l b) b ≤ 120 := by
  obtain ⟨g1, g2, g3⟩ := h.glo most b
  have hl := h.len
  have hn := h.hn
  have hr2 : ∀ x ∈ gl n most l b, bkRng x.b := fun x hx => by
    obtain ⟨y, hy, e⟩ := g3 x hx
    rw [e]; exact hr y hy
  obtain ⟨q1, q2, q3, q4⟩ := g1.added (b := b) (by omega) hr2 hb hv
  refine ⟨q1, fun x hx => ?_, ?_⟩
  · rcases q4 x hx with e | ⟨y, hy, e⟩
    · rw [e]; exact hb
    · rw [e]; exact hr2 y hy
  · have : gm n most l b ≤ l.length := by
      unfold gm
      split
      · exact els_le _ _ _
      · omega
    omega
end Go.Proofs.YtofakfkmglmhoaaGreat
