/- Contracts of the program's functions, and what follows from them. -/
import Derived.Test.YtofakfkmglmhoaaGreatK2
import Derived.Test.YtofakfkmglmhoaaGreatME
set_option linter.unusedVariables false
set_option maxRecDepth 100000
set_option linter.unusedSimpArgs false
namespace Go.Proofs.YtofakfkmglmhoaaGreat
open Go Go.Av

/-! Racks that grow, in numbers. -/

def ky (x : Bk) : Int := (((x.cl * 256 + x.a) * 256 + x.b) * 256 + x.c) * 65536 + x.vol
theorem cmpI_or (a b : Int) : (a < b ∧ cmpI a b = -1) ∨ (a = b ∧ cmpI a b = 0) ∨ (b < a ∧ cmpI a b = 1) := by
  unfold cmpI
  rcases Int.lt_trichotomy a b with h | h | h
  · exact .inl ⟨h, by rw [if_pos h]⟩
  · subst h; exact .inr (.inl ⟨rfl, by simp⟩)
  · exact .inr (.inr ⟨h, by rw [if_neg (by omega), if_pos h]⟩)
theorem uc_ky {x y : Bk} (hx : bkRng x) (hy : bkRng y) : (uc x y < 0 ↔ ky x < ky y) ∧ (0 < uc x y ↔ ky y < ky x) := by
  obtain ⟨x1, x2, x3, x4, x5, -⟩ := hx
  obtain ⟨y1, y2, y3, y4, y5, -⟩ := hy
  unfold u8r at x2 x3 x4 y2 y3 y4
  unfold i16r at x1 x5 y1 y5
  unfold ky
  have f0 := fc0 x y
  have f2 := fc2 x y
  rcases cmpI_or x.cl y.cl with ⟨h1, e1⟩ | ⟨h1, e1⟩ | ⟨h1, e1⟩
  · rw [uc, f0, e1, if_pos (by decide)]
    omega
  · have f1 : fc x y 1 = if cmpI x.a y.a ≠ 0 then cmpI x.a y.a else if cmpI x.b y.b ≠ 0 then cmpI x.b y.b else cmpI x.c y.c := rfl
    rw [uc, f0, e1, if_neg (by decide)]
    rcases cmpI_or x.a y.a with ⟨h2, e2⟩ | ⟨h2, e2⟩ | ⟨h2, e2⟩
    · rw [e2, if_pos (by decide)] at f1
      rw [f1, if_pos (by decide)]
      omega
    · rw [e2, if_neg (by decide)] at f1
      rcases cmpI_or x.b y.b with ⟨h3, e3⟩ | ⟨h3, e3⟩ | ⟨h3, e3⟩
      · rw [e3, if_pos (by decide)] at f1
        rw [f1, if_pos (by decide)]
        omega
      · rw [e3, if_neg (by decide)] at f1
        rcases cmpI_or x.c y.c with ⟨h4, e4⟩ | ⟨h4, e4⟩ | ⟨h4, e4⟩
        · rw [e4] at f1
          rw [f1, if_pos (by decide)]
          omega
        · rw [e4] at f1
          rw [f1, if_neg (by decide), f2]
          rcases cmpI_or x.vol y.vol with ⟨h5, e5⟩ | ⟨h5, e5⟩ | ⟨h5, e5⟩ <;> rw [e5] <;> omega
        · rw [e4] at f1
          rw [f1, if_pos (by decide)]
          omega
      · rw [e3, if_pos (by decide)] at f1
        rw [f1, if_pos (by decide)]
        omega
    · rw [e2, if_pos (by decide)] at f1
      rw [f1, if_pos (by decide)]
      omega
  · rw [uc, f0, e1, if_pos (by decide)]
    omega

def pa (l : List Pl) (i : Nat) : Int := (l.getD i pl0).p
def ba (l : List Pl) (i : Nat) : Bk := (l.getD i pl0).b
theorem pa_get {l : List Pl} {i : Nat} (h : i < l.length) : pa l i = l[i].p := by rw [pa, getD_pl h]
theorem ba_get {l : List Pl} {i : Nat} (h : i < l.length) : ba l i = l[i].b := by rw [ba, getD_pl h]

structure VR (n : Int) (l : List Pl) : Prop where
  hn : 1 ≤ n ∧ n ≤ 60
  inc : ∀ i j, i < j → j < l.length → pa l i < pa l j
  rng : ∀ i, i < l.length → 0 ≤ pa l i ∧ pa l i < n
  vb : ∀ x ∈ l, vB x.b = true
  so : ∀ i j, i < j → j < l.length → ky (ba l i) ≤ ky (ba l j)

theorem vR_VR {r : Rk} (hr : ∀ x ∈ r.bs, plRng x) : vR r = true ↔ VR r.pl r.bs := by
  obtain ⟨n, l⟩ := r
  rw [vR_bad]
  simp only [Bool.and_eq_true, Bool.not_eq_true', List.any_eq_false, List.mem_range, inr, decide_eq_true_eq]
  have hrg : ∀ i, i < l.length → bkRng (ba l i) := fun i hi => by rw [ba_get hi]; exact (hr _ (by simp)).2
  constructor
  · rintro ⟨hn, hb⟩
    have hv : ∀ j, j < l.length → vPl n (l.getD j pl0) = true := by
      intro j hj
      have := hb j hj
      simp only [bad, Bool.or_eq_true, not_or] at this
      simpa using this.1
    have hadj : ∀ j, j + 1 < l.length → pa l j < pa l (j + 1) ∧ ky (ba l j) ≤ ky (ba l (j + 1)) := by
      intro j hj
      have := hb (j + 1) hj
      simp only [bad, Bool.or_eq_true, Bool.and_eq_true, decide_eq_true_eq, not_or, not_and, Nat.add_sub_cancel] at this
      obtain ⟨h1, h2⟩ := this.2 (by omega)
      have h3 := (uc_ky (hrg (j + 1) hj) (hrg j (by omega))).1
      refine ⟨by unfold pa; omega, ?_⟩
      have : ¬ uc (ba l (j + 1)) (ba l j) < 0 := h2
      rw [h3] at this
      omega
    have hall : ∀ j i, i < j → j < l.length → pa l i < pa l j ∧ ky (ba l i) ≤ ky (ba l j) := by
      intro j
      induction j with
      | zero => intro i h; omega
      | succ j ih =>
        intro i hi hj
        have := hadj j hj
        by_cases e : i = j
        · subst e; exact this
        · have := ih i (by omega) (by omega)
          omega
    refine ⟨hn, fun i j h1 h2 => (hall j i h1 h2).1, fun i hi => ?_, fun x hx => ?_, fun i j h1 h2 => (hall j i h1 h2).2⟩
    · have := hv i hi
      simp only [vPl, inr, Bool.and_eq_true, decide_eq_true_eq] at this
      unfold pa
      omega
    · obtain ⟨j, hj, rfl⟩ := List.getElem_of_mem hx
      have := hv j hj
      rw [getD_pl hj] at this
      simp only [vPl, Bool.and_eq_true] at this
      exact this.2
  · rintro ⟨hn, h1, h2, h3, h4⟩
    refine ⟨hn, fun j hj => ?_⟩
    simp only [bad, Bool.or_eq_true, Bool.and_eq_true, decide_eq_true_eq, not_or, not_and]
    refine ⟨?_, fun h0 => ⟨?_, ?_⟩⟩
    · have := h2 j hj
      have hb := h3 (l.getD j pl0) (by rw [getD_pl hj]; simp)
      unfold pa at this
      have hv : vPl n (l.getD j pl0) = true := by
        rw [vPl, hb, Bool.and_true]
        simp only [inr, Bool.and_eq_true, decide_eq_true_eq]
        omega
      rw [hv]
      decide
    · have := h1 (j - 1) j (by omega) hj
      unfold pa at this
      omega
    · have := h4 (j - 1) j (by omega) hj
      have h3 := (uc_ky (hrg j hj) (hrg (j - 1) (by omega))).1
      have : ¬ uc (ba l j) (ba l (j - 1)) < 0 := by rw [h3]; omega
      exact this

theorem VR.ge {n : Int} {l : List Pl} (h : VR n l) : ∀ i, i < l.length → (i : Int) ≤ pa l i := by
  intro i
  induction i with
  | zero => intro hi; have := (h.rng 0 hi).1; simpa using this
  | succ i ih =>
    intro hi
    have := ih (by omega)
    have := h.inc i (i + 1) (by omega) hi
    omega
theorem VR.len {n : Int} {l : List Pl} (h : VR n l) : (l.length : Int) ≤ n := by
  by_cases h0 : l.length = 0
  · have := h.hn; omega
  · have h1 := h.ge (l.length - 1) (by omega)
    have h2 := (h.rng (l.length - 1) (by omega)).2
    omega

/-- Where the places behind k books begin; where they end; how many there are. -/
def fr (l : List Pl) (k : Nat) : Int := if 0 < k then pa l (k - 1) + 1 else 0
def too (n : Int) (l : List Pl) (k : Nat) : Int := if k < l.length then pa l k else n
def rm (n : Int) (l : List Pl) (k : Nat) : Int := too n l k - fr l k

theorem VR.rm0 {n : Int} {l : List Pl} (h : VR n l) {k : Nat} (hk : k ≤ l.length) : 0 ≤ rm n l k ∧ 0 ≤ fr l k ∧ fr l k ≤ n ∧ too n l k ≤ n := by
  unfold rm too fr
  have hn := h.hn
  by_cases h0 : 0 < k
  · rw [if_pos h0]
    have h1 := h.rng (k - 1) (by omega)
    by_cases h2 : k < l.length
    · rw [if_pos h2]
      have := h.inc (k - 1) k (by omega) h2
      have := h.rng k h2
      omega
    · rw [if_neg h2]; omega
  · rw [if_neg h0]
    by_cases h2 : k < l.length
    · rw [if_pos h2]
      have := h.rng k h2
      omega
    · rw [if_neg h2]; omega
theorem fr_step (n : Int) {l : List Pl} {k : Nat} (hk : k < l.length) : fr l (k + 1) = fr l k + rm n l k + 1 := by
  unfold rm too
  rw [if_pos hk]
  show (if 0 < k + 1 then pa l (k + 1 - 1) + 1 else 0) = _
  rw [if_pos (by omega), Nat.add_sub_cancel]
  omega

/-- How many books stand side by side ahead of a place behind k books; none if no place is free ahead of them. -/
def lw (n : Int) (l : List Pl) : Nat → Option Nat
  | 0 => none
  | k + 1 => if 0 < rm n l k then some 1 else (lw n l k).map (· + 1)
def hgF (n : Int) (l : List Pl) : Nat → Nat → Option Nat
  | 0, _ => none
  | f + 1, k => if 0 < rm n l (k + 1) then some 1 else (hgF n l f (k + 1)).map (· + 1)
def hg (n : Int) (l : List Pl) (k : Nat) : Option Nat := hgF n l (l.length - k) k

theorem lw_some {n : Int} {l : List Pl} : ∀ {k c : Nat}, lw n l k = some c → 1 ≤ c ∧ c ≤ k ∧ 0 < rm n l (k - c)
  | 0, c, h => by simp [lw] at h
  | k + 1, c, h => by
    simp only [lw] at h
    split at h
    · rename_i h0
      cases h
      exact ⟨by omega, by omega, by simpa using h0⟩
    · obtain ⟨c', hc', rfl⟩ := Option.map_eq_some_iff.1 h
      obtain ⟨h1, h2, h3⟩ := lw_some hc'
      exact ⟨by omega, by omega, by rw [show k + 1 - (c' + 1) = k - c' by omega]; exact h3⟩
theorem lw_none {n : Int} {l : List Pl} : ∀ {k : Nat}, lw n l k = none → ∀ i, i < k → rm n l i ≤ 0
  | 0, h => fun i hi => by omega
  | k + 1, h => by
    simp only [lw] at h
    split at h
    · cases h
    · rename_i h0
      intro i hi
      by_cases e : i = k
      · subst e; omega
      · exact lw_none (Option.map_eq_none_iff.1 h) i (by omega)
theorem hgF_some {n : Int} {l : List Pl} : ∀ {f k d : Nat}, hgF n l f k = some d → 1 ≤ d ∧ d ≤ f ∧ 0 < rm n l (k + d)
  | 0, k, d, h => by simp [hgF] at h
  | f + 1, k, d, h => by
    simp only [hgF] at h
    split at h
    · rename_i h0
      cases h
      exact ⟨by omega, by omega, h0⟩
    · obtain ⟨d', hd', rfl⟩ := Option.map_eq_some_iff.1 h
      obtain ⟨h1, h2, h3⟩ := hgF_some hd'
      exact ⟨by omega, by omega, by rw [show k + (d' + 1) = k + 1 + d' by omega]; exact h3⟩
theorem hgF_none {n : Int} {l : List Pl} : ∀ {f k : Nat}, hgF n l f k = none → ∀ i, k < i → i ≤ k + f → rm n l i ≤ 0
  | 0, k, h => fun i h1 h2 => by omega
  | f + 1, k, h => by
    simp only [hgF] at h
    split at h
    · cases h
    · rename_i h0
      intro i h1 h2
      by_cases e : i = k + 1
      · subst e; omega
      · exact hgF_none (Option.map_eq_none_iff.1 h) i (by omega) (by omega)

/-- With no free place at all the rack is full. -/
theorem VR.full {n : Int} {l : List Pl} (h : VR n l) {k : Nat} (hk : k ≤ l.length) (h0 : rm n l k ≤ 0) (h1 : lw n l k = none) (h2 : hg n l k = none) : (l.length : Int) = n := by
  have hall : ∀ i, i ≤ l.length → rm n l i = 0 := by
    intro i hi
    have hp := (h.rm0 hi).1
    rcases Nat.lt_trichotomy i k with e | e | e
    · have := lw_none h1 i e; omega
    · subst e; omega
    · have := hgF_none h2 i e (by omega); omega
  have hf : ∀ i, i ≤ l.length → fr l i = i := by
    intro i
    induction i with
    | zero => intro _; rfl
    | succ i ih =>
      intro hi
      rw [fr_step n (by omega), ih (by omega), hall i (by omega)]
      omega
  have h3 := hall l.length (Nat.le_refl _)
  rw [rm, hf _ (Nat.le_refl _), too, if_neg (by omega)] at h3
  omega
theorem VR.full_rm {n : Int} {l : List Pl} (h : VR n l) (hf : (l.length : Int) = n) : ∀ i, i ≤ l.length → rm n l i = 0 := by
  have hge : ∀ i, i ≤ l.length → (i : Int) ≤ fr l i := by
    intro i
    induction i with
    | zero => intro _; exact Int.le_refl 0
    | succ i ih =>
      intro hi
      rw [fr_step n (by omega)]
      have := ih (by omega)
      have := (h.rm0 (k := i) (by omega)).1
      omega
  have hup : ∀ d i, i + d = l.length → fr l i + rm n l i ≤ i := by
    intro d
    induction d with
    | zero =>
      intro i hi
      rw [rm, too, if_neg (by omega)]
      omega
    | succ d ih =>
      intro i hi
      have h1 := ih (i + 1) (by omega)
      have h2 := (h.rm0 (k := i + 1) (by omega)).1
      rw [fr_step n (by omega)] at h1
      omega
  intro i hi
  have h1 := hup (l.length - i) i (by omega)
  have h2 := hge i hi
  have h3 := (h.rm0 hi).1
  omega
theorem full_lw {n : Int} {l : List Pl} (h : ∀ i, i ≤ l.length → rm n l i = 0) : ∀ k, k ≤ l.length → lw n l k = none := by
  intro k
  induction k with
  | zero => intro _; rfl
  | succ k ih =>
    intro hk
    rw [lw, if_neg (by rw [h k (by omega)]; omega), ih (by omega)]
    rfl
theorem full_hg {n : Int} {l : List Pl} (h : ∀ i, i ≤ l.length → rm n l i = 0) : ∀ f k, k + f = l.length → hgF n l f k = none := by
  intro f
  induction f with
  | zero => intro k _; rfl
  | succ f ih =>
    intro k hk
    rw [hgF, if_neg (by rw [h (k + 1) (by omega)]; omega), ih (k + 1) (by omega)]
    rfl

/-- How many books have to be moved, and whether to the beginning. -/
def psh (n : Int) (l : List Pl) (k : Nat) : Nat × Bool :=
  if 0 < rm n l k then (0, false) else match lw n l k, hg n l k with
    | some c, some d => if c ≤ d then (c, true) else (d, false)
    | some c, none => (c, true)
    | none, some d => (d, false)
    | none, none => (l.length - k, false)

def mvP (d : Int) (x : Pl) : Pl := ⟨x.p + d, x.b⟩
def shf (l : List Pl) (i c : Nat) (d : Int) : List Pl := l.take i ++ ((l.drop i).take c).map (mvP d) ++ l.drop (i + c)
theorem shf_len {l : List Pl} {i c : Nat} {d : Int} (h : i + c ≤ l.length) : (shf l i c d).length = l.length := by simp [shf]; omega
theorem shf_get {l : List Pl} {i c : Nat} {d : Int} (h : i + c ≤ l.length) {j : Nat} (hj : j < l.length) : (shf l i c d)[j]'(by rw [shf_len h]; exact hj) = if i ≤ j ∧ j < i + c then mvP d l[j] else l[j] := by
  have hl1 : (l.take i).length = i := by simp; omega
  have hl2 : (((l.drop i).take c).map (mvP d)).length = c := by simp; omega
  unfold shf
  by_cases h1 : j < i
  · rw [if_neg (by omega), List.getElem_append_left (by simp; omega), List.getElem_append_left (by omega), List.getElem_take]
  · by_cases h2 : j < i + c
    · rw [if_pos ⟨by omega, h2⟩, List.getElem_append_left (by simp; omega), List.getElem_append_right (by omega), List.getElem_map, List.getElem_take, List.getElem_drop]
      congr 2
      omega
    · rw [if_neg (by omega), List.getElem_append_right (by simp; omega), List.getElem_drop]
      congr 1
      simp
      omega
theorem shf_pa {l : List Pl} {i c : Nat} {d : Int} (h : i + c ≤ l.length) {j : Nat} (hj : j < l.length) : pa (shf l i c d) j = pa l j + (if i ≤ j ∧ j < i + c then d else 0) := by
  rw [pa_get (by rw [shf_len h]; exact hj), pa_get hj, shf_get h hj]
  by_cases e : i ≤ j ∧ j < i + c
  · rw [if_pos e, if_pos e]; rfl
  · rw [if_neg e, if_neg e]; simp
theorem shf_ba {l : List Pl} {i c : Nat} {d : Int} (h : i + c ≤ l.length) {j : Nat} (hj : j < l.length) : ba (shf l i c d) j = ba l j := by
  rw [ba_get (by rw [shf_len h]; exact hj), ba_get hj, shf_get h hj]
  by_cases e : i ≤ j ∧ j < i + c
  · rw [if_pos e]; rfl
  · rw [if_neg e]
theorem shf_mem {l : List Pl} {i c : Nat} {d : Int} {x : Pl} (hx : x ∈ shf l i c d) : ∃ y ∈ l, x.b = y.b := by
  unfold shf at hx
  rw [List.mem_append, List.mem_append] at hx
  rcases hx with (hx | hx) | hx
  · exact ⟨x, List.mem_of_mem_take hx, rfl⟩
  · obtain ⟨y, hy, rfl⟩ := List.mem_map.1 hx
    exact ⟨y, List.mem_of_mem_drop (List.mem_of_mem_take hy), rfl⟩
  · exact ⟨x, List.mem_of_mem_drop hx, rfl⟩

def sh (n : Int) (l : List Pl) (k : Nat) : List Pl := if 0 < rm n l k then l else if (psh n l k).2 = true then shf l (k - (psh n l k).1) (psh n l k).1 (-1) else shf l k (psh n l k).1 1
def nat' (n : Int) (l : List Pl) (k : Nat) : Int := if 0 < rm n l k then fr l k + (rm n l k - 1).tdiv 2 else if (psh n l k).2 = true then fr l k - 1 else fr l k
def idx (l : List Pl) (b : Bk) : Nat := l.findIdx fun x => decide (0 < uc x.b b)
def ins (S : List Pl) (k : Nat) (q : Int) (b : Bk) : List Pl := S.take k ++ [⟨q, b⟩] ++ S.drop k
def adL (n : Int) (l : List Pl) (b : Bk) : List Pl := ins (sh n l (idx l b)) (idx l b) (nat' n l (idx l b)) b
def adM (n : Int) (l : List Pl) (b : Bk) : Nat := (psh n l (idx l b)).1
theorem idx_le (l : List Pl) (b : Bk) : idx l b ≤ l.length := List.findIdx_le_length

theorem ins_len {S : List Pl} {k : Nat} {q : Int} {b : Bk} (hk : k ≤ S.length) : (ins S k q b).length = S.length + 1 := by simp [ins]; omega
theorem ins_get {S : List Pl} {k : Nat} {q : Int} {b : Bk} (hk : k ≤ S.length) {j : Nat} (hj : j < S.length + 1) : (ins S k q b)[j]'(by rw [ins_len hk]; exact hj) = if j < k then S.getD j pl0 else if j = k then ⟨q, b⟩ else S.getD (j - 1) pl0 := by
  have hl1 : (S.take k).length = k := by simp; omega
  unfold ins
  by_cases h1 : j < k
  · rw [if_pos h1, List.getElem_append_left (by simp; omega), List.getElem_append_left (by omega), List.getElem_take, getD_pl (by omega)]
  · by_cases h2 : j = k
    · subst h2
      rw [if_neg (by omega), if_pos rfl, List.getElem_append_left (by simp; omega), List.getElem_append_right (by omega)]
      simp [hl1]
    · rw [if_neg h1, if_neg h2, List.getElem_append_right (by simp; omega), List.getElem_drop, getD_pl (by omega)]
      congr 1
      simp
      omega
theorem ins_pa {S : List Pl} {k : Nat} {q : Int} {b : Bk} (hk : k ≤ S.length) {j : Nat} (hj : j < S.length + 1) : pa (ins S k q b) j = if j < k then pa S j else if j = k then q else pa S (j - 1) := by
  rw [pa_get (by rw [ins_len hk]; exact hj), ins_get hk hj]
  split
  · rfl
  · split <;> rfl
theorem ins_ba {S : List Pl} {k : Nat} {q : Int} {b : Bk} (hk : k ≤ S.length) {j : Nat} (hj : j < S.length + 1) : ba (ins S k q b) j = if j < k then ba S j else if j = k then b else ba S (j - 1) := by
  rw [ba_get (by rw [ins_len hk]; exact hj), ins_get hk hj]
  split
  · rfl
  · split <;> rfl

theorem VR.put {n : Int} {S : List Pl} {k : Nat} {q : Int} {b : Bk} (h : VR n S) (hk : k ≤ S.length) (h1 : 0 < k → pa S (k - 1) < q) (h2 : k < S.length → q < pa S k) (hq : 0 ≤ q ∧ q < n) (hb : vB b = true)
    (h3 : 0 < k → ky (ba S (k - 1)) ≤ ky b) (h4 : k < S.length → ky b ≤ ky (ba S k)) : VR n (ins S k q b) := by
  have hlen := ins_len (q := q) (b := b) hk
  have hp : ∀ i, i < k → pa S i < q := by
    intro i hi
    have := h1 (by omega)
    by_cases e : i = k - 1
    · subst e; exact this
    · have := h.inc i (k - 1) (by omega) (by omega); omega
  have hp2 : ∀ i, k ≤ i → i < S.length → q < pa S i := by
    intro i hi hil
    have := h2 (by omega)
    by_cases e : i = k
    · subst e; exact this
    · have := h.inc k i (by omega) hil; omega
  have hs : ∀ i, i < k → ky (ba S i) ≤ ky b := by
    intro i hi
    have := h3 (by omega)
    by_cases e : i = k - 1
    · subst e; exact this
    · have := h.so i (k - 1) (by omega) (by omega); omega
  have hs2 : ∀ i, k ≤ i → i < S.length → ky b ≤ ky (ba S i) := by
    intro i hi hil
    have := h4 (by omega)
    by_cases e : i = k
    · subst e; exact this
    · have := h.so k i (by omega) hil; omega
  refine ⟨h.hn, fun i j hij hj => ?_, fun i hi => ?_, fun x hx => ?_, fun i j hij hj => ?_⟩
  · rw [hlen] at hj
    rw [ins_pa hk (by omega), ins_pa hk hj]
    by_cases a1 : j < k
    · rw [if_pos (by omega), if_pos a1]; exact h.inc i j hij (by omega)
    · by_cases a2 : j = k
      · rw [if_pos (by omega), if_neg a1, if_pos a2]; exact hp i (by omega)
      · rw [if_neg a1, if_neg a2]
        by_cases a3 : i < k
        · rw [if_pos a3]; exact h.inc i (j - 1) (by omega) (by omega)
        · by_cases a4 : i = k
          · rw [if_neg a3, if_pos a4]; exact hp2 (j - 1) (by omega) (by omega)
          · rw [if_neg a3, if_neg a4]; exact h.inc (i - 1) (j - 1) (by omega) (by omega)
  · rw [hlen] at hi
    rw [ins_pa hk hi]
    by_cases a1 : i < k
    · rw [if_pos a1]; exact h.rng i (by omega)
    · by_cases a2 : i = k
      · rw [if_neg a1, if_pos a2]; exact hq
      · rw [if_neg a1, if_neg a2]; exact h.rng (i - 1) (by omega)
  · unfold ins at hx
    rw [List.mem_append, List.mem_append] at hx
    rcases hx with (hx | hx) | hx
    · exact h.vb x (List.mem_of_mem_take hx)
    · simp at hx; subst hx; exact hb
    · exact h.vb x (List.mem_of_mem_drop hx)
  · rw [hlen] at hj
    rw [ins_ba hk (by omega), ins_ba hk hj]
    by_cases a1 : j < k
    · rw [if_pos (by omega), if_pos a1]; exact h.so i j hij (by omega)
    · by_cases a2 : j = k
      · rw [if_pos (by omega), if_neg a1, if_pos a2]; exact hs i (by omega)
      · rw [if_neg a1, if_neg a2]
        by_cases a3 : i < k
        · rw [if_pos a3]; exact h.so i (j - 1) (by omega) (by omega)
        · by_cases a4 : i = k
          · rw [if_neg a3, if_pos a4]; exact hs2 (j - 1) (by omega) (by omega)
          · rw [if_neg a3, if_neg a4]; exact h.so (i - 1) (j - 1) (by omega) (by omega)

theorem VR.left {n : Int} {l : List Pl} (h : VR n l) {k c : Nat} (hk : k ≤ l.length) (h1 : 1 ≤ c) (h2 : c ≤ k) (h3 : 0 < rm n l (k - c)) : VR n (shf l (k - c) c (-1)) := by
  have hc : k - c + c ≤ l.length := by omega
  have hlen := shf_len (d := -1) hc
  have hgap : ∀ i, i < k - c → pa l i + 1 < pa l (k - c) := by
    intro i hi
    have hkl : k - c < l.length := by omega
    rw [rm, too, if_pos hkl, fr, if_pos (by omega)] at h3
    by_cases e : i = k - c - 1
    · subst e; omega
    · have := h.inc i (k - c - 1) (by omega) (by omega); omega
  have hz : 0 < pa l (k - c) := by
    have hkl : k - c < l.length := by omega
    rw [rm, too, if_pos hkl] at h3
    have := (h.rm0 (k := k - c) (by omega)).2.1
    omega
  refine ⟨h.hn, fun i j hij hj => ?_, fun i hi => ?_, fun x hx => ?_, fun i j hij hj => ?_⟩
  · rw [hlen] at hj
    rw [shf_pa hc (by omega), shf_pa hc hj]
    have h0 := h.inc i j hij hj
    by_cases a1 : k - c ≤ j ∧ j < k - c + c
    · rw [if_pos a1]
      by_cases a2 : k - c ≤ i ∧ i < k - c + c
      · rw [if_pos a2]; omega
      · rw [if_neg a2]
        have := hgap i (by omega)
        by_cases e : j = k - c
        · subst e; omega
        · have := h.inc (k - c) j (by omega) hj; omega
    · rw [if_neg a1]
      split <;> omega
  · rw [hlen] at hi
    rw [shf_pa hc hi]
    have := h.rng i hi
    split
    · rename_i a
      by_cases e : i = k - c
      · subst e; omega
      · have := h.inc (k - c) i (by omega) hi; omega
    · omega
  · obtain ⟨y, hy, e⟩ := shf_mem hx
    rw [e]; exact h.vb y hy
  · rw [hlen] at hj
    rw [shf_ba hc (by omega), shf_ba hc hj]
    exact h.so i j hij hj
theorem VR.right {n : Int} {l : List Pl} (h : VR n l) {k d : Nat} (h1 : 1 ≤ d) (h2 : k + d ≤ l.length) (h3 : 0 < rm n l (k + d)) : VR n (shf l k d 1) := by
  have hlen := shf_len (d := 1) h2
  have hfr : fr l (k + d) = pa l (k + d - 1) + 1 := by rw [fr, if_pos (by omega)]
  have hgap : ∀ j, k + d ≤ j → j < l.length → pa l (k + d - 1) + 1 < pa l j := by
    intro j hj hjl
    rw [rm, hfr, too, if_pos (by omega)] at h3
    by_cases e : j = k + d
    · subst e; omega
    · have := h.inc (k + d) j (by omega) hjl; omega
  have hz : pa l (k + d - 1) + 1 < n := by
    have := (h.rm0 (k := k + d) h2).2.2.2
    rw [rm, hfr] at h3
    omega
  have hmx : ∀ i, i < k + d → pa l i ≤ pa l (k + d - 1) := by
    intro i hi
    by_cases e : i = k + d - 1
    · subst e; omega
    · have := h.inc i (k + d - 1) (by omega) (by omega); omega
  refine ⟨h.hn, fun i j hij hj => ?_, fun i hi => ?_, fun x hx => ?_, fun i j hij hj => ?_⟩
  · rw [hlen] at hj
    rw [shf_pa h2 (by omega), shf_pa h2 hj]
    have h0 := h.inc i j hij hj
    by_cases a1 : k ≤ i ∧ i < k + d
    · rw [if_pos a1]
      by_cases a2 : k ≤ j ∧ j < k + d
      · rw [if_pos a2]; omega
      · rw [if_neg a2]
        have := hgap j (by omega) hj
        have := hmx i (by omega)
        omega
    · rw [if_neg a1]
      split <;> omega
  · rw [hlen] at hi
    rw [shf_pa h2 hi]
    have := h.rng i hi
    split
    · have := hmx i (by omega); omega
    · omega
  · obtain ⟨y, hy, e⟩ := shf_mem hx
    rw [e]; exact h.vb y hy
  · rw [hlen] at hj
    rw [shf_ba h2 (by omega), shf_ba h2 hj]
    exact h.so i j hij hj

/-- What is known of how many books have to be moved. -/
theorem psh_cases {n : Int} {l : List Pl} (h : VR n l) {k : Nat} (hk : k ≤ l.length) (hf : (l.length : Int) < n) :
    (0 < rm n l k ∧ psh n l k = (0, false)) ∨
    (rm n l k = 0 ∧ ∃ c, psh n l k = (c, true) ∧ 1 ≤ c ∧ c ≤ k ∧ 0 < rm n l (k - c)) ∨
    (rm n l k = 0 ∧ ∃ d, psh n l k = (d, false) ∧ 1 ≤ d ∧ k + d ≤ l.length ∧ 0 < rm n l (k + d)) := by
  by_cases h0 : 0 < rm n l k
  · exact .inl ⟨h0, by rw [psh, if_pos h0]⟩
  have hz : rm n l k = 0 := by have := (h.rm0 hk).1; omega
  have hp : psh n l k = match lw n l k, hg n l k with
    | some c, some d => if c ≤ d then (c, true) else (d, false)
    | some c, none => (c, true)
    | none, some d => (d, false)
    | none, none => (l.length - k, false) := by rw [psh, if_neg h0]
  refine .inr ?_
  cases hl : lw n l k with
  | none =>
    cases hh : hg n l k with
    | none => have := h.full hk (by omega) hl hh; omega
    | some d =>
      rw [hl, hh] at hp
      obtain ⟨a1, a2, a3⟩ := hgF_some hh
      exact .inr ⟨hz, d, hp, a1, by omega, a3⟩
  | some c =>
    obtain ⟨b1, b2, b3⟩ := lw_some hl
    cases hh : hg n l k with
    | none => rw [hl, hh] at hp; exact .inl ⟨hz, c, hp, b1, b2, b3⟩
    | some d =>
      rw [hl, hh] at hp
      obtain ⟨a1, a2, a3⟩ := hgF_some hh
      by_cases e : c ≤ d
      · exact .inl ⟨hz, c, by rw [hp]; exact if_pos e, b1, b2, b3⟩
      · exact .inr ⟨hz, d, by rw [hp]; exact if_neg e, a1, by omega, a3⟩

theorem idx_spec {l : List Pl} {b : Bk} (hr : ∀ x ∈ l, bkRng x.b) (hb : bkRng b) : (∀ i, i < idx l b → ky (ba l i) ≤ ky b) ∧ (idx l b < l.length → ky b < ky (ba l (idx l b))) := by
  constructor
  · intro i hi
    have hil : i < l.length := Nat.lt_of_lt_of_le hi (idx_le l b)
    have := List.not_of_lt_findIdx hi
    have h2 := (uc_ky (hr l[i] (by simp)) hb).2
    rw [ba_get hil]
    have : ¬ 0 < uc l[i].b b := by simpa using this
    rw [h2] at this
    omega
  · intro h
    have := List.findIdx_getElem (w := h)
    have h2 := (uc_ky (hr l[idx l b] (by simp)) hb).2
    rw [ba_get h]
    have : 0 < uc l[idx l b].b b := of_decide_eq_true this
    rw [h2] at this
    exact this

theorem VR.added {n : Int} {l : List Pl} {b : Bk} (h : VR n l) (hf : (l.length : Int) < n) (hr : ∀ x ∈ l, bkRng x.b) (hb : bkRng b) (hv : vB b = true) :
    VR n (adL n l b) ∧ (adL n l b).length = l.length + 1 ∧ adM n l b ≤ l.length ∧ ∀ x ∈ adL n l b, x.b = b ∨ ∃ y ∈ l, x.b = y.b := by
  have hk := idx_le l b
  obtain ⟨i1, i2⟩ := idx_spec hr hb
  unfold adL adM
  generalize idx l b = k at hk i1 i2
  have hmem : ∀ {S : List Pl} {q : Int}, (∀ x ∈ S, ∃ y ∈ l, x.b = y.b) → ∀ x ∈ ins S k q b, x.b = b ∨ ∃ y ∈ l, x.b = y.b := by
    intro S q hS x hx
    unfold ins at hx
    rw [List.mem_append, List.mem_append] at hx
    rcases hx with (hx | hx) | hx
    · exact .inr (hS x (List.mem_of_mem_take hx))
    · simp at hx; subst hx; exact .inl rfl
    · exact .inr (hS x (List.mem_of_mem_drop hx))
  have hfr := h.rm0 hk
  rcases psh_cases h hk hf with ⟨h0, hp⟩ | ⟨h0, c, hp, c1, c2, c3⟩ | ⟨h0, d, hp, d1, d2, d3⟩
  · rw [sh, if_pos h0, nat', if_pos h0, hp]
    have ht : 0 ≤ (rm n l k - 1).tdiv 2 ∧ (rm n l k - 1).tdiv 2 < rm n l k := by
      rw [Int.tdiv_eq_ediv_of_nonneg (by omega)]
      omega
    have htoo : fr l k + rm n l k = too n l k := by unfold rm; omega
    refine ⟨h.put hk (fun hk0 => ?_) (fun hkl => ?_) (by omega) hv (fun hk0 => i1 _ (by omega)) (fun hkl => Int.le_of_lt (i2 hkl)), ins_len hk, Nat.zero_le _, hmem fun x hx => ⟨x, hx, rfl⟩⟩
    · have : fr l k = pa l (k - 1) + 1 := by rw [fr, if_pos hk0]
      omega
    · have : too n l k = pa l k := by rw [too, if_pos hkl]
      omega
  · have hS := h.left hk c1 c2 c3
    have hcl : k - c + c ≤ l.length := by omega
    have hSl := shf_len (d := -1) hcl
    have hfk : fr l k = pa l (k - 1) + 1 := by rw [fr, if_pos (by omega)]
    have hp1 := h.rng (k - 1) (by omega)
    have hn0 : ¬ 0 < rm n l k := by omega
    rw [show sh n l k = shf l (k - c) c (-1) by rw [sh, if_neg hn0, hp]; rfl, show nat' n l k = fr l k - 1 by rw [nat', if_neg hn0, hp]; rfl, hp]
    refine ⟨hS.put (by rw [hSl]; exact hk) (fun hk0 => ?_) (fun hkl => ?_) (by omega) hv (fun hk0 => ?_) (fun hkl => ?_), ?_, by show c ≤ _; omega, hmem fun x hx => shf_mem hx⟩
    · rw [shf_pa hcl (by omega), if_pos (by omega)]; omega
    · rw [hSl] at hkl
      rw [shf_pa hcl hkl, if_neg (by omega)]
      have := h.inc (k - 1) k (by omega) hkl
      omega
    · rw [shf_ba hcl (by omega)]; exact i1 _ (by omega)
    · rw [hSl] at hkl
      rw [shf_ba hcl hkl]; exact Int.le_of_lt (i2 hkl)
    · rw [ins_len (by rw [hSl]; exact hk), hSl]
  · have hS := h.right d1 d2 d3
    have hSl := shf_len (d := 1) d2
    have htoo : too n l k = pa l k := by rw [too, if_pos (by omega)]
    have heq : fr l k = pa l k := by unfold rm at h0; omega
    have hp1 := h.rng k (by omega)
    have hn0 : ¬ 0 < rm n l k := by omega
    rw [show sh n l k = shf l k d 1 by rw [sh, if_neg hn0, hp]; rfl, show nat' n l k = fr l k by rw [nat', if_neg hn0, hp]; rfl, hp]
    refine ⟨hS.put (by rw [hSl]; exact hk) (fun hk0 => ?_) (fun hkl => ?_) (by omega) hv (fun hk0 => ?_) (fun hkl => ?_), ?_, by show d ≤ _; omega, hmem fun x hx => shf_mem hx⟩
    · rw [shf_pa d2 (by omega), if_neg (by omega)]
      have := h.inc (k - 1) k (by omega) (by omega)
      omega
    · rw [shf_pa d2 (by omega), if_pos (by omega)]; omega
    · rw [shf_ba d2 (by omega)]; exact i1 _ (by omega)
    · rw [hSl] at hkl
      rw [shf_ba d2 hkl]; exact Int.le_of_lt (i2 hkl)
    · rw [ins_len (by rw [hSl]; exact hk), hSl]
end Go.Proofs.YtofakfkmglmhoaaGreat
