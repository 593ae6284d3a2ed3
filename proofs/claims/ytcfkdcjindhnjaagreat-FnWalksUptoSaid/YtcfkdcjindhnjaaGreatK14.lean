/- Contracts of the program's functions, and what follows from them. -/
import Derived.Test.YtcfkdcjindhnjaaGreatME
import Derived.Test.YtcfkdcjindhnjaaGreatE45
set_option linter.unusedVariables false
set_option maxRecDepth 100000
set_option linter.unusedSimpArgs false
namespace Go.Proofs.YtcfkdcjindhnjaaGreat
open Go Go.Av

/-! Books sorted by putting one after another into its place: with no program in sight. -/

def ky (x : Bk) : Int := (((x.cl * 256 + x.a) * 256 + x.b) * 256 + x.c) * 65536 + x.vol
theorem cmpI_or (a b : Int) : (a < b ∧ cmpI a b = -1) ∨ (a = b ∧ cmpI a b = 0) ∨ (b < a ∧ cmpI a b = 1) := by
  unfold cmpI
  rcases Int.lt_trichotomy a b with h | h | h
  · exact .inl ⟨h, by rw [if_pos h]⟩
  · subst h; exact .inr (.inl ⟨rfl, by simp⟩)
  · exact .inr (.inr ⟨h, by rw [if_neg (by omega), if_pos h]⟩)
theorem uc_ky {x y : Bk} (hx : bkRng x) (hy : bkRng y) : (uc x y < 0 ↔ ky x < ky y) ∧ (0 < uc x y ↔ ky y < ky x) := by
  obtain ⟨x1, x2, x3, x4, x5, -⟩ := hx
  obtain ⟨y1, y2, y3, y4, y5, -⟩ := hy
  unfold u8r at x2 x3 x4 y2 y3 y4
  unfold i16r at x1 x5 y1 y5
  unfold ky
  have f0 := fc0 x y
  have f2 := fc2 x y
  rcases cmpI_or x.cl y.cl with ⟨h1, e1⟩ | ⟨h1, e1⟩ | ⟨h1, e1⟩
  · rw [uc, f0, e1, if_pos (by decide)]
    omega
  · have f1 : fc x y 1 = if cmpI x.a y.a ≠ 0 then cmpI x.a y.a else if cmpI x.b y.b ≠ 0 then cmpI x.b y.b else cmpI x.c y.c := rfl
    rw [uc, f0, e1, if_neg (by decide)]
    rcases cmpI_or x.a y.a with ⟨h2, e2⟩ | ⟨h2, e2⟩ | ⟨h2, e2⟩
    · rw [e2, if_pos (by decide)] at f1
      rw [f1, if_pos (by decide)]
      omega
    · rw [e2, if_neg (by decide)] at f1
      rcases cmpI_or x.b y.b with ⟨h3, e3⟩ | ⟨h3, e3⟩ | ⟨h3, e3⟩
      · rw [e3, if_pos (by decide)] at f1
        rw [f1, if_pos (by decide)]
        omega
      · rw [e3, if_neg (by decide)] at f1
        rcases cmpI_or x.c y.c with ⟨h4, e4⟩ | ⟨h4, e4⟩ | ⟨h4, e4⟩
        · rw [e4] at f1
          rw [f1, if_pos (by decide)]
          omega
        · rw [e4] at f1
          rw [f1, if_neg (by decide), f2]
          rcases cmpI_or x.vol y.vol with ⟨h5, e5⟩ | ⟨h5, e5⟩ | ⟨h5, e5⟩ <;> rw [e5] <;> omega
        · rw [e4] at f1
          rw [f1, if_pos (by decide)]
          omega
      · rw [e3, if_pos (by decide)] at f1
        rw [f1, if_pos (by decide)]
        omega
    · rw [e2, if_pos (by decide)] at f1
      rw [f1, if_pos (by decide)]
      omega
  · rw [uc, f0, e1, if_pos (by decide)]
    omega

/-- Where a book belongs, looked for from behind. -/
def spl (L : List Bk) (b : Bk) : Nat → Nat
  | 0 => 0
  | k + 1 => if uc b (L.getD k bk0) < 0 then spl L b k else k + 1

def bOk (b : Bk) : Prop := bkRng b ∧ vB b = true

def insL (S : List Bk) (x : Bk) : List Bk := S.take (spl S x S.length) ++ [x] ++ S.drop (spl S x S.length)
def srtL (l : List Bk) : List Bk := l.foldl insL []
theorem srtL_step {l : List Bk} {i : Nat} (h : i < l.length) : srtL (l.take (i + 1)) = insL (srtL (l.take i)) l[i] := by
  rw [List.take_succ_eq_append_getElem h, srtL, List.foldl_append]
  rfl
theorem spl_le (S : List Bk) (x : Bk) : ∀ n, spl S x n ≤ n
  | 0 => Nat.le_refl 0
  | n + 1 => by
    rw [spl]
    have := spl_le S x n
    split <;> omega
theorem spl_hi (S : List Bk) (x : Bk) : ∀ n i, spl S x n ≤ i → i < n → uc x (S.getD i bk0) < 0
  | 0, i, _, h => absurd h (Nat.not_lt_zero _)
  | n + 1, i, h1, h2 => by
    rw [spl] at h1
    split at h1
    · rename_i h
      by_cases e : i = n
      · rw [e]; exact h
      · exact spl_hi S x n i h1 (by omega)
    · omega
theorem spl_lo (S : List Bk) (x : Bk) : ∀ n, 0 < spl S x n → ¬ uc x (S.getD (spl S x n - 1) bk0) < 0
  | 0, h => absurd h (Nat.lt_irrefl 0)
  | n + 1, h => by
    rw [spl] at h ⊢
    split
    · rename_i hc
      rw [if_pos hc] at h
      exact spl_lo S x n h
    · rename_i hc
      rw [Nat.add_sub_cancel]
      exact hc

def Srt (S : List Bk) : Prop := S.Pairwise fun a b => ky a ≤ ky b
theorem insL_len (S : List Bk) (x : Bk) : (insL S x).length = S.length + 1 := by
  have := spl_le S x S.length
  simp [insL]
  omega
theorem insL_mem {S : List Bk} {x y : Bk} (h : y ∈ insL S x) : y = x ∨ y ∈ S := by
  unfold insL at h
  rw [List.mem_append, List.mem_append] at h
  rcases h with (h | h) | h
  · exact .inr (List.mem_of_mem_take h)
  · exact .inl (by simpa using h)
  · exact .inr (List.mem_of_mem_drop h)
theorem insL_srt {S : List Bk} {x : Bk} (h : Srt S) (hS : ∀ y ∈ S, bkRng y) (hx : bkRng x) : Srt (insL S x) := by
  have hk := spl_le S x S.length
  have h1 := spl_hi S x S.length
  have h2 := spl_lo S x S.length
  unfold insL Srt
  generalize spl S x S.length = k at *
  have hlo : ∀ a ∈ S.take k, ky a ≤ ky x := by
    intro a ha
    obtain ⟨i, hi, rfl⟩ := List.getElem_of_mem ha
    rw [List.length_take] at hi
    rw [List.getElem_take]
    have e : ky (S[k - 1]'(by omega)) ≤ ky x := by
      have := h2 (by omega)
      rw [List.getD_eq_getElem?_getD, List.getElem?_eq_getElem (by omega)] at this
      have h3 := (uc_ky hx (hS (S[k - 1]'(by omega)) (List.getElem_mem _))).1
      have : ¬ uc x (S[k - 1]'(by omega)) < 0 := this
      rw [h3] at this
      omega
    by_cases ei : i = k - 1
    · subst ei; exact e
    · exact Int.le_trans (List.pairwise_iff_getElem.1 h i (k - 1) (by omega) (by omega) (by omega)) e
  have hhi : ∀ a ∈ S.drop k, ky x ≤ ky a := by
    intro a ha
    obtain ⟨i, hi, rfl⟩ := List.getElem_of_mem ha
    rw [List.length_drop] at hi
    rw [List.getElem_drop]
    have := h1 (k + i) (by omega) (by omega)
    rw [List.getD_eq_getElem?_getD, List.getElem?_eq_getElem (by omega)] at this
    have this : uc x (S[k + i]'(by omega)) < 0 := this
    rw [(uc_ky hx (hS (S[k + i]'(by omega)) (List.getElem_mem _))).1] at this
    omega
  have hsp : Srt (S.take k ++ S.drop k) := by rw [List.take_append_drop]; exact h
  obtain ⟨p1, p2, p3⟩ := List.pairwise_append.1 hsp
  rw [List.append_assoc, List.pairwise_append]
  refine ⟨p1, ?_, ?_⟩
  · rw [List.singleton_append, List.pairwise_cons]
    exact ⟨hhi, p2⟩
  · intro a ha b hb
    rcases List.mem_cons.1 (by simpa using hb : b ∈ x :: S.drop k) with rfl | hb
    · exact hlo a ha
    · exact p3 a ha b hb
theorem srtL_ok : ∀ (l : List Bk), (∀ x ∈ l, bkRng x) → ∀ S, Srt S → (∀ y ∈ S, bkRng y) → Srt (l.foldl insL S) ∧ (l.foldl insL S).length = S.length + l.length ∧ ∀ y ∈ l.foldl insL S, y ∈ l ∨ y ∈ S
  | [], _, S, h, _ => ⟨h, rfl, fun y hy => .inr hy⟩
  | x :: r, hl, S, h, hS => by
    have hx := hl x (by simp)
    obtain ⟨i1, i2, i3⟩ := srtL_ok r (fun y hy => hl y (List.mem_cons_of_mem _ hy)) (insL S x) (insL_srt h hS hx) (fun y hy => by
      rcases insL_mem hy with rfl | hy
      · exact hx
      · exact hS y hy)
    refine ⟨i1, by rw [List.foldl_cons, i2, insL_len, List.length_cons]; omega, fun y hy => ?_⟩
    rcases i3 y hy with hy | hy
    · exact .inl (List.mem_cons_of_mem _ hy)
    · rcases insL_mem hy with rfl | hy
      · exact .inl (by simp)
      · exact .inr hy
end Go.Proofs.YtcfkdcjindhnjaaGreat
