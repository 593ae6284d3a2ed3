/- Contracts of the program's functions, and what follows from them. -/
import Derived.Test.YtcfkdcjindhnjaaMD
set_option linter.unusedVariables false
set_option maxRecDepth 100000
set_option linter.unusedSimpArgs false
namespace Go.Proofs.Ytcfkdcjindhnjaa
open Go Go.Av

/-! The plain law of walks: the least walk, step by step, goes up, or up and then down. -/

def ap (a b : Int) : Int := max (a - b) (b - a)
def wkL : List Int → Int → Int
  | [], _ => 0
  | x :: r, s => ap s x + wkL r x
def lmin : List Int → Int
  | [] => 0
  | x :: r => r.foldl min x
def lmax : List Int → Int
  | [] => 0
  | x :: r => r.foldl max x
def lst (l : List Int) (s : Int) : Int := if l = [] then 0 else lmax l - lmin l + min (ap s (lmin l)) (ap s (lmax l))

/-- The least and the greatest of a list. -/
structure Ext (l : List Int) (lo hi : Int) : Prop where
  ml : lo ∈ l
  mh : hi ∈ l
  le : ∀ x ∈ l, lo ≤ x ∧ x ≤ hi

theorem foldl_min_ok : ∀ (r : List Int) (x : Int), (r.foldl min x = x ∨ r.foldl min x ∈ r) ∧ r.foldl min x ≤ x ∧ ∀ y ∈ r, r.foldl min x ≤ y
  | [], x => ⟨.inl rfl, Int.le_refl _, by simp⟩
  | z :: r, x => by
    obtain ⟨h1, h2, h3⟩ := foldl_min_ok r (min x z)
    rw [List.foldl_cons]
    refine ⟨?_, by omega, fun y hy => ?_⟩
    · rcases h1 with h | h
      · rcases Int.le_total x z with e | e
        · left; rw [h]; omega
        · right; rw [h, show min x z = z by omega]; simp
      · right; exact List.mem_cons_of_mem _ h
    · rcases List.mem_cons.1 hy with rfl | hy
      · omega
      · exact h3 y hy
theorem foldl_max_ok : ∀ (r : List Int) (x : Int), (r.foldl max x = x ∨ r.foldl max x ∈ r) ∧ x ≤ r.foldl max x ∧ ∀ y ∈ r, y ≤ r.foldl max x
  | [], x => ⟨.inl rfl, Int.le_refl _, by simp⟩
  | z :: r, x => by
    obtain ⟨h1, h2, h3⟩ := foldl_max_ok r (max x z)
    rw [List.foldl_cons]
    refine ⟨?_, by omega, fun y hy => ?_⟩
    · rcases h1 with h | h
      · rcases Int.le_total x z with e | e
        · right; rw [h, show max x z = z by omega]; simp
        · left; rw [h]; omega
      · right; exact List.mem_cons_of_mem _ h
    · rcases List.mem_cons.1 hy with rfl | hy
      · omega
      · exact h3 y hy
theorem ext_ex {l : List Int} (h : l ≠ []) : Ext l (lmin l) (lmax l) := by
  cases l with
  | nil => exact absurd rfl h
  | cons x r =>
    obtain ⟨a1, a2, a3⟩ := foldl_min_ok r x
    obtain ⟨b1, b2, b3⟩ := foldl_max_ok r x
    refine ⟨?_, ?_, fun y hy => ?_⟩
    · rcases a1 with e | e
      · show r.foldl min x ∈ _
        rw [e]; simp
      · exact List.mem_cons_of_mem _ e
    · rcases b1 with e | e
      · show r.foldl max x ∈ _
        rw [e]; simp
      · exact List.mem_cons_of_mem _ e
    · rcases List.mem_cons.1 hy with rfl | hy
      · exact ⟨a2, b2⟩
      · exact ⟨a3 y hy, b3 y hy⟩
theorem Ext.uniq {l : List Int} {a b c d : Int} (h : Ext l a b) (h' : Ext l c d) : a = c ∧ b = d := by
  have h1 := h.le c h'.ml
  have h2 := h'.le a h.ml
  have h3 := h.le d h'.mh
  have h4 := h'.le b h.mh
  omega
theorem Ext.perm {l m : List Int} {a b : Int} (h : Ext l a b) (hp : l.Perm m) : Ext m a b :=
  ⟨hp.mem_iff.1 h.ml, hp.mem_iff.1 h.mh, fun x hx => h.le x (hp.mem_iff.2 hx)⟩
theorem Ext.ne {l : List Int} {a b : Int} (h : Ext l a b) : l ≠ [] := fun e => by have := h.ml; rw [e] at this; simp at this
theorem lst_eq {l : List Int} {lo hi : Int} (h : Ext l lo hi) (s : Int) : lst l s = hi - lo + min (ap s lo) (ap s hi) := by
  obtain ⟨h1, h2⟩ := h.uniq (ext_ex h.ne)
  rw [lst, if_neg h.ne, ← h1, ← h2]
theorem lst_nil (s : Int) : lst [] s = 0 := by rw [lst, if_pos rfl]
theorem erase_perm {l : List Int} {i : Nat} (h : i < l.length) : (l[i] :: l.eraseIdx i).Perm l := by
  rw [List.eraseIdx_eq_take_drop_succ]
  have e : l = l.take i ++ l[i] :: l.drop (i + 1) := by rw [List.getElem_cons_drop, List.take_append_drop]
  exact List.perm_middle.symm.trans (List.Perm.of_eq e.symm)

/-- What is left behind one stop. -/
theorem er {l : List Int} {lo hi : Int} (h : Ext l lo hi) {i : Nat} (hi' : i < l.length) :
    l.eraseIdx i = [] ∧ lo = l.getD i 0 ∧ hi = l.getD i 0 ∨ ∃ a b, Ext (l.eraseIdx i) a b ∧ lo ≤ a ∧ b ≤ hi ∧ a ≤ b ∧ (a = lo ∨ l.getD i 0 = lo) ∧ (b = hi ∨ l.getD i 0 = hi) := by
  have hp : (l.getD i 0 :: l.eraseIdx i).Perm l := by
    rw [List.getD_eq_getElem?_getD, List.getElem?_eq_getElem hi', Option.getD_some]
    exact erase_perm hi'
  have hm : ∀ z, z ∈ l ↔ z = l.getD i 0 ∨ z ∈ l.eraseIdx i := fun z => by rw [← hp.mem_iff, List.mem_cons]
  generalize l.getD i 0 = y at hm
  generalize l.eraseIdx i = m at hm
  by_cases hn : m = []
  · subst hn
    left
    have h1 := (hm lo).1 h.ml
    have h2 := (hm hi).1 h.mh
    simp at h1 h2
    exact ⟨rfl, h1, h2⟩
  · right
    have e := ext_ex hn
    have k1 := h.le _ ((hm _).2 (.inr e.ml))
    have k2 := h.le _ ((hm _).2 (.inr e.mh))
    refine ⟨lmin m, lmax m, e, k1.1, k2.2, (e.le _ e.mh).1, ?_, ?_⟩
    · rcases (hm lo).1 h.ml with r | r
      · exact .inr r.symm
      · have := (e.le _ r).1
        left; omega
    · rcases (hm hi).1 h.mh with r | r
      · exact .inr r.symm
      · have := (e.le _ r).2
        left; omega

/-! ### The stop that is taken -/

def opt (l : List Int) (s : Int) (i : Nat) : Bool := decide (ap s (l.getD i 0) + lst (l.eraseIdx i) (l.getD i 0) = lst l s)
def bst (l : List Int) (s : Int) : Nat → Int
  | 0 => -1
  | j + 1 => if (opt l s j && (decide (bst l s j < 0) || decide (l.getD j 0 < l.getD (bst l s j).toNat 0))) = true then (j : Int) else bst l s j
theorem bst_ok (l : List Int) (s : Int) : ∀ n, (bst l s n = -1 ∧ ∀ j, j < n → opt l s j = false) ∨ ∃ b : Nat, bst l s n = b ∧ b < n ∧ opt l s b = true ∧ ∀ j, j < n → opt l s j = true → l.getD b 0 ≤ l.getD j 0
  | 0 => .inl ⟨rfl, fun j hj => by omega⟩
  | n + 1 => by
    rw [bst]
    by_cases ho : opt l s n = true
    · rcases bst_ok l s n with ⟨h1, h2⟩ | ⟨b, h1, h2, h3, h4⟩
      · rw [h1, ho, if_pos (by rw [Bool.true_and, Bool.or_eq_true]; left; decide)]
        refine .inr ⟨n, rfl, by omega, ho, fun j hj hoj => ?_⟩
        by_cases e : j = n
        · subst e; exact Int.le_refl _
        · rw [h2 j (by omega)] at hoj; simp at hoj
      · rw [h1, ho]
        simp only [Bool.true_and, Int.toNat_natCast]
        by_cases hlt : l.getD n 0 < l.getD b 0
        · rw [if_pos (by rw [Bool.or_eq_true, decide_eq_true_eq, decide_eq_true_eq]; exact .inr hlt)]
          refine .inr ⟨n, rfl, by omega, ho, fun j hj hoj => ?_⟩
          by_cases e : j = n
          · subst e; exact Int.le_refl _
          · have := h4 j (by omega) hoj
            omega
        · rw [if_neg (by rw [Bool.or_eq_true, decide_eq_true_eq, decide_eq_true_eq]; omega)]
          refine .inr ⟨b, rfl, by omega, h3, fun j hj hoj => ?_⟩
          by_cases e : j = n
          · subst e; omega
          · exact h4 j (by omega) hoj
    · have ho : opt l s n = false := by simpa using ho
      rw [ho, if_neg (by simp)]
      rcases bst_ok l s n with ⟨h1, h2⟩ | ⟨b, h1, h2, h3, h4⟩
      · refine .inl ⟨h1, fun j hj => ?_⟩
        by_cases e : j = n
        · subst e; exact ho
        · exact h2 j (by omega)
      · refine .inr ⟨b, h1, by omega, h3, fun j hj hoj => ?_⟩
        by_cases e : j = n
        · subst e; rw [ho] at hoj; simp at hoj
        · exact h4 j (by omega) hoj

theorem mem_idx {l : List Int} {x : Int} (h : x ∈ l) : ∃ i, i < l.length ∧ l.getD i 0 = x := by
  obtain ⟨i, h1, h2⟩ := List.mem_iff_getElem.1 h
  exact ⟨i, h1, by rw [List.getD_eq_getElem?_getD, List.getElem?_eq_getElem h1, Option.getD_some, h2]⟩
theorem idx_mem {l : List Int} {i : Nat} (h : i < l.length) : l.getD i 0 ∈ l := by
  rw [List.getD_eq_getElem?_getD, List.getElem?_eq_getElem h, Option.getD_some]
  exact List.getElem_mem _

/-- The stop that is taken, by its number. -/
theorem bst_val {l : List Int} {s x : Int} (hx : x ∈ l) (ho : ∀ i, i < l.length → l.getD i 0 = x → opt l s i = true) (hmin : ∀ j, j < l.length → opt l s j = true → x ≤ l.getD j 0) :
    ∃ b : Nat, bst l s l.length = b ∧ b < l.length ∧ l.getD b 0 = x ∧ l.Perm (x :: l.eraseIdx b) := by
  obtain ⟨i, h1, h2⟩ := mem_idx hx
  rcases bst_ok l s l.length with ⟨_, h⟩ | ⟨b, k1, k2, k3, k4⟩
  · have := h i h1
    rw [ho i h1 h2] at this
    simp at this
  · have e : l.getD b 0 = x := by
      have := hmin b k2 k3
      have := k4 i h1 (ho i h1 h2)
      omega
    refine ⟨b, k1, k2, e, ?_⟩
    have hp := (erase_perm k2).symm
    rw [List.getD_eq_getElem?_getD, List.getElem?_eq_getElem k2, Option.getD_some] at e
    rw [e] at hp
    exact hp

def grd : Nat → List Int → Int → List Int
  | 0, _, _ => []
  | n + 1, l, s => l.getD (bst l s l.length).toNat 0 :: grd n (l.eraseIdx (bst l s l.length).toNat) (l.getD (bst l s l.length).toNat 0)
theorem grd_step {n : Nat} {l : List Int} {s x : Int} {b : Nat} (h1 : bst l s l.length = b) (h2 : l.getD b 0 = x) : grd (n + 1) l s = x :: grd n (l.eraseIdx b) x := by
  rw [grd, h1, Int.toNat_natCast, h2]

/-- Upwards. -/
theorem grA : ∀ (n : Nat) (u l : List Int) (s : Int), l.Perm u → u.length = n → u.Pairwise (· ≤ ·) → (∀ lo hi, Ext u lo hi → 2 * s ≤ lo + hi) → grd n l s = u
  | 0, u, l, s, hp, hl, hs, h => by rw [List.length_eq_zero_iff.1 hl]; rfl
  | n + 1, [], l, s, hp, hl, hs, h => by simp at hl
  | n + 1, x :: r, l, s, hp, hl, hs, h => by
    obtain ⟨hx, hr⟩ := List.pairwise_cons.1 hs
    have hE0 := ext_ex (l := x :: r) (by simp)
    have hE : Ext (x :: r) x (lmax (x :: r)) := ⟨by simp, hE0.mh, fun y hy => ⟨by
      rcases List.mem_cons.1 hy with rfl | hy
      · exact Int.le_refl _
      · exact hx y hy, (hE0.le y hy).2⟩⟩
    have h2 := h _ _ hE
    have hE' := hE.perm hp.symm
    generalize lmax (x :: r) = hi at hE hE' h2
    have hle := (hE'.le x hE'.ml).2
    obtain ⟨b, k1, k2, k3, k4⟩ := bst_val (l := l) (s := s) (x := x) (hp.mem_iff.2 (by simp)) (fun i hi' e => by
      rw [opt, decide_eq_true_eq, lst_eq hE', e]
      rcases er hE' hi' with ⟨e1, e2, e3⟩ | ⟨a, c, e1, e2, e3, e4, e5, e6⟩
      · rw [e1, lst_nil]; unfold ap; omega
      · rw [lst_eq e1]; rw [e] at e5 e6; unfold ap; omega) (fun j hj _ => (hE'.le _ (idx_mem hj)).1)
    rw [grd_step k1 k3, grA n r _ x ((List.Perm.cons_inv (k4.symm.trans hp))) (by simpa using hl) hr (fun lo' hi' hE2 => by
      have := hx _ hE2.ml
      have := hx _ hE2.mh
      omega)]

/-- Downwards. -/
theorem grC : ∀ (n : Nat) (p l : List Int) (s : Int), l.Perm p → p.length = n → p.Pairwise (· ≤ ·) → (∀ x ∈ p, x ≤ s) → grd n l s = p.reverse
  | 0, p, l, s, hp, hl, hs, h => by rw [List.length_eq_zero_iff.1 hl]; rfl
  | n + 1, p, l, s, hp, hl, hs, h => by
    rcases List.eq_nil_or_concat p with rfl | ⟨p', x, rfl⟩
    · simp at hl
    simp only [List.concat_eq_append] at *
    obtain ⟨hs1, hs2, hs3⟩ := List.pairwise_append.1 hs
    have hE0 := ext_ex (l := p' ++ [x]) (by simp)
    have hE : Ext (p' ++ [x]) (lmin (p' ++ [x])) x := ⟨hE0.ml, by simp, fun y hy => ⟨(hE0.le y hy).1, by
      rcases List.mem_append.1 hy with hy | hy
      · exact hs3 y hy x (by simp)
      · simp at hy; omega⟩⟩
    have hE' := hE.perm hp.symm
    have hxs := h x (by simp)
    generalize lmin (p' ++ [x]) = lo at hE hE'
    have hle := (hE'.le lo hE'.ml).2
    obtain ⟨b, k1, k2, k3, k4⟩ := bst_val (l := l) (s := s) (x := x) (hp.mem_iff.2 (by simp)) (fun i hi' e => by
      rw [opt, decide_eq_true_eq, lst_eq hE', e]
      rcases er hE' hi' with ⟨e1, e2, e3⟩ | ⟨a, c, e1, e2, e3, e4, e5, e6⟩
      · rw [e1, lst_nil]; unfold ap; omega
      · rw [lst_eq e1]; rw [e] at e5 e6; unfold ap; omega) (fun j hj ho => by
      rw [opt, decide_eq_true_eq, lst_eq hE'] at ho
      have hy := hE'.le _ (idx_mem hj)
      rcases er hE' hj with ⟨e1, e2, e3⟩ | ⟨a, c, e1, e2, e3, e4, e5, e6⟩
      · omega
      · rw [lst_eq e1] at ho
        unfold ap at ho
        omega)
    have hp2 : (l.eraseIdx b).Perm p' := List.Perm.cons_inv (k4.symm.trans (hp.trans (List.perm_append_comm.trans (by simp))))
    rw [grd_step k1 k3, grC n p' _ x hp2 (by simpa using hl) hs1 (fun y hy => hs3 y hy x (by simp))]
    simp

/-- Upwards, and then back. -/
theorem grB : ∀ (n : Nat) (p q l : List Int) (s : Int), l.Perm (p ++ q) → (p ++ q).length = n → q ≠ [] → p ≠ [] → (p ++ q).Pairwise (· ≤ ·) → (∀ y ∈ p, y < s) → (∀ y ∈ q, s ≤ y) → (∀ lo hi, Ext (p ++ q) lo hi → lo + hi < 2 * s) → grd n l s = q ++ p.reverse
  | 0, p, q, l, s, hp, hl, hq, hp0, hs, h1, h2, h3 => by
    have := List.length_eq_zero_iff.1 hl
    simp at this
    exact absurd this.1 hp0
  | n + 1, p, [], l, s, hp, hl, hq, hp0, hs, h1, h2, h3 => absurd rfl hq
  | n + 1, p, x :: q, l, s, hp, hl, hq, hp0, hs, h1, h2, h3 => by
    obtain ⟨hs1, hs2, hs3⟩ := List.pairwise_append.1 hs
    obtain ⟨hx, hqs⟩ := List.pairwise_cons.1 hs2
    have hE := ext_ex (l := p ++ x :: q) (by simp)
    have hlh := h3 _ _ hE
    have hE' := hE.perm hp.symm
    have hsx := h2 x (by simp)
    obtain ⟨y0, hy0⟩ := List.exists_mem_of_ne_nil p hp0
    have hlo : lmin (p ++ x :: q) < s := by
      have := h1 y0 hy0
      have := (hE.le y0 (by simp [hy0])).1
      omega
    have hhi : x ≤ lmax (p ++ x :: q) := (hE.le x (by simp)).2
    have hny : ∀ y, y ∈ l → y < x → y < s := fun y hy hlt => by
      rcases List.mem_append.1 (hp.mem_iff.1 hy) with h | h
      · exact h1 y h
      · rcases List.mem_cons.1 h with rfl | h
        · omega
        · have := hx y h; omega
    have hE3 := h3
    generalize lmin (p ++ x :: q) = lo at hE hE' hlo hlh
    generalize lmax (p ++ x :: q) = hi at hE hE' hhi hlh
    obtain ⟨b, k1, k2, k3, k4⟩ := bst_val (l := l) (s := s) (x := x) (hp.mem_iff.2 (by simp)) (fun i hi' e => by
      rw [opt, decide_eq_true_eq, lst_eq hE', e]
      rcases er hE' hi' with ⟨e1, e2, e3⟩ | ⟨a, c, e1, e2, e3, e4, e5, e6⟩
      · omega
      · rw [lst_eq e1]; rw [e] at e5 e6; unfold ap; omega) (fun j hj ho => by
      rw [opt, decide_eq_true_eq, lst_eq hE'] at ho
      have hy := hE'.le _ (idx_mem hj)
      have hn := hny _ (idx_mem hj)
      rcases er hE' hj with ⟨e1, e2, e3⟩ | ⟨a, c, e1, e2, e3, e4, e5, e6⟩
      · omega
      · rw [lst_eq e1] at ho
        unfold ap at ho
        omega)
    have hp2 : (l.eraseIdx b).Perm (p ++ q) := List.Perm.cons_inv (k4.symm.trans (hp.trans List.perm_middle))
    have hs' : (p ++ q).Pairwise (· ≤ ·) := List.pairwise_append.2 ⟨hs1, hqs, fun a ha c hc => hs3 a ha c (by simp [hc])⟩
    have hl' : (p ++ q).length = n := by simp at hl ⊢; omega
    rw [grd_step k1 k3]
    by_cases hq0 : q = []
    · subst hq0
      rw [List.append_nil] at hp2 hl' hs'
      rw [grC n p _ x hp2 hl' hs1 (fun y hy => by have := h1 y hy; omega)]
      rfl
    · rw [grB n p q _ x hp2 hl' hq0 hp0 hs' (fun y hy => by have := h1 y hy; omega) hx (fun a c hE2 => by
        have ha := hE.le a (by
          rcases List.mem_append.1 hE2.ml with h | h
          · simp [h]
          · simp [h])
        have hc := hE.le c (by
          rcases List.mem_append.1 hE2.mh with h | h
          · simp [h]
          · simp [h])
        have ha2 : a ≤ lo := by
          rcases List.mem_append.1 hE.ml with h | h
          · exact (hE2.le lo (by simp [h])).1
          · have := h2 lo h
            omega
        omega)]
      rfl
end Go.Proofs.Ytcfkdcjindhnjaa
