/- Contracts of the program's functions, and what follows from them. -/
import Derived.Test.YtcfkdcjindhnjaaK30
set_option linter.unusedVariables false
set_option maxRecDepth 100000
set_option linter.unusedSimpArgs false
namespace Go.Proofs.Ytcfkdcjindhnjaa
open Go Go.Av

/-! The plain law of walks: how far they are; which of two is taken. -/

theorem wk_up : ∀ (u : List Int) (s lo hi : Int), u.Pairwise (· ≤ ·) → Ext u lo hi → wkL u s = ap s lo + (hi - lo)
  | [], s, lo, hi, h, hE => absurd rfl hE.ne
  | [x], s, lo, hi, h, hE => by
    have h1 := hE.ml
    have h2 := hE.mh
    simp at h1 h2
    rw [wkL, wkL, h1, h2]
    omega
  | x :: y :: r, s, lo, hi, h, hE => by
    obtain ⟨hx, hr⟩ := List.pairwise_cons.1 h
    have hE0 := ext_ex (l := y :: r) (by simp)
    have hlo : lo = x := by
      have h1 := (hE.le x (by simp)).1
      rcases List.mem_cons.1 hE.ml with e | e
      · exact e
      · have := hx _ e; omega
    have h3 : lmin (y :: r) = y := by
      have h1 := (hE0.le y (by simp)).1
      rcases List.mem_cons.1 hE0.ml with e | e
      · exact e
      · have := (List.pairwise_cons.1 hr).1 _ e; omega
    have h4 : lmax (y :: r) = hi := by
      have h1 := (hE.le _ (List.mem_cons_of_mem x hE0.mh)).2
      rcases List.mem_cons.1 hE.mh with e | e
      · have := hx _ hE0.mh; omega
      · have := (hE0.le _ e).2; omega
    rw [h3, h4] at hE0
    rw [wkL, wk_up (y :: r) x y hi hr hE0, hlo]
    have := hx y (by simp)
    unfold ap
    omega
theorem wk_down : ∀ (u : List Int) (s lo hi : Int), u.Pairwise (· ≥ ·) → Ext u lo hi → wkL u s = ap s hi + (hi - lo)
  | [], s, lo, hi, h, hE => absurd rfl hE.ne
  | [x], s, lo, hi, h, hE => by
    have h1 := hE.ml
    have h2 := hE.mh
    simp at h1 h2
    rw [wkL, wkL, h1, h2]
    omega
  | x :: y :: r, s, lo, hi, h, hE => by
    obtain ⟨hx, hr⟩ := List.pairwise_cons.1 h
    have hE0 := ext_ex (l := y :: r) (by simp)
    have hlo : hi = x := by
      have h1 := (hE.le x (by simp)).2
      rcases List.mem_cons.1 hE.mh with e | e
      · exact e
      · have := hx _ e; omega
    have h3 : lmax (y :: r) = y := by
      have h1 := (hE0.le y (by simp)).2
      rcases List.mem_cons.1 hE0.mh with e | e
      · exact e
      · have := (List.pairwise_cons.1 hr).1 _ e; omega
    have h4 : lmin (y :: r) = lo := by
      have h1 := (hE.le _ (List.mem_cons_of_mem x hE0.ml)).1
      rcases List.mem_cons.1 hE.ml with e | e
      · have := hx _ hE0.ml; omega
      · have := (hE0.le _ e).1; omega
    rw [h3, h4] at hE0
    rw [wkL, wk_down (y :: r) x lo y hr hE0, hlo]
    have := hx y (by simp)
    unfold ap
    omega
theorem wk_app : ∀ (q r : List Int) (s : Int), wkL (q ++ r) s = wkL q s + wkL r (q.getLastD s)
  | [], r, s => by simp [wkL]
  | x :: q, r, s => by
    rw [List.cons_append, wkL, wkL, wk_app q r x]
    cases q with
    | nil => simp; omega
    | cons y q => simp [List.getLastD]; omega

/-- Two lists, compared number by number. -/
def cmpL : List Int → List Int → Int
  | [], [] => 0
  | [], _ :: _ => -1
  | _ :: _, [] => 1
  | x :: r, y :: t => if x < y then -1 else if y < x then 1 else cmpL r t
theorem pairwise_rev {p : List Int} (h : p.Pairwise (· ≤ ·)) : p.reverse.Pairwise (· ≥ ·) := List.pairwise_reverse.2 h

/-- Which walk is taken: the way up, if it is no longer; else up and then back. -/
theorem pick_ok {l p q : List Int} {s : Int} (hp : l.Perm (p ++ q)) (hs : (p ++ q).Pairwise (· ≤ ·)) (h1 : ∀ y ∈ p, y < s) (h2 : ∀ y ∈ q, s ≤ y) :
    (if wkL (p ++ q) s < wkL (q ++ p.reverse) s ∨ wkL (p ++ q) s = wkL (q ++ p.reverse) s ∧ cmpL (p ++ q) (q ++ p.reverse) ≤ 0 then p ++ q else q ++ p.reverse) = grd l.length l s ∧ wkL (grd l.length l s) s = lst l s := by
  by_cases hn : p ++ q = []
  · have hp0 : p = [] := by simp at hn; exact hn.1
    have hq0 : q = [] := by simp at hn; exact hn.2
    subst hp0 hq0
    have hl : l = [] := hp.eq_nil
    subst hl
    simp [grd, wkL, lst_nil]
  have hlen : (p ++ q).length = l.length := hp.length_eq.symm
  have hE := ext_ex hn
  generalize hlo : lmin (p ++ q) = lo at hE
  generalize hhi : lmax (p ++ q) = hi at hE
  have hle := (hE.le _ hE.mh).1
  obtain ⟨hs1, hs2, hs3⟩ := List.pairwise_append.1 hs
  have hwu := wk_up _ s lo hi hs hE
  have hlst : lst l s = hi - lo + min (ap s lo) (ap s hi) := lst_eq (hE.perm hp.symm) s
  -- how far the way up and back is
  have hwb : p ≠ [] → q ≠ [] → wkL (q ++ p.reverse) s = (hi - s) + (hi - lo) ∧ lo < s ∧ s ≤ hi ∧ cmpL (p ++ q) (q ++ p.reverse) = -1 := by
    intro hp0 hq0
    have eP := ext_ex hp0
    have eQ := ext_ex hq0
    have k1 : lmin p = lo := by
      have a1 := (hE.le _ (List.mem_append_left q eP.ml)).1
      rcases List.mem_append.1 hE.ml with e | e
      · have := (eP.le _ e).1; omega
      · have := hs3 _ eP.ml _ e; omega
    have k2 : lmax q = hi := by
      have a1 := (hE.le _ (List.mem_append_right p eQ.mh)).2
      rcases List.mem_append.1 hE.mh with e | e
      · have := hs3 _ e _ eQ.mh; omega
      · have := (eQ.le _ e).2; omega
    have k3 : q.getLastD s = hi := by
      rcases List.eq_nil_or_concat q with rfl | ⟨q', x, rfl⟩
      · exact absurd rfl hq0
      simp only [List.concat_eq_append] at *
      have a1 := (eQ.le x (by simp)).2
      have : lmax (q' ++ [x]) ≤ x := by
        rcases List.mem_append.1 eQ.mh with e | e
        · exact (List.pairwise_append.1 hs2).2.2 _ e x (by simp)
        · simp at e; omega
      simp
      omega
    rw [k1] at eP
    rw [k2] at eQ
    have hl1 := h1 _ eP.ml
    have hl2 := h1 _ eP.mh
    have hl3 := h2 _ eQ.ml
    have hl4 := h2 _ eQ.mh
    have hl5 := (eP.le _ eP.mh).1
    refine ⟨?_, hl1, hl4, ?_⟩
    · rw [wk_app, k3, wk_up q s _ _ hs2 eQ, wk_down p.reverse hi lo (lmax p) (pairwise_rev hs1) (eP.perm (List.reverse_perm p).symm)]
      unfold ap
      omega
    · cases p with
      | nil => exact absurd rfl hp0
      | cons x p =>
        cases q with
        | nil => exact absurd rfl hq0
        | cons y q =>
          have := h1 x (by simp)
          have := h2 y (by simp)
          rw [List.cons_append, List.cons_append, cmpL, if_pos (by omega)]
  by_cases hA : 2 * s ≤ lo + hi
  · have hg := grA l.length (p ++ q) l s hp hlen hs (fun a b hE2 => by obtain ⟨e1, e2⟩ := hE2.uniq hE; omega)
    rw [hg, hwu, hlst]
    refine ⟨?_, by unfold ap; omega⟩
    by_cases hp0 : p = []
    · subst hp0
      simp
    · have hq0 : q ≠ [] := by
        rintro rfl
        rw [List.append_nil] at hE
        have := h1 _ hE.mh
        have := h1 _ hE.ml
        omega
      obtain ⟨k1, k2, k3, k4⟩ := hwb hp0 hq0
      rw [k1, k4]
      unfold ap
      split
      · rfl
      · omega
  · by_cases hq0 : q = []
    · subst hq0
      simp only [List.append_nil, List.nil_append] at *
      have hg := grC l.length p l s hp hlen hs1 (fun y hy => by have := h1 y hy; omega)
      have hwd := wk_down p.reverse s lo hi (pairwise_rev hs1) (hE.perm (List.reverse_perm p).symm)
      have a1 := h1 _ hE.ml
      have a2 := h1 _ hE.mh
      rw [hg, hwd, hwu, hlst]
      refine ⟨?_, by unfold ap; omega⟩
      by_cases he : lo = hi
      · have hr : p = List.replicate p.length lo := List.eq_replicate_of_mem fun y hy => by have := hE.le y hy; omega
        have hrev : p.reverse = p := by rw [hr, List.reverse_replicate]
        rw [hrev]
        simp
      · rw [if_neg]
        unfold ap
        omega
    · have hp0 : p ≠ [] := by
        rintro rfl
        have := h2 _ hE.ml
        omega
      obtain ⟨k1, k2, k3, k4⟩ := hwb hp0 hq0
      have hg := grB l.length p q l s hp hlen hq0 hp0 hs h1 h2 (fun a b hE2 => by obtain ⟨e1, e2⟩ := hE2.uniq hE; omega)
      rw [hg, k1, hwu, hlst]
      refine ⟨?_, by unfold ap; omega⟩
      rw [if_neg]
      unfold ap
      omega
end Go.Proofs.Ytcfkdcjindhnjaa
