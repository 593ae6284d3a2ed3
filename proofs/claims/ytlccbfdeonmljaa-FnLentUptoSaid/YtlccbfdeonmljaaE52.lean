/- Contracts of the program's functions, and what follows from them. -/
import Derived.Test.YtlccbfdeonmljaaMG
set_option linter.unusedVariables false
set_option maxRecDepth 100000
set_option linter.unusedSimpArgs false
namespace Go.Proofs.Ytlccbfdeonmljaa
open Go Go.Av

/-! A valid desk stays valid, whatever act it takes: with no program in sight. -/

theorem vC_parts {c : Cp} {day : Int} (h0 : c.st ≠ 0) (h : vC c day = true) : (c.st = 1 ∨ c.st = 2) ∧ (0 ≤ c.who ∧ c.who ≤ 49) ∧ (0 ≤ c.due ∧ c.due ≤ 10028) ∧ c.q.length ≤ 4 ∧ (∀ x ∈ c.q, inr x 0 49 = true) ∧ (c.who :: c.q).Nodup ∧
    (c.st = 2 → c.ren = 0 ∧ day ≤ c.due) ∧ (c.st ≠ 2 → 0 ≤ c.ren ∧ c.ren ≤ 2) := by
  rw [vC, if_neg h0] at h
  simp only [Bool.and_eq_true, Bool.or_eq_true, decide_eq_true_eq, qOk, inr] at h
  obtain ⟨⟨⟨⟨⟨h1, h2⟩, h3⟩, h4⟩, h5, h6⟩, h7⟩ := h
  refine ⟨h1, h2, h3, h4, fun x hx => by simpa [inr] using h5 x hx, h6, fun e => ?_, fun e => ?_⟩
  · rw [if_pos e] at h7
    simpa using h7
  · rw [if_neg e] at h7
    simpa using h7
theorem vC_mk {c : Cp} {day : Int} (h0 : c.st ≠ 0) (h1 : c.st = 1 ∨ c.st = 2) (h2 : 0 ≤ c.who ∧ c.who ≤ 49) (h3 : 0 ≤ c.due ∧ c.due ≤ 10028) (h4 : c.q.length ≤ 4) (h5 : ∀ x ∈ c.q, inr x 0 49 = true) (h6 : (c.who :: c.q).Nodup)
    (h7 : c.st = 2 → c.ren = 0 ∧ day ≤ c.due) (h8 : c.st ≠ 2 → 0 ≤ c.ren ∧ c.ren ≤ 2) : vC c day = true := by
  rw [vC, if_neg h0]
  have e7 : (if c.st = 2 then decide (c.ren = 0) && decide (day ≤ c.due) else inr c.ren 0 2) = true := by
    split
    · rename_i e; simpa using h7 e
    · rename_i e; simpa [inr] using h8 e
  rw [e7]
  simp only [Bool.and_eq_true, Bool.or_eq_true, decide_eq_true_eq, qOk, inr]
  exact ⟨⟨⟨⟨⟨h1, h2⟩, h3⟩, h4⟩, fun x hx => by simpa [inr] using h5 x hx, h6⟩, trivial⟩

theorem freeC_vC {c : Cp} {e day : Int} (h0 : c.st ≠ 0) (h : vC c e = true) (hd : 0 ≤ day ∧ day ≤ 10001) : vC (freeC c day) day = true := by
  obtain ⟨_, _, _, h4, h5, h6, _, _⟩ := vC_parts h0 h
  unfold freeC
  split
  · rfl
  · rename_i q0 qd hq
    rw [hq] at h4 h5 h6
    have h6' := (List.nodup_cons.1 h6).2
    have hq0 : 0 ≤ q0 ∧ q0 ≤ 49 := by simpa [inr] using h5 q0 (by simp)
    exact vC_mk (by simp) (.inr rfl) hq0 ⟨by show 0 ≤ day + 7; omega, by show day + 7 ≤ 10028; omega⟩ (by simp at h4; show qd.length ≤ 4; omega) (fun x hx => h5 x (List.mem_cons_of_mem _ hx)) h6' (fun _ => ⟨rfl, by show day ≤ day + 7; omega⟩) (fun h => absurd rfl h)

theorem nxC_vC {c : Cp} {day : Int} (h : vC c day = true) (hd : 0 ≤ day ∧ day ≤ 10000) : vC (nxC (day + 1) c) (day + 1) = true := by
  unfold nxC
  split
  · rename_i hc
    exact freeC_vC (by rw [hc.1]; decide) h (by omega)
  · rename_i hc
    by_cases h0 : c.st = 0
    · rw [vC, if_pos h0] at h ⊢
      exact h
    · obtain ⟨h1, h2, h3, h4, h5, h6, h7, h8⟩ := vC_parts h0 h
      exact vC_mk h0 h1 h2 h3 h4 h5 h6 (fun e => ⟨(h7 e).1, by have := fun h => hc ⟨e, h⟩; omega⟩) h8

theorem lentTo_free (w : Int) (c : Cp) (day : Int) : lentTo w (freeC c day) = false := by
  unfold freeC lentTo
  split <;> simp [cp0]

theorem idxs_count {α : Type} (p : α → Bool) (l : List α) : (idxs p l).length = l.countP p := by
  unfold idxs
  rw [List.length_map, List.countP_eq_length_filter]
  have : ∀ n : Nat, ((l.zipIdx n).filter fun x => p x.1).length = (l.filter p).length := by
    induction l with
    | nil => intro n; rfl
    | cons x l ih =>
      intro n
      rw [List.zipIdx_cons, List.filter_cons, List.filter_cons]
      by_cases h : p x = true
      · rw [if_pos h, if_pos h, List.length_cons, List.length_cons, ih]
      · rw [if_neg h, if_neg h, ih]
  exact this 0

/-- A valid desk, in parts. -/
theorem vD_parts {d : Dk} : vD d = true ↔ (0 ≤ d.day ∧ d.day ≤ 10000) ∧ d.cs.length ≤ 60 ∧ (∀ c ∈ d.cs, vC c d.day = true) ∧ ∀ w : Int, 0 ≤ w → w < 50 → d.cs.countP (lentTo w) ≤ 3 := by
  simp only [vD, Bool.and_eq_true, inr, decide_eq_true_eq, List.all_eq_true, nums, List.mem_map, List.mem_range, idxs_count]
  constructor
  · rintro ⟨⟨⟨h1, h2⟩, h3⟩, h4⟩
    exact ⟨h1, h2, h3, fun w h0 h1 => h4 w ⟨w.toNat, by omega, by omega⟩⟩
  · rintro ⟨h1, h2, h3, h4⟩
    refine ⟨⟨⟨h1, h2⟩, h3⟩, ?_⟩
    rintro w ⟨k, hk, rfl⟩
    exact h4 _ (by omega) (by omega)

theorem chC_vC {d : Dk} {c : Cp} {what who : Int} (h : vC c d.day = true) (hd : 0 ≤ d.day ∧ d.day ≤ 10000) (hw : 0 ≤ who ∧ who ≤ 49) (hc : (chC d c what who).2 = true) :
    vC (chC d c what who).1 d.day = true ∧ ∀ w, lentTo w (chC d c what who).1 = true → lentTo w c = true ∨ (w = who ∧ d.cs.countP (lentTo who) < 3) := by
  unfold chC at hc ⊢
  by_cases e0 : what = 0
  · rw [if_pos e0] at hc ⊢
    simp only [mayP, stMay, Bool.and_eq_true, Bool.or_eq_true, decide_eq_true_eq, idxs_count] at hc
    obtain ⟨⟨h1, h2⟩, _⟩ := hc
    refine ⟨?_, fun w hl => .inr ?_⟩
    · have hq : c.q.length ≤ 4 ∧ (∀ x ∈ c.q, inr x 0 49 = true) ∧ (who :: c.q).Nodup := by
        rcases h1 with h1 | ⟨h1, h1'⟩
        · rw [vC, if_pos h1] at h
          simp only [Bool.and_eq_true, decide_eq_true_eq] at h
          rw [h.2]
          exact ⟨by simp, by simp, by simp⟩
        · obtain ⟨_, _, _, h4, h5, h6, _, _⟩ := vC_parts (by omega) h
          rw [h1'] at h6
          exact ⟨h4, h5, h6⟩
      exact vC_mk (by show (1 : Int) ≠ 0; decide) (.inl rfl) hw ⟨by show 0 ≤ d.day + 28; omega, by show d.day + 28 ≤ 10028; omega⟩ hq.1 hq.2.1 hq.2.2 (fun h => by have h : (1 : Int) = 2 := h; omega) (fun _ => ⟨Int.le_refl 0, by show (0 : Int) ≤ 2; omega⟩)
    · simp only [lentTo, Bool.and_eq_true, decide_eq_true_eq] at hl
      exact ⟨hl.2.symm, h2⟩
  rw [if_neg e0] at hc ⊢
  by_cases e1 : what = 1
  · rw [if_pos e1] at hc ⊢
    simp only [lentTo, Bool.and_eq_true, decide_eq_true_eq] at hc
    refine ⟨freeC_vC (by omega) h (by omega), fun w hl => ?_⟩
    have hl : lentTo w (freeC c d.day) = true := hl
    rw [lentTo_free] at hl
    cases hl
  rw [if_neg e1] at hc ⊢
  by_cases e2 : what = 2
  · rw [if_pos e2] at hc ⊢
    simp only [ask2, Bool.not_eq_true', Bool.or_eq_false_iff, decide_eq_false_iff_not, List.any_eq_false] at hc
    obtain ⟨⟨⟨h1, h2⟩, h3⟩, h4⟩ := hc
    obtain ⟨k1, k2, k3, k4, k5, k6, k7, k8⟩ := vC_parts h1 h
    refine ⟨vC_mk h1 k1 k2 k3 ?_ ?_ ?_ k7 k8, fun w hl => .inl hl⟩
    · show (c.q ++ [who]).length ≤ 4
      rw [List.length_append]
      simp
      omega
    · intro x hx
      have hx : x ∈ c.q ++ [who] := hx
      rcases List.mem_append.1 hx with hx | hx
      · exact k5 x hx
      · rw [List.mem_singleton.1 hx]
        simp [inr]; omega
    · show (c.who :: (c.q ++ [who])).Nodup
      rw [← List.cons_append, List.nodup_append]
      refine ⟨k6, by simp, fun a ha b hb => ?_⟩
      rw [List.mem_singleton.1 hb]
      rcases List.mem_cons.1 ha with rfl | ha
      · exact h2
      · intro e
        have := h3 a ha
        rw [e] at this
        simp at this
  rw [if_neg e2] at hc ⊢
  by_cases e3 : what = 3
  · rw [if_pos e3] at hc ⊢
    simp only [ren3, Bool.not_eq_true', Bool.or_eq_false_iff, decide_eq_false_iff_not, Bool.not_eq_false'] at hc
    obtain ⟨⟨⟨h1, h2⟩, h3⟩, h4⟩ := hc
    have hl : lentTo who c = true := by simpa using h1
    simp only [lentTo, Bool.and_eq_true, decide_eq_true_eq] at hl
    obtain ⟨k1, k2, k3, k4, k5, k6, k7, k8⟩ := vC_parts (by omega) h
    have k8 := k8 (by omega)
    refine ⟨vC_mk (by show c.st ≠ 0; omega) k1 k2 ⟨by show 0 ≤ d.day + 28; omega, by show d.day + 28 ≤ 10028; omega⟩ k4 k5 k6 (fun e => by have e : c.st = 2 := e; omega) (fun _ => ⟨by show 0 ≤ c.ren + 1; omega, by show c.ren + 1 ≤ 2; omega⟩), fun w hl => .inl hl⟩
  rw [if_neg e3] at hc ⊢
  by_cases e4 : c.st = 2 ∧ c.who = who
  · rw [if_pos e4] at hc ⊢
    refine ⟨freeC_vC (by omega) h (by omega), fun w hl => ?_⟩
    have hl : lentTo w (freeC c d.day) = true := hl
    rw [lentTo_free] at hl
    cases hl
  · rw [if_neg e4] at hc ⊢
    have h0 : c.st ≠ 0 := by
      intro h0
      rw [vC, if_pos h0] at h
      simp only [Bool.and_eq_true, decide_eq_true_eq] at h
      rw [h.2] at hc
      simp at hc
    obtain ⟨k1, k2, k3, k4, k5, k6, k7, k8⟩ := vC_parts h0 h
    refine ⟨vC_mk h0 k1 k2 k3 (Nat.le_trans (List.length_filter_le _ _) k4) (fun x hx => k5 x ((List.mem_filter.1 hx).1)) ?_ k7 k8, fun w hl => .inl hl⟩
    show (c.who :: c.q.filter _).Nodup
    exact k6.sublist (List.Sublist.cons_cons _ List.filter_sublist)

/-- A valid desk stays valid. -/
theorem vD_ap {d : Dk} {a : Ac} (h : vD d = true) (hc : (apR d a).2.2 = 0) : vD (apR d a).1 = true := by
  obtain ⟨h1, h2, h3, h4⟩ := vD_parts.1 h
  unfold apR at hc ⊢
  split
  · rename_i e; rw [if_pos e] at hc; simp at hc
  · rename_i e
    rw [if_neg e] at hc
    split
    · rename_i e5
      rw [if_pos e5] at hc
      split
      · rename_i e6; rw [if_pos e6] at hc; simp at hc
      · rename_i e6
        rw [if_neg e6] at hc
        split
        · rename_i e7; rw [if_pos e7] at hc; simp at hc
        · rename_i e7
          refine vD_parts.2 ⟨by show 0 ≤ d.day + 1 ∧ d.day + 1 ≤ 10000; omega, by show (d.cs.map _).length ≤ 60; rw [List.length_map]; exact h2, fun c hc' => ?_, fun w w0 w1 => ?_⟩
          · obtain ⟨c0, hc0, rfl⟩ := List.mem_map.1 (show c ∈ d.cs.map (nxC (d.day + 1)) from hc')
            exact nxC_vC (h3 c0 hc0) h1
          · show (d.cs.map (nxC (d.day + 1))).countP (lentTo w) ≤ 3
            rw [List.countP_map]
            refine Nat.le_trans (List.countP_mono_left fun c _ hc' => ?_) (h4 w w0 w1)
            have hc' : lentTo w (nxC (d.day + 1) c) = true := hc'
            unfold nxC at hc'
            split at hc'
            · rw [lentTo_free] at hc'; cases hc'
            · exact hc'
    · rename_i e5
      rw [if_neg e5] at hc
      split
      · rename_i e6; rw [if_pos e6] at hc; simp at hc
      · rename_i e6
        rw [if_neg e6] at hc
        split
        · rename_i e7; rw [if_pos e7] at hc; simp at hc
        · rename_i e7
          simp only [Bool.not_eq_false, Bool.and_eq_true, inr, decide_eq_true_eq] at e6
          obtain ⟨hwho, hbk⟩ := e6
          have hlt : a.book.toNat < d.cs.length := by omega
          have hget : d.cs.getD a.book.toNat cp0 = d.cs[a.book.toNat] := by rw [List.getD_eq_getElem?_getD, List.getElem?_eq_getElem hlt]; rfl
          rw [hget] at e7 ⊢
          have e7 : (chC d d.cs[a.book.toNat] a.what a.who).2 = true := by simpa using e7
          obtain ⟨k1, k2⟩ := chC_vC (h3 _ (List.getElem_mem hlt)) h1 hwho e7
          generalize (chC d d.cs[a.book.toNat] a.what a.who).1 = c' at k1 k2
          refine vD_parts.2 ⟨h1, by show (d.cs.set _ _).length ≤ 60; rw [List.length_set]; exact h2, fun c hc' => ?_, fun w w0 w1 => ?_⟩
          · rcases List.mem_or_eq_of_mem_set (show c ∈ d.cs.set a.book.toNat c' from hc') with hm | rfl
            · exact h3 c hm
            · exact k1
          · show (d.cs.set a.book.toNat c').countP (lentTo w) ≤ 3
            rw [List.countP_set hlt]
            have hw := h4 w w0 w1
            have hpos : lentTo w d.cs[a.book.toNat] = true → 0 < d.cs.countP (lentTo w) := fun h => List.countP_pos_iff.2 ⟨_, List.getElem_mem hlt, h⟩
            by_cases hl : lentTo w c' = true
            · rw [if_pos hl]
              rcases k2 w hl with h5 | ⟨rfl, h5⟩
              · rw [if_pos h5]
                have := hpos h5
                omega
              · split <;> omega
            · rw [if_neg hl]
              omega
end Go.Proofs.Ytlccbfdeonmljaa
