/- Contracts of the program's functions, and what follows from them. -/
import Derived.Test.YtlccbfdeonmljaaE53
import Derived.Test.YtlccbfdeonmljaaE51
import Derived.Test.YtlccbfdeonmljaaMD
import Derived.Test.YtlccbfdeonmljaaMG
set_option linter.unusedVariables false
set_option maxRecDepth 100000
set_option linter.unusedSimpArgs false
namespace Go.Proofs.Ytlccbfdeonmljaa
open Go Go.Av

/-! What a desk tells is what its copies are: with no program in sight. -/

/-- The persons are those that are drawn: 0 to 3. -/
def cP4 (c : Cp) : Prop := (0 ≤ c.who ∧ c.who ≤ 3) ∧ ∀ x ∈ c.q, 0 ≤ x ∧ x ≤ 3
def P4 (d : Dk) : Prop := ∀ c ∈ d.cs, cP4 c

theorem cP4_0 : cP4 cp0 := ⟨⟨by decide, by decide⟩, fun x hx => by simp [cp0] at hx⟩
theorem freeC_P4 {c : Cp} (day : Int) (h : cP4 c) : cP4 (freeC c day) := by
  unfold freeC
  split
  · exact cP4_0
  · rename_i q0 qd hq
    obtain ⟨h1, h2⟩ := h
    rw [hq] at h2
    exact ⟨h2 q0 (by simp), fun x hx => h2 x (List.mem_cons_of_mem _ hx)⟩
theorem chC_P4 {d : Dk} {c : Cp} {what who : Int} (h : cP4 c) (hw : 0 ≤ who ∧ who ≤ 3) : cP4 (chC d c what who).1 := by
  unfold chC
  split
  · exact ⟨hw, h.2⟩
  split
  · exact freeC_P4 _ h
  split
  · refine ⟨h.1, fun x hx => ?_⟩
    rcases List.mem_append.1 (show x ∈ c.q ++ [who] from hx) with hx | hx
    · exact h.2 x hx
    · rw [List.mem_singleton.1 hx]; exact hw
  split
  · exact ⟨h.1, h.2⟩
  split
  · exact freeC_P4 _ h
  · exact ⟨h.1, fun x hx => h.2 x (List.mem_filter.1 (show x ∈ c.q.filter _ from hx)).1⟩

/-- What an act makes of a desk, where it is taken. -/
theorem ap_ok {d : Dk} {a : Ac} (hc : (apR d a).2.2 = 0) : (a.what = 5 ∧ apR d a = (nxD d, 0, 0)) ∨
    (a.what ≠ 5 ∧ (0 ≤ a.who ∧ a.who ≤ 49) ∧ a.book.toNat < d.cs.length ∧ (chC d (d.cs.getD a.book.toNat cp0) a.what a.who).2 = true ∧
      apR d a = (⟨d.day, d.cs.set a.book.toNat (chC d (d.cs.getD a.book.toNat cp0) a.what a.who).1⟩, if a.what = 1 then fineP d.day (d.cs.getD a.book.toNat cp0) else 0, 0)) := by
  unfold apR at hc ⊢
  split at hc
  · simp at hc
  rename_i h1
  rw [if_neg h1]
  split at hc
  · rename_i h2
    rw [if_pos h2]
    split at hc
    · simp at hc
    rename_i h3
    rw [if_neg h3]
    split at hc
    · simp at hc
    rename_i h4
    rw [if_neg h4]
    exact .inl ⟨h2, rfl⟩
  · rename_i h2
    rw [if_neg h2]
    split at hc
    · simp at hc
    rename_i h3
    rw [if_neg h3]
    split at hc
    · simp at hc
    rename_i h4
    rw [if_neg h4]
    simp only [Bool.not_eq_false, Bool.and_eq_true, inr, decide_eq_true_eq] at h3
    exact .inr ⟨h2, h3.1, by omega, by simpa using h4, rfl⟩

theorem P4_ap {d : Dk} {a : Ac} (h : P4 d) (ha : 0 ≤ a.who ∧ a.who ≤ 3) (hc : (apR d a).2.2 = 0) : P4 (apR d a).1 := by
  rcases ap_ok hc with ⟨_, e⟩ | ⟨_, _, hlt, _, e⟩
  · rw [e]
    intro c hc
    obtain ⟨c0, hc0, rfl⟩ := List.mem_map.1 (show c ∈ d.cs.map (nxC (d.day + 1)) from hc)
    unfold nxC
    split
    · exact freeC_P4 _ (h c0 hc0)
    · exact h c0 hc0
  · rw [e]
    intro c hc
    rcases List.mem_or_eq_of_mem_set (show c ∈ d.cs.set _ _ from hc) with hm | rfl
    · exact h c hm
    · refine chC_P4 (h _ ?_) ha
      rw [List.getD_eq_getElem?_getD, List.getElem?_eq_getElem hlt]
      exact List.getElem_mem hlt
theorem ap_len {d : Dk} {a : Ac} (hc : (apR d a).2.2 = 0) : (apR d a).1.cs.length = d.cs.length := by
  rcases ap_ok hc with ⟨_, e⟩ | ⟨_, _, _, _, e⟩
  · rw [e]; exact List.length_map ..
  · rw [e]; exact List.length_set ..
theorem fineP_nn (day : Int) (c : Cp) : 0 ≤ fineP day c := by
  unfold fineP over
  split
  · rename_i h
    simp at h
    omega
  · exact Int.le_refl 0
theorem ap_owed {d : Dk} {a : Ac} (hc : (apR d a).2.2 = 0) : 0 ≤ (apR d a).2.1 := by
  rcases ap_ok hc with ⟨_, e⟩ | ⟨_, _, _, _, e⟩
  · rw [e]; exact Int.le_refl 0
  · rw [e]
    show (0 : Int) ≤ if a.what = 1 then _ else _
    split
    · exact fineP_nn _ _
    · exact Int.le_refl 0
theorem ap_code (d : Dk) (a : Ac) : (apR d a).2.2 = 0 ∨ (apR d a).2.2 = 2 ∨ (apR d a).2.2 = 4 := by
  unfold apR
  split
  · exact .inr (.inl rfl)
  split
  · split
    · exact .inr (.inl rfl)
    split
    · exact .inr (.inr rfl)
    · exact .inl rfl
  split
  · exact .inr (.inl rfl)
  split
  · exact .inr (.inr rfl)
  · exact .inl rfl
theorem P4_emp (n : Int) : P4 (empD n) := by
  intro c hc
  unfold empD at hc
  split at hc
  · rw [(List.mem_replicate.1 hc).2]; exact cP4_0
  · simp at hc
theorem P4_dwR : ∀ (l : List Ac) {d : Dk}, (∀ a ∈ l, acDr a) → P4 d → P4 (dwR l d)
  | [], _, _, h => h
  | a :: l, d, ha, h => by
    unfold dwR
    split
    · exact P4_dwR l (fun b hb => ha b (List.mem_cons_of_mem _ hb)) (P4_ap h (ha a (by simp)).2.1 (by assumption))
    · exact P4_dwR l (fun b hb => ha b (List.mem_cons_of_mem _ hb)) h
theorem P4_dyR : ∀ (k : Nat) {d : Dk}, P4 d → P4 (dyR k d)
  | 0, _, h => h
  | k + 1, d, h => by
    unfold dyR
    split
    · exact P4_dyR k (P4_ap h (by decide) (by assumption))
    · exact h
/-! Counts. -/
theorem nst_count (s : Int) (l : List Cp) : nst s l = l.countP fun c => decide (c.st = s) := by
  rw [nst, List.countP_eq_length_filter]
  congr 1
theorem off_count (l : List Cp) : nst 0 l + (idxs offShelf l).length = l.length := by
  rw [nst_count, idxs_count]
  induction l with
  | nil => rfl
  | cons c l ih =>
    rw [List.countP_cons, List.countP_cons, List.length_cons]
    by_cases h : c.st = 0
    · simp [h, offShelf]; omega
    · simp [h, offShelf]; omega
theorem st12_count {l : List Cp} (h : ∀ c ∈ l, c.st = 0 ∨ c.st = 1 ∨ c.st = 2) : nst 1 l + nst 2 l = (idxs offShelf l).length := by
  rw [nst_count, nst_count, idxs_count]
  induction l with
  | nil => rfl
  | cons c l ih =>
    have ih := ih fun c hc => h c (List.mem_cons_of_mem _ hc)
    rw [List.countP_cons, List.countP_cons, List.countP_cons]
    rcases h c (by simp) with h | h | h
    · simp [h, offShelf]; omega
    · simp [h, offShelf]; omega
    · simp [h, offShelf]; omega
/-- All that is lent is lent to one of the four. -/
theorem lent_count {l : List Cp} (h : ∀ c ∈ l, cP4 c) : l.countP (lentTo 0) + l.countP (lentTo 1) + l.countP (lentTo 2) + l.countP (lentTo 3) = nst 1 l := by
  rw [nst_count]
  induction l with
  | nil => rfl
  | cons c l ih =>
    have ih := ih fun c hc => h c (List.mem_cons_of_mem _ hc)
    have hw := (h c (by simp)).1
    simp only [List.countP_cons, lentTo]
    by_cases e : c.st = 1
    · have hw : c.who = 0 ∨ c.who = 1 ∨ c.who = 2 ∨ c.who = 3 := by omega
      rcases hw with w | w | w | w <;> simp [e, w] <;> omega
    · simp [e]; omega
/-- Those lent to the first k persons. -/
def lentN (l : List Cp) : Nat → Nat
  | 0 => 0
  | k + 1 => lentN l k + (idxs (lentTo (k : Nat)) l).length
theorem lentN_4 {l : List Cp} (h : ∀ c ∈ l, cP4 c) : lentN l 4 = nst 1 l := by
  rw [← lent_count h]
  simp only [lentN, idxs_count]
  show 0 + _ + _ + _ + _ = _
  rw [Nat.zero_add]
  rfl
theorem lentN_le (l : List Cp) (k : Nat) : lentN l k ≤ k * l.length := by
  induction k with
  | zero => simp [lentN]
  | succ k ih =>
    have := idxs_len (lentTo (k : Nat)) l
    rw [lentN, Nat.succ_mul]
    omega

/-- The first k fines. -/
def fineN (d : Dk) (k : Nat) : Int := ((d.cs.take k).map (fineP d.day)).sum
theorem fineN_step {d : Dk} {k : Nat} (h : k < d.cs.length) : fineN d (k + 1) = fineN d k + fineP d.day d.cs[k] := by
  rw [fineN, List.take_succ_eq_append_getElem h, List.map_append, List.sum_append]
  simp [fineN]
theorem fineP_over (day : Int) (c : Cp) : decide (0 < fineP day c) = over day c := by
  unfold fineP
  by_cases h : over day c = true
  · rw [if_pos h, h]
    simp [over] at h
    simp
    omega
  · rw [if_neg h]
    simp only [Bool.not_eq_true] at h
    rw [h]
    rfl
theorem fineP_5 (day : Int) (c : Cp) : fineP day c % 5 = 0 := by
  unfold fineP
  split <;> omega
theorem fineP_le {day : Int} {c : Cp} (hd : 0 ≤ day ∧ day ≤ 10000) (hc : 0 ≤ c.due) : fineP day c ≤ 50000 := by
  unfold fineP
  split <;> omega
theorem idxs_ne {p : Cp → Bool} {l : List Cp} : idxs p l ≠ [] ↔ ∃ c ∈ l, p c = true := by
  rw [← List.length_pos_iff, idxs_count, List.countP_pos_iff]
theorem fineN_pos {d : Dk} : ∀ k, 0 ≤ fineN d k ∧ (0 < fineN d k ↔ ∃ c ∈ d.cs.take k, over d.day c = true)
  | 0 => by simp [fineN]
  | k + 1 => by
    obtain ⟨h1, h2⟩ := fineN_pos (d := d) k
    by_cases hk : k < d.cs.length
    · rw [fineN_step hk]
      have h3 := fineP_nn d.day d.cs[k]
      have h4 := fineP_over d.day d.cs[k]
      refine ⟨by omega, ?_⟩
      rw [List.take_succ_eq_append_getElem hk]
      constructor
      · intro h
        by_cases h5 : 0 < fineN d k
        · obtain ⟨c, hc, ho⟩ := h2.1 h5
          exact ⟨c, List.mem_append_left _ hc, ho⟩
        · refine ⟨d.cs[k], List.mem_append_right _ (by simp), ?_⟩
          rw [← h4, decide_eq_true_eq]
          omega
      · rintro ⟨c, hc, ho⟩
        rcases List.mem_append.1 hc with hc | hc
        · have := h2.2 ⟨c, hc, ho⟩
          omega
        · rw [List.mem_singleton.1 hc, ← h4, decide_eq_true_eq] at ho
          omega
    · have e : d.cs.take (k + 1) = d.cs.take k := by rw [List.take_of_length_le (by omega), List.take_of_length_le (by omega)]
      rw [fineN, e]
      exact ⟨h1, h2⟩
theorem fineN_all {d : Dk} : decide (0 < fineN d d.cs.length) = decide (0 < (idxs (over d.day) d.cs).length) := by
  have h := (fineN_pos (d := d) d.cs.length).2
  rw [List.take_length, ← idxs_ne, ← List.length_pos_iff] at h
  exact decide_eq_decide.2 h
theorem fineN_le {d : Dk} (hd : 0 ≤ d.day ∧ d.day ≤ 10000) (hc : ∀ c ∈ d.cs, 0 ≤ c.due) : ∀ k : Nat, fineN d k ≤ (k : Int) * 50000
  | 0 => by simp [fineN]
  | k + 1 => by
    have ih := fineN_le hd hc k
    by_cases hk : k < d.cs.length
    · rw [fineN_step hk]
      have := fineP_le hd (hc _ (List.getElem_mem hk))
      omega
    · have e : d.cs.take (k + 1) = d.cs.take k := by rw [List.take_of_length_le (by omega), List.take_of_length_le (by omega)]
      have e2 : fineN d (k + 1) = fineN d k := by rw [fineN, e]; rfl
      omega

theorem mnL_le (F : Int → Int) (L : List Int) {y : Int} (hy : y ∈ L) : F (mnL F L) ≤ F y := by
  cases L with
  | nil => simp at hy
  | cons x xs =>
    simp only [mnL]
    induction xs generalizing x y with
    | nil => rw [List.mem_singleton.1 hy]; exact Int.le_refl _
    | cons z xs ih =>
      simp only [List.foldl_cons]
      by_cases h : F z < F x
      · rw [if_pos h]
        rcases List.mem_cons.1 hy with rfl | hy
        · have := ih z (y := z) (by simp)
          omega
        · exact ih z hy
      · rw [if_neg h]
        rcases List.mem_cons.1 hy with rfl | hy
        · exact ih y (by simp)
        · rcases List.mem_cons.1 hy with rfl | hy
          · have := ih x (y := x) (by simp)
            omega
          · exact ih x (List.mem_cons_of_mem _ hy)

/-- The next day on which something is due is past, if something is overdue. -/
theorem nd_over {d : Dk} (hv : vD d = true) (h : idxs (over d.day) d.cs ≠ []) : (ndRes d).2.2 = 0 ∧ (ndRes d).2.1 < d.day := by
  obtain ⟨c, hc, ho⟩ := idxs_ne.1 h
  obtain ⟨j, hj, rfl⟩ := List.getElem_of_mem hc
  simp only [over, Bool.and_eq_true, decide_eq_true_eq] at ho
  have hm : (j : Int) ∈ idxs isL d.cs := mem_idxs.2 ⟨j, hj, rfl, by simp [isL, ho.1]⟩
  have hne : idxs isL d.cs ≠ [] := List.ne_nil_of_mem hm
  rw [ndRes, if_pos hv, if_neg hne]
  refine ⟨rfl, ?_⟩
  have h1 := mnL_le (dueOf d) _ hm
  have h2 : dueOf d (j : Int) = d.cs[j].due := by simp [dueOf, hj]
  show dueOf d (mnL (dueOf d) (idxs isL d.cs)) < d.day
  omega

/-- Whether a place is among those found. -/
theorem has_idxs {p : Cp → Bool} {l : List Cp} {j : Nat} (hj : j < l.length) : (idxs p l).any (fun x => x == (j : Int)) = p l[j] := by
  rw [Bool.eq_iff_iff, List.any_eq_true]
  constructor
  · rintro ⟨x, hx, e⟩
    obtain ⟨i, hi, rfl, hp⟩ := mem_idxs.1 hx
    have : i = j := by simp at e; omega
    subst this
    exact hp
  · intro h
    exact ⟨j, mem_idxs.2 ⟨j, hj, rfl, h⟩, by simp⟩

theorem ap_not {d : Dk} {a : Ac} (h : (apR d a).2.2 ≠ 0) : (apR d a).1 = dk0 := by
  unfold apR at h ⊢
  split
  · rfl
  rename_i h1
  rw [if_neg h1] at h
  split
  · rename_i h2
    rw [if_pos h2] at h
    split
    · rfl
    rename_i h3
    rw [if_neg h3] at h
    split
    · rfl
    rename_i h4
    rw [if_neg h4] at h
    exact absurd rfl h
  · rename_i h2
    rw [if_neg h2] at h
    split
    · rfl
    rename_i h3
    rw [if_neg h3] at h
    split
    · rfl
    rename_i h4
    rw [if_neg h4] at h
    exact absurd rfl h
theorem ap_dk {d : Dk} {a : Ac} (hW : WD d) (ha : acRng a) : (apR d a).1.cs.length ≤ 1048576 ∧ ∀ c ∈ (apR d a).1.cs, c.q.length ≤ 1048576 := by
  by_cases h : (apR d a).2.2 = 0
  · exact (hW.ap ha h).1.ok
  · rw [ap_not h]
    exact ⟨Nat.zero_le _, fun c hc => by simp [dk0] at hc⟩

theorem getD_lt {l : List Cp} {b : Nat} (hb : b < l.length) : l.getD ((b : Nat) : Int).toNat cp0 = l[b] := by
  rw [Int.toNat_natCast, List.getD_eq_getElem?_getD, List.getElem?_eq_getElem hb]
  rfl
/-- What is lent, where it may be. -/
theorem lend_ap {D : Dk} {w b : Nat} (hw : w ≤ 49) (hb : b < D.cs.length) : apR D ⟨0, (w : Nat), (b : Nat)⟩ =
    if mayP D (w : Nat) D.cs[b] = true then (⟨D.day, D.cs.set b ⟨1, (w : Nat), D.day + 28, 0, D.cs[b].q⟩⟩, 0, 0) else (dk0, 0, 4) := by
  have e1 : inr 0 0 5 = true := by decide
  have e2 : (inr ((w : Nat) : Int) 0 49 && inr ((b : Nat) : Int) 0 (D.cs.length - 1)) = true := by
    simp only [inr, Bool.and_eq_true, decide_eq_true_eq]
    omega
  unfold apR
  simp only [e1, e2, getD_lt hb]
  unfold chC
  simp only [if_true]
  cases h : mayP D (w : Nat) D.cs[b] <;> simp
theorem lend_code {D : Dk} {w b : Nat} (hw : w ≤ 49) (hb : b < D.cs.length) : mayP D (w : Nat) D.cs[b] = decide ((apR D ⟨0, (w : Nat), (b : Nat)⟩).2.2 = 0) := by
  rw [lend_ap hw hb]
  cases h : mayP D (w : Nat) D.cs[b] <;> simp
theorem lend_ok {D : Dk} {w b : Nat} (hw : w ≤ 49) (hb : b < D.cs.length) (h : mayP D (w : Nat) D.cs[b] = true) :
    (apR D ⟨0, (w : Nat), (b : Nat)⟩).1.cs = D.cs.set b ⟨1, (w : Nat), D.day + 28, 0, D.cs[b].q⟩ := by
  rw [lend_ap hw hb, if_pos h]

theorem dCode_ok {D : Dk} {w b : Nat} (hv : vD D = true) (hw : w ≤ 49) (hb : b < D.cs.length) : dCode D (w : Nat) (b : Nat) = 0 := by
  rw [dCode, if_pos hv, if_pos]
  simp only [inr, Bool.and_eq_true, decide_eq_true_eq]
  omega
theorem place_ok {D : Dk} {w b : Nat} (hv : vD D = true) (hw : w ≤ 49) (hb : b < D.cs.length) : (waitRes D (w : Nat) (b : Nat)).2 = (placeRes D (w : Nat) (b : Nat)).2 ∧
    ((placeRes D (w : Nat) (b : Nat)).2 = 0 → ∃ k : Nat, ∃ h : k < D.cs[b].q.length, (placeRes D (w : Nat) (b : Nat)).1 = (k : Nat) ∧ D.cs[b].q[k] = (w : Nat) ∧ askP (w : Nat) D.cs[b] = true) := by
  rw [waitRes, placeRes, if_pos (dCode_ok hv hw hb), if_pos (dCode_ok hv hw hb), plq, getD_lt hb]
  by_cases h : fi (fun x => x == ((w : Nat) : Int)) D.cs[b].q < 0
  · rw [if_pos h, if_pos h]
    exact ⟨rfl, fun h => by simp at h⟩
  · rw [if_neg h, if_neg h]
    refine ⟨rfl, fun _ => ?_⟩
    unfold fi at h ⊢
    split
    · rename_i hk
      have hp := List.findIdx_getElem (p := fun x => x == ((w : Nat) : Int)) (xs := D.cs[b].q) (w := hk)
      refine ⟨_, hk, rfl, by simpa using hp, ?_⟩
      rw [askP, Bool.or_eq_true]
      exact .inr (List.any_eq_true.2 ⟨_, List.getElem_mem hk, hp⟩)
    · rename_i hk
      rw [if_neg hk] at h
      exact absurd (show (-1 : Int) < 0 by decide) h
theorem loan_ok {D : Dk} {w : Nat} (hv : vD D = true) (hw : w ≤ 49) : loanRes D (w : Nat) = (idxs (lentTo (w : Nat)) D.cs, 0) := by
  rw [loanRes, if_pos hv, if_pos]
  simp only [inr, Bool.and_eq_true, decide_eq_true_eq]
  omega
theorem ask_ok {D : Dk} {w : Nat} (hv : vD D = true) (hw : w ≤ 49) : askRes D (w : Nat) = (idxs (askP (w : Nat)) D.cs, 0) := by
  rw [askRes, if_pos hv, if_pos]
  simp only [inr, Bool.and_eq_true, decide_eq_true_eq]
  omega
theorem loan_3 {D : Dk} {w : Nat} (hv : vD D = true) (hw : w ≤ 49) : (idxs (lentTo (w : Nat)) D.cs).length ≤ 3 := by
  rw [idxs_count]
  exact (vD_parts.1 hv).2.2.2 _ (by omega) (by omega)
theorem may_ok {D : Dk} {w b : Nat} (hv : vD D = true) (hw : w ≤ 49) (hb : b < D.cs.length) : mayRes D (w : Nat) (b : Nat) = (mayP D (w : Nat) D.cs[b], 0) := by
  rw [mayRes, if_pos (dCode_ok hv hw hb), getD_lt hb]
theorem fine_ok {D : Dk} {b : Nat} (hv : vD D = true) (hb : b < D.cs.length) : fineRes D (b : Nat) = (fineP D.day D.cs[b], 0) := by
  have : dCode D 0 (b : Nat) = 0 := dCode_ok (w := 0) hv (by decide) hb
  rw [fineRes, if_pos this, getD_lt hb]
end Go.Proofs.Ytlccbfdeonmljaa
