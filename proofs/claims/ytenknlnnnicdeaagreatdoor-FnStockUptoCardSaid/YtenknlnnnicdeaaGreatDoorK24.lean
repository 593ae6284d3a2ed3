/- Contracts of the program's functions, and what follows from them. -/
import Derived.Test.YtenknlnnnicdeaaGreatDoorK14
import Derived.Test.YtenknlnnnicdeaaGreatDoorME
set_option linter.unusedVariables false
set_option maxRecDepth 100000
set_option linter.unusedSimpArgs false
namespace Go.Proofs.YtenknlnnnicdeaaGreatDoor
open Go Go.Av

/-! A catalogue and its shelf: with no program in sight. -/

theorem more_cnt (l o : List Bk) (x : Bk) : ∀ j, j ≤ l.length → (more l o j).count x = (l.take j).count x - o.count x
  | 0, _ => by simp [more]
  | j + 1, h => by
    have hlt : j < l.length := by omega
    have ih := more_cnt l o x j (by omega)
    have hg : l.getD j bk0 = l[j] := by simp [hlt]
    rw [more, List.count_append, ih, count_step hlt, hg]
    have hm : moreP l o j = decide (o.count l[j] ≤ (l.take j).count l[j]) := by rw [moreP, hg]
    rw [hm]
    by_cases e : l[j] = x
    · rw [if_pos e, e]
      by_cases hc : o.count x ≤ (l.take j).count x
      · rw [decide_eq_true hc, if_pos rfl, List.count_singleton_self]
        omega
      · rw [decide_eq_false hc, if_neg (by decide), List.count_nil]
        omega
    · rw [if_neg e]
      split
      · rw [List.count_singleton, if_neg (by simpa using e)]
        omega
      · rw [List.count_nil]
        omega
theorem more_cnts (l o : List Bk) (x : Bk) : (more l o l.length).count x = l.count x - o.count x := by
  rw [more_cnt l o x l.length (Nat.le_refl _), List.take_length]
theorem mr_mem {l o : List Bk} {y : Bk} (h : y ∈ more l o l.length) : y ∈ l := by
  have h1 := List.count_pos_iff.2 h
  rw [more_cnts] at h1
  exact List.count_pos_iff.1 (by omega)
theorem stock_cnt' (a b : List Bk) (x : Bk) : (((b ++ more a b a.length).count x : Nat) : Int) - ((more b a b.length).count x : Nat) = (a.count x : Nat) := by
  rw [List.count_append, more_cnts, more_cnts]
  omega

/-! Lists of places in order. -/
theorem inc_filter : ∀ (n : Nat) (K : List Nat), K.Pairwise (· < ·) → (∀ x ∈ K, x < n) → (List.range n).filter (fun i => K.any fun k => k == i) = K
  | 0, K, _, h => by
    cases K with
    | nil => rfl
    | cons a K => exact absurd (h a (by simp)) (Nat.not_lt_zero _)
  | n + 1, K, hp, h => by
    rw [List.range_succ, List.filter_append]
    by_cases hn : n ∈ K
    · obtain ⟨K', z, rfl⟩ := list_snoc (List.ne_nil_of_mem hn)
      obtain ⟨p1, _, p3⟩ := List.pairwise_append.1 hp
      have hz : z = n := by
        rcases List.mem_append.1 hn with hn | hn
        · have h1 := p3 n hn z (by simp)
          have h2 := h z (by simp)
          omega
        · exact (List.mem_singleton.1 hn).symm
      subst hz
      have hlt : ∀ x ∈ K', x < z := fun x hx => p3 x hx z (by simp)
      have ih := inc_filter z K' p1 hlt
      have e1 : (List.range z).filter (fun i => (K' ++ [z]).any fun k => k == i) = (List.range z).filter (fun i => K'.any fun k => k == i) := by
        refine List.filter_congr fun i hi => ?_
        rw [List.any_append]
        have : ([z].any fun k => k == i) = false := by
          have := List.mem_range.1 hi
          simp
          omega
        rw [this, Bool.or_false]
      rw [e1, ih]
      simp
    · have hlt : ∀ x ∈ K, x < n := fun x hx => by
        have := h x hx
        have : x ≠ n := fun e => hn (e ▸ hx)
        omega
      rw [inc_filter n K hp hlt]
      have : (K.any fun k => k == n) = false := by
        rw [List.any_eq_false]
        intro x hx
        have := hlt x hx
        simp
        omega
      simp [this]

theorem wo_eq (l : List Bk) (out : List Int) : ∀ n, wo l out n = ((List.range n).filter fun i : Nat => !(out.any fun x => x == (i : Int))).map fun i => l.getD i bk0
  | 0 => rfl
  | n + 1 => by
    rw [wo, wo_eq l out n, List.range_succ, List.filter_append, List.map_append]
    congr 1
    cases h : out.any fun x => x == (n : Int) <;> simp [h]
theorem kept_lt (l : List Bk) : (keptL l).Pairwise (· < ·) ∧ ∀ x ∈ keptL l, x < l.length :=
  ⟨(kst_lt (l := l) (b := bh l) (m0 := mxa (bh l) l.length) l.length).1, (kst_lt (l := l) (b := bh l) (m0 := mxa (bh l) l.length) l.length).2.1⟩
def oopI (l : List Bk) : List Int := (oop l).map fun k : Nat => (k : Int)
theorem oopI_any (l : List Bk) (i : Nat) : (oopI l).any (fun x => x == (i : Int)) = (oop l).any fun k => k == i := by
  rw [oopI, List.any_map]
  congr 1
  funext k
  simp only [Function.comp]
  rw [Bool.eq_iff_iff, beq_iff_eq, beq_iff_eq]
  omega
/-- Without the books out of place: those that are kept. -/
theorem wo_kept (l : List Bk) : wo l (oopI l) l.length = (keptL l).map fun i => l.getD i bk0 := by
  rw [wo_eq]
  congr 1
  have h := inc_filter l.length (keptL l) (kept_lt l).1 (kept_lt l).2
  refine Eq.trans (List.filter_congr fun i hi => ?_) h
  have hi := List.mem_range.1 hi
  rw [oopI_any]
  cases hk : (keptL l).any fun k => k == i with
  | true =>
    have : ((oop l).any fun k => k == i) = false := by
      rw [List.any_eq_false]
      intro x hx hxi
      have hxi : x = i := by simpa using hxi
      subst hxi
      simp only [oop, List.mem_filter] at hx
      rw [hk] at hx
      simp at hx
    rw [this]
    rfl
  | false =>
    have : ((oop l).any fun k => k == i) = true := by
      rw [List.any_eq_true]
      refine ⟨i, ?_, by simp⟩
      simp only [oop, List.mem_filter, List.mem_range]
      rw [hk]
      exact ⟨hi, rfl⟩
    rw [this]
    rfl

theorem srt_snoc {L : List Bk} {y : Bk} (h : srt L = true) (hy : ∀ z, L.getLast? = some z → uc z y ≤ 0) : srt (L ++ [y]) = true := by
  unfold srt at h ⊢
  rw [Bool.not_eq_true', List.any_eq_false] at h ⊢
  intro j hj
  have hj := List.mem_range.1 hj
  rw [List.length_append, List.length_singleton, Nat.add_sub_cancel] at hj
  by_cases e : j + 1 = L.length
  · have e1 : (L ++ [y]).getD (j + 1) bk0 = y := by rw [List.getD_eq_getElem?_getD, List.getElem?_append_right (by omega), e, Nat.sub_self]; rfl
    have e2 : (L ++ [y]).getD j bk0 = L[j] := by rw [List.getD_eq_getElem?_getD, List.getElem?_append_left (by omega), List.getElem?_eq_getElem (by omega)]; rfl
    have hz := hy L[j] (by rw [List.getLast?_eq_getElem?, show L.length - 1 = j by omega, List.getElem?_eq_getElem (by omega)])
    unfold ooo
    rw [e1, e2, uc_anti]
    simp
    omega
  · have := h j (List.mem_range.2 (by omega))
    unfold ooo at this ⊢
    have e1 : (L ++ [y]).getD (j + 1) bk0 = L.getD (j + 1) bk0 := by rw [List.getD_eq_getElem?_getD, List.getD_eq_getElem?_getD, List.getElem?_append_left (by omega)]
    have e2 : (L ++ [y]).getD j bk0 = L.getD j bk0 := by rw [List.getD_eq_getElem?_getD, List.getD_eq_getElem?_getD, List.getElem?_append_left (by omega)]
    rw [e1, e2]
    exact this
theorem kept_srt (l : List Bk) : srt (wo l (oopI l) l.length) = true := by
  rw [wo_kept]
  unfold keptL
  generalize mxa (bh l) l.length = m0
  have : ∀ i, srt ((kst l (bh l) m0 i).1.map fun i => l.getD i bk0) = true := by
    intro i
    induction i with
    | zero => rfl
    | succ i ih =>
      simp only [kst]
      split
      · rename_i hc
        rw [Bool.and_eq_true] at hc
        have hk := hc.2
        simp only [kcond, Bool.and_eq_true, Bool.or_eq_true] at hk
        show srt (((kst l (bh l) m0 i).1 ++ [i]).map _) = true
        rw [List.map_append]
        refine srt_snoc ih fun z hz => ?_
        generalize (kst l (bh l) m0 i).1 = o at hz hk
        rcases hk.2 with h0 | h0
        · have : o = [] := List.length_eq_zero_iff.1 (by simp at h0; simp [h0])
          subst this
          simp at hz
        · have h0 := of_decide_eq_true h0
          cases ho : o.getLast? with
          | none =>
            have : o = [] := by simpa using ho
            subst this
            simp at hz
          | some k =>
            rw [List.getLast?_map, ho] at hz
            have hz : l.getD k bk0 = z := by simpa using hz
            have e : o.getLastD 0 = k := by rw [List.getLastD_eq_getLast?, ho]; rfl
            rw [e] at h0
            rw [← hz]
            exact h0
      · exact ih
  exact this _
theorem oop_inc (l : List Bk) : (oop l).Pairwise (· < ·) := List.Pairwise.filter _ List.pairwise_lt_range
theorem rs_inc {L : List Nat} (h : L.Pairwise (· < ·)) : rs (L.map fun k : Nat => (k : Int)) = true := by
  unfold rs
  rw [List.all_eq_true]
  intro j hj
  have hj := List.mem_range.1 hj
  rw [List.length_map] at hj
  have := List.pairwise_iff_getElem.1 h j (j + 1) (by omega) (by omega) (by omega)
  unfold rsP
  have e : ∀ i (hi : i < L.length), (L.map fun k : Nat => (k : Int)).getD i 0 = (L[i] : Nat) := by
    intro i hi
    rw [List.getD_eq_getElem?_getD, List.getElem?_map, List.getElem?_eq_getElem hi]
    rfl
  rw [e j (by omega), e (j + 1) (by omega), decide_eq_true_eq]
  omega
theorem oop_ok (l : List Bk) : (rs (oopI l) && inAll l.length (oopI l)) = true := by
  rw [oopI, rs_inc (oop_inc l), Bool.true_and, inAll, List.all_eq_true]
  intro x hx
  obtain ⟨k, hk, rfl⟩ := List.mem_map.1 hx
  have := oop_lt l k hk
  simp only [inr, Bool.and_eq_true, decide_eq_true_eq]
  omega
theorem wo_ok {l : List Bk} (hv : vBs l = true) : woRes l (oopI l) = (wo l (oopI l) l.length, 0) ∧ (wo l (oopI l) l.length).length + (oop l).length = l.length ∧ vBs (wo l (oopI l) l.length) = true := by
  refine ⟨by rw [woRes, if_pos hv, if_pos (oop_ok l)], ?_, ?_⟩
  · rw [wo_kept, List.length_map]
    have := oop_len l
    omega
  · have h2 := hv
    rw [vBs, Bool.and_eq_true, decide_eq_true_eq, List.all_eq_true] at h2 ⊢
    rw [wo_kept]
    refine ⟨by rw [List.length_map]; have := kept_le l; omega, fun x hx => ?_⟩
    obtain ⟨k, hk, rfl⟩ := List.mem_map.1 hx
    have hlt := (kept_lt l).2 k hk
    rw [List.getD_eq_getElem?_getD, List.getElem?_eq_getElem hlt]
    exact h2.2 _ (List.getElem_mem hlt)
theorem wo_mem {l : List Bk} {x : Bk} (h : x ∈ wo l (oopI l) l.length) : x ∈ l := by
  rw [wo_kept] at h
  obtain ⟨k, hk, rfl⟩ := List.mem_map.1 h
  have hlt := (kept_lt l).2 k hk
  rw [List.getD_eq_getElem?_getD, List.getElem?_eq_getElem hlt]
  exact List.getElem_mem hlt

theorem Srt_srt {L : List Bk} (h : Srt L) (hr : ∀ x ∈ L, bkRng x) : srt L = true := by
  unfold srt
  rw [Bool.not_eq_true', List.any_eq_false]
  intro j hj
  have hj := List.mem_range.1 hj
  rw [ooo_at (by omega)]
  have := List.pairwise_iff_getElem.1 h j (j + 1) (by omega) (by omega) (by omega)
  have hu := (uc_ky (hr _ (List.getElem_mem (show j + 1 < L.length by omega))) (hr _ (List.getElem_mem (show j < L.length by omega)))).1
  simp only [decide_eq_true_eq]
  rw [hu]
  omega

/-- Where the books of the shelf belong. -/
theorem ms_right {a b : List Bk} : ∀ j, j ≤ b.length → (ms a b lkE j).2 = true → ∀ i, i < j → ∃ k : Nat, k < a.length ∧ (ms a b lkE j).1[i]? = some (k : Int) ∧ a.getD k bk0 = b.getD i bk0
  | 0, _, _, i, hi => absurd hi (Nat.not_lt_zero _)
  | j + 1, hj, h, i, hi => by
    rw [ms_succ] at h ⊢
    by_cases ht : (ms a b lkE j).2 = true
    · rw [if_pos ht] at h ⊢
      by_cases hm : mfst a lkE (ms a b lkE j).1 (b.getD j bk0) < a.length
      · rw [if_pos hm] at h ⊢
        have hl := (ms_len a b lkE j).2.1 ht
        by_cases e : i = j
        · subst e
          refine ⟨_, hm, ?_, ?_⟩
          · rw [List.getElem?_append_right (by omega), hl, Nat.sub_self]
            rfl
          · have := fst_at hm
            simp only [Bool.and_eq_true, lkE, decide_eq_true_eq] at this
            exact of_decide_eq_true this.2
        · obtain ⟨k, k1, k2, k3⟩ := ms_right j (by omega) ht i (by omega)
          refine ⟨k, k1, ?_, k3⟩
          rw [List.getElem?_append_left (by omega)]
          exact k2
      · rw [if_neg hm] at h
        simp at h
    · rw [if_neg ht] at h
      exact absurd h ht

theorem slip_ok {a b : List Bk} {R : (Int × Int) × Int} (h : Slip a b R) (h0 : R.2 = 0) : ∃ i j : Nat, i < b.length ∧ j < b.length ∧ R.1 = ((i : Int), (j : Int)) ∧ mvL b i j = a := by
  by_cases hc : scode a b = 0
  · by_cases e : a = b
    · rw [h.h1 hc e] at h0
      simp at h0
    · rcases first_pair b.length (fun i j => mvL b i j = a) with hn | ⟨i, j, h1, h2, h3, h4⟩
      · rw [h.h3 hc e fun i j hi hj => hn i j hi hj] at h0
        simp at h0
      · refine ⟨i, j, h1, h2, ?_, h3⟩
        rw [h.h2 hc e i j h1 h2 h3 h4]
  · rw [h.h0 hc] at h0
    exact absurd h0 hc
theorem swap_ok {a b : List Bk} (h0 : (osRes a b).2 = 0) : ∃ i j : Nat, i < b.length ∧ j < b.length ∧ i < j ∧ (osRes a b).1 = ((i : Int), (j : Int)) ∧ sw b i j = a := by
  unfold osRes at h0 ⊢
  by_cases hc : scode a b = 0
  · rw [if_pos hc] at h0 ⊢
    generalize hd : dfs a b b.length = D at h0 ⊢
    match D, h0, hd with
    | [i, j], _, hd =>
      obtain ⟨h1, h2, h3, h4⟩ := sw_of_dfs (perm_of_same (scode_0 hc)) hd
      exact ⟨i, j, h1, h2, h3, rfl, h4⟩
    | [], h0, _ => simp at h0
    | [_], h0, _ => simp at h0
    | _ :: _ :: _ :: _, h0, _ => simp at h0
  · rw [if_neg hc] at h0
    exact absurd h0 hc
end Go.Proofs.YtenknlnnnicdeaaGreatDoor
