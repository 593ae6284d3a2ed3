/- Contracts of the program's functions, and what follows from them. -/
import Derived.Test.YtcfkdcjindhnjaaGreatK39
set_option linter.unusedVariables false
set_option maxRecDepth 100000
set_option linter.unusedSimpArgs false
namespace Go.Proofs.YtcfkdcjindhnjaaGreat
open Go Go.Av

/-! Walks, the heaviest shelf, wanted books: with no program in sight. -/

theorem sw_facts {l : List Int} {s : Int} (h : StO l s) : wkL (grd l.length l s) s = lst l s ∧ (grd l.length l s).Perm l := by
  obtain ⟨a, ha1, _, ha3, ha4⟩ := first_ge (srtI l) s (srtI_srt l)
  have hp := srtI_perm l
  have hPQ : (srtI l).take a ++ (srtI l).drop a = srtI l := List.take_append_drop _ _
  obtain ⟨k1, k2⟩ := pick_ok (l := l) (p := (srtI l).take a) (q := (srtI l).drop a) (s := s) (by rw [hPQ]; exact hp.symm) (by rw [hPQ]; exact srtI_srt l) ha3 ha4
  refine ⟨k2, ?_⟩
  rw [← k1]
  split
  · rw [hPQ]; exact hp
  · refine List.Perm.trans ?_ hp
    refine List.Perm.trans ?_ (List.Perm.of_eq hPQ)
    exact List.Perm.trans (List.Perm.append_left _ (List.reverse_perm _)) List.perm_append_comm

theorem StO.perm {l m : List Int} {s : Int} (h : StO l s) (hp : m.Perm l) : StO m s :=
  ⟨by rw [hp.length_eq]; exact h.len, fun x hx => h.r x (hp.mem_iff.1 hx), h.s⟩
theorem StO.code {l : List Int} {s : Int} (h : StO l s) : wcode l s = 0 := by
  have h1 : inr s 0 999 = true := by have := h.s; simp [inr, this]
  have h2 : wok l = true := List.all_eq_true.2 fun x hx => by have := h.r x hx; simp [inr, this]
  have h3 : ¬ l.length > 60 := by have := h.len; omega
  simp [wcode, h1, h2, h3]

/-! ### The heaviest shelf -/

/-- What has been found among the parts that begin ahead of i, and those at i that end by i + m. -/
structure HsO (l : List Bk) (w : Int) (s : Int × Int × Int) (seen : Nat → Nat → Prop) : Prop where
  ok : s = (0, 0, 0) ∨ ∃ i k : Nat, i < k ∧ k ≤ l.length ∧ s = ((i : Int), (k : Int) - i, sT (part l i k)) ∧ sW (part l i k) ≤ w
  most : ∀ i k, seen i k → sW (part l i k) ≤ w → sT (part l i k) ≤ s.2.2
  pos : 0 ≤ s.2.2
theorem HsO.step {l : List Bk} {w : Int} {s : Int × Int × Int} {seen : Nat → Nat → Prop} (h : HsO l w s seen) {i k : Nat} (hik : i < k) (hk : k ≤ l.length) : HsO l w (hsStep l w i k s) fun a b => seen a b ∨ a = i ∧ b = k := by
  unfold hsStep
  split
  · rename_i hc
    refine ⟨.inr ⟨i, k, hik, hk, rfl, hc.1⟩, fun a b hab hw => ?_, ?_⟩
    · rcases hab with hab | ⟨rfl, rfl⟩
      · have := h.most a b hab hw
        show _ ≤ sT (part l i k)
        omega
      · exact Int.le_refl _
    · have := h.pos
      show 0 ≤ sT (part l i k)
      omega
  · rename_i hc
    refine ⟨h.ok, fun a b hab hw => ?_, h.pos⟩
    rcases hab with hab | ⟨rfl, rfl⟩
    · exact h.most a b hab hw
    · have : ¬ s.2.2 < sT (part l a b) := fun e => hc ⟨hw, e⟩
      omega
theorem hsIn_ok {l : List Bk} {w : Int} {i : Nat} {s : Int × Int × Int} {seen : Nat → Nat → Prop} (h : HsO l w s seen) : ∀ m, i + m ≤ l.length → HsO l w (hsIn l w i s m) fun a b => seen a b ∨ a = i ∧ i < b ∧ b ≤ i + m
  | 0, _ => ⟨h.ok, fun a b hab hw => h.most a b (by rcases hab with h | ⟨_, h1, h2⟩; exact h; omega) hw, h.pos⟩
  | m + 1, hm => by
    have hlt : i + m + 1 ≤ l.length := by omega
    have := (hsIn_ok (i := i) h m (by omega)).step (i := i) (k := i + m + 1) (by omega) hlt
    refine ⟨this.ok, fun a b hab hw => this.most a b ?_ hw, this.pos⟩
    rcases hab with h1 | ⟨h1, h2, h3⟩
    · exact .inl (.inl h1)
    · by_cases e : b = i + m + 1
      · exact .inr ⟨h1, e⟩
      · exact .inl (.inr ⟨h1, h2, by omega⟩)
theorem hs_ok (l : List Bk) (w : Int) : ∀ i, i ≤ l.length → HsO l w (hs l w i) fun a b => a < i ∧ a < b ∧ b ≤ l.length
  | 0, _ => ⟨.inl rfl, fun a b hab => by omega, Int.le_refl _⟩
  | i + 1, hi => by
    have := hsIn_ok (i := i) (hs_ok l w i (by omega)) (l.length - i) (by omega)
    refine ⟨this.ok, fun a b hab hw => this.most a b ?_ hw, this.pos⟩
    by_cases e : a = i
    · exact .inr ⟨e, by omega, by omega⟩
    · exact .inl ⟨by omega, hab.2⟩

theorem part_one {l : List Bk} {i : Nat} (h : i < l.length) : part l i (i + 1) = [l[i]] := by
  unfold part
  rw [List.take_succ_eq_append_getElem h, List.drop_append_of_le_length (by rw [List.length_take]; omega), List.drop_of_length_le (by rw [List.length_take]; omega)]
  rfl

/-- What the law says of the heaviest shelf. -/
theorem hs_law {l : List Bk} {w : Int} (hb : ∀ x ∈ l, bOk x) :
    ((hs l w l.length).2.1 = 0 ∧ ∀ x ∈ l, ¬ x.wd ≤ w) ∨
    ∃ i k : Nat, i < k ∧ k ≤ l.length ∧ hs l w l.length = ((i : Int), (k : Int) - i, sT (part l i k)) ∧ sW (part l i k) ≤ w ∧ ∀ x ∈ l, x.wd ≤ w → x.wt ≤ sT (part l i k) := by
  have h := hs_ok l w l.length (Nat.le_refl _)
  have hone : ∀ x ∈ l, x.wd ≤ w → x.wt ≤ (hs l w l.length).2.2 := fun x hx hxw => by
    obtain ⟨i, hi, rfl⟩ := List.mem_iff_getElem.1 hx
    have := h.most i (i + 1) ⟨hi, by omega, by omega⟩
    rw [part_one hi] at this
    have := this (by simpa [sW] using hxw)
    simpa [sT] using this
  rcases h.ok with e | ⟨i, k, h1, h2, e, h3⟩
  · refine .inl ⟨by rw [e], fun x hx hxw => ?_⟩
    have := hone x hx hxw
    rw [e] at this
    have hv := (hb x hx).2
    simp only [vB, inr, Bool.and_eq_true, decide_eq_true_eq] at hv
    have := hv.2.1
    simp only at *
    omega
  · refine .inr ⟨i, k, h1, h2, e, h3, fun x hx hxw => ?_⟩
    have := hone x hx hxw
    rw [e] at this
    exact this

/-! ### Every second book, from behind -/

def ev {α : Type} : List α → List α
  | [] => []
  | [x] => [x]
  | x :: _ :: r => x :: ev r
theorem ev_sub {α : Type} : ∀ l : List α, (ev l).Sublist l
  | [] => .slnil
  | [x] => List.Sublist.refl _
  | x :: y :: r => (List.Sublist.cons y (ev_sub r)).cons_cons x
theorem ev_len {α : Type} : ∀ l : List α, (ev l).length = (l.length + 1) / 2
  | [] => by simp [ev]
  | [x] => by simp [ev]
  | x :: y :: r => by
    show (ev r).length + 1 = (r.length + 1 + 1 + 1) / 2
    rw [ev_len r]
    omega
theorem ev_get {α : Type} : ∀ (l : List α) (k : Nat), (ev l)[k]? = l[2 * k]?
  | [], k => by simp [ev]
  | [x], 0 => rfl
  | [x], k + 1 => by
    rw [List.getElem?_eq_none (by show 1 ≤ k + 1; omega), List.getElem?_eq_none (by show 1 ≤ 2 * (k + 1); omega)]
  | x :: y :: r, 0 => rfl
  | x :: y :: r, k + 1 => by
    rw [ev, List.getElem?_cons_succ, ev_get r k, show 2 * (k + 1) = 2 * k + 1 + 1 by omega, List.getElem?_cons_succ, List.getElem?_cons_succ]

/-! ### Wanted books stand where they are found -/

theorem lkU_ky {x y : Bk} (hx : bkRng x) (hy : bkRng y) : lkU x y = true ↔ ky x = ky y := by
  obtain ⟨h1, h2⟩ := uc_ky hx hy
  simp only [lkU, beq_iff_eq]
  omega

theorem nd_le : ∀ {l m : List Int}, l.Nodup → (∀ x ∈ l, x ∈ m) → l.length ≤ m.length
  | [], _, _, _ => Nat.zero_le _
  | x :: l, m, h, hs => by
    obtain ⟨h1, h2⟩ := List.nodup_cons.1 h
    have hm := hs x (by simp)
    have := nd_le (l := l) (m := m.erase x) h2 fun y hy => (List.mem_erase_of_ne (fun e : y = x => h1 (e ▸ hy))).2 (hs y (by simp [hy]))
    rw [List.length_erase_of_mem hm] at this
    have : 0 < m.length := List.length_pos_of_mem hm
    rw [List.length_cons]
    omega

/-- What has been matched. -/
structure MsO (a b : List Bk) (j : Nat) : Prop where
  ok : (ms a b lkU j).2 = true
  nd : (ms a b lkU j).1.Nodup
  at' : ∀ i, i < j → ∃ k : Nat, k < a.length ∧ (ms a b lkU j).1[i]? = some (k : Int) ∧ ky (a.getD k bk0) = ky (b.getD i bk0)

theorem ms_ok {a b : List Bk} (ha : ∀ x ∈ a, bkRng x) (hb : ∀ x ∈ b, bkRng x) (hcnt : ∀ v : Int, (b.map ky).count v ≤ (a.map ky).count v) : ∀ j, j ≤ b.length → MsO a b j
  | 0, _ => ⟨rfl, List.nodup_nil, fun i hi => by omega⟩
  | j + 1, hj => by
    have ih := ms_ok ha hb hcnt j (by omega)
    have hl := (ms_len a b lkU j).2.1 ih.ok
    have hbj : bkRng (b.getD j bk0) := by
      rw [List.getD_eq_getElem?_getD, List.getElem?_eq_getElem (by omega)]
      exact hb _ (List.getElem_mem _)
    have haj : ∀ k, k < a.length → bkRng (a.getD k bk0) := fun k hk => by
      rw [List.getD_eq_getElem?_getD, List.getElem?_eq_getElem hk]
      exact ha _ (List.getElem_mem _)
    obtain ⟨v, hv⟩ : ∃ v, v = ky (b.getD j bk0) := ⟨_, rfl⟩
    have hfound : mfst a lkU (ms a b lkU j).1 (b.getD j bk0) < a.length := by
      apply Classical.byContradiction
      intro hno
      have hall : ∀ k, k < a.length → ky (a.getD k bk0) = v → (k : Int) ∈ (ms a b lkU j).1 := fun k hk hkv => by
        apply Classical.byContradiction
        intro hn
        have hq : (!isIn (ms a b lkU j).1 k && lkU (a.getD k bk0) (b.getD j bk0)) = true := by
          rw [Bool.and_eq_true, (lkU_ky (haj k hk) hbj).2 (by rw [hkv, hv])]
          refine ⟨?_, rfl⟩
          have : isIn (ms a b lkU j).1 k = false := by
            cases hc : isIn (ms a b lkU j).1 k
            · rfl
            · exfalso
              obtain ⟨x, hx, e⟩ := List.any_eq_true.1 hc
              rw [beq_iff_eq.1 e] at hx
              exact hn hx
          rw [this]; rfl
        have hle := List.findIdx_le_length (xs := List.range a.length) (p := fun i => !isIn (ms a b lkU j).1 i && lkU (a.getD i bk0) (b.getD j bk0))
        have h1 : (List.range a.length).findIdx (fun i => !isIn (ms a b lkU j).1 i && lkU (a.getD i bk0) (b.getD j bk0)) < (List.range a.length).length :=
          List.findIdx_lt_length_of_exists ⟨k, List.mem_range.2 hk, hq⟩
        rw [List.length_range] at h1
        exact hno h1
      -- the places of a whose books are like this one
      have hcA : (a.map ky).count v = ((List.range a.length).filter fun k => ky (a.getD k bk0) == v).length := by
        have e : a.map ky = (List.range a.length).map fun k => ky (a.getD k bk0) := by
          apply List.ext_getElem
          · simp
          · intro k h1 h2
            have : k < a.length := by simpa using h1
            simp [this]
        rw [e, List.count_eq_countP, List.countP_map, List.countP_eq_length_filter]
        rfl
      have hcB : ((ms a b lkU j).1.filter fun x => ky (a.getD x.toNat bk0) == v).length = ((b.take j).map ky).count v := by
        have e : (ms a b lkU j).1.map (fun x => ky (a.getD x.toNat bk0)) = (b.take j).map ky := by
          apply List.ext_getElem?
          intro i
          by_cases hi : i < j
          · obtain ⟨k, h1, h2, h3⟩ := ih.at' i hi
            have hib : i < b.length := by omega
            rw [List.getElem?_map, h2, List.getElem?_map, List.getElem?_take, if_pos hi, List.getElem?_eq_getElem hib]
            simp only [Option.map_some, Int.toNat_natCast, h3]
            rw [List.getD_eq_getElem?_getD, List.getElem?_eq_getElem hib, Option.getD_some]
          · rw [List.getElem?_eq_none (by rw [List.length_map]; omega), List.getElem?_eq_none (by rw [List.length_map, List.length_take]; omega)]
        rw [← e, List.count_eq_countP, List.countP_map, List.countP_eq_length_filter]
        rfl
      have hsub : ((List.range a.length).filter fun k => ky (a.getD k bk0) == v).length ≤ ((ms a b lkU j).1.filter fun x => ky (a.getD x.toNat bk0) == v).length := by
        have hnd : (((List.range a.length).filter fun k => ky (a.getD k bk0) == v).map fun k : Nat => (k : Int)).Nodup := by
          refine List.Pairwise.map _ ?_ (List.Pairwise.filter _ List.nodup_range)
          intro x y hxy e
          exact hxy (by exact_mod_cast e)
        have := nd_le (m := (ms a b lkU j).1.filter fun x => ky (a.getD x.toNat bk0) == v) hnd (fun x hx => by
          obtain ⟨k, hk, rfl⟩ := List.mem_map.1 hx
          obtain ⟨h1, h2⟩ := List.mem_filter.1 hk
          exact List.mem_filter.2 ⟨hall k (List.mem_range.1 h1) (beq_iff_eq.1 h2), by rw [Int.toNat_natCast]; exact h2⟩)
        rwa [List.length_map] at this
      have hcj : ((b.take (j + 1)).map ky).count v = ((b.take j).map ky).count v + 1 := by
        have hjb : j < b.length := by omega
        rw [List.take_succ_eq_append_getElem hjb, List.map_append, List.count_append]
        have : ky b[j] = v := by rw [hv, List.getD_eq_getElem?_getD, List.getElem?_eq_getElem hjb, Option.getD_some]
        simp [this]
      have hcb : ((b.take (j + 1)).map ky).count v ≤ (b.map ky).count v := by
        rw [List.map_take]
        exact (List.take_sublist _ _).count_le v
      have := hcnt v
      omega
    have hst := ms_succ a b lkU j
    rw [if_pos ih.ok, if_pos hfound] at hst
    have hat := fst_at hfound
    rw [Bool.and_eq_true] at hat
    obtain ⟨m, hm⟩ : ∃ m, m = mfst a lkU (ms a b lkU j).1 (b.getD j bk0) := ⟨_, rfl⟩
    have hat1 : (!isIn (ms a b lkU j).1 m) = true := by rw [hm]; exact hat.1
    have hat2 : lkU (a.getD m bk0) (b.getD j bk0) = true := by rw [hm]; exact hat.2
    rw [← hm] at hst hfound
    refine ⟨by rw [hst], ?_, fun i hi => ?_⟩
    · rw [hst]
      refine List.nodup_append.2 ⟨ih.nd, by simp, fun x hx y hy e => ?_⟩
      simp at hy
      subst hy
      have : isIn (ms a b lkU j).1 m = true := List.any_eq_true.2 ⟨x, hx, by rw [e]; simp⟩
      rw [this] at hat1
      cases hat1
    · rw [hst]
      by_cases e : i = j
      · subst e
        refine ⟨m, hfound, ?_, (lkU_ky (haj m hfound) hbj).1 hat2⟩
        rw [List.getElem?_append_right (by omega), hl, Nat.sub_self]
        rfl
      · obtain ⟨k, h1, h2, h3⟩ := ih.at' i (by omega)
        exact ⟨k, h1, by rw [List.getElem?_append_left (by omega)]; exact h2, h3⟩
end Go.Proofs.YtcfkdcjindhnjaaGreat
