/- Parts of elements become objects, and go back; calls that write into what they are handed. -/
import Derived.Test.YtoeocaenflkajaaAvNest
namespace Go.Av
open Go Go.RowKit

section
variable {X : Fx} {g : Gx} {st st' : St} {a : Act} {w w' : World} {β β' : Env} {F : Key → List Nat} {L : Nat → Prop} {K : List Item}

theorem own_len {sz : Nat} {ex : Bool} {ys : List AV} {u : Value} {G : List Nat} (h : Rel w L β (.own sz ex ys) u G) : ∃ A c, u = .slice A ys.length c := by
  cases h with
  | ownNil _ _ _ A => exact ⟨A, 0, rfl⟩
  | own => exact ⟨_, _, rfl⟩

/-- The slice in slot d becomes an object; the slot keeps its name. -/
theorem SR.open1 {d sz : Nat} {ex : Bool} {xs : List AV} {id idt : Id} (hd : st.get d = .own sz ex xs) (hn : st.nrf id = true) (hi : id ≠ idt) (ht : st.obj idt = .gone) (h : SR X g st a w) :
    ∃ A n, SR X g (((st.setObj id (.vec sz ex xs)).setObj idt (.tie (.slice A xs.length n) id)).put d (.lit (.slice A xs.length n))) a w := by
  obtain ⟨β, F, h⟩ := h
  have hne : st.get d ≠ .top := by rw [hd]; simp
  have hget := h.slotget hne
  have hr := h.slotv hne
  rw [hd] at hr
  have h0 : F (.o idt) = [] := by have := h.obj idt; rw [ht] at this; exact this
  obtain ⟨A, n, e⟩ := own_len hr
  refine ⟨A, n, ?_⟩
  rw [← e]
  refine h.two (β' := updE β id (a.tmps.getD d undef, sz)) (k1 := .s d) (k2 := .o id) (G1 := []) (G2 := F (.s d)) (by intro e; cases e) (by simpa using h.sep.nodup _) (fun b hb => .inl (by simpa using hb)) ?_ ?_ ?_
  · intro k x1 x2
    by_cases e : k = .o idt
    · subst e
      simp only [KRel]
      rw [St.obj_put, St.obj_set_same]
      exact ⟨h0, sz, by simp [updE]⟩
    · refine ((h.krel k).upd _ hn x2).congr (fun d' e' => ?_) (fun id' e' => ?_)
      · rw [St.get_put_ne (by rintro rfl; exact x1 e')]; rfl
      · rw [St.obj_put, St.obj_set_ne (by rintro rfl; exact e e'), St.obj_set_ne (by rintro rfl; exact x2 e')]
  · exact ⟨_, .inl hget, by rw [St.get_put_same]; exact .lit _ _⟩
  · simp only [KRel]
    rw [St.obj_put, St.obj_set_ne (Ne.symm hi), St.obj_set_same]
    exact ⟨_, by simp [updE], hr.upd _ _ (by simp [AV.nrf])⟩

theorem Run.open1 (d : Nat) {sz : Nat} {ex : Bool} {xs : List AV} (id idt : Id) (hd : st.get d = .own sz ex xs) (hn : st.nrf id = true) (hi : id ≠ idt) (ht : st.obj idt = .gone)
    (h : ∀ A n, Run X g K (((st.setObj id (.vec sz ex xs)).setObj idt (.tie (.slice A xs.length n) id)).put d (.lit (.slice A xs.length n)))) : Run X g K st :=
  fun hX a w b cs hI => let ⟨A, n, hI'⟩ := hI.open1 hd hn hi ht; h A n hX a w b cs hI'

/-- A component of the aggregate in slot d likewise. -/
theorem SR.openAgg {d c sz : Nat} {ex : Bool} {cs xs : List AV} {id idt : Id} (hd : st.get d = .agg cs) (hc : cs[c]? = some (.own sz ex xs)) (hn : st.nrf id = true) (hi : id ≠ idt) (ht : st.obj idt = .gone) (h : SR X g st a w) :
    ∃ A n, SR X g (((st.setObj id (.vec sz ex xs)).setObj idt (.tie (.slice A xs.length n) id)).put d (.agg (cs.set c (.lit (.slice A xs.length n))))) a w := by
  obtain ⟨β, F, h⟩ := h
  have hne : st.get d ≠ .top := by rw [hd]; simp
  have hget := h.slotget hne
  have hr := h.slotv hne
  have hnd := h.sep.nodup (.s d)
  have h0 : F (.o idt) = [] := by have := h.obj idt; rw [ht] at this; exact this
  rw [hd] at hr
  generalize a.tmps.getD d undef = u at hr hget
  generalize hF : F (.s d) = G at hr hnd
  cases hr with
  | agg _ _ vals Fs hl hrr =>
  have hcl : c < cs.length := (List.getElem?_eq_some_iff.1 hc).1
  have hcv : c < vals.size := by omega
  obtain ⟨q1, q2⟩ := foots_drop hcl hnd
  have hown := hrr c _ _ hc (Array.getElem?_eq_getElem hcv)
  obtain ⟨A, n, e⟩ := own_len hown
  refine ⟨A, n, ?_⟩
  rw [← e]
  refine h.two (β' := updE β id (vals[c], sz)) (k1 := .s d) (k2 := .o id) (by intro e; cases e) q1 (fun b hb => .inl (by rw [hF]; exact q2 b hb)) ?_ ?_ ?_
  · intro k x1 x2
    by_cases e : k = .o idt
    · subst e
      simp only [KRel]
      rw [St.obj_put, St.obj_set_same]
      exact ⟨h0, sz, by simp [updE]⟩
    · refine ((h.krel k).upd _ hn x2).congr (fun d' e' => ?_) (fun id' e' => ?_)
      · rw [St.get_put_ne (by rintro rfl; exact x1 e')]; rfl
      · rw [St.obj_put, St.obj_set_ne (by rintro rfl; exact e e'), St.obj_set_ne (by rintro rfl; exact x2 e')]
  · refine ⟨_, .inl hget, ?_⟩
    rw [St.get_put_same]
    have := Rel.agg (w := w) (L := Lv g F) (updE β id (vals[c], sz)) (cs.set c (.lit vals[c])) vals (updN Fs c []) (by simpa using hl) (by
      intro k x u hx hu
      by_cases e : k = c
      · subst e
        rw [List.getElem?_set_self hcl] at hx
        cases hx
        rw [Array.getElem?_eq_getElem hcv] at hu
        cases hu
        rw [updN_same]
        exact .lit _ _
      · rw [List.getElem?_set_ne (Ne.symm e)] at hx
        rw [updN_ne e]
        refine (hrr k x u hx hu).upd _ _ (AV.nrfL_get (xs := cs) ?_ k x hx)
        have := St.nrf_get hn d
        rw [hd] at this
        simpa [AV.nrf] using this)
    rwa [List.length_set] at this
  · simp only [KRel]
    rw [St.obj_put, St.obj_set_ne (Ne.symm hi), St.obj_set_same]
    exact ⟨vals[c], by simp [updE], hown.upd _ _ (by simp [AV.nrf])⟩

theorem Run.openAgg (d c : Nat) {sz : Nat} {ex : Bool} {cs xs : List AV} (id idt : Id) (hd : st.get d = .agg cs) (hc : cs[c]? = some (.own sz ex xs)) (hn : st.nrf id = true) (hi : id ≠ idt) (ht : st.obj idt = .gone)
    (h : ∀ A n, Run X g K (((st.setObj id (.vec sz ex xs)).setObj idt (.tie (.slice A xs.length n) id)).put d (.agg (cs.set c (.lit (.slice A xs.length n)))))) : Run X g K st :=
  fun hX a w b cs hI => let ⟨A, n, hI'⟩ := hI.openAgg hd hc hn hi ht; h A n hX a w b cs hI'

theorem elem_at {xs : List AV} {sz m : Nat} (hz : ∀ x ∈ xs, x.cells.length = sz) {y : AV} (hy : xs[m]? = some y) {j : Nat} (hj : j < sz) : (flatc xs)[m * sz + j]? = y.cells[j]? := elem_cells hz hy j hj

/-- A cell of an element, which owns a slice, becomes an object; the cell keeps its name. -/
theorem SR.uncell {id0 id1 idt : Id} {sz m j sz' : Nat} {ex ex' : Bool} {xs zs : List AV} {y : AV} (ho : st.obj id0 = .vec sz ex xs) (hy : xs[m]? = some y) (hj : y.cells[j]? = some (.own sz' ex' zs))
    (hreb : ∀ z, (reb y (y.cells.set j z)).cells = y.cells.set j z) (hn : st.nrf id1 = true) (h01 : id0 ≠ id1) (h0t : id0 ≠ idt) (h1t : id1 ≠ idt) (ht : st.obj idt = .gone) (h : SR X g st a w) :
    ∃ A n, SR X g (((st.setObj id0 (.vec sz ex (xs.set m (reb y (y.cells.set j (.lit (.slice A zs.length n))))))).setObj id1 (.vec sz' ex' zs)).setObj idt (.tie (.slice A zs.length n) id1)) a w := by
  obtain ⟨β, F, h⟩ := h
  have hob := h.obj id0
  rw [ho] at hob
  obtain ⟨v, hβ, hown⟩ := hob
  have hnd := h.sep.nodup (.o id0)
  have e0 : F (.o idt) = [] := by have := h.obj idt; rw [ht] at this; exact this
  obtain ⟨vals, Fs, Bs, hoc, hz, hvl, hr, hF⟩ := hown.ownCells
  rw [hF] at hnd
  have hm : m < xs.length := (List.getElem?_eq_some_iff.1 hy).1
  have hyl : y.cells.length = sz := hz y (List.mem_of_getElem? hy)
  have hjs : j < sz := by rw [← hyl]; exact (List.getElem?_eq_some_iff.1 hj).1
  have hq : (flatc xs)[m * sz + j]? = some (.own sz' ex' zs) := by rw [elem_at hz hy hjs]; exact hj
  have hql : m * sz + j < (flatc xs).length := (List.getElem?_eq_some_iff.1 hq).1
  have hqv : m * sz + j < vals.length := by rw [hvl, ← flatc_length hz]; exact hql
  have hcell := hr _ _ _ hq (List.getElem?_eq_getElem hqv)
  obtain ⟨nB, nFs, nap⟩ := List.nodup_append.1 hnd
  obtain ⟨q1, q2⟩ := foots_drop hql nFs
  obtain ⟨r1, r2, r3⟩ := List.nodup_append.1 q1
  obtain ⟨A, n, e⟩ := own_len hcell
  refine ⟨A, n, ?_⟩
  rw [← e]
  have hzz : ∀ x ∈ xs.set m (reb y (y.cells.set j (.lit vals[m * sz + j]))), x.cells.length = sz := by
    intro x hx
    rcases List.mem_or_eq_of_mem_set hx with hx | rfl
    · exact hz x hx
    · rw [hreb]; simpa using hyl
  have hfl : (flatc (xs.set m (reb y (y.cells.set j (.lit vals[m * sz + j]))))).length = (flatc xs).length := by
    rw [flatc_length hzz, flatc_length hz, List.length_set]
  refine h.two (β' := updE β id1 (vals[m * sz + j], sz')) (k1 := .o id0) (k2 := .o id1) (G1 := Bs ++ foots (updN Fs (m * sz + j) []) (flatc xs).length) (G2 := Fs (m * sz + j)) (by intro e; injection e with e; exact h01 e) ?_ (fun b hb => .inl ?_) ?_ ?_ ?_
  · rw [List.append_assoc]
    refine List.nodup_append.2 ⟨nB, q1, fun b hb b' hb' e => nap b hb b' (q2 b' hb') e⟩
  · rw [hF]
    rcases List.mem_append.1 hb with hb | hb
    · rcases List.mem_append.1 hb with hb | hb
      · exact List.mem_append_left _ hb
      · exact List.mem_append_right _ (q2 b (List.mem_append_left _ hb))
    · exact List.mem_append_right _ (q2 b (List.mem_append_right _ hb))
  · intro k x1 x2
    by_cases e : k = .o idt
    · subst e
      simp only [KRel]
      rw [St.obj_set_same]
      exact ⟨e0, sz', by simp [updE]⟩
    · refine ((h.krel k).upd _ hn x2).congr (fun d' e' => rfl) (fun id' e' => ?_)
      rw [St.obj_set_ne (by rintro rfl; exact e e'), St.obj_set_ne (by rintro rfl; exact x2 e'), St.obj_set_ne (by rintro rfl; exact x1 e')]
  · simp only [KRel]
    rw [St.obj_set_ne (Ne.symm h0t), St.obj_set_ne (Ne.symm h01), St.obj_set_same]
    refine ⟨v, by simp [updE, h01, hβ], ?_⟩
    rw [← hfl]
    refine hoc.rel (by simp) hzz fun k x u hx hu => ?_
    rw [flatc_set hz hy (by rw [hreb]; simpa using hyl)] at hx
    by_cases hk : m * sz ≤ k ∧ k < m * sz + sz
    · rw [if_pos hk, hreb] at hx
      by_cases e : k = m * sz + j
      · subst e
        rw [show m * sz + j - m * sz = j by omega, List.getElem?_set_self (by omega)] at hx
        cases hx
        rw [updN_same]
        rw [List.getElem?_eq_getElem hqv] at hu
        cases hu
        exact .lit _ _
      · rw [List.getElem?_set_ne (by omega)] at hx
        rw [updN_ne e]
        refine hr k x u ?_ hu
        have := elem_at hz hy (j := k - m * sz) (by omega)
        rw [show m * sz + (k - m * sz) = k by omega] at this
        rw [this]; exact hx
    · rw [if_neg hk] at hx
      rw [updN_ne (by omega)]
      exact hr k x u hx hu
  · simp only [KRel]
    rw [St.obj_set_ne (Ne.symm h1t), St.obj_set_same]
    exact ⟨_, by simp [updE], hcell.env _ rfl⟩

theorem Run.uncell (id0 id1 idt : Id) (m j : Nat) {sz sz' : Nat} {ex ex' : Bool} {xs zs : List AV} (y : AV) (ho : st.obj id0 = .vec sz ex xs) (hy : xs[m]? = some y) (hj : y.cells[j]? = some (.own sz' ex' zs))
    (hreb : ∀ z, (reb y (y.cells.set j z)).cells = y.cells.set j z) (hn : st.nrf id1 = true) (h01 : id0 ≠ id1) (h0t : id0 ≠ idt) (h1t : id1 ≠ idt) (ht : st.obj idt = .gone)
    (h : ∀ A n, Run X g K (((st.setObj id0 (.vec sz ex (xs.set m (reb y (y.cells.set j (.lit (.slice A zs.length n))))))).setObj id1 (.vec sz' ex' zs)).setObj idt (.tie (.slice A zs.length n) id1))) : Run X g K st :=
  fun hX a w b cs hI => let ⟨A, n, hI'⟩ := hI.uncell ho hy hj hreb hn h01 h0t h1t ht; h A n hX a w b cs hI'

/-- .. and goes back into the cell. -/
theorem SR.recell {id0 id1 idt : Id} {sz m j sz' : Nat} {ex ex' : Bool} {xs zs : List AV} {y : AV} {v0 : Value} (ho : st.obj id0 = .vec sz ex xs) (hy : xs[m]? = some y) (hj : y.cells[j]? = some (.lit v0))
    (ht : st.obj idt = .tie v0 id1) (h1 : st.obj id1 = .vec sz' ex' zs) (hreb : ∀ z, (reb y (y.cells.set j z)).cells = y.cells.set j z) (h01 : id0 ≠ id1) (h : SR X g st a w) :
    SR X g (((st.setObj id0 (.vec sz ex (xs.set m (reb y (y.cells.set j (.own sz' ex' zs)))))).setObj id1 .gone).setObj idt .gone) a w := by
  obtain ⟨β, F, h⟩ := h
  have hob := h.obj id0
  rw [ho] at hob
  obtain ⟨v, hβ, hown⟩ := hob
  have hob1 := h.obj id1
  rw [h1] at hob1
  obtain ⟨v1, hβ1, hown1⟩ := hob1
  have hobt := h.obj idt
  rw [ht] at hobt
  obtain ⟨e0, sz2, hβt⟩ := hobt
  have hv1 : v1 = v0 := by
    have := hβ1.symm.trans hβt
    injection this with this
    injection this
  subst hv1
  have h0t : idt ≠ id0 := by rintro rfl; rw [ht] at ho; cases ho
  have h1t : idt ≠ id1 := by rintro rfl; rw [ht] at h1; cases h1
  have hnd := h.sep.nodup (.o id0)
  obtain ⟨vals, Fs, Bs, hoc, hz, hvl, hr, hF⟩ := hown.ownCells
  rw [hF] at hnd
  have hm : m < xs.length := (List.getElem?_eq_some_iff.1 hy).1
  have hyl : y.cells.length = sz := hz y (List.mem_of_getElem? hy)
  have hjs : j < sz := by rw [← hyl]; exact (List.getElem?_eq_some_iff.1 hj).1
  have hq : (flatc xs)[m * sz + j]? = some (.lit v1) := by rw [elem_at hz hy hjs]; exact hj
  have hql : m * sz + j < (flatc xs).length := (List.getElem?_eq_some_iff.1 hq).1
  have hqv : m * sz + j < vals.length := by rw [hvl, ← flatc_length hz]; exact hql
  have hcell := hr _ _ _ hq (List.getElem?_eq_getElem hqv)
  have hFq : Fs (m * sz + j) = [] := hcell.pl_nil rfl
  have hvq : vals[m * sz + j] = v1 := by
    rw [hFq] at hcell
    generalize vals[m * sz + j] = u at hcell
    cases hcell; rfl
  obtain ⟨nB, nFs, nap⟩ := List.nodup_append.1 hnd
  have hap : ∀ b ∈ F (.o id1), b ∉ F (.o id0) := fun b hb hb' => h.sep.apart _ _ b (by intro e; injection e with e; exact h01 e.symm) hb hb'
  obtain ⟨q1, q2⟩ := foots_put (G := F (.o id1)) nFs hFq (h.sep.nodup _) (fun b hb hb' => hap b hb (by rw [hF]; exact List.mem_append_right _ hb'))
  have hzz : ∀ x ∈ xs.set m (reb y (y.cells.set j (.own sz' ex' zs))), x.cells.length = sz := by
    intro x hx
    rcases List.mem_or_eq_of_mem_set hx with hx | rfl
    · exact hz x hx
    · rw [hreb]; simpa using hyl
  have hfl : (flatc (xs.set m (reb y (y.cells.set j (.own sz' ex' zs))))).length = (flatc xs).length := by
    rw [flatc_length hzz, flatc_length hz, List.length_set]
  refine h.two (β' := β) (k1 := .o id1) (k2 := .o id0) (G1 := []) (G2 := Bs ++ foots (updN Fs (m * sz + j) (F (.o id1))) (flatc xs).length) (by intro e; injection e with e; exact h01 e.symm) ?_ (fun b hb => ?_) ?_ ?_ ?_
  · rw [List.nil_append]
    refine List.nodup_append.2 ⟨nB, q1, fun b hb b' hb' e => ?_⟩
    subst e
    rcases q2 b hb' with h' | h'
    · exact nap b hb b h' rfl
    · exact hap b h' (by rw [hF]; exact List.mem_append_left _ hb)
  · rw [List.nil_append] at hb
    rcases List.mem_append.1 hb with hb | hb
    · exact .inr (by rw [hF]; exact List.mem_append_left _ hb)
    · rcases q2 b hb with hb | hb
      · exact .inr (by rw [hF]; exact List.mem_append_right _ hb)
      · exact .inl hb
  · intro k x1 x2
    by_cases e : k = .o idt
    · subst e
      simp only [KRel]
      rw [St.obj_set_same]
      exact e0
    · refine (h.krel k).congr (fun d' e' => rfl) (fun id' e' => ?_)
      rw [St.obj_set_ne (by rintro rfl; exact e e'), St.obj_set_ne (by rintro rfl; exact x1 e'), St.obj_set_ne (by rintro rfl; exact x2 e')]
  · simp only [KRel]
    rw [St.obj_set_ne h1t, St.obj_set_same]
    rfl
  · simp only [KRel]
    rw [St.obj_set_ne h0t, St.obj_set_ne (Ne.symm h01), St.obj_set_same]
    refine ⟨v, hβ, ?_⟩
    rw [← hfl]
    refine hoc.rel (by simp) hzz fun k x u hx hu => ?_
    rw [flatc_set hz hy (by rw [hreb]; simpa using hyl)] at hx
    by_cases hk : m * sz ≤ k ∧ k < m * sz + sz
    · rw [if_pos hk, hreb] at hx
      by_cases e : k = m * sz + j
      · subst e
        rw [show m * sz + j - m * sz = j by omega, List.getElem?_set_self (by omega)] at hx
        cases hx
        rw [updN_same]
        rw [List.getElem?_eq_getElem hqv] at hu
        cases hu
        rw [hvq]
        exact hown1.env _ rfl
      · rw [List.getElem?_set_ne (by omega)] at hx
        rw [updN_ne e]
        refine hr k x u ?_ hu
        have := elem_at hz hy (j := k - m * sz) (by omega)
        rw [show m * sz + (k - m * sz) = k by omega] at this
        rw [this]; exact hx
    · rw [if_neg hk] at hx
      rw [updN_ne (by omega)]
      exact hr k x u hx hu

theorem Run.recell (id0 id1 idt : Id) (m j : Nat) {sz sz' : Nat} {ex ex' : Bool} {xs zs : List AV} (y : AV) {v0 : Value} (ho : st.obj id0 = .vec sz ex xs) (hy : xs[m]? = some y) (hj : y.cells[j]? = some (.lit v0))
    (ht : st.obj idt = .tie v0 id1) (h1 : st.obj id1 = .vec sz' ex' zs) (hreb : ∀ z, (reb y (y.cells.set j z)).cells = y.cells.set j z) (h01 : id0 ≠ id1)
    (h : Run X g K (((st.setObj id0 (.vec sz ex (xs.set m (reb y (y.cells.set j (.own sz' ex' zs)))))).setObj id1 .gone).setObj idt .gone)) : Run X g K st :=
  Run.ghost (fun _ _ hI => hI.recell ho hy hj ht h1 hreb h01) h

/-- The value of that name is the object. -/
theorem SR.name {d sz : Nat} {ex : Bool} {xs : List AV} {id idt : Id} {v0 : Value} (hd : st.get d = .lit v0) (ht : st.obj idt = .tie v0 id) (ho : st.obj id = .vec sz ex xs) (h : SR X g st a w) :
    SR X g (st.put d (.vec id 0 xs.length)) a w := by
  obtain ⟨β, F, h⟩ := h
  have hne : st.get d ≠ .top := by rw [hd]; simp
  have hget := h.slotget hne
  have hr := h.slotv hne
  rw [hd] at hr
  have hF := hr.pl_nil rfl
  have hob := h.obj id
  rw [ho] at hob
  obtain ⟨v, hβ, hown⟩ := hob
  have hobt := h.obj idt
  rw [ht] at hobt
  obtain ⟨_, sz2, hβt⟩ := hobt
  have hv : v = v0 := by
    have := hβ.symm.trans hβt
    injection this with this
    injection this
  subst hv
  have hu : a.tmps.getD d undef = v := by
    generalize a.tmps.getD d undef = u at hr
    rw [hF] at hr
    cases hr; rfl
  have hup : updE β id (v, sz) = β := by
    funext x
    simp only [updE]
    split
    · rename_i e; subst e; exact hβ.symm
    · rfl
  have hv := hown.own_vec id
  rw [hup] at hv
  rw [hu] at hget
  refine ⟨_, _, (h.conv (.inl hget) hv (by simp) (by simp)).setL fun b _ hb => Lv_updF_nil hb⟩

theorem Run.name (d : Nat) {sz : Nat} {ex : Bool} {xs : List AV} {id : Id} (idt : Id) {v0 : Value} (hd : st.get d = .lit v0) (ht : st.obj idt = .tie v0 id) (ho : st.obj id = .vec sz ex xs)
    (h : Run X g K (st.put d (.vec id 0 xs.length))) : Run X g K st := Run.ghost (fun _ _ hI => hI.name hd ht ho) h

theorem foots_first {Fs : Nat → List Nat} {n : Nat} (hn : 0 < n) (h : ∀ k, 0 < k → Fs k = []) : foots Fs n = Fs 0 := by
  obtain ⟨m, rfl⟩ : ∃ m, n = m + 1 := ⟨n - 1, by omega⟩
  unfold foots
  rw [List.range_succ_eq_map, List.flatMap_cons, List.flatMap_map]
  have : (List.range m).flatMap (fun a => Fs (a + 1)) = [] := by
    rw [List.flatMap_eq_nil_iff]
    intro x _
    exact h _ (by omega)
  rw [this, List.append_nil]

theorem foots_only {Fs : Nat → List Nat} {n c : Nat} (hc : c < n) (h : ∀ k, k ≠ c → Fs k = []) : foots Fs n = Fs c := by
  unfold foots
  induction n with
  | zero => omega
  | succ n ih =>
    rw [List.range_succ, List.flatMap_append]
    simp only [List.flatMap_cons, List.flatMap_nil, List.append_nil]
    by_cases e : c = n
    · subst e
      have : (List.range c).flatMap Fs = [] := by
        rw [List.flatMap_eq_nil_iff]
        intro x hx
        exact h x (by have := List.mem_range.1 hx; omega)
      rw [this, List.nil_append]
    · rw [ih (by omega), h n (by omega), List.append_nil]

/-- The object's own name for its value, where the value has come by a name of the whole. -/
theorem vec_same {id : Id} {n sz sz' : Nat} {ex ex' : Bool} {xs ys : List AV} {u v : Value} {G' G1 G : List Nat} {γ γ' : Env} {L' : Nat → Prop} (h : Rel w L β (.vec id 0 n) u G') (hβ : β id = some (v, sz)) (hn : n = xs.length)
    (hx : Rel w L γ (.own sz ex xs) v G1) (hy : Rel w' L' γ' (.own sz' ex' ys) u G) : ∃ G2, (G2 = G ∨ G2 = []) ∧ Rel w' L' γ' (.own sz' ex' ys) v G2 := by
  have key : u = v ∨ (ys = [] ∧ ∃ A, v = .slice A 0 0) := by
    cases h with
    | vec _ _ _ _ b n' c sz2 A hβ' ho hA hn' =>
      rw [hβ] at hβ'
      injection hβ' with hβ'
      injection hβ' with e1 e2
      subst e1
      have hxl : xs.length = n' := by
        cases hx with
        | ownNil _ _ _ A => rfl
        | own => rfl
      have e3 : n = n' := by omega
      subst e3
      by_cases hc : 0 < c
      · left
        rw [hA hc]
        simp
      · right
        obtain rfl : c = 0 := by omega
        obtain rfl : n = 0 := by omega
        refine ⟨?_, _, rfl⟩
        obtain ⟨A', c', e⟩ := own_len hy
        injection e with _ e _
        exact List.length_eq_zero_iff.1 e.symm
    | vecNil _ _ _ A A' hβ' =>
      rw [hβ] at hβ'
      injection hβ' with hβ'
      injection hβ' with e1 e2
      subst e1
      right
      refine ⟨?_, _, rfl⟩
      obtain ⟨A2, c', e⟩ := own_len hy
      injection e with _ e _
      exact List.length_eq_zero_iff.1 e.symm
  rcases key with rfl | ⟨rfl, A, rfl⟩
  · exact ⟨G, .inl rfl, hy⟩
  · exact ⟨[], .inr rfl, .ownNil _ _ _ _⟩

end
end Go.Av
