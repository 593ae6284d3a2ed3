/- New objects, stores into them. -/
import Derived.Test.YtoeocaenflkajaaAvAop
import Derived.Laws.IdiomCopy
namespace Go.Av
open Go Go.RowKit

section
variable {X : Fx} {g : Gx} {st : St} {a : Act} {w w' : World} {β : Env} {F : Key → List Nat} {L : Nat → Prop} {k : List Item}

/-- A slot is forgotten; what it owned is free. -/
theorem Inv.drop (h : Inv X g st a w β F L) (d : Nat) : Inv X g (st.put d .top) a w β (updF F (.s d) []) L := by
  have sub : ∀ k b, b ∈ updF F (.s d) [] k → b ∈ F k := by
    intro k b hb
    by_cases e : k = .s d
    · subst e; rw [updF_same] at hb; simp at hb
    · rw [updF_ne _ e] at hb; exact hb
  refine ⟨h.defers, h.size, h.kp, ⟨fun k => ?_, fun k k' b hne hb hb' => h.sep.apart k k' b hne (sub _ _ hb) (sub _ _ hb')⟩, fun k b hb => h.range k b (sub _ _ hb), fun j => ?_, fun id => ?_, h.pin⟩
  · by_cases e : k = .s d
    · subst e; rw [updF_same]; simp
    · rw [updF_ne _ e]; exact h.sep.nodup k
  · rw [St.get_put]
    by_cases hj : d = j
    · subst hj
      rw [if_pos rfl, updF_same]
      exact ⟨undef, .inr rfl, .top _ _⟩
    · rw [if_neg hj, updF_ne _ (by intro e; injection e with e; exact hj e.symm)]
      exact h.slot j
  · rw [St.obj_put, updF_ne _ (by intro e; cases e)]
    exact h.obj id

/-- An object is known anew; its name may stand for another place from now on. -/
theorem Inv.addObj (h : Inv X g st a w β F L) (id : Id) (ob : Ob) (z : Value × Nat) {G : List Nat} (hn : st.nrf id = true)
    (hob : ObRel w L (updE β id z) id ob G) (hG : G.Nodup) (hGF : ∀ k, k ≠ .o id → ∀ b ∈ G, b ∉ F k) (hGr : ∀ b ∈ G, b ∈ g.F0 ∨ g.w0.heap.size ≤ b) :
    Inv X g (st.setObj id ob) a w (updE β id z) (updF F (.o id) G) L := by
  refine ⟨h.defers, h.size, h.kp, ⟨fun k => ?_, fun k k' b hne hb hb' => ?_⟩, fun k b hb => ?_, fun j => ?_, fun id' => ?_, h.pin⟩
  · by_cases e : k = .o id
    · subst e; rw [updF_same]; exact hG
    · rw [updF_ne _ e]; exact h.sep.nodup k
  · by_cases e : k = .o id
    · subst e
      rw [updF_same] at hb
      rw [updF_ne _ (Ne.symm hne)] at hb'
      exact hGF k' (Ne.symm hne) b hb hb'
    · rw [updF_ne _ e] at hb
      by_cases e' : k' = .o id
      · subst e'; rw [updF_same] at hb'; exact hGF k e b hb' hb
      · rw [updF_ne _ e'] at hb'; exact h.sep.apart k k' b hne hb hb'
  · by_cases e : k = .o id
    · subst e; rw [updF_same] at hb; exact hGr b hb
    · rw [updF_ne _ e] at hb; exact h.range k b hb
  · rw [St.get_setObj, updF_ne _ (by intro e; cases e)]
    obtain ⟨u, hu, hr⟩ := h.slot j
    exact ⟨u, hu, hr.upd _ _ (St.nrf_get hn j)⟩
  · rw [St.obj_setObj]
    by_cases hi : id = id'
    · subst hi; rw [if_pos rfl, updF_same]; exact hob
    · rw [if_neg hi, updF_ne _ (by intro e; injection e with e; exact hi e.symm)]
      exact (h.obj id').upd _ _ (fun e => hi e.symm) (St.nrf_obj hn id')

/-- An object is known anew, at the same place. -/
theorem Inv.setOb (h : Inv X g st a w β F L) (id : Id) (ob : Ob) {G : List Nat}
    (hob : ObRel w L β id ob G) (hG : G.Nodup) (hGF : ∀ k, k ≠ .o id → ∀ b ∈ G, b ∉ F k) (hGr : ∀ b ∈ G, b ∈ g.F0 ∨ g.w0.heap.size ≤ b) :
    Inv X g (st.setObj id ob) a w β (updF F (.o id) G) L := by
  refine ⟨h.defers, h.size, h.kp, ⟨fun k => ?_, fun k k' b hne hb hb' => ?_⟩, fun k b hb => ?_, fun j => ?_, fun id' => ?_, h.pin⟩
  · by_cases e : k = .o id
    · subst e; rw [updF_same]; exact hG
    · rw [updF_ne _ e]; exact h.sep.nodup k
  · by_cases e : k = .o id
    · subst e
      rw [updF_same] at hb
      rw [updF_ne _ (Ne.symm hne)] at hb'
      exact hGF k' (Ne.symm hne) b hb hb'
    · rw [updF_ne _ e] at hb
      by_cases e' : k' = .o id
      · subst e'; rw [updF_same] at hb'; exact hGF k e b hb' hb
      · rw [updF_ne _ e'] at hb'; exact h.sep.apart k k' b hne hb hb'
  · by_cases e : k = .o id
    · subst e; rw [updF_same] at hb; exact hGr b hb
    · rw [updF_ne _ e] at hb; exact h.range k b hb
  · rw [St.get_setObj, updF_ne _ (by intro e; cases e)]
    exact h.slot j
  · rw [St.obj_setObj]
    by_cases hi : id = id'
    · subst hi; rw [if_pos rfl, updF_same]; exact hob
    · rw [if_neg hi, updF_ne _ (by intro e; injection e with e; exact hi e.symm)]
      exact h.obj id'

theorem Lv_sub {G : Key → List Nat} {b : Nat} (h : Lv g G b) (hs : ∀ k, b ∈ G k → L b) (h0 : g.L0 b → L b) : L b := h.elim h0 fun ⟨k, hk⟩ => hs k hk

theorem heap_alloc_new' (w : World) (o : Obj) : (w.alloc o).heap[w.heap.size]? = some o := heap_alloc_new w o

/-- A value goes into a new box: what is known behind it. -/
theorem Inv.box (h : Inv X g st a w β F L) {d : Nat} {x : AV} {u : Value} {G : List Nat} {T : TypeId} (hx : x.okc = true) (hu : Rel w L β x u G) (hGn : G.Nodup)
    (hGF : ∀ k, ∀ b ∈ G, b ∉ F k) (hGr : ∀ b ∈ G, b ∈ g.F0 ∨ g.w0.heap.size ≤ b)
    (hFL : ∀ k b, b ∈ F k → L b) (hGL : ∀ b ∈ G, L b) (hL0 : ∀ b, g.L0 b → L b)
    (hn : st.nrf (d, 0) = true) (hxn : x.nrf (d, 0) = true) (hd : d < X.fn.ntmps) (hp : d ∉ X.pins) :
    SR X g ((st.setObj (d, 0) (.box x.cells)).put d (.bp (d, 0) 0)) (a.put (some d) (.pointer (some ⟨w.heap.size, 0, none⟩))) (w.alloc (.cells u.cells T)) := by
  obtain ⟨Fs, hl, rfl, hone, hr⟩ := hu.cells hx
  let L2 : Nat → Prop := fun b => L b ∨ b = w.heap.size
  have hw : ∀ b, b < w.heap.size → (w.alloc (.cells u.cells T)).heap[b]? = w.heap[b]? := fun b hb => Below.heap_alloc w _ b hb
  have hLL : ∀ b, b < w.heap.size → L2 b → L b := by rintro b hb (h | rfl); exact h; omega
  have hlt : ∀ b ∈ foots Fs x.cells.length, b < w.heap.size := hu.lt
  have h1 : Inv X g st a (w.alloc (.cells u.cells T)) β F L2 :=
    h.world (M := fun _ => False) (h.kp.trans (Kp.alloc [] w _) (by simp)) (fun b hb _ => hw b hb) (fun _ h => h.elim) hLL (fun _ _ _ h => h)
  have hFlt : ∀ k b, b ∈ F k → b < w.heap.size := by
    intro k b hb
    cases k with
    | s j => obtain ⟨u', _, hr'⟩ := h.slot j; exact hr'.lt b hb
    | o id =>
      have ho := h.obj id
      revert ho
      cases st.obj id with
      | gone => intro ho; rw [show F (.o id) = [] from ho] at hb; simp at hb
      | vec sz ex xs => rintro ⟨v, _, hr'⟩; exact hr'.lt b hb
      | tie v id' => rintro ⟨h0, _⟩; rw [h0] at hb; simp at hb
      | mp b' kk es =>
        rintro ⟨h0, arr, clock, hb', _⟩
        rw [h0] at hb
        rw [List.mem_singleton.1 hb]
        exact (Array.getElem?_eq_some_iff.1 hb').1
      | box cs =>
        rintro ⟨b0, arr, T', lo, hi, Fs', _, hb0, _, hs, hr', hF⟩
        rw [hF] at hb
        rcases List.mem_cons.1 hb with rfl | hb
        · exact (Array.getElem?_eq_some_iff.1 hb0).1
        · obtain ⟨k, hk, hb'⟩ := mem_foots.1 hb
          exact (hr' k _ _ (List.getElem?_eq_getElem hk) (Array.getElem?_eq_getElem (by omega))).lt b hb'
  have hob : ObRel (w.alloc (.cells u.cells T)) L2 (updE β (d, 0) (.pointer (some ⟨w.heap.size, 0, none⟩), 0)) (d, 0) (.box x.cells) (w.heap.size :: foots Fs x.cells.length) := by
    refine ⟨w.heap.size, u.cells, T, 0, 0, Fs, by simp [updE], heap_alloc_new' _ _, by intro k _ h; omega, hl.symm, fun k y c hy hc => ?_, rfl⟩
    have hyn : y.nrf (d, 0) = true := by
      have hm : y ∈ x.cells := List.mem_of_getElem? hy
      cases x <;> simp only [AV.cells] at hm hy <;> first
        | (simp at hm; subst hm; exact hxn)
        | exact AV.nrfL_get (by simpa [AV.nrf] using hxn) k y hy
    exact ((hr k y c hy hc).upd _ _ hyn).keep (M := fun _ => False) (fun b hb _ => hw b hb) (fun _ h => h.elim) hLL (fun _ _ h => h)
  have hcons : (w.heap.size :: foots Fs x.cells.length).Nodup := List.nodup_cons.2 ⟨fun hm => by have := hlt _ hm; omega, hGn⟩
  have hr2 : ∀ b ∈ w.heap.size :: foots Fs x.cells.length, b ∈ g.F0 ∨ g.w0.heap.size ≤ b := by
    intro b hb
    rcases List.mem_cons.1 hb with rfl | hb
    · exact .inr h.kp.size
    · exact hGr b hb
  have h2 := h1.addObj (d, 0) (.box x.cells) _ hn hob hcons (by
    intro k _ b hb hb'
    rcases List.mem_cons.1 hb with rfl | hb
    · have := hFlt k _ hb'; omega
    · exact hGF k b hb hb') hr2
  have h3 := h2.put (d := d) (v := .bp (d, 0) 0) (u := .pointer (some ⟨w.heap.size, 0, none⟩)) hd hp (.bp _ _ _ _ (by simp [updE])) (by simp) (by simp) (by simp)
  refine ⟨_, _, h3.setL fun b _ hb => ?_⟩
  refine Lv_sub hb (fun k hk => ?_) (fun h => .inl (hL0 b h))
  by_cases e : k = .s d
  · subst e; rw [updF_same] at hk; simp at hk
  · rw [updF_ne _ e] at hk
    by_cases e2 : k = .o (d, 0)
    · subst e2
      rw [updF_same] at hk
      rcases List.mem_cons.1 hk with rfl | hk
      · exact .inr rfl
      · exact .inl (hGL b hk)
    · rw [updF_ne _ e2] at hk; exact .inl (hFL k b hk)

theorem Lv_of {k : Key} {b : Nat} (h : b ∈ F k) : Lv g F b := .inr ⟨k, h⟩

/-- 'box' of a value that owns nothing. -/
theorem SR.boxv {d : Nat} {x : Operand} {T : TypeId} (hx : (st.ev x).okc = true) (hp : (st.ev x).pl = true) (hn : st.nrf (d, 0) = true) (hxn : (st.ev x).nrf (d, 0) = true)
    (hd : d < X.fn.ntmps) (hpi : d ∉ X.pins) (h : SR X g st a w) :
    ∃ u w', (Instr.box T (a.eval x)).run X.P w = .ok u w' ∧ SR X g ((st.setObj (d, 0) (.box (st.ev x).cells)).put d (.bp (d, 0) 0)) (a.put (some d) u) w' := by
  obtain ⟨β, F, h⟩ := h
  exact ⟨_, _, rfl, h.box hx (ev_rel h x hp) (by simp) (by simp) (by simp) (fun k b hb => Lv_of hb) (by simp) (fun b hb => .inl hb) hn hxn hd hpi⟩

theorem St.nrf_put {id : Id} {d : Nat} {v : AV} (h : st.nrf id = true) (hv : v.nrf id = true) : (st.put d v).nrf id = true := by
  simp only [St.nrf, St.put, List.all_cons, Bool.and_eq_true] at h ⊢
  exact ⟨⟨hv, h.1⟩, h.2⟩

/-- 'box' of a slot whose value owns something: it goes over into the box. -/
theorem SR.boxo {d t : Nat} {T : TypeId} (hx : (st.get t).okc = true) (hn : st.nrf (d, 0) = true) 
    (hd : d < X.fn.ntmps) (hpi : d ∉ X.pins) (h : SR X g st a w) :
    ∃ u w', (Instr.box T (a.eval (.tmp t))).run X.P w = .ok u w' ∧ SR X g (((st.put t .top).setObj (d, 0) (.box (st.get t).cells)).put d (.bp (d, 0) 0)) (a.put (some d) u) w' := by
  obtain ⟨β, F, h⟩ := h
  have hR := h.slotv (d := t) (by intro e; rw [e] at hx; simp [AV.okc, AV.one] at hx)
  refine ⟨_, _, rfl, (h.drop t).box hx hR (h.sep.nodup _) ?_ (fun b hb => h.range _ b hb) ?_ (fun b hb => Lv_of hb) (fun b hb => .inl hb) (St.nrf_put hn rfl) (St.nrf_get hn t) hd hpi⟩
  · intro k b hb hb'
    by_cases e : k = .s t
    · subst e; rw [updF_same] at hb'; simp at hb'
    · rw [updF_ne _ e] at hb'; exact h.sep.apart _ _ b (Ne.symm e) hb hb'
  · intro k b hb
    exact Lv_updF_nil (Lv_of hb)

/-- A new variable that holds nought. -/
theorem SR.allocv {d : Nat} {T : TypeId} {i : TI} (hX : X.Ok) (hT : X.T T = some i) (hz : oneL (i.zero.map .lit) = true) (hn : st.nrf (d, 0) = true) (hd : d < X.fn.ntmps) (hpi : d ∉ X.pins) (h : SR X g st a w) :
    ∃ u w', (Instr.alloc T true (.tuple #[])).run X.P w = .ok u w' ∧ SR X g ((st.setObj (d, 0) (.box (i.zero.map .lit))).put d (.bp (d, 0) 0)) (a.put (some d) u) w' := by
  obtain ⟨β, F, h⟩ := h
  obtain ⟨z, hz1, hz2⟩ := zero_run (hX.ty T i hT) w
  have e1 : (Instr.alloc T true (.tuple #[])).run X.P w = .ok (.pointer (some ⟨w.heap.size, 0, none⟩)) (w.alloc (.cells z.cells T)) := by
    simp [Instr.alloc, hz1, newVar, newRow]
  have hR : Rel w (Lv g F) β (.agg (i.zero.map .lit)) (.agg z.cells) [] := by
    have := liftv_rel w (Lv g F) β (.agg z.cells)
    simp only [liftv] at this
    rwa [hz2] at this
  have := h.box (d := d) (T := T) (x := .agg (i.zero.map .lit)) (u := .agg z.cells) (by simpa [AV.okc] using hz) hR (by simp) (by simp) (by simp) (fun k b hb => Lv_of hb) (by simp) (fun b hb => .inl hb) hn (by
    simp only [AV.nrf]
    generalize i.zero = l
    induction l with
    | nil => rfl
    | cons v l ih => simp [AV.nrfL, AV.nrf, ih]) hd hpi
  exact ⟨_, _, e1, this⟩

/-! ### Stores -/

def arrSet : Array Value → Nat → List Value → Array Value
  | arr, _, [] => arr
  | arr, o, v :: r => arrSet (arr.setIfInBounds o v) (o + 1) r

theorem size_arrSet (arr : Array Value) (o : Nat) (vs : List Value) : (arrSet arr o vs).size = arr.size := by
  induction vs generalizing arr o with
  | nil => rfl
  | cons v r ih => simp [arrSet, ih]

theorem get_arrSet (arr : Array Value) (o : Nat) (vs : List Value) (h : o + vs.length ≤ arr.size) (k : Nat) :
    (arrSet arr o vs)[k]? = if o ≤ k ∧ k < o + vs.length then vs[k - o]? else arr[k]? := by
  induction vs generalizing arr o with
  | nil => simp only [arrSet, List.length_nil]; rw [if_neg (by omega)]
  | cons v r ih =>
    simp only [List.length_cons] at h ⊢
    simp only [arrSet]
    rw [ih _ _ (by simp; omega)]
    by_cases h1 : o + 1 ≤ k ∧ k < o + 1 + r.length
    · rw [if_pos h1, if_pos (by omega), show k - o = (k - (o + 1)) + 1 by omega, List.getElem?_cons_succ]
    · rw [if_neg h1]
      by_cases h2 : k = o
      · subst h2
        have hk : k < arr.size := by omega
        rw [if_pos (by omega), Array.getElem?_setIfInBounds_self_of_lt hk]
        simp
      · rw [if_neg (by omega)]
        rw [Array.getElem?_setIfInBounds_ne (by omega)]

theorem heap_setCells (b : Nat) (T : TypeId) (fr : Nat × Nat) : ∀ (vs : List Value) (o : Nat) (w : World) (arr : Array Value), w.heap[b]? = some (.cells arr T fr) →
    (w.setCells b o vs).heap[b]? = some (.cells (arrSet arr o vs) T fr)
  | [], _, _, _, h => h
  | v :: r, o, w, arr, h => by
    show ((w.setCell ⟨b, o, none⟩ v).setCells b (o + 1) r).heap[b]? = _
    refine heap_setCells b T fr r (o + 1) _ _ ?_
    simp only [World.setCell, Array.getElem?_modify, h]
    simp

theorem heap_setCells_ne (b c : Nat) (hc : c ≠ b) : ∀ (vs : List Value) (o : Nat) (w : World), (w.setCells b o vs).heap[c]? = w.heap[c]?
  | [], _, _ => rfl
  | v :: r, o, w => by
    show ((w.setCell ⟨b, o, none⟩ v).setCells b (o + 1) r).heap[c]? = _
    rw [heap_setCells_ne b c hc r (o + 1)]
    exact Below.heap_setCell _ _ _ _ (by simpa using hc)

theorem kp_setCells (b : Nat) : ∀ (vs : List Value) (o : Nat) (w : World), Kp [b] w (w.setCells b o vs)
  | [], _, w => Kp.refl _ _
  | v :: r, o, w => by
    have h1 : Kp [b] w (w.setCell ⟨b, o, none⟩ v) := ⟨rfl, rfl, rfl, by simp [World.setCell], fun c _ hn => Below.heap_setCell _ _ _ _ (by simpa using hn)⟩
    exact h1.trans (kp_setCells b r (o + 1) _) (by simp)

/-- A row of an own block is written. -/
theorem store_run {P : Program} {t : TypeId} {i : TI} (ht : TyOk P t i) {b o : Nat} {arr : Array Value} {T : TypeId} {lo hi : Nat} (hb : w.heap[b]? = some (.cells arr T (lo, hi)))
    (hfz : ∀ k, k < arr.size → ¬ (lo ≤ k ∧ k < hi)) {u : Value} (hs : u.cells.size = i.sz) (ho : o + i.sz ≤ arr.size) (h1 : ∀ c ∈ u.cells, c.oneCell' = true) :
    (storeVar t ⟨b, o, none⟩ u).run P w = .ok () (w.setCells b o u.cells.toList) := by
  have key := run_storeCells_cells (P := P) b o u.cells.toList 0 w (fun j hj => by
    have hj' : o + 0 + j < arr.size := by simp at hj; omega
    simp only [World.cell?, hb]
    simp only [Option.isSome_none, Bool.false_eq_true, if_false]
    rw [Array.getElem?_eq_getElem hj']; rfl) (fun j hj => by
    have hj' : o + 0 + j < arr.size := by simp at hj; omega
    simp only [World.frozen?, hb]
    have := hfz _ hj'
    simp only [Bool.and_eq_false_iff, decide_eq_false_iff_not]
    omega) (by simpa using h1)
  simp only [storeVar, Sem.run_bind, sizeOf_run ht, Result.andThen_ok]
  rw [if_neg (by simpa using hs)]
  simpa using key

def putAt (cs : List AV) (j : Nat) (ys : List AV) : List AV := cs.take j ++ ys ++ cs.drop (j + ys.length)

theorem putAt_length (cs : List AV) (j : Nat) (ys : List AV) (h : j + ys.length ≤ cs.length) : (putAt cs j ys).length = cs.length := by
  simp [putAt]; omega

theorem putAt_get (cs : List AV) (j : Nat) (ys : List AV) (h : j + ys.length ≤ cs.length) (k : Nat) :
    (putAt cs j ys)[k]? = if j ≤ k ∧ k < j + ys.length then ys[k - j]? else cs[k]? := by
  unfold putAt
  by_cases h1 : k < j
  · rw [if_neg (by omega), List.append_assoc, List.getElem?_append_left (by simp; omega), List.getElem?_take, if_pos h1]
  · by_cases h2 : k < j + ys.length
    · rw [if_pos (by omega), List.getElem?_append_left (by simp; omega), List.getElem?_append_right (by simp; omega)]
      simp [Nat.min_eq_left (show j ≤ cs.length by omega)]
    · rw [if_neg (by omega), List.getElem?_append_right (by simp; omega), List.getElem?_drop]
      congr 1
      simp; omega

theorem foots_sub {Fs : Nat → List Nat} {n k b : Nat} (hk : k < n) (h : b ∈ Fs k) : b ∈ foots Fs n := mem_foots.2 ⟨k, hk, h⟩

/-- A store of a value that owns nothing into a box. -/
theorem SR.storev {t : TypeId} {i : TI} {p x : Operand} {id : Id} {j : Nat} {cs : List AV} (hX : X.Ok) (hT : X.T t = some i) (hp : st.ev p = .bp id j) (ho : st.obj id = .box cs)
    (hx : (st.ev x).okc = true) (hpl : (st.ev x).pl = true) (hsz : (st.ev x).cells.length = i.sz) (hj : j + i.sz ≤ cs.length) (h : SR X g st a w) :
    ∃ w', (Instr.storeAt t (a.eval p) (a.eval x)).run X.P w = .ok () w' ∧ SR X g (st.setObj id (.box (putAt cs j (st.ev x).cells))) a w' := by
  obtain ⟨β, F, h⟩ := h
  have hR := ev_rel h p (by rw [hp]; rfl)
  rw [hp] at hR
  have hob := h.obj id
  rw [ho] at hob
  obtain ⟨b, arr, T, lo, hi, Fs, hβ, hb, hfz, hs, hr, hF⟩ := hob
  obtain ⟨Gs, hl, hG, hone, hrx⟩ := (ev_rel h x hpl).cells hx
  have hGs : ∀ k, k < (st.ev x).cells.length → Gs k = [] := by
    intro k hk
    have := congrArg List.length hG
    cases hg' : Gs k with
    | nil => rfl
    | cons c r => have : c ∈ foots Gs (st.ev x).cells.length := foots_sub hk (by rw [hg']; simp); rw [← hG] at this; simp at this
  generalize a.eval p = up at hR
  cases hR with
  | bp _ _ _ b' hβ' =>
  rw [hβ] at hβ'
  cases hβ'
  have ht := hX.ty t i hT
  have hrun := store_run (P := X.P) (o := j) ht hb hfz (u := a.eval x) (by omega) (by omega) hone
  refine ⟨_, by simpa [Instr.storeAt, Instr.sureAddr] using hrun, ?_⟩
  generalize hus : (a.eval x).cells = us at *
  have hbF : b ∈ F (.o id) := by rw [hF]; simp
  have hbr := h.range _ b hbF
  have hnd := h.sep.nodup (.o id)
  rw [hF] at hnd
  have hb2 : (w.setCells b j us.toList).heap[b]? = some (.cells (arrSet arr j us.toList) T (lo, hi)) := heap_setCells b T (lo, hi) _ _ _ _ hb
  let Fs2 : Nat → List Nat := fun k => if j ≤ k ∧ k < j + i.sz then [] else Fs k
  have hsub : ∀ c, c ∈ foots Fs2 cs.length → c ∈ foots Fs cs.length := by
    intro c hc
    obtain ⟨k, hk, hc⟩ := mem_foots.1 hc
    simp only [Fs2] at hc
    split at hc
    · simp at hc
    · exact foots_sub hk hc
  have hw : ∀ c, c < w.heap.size → ¬ (c = b) → (w.setCells b j us.toList).heap[c]? = w.heap[c]? := fun c _ hc => heap_setCells_ne b c hc _ _ _
  have hkeep : ∀ {y v G}, Rel w (Lv g F) β y v G → (∀ c ∈ G, c ≠ b) → Rel (w.setCells b j us.toList) (Lv g F) β y v G := fun hr hG =>
    hr.keep hw (fun c hc => by subst hc; exact Lv_of hbF) (fun _ _ h => h) hG
  have hcl : (st.ev x).cells.length = us.size := hl
  -- the others, in the new world
  have h1 : Inv X g (st.setObj id .gone) a w β (updF F (.o id) []) (Lv g F) := h.setOb id .gone rfl (by simp) (by simp) (by simp)
  have h2 : Inv X g (st.setObj id .gone) a (w.setCells b j us.toList) β (updF F (.o id) []) (Lv g F) := by
    refine h1.world (M := fun c => c = b) (h.kp.trans (kp_setCells b _ _ _) (by simpa using hbr)) hw (fun c hc => by subst hc; exact Lv_of hbF) (fun _ _ h => h) ?_
    rintro k c hc rfl
    by_cases e : k = .o id
    · subst e; rw [updF_same] at hc; simp at hc
    · rw [updF_ne _ e] at hc; exact h.sep.apart _ _ c e hc hbF
  have hlen : (putAt cs j (st.ev x).cells).length = cs.length := putAt_length _ _ _ (by omega)
  have h3 := h2.setOb id (.box (putAt cs j (st.ev x).cells)) (G := b :: foots Fs2 cs.length) (by
    refine ⟨b, _, T, lo, hi, Fs2, hβ, hb2, by rw [size_arrSet]; exact hfz, by rw [size_arrSet, hlen]; exact hs, fun k y u hy hu => ?_, by rw [hlen]⟩
    rw [putAt_get _ _ _ (by omega)] at hy
    rw [get_arrSet _ _ _ (by simp; omega)] at hu
    simp only [Array.length_toList] at hu
    by_cases hk : j ≤ k ∧ k < j + i.sz
    · rw [if_pos (by omega)] at hy
      rw [if_pos (by omega)] at hu
      simp only [Fs2, if_pos hk]
      have := hrx (k - j) y u hy (by simpa using hu)
      rw [hGs (k - j) (by omega)] at this
      exact hkeep this (by simp)
    · rw [if_neg (by omega)] at hy
      rw [if_neg (by omega)] at hu
      simp only [Fs2, if_neg hk]
      refine hkeep (hr k y u hy hu) ?_
      rintro c hc rfl
      exact (List.nodup_cons.1 hnd).1 (foots_sub (List.getElem?_eq_some_iff.1 hy).1 hc)) (by
    refine List.nodup_cons.2 ⟨fun hm => (List.nodup_cons.1 hnd).1 (hsub _ hm), ?_⟩
    have := foots_nodup (List.nodup_cons.1 hnd).2
    refine nodup_foots fun k hk => ⟨?_, fun k' hk' hne c hc hc' => ?_⟩
    · simp only [Fs2]; split; simp; exact (this k hk).1
    · simp only [Fs2] at hc hc'
      split at hc
      · simp at hc
      · split at hc'
        · simp at hc'
        · exact (this k hk).2 k' hk' hne c hc hc') (by
    intro k hk c hc hc'
    rw [updF_ne _ hk] at hc'
    refine h.sep.apart _ _ c hk hc' ?_
    rw [hF]
    rcases List.mem_cons.1 hc with rfl | hc
    · simp
    · exact List.mem_cons_of_mem _ (hsub c hc)) (by
    intro c hc
    refine h.range (.o id) c ?_
    rw [hF]
    rcases List.mem_cons.1 hc with rfl | hc
    · simp
    · exact List.mem_cons_of_mem _ (hsub c hc))
  have h4 : SR X g ((st.setObj id .gone).setObj id (.box (putAt cs j (st.ev x).cells))) a (w.setCells b j us.toList) := by
    refine ⟨_, _, h3.setL fun c _ hc => ?_⟩
    refine Lv_sub hc (fun k hk => ?_) .inl
    by_cases e : k = .o id
    · subst e
      rw [updF_same] at hk
      refine Lv_of (k := .o id) ?_
      rw [hF]
      rcases List.mem_cons.1 hk with rfl | hk
      · simp
      · exact List.mem_cons_of_mem _ (hsub c hk)
    · rw [updF_ne _ e, updF_ne _ e] at hk; exact Lv_of hk
  have hle : St.Le (st.setObj id (.box (putAt cs j (st.ev x).cells))) ((st.setObj id .gone).setObj id (.box (putAt cs j (st.ev x).cells))) :=
    ⟨fun d => .inr rfl, fun id' => .inr (by
      rw [St.obj_setObj, St.obj_setObj, St.obj_setObj]
      by_cases e : id = id' <;> simp [e])⟩
  exact h4.le hle

end
end Go.Av
