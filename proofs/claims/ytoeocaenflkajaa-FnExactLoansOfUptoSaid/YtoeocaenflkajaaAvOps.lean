/- The steps of the running call: operations, calls, the return. -/
import Derived.Test.YtoeocaenflkajaaAvRun
namespace Go.Av
open Go Go.RowKit

section
variable {X : Fx} {g : Gx} {st st' : St} {k : List Item} {ops : Array Oper} {i : Nat} {rest : List Nat} {o : Oper}

theorem finish_op {b : Frame} {a : Act} (ho : ops[i]? = some o) (v : Value) :
    (b.at a (.inRegion ops (i :: rest) :: k)).finish v = b.at (a.put o.dst v) (.inRegion ops rest :: k) := by
  rw [Frame.finish_at, ho]; rfl

/-- An operation that yields a value, or nothing. -/
theorem Run.op (ho : ops[i]? = some o) (hw : ∀ a w, SR X g st a w → Region.wanted o (yielded ops a.tmps) = true)
    (hs : X.Ok → ∀ a w, SR X g st a w → ∃ u w', ((execOp a.eval o).run X.P w = .ok (.value u) w' ∨ ((execOp a.eval o).run X.P w = .ok .skip w' ∧ u = undef)) ∧ SR X g st' (a.put o.dst u) w')
    (h : Run X g (.inRegion ops rest :: k) st') : Run X g (.inRegion ops (i :: rest) :: k) st := by
  intro hX a w b cs hI hf hk
  obtain ⟨u, w1, hr, hI'⟩ := hs hX a w hI
  obtain ⟨v, w', fr, hp, hst, h1, h2⟩ := h hX (a.put o.dst u) w1 b cs hI' hf hk
  refine ⟨v, w', fr, hp, .head ?_ hst, h1, h2⟩
  have hg := stepG_op (P := X.P) (b := b) (k := k) (cs := cs) (w := w) (rest := rest) ho (hw a w hI)
  refine step_lone_go ?_
  rw [← finish_op ho]
  rcases hr with hr | ⟨hr, rfl⟩
  · rw [hg]; simp [stepG.apply, hr]
  · rw [hg]; simp [stepG.apply, hr]

/-- An operation whose guard does not hold. -/
theorem Run.op_off (ho : ops[i]? = some o) (hw : ∀ a w, SR X g st a w → Region.wanted o (yielded ops a.tmps) = false)
    (hs : ∀ a w, SR X g st a w → SR X g st' (a.put o.dst undef) w)
    (h : Run X g (.inRegion ops rest :: k) st') : Run X g (.inRegion ops (i :: rest) :: k) st := by
  intro hX a w b cs hI hf hk
  obtain ⟨v, w', fr, hp, hst, h1, h2⟩ := h hX _ w b cs (hs a w hI) hf hk
  refine ⟨v, w', fr, hp, .head ?_ hst, h1, h2⟩
  have := step_op_skip (P := X.P) (b := b) (a := a) (k := k) (cs := cs) (w := w) (ops := ops) (i := i) (rest := rest) (by simp [ho, hw a w hI])
  simpa [ho] using this

/-- An operation that enters a function. -/
theorem Run.opc (ho : ops[i]? = some o) (hw : ∀ a w, SR X g st a w → Region.wanted o (yielded ops a.tmps) = true)
    (hs : X.Ok → ∀ a w, SR X g st a w → ∃ f args w', (execOp a.eval o).run X.P w = .ok (.enter f args) w' ∧
      Calls X.P f args w' fun e w'' => ∃ u, e = .returned u ∧ SR X g st' (a.put o.dst u) w'')
    (h : Run X g (.inRegion ops rest :: k) st') : Run X g (.inRegion ops (i :: rest) :: k) st := by
  intro hX a w b cs hI hf hk
  obtain ⟨f, args, w1, hr, hc⟩ := hs hX a w hI
  obtain ⟨e, w2, fr2, ⟨u, rfl, hI'⟩, hsteps, _, hleave⟩ := hc (b.at a (.inRegion ops (i :: rest) :: k) :: cs)
  obtain ⟨v, w', fr, hp, hst, h1, h2⟩ := h hX (a.put o.dst u) w2 b cs hI' hf hk
  have hg := stepG_op (P := X.P) (b := b) (k := k) (cs := cs) (w := w) (rest := rest) ho (hw a w hI)
  have henter : step X.P (lone (b.at a (.inRegion ops (i :: rest) :: k)) cs w) =
      .next (lone (Frame.enter X.P f args .normal) (b.at a (.inRegion ops (i :: rest) :: k) :: cs) w1) :=
    step_lone_go (by rw [hg]; simp [stepG.apply, hr, Frame.at])
  refine ⟨v, w', fr, hp, .head henter (Steps.trans hsteps (.head ?_ hst)), h1, h2⟩
  rw [← finish_op ho]
  exact step_leave_returned hleave

theorem Run.ret' (hs : X.Ok → ∀ a w, SR X g st a w → ∃ v, (results X.fn a.tmps).run X.P w = .ok v w ∧ g.Post v w) : Run X g (.code .ret :: k) st := by
  intro hX a w b cs hI hf hk
  obtain ⟨v, hr, hp⟩ := hs hX a w hI
  obtain ⟨β, F, hi⟩ := hI
  exact ⟨v, w, _, hp, .one step_ret, hf, rfl, hi.defers, hk, X.fn, (show X.P.funcs[b.fn]? = some X.fn by rw [hf]; exact hX.func), hr⟩

theorem Run.end' (hs : X.Ok → ∀ a w, SR X g st a w → ∃ v, (results X.fn a.tmps).run X.P w = .ok v w ∧ g.Post v w) : Run X g [] st := by
  intro hX a w b cs hI hf hk
  obtain ⟨v, hr, hp⟩ := hs hX a w hI
  obtain ⟨β, F, hi⟩ := hI
  exact ⟨v, w, _, hp, .one step_end, hf, rfl, hi.defers, hk, X.fn, (show X.P.funcs[b.fn]? = some X.fn by rw [hf]; exact hX.func), hr⟩
end

/-! ### Changes of what is known -/

def updF (F : Key → List Nat) (k : Key) (G : List Nat) : Key → List Nat := fun k' => if k' = k then G else F k'
def updE (β : Env) (id : Id) (z : Value × Nat) : Env := fun id' => if id' = id then some z else β id'

theorem updF_same (F : Key → List Nat) (k : Key) (G : List Nat) : updF F k G k = G := by simp [updF]
theorem updF_ne {F : Key → List Nat} {k k' : Key} (G : List Nat) (h : k' ≠ k) : updF F k G k' = F k' := by simp [updF, h]

mutual
def AV.nrf (id : Id) : AV → Bool
  | .bp i _ => !eqId i id
  | .ep i _ _ => !eqId i id
  | .vec i _ _ => !eqId i id
  | .agg cs => AV.nrfL id cs
  | .tup cs => AV.nrfL id cs
  | .fn _ cs => AV.nrfL id cs
  | .mv _ cs => AV.nrfL id cs
  | _ => true
def AV.nrfL (id : Id) : List AV → Bool
  | [] => true
  | x :: xs => x.nrf id && AV.nrfL id xs
end

theorem AV.nrfL_get {id : Id} {xs : List AV} (h : AV.nrfL id xs = true) : ∀ (k : Nat) (x : AV), xs[k]? = some x → x.nrf id = true := by
  induction xs with
  | nil => intro k x hx; simp at hx
  | cons y ys ih =>
    simp only [AV.nrfL, Bool.and_eq_true] at h
    intro k x hx
    cases k with
    | zero => simp at hx; subst hx; exact h.1
    | succ k => exact ih h.2 k x (by simpa using hx)

theorem updE_ne {β : Env} {i id : Id} {z : Value × Nat} (h : (!eqId i id) = true) : updE β id z i = β i := by
  have : i ≠ id := fun e => by rw [(eqId_iff i id).2 e] at h; simp at h
  simp [updE, this]

theorem Rel.upd {w : World} {L : Nat → Prop} {β : Env} {x : AV} {v : Value} {F : List Nat} (h : Rel w L β x v F) (id : Id) (z : Value × Nat) : x.nrf id = true → Rel w L (updE β id z) x v F := by
  induction h with
  | top β v => intro _; exact .top _ _
  | lit β v => intro _; exact .lit _ _
  | roNil β sz ex A c hc he => intro _; exact .roNil _ _ _ _ _ hc he
  | ro β sz ex xs b o c vals hL hz hl hrow hr hc hm he ih => intro _; exact .ro _ _ _ _ _ _ _ vals hL hz hl hrow hr hc hm he
  | ownNil β sz ex A => intro _; exact .ownNil _ _ _ _
  | own β sz ex xs b c arr T lo hi Fs hb hfz hs hz hr hc hm he ih => intro _; exact .own _ _ _ _ _ _ arr T lo hi Fs hb hfz hs hz hr hc hm he
  | agg β cs vals Fs hl hr ih =>
    intro hf
    exact .agg _ _ _ _ hl fun k x u hx hu => ih k x u hx hu (AV.nrfL_get (by simpa [AV.nrf] using hf) k x hx)
  | tup β cs vals Fs hl hr ih =>
    intro hf
    exact .tup _ _ _ _ hl fun k x u hx hu => ih k x u hx hu (AV.nrfL_get (by simpa [AV.nrf] using hf) k x hx)
  | fn β f cs vals hl hr ih =>
    intro hf
    exact .fn _ _ _ _ hl fun k x u hx hu => ih k x u hx hu (AV.nrfL_get (by simpa [AV.nrf] using hf) k x hx)
  | mv β f cs vals hl hr ih =>
    intro hf
    exact .mv _ _ _ _ hl fun k x u hx hu => ih k x u hx hu (AV.nrfL_get (by simpa [AV.nrf] using hf) k x hx)
  | rp β cs j b o vals hL hl hrow hr ih => intro _; exact .rp _ _ _ _ _ vals hL hl hrow hr
  | bp β id' j b h => intro hf; exact .bp _ _ _ _ (by rw [updE_ne (by simpa [AV.nrf] using hf)]; exact h)
  | ep β id' i j b n c sz h => intro hf; exact .ep _ _ _ _ _ _ _ _ (by rw [updE_ne (by simpa [AV.nrf] using hf)]; exact h)
  | vec β id' off len b n c sz A h ho hA hn => intro hf; exact .vec _ _ _ _ _ _ _ _ _ (by rw [updE_ne (by simpa [AV.nrf] using hf)]; exact h) ho hA hn
  | vecNil β id' sz A A' h => intro hf; exact .vecNil _ _ _ _ _ (by rw [updE_ne (by simpa [AV.nrf] using hf)]; exact h)

def Ob.nrf (id : Id) : Ob → Bool
  | .box cs => AV.nrfL id cs
  | .tie _ id' => !eqId id' id
  | _ => true
/-- Nothing that is known refers to object id. -/
def St.nrf (id : Id) (st : St) : Bool := (st.sl.all fun e => e.2.nrf id) && st.ob.all fun e => e.2.nrf id

theorem St.nrf_get {id : Id} {st : St} (h : st.nrf id = true) (d : Nat) : (st.get d).nrf id = true := by
  simp only [St.nrf, Bool.and_eq_true] at h
  have := h.1
  clear h
  unfold St.get
  generalize st.sl = l at this
  induction l with
  | nil => rfl
  | cons e l ih =>
    simp only [List.all_cons, Bool.and_eq_true] at this
    obtain ⟨k, v⟩ := e
    simp only [lookS]
    cases Nat.beq k d
    · exact ih this.2
    · exact this.1
theorem St.nrf_obj {id : Id} {st : St} (h : st.nrf id = true) (d : Id) : (st.obj d).nrf id = true := by
  simp only [St.nrf, Bool.and_eq_true] at h
  have := h.2
  clear h
  unfold St.obj
  generalize st.ob = l at this
  induction l with
  | nil => rfl
  | cons e l ih =>
    simp only [List.all_cons, Bool.and_eq_true] at this
    obtain ⟨k, v⟩ := e
    simp only [lookO]
    cases eqId k d
    · exact ih this.2
    · exact this.1

theorem ObRel.upd {w : World} {L : Nat → Prop} {β : Env} {id' : Id} {ob : Ob} {G : List Nat} (h : ObRel w L β id' ob G) (id : Id) (z : Value × Nat) (hne : id' ≠ id) (hn : ob.nrf id = true) :
    ObRel w L (updE β id z) id' ob G := by
  cases ob with
  | gone => exact h
  | vec sz ex xs =>
    obtain ⟨v, e, hr⟩ := h
    exact ⟨v, by simp [updE, hne, e], hr.upd id z (by simp [AV.nrf])⟩
  | tie v id'' =>
    obtain ⟨h1, sz, h2⟩ := h
    exact ⟨h1, sz, by rw [updE_ne (by simpa [Ob.nrf] using hn)]; exact h2⟩
  | mp b kk es => exact h
  | box cs =>
    obtain ⟨b, arr, T, lo, hi, Fs, e, hb, hf, hs, hr, hF⟩ := h
    exact ⟨b, arr, T, lo, hi, Fs, by simp [updE, hne, e], hb, hf, hs, fun k x u hx hu => (hr k x u hx hu).upd id z (AV.nrfL_get (by simpa [Ob.nrf] using hn) k x hx), hF⟩

theorem ObRel.keep {w w' : World} {L L' M : Nat → Prop} {β : Env} {id : Id} {ob : Ob} {G : List Nat}
    (hw : ∀ b, b < w.heap.size → ¬ M b → w'.heap[b]? = w.heap[b]?) (hML : ∀ b, M b → L b) (hLL : ∀ b, b < w.heap.size → L' b → L b)
    (h : ObRel w L β id ob G) (hG : ∀ b ∈ G, ¬ M b) : ObRel w' L' β id ob G := by
  cases ob with
  | gone => exact h
  | vec sz ex xs =>
    obtain ⟨v, e, hr⟩ := h
    exact ⟨v, e, hr.keep hw hML hLL hG⟩
  | tie v id' => exact h
  | mp b kk es =>
    obtain ⟨rfl, arr, clock, hb, he⟩ := h
    exact ⟨rfl, arr, clock, by rw [hw b (Array.getElem?_eq_some_iff.1 hb).1 (hG b (by simp))]; exact hb, he⟩
  | box cs =>
    obtain ⟨b, arr, T, lo, hi, Fs, e, hb, hf, hs, hr, rfl⟩ := h
    have hlt := (Array.getElem?_eq_some_iff.1 hb).1
    refine ⟨b, arr, T, lo, hi, Fs, e, ?_, hf, hs, fun k x u hx hu => (hr k x u hx hu).keep hw hML hLL fun b' hb' => hG b' ?_, rfl⟩
    · rw [hw b hlt (hG b (by simp))]; exact hb
    · exact List.mem_cons_of_mem _ (mem_foots.2 ⟨k, (List.getElem?_eq_some_iff.1 hx).1, hb'⟩)

section
variable {X : Fx} {g : Gx} {st : St} {a : Act} {w w' : World} {β : Env} {F : Key → List Nat} {L L' M : Nat → Prop}

theorem Inv.world (h : Inv X g st a w β F L) (hk : Kp g.F0 g.w0 w')
    (hw : ∀ b, b < w.heap.size → ¬ M b → w'.heap[b]? = w.heap[b]?) (hML : ∀ b, M b → L b) (hLL : ∀ b, b < w.heap.size → L' b → L b)
    (hFM : ∀ k b, b ∈ F k → ¬ M b) : Inv X g st a w' β F L' :=
  ⟨h.defers, h.size, hk, h.sep, h.range, fun d => let ⟨u, hu, hr⟩ := h.slot d; ⟨u, hu, hr.keep hw hML hLL (hFM _)⟩,
    fun id => (h.obj id).keep hw hML hLL (hFM _), h.pin⟩

theorem Inv.setL (h : Inv X g st a w β F L) (hLL : ∀ b, b < w.heap.size → L' b → L b) : Inv X g st a w β F L' :=
  h.world (M := fun _ => False) h.kp (fun _ _ _ => rfl) (fun _ h => h.elim) hLL (fun _ _ _ h => h)

theorem getElem?_put {a : Act} {d j : Nat} {u : Value} : (a.put (some d) u).tmps[j]? = if d = j ∧ d < a.tmps.size then some u else a.tmps[j]? := by
  simp only [Act.put, Array.getElem?_setIfInBounds]
  by_cases h : d = j
  · subst h
    by_cases h' : d < a.tmps.size
    · simp [h']
    · simp [h']
  · simp [h]

/-- A slot is written; what it owned is dropped. -/
theorem Inv.put (h : Inv X g st a w β F L) {d : Nat} {v : AV} {u : Value} {G : List Nat} (hd : d < X.fn.ntmps) (hp : d ∉ X.pins)
    (hv : Rel w L β v u G) (hG : G.Nodup) (hGF : ∀ k, k ≠ .s d → ∀ b ∈ G, b ∉ F k) (hGr : ∀ b ∈ G, b ∈ g.F0 ∨ g.w0.heap.size ≤ b) :
    Inv X g (st.put d v) (a.put (some d) u) w β (updF F (.s d) G) L := by
  refine ⟨h.defers, by simp [Act.put, h.size], h.kp, ⟨?_, ?_⟩, ?_, ?_, ?_, ?_⟩
  · intro k
    by_cases hk : k = .s d
    · subst hk; rw [updF_same]; exact hG
    · rw [updF_ne _ hk]; exact h.sep.nodup k
  · intro k k' b hne hb hb'
    by_cases hk : k = .s d
    · subst hk
      rw [updF_same] at hb
      rw [updF_ne _ (Ne.symm hne)] at hb'
      exact hGF k' (Ne.symm hne) b hb hb'
    · rw [updF_ne _ hk] at hb
      by_cases hk' : k' = .s d
      · subst hk'; rw [updF_same] at hb'; exact hGF k hk b hb' hb
      · rw [updF_ne _ hk'] at hb'; exact h.sep.apart k k' b hne hb hb'
  · intro k b hb
    by_cases hk : k = .s d
    · subst hk; rw [updF_same] at hb; exact hGr b hb
    · rw [updF_ne _ hk] at hb; exact h.range k b hb
  · intro j
    rw [St.get_put]
    by_cases hj : d = j
    · subst hj
      refine ⟨u, .inl ?_, ?_⟩
      · rw [getElem?_put]; simp [h.size, hd]
      · rw [if_pos rfl, updF_same]; exact hv
    · obtain ⟨u', hu, hr⟩ := h.slot j
      refine ⟨u', ?_, ?_⟩
      · rw [getElem?_put, if_neg hj, if_neg (fun e => hj e.1)]; exact hu
      · rw [if_neg hj, updF_ne _ (by intro e; injection e with e; exact hj e.symm)]; exact hr
  · intro id
    rw [St.obj_put, updF_ne _ (by intro e; cases e)]
    exact h.obj id
  · intro j hj
    rw [getElem?_put, if_neg (by rintro ⟨rfl, _⟩; exact hp hj)]
    exact h.pin j hj

theorem Lv_updF_nil {k : Key} {b : Nat} (h : Lv g (updF F k []) b) : Lv g F b := by
  rcases h with h | ⟨k', h⟩
  · exact .inl h
  · by_cases e : k' = k
    · subst e; rw [updF_same] at h; simp at h
    · rw [updF_ne _ e] at h; exact .inr ⟨k', h⟩

/-- A slot gets a value that owns nothing. -/
theorem Inv.putv (h : Inv X g st a w β F (Lv g F)) {d : Nat} {v : AV} {u : Value} (hd : d < X.fn.ntmps) (hp : d ∉ X.pins)
    (hv : Rel w (Lv g F) β v u []) : SR X g (st.put d v) (a.put (some d) u) w :=
  ⟨β, updF F (.s d) [], (h.put hd hp hv (by simp) (by simp) (by simp)).setL fun _ _ hb => Lv_updF_nil hb⟩

end
end Go.Av
