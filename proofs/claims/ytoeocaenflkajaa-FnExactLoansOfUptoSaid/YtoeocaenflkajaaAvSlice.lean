/- Slices and strings: places, parts, loads and stores. -/
import Derived.Test.YtoeocaenflkajaaAvGo
import Derived.Deep.QuietTactic
namespace Go.Av
open Go Go.RowKit

theorem wpQuiet_mono' {P : Program} {ops : Array Oper} {C : World → Prop} {Q Q' : Act → Prop} (h : ∀ a, Q a → Q' a) : ∀ {l : List Oper} {a : Act}, wpQuiet P ops C Q l a → wpQuiet P ops C Q' l a
  | [], a, hq => h a hq
  | o :: l, a, hq => by
    unfold wpQuiet at hq ⊢
    split
    · rename_i hw
      rw [if_pos hw] at hq
      exact Oper.quiet_mono (fun a hq => wpQuiet_mono' h hq) hq
    · rename_i hw
      rw [if_neg hw] at hq
      exact wpQuiet_mono' h hq

section
variable {X : Fx} {g : Gx} {st : St} {a : Act} {w w' : World} {β : Env} {F : Key → List Nat} {L : Nat → Prop} {k : List Item}
variable {ops : Array Oper} {i : Nat} {rest : List Nat} {o : Oper}

/-- The operation yields such a value, and touches nothing. -/
def ValOk (X : Fx) (g : Gx) (st : St) (o : Oper) (v : AV) : Prop :=
  X.Ok → ∀ (a : Act) (w : World) (β : Env) (F : Key → List Nat), Inv X g st a w β F (Lv g F) →
    ∃ u, (∀ w2, Kp [] w w2 → (execOp a.eval o).run X.P w2 = .ok (.value u) w2) ∧ Rel w (Lv g F) β v u []

theorem ValOk.of_aop {v : AV} (hv : aop X.T st o.op = some v) : ValOk X g st o v := fun hX _ _ _ _ hI => aop_ok hX hI hv

/-- An operation that yields a value and touches nothing, in general. -/
theorem Run.val {d : Nat} {v : AV} (ho : ops[i]? = some o) (hg : guardOf ops st o = some true) (hd : o.dst = some d) (hs : ValOk X g st o v)
    (hdn : (Nat.blt d X.fn.ntmps && !(X.pins.contains d)) = true) (h : Run X g (.inRegion ops rest :: k) (st.put d v)) : Run X g (.inRegion ops (i :: rest) :: k) st := by
  simp only [Bool.and_eq_true, Bool.not_eq_true'] at hdn
  refine Run.op ho (fun a w hI => guardOf_ok hg a w hI) ?_ h
  rintro hX a w ⟨β, F, hI⟩
  obtain ⟨u, hu, hR⟩ := hs hX a w β F hI
  refine ⟨u, w, .inl (hu w (Kp.refl _ _)), ?_⟩
  rw [hd]
  exact hI.putv (blt_lt hdn.1) (contains_iff hdn.2) hR

/-! ### Regions whose order is open -/

/-- The operations of a region, in the order of the text, where each may come at any time: they read, and call what only reads. -/
def Quiet (X : Fx) (g : Gx) (ops : Array Oper) (K : St → Prop) (l : List Oper) (st : St) : Prop :=
  X.Ok → ∀ (a : Act) (w : World) (β : Env) (F : Key → List Nat), Inv X g st a w β F (Lv g F) →
    wpQuiet X.P ops (fun w' => Kp [] w w') (fun a' => ∃ st' β' F', K st' ∧ Inv X g st' a' w β' F' (Lv g F')) l a

theorem Quiet.nil {K : St → Prop} (h : K st) : Quiet X g ops K [] st := fun _ _ _ β F hI => wpQuiet_nil ⟨st, β, F, h, hI⟩

theorem Quiet.val {K : St → Prop} {l : List Oper} {d : Nat} {v : AV} (hg : guardOf ops st o = some true) (hd : o.dst = some d) (hs : ValOk X g st o v)
    (hdn : (Nat.blt d X.fn.ntmps && !(X.pins.contains d)) = true) (h : Quiet X g ops K l (st.put d v)) : Quiet X g ops K (o :: l) st := by
  simp only [Bool.and_eq_true, Bool.not_eq_true'] at hdn
  intro hX a w β F hI
  obtain ⟨u, hu, hR⟩ := hs hX a w β F hI
  have hw := guardOf_ok hg a w ⟨β, F, hI⟩
  obtain ⟨β', F', hI'⟩ := hI.putv (blt_lt hdn.1) (contains_iff hdn.2) hR
  unfold wpQuiet
  rw [if_pos hw]
  refine ⟨u, fun w' hw' => ?_, ?_⟩
  · unfold Oper.quietAt
    rw [hu w' hw']
    exact ⟨rfl, rfl⟩
  · rw [hd]; exact h hX _ w β' F' hI'

theorem Quiet.off {K : St → Prop} {l : List Oper} {d : Nat} (hg : guardOf ops st o = some false) (hd : o.dst = some d)
    (hdn : (Nat.blt d X.fn.ntmps && !(X.pins.contains d)) = true) (h : Quiet X g ops K l (st.put d (.lit undef))) : Quiet X g ops K (o :: l) st := by
  simp only [Bool.and_eq_true, Bool.not_eq_true'] at hdn
  intro hX a w β F hI
  have hw := guardOf_ok hg a w ⟨β, F, hI⟩
  obtain ⟨β', F', hI'⟩ := hI.putv (v := .lit undef) (u := undef) (blt_lt hdn.1) (contains_iff hdn.2) (.lit _ _)
  unfold wpQuiet
  rw [if_neg (by rw [hw]; simp)]
  rw [hd]; exact h hX _ w β' F' hI'

/-- A call whose result is one plain value. -/
theorem Quiet.call {K : St → Prop} {l : List Oper} {d : Nat} {fo : Operand} {xs : Array Operand} {ts : Array TypeId} {f : FuncId} {caps ps qs : List AV} {r : Value} {outs : List AV}
    (hg : guardOf ops st o = some true) (hd : o.dst = some d) (hop : o.op = .call ⟨.value fo, xs, ts⟩) (hf : st.ev fo = .fn f caps)
    (hps : st.expL 40 (xs.toList.map st.ev ++ caps) = some ps) (hqs : ps = qs) (hct : Ct X.P f qs (.lit r) outs)
    (hdn : (Nat.blt d X.fn.ntmps && !(X.pins.contains d)) = true) (h : Quiet X g ops K l (st.put d (.lit r))) : Quiet X g ops K (o :: l) st := by
  subst hqs
  simp only [Bool.and_eq_true, Bool.not_eq_true'] at hdn
  intro hX a w β F hI
  have hw := guardOf_ok hg a w ⟨β, F, hI⟩
  have hfr := ev_rel hI fo (by rw [hf]; rfl)
  rw [hf] at hfr
  generalize hfv : a.eval fo = fv at hfr
  cases hfr with
  | fn _ _ _ vals hl hr =>
  obtain ⟨e1, e2⟩ := (exp_ok hI 40).2 _ _ hps
  have hargs : Rel w (fun b => False ∨ b ∈ ([] : List Nat)) noEnv (.tup ps) (.tuple (xs.map a.eval ++ vals)) [] := by
    have := Rel.tup (w := w) (L := fun b => False ∨ b ∈ ([] : List Nat)) noEnv ps (xs.map a.eval ++ vals) (fun _ => []) (by simp [e1, hl]) (by
      intro k y' u hy hu
      obtain ⟨y, m, hy1, hm, hy2⟩ := e2 k y' hy
      have : ∃ G, Rel w (Lv g F) β y u G := by
        by_cases hk : k < xs.size
        · rw [List.getElem?_append_left (by simpa using hk)] at hy1
          rw [Array.getElem?_append_left (by simpa using hk)] at hu
          exact evT_ok hI xs.toList k y u hy1 (by simpa using hu)
        · rw [List.getElem?_append_right (by simpa using hk)] at hy1
          rw [Array.getElem?_append_right (by simpa using hk)] at hu
          exact ⟨_, hr (k - xs.size) y u (by simpa using hy1) (by simpa using hu)⟩
      obtain ⟨G, hG⟩ := this
      exact ((exp_ok hI m).1 y y' u G hG hy2).sub (by simp))
    rwa [foots_nil (fun _ _ => rfl)] at this
  obtain ⟨β', F', hI'⟩ := hI.putv (v := .lit r) (u := r) (blt_lt hdn.1) (contains_iff hdn.2) (.lit _ _)
  unfold wpQuiet
  rw [if_pos hw]
  refine ⟨r, fun w' hw' => ?_, ?_⟩
  · unfold Oper.quietAt
    rw [run_call hop hfv hct.enters]
    refine ⟨rfl, ?_⟩
    have hargs' : Rel w' (fun b => False ∨ b ∈ ([] : List Nat)) noEnv (.tup ps) (.tuple (xs.map a.eval ++ vals)) [] :=
      hargs.keep (M := fun _ => False) (fun b hb _ => hw'.block b hb (by simp)) (fun _ h => h.elim) (fun _ _ h => h) (by simp)
    refine (hct.calls w' (fun _ => False) _ [] (fun _ h => h.elim) (by simp) hargs').mono ?_
    rintro e w2 ⟨v, F', rfl, hk, hn, hr', hR⟩
    obtain ⟨G, hG, hGs, hRes⟩ := ct_res hn hR
    cases hRes
    exact ⟨rfl, hw'.trans hk (by simp)⟩
  · rw [hd]; exact h hX _ w β' F' hI'

def qval (X : Fx) (ops : Array Oper) (st : St) (o : Oper) : Option (Nat × AV) :=
  match o.dst with
  | some d => match guardOf ops st o with
    | some true => match aop X.T st o.op with
      | some v => bif Nat.blt d X.fn.ntmps && !(X.pins.contains d) then some (d, v) else none
      | none => none
    | some false => bif Nat.blt d X.fn.ntmps && !(X.pins.contains d) then some (d, .lit undef) else none
    | none => none
  | none => none

theorem Quiet.go {K : St → Prop} {l : List Oper} {d : Nat} {v : AV} (hs : qval X ops st o = some (d, v)) (h : Quiet X g ops K l (st.put d v)) : Quiet X g ops K (o :: l) st := by
  unfold qval at hs
  split at hs
  · rename_i d' hd
    split at hs
    · rename_i hg
      split at hs
      · rename_i v' hv
        by_cases hc : (Nat.blt d' X.fn.ntmps && !(X.pins.contains d')) = true
        · rw [hc] at hs
          simp only [cond_true, Option.some.injEq, Prod.mk.injEq] at hs
          obtain ⟨rfl, rfl⟩ := hs
          exact Quiet.val hg hd (ValOk.of_aop hv) hc h
        · simp only [Bool.not_eq_true] at hc; rw [hc] at hs; simp at hs
      · cases hs
    · rename_i hg
      by_cases hc : (Nat.blt d' X.fn.ntmps && !(X.pins.contains d')) = true
      · rw [hc] at hs
        simp only [cond_true, Option.some.injEq, Prod.mk.injEq] at hs
        obtain ⟨rfl, rfl⟩ := hs
        exact Quiet.off hg hd hc h
      · simp only [Bool.not_eq_true] at hc; rw [hc] at hs; simp at hs
    · cases hs
  · cases hs

theorem Quiet.bool {K : St → Prop} {l : List Oper} (d : Nat) {b : Bool} (hb : st.get d = .lit (.bool b)) (ht : b = true → Quiet X g ops K l (st.put d (.lit (.bool true))))
    (hf : b = false → Quiet X g ops K l (st.put d (.lit (.bool false)))) : Quiet X g ops K l st := by
  intro hX a w β F hI
  obtain ⟨β', F', hI'⟩ := SR.slotb (c := b) hb rfl ⟨β, F, hI⟩
  cases b with
  | true => exact ht rfl hX a w β' F' hI'
  | false => exact hf rfl hX a w β' F' hI'

/-- A call whose result is one plain value, its operands found by computing. -/
theorem Quiet.cs {K : St → Prop} {l : List Oper} {d : Nat} {fo : Operand} {xs : Array Operand} {ts : Array TypeId} {f : FuncId} {caps ps qs : List AV} {r : Value} {outs : List AV}
    (hg : guardOf ops st o = some true) (hd : o.dst = some d) (hop : o.op = .call ⟨.value fo, xs, ts⟩) (hf : st.ev fo = .fn f caps)
    (hps : st.expL 40 (xs.toList.map st.ev ++ caps) = some ps) (hct : Ct X.P f qs (.lit r) outs) (hqs : ps = qs)
    (hdn : (Nat.blt d X.fn.ntmps && !(X.pins.contains d)) = true) (h : Quiet X g ops K l (st.put d (.lit r))) : Quiet X g ops K (o :: l) st :=
  Quiet.call hg hd hop hf hps hqs hct hdn h

theorem Run.draw {id : Nat} {l : List Oper} (hm : X.P.follows .mixedOrders = true) (hB : Region.lexB .any l.toArray = true)
    (h : Quiet X g l.toArray (fun st' => Run X g k st') l st) : Run X g (.code (.region id l.toArray true) :: k) st := by
  intro hX a w b cs hI hf hk
  obtain ⟨β, F, hI⟩ := hI
  have hwp := wp_region_quiet (P := X.P) (ops := l.toArray) (id := id) (a := a) (w := w) (C := fun w' => Kp [] w w')
    (Q := fun e a' w' => e = .normal ∧ ∃ st', Run X g k st' ∧ SR X g st' a' w') hm hB ⟨rfl, rfl, rfl, Nat.le_refl _, fun _ _ _ => rfl⟩ (by
      have := h hX a w β F hI
      rw [List.toList_toArray]
      refine wpQuiet_mono' ?_ this
      rintro a' ⟨st', β', F', hK, hI'⟩ w' hw'
      refine ⟨rfl, st', hK, β', F', ?_⟩
      refine hI'.world (M := fun _ => False) (hI.kp.trans hw' (by simp)) (fun b hb _ => hw'.block b hb (by simp)) (fun _ h => h.elim) (fun _ _ h => h) (fun _ _ _ h => h))
  obtain ⟨e, a', w', ⟨rfl, st', hK, hI'⟩, harr⟩ := hwp b k cs
  obtain ⟨v, w2, fr, hp, hst, h1, h2⟩ := hK hX a' w' b cs hI' hf hk
  exact ⟨v, w2, fr, hp, Steps.trans harr hst, h1, h2⟩

def sliceAt (T : Nat → Option TI) (t : Nat) : Option (Nat × TI) :=
  match T t with
  | some i => match i.ud with
    | .slice e => match T e with
      | some ti => some (e, ti)
      | none => none
    | _ => none
  | none => none

theorem sliceAt_ok (hX : X.Ok) {t e : Nat} {ti : TI} (h : sliceAt X.T t = some (e, ti)) : ∃ i : TI, TyOk X.P t i ∧ i.ud = .slice e ∧ TyOk X.P e ti := by
  simp only [sliceAt] at h
  split at h
  · rename_i i hi
    split at h
    · rename_i e' hud
      split at h
      · rename_i ti' hti
        cases h
        exact ⟨i, ty_of hX hi, hud, ty_of hX hti⟩
      · cases h
    · cases h
  · cases h

theorem row_elem {sz : Nat} {xs : List AV} {vals : List Value} {b o : Nat} (hz : ∀ x ∈ xs, x.cells.length = sz) (hl : (flatc xs).length = vals.length) (hrow : RowAt w b o vals)
    (hr : ∀ (k : Nat) (x : AV) (u : Value), (flatc xs)[k]? = some x → vals[k]? = some u → Rel w L noEnv x u []) {m : Nat} {y : AV} (hy : xs[m]? = some y) :
    ∃ vs : List Value, y.cells.length = vs.length ∧ RowAt w b (o + m * sz) vs ∧ ∀ (k : Nat) (x : AV) (u : Value), y.cells[k]? = some x → vs[k]? = some u → Rel w L noEnv x u [] := by
  have hm : m < xs.length := (List.getElem?_eq_some_iff.1 hy).1
  have hfx : y.cells = ((flatc xs).drop (m * sz)).take sz := by
    have h1 : (xs.drop m).take 1 = [y] := by
      rw [List.take_one, List.head?_drop, hy]; rfl
    have h2 := flatc_take (sz := sz) (xs := xs.drop m) (fun x hx => hz x (List.mem_of_mem_drop hx)) 1
    rw [h1, flatc_drop hz] at h2
    simpa [flatc] using h2
  have hlen : (m + 1) * sz ≤ vals.length := by
    rw [← hl, flatc_length hz]; exact Nat.mul_le_mul_right _ hm
  have hyl := hz y (List.mem_of_getElem? hy)
  rw [Nat.succ_mul] at hlen
  refine ⟨(vals.drop (m * sz)).take sz, by simp; omega, ?_, ?_⟩
  · intro k u hk
    rw [List.getElem?_take] at hk
    split at hk
    · rw [List.getElem?_drop] at hk
      simpa [Nat.add_assoc] using hrow _ _ hk
    · cases hk
  · intro k x u hx hu
    rw [hfx, List.getElem?_take] at hx
    rw [List.getElem?_take] at hu
    split at hx
    · rename_i hk
      rw [if_pos hk] at hu
      exact hr (m * sz + k) x u (by simpa using hx) (by simpa using hu)
    · cases hx

theorem addr_add (b o n : Nat) : (⟨b, o, none⟩ : Addr).add n = ⟨b, o + n, none⟩ := by unfold Addr.add; split <;> simp_all

/-- The place of an element of a slice that is only read. -/
theorem ValOk.idx {t e : Nat} {ti : TI} {x j : Operand} {sz : Nat} {ex : Bool} {xs : List AV} {kk : IntKind} {m : Int} (y : AV)
    (hop : o.op = .indexAddr t x j) (hT : sliceAt X.T t = some (e, ti)) (hx : st.ev x = .ro sz ex xs) (hsz : ti.sz = sz) (hj : st.ev j = .lit (.int kk m)) (h0 : 0 ≤ m) (hy : xs[m.toNat]? = some y) :
    ValOk X g st o (.rp y.cells 0) := by
  intro hX a w β F hI
  obtain ⟨i', h1, h2, h3⟩ := sliceAt_ok hX hT
  have hR := ev_rel hI x (by rw [hx]; rfl)
  rw [hx] at hR
  generalize hu : a.eval x = u at hR
  have hm : m.toNat < xs.length := (List.getElem?_eq_some_iff.1 hy).1
  generalize hG : ([] : List Nat) = G at hR
  cases hR with
  | roNil => simp at hm
  | ro _ _ _ _ b o' c vals hL hz hl hrow hr hc hm' he =>
    obtain ⟨vs, e1, e2, e3⟩ := row_elem hz hl hrow hr hy
    refine ⟨.pointer (some ⟨b, o' + m.toNat * sz, none⟩), fun w2 _ => ?_, ?_⟩
    · have hs := un_run h1 w2
      rw [h2] at hs
      have hlt : m < (xs.length : Int) := by omega
      simp [execOp, hop, Instr.indexAt, ev_lit hI hj, asIntOf, hs, hu, h0, hlt, sizeOf_run h3, addr_add, hsz]
    · have hvals : vs ≠ [] → vals ≠ [] := by
        rintro hv rfl
        simp only [List.length_nil] at hl
        have hcl : y.cells.length = sz := hz y (List.mem_of_getElem? hy)
        rw [flatc_length hz] at hl
        have : sz = 0 := by
          rcases Nat.mul_eq_zero.1 hl with h | h
          · omega
          · exact h
        rw [hcl, this] at e1
        exact hv (List.length_eq_zero_iff.1 e1.symm)
      exact .rp _ _ 0 b (o' + m.toNat * sz) vs (fun h => hL (hvals h)) e1 e2 e3

/-- The place of an element of an own slice. -/
theorem ValOk.idxv {t e : Nat} {ti : TI} {x j : Operand} {id : Id} {off len sz : Nat} {ex : Bool} {xs : List AV} {kk : IntKind} {m : Int}
    (hop : o.op = .indexAddr t x j) (hT : sliceAt X.T t = some (e, ti)) (hx : st.ev x = .vec id off len) (hob : st.obj id = .vec sz ex xs) (hsz : ti.sz = sz) (hj : st.ev j = .lit (.int kk m)) (h0 : 0 ≤ m) (hm : m < len) :
    ValOk X g st o (.ep id (off + m.toNat) 0) := by
  intro hX a w β F hI
  obtain ⟨i', h1, h2, h3⟩ := sliceAt_ok hX hT
  have hR := ev_rel hI x (by rw [hx]; rfl)
  rw [hx] at hR
  have hb := hI.obj id
  rw [hob] at hb
  obtain ⟨v, hβ, hown⟩ := hb
  generalize hu : a.eval x = u at hR
  generalize hG : ([] : List Nat) = G at hR
  generalize hvv : AV.vec id off len = vv at hR
  cases hR with
  | vecNil => cases hvv; omega
  | vec _ _ _ _ b n c sz' A hβ' hol hA hn =>
    cases hvv
    rw [hβ] at hβ'
    cases hβ'
    obtain rfl := hA (by omega)
    refine ⟨.pointer (some ⟨b, (off + m.toNat) * sz + 0, none⟩), fun w2 _ => ?_, .ep _ _ _ _ _ _ _ _ hβ⟩
    have hs := un_run h1 w2
    rw [h2] at hs
    simp [execOp, hop, Instr.indexAt, ev_lit hI hj, asIntOf, hs, hu, h0, hm, sizeOf_run h3, addr_add, hsz, Nat.add_mul]
  | _ => cases hvv

theorem own_row {sz : Nat} {ex : Bool} {xs : List AV} {v : Value} {G : List Nat} {γ : Env} (h : Rel w L γ (.own sz ex xs) v G) {b n c : Nat} (hv : v = .slice (some ⟨b, 0, none⟩) n c) (hne : xs ≠ []) :
    ∃ (arr : Array Value) (T : TypeId) (lo hi : Nat) (Fs : Nat → List Nat), w.heap[b]? = some (.cells arr T (lo, hi)) ∧ (∀ k, k < arr.size → ¬ (lo ≤ k ∧ k < hi)) ∧ arr.size = c * sz ∧
      (∀ x ∈ xs, x.cells.length = sz) ∧ (∀ (k : Nat) (x : AV) (u : Value), (flatc xs)[k]? = some x → arr[k]? = some u → Rel w L noEnv x u (Fs k)) ∧ n = xs.length ∧ xs.length ≤ c ∧ c ≤ capMax ∧ (ex = true → c = xs.length) ∧
      G = b :: foots Fs (flatc xs).length := by
  cases h with
  | ownNil => exact absurd rfl hne
  | own _ _ _ _ b' c' arr T lo hi Fs hb hfz hs hz hr hc hm he =>
    cases hv
    exact ⟨arr, T, lo, hi, Fs, hb, hfz, hs, hz, hr, rfl, hc, hm, he, rfl⟩

theorem elem_cells {xs : List AV} {sz m : Nat} (hz : ∀ x ∈ xs, x.cells.length = sz) {y : AV} (hy : xs[m]? = some y) (k : Nat) (hk : k < sz) : (flatc xs)[m * sz + k]? = y.cells[k]? := by
  have hfx : y.cells = ((flatc xs).drop (m * sz)).take sz := by
    have h1 : (xs.drop m).take 1 = [y] := by
      rw [List.take_one, List.head?_drop, hy]; rfl
    have h2 := flatc_take (sz := sz) (xs := xs.drop m) (fun x hx => hz x (List.mem_of_mem_drop hx)) 1
    rw [h1, flatc_drop hz] at h2
    simpa [flatc] using h2
  rw [hfx, List.getElem?_take, if_pos hk, List.getElem?_drop]

/-- A load out of an own slice. -/
theorem ValOk.loadv {t : Nat} {ti : TI} {x : Operand} {id : Id} {m j sz : Nat} {ex : Bool} {xs : List AV} {v : AV} (y : AV)
    (hop : o.op = .load t x) (hT : X.T t = some ti) (hx : st.ev x = .ep id m j) (hob : st.obj id = .vec sz ex xs) (hy : xs[m]? = some y) (hv : rdc ti y.cells j = some v) :
    ValOk X g st o v := by
  intro hX a w β F hI
  have ht := ty_of hX hT
  have hR := ev_rel hI x (by rw [hx]; rfl)
  rw [hx] at hR
  have hb := hI.obj id
  rw [hob] at hb
  obtain ⟨v', hβ, hown⟩ := hb
  generalize hu : a.eval x = u at hR
  cases hR with
  | ep _ _ _ _ b n c sz' hβ' =>
    rw [hβ] at hβ'
    cases hβ'
    have hm : m < xs.length := (List.getElem?_eq_some_iff.1 hy).1
    obtain ⟨arr, T, lo, hi, Fs, hb, hfz, hs, hz, hr, hn, hc, hcm, he, hG⟩ := own_row hown rfl (by intro e; rw [e] at hm; simp at hm)
    have hyl := hz y (List.mem_of_getElem? hy)
    have hms : (m + 1) * sz ≤ arr.size := by rw [hs]; exact Nat.mul_le_mul_right _ (by omega)
    rw [Nat.succ_mul] at hms
    obtain ⟨u, hl, hRu⟩ := load_row (P := X.P) (w := w) (L := Lv g F) (β := noEnv) (b := b) (o := m * sz) (vals := (arr.toList.drop (m * sz)).take sz) (Fs := fun k => Fs (m * sz + k)) (j := j) ht (by simp; omega) (by
      intro k z u hz' hu'
      rw [List.getElem?_take] at hu'
      split at hu'
      · rename_i hk
        rw [← elem_cells hz hy k hk] at hz'
        exact hr _ _ _ hz' (by simpa using hu')
      · cases hu') hv
    refine ⟨u, fun w2 hk2 => ?_, hRu.of_noEnv rfl β⟩
    have hrow : RowAt w2 b (m * sz) ((arr.toList.drop (m * sz)).take sz) := by
      intro k u hk
      have hb2 : w2.heap[b]? = some (.cells arr T (lo, hi)) := by rw [hk2.block b (Array.getElem?_eq_some_iff.1 hb).1 (by simp)]; exact hb
      rw [List.getElem?_take] at hk
      split at hk
      · rw [List.getElem?_drop] at hk
        simp [World.cell?, hb2]; simpa using hk
      · cases hk
    have := hl w2 hrow
    simp [execOp, hop, Instr.loadAt, hu, Instr.sureAddr, this]

end
end Go.Av
