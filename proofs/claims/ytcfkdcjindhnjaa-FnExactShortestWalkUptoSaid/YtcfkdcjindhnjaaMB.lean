/- Parts of a proof, in one text: AvSlice, AvOwn, AvMove, AvNest, AvLend, AvGive, AvBuild, AvKit, AvDraw, AvAppend, AvMap, AvMore. -/
import Derived.Test.YtcfkdcjindhnjaaMA
import Derived.Deep.QuietTactic
import Derived.Laws.AppendOwn
import Derived.Laws.MakeOwn
import Derived.MapKept
set_option linter.unusedVariables false

/- Slices and strings: places, parts, loads and stores. -/
namespace Go.Av
open Go Go.RowKit

theorem wpQuiet_mono' {P : Program} {ops : Array Oper} {C : World → Prop} {Q Q' : Act → Prop} (h : ∀ a, Q a → Q' a) : ∀ {l : List Oper} {a : Act}, wpQuiet P ops C Q l a → wpQuiet P ops C Q' l a
  | [], a, hq => h a hq
  | o :: l, a, hq => by
    unfold wpQuiet at hq ⊢
    split
    · rename_i hw
      rw [if_pos hw] at hq
      exact Oper.quiet_mono (fun a hq => wpQuiet_mono' h hq) hq
    · rename_i hw
      rw [if_neg hw] at hq
      exact wpQuiet_mono' h hq

section
variable {X : Fx} {g : Gx} {st : St} {a : Act} {w w' : World} {β : Env} {F : Key → List Nat} {L : Nat → Prop} {k : List Item}
variable {ops : Array Oper} {i : Nat} {rest : List Nat} {o : Oper}

/-- The operation yields such a value, and touches nothing. -/
def ValOk (X : Fx) (g : Gx) (st : St) (o : Oper) (v : AV) : Prop :=
  X.Ok → ∀ (a : Act) (w : World) (β : Env) (F : Key → List Nat), Inv X g st a w β F (Lv g F) →
    ∃ u, (∀ w2, Kp [] w w2 → (execOp a.eval o).run X.P w2 = .ok (.value u) w2) ∧ Rel w (Lv g F) β v u []

theorem ValOk.of_aop {v : AV} (hv : aop X.T st o.op = some v) : ValOk X g st o v := fun hX _ _ _ _ hI => aop_ok hX hI hv

/-- An operation that yields a value and touches nothing, in general. -/
theorem Run.val {d : Nat} {v : AV} (ho : ops[i]? = some o) (hg : guardOf ops st o = some true) (hd : o.dst = some d) (hs : ValOk X g st o v)
    (hdn : (Nat.blt d X.fn.ntmps && !(X.pins.contains d)) = true) (h : Run X g (.inRegion ops rest :: k) (st.put d v)) : Run X g (.inRegion ops (i :: rest) :: k) st := by
  simp only [Bool.and_eq_true, Bool.not_eq_true'] at hdn
  refine Run.op ho (fun a w hI => guardOf_ok hg a w hI) ?_ h
  rintro hX a w ⟨β, F, hI⟩
  obtain ⟨u, hu, hR⟩ := hs hX a w β F hI
  refine ⟨u, w, .inl (hu w (Kp.refl _ _)), ?_⟩
  rw [hd]
  exact hI.putv (blt_lt hdn.1) (contains_iff hdn.2) hR

/-! ### Regions whose order is open -/

/-- The operations of a region, in the order of the text, where each may come at any time: they read, and call what only reads. -/
def Quiet (X : Fx) (g : Gx) (ops : Array Oper) (K : St → Prop) (l : List Oper) (st : St) : Prop :=
  X.Ok → ∀ (a : Act) (w : World) (β : Env) (F : Key → List Nat), Inv X g st a w β F (Lv g F) →
    wpQuiet X.P ops (fun w' => Kp [] w w') (fun a' => ∃ st' β' F', K st' ∧ Inv X g st' a' w β' F' (Lv g F')) l a

theorem Quiet.nil {K : St → Prop} (h : K st) : Quiet X g ops K [] st := fun _ _ _ β F hI => wpQuiet_nil ⟨st, β, F, h, hI⟩

theorem Quiet.val {K : St → Prop} {l : List Oper} {d : Nat} {v : AV} (hg : guardOf ops st o = some true) (hd : o.dst = some d) (hs : ValOk X g st o v)
    (hdn : (Nat.blt d X.fn.ntmps && !(X.pins.contains d)) = true) (h : Quiet X g ops K l (st.put d v)) : Quiet X g ops K (o :: l) st := by
  simp only [Bool.and_eq_true, Bool.not_eq_true'] at hdn
  intro hX a w β F hI
  obtain ⟨u, hu, hR⟩ := hs hX a w β F hI
  have hw := guardOf_ok hg a w ⟨β, F, hI⟩
  obtain ⟨β', F', hI'⟩ := hI.putv (blt_lt hdn.1) (contains_iff hdn.2) hR
  unfold wpQuiet
  rw [if_pos hw]
  refine ⟨u, fun w' hw' => ?_, ?_⟩
  · unfold Oper.quietAt
    rw [hu w' hw']
    exact ⟨rfl, rfl⟩
  · rw [hd]; exact h hX _ w β' F' hI'

theorem Quiet.off {K : St → Prop} {l : List Oper} {d : Nat} (hg : guardOf ops st o = some false) (hd : o.dst = some d)
    (hdn : (Nat.blt d X.fn.ntmps && !(X.pins.contains d)) = true) (h : Quiet X g ops K l (st.put d (.lit undef))) : Quiet X g ops K (o :: l) st := by
  simp only [Bool.and_eq_true, Bool.not_eq_true'] at hdn
  intro hX a w β F hI
  have hw := guardOf_ok hg a w ⟨β, F, hI⟩
  obtain ⟨β', F', hI'⟩ := hI.putv (v := .lit undef) (u := undef) (blt_lt hdn.1) (contains_iff hdn.2) (.lit _ _)
  unfold wpQuiet
  rw [if_neg (by rw [hw]; simp)]
  rw [hd]; exact h hX _ w β' F' hI'

/-- A call whose result is one plain value. -/
theorem Quiet.callA {K : St → Prop} {l : List Oper} {d : Nat} {fo : Operand} {xs : Array Operand} {ts : Array TypeId} {f : FuncId} {caps ps qs : List AV} {r : Value} {outs : List AV}
    (hg : guardOf ops st o = some true) (hd : o.dst = some d) (hop : o.op = .call ⟨.value fo, xs, ts⟩) (hf : st.ev fo = .fn f caps)
    (hps : st.expL 40 (xs.toList.map st.ev ++ caps) = some ps) (hqs : ps = qs) (hct : CtAt g X.P f qs (.lit r) outs)
    (hdn : (Nat.blt d X.fn.ntmps && !(X.pins.contains d)) = true) (h : Quiet X g ops K l (st.put d (.lit r))) : Quiet X g ops K (o :: l) st := by
  subst hqs
  simp only [Bool.and_eq_true, Bool.not_eq_true'] at hdn
  intro hX a w β F hI
  have hw := guardOf_ok hg a w ⟨β, F, hI⟩
  have hfr := ev_rel hI fo (by rw [hf]; rfl)
  rw [hf] at hfr
  generalize hfv : a.eval fo = fv at hfr
  cases hfr with
  | fn _ _ _ vals hl hr =>
  obtain ⟨e1, e2⟩ := (exp_ok hI 40).2 _ _ hps
  have hargs : Rel w (fun b => False ∨ b ∈ ([] : List Nat)) noEnv (.tup ps) (.tuple (xs.map a.eval ++ vals)) [] := by
    have := Rel.tup (w := w) (L := fun b => False ∨ b ∈ ([] : List Nat)) noEnv ps (xs.map a.eval ++ vals) (fun _ => []) (by simp [e1, hl]) (by
      intro k y' u hy hu
      obtain ⟨y, m, hy1, hm, hy2⟩ := e2 k y' hy
      have : ∃ G, Rel w (Lv g F) β y u G := by
        by_cases hk : k < xs.size
        · rw [List.getElem?_append_left (by simpa using hk)] at hy1
          rw [Array.getElem?_append_left (by simpa using hk)] at hu
          exact evT_ok hI xs.toList k y u hy1 (by simpa using hu)
        · rw [List.getElem?_append_right (by simpa using hk)] at hy1
          rw [Array.getElem?_append_right (by simpa using hk)] at hu
          exact ⟨_, hr (k - xs.size) y u (by simpa using hy1) (by simpa using hu)⟩
      obtain ⟨G, hG⟩ := this
      exact ((exp_ok hI m).1 y y' u G hG hy2).sub (by simp))
    rwa [foots_nil (fun _ _ => rfl)] at this
  obtain ⟨β', F', hI'⟩ := hI.putv (v := .lit r) (u := r) (blt_lt hdn.1) (contains_iff hdn.2) (.lit _ _)
  unfold wpQuiet
  rw [if_pos hw]
  refine ⟨r, fun w' hw' => ?_, ?_⟩
  · unfold Oper.quietAt
    rw [run_call hop hfv hct.enters]
    refine ⟨rfl, ?_⟩
    have hargs' : Rel w' (fun b => False ∨ b ∈ ([] : List Nat)) noEnv (.tup ps) (.tuple (xs.map a.eval ++ vals)) [] :=
      hargs.keep (M := fun _ => False) (fun b hb _ => hw'.block b hb (by simp)) (fun _ h => h.elim) (fun _ _ h => h) (by simp)
    refine (hct.calls w' (fun _ => False) _ [] (hI.kp.trans hw' (by simp)) (by simp) (fun _ h => h.elim) (by simp) hargs').mono ?_
    rintro e w2 ⟨v, F', rfl, hk, hn, hr', hR⟩
    obtain ⟨G, hG, hGs, hRes⟩ := ct_res hn hR
    cases hRes
    exact ⟨rfl, hw'.trans hk (by simp)⟩
  · rw [hd]; exact h hX _ w β' F' hI'

theorem Quiet.call {K : St → Prop} {l : List Oper} {d : Nat} {fo : Operand} {xs : Array Operand} {ts : Array TypeId} {f : FuncId} {caps ps qs : List AV} {r : Value} {outs : List AV}
    (hg : guardOf ops st o = some true) (hd : o.dst = some d) (hop : o.op = .call ⟨.value fo, xs, ts⟩) (hf : st.ev fo = .fn f caps)
    (hps : st.expL 40 (xs.toList.map st.ev ++ caps) = some ps) (hqs : ps = qs) (hct : Ct X.P f qs (.lit r) outs)
    (hdn : (Nat.blt d X.fn.ntmps && !(X.pins.contains d)) = true) (h : Quiet X g ops K l (st.put d (.lit r))) : Quiet X g ops K (o :: l) st :=
  Quiet.callA hg hd hop hf hps hqs hct.at hdn h

def qval (X : Fx) (ops : Array Oper) (st : St) (o : Oper) : Option (Nat × AV) :=
  match o.dst with
  | some d => match guardOf ops st o with
    | some true => match aop X.T st o.op with
      | some v => bif Nat.blt d X.fn.ntmps && !(X.pins.contains d) then some (d, v) else none
      | none => none
    | some false => bif Nat.blt d X.fn.ntmps && !(X.pins.contains d) then some (d, .lit undef) else none
    | none => none
  | none => none

theorem Quiet.go {K : St → Prop} {l : List Oper} {d : Nat} {v : AV} (hs : qval X ops st o = some (d, v)) (h : Quiet X g ops K l (st.put d v)) : Quiet X g ops K (o :: l) st := by
  unfold qval at hs
  split at hs
  · rename_i d' hd
    split at hs
    · rename_i hg
      split at hs
      · rename_i v' hv
        by_cases hc : (Nat.blt d' X.fn.ntmps && !(X.pins.contains d')) = true
        · rw [hc] at hs
          simp only [cond_true, Option.some.injEq, Prod.mk.injEq] at hs
          obtain ⟨rfl, rfl⟩ := hs
          exact Quiet.val hg hd (ValOk.of_aop hv) hc h
        · simp only [Bool.not_eq_true] at hc; rw [hc] at hs; simp at hs
      · cases hs
    · rename_i hg
      by_cases hc : (Nat.blt d' X.fn.ntmps && !(X.pins.contains d')) = true
      · rw [hc] at hs
        simp only [cond_true, Option.some.injEq, Prod.mk.injEq] at hs
        obtain ⟨rfl, rfl⟩ := hs
        exact Quiet.off hg hd hc h
      · simp only [Bool.not_eq_true] at hc; rw [hc] at hs; simp at hs
    · cases hs
  · cases hs

theorem Quiet.bool {K : St → Prop} {l : List Oper} (d : Nat) {b : Bool} (hb : st.get d = .lit (.bool b)) (ht : b = true → Quiet X g ops K l (st.put d (.lit (.bool true))))
    (hf : b = false → Quiet X g ops K l (st.put d (.lit (.bool false)))) : Quiet X g ops K l st := by
  intro hX a w β F hI
  obtain ⟨β', F', hI'⟩ := SR.slotb (c := b) hb rfl ⟨β, F, hI⟩
  cases b with
  | true => exact ht rfl hX a w β' F' hI'
  | false => exact hf rfl hX a w β' F' hI'

/-- A call whose result is one plain value, its operands found by computing. -/
theorem Quiet.csA {K : St → Prop} {l : List Oper} {d : Nat} {fo : Operand} {xs : Array Operand} {ts : Array TypeId} {f : FuncId} {caps ps qs : List AV} {r : Value} {outs : List AV}
    (hg : guardOf ops st o = some true) (hd : o.dst = some d) (hop : o.op = .call ⟨.value fo, xs, ts⟩) (hf : st.ev fo = .fn f caps)
    (hps : st.expL 40 (xs.toList.map st.ev ++ caps) = some ps) (hct : CtAt g X.P f qs (.lit r) outs) (hqs : ps = qs)
    (hdn : (Nat.blt d X.fn.ntmps && !(X.pins.contains d)) = true) (h : Quiet X g ops K l (st.put d (.lit r))) : Quiet X g ops K (o :: l) st :=
  Quiet.callA hg hd hop hf hps hqs hct hdn h

theorem Quiet.cs {K : St → Prop} {l : List Oper} {d : Nat} {fo : Operand} {xs : Array Operand} {ts : Array TypeId} {f : FuncId} {caps ps qs : List AV} {r : Value} {outs : List AV}
    (hg : guardOf ops st o = some true) (hd : o.dst = some d) (hop : o.op = .call ⟨.value fo, xs, ts⟩) (hf : st.ev fo = .fn f caps)
    (hps : st.expL 40 (xs.toList.map st.ev ++ caps) = some ps) (hct : Ct X.P f qs (.lit r) outs) (hqs : ps = qs)
    (hdn : (Nat.blt d X.fn.ntmps && !(X.pins.contains d)) = true) (h : Quiet X g ops K l (st.put d (.lit r))) : Quiet X g ops K (o :: l) st :=
  Quiet.csA hg hd hop hf hps hct.at hqs hdn h

theorem Run.draw {id : Nat} {l : List Oper} (hm : X.P.follows .mixedOrders = true) (hB : Region.lexB .any l.toArray = true)
    (h : Quiet X g l.toArray (fun st' => Run X g k st') l st) (hrd : g.rd = none := by first | exact rd_plain (by assumption) | exact rd_marked (by assumption)) : Run X g (.code (.region id l.toArray true) :: k) st := by
  intro hX a w b cs hI hf hk
  obtain ⟨β, F, hI⟩ := hI
  have hwp := wp_region_quiet (P := X.P) (ops := l.toArray) (id := id) (a := a) (w := w) (C := fun w' => Kp [] w w')
    (Q := fun e a' w' => e = .normal ∧ ∃ st', Run X g k st' ∧ SR X g st' a' w') hm hB ⟨rfl, rfl, rfl, Nat.le_refl _, fun _ _ _ => rfl⟩ (by
      have := h hX a w β F hI
      rw [List.toList_toArray]
      refine wpQuiet_mono' ?_ this
      rintro a' ⟨st', β', F', hK, hI'⟩ w' hw'
      refine ⟨rfl, st', hK, β', F', ?_⟩
      refine hI'.world (M := fun _ => False) (hI.kp.trans hw' (by simp)) (fun b hb _ => hw'.block b hb (by simp)) (fun _ h => h.elim) (fun _ _ h => h) (fun _ _ _ h => h))
  obtain ⟨e, a', w', ⟨rfl, st', hK, hI'⟩, harr⟩ := hwp b k cs
  obtain ⟨v, w2, fr, hp, hst⟩ := hK hX a' w' b cs hI' hf hk
  rw [Frame.atR_of_none (hk.2.trans hrd)] at hst ⊢
  exact ⟨v, w2, fr, hp, Steps.trans harr hst⟩

def sliceAt (T : Nat → Option TI) (t : Nat) : Option (Nat × TI) :=
  match T t with
  | some i => match i.ud with
    | .slice e => match T e with
      | some ti => some (e, ti)
      | none => none
    | _ => none
  | none => none

theorem sliceAt_ok (hX : X.Ok) {t e : Nat} {ti : TI} (h : sliceAt X.T t = some (e, ti)) : ∃ i : TI, TyOk X.P t i ∧ i.ud = .slice e ∧ TyOk X.P e ti := by
  simp only [sliceAt] at h
  split at h
  · rename_i i hi
    split at h
    · rename_i e' hud
      split at h
      · rename_i ti' hti
        cases h
        exact ⟨i, ty_of hX hi, hud, ty_of hX hti⟩
      · cases h
    · cases h
  · cases h

theorem row_elem {sz : Nat} {xs : List AV} {vals : List Value} {b o : Nat} (hz : ∀ x ∈ xs, x.cells.length = sz) (hl : (flatc xs).length = vals.length) (hrow : RowAt w b o vals)
    (hr : ∀ (k : Nat) (x : AV) (u : Value), (flatc xs)[k]? = some x → vals[k]? = some u → Rel w L noEnv x u []) {m : Nat} {y : AV} (hy : xs[m]? = some y) :
    ∃ vs : List Value, y.cells.length = vs.length ∧ RowAt w b (o + m * sz) vs ∧ ∀ (k : Nat) (x : AV) (u : Value), y.cells[k]? = some x → vs[k]? = some u → Rel w L noEnv x u [] := by
  have hm : m < xs.length := (List.getElem?_eq_some_iff.1 hy).1
  have hfx : y.cells = ((flatc xs).drop (m * sz)).take sz := by
    have h1 : (xs.drop m).take 1 = [y] := by
      rw [List.take_one, List.head?_drop, hy]; rfl
    have h2 := flatc_take (sz := sz) (xs := xs.drop m) (fun x hx => hz x (List.mem_of_mem_drop hx)) 1
    rw [h1, flatc_drop hz] at h2
    simpa [flatc] using h2
  have hlen : (m + 1) * sz ≤ vals.length := by
    rw [← hl, flatc_length hz]; exact Nat.mul_le_mul_right _ hm
  have hyl := hz y (List.mem_of_getElem? hy)
  rw [Nat.succ_mul] at hlen
  refine ⟨(vals.drop (m * sz)).take sz, by simp; omega, ?_, ?_⟩
  · intro k u hk
    rw [List.getElem?_take] at hk
    split at hk
    · rw [List.getElem?_drop] at hk
      simpa [Nat.add_assoc] using hrow _ _ hk
    · cases hk
  · intro k x u hx hu
    rw [hfx, List.getElem?_take] at hx
    rw [List.getElem?_take] at hu
    split at hx
    · rename_i hk
      rw [if_pos hk] at hu
      exact hr (m * sz + k) x u (by simpa using hx) (by simpa using hu)
    · cases hx

theorem addr_add (b o n : Nat) : (⟨b, o, none⟩ : Addr).add n = ⟨b, o + n, none⟩ := by unfold Addr.add; split <;> simp_all

/-- The place of an element of a slice that is only read. -/
theorem ValOk.idx {t e : Nat} {ti : TI} {x j : Operand} {sz : Nat} {ex : Bool} {xs : List AV} {kk : IntKind} {m : Int} (y : AV)
    (hop : o.op = .indexAddr t x j) (hT : sliceAt X.T t = some (e, ti)) (hx : st.ev x = .ro sz ex xs) (hsz : ti.sz = sz) (hj : st.ev j = .lit (.int kk m)) (h0 : 0 ≤ m) (hy : xs[m.toNat]? = some y) :
    ValOk X g st o (.rp y.cells 0) := by
  intro hX a w β F hI
  obtain ⟨i', h1, h2, h3⟩ := sliceAt_ok hX hT
  have hR := ev_rel hI x (by rw [hx]; rfl)
  rw [hx] at hR
  generalize hu : a.eval x = u at hR
  have hm : m.toNat < xs.length := (List.getElem?_eq_some_iff.1 hy).1
  generalize hG : ([] : List Nat) = G at hR
  cases hR with
  | roNil => simp at hm
  | ro _ _ _ _ b o' c vals hL hz hl hrow hr hc hm' he =>
    obtain ⟨vs, e1, e2, e3⟩ := row_elem hz hl hrow hr hy
    refine ⟨.pointer (some ⟨b, o' + m.toNat * sz, none⟩), fun w2 _ => ?_, ?_⟩
    · have hs := un_run h1 w2
      rw [h2] at hs
      have hlt : m < (xs.length : Int) := by omega
      simp [execOp, hop, Instr.indexAt, ev_lit hI hj, asIntOf, hs, hu, h0, hlt, sizeOf_run h3, addr_add, hsz]
    · have hvals : vs ≠ [] → vals ≠ [] := by
        rintro hv rfl
        simp only [List.length_nil] at hl
        have hcl : y.cells.length = sz := hz y (List.mem_of_getElem? hy)
        rw [flatc_length hz] at hl
        have : sz = 0 := by
          rcases Nat.mul_eq_zero.1 hl with h | h
          · omega
          · exact h
        rw [hcl, this] at e1
        exact hv (List.length_eq_zero_iff.1 e1.symm)
      exact .rp _ _ 0 b (o' + m.toNat * sz) vs (fun h => hL (hvals h)) e1 e2 e3

/-- The place of an element of an own slice. -/
theorem ValOk.idxv {t e : Nat} {ti : TI} {x j : Operand} {id : Id} {off len sz : Nat} {ex : Bool} {xs : List AV} {kk : IntKind} {m : Int}
    (hop : o.op = .indexAddr t x j) (hT : sliceAt X.T t = some (e, ti)) (hx : st.ev x = .vec id off len) (hob : st.obj id = .vec sz ex xs) (hsz : ti.sz = sz) (hj : st.ev j = .lit (.int kk m)) (h0 : 0 ≤ m) (hm : m < len) :
    ValOk X g st o (.ep id (off + m.toNat) 0) := by
  intro hX a w β F hI
  obtain ⟨i', h1, h2, h3⟩ := sliceAt_ok hX hT
  have hR := ev_rel hI x (by rw [hx]; rfl)
  rw [hx] at hR
  have hb := hI.obj id
  rw [hob] at hb
  obtain ⟨v, hβ, hown⟩ := hb
  generalize hu : a.eval x = u at hR
  generalize hG : ([] : List Nat) = G at hR
  generalize hvv : AV.vec id off len = vv at hR
  cases hR with
  | vecNil => cases hvv; omega
  | vec _ _ _ _ b n c sz' A hβ' hol hA hn =>
    cases hvv
    rw [hβ] at hβ'
    cases hβ'
    obtain rfl := hA (by omega)
    refine ⟨.pointer (some ⟨b, (off + m.toNat) * sz + 0, none⟩), fun w2 _ => ?_, .ep _ _ _ _ _ _ _ _ hβ⟩
    have hs := un_run h1 w2
    rw [h2] at hs
    simp [execOp, hop, Instr.indexAt, ev_lit hI hj, asIntOf, hs, hu, h0, hm, sizeOf_run h3, addr_add, hsz, Nat.add_mul]
  | _ => cases hvv

theorem own_row {sz : Nat} {ex : Bool} {xs : List AV} {v : Value} {G : List Nat} {γ : Env} (h : Rel w L γ (.own sz ex xs) v G) {b n c : Nat} (hv : v = .slice (some ⟨b, 0, none⟩) n c) (hne : xs ≠ []) :
    ∃ (arr : Array Value) (T : TypeId) (lo hi : Nat) (Fs : Nat → List Nat), w.heap[b]? = some (.cells arr T (lo, hi)) ∧ ((∀ k, k < arr.size → ¬ (lo ≤ k ∧ k < hi)) ∧ (1 < sz → ¬ (lo ≤ arr.size ∧ arr.size < hi))) ∧ arr.size = c * sz ∧
      (∀ x ∈ xs, x.cells.length = sz) ∧ (∀ (k : Nat) (x : AV) (u : Value), (flatc xs)[k]? = some x → arr[k]? = some u → Rel w L noEnv x u (Fs k)) ∧ n = xs.length ∧ xs.length ≤ c ∧ c ≤ capMax ∧ (ex = true → c = xs.length) ∧
      G = b :: foots Fs (flatc xs).length := by
  cases h with
  | ownNil => exact absurd rfl hne
  | own _ _ _ _ b' c' arr T lo hi Fs hb hfz hs hz hr hc hm he =>
    cases hv
    exact ⟨arr, T, lo, hi, Fs, hb, hfz, hs, hz, hr, rfl, hc, hm, he, rfl⟩

theorem elem_cells {xs : List AV} {sz m : Nat} (hz : ∀ x ∈ xs, x.cells.length = sz) {y : AV} (hy : xs[m]? = some y) (k : Nat) (hk : k < sz) : (flatc xs)[m * sz + k]? = y.cells[k]? := by
  have hfx : y.cells = ((flatc xs).drop (m * sz)).take sz := by
    have h1 : (xs.drop m).take 1 = [y] := by
      rw [List.take_one, List.head?_drop, hy]; rfl
    have h2 := flatc_take (sz := sz) (xs := xs.drop m) (fun x hx => hz x (List.mem_of_mem_drop hx)) 1
    rw [h1, flatc_drop hz] at h2
    simpa [flatc] using h2
  rw [hfx, List.getElem?_take, if_pos hk, List.getElem?_drop]

/-- A load out of an own slice. -/
theorem ValOk.loadv {t : Nat} {ti : TI} {x : Operand} {id : Id} {m j sz : Nat} {ex : Bool} {xs : List AV} {v : AV} (y : AV)
    (hop : o.op = .load t x) (hT : X.T t = some ti) (hx : st.ev x = .ep id m j) (hob : st.obj id = .vec sz ex xs) (hy : xs[m]? = some y) (hv : rdc ti y.cells j = some v) :
    ValOk X g st o v := by
  intro hX a w β F hI
  have ht := ty_of hX hT
  have hR := ev_rel hI x (by rw [hx]; rfl)
  rw [hx] at hR
  have hb := hI.obj id
  rw [hob] at hb
  obtain ⟨v', hβ, hown⟩ := hb
  generalize hu : a.eval x = u at hR
  cases hR with
  | ep _ _ _ _ b n c sz' hβ' =>
    rw [hβ] at hβ'
    cases hβ'
    have hm : m < xs.length := (List.getElem?_eq_some_iff.1 hy).1
    obtain ⟨arr, T, lo, hi, Fs, hb, hfz, hs, hz, hr, hn, hc, hcm, he, hG⟩ := own_row hown rfl (by intro e; rw [e] at hm; simp at hm)
    have hyl := hz y (List.mem_of_getElem? hy)
    have hms : (m + 1) * sz ≤ arr.size := by rw [hs]; exact Nat.mul_le_mul_right _ (by omega)
    rw [Nat.succ_mul] at hms
    obtain ⟨u, hl, hRu⟩ := load_row (P := X.P) (w := w) (L := Lv g F) (β := noEnv) (b := b) (o := m * sz) (vals := (arr.toList.drop (m * sz)).take sz) (Fs := fun k => Fs (m * sz + k)) (j := j) ht (by simp; omega) (by
      intro k z u hz' hu'
      rw [List.getElem?_take] at hu'
      split at hu'
      · rename_i hk
        rw [← elem_cells hz hy k hk] at hz'
        exact hr _ _ _ hz' (by simpa using hu')
      · cases hu') hv
    refine ⟨u, fun w2 hk2 => ?_, hRu.of_noEnv rfl β⟩
    have hrow : RowAt w2 b (m * sz) ((arr.toList.drop (m * sz)).take sz) := by
      intro k u hk
      have hb2 : w2.heap[b]? = some (.cells arr T (lo, hi)) := by rw [hk2.block b (Array.getElem?_eq_some_iff.1 hb).1 (by simp)]; exact hb
      rw [List.getElem?_take] at hk
      split at hk
      · rw [List.getElem?_drop] at hk
        simp [World.cell?, hb2]; simpa using hk
      · cases hk
    have := hl w2 hrow
    simp [execOp, hop, Instr.loadAt, hu, Instr.sureAddr, this]

end
end Go.Av

/- Slices of the call's own: made, appended to, written. -/
namespace Go.Av
open Go Go.RowKit

/-- The cells of an own slice. -/
def OwnCells (w : World) (v : Value) (n : Nat) (vals : List Value) (sz : Nat) (Bs : List Nat) (ex : Bool) : Prop :=
  (∃ A, v = .slice A 0 0 ∧ n = 0 ∧ vals = [] ∧ Bs = []) ∨
  ∃ b c arr T lo hi, v = .slice (some ⟨b, 0, none⟩) n c ∧ w.heap[b]? = some (.cells arr T (lo, hi)) ∧ ((∀ k, k < arr.size → ¬ (lo ≤ k ∧ k < hi)) ∧ (1 < sz → ¬ (lo ≤ arr.size ∧ arr.size < hi))) ∧ arr.size = c * sz ∧ n ≤ c ∧ c ≤ capMax ∧
    (ex = true → c = n) ∧ arr.toList.take (n * sz) = vals ∧ Bs = [b]

section
variable {w : World} {L : Nat → Prop} {β : Env}

theorem Rel.ownCells {sz : Nat} {ex : Bool} {xs : List AV} {v : Value} {G : List Nat} (h : Rel w L β (.own sz ex xs) v G) :
    ∃ vals Fs Bs, OwnCells w v xs.length vals sz Bs ex ∧ (∀ x ∈ xs, x.cells.length = sz) ∧ vals.length = xs.length * sz ∧
      (∀ (k : Nat) (x : AV) (u : Value), (flatc xs)[k]? = some x → vals[k]? = some u → Rel w L noEnv x u (Fs k)) ∧ G = Bs ++ foots Fs (flatc xs).length := by
  cases h with
  | ownNil _ _ _ A => exact ⟨[], fun _ => [], [], .inl ⟨A, rfl, rfl, rfl, rfl⟩, by simp, by simp, by simp [flatc], by simp [flatc, foots]⟩
  | own _ _ _ _ b c arr T lo hi Fs hb hfz hs hz hr hc hm he =>
    have hle : xs.length * sz ≤ arr.size := by rw [hs]; exact Nat.mul_le_mul_right _ hc
    refine ⟨arr.toList.take (xs.length * sz), Fs, [b], .inr ⟨b, c, arr, T, lo, hi, rfl, hb, hfz, hs, hc, hm, he, rfl, rfl⟩, hz, by simp; omega, ?_, rfl⟩
    intro k x u hx hu
    refine hr k x u hx ?_
    rw [List.getElem?_take] at hu
    split at hu
    · simpa using hu
    · cases hu

theorem OwnCells.rel {sz n : Nat} {ex : Bool} {xs : List AV} {v : Value} {vals : List Value} {Fs : Nat → List Nat} {Bs : List Nat} (h : OwnCells w v n vals sz Bs ex) (hn : n = xs.length)
    (hz : ∀ x ∈ xs, x.cells.length = sz) (hr : ∀ (k : Nat) (x : AV) (u : Value), (flatc xs)[k]? = some x → vals[k]? = some u → Rel w L noEnv x u (Fs k)) :
    Rel w L β (.own sz ex xs) v (Bs ++ foots Fs (flatc xs).length) := by
  subst hn
  rcases h with ⟨A, rfl, h0, h1, rfl⟩ | ⟨b, c, arr, T, lo, hi, rfl, hb, hfz, hs, hc, hm, he, ht, rfl⟩
  · have : xs = [] := by cases xs; rfl; simp at h0
    subst this
    simp only [flatc, List.flatMap_nil, List.length_nil, foots, List.range_zero, List.append_nil]
    exact .ownNil _ _ _ _
  · have hle : xs.length * sz ≤ arr.size := by rw [hs]; exact Nat.mul_le_mul_right _ hc
    refine .own _ _ _ _ _ _ arr T lo hi Fs hb hfz hs hz (fun k x u hx hu => hr k x u hx ?_) hc hm he
    have hk : k < xs.length * sz := by rw [← flatc_length hz]; exact (List.getElem?_eq_some_iff.1 hx).1
    rw [← ht, List.getElem?_take, if_pos hk]
    simpa using hu

theorem zero_run' {P : Program} {t : TypeId} {i : TI} (h : TyOk P t i) : ∃ j z, P.info? t = some j ∧ j.zero = some z ∧ j.size = i.sz ∧ j.bytes = i.by' ∧ z.cells.toList = i.zero := by
  obtain ⟨j, hj, he⟩ := Option.map_eq_some_iff.1 h.info
  simp only [Prod.mk.injEq] at he
  obtain ⟨z, hz, hc⟩ := Option.map_eq_some_iff.1 he.2.2
  exact ⟨j, z, hj, hz, he.1, he.2.1, hc⟩

theorem append_run {P : Program} {t u ty e : TypeId} {ti : TI} {du : TypeDesc} (ht : P.underlying t = some (.slice e)) (hu : P.underlying u = some du) (hdu : ∀ k, du ≠ .int k) (hte : TyOk P e ti)
    (hzl : ti.zero.length = ti.sz) {s x : Value} {n m : Nat} {vals news : List Value} {Bs : List Nat} {ex : Bool} (ho : OwnCells w s n vals ti.sz Bs ex)
    (hlen : ∀ w', (Builtin.lenOf x).run P w' = .ok m w') (hnews : ∀ w', w'.heap = w.heap → (Builtin.firstCells ti.sz m x).run P w' = .ok news.toArray w')
    (hl : news.length = m * ti.sz) (h1 : ∀ c ∈ news, c.oneCell' = true) (hb : (n + m) * ti.by' ≤ 140737488355328) (hn : n + m ≤ capMax) :
    ∃ v' w' Bs', (Builtin.append_ #[t, u] ty #[s, x]).run P w = .ok v' w' ∧ OwnCells w' v' (n + m) (vals ++ news) ti.sz Bs' false ∧ Kp Bs w w' ∧ (Bs' = Bs ∨ ∃ b, Bs' = [b] ∧ w.heap.size ≤ b) := by
  obtain ⟨j, z, hj, hz, hjs, hjb, hzc⟩ := zero_run' hte
  have hzero : ((do pure ((← underlying u) matches .int _) : Sem Bool)).run P w = .ok false w := by
    simp only [Sem.run_bind, run_underlying hu, Result.andThen_ok]
    cases du <;> first | rfl | exact absurd rfl (hdu _)
  have hzero' : (match du with | .int _ => true | _ => false) = false := by cases du <;> first | rfl | exact absurd rfl (hdu _)
  have hvl : vals.length = n * ti.sz := by
    rcases ho with ⟨A, rfl, rfl, rfl, _⟩ | ⟨b, c, arr, T, lo, hi, rfl, hbb, hfz, hs, hc, hm, he, htk, _⟩
    · simp
    · rw [← htk, List.length_take, Array.length_toList, hs]; exact Nat.min_eq_left (Nat.mul_le_mul_right _ hc)
  have hzsz : z.cells.size = ti.sz := by rw [← hzl, ← hzc]; simp
  -- a new row
  have grow : ∀ (old cap : Nat) (olds : List Value) (base : Option Addr), s = .slice base n old → vals = olds → old < n + m →
      (∀ w', w'.heap = w.heap → (Builtin.firstCells ti.sz n s).run P w' = .ok olds.toArray w') →
      ∃ v' w' Bs', (Builtin.append_ #[t, u] ty #[s, x]).run P w = .ok v' w' ∧ OwnCells w' v' (n + m) (vals ++ news) ti.sz Bs' false ∧ Kp Bs w w' ∧ (Bs' = Bs ∨ ∃ b, Bs' = [b] ∧ w.heap.size ≤ b) := by
    rintro old cap olds base rfl rfl ho' hfo
    have h1' : ¬ (n + m ≤ old) := by omega
    have h63 : ¬ (9223372036854775807 < ((n : Int) + (m : Int))) := by simp only [capMax] at hn; omega
    have hfit := growslice_fits (bytes := ti.by') ho' hb
    have h48 : ¬ (281474976710656 < Builtin.nextslicecap (n + m) old * ti.by') := by omega
    have hf := hnews w.drew rfl
    have hfo := hfo w.drew rfl
    have hcap := grownCap_ge w (n + m) old e
    have hcm := grownCap_le_maxLen w (n + m) old e (by simpa [maxLen, capMax] using hn)
    refine ⟨.slice (some ⟨w.heap.size, 0, none⟩) (n + m) (grownCap w (n + m) old e),
      w.drew.alloc (.cells (vals.toArray ++ news.toArray ++ Builtin.zeroCells z.cells (grownCap w (n + m) old e - (n + m))) e), [w.heap.size], ?_, ?_, ?_, .inr ⟨_, rfl, Nat.le_refl _⟩⟩
    · simp [Builtin.append_, run_underlying ht, run_underlying hu, hzero', sizeOf, typeInfo, zeroValue, hj, hz, hjs, hjb, hlen, h1', h63, h48, Question.forced, hf, hfo, newRow, grownCap]
      congr 2
      apply Array.ext'
      simp
    · refine .inr ⟨w.heap.size, grownCap w (n + m) old e, _, e, 0, 0, rfl, heap_alloc_new w.drew _, ⟨by intro k _ h; omega, fun _ h => by omega⟩, ?_, hcap, by simpa [maxLen, capMax] using hcm, (fun h => by cases h), ?_, rfl⟩
      · simp only [Array.size_append, List.size_toArray, size_zeroCells, hzsz, hvl, hl, ← Nat.add_mul]
        congr 1
        omega
      · simp only [Array.toList_append]
        rw [show (n + m) * ti.sz = (vals ++ news).length by rw [List.length_append, hvl, hl, Nat.add_mul]]
        exact List.take_left
    · exact ⟨rfl, rfl, rfl, by simp, fun k hk _ => Below.heap_alloc w.drew _ k hk⟩
  rcases ho with ⟨A, rfl, rfl, rfl, rfl⟩ | ⟨b, c, arr, T, lo, hi, rfl, hbb, hfz, hs, hc, hm, he, htk, rfl⟩
  · by_cases hm0 : m = 0
    · subst hm0
      have hnn : news = [] := List.eq_nil_of_length_eq_zero (by simpa using hl)
      subst hnn
      have hf := hnews w rfl
      refine ⟨.slice A 0 0, w, [], ?_, .inl ⟨A, rfl, rfl, rfl, rfl⟩, Kp.refl _ _, .inl rfl⟩
      cases A with
      | none => simp [Builtin.append_, run_underlying ht, run_underlying hu, hzero', sizeOf, typeInfo, hj, hjs, hlen, hf]
      | some a => simp [Builtin.append_, run_underlying ht, run_underlying hu, hzero', sizeOf, typeInfo, hj, hjs, hlen, hf, storeCells]
    · refine grow 0 0 [] A rfl rfl (by omega) fun w' _ => ?_
      cases A with
      | none => rfl
      | some a => simp [Builtin.firstCells, loadCells, loadCellsFrom]
  · by_cases hroom : n + m ≤ c
    · have hf := hnews w rfl
      have hfit : n * ti.sz + news.length ≤ arr.size := by rw [hl, hs, ← Nat.add_mul]; exact Nat.mul_le_mul_right _ hroom
      have hst := run_storeCells_cells (P := P) b (n * ti.sz) news 0 w (fun k hk => by
        have hk' : n * ti.sz + 0 + k < arr.size := by omega
        simp only [World.cell?, hbb]
        simp only [Option.isSome_none, Bool.false_eq_true, if_false]
        rw [Array.getElem?_eq_getElem hk']; rfl) (fun k hk => by
        have := hfz.1 (n * ti.sz + 0 + k) (by omega)
        simp only [World.frozen?, hbb]
        simp only [Bool.and_eq_false_iff, decide_eq_false_iff_not]
        omega) h1
      simp only [Nat.add_zero] at hst
      refine ⟨.slice (some ⟨b, 0, none⟩) (n + m) c, w.setCells b (n * ti.sz) news, [b], ?_, .inr ⟨b, c, _, T, lo, hi, rfl, heap_setCells b T (lo, hi) _ _ _ _ hbb, by rw [size_arrSet]; exact hfz, by rw [size_arrSet]; exact hs, hroom, hm, (fun h => by cases h), ?_, rfl⟩, kp_setCells b _ _ _, .inl rfl⟩
      · simp [Builtin.append_, run_underlying ht, run_underlying hu, hzero', sizeOf, typeInfo, hj, hjs, hlen, hroom, hf, addr_add, hst]
      · refine List.ext_getElem? fun k => ?_
        rw [List.getElem?_take]
        by_cases hk : k < (n + m) * ti.sz
        · rw [if_pos hk]
          have hga := get_arrSet arr (n * ti.sz) news hfit k
          rw [Array.getElem?_toList, hga]
          rw [Nat.add_mul] at hk
          by_cases hk2 : k < n * ti.sz
          · rw [if_neg (by omega), List.getElem?_append_left (by omega), ← htk, List.getElem?_take, if_pos hk2]
            simp
          · rw [if_pos (by omega), List.getElem?_append_right (by omega), hvl]
        · rw [if_neg hk]
          symm
          rw [List.getElem?_eq_none_iff, List.length_append, hvl, hl, ← Nat.add_mul]
          omega
    · refine grow c c vals (some ⟨b, 0, none⟩) rfl rfl (by omega) fun w' hw' => ?_
      refine run_firstCells_some (P := P) w' ti.sz n ⟨b, 0, none⟩ n c vals hvl fun k v hk => ?_
      rw [addr_add]
      rw [← htk, List.getElem?_take] at hk
      split at hk
      · simp [World.cell?, hw', hbb]; simpa using hk
      · cases hk

theorem flatc_append (xs ys : List AV) : flatc (xs ++ ys) = flatc xs ++ flatc ys := by simp [flatc]

end

section
variable {X : Fx} {g : Gx} {st : St} {a : Act} {w w' : World} {β : Env} {F : Key → List Nat} {L : Nat → Prop} {k : List Item}
variable {ops : Array Oper} {i : Nat} {rest : List Nat} {o : Oper}

/-- An own slice has been made (or has grown): what is known behind it. -/
theorem Inv.made (h : Inv X g st a w β F L) {d sz n : Nat} {ex : Bool} {zs : List AV} {v : Value} {vals : List Value} {Hs : Nat → List Nat} {Bs Bs' : List Nat}
    (hFL : ∀ k b, b ∈ F k → L b) (hL0 : ∀ b, g.L0 b → L b) (hk : Kp Bs w w') (hBs : ∀ b ∈ Bs, L b ∧ (∀ k, b ∉ F k) ∧ (b ∈ g.F0 ∨ g.w0.heap.size ≤ b))
    (hB' : Bs' = Bs ∨ ∃ b, Bs' = [b] ∧ w.heap.size ≤ b) (hBn : Bs.Nodup)
    (ho : OwnCells w' v n vals sz Bs' ex) (hn : n = zs.length) (hz : ∀ x ∈ zs, x.cells.length = sz)
    (hr : ∀ (k : Nat) (x : AV) (u : Value), (flatc zs)[k]? = some x → vals[k]? = some u → Rel w L noEnv x u (Hs k))
    (hHn : (foots Hs (flatc zs).length).Nodup) (hH : ∀ b ∈ foots Hs (flatc zs).length, L b ∧ b ∉ Bs ∧ (∀ k, b ∉ F k) ∧ (b ∈ g.F0 ∨ g.w0.heap.size ≤ b) ∧ b < w.heap.size)
    (hd : d < X.fn.ntmps) (hp : d ∉ X.pins) : SR X g (st.put d (.own sz ex zs)) (a.put (some d) v) w' := by
  let L2 : Nat → Prop := fun b => L b ∨ b ∈ Bs'
  have hnew : ∀ b ∈ Bs', b ∈ Bs ∨ w.heap.size ≤ b := by
    intro b hb
    rcases hB' with rfl | ⟨c, rfl, hc⟩
    · exact .inl hb
    · simp at hb; subst hb; exact .inr hc
  have hLL : ∀ b, b < w.heap.size → L2 b → L b := by
    rintro b hb (h | h)
    · exact h
    · rcases hnew b h with h | h
      · exact (hBs b h).1
      · omega
  have hw : ∀ b, b < w.heap.size → ¬ (b ∈ Bs) → w'.heap[b]? = w.heap[b]? := hk.block
  have h1 : Inv X g st a w' β F L2 := h.world (M := fun b => b ∈ Bs) (h.kp.trans hk (fun b hb => (hBs b hb).2.2)) hw (fun b hb => (hBs b hb).1) hLL (fun k b hb hb' => (hBs b hb').2.1 k hb)
  have hB'n : Bs'.Nodup := by rcases hB' with rfl | ⟨c, rfl, _⟩; exact hBn; simp
  have hR : Rel w' L2 β (.own sz ex zs) v (Bs' ++ foots Hs (flatc zs).length) := ho.rel hn hz fun k x u hx hu =>
    (hr k x u hx hu).keep hw (fun b hb => (hBs b hb).1) hLL fun b hb => (hH b (foots_sub (List.getElem?_eq_some_iff.1 hx).1 hb)).2.1
  have hnd : (Bs' ++ foots Hs (flatc zs).length).Nodup := by
    rw [List.nodup_append]
    refine ⟨hB'n, hHn, ?_⟩
    rintro b hb c hc rfl
    rcases hnew b hb with h | h
    · exact (hH b hc).2.1 h
    · have := (hH b hc).2.2.2.2; omega
  have h2 := h1.put hd hp hR hnd (by
    intro k _ b hb hb'
    rcases List.mem_append.1 hb with hb | hb
    · rcases hnew b hb with h' | h'
      · exact (hBs b h').2.1 k hb'
      · have := h.lt k b hb'; omega
    · exact (hH b hb).2.2.1 k hb') (by
    intro b hb
    rcases List.mem_append.1 hb with hb | hb
    · rcases hnew b hb with h' | h'
      · exact (hBs b h').2.2
      · exact .inr (Nat.le_trans h.kp.size h')
    · exact (hH b hb).2.2.2.1)
  refine ⟨_, _, h2.setL fun b _ hb => ?_⟩
  refine Lv_sub (L := L2) hb (fun k hk => ?_) (fun h => .inl (hL0 b h))
  by_cases e : k = .s d
  · subst e
    rw [updF_same] at hk
    rcases List.mem_append.1 hk with hk | hk
    · exact .inr hk
    · exact .inl (hH b hk).1
  · rw [updF_ne _ e] at hk; exact .inl (hFL k b hk)

def zel (ti : TI) : AV := bif isAggD ti.ud then .agg (ti.zero.map .lit) else match ti.zero with
  | [v] => .lit v
  | _ => .top

theorem make_run {P : Program} {t e : TypeId} {j : TypeInfo} {z : Value} {N : Int} {kk kk' : IntKind} (hs : (underlying t).run P w = .ok (.slice e) w) (hj : P.info? e = some j) (hz0 : j.zero = some z)
    (hN : IntKind.i64.wrap N = N) (h0 : 0 ≤ N) (hb : (j.bytes : Int) * N ≤ 281474976710656) :
    (Instr.makeSlice t (.int kk N) (.int kk' N)).run P w = .ok (.slice (some ⟨w.heap.size, 0, none⟩) N.toNat N.toNat) (w.alloc (.cells ((Array.range (N.toNat * j.size)).map (z.cells[· % z.cells.size]!)) e)) := by
  have hn0 : ¬ (N < 0) := by omega
  have hb' : ¬ (281474976710656 < (j.bytes : Int) * N) := by omega
  by_cases hn00 : N.toNat * j.size = 0
  · have hr0 : ∀ f : Nat → Value, (Array.range 0).map f = #[] := fun f => Array.eq_empty_of_size_eq_zero (by simp)
    rcases Nat.mul_eq_zero.1 hn00 with h | h
    · have h3 : N ≤ 0 := by omega
      simp [Instr.makeSlice, hs, asInt, asIntOf, typeInfo, hj, hN, sizeOf, hn0, hb', newRow, h, h3]
      rw [hr0, hr0]
    · simp [Instr.makeSlice, hs, asInt, asIntOf, typeInfo, hj, hN, sizeOf, hn0, hb', newRow, h]
      rw [hr0, hr0]
  · simp only [Instr.makeSlice, Sem.run_bind, hs, Result.andThen_ok, asInt, asIntOf, Sem.run_pure, typeInfo, run_program, hj, hN, sizeOf]
    have h1 : ¬ N.toNat = 0 := fun h => hn00 (by rw [h, Nat.zero_mul])
    have h2 : ¬ j.size = 0 := fun h => hn00 (by rw [h, Nat.mul_zero])
    have h3 : ¬ N ≤ 0 := by omega
    simp [hn0, hb', newRow, hn00, h1, h2, h3, zeroValue, typeInfo, hj, hz0]

/-- 'make' of a slice. -/
theorem Run.make {d t e : Nat} {ti : TI} {x y : Operand} {kk kk' : IntKind} {n : Nat} (ho : ops[i]? = some o) (hg : guardOf ops st o = some true) (hd : o.dst = some d)
    (hop : o.op = .makeSlice t x y) (hT : sliceAt X.T t = some (e, ti)) (hx : st.ev x = .lit (.int kk (n : Int))) (hy : st.ev y = .lit (.int kk' (n : Int)))
    (hz : (zel ti).cells = ti.zero.map .lit) (hzl : Nat.beq ti.zero.length ti.sz = true) (hpos : Nat.blt 0 ti.sz = true) (hn : n ≤ 140737488355328) (hb : n * ti.by' ≤ 281474976710656)
    (hdn : (Nat.blt d X.fn.ntmps && !(X.pins.contains d)) = true)
    (h : Run X g (.inRegion ops rest :: k) (st.put d (.own ti.sz true (List.replicate n (zel ti))))) : Run X g (.inRegion ops (i :: rest) :: k) st := by
  simp only [Bool.and_eq_true, Bool.not_eq_true'] at hdn
  refine Run.op ho (fun a w hI => guardOf_ok hg a w hI) ?_ h
  rintro hX a w ⟨β, F, hI⟩
  obtain ⟨i', h1, h2, h3⟩ := sliceAt_ok hX hT
  obtain ⟨j, z, hj, hz0, hjs, hjb, hzc⟩ := zero_run' h3
  have hzl' := Nat.eq_of_beq_eq_true hzl
  have hpos' := blt_lt hpos
  have hs := un_run h1 w
  rw [h2] at hs
  have hw1 : IntKind.i64.wrap (n : Int) = n := by
    have e : IntKind.i64.wrap (n : Int) = if (n : Int) % 18446744073709551616 ≥ 9223372036854775808 then (n : Int) % 18446744073709551616 - 18446744073709551616 else (n : Int) % 18446744073709551616 := by
      simp [IntKind.wrap, IntKind.bits, IntKind.signed]
    rw [e]; split <;> omega
  have hbi : (j.bytes : Int) * (n : Int) ≤ 281474976710656 := by
    rw [hjb]
    rw [Nat.mul_comm] at hb
    have h2 : ((ti.by' * n : Nat) : Int) ≤ ((281474976710656 : Nat) : Int) := Int.ofNat_le.2 hb
    rw [Int.natCast_mul] at h2
    exact h2
  let arr : Array Value := (Array.range (n * ti.sz)).map (z.cells[· % z.cells.size]!)
  have harr : arr.size = n * ti.sz := by simp [arr]
  have hzsz : z.cells.size = ti.sz := by rw [← hzl', ← hzc]; simp
  have hrun : (execOp a.eval o).run X.P w = .ok (.value (.slice (some ⟨w.heap.size, 0, none⟩) n n)) (w.alloc (.cells arr e)) := by
    have := make_run (kk := kk) (kk' := kk') hs hj hz0 hw1 (by omega) hbi
    rw [hjs] at this
    simp only [execOp, hop, ev_lit hI hx, ev_lit hI hy, Sem.run_bind, this, Result.andThen_ok]
    rfl
  refine ⟨_, _, .inl hrun, ?_⟩
  rw [hd]
  have hlen : (flatc (List.replicate n (zel ti))).length = n * ti.sz := by
    rw [flatc_length (sz := ti.sz)]
    · simp
    · intro x hx; rw [(List.mem_replicate.1 hx).2, hz]; simpa using hzl'
  refine hI.made (L := Lv g F) (n := n) (vals := arr.toList) (Hs := fun _ => []) (Bs := []) (Bs' := [w.heap.size]) (fun k b hb => Lv_of hb) (fun b hb => .inl hb) (Kp.alloc _ _ _) (by simp) (.inr ⟨_, rfl, Nat.le_refl _⟩) (by simp) ?_ (by simp) ?_ ?_ ?_ ?_ (blt_lt hdn.1) (contains_iff hdn.2)
  · exact .inr ⟨w.heap.size, n, arr, e, 0, 0, rfl, heap_alloc_new w _, ⟨by intro k _ h; omega, fun _ h => by omega⟩, harr, Nat.le_refl _, by simp only [capMax]; omega, fun _ => rfl, by rw [← harr, ← Array.length_toList, List.take_length], rfl⟩
  · intro x hx; rw [(List.mem_replicate.1 hx).2, hz]; simpa using hzl'
  · intro k x u hx hu
    have hk : k < n * ti.sz := by rw [← hlen]; exact (List.getElem?_eq_some_iff.1 hx).1
    have hel : ∃ q r, k = q * ti.sz + r ∧ r < ti.sz ∧ q < n := ⟨k / ti.sz, k % ti.sz, by rw [Nat.mul_comm]; exact (Nat.div_add_mod _ _).symm, Nat.mod_lt _ hpos', Nat.div_lt_of_lt_mul (by rw [Nat.mul_comm]; exact hk)⟩
    obtain ⟨q, r, rfl, hr, hq⟩ := hel
    have hxr : (flatc (List.replicate n (zel ti)))[q * ti.sz + r]? = (zel ti).cells[r]? :=
      elem_cells (sz := ti.sz) (by intro x hx; rw [(List.mem_replicate.1 hx).2, hz]; simpa using hzl') (by simp [hq]) r hr
    rw [hxr, hz, List.getElem?_map] at hx
    obtain ⟨zv, hzv, rfl⟩ := Option.map_eq_some_iff.1 hx
    have hu' : arr[q * ti.sz + r]? = some u := by simpa using hu
    have : (q * ti.sz + r) % z.cells.size = r := by rw [hzsz, Nat.mul_comm, Nat.mul_add_mod, Nat.mod_eq_of_lt hr]
    simp only [arr, Array.getElem?_map, Array.getElem?_range] at hu'
    rw [if_pos hk] at hu'
    simp only [Option.map_some, Option.some.injEq, this] at hu'
    have hzv' : z.cells[r]? = some zv := by rw [← hzc] at hzv; simpa using hzv
    rw [getElem!_def, hzv'] at hu'
    subst hu'
    exact .lit _ _
  · rw [foots_nil (fun _ _ => rfl)]; simp
  · rw [foots_nil (fun _ _ => rfl)]; simp

/-! ### Stores into an own slice -/

/-- An element, its cells put anew. -/
def reb (y : AV) (cs : List AV) : AV :=
  match y with
  | .agg _ => .agg cs
  | _ => match cs with
    | [c] => c
    | _ => .top

theorem flatc_set {xs : List AV} {sz m : Nat} {y z : AV} (hz : ∀ x ∈ xs, x.cells.length = sz) (hy : xs[m]? = some y) (hzl : z.cells.length = sz) (k : Nat) :
    (flatc (xs.set m z))[k]? = if m * sz ≤ k ∧ k < m * sz + sz then z.cells[k - m * sz]? else (flatc xs)[k]? := by
  have hm : m < xs.length := (List.getElem?_eq_some_iff.1 hy).1
  have e1 : xs.set m z = xs.take m ++ [z] ++ xs.drop (m + 1) := by
    rw [List.set_eq_take_append_cons_drop, if_pos hm]; simp
  have e2 : xs = xs.take m ++ [y] ++ xs.drop (m + 1) := by
    have := List.take_append_drop m xs
    rw [List.drop_eq_getElem_cons hm] at this
    have hy' : xs[m] = y := by rw [List.getElem?_eq_getElem hm] at hy; exact Option.some.inj hy
    rw [hy'] at this
    rw [List.append_assoc]
    exact this.symm
  have l1 : (flatc (xs.take m)).length = m * sz := by
    rw [flatc_length fun x hx => hz x (List.mem_of_mem_take hx), List.length_take, Nat.min_eq_left (by omega)]
  have hyl : y.cells.length = sz := hz y (List.mem_of_getElem? hy)
  have f1 : flatc [z] = z.cells := by simp [flatc]
  have f2 : flatc [y] = y.cells := by simp [flatc]
  have e3 : flatc (xs.set m z) = flatc (xs.take m) ++ z.cells ++ flatc (xs.drop (m + 1)) := by rw [e1, flatc_append, flatc_append, f1]
  have e4 : flatc xs = flatc (xs.take m) ++ y.cells ++ flatc (xs.drop (m + 1)) := by
    conv => lhs; rw [e2]
    rw [flatc_append, flatc_append, f2]
  rw [e3, e4]
  by_cases h1 : k < m * sz
  · rw [if_neg (by omega), List.append_assoc, List.append_assoc, List.getElem?_append_left (by omega), List.getElem?_append_left (by omega)]
  · by_cases h2 : k < m * sz + sz
    · rw [if_pos (by omega), List.getElem?_append_left (by simp; omega), List.getElem?_append_right (by omega), l1]
    · rw [if_neg (by omega), List.getElem?_append_right (by simp; omega), List.getElem?_append_right (by simp; omega)]
      congr 1
      simp [hzl, hyl]

/-- A store of a value that owns nothing into an element of an own slice. -/
theorem SR.storee {t : TypeId} {i : TI} {p x : Operand} {id : Id} {m j sz : Nat} {ex : Bool} {xs : List AV} (y : AV) (hX : X.Ok) (hT : X.T t = some i) (hp : st.ev p = .ep id m j) (ho : st.obj id = .vec sz ex xs)
    (hy : xs[m]? = some y) (hx : (st.ev x).okc = true) (hpl : (st.ev x).pl = true) (hfr : (st.ev x).free = true) (hsz : (st.ev x).cells.length = i.sz) (hj : j + i.sz ≤ y.cells.length)
    (hreb : (reb y (putAt y.cells j (st.ev x).cells)).cells = putAt y.cells j (st.ev x).cells) (h : SR X g st a w) :
    ∃ w', (Instr.storeAt t (a.eval p) (a.eval x)).run X.P w = .ok () w' ∧ SR X g (st.setObj id (.vec sz ex (xs.set m (reb y (putAt y.cells j (st.ev x).cells))))) a w' := by
  obtain ⟨β, F, h⟩ := h
  have hR := ev_rel h p (by rw [hp]; rfl)
  rw [hp] at hR
  have hob := h.obj id
  rw [ho] at hob
  obtain ⟨v, hβ, hown⟩ := hob
  have hm : m < xs.length := (List.getElem?_eq_some_iff.1 hy).1
  generalize a.eval p = up at hR
  cases hR with
  | ep _ _ _ _ b n c sz' hβ' =>
  rw [hβ] at hβ'
  cases hβ'
  obtain ⟨arr, T, lo, hi, Fs, hb, hfz, hs, hz, hr, hn, hc, hcm, he, hG⟩ := own_row hown rfl (by intro e; rw [e] at hm; simp at hm)
  subst hn
  obtain ⟨Gs, hl, hG0, hone, hrx⟩ := (ev_rel h x hpl).cells hx
  have hGs : ∀ k, k < (st.ev x).cells.length → Gs k = [] := by
    intro k hk
    cases hg' : Gs k with
    | nil => rfl
    | cons c r => have : c ∈ foots Gs (st.ev x).cells.length := foots_sub hk (by rw [hg']; simp); rw [← hG0] at this; simp at this
  have hyl : y.cells.length = sz := hz y (List.mem_of_getElem? hy)
  have hms : m * sz + sz ≤ arr.size := by rw [hs, ← Nat.succ_mul]; exact Nat.mul_le_mul_right _ (by omega)
  have ht := hX.ty t i hT
  have hrun := store_run (P := X.P) (o := m * sz + j) ht hb hfz.1 (u := a.eval x) (by omega) (by omega) hone
  refine ⟨_, by simpa [Instr.storeAt, Instr.sureAddr] using hrun, ?_⟩
  generalize hus : (a.eval x).cells = us at *
  have hcl : (st.ev x).cells.length = us.size := hl
  have hxfree : ∀ (k : Nat) (z : AV), (st.ev x).cells[k]? = some z → z.free = true := by
    intro k z hz'
    revert hz' hfr
    generalize st.ev x = ex
    intro hfr hz'
    cases ex <;> simp only [AV.cells] at hz' <;> first
      | (cases k with
         | zero => simp at hz'; subst hz'; exact hfr
         | succ k => simp at hz')
      | exact AV.freeL_get (by simpa [AV.free] using hfr) k z hz'
  have hbF : b ∈ F (.o id) := by rw [hG]; simp
  have hbr := h.range _ b hbF
  have hnd := h.sep.nodup (.o id)
  rw [hG] at hnd
  have hb2 : (w.setCells b (m * sz + j) us.toList).heap[b]? = some (.cells (arrSet arr (m * sz + j) us.toList) T (lo, hi)) := heap_setCells b T (lo, hi) _ _ _ _ hb
  let Fs2 : Nat → List Nat := fun k => if m * sz + j ≤ k ∧ k < m * sz + j + i.sz then [] else Fs k
  let y' := reb y (putAt y.cells j (st.ev x).cells)
  have hy'c : y'.cells = putAt y.cells j (st.ev x).cells := hreb
  have hy'l : y'.cells.length = sz := by rw [hy'c, putAt_length _ _ _ (by omega), hyl]
  have hz2 : ∀ x ∈ xs.set m y', x.cells.length = sz := by
    intro z hz'
    rcases List.mem_or_eq_of_mem_set hz' with h' | h'
    · exact hz z h'
    · rw [h']; exact hy'l
  have hlen2 : (flatc (xs.set m y')).length = (flatc xs).length := by rw [flatc_length hz2, flatc_length hz, List.length_set]
  have hsub : ∀ c, c ∈ foots Fs2 (flatc xs).length → c ∈ foots Fs (flatc xs).length := by
    intro c hc
    obtain ⟨k, hk, hc⟩ := mem_foots.1 hc
    simp only [Fs2] at hc
    split at hc
    · simp at hc
    · exact foots_sub hk hc
  have hw : ∀ c, c < w.heap.size → ¬ (c = b) → (w.setCells b (m * sz + j) us.toList).heap[c]? = w.heap[c]? := fun c _ hc => heap_setCells_ne b c hc _ _ _
  have hkeep : ∀ {γ y v G}, Rel w (Lv g F) γ y v G → (∀ c ∈ G, c ≠ b) → Rel (w.setCells b (m * sz + j) us.toList) (Lv g F) γ y v G := fun hr hG =>
    hr.keep hw (fun c hc => by subst hc; exact Lv_of hbF) (fun _ _ h => h) hG
  have h1 : Inv X g (st.setObj id .gone) a w β (updF F (.o id) []) (Lv g F) := h.setOb id .gone rfl (by simp) (by simp) (by simp)
  have h2 : Inv X g (st.setObj id .gone) a (w.setCells b (m * sz + j) us.toList) β (updF F (.o id) []) (Lv g F) := by
    refine h1.world (M := fun c => c = b) (h.kp.trans (kp_setCells b _ _ _) (by simpa using hbr)) hw (fun c hc => by subst hc; exact Lv_of hbF) (fun _ _ h => h) ?_
    rintro k c hc rfl
    by_cases e : k = .o id
    · subst e; rw [updF_same] at hc; simp at hc
    · rw [updF_ne _ e] at hc; exact h.sep.apart _ _ c e hc hbF
  have hrel : Rel (w.setCells b (m * sz + j) us.toList) (Lv g F) β (.own sz ex (xs.set m y')) (.slice (some ⟨b, 0, none⟩) (xs.set m y').length c) (b :: foots Fs2 (flatc (xs.set m y')).length) := by
    refine .own _ _ _ _ _ _ _ T lo hi Fs2 hb2 (by rw [size_arrSet]; exact hfz) (by rw [size_arrSet]; exact hs) hz2 (fun k z u hz' hu => ?_) (by simpa using hc) hcm (by simpa using he)
    rw [flatc_set hz hy hy'l, hy'c] at hz'
    rw [get_arrSet _ _ _ (by simp; omega)] at hu
    simp only [Array.length_toList] at hu
    by_cases hk : m * sz + j ≤ k ∧ k < m * sz + j + i.sz
    · rw [if_pos (by omega)] at hz'
      rw [putAt_get _ _ _ (by omega), if_pos (by omega)] at hz'
      rw [if_pos (by omega)] at hu
      simp only [Fs2, if_pos hk]
      have hkk : k - m * sz - j = k - (m * sz + j) := by omega
      rw [hkk] at hz'
      have := hrx (k - (m * sz + j)) z u hz' (by simpa using hu)
      rw [hGs _ (by omega)] at this
      exact hkeep (this.env noEnv (hxfree _ _ hz')) (by simp)
    · rw [if_neg (by omega)] at hu
      simp only [Fs2, if_neg hk]
      have hz'' : (flatc xs)[k]? = some z := by
        by_cases hk2 : m * sz ≤ k ∧ k < m * sz + sz
        · rw [if_pos hk2, putAt_get _ _ _ (by omega), if_neg (by omega)] at hz'
          have := elem_cells hz hy (k - m * sz) (by omega)
          rw [show m * sz + (k - m * sz) = k by omega] at this
          rw [this]; exact hz'
        · rw [if_neg hk2] at hz'; exact hz'
      refine hkeep (hr k z u hz'' hu) ?_
      rintro c hc rfl
      exact (List.nodup_cons.1 hnd).1 (foots_sub (List.getElem?_eq_some_iff.1 hz'').1 hc)
  rw [List.length_set, hlen2] at hrel
  have h3 := h2.setOb id (.vec sz ex (xs.set m y')) (G := b :: foots Fs2 (flatc xs).length) ⟨_, hβ, hrel⟩ (by
    refine List.nodup_cons.2 ⟨fun hm => (List.nodup_cons.1 hnd).1 (hsub _ hm), ?_⟩
    have := foots_nodup (List.nodup_cons.1 hnd).2
    refine nodup_foots fun k hk => ⟨?_, fun k' hk' hne c hc hc' => ?_⟩
    · simp only [Fs2]; split; simp; exact (this k hk).1
    · simp only [Fs2] at hc hc'
      split at hc
      · simp at hc
      · split at hc'
        · simp at hc'
        · exact (this k hk).2 k' hk' hne c hc hc') (by
    intro k hk c hc hc'
    rw [updF_ne _ hk] at hc'
    refine h.sep.apart _ _ c hk hc' ?_
    rw [hG]
    rcases List.mem_cons.1 hc with rfl | hc
    · simp
    · exact List.mem_cons_of_mem _ (hsub c hc)) (by
    intro c hc
    refine h.range (.o id) c ?_
    rw [hG]
    rcases List.mem_cons.1 hc with rfl | hc
    · simp
    · exact List.mem_cons_of_mem _ (hsub c hc))
  have h4 : SR X g ((st.setObj id .gone).setObj id (.vec sz ex (xs.set m y'))) a (w.setCells b (m * sz + j) us.toList) := by
    refine ⟨_, _, h3.setL fun c _ hc => ?_⟩
    refine Lv_sub hc (fun k hk => ?_) .inl
    by_cases e : k = .o id
    · subst e
      rw [updF_same] at hk
      refine Lv_of (k := .o id) ?_
      rw [hG]
      rcases List.mem_cons.1 hk with rfl | hk
      · simp
      · exact List.mem_cons_of_mem _ (hsub c hk)
    · rw [updF_ne _ e, updF_ne _ e] at hk; exact Lv_of hk
  have hle : St.Le (st.setObj id (.vec sz ex (xs.set m y'))) ((st.setObj id .gone).setObj id (.vec sz ex (xs.set m y'))) :=
    ⟨fun d => .inr rfl, fun id' => .inr (by
      rw [St.obj_setObj, St.obj_setObj, St.obj_setObj]
      by_cases e : id = id' <;> simp [e])⟩
  exact h4.le hle

/-- .. as a step. -/
theorem Run.storee {t : TypeId} {ti : TI} {p x : Operand} {id : Id} {m j sz : Nat} {ex : Bool} {xs : List AV} (y y' : AV) (ho : ops[i]? = some o) (hg : guardOf ops st o = some true) (hd : o.dst = none)
    (hop : o.op = .store t p x) (hT : X.T t = some ti) (hp : st.ev p = .ep id m j) (hob : st.obj id = .vec sz ex xs) (hy : xs[m]? = some y)
    (hc : ((st.ev x).okc && (st.ev x).pl && (st.ev x).free && Nat.beq (st.ev x).cells.length ti.sz && Nat.ble (j + ti.sz) y.cells.length) = true)
    (hreb : (reb y (putAt y.cells j (st.ev x).cells)).cells = putAt y.cells j (st.ev x).cells) (hy' : reb y (putAt y.cells j (st.ev x).cells) = y')
    (h : Run X g (.inRegion ops rest :: k) (st.setObj id (.vec sz ex (xs.set m y')))) : Run X g (.inRegion ops (i :: rest) :: k) st := by
  subst hy'
  simp only [Bool.and_eq_true] at hc
  obtain ⟨⟨⟨⟨h1, h2⟩, h3⟩, h4⟩, h5⟩ := hc
  refine Run.op ho (fun a w hI => guardOf_ok hg a w hI) ?_ h
  intro hX a w hI
  obtain ⟨w', hu, hI'⟩ := hI.storee y hX hT hp hob hy h1 h2 h3 (Nat.eq_of_beq_eq_true h4) (Nat.le_of_ble_eq_true h5) hreb
  refine ⟨undef, w', .inr ⟨?_, rfl⟩, by rw [hd]; exact hI'⟩
  simp [execOp, hop, hu]

end
end Go.Av

/- Values that own something go from slot to slot. -/
namespace Go.Av
open Go Go.RowKit

section
variable {X : Fx} {g : Gx} {st : St} {a : Act} {w w' : World} {β : Env} {F : Key → List Nat} {L : Nat → Prop} {k : List Item}
variable {ops : Array Oper} {i : Nat} {rest : List Nat} {o : Oper}

/-- The value in a slot is known otherwise; it owns no more than it did. -/
theorem Inv.conv (h : Inv X g st a w β F L) {d : Nat} {v : AV} {u : Value} {G : List Nat} (hu : a.tmps[d]? = some u ∨ v = .top) (hr : Rel w L β v u G) (hG : ∀ b ∈ G, b ∈ F (.s d)) (hn : G.Nodup) :
    Inv X g (st.put d v) a w β (updF F (.s d) G) L := by
  have sub : ∀ k b, b ∈ updF F (.s d) G k → b ∈ F k := by
    intro k b hb
    by_cases e : k = .s d
    · subst e; rw [updF_same] at hb; exact hG b hb
    · rw [updF_ne _ e] at hb; exact hb
  refine ⟨h.defers, h.size, h.kp, ⟨fun k => ?_, fun k k' b hne hb hb' => h.sep.apart k k' b hne (sub _ _ hb) (sub _ _ hb')⟩, fun k b hb => h.range k b (sub _ _ hb), fun j => ?_, fun id => ?_, h.pin⟩
  · by_cases e : k = .s d
    · subst e; rw [updF_same]; exact hn
    · rw [updF_ne _ e]; exact h.sep.nodup k
  · rw [St.get_put]
    by_cases hj : d = j
    · subst hj
      rw [if_pos rfl, updF_same]
      exact ⟨u, hu, hr⟩
    · rw [if_neg hj, updF_ne _ (by intro e; injection e with e; exact hj e.symm)]
      exact h.slot j
  · rw [St.obj_put, updF_ne _ (by intro e; cases e)]
    exact h.obj id

theorem Inv.slotget (h : Inv X g st a w β F L) {d : Nat} (hd : st.get d ≠ .top) : a.tmps[d]? = some (a.tmps.getD d undef) := by
  obtain ⟨u, hu, _⟩ := h.slot d
  have := hu.resolve_right hd
  rw [Array.getD_eq_getD_getElem?, this]; rfl

/-- 'd := s': the value goes over. -/
theorem SR.take {s d : Nat} (hs : st.get s ≠ .top) (hsd : s ≠ d) (hd : d < X.fn.ntmps) (hp : d ∉ X.pins) (h : SR X g st a w) :
    SR X g ((st.put s .top).put d (st.get s)) (a.put (some d) (a.tmps.getD s undef)) w := by
  obtain ⟨β, F, h⟩ := h
  have hr := h.slotv hs
  refine ⟨β, _, (((h.drop s).put hd hp hr (h.sep.nodup _) ?_ (fun b hb => h.range _ b hb))).setL fun b _ hb => ?_⟩
  · intro k hk b hb hb'
    by_cases e : k = .s s
    · subst e; rw [updF_same] at hb'; simp at hb'
    · rw [updF_ne _ e] at hb'; exact h.sep.apart _ _ b (Ne.symm e) hb hb'
  · refine Lv_sub hb (fun k hk => ?_) .inl
    by_cases e : k = .s d
    · subst e; rw [updF_same] at hk; exact Lv_of hk
    · rw [updF_ne _ e] at hk
      by_cases e2 : k = .s s
      · subst e2; rw [updF_same] at hk; simp at hk
      · rw [updF_ne _ e2] at hk; exact Lv_of hk

/-- A component of a tuple goes over. -/
theorem SR.takeTup {s d j : Nat} {vs : List AV} {x : AV} (hs : st.get s = .tup vs) (hj : vs[j]? = some x) (hsd : s ≠ d) (hd : d < X.fn.ntmps) (hp : d ∉ X.pins) (h : SR X g st a w) :
    ∃ u, (Instr.extract (a.tmps.getD s undef) j).run X.P w = .ok u w ∧ SR X g ((st.put s (.tup (vs.set j .top))).put d x) (a.put (some d) u) w := by
  obtain ⟨β, F, h⟩ := h
  have hne : st.get s ≠ .top := by rw [hs]; simp
  have hr := h.slotv hne
  rw [hs] at hr
  have hget := h.slotget hne
  generalize a.tmps.getD s undef = u at hr hget
  generalize hF : F (.s s) = G at hr
  cases hr with
  | tup _ _ vals Fs hl hrr =>
  have hj' : j < vs.length := (List.getElem?_eq_some_iff.1 hj).1
  have hjv : j < vals.size := by omega
  have hnd := h.sep.nodup (.s s)
  rw [hF] at hnd
  have hfn := foots_nodup hnd
  let Fs2 : Nat → List Nat := fun k => if k = j then [] else Fs k
  have hsub : ∀ b ∈ foots Fs2 (vs.set j .top).length, b ∈ F (.s s) := by
    intro b hb
    rw [hF]
    obtain ⟨k, hk, hb⟩ := mem_foots.1 hb
    simp only [Fs2] at hb
    split at hb
    · simp at hb
    · exact foots_sub (by simpa using hk) hb
  refine ⟨vals[j], by simp [Instr.extract, Array.getElem?_eq_getElem hjv], ?_⟩
  have h1 := h.conv (d := s) (v := .tup (vs.set j .top)) (u := .tuple vals) (G := foots Fs2 (vs.set j .top).length) (.inl hget) (.tup _ _ _ Fs2 (by simpa using hl) (by
    intro k y c hy hc
    by_cases hk : k = j
    · subst hk
      rw [List.getElem?_set_self hj'] at hy
      cases hy
      simp only [Fs2, if_pos]
      exact .top _ _
    · rw [List.getElem?_set_ne (Ne.symm hk)] at hy
      simp only [Fs2, if_neg hk]
      exact hrr k y c hy hc)) hsub (by
    refine nodup_foots fun k hk => ⟨?_, fun k' hk' hne b hb hb' => ?_⟩
    · simp only [Fs2]; split; simp; exact (hfn k (by simpa using hk)).1
    · simp only [Fs2] at hb hb'
      split at hb
      · simp at hb
      · split at hb'
        · simp at hb'
        · exact (hfn k (by simpa using hk)).2 k' (by simpa using hk') hne b hb hb')
  have hx := hrr j x _ hj (Array.getElem?_eq_getElem hjv)
  refine ⟨β, _, (h1.put hd hp hx (hfn j hj').1 ?_ (fun b hb => h.range (.s s) b (by rw [hF]; exact foots_sub hj' hb))).setL fun b _ hb => ?_⟩
  · intro k hk b hb hb'
    by_cases e : k = .s s
    · subst e
      rw [updF_same] at hb'
      obtain ⟨k', hk', hb'⟩ := mem_foots.1 hb'
      simp only [Fs2] at hb'
      split at hb'
      · simp at hb'
      · rename_i hne'
        exact (hfn j hj').2 k' (by simpa using hk') (Ne.symm hne') b hb hb'
    · rw [updF_ne _ e] at hb'
      exact h.sep.apart _ _ b (Ne.symm e) (by rw [hF]; exact foots_sub hj' hb) hb'
  · refine Lv_sub hb (fun k hk => ?_) .inl
    by_cases e : k = .s d
    · subst e; rw [updF_same] at hk; exact Lv_of (k := .s s) (by rw [hF]; exact foots_sub hj' hk)
    · rw [updF_ne _ e] at hk
      by_cases e2 : k = .s s
      · subst e2; rw [updF_same] at hk; exact Lv_of (hsub b hk)
      · rw [updF_ne _ e2] at hk; exact Lv_of hk

/-- Small steps, those too that move what owns something. -/
def pstep2 (X : Fx) (K : List Item) (st : St) : Option (List Item × St) :=
  match pstep X K st with
  | some r => some r
  | none => match K with
    | .inRegion ops (i :: rest) :: k => match ops[i]? with
      | some o => match guardOf ops st o, o.dst with
        | some true, some d => match o.op with
          | .assign (.tmp s) => bif !(isTop (st.get s)) && !(Nat.beq s d) && Nat.blt d X.fn.ntmps && !(X.pins.contains d) then some (.inRegion ops rest :: k, (st.put s .top).put d (st.get s)) else none
          | .move (.tmp s) => match st.get s with
            | .own sz ex xs => bif st.nrf (s, 0) && Nat.blt d X.fn.ntmps && !(X.pins.contains d) then
                some (.inRegion ops rest :: k, ((st.setObj (s, 0) (.vec sz ex xs)).put s (.vec (s, 0) 0 xs.length)).put d (.vec (s, 0) 0 xs.length)) else none
            | .tup vs => bif !(Nat.beq s d) && Nat.blt d X.fn.ntmps && !(X.pins.contains d) then some (.inRegion ops rest :: k, (st.put s .top).put d (.tup vs)) else none
            | _ => none
          | .extract (.tmp s) j => match st.get s with
            | .tup vs => match vs[j]? with
              | some x => bif !(Nat.beq s d) && Nat.blt d X.fn.ntmps && !(X.pins.contains d) then some (.inRegion ops rest :: k, (st.put s (.tup (vs.set j .top))).put d x) else none
              | none => none
            | _ => none
          | _ => none
        | _, _ => none
      | none => none
    | _ => none

theorem isTop_ne {x : AV} (h : isTop x = false) : x ≠ .top := by rintro rfl; cases h
theorem beq_ne {a b : Nat} (h : Nat.beq a b = false) : a ≠ b := by rintro rfl; simp at h

theorem Run.go {K K' : List Item} {st st' : St} (hs : pstep2 X K st = some (K', st')) (h : Run X g K' st') : Run X g K st := by
  unfold pstep2 at hs
  split at hs
  · rename_i r hr
    cases hs
    exact Run.step hr h
  · split at hs
    · rename_i ops i rest k
      split at hs
      · rename_i o ho
        split at hs
        · rename_i d hg hd
          have hw := fun a w hI => guardOf_ok (X := X) (g := g) hg a w hI
          split at hs
          · rename_i s hop
            by_cases hc : (!(isTop (st.get s)) && !(Nat.beq s d) && Nat.blt d X.fn.ntmps && !(X.pins.contains d)) = true
            · rw [hc] at hs
              simp only [cond_true, Option.some.injEq, Prod.mk.injEq] at hs
              obtain ⟨rfl, rfl⟩ := hs
              simp only [Bool.and_eq_true, Bool.not_eq_true'] at hc
              obtain ⟨⟨⟨h1, h2⟩, h3⟩, h4⟩ := hc
              refine Run.op ho hw ?_ h
              intro hX a w hI
              refine ⟨_, w, .inl ?_, by rw [hd]; exact hI.take (isTop_ne h1) (beq_ne h2) (blt_lt h3) (contains_iff h4)⟩
              simp [execOp, hop, Act.eval]
            · simp only [Bool.not_eq_true] at hc; rw [hc] at hs; simp at hs
          · rename_i s hop
            split at hs
            · rename_i sz ex xs he
              by_cases hc : (st.nrf (s, 0) && Nat.blt d X.fn.ntmps && !(X.pins.contains d)) = true
              · rw [hc] at hs
                simp only [cond_true, Option.some.injEq, Prod.mk.injEq] at hs
                obtain ⟨rfl, rfl⟩ := hs
                simp only [Bool.and_eq_true, Bool.not_eq_true'] at hc
                obtain ⟨⟨h1, h3⟩, h4⟩ := hc
                refine Run.op ho hw ?_ h
                intro hX a w hI
                obtain ⟨β, F, hI'⟩ := hI.unpack he h1
                refine ⟨a.tmps.getD s undef, w, .inl (by simp [execOp, hop, Act.eval]), ?_⟩
                rw [hd]
                have hsl := hI'.slotv (d := s) (by rw [St.get_put, if_pos rfl]; simp)
                rw [St.get_put, if_pos rfl] at hsl
                exact hI'.putv (blt_lt h3) (contains_iff h4) (by have := hsl.pl_nil rfl; rw [this] at hsl; exact hsl)
              · simp only [Bool.not_eq_true] at hc; rw [hc] at hs; simp at hs
            · rename_i vs he
              by_cases hc : (!(Nat.beq s d) && Nat.blt d X.fn.ntmps && !(X.pins.contains d)) = true
              · rw [hc] at hs
                simp only [cond_true, Option.some.injEq, Prod.mk.injEq] at hs
                obtain ⟨rfl, rfl⟩ := hs
                simp only [Bool.and_eq_true, Bool.not_eq_true'] at hc
                obtain ⟨⟨h2, h3⟩, h4⟩ := hc
                refine Run.op ho hw ?_ h
                intro hX a w hI
                have := hI.take (s := s) (d := d) (by rw [he]; simp) (beq_ne h2) (blt_lt h3) (contains_iff h4)
                rw [he] at this
                refine ⟨_, w, .inl ?_, by rw [hd]; exact this⟩
                simp [execOp, hop, Act.eval]
              · simp only [Bool.not_eq_true] at hc; rw [hc] at hs; simp at hs
            · cases hs
          · rename_i s j hop
            split at hs
            · rename_i vs he
              split at hs
              · rename_i x hx
                by_cases hc : (!(Nat.beq s d) && Nat.blt d X.fn.ntmps && !(X.pins.contains d)) = true
                · rw [hc] at hs
                  simp only [cond_true, Option.some.injEq, Prod.mk.injEq] at hs
                  obtain ⟨rfl, rfl⟩ := hs
                  simp only [Bool.and_eq_true, Bool.not_eq_true'] at hc
                  obtain ⟨⟨h2, h3⟩, h4⟩ := hc
                  refine Run.op ho hw ?_ h
                  intro hX a w hI
                  obtain ⟨u, hu, hI'⟩ := hI.takeTup he hx (beq_ne h2) (blt_lt h3) (contains_iff h4)
                  refine ⟨u, w, .inl ?_, by rw [hd]; exact hI'⟩
                  simp only [execOp, hop, Act.eval, Sem.run_bind, hu, Result.andThen_ok]
                  rfl
                · simp only [Bool.not_eq_true] at hc; rw [hc] at hs; simp at hs
              · cases hs
            · cases hs
          · cases hs
        · cases hs
      · cases hs
    · cases hs

/-- Object id goes back into slot d. -/
theorem Run.pack {K : List Item} (d : Nat) {sz : Nat} {ex : Bool} {xs : List AV} {id : Id} {n : Nat} (hd : st.get d = .vec id 0 n) (ho : st.obj id = .vec sz ex xs) (hn : n = xs.length)
    (h : Run X g K ((st.setObj id .gone).put d (.own sz ex xs))) : Run X g K st := Run.ghost (fun _ _ hI => hI.pack hd ho hn) h

theorem Run.unpack {K : List Item} (d : Nat) {sz : Nat} {ex : Bool} {xs : List AV} (hd : st.get d = .own sz ex xs) (hn : st.nrf (d, 0) = true)
    (h : Run X g K ((st.setObj (d, 0) (.vec sz ex xs)).put d (.vec (d, 0) 0 xs.length))) : Run X g K st := Run.ghost (fun _ _ hI => hI.unpack hd hn) h

theorem Run.freeze {K : List Item} (d : Nat) {v v' : AV} (hd : st.get d = v) (hnt : isTop v = false) (hv : v.frz = v') (h : Run X g K (st.put d v')) : Run X g K st :=
  Run.ghost (fun _ _ hI => by have := hI.freeze (d := d) (by rw [hd]; exact isTop_ne hnt); rw [hd, hv] at this; exact this) h

end

theorem fill_get {α : Type} (A : List α) (z : α) (j n : Nat) (hA : A.length = j) (h : j < n) : (A ++ List.replicate (n - j) z)[j]? = some z := by
  rw [List.getElem?_append_right (by omega), hA, Nat.sub_self, List.getElem?_replicate, if_pos (by omega)]

theorem fill_set {α : Type} (A : List α) (z v : α) (j n : Nat) (hA : A.length = j) (h : j < n) : (A ++ List.replicate (n - j) z).set j v = (A ++ [v]) ++ List.replicate (n - (j + 1)) z := by
  rw [List.set_append, if_neg (by omega), hA, Nat.sub_self, show n - j = (n - (j + 1)) + 1 by omega, List.replicate_succ, List.set_cons_zero, List.append_assoc]
  rfl

end Go.Av

/- Own memory within own memory: parts of values become objects, and go back. -/
namespace Go.Av
open Go Go.RowKit

section
variable {X : Fx} {g : Gx} {st st' : St} {a : Act} {w w' : World} {β β' : Env} {F : Key → List Nat} {L : Nat → Prop} {K : List Item}

def KRel (w : World) (L : Nat → Prop) (a : Act) (st : St) (β : Env) : Key → List Nat → Prop
  | .s d, G => ∃ u, (a.tmps[d]? = some u ∨ st.get d = .top) ∧ Rel w L β (st.get d) u G
  | .o id, G => ObRel w L β id (st.obj id) G

theorem Inv.krel (h : Inv X g st a w β F L) (k : Key) : KRel w L a st β k (F k) := by
  cases k with
  | s d => exact h.slot d
  | o id => exact h.obj id

theorem KRel.upd {k : Key} {G : List Nat} (h : KRel w L a st β k G) {id : Id} (z : Value × Nat) (hn : st.nrf id = true) (hne : k ≠ .o id) : KRel w L a st (updE β id z) k G := by
  cases k with
  | s d => obtain ⟨u, hu, hr⟩ := h; exact ⟨u, hu, hr.upd _ _ (St.nrf_get hn d)⟩
  | o id' => exact ObRel.upd h id z (fun e => hne (by rw [e])) (St.nrf_obj hn id')

theorem KRel.congr {k : Key} {G : List Nat} (h : KRel w L a st β k G) (hs : ∀ d, k = .s d → st'.get d = st.get d) (ho : ∀ id, k = .o id → st'.obj id = st.obj id) : KRel w L a st' β k G := by
  cases k with
  | s d => simp only [KRel, hs d rfl]; exact h
  | o id => simp only [KRel, ho id rfl]; exact h

theorem KRel.sub {k : Key} {G : List Nat} {L' : Nat → Prop} (h : KRel w L a st β k G) (hL : ∀ b, L' b → L b) : KRel w L' a st β k G := by
  cases k with
  | s d => obtain ⟨u, hu, hr⟩ := h; exact ⟨u, hu, hr.sub fun b _ hb => hL b hb⟩
  | o id => exact ObRel.keep (M := fun _ => False) (fun _ _ _ => rfl) (fun _ h => h.elim) (fun b _ hb => hL b hb) h (fun _ _ h => h)

/-- Two keys share anew what they owned. -/
theorem Inv.two (h : Inv X g st a w β F (Lv g F)) {k1 k2 : Key} {G1 G2 : List Nat} (hne : k1 ≠ k2) (hn : (G1 ++ G2).Nodup) (hs : ∀ b ∈ G1 ++ G2, b ∈ F k1 ∨ b ∈ F k2)
    (hk : ∀ k, k ≠ k1 → k ≠ k2 → KRel w (Lv g F) a st' β' k (F k)) (h1 : KRel w (Lv g F) a st' β' k1 G1) (h2 : KRel w (Lv g F) a st' β' k2 G2) : SR X g st' a w := by
  let F' : Key → List Nat := updF (updF F k1 G1) k2 G2
  have e2 : F' k2 = G2 := updF_same _ _ _
  have e1 : F' k1 = G1 := by simp only [F']; rw [updF_ne _ hne, updF_same]
  have e0 : ∀ k, k ≠ k1 → k ≠ k2 → F' k = F k := fun k x1 x2 => by simp only [F']; rw [updF_ne _ x2, updF_ne _ x1]
  obtain ⟨n1, n2, n3⟩ := List.nodup_append.1 hn
  have own : ∀ k b, b ∈ F' k → (k = k1 ∧ b ∈ G1) ∨ (k = k2 ∧ b ∈ G2) ∨ (k ≠ k1 ∧ k ≠ k2 ∧ b ∈ F k) := by
    intro k b hb
    by_cases x1 : k = k1
    · subst x1; exact .inl ⟨rfl, e1 ▸ hb⟩
    · by_cases x2 : k = k2
      · subst x2; exact .inr (.inl ⟨rfl, e2 ▸ hb⟩)
      · exact .inr (.inr ⟨x1, x2, e0 k x1 x2 ▸ hb⟩)
  have src : ∀ k b, b ∈ F' k → ∃ k', b ∈ F k' := by
    intro k b hb
    rcases own k b hb with ⟨_, hc⟩ | ⟨_, hc⟩ | ⟨_, _, hc⟩
    · rcases hs b (List.mem_append_left _ hc) with h | h <;> exact ⟨_, h⟩
    · rcases hs b (List.mem_append_right _ hc) with h | h <;> exact ⟨_, h⟩
    · exact ⟨_, hc⟩
  have out : ∀ k b, k ≠ k1 → k ≠ k2 → b ∈ F k → b ∉ G1 ∧ b ∉ G2 := by
    intro k b x1 x2 hb
    refine ⟨fun hm => ?_, fun hm => ?_⟩
    · rcases hs b (List.mem_append_left _ hm) with h' | h'
      · exact h.sep.apart _ _ b x1 hb h'
      · exact h.sep.apart _ _ b x2 hb h'
    · rcases hs b (List.mem_append_right _ hm) with h' | h'
      · exact h.sep.apart _ _ b x1 hb h'
      · exact h.sep.apart _ _ b x2 hb h'
  have hL : ∀ b, Lv g F' b → Lv g F b := by
    rintro b (hb | ⟨k, hb⟩)
    · exact .inl hb
    · exact .inr (src k b hb)
  have all : ∀ k, KRel w (Lv g F') a st' β' k (F' k) := by
    intro k
    by_cases x1 : k = k1
    · subst x1; rw [e1]; exact h1.sub hL
    · by_cases x2 : k = k2
      · subst x2; rw [e2]; exact h2.sub hL
      · rw [e0 k x1 x2]; exact (hk k x1 x2).sub hL
  refine ⟨β', F', h.defers, h.size, h.kp, ⟨fun k => ?_, fun k k' b hne' hb hb' => ?_⟩, fun k b hb => ?_, fun d => all (.s d), fun id => all (.o id), h.pin⟩
  · by_cases x1 : k = k1
    · subst x1; rw [e1]; exact n1
    · by_cases x2 : k = k2
      · subst x2; rw [e2]; exact n2
      · rw [e0 k x1 x2]; exact h.sep.nodup k
  · rcases own k b hb with ⟨e, hc⟩ | ⟨e, hc⟩ | ⟨x1, x2, hc⟩ <;> rcases own k' b hb' with ⟨e', hc'⟩ | ⟨e', hc'⟩ | ⟨y1, y2, hc'⟩
    · exact hne' (e.trans e'.symm)
    · exact n3 b hc b hc' rfl
    · exact (out _ b y1 y2 hc').1 hc
    · exact n3 b hc' b hc rfl
    · exact hne' (e.trans e'.symm)
    · exact (out _ b y1 y2 hc').2 hc
    · exact (out _ b x1 x2 hc).1 hc'
    · exact (out _ b x1 x2 hc).2 hc'
    · exact h.sep.apart _ _ b hne' hc hc'
  · obtain ⟨k', hb'⟩ := src k b hb
    exact h.range k' b hb'

/-! ### Footprints of parts -/
def updN (Fs : Nat → List Nat) (c : Nat) (G : List Nat) : Nat → List Nat := fun k => if k = c then G else Fs k
theorem updN_same {Fs : Nat → List Nat} {c : Nat} {G : List Nat} : updN Fs c G c = G := by simp [updN]
theorem updN_ne {Fs : Nat → List Nat} {c k : Nat} {G : List Nat} (h : k ≠ c) : updN Fs c G k = Fs k := by simp [updN, h]

theorem foots_drop {Fs : Nat → List Nat} {n c : Nat} (hc : c < n) (h : (foots Fs n).Nodup) : (foots (updN Fs c []) n ++ Fs c).Nodup ∧ ∀ b ∈ foots (updN Fs c []) n ++ Fs c, b ∈ foots Fs n := by
  have hf := foots_nodup h
  refine ⟨List.nodup_append.2 ⟨nodup_foots fun k hk => ⟨?_, fun k' hk' hne b hb hb' => ?_⟩, (hf c hc).1, fun b hb b' hb' e => ?_⟩, fun b hb => ?_⟩
  · unfold updN; split; simp; exact (hf k hk).1
  · unfold updN at hb hb'
    split at hb
    · simp at hb
    · split at hb'
      · simp at hb'
      · exact (hf k hk).2 k' hk' hne b hb hb'
  · subst e
    obtain ⟨k, hk, hb⟩ := mem_foots.1 hb
    unfold updN at hb
    split at hb
    · simp at hb
    · rename_i hne
      exact (hf k hk).2 c hc hne b hb hb'
  · rcases List.mem_append.1 hb with hb | hb
    · obtain ⟨k, hk, hb⟩ := mem_foots.1 hb
      unfold updN at hb
      split at hb
      · simp at hb
      · exact foots_sub hk hb
    · exact foots_sub hc hb

theorem foots_put {Fs : Nat → List Nat} {n c : Nat} {G : List Nat} (h : (foots Fs n).Nodup) (h0 : Fs c = []) (hG : G.Nodup) (ha : ∀ b ∈ G, b ∉ foots Fs n) :
    (foots (updN Fs c G) n).Nodup ∧ ∀ b ∈ foots (updN Fs c G) n, b ∈ foots Fs n ∨ b ∈ G := by
  have hf := foots_nodup h
  refine ⟨nodup_foots fun k hk => ⟨?_, fun k' hk' hne b hb hb' => ?_⟩, fun b hb => ?_⟩
  · unfold updN; split; exact hG; exact (hf k hk).1
  · unfold updN at hb hb'
    split at hb
    · split at hb'
      · omega
      · exact ha b hb (foots_sub hk' hb')
    · split at hb'
      · exact ha b hb' (foots_sub hk hb)
      · exact (hf k hk).2 k' hk' hne b hb hb'
  · obtain ⟨k, hk, hb⟩ := mem_foots.1 hb
    unfold updN at hb
    split at hb
    · exact .inr hb
    · exact .inl (foots_sub hk hb)

theorem Rel.vec_nil {id : Id} {i n : Nat} {u : Value} {G : List Nat} (h : Rel w L β (.vec id i n) u G) : G = [] := h.pl_nil rfl

theorem St.get_put_ne {d k : Nat} {v : AV} (h : d ≠ k) : (st.put d v).get k = st.get k := by rw [St.get_put, if_neg h]
theorem St.obj_set_ne {d k : Id} {v : Ob} (h : d ≠ k) : (st.setObj d v).obj k = st.obj k := by rw [St.obj_setObj, if_neg h]
theorem St.get_put_same {d : Nat} {v : AV} : (st.put d v).get d = v := by rw [St.get_put, if_pos rfl]
theorem St.obj_set_same {d : Id} {v : Ob} : (st.setObj d v).obj d = v := by rw [St.obj_setObj, if_pos rfl]

/-- A component of the aggregate in slot d, which owns a slice, becomes an object. -/
theorem SR.unagg {d c sz : Nat} {ex : Bool} {cs xs : List AV} {id : Id} (hd : st.get d = .agg cs) (hc : cs[c]? = some (.own sz ex xs)) (hn : st.nrf id = true) (h : SR X g st a w) :
    SR X g ((st.setObj id (.vec sz ex xs)).put d (.agg (cs.set c (.vec id 0 xs.length)))) a w := by
  obtain ⟨β, F, h⟩ := h
  have hne : st.get d ≠ .top := by rw [hd]; simp
  have hget := h.slotget hne
  have hr := h.slotv hne
  have hnd := h.sep.nodup (.s d)
  rw [hd] at hr
  generalize a.tmps.getD d undef = u at hr hget
  generalize hF : F (.s d) = G at hr hnd
  cases hr with
  | agg _ _ vals Fs hl hrr =>
  have hcl : c < cs.length := (List.getElem?_eq_some_iff.1 hc).1
  have hcv : c < vals.size := by omega
  obtain ⟨q1, q2⟩ := foots_drop hcl hnd
  have hown := hrr c _ _ hc (Array.getElem?_eq_getElem hcv)
  have hkn : Key.s d ≠ Key.o id := by intro e; cases e
  refine h.two (β' := updE β id (vals[c], sz)) (k1 := .s d) (k2 := .o id) hkn q1 (fun b hb => .inl (by rw [hF]; exact q2 b hb)) ?_ ?_ ?_
  · intro k x1 x2
    refine ((h.krel k).upd _ hn x2).congr (fun d' e => ?_) (fun id' e => ?_)
    · rw [St.get_put_ne (by rintro rfl; exact x1 e), St.get_setObj]
    · rw [St.obj_put, St.obj_set_ne (by rintro rfl; exact x2 e)]
  · refine ⟨_, .inl hget, ?_⟩
    rw [St.get_put_same]
    have := Rel.agg (w := w) (L := Lv g F) (updE β id (vals[c], sz)) (cs.set c (.vec id 0 xs.length)) vals (updN Fs c []) (by simpa using hl) (by
      intro k x u hx hu
      by_cases e : k = c
      · subst e
        rw [List.getElem?_set_self hcl] at hx
        cases hx
        rw [Array.getElem?_eq_getElem hcv] at hu
        cases hu
        rw [updN_same]
        exact hown.own_vec id
      · rw [List.getElem?_set_ne (Ne.symm e)] at hx
        rw [updN_ne e]
        refine (hrr k x u hx hu).upd _ _ (AV.nrfL_get (xs := cs) ?_ k x hx)
        have := St.nrf_get hn d
        rw [hd] at this
        simpa [AV.nrf] using this)
    rwa [List.length_set] at this
  · simp only [KRel]
    rw [St.obj_put, St.obj_set_same]
    exact ⟨vals[c], by simp [updE], hown.upd _ _ (by simp [AV.nrf])⟩

theorem Run.unagg (d c : Nat) {sz : Nat} {ex : Bool} {cs xs : List AV} (id : Id) (hd : st.get d = .agg cs) (hc : cs[c]? = some (.own sz ex xs)) (hn : st.nrf id = true)
    (h : Run X g K ((st.setObj id (.vec sz ex xs)).put d (.agg (cs.set c (.vec id 0 xs.length))))) : Run X g K st := Run.ghost (fun _ _ hI => hI.unagg hd hc hn) h

/-- .. and goes back. -/
theorem SR.packAgg {d c sz n : Nat} {ex : Bool} {cs xs : List AV} {id : Id} (hd : st.get d = .agg cs) (hc : cs[c]? = some (.vec id 0 n)) (ho : st.obj id = .vec sz ex xs) (hn : n = xs.length) (h : SR X g st a w) :
    SR X g ((st.setObj id .gone).put d (.agg (cs.set c (.own sz ex xs)))) a w := by
  obtain ⟨β, F, h⟩ := h
  have hne : st.get d ≠ .top := by rw [hd]; simp
  have hget := h.slotget hne
  have hr := h.slotv hne
  have hnd := h.sep.nodup (.s d)
  rw [hd] at hr
  have hob := h.obj id
  rw [ho] at hob
  obtain ⟨v, hβ, hown⟩ := hob
  generalize a.tmps.getD d undef = u at hr hget
  generalize hF : F (.s d) = G at hr hnd
  cases hr with
  | agg _ _ vals Fs hl hrr =>
  have hcl : c < cs.length := (List.getElem?_eq_some_iff.1 hc).1
  have hcv : c < vals.size := by omega
  have hvec := hrr c _ _ hc (Array.getElem?_eq_getElem hcv)
  have h0 := hvec.vec_nil
  obtain ⟨G, hG, hown'⟩ := hvec.vec_own hn hβ hown
  have hGs : ∀ b ∈ G, b ∈ F (.o id) := by rintro b hb; rcases hG with rfl | rfl; exact hb; simp at hb
  have hGn : G.Nodup := by rcases hG with rfl | rfl; exact h.sep.nodup _; simp
  have hkn : Key.o id ≠ Key.s d := by intro e; cases e
  obtain ⟨q1, q2⟩ := foots_put (G := G) hnd h0 hGn (fun b hb hb' => h.sep.apart _ _ b hkn (hGs b hb) (by rw [hF]; exact hb'))
  refine h.two (β' := β) (k1 := .o id) (k2 := .s d) (G1 := []) hkn (by simpa using q1) (fun b hb => ?_) ?_ ?_ ?_
  · rcases q2 b (by simpa using hb) with hb | hb
    · exact .inr (by rw [hF]; exact hb)
    · exact .inl (hGs b hb)
  · intro k x1 x2
    refine (h.krel k).congr (fun d' e => ?_) (fun id' e => ?_)
    · rw [St.get_put_ne (by rintro rfl; exact x2 e), St.get_setObj]
    · rw [St.obj_put, St.obj_set_ne (by rintro rfl; exact x1 e)]
  · simp only [KRel]
    rw [St.obj_put, St.obj_set_same]
    rfl
  · refine ⟨_, .inl hget, ?_⟩
    rw [St.get_put_same]
    have := Rel.agg (w := w) (L := Lv g F) β (cs.set c (.own sz ex xs)) vals (updN Fs c G) (by simpa using hl) (by
      intro k x u hx hu
      by_cases e : k = c
      · subst e
        rw [List.getElem?_set_self hcl] at hx
        cases hx
        rw [Array.getElem?_eq_getElem hcv] at hu
        cases hu
        rw [updN_same]
        exact hown'
      · rw [List.getElem?_set_ne (Ne.symm e)] at hx
        rw [updN_ne e]
        exact hrr k x u hx hu)
    rwa [List.length_set] at this

theorem Run.packAgg (d c : Nat) {sz n : Nat} {ex : Bool} {cs xs : List AV} {id : Id} (hd : st.get d = .agg cs) (hc : cs[c]? = some (.vec id 0 n)) (ho : st.obj id = .vec sz ex xs) (hn : n = xs.length)
    (h : Run X g K ((st.setObj id .gone).put d (.agg (cs.set c (.own sz ex xs))))) : Run X g K st := Run.ghost (fun _ _ hI => hI.packAgg hd hc ho hn) h

/-- A slice object that a box's cell refers to is put into the cell. -/
theorem SR.packBox {c sz n : Nat} {ex : Bool} {cs xs : List AV} {id0 id : Id} (hd : st.obj id0 = .box cs) (hc : cs[c]? = some (.vec id 0 n)) (ho : st.obj id = .vec sz ex xs) (hn : n = xs.length) (h : SR X g st a w) :
    SR X g ((st.setObj id .gone).setObj id0 (.box (cs.set c (.own sz ex xs)))) a w := by
  obtain ⟨β, F, h⟩ := h
  have hii : id ≠ id0 := by rintro rfl; rw [hd] at ho; cases ho
  have hob0 := h.obj id0
  rw [hd] at hob0
  obtain ⟨b, arr, T, lo, hi, Fs, hβ0, hb, hfz, hs, hrr, hF⟩ := hob0
  have hob := h.obj id
  rw [ho] at hob
  obtain ⟨v, hβ, hown⟩ := hob
  have hnd := h.sep.nodup (.o id0)
  rw [hF] at hnd
  obtain ⟨nd1, nd2⟩ := List.nodup_cons.1 hnd
  have hcl : c < cs.length := (List.getElem?_eq_some_iff.1 hc).1
  have hcv : c < arr.size := by omega
  have hvec := hrr c _ _ hc (Array.getElem?_eq_getElem hcv)
  have h0 := hvec.vec_nil
  obtain ⟨G, hG, hown'⟩ := hvec.vec_own hn hβ hown
  have hGs : ∀ b ∈ G, b ∈ F (.o id) := by rintro b hb; rcases hG with rfl | rfl; exact hb; simp at hb
  have hGn : G.Nodup := by rcases hG with rfl | rfl; exact h.sep.nodup _; simp
  have hkn : Key.o id ≠ Key.o id0 := by intro e; injection e with e; exact hii e
  have hap : ∀ x ∈ G, x ∉ F (.o id0) := fun x hx hx' => h.sep.apart _ _ x hkn (hGs x hx) hx'
  obtain ⟨q1, q2⟩ := foots_put (G := G) nd2 h0 hGn (fun x hx hx' => hap x hx (by rw [hF]; exact List.mem_cons_of_mem _ hx'))
  refine h.two (β' := β) (k1 := .o id) (k2 := .o id0) (G1 := []) (G2 := b :: foots (updN Fs c G) cs.length) hkn ?_ (fun x hx => ?_) ?_ ?_ ?_
  · refine List.nodup_cons.2 ⟨fun hm => ?_, q1⟩
    rcases q2 b hm with hm | hm
    · exact nd1 hm
    · exact hap b hm (by rw [hF]; simp)
  · rcases List.mem_cons.1 (by simpa using hx : x ∈ b :: foots (updN Fs c G) cs.length) with rfl | hx
    · exact .inr (by rw [hF]; simp)
    · rcases q2 x hx with hx | hx
      · exact .inr (by rw [hF]; exact List.mem_cons_of_mem _ hx)
      · exact .inl (hGs x hx)
  · intro k x1 x2
    refine (h.krel k).congr (fun d' e => rfl) (fun id' e => ?_)
    rw [St.obj_set_ne (by rintro rfl; exact x2 e), St.obj_set_ne (by rintro rfl; exact x1 e)]
  · simp only [KRel]
    rw [St.obj_set_ne (Ne.symm hii), St.obj_set_same]
    rfl
  · simp only [KRel]
    rw [St.obj_set_same]
    refine ⟨b, arr, T, lo, hi, updN Fs c G, hβ0, hb, hfz, by simpa using hs, ?_, by rw [List.length_set]⟩
    intro k x u hx hu
    by_cases e : k = c
    · subst e
      rw [List.getElem?_set_self hcl] at hx
      cases hx
      rw [Array.getElem?_eq_getElem hcv] at hu
      cases hu
      rw [updN_same]
      exact hown'
    · rw [List.getElem?_set_ne (Ne.symm e)] at hx
      rw [updN_ne e]
      exact hrr k x u hx hu

theorem Run.packBox (id0 : Id) (c : Nat) {sz n : Nat} {ex : Bool} {cs xs : List AV} {id : Id} (hd : st.obj id0 = .box cs) (hc : cs[c]? = some (.vec id 0 n)) (ho : st.obj id = .vec sz ex xs) (hn : n = xs.length)
    (h : Run X g K ((st.setObj id .gone).setObj id0 (.box (cs.set c (.own sz ex xs))))) : Run X g K st := Run.ghost (fun _ _ hI => hI.packBox hd hc ho hn) h

end
end Go.Av

/- Parts of elements become objects, and go back; calls that write into what they are handed. -/
namespace Go.Av
open Go Go.RowKit

section
variable {X : Fx} {g : Gx} {st st' : St} {a : Act} {w w' : World} {β β' : Env} {F : Key → List Nat} {L : Nat → Prop} {K : List Item}

theorem own_len {sz : Nat} {ex : Bool} {ys : List AV} {u : Value} {G : List Nat} (h : Rel w L β (.own sz ex ys) u G) : ∃ A c, u = .slice A ys.length c := by
  cases h with
  | ownNil _ _ _ A => exact ⟨A, 0, rfl⟩
  | own => exact ⟨_, _, rfl⟩

/-- The slice in slot d becomes an object; the slot keeps its name. -/
theorem SR.open1 {d sz : Nat} {ex : Bool} {xs : List AV} {id idt : Id} (hd : st.get d = .own sz ex xs) (hn : st.nrf id = true) (hi : id ≠ idt) (ht : st.obj idt = .gone) (h : SR X g st a w) :
    ∃ A n, SR X g (((st.setObj id (.vec sz ex xs)).setObj idt (.tie (.slice A xs.length n) id)).put d (.lit (.slice A xs.length n))) a w := by
  obtain ⟨β, F, h⟩ := h
  have hne : st.get d ≠ .top := by rw [hd]; simp
  have hget := h.slotget hne
  have hr := h.slotv hne
  rw [hd] at hr
  have h0 : F (.o idt) = [] := by have := h.obj idt; rw [ht] at this; exact this
  obtain ⟨A, n, e⟩ := own_len hr
  refine ⟨A, n, ?_⟩
  rw [← e]
  refine h.two (β' := updE β id (a.tmps.getD d undef, sz)) (k1 := .s d) (k2 := .o id) (G1 := []) (G2 := F (.s d)) (by intro e; cases e) (by simpa using h.sep.nodup _) (fun b hb => .inl (by simpa using hb)) ?_ ?_ ?_
  · intro k x1 x2
    by_cases e : k = .o idt
    · subst e
      simp only [KRel]
      rw [St.obj_put, St.obj_set_same]
      exact ⟨h0, sz, by simp [updE]⟩
    · refine ((h.krel k).upd _ hn x2).congr (fun d' e' => ?_) (fun id' e' => ?_)
      · rw [St.get_put_ne (by rintro rfl; exact x1 e')]; rfl
      · rw [St.obj_put, St.obj_set_ne (by rintro rfl; exact e e'), St.obj_set_ne (by rintro rfl; exact x2 e')]
  · exact ⟨_, .inl hget, by rw [St.get_put_same]; exact .lit _ _⟩
  · simp only [KRel]
    rw [St.obj_put, St.obj_set_ne (Ne.symm hi), St.obj_set_same]
    exact ⟨_, by simp [updE], hr.upd _ _ (by simp [AV.nrf])⟩

theorem Run.open1 (d : Nat) {sz : Nat} {ex : Bool} {xs : List AV} (id idt : Id) (hd : st.get d = .own sz ex xs) (hn : st.nrf id = true) (hi : id ≠ idt) (ht : st.obj idt = .gone)
    (h : ∀ A n, Run X g K (((st.setObj id (.vec sz ex xs)).setObj idt (.tie (.slice A xs.length n) id)).put d (.lit (.slice A xs.length n)))) : Run X g K st :=
  fun hX a w b cs hI => let ⟨A, n, hI'⟩ := hI.open1 hd hn hi ht; h A n hX a w b cs hI'

/-- A component of the aggregate in slot d likewise. -/
theorem SR.openAgg {d c sz : Nat} {ex : Bool} {cs xs : List AV} {id idt : Id} (hd : st.get d = .agg cs) (hc : cs[c]? = some (.own sz ex xs)) (hn : st.nrf id = true) (hi : id ≠ idt) (ht : st.obj idt = .gone) (h : SR X g st a w) :
    ∃ A n, SR X g (((st.setObj id (.vec sz ex xs)).setObj idt (.tie (.slice A xs.length n) id)).put d (.agg (cs.set c (.lit (.slice A xs.length n))))) a w := by
  obtain ⟨β, F, h⟩ := h
  have hne : st.get d ≠ .top := by rw [hd]; simp
  have hget := h.slotget hne
  have hr := h.slotv hne
  have hnd := h.sep.nodup (.s d)
  have h0 : F (.o idt) = [] := by have := h.obj idt; rw [ht] at this; exact this
  rw [hd] at hr
  generalize a.tmps.getD d undef = u at hr hget
  generalize hF : F (.s d) = G at hr hnd
  cases hr with
  | agg _ _ vals Fs hl hrr =>
  have hcl : c < cs.length := (List.getElem?_eq_some_iff.1 hc).1
  have hcv : c < vals.size := by omega
  obtain ⟨q1, q2⟩ := foots_drop hcl hnd
  have hown := hrr c _ _ hc (Array.getElem?_eq_getElem hcv)
  obtain ⟨A, n, e⟩ := own_len hown
  refine ⟨A, n, ?_⟩
  rw [← e]
  refine h.two (β' := updE β id (vals[c], sz)) (k1 := .s d) (k2 := .o id) (by intro e; cases e) q1 (fun b hb => .inl (by rw [hF]; exact q2 b hb)) ?_ ?_ ?_
  · intro k x1 x2
    by_cases e : k = .o idt
    · subst e
      simp only [KRel]
      rw [St.obj_put, St.obj_set_same]
      exact ⟨h0, sz, by simp [updE]⟩
    · refine ((h.krel k).upd _ hn x2).congr (fun d' e' => ?_) (fun id' e' => ?_)
      · rw [St.get_put_ne (by rintro rfl; exact x1 e')]; rfl
      · rw [St.obj_put, St.obj_set_ne (by rintro rfl; exact e e'), St.obj_set_ne (by rintro rfl; exact x2 e')]
  · refine ⟨_, .inl hget, ?_⟩
    rw [St.get_put_same]
    have := Rel.agg (w := w) (L := Lv g F) (updE β id (vals[c], sz)) (cs.set c (.lit vals[c])) vals (updN Fs c []) (by simpa using hl) (by
      intro k x u hx hu
      by_cases e : k = c
      · subst e
        rw [List.getElem?_set_self hcl] at hx
        cases hx
        rw [Array.getElem?_eq_getElem hcv] at hu
        cases hu
        rw [updN_same]
        exact .lit _ _
      · rw [List.getElem?_set_ne (Ne.symm e)] at hx
        rw [updN_ne e]
        refine (hrr k x u hx hu).upd _ _ (AV.nrfL_get (xs := cs) ?_ k x hx)
        have := St.nrf_get hn d
        rw [hd] at this
        simpa [AV.nrf] using this)
    rwa [List.length_set] at this
  · simp only [KRel]
    rw [St.obj_put, St.obj_set_ne (Ne.symm hi), St.obj_set_same]
    exact ⟨vals[c], by simp [updE], hown.upd _ _ (by simp [AV.nrf])⟩

theorem Run.openAgg (d c : Nat) {sz : Nat} {ex : Bool} {cs xs : List AV} (id idt : Id) (hd : st.get d = .agg cs) (hc : cs[c]? = some (.own sz ex xs)) (hn : st.nrf id = true) (hi : id ≠ idt) (ht : st.obj idt = .gone)
    (h : ∀ A n, Run X g K (((st.setObj id (.vec sz ex xs)).setObj idt (.tie (.slice A xs.length n) id)).put d (.agg (cs.set c (.lit (.slice A xs.length n)))))) : Run X g K st :=
  fun hX a w b cs hI => let ⟨A, n, hI'⟩ := hI.openAgg hd hc hn hi ht; h A n hX a w b cs hI'

theorem elem_at {xs : List AV} {sz m : Nat} (hz : ∀ x ∈ xs, x.cells.length = sz) {y : AV} (hy : xs[m]? = some y) {j : Nat} (hj : j < sz) : (flatc xs)[m * sz + j]? = y.cells[j]? := elem_cells hz hy j hj

/-- A cell of an element, which owns a slice, becomes an object; the cell keeps its name. -/
theorem SR.uncell {id0 id1 idt : Id} {sz m j sz' : Nat} {ex ex' : Bool} {xs zs : List AV} {y : AV} (ho : st.obj id0 = .vec sz ex xs) (hy : xs[m]? = some y) (hj : y.cells[j]? = some (.own sz' ex' zs))
    (hreb : ∀ z, (reb y (y.cells.set j z)).cells = y.cells.set j z) (hn : st.nrf id1 = true) (h01 : id0 ≠ id1) (h0t : id0 ≠ idt) (h1t : id1 ≠ idt) (ht : st.obj idt = .gone) (h : SR X g st a w) :
    ∃ A n, SR X g (((st.setObj id0 (.vec sz ex (xs.set m (reb y (y.cells.set j (.lit (.slice A zs.length n))))))).setObj id1 (.vec sz' ex' zs)).setObj idt (.tie (.slice A zs.length n) id1)) a w := by
  obtain ⟨β, F, h⟩ := h
  have hob := h.obj id0
  rw [ho] at hob
  obtain ⟨v, hβ, hown⟩ := hob
  have hnd := h.sep.nodup (.o id0)
  have e0 : F (.o idt) = [] := by have := h.obj idt; rw [ht] at this; exact this
  obtain ⟨vals, Fs, Bs, hoc, hz, hvl, hr, hF⟩ := hown.ownCells
  rw [hF] at hnd
  have hm : m < xs.length := (List.getElem?_eq_some_iff.1 hy).1
  have hyl : y.cells.length = sz := hz y (List.mem_of_getElem? hy)
  have hjs : j < sz := by rw [← hyl]; exact (List.getElem?_eq_some_iff.1 hj).1
  have hq : (flatc xs)[m * sz + j]? = some (.own sz' ex' zs) := by rw [elem_at hz hy hjs]; exact hj
  have hql : m * sz + j < (flatc xs).length := (List.getElem?_eq_some_iff.1 hq).1
  have hqv : m * sz + j < vals.length := by rw [hvl, ← flatc_length hz]; exact hql
  have hcell := hr _ _ _ hq (List.getElem?_eq_getElem hqv)
  obtain ⟨nB, nFs, nap⟩ := List.nodup_append.1 hnd
  obtain ⟨q1, q2⟩ := foots_drop hql nFs
  obtain ⟨r1, r2, r3⟩ := List.nodup_append.1 q1
  obtain ⟨A, n, e⟩ := own_len hcell
  refine ⟨A, n, ?_⟩
  rw [← e]
  have hzz : ∀ x ∈ xs.set m (reb y (y.cells.set j (.lit vals[m * sz + j]))), x.cells.length = sz := by
    intro x hx
    rcases List.mem_or_eq_of_mem_set hx with hx | rfl
    · exact hz x hx
    · rw [hreb]; simpa using hyl
  have hfl : (flatc (xs.set m (reb y (y.cells.set j (.lit vals[m * sz + j]))))).length = (flatc xs).length := by
    rw [flatc_length hzz, flatc_length hz, List.length_set]
  refine h.two (β' := updE β id1 (vals[m * sz + j], sz')) (k1 := .o id0) (k2 := .o id1) (G1 := Bs ++ foots (updN Fs (m * sz + j) []) (flatc xs).length) (G2 := Fs (m * sz + j)) (by intro e; injection e with e; exact h01 e) ?_ (fun b hb => .inl ?_) ?_ ?_ ?_
  · rw [List.append_assoc]
    refine List.nodup_append.2 ⟨nB, q1, fun b hb b' hb' e => nap b hb b' (q2 b' hb') e⟩
  · rw [hF]
    rcases List.mem_append.1 hb with hb | hb
    · rcases List.mem_append.1 hb with hb | hb
      · exact List.mem_append_left _ hb
      · exact List.mem_append_right _ (q2 b (List.mem_append_left _ hb))
    · exact List.mem_append_right _ (q2 b (List.mem_append_right _ hb))
  · intro k x1 x2
    by_cases e : k = .o idt
    · subst e
      simp only [KRel]
      rw [St.obj_set_same]
      exact ⟨e0, sz', by simp [updE]⟩
    · refine ((h.krel k).upd _ hn x2).congr (fun d' e' => rfl) (fun id' e' => ?_)
      rw [St.obj_set_ne (by rintro rfl; exact e e'), St.obj_set_ne (by rintro rfl; exact x2 e'), St.obj_set_ne (by rintro rfl; exact x1 e')]
  · simp only [KRel]
    rw [St.obj_set_ne (Ne.symm h0t), St.obj_set_ne (Ne.symm h01), St.obj_set_same]
    refine ⟨v, by simp [updE, h01, hβ], ?_⟩
    rw [← hfl]
    refine hoc.rel (by simp) hzz fun k x u hx hu => ?_
    rw [flatc_set hz hy (by rw [hreb]; simpa using hyl)] at hx
    by_cases hk : m * sz ≤ k ∧ k < m * sz + sz
    · rw [if_pos hk, hreb] at hx
      by_cases e : k = m * sz + j
      · subst e
        rw [show m * sz + j - m * sz = j by omega, List.getElem?_set_self (by omega)] at hx
        cases hx
        rw [updN_same]
        rw [List.getElem?_eq_getElem hqv] at hu
        cases hu
        exact .lit _ _
      · rw [List.getElem?_set_ne (by omega)] at hx
        rw [updN_ne e]
        refine hr k x u ?_ hu
        have := elem_at hz hy (j := k - m * sz) (by omega)
        rw [show m * sz + (k - m * sz) = k by omega] at this
        rw [this]; exact hx
    · rw [if_neg hk] at hx
      rw [updN_ne (by omega)]
      exact hr k x u hx hu
  · simp only [KRel]
    rw [St.obj_set_ne (Ne.symm h1t), St.obj_set_same]
    exact ⟨_, by simp [updE], hcell.env _ rfl⟩

theorem Run.uncell (id0 id1 idt : Id) (m j : Nat) {sz sz' : Nat} {ex ex' : Bool} {xs zs : List AV} (y : AV) (ho : st.obj id0 = .vec sz ex xs) (hy : xs[m]? = some y) (hj : y.cells[j]? = some (.own sz' ex' zs))
    (hreb : ∀ z, (reb y (y.cells.set j z)).cells = y.cells.set j z) (hn : st.nrf id1 = true) (h01 : id0 ≠ id1) (h0t : id0 ≠ idt) (h1t : id1 ≠ idt) (ht : st.obj idt = .gone)
    (h : ∀ A n, Run X g K (((st.setObj id0 (.vec sz ex (xs.set m (reb y (y.cells.set j (.lit (.slice A zs.length n))))))).setObj id1 (.vec sz' ex' zs)).setObj idt (.tie (.slice A zs.length n) id1))) : Run X g K st :=
  fun hX a w b cs hI => let ⟨A, n, hI'⟩ := hI.uncell ho hy hj hreb hn h01 h0t h1t ht; h A n hX a w b cs hI'

/-- .. and goes back into the cell. -/
theorem SR.recell {id0 id1 idt : Id} {sz m j sz' : Nat} {ex ex' : Bool} {xs zs : List AV} {y : AV} {v0 : Value} (ho : st.obj id0 = .vec sz ex xs) (hy : xs[m]? = some y) (hj : y.cells[j]? = some (.lit v0))
    (ht : st.obj idt = .tie v0 id1) (h1 : st.obj id1 = .vec sz' ex' zs) (hreb : ∀ z, (reb y (y.cells.set j z)).cells = y.cells.set j z) (h01 : id0 ≠ id1) (h : SR X g st a w) :
    SR X g (((st.setObj id0 (.vec sz ex (xs.set m (reb y (y.cells.set j (.own sz' ex' zs)))))).setObj id1 .gone).setObj idt .gone) a w := by
  obtain ⟨β, F, h⟩ := h
  have hob := h.obj id0
  rw [ho] at hob
  obtain ⟨v, hβ, hown⟩ := hob
  have hob1 := h.obj id1
  rw [h1] at hob1
  obtain ⟨v1, hβ1, hown1⟩ := hob1
  have hobt := h.obj idt
  rw [ht] at hobt
  obtain ⟨e0, sz2, hβt⟩ := hobt
  have hv1 : v1 = v0 := by
    have := hβ1.symm.trans hβt
    injection this with this
    injection this
  subst hv1
  have h0t : idt ≠ id0 := by rintro rfl; rw [ht] at ho; cases ho
  have h1t : idt ≠ id1 := by rintro rfl; rw [ht] at h1; cases h1
  have hnd := h.sep.nodup (.o id0)
  obtain ⟨vals, Fs, Bs, hoc, hz, hvl, hr, hF⟩ := hown.ownCells
  rw [hF] at hnd
  have hm : m < xs.length := (List.getElem?_eq_some_iff.1 hy).1
  have hyl : y.cells.length = sz := hz y (List.mem_of_getElem? hy)
  have hjs : j < sz := by rw [← hyl]; exact (List.getElem?_eq_some_iff.1 hj).1
  have hq : (flatc xs)[m * sz + j]? = some (.lit v1) := by rw [elem_at hz hy hjs]; exact hj
  have hql : m * sz + j < (flatc xs).length := (List.getElem?_eq_some_iff.1 hq).1
  have hqv : m * sz + j < vals.length := by rw [hvl, ← flatc_length hz]; exact hql
  have hcell := hr _ _ _ hq (List.getElem?_eq_getElem hqv)
  have hFq : Fs (m * sz + j) = [] := hcell.pl_nil rfl
  have hvq : vals[m * sz + j] = v1 := by
    rw [hFq] at hcell
    generalize vals[m * sz + j] = u at hcell
    cases hcell; rfl
  obtain ⟨nB, nFs, nap⟩ := List.nodup_append.1 hnd
  have hap : ∀ b ∈ F (.o id1), b ∉ F (.o id0) := fun b hb hb' => h.sep.apart _ _ b (by intro e; injection e with e; exact h01 e.symm) hb hb'
  obtain ⟨q1, q2⟩ := foots_put (G := F (.o id1)) nFs hFq (h.sep.nodup _) (fun b hb hb' => hap b hb (by rw [hF]; exact List.mem_append_right _ hb'))
  have hzz : ∀ x ∈ xs.set m (reb y (y.cells.set j (.own sz' ex' zs))), x.cells.length = sz := by
    intro x hx
    rcases List.mem_or_eq_of_mem_set hx with hx | rfl
    · exact hz x hx
    · rw [hreb]; simpa using hyl
  have hfl : (flatc (xs.set m (reb y (y.cells.set j (.own sz' ex' zs))))).length = (flatc xs).length := by
    rw [flatc_length hzz, flatc_length hz, List.length_set]
  refine h.two (β' := β) (k1 := .o id1) (k2 := .o id0) (G1 := []) (G2 := Bs ++ foots (updN Fs (m * sz + j) (F (.o id1))) (flatc xs).length) (by intro e; injection e with e; exact h01 e.symm) ?_ (fun b hb => ?_) ?_ ?_ ?_
  · rw [List.nil_append]
    refine List.nodup_append.2 ⟨nB, q1, fun b hb b' hb' e => ?_⟩
    subst e
    rcases q2 b hb' with h' | h'
    · exact nap b hb b h' rfl
    · exact hap b h' (by rw [hF]; exact List.mem_append_left _ hb)
  · rw [List.nil_append] at hb
    rcases List.mem_append.1 hb with hb | hb
    · exact .inr (by rw [hF]; exact List.mem_append_left _ hb)
    · rcases q2 b hb with hb | hb
      · exact .inr (by rw [hF]; exact List.mem_append_right _ hb)
      · exact .inl hb
  · intro k x1 x2
    by_cases e : k = .o idt
    · subst e
      simp only [KRel]
      rw [St.obj_set_same]
      exact e0
    · refine (h.krel k).congr (fun d' e' => rfl) (fun id' e' => ?_)
      rw [St.obj_set_ne (by rintro rfl; exact e e'), St.obj_set_ne (by rintro rfl; exact x1 e'), St.obj_set_ne (by rintro rfl; exact x2 e')]
  · simp only [KRel]
    rw [St.obj_set_ne h1t, St.obj_set_same]
    rfl
  · simp only [KRel]
    rw [St.obj_set_ne h0t, St.obj_set_ne (Ne.symm h01), St.obj_set_same]
    refine ⟨v, hβ, ?_⟩
    rw [← hfl]
    refine hoc.rel (by simp) hzz fun k x u hx hu => ?_
    rw [flatc_set hz hy (by rw [hreb]; simpa using hyl)] at hx
    by_cases hk : m * sz ≤ k ∧ k < m * sz + sz
    · rw [if_pos hk, hreb] at hx
      by_cases e : k = m * sz + j
      · subst e
        rw [show m * sz + j - m * sz = j by omega, List.getElem?_set_self (by omega)] at hx
        cases hx
        rw [updN_same]
        rw [List.getElem?_eq_getElem hqv] at hu
        cases hu
        rw [hvq]
        exact hown1.env _ rfl
      · rw [List.getElem?_set_ne (by omega)] at hx
        rw [updN_ne e]
        refine hr k x u ?_ hu
        have := elem_at hz hy (j := k - m * sz) (by omega)
        rw [show m * sz + (k - m * sz) = k by omega] at this
        rw [this]; exact hx
    · rw [if_neg hk] at hx
      rw [updN_ne (by omega)]
      exact hr k x u hx hu

theorem Run.recell (id0 id1 idt : Id) (m j : Nat) {sz sz' : Nat} {ex ex' : Bool} {xs zs : List AV} (y : AV) {v0 : Value} (ho : st.obj id0 = .vec sz ex xs) (hy : xs[m]? = some y) (hj : y.cells[j]? = some (.lit v0))
    (ht : st.obj idt = .tie v0 id1) (h1 : st.obj id1 = .vec sz' ex' zs) (hreb : ∀ z, (reb y (y.cells.set j z)).cells = y.cells.set j z) (h01 : id0 ≠ id1)
    (h : Run X g K (((st.setObj id0 (.vec sz ex (xs.set m (reb y (y.cells.set j (.own sz' ex' zs)))))).setObj id1 .gone).setObj idt .gone)) : Run X g K st :=
  Run.ghost (fun _ _ hI => hI.recell ho hy hj ht h1 hreb h01) h

/-- The value of that name is the object. -/
theorem SR.name {d sz : Nat} {ex : Bool} {xs : List AV} {id idt : Id} {v0 : Value} (hd : st.get d = .lit v0) (ht : st.obj idt = .tie v0 id) (ho : st.obj id = .vec sz ex xs) (h : SR X g st a w) :
    SR X g (st.put d (.vec id 0 xs.length)) a w := by
  obtain ⟨β, F, h⟩ := h
  have hne : st.get d ≠ .top := by rw [hd]; simp
  have hget := h.slotget hne
  have hr := h.slotv hne
  rw [hd] at hr
  have hF := hr.pl_nil rfl
  have hob := h.obj id
  rw [ho] at hob
  obtain ⟨v, hβ, hown⟩ := hob
  have hobt := h.obj idt
  rw [ht] at hobt
  obtain ⟨_, sz2, hβt⟩ := hobt
  have hv : v = v0 := by
    have := hβ.symm.trans hβt
    injection this with this
    injection this
  subst hv
  have hu : a.tmps.getD d undef = v := by
    generalize a.tmps.getD d undef = u at hr
    rw [hF] at hr
    cases hr; rfl
  have hup : updE β id (v, sz) = β := by
    funext x
    simp only [updE]
    split
    · rename_i e; subst e; exact hβ.symm
    · rfl
  have hv := hown.own_vec id
  rw [hup] at hv
  rw [hu] at hget
  refine ⟨_, _, (h.conv (.inl hget) hv (by simp) (by simp)).setL fun b _ hb => Lv_updF_nil hb⟩

theorem Run.name (d : Nat) {sz : Nat} {ex : Bool} {xs : List AV} {id : Id} (idt : Id) {v0 : Value} (hd : st.get d = .lit v0) (ht : st.obj idt = .tie v0 id) (ho : st.obj id = .vec sz ex xs)
    (h : Run X g K (st.put d (.vec id 0 xs.length))) : Run X g K st := Run.ghost (fun _ _ hI => hI.name hd ht ho) h

theorem foots_first {Fs : Nat → List Nat} {n : Nat} (hn : 0 < n) (h : ∀ k, 0 < k → Fs k = []) : foots Fs n = Fs 0 := by
  obtain ⟨m, rfl⟩ : ∃ m, n = m + 1 := ⟨n - 1, by omega⟩
  unfold foots
  rw [List.range_succ_eq_map, List.flatMap_cons, List.flatMap_map]
  have : (List.range m).flatMap (fun a => Fs (a + 1)) = [] := by
    rw [List.flatMap_eq_nil_iff]
    intro x _
    exact h _ (by omega)
  rw [this, List.append_nil]

theorem foots_only {Fs : Nat → List Nat} {n c : Nat} (hc : c < n) (h : ∀ k, k ≠ c → Fs k = []) : foots Fs n = Fs c := by
  unfold foots
  induction n with
  | zero => omega
  | succ n ih =>
    rw [List.range_succ, List.flatMap_append]
    simp only [List.flatMap_cons, List.flatMap_nil, List.append_nil]
    by_cases e : c = n
    · subst e
      have : (List.range c).flatMap Fs = [] := by
        rw [List.flatMap_eq_nil_iff]
        intro x hx
        exact h x (by have := List.mem_range.1 hx; omega)
      rw [this, List.nil_append]
    · rw [ih (by omega), h n (by omega), List.append_nil]

/-- The object's own name for its value, where the value has come by a name of the whole. -/
theorem vec_same {id : Id} {n sz sz' : Nat} {ex ex' : Bool} {xs ys : List AV} {u v : Value} {G' G1 G : List Nat} {γ γ' : Env} {L' : Nat → Prop} (h : Rel w L β (.vec id 0 n) u G') (hβ : β id = some (v, sz)) (hn : n = xs.length)
    (hx : Rel w L γ (.own sz ex xs) v G1) (hy : Rel w' L' γ' (.own sz' ex' ys) u G) : ∃ G2, (G2 = G ∨ G2 = []) ∧ Rel w' L' γ' (.own sz' ex' ys) v G2 := by
  have key : u = v ∨ (ys = [] ∧ ∃ A, v = .slice A 0 0) := by
    cases h with
    | vec _ _ _ _ b n' c sz2 A hβ' ho hA hn' =>
      rw [hβ] at hβ'
      injection hβ' with hβ'
      injection hβ' with e1 e2
      subst e1
      have hxl : xs.length = n' := by
        cases hx with
        | ownNil _ _ _ A => rfl
        | own => rfl
      have e3 : n = n' := by omega
      subst e3
      by_cases hc : 0 < c
      · left
        rw [hA hc]
        simp
      · right
        obtain rfl : c = 0 := by omega
        obtain rfl : n = 0 := by omega
        refine ⟨?_, _, rfl⟩
        obtain ⟨A', c', e⟩ := own_len hy
        injection e with _ e _
        exact List.length_eq_zero_iff.1 e.symm
    | vecNil _ _ _ A A' hβ' =>
      rw [hβ] at hβ'
      injection hβ' with hβ'
      injection hβ' with e1 e2
      subst e1
      right
      refine ⟨?_, _, rfl⟩
      obtain ⟨A2, c', e⟩ := own_len hy
      injection e with _ e _
      exact List.length_eq_zero_iff.1 e.symm
  rcases key with rfl | ⟨rfl, A, rfl⟩
  · exact ⟨G, .inl rfl, hy⟩
  · exact ⟨[], .inr rfl, .ownNil _ _ _ _⟩

end
end Go.Av

/- Calls that write into a slice they are handed; returns that leave arguments behind. -/
namespace Go.Av
open Go Go.RowKit

section
variable {X : Fx} {g : Gx} {st st' : St} {a : Act} {w w' : World} {β β' : Env} {F : Key → List Nat} {L : Nat → Prop} {K : List Item} {k : List Item}
variable {ops : Array Oper} {i : Nat} {rest : List Nat} {o : Oper}

def isLit : AV → Bool
  | .lit _ => true
  | _ => false
theorem isLit_ok {x : AV} (h : isLit x = true) : ∃ v, x = .lit v := by cases x <;> simp [isLit] at h; exact ⟨_, rfl⟩

/-- The argument, whole: its slice stands for object id. -/
def lend (id : Id) (z : AV) : Option Nat → AV → Option (Nat × AV)
  | none, .vec id' 0 n' => bif eqId id' id then some (n', z) else none
  | some c, .agg cs => match cs[c]? with
    | some (.vec id' 0 n') => bif eqId id' id && (cs.set c (.lit undef)).all isLit then some (n', .agg (cs.set c z)) else none
    | _ => none
  | _, _ => none

def back : Option Nat → AV → Option AV
  | none, y => some y
  | some c, .agg cs => cs[c]?
  | _, _ => none

theorem lend_ok {id : Id} {n sz : Nat} {ex : Bool} {zs : List AV} {c : Option Nat} {x x' : AV} {u v : Value} {G0 G1 : List Nat} (hl : lend id (.own sz ex zs) c x = some (n, x')) (hx : Rel w L β x u G0) (hn : n = zs.length)
    (hβ : β id = some (v, sz)) (ho : Rel w L β (.own sz ex zs) v G1) :
    ∃ uc G, (G = G1 ∨ G = []) ∧ Rel w L noEnv x' u G ∧ Rel w L β (.vec id 0 n) uc [] ∧
      ∀ {w2 : World} {L2 : Nat → Prop} {γ : Env} {y z : AV} {H : List Nat}, back c y = some z → H.Nodup → Rel w2 L2 γ y u H → ∃ H', (∀ b ∈ H', b ∈ H) ∧ H'.Nodup ∧ Rel w2 L2 γ z uc H' := by
  unfold lend at hl
  split at hl
  · rename_i id' n'
    cases hid : eqId id' id with
    | true =>
      rw [hid] at hl
      have h := (eqId_iff _ _).1 hid
      subst h
      cases hl
      have h0 := hx.vec_nil
      subst h0
      obtain ⟨G, hG, hown⟩ := hx.vec_own hn hβ ho
      refine ⟨u, G, hG, hown.env _ rfl, hx, fun hb hH hy => ?_⟩
      simp only [back, Option.some.injEq] at hb
      subst hb
      exact ⟨_, fun _ h => h, hH, hy⟩
    | false => rw [hid] at hl; cases hl
  · rename_i c cs
    split at hl
    · rename_i id' n' hc
      by_cases hcond : (eqId id' id && (cs.set c (.lit undef)).all isLit) = true
      · rw [hcond] at hl
        simp only [Bool.and_eq_true] at hcond
        obtain ⟨hid, hall⟩ := hcond
        have h := (eqId_iff _ _).1 hid
        subst h
        cases hl
        cases hx with
        | agg _ _ vals Fs hlen hrr =>
        have hcl : c < cs.length := (List.getElem?_eq_some_iff.1 hc).1
        have hcv : c < vals.size := by omega
        have hvec := hrr c _ _ hc (Array.getElem?_eq_getElem hcv)
        have h0 := hvec.vec_nil
        rw [h0] at hvec
        obtain ⟨G, hG, hown⟩ := hvec.vec_own hn hβ ho
        refine ⟨vals[c], G, hG, ?_, hvec, fun {w2 L2 γ y z H} hb hH hy => ?_⟩
        · have := Rel.agg (w := w) (L := L) noEnv (cs.set c (.own sz ex zs)) vals (updN (fun _ => []) c G) (by simpa using hlen) (by
            intro k x u hx hu
            by_cases e : k = c
            · subst e
              rw [List.getElem?_set_self hcl] at hx
              cases hx
              rw [Array.getElem?_eq_getElem hcv] at hu
              cases hu
              rw [updN_same]
              exact hown.env _ rfl
            · rw [List.getElem?_set_ne (Ne.symm e)] at hx
              rw [updN_ne e]
              have hm : x ∈ cs.set c (.lit undef) := by
                refine List.mem_of_getElem? (i := k) ?_
                rw [List.getElem?_set_ne (Ne.symm e)]; exact hx
              obtain ⟨v', rfl⟩ := isLit_ok (List.all_eq_true.1 hall x hm)
              have := hrr k _ u hx hu
              generalize Fs k = Gk at this
              cases this
              exact .lit _ _)
          rw [foots_only (c := c) (by simpa using hcl) (fun k hk => updN_ne hk), updN_same] at this
          exact this
        · cases y with
          | agg cs' =>
            simp only [back] at hb
            cases hy with
            | agg _ _ _ Hs hlen' hrr' =>
            have hcl' : c < cs'.length := (List.getElem?_eq_some_iff.1 hb).1
            exact ⟨Hs c, fun b hb' => foots_sub hcl' hb', (foots_nodup hH c hcl').1, hrr' c z _ hb (Array.getElem?_eq_getElem hcv)⟩
          | _ => simp [back] at hb
      · simp only [Bool.not_eq_true] at hcond
        rw [hcond] at hl
        cases hl
    · cases hl
  · cases hl

/-- A call that is handed an own slice as its first argument (or within it), and leaves it behind otherwise. -/
theorem Run.callo {d : Nat} {fo : Operand} {xs : Array Operand} {ts : Array TypeId} {f : FuncId} (id : Id) (c : Option Nat) {sz n : Nat} {ex ex' : Bool} {zs ys rs : List AV} {x0 x0' y0 : AV} {res : Value}
    (ho : ops[i]? = some o) (hg : guardOf ops st o = some true) (hd : o.dst = some d) (hop : o.op = .call ⟨.value fo, xs, ts⟩) (hf : st.ev fo = .fn f [])
    (hargs : xs.toList.map st.ev = x0 :: rs) (hlit : rs.all isLit = true) (hob : st.obj id = .vec sz ex zs) (hl : lend id (.own sz ex zs) c x0 = some (n, x0')) (hn : n = zs.length)
    (hct : Ct X.P f (x0' :: rs) (.lit res) [y0]) (hb : back c y0 = some (.own sz ex' ys)) (hrf : AV.rfL ys = true)
    (hdn : (Nat.blt d X.fn.ntmps && !(X.pins.contains d)) = true) (h : Run X g (.inRegion ops rest :: k) ((st.setObj id (.vec sz ex' ys)).put d (.lit res))) : Run X g (.inRegion ops (i :: rest) :: k) st := by
  simp only [Bool.and_eq_true, Bool.not_eq_true'] at hdn
  refine Run.opc ho (fun a w hI => guardOf_ok hg a w hI) ?_ h
  rintro hX a w ⟨β, F, hI⟩
  have hfr := ev_rel hI fo (by rw [hf]; rfl)
  rw [hf] at hfr
  generalize hfv : a.eval fo = fv at hfr
  cases hfr with
  | fn _ _ _ vals hlv hr =>
  obtain rfl : vals = #[] := by
    have : vals.size = 0 := by simpa using hlv.symm
    exact Array.eq_empty_of_size_eq_zero this
  refine ⟨f, xs.map a.eval ++ #[], w, run_call hop hfv hct.enters, ?_⟩
  have hobj := hI.obj id
  rw [hob] at hobj
  obtain ⟨v, hβ, hown⟩ := hobj
  have hlen : (xs.toList.map st.ev).length = (x0 :: rs).length := by rw [hargs]
  have hsz : xs.size = rs.length + 1 := by simpa using hlen
  have hev : ∀ (k : Nat) (y : AV) (u : Value), (x0 :: rs)[k]? = some y → (xs.map a.eval)[k]? = some u → ∃ G, Rel w (Lv g F) β y u G := by
    intro k y u hy hu
    rw [← hargs] at hy
    exact evT_ok hI xs.toList k y u hy (by simpa using hu)
  have h0s : 0 < (xs.map a.eval).size := by simp [hsz]
  obtain ⟨Gx, hx0⟩ := hev 0 x0 _ rfl (Array.getElem?_eq_getElem h0s)
  obtain ⟨uc, G, hG, hxr, hvec, hback⟩ := lend_ok hl hx0 hn hβ hown
  have hGs : ∀ b ∈ G, b ∈ F (.o id) := by rintro b hb; rcases hG with rfl | rfl; exact hb; simp at hb
  have hGn : G.Nodup := by rcases hG with rfl | rfl; exact hI.sep.nodup _; simp
  have harg : Rel w (fun b => False ∨ b ∈ G) noEnv (.tup (x0' :: rs)) (.tuple (xs.map a.eval ++ #[])) G := by
    have := Rel.tup (w := w) (L := fun b => False ∨ b ∈ G) noEnv (x0' :: rs) (xs.map a.eval) (updN (fun _ => []) 0 G) (by simp [hsz]) (by
      intro k y u hy hu
      cases k with
      | zero =>
        simp only [List.getElem?_cons_zero, Option.some.injEq] at hy
        subst hy
        rw [Array.getElem?_eq_getElem h0s] at hu
        cases hu
        rw [updN_same]
        refine hxr.sub fun b _ hb => ?_
        rcases hb with hb | hb
        · exact hb.elim
        · exact Lv_of (hGs b hb)
      | succ k =>
        rw [updN_ne (by omega)]
        have hy' : rs[k]? = some y := by simpa using hy
        obtain ⟨v', rfl⟩ := isLit_ok (List.all_eq_true.1 hlit y (List.mem_of_getElem? hy'))
        obtain ⟨G', hr'⟩ := hev (k + 1) _ u (by simpa using hy') hu
        cases hr'
        exact .lit _ _)
    rw [foots_first (by simp) (fun k hk => updN_ne (by omega)), updN_same] at this
    simpa using this
  refine (hct.calls w (fun _ => False) _ G (fun _ h => h.elim) hGn harg).mono ?_
  rintro e w' ⟨v1, F', rfl, hk, hn', hr', hR⟩
  refine ⟨v1, rfl, ?_⟩
  rw [hd]
  cases hR with
  | tup _ _ _ Hs hl2 hrr =>
  have hv1 := hrr 0 _ v1 rfl (by rw [Array.getElem?_append_left (by simp)]; rfl)
  have hv1' : v1 = res := by
    generalize Hs 0 = H0 at hv1
    cases hv1; rfl
  subst hv1'
  have hy0 := hrr 1 y0 ((xs.map a.eval)[0]) rfl (by simp [hsz])
  obtain ⟨G2, hG2s, hG2n, hz⟩ := hback hb (foots_nodup hn' 1 (by simp)).1 hy0
  obtain ⟨G3, hG3, hown'⟩ := vec_same hvec hβ hn hown hz
  have hG3s : ∀ b ∈ G3, b ∈ G ∨ w.heap.size ≤ b := by
    intro b hb
    rcases hG3 with rfl | rfl
    · exact hr' b (foots_sub (by simp) (hG2s b hb))
    · simp at hb
  have hG3n : G3.Nodup := by rcases hG3 with rfl | rfl; exact hG2n; simp
  have h1 : Inv X g (st.setObj id .gone) a w β (updF F (.o id) []) (Lv g F) := hI.setOb id .gone rfl (by simp) (by simp) (by simp)
  have hGr : ∀ b ∈ G, b ∈ g.F0 ∨ g.w0.heap.size ≤ b := fun b hb => hI.range _ b (hGs b hb)
  have h2 : Inv X g (st.setObj id .gone) a w' β (updF F (.o id) []) (fun b => Lv g F b ∨ b ∈ G3) := by
    refine h1.world (M := fun b => b ∈ G) (hI.kp.trans hk hGr) (fun b hb hM => hk.block b hb hM) (fun b hb => Lv_of (hGs b hb)) ?_ ?_
    · rintro b hb (h | h)
      · exact h
      · rcases hG3s b h with h | h
        · exact Lv_of (hGs b h)
        · omega
    · rintro kk b hb hM
      by_cases e : kk = .o id
      · subst e; rw [updF_same] at hb; simp at hb
      · rw [updF_ne _ e] at hb; exact hI.sep.apart _ _ b e hb (hGs b hM)
  have h3 := h2.setOb id (.vec sz ex' ys) (G := G3) ⟨v, hβ, ((hown'.anyL _ (by simpa [AV.rf] using hrf)).env β rfl)⟩ hG3n (by
    intro kk e b hb hb'
    rw [updF_ne _ e] at hb'
    rcases hG3s b hb with h | h
    · exact hI.sep.apart _ _ b e hb' (hGs b h)
    · have := hI.lt kk b hb'; omega) (by
    intro b hb
    rcases hG3s b hb with h | h
    · exact hGr b h
    · exact .inr (Nat.le_trans hI.kp.size h))
  have h4 := (h3.put (d := d) (v := .lit v1) (u := v1) (G := []) (blt_lt hdn.1) (contains_iff hdn.2) (.lit _ _) (by simp) (by simp) (by simp))
  have h5 : SR X g (((st.setObj id .gone).setObj id (.vec sz ex' ys)).put d (.lit v1)) (a.put (some d) v1) w' := by
    refine ⟨_, _, h4.setL fun b _ hb => ?_⟩
    refine Lv_sub (L := fun b => Lv g F b ∨ b ∈ G3) hb (fun kk hk' => ?_) (fun h => Or.inl (Or.inl h))
    by_cases e : kk = .s d
    · subst e; rw [updF_same] at hk'; simp at hk'
    · rw [updF_ne _ e] at hk'
      by_cases e2 : kk = .o id
      · subst e2; rw [updF_same] at hk'; exact .inr hk'
      · rw [updF_ne _ e2, updF_ne _ e2] at hk'; exact .inl (Lv_of hk')
  have hle : St.Le ((st.setObj id (.vec sz ex' ys)).put d (.lit v1)) (((st.setObj id .gone).setObj id (.vec sz ex' ys)).put d (.lit v1)) :=
    ⟨fun d => .inr rfl, fun id' => .inr (by
      rw [St.obj_put, St.obj_put, St.obj_setObj, St.obj_setObj, St.obj_setObj]
      by_cases e : id = id' <;> simp [e])⟩
  exact h5.le hle

/-- The return, where the first argument is left behind. -/
theorem Run.reto {r res x : AV} (hg : g.Post = PostOf g res [x]) (hr : retOf X st = some r) (he : r = res) (h0 : X.pins.contains 0 = true) (hx : st.get 0 = x) (hf : (!(isTop x) && x.free) = true)
    (hk : ((X.fn.results.toList.map st.rkey).all fun k => decide (k ≠ .s 0)) = true) : Run X g (.code .ret :: k) st := by
  obtain ⟨h1, h2, h3⟩ := retOf_ok hr
  simp only [Bool.and_eq_true, Bool.not_eq_true'] at hf
  have hp : 0 ∈ X.pins := by simpa using h0
  refine Run.ret' hg fun hX a w hI => ret_post hX h1 h2 (h3.trans he) ?_ ?_ hI
  · intro j y hy
    cases j with
    | zero =>
      simp only [List.getElem?_cons_zero, Option.some.injEq] at hy
      subst hy
      refine .inr ⟨isTop_ne hf.1, hp, hx, hf.2, fun rv hrv => ?_⟩
      have := List.all_eq_true.1 hk (st.rkey rv) (List.mem_map.2 ⟨rv, hrv, rfl⟩)
      simpa using this
    | succ j => simp at hy
  · obtain ⟨β, F, hI⟩ := hI
    have hpin := hI.pin 0 hp
    obtain ⟨u, hu, _⟩ := hI.slot 0
    have hu := hu.resolve_right (by rw [hx]; exact isTop_ne hf.1)
    rw [hpin] at hu
    have := (Array.getElem?_eq_some_iff.1 hu).1
    simp only [List.length_cons, List.length_nil]
    omega

end
end Go.Av

/- Struct literals. -/
namespace Go.Av
open Go Go.RowKit

section
variable {X : Fx} {g : Gx} {st st' : St} {a : Act} {w w' : World} {β β' : Env} {F : Key → List Nat} {L : Nat → Prop} {K : List Item} {k : List Item}
variable {ops : Array Oper} {i : Nat} {rest : List Nat} {o : Oper}

def fillA (T : Nat → Option TI) (st : St) (place : Nat → Option (Nat × Nat)) : List (Nat × Operand) → List AV → Option (List AV)
  | [], cs => some cs
  | (i, x) :: r, cs => match place i with
    | some (off, sz) => bif (st.ev x).okc && (st.ev x).pl && Nat.beq (st.ev x).cells.length sz && Nat.ble (off + sz) cs.length then fillA T st place r (putAt cs off (st.ev x).cells) else none
    | none => none

theorem foldl_arrSet (vs : List Value) (off n : Nat) (arr : Array Value) : (vs.zipIdx n).foldl (fun cs (c, j) => cs.setIfInBounds (off + j) c) arr = arrSet arr (off + n) vs := by
  induction vs generalizing n arr with
  | nil => rfl
  | cons v vs ih =>
    rw [List.zipIdx_cons, List.foldl_cons, ih]
    rfl

theorem fillA_ok (h : Inv X g st a w β F L) (place : Nat → Option (Nat × Nat)) : ∀ (ps : List (Nat × Operand)) (cs cs' : List AV) (arr : Array Value), fillA X.T st place ps cs = some cs' → cs.length = arr.size →
    (∀ (k : Nat) (x : AV) (u : Value), cs[k]? = some x → arr[k]? = some u → Rel w L β x u []) →
    ∃ arr', Instr.fill place arr (ps.map fun (i, x) => (i, a.eval x)) = some arr' ∧ cs'.length = arr'.size ∧ ∀ (k : Nat) (x : AV) (u : Value), cs'[k]? = some x → arr'[k]? = some u → Rel w L β x u [] := by
  intro ps
  induction ps with
  | nil => intro cs cs' arr hf hl hr; cases hf; exact ⟨arr, rfl, hl, hr⟩
  | cons p ps ih =>
    obtain ⟨i, x⟩ := p
    intro cs cs' arr hf hl hr
    simp only [fillA] at hf
    split at hf
    · rename_i off sz hpl
      by_cases hc : ((st.ev x).okc && (st.ev x).pl && Nat.beq (st.ev x).cells.length sz && Nat.ble (off + sz) cs.length) = true
      · rw [hc] at hf
        simp only [cond_true] at hf
        simp only [Bool.and_eq_true] at hc
        obtain ⟨⟨⟨h1, h2⟩, h3⟩, h4⟩ := hc
        have h3 := Nat.eq_of_beq_eq_true h3
        have h4 := Nat.le_of_ble_eq_true h4
        obtain ⟨Gs, hlx, hG, hone, hrx⟩ := (ev_rel h x h2).cells h1
        have hGs : ∀ k, k < (st.ev x).cells.length → Gs k = [] := by
          intro k hk
          cases hg' : Gs k with
          | nil => rfl
          | cons c r => have : c ∈ foots Gs (st.ev x).cells.length := foots_sub hk (by rw [hg']; simp); rw [← hG] at this; simp at this
        obtain ⟨arr', e1, e2, e3⟩ := ih _ _ (arrSet arr off (a.eval x).cells.toList) hf (by rw [putAt_length _ _ _ (by omega), size_arrSet, hl]) (by
          intro k y u hy hu
          rw [putAt_get _ _ _ (by omega)] at hy
          rw [get_arrSet _ _ _ (by simp; omega)] at hu
          simp only [Array.length_toList] at hu
          by_cases hk : off ≤ k ∧ k < off + (st.ev x).cells.length
          · rw [if_pos hk] at hy
            rw [if_pos (by omega)] at hu
            have := hrx (k - off) y u hy (by simpa using hu)
            rwa [hGs (k - off) (by omega)] at this
          · rw [if_neg hk] at hy
            rw [if_neg (by omega)] at hu
            exact hr k y u hy hu)
        refine ⟨arr', ?_, e2, e3⟩
        simp only [List.map_cons, Instr.fill, hpl]
        rw [if_neg (by simp; omega)]
        rw [← e1]
        congr 1
        have := foldl_arrSet (a.eval x).cells.toList off 0 arr
        rw [Nat.add_zero] at this
        rw [← this, ← Array.foldl_toList]
        simp
      · simp only [Bool.not_eq_true] at hc; rw [hc] at hf; simp at hf
    · cases hf

/-- An empty slice in a box's cell is one that nobody else has. -/
theorem SR.nilBox {id0 : Id} {c sz : Nat} {ex : Bool} {cs : List AV} {A : Option Addr} (hd : st.obj id0 = .box cs) (hc : cs[c]? = some (.lit (.slice A 0 0))) (h : SR X g st a w) :
    SR X g (st.setObj id0 (.box (cs.set c (.own sz ex [])))) a w := by
  obtain ⟨β, F, h⟩ := h
  have hob0 := h.obj id0
  rw [hd] at hob0
  obtain ⟨b, arr, T, lo, hi, Fs, hβ0, hb, hfz, hs, hrr, hF⟩ := hob0
  have hcl : c < cs.length := (List.getElem?_eq_some_iff.1 hc).1
  have h1 := h.setOb id0 (.box (cs.set c (.own sz ex []))) (G := F (.o id0)) (by
    refine ⟨b, arr, T, lo, hi, Fs, hβ0, hb, hfz, by simpa using hs, ?_, by rw [List.length_set]; exact hF⟩
    intro k x u hx hu
    by_cases e : k = c
    · subst e
      rw [List.getElem?_set_self hcl] at hx
      cases hx
      have := hrr k _ u hc hu
      generalize Fs k = G at this
      cases this
      exact .ownNil _ _ _ _
    · rw [List.getElem?_set_ne (Ne.symm e)] at hx
      exact hrr k x u hx hu) (h.sep.nodup _) (fun k hk b hb hb' => h.sep.apart _ _ b hk hb' hb) (fun b hb => h.range _ b hb)
  exact ⟨_, _, h1.setL fun b _ hb => by
    rcases hb with hb | ⟨kk, hb⟩
    · exact .inl hb
    · by_cases e : kk = .o id0
      · subst e; rw [updF_same] at hb; exact Lv_of hb
      · rw [updF_ne _ e] at hb; exact Lv_of hb⟩

theorem Run.nilBox (id0 : Id) (c sz : Nat) (ex : Bool) {cs : List AV} {A : Option Addr} (hd : st.obj id0 = .box cs) (hc : cs[c]? = some (.lit (.slice A 0 0)))
    (h : Run X g K (st.setObj id0 (.box (cs.set c (.own sz ex []))))) : Run X g K st := Run.ghost (fun _ _ hI => hI.nilBox hd hc) h

/-- .. in a slot. -/
theorem Run.nilSlot (d sz : Nat) (ex : Bool) {A : Option Addr} (hd : st.get d = .lit (.slice A 0 0)) (h : Run X g K (st.put d (.own sz ex []))) : Run X g K st :=
  Run.ghost (fun _ _ hI => hI.conv (fun w L β u G hr => by rw [hd] at hr; cases hr; exact ⟨[], by simp, by simp, .ownNil _ _ _ _⟩) (by rw [hd]; simp)) h

end
end Go.Av

/- Small words for contracts: whole numbers, bools, lists of them. -/
namespace Go.Av
open Go Go.RowKit

abbrev i64 (n : Int) : AV := .lit (.int .i64 n)
abbrev u8 (n : Int) : AV := .lit (.int .u8 n)
abbrev bo (b : Bool) : AV := .lit (.bool b)

theorem wrap_i64 {n : Int} (h1 : -9223372036854775808 ≤ n) (h2 : n ≤ 9223372036854775807) : IntKind.i64.wrap n = n := by
  have e : IntKind.i64.wrap n = if n % 18446744073709551616 ≥ 9223372036854775808 then n % 18446744073709551616 - 18446744073709551616 else n % 18446744073709551616 := by
    simp [IntKind.wrap, IntKind.bits, IntKind.signed]
  rw [e]
  split <;> omega
theorem rfL_map {α : Type} {f : α → AV} (h : ∀ x, (f x).rf = true) (l : List α) : AV.rfL (l.map f) = true := by
  induction l with
  | nil => rfl
  | cons x l ih => simp [AV.rfL, h x, ih]
theorem frzL_map {α : Type} {f f' : α → AV} (h : ∀ x, (f x).frz = f' x) (l : List α) : AV.frzL (l.map f) = l.map f' := by
  rw [AV.frzL_eq, List.map_map]
  exact List.map_congr_left fun x _ => h x
theorem rf_own {α : Type} {f : α → AV} (h : ∀ x, (f x).rf = true) {sz : Nat} {ex : Bool} (l : List α) : (AV.own sz ex (l.map f)).rf = true := rfL_map h l

theorem fill_step {α : Type} {f : α → AV} {z : AV} {l : List α} {j : Nat} (h : j < l.length) :
    ((l.take j).map f ++ List.replicate (l.length - j) z).set j (f l[j]) = (l.take (j + 1)).map f ++ List.replicate (l.length - (j + 1)) z := by
  rw [fill_set _ _ _ _ _ (by simp; omega) h, List.take_succ_eq_append_getElem h, List.map_append]
  rfl
theorem fill_at {α : Type} {f : α → AV} {z : AV} {l : List α} {j : Nat} (h : j < l.length) : ((l.take j).map f ++ List.replicate (l.length - j) z)[j]? = some z :=
  fill_get ((l.take j).map f) z j l.length (by simp; omega) h
end Go.Av

/- Regions whose order is drawn: every order that may be drawn, one after the other. -/
namespace Go.Av
open Go Go.RowKit

/-- All orders that may be drawn. -/
def ords (md : Region.Mode) (ops : Array Oper) : Nat → Array Bool → List (List Nat)
  | 0, _ => [[]]
  | n + 1, listed => match Region.ready md ops listed with
    | [] => [[]]
    | rs => rs.flatMap fun i => (ords md ops n (listed.setIfInBounds i true)).map (i :: ·)

theorem linearise_mem (md : Region.Mode) (ops : Array Oper) : ∀ (fuel t : Nat) (listed : Array Bool), Region.linearise.go md ops fuel t listed [] ∈ ords md ops fuel listed := by
  intro fuel
  induction fuel with
  | zero => intro t listed; simp [Region.linearise.go, ords]
  | succ fuel ih =>
    intro t listed
    simp only [Region.linearise.go]
    change (match (Region.ready md ops listed)[t % (Region.ready md ops listed).length]? with
      | some i => Region.linearise.go md ops fuel (t / (Region.ready md ops listed).length) (listed.setIfInBounds i true) [i]
      | none => [].reverse) ∈ _
    cases hr : Region.ready md ops listed with
    | nil => simp [ords, hr]
    | cons x xs =>
      have hlt : t % (x :: xs).length < (x :: xs).length := Nat.mod_lt _ (by simp)
      rw [List.getElem?_eq_getElem hlt]
      simp only []
      rw [linearise_go_acc, List.reverse_singleton, List.singleton_append]
      simp only [ords, hr]
      refine List.mem_flatMap.2 ⟨_, List.getElem_mem hlt, List.mem_map.2 ⟨_, ih _ _, rfl⟩⟩

def AllL {α : Type} (p : α → Prop) : List α → Prop
  | [] => True
  | x :: xs => p x ∧ AllL p xs
theorem AllL.mem {α : Type} {p : α → Prop} {l : List α} (h : AllL p l) : ∀ x ∈ l, p x := by
  induction l with
  | nil => intro x hx; simp at hx
  | cons y l ih =>
    intro x hx
    rcases List.mem_cons.1 hx with rfl | hx
    · exact h.1
    · exact ih h.2 x hx

section
variable {X : Fx} {g : Gx} {st : St} {k : List Item} {ops : Array Oper}

theorem SR.draw {a : Act} {w : World} (h : SR X g st a w) : SR X g st a { w with drawn := w.drawn + 1 } := by
  obtain ⟨β, F, h⟩ := h
  exact ⟨β, F, h.world (M := fun _ => False) (h.kp.trans (F1 := []) ⟨rfl, rfl, rfl, Nat.le_refl _, fun _ _ _ => rfl⟩ (by simp)) (fun _ _ _ => rfl) (fun _ h => h.elim) (fun _ _ h => h) (fun _ _ _ h => h)⟩

/-- A region, in every order that may be drawn; they come together in state S. -/
theorem Run.drawn {id : Nat} (L : List (List Nat)) (S : St) (hL : ords .any ops ops.size (Array.replicate ops.size false) = L) (hm : X.P.follows .mixedOrders = true)
    (hj : Run X g k S) (h : ∀ k', Nxt (X := X) (g := g) (K := k') S → AllL (fun l => Run X g (.inRegion ops l :: k') st) L) : Run X g (.code (.region id ops true) :: k) st := by
  intro hX a w b cs hI hf hk
  have hall := (h k hj).mem
  have key : ∀ t, Region.schedule (X.P.follows .mixedOrders) ops t ∈ L := by
    intro t
    rw [← hL]
    simp only [Region.schedule, hm, Bool.true_or, if_true]
    exact linearise_mem .any ops ops.size t _
  obtain ⟨v, w', fr, hp, hst⟩ := hall _ (key _) hX a _ b cs hI.draw hf hk
  exact ⟨v, w', fr, hp, .head stepR_region_draw hst⟩

/-- A region in the text's order, whose branches come together in state S. -/
theorem Run.region {id : Nat} (S : St) (hj : Run X g k S) (h : ∀ k', Nxt (X := X) (g := g) (K := k') S → Run X g (.inRegion ops (List.range ops.size) :: k') st) : Run X g (.code (.region id ops false) :: k) st :=
  Run.ctl rfl (h k hj)

theorem Quiet.mono {K K' : St → Prop} {l : List Oper} (hK : ∀ s, K s → K' s) (h : Quiet X g ops K l st) : Quiet X g ops K' l st := by
  intro hX a w β F hI
  refine wpQuiet_mono' ?_ (h hX a w β F hI)
  rintro a' ⟨st', β', F', hs, hI'⟩
  exact ⟨st', β', F', hK _ hs, hI'⟩

/-- A region whose order is drawn and that only reads; its branches come together in state S. -/
theorem Run.drawS {id : Nat} {l : List Oper} (S : St) (hm : X.P.follows .mixedOrders = true) (hB : Region.lexB .any l.toArray = true)
    (h : Quiet X g l.toArray (fun st' => St.Le S st') l st) (hj : Run X g k S) (hrd : g.rd = none := by first | exact rd_plain (by assumption) | exact rd_marked (by assumption)) : Run X g (.code (.region id l.toArray true) :: k) st :=
  Run.draw hm hB (h.mono fun _ hs => Run.le hs hj) hrd
end
end Go.Av

/- Slice literals; append to an own slice. -/
namespace Go.Av
open Go Go.RowKit

section
variable {X : Fx} {g : Gx} {st st' : St} {a : Act} {w w' : World} {β β' : Env} {F : Key → List Nat} {L : Nat → Prop} {K : List Item} {k : List Item}
variable {ops : Array Oper} {i : Nat} {rest : List Nat} {o : Oper}

def zerosA (ti : TI) (n : Nat) : List AV := (List.range (n * ti.sz)).map fun k => .lit (ti.zero.getD (k % ti.sz) undef)

/-- A slice literal. -/
theorem Run.buildSlice {d t e n : Nat} {ps : Array (Nat × Operand)} {ti : TI} {cs : List AV} (ys : List AV) (ho : ops[i]? = some o) (hg : guardOf ops st o = some true) (hd : o.dst = some d) (hop : o.op = .buildSlice t n ps)
    (hT : sliceAt X.T t = some (e, ti)) (hzl : Nat.beq ti.zero.length ti.sz = true) (hpos : Nat.blt 0 ti.sz = true) (hb : Nat.ble (n * ti.sz) 16777216 = true)
    (hf : fillA X.T st (fun i => some (i * ti.sz, ti.sz)) ps.toList (zerosA ti n) = some cs) (hys : flatc ys = cs) (hyl : Nat.beq ys.length n = true) (hz : (ys.all fun y => Nat.beq y.cells.length ti.sz) = true) (hfree : AV.freeL cs = true)
    (hdn : (Nat.blt d X.fn.ntmps && !(X.pins.contains d)) = true)
    (h : Run X g (.inRegion ops rest :: k) (st.put d (.own ti.sz true ys))) : Run X g (.inRegion ops (i :: rest) :: k) st := by
  subst hys
  simp only [Bool.and_eq_true, Bool.not_eq_true'] at hdn
  refine Run.op ho (fun a w hI => guardOf_ok hg a w hI) ?_ h
  rintro hX a w ⟨β, F, hI⟩
  obtain ⟨i', h1, h2, h3⟩ := sliceAt_ok hX hT
  obtain ⟨j, z, hj, hz0, hjs, hjb, hzc⟩ := zero_run' h3
  have hzl' := Nat.eq_of_beq_eq_true hzl
  have hpos' := blt_lt hpos
  have hb' := Nat.le_of_ble_eq_true hb
  have hyl' := Nat.eq_of_beq_eq_true hyl
  have hz' : ∀ y ∈ ys, y.cells.length = ti.sz := fun y hy => Nat.eq_of_beq_eq_true (List.all_eq_true.1 hz y hy)
  have hs := un_run h1 w
  rw [h2] at hs
  have hzsz : z.cells.size = ti.sz := by rw [← hzl', ← hzc]; simp
  let arr : Array Value := (Array.range (n * ti.sz)).map (z.cells[· % z.cells.size]!)
  have harr : arr.size = n * ti.sz := by simp [arr]
  obtain ⟨arr', e1, e2, e3⟩ := fillA_ok hI _ _ _ _ arr hf (by simp [zerosA, harr]) (by
    intro k x u hx hu
    have hk : k < n * ti.sz := by rw [← harr]; exact (Array.getElem?_eq_some_iff.1 hu).1
    simp only [zerosA] at hx
    rw [List.getElem?_map, List.getElem?_range hk] at hx
    simp only [Option.map_some, Option.some.injEq] at hx
    subst hx
    have hkz : k % ti.sz < z.cells.size := by rw [hzsz]; exact Nat.mod_lt _ hpos'
    have hu' : u = z.cells[k % ti.sz] := by
      simp only [arr] at hu
      rw [Array.getElem?_map, Array.getElem?_range, if_pos hk] at hu
      simp only [Option.map_some, Option.some.injEq] at hu
      rw [← hu, hzsz, getElem!_pos z.cells _ hkz]
    have : ti.zero.getD (k % ti.sz) undef = u := by
      rw [hu', ← hzc, List.getD_eq_getElem?_getD, Array.getElem?_toList, Array.getElem?_eq_getElem hkz]
      rfl
    rw [this]
    exact .lit _ _)
  refine ⟨.slice (some ⟨w.heap.size, 0, none⟩) n n, w.alloc (.cells arr' e), .inl ?_, ?_⟩
  · have hn24 : ¬ (2 ^ 24 < n * ti.sz) := by omega
    have hzr : (zeroValue e).run X.P w = .ok z w := by simp [zeroValue, typeInfo, hj, hz0]
    have hfill : Instr.fill (fun i => some (i * ti.sz, ti.sz)) arr (ps.toList.map fun x => (x.1, a.eval x.2)) = some arr' := e1
    by_cases hn0 : n * ti.sz = 0
    · have ha0 : arr = #[] := Array.eq_empty_of_size_eq_zero (by rw [harr]; exact hn0)
      rw [ha0] at hfill
      have hr0 : ((Array.range 0).map fun _ => (default : Value)) = #[] := Array.eq_empty_of_size_eq_zero (by simp)
      simp [execOp, hop, Instr.buildSlice, hs, sizeOf, typeInfo, hj, hjs, hn0, hr0, hfill, newRow]
    · simp [execOp, hop, Instr.buildSlice, hs, sizeOf, typeInfo, hj, hjs, hn0, hn24, hzr, newRow]
      simp only [arr] at hfill
      rw [hfill]
      simp
  · rw [hd]
    have hlen : (flatc ys).length = arr'.size := e2
    refine hI.made (sz := ti.sz) (n := n) (ex := true) (zs := ys) (vals := arr'.toList) (Hs := fun _ => []) (Bs := []) (Bs' := [w.heap.size]) (fun k b hb => Lv_of hb) (fun b hb => .inl hb)
      ⟨rfl, rfl, rfl, by simp, fun k hk _ => Below.heap_alloc w _ k hk⟩ (by simp) (.inr ⟨_, rfl, Nat.le_refl _⟩) (by simp) ?_ hyl'.symm hz' ?_ (by rw [foots_nil fun _ _ => rfl]; simp) (by rw [foots_nil fun _ _ => rfl]; simp) (blt_lt hdn.1) (contains_iff hdn.2)
    · refine .inr ⟨w.heap.size, n, arr', e, 0, 0, rfl, heap_alloc_new' _ _, ⟨by intro k _ h; omega, fun _ h => by omega⟩, by rw [← hlen, flatc_length hz', hyl'], Nat.le_refl _, ?_, fun _ => rfl, ?_, rfl⟩
      · have : n ≤ n * ti.sz := Nat.le_mul_of_pos_right n hpos'
        simp only [capMax]; omega
      · rw [List.take_of_length_le]
        rw [Array.length_toList, ← hlen, flatc_length hz', hyl']
        exact Nat.le_refl _
    · intro k x u hx hu
      exact (e3 k x u hx (by simpa using hu)).env noEnv (AV.freeL_get hfree k x hx)

theorem OwnCells.first {P : Program} {v : Value} {n sz : Nat} {vals : List Value} {Bs : List Nat} {ex : Bool} (h : OwnCells w v n vals sz Bs ex) (hl : vals.length = n * sz) (w2 : World) (hw : w2.heap = w.heap) :
    (∃ A c, v = .slice A n c) ∧ (Builtin.firstCells sz n v).run P w2 = .ok vals.toArray w2 := by
  rcases h with ⟨A, rfl, rfl, rfl, _⟩ | ⟨b, c, arr, T, lo, hi, rfl, hb, _, hs, hc, _, _, ht, _⟩
  · refine ⟨⟨_, _, rfl⟩, ?_⟩
    cases A with
    | none => rfl
    | some a => simp [Builtin.firstCells, loadCells, loadCellsFrom]
  · refine ⟨⟨_, _, rfl⟩, ?_⟩
    refine run_firstCells_some (P := P) w2 sz n ⟨b, 0, none⟩ n c vals hl fun k v hk => ?_
    rw [addr_add]
    rw [← ht, List.getElem?_take] at hk
    split at hk
    · simp [World.cell?, hw, hb]; simpa using hk
    · cases hk

/-- One cell each. -/
def oneC (xs : List AV) : Bool := xs.all fun x => x.cells.all AV.one

theorem oneC_flat {xs : List AV} (h : oneC xs = true) : ∀ (k : Nat) (x : AV), (flatc xs)[k]? = some x → x.one = true := by
  intro k x hx
  have hm := List.mem_of_getElem? hx
  obtain ⟨y, hy, hxy⟩ := List.mem_flatMap.1 hm
  exact List.all_eq_true.1 (List.all_eq_true.1 h y hy) x hxy

theorem foots_append (A B : Nat → List Nat) (n m : Nat) : foots (fun k => if k < n then A k else B (k - n)) (n + m) = foots A n ++ foots B m := by
  unfold foots
  rw [List.range_add, List.flatMap_append, List.flatMap_map]
  congr 1
  · rw [List.flatMap_def, List.flatMap_def]
    congr 1
    refine List.map_congr_left fun k hk => ?_
    rw [if_pos (List.mem_range.1 hk)]
  · rw [List.flatMap_def, List.flatMap_def]
    congr 1
    refine List.map_congr_left fun k hk => ?_
    rw [if_neg (by omega), Nat.add_sub_cancel_left]

/-- append(s, t...) where s is an object and t an own slice in a slot: both are given up. -/
theorem Run.appendo {d s e t u te : Nat} {ti tu : TI} {id : Id} {n sz : Nat} {ex ex' : Bool} {xs ys : List AV} (ho : ops[i]? = some o) (hg : guardOf ops st o = some true) (hd : o.dst = some d)
    (hop : o.op = .call ⟨.builtin .append, #[.tmp s, .tmp e], #[t, u]⟩) (hT : sliceAt X.T t = some (te, ti)) (hU : X.T u = some tu) (hui : (match tu.ud with | .slice _ => true | .string => true | _ => false) = true)
    (hs : st.get s = .vec id 0 n) (hob : st.obj id = .vec sz ex xs) (he : st.get e = .own sz ex' ys) (hsz : ti.sz = sz) (hzl : Nat.beq ti.zero.length ti.sz = true) (hn : n = xs.length)
    (hone : oneC ys = true) (hlen : (xs.length + ys.length) * ti.by' ≤ 140737488355328) (hcap : xs.length + ys.length ≤ capMax) (hed : e ≠ d) (hdn : (Nat.blt d X.fn.ntmps && !(X.pins.contains d)) = true)
    (h : Run X g (.inRegion ops rest :: k) (((st.setObj id .gone).put e .top).put d (.own sz false (xs ++ ys)))) : Run X g (.inRegion ops (i :: rest) :: k) st := by
  subst hsz
  simp only [Bool.and_eq_true, Bool.not_eq_true'] at hdn
  refine Run.op ho (fun a w hI => guardOf_ok hg a w hI) ?_ h
  rintro hX a w ⟨β, F, hI⟩
  obtain ⟨i', h1, h2, h3⟩ := sliceAt_ok hX hT
  have hu := ty_of hX hU
  have hsv := hI.slotv (d := s) (by rw [hs]; simp)
  have hev := hI.slotv (d := e) (by rw [he]; simp)
  rw [hs] at hsv
  rw [he] at hev
  rw [hsv.vec_nil] at hsv
  have hobj := hI.obj id
  rw [hob] at hobj
  obtain ⟨v, hβ, hown⟩ := hobj
  obtain ⟨G, hG, hx⟩ := hsv.vec_own hn hβ hown
  have hGs : ∀ b ∈ G, b ∈ F (.o id) := by rintro b hb; rcases hG with rfl | rfl; exact hb; simp at hb
  have hGn : G.Nodup := by rcases hG with rfl | rfl; exact hI.sep.nodup _; simp
  obtain ⟨vx, Fx, Bx, ocx, hzx, hvx, hrx, hGx⟩ := hx.ownCells
  obtain ⟨vy, Fy, By, ocy, hzy, hvy, hry, hFy⟩ := hev.ownCells
  have hey := ocy.first (P := X.P) hvy w rfl
  obtain ⟨⟨Ay, cy, huy⟩, _⟩ := hey
  have hynd : (F (.s e)).Nodup := hI.sep.nodup _
  rw [hFy] at hynd
  rw [hGx] at hGn
  obtain ⟨nx1, nx2, nx3⟩ := List.nodup_append.1 hGn
  obtain ⟨ny1, ny2, ny3⟩ := List.nodup_append.1 hynd
  have hxs : ∀ b, b ∈ Bx ∨ b ∈ foots Fx (flatc xs).length → b ∈ F (.o id) := fun b hb => hGs b (by rw [hGx]; exact List.mem_append.2 hb)
  have hys : ∀ b, b ∈ foots Fy (flatc ys).length → b ∈ F (.s e) := fun b hb => by rw [hFy]; exact List.mem_append_right _ hb
  have hkk : Key.o id ≠ Key.s e := by intro e; cases e
  have hone' : ∀ c ∈ vy, c.oneCell' = true := by
    intro c hc
    obtain ⟨k, hk, rfl⟩ := List.getElem_of_mem hc
    have hk' : k < (flatc ys).length := by rw [flatc_length hzy, ← hvy]; exact hk
    exact ((hry k _ _ (List.getElem?_eq_getElem hk') (List.getElem?_eq_getElem hk)).oneCell (oneC_flat hone k _ (List.getElem?_eq_getElem hk'))).1
  have hdu : ∀ kk, tu.ud ≠ .int kk := by intro kk e; rw [e] at hui; cases hui
  have ht' : X.P.underlying t = some (.slice te) := by rw [h1.ud, h2]
  obtain ⟨v', w', Bs', e1, e2, e3, e4⟩ := append_run (P := X.P) (w := w) (t := t) (u := u) (ty := o.type) ht' hu.ud hdu h3 (Nat.eq_of_beq_eq_true hzl) ocx (x := a.tmps.getD e undef) (m := ys.length) (news := vy)
    (fun w2 => by rw [huy]; rfl) (fun w2 hw2 => (ocy.first (P := X.P) hvy w2 hw2).2) hvy hone' hlen hcap
  refine ⟨v', w', .inl ?_, ?_⟩
  · obtain ⟨dst, op, type, pos, after, guard⟩ := o
    simp only at hop
    subst hop
    simp only [execOp, Sem.run_bind, resolve_builtin, Result.andThen_ok, invoke, builtin]
    have e1' : (Builtin.append_ #[t, u] type #[a.eval (.tmp s), a.eval (.tmp e)]).run X.P w = .ok v' w' := e1
    simp [e1']
  · rw [hd]
    have h0 : Inv X g (st.setObj id .gone) a w β (updF F (.o id) []) (Lv g F) := hI.setOb id .gone rfl (by simp) (by simp) (by simp)
    have h1' := h0.drop e
    have hsub : ∀ kk b, b ∈ updF (updF F (.o id) []) (.s e) [] kk → b ∈ F kk ∧ kk ≠ .o id ∧ kk ≠ .s e := by
      intro kk b hb
      by_cases x1 : kk = .s e
      · subst x1; rw [updF_same] at hb; simp at hb
      · rw [updF_ne _ x1] at hb
        by_cases x2 : kk = .o id
        · subst x2; rw [updF_same] at hb; simp at hb
        · rw [updF_ne _ x2] at hb; exact ⟨hb, x2, x1⟩
    have hfo := foots_append Fx Fy (flatc xs).length (flatc ys).length
    have hfl : (flatc (xs ++ ys)).length = (flatc xs).length + (flatc ys).length := by rw [flatc_append, List.length_append]
    have apx : ∀ b kk, b ∈ F (.o id) → b ∉ updF (updF F (.o id) []) (.s e) [] kk := fun b kk hb hb' => by
      obtain ⟨q1, q2, _⟩ := hsub kk b hb'
      exact hI.sep.apart _ _ b (Ne.symm q2) hb q1
    have apy : ∀ b kk, b ∈ F (.s e) → b ∉ updF (updF F (.o id) []) (.s e) [] kk := fun b kk hb hb' => by
      obtain ⟨q1, _, q3⟩ := hsub kk b hb'
      exact hI.sep.apart _ _ b (Ne.symm q3) hb q1
    refine h1'.made (L := Lv g F) (zs := xs ++ ys) (Hs := fun kk => if kk < (flatc xs).length then Fx kk else Fy (kk - (flatc xs).length)) (fun kk b hb => Lv_of (hsub kk b hb).1) (fun b hb => .inl hb) e3
      (fun b hb => ⟨Lv_of (hxs b (.inl hb)), fun kk => apx b kk (hxs b (.inl hb)), hI.range _ b (hxs b (.inl hb))⟩) e4 nx1 e2 (by simp) ?_ ?_ ?_ ?_ (blt_lt hdn.1) (contains_iff hdn.2)
    · intro x hx'
      rcases List.mem_append.1 hx' with hx' | hx'
      · exact hzx x hx'
      · exact hzy x hx'
    · intro kk x uu hx' hu'
      rw [flatc_append] at hx'
      have hvxl : vx.length = (flatc xs).length := by rw [hvx, flatc_length hzx]
      by_cases hk : kk < (flatc xs).length
      · rw [List.getElem?_append_left hk] at hx'
        rw [List.getElem?_append_left (by omega)] at hu'
        simp only [if_pos hk]
        exact hrx kk x uu hx' hu'
      · rw [List.getElem?_append_right (by omega)] at hx'
        rw [List.getElem?_append_right (by omega), hvxl] at hu'
        simp only [if_neg hk]
        exact hry _ x uu hx' hu'
    · rw [hfl, hfo]
      refine List.nodup_append.2 ⟨nx2, ny2, fun b hb b' hb' e' => ?_⟩
      subst e'
      exact hI.sep.apart _ _ b hkk (hxs b (.inr hb)) (hys b hb')
    · intro b hb
      rw [hfl, hfo] at hb
      rcases List.mem_append.1 hb with hb | hb
      · exact ⟨Lv_of (hxs b (.inr hb)), fun hb' => nx3 b hb' b hb rfl, fun kk => apx b kk (hxs b (.inr hb)), hI.range _ b (hxs b (.inr hb)), hI.lt _ b (hxs b (.inr hb))⟩
      · exact ⟨Lv_of (hys b hb), fun hb' => hI.sep.apart _ _ b hkk (hxs b (.inl hb')) (hys b hb), fun kk => apy b kk (hys b hb), hI.range _ b (hys b hb), hI.lt _ b (hys b hb)⟩

/-- An empty slice, exact or not. -/
theorem Run.loosen0 (d : Nat) {sz : Nat} (hd : st.get d = .own sz true []) (h : Run X g K (st.put d (.own sz false []))) : Run X g K st :=
  Run.ghost (fun _ _ hI => hI.conv (fun w L β u G hr => by
    rw [hd] at hr
    refine ⟨[], by simp, by simp, ?_⟩
    cases hr with
    | ownNil => exact .ownNil _ _ _ _
    | own _ _ _ _ b c arr T lo hi Fs hb hfz hs hz hr hc hm he =>
      have : c = 0 := he rfl
      subst this
      exact .ownNil _ _ _ _) (by rw [hd]; simp)) h
end
end Go.Av

/- Maps with whole-number keys, which only the running call has. -/
namespace Go.Av
open Go Go.RowKit Go.MapKept

section
variable {X : Fx} {g : Gx} {st st' : St} {a : Act} {w w' : World} {β β' : Env} {F : Key → List Nat} {L : Nat → Prop} {K : List Item} {k : List Item}
variable {ops : Array Oper} {i : Nat} {rest : List Nat} {o : Oper}

theorem Run.opE {π : Type} (S : π → St) (ho : ops[i]? = some o) (hw : ∀ a w, SR X g st a w → Region.wanted o (yielded ops a.tmps) = true)
    (hs : X.Ok → ∀ a w, SR X g st a w → ∃ p u w', ((execOp a.eval o).run X.P w = .ok (.value u) w' ∨ ((execOp a.eval o).run X.P w = .ok .skip w' ∧ u = undef)) ∧ SR X g (S p) (a.put o.dst u) w')
    (h : ∀ p, Run X g (.inRegion ops rest :: k) (S p)) : Run X g (.inRegion ops (i :: rest) :: k) st := by
  intro hX a w b cs hI hf hk
  obtain ⟨p, u, w1, hr, hI'⟩ := hs hX a w hI
  obtain ⟨v, w', fr, hp, hst⟩ := h p hX (a.put o.dst u) w1 b cs hI' hf hk
  refine ⟨v, w', fr, hp, .head ?_ hst⟩
  have hg := stepGR_op (P := X.P) (b := b) (k := k) (cs := cs) (w := w) (rest := rest) ho (hw a w hI)
  rw [Oper.semAt_eq _ _ _ (not_defer_of (by
    rcases hr with hr | ⟨hr, _⟩
    · exact ⟨_, _, hr, by simp⟩
    · exact ⟨_, _, hr, by simp⟩))] at hg
  refine step_lone_go ?_
  rw [← finish_op ho]
  rcases hr with hr | ⟨hr, rfl⟩
  · rw [hg]; simp [stepG.apply, hr]
  · rw [hg]; simp [stepG.apply, hr]

end
end Go.Av

/- Array literals. -/
namespace Go.Av
open Go Go.RowKit

section
variable {X : Fx} {g : Gx} {st st' : St} {a : Act} {w w' : World} {β β' : Env} {F : Key → List Nat} {L : Nat → Prop} {K : List Item} {k : List Item}
variable {ops : Array Oper} {i : Nat} {rest : List Nat} {o : Oper}

/-- A box that is only read from now on: the pointer in slot d is one into memory that is only read. -/
theorem SR.freezeBox {d : Nat} {id : Id} {cs cs' : List AV} (hd : st.get d = .bp id 0) (ho : st.obj id = .box cs) (hcs : AV.frzL cs = cs') (hfr : AV.freeL cs' = true) (h : SR X g st a w) :
    SR X g ((st.setObj id .gone).put d (.rp cs' 0)) a w := by
  subst hcs
  obtain ⟨β, F, h⟩ := h
  have hob := h.obj id
  rw [ho] at hob
  obtain ⟨b, arr, T, lo, hi, Fs, hβ, hb, hfz, hs, hrr, hF⟩ := hob
  have hL : ∀ b, Lv g (updF F (.o id) []) b → Lv g F b := fun b hb => Lv_updF_nil hb
  have hout : ∀ b ∈ F (.o id), ¬ Lv g (updF F (.o id) []) b := by
    rintro b hb (h0 | ⟨k, hk⟩)
    · obtain ⟨h1, h2⟩ := g.hL b h0
      rcases h.range _ b hb with h3 | h3
      · exact h2 h3
      · omega
    · by_cases e : k = .o id
      · subst e; rw [updF_same] at hk; simp at hk
      · rw [updF_ne _ e] at hk; exact h.sep.apart _ _ b e hk hb
  refine ⟨β, updF F (.o id) [], h.defers, h.size, h.kp, ⟨?_, ?_⟩, ?_, ?_, ?_, h.pin⟩
  · intro k
    by_cases e : k = .o id
    · subst e; rw [updF_same]; simp
    · rw [updF_ne _ e]; exact h.sep.nodup _
  · intro k k' b hne hb hb'
    have aux : ∀ k, b ∈ updF F (.o id) [] k → b ∈ F k := by
      intro k hb
      by_cases e : k = .o id
      · subst e; rw [updF_same] at hb; simp at hb
      · rw [updF_ne _ e] at hb; exact hb
    exact h.sep.apart k k' b hne (aux k hb) (aux k' hb')
  · intro k b hb
    by_cases e : k = .o id
    · subst e; rw [updF_same] at hb; simp at hb
    · rw [updF_ne _ e] at hb; exact h.range _ b hb
  · intro j
    rw [St.get_put, St.get_setObj]
    obtain ⟨u', hu', hr'⟩ := h.slot j
    by_cases hj : d = j
    · subst hj
      rw [if_pos rfl, updF_ne _ (by intro e; cases e)]
      rw [hd] at hr' hu'
      refine ⟨u', .inl (hu'.resolve_right (by simp)), ?_⟩
      generalize F (.s d) = G at hr'
      cases hr' with
      | bp _ _ _ b' hβ' =>
      rw [hβ] at hβ'
      cases hβ'
      have := Rel.rp (w := w) (L := Lv g (updF F (.o id) [])) β (AV.frzL cs) 0 b 0 arr.toList (fun _ => hout b (by rw [hF]; simp)) (by rw [AV.frzL_eq]; simpa using hs.symm) (by
        intro k u hk
        simp only [Nat.zero_add]
        simp [World.cell?, hb]
        simpa using hk) (fun k x u hx hu => by
          rw [AV.frzL_eq, List.getElem?_map] at hx
          obtain ⟨y, hy, rfl⟩ := Option.map_eq_some_iff.1 hx
          have h1 := hrr k y u hy (by simpa using hu)
          have h2 := h1.frz (L' := Lv g (updF F (.o id) [])) (fun b _ hb => hL b hb) (fun b' hb' => hout b' (by rw [hF]; exact List.mem_cons_of_mem _ (mem_foots.2 ⟨k, (List.getElem?_eq_some_iff.1 hy).1, hb'⟩)))
          refine h2.env noEnv (AV.freeL_get hfr k y.frz ?_)
          rw [AV.frzL_eq, List.getElem?_map, hy]
          rfl)
      simpa using this
    · rw [if_neg hj, updF_ne _ (by intro e; cases e)]
      exact ⟨u', hu', hr'.sub fun b _ hb => hL b hb⟩
  · intro id'
    rw [St.obj_put, St.obj_setObj]
    by_cases e : id = id'
    · subst e
      rw [if_pos rfl, updF_same]
      rfl
    · rw [if_neg e, updF_ne _ (by intro e'; injection e' with e'; exact e e'.symm)]
      exact (h.obj id').keep (M := fun _ => False) (fun _ _ _ => rfl) (fun _ h => h.elim) (fun b _ hb => hL b hb) (fun _ _ h => h)

theorem Run.freezeBox (d : Nat) (id : Id) {cs : List AV} (cs' : List AV) (hd : st.get d = .bp id 0) (ho : st.obj id = .box cs) (hcs : AV.frzL cs = cs') (hfr : AV.freeL cs' = true)
    (h : Run X g K ((st.setObj id .gone).put d (.rp cs' 0))) : Run X g K st := Run.ghost (fun _ _ hI => hI.freezeBox hd ho hcs hfr) h
end
end Go.Av
