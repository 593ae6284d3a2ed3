/- The rules of the walk: calls, and many small steps at once. -/
import Derived.Test.YtoeocaenflkajaaAvUse
namespace Go.Av
open Go Go.RowKit

section
variable {X : Fx} {g : Gx} {st : St} {a : Act} {w w' : World} {β : Env} {F : Key → List Nat} {L : Nat → Prop} {k : List Item}
variable {ops : Array Oper} {i : Nat} {rest : List Nat} {o : Oper}

theorem Inv.lt (h : Inv X g st a w β F L) : ∀ k b, b ∈ F k → b < w.heap.size := by
  intro k b hb
  cases k with
  | s j => obtain ⟨u', _, hr'⟩ := h.slot j; exact hr'.lt b hb
  | o id =>
    have ho := h.obj id
    revert ho
    cases st.obj id with
    | gone => intro ho; rw [show F (.o id) = [] from ho] at hb; simp at hb
    | vec sz ex xs => rintro ⟨v, _, hr'⟩; exact hr'.lt b hb
    | tie v id' => rintro ⟨h0, _⟩; rw [h0] at hb; simp at hb
    | mp b' kk es =>
      rintro ⟨h0, arr, clock, hb', _⟩
      rw [h0] at hb
      rw [List.mem_singleton.1 hb]
      exact (Array.getElem?_eq_some_iff.1 hb').1
    | box cs =>
      rintro ⟨b0, arr, T', lo, hi, Fs', _, hb0, _, hs, hr', hF⟩
      rw [hF] at hb
      rcases List.mem_cons.1 hb with rfl | hb
      · exact (Array.getElem?_eq_some_iff.1 hb0).1
      · obtain ⟨k, hk, hb'⟩ := mem_foots.1 hb
        exact (hr' k _ _ (List.getElem?_eq_getElem hk) (Array.getElem?_eq_getElem (by omega))).lt b hb'

theorem ev_relT (h : Inv X g st a w β F L) (x : Operand) : ∃ G, Rel w L β (st.ev x) (a.eval x) G := by
  by_cases ht : st.ev x = .top
  · rw [ht]; exact ⟨[], .top _ _⟩
  · exact ev_rel0 h x ht

theorem evT_ok (h : Inv X g st a w β F L) (xs : List Operand) (k : Nat) (y : AV) (u : Value) (hy : (xs.map st.ev)[k]? = some y) (hu : (xs.map a.eval)[k]? = some u) : ∃ G, Rel w L β y u G := by
  rw [List.getElem?_map] at hy hu
  obtain ⟨x, hx, rfl⟩ := Option.map_eq_some_iff.1 hy
  rw [hx] at hu
  obtain rfl := Option.some.inj hu
  exact ev_relT h x

theorem run_call {P : Program} {ρ : Operand → Value} {o : Oper} {fo : Operand} {xs : Array Operand} {ts : Array TypeId} {f : FuncId} {vals : Array Value}
    (hop : o.op = .call ⟨.value fo, xs, ts⟩) (hf : ρ fo = .func (.func f) #[] vals)
    (he : (P.funcs[f]?).map (fun fn => (fn.body.isSome, fn.name == "runtime.NumGoroutine")) = some (true, false)) :
    (execOp ρ o).run P w = .ok (.enter f (xs.map ρ ++ vals)) w := by
  obtain ⟨fn, hfn, e⟩ := Option.map_eq_some_iff.1 he
  simp only [Prod.mk.injEq] at e
  have h1 : ¬ fn.name = "runtime.NumGoroutine" := by simpa using e.2
  have h2 : ¬ fn.body = none := by intro hb; rw [hb] at e; simp at e
  obtain ⟨dst, op, type, pos, after, guard⟩ := o
  simp only at hop
  subst hop
  simp [execOp, resolve, hf, Deferred.ofValue, invoke, callFunc, hfn, h1, h2]

/-- Behind a call that was handed nothing to keep. -/
theorem Inv.called (h : Inv X g st a w β F (Lv g F)) {d : Nat} {res : AV} {v : Value} {G : List Nat} (hk : Kp [] w w') (hG : G.Nodup) (hGr : ∀ b ∈ G, w.heap.size ≤ b)
    (hR : Rel w' (fun b => Lv g F b ∨ b ∈ G) β res v G) (hd : d < X.fn.ntmps) (hp : d ∉ X.pins) : SR X g (st.put d res) (a.put (some d) v) w' := by
  have h1 : Inv X g st a w' β F (fun b => Lv g F b ∨ b ∈ G) :=
    h.world (M := fun _ => False) (h.kp.trans hk (by simp)) (fun b hb _ => hk.block b hb (by simp)) (fun _ h => h.elim)
      (by rintro b hb (h | h); exact h; have := hGr b h; omega) (fun _ _ _ h => h)
  refine ⟨_, _, (h1.put hd hp hR hG (fun k _ b hb hb' => ?_) (fun b hb => .inr (Nat.le_trans h.kp.size (hGr b hb)))).setL fun b _ hb => ?_⟩
  · have := h.lt k b hb'; have := hGr b hb; omega
  · refine Lv_sub (L := fun b => Lv g F b ∨ b ∈ G) hb (fun k hk => ?_) (fun h => Or.inl (Or.inl h))
    by_cases e : k = .s d
    · subst e; rw [updF_same] at hk; exact .inr hk
    · rw [updF_ne _ e] at hk; exact .inl (Lv_of hk)

theorem ct_res {w : World} {L : Nat → Prop} {β : Env} {res v : _} {outs : List AV} {vs : Array Value} {F' : List Nat} (hn : F'.Nodup)
    (h : Rel w L β (.tup (res :: outs)) (.tuple (#[v] ++ vs)) F') : ∃ G, G.Nodup ∧ (∀ b ∈ G, b ∈ F') ∧ Rel w L β res v G := by
  cases h with
  | tup _ _ _ Fs hl hr =>
    refine ⟨Fs 0, (foots_nodup hn 0 (by simp)).1, fun b hb => foots_sub (by simp) hb, hr 0 res v rfl ?_⟩
    rw [Array.getElem?_append_left (by simp)]; rfl

/-- Whether the operation is carried out: its guard. -/
def guardOf (ops : Array Oper) (st : St) (o : Oper) : Option Bool :=
  match o.guard with
  | none => some true
  | some (j, want) => match ops[j]? with
    | some oj => match oj.dst with
      | some d => match st.get d with
        | .lit (.bool true) => some want
        | .lit (.bool false) => some (!want)
        | .lit (.tuple _) => some false
        | _ => none
      | none => none
    | none => none

theorem guardOf_ok {ops : Array Oper} {st : St} {o : Oper} {b : Bool} (h : guardOf ops st o = some b) (a : Act) (w : World) (hI : SR X g st a w) :
    Region.wanted o (yielded ops a.tmps) = b := by
  obtain ⟨β, F, hI⟩ := hI
  unfold guardOf at h
  split at h
  · rename_i hg
    cases h
    simp [Region.wanted, hg]
  · rename_i j want hg
    split at h
    · rename_i oj hoj
      split at h
      · rename_i d hd
        have key : ∀ c, st.get d = .lit (.bool c) → yielded ops a.tmps j = some c := by
          intro c hc
          obtain ⟨u, hu, hr⟩ := hI.slot d
          rw [hc] at hr hu
          have hu := hu.resolve_right (by simp)
          generalize F (.s d) = G at hr
          cases hr
          simp [yielded, hoj, hd, hu]
        split at h
        · rename_i hc
          obtain rfl := Option.some.inj h
          simp only [Region.wanted, hg, key _ hc]
          cases want <;> rfl
        · rename_i hc
          obtain rfl := Option.some.inj h
          simp only [Region.wanted, hg, key _ hc]
          cases want <;> rfl
        · rename_i vs hc
          obtain rfl := Option.some.inj h
          have hy : yielded ops a.tmps j = none := by
            obtain ⟨u, hu, hr⟩ := hI.slot d
            rw [hc] at hr hu
            have hu := hu.resolve_right (by simp)
            generalize F (.s d) = G at hr
            cases hr
            simp [yielded, hoj, hd, hu]
          simp only [Region.wanted, hg, hy]
          cases want <;> rfl
        · cases h
      · cases h
    · cases h

/-- A call whose arguments are read meanwhile, and whose result has no memory but of its own. -/
theorem Run.calls {d : Nat} {fo : Operand} {xs : Array Operand} {ts : Array TypeId} {f : FuncId} {caps ps qs : List AV} {res : AV} {outs : List AV}
    (ho : ops[i]? = some o) (hg : guardOf ops st o = some true) (hd : o.dst = some d) (hop : o.op = .call ⟨.value fo, xs, ts⟩) (hf : st.ev fo = .fn f caps)
    (hps : st.expL 40 (xs.toList.map st.ev ++ caps) = some ps) (hqs : ps = qs) (hct : Ct X.P f qs res outs) (hrf : res.rf = true)
    (hdn : d < X.fn.ntmps) (hpin : d ∉ X.pins) (h : Run X g (.inRegion ops rest :: k) (st.put d res)) : Run X g (.inRegion ops (i :: rest) :: k) st := by
  subst hqs
  refine Run.opc ho (fun a w hI => guardOf_ok hg a w hI) ?_ h
  rintro hX a w ⟨β, F, hI⟩
  have hfr := ev_rel hI fo (by rw [hf]; rfl)
  rw [hf] at hfr
  generalize hfv : a.eval fo = fv at hfr
  cases hfr with
  | fn _ _ _ vals hl hr =>
  refine ⟨f, xs.map a.eval ++ vals, w, run_call hop hfv hct.enters, ?_⟩
  obtain ⟨e1, e2⟩ := (exp_ok hI 40).2 _ _ hps
  have hargs : Rel w (fun b => False ∨ b ∈ ([] : List Nat)) noEnv (.tup ps) (.tuple (xs.map a.eval ++ vals)) [] := by
    have := Rel.tup (w := w) (L := fun b => False ∨ b ∈ ([] : List Nat)) noEnv ps (xs.map a.eval ++ vals) (fun _ => []) (by simp [e1, hl]) (by
      intro k y' u hy hu
      obtain ⟨y, m, hy1, hm, hy2⟩ := e2 k y' hy
      have : ∃ G, Rel w (Lv g F) β y u G := by
        by_cases hk : k < xs.size
        · rw [List.getElem?_append_left (by simpa using hk)] at hy1
          rw [Array.getElem?_append_left (by simpa using hk)] at hu
          exact evT_ok hI xs.toList k y u hy1 (by simpa using hu)
        · rw [List.getElem?_append_right (by simpa using hk)] at hy1
          rw [Array.getElem?_append_right (by simpa using hk)] at hu
          exact ⟨_, hr (k - xs.size) y u (by simpa using hy1) (by simpa using hu)⟩
      obtain ⟨G, hG⟩ := this
      exact ((exp_ok hI m).1 y y' u G hG hy2).sub (by simp))
    rwa [foots_nil (fun _ _ => rfl)] at this
  refine (hct.calls w (fun _ => False) _ [] (fun _ h => h.elim) (by simp) hargs).mono ?_
  rintro e w' ⟨v, F', rfl, hk, hn, hr', hR⟩
  obtain ⟨G, hG, hGs, hRes⟩ := ct_res hn hR
  refine ⟨v, rfl, ?_⟩
  rw [hd]
  exact hI.called hk hG (fun b hb => by simpa using hr' b (hGs b hb)) ((hRes.anyL _ hrf).of_noEnv rfl β) hdn hpin

/-- A call whose arguments have nothing of the running call's own. -/
theorem Run.callp {d : Nat} {fo : Operand} {xs : Array Operand} {ts : Array TypeId} {f : FuncId} {caps ps qs : List AV} {res : AV} {outs : List AV}
    (ho : ops[i]? = some o) (hg : guardOf ops st o = some true) (hd : o.dst = some d) (hop : o.op = .call ⟨.value fo, xs, ts⟩) (hf : st.ev fo = .fn f caps)
    (hps : evs st xs.toList = some ps) (hfree : AV.freeL ps = true) (hcf : AV.freeL caps = true) (hqs : ps ++ caps = qs) (hct : Ct X.P f qs res outs)
    (hdn : d < X.fn.ntmps) (hpin : d ∉ X.pins) (h : Run X g (.inRegion ops rest :: k) (st.put d res)) : Run X g (.inRegion ops (i :: rest) :: k) st := by
  subst hqs
  refine Run.opc ho (fun a w hI => guardOf_ok hg a w hI) ?_ h
  rintro hX a w ⟨β, F, hI⟩
  have hfr := ev_rel hI fo (by rw [hf]; rfl)
  rw [hf] at hfr
  generalize hfv : a.eval fo = fv at hfr
  cases hfr with
  | fn _ _ _ vals hl hr =>
  refine ⟨f, xs.map a.eval ++ vals, w, run_call hop hfv hct.enters, ?_⟩
  obtain ⟨e1, e2⟩ := evs_ok hI _ _ hps
  have hsz : ps.length = xs.size := by simpa using e1
  have hargs : Rel w (fun b => Lv g F b ∨ b ∈ ([] : List Nat)) noEnv (.tup (ps ++ caps)) (.tuple (xs.map a.eval ++ vals)) [] := by
    have := Rel.tup (w := w) (L := fun b => Lv g F b ∨ b ∈ ([] : List Nat)) noEnv (ps ++ caps) (xs.map a.eval ++ vals) (fun _ => []) (by simp [hsz, hl]) (by
      intro k y u hy hu
      by_cases hk : k < xs.size
      · rw [List.getElem?_append_left (by omega)] at hy
        rw [Array.getElem?_append_left (by simpa using hk)] at hu
        exact ((e2 k y u hy (by simpa using hu)).env noEnv (AV.freeL_get hfree k y hy)).sub (by simp)
      · rw [List.getElem?_append_right (by omega)] at hy
        rw [Array.getElem?_append_right (by simpa using hk)] at hu
        rw [hsz] at hy
        exact ((hr (k - xs.size) y u hy (by simpa using hu)).env noEnv (AV.freeL_get hcf _ y hy)).sub (by simp))
    rwa [foots_nil (fun _ _ => rfl)] at this
  have hLlt : ∀ b, Lv g F b → b < w.heap.size ∧ b ∉ ([] : List Nat) := by
    rintro b (hb | ⟨k, hb⟩)
    · exact ⟨Nat.lt_of_lt_of_le (g.hL b hb).1 hI.kp.size, by simp⟩
    · exact ⟨hI.lt k b hb, by simp⟩
  refine (hct.calls w (Lv g F) _ [] hLlt (by simp) hargs).mono ?_
  rintro e w' ⟨v, F', rfl, hk, hn, hr', hR⟩
  obtain ⟨G, hG, hGs, hRes⟩ := ct_res hn hR
  refine ⟨v, rfl, ?_⟩
  rw [hd]
  refine hI.called hk hG (fun b hb => by simpa using hr' b (hGs b hb)) ((hRes.of_noEnv rfl β).sub ?_) hdn hpin
  rintro b _ (hb | hb)
  · exact .inl hb
  · exact .inr (hGs b hb)

/-- A call's place, function and arguments, read meanwhile. -/
def callS (X : Fx) (ops : Array Oper) (st : St) (i : Nat) : Option (Nat × FuncId × List AV) :=
  match ops[i]? with
  | some o => match guardOf ops st o, o.dst, o.op with
    | some true, some d, .call ⟨.value fo, xs, _⟩ => match st.ev fo with
      | .fn f caps => match st.expL 40 (xs.toList.map st.ev ++ caps) with
        | some ps => bif Nat.blt d X.fn.ntmps && !(X.pins.contains d) then some (d, f, ps) else none
        | none => none
      | _ => none
    | _, _, _ => none
  | none => none

theorem Run.cs {d : Nat} {f : FuncId} {ps qs : List AV} {res : AV} {outs : List AV} (hs : callS X ops st i = some (d, f, ps)) (hct : Ct X.P f qs res outs) (hqs : ps = qs) (hrf : res.rf = true)
    (h : Run X g (.inRegion ops rest :: k) (st.put d res)) : Run X g (.inRegion ops (i :: rest) :: k) st := by
  unfold callS at hs
  split at hs
  · rename_i o ho
    split at hs
    · rename_i d' fo xs ts hg hd hop
      split at hs
      · rename_i f' caps hf
        split at hs
        · rename_i ps' hps
          by_cases hc : (Nat.blt d' X.fn.ntmps && !(X.pins.contains d')) = true
          · rw [hc] at hs
            simp only [cond_true, Option.some.injEq, Prod.mk.injEq] at hs
            obtain ⟨rfl, rfl, rfl⟩ := hs
            simp only [Bool.and_eq_true, Bool.not_eq_true'] at hc
            refine Run.calls ho hg hd hop hf hps hqs hct hrf (Nat.le_of_ble_eq_true hc.1) ?_ h
            intro hm
            have := hc.2
            simp [hm] at this
          · simp only [Bool.not_eq_true] at hc; rw [hc] at hs; simp at hs
        · cases hs
      · cases hs
    · cases hs
  · cases hs

/-! ### Many small steps at once -/

theorem contains_iff {d : Nat} {l : List Nat} : l.contains d = false → d ∉ l := by
  intro h hm
  rw [List.contains_iff_mem.2 hm] at h
  cases h

/-- One small step. -/
def pstep (X : Fx) (K : List Item) (st : St) : Option (List Item × St) :=
  match K with
  | .inRegion ops (i :: rest) :: k => match ops[i]? with
    | some o => match guardOf ops st o with
      | some true => match o.dst with
        | some d => match aop X.T st o.op with
          | some v => bif Nat.blt d X.fn.ntmps && !(X.pins.contains d) then some (.inRegion ops rest :: k, st.put d v) else none
          | none => match o.op with
            | .box _ x => bif (st.ev x).okc && (st.ev x).pl && st.nrf (d, 0) && (st.ev x).nrf (d, 0) && Nat.blt d X.fn.ntmps && !(X.pins.contains d) then
                some (.inRegion ops rest :: k, (st.setObj (d, 0) (.box (st.ev x).cells)).put d (.bp (d, 0) 0)) else none
            | .alloc t => match X.T t with
              | some ti => bif oneL (ti.zero.map .lit) && st.nrf (d, 0) && Nat.blt d X.fn.ntmps && !(X.pins.contains d) then
                  some (.inRegion ops rest :: k, (st.setObj (d, 0) (.box (ti.zero.map .lit))).put d (.bp (d, 0) 0)) else none
              | none => none
            | _ => none
        | none => match o.op with
          | .store t p x => match X.T t, st.ev p with
            | some ti, .bp id j => match st.obj id with
              | .box cs => bif (st.ev x).okc && (st.ev x).pl && Nat.beq (st.ev x).cells.length ti.sz && Nat.ble (j + ti.sz) cs.length then
                  some (.inRegion ops rest :: k, st.setObj id (.box (putAt cs j (st.ev x).cells))) else none
              | _ => none
            | _, _ => none
          | _ => none
      | some false => match o.dst with
        | some d => bif Nat.blt d X.fn.ntmps && !(X.pins.contains d) then some (.inRegion ops rest :: k, st.put d (.lit undef)) else none
        | none => some (.inRegion ops rest :: k, st)
      | none => none
    | none => none
  | K => match cstep K with
    | some K' => some (K', st)
    | none => none

theorem blt_lt {d n : Nat} (h : Nat.blt d n = true) : d < n := by
  have := Nat.le_of_ble_eq_true h; omega

theorem Run.step {K K' : List Item} {st st' : St} (hs : pstep X K st = some (K', st')) (h : Run X g K' st') : Run X g K st := by
  unfold pstep at hs
  split at hs
  · rename_i ops i rest k
    split at hs
    · rename_i o ho
      split at hs
      · rename_i hgd
        have hw := fun a w hI => guardOf_ok (X := X) (g := g) hgd a w hI
        split at hs
        · rename_i d hd
          split at hs
          · rename_i v hv
            by_cases hc : (Nat.blt d X.fn.ntmps && !(X.pins.contains d)) = true
            · rw [hc] at hs
              simp only [cond_true, Option.some.injEq, Prod.mk.injEq] at hs
              obtain ⟨rfl, rfl⟩ := hs
              simp only [Bool.and_eq_true, Bool.not_eq_true'] at hc
              refine Run.op ho hw ?_ h
              rintro hX a w ⟨β, F, hI⟩
              obtain ⟨u, hu, hR⟩ := aop_ok hX hI hv
              refine ⟨u, w, .inl (hu w (Kp.refl _ _)), ?_⟩
              rw [hd]
              exact hI.putv (blt_lt hc.1) (contains_iff hc.2) hR
            · simp only [Bool.not_eq_true] at hc; rw [hc] at hs; simp at hs
          · split at hs
            · rename_i t x hop
              by_cases hc : ((st.ev x).okc && (st.ev x).pl && st.nrf (d, 0) && (st.ev x).nrf (d, 0) && Nat.blt d X.fn.ntmps && !(X.pins.contains d)) = true
              · rw [hc] at hs
                simp only [cond_true, Option.some.injEq, Prod.mk.injEq] at hs
                obtain ⟨rfl, rfl⟩ := hs
                simp only [Bool.and_eq_true, Bool.not_eq_true'] at hc
                obtain ⟨⟨⟨⟨⟨h1, h2⟩, h3⟩, h4⟩, h5⟩, h6⟩ := hc
                refine Run.op ho hw ?_ h
                intro hX a w hI
                obtain ⟨u, w', hu, hI'⟩ := hI.boxv (T := t) h1 h2 h3 h4 (blt_lt h5) (contains_iff h6)
                refine ⟨u, w', .inl ?_, by rw [hd]; exact hI'⟩
                simp [execOp, hop, hu]
              · simp only [Bool.not_eq_true] at hc; rw [hc] at hs; simp at hs
            · rename_i t hop
              split at hs
              · rename_i ti hti
                by_cases hc : (oneL (ti.zero.map .lit) && st.nrf (d, 0) && Nat.blt d X.fn.ntmps && !(X.pins.contains d)) = true
                · rw [hc] at hs
                  simp only [cond_true, Option.some.injEq, Prod.mk.injEq] at hs
                  obtain ⟨rfl, rfl⟩ := hs
                  simp only [Bool.and_eq_true, Bool.not_eq_true'] at hc
                  obtain ⟨⟨⟨h1, h3⟩, h5⟩, h6⟩ := hc
                  refine Run.op ho hw ?_ h
                  intro hX a w hI
                  obtain ⟨u, w', hu, hI'⟩ := hI.allocv hX hti h1 h3 (blt_lt h5) (contains_iff h6)
                  refine ⟨u, w', .inl ?_, by rw [hd]; exact hI'⟩
                  simp [execOp, hop, hu]
                · simp only [Bool.not_eq_true] at hc; rw [hc] at hs; simp at hs
              · cases hs
            · cases hs
        · rename_i hd
          split at hs
          · rename_i t p x hop
            split at hs
            · rename_i ti id j hti hp
              split at hs
              · rename_i cs hob
                by_cases hc : ((st.ev x).okc && (st.ev x).pl && Nat.beq (st.ev x).cells.length ti.sz && Nat.ble (j + ti.sz) cs.length) = true
                · rw [hc] at hs
                  simp only [cond_true, Option.some.injEq, Prod.mk.injEq] at hs
                  obtain ⟨rfl, rfl⟩ := hs
                  simp only [Bool.and_eq_true] at hc
                  obtain ⟨⟨⟨h1, h2⟩, h3⟩, h4⟩ := hc
                  refine Run.op ho hw ?_ h
                  intro hX a w hI
                  obtain ⟨w', hu, hI'⟩ := hI.storev hX hti hp hob h1 h2 (Nat.eq_of_beq_eq_true h3) (Nat.le_of_ble_eq_true h4)
                  refine ⟨undef, w', .inr ⟨?_, rfl⟩, by rw [hd]; exact hI'⟩
                  simp [execOp, hop, hu]
                · simp only [Bool.not_eq_true] at hc; rw [hc] at hs; simp at hs
              · cases hs
            · cases hs
          · cases hs
      · rename_i hgd
        have hw := fun a w hI => guardOf_ok (X := X) (g := g) hgd a w hI
        split at hs
        · rename_i d hd
          by_cases hc : (Nat.blt d X.fn.ntmps && !(X.pins.contains d)) = true
          · rw [hc] at hs
            simp only [cond_true, Option.some.injEq, Prod.mk.injEq] at hs
            obtain ⟨rfl, rfl⟩ := hs
            simp only [Bool.and_eq_true, Bool.not_eq_true'] at hc
            refine Run.op_off ho hw ?_ h
            rintro a w ⟨β, F, hI⟩
            rw [hd]
            exact hI.putv (blt_lt hc.1) (contains_iff hc.2) (.lit _ _)
          · simp only [Bool.not_eq_true] at hc; rw [hc] at hs; simp at hs
        · rename_i hd
          cases hs
          refine Run.op_off ho hw ?_ h
          intro a w hI
          rw [hd]; exact hI
      · cases hs
    · cases hs
  · split at hs
    · rename_i hc
      cases hs
      exact Run.ctl hc h
    · cases hs

theorem Run.shown {K : List Item} {st : St} (h : Nxt (X := X) (g := g) (K := K) st) : Run X g K st := h
theorem Run.of {K : List Item} {st st' : St} (h : Nxt (X := X) (g := g) (K := K) st') (h1 : leS st'.sl st) (h2 : leO st'.ob st) : Run X g K st := Run.le (St.Le.mk' h1 h2) h

def isTop : AV → Bool
  | .top => true
  | _ => false
def nodupK : List Key → Bool
  | [] => true
  | k :: r => !(r.any fun k' => decide (k = k')) && nodupK r
theorem nodupK_ok {l : List Key} (h : nodupK l = true) : l.Nodup := by
  induction l with
  | nil => simp
  | cons k r ih =>
    simp only [nodupK, Bool.and_eq_true, Bool.not_eq_true', List.any_eq_false] at h
    refine List.nodup_cons.2 ⟨fun hm => ?_, ih h.2⟩
    have := h.1 k hm
    simp at this

/-- What is returned. -/
def retOf (X : Fx) (st : St) : Option AV :=
  let l := X.fn.results.toList
  bif (l.all fun rv => !(isTop (st.rv X.T rv)) && (st.rv X.T rv).free) && nodupK (l.map st.rkey) then some (retV (l.map (st.rv X.T))) else none

theorem retOf_ok {r : AV} (h : retOf X st = some r) : (∀ rv ∈ X.fn.results.toList, st.rv X.T rv ≠ .top ∧ (st.rv X.T rv).free = true) ∧ (X.fn.results.toList.map st.rkey).Nodup ∧ retV (X.fn.results.toList.map (st.rv X.T)) = r := by
  unfold retOf at h
  simp only at h
  by_cases hc : ((X.fn.results.toList.all fun rv => !(isTop (st.rv X.T rv)) && (st.rv X.T rv).free) && nodupK (X.fn.results.toList.map st.rkey)) = true
  · rw [hc] at h
    simp only [cond_true, Option.some.injEq] at h
    simp only [Bool.and_eq_true, List.all_eq_true] at hc
    refine ⟨fun rv hrv => ?_, nodupK_ok hc.2, h⟩
    have := hc.1 rv hrv
    refine ⟨fun e => ?_, this.2⟩
    rw [e] at this
    simp [isTop] at this
  · simp only [Bool.not_eq_true] at hc
    rw [hc] at h
    cases h

/-- The return. -/
theorem Run.ret {r res : AV} (hg : g.Post = PostOf g res []) (hr : retOf X st = some r) (he : r = res) : Run X g (.code .ret :: k) st := by
  obtain ⟨h1, h2, h3⟩ := retOf_ok hr
  exact Run.ret' fun hX a w hI => ret_post hX hg h1 h2 (h3.trans he) (by simp) (by simp) hI
theorem Run.fin {r res : AV} (hg : g.Post = PostOf g res []) (hr : retOf X st = some r) (he : r = res) : Run X g [] st := by
  obtain ⟨h1, h2, h3⟩ := retOf_ok hr
  exact Run.end' fun hX a w hI => ret_post hX hg h1 h2 (h3.trans he) (by simp) (by simp) hI

theorem SR.slotb {a : Act} {w : World} {d : Nat} {b c : Bool} (hb : st.get d = .lit (.bool b)) (hc : b = c) (h : SR X g st a w) : SR X g (st.put d (.lit (.bool c))) a w := by
  subst hc
  refine h.conv (fun w L β u G hr => ?_) (by rw [hb]; simp)
  rw [hb] at hr
  have hG := hr.pl_nil rfl
  exact ⟨G, fun _ h => h, by rw [hG]; simp, hr⟩

/-- A bool that is known by its sign is taken apart. -/
theorem Run.bool {K : List Item} (d : Nat) {b : Bool} (hb : st.get d = .lit (.bool b)) (ht : b = true → Run X g K (st.put d (.lit (.bool true))))
    (hf : b = false → Run X g K (st.put d (.lit (.bool false)))) : Run X g K st := by
  cases hbb : b with
  | true => exact Run.ghost (fun a w hI => hI.slotb hb hbb) (ht hbb)
  | false => exact Run.ghost (fun a w hI => hI.slotb hb hbb) (hf hbb)

end

def lookT : List (Nat × TI) → Nat → Option TI
  | [], _ => none
  | (k, i) :: r, t => bif Nat.beq k t then some i else lookT r t

theorem lookT_ok {P : Program} {l : List (Nat × TI)} (h : ∀ e ∈ l, TyOk P e.1 e.2) : ∀ t i, lookT l t = some i → TyOk P t i := by
  induction l with
  | nil => intro t i h'; cases h'
  | cons e l ih =>
    intro t i h'
    obtain ⟨k, j⟩ := e
    simp only [lookT] at h'
    cases hb : Nat.beq k t
    · rw [hb] at h'
      exact ih (fun e he => h e (by simp [he])) t i h'
    · rw [hb] at h'
      simp only [cond_true, Option.some.injEq] at h'
      obtain rfl := Nat.eq_of_beq_eq_true hb
      subst h'
      exact h (k, j) (by simp)

end Go.Av
