/- Maps with whole-number keys, which only the running call has. -/
import Derived.Test.YtoeocaenflkajaaAvAppend
import Derived.MapKept
namespace Go.Av
open Go Go.RowKit Go.MapKept

def mget (es : List (Int × Value)) (n : Int) : Option Value := (es.find? fun x => x.1 == n).map (·.2)

theorem findNow_int (kk kk' : IntKind) (n : Int) : ∀ (l : List MapEntry) (es : List (Int × Value)) (i : Nat), l.map (fun e => (e.key, e.val)) = es.map (fun x => (.int kk x.1, x.2)) →
    ∃ r, Instr.findNow (.int kk') (.int kk n) l i = some r ∧ r.map (·.2) = mget es n := by
  intro l
  induction l with
  | nil =>
    intro es i h
    have : es = [] := by cases es; rfl; simp at h
    subst this
    exact ⟨none, rfl, rfl⟩
  | cons e l ih =>
    intro es i h
    cases es with
    | nil => simp at h
    | cons x es =>
      simp only [List.map_cons, List.cons.injEq, Prod.mk.injEq] at h
      obtain ⟨⟨h1, h2⟩, h3⟩ := h
      simp only [Instr.findNow, h1, Instr.sameNow, if_true]
      by_cases hx : n = x.1
      · subst hx
        simp [mget, h2]
      · obtain ⟨r, hr1, hr2⟩ := ih es (i + 1) h3
        have e1 : (n == x.1) = false := by simpa using hx
        have e2 : (x.1 == n) = false := by simpa using Ne.symm hx
        rw [e1]
        exact ⟨r, hr1, by simpa [mget, e2] using hr2⟩

section
variable {X : Fx} {g : Gx} {st st' : St} {a : Act} {w w' : World} {β β' : Env} {F : Key → List Nat} {L : Nat → Prop} {K : List Item} {k : List Item}
variable {ops : Array Oper} {i : Nat} {rest : List Nat} {o : Oper}

theorem run_checkKey_int {P : Program} {w : World} {em : Bool} {kt : TypeId} {kk' : IntKind} (hk : P.underlying kt = some (.int kk')) (kk : IntKind) (n : Int) : (Instr.checkKey em 10000 kt (.int kk n)).run P w = .ok () w := by
  unfold Instr.checkKey
  simp [Sem.run_bind, run_underlying hk]

theorem Run.opE {π : Type} (S : π → St) (ho : ops[i]? = some o) (hw : ∀ a w, SR X g st a w → Region.wanted o (yielded ops a.tmps) = true)
    (hs : X.Ok → ∀ a w, SR X g st a w → ∃ p u w', ((execOp a.eval o).run X.P w = .ok (.value u) w' ∨ ((execOp a.eval o).run X.P w = .ok .skip w' ∧ u = undef)) ∧ SR X g (S p) (a.put o.dst u) w')
    (h : ∀ p, Run X g (.inRegion ops rest :: k) (S p)) : Run X g (.inRegion ops (i :: rest) :: k) st := by
  intro hX a w b cs hI hf hk
  obtain ⟨p, u, w1, hr, hI'⟩ := hs hX a w hI
  obtain ⟨v, w', fr, hp, hst, h1, h2⟩ := h p hX (a.put o.dst u) w1 b cs hI' hf hk
  refine ⟨v, w', fr, hp, .head ?_ hst, h1, h2⟩
  have hg := stepG_op (P := X.P) (b := b) (k := k) (cs := cs) (w := w) (rest := rest) ho (hw a w hI)
  refine step_lone_go ?_
  rw [← finish_op ho]
  rcases hr with hr | ⟨hr, rfl⟩
  · rw [hg]; simp [stepG.apply, hr]
  · rw [hg]; simp [stepG.apply, hr]

theorem Run.makeMap {d t : Nat} (id : Id) (kk : IntKind) (ho : ops[i]? = some o) (hg : guardOf ops st o = some true) (hd : o.dst = some d) (hop : o.op = .makeMap t none)
    (hdn : (Nat.blt d X.fn.ntmps && !(X.pins.contains d)) = true)
    (h : ∀ b, Run X g (.inRegion ops rest :: k) ((st.setObj id (.mp b kk [])).put d (.lit (.map (some b))))) : Run X g (.inRegion ops (i :: rest) :: k) st := by
  simp only [Bool.and_eq_true, Bool.not_eq_true'] at hdn
  refine Run.opE (fun b => (st.setObj id (.mp b kk [])).put d (.lit (.map (some b)))) ho (fun a w hI => guardOf_ok hg a w hI) ?_ h
  rintro hX a w ⟨β, F, hI⟩
  refine ⟨w.heap.size, .map (some w.heap.size), w.alloc (.map #[] 0), .inl ?_, ?_⟩
  · simp [execOp, hop, Instr.makeMap]
  · rw [hd]
    have hk : Kp [] w (w.alloc (.map #[] 0)) := ⟨rfl, rfl, rfl, by simp, fun k hk _ => Below.heap_alloc w _ k hk⟩
    have h1 : Inv X g st a (w.alloc (.map #[] 0)) β F (fun b => Lv g F b ∨ b = w.heap.size) :=
      hI.world (M := fun _ => False) (hI.kp.trans hk (by simp)) (fun b hb _ => hk.block b hb (by simp)) (fun _ h => h.elim) (fun b hb h => by rcases h with h | h; exact h; omega) (fun _ _ _ h => h)
    have h2 := h1.setOb id (.mp w.heap.size kk []) (G := [w.heap.size]) ⟨rfl, #[], 0, heap_alloc_new w _, rfl⟩ (by simp) (by
      intro kk' _ b hb hb'
      rw [List.mem_singleton.1 hb] at hb'
      have := hI.lt kk' _ hb'
      omega) (by
      intro b hb
      rw [List.mem_singleton.1 hb]
      exact .inr hI.kp.size)
    have h3 := h2.put (d := d) (v := .lit (.map (some w.heap.size))) (u := .map (some w.heap.size)) (G := []) (blt_lt hdn.1) (contains_iff hdn.2) (.lit _ _) (by simp) (by simp) (by simp)
    refine ⟨_, _, h3.setL fun b _ hb => ?_⟩
    refine Lv_sub (L := fun b => Lv g F b ∨ b = w.heap.size) hb (fun kk' hk' => ?_) (fun h => Or.inl (Or.inl h))
    by_cases e : kk' = .s d
    · subst e; rw [updF_same] at hk'; simp at hk'
    · rw [updF_ne _ e] at hk'
      by_cases e2 : kk' = .o id
      · subst e2; rw [updF_same] at hk'; exact .inr (List.mem_singleton.1 hk')
      · rw [updF_ne _ e2] at hk'; exact .inl (Lv_of hk')

/-- The value at a key; the type's zero where there is none. -/
theorem ValOk.lookup {t kt et : Nat} {x y : Operand} {id : Id} {b : Nat} {kk kk' : IntKind} {es : List (Int × Value)} {n : Int} {tm tk : TI} {z : Value}
    (hop : o.op = .lookup t x y false) (hT : X.T t = some tm) (htm : tm.ud = .map kt et) (hK : X.T kt = some tk) (htk : tk.ud = .int kk') (hz : (X.P.info? et).map (·.zero) = some (some z))
    (hx : st.ev x = .lit (.map (some b))) (hob : st.obj id = .mp b kk es) (hy : st.ev y = .lit (.int kk n)) : ValOk X g st o (.lit ((mget es n).getD z)) := by
  intro hX a w β F hI
  have h1 := ty_of hX hT
  have h2 := ty_of hX hK
  obtain ⟨j, hj, hz0⟩ := Option.map_eq_some_iff.1 hz
  have hobj := hI.obj id
  rw [hob] at hobj
  obtain ⟨hF, arr, clock, hb, he⟩ := hobj
  obtain ⟨r, hr1, hr2⟩ := findNow_int kk kk' n arr.toList es 0 he
  refine ⟨_, fun w2 hk => ?_, .lit _ _⟩
  have hb2 : w2.heap[b]? = some (.map arr clock) := by
    rw [hk.block b (Array.getElem?_eq_some_iff.1 hb).1 (by simp)]; exact hb
  have hs := un_run h1 w2
  rw [htm] at hs
  have hk' := h2.ud
  rw [htk] at hk'
  have hfk := run_findKey (w := w2) hk' hr1
  have hck := run_checkKey_int (P := X.P) (w := w2) (em := arr.isEmpty) hk' kk n
  cases hr : r with
  | none =>
    rw [hr] at hr2 hfk
    have hm : mget es n = none := by simpa using hr2.symm
    simp [execOp, hop, Instr.lookup, ev_lit hI hx, ev_lit hI hy, hs, Go.MapKept.run_getObj_map hb2, hck, hfk, zeroValue, typeInfo, hj, hz0, hm]
  | some p =>
    rw [hr] at hr2 hfk
    have hm : mget es n = some p.2 := by simpa using hr2.symm
    simp [execOp, hop, Instr.lookup, ev_lit hI hx, ev_lit hI hy, hs, Go.MapKept.run_getObj_map hb2, hck, hfk, hm]

/-- A new key. -/
theorem Run.mapNew {t kt et : Nat} {m x v : Operand} {id : Id} {b : Nat} {kk kk' : IntKind} {es : List (Int × Value)} {n : Int} {u : Value} {tm tk : TI}
    (ho : ops[i]? = some o) (hg : guardOf ops st o = some true) (hd : o.dst = none) (hop : o.op = .mapUpdate t m x v ∨ o.op = .insert t m x v) (hT : X.T t = some tm) (htm : tm.ud = .map kt et) (hK : X.T kt = some tk) (htk : tk.ud = .int kk')
    (hm : st.ev m = .lit (.map (some b))) (hob : st.obj id = .mp b kk es) (hx : st.ev x = .lit (.int kk n)) (hv : st.ev v = .lit u) (hnew : mget es n = none)
    (h : Run X g (.inRegion ops rest :: k) (st.setObj id (.mp b kk (es ++ [(n, u)])))) : Run X g (.inRegion ops (i :: rest) :: k) st := by
  refine Run.op ho (fun a w hI => guardOf_ok hg a w hI) ?_ h
  rintro hX a w ⟨β, F, hI⟩
  have h1 := ty_of hX hT
  have h2 := ty_of hX hK
  have hobj := hI.obj id
  rw [hob] at hobj
  obtain ⟨hF, arr, clock, hb, he⟩ := hobj
  obtain ⟨r, hr1, hr2⟩ := findNow_int kk kk' n arr.toList es 0 he
  rw [hnew] at hr2
  have hr : r = none := by cases r; rfl; simp at hr2
  subst hr
  have hs := un_run h1 w
  rw [htm] at hs
  have hk' := h2.ud
  rw [htk] at hk'
  have hfk := run_findKey (w := w) hk' hr1
  have hck := run_checkKey_int (P := X.P) (w := w) (em := false) hk' kk n
  have hso := Go.MapKept.run_setObj_map (P := X.P) (.map (arr.push { key := .int kk n, val := u, born := clock }) (clock + 1)) hb
  obtain ⟨hs1, hs2⟩ := heap_set (o' := .map (arr.push { key := .int kk n, val := u, born := clock }) (clock + 1)) hb
  have hbF : b ∈ F (.o id) := by rw [hF]; simp
  have hbr := hI.range _ b hbF
  refine ⟨undef, { w with heap := w.heap.setIfInBounds b (.map (arr.push { key := .int kk n, val := u, born := clock }) (clock + 1)) }, .inr ⟨?_, rfl⟩, ?_⟩
  · rcases hop with hop | hop <;> simp [execOp, hop, Instr.mapUpdate, ev_lit hI hm, ev_lit hI hx, ev_lit hI hv, hs, Go.MapKept.run_getObj_map hb, hck, hfk, hso]
  · rw [hd]
    generalize hw' : ({ w with heap := w.heap.setIfInBounds b (.map (arr.push { key := .int kk n, val := u, born := clock }) (clock + 1)) } : World) = w'
    have hk : Kp [b] w w' := by subst hw'; exact ⟨rfl, rfl, rfl, by simp, fun c _ hc => hs2 c (by simpa using hc)⟩
    have h1' : Inv X g (st.setObj id .gone) a w β (updF F (.o id) []) (Lv g F) := hI.setOb id .gone rfl (by simp) (by simp) (by simp)
    have h2' : Inv X g (st.setObj id .gone) a w' β (updF F (.o id) []) (Lv g F) := by
      refine h1'.world (M := fun c => c = b) (hI.kp.trans hk (by simpa using hbr)) (fun c hc hM => hk.block c hc (by simpa using hM)) (fun c hc => by subst hc; exact Lv_of hbF) (fun _ _ h => h) ?_
      rintro kk2 c hc rfl
      by_cases e : kk2 = .o id
      · subst e; rw [updF_same] at hc; simp at hc
      · rw [updF_ne _ e] at hc; exact hI.sep.apart _ _ c e hc hbF
    have h3 := h2'.setOb id (.mp b kk (es ++ [(n, u)])) (G := [b]) ⟨rfl, arr.push { key := .int kk n, val := u, born := clock }, clock + 1, by subst hw'; exact hs1, by simp [he]⟩ (by simp) (by
      intro kk2 hk2 c hc hc'
      rw [List.mem_singleton.1 hc] at hc'
      rw [updF_ne _ hk2] at hc'
      exact hI.sep.apart _ _ b hk2 hc' hbF) (by
      intro c hc
      rw [List.mem_singleton.1 hc]; exact hbr)
    have h4 : SR X g ((st.setObj id .gone).setObj id (.mp b kk (es ++ [(n, u)]))) a w' := by
      refine ⟨_, _, h3.setL fun c _ hc => ?_⟩
      refine Lv_sub hc (fun k2 hk2 => ?_) .inl
      by_cases e : k2 = .o id
      · subst e; rw [updF_same] at hk2; rw [List.mem_singleton.1 hk2]; exact Lv_of hbF
      · rw [updF_ne _ e, updF_ne _ e] at hk2; exact Lv_of hk2
    have hle : St.Le (st.setObj id (.mp b kk (es ++ [(n, u)]))) ((st.setObj id .gone).setObj id (.mp b kk (es ++ [(n, u)]))) := ⟨fun d => .inr rfl, fun id' => .inr (by
      rw [St.obj_setObj, St.obj_setObj, St.obj_setObj]
      by_cases e : id = id' <;> simp [e])⟩
    exact h4.le hle
end
end Go.Av
