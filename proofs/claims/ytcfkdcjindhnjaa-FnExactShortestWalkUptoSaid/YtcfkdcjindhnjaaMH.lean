/- Parts of a proof, in one text: AvStr, AvBld, AvTxt, AvEq, AvSrt, AvIter, AvRange, AvRange2, AvRange3, AvMem, AvRange4, AvBit, AvNewB, AvMany. -/
import Derived.Test.YtcfkdcjindhnjaaMF
import Derived.Test.YtcfkdcjindhnjaaMB
import Derived.Lib.Strings
import Derived.Sort.Grow
import Derived.Laws.BytesArg
import Derived.Lib.FrozenHead
import Derived.Lib.LaidTab
import Derived.Lib.Repeat
import Derived.Lib.ConvBytes
import Derived.Sort.Row
import Derived.Sort.EncStr
import Derived.Laws.RangeString
import Derived.RangeFuncIn
import Derived.RangeFuncRecord
set_option linter.unusedVariables false

/- Texts: sums, bytes, parts; contracts of the library's functions at plain values. -/
namespace Go.Av
open Go Go.RowKit

/-- A text, by its bytes. -/
def str (l : List UInt8) : AV := .lit (.string ⟨l.toArray⟩)

section
variable {X : Fx} {g : Gx} {st st' : St} {a : Act} {w w' : World} {β β' : Env} {F : Key → List Nat} {L : Nat → Prop} {K : List Item} {k : List Item}
variable {ops : Array Oper} {i : Nat} {rest : List Nat} {o : Oper}

/-- A byte of a text. -/
theorem ValOk.sidx {t : Nat} {ti : TI} {x j : Operand} {kk : IntKind} {m : Int} (l : List UInt8) (b : UInt8) (hop : o.op = .index t x j) (hT : X.T t = some ti) (hud : ti.ud = .string)
    (hx : st.ev x = str l) (hj : st.ev j = .lit (.int kk m)) (h0 : 0 ≤ m) (hb : l[m.toNat]? = some b) : ValOk X g st o (.lit (.int .u8 (b.toNat : Int))) := by
  intro hX a w β F hI
  refine ⟨.int .u8 (b.toNat : Int), fun w2 _ => ?_, .lit _ _⟩
  have h1 := un_run (ty_of hX hT) w2
  rw [hud] at h1
  have hg : (⟨l.toArray⟩ : ByteArray)[m.toNat]? = some b := by
    have hlt : m.toNat < l.length := (List.getElem?_eq_some_iff.1 hb).1
    have hlt2 : m.toNat < (⟨l.toArray⟩ : ByteArray).size := by show m.toNat < l.toArray.size; simpa using hlt
    rw [getElem?_pos (⟨l.toArray⟩ : ByteArray) m.toNat hlt2]
    have : l[m.toNat] = b := (List.getElem?_eq_some_iff.1 hb).2
    rw [← this]
    rfl
  simp only [execOp, hop, Instr.index, ev_lit hI hx, ev_lit hI hj, asIntOf, Sem.run_bind, Sem.run_pure, Result.andThen_ok, h1, if_pos h0, hg]

end

/-! ### Bytes and texts -/

theorem flatc_u8 (ns : List Int) : flatc (ns.map u8) = ns.map u8 := by
  unfold flatc
  induction ns with
  | nil => rfl
  | cons n ns ih => simp only [List.map_cons, List.flatMap_cons, ih]; rfl

theorem u8_rel {w : World} {L : Nat → Prop} {β : Env} {n : Int} {u : Value} {G : List Nat} (h : Rel w L β (u8 n) u G) : u = .int .u8 n := by
  unfold u8 at h
  cases h; rfl

/-- Where the bytes of a slice lie. -/
theorem Rel.bytes {w : World} {L : Nat → Prop} {β : Env} {ex : Bool} {ns : List Int} {x : AV} {u : Value} {G : List Nat} (hx : x = .own 1 ex (ns.map u8) ∨ x = .ro 1 ex (ns.map u8)) (h : Rel w L β x u G) :
    ∃ A c, u = .slice A ns.length c ∧ (ns ≠ [] → ∃ b o, A = some ⟨b, o, none⟩ ∧ ∀ i, i < ns.length → w.cell? ⟨b, o + i, none⟩ = some (.int .u8 (ns.getD i 0))) := by
  have cellAt : ∀ (vals : List Value) (Fs : Nat → List Nat) (β' : Env), (∀ (k : Nat) (x : AV) (u : Value), (flatc (ns.map u8))[k]? = some x → vals[k]? = some u → Rel w L β' x u (Fs k)) → ns.length ≤ vals.length →
      ∀ i, i < ns.length → vals[i]? = some (.int .u8 (ns.getD i 0)) := by
    intro vals Fs β' hr hl i hi
    have h1 : (flatc (ns.map u8))[i]? = some (u8 (ns.getD i 0)) := by
      rw [flatc_u8, List.getElem?_map, List.getElem?_eq_getElem hi]
      simp [List.getD_eq_getElem?_getD, List.getElem?_eq_getElem hi]
    have hv := List.getElem?_eq_getElem (show i < vals.length by omega)
    have := u8_rel (hr i _ _ h1 hv)
    rw [hv, this]
  rcases hx with rfl | rfl
  · generalize hy : ns.map u8 = ys at h
    cases h with
    | ownNil _ _ _ A =>
      have : ns = [] := by simpa using hy
      subst this
      exact ⟨A, 0, rfl, fun h => absurd rfl h⟩
    | own _ _ _ _ b c arr T lo hi Fs hb hfz hs hz hr hc hm he =>
      subst hy
      refine ⟨some ⟨b, 0, none⟩, c, by simp, fun _ => ⟨b, 0, rfl, fun i hi => ?_⟩⟩
      simp only [List.length_map] at hc
      have hl : ns.length ≤ arr.toList.length := by simp [hs]; omega
      have h1 := cellAt arr.toList Fs noEnv (fun k x u hx hu => (hr k x u hx (by simpa using hu))) hl i hi
      simp [World.cell?, hb]
      simpa using h1
  · generalize hy : ns.map u8 = ys at h
    cases h with
    | roNil _ _ _ A c hc he =>
      have : ns = [] := by simpa using hy
      subst this
      exact ⟨A, c, rfl, fun h => absurd rfl h⟩
    | ro _ _ _ _ b o c vals hL hz hl hrow hr hc hm he =>
      subst hy
      refine ⟨some ⟨b, o, none⟩, c, by simp, fun _ => ⟨b, o, rfl, fun i hi => ?_⟩⟩
      have hl' : ns.length ≤ vals.length := by rw [← hl, flatc_u8]; simp
      exact hrow i _ (cellAt vals (fun _ => []) noEnv (fun k x u hx hu => hr k x u hx hu) hl' i hi)

section
variable {X : Fx} {g : Gx} {st st' : St} {a : Act} {w w' : World} {β β' : Env} {F : Key → List Nat} {L : Nat → Prop} {K : List Item} {k : List Item}
variable {ops : Array Oper} {i : Nat} {rest : List Nat} {o : Oper}

end

/-! ### The library's functions, called with plain values -/

theorem Kp.grow (F0 : List Nat) (w : World) (os : Array Obj) : Kp F0 w (Go.Sort.grow w os) :=
  ⟨rfl, rfl, rfl, by simp [Go.Sort.grow], fun b hb _ => by simp only [Go.Sort.grow]; rw [Array.getElem?_append_left hb]⟩

/-- A contract out of what is known of the calls with these very values; nothing of what was there is touched. -/
theorem Ct.ofCalls {P : Program} {f : FuncId} {fn : Func} {vs : List Value} {res : AV} (hf : P.funcs[f]? = some fn) (hb : fn.body.isSome = true) (hn : (fn.name == "runtime.NumGoroutine") = false)
    (h : ∀ w, Calls P f vs.toArray w fun e w' => ∃ v, e = .returned v ∧ Kp [] w w' ∧ ∀ L, Rel w' L noEnv res v []) : Ct P f (vs.map .lit) res [] := by
  refine ⟨by rw [hf]; simp [hb, hn], fun w L ws F hL hF hr => ?_⟩
  have hws : ws = vs.toArray ∧ F = [] := by
    generalize hx : AV.tup (vs.map .lit) = x at hr
    generalize hy : Value.tuple ws = y at hr
    cases hr with
    | tup _ cs vals Fs hl hr =>
      cases hx; cases hy
      have key : ∀ k (v u : Value), vs[k]? = some v → ws[k]? = some u → u = v ∧ Fs k = [] := by
        intro k v u hv hu
        have := hr k (.lit v) u (by simp [hv]) hu
        generalize hF : Fs k = G at this
        cases this
        exact ⟨rfl, rfl⟩
      have hlen : vs.length = ws.size := by simpa using hl
      constructor
      · apply Array.ext
        · simp [hlen]
        · intro k h1 h2
          have h3 : k < vs.length := by omega
          have := (key k vs[k] ws[k] (List.getElem?_eq_getElem h3) (Array.getElem?_eq_getElem h1)).1
          simpa using this
      · refine foots_nil fun k hk => ?_
        have h3 : k < vs.length := by simpa using hk
        have h4 : k < ws.size := by omega
        exact (key k vs[k] ws[k] (List.getElem?_eq_getElem h3) (Array.getElem?_eq_getElem h4)).2
    | _ => cases hx
  obtain ⟨rfl, rfl⟩ := hws
  refine (h w).mono ?_
  rintro e w' ⟨v, rfl, hk, hR⟩
  refine ⟨v, [], rfl, hk, by simp, by simp, ?_⟩
  have := Rel.tup (w := w') (L := fun b => L b ∨ b ∈ ([] : List Nat)) noEnv [res] #[v] (fun _ => []) (by simp) (by
    intro k x u hx hu
    cases k with
    | zero =>
      simp at hx hu
      subst hx; subst hu
      exact hR _
    | succ k => simp at hx)
  rw [foots_nil (fun _ _ => rfl)] at this
  simpa using this
end Go.Av

/- Memory that is known exactly: calls that are handed pointers into it; builders of texts. -/
namespace Go.Av
open Go Go.RowKit

def held (w : World) (ms : List (Nat × Obj)) : Prop := ∀ e ∈ ms, w.heap[e.1]? = some e.2

section
variable {X : Fx} {g : Gx} {st st' : St} {a : Act} {w w' : World} {β β' : Env} {F : Key → List Nat} {L : Nat → Prop} {K : List Item} {k : List Item}
variable {ops : Array Oper} {i : Nat} {rest : List Nat} {o : Oper}

/-- An operation that enters a function; how it ends is told by p. -/
theorem Run.opcE {π : Type} (C : π → Prop) (S : π → St) (ho : ops[i]? = some o) (hw : ∀ a w, SR X g st a w → Region.wanted o (yielded ops a.tmps) = true)
    (hs : X.Ok → ∀ a w, SR X g st a w → ∃ f args w', (execOp a.eval o).run X.P w = .ok (.enter f args) w' ∧
      Calls X.P f args w' fun e w'' => ∃ p u, C p ∧ e = .returned u ∧ SR X g (S p) (a.put o.dst u) w'')
    (h : ∀ p, C p → Run X g (.inRegion ops rest :: k) (S p)) : Run X g (.inRegion ops (i :: rest) :: k) st := by
  intro hX a w b cs hI hf hk
  obtain ⟨f, args, w1, hr, hc⟩ := hs hX a w hI
  obtain ⟨e, w2, fr2, ⟨p, u, hp', rfl, hI'⟩, hsteps, _, hleave⟩ := hc (b.atR a (.inRegion ops (i :: rest) :: k) :: cs)
  obtain ⟨v, w', fr, hp, hst⟩ := h p hp' hX (a.put o.dst u) w2 b cs hI' hf hk
  have hg := stepGR_op (P := X.P) (b := b) (k := k) (cs := cs) (w := w) (rest := rest) ho (hw a w hI)
  rw [Oper.semAt_eq _ _ _ (not_defer_of ⟨_, _, hr, by simp⟩)] at hg
  have henter : Go.step X.P (lone (b.atR a (.inRegion ops (i :: rest) :: k)) cs w) =
      .next (lone (Frame.enter X.P f args .normal) (b.atR a (.inRegion ops (i :: rest) :: k) :: cs) w1) :=
    step_lone_go (by rw [hg]; simp [stepG.apply, hr, Frame.atR])
  refine ⟨v, w', fr, hp, .head henter (Steps.trans hsteps (.head ?_ hst))⟩
  rw [← finish_op ho]
  exact step_leave_returned hleave

/-- What an object of exactly known memory becomes. -/
theorem Inv.setMem (hI : Inv X g st a w β F (Lv g F)) {id : Id} {ms ms' : List (Nat × Obj)} (hob : st.obj id = .mem ms) (hk : Kp (ms.map Prod.fst) w w') (hh : held w' ms') (hn : (ms'.map Prod.fst).Nodup)
    (hr : ∀ x ∈ ms'.map Prod.fst, x ∈ ms.map Prod.fst ∨ w.heap.size ≤ x) :
    Inv X g (st.setObj id (.mem ms')) a w' β (updF F (.o id) (ms'.map Prod.fst)) (Lv g (updF F (.o id) (ms'.map Prod.fst))) := by
  have hobj := hI.obj id
  rw [hob] at hobj
  obtain ⟨hF, hms⟩ := hobj
  have h1 : Inv X g (st.setObj id .gone) a w β (updF F (.o id) []) (Lv g F) := hI.setOb id .gone rfl (by simp) (by simp) (by simp)
  have h2 : Inv X g (st.setObj id .gone) a w' β (updF F (.o id) []) (Lv g (updF F (.o id) (ms'.map Prod.fst))) := by
    refine h1.world (M := fun b => b ∈ F (.o id)) (hI.kp.trans hk (fun b hb => hI.range _ b (by rw [hF]; exact hb))) (fun b hb hM => hk.block b hb (by rw [← hF]; exact hM)) (fun b hb => .inr ⟨_, hb⟩) ?_ ?_
    · intro b hb h
      rcases h with h | ⟨kk, h⟩
      · exact .inl h
      · by_cases e : kk = .o id
        · subst e
          rw [updF_same] at h
          rcases hr b h with h | h
          · exact .inr ⟨_, by rw [hF]; exact h⟩
          · omega
        · rw [updF_ne _ e] at h
          exact .inr ⟨_, h⟩
    · rintro kk b hb hM
      by_cases e : kk = .o id
      · subst e; rw [updF_same] at hb; simp at hb
      · rw [updF_ne _ e] at hb; exact hI.sep.apart _ _ b e hb hM
  have h3 := h2.setOb id (.mem ms') (G := ms'.map Prod.fst) ⟨rfl, hh⟩ hn (by
    intro kk e b hb hb'
    rw [updF_ne _ e] at hb'
    rcases hr b hb with h | h
    · exact hI.sep.apart _ _ b e hb' (by rw [hF]; exact h)
    · have := hI.lt kk b hb'; omega) (by
    intro b hb
    rcases hr b hb with h | h
    · exact hI.range _ b (by rw [hF]; exact h)
    · exact .inr (Nat.le_trans hI.kp.size h))
  have e1 : updF (updF F (.o id) []) (.o id) (ms'.map Prod.fst) = updF F (.o id) (ms'.map Prod.fst) := by
    funext kk
    by_cases e : kk = .o id
    · subst e; rw [updF_same, updF_same]
    · rw [updF_ne _ e, updF_ne _ e, updF_ne _ e]
  rw [e1] at h3
  refine ⟨h3.defers, h3.size, h3.kp, h3.sep, h3.range, h3.slot, fun id' => ?_, h3.pin⟩
  have := h3.obj id'
  rw [St.obj_setObj] at this ⊢
  by_cases e : id = id'
  · rw [if_pos e] at this ⊢; exact this
  · rw [if_neg e] at this ⊢
    rw [St.obj_setObj, if_neg e] at this
    exact this

end

/-! ### Builders -/

def IsRow (e : Nat) (l : List UInt8) (v : Value) (rs : List (Nat × Obj)) : Prop :=
  (v = .slice none 0 0 ∧ l = [] ∧ rs = []) ∨ ∃ g cap cur fz, v = .slice (some ⟨g, 0, none⟩) l.length cap ∧ fz.2 ≤ l.length ∧ l.length ≤ cap ∧ cap ≤ maxLen ∧ cur.size = cap ∧ cur.toList.take l.length = Lib.byteCells l ∧ rs = [(g, .cells cur e fz)]

theorem IsRow.owns {e : Nat} {l : List UInt8} {v : Value} {rs : List (Nat × Obj)} {w : World} (h : IsRow e l v rs) (hh : held w rs) (B : Nat) (hB : ∀ x ∈ rs.map Prod.fst, B ≤ x) : w.ownsRowF B e 1 v l.length (Lib.byteCells l) := by
  rcases h with ⟨rfl, rfl, rfl⟩ | ⟨g, cap, cur, fz, rfl, h1, h2, h3, h4, h5, rfl⟩
  · exact ⟨by simp [Lib.byteCells], .inl ⟨rfl, rfl⟩⟩
  · exact ⟨by simp [Lib.byteCells], .inr ⟨g, cap, cur, fz, rfl, hB g (by simp), hh (g, _) (by simp), by omega, h2, h3, by omega, by simpa using h5⟩⟩

theorem tup_pl {w : World} {L : Nat → Prop} {β : Env} {xs : List AV} {v : Value} {F : List Nat} (h : Rel w L β (.tup xs) v F) (hp : AV.plL xs = true) : F = [] := by
  cases h with
  | tup _ cs vals Fs hl hr =>
    refine foots_nil fun k hk => ?_
    exact (hr k _ _ (List.getElem?_eq_getElem hk) (Array.getElem?_eq_getElem (hl ▸ hk))).pl_nil (AV.plL_get hp k _ (List.getElem?_eq_getElem hk))

/-- As Ct.intro, where the arguments own nothing. -/
theorem Ct.intro0 (X : Fx) (hX : X.Ok) {c : Code} (hb : X.fn.body = some c) (hn : (X.fn.name == "runtime.NumGoroutine") = false) {args : List AV} {res : AV} {outs : List AV}
    (hargs' : Nat.ble args.length X.fn.ntmps = true) (hpins' : (X.pins.all fun j => Nat.blt j args.length) = true) (hpl : AV.plL args = true)
    (h : ∀ g : Gx, g.F0 = [] → g.Post = PostOf g res outs → Run X g [.code c] ⟨initS args 0, []⟩) : Ct X.P X.f args res outs :=
  ⟨by rw [hX.func]; simp [hb, hn], fun w L vs F hL hF hr => body_calls (fun _ F => F = []) X hX hb hn hargs' hpins' h w L vs F (tup_pl hr hpl) hL hF hr⟩
theorem CtA.intro0 (A : Amb) (X : Fx) (hX : X.Ok) {c : Code} (hb : X.fn.body = some c) (hn : (X.fn.name == "runtime.NumGoroutine") = false) {args : List AV} {res : AV} {outs : List AV}
    (hargs' : Nat.ble args.length X.fn.ntmps = true) (hpins' : (X.pins.all fun j => Nat.blt j args.length) = true) (hpl : AV.plL args = true)
    (h : ∀ g : Gx, g.F0 = [] → A.on g.w0 g.F0 → g.Post = PostOf g res outs → Run X g [.code c] ⟨initS args 0, []⟩) : CtA A X.P X.f args res outs :=
  ⟨by rw [hX.func]; simp [hb, hn], fun w L vs F hA hL hF hr => body_calls (fun w F => F = [] ∧ A.on w F) X hX hb hn hargs' hpins' (fun g hq => h g hq.1 hq.2) w L vs F ⟨tup_pl hr hpl, hA⟩ hL hF hr⟩
end Go.Av

/- Texts: places in arrays told by numbers; contracts where package-level variables hold what they should. -/
namespace Go.Av
open Go Go.RowKit

section
variable {X : Fx} {g : Gx} {st st' : St} {a : Act} {w w' : World} {β β' : Env} {F : Key → List Nat} {L : Nat → Prop} {K : List Item} {k : List Item}
variable {ops : Array Oper} {i : Nat} {rest : List Nat} {o : Oper}

end

section
variable {X : Fx} {g : Gx} {st st' : St} {a : Act} {w w' : World} {β β' : Env} {F : Key → List Nat} {L : Nat → Prop} {K : List Item} {k : List Item}
variable {ops : Array Oper} {i : Nat} {rest : List Nat} {o : Oper}

end

def Amb.and (A B : Amb) : Amb where
  n := max A.n B.n
  holds w := A.holds w ∧ B.holds w
  stable := fun w w' h ⟨h1, h2⟩ => ⟨A.stable w w' (fun b hb => h b (by omega)) h1, B.stable w w' (fun b hb => h b (by omega)) h2⟩

theorem CtA.sub {A B : Amb} {P : Program} {f : FuncId} {args : List AV} {res : AV} {outs : List AV} (h : CtA A P f args res outs) (hAB : ∀ w F, B.on w F → A.on w F) : CtA B P f args res outs :=
  ⟨h.enters, fun w L vs F hB hL hF hr => h.calls w L vs F (hAB w F hB) hL hF hr⟩

/-- A contract out of what is known of the calls with these very values; nothing of what was there is touched. -/
theorem CtA.ofCalls (A : Amb) {P : Program} {f : FuncId} {fn : Func} {vs : List Value} {res : AV} (hf : P.funcs[f]? = some fn) (hb : fn.body.isSome = true) (hn : (fn.name == "runtime.NumGoroutine") = false)
    (h : ∀ w, A.on w [] → Calls P f vs.toArray w fun e w' => ∃ v, e = .returned v ∧ Kp [] w w' ∧ ∀ L, Rel w' L noEnv res v []) : CtA A P f (vs.map .lit) res [] := by
  refine ⟨by rw [hf]; simp [hb, hn], fun w L ws F hA hL hF hr => ?_⟩
  have hws : ws = vs.toArray ∧ F = [] := by
    refine ⟨?_, tup_pl hr ?_⟩
    · generalize hx : AV.tup (vs.map .lit) = x at hr
      generalize hy : Value.tuple ws = y at hr
      cases hr with
      | tup _ cs vals Fs hl hr =>
        cases hx; cases hy
        have hlen : vs.length = ws.size := by simpa using hl
        apply Array.ext
        · simp [hlen]
        · intro k h1 h2
          have h3 : k < vs.length := by omega
          have := hr k (.lit vs[k]) ws[k] (by simp [h3]) (Array.getElem?_eq_getElem h1)
          generalize hG : Fs k = G at this
          generalize hv : ws[k] = u at this
          cases this
          simp [← hv]
      | _ => cases hx
    · clear hr h
      induction vs with
      | nil => rfl
      | cons v vs ih => simp only [List.map_cons, AV.plL, AV.pl, Bool.true_and]; exact ih
  obtain ⟨rfl, rfl⟩ := hws
  refine (h w hA).mono ?_
  rintro e w' ⟨v, rfl, hk, hR⟩
  refine ⟨v, [], rfl, hk, by simp, by simp, ?_⟩
  have := Rel.tup (w := w') (L := fun b => L b ∨ b ∈ ([] : List Nat)) noEnv [res] #[v] (fun _ => []) (by simp) (by
    intro k x u hx hu
    cases k with
    | zero =>
      simp at hx hu
      subst hx; subst hu
      exact hR _
    | succ k => simp at hx)
  rw [foots_nil (fun _ _ => rfl)] at this
  simpa using this

theorem Below.kp {w w' : World} (h : Below w.heap.size w w') : Kp [] w w' := Kp.of_below h
end Go.Av

/- A part of a proof in the texts 'av': contracts of the program's functions. -/
namespace Go.Av
open Go

/-! Calls whose result is known up to a fact; errors against nil. -/

section
variable {X : Fx} {g : Gx} {st st' : St} {a : Act} {w w' : World} {β β' : Env} {F : Key → List Nat} {L : Nat → Prop} {K : List Item} {k : List Item}
variable {ops : Array Oper} {i : Nat} {rest : List Nat} {o : Oper}

end

end Go.Av

/- A part of a proof in the texts 'av': contracts of the program's functions. -/
namespace Go.Av
open Go Go.Proofs

/-! Rows of texts that a library function turns. -/

section
variable {X : Fx} {g : Gx} {st st' : St} {a : Act} {w w' : World} {β β' : Env} {F : Key → List Nat} {L : Nat → Prop} {K : List Item} {k : List Item}
variable {ops : Array Oper} {i : Nat} {rest : List Nat} {o : Oper}
end

theorem heap_putRow {w : World} {b n : Nat} {os : Array Obj} {d : Array (List UInt8)} {arr : Array Value} {T : TypeId} {fz : Nat × Nat} (hb : w.heap[b]? = some (.cells arr T fz)) :
    (Sort.grow (Sort.putRow encStr (Sort.ahead w n) b 0 d) os).heap[b]? = some (.cells (Sort.putCells encStr 0 d arr) T fz) := by
  have hlt := (Array.getElem?_eq_some_iff.1 hb).1
  show ((w.heap.modify b _) ++ os)[b]? = _
  rw [Array.getElem?_append_left (by simpa using hlt), Array.getElem?_modify]
  simp [hb, Sort.onCells]
theorem flatc_str (ls : List (List UInt8)) : flatc (ls.map str) = ls.map str := by
  unfold flatc
  induction ls with
  | nil => rfl
  | cons l ls ih => rw [List.map_cons, List.flatMap_cons, ih]; rfl
/-- What is known of a row of texts of one's own. -/
def RowS (w : World) (ls : List (List UInt8)) (b c : Nat) : Prop :=
  ∃ arr T fz, w.heap[b]? = some (.cells arr T fz) ∧ (∀ k, k < arr.size → ¬ (fz.1 ≤ k ∧ k < fz.2)) ∧ arr.size = c ∧ (∀ (k : Nat) (l : List UInt8), ls[k]? = some l → arr[k]? = some (encStr l)) ∧ ls.length ≤ c ∧ c ≤ capMax

theorem RowS.rel {w : World} {L : Nat → Prop} {ex : Bool} {ls : List (List UInt8)} {b c : Nat} (h : RowS w ls b c) (he : ex = true → c = ls.length) : Rel w L noEnv (.own 1 ex (ls.map str)) (.slice (some ⟨b, 0, none⟩) ls.length c) [b] := by
  obtain ⟨arr, T, ⟨lo, hi⟩, hb, hfz, hs, hv, hc, hm⟩ := h
  have := Rel.own (w := w) (L := L) noEnv 1 ex (ls.map str) b c arr T lo hi (fun _ => []) hb ⟨hfz, fun h => absurd h (by omega)⟩ (by omega) (by
      intro x hx
      obtain ⟨l, _, rfl⟩ := List.mem_map.1 hx
      rfl) (by
      intro k x u hx hu
      rw [flatc_str, List.getElem?_map] at hx
      cases hl : ls[k]? with
      | none => rw [hl] at hx; cases hx
      | some l =>
        rw [hl] at hx
        simp only [Option.map_some, Option.some.injEq] at hx
        subst hx
        rw [hv k l hl] at hu
        simp only [Option.some.injEq] at hu
        subst hu
        exact .lit _ _) (by simpa using hc) hm (by simpa using he)
  rw [foots_nil (fun _ _ => rfl)] at this
  simpa using this

theorem RowS.holds {w : World} {ls : List (List UInt8)} {b c : Nat} (h : RowS w ls b c) : Sort.Holds encStr w b 0 ls.toArray := by
  obtain ⟨arr, T, fz, hb, hfz, hs, hv, hc, hm⟩ := h
  intro j hj
  have hj : j < ls.length := by simpa using hj
  constructor
  · simp only [World.cell?, hb, Nat.zero_add]
    rw [if_neg (by simp), hv j ls[j] (by simp [hj])]
    simp [hj]
  · simp only [World.frozen?, hb, Nat.zero_add]
    have := hfz j (by omega)
    simp only [Bool.and_eq_false_iff, decide_eq_false_iff_not, Nat.not_le, Nat.not_lt]
    omega
theorem RowS.lt {w : World} {ls : List (List UInt8)} {b c : Nat} (h : RowS w ls b c) : b < w.heap.size := by
  obtain ⟨arr, T, fz, hb, _⟩ := h
  exact (Array.getElem?_eq_some_iff.1 hb).1
theorem RowS.le {w : World} {ls : List (List UInt8)} {b c : Nat} (h : RowS w ls b c) : ls.length ≤ c ∧ c ≤ capMax := by
  obtain ⟨_, _, _, _, _, _, _, h1, h2⟩ := h
  exact ⟨h1, h2⟩
theorem RowS.put {w : World} {ls l2 l3 : List (List UInt8)} {b c n : Nat} {os : Array Obj} (h : RowS w ls b c) (hl : (l2 ++ l3).length = ls.length) : RowS (Sort.grow (Sort.putRow encStr (Sort.ahead w n) b 0 (l2 ++ l3).toArray) os) l2 b c := by
  obtain ⟨arr, T, fz, hb, hfz, hs, hv, hc, hm⟩ := h
  refine ⟨_, T, fz, heap_putRow hb, ?_, ?_, ?_, ?_, hm⟩
  · simpa [Sort.putCells] using hfz
  · simpa [Sort.putCells] using hs
  · intro k l hk
    have hkl := (List.getElem?_eq_some_iff.1 hk).1
    have hk2 : k < (l2 ++ l3).length := by simp; omega
    have hka : k < arr.size := by omega
    simp only [Sort.putCells, Array.getElem?_mapIdx, Array.getElem?_eq_getElem hka, Option.map_some, Nat.zero_le, true_and, Nat.zero_add, Nat.sub_zero]
    rw [if_pos (by simpa using hk2)]
    congr 2
    rw [getElem!_pos _ k (by simpa using hk2)]
    simp only [List.getElem_toArray]
    rw [List.getElem_append_left hkl]
    exact (List.getElem?_eq_some_iff.1 hk).2
  · simp at hl
    omega

end Go.Av

/- A part of a proof in the texts 'av': contracts of the program's functions. -/
namespace Go.Av
open Go

/-! Ranging over a text. -/

section
variable {X : Fx} {g : Gx} {st st' : St} {a : Act} {w w' : World} {β β' : Env} {F : Key → List Nat} {L : Nat → Prop} {K : List Item} {k : List Item}
variable {ops : Array Oper} {i : Nat} {rest : List Nat} {o : Oper}

end
end Go.Av

/- Ranging over a function: what the iterator and the rounds promise each other; the rule for the call of yield. -/
namespace Go.Av
open Go Go.RowKit

/-- A call of yield, at loop l: the round runs to its end. -/
def RoundAt (P : Program) (l : Nat) (x : Value) (w : World) (R : Bool → World → Prop) : Prop :=
  ∃ r : Loop, w.heap[l]? = some (.loop r) ∧ r.params.size = 1 ∧
    ∀ (c : Frame) (cs : List Frame), ∃ b w', R b w' ∧
      Steps P (lone (Frame.round l r.fn ((r.params.zip #[x]).foldl (fun t (p, v) => t.setIfInBounds p v) r.tmps) r.assign r.body .normal) (c :: cs) w) (lone (c.finish (.bool b)) cs w')

/-- What the rounds promise: J n holds when n elements have come, Jx when a round has said no more. -/
structure Itx (P : Program) (l : Nat) (own : List Nat) (xs : List Value) (J : Nat → World → Prop) (Jx : World → Prop) : Prop where
  keep : ∀ n w1 w2, J n w1 → Kp own w1 w2 → J n w2
  keepx : ∀ w1 w2, Jx w1 → Kp own w1 w2 → Jx w2
  round : ∀ n x w1, xs[n]? = some x → J n w1 → RoundAt P l x w1 fun b w2 => ∃ H : List Nat, (∀ b ∈ H, b ∉ own) ∧ Kp H w1 w2 ∧ (b = true → J (n + 1) w2) ∧ (b = false → Jx w2)

/-- An iterator hands these values to yield, one after another, until a round says no more; it changes its own blocks alone. -/
def SeqOk (P : Program) (f : FuncId) (lb : Array Value) (own : List Nat) (It : World → Prop) (xs : List Value) : Prop :=
  ∀ (l : Nat) (J : Nat → World → Prop) (Jx : World → Prop) (w : World), It w → Itx P l own xs J Jx → J 0 w →
    Calls P f (#[.func (.yield l) #[] #[]] ++ lb) w fun e w' => (∃ v, e = .returned v) ∧ (J xs.length w' ∨ Jx w')

/-- All blocks of a world but some. -/
def msOf (w : World) (own : List Nat) : List (Nat × Obj) := ((List.range w.heap.size).filter fun b => !(own.contains b)).map fun b => (b, w.heap.getD b default)

theorem msOf_fst (w : World) (own : List Nat) : (msOf w own).map Prod.fst = (List.range w.heap.size).filter fun b => !(own.contains b) := by
  simp [msOf, Function.comp_def]
theorem msOf_nodup (w : World) (own : List Nat) : ((msOf w own).map Prod.fst).Nodup := by
  rw [msOf_fst]; exact List.Pairwise.filter _ List.nodup_range
theorem msOf_mem {w : World} {own : List Nat} {b : Nat} : b ∈ (msOf w own).map Prod.fst ↔ b < w.heap.size ∧ b ∉ own := by
  rw [msOf_fst]; simp
theorem msOf_held (w : World) (own : List Nat) : held w (msOf w own) := by
  intro e he
  obtain ⟨b, hb, rfl⟩ := List.mem_map.1 he
  have := (List.mem_filter.1 hb).1
  have hlt : b < w.heap.size := by simpa using this
  simp [Array.getElem?_eq_getElem hlt, Array.getD_eq_getD_getElem?]

/-- J held of a world, all of whose blocks but the iterator's own are these. -/
def Cov (g : Gx) (own : List Nat) (J : World → Prop) (ms : List (Nat × Obj)) : Prop :=
  ∃ w1, J w1 ∧ Kp g.F0 g.w0 w1 ∧ held w1 ms ∧ ∀ b, b < w1.heap.size → b ∉ own → b ∈ ms.map Prod.fst

theorem Cov.mk' {g : Gx} {own : List Nat} {J : World → Prop} {w : World} (hJ : J w) (hk : Kp g.F0 g.w0 w) : Cov g own J (msOf w own) :=
  ⟨w, hJ, hk, msOf_held w own, fun _ h1 h2 => msOf_mem.2 ⟨h1, h2⟩⟩

section
variable {X : Fx} {g : Gx} {st st' : St} {a : Act} {w w' : World} {β β' : Env} {F : Key → List Nat} {L : Nat → Prop} {K : List Item} {k : List Item}
variable {ops : Array Oper} {i : Nat} {rest : List Nat} {o : Oper}

theorem Cov.now {own : List Nat} {J : World → Prop} {im ms : List (Nat × Obj)} {idI idC : Id} (hc : Cov g own J ms) (hkeep : ∀ w1 w2, J w1 → Kp own w1 w2 → J w2) (hI : Inv X g st a w β F L)
    (hi : st.obj idI = .mem im) (him : im.map Prod.fst = own) (hC : st.obj idC = .mem ms) : J w := by
  obtain ⟨w1, hJ, hk, hh, hcov⟩ := hc
  have h1 := hI.obj idI
  rw [hi] at h1
  have h2 := hI.obj idC
  rw [hC] at h2
  have hlt : ∀ b, b < w1.heap.size → b < w.heap.size := by
    intro b hb
    by_cases ho : b ∈ own
    · rw [← him] at ho
      obtain ⟨e, he, rfl⟩ := List.mem_map.1 ho
      exact (Array.getElem?_eq_some_iff.1 (h1.2 e he)).1
    · obtain ⟨e, he, rfl⟩ := List.mem_map.1 (hcov b hb ho)
      exact (Array.getElem?_eq_some_iff.1 (h2.2 e he)).1
  refine hkeep w1 w hJ ⟨hI.kp.os.trans hk.os.symm, hI.kp.tape.trans hk.tape.symm, hI.kp.output.trans hk.output.symm, ?_, fun b hb ho => ?_⟩
  · cases hs : w1.heap.size with
    | zero => exact Nat.zero_le _
    | succ n => exact hlt n (by omega)
  · obtain ⟨e, he, rfl⟩ := List.mem_map.1 (hcov b hb ho)
    rw [h2.2 e he, hh e he]

/-- Nothing is owned by it, and it reads nothing. -/
def AV.bare : AV → Bool
  | .lit _ | .top => true
  | .fn _ [] => true
  | _ => false

theorem Rel.bare {x : AV} (hx : x.bare = true) {v : Value} {G : List Nat} (h : Rel w L β x v G) : G = [] ∧ ∀ (w' : World) (L' : Nat → Prop) (β' : Env), Rel w' L' β' x v [] := by
  cases h with
  | top => exact ⟨rfl, fun _ _ _ => .top _ _⟩
  | lit => exact ⟨rfl, fun _ _ _ => .lit _ _⟩
  | fn _ f cs vals hl hr =>
    cases cs with
    | nil => exact ⟨rfl, fun _ _ _ => .fn _ _ _ _ hl (fun k x u hx hu => by simp at hx)⟩
    | cons c cs => cases hx
  | _ => cases hx

theorem lookS_bare {l : List (Nat × AV)} (h : (l.all fun e => e.2.bare) = true) (d : Nat) : (lookS l d).bare = true := by
  induction l with
  | nil => rfl
  | cons e l ih =>
    obtain ⟨k, v⟩ := e
    simp only [List.all_cons, Bool.and_eq_true] at h
    simp only [lookS]
    cases Nat.beq k d
    · exact ih h.2
    · exact h.1

theorem lookO_two {l : List (Id × Ob)} {i j : Id} (h : (l.all fun e => eqId e.1 i || eqId e.1 j) = true) (id : Id) (hi : id ≠ i) (hj : id ≠ j) : lookO l id = .gone := by
  induction l with
  | nil => rfl
  | cons e l ih =>
    obtain ⟨k, v⟩ := e
    simp only [List.all_cons, Bool.and_eq_true, Bool.or_eq_true] at h
    simp only [lookO]
    cases hb : eqId k id
    · exact ih h.2
    · have := (eqId_iff _ _).1 hb
      subst this
      rcases h.1 with h | h
      · exact absurd ((eqId_iff _ _).1 h) hi
      · exact absurd ((eqId_iff _ _).1 h) hj

/-- A state of plain values alone, beside the iterator's own memory and all the rest of it. -/
structure Bare (st : St) (idI idC : Id) : Prop where
  sl : (st.sl.all fun e => e.2.bare) = true
  ob : (st.ob.all fun e => eqId e.1 idI || eqId e.1 idC) = true

/-- The rest of the memory has changed: what was known of plain values is still known. -/
theorem Inv.others {own : List Nat} {im : List (Nat × Obj)} {idI idC : Id} (hb : Bare st idI idC) (hne : idI ≠ idC) (hI : Inv X g st a w β F (Lv g F)) (hi : st.obj idI = .mem im) (him : im.map Prod.fst = own)
    {H : List Nat} (hk : Kp H w w') (hH : ∀ b ∈ H, b ∉ own) (hall : ∀ b, b < g.w0.heap.size → b ∈ g.F0) :
    SR X g (st.setObj idC (.mem (msOf w' own))) a w' := by
  have h1 := hI.obj idI
  rw [hi] at h1
  have hr : ∀ b : Nat, b ∈ g.F0 ∨ g.w0.heap.size ≤ b := fun b => by
    by_cases h : b < g.w0.heap.size
    · exact .inl (hall b h)
    · exact .inr (by omega)
  have hbs : ∀ d, (st.get d).bare = true := lookS_bare hb.sl
  have hbo : ∀ id, id ≠ idI → id ≠ idC → st.obj id = .gone := lookO_two hb.ob
  let F' : Key → List Nat := fun k => if k = .o idI then own else if k = .o idC then (msOf w' own).map Prod.fst else []
  have hF1 : F' (.o idI) = own := by simp [F']
  have hneK : (Key.o idC) ≠ .o idI := by intro e; cases e; exact hne rfl
  have hF2 : F' (.o idC) = (msOf w' own).map Prod.fst := by simp only [F', if_neg hneK, if_true]
  have hF3 : ∀ k, k ≠ .o idI → k ≠ .o idC → F' k = [] := fun k h1 h2 => by simp only [F', if_neg h1, if_neg h2]
  have hnd : own.Nodup := by rw [← him, ← h1.1]; exact hI.sep.nodup _
  refine ⟨β, F', hI.defers, hI.size, hI.kp.trans hk (fun b _ => (hr b).imp id id), ⟨fun k => ?_, fun k k' b hne' hb1 hb2 => ?_⟩, fun k b hb1 => hr b, fun d => ?_, fun id => ?_, hI.pin⟩
  · by_cases e1 : k = .o idI
    · subst e1; rw [hF1]; exact hnd
    · by_cases e2 : k = .o idC
      · subst e2; rw [hF2]; exact msOf_nodup _ _
      · rw [hF3 k e1 e2]; simp
  · by_cases e1 : k = .o idI
    · subst e1
      rw [hF1] at hb1
      by_cases e2 : k' = .o idC
      · subst e2; rw [hF2] at hb2; exact (msOf_mem.1 hb2).2 hb1
      · rw [hF3 k' (fun h => hne' h.symm) e2] at hb2; simp at hb2
    · by_cases e2 : k = .o idC
      · subst e2
        rw [hF2] at hb1
        by_cases e3 : k' = .o idI
        · subst e3; rw [hF1] at hb2; exact (msOf_mem.1 hb1).2 hb2
        · rw [hF3 k' e3 (fun h => hne' h.symm)] at hb2; simp at hb2
      · rw [hF3 k e1 e2] at hb1; simp at hb1
  · obtain ⟨u, hu, hrel⟩ := hI.slot d
    refine ⟨u, ?_, ?_⟩
    · rw [St.get_setObj]; exact hu
    · rw [St.get_setObj, hF3 _ (by simp) (by simp)]
      exact (hrel.bare (hbs d)).2 _ _ _
  · rw [St.obj_setObj]
    by_cases e1 : idC = id
    · subst e1
      rw [if_pos rfl, hF2]
      exact ⟨rfl, msOf_held _ _⟩
    · rw [if_neg e1]
      by_cases e2 : id = idI
      · subst e2
        rw [hi, hF1]
        refine ⟨him.symm, fun e he => ?_⟩
        have hm : e.1 ∈ own := by rw [← him]; exact List.mem_map_of_mem he
        rw [hk.block e.1 (Array.getElem?_eq_some_iff.1 (h1.2 e he)).1 (fun hH' => hH _ hH' hm)]
        exact h1.2 e he
      · rw [hbo id e2 (fun h => e1 h.symm), hF3 _ (by intro h; cases h; exact e2 rfl) (by intro h; cases h; exact e1 rfl)]
        rfl

/-- A call of yield, in the iterator's frame. -/
theorem Run.yield {l n : Nat} {own : List Nat} {xs : List Value} {J : Nat → World → Prop} {Jx : World → Prop} {d : Nat} {fo xo : Operand} {ts : Array TypeId} {x : Value} {im ms : List (Nat × Obj)} (idI idC : Id)
    (hx : Itx X.P l own xs J Jx) (hall : ∀ b, b < g.w0.heap.size → b ∈ g.F0) (ho : ops[i]? = some o) (hg : guardOf ops st o = some true) (hd : o.dst = some d) (hop : o.op = .call ⟨.value fo, #[xo], ts⟩)
    (hf : st.ev fo = .lit (.func (.yield l) #[] #[])) (hxo : st.ev xo = .lit x) (hn : xs[n]? = some x) (hi : st.obj idI = .mem im) (him : im.map Prod.fst = own) (hC : st.obj idC = .mem ms) (hne : idI ≠ idC)
    (hcov : Cov g own (J n) ms) (hb : Bare st idI idC) (hdn : (Nat.blt d X.fn.ntmps && !(X.pins.contains d)) = true)
    (ht : ∀ ms', Cov g own (J (n + 1)) ms' → Run X g (.inRegion ops rest :: k) ((st.setObj idC (.mem ms')).put d (.lit (.bool true))))
    (hfs : ∀ ms', Cov g own Jx ms' → Run X g (.inRegion ops rest :: k) ((st.setObj idC (.mem ms')).put d (.lit (.bool false)))) : Run X g (.inRegion ops (i :: rest) :: k) st := by
  simp only [Bool.and_eq_true, Bool.not_eq_true'] at hdn
  intro hX a w b cs hI hfn hk
  have hw := guardOf_ok hg a w hI
  obtain ⟨β, F, hI⟩ := hI
  have hJ : J n w := hcov.now (hx.keep n) hI hi him hC
  obtain ⟨r, hr, hsz, hround⟩ := hx.round n x w hn hJ
  have hrun : (execOp a.eval o).run X.P w = .ok (.round l r.fn ((r.params.zip #[x]).foldl (fun t (p, v) => t.setIfInBounds p v) r.tmps) r.assign r.body) w := by
    have h1 := run_yield (P := X.P) (args := #[x]) hr (by simp [hsz])
    obtain ⟨dst, op, type, pos, after, guard⟩ := o
    simp only at hop
    subst hop
    simp [execOp, resolve, ev_lit hI hf, ev_lit hI hxo, Deferred.ofValue, invoke, h1]
  obtain ⟨bb, w2, ⟨H, hH, hk2, h1, h2⟩, hst⟩ := hround (b.atR a (.inRegion ops (i :: rest) :: k)) cs
  have hgo := stepGR_op (P := X.P) (b := b) (k := k) (cs := cs) (w := w) (rest := rest) ho hw
  rw [Oper.semAt_eq _ _ _ (not_defer_of ⟨_, _, hrun, by simp⟩)] at hgo
  have henter : Go.step X.P (lone (b.atR a (.inRegion ops (i :: rest) :: k)) cs w) =
      .next (lone (Frame.round l r.fn ((r.params.zip #[x]).foldl (fun t (p, v) => t.setIfInBounds p v) r.tmps) r.assign r.body .normal) (b.atR a (.inRegion ops (i :: rest) :: k) :: cs) w) :=
    step_lone_go (by rw [hgo]; simp [stepG.apply, hrun, Frame.atR])
  obtain ⟨β2, F2, hI2⟩ := Inv.others hb hne hI hi him hk2 hH hall
  have hI3 : ∀ c : Bool, SR X g ((st.setObj idC (.mem (msOf w2 own))).put d (.lit (.bool c))) (a.put o.dst (.bool c)) w2 := fun c => by rw [hd]; exact hI2.putv (blt_lt hdn.1) (contains_iff hdn.2) (.lit _ _)
  rw [finish_op ho] at hst
  cases bb with
  | true =>
    obtain ⟨v, w', fr, hp, hst'⟩ := ht _ (Cov.mk' (h1 rfl) hI2.kp) hX _ w2 b cs (hI3 true) hfn hk
    exact ⟨v, w', fr, hp, .head henter (Steps.trans hst hst')⟩
  | false =>
    obtain ⟨v, w', fr, hp, hst'⟩ := hfs _ (Cov.mk' (h2 rfl) hI2.kp) hX _ w2 b cs (hI3 false) hfn hk
    exact ⟨v, w', fr, hp, .head henter (Steps.trans hst hst')⟩

end
end Go.Av

/- Ranging over a function: the iterator's body, the rounds, the statement. -/
namespace Go.Av
open Go Go.RowKit

section
variable {X : Fx} {g : Gx} {st st' : St} {a : Act} {w w' : World} {β β' : Env} {F : Key → List Nat} {L : Nat → Prop} {K : List Item} {k : List Item}
variable {ops : Array Oper} {i : Nat} {rest : List Nat} {o : Oper}

/-! ### The iterator -/

/-- One call of an iterator, out of the walk of its body. -/
theorem SeqAt.intro (X : Fx) (hX : X.Ok) {c : Code} (hb : X.fn.body = some c) {lb : List Value} {im : List (Nat × Obj)} {xs : List Value} (hargs' : Nat.ble (lb.length + 1) X.fn.ntmps = true)
    (hpins' : (X.pins.all fun j => Nat.blt j (lb.length + 1)) = true) (hnd : (im.map Prod.fst).Nodup) {l : Nat} {J : Nat → World → Prop} {Jx : World → Prop} {w : World}
    (h : ∀ (g : Gx) (ms : List (Nat × Obj)), (∀ b, b < g.w0.heap.size → b ∈ g.F0) → Cov g (im.map Prod.fst) (J 0) ms →
      g.Post = .plain (fun _ w' => J xs.length w' ∨ Jx w') → Run X g [.code c] ⟨initS (.lit (.func (.yield l) #[] #[]) :: lb.map .lit) 0, [((0, 0), .mem im), ((0, 1), .mem ms)]⟩) (hIt : held w im) (hJ0 : J 0 w) :
    Calls X.P X.f (#[.func (.yield l) #[] #[]] ++ lb.toArray) w fun e w' => (∃ v, e = .returned v) ∧ (J xs.length w' ∨ Jx w') := by
  have hargs : lb.length + 1 ≤ X.fn.ntmps := Nat.le_of_ble_eq_true hargs'
  have hpins : ∀ j ∈ X.pins, j < lb.length + 1 := fun j hj => blt_lt (List.all_eq_true.1 hpins' j hj)
  intro cs
  let vs : Array Value := #[.func (.yield l) #[] #[]] ++ lb.toArray
  have hvs : vs.size = lb.length + 1 := by simp [vs, Nat.add_comm]
  let g : Gx := ⟨w, List.range w.heap.size, fun _ => False, vs, .plain (fun _ w' => J xs.length w' ∨ Jx w'), fun _ h => h.elim⟩
  let b : Frame := { (default : Frame) with fn := X.f, kind := .normal, roundOf := none }
  let a : Act := { tmps := vs ++ Array.replicate (X.fn.ntmps - vs.size) undef, defers := [] }
  have henter : Frame.enter X.P X.f vs .normal = b.atR a [.code c] := by simp [Frame.enter, Frame.atR, hX.func, hb, b, a]
  have hsize : a.tmps.size = X.fn.ntmps := by simp only [a, Array.size_append, Array.size_replicate]; omega
  have hget : ∀ d, d < lb.length + 1 → a.tmps[d]? = vs[d]? := fun d hd => by simp only [a]; rw [Array.getElem?_append_left (by omega)]
  have hown : ∀ x ∈ im.map Prod.fst, x < w.heap.size := fun x hx => by
    obtain ⟨e, he, rfl⟩ := List.mem_map.1 hx
    exact (Array.getElem?_eq_some_iff.1 (hIt e he)).1
  let own := im.map Prod.fst
  let FF : Key → List Nat := fun k => if k = .o (0, 0) then own else if k = .o (0, 1) then (msOf w own).map Prod.fst else []
  have hF1 : FF (.o (0, 0)) = own := by simp [FF]
  have hF2 : FF (.o (0, 1)) = (msOf w own).map Prod.fst := by simp [FF]
  have hF3 : ∀ k, k ≠ .o (0, 0) → k ≠ .o (0, 1) → FF k = [] := fun k h1 h2 => by simp only [FF, if_neg h1, if_neg h2]
  have hSR : SR X g ⟨initS (.lit (.func (.yield l) #[] #[]) :: lb.map .lit) 0, [((0, 0), .mem im), ((0, 1), .mem (msOf w own))]⟩ a w := by
    refine ⟨noEnv, FF, rfl, hsize, Kp.refl _ _, ⟨fun k => ?_, fun k k' b hne hb1 hb2 => ?_⟩, fun k b hb => ?_, fun d => ?_, fun id => ?_, fun j hj => hget j (hpins j hj)⟩
    · by_cases e1 : k = .o (0, 0)
      · subst e1; rw [hF1]; exact hnd
      · by_cases e2 : k = .o (0, 1)
        · subst e2; rw [hF2]; exact msOf_nodup _ _
        · rw [hF3 k e1 e2]; simp
    · by_cases e1 : k = .o (0, 0)
      · subst e1
        rw [hF1] at hb1
        by_cases e2 : k' = .o (0, 1)
        · subst e2; rw [hF2] at hb2; exact (msOf_mem.1 hb2).2 hb1
        · rw [hF3 k' (fun h => hne h.symm) e2] at hb2; simp at hb2
      · by_cases e2 : k = .o (0, 1)
        · subst e2
          rw [hF2] at hb1
          by_cases e3 : k' = .o (0, 0)
          · subst e3; rw [hF1] at hb2; exact (msOf_mem.1 hb1).2 hb2
          · rw [hF3 k' e3 (fun h => hne h.symm)] at hb2; simp at hb2
        · rw [hF3 k e1 e2] at hb1; simp at hb1
    · left
      show b ∈ List.range w.heap.size
      rw [List.mem_range]
      by_cases e1 : k = .o (0, 0)
      · subst e1; rw [hF1] at hb; exact hown b hb
      · by_cases e2 : k = .o (0, 1)
        · subst e2; rw [hF2] at hb; exact (msOf_mem.1 hb).1
        · rw [hF3 k e1 e2] at hb; simp at hb
    · show ∃ u, _ ∧ Rel w _ noEnv (lookS (initS (.lit (.func (.yield l) #[] #[]) :: lb.map .lit) 0) d) u (FF (.s d))
      rw [show St.get ⟨initS (.lit (.func (.yield l) #[] #[]) :: lb.map .lit) 0, [((0, 0), .mem im), ((0, 1), .mem (msOf w own))]⟩ d = lookS (initS (.lit (.func (.yield l) #[] #[]) :: lb.map .lit) 0) d from rfl, look_initS, hF3 _ (by simp) (by simp)]
      simp only [Nat.zero_le, true_and, Nat.zero_add, Nat.sub_zero, List.length_cons, List.length_map]
      by_cases hd : d < lb.length + 1
      · rw [if_pos hd]
        refine ⟨vs.getD d undef, .inl ?_, ?_⟩
        · rw [hget d hd, Array.getD_eq_getD_getElem?, Array.getElem?_eq_getElem (by omega)]; rfl
        · have : (AV.lit (.func (.yield l) #[] #[]) :: lb.map .lit).getD d .top = .lit (vs.getD d undef) := by
            cases d with
            | zero => simp [vs]
            | succ d =>
              have hd' : d < lb.length := by omega
              simp [vs, Array.getD_eq_getD_getElem?, List.getD_eq_getElem?_getD, hd']
          rw [this]
          exact .lit _ _
      · rw [if_neg hd]
        exact ⟨undef, .inr rfl, .top _ _⟩
    · show ObRel w _ noEnv id (lookO [((0, 0), .mem im), ((0, 1), .mem (msOf w own))] id) (FF (.o id))
      simp only [lookO]
      by_cases e1 : id = (0, 0)
      · subst e1
        rw [(eqId_iff (0, 0) (0, 0)).2 rfl, hF1]
        exact ⟨rfl, hIt⟩
      · have b1 : eqId (0, 0) id = false := by cases hb : eqId (0, 0) id; rfl; exact absurd ((eqId_iff _ _).1 hb).symm e1
        rw [b1]
        by_cases e2 : id = (0, 1)
        · subst e2
          rw [(eqId_iff (0, 1) (0, 1)).2 rfl, hF2]
          exact ⟨rfl, msOf_held _ _⟩
        · have b2 : eqId (0, 1) id = false := by cases hb : eqId (0, 1) id; rfl; exact absurd ((eqId_iff _ _).1 hb).symm e2
          rw [b2, hF3 _ (by intro h; cases h; exact e1 rfl) (by intro h; cases h; exact e2 rfl)]
          rfl
  obtain ⟨v, w', fr, ⟨hp, h1, h2⟩, hst⟩ := h g (msOf w own) (fun b hb => List.mem_range.2 hb) (Cov.mk' hJ0 (Kp.refl _ _)) rfl hX a w b cs hSR rfl ⟨rfl, rfl⟩
  rw [← henter] at hst
  exact ⟨.returned v, w', fr, ⟨⟨v, rfl⟩, hp⟩, hst, h1, h2⟩

/-- An iterator's promise, out of the walk of its body. -/
theorem SeqOk.intro (X : Fx) (hX : X.Ok) {c : Code} (hb : X.fn.body = some c) {lb : List Value} {im : List (Nat × Obj)} {xs : List Value} (hargs' : Nat.ble (lb.length + 1) X.fn.ntmps = true)
    (hpins' : (X.pins.all fun j => Nat.blt j (lb.length + 1)) = true) (hnd : (im.map Prod.fst).Nodup)
    (h : ∀ (g : Gx) (l : Nat) (J : Nat → World → Prop) (Jx : World → Prop) (ms : List (Nat × Obj)), Itx X.P l (im.map Prod.fst) xs J Jx → (∀ b, b < g.w0.heap.size → b ∈ g.F0) → Cov g (im.map Prod.fst) (J 0) ms →
      g.Post = .plain (fun _ w' => J xs.length w' ∨ Jx w') → Run X g [.code c] ⟨initS (.lit (.func (.yield l) #[] #[]) :: lb.map .lit) 0, [((0, 0), .mem im), ((0, 1), .mem ms)]⟩) :
    SeqOk X.P X.f lb.toArray (im.map Prod.fst) (fun w => held w im) xs :=
  fun l J Jx w hIt hx hJ0 => SeqAt.intro X hX hb hargs' hpins' hnd (fun g ms hall hcov hp => h g l J Jx ms hx hall hcov hp) hIt hJ0

theorem results_none {fn : Func} (h : fn.results = #[]) (P : Program) (w : World) (tmps : Array Value) : (results fn tmps).run P w = .ok (.tuple #[]) w := by
  simp [results, h, Sem.run_bind, Result.andThen, Sem.run_pure]

/-- The iterator returns: all have come, or a round has said no more. -/
theorem Run.retI {l N : Nat} {own : List Nat} {xs : List Value} {J : Nat → World → Prop} {Jx : World → Prop} {im ms : List (Nat × Obj)} (idI idC : Id) (hp : g.Post = .plain (fun _ w' => J N w' ∨ Jx w')) (hr : X.fn.results = #[])
    (hx : Itx X.P l own xs J Jx) (hi : st.obj idI = .mem im) (him : im.map Prod.fst = own) (hC : st.obj idC = .mem ms) (h : Cov g own (J N) ms ∨ Cov g own Jx ms) : Run X g (.code .ret :: k) st := by
  refine Run.ret' hp fun hX a w ⟨β, F, hI⟩ => ⟨.tuple #[], results_none hr _ _ _, ?_⟩
  rcases h with h | h
  · exact .inl (h.now (hx.keep N) hI hi him hC)
  · exact .inr (h.now hx.keepx hI hi him hC)

theorem Run.endI {l N : Nat} {own : List Nat} {xs : List Value} {J : Nat → World → Prop} {Jx : World → Prop} {im ms : List (Nat × Obj)} (idI idC : Id) (hp : g.Post = .plain (fun _ w' => J N w' ∨ Jx w')) (hr : X.fn.results = #[])
    (hx : Itx X.P l own xs J Jx) (hi : st.obj idI = .mem im) (him : im.map Prod.fst = own) (hC : st.obj idC = .mem ms) (h : Cov g own (J N) ms ∨ Cov g own Jx ms) : Run X g [] st := by
  refine Run.end' hp fun hX a w ⟨β, F, hI⟩ => ⟨.tuple #[], results_none hr _ _ _, ?_⟩
  rcases h with h | h
  · exact .inl (h.now (hx.keep N) hI hi him hC)
  · exact .inr (h.now hx.keepx hI hi him hC)

/-! ### The return behind such a loop -/

def PostMP (g : Gx) (D : Nat) (res : AV) (outs : List AV) (v : Value) (w' : World) : Prop :=
  ∃ F', Kp (D :: g.F0) g.w0 w' ∧ F'.Nodup ∧ (∀ b ∈ F', b ∈ D :: g.F0 ∨ g.w0.heap.size ≤ b) ∧
    Rel w' (fun b => (g.L0 b ∧ b ≠ D) ∨ b ∈ F') noEnv (.tup (res :: outs)) (.tuple (#[v] ++ g.args.extract 0 outs.length)) F'

/-- It returns so; block D is shut. -/
@[reducible] def PostM (g : Gx) (D : Nat) (res : AV) (outs : List AV) : GPost := .marked D (PostMP g D res outs)

structure MarkOk (g : Gx) (D : Nat) : Prop where
  heap : g.w0.heap[D]? = some (.deferred (some []))
  out : D ∉ g.F0
  live : g.L0 D

theorem Kp.putObj {w : World} {r : Nat} {o : Obj} : Kp [r] w (w.putObj r o) :=
  ⟨rfl, rfl, rfl, by simp, fun b hb hr => World.putObj_heap_other (by intro h; exact hr (by simp [h]))⟩

theorem step_collected {P : Program} {b : Frame} {a : Act} {todo : List Item} {cs : List Frame} {w : World} {D : Nat} (hd : a.defers = [{ target := .collected D, args := #[] }]) (h : w.heap[D]? = some (.deferred (some []))) :
    step P (lone { b.atR a todo with mode := .returning } cs w) = .next (lone { b.atR { a with defers := [] } todo with mode := .returning } cs (w.putObj D (.deferred none))) :=
  step_lone_go (by simp [stepG, unwind, Frame.atR, hd, Sem.runT_eq, run_takeDeferred h, GStep.bare_after])

theorem Run.retM' {D : Nat} {res : AV} {outs : List AV} (hg : g.Post = PostM g D res outs) (hD : MarkOk g D)
    (hne : ∀ rv ∈ X.fn.results.toList, st.rv X.T rv ≠ .top ∧ (st.rv X.T rv).free = true)
    (hk' : (X.fn.results.toList.map st.rkey).Nodup)
    (hres : retV (X.fn.results.toList.map (st.rv X.T)) = res)
    (houts : ∀ (j : Nat) (x : AV), outs[j]? = some x → x = .top ∨ (x ≠ .top ∧ j ∈ X.pins ∧ st.get j = x ∧ x.free = true ∧ ∀ rv ∈ X.fn.results.toList, st.rkey rv ≠ .s j))
    (hargs : outs.length ≤ g.args.size) : Run X g (.code .ret :: k) st := by
  intro hX a w b cs hI hfn hk
  obtain ⟨β, F, hI⟩ := hI
  have hDlt : D < g.w0.heap.size := (Array.getElem?_eq_some_iff.1 hD.heap).1
  have hDw : w.heap[D]? = some (.deferred (some [])) := (hI.kp.block D hDlt hD.out).trans hD.heap
  have hDF : ∀ k b, b ∈ F k → b ≠ D := fun k b hb e => by
    subst e
    rcases hI.range k b hb with h | h
    · exact hD.out h
    · omega
  let g3 : Gx := ⟨g.w0, D :: g.F0, fun b => g.L0 b ∧ b ≠ D, g.args, .plain fun _ _ => True, fun b hb => ⟨(g.hL b hb.1).1, by
    intro h
    rcases List.mem_cons.1 h with h | h
    · exact hb.2 h
    · exact (g.hL b hb.1).2 h⟩⟩
  have hkp3 : Kp (D :: g.F0) g.w0 w := ⟨hI.kp.os, hI.kp.tape, hI.kp.output, hI.kp.size, fun x hx hn => hI.kp.block x hx (fun h => hn (List.mem_cons_of_mem _ h))⟩
  have h3 : Inv X g3 st ⟨a.tmps, []⟩ w β F (Lv g F) := ⟨rfl, hI.size, hkp3, hI.sep, fun k b hb => (hI.range k b hb).imp (List.mem_cons_of_mem _) id, hI.slot, hI.obj, hI.pin⟩
  have h4 : Inv X g3 st ⟨a.tmps, []⟩ (w.putObj D (.deferred none)) β F (Lv g3 F) := by
    refine h3.world (M := fun b => b = D) (hkp3.trans Kp.putObj (fun x hx => .inl (by simp at hx; simp [hx]))) (fun b hb hM => World.putObj_heap_other hM) ?_ ?_ (fun k b hb => hDF k b hb)
    · intro b hb; rw [hb]; exact .inl hD.live
    · rintro b hb (h | h)
      · exact .inl h.1
      · exact .inr h
  obtain ⟨v, hr, hp⟩ := ret_post hX hne hk' hres houts hargs (g := g3) ⟨β, F, h4⟩
  refine ⟨v, w.putObj D (.deferred none), { b.atR { a with defers := [] } (.code .ret :: k) with mode := .returning }, (fin_marked hg).2 ⟨hp, hfn, rfl, rfl, hk.1, X.fn, (show X.P.funcs[b.fn]? = some X.fn by rw [hfn]; exact hX.func), hr⟩, ?_⟩
  exact .head (stepR_ret (hk.2.trans (rd_marked hg))) (.one (step_collected (hI.defers.trans (df_marked hg)) hDw))

/-- The return behind a range over a function. -/
theorem Run.retM {D : Nat} {r res : AV} (hg : g.Post = PostM g D res []) (hD : MarkOk g D) (hr : retOf X st = some r) (he : r = res) : Run X g (.code .ret :: k) st := by
  obtain ⟨h1, h2, h3⟩ := retOf_ok hr
  exact Run.retM' hg hD h1 h2 (h3.trans he) (by simp) (by simp)

/-! ### The rounds -/

def Gx.bare (g : Gx) : Gx := { g with Post := .plain fun _ _ => True }

/-- A round: off its end in state A, where p holds, or left by a return in state B, where q holds. -/
@[reducible] def RPost (X : Fx) (g : Gx) (l : Nat) (A B : St) (p q : Prop) : GPost :=
  .round l fun jump w => (jump = none ∧ p ∧ ∃ a, SR X g.bare A a w) ∨ (jump = some .ret ∧ q ∧ ∃ a, SR X g.bare B a w)

theorem SR.bare (hd : g.df = []) (h : SR X g st a w) : SR X g.bare st a w := by
  obtain ⟨β, F, h⟩ := h
  exact ⟨β, F, h.defers.trans hd, h.size, h.kp, h.sep, h.range, h.slot, h.obj, h.pin⟩

theorem Run.roundEnd {l : Nat} {A B : St} {p q : Prop} (hg : g.Post = RPost X g l A B p q) (hp : p) (hle : St.Le A st) : Run X g [] st := by
  intro hX a w b cs hI hfn hk
  refine ⟨undef, w, b.atR a [], (fin_round hg).2 ⟨none, .inl ⟨rfl, hp, a, (hI.le hle).bare (df_round hg)⟩, fun u w' hr c cs => stepR_round_end (hk.2.trans (rd_round hg)) hk.1 hr⟩, .refl _ _⟩

theorem Run.beginRound {l : Nat} {p : Option Code → World → Prop} {r : Loop} (rid : Id) (hg : g.Post = .round l p) (hob : st.obj rid = .mem [(l, .loop r)]) (hr : r.state = .ready)
    (h : Run X g k (st.setObj rid (.mem [(l, .loop { r with state := .busy })]))) : Run X g (.beginRound :: k) st := by
  intro hX a w b cs ⟨β, F, hI⟩ hfn hk
  have h1 := hI.obj rid
  rw [hob] at h1
  have hl : w.heap[l]? = some (.loop r) := h1.2 (l, .loop r) (by simp)
  have h2 := hI.setMem (ms' := [(l, .loop { r with state := .busy })]) hob (by simpa using Kp.putObj (w := w) (r := l) (o := .loop { r with state := .busy })) (by
    intro e he
    rw [List.mem_singleton.1 he]
    exact World.putObj_heap_same (Array.getElem?_eq_some_iff.1 hl).1) (by simp) (by simp)
  obtain ⟨v, w', fr, hp, hst⟩ := h hX a _ b cs ⟨_, _, h2⟩ hfn hk
  exact ⟨v, w', fr, hp, .head (stepR_beginRound (hk.2.trans (rd_round hg)) (run_beginRound hl hr)) hst⟩

end
end Go.Av

/- Ranging over a function: the statement. -/
namespace Go.Av
open Go Go.RowKit

section
variable {X : Fx} {g : Gx} {st st' : St} {a : Act} {w w' : World} {β β' : Env} {F : Key → List Nat} {L : Nat → Prop} {K : List Item} {k : List Item}
variable {ops : Array Oper} {i : Nat} {rest : List Nat} {o : Oper}

theorem Inv.le (hle : St.Le st' st) (h : Inv X g st a w β F L) : ∃ F' : Key → List Nat, Inv X g st' a w β F' L ∧ ∀ k b, b ∈ F' k → b ∈ F k := by
  classical
  let F' : Key → List Nat := fun
    | .s d => if st'.get d = .top then [] else F (.s d)
    | .o id => if st'.obj id = .gone then [] else F (.o id)
  have hsub : ∀ k b, b ∈ F' k → b ∈ F k := by
    intro k b hb
    cases k <;> simp only [F'] at hb <;> split at hb <;> simp_all
  refine ⟨F', ⟨h.defers, h.size, h.kp, ⟨?_, ?_⟩, fun k b hb => h.range k b (hsub k b hb), ?_, ?_, h.pin⟩, hsub⟩
  · intro k
    cases k <;> simp only [F'] <;> split <;> simp [h.sep.nodup]
  · intro k k' b hk hb hb'
    exact h.sep.apart k k' b hk (hsub _ _ hb) (hsub _ _ hb')
  · intro d
    obtain ⟨u, hu, hr⟩ := h.slot d
    by_cases h0 : st'.get d = .top
    · refine ⟨u, .inr h0, ?_⟩
      simp only [F', if_pos h0]
      rw [h0]; exact .top _ _
    · have h1 := (hle.sl d).resolve_left h0
      refine ⟨u, ?_, ?_⟩
      · rw [h1]; exact hu
      · simp only [F', if_neg h0]
        rw [h1]; exact hr
  · intro id
    by_cases h0 : st'.obj id = .gone
    · simp only [F', if_pos h0]
      rw [h0]; rfl
    · have h1 := (hle.ob id).resolve_left h0
      simp only [F', if_neg h0]
      rw [h1]; exact h.obj id

theorem lookS_key {l : List (Nat × AV)} {p : Nat → Bool} (h : (l.all fun e => p e.1) = true) {d : Nat} (hd : lookS l d ≠ .top) : p d = true := by
  induction l with
  | nil => exact absurd rfl hd
  | cons e l ih =>
    obtain ⟨k, v⟩ := e
    simp only [List.all_cons, Bool.and_eq_true] at h
    simp only [lookS] at hd
    cases hb : Nat.beq k d with
    | false => rw [hb] at hd; exact ih h.2 hd
    | true => obtain rfl := Nat.eq_of_beq_eq_true hb; exact h.1

/-- The blocks that are owned. -/
noncomputable def blocksOf (w : World) (F : Key → List Nat) : List Nat := by
  classical
  exact (List.range w.heap.size).filter fun b => decide (∃ k, b ∈ F k)

theorem blocksOf_mem {w : World} {F : Key → List Nat} {b : Nat} : b ∈ blocksOf w F ↔ b < w.heap.size ∧ ∃ k, b ∈ F k := by
  unfold blocksOf
  simp

/-- The same function, whose slots of these numbers are written by nobody. -/
def Fx.pinned (X : Fx) (pins : List Nat) : Fx := { X with pins := pins }
theorem Fx.pinned_ok (hX : X.Ok) (pins : List Nat) : (X.pinned pins).Ok := ⟨hX.func, hX.ty⟩

/-- What lives at a loop: what the caller has to leave alone, the iterator's own, the block for deferred calls, what the state owns. -/
def LJ (g : Gx) (own : List Nat) (D : Nat) (F : Key → List Nat) : Nat → Prop := fun b => g.L0 b ∨ b ∈ own ∨ b = D ∨ ∃ k, b ∈ F k

/-- The base of a running call, bare, its arguments the slots as they are. -/
def Gx.at (g : Gx) (tmps : Array Value) : Gx := ⟨g.w0, g.F0, g.L0, tmps, .plain fun _ _ => True, g.hL⟩

/-- What holds at a loop between two rounds: the state, and the loop's record. -/
def JAt (X : Fx) (g : Gx) (own : List Nat) (D l : Nat) (rid : Id) (tmps : Array Value) (S : St) (r : Loop) (w : World) : Prop :=
  ∃ β F, Inv X (g.at tmps) (S.setObj rid (.mem [(l, .loop r)])) ⟨tmps, []⟩ w β F (LJ g own D F) ∧ (∀ k b, b ∈ F k → b ∉ own ∧ b ≠ D) ∧ w.heap[D]? = some (.deferred (some [])) ∧ (∀ b ∈ own, b < w.heap.size)

theorem JAt.keep {own : List Nat} {D l : Nat} {rid : Id} {tmps : Array Value} {S : St} {r : Loop} (hown : ∀ b ∈ own, b ∈ g.F0 ∨ g.w0.heap.size ≤ b) (hD : D ∉ own) (h : JAt X g own D l rid tmps S r w) (hk : Kp own w w') : JAt X g own D l rid tmps S r w' := by
  obtain ⟨β, F, hI, hF, hDw, ho⟩ := h
  refine ⟨β, F, hI.world (M := fun b => b ∈ own) (hI.kp.trans hk hown) (fun b hb hM => hk.block b hb hM) (fun b hb => .inr (.inl hb)) (fun _ _ h => h) (fun k b hb => (hF k b hb).1), hF, ?_, fun b hb => Nat.lt_of_lt_of_le (ho b hb) hk.size⟩
  rw [hk.block D (Array.getElem?_eq_some_iff.1 hDw).1 hD]
  exact hDw

/-- Behind a round. -/
theorem JAt.behind {own : List Nat} {D l : Nat} {rid : Id} {tmps : Array Value} {pins : List Nat} {S : St} {r r' : Loop} {gr : Gx} {a2 : Act} {w1 w2 : World} {F1 : Key → List Nat}
    (hw0 : gr.w0 = w1) (hF0 : gr.F0 = blocksOf w1 F1) (hL0 : gr.L0 = fun b => g.L0 b ∨ b ∈ own ∨ b = D) (hargs : gr.args = tmps) (hkp : Kp g.F0 g.w0 w1) (hr1 : ∀ k b, b ∈ F1 k → b ∈ g.F0 ∨ g.w0.heap.size ≤ b)
    (hF1 : ∀ k b, b ∈ F1 k → b ∉ own ∧ b ≠ D) (hD1 : w1.heap[D]? = some (.deferred (some []))) (ho1 : ∀ b ∈ own, b < w1.heap.size) (hsz : tmps.size = X.fn.ntmps)
    (hpin : (S.sl.all fun e => pins.contains e.1) = true) (hI : SR (X.pinned pins) gr (S.setObj rid (.mem [(l, .loop r)])) a2 w2) :
    JAt (X.pinned pins) g own D l rid tmps S r' (w2.putObj l (.loop r')) ∧ w2.heap[l]? = some (.loop r) ∧ Kp (blocksOf w1 F1) w1 w2 ∧ (w1.heap.size ≤ l ∨ l ∈ blocksOf w1 F1) := by
  obtain ⟨β, F, hI⟩ := hI
  have hob : (S.setObj rid (.mem [(l, .loop r)])).obj rid = .mem [(l, .loop r)] := by rw [St.obj_setObj, if_pos rfl]
  have h1 := hI.obj rid
  rw [hob] at h1
  have hl : w2.heap[l]? = some (.loop r) := h1.2 (l, .loop r) (by simp)
  have hlt := (Array.getElem?_eq_some_iff.1 hl).1
  have h2 := hI.setMem (ms' := [(l, .loop r')]) hob (by simpa using Kp.putObj (w := w2) (r := l) (o := .loop r')) (by
    intro e he
    rw [List.mem_singleton.1 he]
    exact World.putObj_heap_same hlt) (by simp) (by simp)
  have hle : St.Le (S.setObj rid (.mem [(l, .loop r')])) ((S.setObj rid (.mem [(l, .loop r)])).setObj rid (.mem [(l, .loop r')])) :=
    ⟨fun d => .inr rfl, fun id' => .inr (by rw [St.obj_setObj, St.obj_setObj, St.obj_setObj]; split <;> rfl)⟩
  obtain ⟨β3, F3, h3⟩ := SR.le hle ⟨_, _, h2⟩
  have hkr : Kp (blocksOf w1 F1) w1 w2 := by have := hI.kp; rwa [hw0, hF0] at this
  have hrg : ∀ k b, b ∈ F3 k → b ∈ blocksOf w1 F1 ∨ w1.heap.size ≤ b := fun k b hb => by have := h3.range k b hb; rwa [hw0, hF0] at this
  have hlr : l ∈ blocksOf w1 F1 ∨ w1.heap.size ≤ l := by
    have := hI.range (.o rid) l (by rw [h1.1]; simp)
    rwa [hw0, hF0] at this
  have hDlt := (Array.getElem?_eq_some_iff.1 hD1).1
  have hnb : ∀ b, b ∈ blocksOf w1 F1 → b ∉ own ∧ b ≠ D := fun b hb => by
    obtain ⟨_, k, hk⟩ := blocksOf_mem.1 hb
    exact hF1 k b hk
  have hF3 : ∀ k b, b ∈ F3 k → b ∉ own ∧ b ≠ D := fun k b hb => by
    rcases hrg k b hb with h | h
    · exact hnb b h
    · exact ⟨fun h' => by have := ho1 b h'; omega, by omega⟩
  refine ⟨⟨β3, F3, ⟨rfl, hsz, ?_, h3.sep, fun k b hb => ?_, fun d => ?_, fun id => ?_, fun j _ => rfl⟩, hF3, ?_, fun b hb => ?_⟩, hl, hkr, hlr.symm⟩
  · refine hkp.trans (h3.kp |> fun h => by rw [hw0, hF0] at h; exact h) fun x hx => ?_
    obtain ⟨_, k, hk⟩ := blocksOf_mem.1 hx
    exact hr1 k x hk
  · rcases hrg k b hb with h | h
    · obtain ⟨_, k', hk'⟩ := blocksOf_mem.1 h
      exact hr1 k' b hk'
    · exact .inr (Nat.le_trans hkp.size h)
  · obtain ⟨u, hu, hr⟩ := h3.slot d
    have hLe : Lv gr F3 = LJ g own D F3 := by
      funext b
      simp only [Lv, LJ, hL0, eq_iff_iff, or_assoc]
    rw [hLe] at hr
    refine ⟨u, ?_, hr⟩
    by_cases h0 : St.get (S.setObj rid (.mem [(l, .loop r')])) d = .top
    · exact .inr h0
    · left
      have hp : d ∈ pins := by
        have := lookS_key (p := fun j => pins.contains j) hpin (d := d) (by rwa [St.get_setObj] at h0)
        simpa using this
      have h4 := h3.pin d hp
      rw [hargs] at h4
      rw [← h4]
      exact hu.resolve_right h0
  · have hLe : Lv gr F3 = LJ g own D F3 := by
      funext b
      simp only [Lv, LJ, hL0, eq_iff_iff, or_assoc]
    have := h3.obj id
    rwa [hLe] at this
  · rw [World.putObj_heap_other (fun h => by
      subst h
      rcases hlr with h | h
      · exact (hnb _ h).2 rfl
      · omega)]
    rw [hkr.block D hDlt (fun h => (hnb _ h).2 rfl)]
    exact hD1
  · have := ho1 b hb
    have := hkr.size
    simp only [World.putObj_size]
    omega

theorem putObj_kp {w1 w2 : World} {H : List Nat} {l : Nat} {o : Obj} (h : Kp H w1 w2) (hl : w1.heap.size ≤ l ∨ l ∈ H) : Kp H w1 (w2.putObj l o) :=
  h.trans Kp.putObj fun x hx => by
    rw [List.mem_singleton.1 hx]; exact hl.symm

/-- The statement 'for x := range f { .. }'. -/
theorem Run.rangeFuncG {dd p : Nat} {assign body : Code} {it : FuncId} {lb : Array Value} {im : List (Nat × Obj)} {xs : List Value} {res : AV} {outs : List AV} (id rid : Id) (pins : List Nat) (S Sx : Nat → St) (I Ix : Nat → Prop) (hI0 : I 0)
    (hg : g.Post = PostOf g res outs) (hseq : ∀ (l : Nat) (J : Nat → World → Prop) (Jx : World → Prop) (w : World), held w im → (∀ n w, J n w → Kp g.F0 g.w0 w) → Itx X.P l (im.map Prod.fst) xs J Jx → J 0 w →
      Calls X.P it (#[.func (.yield l) #[] #[]] ++ lb) w fun e w' => (∃ v, e = .returned v) ∧ (J xs.length w' ∨ Jx w'))
    (hen : (X.P.funcs[it]?).map (fun fn => (fn.body.isSome, fn.name == "runtime.NumGoroutine")) = some (true, false))
    (hd : st.get dd = .lit (.func (.func it) #[] lb)) (hob : st.obj id = .mem im) (hS : St.Le (S 0) (st.setObj id .gone))
    (hpin : ∀ n, ((S n).sl.all fun e => pins.contains e.1) = true) (hpinx : ∀ n, ((Sx n).sl.all fun e => pins.contains e.1) = true)
    (hrid : ∀ n, (S n).obj rid = .gone) (hridx : ∀ n, (Sx n).obj rid = .gone) (hp : (Nat.blt p X.fn.ntmps && !(pins.contains p)) = true)
    (hround : ∀ n x (gr : Gx) l r, I n → xs[n]? = some x → r.state = .ready → (∀ A : Amb, A.on g.w0 g.F0 → A.on gr.w0 gr.F0) →
      gr.Post = RPost (X.pinned pins) gr l ((S (n + 1)).setObj rid (.mem [(l, .loop { r with state := .busy })])) ((Sx n).setObj rid (.mem [(l, .loop { r with state := .busy })])) (I (n + 1)) (Ix n) →
      Run (X.pinned pins) gr [.code assign, .beginRound, .code body] (((S n).setObj rid (.mem [(l, .loop r)])).put p (.lit x)))
    (hend : ∀ (g2 : Gx) D, (∀ A : Amb, A.on g.w0 g.F0 → A.on g2.w0 g2.F0) → g2.Post = PostM g2 D res outs → MarkOk g2 D → I xs.length → Run X g2 k (S xs.length))
    (hstop : ∀ n (g2 : Gx) D, (∀ A : Amb, A.on g.w0 g.F0 → A.on g2.w0 g2.F0) → g2.Post = PostM g2 D res outs → MarkOk g2 D → Ix n → Run X g2 (.code .ret :: k) (Sx n)) :
    Run X g (.code (.rangeFunc (.tmp dd) #[p] assign body) :: k) st := by
  simp only [Bool.and_eq_true, Bool.not_eq_true'] at hp
  intro hX a w b cs ⟨β, F, hI⟩ hfn hk
  obtain ⟨own, howne⟩ : ∃ own, own = im.map Prod.fst := ⟨_, rfl⟩
  rw [← howne] at hseq
  have hdv : a.eval (.tmp dd) = .func (.func it) #[] lb := ev_lit hI (x := .tmp dd) hd
  have hobj := hI.obj id
  rw [hob] at hobj
  obtain ⟨hFo, hheld⟩ := hobj
  rw [← howne] at hFo
  have hownr : ∀ b ∈ own, b ∈ g.F0 ∨ g.w0.heap.size ≤ b := fun b hb => hI.range (.o id) b (by rw [hFo]; exact hb)
  have hownlt : ∀ b ∈ own, b < w.heap.size := fun b hb => hI.lt (.o id) b (by rw [hFo]; exact hb)
  -- the record
  obtain ⟨D, hDe⟩ : ∃ D, D = w.heap.size := ⟨_, rfl⟩
  obtain ⟨rec, hrec⟩ : ∃ rec : Loop, rec = { state := .ready, pending := none, fn := X.f, tmps := a.tmps, params := #[p], assign, body, defers := w.heap.size } := ⟨_, rfl⟩
  obtain ⟨w2, hw2⟩ : ∃ w2, w2 = (w.alloc (.deferred (some []))).alloc (.loop rec) := ⟨_, rfl⟩
  have hk2 : Kp [] w w2 := by rw [hw2]; exact (Kp.alloc _ _ _).trans (Kp.alloc [] _ _) (by simp)
  have hsz2 : w2.heap.size = D + 2 := by rw [hw2, hDe]; simp
  have hl2 : w2.heap[D + 1]? = some (.loop rec) := by
    rw [hw2, hDe]; have := World.alloc_heap_new (w.alloc (.deferred (some []))) (.loop rec); rwa [World.size_alloc] at this
  have hD2 : w2.heap[D]? = some (.deferred (some [])) := by
    rw [hw2, hDe]; exact (Below.heap_alloc _ _ _ (by simp)).trans (World.alloc_heap_new w _)
  have hDo : D ∉ own := fun h => by have := hownlt D h; omega
  have hFlt : ∀ k b, b ∈ F k → b < D := fun k b hb => by rw [hDe]; exact hI.lt k b hb
  have hg0 : ∀ b, g.L0 b → b < g.w0.heap.size ∧ b ∉ g.F0 := g.hL
  have hDnew : g.w0.heap.size ≤ D := by rw [hDe]; exact hI.kp.size
  -- the state at the loop
  have hJ0 : JAt (X.pinned pins) g own D (D + 1) rid a.tmps (S 0) rec w2 := by
    have i1 : Inv X g (st.setObj id .gone) a w β (updF F (.o id) []) (Lv g F) := hI.setOb id .gone rfl (by simp) (by simp) (by simp)
    have i2 : Inv X g (st.setObj id .gone) a w2 β (updF F (.o id) []) (fun b => Lv g F b ∨ D ≤ b) :=
      i1.world (M := fun _ => False) (hI.kp.trans hk2 (by simp)) (fun b hb _ => hk2.block b hb (by simp)) (fun _ h => h.elim) (fun b hb h => h.elim (fun h => h) (fun h => by omega)) (fun _ _ _ h => h)
    obtain ⟨F3, i3, hs3⟩ := i2.le hS
    have hF3 : ∀ k b, b ∈ F3 k → b < D ∧ b ∉ own ∧ b ∈ F k := fun k b hb => by
      have h1 := hs3 k b hb
      by_cases e : k = .o id
      · subst e; rw [updF_same] at h1; simp at h1
      · rw [updF_ne _ e] at h1
        exact ⟨hFlt k b h1, fun ho => hI.sep.apart k (.o id) b e h1 (by rw [hFo]; exact ho), h1⟩
    have i4 := i3.setOb rid (.mem [(D + 1, .loop rec)]) (G := [D + 1]) ⟨rfl, by
        intro e he
        rw [List.mem_singleton.1 he]
        exact hl2⟩ (by simp) (by
        intro k _ b hb hb'
        rw [List.mem_singleton.1 hb] at hb'
        have := (hF3 k _ hb').1
        omega) (by
        intro b hb
        rw [List.mem_singleton.1 hb]
        exact .inr (by omega))
    have hF4 : ∀ k b, b ∈ updF F3 (.o rid) [D + 1] k → b = D + 1 ∨ b ∈ F3 k := fun k b hb => by
      by_cases e : k = .o rid
      · subst e; rw [updF_same] at hb; exact .inl (List.mem_singleton.1 hb)
      · rw [updF_ne _ e] at hb; exact .inr hb
    have i5 := i4.setL (L' := LJ g own D (updF F3 (.o rid) [D + 1])) (by
      rintro b hb (h | h | h | ⟨k, h⟩)
      · exact .inl (.inl h)
      · exact .inl (.inr ⟨.o id, by rw [hFo]; exact h⟩)
      · exact .inr (by omega)
      · rcases hF4 k b h with h | h
        · exact .inr (by omega)
        · exact .inl (.inr ⟨k, (hF3 k b h).2.2⟩))
    refine ⟨β, _, ⟨rfl, i5.size, i5.kp, i5.sep, i5.range, i5.slot, i5.obj, fun j _ => rfl⟩, fun k b hb => ?_, hD2, fun b hb => ?_⟩
    · rcases hF4 k b hb with h | h
      · subst h
        exact ⟨fun h' => by have := hownlt _ h'; omega, by omega⟩
      · exact ⟨(hF3 k b h).2.1, by have := (hF3 k b h).1; omega⟩
    · have := hownlt b hb; omega
  have hheld2 : held w2 im := fun e he => by
    have h1 := hheld e he
    rw [hk2.block e.1 (Array.getElem?_eq_some_iff.1 h1).1 (by simp)]
    exact h1
  -- the rounds
  have hitx : Itx X.P (D + 1) own xs (fun n w => I n ∧ JAt (X.pinned pins) g own D (D + 1) rid a.tmps (S n) rec w) (fun w => ∃ n, Ix n ∧ JAt (X.pinned pins) g own D (D + 1) rid a.tmps (Sx n) { rec with state := .done, pending := some .ret } w) := by
    refine ⟨fun n w1 w2 h hk => ⟨h.1, h.2.keep hownr hDo hk⟩, fun w1 w2 ⟨n, hi, h⟩ hk => ⟨n, hi, h.keep hownr hDo hk⟩, fun n x w1 hx hJ => ?_⟩
    obtain ⟨hIn, β1, F1, hI1, hF1, hD1, ho1⟩ := hJ
    have hob1 := hI1.obj rid
    rw [St.obj_setObj, if_pos rfl] at hob1
    have hl1 : w1.heap[D + 1]? = some (.loop rec) := hob1.2 (D + 1, .loop rec) (by simp)
    have hDlt := (Array.getElem?_eq_some_iff.1 hD1).1
    have hLb : ∀ b, (g.L0 b ∨ b ∈ own ∨ b = D) → b < w1.heap.size ∧ b ∉ blocksOf w1 F1 := by
      rintro b (h | h | h)
      · refine ⟨Nat.lt_of_lt_of_le (g.hL b h).1 hI1.kp.size, fun hb => ?_⟩
        obtain ⟨_, k, hk⟩ := blocksOf_mem.1 hb
        rcases hI1.range k b hk with h' | h'
        · exact (g.hL b h).2 h'
        · exact absurd (g.hL b h).1 (Nat.not_lt.2 h')
      · refine ⟨ho1 b h, fun hb => ?_⟩
        obtain ⟨_, k, hk⟩ := blocksOf_mem.1 hb
        exact (hF1 k b hk).1 h
      · refine ⟨by rw [h]; exact hDlt, fun hb => ?_⟩
        obtain ⟨_, k, hk⟩ := blocksOf_mem.1 hb
        exact (hF1 k b hk).2 h
    let gb : Gx := ⟨w1, blocksOf w1 F1, fun b => g.L0 b ∨ b ∈ own ∨ b = D, a.tmps, .plain fun _ _ => True, hLb⟩
    let A := (S (n + 1)).setObj rid (.mem [(D + 1, .loop { rec with state := .busy })])
    let B := (Sx n).setObj rid (.mem [(D + 1, .loop { rec with state := .busy })])
    let gr : Gx := ⟨w1, blocksOf w1 F1, fun b => g.L0 b ∨ b ∈ own ∨ b = D, a.tmps, .round (D + 1) fun jump w => (jump = none ∧ I (n + 1) ∧ ∃ a, SR (X.pinned pins) gb A a w) ∨ (jump = some .ret ∧ Ix n ∧ ∃ a, SR (X.pinned pins) gb B a w), hLb⟩
    have hamb : ∀ A : Amb, A.on g.w0 g.F0 → A.on gr.w0 gr.F0 := fun A hA => hA.keep hI1.kp fun b hb => by
      obtain ⟨_, k, hk⟩ := blocksOf_mem.1 hb
      exact hI1.range k b hk
    have hLe : Lv gr F1 = LJ g own D F1 := by
      funext b
      simp only [Lv, LJ, gr, eq_iff_iff, or_assoc]
    have hI2 : Inv (X.pinned pins) gr ((S n).setObj rid (.mem [(D + 1, .loop rec)])) ⟨a.tmps, []⟩ w1 β1 F1 (Lv gr F1) := by
      rw [hLe]
      exact ⟨rfl, hI1.size, Kp.refl _ _, hI1.sep, fun k b hb => .inl (blocksOf_mem.2 ⟨hI1.lt k b hb, k, hb⟩), hI1.slot, hI1.obj, fun j _ => rfl⟩
    have hSR := hI2.putv (d := p) (v := .lit x) (u := x) (blt_lt hp.1) (contains_iff hp.2) (.lit _ _)
    have hrun := hround n x gr (D + 1) rec hIn hx (by rw [hrec]) hamb rfl
    refine ⟨rec, hl1, by rw [hrec]; rfl, fun c cs => ?_⟩
    let bb : Frame := { (default : Frame) with fn := X.f, kind := .normal, roundOf := some (D + 1) }
    have hb0 : Frame.round (D + 1) rec.fn ((rec.params.zip #[x]).foldl (fun t (p, v) => t.setIfInBounds p v) rec.tmps) rec.assign rec.body .normal = bb.atR (Act.put ⟨a.tmps, []⟩ (some p) x) [.code assign, .beginRound, .code body] := by
      rw [hrec]
      simp [Frame.round, Frame.atR, bb, Act.put]
    rw [hb0]
    obtain ⟨v, w3, fr, hfin, hst⟩ := hrun (Fx.pinned_ok hX pins) _ w1 bb (c :: cs) hSR rfl ⟨rfl, rfl⟩
    obtain ⟨jump, hj, hstep⟩ := (fin_round rfl).1 hfin
    rcases hj with ⟨rfl, hp2, a2, h2⟩ | ⟨rfl, hp2, a2, h2⟩
    · obtain ⟨hJ', hl3, hk3, hlr⟩ := JAt.behind (r' := rec) (gr := gb) rfl rfl rfl rfl hI1.kp hI1.range hF1 hD1 ho1 hI.size (hpin (n + 1)) h2
      have hend := run_endRound (P := X.P) none hl3
      have he : ({ ({ rec with state := .busy } : Loop) with state := if (none : Option Code).isNone = true then LoopState.ready else LoopState.done, pending := none } : Loop) = rec := by rw [hrec]; simp
      rw [he] at hend
      refine ⟨true, w3.putObj (D + 1) (.loop rec), ⟨blocksOf w1 F1, fun b hb => ?_, putObj_kp hk3 hlr, fun _ => ⟨hp2, hJ'⟩, fun h => by cases h⟩, Steps.trans hst (.one ?_)⟩
      · obtain ⟨_, k, hk⟩ := blocksOf_mem.1 hb
        exact (hF1 k b hk).1
      · exact hstep _ _ hend c cs
    · obtain ⟨hJ', hl3, hk3, hlr⟩ := JAt.behind (r' := { rec with state := .done, pending := some .ret }) (gr := gb) rfl rfl rfl rfl hI1.kp hI1.range hF1 hD1 ho1 hI.size (hpinx n) h2
      have hend := run_endRound (P := X.P) (some .ret) hl3
      have he : ({ ({ rec with state := .busy } : Loop) with state := if (some Code.ret : Option Code).isNone = true then LoopState.ready else LoopState.done, pending := some .ret } : Loop) = { rec with state := .done, pending := some .ret } := by simp
      rw [he] at hend
      refine ⟨false, w3.putObj (D + 1) (.loop { rec with state := .done, pending := some .ret }), ⟨blocksOf w1 F1, fun b hb => ?_, putObj_kp hk3 hlr, (fun h => by cases h), fun _ => ⟨n, hp2, hJ'⟩⟩, Steps.trans hst (.one ?_)⟩
      · obtain ⟨_, k, hk⟩ := blocksOf_mem.1 hb
        exact (hF1 k b hk).1
      · exact hstep _ _ hend c cs
  have hkpJ : ∀ n w, (I n ∧ JAt (X.pinned pins) g own D (D + 1) rid a.tmps (S n) rec w) → Kp g.F0 g.w0 w := by
    rintro n w ⟨_, β, F, hI, _⟩
    exact hI.kp
  -- the call
  obtain ⟨fn, hfnn, efn⟩ := Option.map_eq_some_iff.1 hen
  simp only [Prod.mk.injEq] at efn
  have hcf : ∀ args w, (callFunc it args).run X.P w = .ok (.enter it args) w := by
    intro args w
    have h1 : ¬ fn.name = "runtime.NumGoroutine" := by simpa using efn.2
    have h2 : ¬ fn.body = none := by intro hb; rw [hb] at efn; simp at efn
    simp [callFunc, hfnn, h1, h2]
  have hdf : a.defers = [] := hI.defers.trans (df_plain hg)
  let a2 : Act := { a with defers := [{ target := .collected D, args := #[] }] ++ a.defers }
  have hstart := stepR_rangeFunc (P := X.P) (b := b) (a := a) (k := k) (cs := cs) (w := w) (g := .tmp dd) (ps := #[p]) (assign := assign) (body := body) (l := D + 1) (mark := [{ target := .collected D, args := #[] }]) (w₁ := w2) (w₁' := w2) (w₂ := w2)
    (d := { target := .fn (.func it) lb, args := #[.func (.yield (D + 1)) #[] #[]] }) (f := it) (args := #[.func (.yield (D + 1)) #[] #[]] ++ lb)
    (by rw [hk.2, rd_plain hg, hfn, hw2, hrec, hDe]; exact run_enterLoop_outer _ _ _ _ _)
    (by simp only [resolve, hdv]; simp [go_sem]) (by simp [invoke, go_sem, hcf])
  obtain ⟨e, w3, fr, ⟨⟨v, rfl⟩, hfin⟩, hst, _, hleave⟩ := hseq (D + 1) _ _ w2 hheld2 hkpJ hitx ⟨hI0, hJ0⟩ (b.atR a2 (.inRangeFunc (D + 1) :: k) :: cs)
  have hback := step_leave_returned (cs := cs) (c := b.atR a2 (.inRangeFunc (D + 1) :: k)) hleave
  rw [finish_atR_inRangeFunc] at hback
  -- behind it
  have hpost : ∀ (T : St) (r : Loop) (K : List Item), r.state ≠ .busy → (T.obj rid = .gone) → JAt (X.pinned pins) g own D (D + 1) rid a.tmps T r w3 → K = (r.pending.map Item.code).toList ++ k →
      (∀ (g2 : Gx) D, (∀ A : Amb, A.on g.w0 g.F0 → A.on g2.w0 g2.F0) → g2.Post = PostM g2 D res outs → MarkOk g2 D → Run X g2 K T) →
      ∃ v w' fr, Fin X g v w' fr ∧ Steps X.P (lone (b.atR a2 (.endRangeFunc (D + 1) :: k)) cs w3) (lone fr cs w') := by
    rintro T r K hr hT ⟨β1, F1, hI1, hF1, hD1, ho1⟩ hK hrun
    have hob1 := hI1.obj rid
    rw [St.obj_setObj, if_pos rfl] at hob1
    have hl1 : w3.heap[D + 1]? = some (.loop r) := hob1.2 (D + 1, .loop r) (by simp)
    have hDlt := (Array.getElem?_eq_some_iff.1 hD1).1
    obtain ⟨w4, hw4⟩ : ∃ w4, w4 = w3.putObj (D + 1) (.loop { r with state := .exhausted }) := ⟨_, rfl⟩
    have hk4 : Kp [D + 1] w3 w4 := by rw [hw4]; exact Kp.putObj
    have hlF : D + 1 ∈ F1 (.o rid) := by rw [hob1.1]; simp
    have j1 := hI1.setOb rid .gone (G := []) rfl (by simp) (by simp) (by simp)
    have hle : St.Le T ((T.setObj rid (.mem [(D + 1, .loop r)])).setObj rid .gone) :=
      ⟨fun d => .inr rfl, fun id' => by
        rw [St.obj_setObj, St.obj_setObj]
        by_cases e : rid = id'
        · subst e; exact .inl hT
        · rw [if_neg e, if_neg e]; exact .inr rfl⟩
    obtain ⟨F5, j2, hs5⟩ := j1.le hle
    have hF5 : ∀ k b, b ∈ F5 k → b ∈ F1 k ∧ b ≠ D + 1 := fun k b hb => by
      have h1 := hs5 k b hb
      by_cases e : k = .o rid
      · subst e; rw [updF_same] at h1; simp at h1
      · rw [updF_ne _ e] at h1
        exact ⟨h1, fun h => hI1.sep.apart k (.o rid) b e h1 (by rw [h]; exact hlF)⟩
    have hL4 : ∀ b, (g.L0 b ∨ b = D) → b < w4.heap.size ∧ b ∉ blocksOf w4 F5 := by
      have hs : w3.heap.size ≤ w4.heap.size := hk4.size
      rintro b (h | h)
      · refine ⟨Nat.lt_of_lt_of_le (g.hL b h).1 (Nat.le_trans hI1.kp.size hs), fun hb => ?_⟩
        obtain ⟨_, k, hk⟩ := blocksOf_mem.1 hb
        rcases hI1.range k b (hF5 k b hk).1 with h' | h'
        · exact (g.hL b h).2 h'
        · exact absurd (g.hL b h).1 (Nat.not_lt.2 h')
      · refine ⟨by rw [h]; omega, fun hb => ?_⟩
        obtain ⟨_, k, hk⟩ := blocksOf_mem.1 hb
        exact (hF1 k b (hF5 k b hk).1).2 h
    let gp : Gx := ⟨w4, blocksOf w4 F5, fun b => g.L0 b ∨ b = D, g.args, .plain fun _ _ => True, hL4⟩
    let g2 : Gx := ⟨w4, blocksOf w4 F5, fun b => g.L0 b ∨ b = D, g.args, .marked D (PostMP gp D res outs), hL4⟩
    have j3 := j2.world (w' := w4) (M := fun b => b = D + 1) (L' := Lv g2 F5) (hI1.kp.trans hk4 (fun x hx => by
        rw [List.mem_singleton.1 hx]; exact hI1.range _ _ hlF)) (fun b hb hM => hk4.block b hb (by simpa using hM)) (fun b hb => by rw [hb]; exact .inr (.inr (.inr ⟨_, hlF⟩))) (by
        rintro b hb ((h | h) | ⟨k, h⟩)
        · exact .inl h
        · exact .inr (.inr (.inl h))
        · exact .inr (.inr (.inr ⟨k, (hF5 k b h).1⟩))) (fun k b hb => (hF5 k b hb).2)
    have hD4 : w4.heap[D]? = some (.deferred (some [])) := by
      rw [hk4.block D hDlt (by simp)]; exact hD1
    have hSR2 : SR X g2 T a2 w4 := by
      refine ⟨β1, F5, ?_, hI.size, Kp.refl _ _, j3.sep, fun k b hb => .inl (blocksOf_mem.2 ⟨j3.lt k b hb, k, hb⟩), j3.slot, j3.obj, hI.pin⟩
      show [_] ++ a.defers = _
      rw [hdf]; rfl
    have hkw4 : Kp g.F0 g.w0 w4 := j3.kp
    have hrng : ∀ b, b ∈ blocksOf w4 F5 → b ∈ g.F0 ∨ g.w0.heap.size ≤ b := fun b hb => by
      obtain ⟨_, k, hk⟩ := blocksOf_mem.1 hb
      exact hI1.range k b (hF5 k b hk).1
    obtain ⟨v, w', fr, hf2, hst2⟩ := hrun g2 D (fun A hA => hA.keep hkw4 hrng) rfl ⟨hD4, (hL4 D (.inr rfl)).2, .inr rfl⟩ hX a2 w4 b cs hSR2 hfn ⟨hk.1, hk.2.trans (rd_plain hg)⟩
    refine ⟨v, w', fr, ?_, .head ?_ hst2⟩
    · obtain ⟨⟨F', hk', hnd, hr', hR⟩, h1, h2⟩ := (fin_marked rfl).1 hf2
      refine (fin_plain hg).2 ⟨⟨F', hkw4.trans hk' ?_, hnd, ?_, hR.sub ?_⟩, h1, h2⟩
      · intro x hx
        rcases List.mem_cons.1 hx with hx | hx
        · exact .inr (by rw [hx]; exact hDnew)
        · exact hrng x hx
      · intro x hx
        rcases hr' x hx with hx | hx
        · rcases List.mem_cons.1 hx with hx | hx
          · exact .inr (by rw [hx]; exact hDnew)
          · exact hrng x hx
        · exact .inr (Nat.le_trans hkw4.size hx)
      · rintro x _ (hx | hx)
        · exact .inl ⟨.inl hx, fun h => by rw [h] at hx; exact absurd (g.hL D hx).1 (Nat.not_lt.2 hDnew)⟩
        · exact .inr hx
    · rw [hK, hw4]
      exact stepR_endRangeFunc (run_endLoop hl1 hr)
  rcases hfin with ⟨hin, h⟩ | ⟨n, hin, h⟩
  · obtain ⟨v', w', fr', hf, hs⟩ := hpost (S xs.length) rec k (by rw [hrec]; simp) (hrid _) h (by rw [hrec]; rfl) (fun g2 D h1 h2 h3 => hend g2 D h1 h2 h3 hin)
    exact ⟨v', w', fr', hf, .head hstart (Steps.trans hst (.head hback hs))⟩
  · obtain ⟨v', w', fr', hf, hs⟩ := hpost (Sx n) { rec with state := .done, pending := some .ret } (.code .ret :: k) (by simp) (hridx n) h rfl (fun g2 D h1 h2 h3 => hstop n g2 D h1 h2 h3 hin)
    exact ⟨v', w', fr', hf, .head hstart (Steps.trans hst (.head hback hs))⟩


/-- Over an iterator that owns its memory. -/
theorem Run.rangeFunc {dd p : Nat} {assign body : Code} {it : FuncId} {lb : Array Value} {im : List (Nat × Obj)} {xs : List Value} {res : AV} {outs : List AV} (id rid : Id) (pins : List Nat) (S Sx : Nat → St) (I Ix : Nat → Prop) (hI0 : I 0)
    (hg : g.Post = PostOf g res outs) (hseq : SeqOk X.P it lb (im.map Prod.fst) (fun w => held w im) xs)
    (hen : (X.P.funcs[it]?).map (fun fn => (fn.body.isSome, fn.name == "runtime.NumGoroutine")) = some (true, false))
    (hd : st.get dd = .lit (.func (.func it) #[] lb)) (hob : st.obj id = .mem im) (hS : St.Le (S 0) (st.setObj id .gone))
    (hpin : ∀ n, ((S n).sl.all fun e => pins.contains e.1) = true) (hpinx : ∀ n, ((Sx n).sl.all fun e => pins.contains e.1) = true)
    (hrid : ∀ n, (S n).obj rid = .gone) (hridx : ∀ n, (Sx n).obj rid = .gone) (hp : (Nat.blt p X.fn.ntmps && !(pins.contains p)) = true)
    (hround : ∀ n x (gr : Gx) l r, I n → xs[n]? = some x → r.state = .ready → (∀ A : Amb, A.on g.w0 g.F0 → A.on gr.w0 gr.F0) →
      gr.Post = RPost (X.pinned pins) gr l ((S (n + 1)).setObj rid (.mem [(l, .loop { r with state := .busy })])) ((Sx n).setObj rid (.mem [(l, .loop { r with state := .busy })])) (I (n + 1)) (Ix n) →
      Run (X.pinned pins) gr [.code assign, .beginRound, .code body] (((S n).setObj rid (.mem [(l, .loop r)])).put p (.lit x)))
    (hend : ∀ (g2 : Gx) D, (∀ A : Amb, A.on g.w0 g.F0 → A.on g2.w0 g2.F0) → g2.Post = PostM g2 D res outs → MarkOk g2 D → I xs.length → Run X g2 k (S xs.length))
    (hstop : ∀ n (g2 : Gx) D, (∀ A : Amb, A.on g.w0 g.F0 → A.on g2.w0 g2.F0) → g2.Post = PostM g2 D res outs → MarkOk g2 D → Ix n → Run X g2 (.code .ret :: k) (Sx n)) :
    Run X g (.code (.rangeFunc (.tmp dd) #[p] assign body) :: k) st :=
  Run.rangeFuncG id rid pins S Sx I Ix hI0 hg (fun l J Jx w h0 _ hx h1 => hseq l J Jx w h0 hx h1) hen hd hob hS hpin hpinx hrid hridx hp hround hend hstop

end
end Go.Av

/- A variable's box whose place is known: laid, read, written. -/
namespace Go.Av
open Go Go.RowKit

section
variable {X : Fx} {g : Gx} {st st' : St} {a : Act} {w w' : World} {β β' : Env} {F : Key → List Nat} {L : Nat → Prop} {K : List Item} {k : List Item}
variable {ops : Array Oper} {i : Nat} {rest : List Nat} {o : Oper}

/-- A loop within a block, whose ends come together in one state. -/
theorem Run.loopTo {c : Code} {it : Item} (S : St) (h : ∀ k', Nxt (X := X) (g := g) (K := k') S → Run X g (.code (.loop c) :: it :: k') st) (hk : Run X g k S) :
    Run X g (.code (.loop c) :: it :: k) st := h k hk

/-- Nothing is known exactly. -/
theorem Run.mem0 (id : Id) (hgone : st.obj id = .gone) (h : Run X g K (st.setObj id (.mem []))) : Run X g K st :=
  Run.ghost (fun a w ⟨β, F, hI⟩ => ⟨β, updF F (.o id) [], (hI.setOb id (.mem []) (G := []) ⟨rfl, by simp⟩ (by simp) (by simp) (by simp)).setL fun _ _ hb => Lv_updF_nil hb⟩) h

end
end Go.Av

/- Ranging over a function that only reads what others leave alone. -/
namespace Go.Av
open Go Go.RowKit

/-- An iterator that owns nothing and reads what R tells of: so long as that holds, it hands these values to yield. -/
def SeqOkR (P : Program) (f : FuncId) (lb : Array Value) (R : World → Prop) (xs : List Value) : Prop :=
  ∀ (l : Nat) (J : Nat → World → Prop) (Jx : World → Prop) (w : World), (∀ n w, J n w → R w) → Itx P l [] xs J Jx → J 0 w →
    Calls P f (#[.func (.yield l) #[] #[]] ++ lb) w fun e w' => (∃ v, e = .returned v) ∧ (J xs.length w' ∨ Jx w')

section
variable {X : Fx} {g : Gx} {st st' : St} {a : Act} {w w' : World} {β β' : Env} {F : Key → List Nat} {L : Nat → Prop} {K : List Item} {k : List Item}
variable {ops : Array Oper} {i : Nat} {rest : List Nat} {o : Oper}

theorem SeqOkR.intro (X : Fx) (hX : X.Ok) {c : Code} (hb : X.fn.body = some c) {lb : List Value} {R : World → Prop} {xs : List Value} (hargs' : Nat.ble (lb.length + 1) X.fn.ntmps = true)
    (hpins' : (X.pins.all fun j => Nat.blt j (lb.length + 1)) = true)
    (h : ∀ (g : Gx) (l : Nat) (J : Nat → World → Prop) (Jx : World → Prop) (ms : List (Nat × Obj)), (∀ n w, J n w → R w) → Itx X.P l [] xs J Jx → (∀ b, b < g.w0.heap.size → b ∈ g.F0) → Cov g [] (J 0) ms →
      g.Post = .plain (fun _ w' => J xs.length w' ∨ Jx w') → Run X g [.code c] ⟨initS (.lit (.func (.yield l) #[] #[]) :: lb.map .lit) 0, [((0, 0), .mem []), ((0, 1), .mem ms)]⟩) : SeqOkR X.P X.f lb.toArray R xs :=
  fun l J Jx w hR hx h0 => SeqAt.intro (im := []) X hX hb hargs' hpins' (by simp) (fun g ms hall hcov hp => h g l J Jx ms hR hx hall hcov hp) (by intro e he; simp at he) h0

/-- The statement 'for x := range f { .. }' over such an iterator. -/
theorem Run.rangeFuncR {dd p : Nat} {assign body : Code} {it : FuncId} {lb : Array Value} {xs : List Value} {res : AV} {outs : List AV} (id rid : Id) (pins : List Nat) (S Sx : Nat → St) (I Ix : Nat → Prop) (R : World → Prop) (hI0 : I 0)
    (hg : g.Post = PostOf g res outs) (hR : ∀ w, Kp g.F0 g.w0 w → R w) (hseq : SeqOkR X.P it lb R xs)
    (hen : (X.P.funcs[it]?).map (fun fn => (fn.body.isSome, fn.name == "runtime.NumGoroutine")) = some (true, false))
    (hd : st.get dd = .lit (.func (.func it) #[] lb)) (hob : st.obj id = .mem []) (hS : St.Le (S 0) (st.setObj id .gone))
    (hpin : ∀ n, ((S n).sl.all fun e => pins.contains e.1) = true) (hpinx : ∀ n, ((Sx n).sl.all fun e => pins.contains e.1) = true)
    (hrid : ∀ n, (S n).obj rid = .gone) (hridx : ∀ n, (Sx n).obj rid = .gone) (hp : (Nat.blt p X.fn.ntmps && !(pins.contains p)) = true)
    (hround : ∀ n x (gr : Gx) l r, I n → xs[n]? = some x → r.state = .ready → (∀ A : Amb, A.on g.w0 g.F0 → A.on gr.w0 gr.F0) →
      gr.Post = RPost (X.pinned pins) gr l ((S (n + 1)).setObj rid (.mem [(l, .loop { r with state := .busy })])) ((Sx n).setObj rid (.mem [(l, .loop { r with state := .busy })])) (I (n + 1)) (Ix n) →
      Run (X.pinned pins) gr [.code assign, .beginRound, .code body] (((S n).setObj rid (.mem [(l, .loop r)])).put p (.lit x)))
    (hend : ∀ (g2 : Gx) D, (∀ A : Amb, A.on g.w0 g.F0 → A.on g2.w0 g2.F0) → g2.Post = PostM g2 D res outs → MarkOk g2 D → I xs.length → Run X g2 k (S xs.length))
    (hstop : ∀ n (g2 : Gx) D, (∀ A : Amb, A.on g.w0 g.F0 → A.on g2.w0 g2.F0) → g2.Post = PostM g2 D res outs → MarkOk g2 D → Ix n → Run X g2 (.code .ret :: k) (Sx n)) :
    Run X g (.code (.rangeFunc (.tmp dd) #[p] assign body) :: k) st :=
  Run.rangeFuncG (im := []) id rid pins S Sx I Ix hI0 hg (fun l J Jx w _ hJ hx h0 => hseq l J Jx w (fun n w h => hR w (hJ n w h)) hx h0) hen hd hob hS hpin hpinx hrid hridx hp hround hend hstop

/-- A load, in an iterator's frame, of what is known to lie there. -/
theorem ValOk.loadJ {t b q j : Nat} {x : Operand} {ti : TI} {own : List Nat} {J : World → Prop} {im ms : List (Nat × Obj)} {vals : List Value} {v : AV} (idI idC : Id) (hcov : Cov g own J ms) (hkeep : ∀ w1 w2, J w1 → Kp own w1 w2 → J w2)
    (hi : st.obj idI = .mem im) (him : im.map Prod.fst = own) (hC : st.obj idC = .mem ms) (hR : ∀ w, J w → RowAt w b q vals)
    (hop : o.op = .load t x) (hT : X.T t = some ti) (hx : st.ev x = .lit (.pointer (some ⟨b, q + j, none⟩))) (hv : rdc ti (vals.map .lit) j = some v) : ValOk X g st o v := by
  intro hX a w β F hI
  have hrow : RowAt w b q vals := hR w (hcov.now hkeep hI hi him hC)
  obtain ⟨u, hu, hRel⟩ := load_row (P := X.P) (w := w) (b := b) (o := q) (j := j) (vals := vals) (cs := vals.map .lit) (β := β) (L := Lv g F) (Fs := fun _ => []) (v := v) (ty_of hX hT) (by simp) (by
    intro k x u hx hu
    rw [List.getElem?_map, hu] at hx
    simp only [Option.map_some, Option.some.injEq] at hx
    subst hx
    exact .lit _ _) hv
  refine ⟨u, fun w2 hk2 => ?_, hRel⟩
  have h := hu w2 (hrow.keep fun hb => hk2.block b hb (by simp))
  simp [execOp, hop, ev_lit hI hx, Instr.loadAt, Instr.sureAddr, h]

/-- A condition that is a constant. -/
theorem Run.condC {x y : Code} {b : Bool}
    (ht : b = true → Run X g (.code x :: k) st) (hf : b = false → Run X g (.code y :: k) st) : Run X g (.code (.cond (.const (.bool b)) x y) :: k) st := by
  intro hX a w fr cs hI h1 h2
  have hv : a.eval (.const (.bool b)) = .bool b := rfl
  cases b with
  | true =>
    obtain ⟨v, w', fr', hp, hst⟩ := ht rfl hX a w fr cs hI h1 h2
    exact ⟨v, w', fr', hp, .head (stepR_cond hv) hst⟩
  | false =>
    obtain ⟨v, w', fr', hp, hst⟩ := hf rfl hX a w fr cs hI h1 h2
    exact ⟨v, w', fr', hp, .head (stepR_cond hv) (by simpa using hst)⟩

/-- The place of an element of a slice whose value is known. -/
theorem ValOk.idxL {t e : Nat} {ti : TI} {x j : Operand} {b q n c : Nat} {kk : IntKind} {m : Int}
    (hop : o.op = .indexAddr t x j) (hT : sliceAt X.T t = some (e, ti)) (hx : st.ev x = .lit (.slice (some ⟨b, q, none⟩) n c)) (hj : st.ev j = .lit (.int kk m)) (h0 : 0 ≤ m) (hm : m < n) :
    ValOk X g st o (.lit (.pointer (some ⟨b, q + m.toNat * ti.sz, none⟩))) := by
  intro hX a w β F hI
  obtain ⟨i', h1, h2, h3⟩ := sliceAt_ok hX hT
  refine ⟨.pointer (some ⟨b, q + m.toNat * ti.sz, none⟩), fun w2 _ => ?_, .lit _ _⟩
  have hs := un_run h1 w2
  rw [h2] at hs
  simp [execOp, hop, Instr.indexAt, ev_lit hI hj, ev_lit hI hx, asIntOf, hs, h0, hm, sizeOf_run h3, addr_add]

end

/-- A contract that leans on what the very arguments are. -/
theorem Ct.ofAmb {P : Program} {f : FuncId} {args : List AV} {res : AV} (hen : (P.funcs[f]?).map (fun fn => (fn.body.isSome, fn.name == "runtime.NumGoroutine")) = some (true, false)) (hpl : AV.plL args = true)
    (h : ∀ (w : World) (L : Nat → Prop) (vs : Array Value), Rel w L noEnv (.tup args) (.tuple vs) [] → ∃ A args', A.on w [] ∧ CtA A P f args' res [] ∧ Rel w L noEnv (.tup args') (.tuple vs) []) : Ct P f args res [] := by
  refine ⟨hen, fun w L vs F hL hF hr => ?_⟩
  have hF0 : F = [] := tup_pl hr hpl
  subst hF0
  obtain ⟨A, args', hA, hc, hr'⟩ := h w _ vs hr
  exact hc.calls w L vs [] hA hL hF hr'

end Go.Av

/- Bits of numbers; the order of texts. -/
namespace Go.Av
open Go Go.RowKit

section
variable {X : Fx} {g : Gx} {st st' : St} {a : Act} {w w' : World} {β β' : Env} {F : Key → List Nat} {L : Nat → Prop} {K : List Item} {k : List Item}
variable {ops : Array Oper} {i : Nat} {rest : List Nat} {o : Oper}

theorem ValOk.shr {t t2 : Nat} {x y : Operand} {kk k' : IntKind} {n m : Int} (hop : o.op = .binOp .shr t x y t2) (hx : st.ev x = .lit (.int kk n)) (hy : st.ev y = .lit (.int k' m)) (h0 : 0 ≤ m) :
    ValOk X g st o (.lit (.int kk (n.fdiv (2 ^ min m.toNat kk.bits)))) := by
  intro hX a w β F hI
  refine ⟨.int kk (n.fdiv (2 ^ min m.toNat kk.bits)), fun w2 _ => ?_, .lit _ _⟩
  have hm : ¬ m < 0 := by omega
  simp only [execOp, hop, ev_lit hI hx, ev_lit hI hy, eqGuard, binOp, Op.shift, if_neg hm]
  simp

theorem ValOk.land {t t2 : Nat} {x y : Operand} {kk : IntKind} {n m : Int} (hop : o.op = .binOp .and t x y t2) (hx : st.ev x = .lit (.int kk n)) (hy : st.ev y = .lit (.int kk m)) :
    ValOk X g st o (.lit (.int kk (kk.wrap (BitVec.ofInt kk.bits n &&& BitVec.ofInt kk.bits m).toNat))) := by
  intro hX a w β F hI
  refine ⟨.int kk (kk.wrap (BitVec.ofInt kk.bits n &&& BitVec.ofInt kk.bits m).toNat), fun w2 _ => ?_, .lit _ _⟩
  simp only [execOp, hop, ev_lit hI hx, ev_lit hI hy, eqGuard, binOp, Op.intBits]
  simp

theorem ValOk.rem {t t2 : Nat} {x y : Operand} {kk : IntKind} {n m : Int} (hop : o.op = .binOp .rem t x y t2) (hx : st.ev x = .lit (.int kk n)) (hy : st.ev y = .lit (.int kk m)) (h0 : m ≠ 0) :
    ValOk X g st o (.lit (.int kk (n.tmod m))) := by
  intro hX a w β F hI
  refine ⟨.int kk (n.tmod m), fun w2 _ => ?_, .lit _ _⟩
  simp only [execOp, hop, ev_lit hI hx, ev_lit hI hy, eqGuard, binOp, Op.intDiv, if_neg h0]
  simp [h0]

end
end Go.Av

/- A call that answers with a pointer to a new object. -/
namespace Go.Av
open Go Go.RowKit

section
variable {X : Fx} {g : Gx} {st st' : St} {a : Act} {w w' : World} {β β' : Env} {F : Key → List Nat} {L : Nat → Prop} {K : List Item} {k : List Item}
variable {ops : Array Oper} {i : Nat} {rest : List Nat} {o : Oper}

/-- What is left of a region, whose ends come together in one state. -/
theorem Run.regTo {l : List Nat} (S : St) (h : ∀ k', Nxt (X := X) (g := g) (K := k') S → Run X g (.inRegion ops l :: k') st) (hk : Run X g k S) : Run X g (.inRegion ops l :: k) st := h k hk

end
end Go.Av

/- A part of a proof in the texts 'av': contracts of the program's functions. -/
namespace Go.Av
open Go Go.RowKit

/-! Calls that are lent an object, whose outcome is one of many. -/

structure CtE (P : Program) (f : FuncId) (args : List AV) (ob : Ob) {π : Type} (C : π → Prop) (res : π → AV) (ob' : π → Ob) : Prop where
  enters : (P.funcs[f]?).map (fun fn => (fn.body.isSome, fn.name == "runtime.NumGoroutine")) = some (true, false)
  free' : ∀ p, C p → (ob' p).free = true
  sz : ∀ p, C p → (ob' p).szOf = ob.szOf
  calls : ∀ (w : World) (L : Nat → Prop) (vs : Array Value) (v0 : Value) (G : List Nat), (∀ b, L b → b < w.heap.size ∧ b ∉ G) → G.Nodup →
    Rel w (fun b => L b ∨ b ∈ G) (updE noEnv lid (v0, ob.szOf)) (.tup args) (.tuple vs) [] → ObRel w (fun b => L b ∨ b ∈ G) (updE noEnv lid (v0, ob.szOf)) lid ob G →
    Calls P f vs w fun e w' => ∃ p, C p ∧ ∃ v Gr G', e = .returned v ∧ Kp G w w' ∧ (Gr ++ G').Nodup ∧ (∀ b ∈ Gr ++ G', b ∈ G ∨ w.heap.size ≤ b) ∧
      Rel w' (fun b => L b ∨ b ∈ Gr ++ G') noEnv (res p) v Gr ∧ ObRel w' (fun b => L b ∨ b ∈ Gr ++ G') (updE noEnv lid (v0, (ob' p).szOf)) lid (ob' p) G'

@[reducible] def PostE (g : Gx) (v0 : Value) {π : Type} (C : π → Prop) (res : π → AV) (ob' : π → Ob) : GPost := .plain fun v w' => ∃ p, C p ∧ PostGP g v0 (res p) (ob' p) v w'

theorem CtE.intro (X : Fx) (hX : X.Ok) {c : Code} (hb : X.fn.body = some c) (hn : (X.fn.name == "runtime.NumGoroutine") = false) {args : List AV} {ob : Ob} {π : Type} {C : π → Prop} {res : π → AV} {ob' : π → Ob}
    (hargs' : Nat.ble args.length X.fn.ntmps = true) (hpins' : (X.pins.all fun j => Nat.blt j args.length) = true) (hfree : ∀ p, C p → (ob' p).free = true) (hsz : ∀ p, C p → (ob' p).szOf = ob.szOf) (hgo : ob.free = true)
    (h : ∀ (g : Gx) (v0 : Value), g.Post = PostE g v0 C res ob' → Run X g [.code c] ⟨initS args 0, [(lid, ob), (lidT, .tie v0 lid)]⟩) : CtE X.P X.f args ob C res ob' := by
  have hargs : args.length ≤ X.fn.ntmps := Nat.le_of_ble_eq_true hargs'
  have hpins : ∀ j ∈ X.pins, j < args.length := fun j hj => by
    have := Nat.le_of_ble_eq_true (List.all_eq_true.1 hpins' j hj)
    omega
  refine ⟨by rw [hX.func]; simp [hb, hn], hfree, hsz, fun w L vs v0 G hL hF hr hO cs => ?_⟩
  generalize hGe : ([] : List Nat) = Ge at hr
  cases hr with
  | tup _ _ _ Fs hl hr =>
  have hFs := foots_nil_sub hGe.symm
  let g : Gx := ⟨w, G, L, vs, .plain fun v w' => ∃ p, C p ∧ ∃ Gr G', Kp G w w' ∧ (Gr ++ G').Nodup ∧ (∀ b ∈ Gr ++ G', b ∈ G ∨ w.heap.size ≤ b) ∧
    Rel w' (fun b => L b ∨ b ∈ Gr ++ G') noEnv (res p) v Gr ∧ ObRel w' (fun b => L b ∨ b ∈ Gr ++ G') (updE noEnv lid (v0, (ob' p).szOf)) lid (ob' p) G', hL⟩
  let b : Frame := { (default : Frame) with fn := X.f, kind := .normal, roundOf := none }
  let a : Act := { tmps := vs ++ Array.replicate (X.fn.ntmps - vs.size) undef, defers := [] }
  have henter : Frame.enter X.P X.f vs .normal = b.atR a [.code c] := by
    simp [Frame.enter, Frame.atR, hX.func, hb, b, a]
  have hsize : a.tmps.size = X.fn.ntmps := by simp [a]; omega
  have hget : ∀ d, d < args.length → a.tmps[d]? = vs[d]? := fun d hd => by
    simp only [a]; rw [Array.getElem?_append_left (by omega)]
  have hSR : SR X g ⟨initS args 0, [(lid, ob), (lidT, .tie v0 lid)]⟩ a w := by
    let FF : Key → List Nat := fun | .s d => [] | .o id => if id = lid then G else []
    have hLL : ∀ b, Lv g FF b → (L b ∨ b ∈ G) := by
      rintro b (hb | ⟨k, hb⟩)
      · exact .inl hb
      · cases k with
        | s d => simp [FF] at hb
        | o id =>
          simp only [FF] at hb
          split at hb
          · exact .inr hb
          · simp at hb
    have hob : ∀ id, St.obj ⟨initS args 0, [(lid, ob), (lidT, .tie v0 lid)]⟩ id = if id = lid then ob else if id = lidT then .tie v0 lid else .gone := by
      intro id
      show lookO [(lid, ob), (lidT, .tie v0 lid)] id = _
      simp only [lookO]
      by_cases h1 : id = lid
      · subst h1; rw [if_pos rfl, (eqId_iff lid lid).2 rfl]; rfl
      · have e1 : eqId lid id = false := by cases hb : eqId lid id; rfl; exact absurd ((eqId_iff _ _).1 hb).symm h1
        rw [if_neg h1, e1]
        by_cases h2 : id = lidT
        · subst h2; rw [if_pos rfl, (eqId_iff lidT lidT).2 rfl]; rfl
        · have e2 : eqId lidT id = false := by cases hb : eqId lidT id; rfl; exact absurd ((eqId_iff _ _).1 hb).symm h2
          rw [if_neg h2, e2]; rfl
    refine ⟨updE noEnv lid (v0, ob.szOf), FF, rfl, hsize, Kp.refl _ _, ⟨?_, ?_⟩, ?_, ?_, ?_, ?_⟩
    · intro k
      cases k with
      | s d => simp [FF]
      | o id => simp only [FF]; split; exact hF; simp
    · intro k k' b hne hb hb'
      cases k with
      | s d => simp [FF] at hb
      | o id =>
        cases k' with
        | s d => simp [FF] at hb'
        | o id' =>
          simp only [FF] at hb hb'
          split at hb
          · split at hb'
            · rename_i e1 e2; exact hne (by rw [e1, e2])
            · simp at hb'
          · simp at hb
    · intro k b hb
      cases k with
      | s d => simp [FF] at hb
      | o id =>
        simp only [FF] at hb
        split at hb
        · exact .inl hb
        · simp at hb
    · intro d
      show ∃ u, _ ∧ Rel w _ _ (lookS (initS args 0) d) u (FF (.s d))
      rw [show St.get ⟨initS args 0, [(lid, ob), (lidT, .tie v0 lid)]⟩ d = lookS (initS args 0) d from rfl, look_initS]
      simp only [Nat.zero_le, true_and, Nat.zero_add, Nat.sub_zero, FF]
      by_cases hd : d < args.length
      · rw [if_pos hd]
        have e1 : args[d]? = some (args.getD d .top) := by rw [List.getD_eq_getElem?_getD, List.getElem?_eq_getElem hd]; rfl
        have e2 : vs[d]? = some (vs.getD d undef) := by rw [Array.getD_eq_getD_getElem?, Array.getElem?_eq_getElem (by omega)]; rfl
        refine ⟨vs.getD d undef, .inl (by rw [hget d hd, e2]), ?_⟩
        have := hr d _ _ e1 e2
        rw [hFs d hd] at this
        exact this.keep (M := fun _ => False) (fun _ _ _ => rfl) (fun _ h => h.elim) (fun b _ hb => hLL b hb) (fun _ _ h => h)
      · rw [if_neg hd]
        exact ⟨undef, .inr rfl, .top _ _⟩
    · intro id
      rw [hob id]
      simp only [FF]
      by_cases h1 : id = lid
      · rw [if_pos h1, if_pos h1]
        subst h1
        exact hO.keep (M := fun _ => False) (fun _ _ _ => rfl) (fun _ h => h.elim) (fun b _ hb => hLL b hb) (fun _ _ h => h)
      · rw [if_neg h1, if_neg h1]
        by_cases h2 : id = lidT
        · rw [if_pos h2]
          exact ⟨rfl, ob.szOf, by simp [updE]⟩
        · rw [if_neg h2]; rfl
    · intro j hj; exact hget j (hpins j hj)
  obtain ⟨v, w', fr, ⟨⟨p, hC, Gr, G', hp⟩, h1, h2⟩, hst⟩ := h g v0 rfl hX a w b cs hSR rfl ⟨rfl, rfl⟩
  rw [← henter] at hst
  exact ⟨.returned v, w', fr, ⟨p, hC, v, Gr, G', rfl, hp⟩, hst, h1, h2⟩

section
variable {X : Fx} {g : Gx} {st st' : St} {a : Act} {w w' : World} {β β' : Env} {F : Key → List Nat} {L : Nat → Prop} {K : List Item} {k : List Item}
variable {ops : Array Oper} {i : Nat} {rest : List Nat} {o : Oper}

theorem Run.retE {π : Type} {C : π → Prop} {res : π → AV} {ob' : π → Ob} (p : π) {r : AV} {v0 : Value} (hp : C p) (hg : g.Post = PostE g v0 C res ob') (hr : retOf X st = some r) (he : r = res p) (ho : st.obj lid = ob' p) (hf : (ob' p).free = true) (ht : st.obj lidT = .tie v0 lid)
    (hk : ((X.fn.results.toList.map st.rkey).all fun k => decide (k ≠ .o lid)) = true) : Run X g (.code .ret :: k) st :=
  Run.ret' hg fun hX a w hI => by
    obtain ⟨v, h1, h2⟩ := retG_post hX hr he ho hf ht hk hI
    exact ⟨v, h1, p, hp, h2⟩
theorem Run.finE {π : Type} {C : π → Prop} {res : π → AV} {ob' : π → Ob} (p : π) {r : AV} {v0 : Value} (hp : C p) (hg : g.Post = PostE g v0 C res ob') (hr : retOf X st = some r) (he : r = res p) (ho : st.obj lid = ob' p) (hf : (ob' p).free = true) (ht : st.obj lidT = .tie v0 lid)
    (hk : ((X.fn.results.toList.map st.rkey).all fun k => decide (k ≠ .o lid)) = true) : Run X g [] st :=
  Run.end' hg fun hX a w hI => by
    obtain ⟨v, h1, h2⟩ := retG_post hX hr he ho hf ht hk hI
    exact ⟨v, h1, p, hp, h2⟩

/-- Behind a call that was lent object id. -/
theorem CtE.called (hX : X.Ok) {id : Id} {f : FuncId} {xs : Array Operand} {ps : List AV} {ob : Ob} {π : Type} {C : π → Prop} {res : π → AV} {ob' : π → Ob} (hct : CtE X.P f ps ob C res ob') (hI : Inv X g st a w β F (Lv g F)) (hob : st.obj id = ob) (hfo : ob.free = true)
    (hps : lendPs id (xs.toList.map st.ev) = some ps) :
    Calls X.P f (xs.map a.eval ++ #[]) w fun e w' => ∃ p, C p ∧ ∃ (v : Value) (Gr G' : List Nat) (β' : Env) (F' : Key → List Nat), e = .returned v ∧ (∀ b ∈ Gr, b ∈ F (.o id) ∨ w.heap.size ≤ b) ∧ Gr.Nodup ∧ (∀ k b, b ∈ Gr → b ∉ F' k) ∧
      Inv X g (st.setObj id (ob' p)) a w' β' F' (fun b => Lv g F' b ∨ b ∈ Gr) ∧ Rel w' (fun b => Lv g F' b ∨ b ∈ Gr) β' (res p) v Gr ∧ (∀ b ∈ G', b ∈ F' (.o id)) := by
  subst hob
  have hobj := hI.obj id
  obtain ⟨v0, hβ⟩ := Ob.sz hobj hfo
  have hLG : ∀ b, ((Lv g F b ∧ b ∉ F (.o id)) ∨ b ∈ F (.o id)) ↔ Lv g F b := by
    intro b
    constructor
    · rintro (h | h)
      · exact h.1
      · exact .inr ⟨_, h⟩
    · intro h
      by_cases hb : b ∈ F (.o id)
      · exact .inr hb
      · exact .inl ⟨h, hb⟩
  have hargs : Rel w (fun b => (Lv g F b ∧ b ∉ F (.o id)) ∨ b ∈ F (.o id)) (updE noEnv lid (v0, (st.obj id).szOf)) (.tup ps) (.tuple (xs.map a.eval ++ #[])) [] := by
    obtain ⟨e1, e2⟩ := lendPs_get hps
    have := Rel.tup (w := w) (L := fun b => (Lv g F b ∧ b ∉ F (.o id)) ∨ b ∈ F (.o id)) (updE noEnv lid (v0, (st.obj id).szOf)) ps (xs.map a.eval ++ #[]) (fun _ => []) (by simp [e1]) (by
      intro k y u hy hu
      obtain ⟨x, hx, hl⟩ := e2 k y hy
      obtain ⟨G, hG⟩ := evT_ok hI xs.toList k x u hx (by simpa using hu)
      exact (lendP_ok hl hβ hG).sub fun b _ hb => (hLG b).1 hb)
    rwa [foots_nil (fun _ _ => rfl)] at this
  have hobG : ObRel w (fun b => (Lv g F b ∧ b ∉ F (.o id)) ∨ b ∈ F (.o id)) (updE noEnv lid (v0, (st.obj id).szOf)) lid (st.obj id) (F (.o id)) := by
    have h1 : ObRel w (Lv g F) (updE noEnv lid (v0, (st.obj id).szOf)) lid (st.obj id) (F (.o id)) := by
      have hγ : updE noEnv lid (v0, (st.obj id).szOf) lid = some (v0, (st.obj id).szOf) := by simp [updE]
      revert hobj hβ hfo hγ
      generalize st.obj id = ob0
      generalize updE noEnv lid (v0, ob0.szOf) = γ
      intro hfo hobj hβ hγ
      cases ob0 with
      | vec sz ex xs =>
        obtain ⟨v', hv', hr⟩ := hobj
        rw [hβ] at hv'
        cases hv'
        exact ⟨_, hγ, hr.env γ rfl⟩
      | box cs =>
        obtain ⟨b, arr, T, lo, hi, Fs, e, hb, hfz, hs, hr, hF⟩ := hobj
        rw [hβ] at e
        cases e
        exact ⟨b, arr, T, lo, hi, Fs, hγ, hb, hfz, hs, fun k x u hx hu => (hr k x u hx hu).env γ (AV.freeL_get hfo k x hx), hF⟩
      | _ => cases hfo
    exact h1.keep (M := fun _ => False) (fun _ _ _ => rfl) (fun _ h => h.elim) (fun b _ hb => (hLG b).1 hb) (fun _ _ h => h)
  have hLs : ∀ b, (Lv g F b ∧ b ∉ F (.o id)) → b < w.heap.size ∧ b ∉ F (.o id) := by
    rintro b ⟨hb | ⟨k, hb⟩, hn⟩
    · exact ⟨Nat.lt_of_lt_of_le (g.hL b hb).1 hI.kp.size, hn⟩
    · exact ⟨hI.lt k b hb, hn⟩
  refine (hct.calls w (fun b => Lv g F b ∧ b ∉ F (.o id)) _ v0 (F (.o id)) hLs (hI.sep.nodup _) hargs hobG).mono ?_
  rintro e w' ⟨p, hC, v, Gr, G', rfl, hk, hn, hr', hRes, hOb'⟩
  have hct1 := hct.sz p hC
  have hct2 := hct.free' p hC
  have hnn := List.nodup_append.1 hn
  have hold : ∀ b ∈ Gr ++ G', ∀ kk, kk ≠ .o id → b ∉ F kk := by
    intro b hb kk hkk hbF
    rcases hr' b hb with h | h
    · exact hI.sep.apart _ _ b hkk hbF h
    · have := hI.lt kk b hbF; omega
  have hsub : ∀ b, (Lv g (updF F (.o id) G') b ∨ b ∈ Gr) → ((Lv g F b ∧ b ∉ F (.o id)) ∨ b ∈ Gr ++ G') ∨ (g.L0 b) := by
    rintro b (hb | hb)
    · rcases hb with hb | ⟨k, hb⟩
      · exact .inr hb
      · by_cases e : k = .o id
        · subst e; rw [updF_same] at hb; exact .inl (.inr (List.mem_append_right _ hb))
        · rw [updF_ne _ e] at hb
          exact .inl (.inl ⟨.inr ⟨k, hb⟩, fun h => hI.sep.apart _ _ b e hb h⟩)
    · exact .inl (.inr (List.mem_append_left _ hb))
  have hsub' : ∀ b, (Lv g (updF F (.o id) G') b ∨ b ∈ Gr) → ((Lv g F b ∧ b ∉ F (.o id)) ∨ b ∈ Gr ++ G') := by
    intro b hb
    rcases hsub b hb with h | h
    · exact h
    · refine .inl ⟨.inl h, fun h' => ?_⟩
      rcases hI.range _ b h' with h2 | h2
      · exact (g.hL b h).2 h2
      · have := (g.hL b h).1; omega
  have hGr0 : ∀ b ∈ Gr ++ G', b ∈ g.F0 ∨ g.w0.heap.size ≤ b := by
    intro b hb
    rcases hr' b hb with h | h
    · exact hI.range _ b h
    · exact .inr (Nat.le_trans hI.kp.size h)
  refine ⟨p, hC, v, Gr, G', β, updF F (.o id) G', rfl, fun b hb => hr' b (List.mem_append_left _ hb), hnn.1, ?_, ?_, ?_, ?_⟩
  · intro kk b hb hbF
    by_cases e : kk = .o id
    · subst e; rw [updF_same] at hbF; exact hnn.2.2 b hb b hbF rfl
    · rw [updF_ne _ e] at hbF; exact hold b (List.mem_append_left _ hb) kk e hbF
  · have h1 : Inv X g (st.setObj id .gone) a w β (updF F (.o id) []) (Lv g F) := hI.setOb id .gone rfl (by simp) (by simp) (by simp)
    have h2 : Inv X g (st.setObj id .gone) a w' β (updF F (.o id) []) (fun b => Lv g (updF F (.o id) G') b ∨ b ∈ Gr) := by
      refine h1.world (M := fun b => b ∈ F (.o id)) (hI.kp.trans hk (fun b hb => hI.range _ b hb)) (fun b hb hM => hk.block b hb hM) (fun b hb => .inr ⟨_, hb⟩) ?_ ?_
      · intro b hb h
        rcases hsub' b h with h | h
        · exact h.1
        · rcases hr' b h with h | h
          · exact .inr ⟨_, h⟩
          · omega
      · rintro kk b hb hM
        by_cases e : kk = .o id
        · subst e; rw [updF_same] at hb; simp at hb
        · rw [updF_ne _ e] at hb; exact hI.sep.apart _ _ b e hb hM
    have hobn : ObRel w' (fun b => Lv g (updF F (.o id) G') b ∨ b ∈ Gr) β id (ob' p) G' := by
      have h3 : ObRel w' (fun b => Lv g (updF F (.o id) G') b ∨ b ∈ Gr) (updE noEnv lid (v0, (ob' p).szOf)) lid (ob' p) G' :=
        hOb'.keep (M := fun _ => False) (fun _ _ _ => rfl) (fun _ h => h.elim) (fun b _ hb => hsub' b hb) (fun _ _ h => h)
      have hγ : updE noEnv lid (v0, (ob' p).szOf) lid = some (v0, (ob' p).szOf) := by simp [updE]
      have hβ2 : β id = some (v0, (ob' p).szOf) := by rw [hct1]; exact hβ
      have hf' := hct2
      revert h3 hγ hβ2 hf'
      clear hOb' hct1 hct2
      generalize (updE noEnv lid (v0, (ob' p).szOf)) = γ
      intro h3 hγ hβ2 hf'
      generalize ob' p = obp at *
      cases obp with
      | vec sz ex xs =>
        obtain ⟨v', hv', hr⟩ := h3
        rw [hγ] at hv'
        cases hv'
        exact ⟨_, hβ2, hr.env β rfl⟩
      | box cs =>
        obtain ⟨b, arr, T, lo, hi, Fs, e, hb, hfz, hs, hr, hF⟩ := h3
        rw [hγ] at e
        cases e
        exact ⟨b, arr, T, lo, hi, Fs, hβ2, hb, hfz, hs, fun k x u hx hu => (hr k x u hx hu).env β (AV.freeL_get hf' k x hx), hF⟩
      | _ => cases hf'
    have h3 := h2.setOb id (ob' p) (G := G') hobn hnn.2.1 (by
      intro kk e b hb hb'
      rw [updF_ne _ e] at hb'
      exact hold b (List.mem_append_right _ hb) kk e hb') (fun b hb => hGr0 b (List.mem_append_right _ hb))
    have e1 : updF (updF F (.o id) []) (.o id) G' = updF F (.o id) G' := by
      funext kk
      by_cases e : kk = .o id
      · subst e; rw [updF_same, updF_same]
      · rw [updF_ne _ e, updF_ne _ e, updF_ne _ e]
    rw [e1] at h3
    refine ⟨h3.defers, h3.size, h3.kp, h3.sep, h3.range, h3.slot, fun id' => ?_, h3.pin⟩
    have := h3.obj id'
    rw [St.obj_setObj] at this ⊢
    by_cases e : id = id'
    · rw [if_pos e] at this ⊢; exact this
    · rw [if_neg e] at this ⊢
      rw [St.obj_setObj, if_neg e] at this
      exact this
  · exact (hRes.of_noEnv rfl β).sub fun b _ hb => hsub' b hb
  · intro b hb; rw [updF_same]; exact hb

/-- A call that is lent object id. -/
theorem Run.callE {d : Nat} {fo : Operand} {xs : Array Operand} {ts : Array TypeId} {f : FuncId} (id : Id) {ps qs : List AV} {ob : Ob} {π : Type} {C : π → Prop} {res : π → AV} {ob' : π → Ob}
    (ho : ops[i]? = some o) (hg : guardOf ops st o = some true) (hd : o.dst = some d) (hop : o.op = .call ⟨.value fo, xs, ts⟩) (hf : st.ev fo = .fn f [])
    (hob : st.obj id = ob) (hfo : ob.free = true) (hps : lendPs id (xs.toList.map st.ev) = some ps) (hct : CtE X.P f qs ob C res ob') (hqs : ps = qs)
    (hdn : (Nat.blt d X.fn.ntmps && !(X.pins.contains d)) = true) (h : ∀ p, C p → Run X g (.inRegion ops rest :: k) ((st.setObj id (ob' p)).put d (res p))) : Run X g (.inRegion ops (i :: rest) :: k) st := by
  subst hqs
  simp only [Bool.and_eq_true, Bool.not_eq_true'] at hdn
  refine Run.opcE C (fun p => (st.setObj id (ob' p)).put d (res p)) ho (fun a w hI => guardOf_ok hg a w hI) ?_ h
  rintro hX a w ⟨β, F, hI⟩
  have hfr := ev_rel hI fo (by rw [hf]; rfl)
  rw [hf] at hfr
  generalize hfv : a.eval fo = fv at hfr
  cases hfr with
  | fn _ _ _ vals hlv hr =>
  obtain rfl : vals = #[] := by
    have : vals.size = 0 := by simpa using hlv.symm
    exact Array.eq_empty_of_size_eq_zero this
  refine ⟨f, xs.map a.eval ++ #[], w, run_call hop hfv hct.enters, ?_⟩
  refine (hct.called hX hI hob hfo hps).mono ?_
  rintro e w' ⟨p, hC, v, Gr, G', β', F', rfl, hr1, hr2, hr3, hI', hR, _⟩
  refine ⟨p, v, hC, rfl, ?_⟩
  rw [hd]
  have hGrr : ∀ b ∈ Gr, b ∈ g.F0 ∨ g.w0.heap.size ≤ b := by
    intro b hb
    rcases hr1 b hb with h | h
    · exact hI.range _ b h
    · exact .inr (Nat.le_trans hI.kp.size h)
  refine ⟨_, _, (hI'.put (blt_lt hdn.1) (contains_iff hdn.2) hR hr2 (fun kk _ b hb => hr3 kk b hb) hGrr).setL fun b _ hb => ?_⟩
  refine Lv_sub (L := fun b => Lv g F' b ∨ b ∈ Gr) hb (fun kk hk' => ?_) (fun h => Or.inl (Or.inl h))
  by_cases e : kk = .s d
  · subst e; rw [updF_same] at hk'; exact .inr hk'
  · rw [updF_ne _ e] at hk'; exact .inl (Lv_of hk')

theorem Run.condJE {d : Nat} {x y : Code} {b : Bool} {π : Type} (C : π → Prop) (S : π → St) (hb : st.get d = .lit (.bool b)) (ht : b = true → ∀ k', (∀ p, C p → Nxt (X := X) (g := g) (K := k') (S p)) → Run X g (.code x :: k') st)
    (hf : b = false → ∀ k', (∀ p, C p → Nxt (X := X) (g := g) (K := k') (S p)) → Run X g (.code y :: k') st) (hk : ∀ p, C p → Run X g k (S p)) : Run X g (.code (.cond (.tmp d) x y) :: k) st :=
  Run.cond hb (fun h => ht h k hk) (fun h => hf h k hk)
theorem ValOk.shl {t t2 : Nat} {x y : Operand} {kk k' : IntKind} {n m : Int} (hop : o.op = .binOp .shl t x y t2) (hx : st.ev x = .lit (.int kk n)) (hy : st.ev y = .lit (.int k' m)) (h0 : 0 ≤ m) :
    ValOk X g st o (.lit (.int kk (kk.wrap (n * 2 ^ min m.toNat kk.bits)))) := by
  intro hX a w β F hI
  refine ⟨.int kk (kk.wrap (n * 2 ^ min m.toNat kk.bits)), fun w2 _ => ?_, .lit _ _⟩
  have hm : ¬ m < 0 := by omega
  simp only [execOp, hop, ev_lit hI hx, ev_lit hI hy, eqGuard, binOp, Op.shift, if_neg hm]
  simp
theorem ValOk.lxor {t t2 : Nat} {x y : Operand} {kk : IntKind} {n m : Int} (hop : o.op = .binOp .xor t x y t2) (hx : st.ev x = .lit (.int kk n)) (hy : st.ev y = .lit (.int kk m)) :
    ValOk X g st o (.lit (.int kk (kk.wrap (BitVec.ofInt kk.bits n ^^^ BitVec.ofInt kk.bits m).toNat))) := by
  intro hX a w β F hI
  refine ⟨.int kk (kk.wrap (BitVec.ofInt kk.bits n ^^^ BitVec.ofInt kk.bits m).toNat), fun w2 _ => ?_, .lit _ _⟩
  simp only [execOp, hop, ev_lit hI hx, ev_lit hI hy, eqGuard, binOp, Op.intBits]
  simp
end
end Go.Av
