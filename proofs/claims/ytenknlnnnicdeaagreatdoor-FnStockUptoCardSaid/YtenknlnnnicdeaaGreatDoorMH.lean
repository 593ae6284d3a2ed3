/- Parts of a proof, in one text: AvStr, AvBld, AvTxt, AvEq, AvSrt, AvIter, AvRange, AvRange2, AvRange3, AvMem, AvBit, AvNewB. -/
import Derived.Test.YtenknlnnnicdeaaGreatDoorMF
import Derived.Test.YtenknlnnnicdeaaGreatDoorMB
import Derived.Lib.Strings
import Derived.Sort.Grow
import Derived.Laws.BytesArg
import Derived.Lib.FrozenHead
import Derived.Lib.LaidTab
import Derived.Lib.Repeat
import Derived.Lib.ConvBytes
import Derived.Sort.Row
import Derived.Sort.EncStr
import Derived.Laws.RangeString
import Derived.RangeFuncIn
import Derived.RangeFuncRecord
set_option linter.unusedVariables false

/- Texts: sums, bytes, parts; contracts of the library's functions at plain values. -/
namespace Go.Av
open Go Go.RowKit

/-- A text, by its bytes. -/
def str (l : List UInt8) : AV := .lit (.string ⟨l.toArray⟩)

theorem ba_app (l m : List UInt8) : ((⟨l.toArray⟩ : ByteArray) ++ ⟨m.toArray⟩) = ⟨(l ++ m).toArray⟩ := by
  have : ((⟨l.toArray⟩ : ByteArray) ++ ⟨m.toArray⟩).data = (l ++ m).toArray := by
    rw [ByteArray.data_append]; simp
  exact congrArg ByteArray.mk this

section
variable {X : Fx} {g : Gx} {st st' : St} {a : Act} {w w' : World} {β β' : Env} {F : Key → List Nat} {L : Nat → Prop} {K : List Item} {k : List Item}
variable {ops : Array Oper} {i : Nat} {rest : List Nat} {o : Oper}

/-- The sum of two texts. -/
theorem ValOk.scat {t t2 : Nat} {x y : Operand} (l m : List UInt8) (hop : o.op = .binOp .add t x y t2) (hx : st.ev x = str l) (hy : st.ev y = str m)
    (hl : l.length + m.length ≤ 9223372036854775807) : ValOk X g st o (str (l ++ m)) := by
  intro hX a w β F hI
  refine ⟨.string ⟨(l ++ m).toArray⟩, fun w2 _ => ?_, .lit _ _⟩
  have hsz : ¬ (((⟨l.toArray⟩ : ByteArray).size + (⟨m.toArray⟩ : ByteArray).size : Nat) : Int) > IntKind.i64.max := by
    show ¬ ((l.toArray.size + m.toArray.size : Nat) : Int) > 9223372036854775807
    simp only [List.size_toArray]
    omega
  simp only [execOp, hop, ev_lit hI hx, ev_lit hI hy, eqGuard, binOp, Op.stringOp]
  simp only [if_neg hsz, ba_app]
  simp

/-- A byte of a text. -/
theorem ValOk.sidx {t : Nat} {ti : TI} {x j : Operand} {kk : IntKind} {m : Int} (l : List UInt8) (b : UInt8) (hop : o.op = .index t x j) (hT : X.T t = some ti) (hud : ti.ud = .string)
    (hx : st.ev x = str l) (hj : st.ev j = .lit (.int kk m)) (h0 : 0 ≤ m) (hb : l[m.toNat]? = some b) : ValOk X g st o (.lit (.int .u8 (b.toNat : Int))) := by
  intro hX a w β F hI
  refine ⟨.int .u8 (b.toNat : Int), fun w2 _ => ?_, .lit _ _⟩
  have h1 := un_run (ty_of hX hT) w2
  rw [hud] at h1
  have hg : (⟨l.toArray⟩ : ByteArray)[m.toNat]? = some b := by
    have hlt : m.toNat < l.length := (List.getElem?_eq_some_iff.1 hb).1
    have hlt2 : m.toNat < (⟨l.toArray⟩ : ByteArray).size := by show m.toNat < l.toArray.size; simpa using hlt
    rw [getElem?_pos (⟨l.toArray⟩ : ByteArray) m.toNat hlt2]
    have : l[m.toNat] = b := (List.getElem?_eq_some_iff.1 hb).2
    rw [← this]
    rfl
  simp only [execOp, hop, Instr.index, ev_lit hI hx, ev_lit hI hj, asIntOf, Sem.run_bind, Sem.run_pure, Result.andThen_ok, h1, if_pos h0, hg]

end

/-! ### Bytes and texts -/

/-- The bytes that numbers stand for. -/
def bys (ns : List Int) : List UInt8 := ns.map fun n => UInt8.ofNat n.toNat

theorem flatc_u8 (ns : List Int) : flatc (ns.map u8) = ns.map u8 := by
  unfold flatc
  induction ns with
  | nil => rfl
  | cons n ns ih => simp only [List.map_cons, List.flatMap_cons, ih]; rfl

theorem u8_rel {w : World} {L : Nat → Prop} {β : Env} {n : Int} {u : Value} {G : List Nat} (h : Rel w L β (u8 n) u G) : u = .int .u8 n := by
  unfold u8 at h
  cases h; rfl

/-- Where the bytes of a slice lie. -/
theorem Rel.bytes {w : World} {L : Nat → Prop} {β : Env} {ex : Bool} {ns : List Int} {x : AV} {u : Value} {G : List Nat} (hx : x = .own 1 ex (ns.map u8) ∨ x = .ro 1 ex (ns.map u8)) (h : Rel w L β x u G) :
    ∃ A c, u = .slice A ns.length c ∧ (ns ≠ [] → ∃ b o, A = some ⟨b, o, none⟩ ∧ ∀ i, i < ns.length → w.cell? ⟨b, o + i, none⟩ = some (.int .u8 (ns.getD i 0))) := by
  have cellAt : ∀ (vals : List Value) (Fs : Nat → List Nat) (β' : Env), (∀ (k : Nat) (x : AV) (u : Value), (flatc (ns.map u8))[k]? = some x → vals[k]? = some u → Rel w L β' x u (Fs k)) → ns.length ≤ vals.length →
      ∀ i, i < ns.length → vals[i]? = some (.int .u8 (ns.getD i 0)) := by
    intro vals Fs β' hr hl i hi
    have h1 : (flatc (ns.map u8))[i]? = some (u8 (ns.getD i 0)) := by
      rw [flatc_u8, List.getElem?_map, List.getElem?_eq_getElem hi]
      simp [List.getD_eq_getElem?_getD, List.getElem?_eq_getElem hi]
    have hv := List.getElem?_eq_getElem (show i < vals.length by omega)
    have := u8_rel (hr i _ _ h1 hv)
    rw [hv, this]
  rcases hx with rfl | rfl
  · generalize hy : ns.map u8 = ys at h
    cases h with
    | ownNil _ _ _ A =>
      have : ns = [] := by simpa using hy
      subst this
      exact ⟨A, 0, rfl, fun h => absurd rfl h⟩
    | own _ _ _ _ b c arr T lo hi Fs hb hfz hs hz hr hc hm he =>
      subst hy
      refine ⟨some ⟨b, 0, none⟩, c, by simp, fun _ => ⟨b, 0, rfl, fun i hi => ?_⟩⟩
      simp only [List.length_map] at hc
      have hl : ns.length ≤ arr.toList.length := by simp [hs]; omega
      have h1 := cellAt arr.toList Fs noEnv (fun k x u hx hu => (hr k x u hx (by simpa using hu))) hl i hi
      simp [World.cell?, hb]
      simpa using h1
  · generalize hy : ns.map u8 = ys at h
    cases h with
    | roNil _ _ _ A c hc he =>
      have : ns = [] := by simpa using hy
      subst this
      exact ⟨A, c, rfl, fun h => absurd rfl h⟩
    | ro _ _ _ _ b o c vals hL hz hl hrow hr hc hm he =>
      subst hy
      refine ⟨some ⟨b, o, none⟩, c, by simp, fun _ => ⟨b, o, rfl, fun i hi => ?_⟩⟩
      have hl' : ns.length ≤ vals.length := by rw [← hl, flatc_u8]; simp
      exact hrow i _ (cellAt vals (fun _ => []) noEnv (fun k x u hx hu => hr k x u hx hu) hl' i hi)

theorem strOfNums_eq (ns : List Int) : strOfNums ns = ⟨(bys ns).toArray⟩ := by
  unfold strOfNums bys
  rfl

theorem run_b2s {P : Program} {w : World} {s t e : TypeId} {A : Option Addr} {c : Nat} {ns : List Int} (hs : P.underlying s = some (.slice e)) (he : P.underlying e = some (.int .u8)) (ht : P.underlying t = some .string)
    (h : ns ≠ [] → ∃ b o, A = some ⟨b, o, none⟩ ∧ ∀ i, i < ns.length → w.cell? ⟨b, o + i, none⟩ = some (.int .u8 (ns.getD i 0))) :
    (convert s t (.slice A ns.length c)).run P w = .ok (.string ⟨(bys ns).toArray⟩) w := by
  by_cases h0 : ns = []
  · subst h0
    rw [run_convert_bytes_string w s t e A _ c hs he ht]
    cases A with
    | none => simp [Conv.bytesToString, bys]; rfl
    | some a =>
      have hl : (loadCells a 0).run P w = .ok (([] : List Int).map (Value.int .u8)).toArray w := by
        have := run_loadCells_list (P := P) w a [] (by simp)
        simpa using this
      exact run_bytesToString w a 0 c [] hl
  · obtain ⟨b, o, rfl, hc⟩ := h h0
    rw [← strOfNums_eq]
    exact run_convert_bytes_arg w s e hs he b o ns.length c ns rfl hc t ht

section
variable {X : Fx} {g : Gx} {st st' : St} {a : Act} {w w' : World} {β β' : Env} {F : Key → List Nat} {L : Nat → Prop} {K : List Item} {k : List Item}
variable {ops : Array Oper} {i : Nat} {rest : List Nat} {o : Oper}

/-- A text out of bytes. -/
theorem ValOk.b2s {s t e : Nat} {ti te : TI} {x : Operand} {ex : Bool} (ns : List Int) (hop : o.op = .convert s t x) (hS : sliceAt X.T s = some (e, te)) (hte : te.ud = .int .u8) (hT : X.T t = some ti) (hud : ti.ud = .string)
    (hx : st.ev x = .own 1 ex (ns.map u8) ∨ st.ev x = .ro 1 ex (ns.map u8)) : ValOk X g st o (str (bys ns)) := by
  intro hX a w β F hI
  obtain ⟨i', h1, h2, h3⟩ := sliceAt_ok hX hS
  obtain ⟨G, hR⟩ := ev_rel0 hI x (by rcases hx with h | h <;> rw [h] <;> simp)
  obtain ⟨A, c, hu, hc⟩ := hR.bytes hx
  refine ⟨.string ⟨(bys ns).toArray⟩, fun w2 hk => ?_, .lit _ _⟩
  have := run_b2s (P := X.P) (w := w2) (c := c) (ns := ns) (A := A) (by rw [h1.ud, h2]) (by rw [h3.ud, hte]) (by rw [(ty_of hX hT).ud, hud]) (fun hne => by
    obtain ⟨b, o', hA, hcc⟩ := hc hne
    refine ⟨b, o', hA, fun i hi => ?_⟩
    have h0 := hcc i hi
    rw [← h0]
    exact World.cell?_of_block (w := w) (a := ⟨b, o' + i, none⟩) (hk.block b (cell_lt h0) (by simp)))
  simp only [execOp, hop, hu, Sem.run_bind, this, Result.andThen_ok, Sem.run_pure]
end

/-! ### The library's functions, called with plain values -/

theorem Kp.drewN (F0 : List Nat) (w : World) (n : Nat) : Kp F0 w (w.drewN n) := ⟨rfl, rfl, rfl, Nat.le_refl _, fun _ _ _ => rfl⟩
theorem Kp.grow (F0 : List Nat) (w : World) (os : Array Obj) : Kp F0 w (Go.Sort.grow w os) :=
  ⟨rfl, rfl, rfl, by simp [Go.Sort.grow], fun b hb _ => by simp only [Go.Sort.grow]; rw [Array.getElem?_append_left hb]⟩

/-- A contract out of what is known of the calls with these very values; nothing of what was there is touched. -/
theorem Ct.ofCalls {P : Program} {f : FuncId} {fn : Func} {vs : List Value} {res : AV} (hf : P.funcs[f]? = some fn) (hb : fn.body.isSome = true) (hn : (fn.name == "runtime.NumGoroutine") = false)
    (h : ∀ w, Calls P f vs.toArray w fun e w' => ∃ v, e = .returned v ∧ Kp [] w w' ∧ ∀ L, Rel w' L noEnv res v []) : Ct P f (vs.map .lit) res [] := by
  refine ⟨by rw [hf]; simp [hb, hn], fun w L ws F hL hF hr => ?_⟩
  have hws : ws = vs.toArray ∧ F = [] := by
    generalize hx : AV.tup (vs.map .lit) = x at hr
    generalize hy : Value.tuple ws = y at hr
    cases hr with
    | tup _ cs vals Fs hl hr =>
      cases hx; cases hy
      have key : ∀ k (v u : Value), vs[k]? = some v → ws[k]? = some u → u = v ∧ Fs k = [] := by
        intro k v u hv hu
        have := hr k (.lit v) u (by simp [hv]) hu
        generalize hF : Fs k = G at this
        cases this
        exact ⟨rfl, rfl⟩
      have hlen : vs.length = ws.size := by simpa using hl
      constructor
      · apply Array.ext
        · simp [hlen]
        · intro k h1 h2
          have h3 : k < vs.length := by omega
          have := (key k vs[k] ws[k] (List.getElem?_eq_getElem h3) (Array.getElem?_eq_getElem h1)).1
          simpa using this
      · refine foots_nil fun k hk => ?_
        have h3 : k < vs.length := by simpa using hk
        have h4 : k < ws.size := by omega
        exact (key k vs[k] ws[k] (List.getElem?_eq_getElem h3) (Array.getElem?_eq_getElem h4)).2
    | _ => cases hx
  obtain ⟨rfl, rfl⟩ := hws
  refine (h w).mono ?_
  rintro e w' ⟨v, rfl, hk, hR⟩
  refine ⟨v, [], rfl, hk, by simp, by simp, ?_⟩
  have := Rel.tup (w := w') (L := fun b => L b ∨ b ∈ ([] : List Nat)) noEnv [res] #[v] (fun _ => []) (by simp) (by
    intro k x u hx hu
    cases k with
    | zero =>
      simp at hx hu
      subst hx; subst hu
      exact hR _
    | succ k => simp at hx)
  rw [foots_nil (fun _ _ => rfl)] at this
  simpa using this
end Go.Av

/- Memory that is known exactly: calls that are handed pointers into it; builders of texts. -/
namespace Go.Av
open Go Go.RowKit

def held (w : World) (ms : List (Nat × Obj)) : Prop := ∀ e ∈ ms, w.heap[e.1]? = some e.2

section
variable {X : Fx} {g : Gx} {st st' : St} {a : Act} {w w' : World} {β β' : Env} {F : Key → List Nat} {L : Nat → Prop} {K : List Item} {k : List Item}
variable {ops : Array Oper} {i : Nat} {rest : List Nat} {o : Oper}

/-- An operation that enters a function; how it ends is told by p. -/
theorem Run.opcE {π : Type} (C : π → Prop) (S : π → St) (ho : ops[i]? = some o) (hw : ∀ a w, SR X g st a w → Region.wanted o (yielded ops a.tmps) = true)
    (hs : X.Ok → ∀ a w, SR X g st a w → ∃ f args w', (execOp a.eval o).run X.P w = .ok (.enter f args) w' ∧
      Calls X.P f args w' fun e w'' => ∃ p u, C p ∧ e = .returned u ∧ SR X g (S p) (a.put o.dst u) w'')
    (h : ∀ p, C p → Run X g (.inRegion ops rest :: k) (S p)) : Run X g (.inRegion ops (i :: rest) :: k) st := by
  intro hX a w b cs hI hf hk
  obtain ⟨f, args, w1, hr, hc⟩ := hs hX a w hI
  obtain ⟨e, w2, fr2, ⟨p, u, hp', rfl, hI'⟩, hsteps, _, hleave⟩ := hc (b.atR a (.inRegion ops (i :: rest) :: k) :: cs)
  obtain ⟨v, w', fr, hp, hst⟩ := h p hp' hX (a.put o.dst u) w2 b cs hI' hf hk
  have hg := stepGR_op (P := X.P) (b := b) (k := k) (cs := cs) (w := w) (rest := rest) ho (hw a w hI)
  rw [Oper.semAt_eq _ _ _ (not_defer_of ⟨_, _, hr, by simp⟩)] at hg
  have henter : Go.step X.P (lone (b.atR a (.inRegion ops (i :: rest) :: k)) cs w) =
      .next (lone (Frame.enter X.P f args .normal) (b.atR a (.inRegion ops (i :: rest) :: k) :: cs) w1) :=
    step_lone_go (by rw [hg]; simp [stepG.apply, hr, Frame.atR])
  refine ⟨v, w', fr, hp, .head henter (Steps.trans hsteps (.head ?_ hst))⟩
  rw [← finish_op ho]
  exact step_leave_returned hleave

/-- What an object of exactly known memory becomes. -/
theorem Inv.setMem (hI : Inv X g st a w β F (Lv g F)) {id : Id} {ms ms' : List (Nat × Obj)} (hob : st.obj id = .mem ms) (hk : Kp (ms.map Prod.fst) w w') (hh : held w' ms') (hn : (ms'.map Prod.fst).Nodup)
    (hr : ∀ x ∈ ms'.map Prod.fst, x ∈ ms.map Prod.fst ∨ w.heap.size ≤ x) :
    Inv X g (st.setObj id (.mem ms')) a w' β (updF F (.o id) (ms'.map Prod.fst)) (Lv g (updF F (.o id) (ms'.map Prod.fst))) := by
  have hobj := hI.obj id
  rw [hob] at hobj
  obtain ⟨hF, hms⟩ := hobj
  have h1 : Inv X g (st.setObj id .gone) a w β (updF F (.o id) []) (Lv g F) := hI.setOb id .gone rfl (by simp) (by simp) (by simp)
  have h2 : Inv X g (st.setObj id .gone) a w' β (updF F (.o id) []) (Lv g (updF F (.o id) (ms'.map Prod.fst))) := by
    refine h1.world (M := fun b => b ∈ F (.o id)) (hI.kp.trans hk (fun b hb => hI.range _ b (by rw [hF]; exact hb))) (fun b hb hM => hk.block b hb (by rw [← hF]; exact hM)) (fun b hb => .inr ⟨_, hb⟩) ?_ ?_
    · intro b hb h
      rcases h with h | ⟨kk, h⟩
      · exact .inl h
      · by_cases e : kk = .o id
        · subst e
          rw [updF_same] at h
          rcases hr b h with h | h
          · exact .inr ⟨_, by rw [hF]; exact h⟩
          · omega
        · rw [updF_ne _ e] at h
          exact .inr ⟨_, h⟩
    · rintro kk b hb hM
      by_cases e : kk = .o id
      · subst e; rw [updF_same] at hb; simp at hb
      · rw [updF_ne _ e] at hb; exact hI.sep.apart _ _ b e hb hM
  have h3 := h2.setOb id (.mem ms') (G := ms'.map Prod.fst) ⟨rfl, hh⟩ hn (by
    intro kk e b hb hb'
    rw [updF_ne _ e] at hb'
    rcases hr b hb with h | h
    · exact hI.sep.apart _ _ b e hb' (by rw [hF]; exact h)
    · have := hI.lt kk b hb'; omega) (by
    intro b hb
    rcases hr b hb with h | h
    · exact hI.range _ b (by rw [hF]; exact h)
    · exact .inr (Nat.le_trans hI.kp.size h))
  have e1 : updF (updF F (.o id) []) (.o id) (ms'.map Prod.fst) = updF F (.o id) (ms'.map Prod.fst) := by
    funext kk
    by_cases e : kk = .o id
    · subst e; rw [updF_same, updF_same]
    · rw [updF_ne _ e, updF_ne _ e, updF_ne _ e]
  rw [e1] at h3
  refine ⟨h3.defers, h3.size, h3.kp, h3.sep, h3.range, h3.slot, fun id' => ?_, h3.pin⟩
  have := h3.obj id'
  rw [St.obj_setObj] at this ⊢
  by_cases e : id = id'
  · rw [if_pos e] at this ⊢; exact this
  · rw [if_neg e] at this ⊢
    rw [St.obj_setObj, if_neg e] at this
    exact this

theorem lits_eval (hI : Inv X g st a w β F L) {xs : Array Operand} {vs : List Value} (h : xs.toList.map st.ev = vs.map .lit) : xs.map a.eval = vs.toArray := by
  have hl : xs.size = vs.length := by have := congrArg List.length h; simpa using this
  apply Array.ext
  · simp [hl]
  · intro j h1 h2
    have hj : j < xs.size := by simpa using h1
    have h3 : (xs.toList.map st.ev)[j]? = some (.lit vs[j]) := by rw [h, List.getElem?_map, List.getElem?_eq_getElem (by omega)]; rfl
    rw [List.getElem?_map, List.getElem?_eq_getElem (by simpa using hj)] at h3
    have h4 : st.ev xs[j] = .lit vs[j] := by simpa using h3
    have := ev_lit hI h4
    simpa using this

/-- A call with plain values, pointers into exactly known memory among them. -/
theorem Run.callM {d : Nat} {fo : Operand} {xs : Array Operand} {ts : Array TypeId} {f : FuncId} (id : Id) {ms : List (Nat × Obj)} {vs : List Value} {π : Type} (C : π → Prop) (V : π → Value) (M : π → List (Nat × Obj))
    (ho : ops[i]? = some o) (hg : guardOf ops st o = some true) (hd : o.dst = some d) (hop : o.op = .call ⟨.value fo, xs, ts⟩) (hf : st.ev fo = .fn f []) (hargs : xs.toList.map st.ev = vs.map .lit)
    (hob : st.obj id = .mem ms) (hen : (X.P.funcs[f]?).map (fun fn => (fn.body.isSome, fn.name == "runtime.NumGoroutine")) = some (true, false))
    (hcall : ∀ w, held w ms → Calls X.P f vs.toArray w fun e w' => ∃ p, C p ∧ e = .returned (V p) ∧ held w' (M p) ∧ Kp (ms.map Prod.fst) w w' ∧ ((M p).map Prod.fst).Nodup ∧ ∀ x ∈ (M p).map Prod.fst, x ∈ ms.map Prod.fst ∨ w.heap.size ≤ x)
    (hdn : (Nat.blt d X.fn.ntmps && !(X.pins.contains d)) = true) (h : ∀ p, C p → Run X g (.inRegion ops rest :: k) ((st.setObj id (.mem (M p))).put d (.lit (V p)))) : Run X g (.inRegion ops (i :: rest) :: k) st := by
  simp only [Bool.and_eq_true, Bool.not_eq_true'] at hdn
  refine Run.opcE C (fun p => (st.setObj id (.mem (M p))).put d (.lit (V p))) ho (fun a w hI => guardOf_ok hg a w hI) ?_ h
  rintro hX a w ⟨β, F, hI⟩
  have hfr := ev_rel hI fo (by rw [hf]; rfl)
  rw [hf] at hfr
  generalize hfv : a.eval fo = fv at hfr
  cases hfr with
  | fn _ _ _ vals hlv hr =>
  obtain rfl : vals = #[] := by
    have : vals.size = 0 := by simpa using hlv.symm
    exact Array.eq_empty_of_size_eq_zero this
  refine ⟨f, xs.map a.eval ++ #[], w, run_call hop hfv hen, ?_⟩
  rw [lits_eval hI hargs, Array.append_empty]
  have hobj := hI.obj id
  rw [hob] at hobj
  refine (hcall w hobj.2).mono ?_
  rintro e w' ⟨p, hp, rfl, hh, hk, hn, hr⟩
  refine ⟨p, V p, hp, rfl, ?_⟩
  rw [hd]
  exact (hI.setMem hob hk hh hn hr).putv (blt_lt hdn.1) (contains_iff hdn.2) (.lit _ _)

/-- A call behind which nothing is known but plain values: what lay there when the running call began is untouched. -/
theorem Run.callL {d : Nat} {fo : Operand} {xs : Array Operand} {ts : Array TypeId} {f : FuncId} (id : Id) {ms : List (Nat × Obj)} {vs : List Value} {v : Value}
    (hF0 : g.F0 = []) (ho : ops[i]? = some o) (hg : guardOf ops st o = some true) (hd : o.dst = some d) (hop : o.op = .call ⟨.value fo, xs, ts⟩) (hf : st.ev fo = .fn f []) (hargs : xs.toList.map st.ev = vs.map .lit)
    (hob : st.obj id = .mem ms) (hen : (X.P.funcs[f]?).map (fun fn => (fn.body.isSome, fn.name == "runtime.NumGoroutine")) = some (true, false))
    (hcall : ∀ w B, B ≤ w.heap.size → (∀ x ∈ ms.map Prod.fst, B ≤ x) → held w ms → Calls X.P f vs.toArray w fun e w' => e = .returned v ∧ Below B w w')
    (hdn : (Nat.blt d X.fn.ntmps && !(X.pins.contains d)) = true) (h : Run X g (.inRegion ops rest :: k) ⟨[(d, .lit v)], []⟩) : Run X g (.inRegion ops (i :: rest) :: k) st := by
  simp only [Bool.and_eq_true, Bool.not_eq_true'] at hdn
  refine Run.opc ho (fun a w hI => guardOf_ok hg a w hI) ?_ h
  rintro hX a w ⟨β, F, hI⟩
  have hfr := ev_rel hI fo (by rw [hf]; rfl)
  rw [hf] at hfr
  generalize hfv : a.eval fo = fv at hfr
  cases hfr with
  | fn _ _ _ vals hlv hr =>
  obtain rfl : vals = #[] := by
    have : vals.size = 0 := by simpa using hlv.symm
    exact Array.eq_empty_of_size_eq_zero this
  refine ⟨f, xs.map a.eval ++ #[], w, run_call hop hfv hen, ?_⟩
  rw [lits_eval hI hargs, Array.append_empty]
  have hobj := hI.obj id
  rw [hob] at hobj
  refine (hcall w g.w0.heap.size hI.kp.size (fun x hx => ?_) hobj.2).mono ?_
  · rcases hI.range (.o id) x (by rw [hobj.1]; exact hx) with h | h
    · rw [hF0] at h; cases h
    · exact h
  rintro e w' ⟨rfl, hb⟩
  refine ⟨v, rfl, ?_⟩
  rw [hd]
  have hkp : Kp g.F0 g.w0 w' := by
    refine ⟨hb.os.trans hI.kp.os, hb.tape.trans hI.kp.tape, hb.output.trans hI.kp.output, Nat.le_trans hI.kp.size hb.size, fun x hx hn => ?_⟩
    rw [hb.block x hx]
    exact hI.kp.block x hx hn
  have h0 : Inv X g ⟨[], []⟩ a w' β (fun _ => []) (Lv g fun _ => []) :=
    ⟨hI.defers, hI.size, hkp, ⟨fun _ => List.nodup_nil, fun _ _ _ _ hb => by cases hb⟩, fun _ _ hb => (by cases hb), fun d => ⟨undef, .inr rfl, .top _ _⟩, fun _ => rfl, hI.pin⟩
  exact h0.putv (blt_lt hdn.1) (contains_iff hdn.2) (.lit _ _)

/-- A new variable, its cells known exactly. -/
theorem Run.allocM {d t : Nat} {ti : TI} (ho : ops[i]? = some o) (hg : guardOf ops st o = some true) (hd : o.dst = some d) (hop : o.op = .alloc t) (hT : X.T t = some ti) (hgone : st.obj (d, 0) = .gone)
    (hdn : (Nat.blt d X.fn.ntmps && !(X.pins.contains d)) = true) (h : ∀ b, Run X g (.inRegion ops rest :: k) ((st.setObj (d, 0) (.mem [(b, .cells ti.zero.toArray t (0, 0))])).put d (.lit (.pointer (some ⟨b, 0, none⟩))))) : Run X g (.inRegion ops (i :: rest) :: k) st := by
  simp only [Bool.and_eq_true, Bool.not_eq_true'] at hdn
  refine Run.opE (fun b => (st.setObj (d, 0) (.mem [(b, .cells ti.zero.toArray t (0, 0))])).put d (.lit (.pointer (some ⟨b, 0, none⟩)))) ho (fun a w hI => guardOf_ok hg a w hI) ?_ h
  rintro hX a w ⟨β, F, hI⟩
  obtain ⟨z, hz, hzc⟩ := zero_run (ty_of hX hT) w
  have hzc' : z.cells = ti.zero.toArray := by rw [← hzc]
  refine ⟨w.heap.size, .pointer (some ⟨w.heap.size, 0, none⟩), w.alloc (.cells ti.zero.toArray t (0, 0)), .inl ?_, ?_⟩
  · simp [execOp, hop, Instr.alloc, newVar, newRow, hz, hzc']
  · rw [hd]
    have hk : Kp [] w (w.alloc (.cells ti.zero.toArray t (0, 0))) := Kp.alloc _ _ _
    have h1 : Inv X g (st.setObj (d, 0) (.mem [])) a w β (updF F (.o (d, 0)) []) (Lv g F) := hI.setOb (d, 0) (.mem []) (G := []) ⟨rfl, by simp⟩ (by simp) (by simp) (by simp)
    have h1' : Inv X g (st.setObj (d, 0) (.mem [])) a w β (updF F (.o (d, 0)) []) (Lv g (updF F (.o (d, 0)) [])) := h1.setL fun _ _ hb => Lv_updF_nil hb
    have h2 := h1'.setMem (id := (d, 0)) (ms := []) (ms' := [(w.heap.size, .cells ti.zero.toArray t (0, 0))]) (by rw [St.obj_setObj, if_pos rfl]) (by simpa using hk)
      (by intro e he; rw [List.mem_singleton.1 he]; exact heap_alloc_new w _) (by simp) (by simp)
    have hle : St.Le (st.setObj (d, 0) (.mem [(w.heap.size, .cells ti.zero.toArray t (0, 0))])) ((st.setObj (d, 0) (.mem [])).setObj (d, 0) (.mem [(w.heap.size, .cells ti.zero.toArray t (0, 0))])) :=
      ⟨fun d => .inr rfl, fun id' => .inr (by rw [St.obj_setObj, St.obj_setObj, St.obj_setObj]; split <;> rfl)⟩
    obtain ⟨β3, F3, h3⟩ := SR.le hle ⟨_, _, h2⟩
    exact h3.putv (blt_lt hdn.1) (contains_iff hdn.2) (.lit _ _)
end

/-! ### Builders -/

def IsRow (e : Nat) (l : List UInt8) (v : Value) (rs : List (Nat × Obj)) : Prop :=
  (v = .slice none 0 0 ∧ l = [] ∧ rs = []) ∨ ∃ g cap cur fz, v = .slice (some ⟨g, 0, none⟩) l.length cap ∧ fz.2 ≤ l.length ∧ l.length ≤ cap ∧ cap ≤ maxLen ∧ cur.size = cap ∧ cur.toList.take l.length = Lib.byteCells l ∧ rs = [(g, .cells cur e fz)]

/-- A builder at block b that holds the bytes l. -/
def IsB (T e : Nat) (b : Nat) (l : List UInt8) (ms : List (Nat × Obj)) : Prop :=
  ∃ p v rs, (p = .pointer none ∨ p = .pointer (some ⟨b, 0, none⟩)) ∧ IsRow e l v rs ∧ b ∉ rs.map Prod.fst ∧ ms = (b, .cells #[p, v] T (0, 0)) :: rs

theorem IsRow.owns {e : Nat} {l : List UInt8} {v : Value} {rs : List (Nat × Obj)} {w : World} (h : IsRow e l v rs) (hh : held w rs) (B : Nat) (hB : ∀ x ∈ rs.map Prod.fst, B ≤ x) : w.ownsRowF B e 1 v l.length (Lib.byteCells l) := by
  rcases h with ⟨rfl, rfl, rfl⟩ | ⟨g, cap, cur, fz, rfl, h1, h2, h3, h4, h5, rfl⟩
  · exact ⟨by simp [Lib.byteCells], .inl ⟨rfl, rfl⟩⟩
  · exact ⟨by simp [Lib.byteCells], .inr ⟨g, cap, cur, fz, rfl, hB g (by simp), hh (g, _) (by simp), by omega, h2, h3, by omega, by simpa using h5⟩⟩

theorem strC_eq (s : List UInt8) : Lib.strCells ⟨s.toArray⟩ = Lib.byteCells s := rfl

theorem app_str {P : Program} {w : World} {t u ty e : TypeId} {i : TypeInfo} (ht : P.underlying t = some (.slice e)) (hu : P.underlying u = some .string) (hi : P.info? e = some i) (hz : i.zero = some (.int .u8 0))
    (hsize : i.size = 1) (hby : i.bytes = 1) {l s : List UInt8} {v : Value} {rs : List (Nat × Obj)} (hr : IsRow e l v rs) (hh : held w rs) (hlen : l.length + s.length ≤ 140737488355328) :
    ∃ v' w' rs', (Builtin.append_ #[t, u] ty #[v, .string ⟨s.toArray⟩]).run P w = .ok v' w' ∧ IsRow e (l ++ s) v' rs' ∧ held w' rs' ∧ Kp (rs.map Prod.fst) w w' ∧ ∀ x ∈ rs'.map Prod.fst, x ∈ rs.map Prod.fst ∨ w.heap.size ≤ x := by
  have hss : (⟨s.toArray⟩ : ByteArray).size = s.length := by show s.toArray.size = _; simp
  rcases hr with ⟨rfl, rfl, rfl⟩ | ⟨g, cap, cur, fz, rfl, h1, h2, h3, h4, h5, rfl⟩
  · obtain ⟨v', w', e1, e2, e3, e4⟩ := Lib.run_append_own_stringF (P := P) w w.heap.size t u ty e i ht hu hi hz hsize hby (.slice none 0 0) 0 [] ⟨by simp, .inl ⟨rfl, rfl⟩⟩ ⟨s.toArray⟩ (by rw [hss]; unfold maxLen; simp at hlen; omega) (by rw [hss]; simp at hlen; omega) (Nat.le_refl _)
    rw [hss] at e2 e4
    refine ⟨v', w', ?_⟩
    rcases e2.2 with ⟨hv, h0⟩ | ⟨g, cap, cur, fz, hv, hg, hgh, hf, hnc, hcm, hcs, htk⟩
    · have : s = [] := by cases s; rfl; simp at h0
      subst this
      exact ⟨[], e1, .inl ⟨hv, rfl, rfl⟩, (by intro e he; cases he), ⟨e3.os, e3.tape, e3.output, e3.size, fun b hb _ => e3.block b hb (by simp [Value.ownBlock])⟩, by simp⟩
    · refine ⟨[(g, .cells cur e fz)], e1, .inr ⟨g, cap, cur, fz, by rw [hv]; simp, by simpa using hf, by simpa using hnc, hcm, by simpa using hcs, ?_, rfl⟩, by intro x hx; rw [List.mem_singleton.1 hx]; exact hgh,
        ⟨e3.os, e3.tape, e3.output, e3.size, fun b hb _ => e3.block b hb (by simp [Value.ownBlock])⟩, by intro x hx; simp at hx; subst hx; exact .inr hg⟩
      rw [strC_eq] at htk
      simpa using htk
  · have hg := hh (g, _) (List.mem_singleton.2 rfl)
    simp only at hg
    have hxl : (Lib.byteCells l).length = l.length := Lib.byteCells_length l
    by_cases hroom : l.length + s.length ≤ cap
    · have hr := Lib.run_append_room_stringF (P := P) w t u ty e i ht hu hi hsize g l.length cap cur fz hg h1 ⟨s.toArray⟩ (by rw [hss]; exact hroom) (by rw [hss]; omega)
      rw [hss] at hr
      refine ⟨_, _, [(g, .cells (cur.toList.take l.length ++ Lib.strCells ⟨s.toArray⟩ ++ cur.toList.drop (l.length + s.length)).toArray e fz)], hr, .inr ⟨g, cap, _, fz, by rw [List.length_append], by simp; omega, by simp; omega, h3, ?_, ?_, rfl⟩, ?_, ⟨rfl, rfl, rfl, by simp, fun b hb hn => ?_⟩, by simp⟩
      · simp only [List.size_toArray, List.length_append, List.length_take, List.length_drop, Array.length_toList, strC_eq, Lib.byteCells_length]
        omega
      · rw [h5, strC_eq, ← Lib.byteCells_append]
        have : (l ++ s).length = (Lib.byteCells (l ++ s)).length := by rw [Lib.byteCells_length]
        rw [this]
        exact List.take_left
      · intro x hx
        rw [List.mem_singleton.1 hx]
        exact setRow_heap w g cur _ e _ hg
      · exact setRow_other w g b _ (fun e => hn (by simp [e]))
    · have holds : ∀ j u, (Lib.byteCells l)[j]? = some u → w.cell? ((⟨g, 0, none⟩ : Addr).add j) = some u := by
        intro j u hj
        rw [addr_add]
        have hjl : j < l.length := by rw [← hxl]; exact (List.getElem?_eq_some_iff.1 hj).1
        rw [← h5, List.getElem?_take, if_pos hjl] at hj
        simp only [World.cell?, hg, Nat.zero_add]
        simpa using hj
      have hr := Lib.run_append_grow_string (P := P) w t u ty e i (.int .u8 0) ht hu hi hz ⟨g, 0, none⟩ l.length cap (Lib.byteCells l) (by rw [hsize]; simpa using hxl) holds ⟨s.toArray⟩ (by rw [hss]; omega) (by rw [hss]; omega) (by rw [hby, hss]; exact growslice_fits (by omega) (by omega))
      rw [hss] at hr
      have hge := grownCap_ge w (l.length + s.length) cap e
      have hcm2 : grownCap w (l.length + s.length) cap e ≤ maxLen := grownCap_le_maxLen w (l.length + s.length) cap e (by unfold maxLen; omega)
      refine ⟨_, _, [(w.heap.size, .cells ((Lib.byteCells l).toArray ++ (Lib.strCells ⟨s.toArray⟩).toArray ++ Builtin.zeroCells (Value.int .u8 0).cells (grownCap w (l.length + s.length) cap e - (l.length + s.length))) e)], hr, .inr ⟨w.heap.size, _, _, (0, 0), by rw [List.length_append], Nat.zero_le _, by rw [List.length_append]; exact hge, hcm2, ?_, ?_, rfl⟩, ?_, ⟨rfl, rfl, rfl, by simp, fun b hb _ => heap_alloc_old w.drew _ hb⟩, by simp⟩
      · have hz1 : (Value.int IntKind.u8 0).cells.size = 1 := rfl
        simp only [Array.size_append, List.size_toArray, size_zeroCells, hz1, hxl, strC_eq, Lib.byteCells_length]
        omega
      · simp only [Array.toList_append, List.append_assoc]
        rw [strC_eq, ← List.append_assoc, ← Lib.byteCells_append]
        have : (l ++ s).length = (Lib.byteCells (l ++ s)).length := by rw [Lib.byteCells_length]
        rw [this]
        exact List.take_left
      · intro x hx
        rw [List.mem_singleton.1 hx]
        exact heap_alloc_new w.drew _

/-- Which blocks rows may lie in. -/
def RsIn (n : Nat) (rs rs' : List (Nat × Obj)) : Prop := ∀ x ∈ rs'.map Prod.fst, x ∈ rs.map Prod.fst ∨ n ≤ x

/-- The operation 'append' of a text to a row, for a walk. -/
theorem wpList_app {P : Program} {w : World} {ops : Array Oper} {rest : List Oper} {o : Oper} {a : Act} {Q : Exit → Act → World → Prop} (hgd : o.guard = none) (sl x : Operand) (t u : TypeId)
    (ho : o.op = .call { callee := .builtin .append, args := #[sl, x], argTypes := #[t, u] }) (e : TypeId) (i : TypeInfo) (ht : P.underlying t = some (.slice e)) (hu : P.underlying u = some .string) (hi : P.info? e = some i)
    (hz : i.zero = some (.int .u8 0)) (hsize : i.size = 1) (hby : i.bytes = 1) (l s : List UInt8) (v : Value) (rs : List (Nat × Obj)) (hs : a.eval sl = v) (hr : IsRow e l v rs) (hh : held w rs) (hx : a.eval x = .string ⟨s.toArray⟩)
    (hlen : l.length + s.length ≤ 140737488355328)
    (h : ∀ v' w' rs', IsRow e (l ++ s) v' rs' → held w' rs' → Kp (rs.map Prod.fst) w w' → RsIn w.heap.size rs rs' → wpList P ops Q rest (a.put o.dst v') w') : wpList P ops Q (o :: rest) a w := by
  refine wpList_plain hgd fun K hK => ?_
  obtain ⟨v', w', rs', hrun, h2, h3, h4, h5⟩ := app_str (P := P) (w := w) (ty := o.type) ht hu hi hz hsize hby hr hh hlen
  unfold Oper.wp execOp
  simp only [ho, resolve, invoke, builtin, Sem.run_bind, Sem.run_pure, Result.andThen_ok, List.map_toArray, List.map_cons, List.map_nil, hs, hx, hrun]
  exact hK _ _ (h v' w' rs' h2 h3 h4 h5)

theorem IsB.builder {T e b : Nat} {l : List UInt8} {ms : List (Nat × Obj)} {w : World} (h : IsB T e b l ms) (hh : held w ms) (B : Nat) (hB : ∀ x ∈ ms.map Prod.fst, B ≤ x) : Lib.IsBuilderF T e B b (Lib.byteCells l) w := by
  obtain ⟨p, v, rs, hp, hr, hnb, rfl⟩ := h
  have hbk : w.heap[b]? = some (.cells #[p, v] T (0, 0)) := hh (b, _) (by simp)
  have hown := hr.owns (w := w) (fun e he => hh e (by simp [he])) B (fun x hx => hB x (by simp only [List.map_cons, List.mem_cons]; exact .inr hx))
  have hne : v.ownBlock ≠ some b := by
    rcases hr with ⟨rfl, rfl, rfl⟩ | ⟨g, cap, cur, fz, rfl, h1, h2, h3, h4, h5, rfl⟩
    · simp [Value.ownBlock]
    · simp only [List.map_cons, List.map_nil, List.mem_singleton] at hnb
      simp only [Value.ownBlock, ne_eq, Option.some.injEq]
      exact fun e => hnb e.symm
  have hat : Lib.BuilderAtF T e B b p (Lib.byteCells l) w := ⟨hB b (by simp), v, hbk, by rw [Lib.byteCells_length]; exact hown, hne⟩
  rcases hp with rfl | rfl
  · exact .inl hat
  · exact .inr hat

theorem tup_pl {w : World} {L : Nat → Prop} {β : Env} {xs : List AV} {v : Value} {F : List Nat} (h : Rel w L β (.tup xs) v F) (hp : AV.plL xs = true) : F = [] := by
  cases h with
  | tup _ cs vals Fs hl hr =>
    refine foots_nil fun k hk => ?_
    exact (hr k _ _ (List.getElem?_eq_getElem hk) (Array.getElem?_eq_getElem (hl ▸ hk))).pl_nil (AV.plL_get hp k _ (List.getElem?_eq_getElem hk))

/-- As Ct.intro, where the arguments own nothing. -/
theorem Ct.intro0 (X : Fx) (hX : X.Ok) {c : Code} (hb : X.fn.body = some c) (hn : (X.fn.name == "runtime.NumGoroutine") = false) {args : List AV} {res : AV} {outs : List AV}
    (hargs' : Nat.ble args.length X.fn.ntmps = true) (hpins' : (X.pins.all fun j => Nat.blt j args.length) = true) (hpl : AV.plL args = true)
    (h : ∀ g : Gx, g.F0 = [] → g.Post = PostOf g res outs → Run X g [.code c] ⟨initS args 0, []⟩) : Ct X.P X.f args res outs :=
  ⟨by rw [hX.func]; simp [hb, hn], fun w L vs F hL hF hr => body_calls (fun _ F => F = []) X hX hb hn hargs' hpins' h w L vs F (tup_pl hr hpl) hL hF hr⟩
theorem CtA.intro0 (A : Amb) (X : Fx) (hX : X.Ok) {c : Code} (hb : X.fn.body = some c) (hn : (X.fn.name == "runtime.NumGoroutine") = false) {args : List AV} {res : AV} {outs : List AV}
    (hargs' : Nat.ble args.length X.fn.ntmps = true) (hpins' : (X.pins.all fun j => Nat.blt j args.length) = true) (hpl : AV.plL args = true)
    (h : ∀ g : Gx, g.F0 = [] → A.on g.w0 g.F0 → g.Post = PostOf g res outs → Run X g [.code c] ⟨initS args 0, []⟩) : CtA A X.P X.f args res outs :=
  ⟨by rw [hX.func]; simp [hb, hn], fun w L vs F hA hL hF hr => body_calls (fun w F => F = [] ∧ A.on w F) X hX hb hn hargs' hpins' (fun g hq => h g hq.1 hq.2) w L vs F ⟨tup_pl hr hpl, hA⟩ hL hF hr⟩
end Go.Av

/- Texts: places in arrays told by numbers; contracts where package-level variables hold what they should. -/
namespace Go.Av
open Go Go.RowKit

section
variable {X : Fx} {g : Gx} {st st' : St} {a : Act} {w w' : World} {β β' : Env} {F : Key → List Nat} {L : Nat → Prop} {K : List Item} {k : List Item}
variable {ops : Array Oper} {i : Nat} {rest : List Nat} {o : Oper}

/-- The place of an element of an array in a box. -/
theorem ValOk.idxArr {t n : Nat} {x j : Operand} {kk : IntKind} {m : Int} {ti : TI} {id : Id} {q : Nat} (hop : o.op = .indexAddr t x j) (hA : arrayAt X.T t = some (n, ti)) (hj : st.ev j = .lit (.int kk m))
    (h0 : 0 ≤ m) (h1 : m < n) (hx : st.ev x = .bp id q) : ValOk X g st o (.bp id (q + m.toNat * ti.sz)) :=
  ValOk.of_aop (by rw [hop]; simp [aop, hA, hj, hx, h0, h1, shiftp])

/-- What lies in a box. -/
theorem ValOk.loadb {t : Nat} {x : Operand} {ti : TI} {id : Id} {q : Nat} {cs : List AV} (y : AV) (hop : o.op = .load t x) (hT : X.T t = some ti) (hx : st.ev x = .bp id q) (hob : st.obj id = .box cs) (hag : isAggD ti.ud = false)
    (hy : cs[q]? = some y) (hp : plain y = some y) : ValOk X g st o y :=
  ValOk.of_aop (by rw [hop]; simp [aop, hT, hx, hob, rdc, hag, hy, hp])
end

section
variable {X : Fx} {g : Gx} {st st' : St} {a : Act} {w w' : World} {β β' : Env} {F : Key → List Nat} {L : Nat → Prop} {K : List Item} {k : List Item}
variable {ops : Array Oper} {i : Nat} {rest : List Nat} {o : Oper}

end

theorem bsz (l : List UInt8) : (⟨l.toArray⟩ : ByteArray).size = l.length := by show l.toArray.size = _; simp

/-- A package-level variable holds such cells. -/
def Amb.var (P : Program) (name : String) (g : Nat) (C : Array Value → Prop) : Amb where
  n := g + 1
  holds w := P.globalNamed name = some g ∧ ∃ cs, w.var? P name = some cs ∧ C cs
  stable := by
    rintro w w' h ⟨hg, cs, hv, hC⟩
    refine ⟨hg, cs, ?_, hC⟩
    rw [← hv]
    simp only [World.var?, hg, Option.bind_some, h g (Nat.lt_succ_self g)]

def Amb.and (A B : Amb) : Amb where
  n := max A.n B.n
  holds w := A.holds w ∧ B.holds w
  stable := fun w w' h ⟨h1, h2⟩ => ⟨A.stable w w' (fun b hb => h b (by omega)) h1, B.stable w w' (fun b hb => h b (by omega)) h2⟩

theorem Amb.var_on {P : Program} {name : String} {g : Nat} {C : Array Value → Prop} {w : World} {cs : Array Value} (hg : P.globalNamed name = some g) (hv : w.var? P name = some cs) (hC : C cs) : (Amb.var P name g C).on w [] := by
  refine ⟨⟨hg, cs, hv, hC⟩, ?_, by simp⟩
  show g + 1 ≤ _
  simp only [World.var?, hg, Option.bind_some] at hv
  split at hv
  · rename_i h
    exact (Array.getElem?_eq_some_iff.1 h).1
  · cases hv

theorem CtA.sub {A B : Amb} {P : Program} {f : FuncId} {args : List AV} {res : AV} {outs : List AV} (h : CtA A P f args res outs) (hAB : ∀ w F, B.on w F → A.on w F) : CtA B P f args res outs :=
  ⟨h.enters, fun w L vs F hB hL hF hr => h.calls w L vs F (hAB w F hB) hL hF hr⟩

/-- A contract out of what is known of the calls with these very values; nothing of what was there is touched. -/
theorem CtA.ofCalls (A : Amb) {P : Program} {f : FuncId} {fn : Func} {vs : List Value} {res : AV} (hf : P.funcs[f]? = some fn) (hb : fn.body.isSome = true) (hn : (fn.name == "runtime.NumGoroutine") = false)
    (h : ∀ w, A.on w [] → Calls P f vs.toArray w fun e w' => ∃ v, e = .returned v ∧ Kp [] w w' ∧ ∀ L, Rel w' L noEnv res v []) : CtA A P f (vs.map .lit) res [] := by
  refine ⟨by rw [hf]; simp [hb, hn], fun w L ws F hA hL hF hr => ?_⟩
  have hws : ws = vs.toArray ∧ F = [] := by
    refine ⟨?_, tup_pl hr ?_⟩
    · generalize hx : AV.tup (vs.map .lit) = x at hr
      generalize hy : Value.tuple ws = y at hr
      cases hr with
      | tup _ cs vals Fs hl hr =>
        cases hx; cases hy
        have hlen : vs.length = ws.size := by simpa using hl
        apply Array.ext
        · simp [hlen]
        · intro k h1 h2
          have h3 : k < vs.length := by omega
          have := hr k (.lit vs[k]) ws[k] (by simp [h3]) (Array.getElem?_eq_getElem h1)
          generalize hG : Fs k = G at this
          generalize hv : ws[k] = u at this
          cases this
          simp [← hv]
      | _ => cases hx
    · clear hr h
      induction vs with
      | nil => rfl
      | cons v vs ih => simp only [List.map_cons, AV.plL, AV.pl, Bool.true_and]; exact ih
  obtain ⟨rfl, rfl⟩ := hws
  refine (h w hA).mono ?_
  rintro e w' ⟨v, rfl, hk, hR⟩
  refine ⟨v, [], rfl, hk, by simp, by simp, ?_⟩
  have := Rel.tup (w := w') (L := fun b => L b ∨ b ∈ ([] : List Nat)) noEnv [res] #[v] (fun _ => []) (by simp) (by
    intro k x u hx hu
    cases k with
    | zero =>
      simp at hx hu
      subst hx; subst hu
      exact hR _
    | succ k => simp at hx)
  rw [foots_nil (fun _ _ => rfl)] at this
  simpa using this

theorem Below.kp {w w' : World} (h : Below w.heap.size w w') : Kp [] w w' := Kp.of_below h
end Go.Av

/- A part of a proof in the texts 'av': contracts of the program's functions. -/
namespace Go.Av
open Go

/-! Calls whose result is known up to a fact; errors against nil. -/

section
variable {X : Fx} {g : Gx} {st st' : St} {a : Act} {w w' : World} {β β' : Env} {F : Key → List Nat} {L : Nat → Prop} {K : List Item} {k : List Item}
variable {ops : Array Oper} {i : Nat} {rest : List Nat} {o : Oper}

end

end Go.Av

/- A part of a proof in the texts 'av': contracts of the program's functions. -/
namespace Go.Av
open Go Go.Proofs

/-! Rows of texts that a library function turns. -/

section
variable {X : Fx} {g : Gx} {st st' : St} {a : Act} {w w' : World} {β β' : Env} {F : Key → List Nat} {L : Nat → Prop} {K : List Item} {k : List Item}
variable {ops : Array Oper} {i : Nat} {rest : List Nat} {o : Oper}
end

theorem heap_putRow {w : World} {b n : Nat} {os : Array Obj} {d : Array (List UInt8)} {arr : Array Value} {T : TypeId} {fz : Nat × Nat} (hb : w.heap[b]? = some (.cells arr T fz)) :
    (Sort.grow (Sort.putRow encStr (Sort.ahead w n) b 0 d) os).heap[b]? = some (.cells (Sort.putCells encStr 0 d arr) T fz) := by
  have hlt := (Array.getElem?_eq_some_iff.1 hb).1
  show ((w.heap.modify b _) ++ os)[b]? = _
  rw [Array.getElem?_append_left (by simpa using hlt), Array.getElem?_modify]
  simp [hb, Sort.onCells]
theorem flatc_str (ls : List (List UInt8)) : flatc (ls.map str) = ls.map str := by
  unfold flatc
  induction ls with
  | nil => rfl
  | cons l ls ih => rw [List.map_cons, List.flatMap_cons, ih]; rfl
/-- What is known of a row of texts of one's own. -/
def RowS (w : World) (ls : List (List UInt8)) (b c : Nat) : Prop :=
  ∃ arr T fz, w.heap[b]? = some (.cells arr T fz) ∧ (∀ k, k < arr.size → ¬ (fz.1 ≤ k ∧ k < fz.2)) ∧ arr.size = c ∧ (∀ (k : Nat) (l : List UInt8), ls[k]? = some l → arr[k]? = some (encStr l)) ∧ ls.length ≤ c ∧ c ≤ capMax

theorem RowS.rel {w : World} {L : Nat → Prop} {ex : Bool} {ls : List (List UInt8)} {b c : Nat} (h : RowS w ls b c) (he : ex = true → c = ls.length) : Rel w L noEnv (.own 1 ex (ls.map str)) (.slice (some ⟨b, 0, none⟩) ls.length c) [b] := by
  obtain ⟨arr, T, ⟨lo, hi⟩, hb, hfz, hs, hv, hc, hm⟩ := h
  have := Rel.own (w := w) (L := L) noEnv 1 ex (ls.map str) b c arr T lo hi (fun _ => []) hb ⟨hfz, fun h => absurd h (by omega)⟩ (by omega) (by
      intro x hx
      obtain ⟨l, _, rfl⟩ := List.mem_map.1 hx
      rfl) (by
      intro k x u hx hu
      rw [flatc_str, List.getElem?_map] at hx
      cases hl : ls[k]? with
      | none => rw [hl] at hx; cases hx
      | some l =>
        rw [hl] at hx
        simp only [Option.map_some, Option.some.injEq] at hx
        subst hx
        rw [hv k l hl] at hu
        simp only [Option.some.injEq] at hu
        subst hu
        exact .lit _ _) (by simpa using hc) hm (by simpa using he)
  rw [foots_nil (fun _ _ => rfl)] at this
  simpa using this

theorem RowS.holds {w : World} {ls : List (List UInt8)} {b c : Nat} (h : RowS w ls b c) : Sort.Holds encStr w b 0 ls.toArray := by
  obtain ⟨arr, T, fz, hb, hfz, hs, hv, hc, hm⟩ := h
  intro j hj
  have hj : j < ls.length := by simpa using hj
  constructor
  · simp only [World.cell?, hb, Nat.zero_add]
    rw [if_neg (by simp), hv j ls[j] (by simp [hj])]
    simp [hj]
  · simp only [World.frozen?, hb, Nat.zero_add]
    have := hfz j (by omega)
    simp only [Bool.and_eq_false_iff, decide_eq_false_iff_not, Nat.not_le, Nat.not_lt]
    omega
theorem RowS.lt {w : World} {ls : List (List UInt8)} {b c : Nat} (h : RowS w ls b c) : b < w.heap.size := by
  obtain ⟨arr, T, fz, hb, _⟩ := h
  exact (Array.getElem?_eq_some_iff.1 hb).1
theorem RowS.le {w : World} {ls : List (List UInt8)} {b c : Nat} (h : RowS w ls b c) : ls.length ≤ c ∧ c ≤ capMax := by
  obtain ⟨_, _, _, _, _, _, _, h1, h2⟩ := h
  exact ⟨h1, h2⟩
theorem RowS.put {w : World} {ls l2 l3 : List (List UInt8)} {b c n : Nat} {os : Array Obj} (h : RowS w ls b c) (hl : (l2 ++ l3).length = ls.length) : RowS (Sort.grow (Sort.putRow encStr (Sort.ahead w n) b 0 (l2 ++ l3).toArray) os) l2 b c := by
  obtain ⟨arr, T, fz, hb, hfz, hs, hv, hc, hm⟩ := h
  refine ⟨_, T, fz, heap_putRow hb, ?_, ?_, ?_, ?_, hm⟩
  · simpa [Sort.putCells] using hfz
  · simpa [Sort.putCells] using hs
  · intro k l hk
    have hkl := (List.getElem?_eq_some_iff.1 hk).1
    have hk2 : k < (l2 ++ l3).length := by simp; omega
    have hka : k < arr.size := by omega
    simp only [Sort.putCells, Array.getElem?_mapIdx, Array.getElem?_eq_getElem hka, Option.map_some, Nat.zero_le, true_and, Nat.zero_add, Nat.sub_zero]
    rw [if_pos (by simpa using hk2)]
    congr 2
    rw [getElem!_pos _ k (by simpa using hk2)]
    simp only [List.getElem_toArray]
    rw [List.getElem_append_left hkl]
    exact (List.getElem?_eq_some_iff.1 hk).2
  · simp at hl
    omega

end Go.Av

/- A part of a proof in the texts 'av': contracts of the program's functions. -/
namespace Go.Av
open Go

/-! Ranging over a text. -/

section
variable {X : Fx} {g : Gx} {st st' : St} {a : Act} {w w' : World} {β β' : Env} {F : Key → List Nat} {L : Nat → Prop} {K : List Item} {k : List Item}
variable {ops : Array Oper} {i : Nat} {rest : List Nat} {o : Oper}

end
end Go.Av

/- Ranging over a function: what the iterator and the rounds promise each other; the rule for the call of yield. -/
namespace Go.Av
open Go Go.RowKit

/-- A call of yield, at loop l: the round runs to its end. -/
def RoundAt (P : Program) (l : Nat) (x : Value) (w : World) (R : Bool → World → Prop) : Prop :=
  ∃ r : Loop, w.heap[l]? = some (.loop r) ∧ r.params.size = 1 ∧
    ∀ (c : Frame) (cs : List Frame), ∃ b w', R b w' ∧
      Steps P (lone (Frame.round l r.fn ((r.params.zip #[x]).foldl (fun t (p, v) => t.setIfInBounds p v) r.tmps) r.assign r.body .normal) (c :: cs) w) (lone (c.finish (.bool b)) cs w')

/-- What the rounds promise: J n holds when n elements have come, Jx when a round has said no more. -/
structure Itx (P : Program) (l : Nat) (own : List Nat) (xs : List Value) (J : Nat → World → Prop) (Jx : World → Prop) : Prop where
  keep : ∀ n w1 w2, J n w1 → Kp own w1 w2 → J n w2
  keepx : ∀ w1 w2, Jx w1 → Kp own w1 w2 → Jx w2
  round : ∀ n x w1, xs[n]? = some x → J n w1 → RoundAt P l x w1 fun b w2 => ∃ H : List Nat, (∀ b ∈ H, b ∉ own) ∧ Kp H w1 w2 ∧ (b = true → J (n + 1) w2) ∧ (b = false → Jx w2)

/-- An iterator hands these values to yield, one after another, until a round says no more; it changes its own blocks alone. -/
def SeqOk (P : Program) (f : FuncId) (lb : Array Value) (own : List Nat) (It : World → Prop) (xs : List Value) : Prop :=
  ∀ (l : Nat) (J : Nat → World → Prop) (Jx : World → Prop) (w : World), It w → Itx P l own xs J Jx → J 0 w →
    Calls P f (#[.func (.yield l) #[] #[]] ++ lb) w fun e w' => (∃ v, e = .returned v) ∧ (J xs.length w' ∨ Jx w')

/-- All blocks of a world but some. -/
def msOf (w : World) (own : List Nat) : List (Nat × Obj) := ((List.range w.heap.size).filter fun b => !(own.contains b)).map fun b => (b, w.heap.getD b default)

theorem msOf_fst (w : World) (own : List Nat) : (msOf w own).map Prod.fst = (List.range w.heap.size).filter fun b => !(own.contains b) := by
  simp [msOf, Function.comp_def]
theorem msOf_nodup (w : World) (own : List Nat) : ((msOf w own).map Prod.fst).Nodup := by
  rw [msOf_fst]; exact List.Pairwise.filter _ List.nodup_range
theorem msOf_mem {w : World} {own : List Nat} {b : Nat} : b ∈ (msOf w own).map Prod.fst ↔ b < w.heap.size ∧ b ∉ own := by
  rw [msOf_fst]; simp
theorem msOf_held (w : World) (own : List Nat) : held w (msOf w own) := by
  intro e he
  obtain ⟨b, hb, rfl⟩ := List.mem_map.1 he
  have := (List.mem_filter.1 hb).1
  have hlt : b < w.heap.size := by simpa using this
  simp [Array.getElem?_eq_getElem hlt, Array.getD_eq_getD_getElem?]

/-- J held of a world, all of whose blocks but the iterator's own are these. -/
def Cov (g : Gx) (own : List Nat) (J : World → Prop) (ms : List (Nat × Obj)) : Prop :=
  ∃ w1, J w1 ∧ Kp g.F0 g.w0 w1 ∧ held w1 ms ∧ ∀ b, b < w1.heap.size → b ∉ own → b ∈ ms.map Prod.fst

theorem Cov.mk' {g : Gx} {own : List Nat} {J : World → Prop} {w : World} (hJ : J w) (hk : Kp g.F0 g.w0 w) : Cov g own J (msOf w own) :=
  ⟨w, hJ, hk, msOf_held w own, fun _ h1 h2 => msOf_mem.2 ⟨h1, h2⟩⟩

section
variable {X : Fx} {g : Gx} {st st' : St} {a : Act} {w w' : World} {β β' : Env} {F : Key → List Nat} {L : Nat → Prop} {K : List Item} {k : List Item}
variable {ops : Array Oper} {i : Nat} {rest : List Nat} {o : Oper}

theorem Cov.now {own : List Nat} {J : World → Prop} {im ms : List (Nat × Obj)} {idI idC : Id} (hc : Cov g own J ms) (hkeep : ∀ w1 w2, J w1 → Kp own w1 w2 → J w2) (hI : Inv X g st a w β F L)
    (hi : st.obj idI = .mem im) (him : im.map Prod.fst = own) (hC : st.obj idC = .mem ms) : J w := by
  obtain ⟨w1, hJ, hk, hh, hcov⟩ := hc
  have h1 := hI.obj idI
  rw [hi] at h1
  have h2 := hI.obj idC
  rw [hC] at h2
  have hlt : ∀ b, b < w1.heap.size → b < w.heap.size := by
    intro b hb
    by_cases ho : b ∈ own
    · rw [← him] at ho
      obtain ⟨e, he, rfl⟩ := List.mem_map.1 ho
      exact (Array.getElem?_eq_some_iff.1 (h1.2 e he)).1
    · obtain ⟨e, he, rfl⟩ := List.mem_map.1 (hcov b hb ho)
      exact (Array.getElem?_eq_some_iff.1 (h2.2 e he)).1
  refine hkeep w1 w hJ ⟨hI.kp.os.trans hk.os.symm, hI.kp.tape.trans hk.tape.symm, hI.kp.output.trans hk.output.symm, ?_, fun b hb ho => ?_⟩
  · cases hs : w1.heap.size with
    | zero => exact Nat.zero_le _
    | succ n => exact hlt n (by omega)
  · obtain ⟨e, he, rfl⟩ := List.mem_map.1 (hcov b hb ho)
    rw [h2.2 e he, hh e he]

/-- Nothing is owned by it, and it reads nothing. -/
def AV.bare : AV → Bool
  | .lit _ | .top => true
  | .fn _ [] => true
  | _ => false

theorem Rel.bare {x : AV} (hx : x.bare = true) {v : Value} {G : List Nat} (h : Rel w L β x v G) : G = [] ∧ ∀ (w' : World) (L' : Nat → Prop) (β' : Env), Rel w' L' β' x v [] := by
  cases h with
  | top => exact ⟨rfl, fun _ _ _ => .top _ _⟩
  | lit => exact ⟨rfl, fun _ _ _ => .lit _ _⟩
  | fn _ f cs vals hl hr =>
    cases cs with
    | nil => exact ⟨rfl, fun _ _ _ => .fn _ _ _ _ hl (fun k x u hx hu => by simp at hx)⟩
    | cons c cs => cases hx
  | _ => cases hx

theorem lookS_bare {l : List (Nat × AV)} (h : (l.all fun e => e.2.bare) = true) (d : Nat) : (lookS l d).bare = true := by
  induction l with
  | nil => rfl
  | cons e l ih =>
    obtain ⟨k, v⟩ := e
    simp only [List.all_cons, Bool.and_eq_true] at h
    simp only [lookS]
    cases Nat.beq k d
    · exact ih h.2
    · exact h.1

theorem lookO_two {l : List (Id × Ob)} {i j : Id} (h : (l.all fun e => eqId e.1 i || eqId e.1 j) = true) (id : Id) (hi : id ≠ i) (hj : id ≠ j) : lookO l id = .gone := by
  induction l with
  | nil => rfl
  | cons e l ih =>
    obtain ⟨k, v⟩ := e
    simp only [List.all_cons, Bool.and_eq_true, Bool.or_eq_true] at h
    simp only [lookO]
    cases hb : eqId k id
    · exact ih h.2
    · have := (eqId_iff _ _).1 hb
      subst this
      rcases h.1 with h | h
      · exact absurd ((eqId_iff _ _).1 h) hi
      · exact absurd ((eqId_iff _ _).1 h) hj

/-- A state of plain values alone, beside the iterator's own memory and all the rest of it. -/
structure Bare (st : St) (idI idC : Id) : Prop where
  sl : (st.sl.all fun e => e.2.bare) = true
  ob : (st.ob.all fun e => eqId e.1 idI || eqId e.1 idC) = true

/-- The rest of the memory has changed: what was known of plain values is still known. -/
theorem Inv.others {own : List Nat} {im : List (Nat × Obj)} {idI idC : Id} (hb : Bare st idI idC) (hne : idI ≠ idC) (hI : Inv X g st a w β F (Lv g F)) (hi : st.obj idI = .mem im) (him : im.map Prod.fst = own)
    {H : List Nat} (hk : Kp H w w') (hH : ∀ b ∈ H, b ∉ own) (hall : ∀ b, b < g.w0.heap.size → b ∈ g.F0) :
    SR X g (st.setObj idC (.mem (msOf w' own))) a w' := by
  have h1 := hI.obj idI
  rw [hi] at h1
  have hr : ∀ b : Nat, b ∈ g.F0 ∨ g.w0.heap.size ≤ b := fun b => by
    by_cases h : b < g.w0.heap.size
    · exact .inl (hall b h)
    · exact .inr (by omega)
  have hbs : ∀ d, (st.get d).bare = true := lookS_bare hb.sl
  have hbo : ∀ id, id ≠ idI → id ≠ idC → st.obj id = .gone := lookO_two hb.ob
  let F' : Key → List Nat := fun k => if k = .o idI then own else if k = .o idC then (msOf w' own).map Prod.fst else []
  have hF1 : F' (.o idI) = own := by simp [F']
  have hneK : (Key.o idC) ≠ .o idI := by intro e; cases e; exact hne rfl
  have hF2 : F' (.o idC) = (msOf w' own).map Prod.fst := by simp only [F', if_neg hneK, if_true]
  have hF3 : ∀ k, k ≠ .o idI → k ≠ .o idC → F' k = [] := fun k h1 h2 => by simp only [F', if_neg h1, if_neg h2]
  have hnd : own.Nodup := by rw [← him, ← h1.1]; exact hI.sep.nodup _
  refine ⟨β, F', hI.defers, hI.size, hI.kp.trans hk (fun b _ => (hr b).imp id id), ⟨fun k => ?_, fun k k' b hne' hb1 hb2 => ?_⟩, fun k b hb1 => hr b, fun d => ?_, fun id => ?_, hI.pin⟩
  · by_cases e1 : k = .o idI
    · subst e1; rw [hF1]; exact hnd
    · by_cases e2 : k = .o idC
      · subst e2; rw [hF2]; exact msOf_nodup _ _
      · rw [hF3 k e1 e2]; simp
  · by_cases e1 : k = .o idI
    · subst e1
      rw [hF1] at hb1
      by_cases e2 : k' = .o idC
      · subst e2; rw [hF2] at hb2; exact (msOf_mem.1 hb2).2 hb1
      · rw [hF3 k' (fun h => hne' h.symm) e2] at hb2; simp at hb2
    · by_cases e2 : k = .o idC
      · subst e2
        rw [hF2] at hb1
        by_cases e3 : k' = .o idI
        · subst e3; rw [hF1] at hb2; exact (msOf_mem.1 hb1).2 hb2
        · rw [hF3 k' e3 (fun h => hne' h.symm)] at hb2; simp at hb2
      · rw [hF3 k e1 e2] at hb1; simp at hb1
  · obtain ⟨u, hu, hrel⟩ := hI.slot d
    refine ⟨u, ?_, ?_⟩
    · rw [St.get_setObj]; exact hu
    · rw [St.get_setObj, hF3 _ (by simp) (by simp)]
      exact (hrel.bare (hbs d)).2 _ _ _
  · rw [St.obj_setObj]
    by_cases e1 : idC = id
    · subst e1
      rw [if_pos rfl, hF2]
      exact ⟨rfl, msOf_held _ _⟩
    · rw [if_neg e1]
      by_cases e2 : id = idI
      · subst e2
        rw [hi, hF1]
        refine ⟨him.symm, fun e he => ?_⟩
        have hm : e.1 ∈ own := by rw [← him]; exact List.mem_map_of_mem he
        rw [hk.block e.1 (Array.getElem?_eq_some_iff.1 (h1.2 e he)).1 (fun hH' => hH _ hH' hm)]
        exact h1.2 e he
      · rw [hbo id e2 (fun h => e1 h.symm), hF3 _ (by intro h; cases h; exact e2 rfl) (by intro h; cases h; exact e1 rfl)]
        rfl

/-- A call of yield, in the iterator's frame. -/
theorem Run.yield {l n : Nat} {own : List Nat} {xs : List Value} {J : Nat → World → Prop} {Jx : World → Prop} {d : Nat} {fo xo : Operand} {ts : Array TypeId} {x : Value} {im ms : List (Nat × Obj)} (idI idC : Id)
    (hx : Itx X.P l own xs J Jx) (hall : ∀ b, b < g.w0.heap.size → b ∈ g.F0) (ho : ops[i]? = some o) (hg : guardOf ops st o = some true) (hd : o.dst = some d) (hop : o.op = .call ⟨.value fo, #[xo], ts⟩)
    (hf : st.ev fo = .lit (.func (.yield l) #[] #[])) (hxo : st.ev xo = .lit x) (hn : xs[n]? = some x) (hi : st.obj idI = .mem im) (him : im.map Prod.fst = own) (hC : st.obj idC = .mem ms) (hne : idI ≠ idC)
    (hcov : Cov g own (J n) ms) (hb : Bare st idI idC) (hdn : (Nat.blt d X.fn.ntmps && !(X.pins.contains d)) = true)
    (ht : ∀ ms', Cov g own (J (n + 1)) ms' → Run X g (.inRegion ops rest :: k) ((st.setObj idC (.mem ms')).put d (.lit (.bool true))))
    (hfs : ∀ ms', Cov g own Jx ms' → Run X g (.inRegion ops rest :: k) ((st.setObj idC (.mem ms')).put d (.lit (.bool false)))) : Run X g (.inRegion ops (i :: rest) :: k) st := by
  simp only [Bool.and_eq_true, Bool.not_eq_true'] at hdn
  intro hX a w b cs hI hfn hk
  have hw := guardOf_ok hg a w hI
  obtain ⟨β, F, hI⟩ := hI
  have hJ : J n w := hcov.now (hx.keep n) hI hi him hC
  obtain ⟨r, hr, hsz, hround⟩ := hx.round n x w hn hJ
  have hrun : (execOp a.eval o).run X.P w = .ok (.round l r.fn ((r.params.zip #[x]).foldl (fun t (p, v) => t.setIfInBounds p v) r.tmps) r.assign r.body) w := by
    have h1 := run_yield (P := X.P) (args := #[x]) hr (by simp [hsz])
    obtain ⟨dst, op, type, pos, after, guard⟩ := o
    simp only at hop
    subst hop
    simp [execOp, resolve, ev_lit hI hf, ev_lit hI hxo, Deferred.ofValue, invoke, h1]
  obtain ⟨bb, w2, ⟨H, hH, hk2, h1, h2⟩, hst⟩ := hround (b.atR a (.inRegion ops (i :: rest) :: k)) cs
  have hgo := stepGR_op (P := X.P) (b := b) (k := k) (cs := cs) (w := w) (rest := rest) ho hw
  rw [Oper.semAt_eq _ _ _ (not_defer_of ⟨_, _, hrun, by simp⟩)] at hgo
  have henter : Go.step X.P (lone (b.atR a (.inRegion ops (i :: rest) :: k)) cs w) =
      .next (lone (Frame.round l r.fn ((r.params.zip #[x]).foldl (fun t (p, v) => t.setIfInBounds p v) r.tmps) r.assign r.body .normal) (b.atR a (.inRegion ops (i :: rest) :: k) :: cs) w) :=
    step_lone_go (by rw [hgo]; simp [stepG.apply, hrun, Frame.atR])
  obtain ⟨β2, F2, hI2⟩ := Inv.others hb hne hI hi him hk2 hH hall
  have hI3 : ∀ c : Bool, SR X g ((st.setObj idC (.mem (msOf w2 own))).put d (.lit (.bool c))) (a.put o.dst (.bool c)) w2 := fun c => by rw [hd]; exact hI2.putv (blt_lt hdn.1) (contains_iff hdn.2) (.lit _ _)
  rw [finish_op ho] at hst
  cases bb with
  | true =>
    obtain ⟨v, w', fr, hp, hst'⟩ := ht _ (Cov.mk' (h1 rfl) hI2.kp) hX _ w2 b cs (hI3 true) hfn hk
    exact ⟨v, w', fr, hp, .head henter (Steps.trans hst hst')⟩
  | false =>
    obtain ⟨v, w', fr, hp, hst'⟩ := hfs _ (Cov.mk' (h2 rfl) hI2.kp) hX _ w2 b cs (hI3 false) hfn hk
    exact ⟨v, w', fr, hp, .head henter (Steps.trans hst hst')⟩

end
end Go.Av

/- Ranging over a function: the iterator's body, the rounds, the statement. -/
namespace Go.Av
open Go Go.RowKit

section
variable {X : Fx} {g : Gx} {st st' : St} {a : Act} {w w' : World} {β β' : Env} {F : Key → List Nat} {L : Nat → Prop} {K : List Item} {k : List Item}
variable {ops : Array Oper} {i : Nat} {rest : List Nat} {o : Oper}

/-! ### The iterator -/

/-- An iterator's promise, out of the walk of its body. -/
theorem SeqOk.intro (X : Fx) (hX : X.Ok) {c : Code} (hb : X.fn.body = some c) {lb : List Value} {im : List (Nat × Obj)} {xs : List Value} (hargs' : Nat.ble (lb.length + 1) X.fn.ntmps = true)
    (hpins' : (X.pins.all fun j => Nat.blt j (lb.length + 1)) = true) (hnd : (im.map Prod.fst).Nodup)
    (h : ∀ (g : Gx) (l : Nat) (J : Nat → World → Prop) (Jx : World → Prop) (ms : List (Nat × Obj)), Itx X.P l (im.map Prod.fst) xs J Jx → (∀ b, b < g.w0.heap.size → b ∈ g.F0) → Cov g (im.map Prod.fst) (J 0) ms →
      g.Post = .plain (fun _ w' => J xs.length w' ∨ Jx w') → Run X g [.code c] ⟨initS (.lit (.func (.yield l) #[] #[]) :: lb.map .lit) 0, [((0, 0), .mem im), ((0, 1), .mem ms)]⟩) :
    SeqOk X.P X.f lb.toArray (im.map Prod.fst) (fun w => held w im) xs := by
  have hargs : lb.length + 1 ≤ X.fn.ntmps := Nat.le_of_ble_eq_true hargs'
  have hpins : ∀ j ∈ X.pins, j < lb.length + 1 := fun j hj => blt_lt (List.all_eq_true.1 hpins' j hj)
  intro l J Jx w hIt hx hJ0 cs
  let vs : Array Value := #[.func (.yield l) #[] #[]] ++ lb.toArray
  have hvs : vs.size = lb.length + 1 := by simp [vs, Nat.add_comm]
  let g : Gx := ⟨w, List.range w.heap.size, fun _ => False, vs, .plain (fun _ w' => J xs.length w' ∨ Jx w'), fun _ h => h.elim⟩
  let b : Frame := { (default : Frame) with fn := X.f, kind := .normal, roundOf := none }
  let a : Act := { tmps := vs ++ Array.replicate (X.fn.ntmps - vs.size) undef, defers := [] }
  have henter : Frame.enter X.P X.f vs .normal = b.atR a [.code c] := by simp [Frame.enter, Frame.atR, hX.func, hb, b, a]
  have hsize : a.tmps.size = X.fn.ntmps := by simp only [a, Array.size_append, Array.size_replicate]; omega
  have hget : ∀ d, d < lb.length + 1 → a.tmps[d]? = vs[d]? := fun d hd => by simp only [a]; rw [Array.getElem?_append_left (by omega)]
  have hown : ∀ x ∈ im.map Prod.fst, x < w.heap.size := fun x hx => by
    obtain ⟨e, he, rfl⟩ := List.mem_map.1 hx
    exact (Array.getElem?_eq_some_iff.1 (hIt e he)).1
  let own := im.map Prod.fst
  let FF : Key → List Nat := fun k => if k = .o (0, 0) then own else if k = .o (0, 1) then (msOf w own).map Prod.fst else []
  have hF1 : FF (.o (0, 0)) = own := by simp [FF]
  have hF2 : FF (.o (0, 1)) = (msOf w own).map Prod.fst := by simp [FF]
  have hF3 : ∀ k, k ≠ .o (0, 0) → k ≠ .o (0, 1) → FF k = [] := fun k h1 h2 => by simp only [FF, if_neg h1, if_neg h2]
  have hSR : SR X g ⟨initS (.lit (.func (.yield l) #[] #[]) :: lb.map .lit) 0, [((0, 0), .mem im), ((0, 1), .mem (msOf w own))]⟩ a w := by
    refine ⟨noEnv, FF, rfl, hsize, Kp.refl _ _, ⟨fun k => ?_, fun k k' b hne hb1 hb2 => ?_⟩, fun k b hb => ?_, fun d => ?_, fun id => ?_, fun j hj => hget j (hpins j hj)⟩
    · by_cases e1 : k = .o (0, 0)
      · subst e1; rw [hF1]; exact hnd
      · by_cases e2 : k = .o (0, 1)
        · subst e2; rw [hF2]; exact msOf_nodup _ _
        · rw [hF3 k e1 e2]; simp
    · by_cases e1 : k = .o (0, 0)
      · subst e1
        rw [hF1] at hb1
        by_cases e2 : k' = .o (0, 1)
        · subst e2; rw [hF2] at hb2; exact (msOf_mem.1 hb2).2 hb1
        · rw [hF3 k' (fun h => hne h.symm) e2] at hb2; simp at hb2
      · by_cases e2 : k = .o (0, 1)
        · subst e2
          rw [hF2] at hb1
          by_cases e3 : k' = .o (0, 0)
          · subst e3; rw [hF1] at hb2; exact (msOf_mem.1 hb1).2 hb2
          · rw [hF3 k' e3 (fun h => hne h.symm)] at hb2; simp at hb2
        · rw [hF3 k e1 e2] at hb1; simp at hb1
    · left
      show b ∈ List.range w.heap.size
      rw [List.mem_range]
      by_cases e1 : k = .o (0, 0)
      · subst e1; rw [hF1] at hb; exact hown b hb
      · by_cases e2 : k = .o (0, 1)
        · subst e2; rw [hF2] at hb; exact (msOf_mem.1 hb).1
        · rw [hF3 k e1 e2] at hb; simp at hb
    · show ∃ u, _ ∧ Rel w _ noEnv (lookS (initS (.lit (.func (.yield l) #[] #[]) :: lb.map .lit) 0) d) u (FF (.s d))
      rw [show St.get ⟨initS (.lit (.func (.yield l) #[] #[]) :: lb.map .lit) 0, [((0, 0), .mem im), ((0, 1), .mem (msOf w own))]⟩ d = lookS (initS (.lit (.func (.yield l) #[] #[]) :: lb.map .lit) 0) d from rfl, look_initS, hF3 _ (by simp) (by simp)]
      simp only [Nat.zero_le, true_and, Nat.zero_add, Nat.sub_zero, List.length_cons, List.length_map]
      by_cases hd : d < lb.length + 1
      · rw [if_pos hd]
        refine ⟨vs.getD d undef, .inl ?_, ?_⟩
        · rw [hget d hd, Array.getD_eq_getD_getElem?, Array.getElem?_eq_getElem (by omega)]; rfl
        · have : (AV.lit (.func (.yield l) #[] #[]) :: lb.map .lit).getD d .top = .lit (vs.getD d undef) := by
            cases d with
            | zero => simp [vs]
            | succ d =>
              have hd' : d < lb.length := by omega
              simp [vs, Array.getD_eq_getD_getElem?, List.getD_eq_getElem?_getD, hd']
          rw [this]
          exact .lit _ _
      · rw [if_neg hd]
        exact ⟨undef, .inr rfl, .top _ _⟩
    · show ObRel w _ noEnv id (lookO [((0, 0), .mem im), ((0, 1), .mem (msOf w own))] id) (FF (.o id))
      simp only [lookO]
      by_cases e1 : id = (0, 0)
      · subst e1
        rw [(eqId_iff (0, 0) (0, 0)).2 rfl, hF1]
        exact ⟨rfl, hIt⟩
      · have b1 : eqId (0, 0) id = false := by cases hb : eqId (0, 0) id; rfl; exact absurd ((eqId_iff _ _).1 hb).symm e1
        rw [b1]
        by_cases e2 : id = (0, 1)
        · subst e2
          rw [(eqId_iff (0, 1) (0, 1)).2 rfl, hF2]
          exact ⟨rfl, msOf_held _ _⟩
        · have b2 : eqId (0, 1) id = false := by cases hb : eqId (0, 1) id; rfl; exact absurd ((eqId_iff _ _).1 hb).symm e2
          rw [b2, hF3 _ (by intro h; cases h; exact e1 rfl) (by intro h; cases h; exact e2 rfl)]
          rfl
  obtain ⟨v, w', fr, ⟨hp, h1, h2⟩, hst⟩ := h g l J Jx (msOf w own) hx (fun b hb => List.mem_range.2 hb) (Cov.mk' hJ0 (Kp.refl _ _)) rfl hX a w b cs hSR rfl ⟨rfl, rfl⟩
  rw [← henter] at hst
  exact ⟨.returned v, w', fr, ⟨⟨v, rfl⟩, hp⟩, hst, h1, h2⟩

/-! ### The return behind such a loop -/

def PostMP (g : Gx) (D : Nat) (res : AV) (outs : List AV) (v : Value) (w' : World) : Prop :=
  ∃ F', Kp (D :: g.F0) g.w0 w' ∧ F'.Nodup ∧ (∀ b ∈ F', b ∈ D :: g.F0 ∨ g.w0.heap.size ≤ b) ∧
    Rel w' (fun b => (g.L0 b ∧ b ≠ D) ∨ b ∈ F') noEnv (.tup (res :: outs)) (.tuple (#[v] ++ g.args.extract 0 outs.length)) F'

/-- It returns so; block D is shut. -/
@[reducible] def PostM (g : Gx) (D : Nat) (res : AV) (outs : List AV) : GPost := .marked D (PostMP g D res outs)

structure MarkOk (g : Gx) (D : Nat) : Prop where
  heap : g.w0.heap[D]? = some (.deferred (some []))
  out : D ∉ g.F0
  live : g.L0 D

/-! ### The rounds -/

def Gx.bare (g : Gx) : Gx := { g with Post := .plain fun _ _ => True }

/-- A round: off its end in state A, where p holds, or left by a return in state B, where q holds. -/
@[reducible] def RPost (X : Fx) (g : Gx) (l : Nat) (A B : St) (p q : Prop) : GPost :=
  .round l fun jump w => (jump = none ∧ p ∧ ∃ a, SR X g.bare A a w) ∨ (jump = some .ret ∧ q ∧ ∃ a, SR X g.bare B a w)

theorem SR.bare (hd : g.df = []) (h : SR X g st a w) : SR X g.bare st a w := by
  obtain ⟨β, F, h⟩ := h
  exact ⟨β, F, h.defers.trans hd, h.size, h.kp, h.sep, h.range, h.slot, h.obj, h.pin⟩

end
end Go.Av

/- Ranging over a function: the statement. -/
namespace Go.Av
open Go Go.RowKit

section
variable {X : Fx} {g : Gx} {st st' : St} {a : Act} {w w' : World} {β β' : Env} {F : Key → List Nat} {L : Nat → Prop} {K : List Item} {k : List Item}
variable {ops : Array Oper} {i : Nat} {rest : List Nat} {o : Oper}

theorem Inv.le (hle : St.Le st' st) (h : Inv X g st a w β F L) : ∃ F' : Key → List Nat, Inv X g st' a w β F' L ∧ ∀ k b, b ∈ F' k → b ∈ F k := by
  classical
  let F' : Key → List Nat := fun
    | .s d => if st'.get d = .top then [] else F (.s d)
    | .o id => if st'.obj id = .gone then [] else F (.o id)
  have hsub : ∀ k b, b ∈ F' k → b ∈ F k := by
    intro k b hb
    cases k <;> simp only [F'] at hb <;> split at hb <;> simp_all
  refine ⟨F', ⟨h.defers, h.size, h.kp, ⟨?_, ?_⟩, fun k b hb => h.range k b (hsub k b hb), ?_, ?_, h.pin⟩, hsub⟩
  · intro k
    cases k <;> simp only [F'] <;> split <;> simp [h.sep.nodup]
  · intro k k' b hk hb hb'
    exact h.sep.apart k k' b hk (hsub _ _ hb) (hsub _ _ hb')
  · intro d
    obtain ⟨u, hu, hr⟩ := h.slot d
    by_cases h0 : st'.get d = .top
    · refine ⟨u, .inr h0, ?_⟩
      simp only [F', if_pos h0]
      rw [h0]; exact .top _ _
    · have h1 := (hle.sl d).resolve_left h0
      refine ⟨u, ?_, ?_⟩
      · rw [h1]; exact hu
      · simp only [F', if_neg h0]
        rw [h1]; exact hr
  · intro id
    by_cases h0 : st'.obj id = .gone
    · simp only [F', if_pos h0]
      rw [h0]; rfl
    · have h1 := (hle.ob id).resolve_left h0
      simp only [F', if_neg h0]
      rw [h1]; exact h.obj id

/-- The same function, whose slots of these numbers are written by nobody. -/
def Fx.pinned (X : Fx) (pins : List Nat) : Fx := { X with pins := pins }
/-- What lives at a loop: what the caller has to leave alone, the iterator's own, the block for deferred calls, what the state owns. -/
def LJ (g : Gx) (own : List Nat) (D : Nat) (F : Key → List Nat) : Nat → Prop := fun b => g.L0 b ∨ b ∈ own ∨ b = D ∨ ∃ k, b ∈ F k

/-- The base of a running call, bare, its arguments the slots as they are. -/
def Gx.at (g : Gx) (tmps : Array Value) : Gx := ⟨g.w0, g.F0, g.L0, tmps, .plain fun _ _ => True, g.hL⟩

/-- What holds at a loop between two rounds: the state, and the loop's record. -/
def JAt (X : Fx) (g : Gx) (own : List Nat) (D l : Nat) (rid : Id) (tmps : Array Value) (S : St) (r : Loop) (w : World) : Prop :=
  ∃ β F, Inv X (g.at tmps) (S.setObj rid (.mem [(l, .loop r)])) ⟨tmps, []⟩ w β F (LJ g own D F) ∧ (∀ k b, b ∈ F k → b ∉ own ∧ b ≠ D) ∧ w.heap[D]? = some (.deferred (some [])) ∧ (∀ b ∈ own, b < w.heap.size)

theorem JAt.keep {own : List Nat} {D l : Nat} {rid : Id} {tmps : Array Value} {S : St} {r : Loop} (hown : ∀ b ∈ own, b ∈ g.F0 ∨ g.w0.heap.size ≤ b) (hD : D ∉ own) (h : JAt X g own D l rid tmps S r w) (hk : Kp own w w') : JAt X g own D l rid tmps S r w' := by
  obtain ⟨β, F, hI, hF, hDw, ho⟩ := h
  refine ⟨β, F, hI.world (M := fun b => b ∈ own) (hI.kp.trans hk hown) (fun b hb hM => hk.block b hb hM) (fun b hb => .inr (.inl hb)) (fun _ _ h => h) (fun k b hb => (hF k b hb).1), hF, ?_, fun b hb => Nat.lt_of_lt_of_le (ho b hb) hk.size⟩
  rw [hk.block D (Array.getElem?_eq_some_iff.1 hDw).1 hD]
  exact hDw

end
end Go.Av

/- A variable's box whose place is known: laid, read, written. -/
namespace Go.Av
open Go Go.RowKit

section
variable {X : Fx} {g : Gx} {st st' : St} {a : Act} {w w' : World} {β β' : Env} {F : Key → List Nat} {L : Nat → Prop} {K : List Item} {k : List Item}
variable {ops : Array Oper} {i : Nat} {rest : List Nat} {o : Oper}

/-- What is known of the calls with these very values, by a walk of the body. -/
theorem calls_plain (X : Fx) (hX : X.Ok) {c : Code} (hb : X.fn.body = some c) {vs : List Value} (hargs' : Nat.ble vs.length X.fn.ntmps = true) (hpins' : (X.pins.all fun j => Nat.blt j vs.length) = true) (p : World → Value → World → Prop)
    (h : ∀ g : Gx, g.F0 = [] → g.Post = .plain (p g.w0) → Run X g [.code c] ⟨initS (vs.map .lit) 0, []⟩) (w : World) : Calls X.P X.f vs.toArray w fun e w' => ∃ v, e = .returned v ∧ p w v w' := by
  have hargs : vs.length ≤ X.fn.ntmps := Nat.le_of_ble_eq_true hargs'
  have hpins : ∀ j ∈ X.pins, j < vs.length := fun j hj => blt_lt (List.all_eq_true.1 hpins' j hj)
  intro cs
  let g : Gx := ⟨w, [], fun _ => False, vs.toArray, .plain (p w), fun _ h => h.elim⟩
  let b : Frame := { (default : Frame) with fn := X.f, kind := .normal, roundOf := none }
  let a : Act := { tmps := vs.toArray ++ Array.replicate (X.fn.ntmps - vs.toArray.size) undef, defers := [] }
  have henter : Frame.enter X.P X.f vs.toArray .normal = b.atR a [.code c] := by simp [Frame.enter, Frame.atR, hX.func, hb, b, a]
  have hsize : a.tmps.size = X.fn.ntmps := by simp only [a, Array.size_append, Array.size_replicate, List.size_toArray]; omega
  have hget : ∀ d, d < vs.length → a.tmps[d]? = vs[d]? := fun d hd => by simp only [a]; rw [Array.getElem?_append_left (by simpa using hd)]; simp
  have hSR : SR X g ⟨initS (vs.map .lit) 0, []⟩ a w := by
    refine ⟨noEnv, fun _ => [], rfl, hsize, Kp.refl _ _, ⟨fun _ => by simp, fun _ _ _ _ hb => by simp at hb⟩, fun _ _ hb => by simp at hb, fun d => ?_, fun id => rfl, fun j hj => by rw [show g.args = vs.toArray from rfl, hget j (hpins j hj)]; simp⟩
    show ∃ u, _ ∧ Rel w _ noEnv (lookS (initS (vs.map .lit) 0) d) u []
    rw [show St.get ⟨initS (vs.map .lit) 0, []⟩ d = lookS (initS (vs.map .lit) 0) d from rfl, look_initS]
    simp only [Nat.zero_le, true_and, Nat.zero_add, Nat.sub_zero, List.length_map]
    by_cases hd : d < vs.length
    · rw [if_pos hd]
      refine ⟨vs[d], .inl (by rw [hget d hd, List.getElem?_eq_getElem hd]), ?_⟩
      simp only [List.getD_eq_getElem?_getD, List.getElem?_map, List.getElem?_eq_getElem hd, Option.map_some, Option.getD_some]
      exact .lit _ _
    · rw [if_neg hd]
      exact ⟨undef, .inr rfl, .top _ _⟩
  obtain ⟨v, w', fr, ⟨hp, h1, h2⟩, hst⟩ := h g rfl rfl hX a w b cs hSR rfl ⟨rfl, rfl⟩
  rw [← henter] at hst
  exact ⟨.returned v, w', fr, ⟨v, rfl, hp⟩, hst, h1, h2⟩
end
end Go.Av

/- Bits of numbers; the order of texts. -/
namespace Go.Av
open Go Go.RowKit

section
variable {X : Fx} {g : Gx} {st st' : St} {a : Act} {w w' : World} {β β' : Env} {F : Key → List Nat} {L : Nat → Prop} {K : List Item} {k : List Item}
variable {ops : Array Oper} {i : Nat} {rest : List Nat} {o : Oper}

theorem ValOk.shr {t t2 : Nat} {x y : Operand} {kk k' : IntKind} {n m : Int} (hop : o.op = .binOp .shr t x y t2) (hx : st.ev x = .lit (.int kk n)) (hy : st.ev y = .lit (.int k' m)) (h0 : 0 ≤ m) :
    ValOk X g st o (.lit (.int kk (n.fdiv (2 ^ min m.toNat kk.bits)))) := by
  intro hX a w β F hI
  refine ⟨.int kk (n.fdiv (2 ^ min m.toNat kk.bits)), fun w2 _ => ?_, .lit _ _⟩
  have hm : ¬ m < 0 := by omega
  simp only [execOp, hop, ev_lit hI hx, ev_lit hI hy, eqGuard, binOp, Op.shift, if_neg hm]
  simp

theorem ValOk.land {t t2 : Nat} {x y : Operand} {kk : IntKind} {n m : Int} (hop : o.op = .binOp .and t x y t2) (hx : st.ev x = .lit (.int kk n)) (hy : st.ev y = .lit (.int kk m)) :
    ValOk X g st o (.lit (.int kk (kk.wrap (BitVec.ofInt kk.bits n &&& BitVec.ofInt kk.bits m).toNat))) := by
  intro hX a w β F hI
  refine ⟨.int kk (kk.wrap (BitVec.ofInt kk.bits n &&& BitVec.ofInt kk.bits m).toNat), fun w2 _ => ?_, .lit _ _⟩
  simp only [execOp, hop, ev_lit hI hx, ev_lit hI hy, eqGuard, binOp, Op.intBits]
  simp

theorem ValOk.rem {t t2 : Nat} {x y : Operand} {kk : IntKind} {n m : Int} (hop : o.op = .binOp .rem t x y t2) (hx : st.ev x = .lit (.int kk n)) (hy : st.ev y = .lit (.int kk m)) (h0 : m ≠ 0) :
    ValOk X g st o (.lit (.int kk (n.tmod m))) := by
  intro hX a w β F hI
  refine ⟨.int kk (n.tmod m), fun w2 _ => ?_, .lit _ _⟩
  simp only [execOp, hop, ev_lit hI hx, ev_lit hI hy, eqGuard, binOp, Op.intDiv, if_neg h0]
  simp [h0]

end
end Go.Av

/- A call that answers with a pointer to a new object. -/
namespace Go.Av
open Go Go.RowKit

section
variable {X : Fx} {g : Gx} {st st' : St} {a : Act} {w w' : World} {β β' : Env} {F : Key → List Nat} {L : Nat → Prop} {K : List Item} {k : List Item}
variable {ops : Array Oper} {i : Nat} {rest : List Nat} {o : Oper}

/-- What is left of a region, whose ends come together in one state. -/
theorem Run.regTo {l : List Nat} (S : St) (h : ∀ k', Nxt (X := X) (g := g) (K := k') S → Run X g (.inRegion ops l :: k') st) (hk : Run X g k S) : Run X g (.inRegion ops l :: k) st := h k hk

/-- A call with one slice that is only read; what it answers with is a new box that holds it, and plain values. -/
theorem Run.callN {d : Nat} {fo : Operand} {xs : Array Operand} {ts : Array TypeId} {f : FuncId} {sz : Nat} {ex : Bool} {ys : List AV} {zs : List Value}
    (ho : ops[i]? = some o) (hg : guardOf ops st o = some true) (hd : o.dst = some d) (hop : o.op = .call ⟨.value fo, xs, ts⟩) (hf : st.ev fo = .fn f [])
    (hargs : xs.toList.map st.ev = [.ro sz ex ys])
    (hen : (X.P.funcs[f]?).map (fun fn => (fn.body.isSome, fn.name == "runtime.NumGoroutine")) = some (true, false))
    (hcall : ∀ w A n c, Calls X.P f #[.slice A n c] w fun e w' => ∃ b T lo hi, e = .returned (.pointer (some ⟨b, 0, none⟩)) ∧ Kp [] w w' ∧ w.heap.size ≤ b ∧ w'.heap[b]? = some (.cells (.slice A n c :: zs).toArray T (lo, hi)) ∧ ∀ k, k ≤ (Value.slice A n c :: zs).toArray.size → ¬ (lo ≤ k ∧ k < hi))
    (hn : st.nrf (d, 0) = true)
    (hdn : (Nat.blt d X.fn.ntmps && !(X.pins.contains d)) = true)
    (h : Run X g (.inRegion ops rest :: k) ((st.setObj (d, 0) (.box (.ro sz ex ys :: zs.map .lit))).put d (.bp (d, 0) 0))) : Run X g (.inRegion ops (i :: rest) :: k) st := by
  simp only [Bool.and_eq_true, Bool.not_eq_true'] at hdn
  refine Run.opc ho (fun a w hI => guardOf_ok hg a w hI) ?_ h
  rintro hX a w ⟨β, F, hI⟩
  have hfr := ev_rel hI fo (by rw [hf]; rfl)
  rw [hf] at hfr
  generalize hfv : a.eval fo = fv at hfr
  cases hfr with
  | fn _ _ _ vals hlv hr =>
  obtain rfl : vals = #[] := by
    have : vals.size = 0 := by simpa using hlv.symm
    exact Array.eq_empty_of_size_eq_zero this
  refine ⟨f, xs.map a.eval ++ #[], w, run_call hop hfv hen, ?_⟩
  have hsz : xs.size = 1 := by
    have : (xs.toList.map st.ev).length = 1 := by rw [hargs]; rfl
    simpa using this
  obtain ⟨x, rfl⟩ : ∃ x, xs = #[x] := by
    refine ⟨xs[0], Array.ext (by simp [hsz]) fun j h1 h2 => ?_⟩
    have : j = 0 := by simp at h2; omega
    subst this; rfl
  have hx : st.ev x = .ro sz ex ys := by simpa using hargs
  have hxr := ev_rel hI x (by rw [hx]; rfl)
  rw [hx] at hxr
  obtain ⟨A, n, c, hv, hxr⟩ : ∃ A n c, a.eval x = .slice A n c ∧ ∃ G, Rel w (Lv g F) β (.ro sz ex ys) (.slice A n c) G := by
    generalize hu : a.eval x = u at hxr
    generalize hG : ([] : List Nat) = G at hxr
    cases hxr with
    | roNil _ _ _ A c hc he => exact ⟨_, _, _, rfl, _, .roNil _ _ _ A c hc he⟩
    | ro _ _ _ _ b o c vals hL hz hl hrow hr hc hm he => exact ⟨_, _, _, rfl, _, .ro _ _ _ _ b o c vals hL hz hl hrow hr hc hm he⟩
  obtain ⟨G, hxr⟩ := hxr
  have hG : G = [] := by cases hxr <;> rfl
  subst hG
  have harr : (#[x].map a.eval ++ #[] : Array Value) = #[.slice A n c] := by simp [hv]
  rw [harr]
  refine (hcall w A n c).mono ?_
  rintro e w' ⟨b, T, lo, hi, rfl, hk, hb, hcell, hfz⟩
  refine ⟨_, rfl, ?_⟩
  rw [hd]
  let L2 : Nat → Prop := fun y => Lv g F y ∨ y = b
  have hw : ∀ y, y < w.heap.size → w'.heap[y]? = w.heap[y]? := fun y hy => hk.block y hy (by simp)
  have hLL : ∀ y, y < w.heap.size → L2 y → Lv g F y := by rintro y hy (h | rfl); exact h; omega
  have h1 : Inv X g st a w' β F L2 := hI.world (M := fun _ => False) (hI.kp.trans hk (by simp)) (fun y hy _ => hw y hy) (fun _ h => h.elim) hLL (fun _ _ _ h => h)
  have hob : ObRel w' L2 (updE β (d, 0) (.pointer (some ⟨b, 0, none⟩), 0)) (d, 0) (.box (.ro sz ex ys :: zs.map .lit)) (b :: foots (fun _ => []) (AV.ro sz ex ys :: zs.map .lit).length) := by
    refine ⟨b, (.slice A n c :: zs).toArray, T, lo, hi, fun _ => [], by simp [updE], hcell, hfz, by simp, fun k y u hy hu => ?_, rfl⟩
    cases k with
    | zero =>
      simp at hy hu
      subst hy; subst hu
      exact (hxr.upd _ _ rfl).keep (M := fun _ => False) (fun y hy _ => hw y hy) (fun _ h => h.elim) hLL (fun _ _ h => h)
    | succ k =>
      simp only [List.getElem?_cons_succ, List.getElem?_map, List.getElem?_toArray] at hy hu
      rw [hu] at hy
      simp at hy
      subst hy
      exact .lit _ _
  have hfn : foots (fun _ => []) (AV.ro sz ex ys :: zs.map .lit).length = [] := by
    refine List.eq_nil_iff_forall_not_mem.2 fun y hy => ?_
    obtain ⟨j, _, hj⟩ := mem_foots.1 hy
    cases hj
  rw [hfn] at hob
  have hFlt : ∀ kk y, y ∈ F kk → y < w.heap.size := fun kk y hy => hI.lt kk y hy
  have h2 := h1.addObj (d, 0) (.box (.ro sz ex ys :: zs.map .lit)) _ hn hob (by simp) (by
    intro kk _ y hy hy'
    rw [List.mem_singleton.1 hy] at hy'
    have := hFlt kk _ hy'; omega) (by
    intro y hy
    rw [List.mem_singleton.1 hy]
    exact .inr (Nat.le_trans hI.kp.size hb))
  have h3 := h2.put (d := d) (v := .bp (d, 0) 0) (u := .pointer (some ⟨b, 0, none⟩)) (blt_lt hdn.1) (contains_iff hdn.2) (.bp _ _ _ _ (by simp [updE])) (by simp) (by simp) (by simp)
  refine ⟨_, _, h3.setL fun y _ hy => ?_⟩
  refine Lv_sub hy (fun kk hk => ?_) (fun h => .inl (.inl h))
  by_cases e : kk = .s d
  · subst e; rw [updF_same] at hk; simp at hk
  · rw [updF_ne _ e] at hk
    by_cases e2 : kk = .o (d, 0)
    · subst e2
      rw [updF_same] at hk
      exact .inr (List.mem_singleton.1 hk)
    · rw [updF_ne _ e2] at hk; exact .inl (Lv_of hk)
end
end Go.Av
