/- The running call: what is known of its slots and of the objects it has made, and what it does from there. -/
import Derived.Test.YtoeocaenflkajaaAvCore
namespace Go.Av
open Go Go.RowKit

inductive Key where
  | s (d : Nat)
  | o (id : Id)
  deriving DecidableEq

inductive Ob where
  | gone
  | box (cs : List AV)
  | vec (sz : Nat) (ex : Bool) (xs : List AV)
  | tie (v : Value) (id : Nat × Nat)
  | mp (b : Nat) (kk : IntKind) (es : List (Int × Value))

structure St where
  sl : List (Nat × AV)
  ob : List (Id × Ob)

def lookS : List (Nat × AV) → Nat → AV
  | [], _ => .top
  | (k, v) :: r, d => bif Nat.beq k d then v else lookS r d
def eqId (a b : Id) : Bool := Nat.beq a.1 b.1 && Nat.beq a.2 b.2
def lookO : List (Id × Ob) → Id → Ob
  | [], _ => .gone
  | (k, v) :: r, d => bif eqId k d then v else lookO r d
def St.get (st : St) (d : Nat) : AV := lookS st.sl d
def St.obj (st : St) (d : Id) : Ob := lookO st.ob d
def St.put (st : St) (d : Nat) (v : AV) : St := ⟨(d, v) :: st.sl, st.ob⟩
def St.setObj (st : St) (d : Id) (v : Ob) : St := ⟨st.sl, (d, v) :: st.ob⟩

theorem eqId_iff (a b : Id) : eqId a b = true ↔ a = b := by
  cases a; cases b; simp [eqId, Nat.beq_eq]
theorem St.get_put (st : St) (d k : Nat) (v : AV) : (st.put d v).get k = if d = k then v else st.get k := by
  simp only [St.put, St.get, lookS]
  by_cases h : d = k
  · subst h; simp
  · have : Nat.beq d k = false := by cases hb : Nat.beq d k; rfl; exact absurd (Nat.eq_of_beq_eq_true hb) h
    simp [this, h]
theorem St.obj_put (st : St) (d : Nat) (k : Id) (v : AV) : (st.put d v).obj k = st.obj k := rfl
theorem St.get_setObj (st : St) (d : Id) (k : Nat) (v : Ob) : (st.setObj d v).get k = st.get k := rfl
theorem St.obj_setObj (st : St) (d k : Id) (v : Ob) : (st.setObj d v).obj k = if d = k then v else st.obj k := by
  simp only [St.setObj, St.obj, lookO]
  by_cases h : d = k
  · subst h; simp [(eqId_iff d d).2 rfl]
  · have : eqId d k = false := by cases hb : eqId d k; rfl; exact absurd ((eqId_iff _ _).1 hb) h
    simp [this, h]

/-- What is known of a type. -/
structure TI where
  sz : Nat
  by' : Nat
  zero : List Value
  ud : TypeDesc

structure TyOk (P : Program) (t : TypeId) (i : TI) : Prop where
  info : (P.info? t).map (fun j => (j.size, j.bytes, j.zero.map fun z => z.cells.toList)) = some (i.sz, i.by', some i.zero)
  ud : P.underlying t = some i.ud

structure Fx where
  P : Program
  T : Nat → Option TI
  f : FuncId
  fn : Func
  pins : List Nat

structure Fx.Ok (X : Fx) : Prop where
  func : X.P.funcs[X.f]? = some X.fn
  ty : ∀ t i, X.T t = some i → TyOk X.P t i

/-- Blocks that were there are as they were, but for those of F0. -/
structure Kp (F0 : List Nat) (w w' : World) : Prop where
  os : w'.os = w.os
  tape : w'.tape = w.tape
  output : w'.output = w.output
  size : w.heap.size ≤ w'.heap.size
  block : ∀ b, b < w.heap.size → b ∉ F0 → w'.heap[b]? = w.heap[b]?

theorem Kp.refl (F0 : List Nat) (w : World) : Kp F0 w w := ⟨rfl, rfl, rfl, Nat.le_refl _, fun _ _ _ => rfl⟩
theorem Kp.trans {F0 F1 : List Nat} {a b c : World} (h : Kp F0 a b) (k : Kp F1 b c) (hF : ∀ x ∈ F1, x ∈ F0 ∨ a.heap.size ≤ x) : Kp F0 a c :=
  ⟨k.os.trans h.os, k.tape.trans h.tape, k.output.trans h.output, Nat.le_trans h.size k.size, fun x hx hn =>
    (k.block x (Nat.lt_of_lt_of_le hx h.size) (fun hm => (hF x hm).elim hn (by omega))).trans (h.block x hx hn)⟩
theorem Kp.below {w w' : World} (h : Kp [] w w') : Below w.heap.size w w' := ⟨h.os, h.tape, h.output, h.size, fun k hk => h.block k hk (by simp)⟩
theorem Kp.of_below {w w' : World} (h : Below w.heap.size w w') : Kp [] w w' := ⟨h.os, h.tape, h.output, h.size, fun k hk _ => h.block k hk⟩
theorem Kp.alloc (F0 : List Nat) (w : World) (o : Obj) : Kp F0 w (w.alloc o) :=
  ⟨rfl, rfl, rfl, by simp, fun k hk _ => Below.heap_alloc w o k hk⟩

structure Gx where
  w0 : World
  F0 : List Nat
  L0 : Nat → Prop
  args : Array Value
  Post : Value → World → Prop
  hL : ∀ b, L0 b → b < w0.heap.size ∧ b ∉ F0

def Lv (g : Gx) (F : Key → List Nat) : Nat → Prop := fun b => g.L0 b ∨ ∃ k, b ∈ F k

structure Sep (F : Key → List Nat) : Prop where
  nodup : ∀ k, (F k).Nodup
  apart : ∀ k k' b, k ≠ k' → b ∈ F k → b ∉ F k'

def ObRel (w : World) (L : Nat → Prop) (β : Env) (id : Id) : Ob → List Nat → Prop
  | .gone, F => F = []
  | .vec sz ex xs, F => ∃ v, β id = some (v, sz) ∧ Rel w L β (.own sz ex xs) v F
  | .tie v id', F => F = [] ∧ ∃ sz, β id' = some (v, sz)
  | .mp b kk es, F => F = [b] ∧ ∃ arr clock, w.heap[b]? = some (.map arr clock) ∧ arr.toList.map (fun e => (e.key, e.val)) = es.map fun x => (.int kk x.1, x.2)
  | .box cs, F => ∃ b arr T lo hi Fs, β id = some (.pointer (some ⟨b, 0, none⟩), 0) ∧ w.heap[b]? = some (.cells arr T (lo, hi)) ∧
      (∀ k, k < arr.size → ¬ (lo ≤ k ∧ k < hi)) ∧ arr.size = cs.length ∧
      (∀ (k : Nat) (x : AV) (u : Value), cs[k]? = some x → arr[k]? = some u → Rel w L β x u (Fs k)) ∧ F = b :: foots Fs cs.length

structure Inv (X : Fx) (g : Gx) (st : St) (a : Act) (w : World) (β : Env) (F : Key → List Nat) (L : Nat → Prop) : Prop where
  defers : a.defers = []
  size : a.tmps.size = X.fn.ntmps
  kp : Kp g.F0 g.w0 w
  sep : Sep F
  range : ∀ k b, b ∈ F k → b ∈ g.F0 ∨ g.w0.heap.size ≤ b
  slot : ∀ d, ∃ u, (a.tmps[d]? = some u ∨ st.get d = .top) ∧ Rel w L β (st.get d) u (F (.s d))
  obj : ∀ id, ObRel w L β id (st.obj id) (F (.o id))
  pin : ∀ j ∈ X.pins, a.tmps[j]? = g.args[j]?

def SR (X : Fx) (g : Gx) (st : St) (a : Act) (w : World) : Prop := ∃ β F, Inv X g st a w β F (Lv g F)

/-- From these items on the call returns as it should. -/
def Run (X : Fx) (g : Gx) (K : List Item) (st : St) : Prop :=
  X.Ok → ∀ (a : Act) (w : World) (b : Frame) (cs : List Frame), SR X g st a w → b.fn = X.f → b.kind = .normal →
    ∃ v w' fr, g.Post v w' ∧ Steps X.P (lone (b.at a K) cs w) (lone fr cs w') ∧ fr.fn = X.f ∧ fr.leaving X.P w' (.returned v)

/-- The same; what is left to do is not shown. -/
def Nxt {X : Fx} {g : Gx} {K : List Item} (st : St) : Prop := Run X g K st

section control
variable {X : Fx} {g : Gx} {st : St} {k : List Item}

theorem Run.of_step {K K' : List Item} (hs : ∀ (b : Frame) (a : Act) (cs : List Frame) (w : World), step X.P (lone (b.at a K) cs w) = .next (lone (b.at a K') cs w))
    (h : Run X g K' st) : Run X g K st := by
  intro hX a w b cs hI hf hk
  obtain ⟨v, w', fr, hp, hst, h1, h2⟩ := h hX a w b cs hI hf hk
  exact ⟨v, w', fr, hp, .head (hs b a cs w) hst, h1, h2⟩

/-- The steps of control that need no look at a slot. -/
def cstep : List Item → Option (List Item)
  | .code .skip :: k => some k
  | .code (.seq x y) :: k => some (.code x :: .code y :: k)
  | .code (.block id c) :: k => some (.code c :: .inBlock id :: k)
  | .inBlock _ :: k => some k
  | .code (.exit id) :: k => exitTo id k
  | .code (.region _ ops false) :: k => some (.inRegion ops (List.range ops.size) :: k)
  | .inRegion _ [] :: k => some k
  | _ => none

theorem Run.ctl {K K' : List Item} (hc : cstep K = some K') (h : Run X g K' st) : Run X g K st := by
  refine Run.of_step (fun b a cs w => ?_) h
  unfold cstep at hc
  split at hc
  · obtain rfl := Option.some.inj hc; exact step_skip
  · obtain rfl := Option.some.inj hc; exact step_seq
  · obtain rfl := Option.some.inj hc; exact step_block
  · obtain rfl := Option.some.inj hc; exact step_inBlock
  · exact step_exit hc
  · obtain rfl := Option.some.inj hc; exact step_region
  · obtain rfl := Option.some.inj hc; exact step_region_end
  · cases hc

theorem Run.inLoop {c : Code} (h : Run X g (.code c :: .inLoop c :: k) st) : Run X g (.inLoop c :: k) st := Run.of_step (fun _ _ _ _ => step_inLoop) h
theorem Run.code_loop {c : Code} (h : Run X g (.code c :: .inLoop c :: k) st) : Run X g (.code (.loop c) :: k) st := Run.of_step (fun _ _ _ _ => step_loop) h

/-- What is known less of, may be forgotten. -/
structure St.Le (st' st : St) : Prop where
  sl : ∀ d, st'.get d = .top ∨ st'.get d = st.get d
  ob : ∀ id, st'.obj id = .gone ∨ st'.obj id = st.obj id

theorem SR.le {st st' : St} {a : Act} {w : World} (hle : St.Le st' st) (h : SR X g st a w) : SR X g st' a w := by
  classical
  obtain ⟨β, F, h⟩ := h
  let F' : Key → List Nat := fun
    | .s d => if st'.get d = .top then [] else F (.s d)
    | .o id => if st'.obj id = .gone then [] else F (.o id)
  have hsub : ∀ k b, b ∈ F' k → b ∈ F k := by
    intro k b hb
    cases k <;> simp only [F'] at hb <;> split at hb <;> simp_all
  have hL : ∀ b, b < w.heap.size → Lv g F' b → Lv g F b := by
    rintro b - (hb | ⟨k, hb⟩)
    · exact .inl hb
    · exact .inr ⟨k, hsub k b hb⟩
  refine ⟨β, F', h.defers, h.size, h.kp, ⟨?_, ?_⟩, fun k b hb => h.range k b (hsub k b hb), ?_, ?_, h.pin⟩
  · intro k
    cases k <;> simp only [F'] <;> split <;> simp [h.sep.nodup]
  · intro k k' b hk hb hb'
    exact h.sep.apart k k' b hk (hsub _ _ hb) (hsub _ _ hb')
  · intro d
    obtain ⟨u, hu, hr⟩ := h.slot d
    by_cases h0 : st'.get d = .top
    · refine ⟨u, .inr h0, ?_⟩
      simp only [F', if_pos h0]
      rw [h0]; exact .top _ _
    · have h1 := (hle.sl d).resolve_left h0
      refine ⟨u, ?_, ?_⟩
      · rw [h1]; exact hu
      · simp only [F', if_neg h0]
        rw [h1]
        exact hr.keep (M := fun _ => False) (fun _ _ _ => rfl) (fun _ h => h.elim) hL (fun _ _ h => h)
  · intro id
    by_cases h0 : st'.obj id = .gone
    · simp only [F', if_pos h0]
      rw [h0]; rfl
    · have h1 := (hle.ob id).resolve_left h0
      simp only [F', if_neg h0]
      rw [h1]
      have ho := h.obj id
      have keep : ∀ {x v G}, Rel w (Lv g F) β x v G → Rel w (Lv g F') β x v G := fun hr => hr.keep (M := fun _ => False) (fun _ _ _ => rfl) (fun _ h => h.elim) hL (fun _ _ h => h)
      revert ho
      cases st.obj id with
      | gone => exact fun h => h
      | vec sz ex xs => rintro ⟨v, e, hr⟩; exact ⟨v, e, keep hr⟩
      | tie v id' => exact fun h => h
      | mp b kk es => exact fun h => h
      | box cs => rintro ⟨b, arr, T, lo, hi, Fs, e, hb, hf, hs, hr, hF⟩; exact ⟨b, arr, T, lo, hi, Fs, e, hb, hf, hs, fun k x u hx hu => keep (hr k x u hx hu), hF⟩

theorem Run.le {st st' : St} {K : List Item} (hle : St.Le st' st) (h : Run X g K st') : Run X g K st :=
  fun hX a w b cs hI hf hk => h hX a w b cs (hI.le hle) hf hk

def leS : List (Nat × AV) → St → Prop
  | [], _ => True
  | (d, v) :: r, st => st.get d = v ∧ leS r st
def leO : List (Id × Ob) → St → Prop
  | [], _ => True
  | (d, v) :: r, st => st.obj d = v ∧ leO r st

theorem look_leS {l : List (Nat × AV)} {st : St} (h : leS l st) (d : Nat) : lookS l d = .top ∨ lookS l d = st.get d := by
  induction l with
  | nil => exact .inl rfl
  | cons e l ih =>
    obtain ⟨k, v⟩ := e
    obtain ⟨h1, h2⟩ := h
    simp only [lookS]
    cases hb : Nat.beq k d
    · exact ih h2
    · obtain rfl := Nat.eq_of_beq_eq_true hb
      exact .inr h1.symm
theorem look_leO {l : List (Id × Ob)} {st : St} (h : leO l st) (d : Id) : lookO l d = .gone ∨ lookO l d = st.obj d := by
  induction l with
  | nil => exact .inl rfl
  | cons e l ih =>
    obtain ⟨k, v⟩ := e
    obtain ⟨h1, h2⟩ := h
    simp only [lookO]
    cases hb : eqId k d
    · exact ih h2
    · obtain rfl := (eqId_iff _ _).1 hb
      exact .inr h1.symm

theorem St.Le.mk' {st' st : St} (h1 : leS st'.sl st) (h2 : leO st'.ob st) : St.Le st' st := ⟨look_leS h1, look_leO h2⟩

/-- A loop, by what holds at its head, and a measure. -/
theorem Run.loop {ι : Type} {c : Code} (S : ι → St) (I : ι → Prop) (μ : ι → Nat) (i : ι) (hi : I i)
    (hle : St.Le (S i) st)
    (round : ∀ i, I i → (∀ j, I j → μ j < μ i → Nxt (X := X) (g := g) (K := .inLoop c :: k) (S j)) → Run X g (.code c :: .inLoop c :: k) (S i)) :
    Run X g (.code (.loop c) :: k) st := by
  refine Run.le hle (Run.code_loop ?_)
  clear hle
  have key : ∀ m i, I i → μ i < m → Run X g (.code c :: .inLoop c :: k) (S i) := by
    intro m
    induction m with
    | zero => intro i _ h; omega
    | succ m ih => exact fun i hi hm => round i hi fun j hj hlt => Run.inLoop (ih j hj (by omega))
  exact key (μ i + 1) i hi (by omega)

theorem Inv.slotv {a : Act} {w : World} {β : Env} {F : Key → List Nat} {L : Nat → Prop} (h : Inv X g st a w β F L) {d : Nat} (hd : st.get d ≠ .top) :
    Rel w L β (st.get d) (a.tmps.getD d undef) (F (.s d)) := by
  obtain ⟨u, hu, hr⟩ := h.slot d
  have := hu.resolve_right hd
  rw [Array.getD_eq_getD_getElem?, this]
  exact hr

theorem Run.cond {d : Nat} {x y : Code} {b : Bool} (hb : st.get d = .lit (.bool b))
    (ht : b = true → Run X g (.code x :: k) st) (hf : b = false → Run X g (.code y :: k) st) : Run X g (.code (.cond (.tmp d) x y) :: k) st := by
  intro hX a w fr cs hI h1 h2
  have hv : a.eval (.tmp d) = .bool b := by
    obtain ⟨β, F, hI⟩ := hI
    have := hI.slotv (d := d) (by rw [hb]; simp)
    rw [hb] at this
    generalize hu : a.tmps.getD d undef = u at this
    generalize F (.s d) = G at this
    cases this
    exact hu
  cases b with
  | true =>
    obtain ⟨v, w', fr', hp, hst, h3, h4⟩ := ht rfl hX a w fr cs hI h1 h2
    exact ⟨v, w', fr', hp, .head (step_cond hv) hst, h3, h4⟩
  | false =>
    obtain ⟨v, w', fr', hp, hst, h3, h4⟩ := hf rfl hX a w fr cs hI h1 h2
    exact ⟨v, w', fr', hp, .head (step_cond hv) (by simpa using hst), h3, h4⟩

end control

end Go.Av
