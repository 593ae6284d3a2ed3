/- Contracts of functions; how a body is entered and left; ghost steps. -/
import Derived.Test.YtoeocaenflkajaaAvOps
import Derived.Laws.Sem
import Derived.Laws.Entries
namespace Go.Av
open Go Go.RowKit

/-- A call of f with such arguments returns such a result, and leaves (of what it was handed to keep) such arguments behind. -/
structure Ct (P : Program) (f : FuncId) (args : List AV) (res : AV) (outs : List AV) : Prop where
  enters : (P.funcs[f]?).map (fun fn => (fn.body.isSome, fn.name == "runtime.NumGoroutine")) = some (true, false)
  calls : ∀ (w : World) (L : Nat → Prop) (vs : Array Value) (F : List Nat), (∀ b, L b → b < w.heap.size ∧ b ∉ F) → F.Nodup →
    Rel w (fun b => L b ∨ b ∈ F) noEnv (.tup args) (.tuple vs) F →
    Calls P f vs w fun e w' => ∃ v F', e = .returned v ∧ Kp F w w' ∧ F'.Nodup ∧ (∀ b ∈ F', b ∈ F ∨ w.heap.size ≤ b) ∧
      Rel w' (fun b => L b ∨ b ∈ F') noEnv (.tup (res :: outs)) (.tuple (#[v] ++ vs.extract 0 outs.length)) F'

def initS : List AV → Nat → List (Nat × AV)
  | [], _ => []
  | x :: xs, i => (i, x) :: initS xs (i + 1)

theorem look_initS (xs : List AV) (i d : Nat) : lookS (initS xs i) d = if i ≤ d ∧ d < i + xs.length then xs.getD (d - i) .top else .top := by
  induction xs generalizing i with
  | nil => simp [initS, lookS]
  | cons x xs ih =>
    simp only [initS, lookS]
    cases hb : Nat.beq i d
    · have : i ≠ d := fun e => by subst e; simp at hb
      simp only [cond_false]
      rw [ih]
      by_cases h : i + 1 ≤ d ∧ d < i + 1 + xs.length
      · rw [if_pos h, if_pos (by simp; omega)]
        rw [show d - i = (d - (i + 1)) + 1 by omega, List.getD_cons_succ]
      · rw [if_neg h, if_neg (by simp; omega)]
    · obtain rfl := Nat.eq_of_beq_eq_true hb
      simp

/-- The post of a body. -/
def PostOf (g : Gx) (res : AV) (outs : List AV) (v : Value) (w' : World) : Prop :=
  ∃ F', Kp g.F0 g.w0 w' ∧ F'.Nodup ∧ (∀ b ∈ F', b ∈ g.F0 ∨ g.w0.heap.size ≤ b) ∧
    Rel w' (fun b => g.L0 b ∨ b ∈ F') noEnv (.tup (res :: outs)) (.tuple (#[v] ++ g.args.extract 0 outs.length)) F'

theorem foots_nodup {Fs : Nat → List Nat} {n : Nat} (h : (foots Fs n).Nodup) : ∀ k, k < n → (Fs k).Nodup ∧ ∀ k', k' < n → k ≠ k' → ∀ b ∈ Fs k, b ∉ Fs k' := by
  induction n with
  | zero => intro k hk; omega
  | succ n ih =>
    unfold foots at h
    rw [List.range_succ, List.flatMap_append, List.nodup_append] at h
    obtain ⟨h1, h2, h3⟩ := h
    simp only [List.flatMap_cons, List.flatMap_nil, List.append_nil] at h2 h3
    intro k hk
    by_cases e : k = n
    · subst e
      refine ⟨h2, fun k' hk' hne b hb hb' => ?_⟩
      exact h3 b (mem_foots.2 ⟨k', by omega, hb'⟩) b hb rfl
    · obtain ⟨i1, i2⟩ := ih h1 k (by omega)
      refine ⟨i1, fun k' hk' hne b hb hb' => ?_⟩
      by_cases e' : k' = n
      · subst e'; exact h3 b (mem_foots.2 ⟨k, by omega, hb⟩) b hb' rfl
      · exact i2 k' (by omega) hne b hb hb'

theorem nodup_foots {Fs : Nat → List Nat} {n : Nat} (h : ∀ k, k < n → (Fs k).Nodup ∧ ∀ k', k' < n → k ≠ k' → ∀ b ∈ Fs k, b ∉ Fs k') : (foots Fs n).Nodup := by
  induction n with
  | zero => simp [foots]
  | succ n ih =>
    unfold foots
    rw [List.range_succ, List.flatMap_append, List.nodup_append]
    refine ⟨ih fun k hk => ⟨(h k (by omega)).1, fun k' hk' => (h k (by omega)).2 k' (by omega)⟩, ?_, ?_⟩
    · simpa using (h n (by omega)).1
    · intro b hb b' hb' e
      subst e
      obtain ⟨k, hk, hbk⟩ := mem_foots.1 hb
      simp at hb'
      exact (h k (by omega)).2 n (by omega) (by omega) b hbk hb'

/-- A body that is walked from its arguments on gives the contract. -/
theorem Ct.intro (X : Fx) (hX : X.Ok) {c : Code} (hb : X.fn.body = some c) (hn : (X.fn.name == "runtime.NumGoroutine") = false) {args : List AV} {res : AV} {outs : List AV}
    (hargs' : Nat.ble args.length X.fn.ntmps = true) (hpins' : (X.pins.all fun j => Nat.blt j args.length) = true)
    (h : ∀ g : Gx, g.Post = PostOf g res outs → Run X g [.code c] ⟨initS args 0, []⟩) : Ct X.P X.f args res outs := by
  have hargs : args.length ≤ X.fn.ntmps := Nat.le_of_ble_eq_true hargs'
  have hpins : ∀ j ∈ X.pins, j < args.length := fun j hj => by
    have := Nat.le_of_ble_eq_true (List.all_eq_true.1 hpins' j hj)
    omega
  refine ⟨by rw [hX.func]; simp [hb, hn], fun w L vs F hL hF hr cs => ?_⟩
  cases hr with
  | tup _ _ _ Fs hl hr =>
  let g : Gx := ⟨w, foots Fs args.length, L, vs, fun v w' => ∃ F' : List Nat, Kp (foots Fs args.length) w w' ∧ F'.Nodup ∧ (∀ b ∈ F', b ∈ foots Fs args.length ∨ w.heap.size ≤ b) ∧
    Rel w' (fun b => L b ∨ b ∈ F') noEnv (.tup (res :: outs)) (.tuple (#[v] ++ vs.extract 0 outs.length)) F', hL⟩
  have hnd := foots_nodup hF
  let b : Frame := { (default : Frame) with fn := X.f, kind := .normal }
  let a : Act := { tmps := vs ++ Array.replicate (X.fn.ntmps - vs.size) undef, defers := [] }
  have henter : Frame.enter X.P X.f vs .normal = b.at a [.code c] := by
    simp [Frame.enter, Frame.at, hX.func, hb, b, a]
  have hsize : a.tmps.size = X.fn.ntmps := by simp [a]; omega
  have hget : ∀ d, d < args.length → a.tmps[d]? = vs[d]? := fun d hd => by
    simp only [a]; rw [Array.getElem?_append_left (by omega)]
  have hSR : SR X g ⟨initS args 0, []⟩ a w := by
    let FF : Key → List Nat := fun | .s d => if d < args.length then Fs d else [] | .o _ => []
    have hLL : ∀ b, Lv g FF b → (L b ∨ b ∈ foots Fs args.length) := by
      rintro b (hb | ⟨k, hb⟩)
      · exact .inl hb
      · cases k with
        | s d =>
          simp only [FF] at hb
          split at hb
          · rename_i hd; exact .inr (mem_foots.2 ⟨d, hd, hb⟩)
          · simp at hb
        | o id => simp [FF] at hb
    refine ⟨noEnv, FF, rfl, hsize, Kp.refl _ _, ⟨?_, ?_⟩, ?_, ?_, ?_, ?_⟩
    · intro k
      cases k with
      | s d => simp only [FF]; split; exact (hnd d (by assumption)).1; simp
      | o id => simp [FF]
    · intro k k' b hne hb hb'
      cases k with
      | o id => simp [FF] at hb
      | s d =>
        cases k' with
        | o id => simp [FF] at hb'
        | s d' =>
          simp only [FF] at hb hb'
          split at hb
          · split at hb'
            · exact (hnd d (by assumption)).2 d' (by assumption) (fun e => hne (by rw [e])) b hb hb'
            · simp at hb'
          · simp at hb
    · intro k b hb
      cases k with
      | o id => simp [FF] at hb
      | s d =>
        simp only [FF] at hb
        split at hb
        · rename_i hd; exact .inl (mem_foots.2 ⟨d, hd, hb⟩)
        · simp at hb
    · intro d
      show ∃ u, _ ∧ Rel w _ noEnv (lookS (initS args 0) d) u (FF (.s d))
      rw [show St.get ⟨initS args 0, []⟩ d = lookS (initS args 0) d from rfl, look_initS]
      simp only [Nat.zero_le, true_and, Nat.zero_add, Nat.sub_zero, FF]
      by_cases hd : d < args.length
      · rw [if_pos hd, if_pos hd]
        have e1 : args[d]? = some (args.getD d .top) := by rw [List.getD_eq_getElem?_getD, List.getElem?_eq_getElem hd]; rfl
        have e2 : vs[d]? = some (vs.getD d undef) := by rw [Array.getD_eq_getD_getElem?, Array.getElem?_eq_getElem (by omega)]; rfl
        refine ⟨vs.getD d undef, .inl (by rw [hget d hd, e2]), ?_⟩
        exact (hr d _ _ e1 e2).keep (M := fun _ => False) (fun _ _ _ => rfl) (fun _ h => h.elim) (fun b _ hb => hLL b hb) (fun _ _ h => h)
      · rw [if_neg hd, if_neg hd]
        exact ⟨undef, .inr rfl, .top _ _⟩
    · intro id; rfl
    · intro j hj; exact hget j (hpins j hj)
  obtain ⟨v, w', fr, ⟨F', hp⟩, hst, h1, h2⟩ := h g rfl hX a w b cs hSR rfl rfl
  rw [← henter] at hst
  exact ⟨.returned v, w', fr, ⟨v, F', rfl, hp⟩, hst, h1, h2⟩

/-! ### The return -/

def isAggD : TypeDesc → Bool
  | .struct _ | .array _ _ => true
  | _ => false

theorem un_run {P : Program} {t : TypeId} {i : TI} (h : TyOk P t i) (w : World) : (underlying t).run P w = .ok i.ud w := run_underlying h.ud w

theorem isAgg_run {P : Program} {t : TypeId} {i : TI} (h : TyOk P t i) (w : World) : (isAgg t).run P w = .ok (isAggD i.ud) w := by
  simp only [isAgg, Sem.run_bind, un_run h, Result.andThen_ok]
  cases i.ud <;> rfl

theorem sizeOf_run {P : Program} {t : TypeId} {i : TI} (h : TyOk P t i) (w : World) : (sizeOf t).run P w = .ok i.sz w := by
  obtain ⟨j, hj, he⟩ := Option.map_eq_some_iff.1 h.info
  simp only [Prod.mk.injEq] at he
  simp [sizeOf, typeInfo, hj, he.1]

theorem zero_run {P : Program} {t : TypeId} {i : TI} (h : TyOk P t i) (w : World) : ∃ z, (zeroValue t).run P w = .ok z w ∧ z.cells.toList = i.zero := by
  obtain ⟨j, hj, he⟩ := Option.map_eq_some_iff.1 h.info
  simp only [Prod.mk.injEq] at he
  obtain ⟨z, hz, hc⟩ := Option.map_eq_some_iff.1 he.2.2
  exact ⟨z, by simp [zeroValue, typeInfo, hj, hz], hc⟩

end Go.Av
