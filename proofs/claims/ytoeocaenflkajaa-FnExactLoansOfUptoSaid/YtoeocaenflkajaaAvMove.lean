/- Values that own something go from slot to slot. -/
import Derived.Test.YtoeocaenflkajaaAvOwn
namespace Go.Av
open Go Go.RowKit

section
variable {X : Fx} {g : Gx} {st : St} {a : Act} {w w' : World} {β : Env} {F : Key → List Nat} {L : Nat → Prop} {k : List Item}
variable {ops : Array Oper} {i : Nat} {rest : List Nat} {o : Oper}

/-- The value in a slot is known otherwise; it owns no more than it did. -/
theorem Inv.conv (h : Inv X g st a w β F L) {d : Nat} {v : AV} {u : Value} {G : List Nat} (hu : a.tmps[d]? = some u ∨ v = .top) (hr : Rel w L β v u G) (hG : ∀ b ∈ G, b ∈ F (.s d)) (hn : G.Nodup) :
    Inv X g (st.put d v) a w β (updF F (.s d) G) L := by
  have sub : ∀ k b, b ∈ updF F (.s d) G k → b ∈ F k := by
    intro k b hb
    by_cases e : k = .s d
    · subst e; rw [updF_same] at hb; exact hG b hb
    · rw [updF_ne _ e] at hb; exact hb
  refine ⟨h.defers, h.size, h.kp, ⟨fun k => ?_, fun k k' b hne hb hb' => h.sep.apart k k' b hne (sub _ _ hb) (sub _ _ hb')⟩, fun k b hb => h.range k b (sub _ _ hb), fun j => ?_, fun id => ?_, h.pin⟩
  · by_cases e : k = .s d
    · subst e; rw [updF_same]; exact hn
    · rw [updF_ne _ e]; exact h.sep.nodup k
  · rw [St.get_put]
    by_cases hj : d = j
    · subst hj
      rw [if_pos rfl, updF_same]
      exact ⟨u, hu, hr⟩
    · rw [if_neg hj, updF_ne _ (by intro e; injection e with e; exact hj e.symm)]
      exact h.slot j
  · rw [St.obj_put, updF_ne _ (by intro e; cases e)]
    exact h.obj id

theorem Inv.slotget (h : Inv X g st a w β F L) {d : Nat} (hd : st.get d ≠ .top) : a.tmps[d]? = some (a.tmps.getD d undef) := by
  obtain ⟨u, hu, _⟩ := h.slot d
  have := hu.resolve_right hd
  rw [Array.getD_eq_getD_getElem?, this]; rfl

/-- 'd := s': the value goes over. -/
theorem SR.take {s d : Nat} (hs : st.get s ≠ .top) (hsd : s ≠ d) (hd : d < X.fn.ntmps) (hp : d ∉ X.pins) (h : SR X g st a w) :
    SR X g ((st.put s .top).put d (st.get s)) (a.put (some d) (a.tmps.getD s undef)) w := by
  obtain ⟨β, F, h⟩ := h
  have hr := h.slotv hs
  refine ⟨β, _, (((h.drop s).put hd hp hr (h.sep.nodup _) ?_ (fun b hb => h.range _ b hb))).setL fun b _ hb => ?_⟩
  · intro k hk b hb hb'
    by_cases e : k = .s s
    · subst e; rw [updF_same] at hb'; simp at hb'
    · rw [updF_ne _ e] at hb'; exact h.sep.apart _ _ b (Ne.symm e) hb hb'
  · refine Lv_sub hb (fun k hk => ?_) .inl
    by_cases e : k = .s d
    · subst e; rw [updF_same] at hk; exact Lv_of hk
    · rw [updF_ne _ e] at hk
      by_cases e2 : k = .s s
      · subst e2; rw [updF_same] at hk; simp at hk
      · rw [updF_ne _ e2] at hk; exact Lv_of hk

/-- A component of a tuple goes over. -/
theorem SR.takeTup {s d j : Nat} {vs : List AV} {x : AV} (hs : st.get s = .tup vs) (hj : vs[j]? = some x) (hsd : s ≠ d) (hd : d < X.fn.ntmps) (hp : d ∉ X.pins) (h : SR X g st a w) :
    ∃ u, (Instr.extract (a.tmps.getD s undef) j).run X.P w = .ok u w ∧ SR X g ((st.put s (.tup (vs.set j .top))).put d x) (a.put (some d) u) w := by
  obtain ⟨β, F, h⟩ := h
  have hne : st.get s ≠ .top := by rw [hs]; simp
  have hr := h.slotv hne
  rw [hs] at hr
  have hget := h.slotget hne
  generalize a.tmps.getD s undef = u at hr hget
  generalize hF : F (.s s) = G at hr
  cases hr with
  | tup _ _ vals Fs hl hrr =>
  have hj' : j < vs.length := (List.getElem?_eq_some_iff.1 hj).1
  have hjv : j < vals.size := by omega
  have hnd := h.sep.nodup (.s s)
  rw [hF] at hnd
  have hfn := foots_nodup hnd
  let Fs2 : Nat → List Nat := fun k => if k = j then [] else Fs k
  have hsub : ∀ b ∈ foots Fs2 (vs.set j .top).length, b ∈ F (.s s) := by
    intro b hb
    rw [hF]
    obtain ⟨k, hk, hb⟩ := mem_foots.1 hb
    simp only [Fs2] at hb
    split at hb
    · simp at hb
    · exact foots_sub (by simpa using hk) hb
  refine ⟨vals[j], by simp [Instr.extract, Array.getElem?_eq_getElem hjv], ?_⟩
  have h1 := h.conv (d := s) (v := .tup (vs.set j .top)) (u := .tuple vals) (G := foots Fs2 (vs.set j .top).length) (.inl hget) (.tup _ _ _ Fs2 (by simpa using hl) (by
    intro k y c hy hc
    by_cases hk : k = j
    · subst hk
      rw [List.getElem?_set_self hj'] at hy
      cases hy
      simp only [Fs2, if_pos]
      exact .top _ _
    · rw [List.getElem?_set_ne (Ne.symm hk)] at hy
      simp only [Fs2, if_neg hk]
      exact hrr k y c hy hc)) hsub (by
    refine nodup_foots fun k hk => ⟨?_, fun k' hk' hne b hb hb' => ?_⟩
    · simp only [Fs2]; split; simp; exact (hfn k (by simpa using hk)).1
    · simp only [Fs2] at hb hb'
      split at hb
      · simp at hb
      · split at hb'
        · simp at hb'
        · exact (hfn k (by simpa using hk)).2 k' (by simpa using hk') hne b hb hb')
  have hx := hrr j x _ hj (Array.getElem?_eq_getElem hjv)
  refine ⟨β, _, (h1.put hd hp hx (hfn j hj').1 ?_ (fun b hb => h.range (.s s) b (by rw [hF]; exact foots_sub hj' hb))).setL fun b _ hb => ?_⟩
  · intro k hk b hb hb'
    by_cases e : k = .s s
    · subst e
      rw [updF_same] at hb'
      obtain ⟨k', hk', hb'⟩ := mem_foots.1 hb'
      simp only [Fs2] at hb'
      split at hb'
      · simp at hb'
      · rename_i hne'
        exact (hfn j hj').2 k' (by simpa using hk') (Ne.symm hne') b hb hb'
    · rw [updF_ne _ e] at hb'
      exact h.sep.apart _ _ b (Ne.symm e) (by rw [hF]; exact foots_sub hj' hb) hb'
  · refine Lv_sub hb (fun k hk => ?_) .inl
    by_cases e : k = .s d
    · subst e; rw [updF_same] at hk; exact Lv_of (k := .s s) (by rw [hF]; exact foots_sub hj' hk)
    · rw [updF_ne _ e] at hk
      by_cases e2 : k = .s s
      · subst e2; rw [updF_same] at hk; exact Lv_of (hsub b hk)
      · rw [updF_ne _ e2] at hk; exact Lv_of hk

/-- Small steps, those too that move what owns something. -/
def pstep2 (X : Fx) (K : List Item) (st : St) : Option (List Item × St) :=
  match pstep X K st with
  | some r => some r
  | none => match K with
    | .inRegion ops (i :: rest) :: k => match ops[i]? with
      | some o => match guardOf ops st o, o.dst with
        | some true, some d => match o.op with
          | .assign (.tmp s) => bif !(isTop (st.get s)) && !(Nat.beq s d) && Nat.blt d X.fn.ntmps && !(X.pins.contains d) then some (.inRegion ops rest :: k, (st.put s .top).put d (st.get s)) else none
          | .move (.tmp s) => match st.get s with
            | .own sz ex xs => bif st.nrf (s, 0) && Nat.blt d X.fn.ntmps && !(X.pins.contains d) then
                some (.inRegion ops rest :: k, ((st.setObj (s, 0) (.vec sz ex xs)).put s (.vec (s, 0) 0 xs.length)).put d (.vec (s, 0) 0 xs.length)) else none
            | .tup vs => bif !(Nat.beq s d) && Nat.blt d X.fn.ntmps && !(X.pins.contains d) then some (.inRegion ops rest :: k, (st.put s .top).put d (.tup vs)) else none
            | _ => none
          | .extract (.tmp s) j => match st.get s with
            | .tup vs => match vs[j]? with
              | some x => bif !(Nat.beq s d) && Nat.blt d X.fn.ntmps && !(X.pins.contains d) then some (.inRegion ops rest :: k, (st.put s (.tup (vs.set j .top))).put d x) else none
              | none => none
            | _ => none
          | _ => none
        | _, _ => none
      | none => none
    | _ => none

theorem isTop_ne {x : AV} (h : isTop x = false) : x ≠ .top := by rintro rfl; cases h
theorem beq_ne {a b : Nat} (h : Nat.beq a b = false) : a ≠ b := by rintro rfl; simp at h

theorem Run.go {K K' : List Item} {st st' : St} (hs : pstep2 X K st = some (K', st')) (h : Run X g K' st') : Run X g K st := by
  unfold pstep2 at hs
  split at hs
  · rename_i r hr
    cases hs
    exact Run.step hr h
  · split at hs
    · rename_i ops i rest k
      split at hs
      · rename_i o ho
        split at hs
        · rename_i d hg hd
          have hw := fun a w hI => guardOf_ok (X := X) (g := g) hg a w hI
          split at hs
          · rename_i s hop
            by_cases hc : (!(isTop (st.get s)) && !(Nat.beq s d) && Nat.blt d X.fn.ntmps && !(X.pins.contains d)) = true
            · rw [hc] at hs
              simp only [cond_true, Option.some.injEq, Prod.mk.injEq] at hs
              obtain ⟨rfl, rfl⟩ := hs
              simp only [Bool.and_eq_true, Bool.not_eq_true'] at hc
              obtain ⟨⟨⟨h1, h2⟩, h3⟩, h4⟩ := hc
              refine Run.op ho hw ?_ h
              intro hX a w hI
              refine ⟨_, w, .inl ?_, by rw [hd]; exact hI.take (isTop_ne h1) (beq_ne h2) (blt_lt h3) (contains_iff h4)⟩
              simp [execOp, hop, Act.eval]
            · simp only [Bool.not_eq_true] at hc; rw [hc] at hs; simp at hs
          · rename_i s hop
            split at hs
            · rename_i sz ex xs he
              by_cases hc : (st.nrf (s, 0) && Nat.blt d X.fn.ntmps && !(X.pins.contains d)) = true
              · rw [hc] at hs
                simp only [cond_true, Option.some.injEq, Prod.mk.injEq] at hs
                obtain ⟨rfl, rfl⟩ := hs
                simp only [Bool.and_eq_true, Bool.not_eq_true'] at hc
                obtain ⟨⟨h1, h3⟩, h4⟩ := hc
                refine Run.op ho hw ?_ h
                intro hX a w hI
                obtain ⟨β, F, hI'⟩ := hI.unpack he h1
                refine ⟨a.tmps.getD s undef, w, .inl (by simp [execOp, hop, Act.eval]), ?_⟩
                rw [hd]
                have hsl := hI'.slotv (d := s) (by rw [St.get_put, if_pos rfl]; simp)
                rw [St.get_put, if_pos rfl] at hsl
                exact hI'.putv (blt_lt h3) (contains_iff h4) (by have := hsl.pl_nil rfl; rw [this] at hsl; exact hsl)
              · simp only [Bool.not_eq_true] at hc; rw [hc] at hs; simp at hs
            · rename_i vs he
              by_cases hc : (!(Nat.beq s d) && Nat.blt d X.fn.ntmps && !(X.pins.contains d)) = true
              · rw [hc] at hs
                simp only [cond_true, Option.some.injEq, Prod.mk.injEq] at hs
                obtain ⟨rfl, rfl⟩ := hs
                simp only [Bool.and_eq_true, Bool.not_eq_true'] at hc
                obtain ⟨⟨h2, h3⟩, h4⟩ := hc
                refine Run.op ho hw ?_ h
                intro hX a w hI
                have := hI.take (s := s) (d := d) (by rw [he]; simp) (beq_ne h2) (blt_lt h3) (contains_iff h4)
                rw [he] at this
                refine ⟨_, w, .inl ?_, by rw [hd]; exact this⟩
                simp [execOp, hop, Act.eval]
              · simp only [Bool.not_eq_true] at hc; rw [hc] at hs; simp at hs
            · cases hs
          · rename_i s j hop
            split at hs
            · rename_i vs he
              split at hs
              · rename_i x hx
                by_cases hc : (!(Nat.beq s d) && Nat.blt d X.fn.ntmps && !(X.pins.contains d)) = true
                · rw [hc] at hs
                  simp only [cond_true, Option.some.injEq, Prod.mk.injEq] at hs
                  obtain ⟨rfl, rfl⟩ := hs
                  simp only [Bool.and_eq_true, Bool.not_eq_true'] at hc
                  obtain ⟨⟨h2, h3⟩, h4⟩ := hc
                  refine Run.op ho hw ?_ h
                  intro hX a w hI
                  obtain ⟨u, hu, hI'⟩ := hI.takeTup he hx (beq_ne h2) (blt_lt h3) (contains_iff h4)
                  refine ⟨u, w, .inl ?_, by rw [hd]; exact hI'⟩
                  simp only [execOp, hop, Act.eval, Sem.run_bind, hu, Result.andThen_ok]
                  rfl
                · simp only [Bool.not_eq_true] at hc; rw [hc] at hs; simp at hs
              · cases hs
            · cases hs
          · cases hs
        · cases hs
      · cases hs
    · cases hs

/-- Object id goes back into slot d. -/
theorem Run.pack {K : List Item} (d : Nat) {sz : Nat} {ex : Bool} {xs : List AV} {id : Id} {n : Nat} (hd : st.get d = .vec id 0 n) (ho : st.obj id = .vec sz ex xs) (hn : n = xs.length)
    (h : Run X g K ((st.setObj id .gone).put d (.own sz ex xs))) : Run X g K st := Run.ghost (fun _ _ hI => hI.pack hd ho hn) h

theorem Run.unpack {K : List Item} (d : Nat) {sz : Nat} {ex : Bool} {xs : List AV} (hd : st.get d = .own sz ex xs) (hn : st.nrf (d, 0) = true)
    (h : Run X g K ((st.setObj (d, 0) (.vec sz ex xs)).put d (.vec (d, 0) 0 xs.length))) : Run X g K st := Run.ghost (fun _ _ hI => hI.unpack hd hn) h

theorem Run.freeze {K : List Item} (d : Nat) {v v' : AV} (hd : st.get d = v) (hnt : isTop v = false) (hv : v.frz = v') (h : Run X g K (st.put d v')) : Run X g K st :=
  Run.ghost (fun _ _ hI => by have := hI.freeze (d := d) (by rw [hd]; exact isTop_ne hnt); rw [hd, hv] at this; exact this) h

end

theorem fill_get {α : Type} (A : List α) (z : α) (j n : Nat) (hA : A.length = j) (h : j < n) : (A ++ List.replicate (n - j) z)[j]? = some z := by
  rw [List.getElem?_append_right (by omega), hA, Nat.sub_self, List.getElem?_replicate, if_pos (by omega)]

theorem fill_set {α : Type} (A : List α) (z v : α) (j n : Nat) (hA : A.length = j) (h : j < n) : (A ++ List.replicate (n - j) z).set j v = (A ++ [v]) ++ List.replicate (n - (j + 1)) z := by
  rw [List.set_append, if_neg (by omega), hA, Nat.sub_self, show n - j = (n - (j + 1)) + 1 by omega, List.replicate_succ, List.set_cons_zero, List.append_assoc]
  rfl

end Go.Av
