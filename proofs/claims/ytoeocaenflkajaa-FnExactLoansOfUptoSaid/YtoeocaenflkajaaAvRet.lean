/- The return; ghost steps. -/
import Derived.Test.YtoeocaenflkajaaAvCall
namespace Go.Av
open Go Go.RowKit

theorem Rel.sub {w : World} {L L' : Nat → Prop} {β : Env} {x : AV} {v : Value} {F : List Nat} (h : Rel w L β x v F) (hLL : ∀ b, b < w.heap.size → L' b → L b) : Rel w L' β x v F :=
  h.keep (M := fun _ => False) (fun _ _ _ => rfl) (fun _ h => h.elim) hLL (fun _ _ h => h)

theorem Rel.nodup_cells {w : World} {L : Nat → Prop} {β : Env} {cs : List AV} {vals : Array Value} {Fs : Nat → List Nat} (hl : cs.length = vals.size)
    (hr : ∀ (k : Nat) (x : AV) (u : Value), cs[k]? = some x → vals[k]? = some u → Rel w L β x u (Fs k)) : Rel w L β (.agg cs) (.agg vals) (foots Fs cs.length) := .agg _ _ _ _ hl hr

def resOf (tmps : Array Value) : ResultVar → Sem Value
  | .tmp t => pure (tmps.getD t undef)
  | .cell a t => do loadVar t (← asAddr (tmps.getD a undef))

/-- What a result variable holds. -/
def St.rv (st : St) (T : Nat → Option TI) : ResultVar → AV
  | .tmp t => st.get t
  | .cell a t => match st.get a with
    | .bp id 0 => match st.obj id with
      | .box cs => match T t with
        | some i => bif isAggD i.ud && Nat.beq cs.length i.sz then .agg cs else .top
        | none => .top
      | _ => .top
    | _ => .top

def St.rkey (st : St) : ResultVar → Key
  | .tmp t => .s t
  | .cell a _ => match st.get a with
    | .bp id _ => .o id
    | _ => .s a

theorem loadCells_arr {P : Program} {w : World} {b : Nat} {arr : Array Value} {T : TypeId} {fr : Nat × Nat} (hb : w.heap[b]? = some (.cells arr T fr)) :
    (loadCells ⟨b, 0, none⟩ arr.size).run P w = .ok arr w := by
  have := run_loadCells_list (P := P) (w := w) ⟨b, 0, none⟩ arr.toList (fun j v hv => by
    have : (⟨b, 0, none⟩ : Addr).add j = ⟨b, j, none⟩ := by unfold Addr.add; split <;> simp_all
    rw [this]; simp [World.cell?, hb]; simpa using hv)
  simpa using this

section
variable {X : Fx} {g : Gx} {st : St} {a : Act} {w : World} {β : Env} {F : Key → List Nat} {L : Nat → Prop}

theorem rv_ok (hX : X.Ok) (h : Inv X g st a w β F L) (rv : ResultVar) (hne : st.rv X.T rv ≠ .top) (hf : (st.rv X.T rv).free = true) :
    ∃ u G, (resOf a.tmps rv).run X.P w = .ok u w ∧ Rel w L noEnv (st.rv X.T rv) u G ∧ (∀ b ∈ G, b ∈ F (st.rkey rv)) ∧ G.Nodup := by
  cases rv with
  | tmp t => exact ⟨_, _, rfl, (h.slotv hne).env _ hf, fun _ hb => hb, h.sep.nodup _⟩
  | cell c t =>
    simp only [St.rv] at hne hf ⊢
    generalize hc : st.get c = vc at hne hf
    cases vc with
    | bp id j =>
      cases j with
      | succ j => exact absurd rfl hne
      | zero =>
        simp only at hne hf ⊢
        have hs := h.slotv (d := c) (by rw [hc]; simp)
        have ho := h.obj id
        generalize hob : st.obj id = ob at hne hf ho
        cases ob with
        | gone => exact absurd rfl hne
        | vec => exact absurd rfl hne
        | tie => exact absurd rfl hne
        | mp => exact absurd rfl hne
        | box cs =>
          simp only at hne hf ⊢
          generalize hT : X.T t = ti at hne hf
          cases ti with
          | none => exact absurd rfl hne
          | some i =>
            simp only at hne hf ⊢
            by_cases hcond : (isAggD i.ud && Nat.beq cs.length i.sz) = true
            · simp only [hcond, cond_true] at hne hf ⊢
              simp only [Bool.and_eq_true] at hcond
              have hty := hX.ty t i hT
              obtain ⟨b, arr, T, lo, hi, Fs, hβ, hb, hfz, hs2, hr, hF⟩ := ho
              rw [hc] at hs
              generalize hu : a.tmps.getD c undef = u at hs
              generalize F (.s c) = G at hs
              cases hs with
              | bp _ _ _ b' hβ' =>
              rw [hβ] at hβ'
              injection hβ' with hβ'
              injection hβ' with hβ' _
              injection hβ' with hβ'
              injection hβ' with hβ'
              injection hβ' with hβ' _ _
              subst hβ'
              have hsz : i.sz = arr.size := by rw [hs2]; exact (Nat.eq_of_beq_eq_true hcond.2).symm
              refine ⟨.agg arr, foots Fs cs.length, ?_, ?_, ?_, ?_⟩
              · simp only [resOf, hu, asAddr, Sem.run_bind, loadVar]
                simp only [Sem.run_pure, Result.andThen_ok, Sem.run_bind, isAgg_run hty, hcond.1, if_true, sizeOf_run hty, hsz, loadCells_arr hb]
              · exact (Rel.agg β cs arr Fs (by omega) hr).env _ hf
              · intro b' hb'
                simp only [St.rkey, hc]
                rw [hF]
                exact List.mem_cons_of_mem _ hb'
              · have := h.sep.nodup (.o id)
                rw [hF] at this
                exact (List.nodup_cons.1 this).2
            · simp only [Bool.not_eq_true] at hcond
              simp only [hcond, cond_false] at hne
              exact absurd rfl hne
    | _ => exact absurd rfl hne

theorem rvs_ok (hX : X.Ok) (h : Inv X g st a w β F L) (l : List ResultVar) (hne : ∀ rv ∈ l, st.rv X.T rv ≠ .top ∧ (st.rv X.T rv).free = true) (hk : (l.map st.rkey).Nodup) :
    ∃ (us : List Value) (Gs : Nat → List Nat), (l.mapM (resOf a.tmps)).run X.P w = .ok us w ∧ us.length = l.length ∧
      (∀ (k : Nat) (x : AV) (u : Value), (l.map (st.rv X.T))[k]? = some x → us[k]? = some u → Rel w L noEnv x u (Gs k)) ∧
      (∀ k rv, l[k]? = some rv → ∀ b ∈ Gs k, b ∈ F (st.rkey rv)) ∧ (∀ k, (Gs k).Nodup) ∧ (∀ k, l.length ≤ k → Gs k = []) := by
  induction l with
  | nil => exact ⟨[], fun _ => [], rfl, rfl, by simp, by simp, by simp, by simp⟩
  | cons rv l ih =>
    obtain ⟨u, G, hu, hr, hG, hnd⟩ := rv_ok hX h rv (hne rv (by simp)).1 (hne rv (by simp)).2
    obtain ⟨us, Gs, h1, h2, h3, h4, h5, h6⟩ := ih (fun rv' h' => hne rv' (by simp [h'])) (by simp at hk; exact hk.2)
    refine ⟨u :: us, fun k => match k with | 0 => G | k + 1 => Gs k, ?_, by simp [h2], ?_, ?_, ?_, ?_⟩
    · simp only [List.mapM_cons, Sem.run_bind, hu, Result.andThen_ok, h1, Sem.run_pure]
    · intro k x u' hx hu'
      cases k with
      | zero => simp at hx hu'; subst hx; subst hu'; exact hr
      | succ k => exact h3 k x u' (by simpa using hx) (by simpa using hu')
    · intro k rv' hk' b hb
      cases k with
      | zero => simp at hk'; subst hk'; exact hG b hb
      | succ k => exact h4 k rv' (by simpa using hk') b hb
    · intro k; cases k with
      | zero => exact hnd
      | succ k => exact h5 k
    · intro k hk'; cases k with
      | zero => simp at hk'
      | succ k => exact h6 k (by simpa using hk')

theorem results_run {fn : Func} {tmps : Array Value} {us : List Value} {P : Program} (h : (fn.results.toList.mapM (resOf tmps)).run P w = .ok us w) :
    (results fn tmps).run P w = .ok (if us.length = 1 then us.headD undef else .tuple us.toArray) w := by
  have e : results fn tmps = (fn.results.toList.mapM (resOf tmps)) >>= fun us => pure (if us.length = 1 then us.headD undef else .tuple us.toArray) := by
    unfold results
    have hf : ∀ f : ResultVar → Sem Value, (∀ x, f x = resOf tmps x) → fn.results.mapM f = List.toArray <$> fn.results.toList.mapM (resOf tmps) := by
      intro f hf
      obtain rfl := funext hf
      exact Array.mapM_eq_mapM_toList
    rw [hf _ (by intro x; cases x <;> rfl)]
    simp only [bind_map_left]
    congr 1
    funext us
    congr 1
    cases us with
    | nil => simp
    | cons u us =>
      cases us with
      | nil => simp
      | cons u' us => simp
  rw [e]
  simp [h]


theorem SR_nil {F : Key → List Nat} {G : List Nat} {k : Key} {b : Nat} (hG : ∀ b ∈ G, b ∈ F k) (h : g.L0 b ∨ b ∈ G) : Lv g F b := h.elim .inl fun h => .inr ⟨k, hG b h⟩

/-- The value that a body returns. -/
def retV (l : List AV) : AV := match l with | [x] => x | l => .tup l

theorem ret_post {res : AV} {outs : List AV} (hX : X.Ok) (hg : g.Post = PostOf g res outs)
    (hne : ∀ rv ∈ X.fn.results.toList, st.rv X.T rv ≠ .top ∧ (st.rv X.T rv).free = true)
    (hk : (X.fn.results.toList.map st.rkey).Nodup)
    (hres : retV (X.fn.results.toList.map (st.rv X.T)) = res)
    (houts : ∀ (j : Nat) (x : AV), outs[j]? = some x → x = .top ∨ (x ≠ .top ∧ j ∈ X.pins ∧ st.get j = x ∧ x.free = true ∧ ∀ rv ∈ X.fn.results.toList, st.rkey rv ≠ .s j))
    (hargs : outs.length ≤ g.args.size)
    (h : SR X g st a w) : ∃ v, (results X.fn a.tmps).run X.P w = .ok v w ∧ g.Post v w := by
  classical
  obtain ⟨β, F, h⟩ := h
  obtain ⟨us, Gs, h1, h2, h3, h4, h5, h6⟩ := rvs_ok hX h _ hne hk
  refine ⟨_, results_run h1, ?_⟩
  rw [hg]
  -- the result's own part
  have hR : ∃ G : List Nat, Rel w (Lv g F) noEnv res (if us.length = 1 then us.headD undef else .tuple us.toArray) G ∧ G.Nodup ∧ ∀ b ∈ G, ∃ rv ∈ X.fn.results.toList, b ∈ F (st.rkey rv) := by
    subst hres
    generalize X.fn.results.toList = l at *
    by_cases hl : us.length = 1
    · rw [if_pos hl]
      rw [h2] at hl
      obtain ⟨rv, rfl⟩ := List.length_eq_one_iff.1 hl
      obtain ⟨u, rfl⟩ := List.length_eq_one_iff.1 h2
      exact ⟨Gs 0, h3 0 _ u rfl rfl, h5 0, fun b hb => ⟨rv, by simp, h4 0 rv rfl b hb⟩⟩
    · rw [if_neg hl]
      refine ⟨foots Gs (l.map (st.rv X.T)).length, ?_, ?_, ?_⟩
      · have : retV (l.map (st.rv X.T)) = .tup (l.map (st.rv X.T)) := by
          unfold retV
          split
          · rename_i x e
            have := congrArg List.length e
            simp at this; omega
          · rfl
        rw [this]
        exact .tup _ _ _ _ (by simp [h2]) fun k x u hx hu => h3 k x u hx (by simpa using hu)
      · refine nodup_foots fun k hk' => ⟨h5 k, fun k' hk'' hne' b hb hb' => ?_⟩
        simp at hk' hk''
        have e1 := h4 k _ (List.getElem?_eq_getElem hk') b hb
        have e2 := h4 k' _ (List.getElem?_eq_getElem hk'') b hb'
        refine h.sep.apart _ _ b ?_ e1 e2
        intro e
        have := (List.getElem_inj (i := k) (j := k') (h₀ := by simpa using hk') (h₁ := by simpa using hk'') hk).1 (by simpa using e)
        exact hne' this
      · intro b hb
        obtain ⟨k, hk', hb'⟩ := mem_foots.1 hb
        simp at hk'
        exact ⟨l[k], by simp, h4 k _ (List.getElem?_eq_getElem hk') b hb'⟩
  obtain ⟨G, hG1, hG2, hG3⟩ := hR
  generalize (if us.length = 1 then us.headD undef else Value.tuple us.toArray) = v at *
  -- what stays with the caller
  let Fs : Nat → List Nat := fun | 0 => G | j + 1 => match outs[j]? with | some x => if x = .top then [] else F (.s j) | none => []
  have hFs : ∀ k b, b ∈ Fs k → ∃ key, b ∈ F key := by
    intro k b hb
    cases k with
    | zero => obtain ⟨rv, _, hb'⟩ := hG3 b hb; exact ⟨_, hb'⟩
    | succ j =>
      simp only [Fs] at hb
      split at hb
      · split at hb
        · simp at hb
        · exact ⟨_, hb⟩
      · simp at hb
  have hLL : ∀ b, (g.L0 b ∨ b ∈ foots Fs (res :: outs).length) → Lv g F b := by
    rintro b (hb | hb)
    · exact .inl hb
    · obtain ⟨k, _, hb'⟩ := mem_foots.1 hb
      exact .inr (hFs k b hb')
  refine ⟨foots Fs (res :: outs).length, h.kp, ?_, ?_, ?_⟩
  · refine nodup_foots fun k hk' => ⟨?_, fun k' hk'' hne' b hb hb' => ?_⟩
    · cases k with
      | zero => exact hG2
      | succ j => simp only [Fs]; split; (split; simp; exact h.sep.nodup _); simp
    · have aux : ∀ j, b ∈ G → b ∈ Fs (j + 1) → False := by
        intro j hb hb'
        obtain ⟨rv, hrv, hb1⟩ := hG3 b hb
        simp only [Fs] at hb'
        split at hb'
        · rename_i x hx
          split at hb'
          · simp at hb'
          · rename_i hnt
            rcases houts j x hx with ht | ⟨_, _, _, _, hkk⟩
            · exact hnt ht
            · exact h.sep.apart _ _ b (hkk rv hrv) hb1 hb'
        · simp at hb'
      cases k with
      | zero =>
        cases k' with
        | zero => exact hne' rfl
        | succ j => exact aux j hb hb'
      | succ j =>
        cases k' with
        | zero => exact aux j hb' hb
        | succ j' =>
          simp only [Fs] at hb hb'
          split at hb
          · split at hb'
            · split at hb
              · simp at hb
              · split at hb'
                · simp at hb'
                · exact h.sep.apart _ _ b (by intro e; injection e with e; exact hne' (by rw [e])) hb hb'
            · simp at hb'
          · simp at hb
  · intro b hb
    obtain ⟨k, _, hb'⟩ := mem_foots.1 hb
    obtain ⟨key, hb''⟩ := hFs k b hb'
    exact h.range key b hb''
  · refine .tup _ _ _ _ (by simp; omega) fun k x u hx hu => ?_
    cases k with
    | zero =>
      rw [Array.getElem?_append_left (by simp)] at hu
      simp at hx hu
      subst hx; subst hu
      exact hG1.sub fun b _ hb => hLL b hb
    | succ j =>
      have hx' : outs[j]? = some x := by simpa using hx
      have hj : j < outs.length := (List.getElem?_eq_some_iff.1 hx').1
      have hu' : g.args[j]? = some u := by
        rw [Array.getElem?_append_right (by simp)] at hu
        simp only [List.size_toArray, List.length_cons, List.length_nil] at hu
        rw [show j + 1 - (0 + 1) = j by omega, Array.getElem?_extract] at hu
        have hu2 : j < min outs.length g.args.size ∧ g.args[j]? = some u := by simpa [hj] using hu
        exact hu2.2
      simp only [Fs, hx']
      rcases houts j x hx' with rfl | ⟨hnt, hp, hgj, hfr, _⟩
      · rw [if_pos rfl]; exact .top _ _
      · rw [if_neg hnt]
        have hpin := h.pin j hp
        have := h.slotv (d := j) (by rw [hgj]; exact hnt)
        rw [Array.getD_eq_getD_getElem?, hpin, hu', hgj] at this
        exact (this.env noEnv hfr).sub fun b _ hb => hLL b hb

end
end Go.Av
