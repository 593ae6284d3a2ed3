/- Array literals. -/
import Derived.Test.YtoeocaenflkajaaAvMap
namespace Go.Av
open Go Go.RowKit

section
variable {X : Fx} {g : Gx} {st st' : St} {a : Act} {w w' : World} {β β' : Env} {F : Key → List Nat} {L : Nat → Prop} {K : List Item} {k : List Item}
variable {ops : Array Oper} {i : Nat} {rest : List Nat} {o : Oper}

/-- An array literal. -/
theorem ValOk.buildArr {t e n : Nat} {ps : Array (Nat × Operand)} {ti te : TI} {cs : List AV} (hop : o.op = .build t ps) (hT : X.T t = some ti) (hud : ti.ud = .array n e) (hTe : X.T e = some te)
    (hf : fillA X.T st (fun i => some (i * te.sz, te.sz)) ps.toList (ti.zero.map .lit) = some cs) : ValOk X g st o (.agg cs) := by
  intro hX a w β F hI
  have ht := ty_of hX hT
  have hte := ty_of hX hTe
  obtain ⟨j, z, hj, hz0, hjs, hjb, hzc⟩ := zero_run' ht
  obtain ⟨arr', e1, e2, e3⟩ := fillA_ok hI _ _ _ _ z.cells hf (by simp [← hzc]) (by
    intro k x u hx hu
    rw [List.getElem?_map, ← hzc] at hx
    simp only [Array.getElem?_toList, hu, Option.map_some, Option.some.injEq] at hx
    subst hx
    exact .lit _ _)
  refine ⟨.agg arr', fun w2 _ => ?_, ?_⟩
  · have hs := un_run ht w2
    rw [hud] at hs
    have hzr : (zeroValue t).run X.P w2 = .ok z w2 := by simp [zeroValue, typeInfo, hj, hz0]
    have e1' : Instr.fill (fun i => some (i * te.sz, te.sz)) z.cells (ps.toList.map fun x => (x.1, a.eval x.2)) = some arr' := e1
    simp [execOp, hop, Instr.build, hzr, hs, sizeOf_run hte, e1']
  · have := Rel.agg (w := w) (L := Lv g F) β cs arr' (fun _ => []) e2 e3
    rwa [foots_nil fun _ _ => rfl] at this

theorem run_callm {P : Program} {ρ : Operand → Value} {o : Oper} {fo : Operand} {xs : Array Operand} {ts : Array TypeId} {f : FuncId} {vals : Array Value}
    (hop : o.op = .call ⟨.value fo, xs, ts⟩) (hf : ρ fo = .func (.func f) vals #[])
    (he : (P.funcs[f]?).map (fun fn => (fn.body.isSome, fn.name == "runtime.NumGoroutine")) = some (true, false)) :
    (execOp ρ o).run P w = .ok (.enter f (vals ++ xs.map ρ)) w := by
  obtain ⟨fn, hfn, e⟩ := Option.map_eq_some_iff.1 he
  simp only [Prod.mk.injEq] at e
  have h1 : ¬ fn.name = "runtime.NumGoroutine" := by simpa using e.2
  have h2 : ¬ fn.body = none := by intro hb; rw [hb] at e; simp at e
  obtain ⟨dst, op, type, pos, after, guard⟩ := o
  simp only at hop
  subst hop
  simp [execOp, resolve, hf, Deferred.ofValue, invoke, callFunc, hfn, h1, h2]

/-- A call of a method value: its first arguments are with it. -/
theorem Run.callm {d : Nat} {fo : Operand} {xs : Array Operand} {ts : Array TypeId} {f : FuncId} {fs ps qs : List AV} {res : AV} {outs : List AV}
    (ho : ops[i]? = some o) (hg : guardOf ops st o = some true) (hd : o.dst = some d) (hop : o.op = .call ⟨.value fo, xs, ts⟩) (hf : st.ev fo = .mv f fs)
    (hps : st.expL 40 (fs ++ xs.toList.map st.ev) = some ps) (hct : Ct X.P f qs res outs) (hqs : ps = qs) (hrf : res.rf = true)
    (hdn : (Nat.blt d X.fn.ntmps && !(X.pins.contains d)) = true) (h : Run X g (.inRegion ops rest :: k) (st.put d res)) : Run X g (.inRegion ops (i :: rest) :: k) st := by
  subst hqs
  simp only [Bool.and_eq_true, Bool.not_eq_true'] at hdn
  refine Run.opc ho (fun a w hI => guardOf_ok hg a w hI) ?_ h
  rintro hX a w ⟨β, F, hI⟩
  have hfr := ev_rel hI fo (by rw [hf]; rfl)
  rw [hf] at hfr
  generalize hfv : a.eval fo = fv at hfr
  cases hfr with
  | mv _ _ _ vals hl hr =>
  refine ⟨f, vals ++ xs.map a.eval, w, run_callm hop hfv hct.enters, ?_⟩
  obtain ⟨e1, e2⟩ := (exp_ok hI 40).2 _ _ hps
  have hargs : Rel w (fun b => False ∨ b ∈ ([] : List Nat)) noEnv (.tup ps) (.tuple (vals ++ xs.map a.eval)) [] := by
    have := Rel.tup (w := w) (L := fun b => False ∨ b ∈ ([] : List Nat)) noEnv ps (vals ++ xs.map a.eval) (fun _ => []) (by simp [e1, hl]) (by
      intro k y' u hy hu
      obtain ⟨y, m, hy1, hm, hy2⟩ := e2 k y' hy
      have : ∃ G, Rel w (Lv g F) β y u G := by
        by_cases hk : k < fs.length
        · rw [List.getElem?_append_left hk] at hy1
          rw [Array.getElem?_append_left (by omega)] at hu
          exact ⟨_, hr k y u hy1 hu⟩
        · rw [List.getElem?_append_right (by omega)] at hy1
          rw [Array.getElem?_append_right (by omega)] at hu
          rw [hl] at hy1
          exact evT_ok hI xs.toList (k - vals.size) y u hy1 (by simpa using hu)
      obtain ⟨G, hG⟩ := this
      exact ((exp_ok hI m).1 y y' u G hG hy2).sub (by simp))
    rwa [foots_nil (fun _ _ => rfl)] at this
  refine (hct.calls w (fun _ => False) _ [] (fun _ h => h.elim) (by simp) hargs).mono ?_
  rintro e w' ⟨v, F', rfl, hk, hn, hr', hR⟩
  obtain ⟨G, hG, hGs, hRes⟩ := ct_res hn hR
  refine ⟨v, rfl, ?_⟩
  rw [hd]
  exact hI.called hk hG (fun b hb => by simpa using hr' b (hGs b hb)) ((hRes.anyL _ hrf).of_noEnv rfl β) (blt_lt hdn.1) (contains_iff hdn.2)

/-- A box that is only read from now on: the pointer in slot d is one into memory that is only read. -/
theorem SR.freezeBox {d : Nat} {id : Id} {cs cs' : List AV} (hd : st.get d = .bp id 0) (ho : st.obj id = .box cs) (hcs : AV.frzL cs = cs') (hfr : AV.freeL cs' = true) (h : SR X g st a w) :
    SR X g ((st.setObj id .gone).put d (.rp cs' 0)) a w := by
  subst hcs
  obtain ⟨β, F, h⟩ := h
  have hob := h.obj id
  rw [ho] at hob
  obtain ⟨b, arr, T, lo, hi, Fs, hβ, hb, hfz, hs, hrr, hF⟩ := hob
  have hL : ∀ b, Lv g (updF F (.o id) []) b → Lv g F b := fun b hb => Lv_updF_nil hb
  have hout : ∀ b ∈ F (.o id), ¬ Lv g (updF F (.o id) []) b := by
    rintro b hb (h0 | ⟨k, hk⟩)
    · obtain ⟨h1, h2⟩ := g.hL b h0
      rcases h.range _ b hb with h3 | h3
      · exact h2 h3
      · omega
    · by_cases e : k = .o id
      · subst e; rw [updF_same] at hk; simp at hk
      · rw [updF_ne _ e] at hk; exact h.sep.apart _ _ b e hk hb
  refine ⟨β, updF F (.o id) [], h.defers, h.size, h.kp, ⟨?_, ?_⟩, ?_, ?_, ?_, h.pin⟩
  · intro k
    by_cases e : k = .o id
    · subst e; rw [updF_same]; simp
    · rw [updF_ne _ e]; exact h.sep.nodup _
  · intro k k' b hne hb hb'
    have aux : ∀ k, b ∈ updF F (.o id) [] k → b ∈ F k := by
      intro k hb
      by_cases e : k = .o id
      · subst e; rw [updF_same] at hb; simp at hb
      · rw [updF_ne _ e] at hb; exact hb
    exact h.sep.apart k k' b hne (aux k hb) (aux k' hb')
  · intro k b hb
    by_cases e : k = .o id
    · subst e; rw [updF_same] at hb; simp at hb
    · rw [updF_ne _ e] at hb; exact h.range _ b hb
  · intro j
    rw [St.get_put, St.get_setObj]
    obtain ⟨u', hu', hr'⟩ := h.slot j
    by_cases hj : d = j
    · subst hj
      rw [if_pos rfl, updF_ne _ (by intro e; cases e)]
      rw [hd] at hr' hu'
      refine ⟨u', .inl (hu'.resolve_right (by simp)), ?_⟩
      generalize F (.s d) = G at hr'
      cases hr' with
      | bp _ _ _ b' hβ' =>
      rw [hβ] at hβ'
      cases hβ'
      have := Rel.rp (w := w) (L := Lv g (updF F (.o id) [])) β (AV.frzL cs) 0 b 0 arr.toList (fun _ => hout b (by rw [hF]; simp)) (by rw [AV.frzL_eq]; simpa using hs.symm) (by
        intro k u hk
        simp only [Nat.zero_add]
        simp [World.cell?, hb]
        simpa using hk) (fun k x u hx hu => by
          rw [AV.frzL_eq, List.getElem?_map] at hx
          obtain ⟨y, hy, rfl⟩ := Option.map_eq_some_iff.1 hx
          have h1 := hrr k y u hy (by simpa using hu)
          have h2 := h1.frz (L' := Lv g (updF F (.o id) [])) (fun b _ hb => hL b hb) (fun b' hb' => hout b' (by rw [hF]; exact List.mem_cons_of_mem _ (mem_foots.2 ⟨k, (List.getElem?_eq_some_iff.1 hy).1, hb'⟩)))
          refine h2.env noEnv (AV.freeL_get hfr k y.frz ?_)
          rw [AV.frzL_eq, List.getElem?_map, hy]
          rfl)
      simpa using this
    · rw [if_neg hj, updF_ne _ (by intro e; cases e)]
      exact ⟨u', hu', hr'.sub fun b _ hb => hL b hb⟩
  · intro id'
    rw [St.obj_put, St.obj_setObj]
    by_cases e : id = id'
    · subst e
      rw [if_pos rfl, updF_same]
      rfl
    · rw [if_neg e, updF_ne _ (by intro e'; injection e' with e'; exact e e'.symm)]
      exact (h.obj id').keep (M := fun _ => False) (fun _ _ _ => rfl) (fun _ h => h.elim) (fun b _ hb => hL b hb) (fun _ _ h => h)

theorem Run.freezeBox (d : Nat) (id : Id) {cs : List AV} (cs' : List AV) (hd : st.get d = .bp id 0) (ho : st.obj id = .box cs) (hcs : AV.frzL cs = cs') (hfr : AV.freeL cs' = true)
    (h : Run X g K ((st.setObj id .gone).put d (.rp cs' 0))) : Run X g K st := Run.ghost (fun _ _ hI => hI.freezeBox hd ho hcs hfr) h
end
end Go.Av
