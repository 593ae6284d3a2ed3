/- Struct literals. -/
import Derived.Test.YtoeocaenflkajaaAvGive
namespace Go.Av
open Go Go.RowKit

section
variable {X : Fx} {g : Gx} {st st' : St} {a : Act} {w w' : World} {β β' : Env} {F : Key → List Nat} {L : Nat → Prop} {K : List Item} {k : List Item}
variable {ops : Array Oper} {i : Nat} {rest : List Nat} {o : Oper}

def fillA (T : Nat → Option TI) (st : St) (place : Nat → Option (Nat × Nat)) : List (Nat × Operand) → List AV → Option (List AV)
  | [], cs => some cs
  | (i, x) :: r, cs => match place i with
    | some (off, sz) => bif (st.ev x).okc && (st.ev x).pl && Nat.beq (st.ev x).cells.length sz && Nat.ble (off + sz) cs.length then fillA T st place r (putAt cs off (st.ev x).cells) else none
    | none => none

def placeS (T : Nat → Option TI) (fs : Array Field) (i : Nat) : Option (Nat × Nat) :=
  match fs[i]? with
  | some f => match T f.type with
    | some ti => some (f.offset, ti.sz)
    | none => none
  | none => none

theorem foldl_arrSet (vs : List Value) (off n : Nat) (arr : Array Value) : (vs.zipIdx n).foldl (fun cs (c, j) => cs.setIfInBounds (off + j) c) arr = arrSet arr (off + n) vs := by
  induction vs generalizing n arr with
  | nil => rfl
  | cons v vs ih =>
    rw [List.zipIdx_cons, List.foldl_cons, ih]
    rfl

theorem fillA_ok (h : Inv X g st a w β F L) (place : Nat → Option (Nat × Nat)) : ∀ (ps : List (Nat × Operand)) (cs cs' : List AV) (arr : Array Value), fillA X.T st place ps cs = some cs' → cs.length = arr.size →
    (∀ (k : Nat) (x : AV) (u : Value), cs[k]? = some x → arr[k]? = some u → Rel w L β x u []) →
    ∃ arr', Instr.fill place arr (ps.map fun (i, x) => (i, a.eval x)) = some arr' ∧ cs'.length = arr'.size ∧ ∀ (k : Nat) (x : AV) (u : Value), cs'[k]? = some x → arr'[k]? = some u → Rel w L β x u [] := by
  intro ps
  induction ps with
  | nil => intro cs cs' arr hf hl hr; cases hf; exact ⟨arr, rfl, hl, hr⟩
  | cons p ps ih =>
    obtain ⟨i, x⟩ := p
    intro cs cs' arr hf hl hr
    simp only [fillA] at hf
    split at hf
    · rename_i off sz hpl
      by_cases hc : ((st.ev x).okc && (st.ev x).pl && Nat.beq (st.ev x).cells.length sz && Nat.ble (off + sz) cs.length) = true
      · rw [hc] at hf
        simp only [cond_true] at hf
        simp only [Bool.and_eq_true] at hc
        obtain ⟨⟨⟨h1, h2⟩, h3⟩, h4⟩ := hc
        have h3 := Nat.eq_of_beq_eq_true h3
        have h4 := Nat.le_of_ble_eq_true h4
        obtain ⟨Gs, hlx, hG, hone, hrx⟩ := (ev_rel h x h2).cells h1
        have hGs : ∀ k, k < (st.ev x).cells.length → Gs k = [] := by
          intro k hk
          cases hg' : Gs k with
          | nil => rfl
          | cons c r => have : c ∈ foots Gs (st.ev x).cells.length := foots_sub hk (by rw [hg']; simp); rw [← hG] at this; simp at this
        obtain ⟨arr', e1, e2, e3⟩ := ih _ _ (arrSet arr off (a.eval x).cells.toList) hf (by rw [putAt_length _ _ _ (by omega), size_arrSet, hl]) (by
          intro k y u hy hu
          rw [putAt_get _ _ _ (by omega)] at hy
          rw [get_arrSet _ _ _ (by simp; omega)] at hu
          simp only [Array.length_toList] at hu
          by_cases hk : off ≤ k ∧ k < off + (st.ev x).cells.length
          · rw [if_pos hk] at hy
            rw [if_pos (by omega)] at hu
            have := hrx (k - off) y u hy (by simpa using hu)
            rwa [hGs (k - off) (by omega)] at this
          · rw [if_neg hk] at hy
            rw [if_neg (by omega)] at hu
            exact hr k y u hy hu)
        refine ⟨arr', ?_, e2, e3⟩
        simp only [List.map_cons, Instr.fill, hpl]
        rw [if_neg (by simp; omega)]
        rw [← e1]
        congr 1
        have := foldl_arrSet (a.eval x).cells.toList off 0 arr
        rw [Nat.add_zero] at this
        rw [← this, ← Array.foldl_toList]
        simp
      · simp only [Bool.not_eq_true] at hc; rw [hc] at hf; simp at hf
    · cases hf

theorem mapM_run {P : Program} {w : World} {α γ : Type} {f : α → Sem γ} {r : α → γ} : ∀ (l : List α), (∀ x ∈ l, (f x).run P w = .ok (r x) w) → (l.mapM f).run P w = .ok (l.map r) w := by
  intro l
  induction l with
  | nil => intro _; rfl
  | cons x l ih =>
    intro h
    rw [List.mapM_cons]
    simp only [Sem.run_bind, h x (by simp), Result.andThen_ok, ih fun y hy => h y (by simp [hy]), List.map_cons]
    rfl

/-- A struct literal. -/
theorem ValOk.build {t : TypeId} {ps : Array (Nat × Operand)} {ti : TI} {fs : Array Field} {cs : List AV} (hop : o.op = .build t ps) (hT : X.T t = some ti) (hud : ti.ud = .struct fs)
    (hall : (fs.toList.all fun f => (X.T f.type).isSome) = true) (hf : fillA X.T st (placeS X.T fs) ps.toList (ti.zero.map .lit) = some cs) : ValOk X g st o (.agg cs) := by
  intro hX a w β F hI
  have ht := ty_of hX hT
  obtain ⟨j, z, hj, hz0, hjs, hjb, hzc⟩ := zero_run' ht
  obtain ⟨arr', e1, e2, e3⟩ := fillA_ok hI _ _ _ _ z.cells hf (by simp [← hzc]) (by
    intro k x u hx hu
    rw [List.getElem?_map, ← hzc] at hx
    simp only [Array.getElem?_toList, hu, Option.map_some, Option.some.injEq] at hx
    subst hx
    exact .lit _ _)
  refine ⟨.agg arr', fun w2 _ => ?_, ?_⟩
  · have hs := un_run ht w2
    rw [hud] at hs
    have hzr : (zeroValue t).run X.P w2 = .ok z w2 := by simp [zeroValue, typeInfo, hj, hz0]
    let szf : Field → Nat := fun f => match X.T f.type with | some ti => ti.sz | none => 0
    have hpl : (fs.mapM fun f => (Prod.mk f.offset <$> sizeOf f.type : Sem (Nat × Nat))).run X.P w2 = .ok (fs.map fun f => (f.offset, szf f)) w2 := by
      have := mapM_run (P := X.P) (w := w2) (f := fun f : Field => (Prod.mk f.offset <$> sizeOf f.type : Sem (Nat × Nat))) (r := fun f => (f.offset, szf f)) fs.toList (by
        intro f hf'
        have h1 := List.all_eq_true.1 hall f hf'
        obtain ⟨ti', hti⟩ := Option.isSome_iff_exists.1 h1
        simp [sizeOf_run (ty_of hX hti), szf, hti])
      rw [Array.mapM_eq_mapM_toList]
      simp only [Sem.run_map, this]
      simp [← Array.toList_map]
    have hplace : (fun i => (fs.map fun f => (f.offset, szf f))[i]?) = placeS X.T fs := by
      funext i
      simp only [placeS, Array.getElem?_map]
      cases hfi : fs[i]? with
      | none => rfl
      | some f =>
        have hm : f ∈ fs.toList := by simpa using Array.mem_of_getElem? hfi
        have h1 := List.all_eq_true.1 hall f hm
        obtain ⟨ti', hti⟩ := Option.isSome_iff_exists.1 h1
        simp [szf, hti]
    have e1' : Instr.fill (fun i => (fs.map fun f => (f.offset, szf f))[i]?) z.cells (ps.toList.map fun x => (x.1, a.eval x.2)) = some arr' := by rw [hplace]; exact e1
    simp only [Array.getElem?_map] at e1'
    simp [execOp, hop, Instr.build, hzr, hs, hpl, e1']
  · have := Rel.agg (w := w) (L := Lv g F) β cs arr' (fun _ => []) e2 e3
    rwa [foots_nil fun _ _ => rfl] at this

theorem Rel.ownMap {sz : Nat} {ex : Bool} {xs ys : List AV} {u : Value} {G : List Nat} (h : Rel w L β (.own sz ex xs) u G) (hl : ys.length = xs.length) (hp : 0 < sz) (hz : ∀ y ∈ ys, y.cells.length = sz)
    (hc : ∀ (m : Nat) (x y : AV), xs[m]? = some x → ys[m]? = some y → ∀ (j : Nat) (p q : AV) (v : Value) (H : List Nat), x.cells[j]? = some p → y.cells[j]? = some q → Rel w L noEnv p v H → Rel w L noEnv q v H) :
    Rel w L β (.own sz ex ys) u G := by
  obtain ⟨vals, Fs, Bs, hoc, hzx, hvl, hr, rfl⟩ := h.ownCells
  have e : (flatc xs).length = (flatc ys).length := by rw [flatc_length hzx, flatc_length hz, hl]
  rw [e]
  refine hoc.rel hl.symm hz fun k y v hy hv => ?_
  have hk : k < ys.length * sz := by rw [← flatc_length hz]; exact (List.getElem?_eq_some_iff.1 hy).1
  have hdm : k / sz * sz + k % sz = k := by rw [Nat.mul_comm]; exact Nat.div_add_mod k sz
  have hq : k / sz < ys.length := Nat.div_lt_of_lt_mul (by rw [Nat.mul_comm]; exact hk)
  have hj : k % sz < sz := Nat.mod_lt _ hp
  have h1 := elem_cells hz (List.getElem?_eq_getElem hq) (k % sz) hj
  have h2 := elem_cells hzx (List.getElem?_eq_getElem (hl ▸ hq)) (k % sz) hj
  rw [hdm] at h1 h2
  have hkx : k < (flatc xs).length := by rw [e]; exact (List.getElem?_eq_some_iff.1 hy).1
  rw [hy] at h1
  rw [List.getElem?_eq_getElem hkx] at h2
  exact hc _ _ _ (List.getElem?_eq_getElem (hl ▸ hq)) (List.getElem?_eq_getElem hq) (k % sz) _ y v _ h2.symm h1.symm (hr k _ v (List.getElem?_eq_getElem hkx) hv)

theorem Run.convOwn (d : Nat) {sz : Nat} {ex : Bool} {xs : List AV} (ys : List AV) (hd : st.get d = .own sz ex xs) (hl : ys.length = xs.length) (hp : 0 < sz) (hz : ∀ y ∈ ys, y.cells.length = sz)
    (hc : ∀ (w : World) (L : Nat → Prop) (m : Nat) (x y : AV), xs[m]? = some x → ys[m]? = some y → ∀ (j : Nat) (p q : AV) (v : Value) (H : List Nat), x.cells[j]? = some p → y.cells[j]? = some q → Rel w L noEnv p v H → Rel w L noEnv q v H)
    (h : Run X g K (st.put d (.own sz ex ys))) : Run X g K st := by
  refine Run.ghost (fun a w hI => ?_) h
  obtain ⟨β, F, hI⟩ := hI
  have hne : st.get d ≠ .top := by rw [hd]; simp
  have hr := hI.slotv hne
  rw [hd] at hr
  exact ⟨_, _, (hI.conv (.inl (hI.slotget hne)) (hr.ownMap hl hp hz (hc w _)) (fun b hb => hb) (hI.sep.nodup _)).setL fun b _ hb => by
    rcases hb with hb | ⟨kk, hb⟩
    · exact .inl hb
    · by_cases e : kk = .s d
      · subst e; rw [updF_same] at hb; exact Lv_of hb
      · rw [updF_ne _ e] at hb; exact Lv_of hb⟩

/-- An empty slice in a box's cell is one that nobody else has. -/
theorem SR.nilBox {id0 : Id} {c sz : Nat} {ex : Bool} {cs : List AV} {A : Option Addr} (hd : st.obj id0 = .box cs) (hc : cs[c]? = some (.lit (.slice A 0 0))) (h : SR X g st a w) :
    SR X g (st.setObj id0 (.box (cs.set c (.own sz ex [])))) a w := by
  obtain ⟨β, F, h⟩ := h
  have hob0 := h.obj id0
  rw [hd] at hob0
  obtain ⟨b, arr, T, lo, hi, Fs, hβ0, hb, hfz, hs, hrr, hF⟩ := hob0
  have hcl : c < cs.length := (List.getElem?_eq_some_iff.1 hc).1
  have h1 := h.setOb id0 (.box (cs.set c (.own sz ex []))) (G := F (.o id0)) (by
    refine ⟨b, arr, T, lo, hi, Fs, hβ0, hb, hfz, by simpa using hs, ?_, by rw [List.length_set]; exact hF⟩
    intro k x u hx hu
    by_cases e : k = c
    · subst e
      rw [List.getElem?_set_self hcl] at hx
      cases hx
      have := hrr k _ u hc hu
      generalize Fs k = G at this
      cases this
      exact .ownNil _ _ _ _
    · rw [List.getElem?_set_ne (Ne.symm e)] at hx
      exact hrr k x u hx hu) (h.sep.nodup _) (fun k hk b hb hb' => h.sep.apart _ _ b hk hb' hb) (fun b hb => h.range _ b hb)
  exact ⟨_, _, h1.setL fun b _ hb => by
    rcases hb with hb | ⟨kk, hb⟩
    · exact .inl hb
    · by_cases e : kk = .o id0
      · subst e; rw [updF_same] at hb; exact Lv_of hb
      · rw [updF_ne _ e] at hb; exact Lv_of hb⟩

theorem Run.nilBox (id0 : Id) (c sz : Nat) (ex : Bool) {cs : List AV} {A : Option Addr} (hd : st.obj id0 = .box cs) (hc : cs[c]? = some (.lit (.slice A 0 0)))
    (h : Run X g K (st.setObj id0 (.box (cs.set c (.own sz ex []))))) : Run X g K st := Run.ghost (fun _ _ hI => hI.nilBox hd hc) h

/-- .. in a slot. -/
theorem Run.nilSlot (d sz : Nat) (ex : Bool) {A : Option Addr} (hd : st.get d = .lit (.slice A 0 0)) (h : Run X g K (st.put d (.own sz ex []))) : Run X g K st :=
  Run.ghost (fun _ _ hI => hI.conv (fun w L β u G hr => by rw [hd] at hr; cases hr; exact ⟨[], by simp, by simp, .ownNil _ _ _ _⟩) (by rw [hd]; simp)) h

end
end Go.Av
