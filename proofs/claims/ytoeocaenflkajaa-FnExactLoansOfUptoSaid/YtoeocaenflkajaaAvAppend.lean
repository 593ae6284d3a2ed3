/- Slice literals; append to an own slice. -/
import Derived.Test.YtoeocaenflkajaaAvDraw
namespace Go.Av
open Go Go.RowKit

section
variable {X : Fx} {g : Gx} {st st' : St} {a : Act} {w w' : World} {β β' : Env} {F : Key → List Nat} {L : Nat → Prop} {K : List Item} {k : List Item}
variable {ops : Array Oper} {i : Nat} {rest : List Nat} {o : Oper}

def zerosA (ti : TI) (n : Nat) : List AV := (List.range (n * ti.sz)).map fun k => .lit (ti.zero.getD (k % ti.sz) undef)

/-- A slice literal. -/
theorem Run.buildSlice {d t e n : Nat} {ps : Array (Nat × Operand)} {ti : TI} {cs : List AV} (ys : List AV) (ho : ops[i]? = some o) (hg : guardOf ops st o = some true) (hd : o.dst = some d) (hop : o.op = .buildSlice t n ps)
    (hT : sliceAt X.T t = some (e, ti)) (hzl : Nat.beq ti.zero.length ti.sz = true) (hpos : Nat.blt 0 ti.sz = true) (hb : Nat.ble (n * ti.sz) 16777216 = true)
    (hf : fillA X.T st (fun i => some (i * ti.sz, ti.sz)) ps.toList (zerosA ti n) = some cs) (hys : flatc ys = cs) (hyl : Nat.beq ys.length n = true) (hz : (ys.all fun y => Nat.beq y.cells.length ti.sz) = true) (hfree : AV.freeL cs = true)
    (hdn : (Nat.blt d X.fn.ntmps && !(X.pins.contains d)) = true)
    (h : Run X g (.inRegion ops rest :: k) (st.put d (.own ti.sz true ys))) : Run X g (.inRegion ops (i :: rest) :: k) st := by
  subst hys
  simp only [Bool.and_eq_true, Bool.not_eq_true'] at hdn
  refine Run.op ho (fun a w hI => guardOf_ok hg a w hI) ?_ h
  rintro hX a w ⟨β, F, hI⟩
  obtain ⟨i', h1, h2, h3⟩ := sliceAt_ok hX hT
  obtain ⟨j, z, hj, hz0, hjs, hjb, hzc⟩ := zero_run' h3
  have hzl' := Nat.eq_of_beq_eq_true hzl
  have hpos' := blt_lt hpos
  have hb' := Nat.le_of_ble_eq_true hb
  have hyl' := Nat.eq_of_beq_eq_true hyl
  have hz' : ∀ y ∈ ys, y.cells.length = ti.sz := fun y hy => Nat.eq_of_beq_eq_true (List.all_eq_true.1 hz y hy)
  have hs := un_run h1 w
  rw [h2] at hs
  have hzsz : z.cells.size = ti.sz := by rw [← hzl', ← hzc]; simp
  let arr : Array Value := (Array.range (n * ti.sz)).map (z.cells[· % z.cells.size]!)
  have harr : arr.size = n * ti.sz := by simp [arr]
  obtain ⟨arr', e1, e2, e3⟩ := fillA_ok hI _ _ _ _ arr hf (by simp [zerosA, harr]) (by
    intro k x u hx hu
    have hk : k < n * ti.sz := by rw [← harr]; exact (Array.getElem?_eq_some_iff.1 hu).1
    simp only [zerosA] at hx
    rw [List.getElem?_map, List.getElem?_range hk] at hx
    simp only [Option.map_some, Option.some.injEq] at hx
    subst hx
    have hkz : k % ti.sz < z.cells.size := by rw [hzsz]; exact Nat.mod_lt _ hpos'
    have hu' : u = z.cells[k % ti.sz] := by
      simp only [arr] at hu
      rw [Array.getElem?_map, Array.getElem?_range, if_pos hk] at hu
      simp only [Option.map_some, Option.some.injEq] at hu
      rw [← hu, hzsz, getElem!_pos z.cells _ hkz]
    have : ti.zero.getD (k % ti.sz) undef = u := by
      rw [hu', ← hzc, List.getD_eq_getElem?_getD, Array.getElem?_toList, Array.getElem?_eq_getElem hkz]
      rfl
    rw [this]
    exact .lit _ _)
  refine ⟨.slice (some ⟨w.heap.size, 0, none⟩) n n, w.alloc (.cells arr' e), .inl ?_, ?_⟩
  · have hn24 : ¬ (2 ^ 24 < n * ti.sz) := by omega
    have hzr : (zeroValue e).run X.P w = .ok z w := by simp [zeroValue, typeInfo, hj, hz0]
    have hfill : Instr.fill (fun i => some (i * ti.sz, ti.sz)) arr (ps.toList.map fun x => (x.1, a.eval x.2)) = some arr' := e1
    by_cases hn0 : n * ti.sz = 0
    · have ha0 : arr = #[] := Array.eq_empty_of_size_eq_zero (by rw [harr]; exact hn0)
      rw [ha0] at hfill
      have hr0 : ((Array.range 0).map fun _ => (default : Value)) = #[] := Array.eq_empty_of_size_eq_zero (by simp)
      simp [execOp, hop, Instr.buildSlice, hs, sizeOf, typeInfo, hj, hjs, hn0, hr0, hfill, newRow]
    · simp [execOp, hop, Instr.buildSlice, hs, sizeOf, typeInfo, hj, hjs, hn0, hn24, hzr, newRow]
      simp only [arr] at hfill
      rw [hfill]
      simp
  · rw [hd]
    have hlen : (flatc ys).length = arr'.size := e2
    refine hI.made (sz := ti.sz) (n := n) (ex := true) (zs := ys) (vals := arr'.toList) (Hs := fun _ => []) (Bs := []) (Bs' := [w.heap.size]) (fun k b hb => Lv_of hb) (fun b hb => .inl hb)
      ⟨rfl, rfl, rfl, by simp, fun k hk _ => Below.heap_alloc w _ k hk⟩ (by simp) (.inr ⟨_, rfl, Nat.le_refl _⟩) (by simp) ?_ hyl'.symm hz' ?_ (by rw [foots_nil fun _ _ => rfl]; simp) (by rw [foots_nil fun _ _ => rfl]; simp) (blt_lt hdn.1) (contains_iff hdn.2)
    · refine .inr ⟨w.heap.size, n, arr', e, 0, 0, rfl, heap_alloc_new' _ _, by intro k _ h; omega, by rw [← hlen, flatc_length hz', hyl'], Nat.le_refl _, ?_, fun _ => rfl, ?_, rfl⟩
      · have : n ≤ n * ti.sz := Nat.le_mul_of_pos_right n hpos'
        simp only [capMax]; omega
      · rw [List.take_of_length_le]
        rw [Array.length_toList, ← hlen, flatc_length hz', hyl']
        exact Nat.le_refl _
    · intro k x u hx hu
      exact (e3 k x u hx (by simpa using hu)).env noEnv (AV.freeL_get hfree k x hx)

theorem run_lenOf {P : Program} {A : Option Addr} {n c : Nat} (w : World) : (Builtin.lenOf (.slice A n c)).run P w = .ok n w := rfl

theorem OwnCells.first {P : Program} {v : Value} {n sz : Nat} {vals : List Value} {Bs : List Nat} {ex : Bool} (h : OwnCells w v n vals sz Bs ex) (hl : vals.length = n * sz) (w2 : World) (hw : w2.heap = w.heap) :
    (∃ A c, v = .slice A n c) ∧ (Builtin.firstCells sz n v).run P w2 = .ok vals.toArray w2 := by
  rcases h with ⟨A, rfl, rfl, rfl, _⟩ | ⟨b, c, arr, T, lo, hi, rfl, hb, _, hs, hc, _, _, ht, _⟩
  · refine ⟨⟨_, _, rfl⟩, ?_⟩
    cases A with
    | none => rfl
    | some a => simp [Builtin.firstCells, loadCells, loadCellsFrom]
  · refine ⟨⟨_, _, rfl⟩, ?_⟩
    refine run_firstCells_some (P := P) w2 sz n ⟨b, 0, none⟩ n c vals hl fun k v hk => ?_
    rw [addr_add]
    rw [← ht, List.getElem?_take] at hk
    split at hk
    · simp [World.cell?, hw, hb]; simpa using hk
    · cases hk

/-- One cell each. -/
def oneC (xs : List AV) : Bool := xs.all fun x => x.cells.all AV.one

theorem oneC_flat {xs : List AV} (h : oneC xs = true) : ∀ (k : Nat) (x : AV), (flatc xs)[k]? = some x → x.one = true := by
  intro k x hx
  have hm := List.mem_of_getElem? hx
  obtain ⟨y, hy, hxy⟩ := List.mem_flatMap.1 hm
  exact List.all_eq_true.1 (List.all_eq_true.1 h y hy) x hxy

theorem foots_append (A B : Nat → List Nat) (n m : Nat) : foots (fun k => if k < n then A k else B (k - n)) (n + m) = foots A n ++ foots B m := by
  unfold foots
  rw [List.range_add, List.flatMap_append, List.flatMap_map]
  congr 1
  · rw [List.flatMap_def, List.flatMap_def]
    congr 1
    refine List.map_congr_left fun k hk => ?_
    rw [if_pos (List.mem_range.1 hk)]
  · rw [List.flatMap_def, List.flatMap_def]
    congr 1
    refine List.map_congr_left fun k hk => ?_
    rw [if_neg (by omega), Nat.add_sub_cancel_left]

/-- append(s, t...) where s is an object and t an own slice in a slot: both are given up. -/
theorem Run.appendo {d s e t u te : Nat} {ti tu : TI} {id : Id} {n sz : Nat} {ex ex' : Bool} {xs ys : List AV} (ho : ops[i]? = some o) (hg : guardOf ops st o = some true) (hd : o.dst = some d)
    (hop : o.op = .call ⟨.builtin .append, #[.tmp s, .tmp e], #[t, u]⟩) (hT : sliceAt X.T t = some (te, ti)) (hU : X.T u = some tu) (hui : (match tu.ud with | .slice _ => true | .string => true | _ => false) = true)
    (hs : st.get s = .vec id 0 n) (hob : st.obj id = .vec sz ex xs) (he : st.get e = .own sz ex' ys) (hsz : ti.sz = sz) (hzl : Nat.beq ti.zero.length ti.sz = true) (hn : n = xs.length)
    (hone : oneC ys = true) (hlen : (xs.length + ys.length) * ti.by' ≤ 140737488355328) (hcap : xs.length + ys.length ≤ capMax) (hed : e ≠ d) (hdn : (Nat.blt d X.fn.ntmps && !(X.pins.contains d)) = true)
    (h : Run X g (.inRegion ops rest :: k) (((st.setObj id .gone).put e .top).put d (.own sz false (xs ++ ys)))) : Run X g (.inRegion ops (i :: rest) :: k) st := by
  subst hsz
  simp only [Bool.and_eq_true, Bool.not_eq_true'] at hdn
  refine Run.op ho (fun a w hI => guardOf_ok hg a w hI) ?_ h
  rintro hX a w ⟨β, F, hI⟩
  obtain ⟨i', h1, h2, h3⟩ := sliceAt_ok hX hT
  have hu := ty_of hX hU
  have hsv := hI.slotv (d := s) (by rw [hs]; simp)
  have hev := hI.slotv (d := e) (by rw [he]; simp)
  rw [hs] at hsv
  rw [he] at hev
  rw [hsv.vec_nil] at hsv
  have hobj := hI.obj id
  rw [hob] at hobj
  obtain ⟨v, hβ, hown⟩ := hobj
  obtain ⟨G, hG, hx⟩ := hsv.vec_own hn hβ hown
  have hGs : ∀ b ∈ G, b ∈ F (.o id) := by rintro b hb; rcases hG with rfl | rfl; exact hb; simp at hb
  have hGn : G.Nodup := by rcases hG with rfl | rfl; exact hI.sep.nodup _; simp
  obtain ⟨vx, Fx, Bx, ocx, hzx, hvx, hrx, hGx⟩ := hx.ownCells
  obtain ⟨vy, Fy, By, ocy, hzy, hvy, hry, hFy⟩ := hev.ownCells
  have hey := ocy.first (P := X.P) hvy w rfl
  obtain ⟨⟨Ay, cy, huy⟩, _⟩ := hey
  have hynd : (F (.s e)).Nodup := hI.sep.nodup _
  rw [hFy] at hynd
  rw [hGx] at hGn
  obtain ⟨nx1, nx2, nx3⟩ := List.nodup_append.1 hGn
  obtain ⟨ny1, ny2, ny3⟩ := List.nodup_append.1 hynd
  have hxs : ∀ b, b ∈ Bx ∨ b ∈ foots Fx (flatc xs).length → b ∈ F (.o id) := fun b hb => hGs b (by rw [hGx]; exact List.mem_append.2 hb)
  have hys : ∀ b, b ∈ foots Fy (flatc ys).length → b ∈ F (.s e) := fun b hb => by rw [hFy]; exact List.mem_append_right _ hb
  have hkk : Key.o id ≠ Key.s e := by intro e; cases e
  have hone' : ∀ c ∈ vy, c.oneCell' = true := by
    intro c hc
    obtain ⟨k, hk, rfl⟩ := List.getElem_of_mem hc
    have hk' : k < (flatc ys).length := by rw [flatc_length hzy, ← hvy]; exact hk
    exact ((hry k _ _ (List.getElem?_eq_getElem hk') (List.getElem?_eq_getElem hk)).oneCell (oneC_flat hone k _ (List.getElem?_eq_getElem hk'))).1
  have hdu : ∀ kk, tu.ud ≠ .int kk := by intro kk e; rw [e] at hui; cases hui
  have ht' : X.P.underlying t = some (.slice te) := by rw [h1.ud, h2]
  obtain ⟨v', w', Bs', e1, e2, e3, e4⟩ := append_run (P := X.P) (w := w) (t := t) (u := u) (ty := o.type) ht' hu.ud hdu h3 (Nat.eq_of_beq_eq_true hzl) ocx (x := a.tmps.getD e undef) (m := ys.length) (news := vy)
    (fun w2 => by rw [huy]; rfl) (fun w2 hw2 => (ocy.first (P := X.P) hvy w2 hw2).2) hvy hone' hlen hcap
  refine ⟨v', w', .inl ?_, ?_⟩
  · obtain ⟨dst, op, type, pos, after, guard⟩ := o
    simp only at hop
    subst hop
    simp only [execOp, Sem.run_bind, resolve_builtin, Result.andThen_ok, invoke, builtin]
    have e1' : (Builtin.append_ #[t, u] type #[a.eval (.tmp s), a.eval (.tmp e)]).run X.P w = .ok v' w' := e1
    simp [e1']
  · rw [hd]
    have h0 : Inv X g (st.setObj id .gone) a w β (updF F (.o id) []) (Lv g F) := hI.setOb id .gone rfl (by simp) (by simp) (by simp)
    have h1' := h0.drop e
    have hsub : ∀ kk b, b ∈ updF (updF F (.o id) []) (.s e) [] kk → b ∈ F kk ∧ kk ≠ .o id ∧ kk ≠ .s e := by
      intro kk b hb
      by_cases x1 : kk = .s e
      · subst x1; rw [updF_same] at hb; simp at hb
      · rw [updF_ne _ x1] at hb
        by_cases x2 : kk = .o id
        · subst x2; rw [updF_same] at hb; simp at hb
        · rw [updF_ne _ x2] at hb; exact ⟨hb, x2, x1⟩
    have hfo := foots_append Fx Fy (flatc xs).length (flatc ys).length
    have hfl : (flatc (xs ++ ys)).length = (flatc xs).length + (flatc ys).length := by rw [flatc_append, List.length_append]
    have apx : ∀ b kk, b ∈ F (.o id) → b ∉ updF (updF F (.o id) []) (.s e) [] kk := fun b kk hb hb' => by
      obtain ⟨q1, q2, _⟩ := hsub kk b hb'
      exact hI.sep.apart _ _ b (Ne.symm q2) hb q1
    have apy : ∀ b kk, b ∈ F (.s e) → b ∉ updF (updF F (.o id) []) (.s e) [] kk := fun b kk hb hb' => by
      obtain ⟨q1, _, q3⟩ := hsub kk b hb'
      exact hI.sep.apart _ _ b (Ne.symm q3) hb q1
    refine h1'.made (L := Lv g F) (zs := xs ++ ys) (Hs := fun kk => if kk < (flatc xs).length then Fx kk else Fy (kk - (flatc xs).length)) (fun kk b hb => Lv_of (hsub kk b hb).1) (fun b hb => .inl hb) e3
      (fun b hb => ⟨Lv_of (hxs b (.inl hb)), fun kk => apx b kk (hxs b (.inl hb)), hI.range _ b (hxs b (.inl hb))⟩) e4 nx1 e2 (by simp) ?_ ?_ ?_ ?_ (blt_lt hdn.1) (contains_iff hdn.2)
    · intro x hx'
      rcases List.mem_append.1 hx' with hx' | hx'
      · exact hzx x hx'
      · exact hzy x hx'
    · intro kk x uu hx' hu'
      rw [flatc_append] at hx'
      have hvxl : vx.length = (flatc xs).length := by rw [hvx, flatc_length hzx]
      by_cases hk : kk < (flatc xs).length
      · rw [List.getElem?_append_left hk] at hx'
        rw [List.getElem?_append_left (by omega)] at hu'
        simp only [if_pos hk]
        exact hrx kk x uu hx' hu'
      · rw [List.getElem?_append_right (by omega)] at hx'
        rw [List.getElem?_append_right (by omega), hvxl] at hu'
        simp only [if_neg hk]
        exact hry _ x uu hx' hu'
    · rw [hfl, hfo]
      refine List.nodup_append.2 ⟨nx2, ny2, fun b hb b' hb' e' => ?_⟩
      subst e'
      exact hI.sep.apart _ _ b hkk (hxs b (.inr hb)) (hys b hb')
    · intro b hb
      rw [hfl, hfo] at hb
      rcases List.mem_append.1 hb with hb | hb
      · exact ⟨Lv_of (hxs b (.inr hb)), fun hb' => nx3 b hb' b hb rfl, fun kk => apx b kk (hxs b (.inr hb)), hI.range _ b (hxs b (.inr hb)), hI.lt _ b (hxs b (.inr hb))⟩
      · exact ⟨Lv_of (hys b hb), fun hb' => hI.sep.apart _ _ b hkk (hxs b (.inl hb')) (hys b hb), fun kk => apy b kk (hys b hb), hI.range _ b (hys b hb), hI.lt _ b (hys b hb)⟩

/-- An empty slice, exact or not. -/
theorem Run.loosen0 (d : Nat) {sz : Nat} (hd : st.get d = .own sz true []) (h : Run X g K (st.put d (.own sz false []))) : Run X g K st :=
  Run.ghost (fun _ _ hI => hI.conv (fun w L β u G hr => by
    rw [hd] at hr
    refine ⟨[], by simp, by simp, ?_⟩
    cases hr with
    | ownNil => exact .ownNil _ _ _ _
    | own _ _ _ _ b c arr T lo hi Fs hb hfz hs hz hr hc hm he =>
      have : c = 0 := he rfl
      subst this
      exact .ownNil _ _ _ _) (by rw [hd]; simp)) h
end
end Go.Av
