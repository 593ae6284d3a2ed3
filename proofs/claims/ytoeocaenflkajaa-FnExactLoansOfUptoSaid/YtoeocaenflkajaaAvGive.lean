/- Calls that write into a slice they are handed; returns that leave arguments behind. -/
import Derived.Test.YtoeocaenflkajaaAvLend
namespace Go.Av
open Go Go.RowKit

section
variable {X : Fx} {g : Gx} {st st' : St} {a : Act} {w w' : World} {β β' : Env} {F : Key → List Nat} {L : Nat → Prop} {K : List Item} {k : List Item}
variable {ops : Array Oper} {i : Nat} {rest : List Nat} {o : Oper}

def isLit : AV → Bool
  | .lit _ => true
  | _ => false
theorem isLit_ok {x : AV} (h : isLit x = true) : ∃ v, x = .lit v := by cases x <;> simp [isLit] at h; exact ⟨_, rfl⟩

/-- The argument, whole: its slice stands for object id. -/
def lend (id : Id) (z : AV) : Option Nat → AV → Option (Nat × AV)
  | none, .vec id' 0 n' => bif eqId id' id then some (n', z) else none
  | some c, .agg cs => match cs[c]? with
    | some (.vec id' 0 n') => bif eqId id' id && (cs.set c (.lit undef)).all isLit then some (n', .agg (cs.set c z)) else none
    | _ => none
  | _, _ => none

def back : Option Nat → AV → Option AV
  | none, y => some y
  | some c, .agg cs => cs[c]?
  | _, _ => none

theorem lend_ok {id : Id} {n sz : Nat} {ex : Bool} {zs : List AV} {c : Option Nat} {x x' : AV} {u v : Value} {G0 G1 : List Nat} (hl : lend id (.own sz ex zs) c x = some (n, x')) (hx : Rel w L β x u G0) (hn : n = zs.length)
    (hβ : β id = some (v, sz)) (ho : Rel w L β (.own sz ex zs) v G1) :
    ∃ uc G, (G = G1 ∨ G = []) ∧ Rel w L noEnv x' u G ∧ Rel w L β (.vec id 0 n) uc [] ∧
      ∀ {w2 : World} {L2 : Nat → Prop} {γ : Env} {y z : AV} {H : List Nat}, back c y = some z → H.Nodup → Rel w2 L2 γ y u H → ∃ H', (∀ b ∈ H', b ∈ H) ∧ H'.Nodup ∧ Rel w2 L2 γ z uc H' := by
  unfold lend at hl
  split at hl
  · rename_i id' n'
    cases hid : eqId id' id with
    | true =>
      rw [hid] at hl
      have h := (eqId_iff _ _).1 hid
      subst h
      cases hl
      have h0 := hx.vec_nil
      subst h0
      obtain ⟨G, hG, hown⟩ := hx.vec_own hn hβ ho
      refine ⟨u, G, hG, hown.env _ rfl, hx, fun hb hH hy => ?_⟩
      simp only [back, Option.some.injEq] at hb
      subst hb
      exact ⟨_, fun _ h => h, hH, hy⟩
    | false => rw [hid] at hl; cases hl
  · rename_i c cs
    split at hl
    · rename_i id' n' hc
      by_cases hcond : (eqId id' id && (cs.set c (.lit undef)).all isLit) = true
      · rw [hcond] at hl
        simp only [Bool.and_eq_true] at hcond
        obtain ⟨hid, hall⟩ := hcond
        have h := (eqId_iff _ _).1 hid
        subst h
        cases hl
        cases hx with
        | agg _ _ vals Fs hlen hrr =>
        have hcl : c < cs.length := (List.getElem?_eq_some_iff.1 hc).1
        have hcv : c < vals.size := by omega
        have hvec := hrr c _ _ hc (Array.getElem?_eq_getElem hcv)
        have h0 := hvec.vec_nil
        rw [h0] at hvec
        obtain ⟨G, hG, hown⟩ := hvec.vec_own hn hβ ho
        refine ⟨vals[c], G, hG, ?_, hvec, fun {w2 L2 γ y z H} hb hH hy => ?_⟩
        · have := Rel.agg (w := w) (L := L) noEnv (cs.set c (.own sz ex zs)) vals (updN (fun _ => []) c G) (by simpa using hlen) (by
            intro k x u hx hu
            by_cases e : k = c
            · subst e
              rw [List.getElem?_set_self hcl] at hx
              cases hx
              rw [Array.getElem?_eq_getElem hcv] at hu
              cases hu
              rw [updN_same]
              exact hown.env _ rfl
            · rw [List.getElem?_set_ne (Ne.symm e)] at hx
              rw [updN_ne e]
              have hm : x ∈ cs.set c (.lit undef) := by
                refine List.mem_of_getElem? (i := k) ?_
                rw [List.getElem?_set_ne (Ne.symm e)]; exact hx
              obtain ⟨v', rfl⟩ := isLit_ok (List.all_eq_true.1 hall x hm)
              have := hrr k _ u hx hu
              generalize Fs k = Gk at this
              cases this
              exact .lit _ _)
          rw [foots_only (c := c) (by simpa using hcl) (fun k hk => updN_ne hk), updN_same] at this
          exact this
        · cases y with
          | agg cs' =>
            simp only [back] at hb
            cases hy with
            | agg _ _ _ Hs hlen' hrr' =>
            have hcl' : c < cs'.length := (List.getElem?_eq_some_iff.1 hb).1
            exact ⟨Hs c, fun b hb' => foots_sub hcl' hb', (foots_nodup hH c hcl').1, hrr' c z _ hb (Array.getElem?_eq_getElem hcv)⟩
          | _ => simp [back] at hb
      · simp only [Bool.not_eq_true] at hcond
        rw [hcond] at hl
        cases hl
    · cases hl
  · cases hl

/-- A call that is handed an own slice as its first argument (or within it), and leaves it behind otherwise. -/
theorem Run.callo {d : Nat} {fo : Operand} {xs : Array Operand} {ts : Array TypeId} {f : FuncId} (id : Id) (c : Option Nat) {sz n : Nat} {ex ex' : Bool} {zs ys rs : List AV} {x0 x0' y0 : AV} {res : Value}
    (ho : ops[i]? = some o) (hg : guardOf ops st o = some true) (hd : o.dst = some d) (hop : o.op = .call ⟨.value fo, xs, ts⟩) (hf : st.ev fo = .fn f [])
    (hargs : xs.toList.map st.ev = x0 :: rs) (hlit : rs.all isLit = true) (hob : st.obj id = .vec sz ex zs) (hl : lend id (.own sz ex zs) c x0 = some (n, x0')) (hn : n = zs.length)
    (hct : Ct X.P f (x0' :: rs) (.lit res) [y0]) (hb : back c y0 = some (.own sz ex' ys)) (hrf : AV.rfL ys = true)
    (hdn : (Nat.blt d X.fn.ntmps && !(X.pins.contains d)) = true) (h : Run X g (.inRegion ops rest :: k) ((st.setObj id (.vec sz ex' ys)).put d (.lit res))) : Run X g (.inRegion ops (i :: rest) :: k) st := by
  simp only [Bool.and_eq_true, Bool.not_eq_true'] at hdn
  refine Run.opc ho (fun a w hI => guardOf_ok hg a w hI) ?_ h
  rintro hX a w ⟨β, F, hI⟩
  have hfr := ev_rel hI fo (by rw [hf]; rfl)
  rw [hf] at hfr
  generalize hfv : a.eval fo = fv at hfr
  cases hfr with
  | fn _ _ _ vals hlv hr =>
  obtain rfl : vals = #[] := by
    have : vals.size = 0 := by simpa using hlv.symm
    exact Array.eq_empty_of_size_eq_zero this
  refine ⟨f, xs.map a.eval ++ #[], w, run_call hop hfv hct.enters, ?_⟩
  have hobj := hI.obj id
  rw [hob] at hobj
  obtain ⟨v, hβ, hown⟩ := hobj
  have hlen : (xs.toList.map st.ev).length = (x0 :: rs).length := by rw [hargs]
  have hsz : xs.size = rs.length + 1 := by simpa using hlen
  have hev : ∀ (k : Nat) (y : AV) (u : Value), (x0 :: rs)[k]? = some y → (xs.map a.eval)[k]? = some u → ∃ G, Rel w (Lv g F) β y u G := by
    intro k y u hy hu
    rw [← hargs] at hy
    exact evT_ok hI xs.toList k y u hy (by simpa using hu)
  have h0s : 0 < (xs.map a.eval).size := by simp [hsz]
  obtain ⟨Gx, hx0⟩ := hev 0 x0 _ rfl (Array.getElem?_eq_getElem h0s)
  obtain ⟨uc, G, hG, hxr, hvec, hback⟩ := lend_ok hl hx0 hn hβ hown
  have hGs : ∀ b ∈ G, b ∈ F (.o id) := by rintro b hb; rcases hG with rfl | rfl; exact hb; simp at hb
  have hGn : G.Nodup := by rcases hG with rfl | rfl; exact hI.sep.nodup _; simp
  have harg : Rel w (fun b => False ∨ b ∈ G) noEnv (.tup (x0' :: rs)) (.tuple (xs.map a.eval ++ #[])) G := by
    have := Rel.tup (w := w) (L := fun b => False ∨ b ∈ G) noEnv (x0' :: rs) (xs.map a.eval) (updN (fun _ => []) 0 G) (by simp [hsz]) (by
      intro k y u hy hu
      cases k with
      | zero =>
        simp only [List.getElem?_cons_zero, Option.some.injEq] at hy
        subst hy
        rw [Array.getElem?_eq_getElem h0s] at hu
        cases hu
        rw [updN_same]
        refine hxr.sub fun b _ hb => ?_
        rcases hb with hb | hb
        · exact hb.elim
        · exact Lv_of (hGs b hb)
      | succ k =>
        rw [updN_ne (by omega)]
        have hy' : rs[k]? = some y := by simpa using hy
        obtain ⟨v', rfl⟩ := isLit_ok (List.all_eq_true.1 hlit y (List.mem_of_getElem? hy'))
        obtain ⟨G', hr'⟩ := hev (k + 1) _ u (by simpa using hy') hu
        cases hr'
        exact .lit _ _)
    rw [foots_first (by simp) (fun k hk => updN_ne (by omega)), updN_same] at this
    simpa using this
  refine (hct.calls w (fun _ => False) _ G (fun _ h => h.elim) hGn harg).mono ?_
  rintro e w' ⟨v1, F', rfl, hk, hn', hr', hR⟩
  refine ⟨v1, rfl, ?_⟩
  rw [hd]
  cases hR with
  | tup _ _ _ Hs hl2 hrr =>
  have hv1 := hrr 0 _ v1 rfl (by rw [Array.getElem?_append_left (by simp)]; rfl)
  have hv1' : v1 = res := by
    generalize Hs 0 = H0 at hv1
    cases hv1; rfl
  subst hv1'
  have hy0 := hrr 1 y0 ((xs.map a.eval)[0]) rfl (by simp [hsz])
  obtain ⟨G2, hG2s, hG2n, hz⟩ := hback hb (foots_nodup hn' 1 (by simp)).1 hy0
  obtain ⟨G3, hG3, hown'⟩ := vec_same hvec hβ hn hown hz
  have hG3s : ∀ b ∈ G3, b ∈ G ∨ w.heap.size ≤ b := by
    intro b hb
    rcases hG3 with rfl | rfl
    · exact hr' b (foots_sub (by simp) (hG2s b hb))
    · simp at hb
  have hG3n : G3.Nodup := by rcases hG3 with rfl | rfl; exact hG2n; simp
  have h1 : Inv X g (st.setObj id .gone) a w β (updF F (.o id) []) (Lv g F) := hI.setOb id .gone rfl (by simp) (by simp) (by simp)
  have hGr : ∀ b ∈ G, b ∈ g.F0 ∨ g.w0.heap.size ≤ b := fun b hb => hI.range _ b (hGs b hb)
  have h2 : Inv X g (st.setObj id .gone) a w' β (updF F (.o id) []) (fun b => Lv g F b ∨ b ∈ G3) := by
    refine h1.world (M := fun b => b ∈ G) (hI.kp.trans hk hGr) (fun b hb hM => hk.block b hb hM) (fun b hb => Lv_of (hGs b hb)) ?_ ?_
    · rintro b hb (h | h)
      · exact h
      · rcases hG3s b h with h | h
        · exact Lv_of (hGs b h)
        · omega
    · rintro kk b hb hM
      by_cases e : kk = .o id
      · subst e; rw [updF_same] at hb; simp at hb
      · rw [updF_ne _ e] at hb; exact hI.sep.apart _ _ b e hb (hGs b hM)
  have h3 := h2.setOb id (.vec sz ex' ys) (G := G3) ⟨v, hβ, ((hown'.anyL _ (by simpa [AV.rf] using hrf)).env β rfl)⟩ hG3n (by
    intro kk e b hb hb'
    rw [updF_ne _ e] at hb'
    rcases hG3s b hb with h | h
    · exact hI.sep.apart _ _ b e hb' (hGs b h)
    · have := hI.lt kk b hb'; omega) (by
    intro b hb
    rcases hG3s b hb with h | h
    · exact hGr b h
    · exact .inr (Nat.le_trans hI.kp.size h))
  have h4 := (h3.put (d := d) (v := .lit v1) (u := v1) (G := []) (blt_lt hdn.1) (contains_iff hdn.2) (.lit _ _) (by simp) (by simp) (by simp))
  have h5 : SR X g (((st.setObj id .gone).setObj id (.vec sz ex' ys)).put d (.lit v1)) (a.put (some d) v1) w' := by
    refine ⟨_, _, h4.setL fun b _ hb => ?_⟩
    refine Lv_sub (L := fun b => Lv g F b ∨ b ∈ G3) hb (fun kk hk' => ?_) (fun h => Or.inl (Or.inl h))
    by_cases e : kk = .s d
    · subst e; rw [updF_same] at hk'; simp at hk'
    · rw [updF_ne _ e] at hk'
      by_cases e2 : kk = .o id
      · subst e2; rw [updF_same] at hk'; exact .inr hk'
      · rw [updF_ne _ e2, updF_ne _ e2] at hk'; exact .inl (Lv_of hk')
  have hle : St.Le ((st.setObj id (.vec sz ex' ys)).put d (.lit v1)) (((st.setObj id .gone).setObj id (.vec sz ex' ys)).put d (.lit v1)) :=
    ⟨fun d => .inr rfl, fun id' => .inr (by
      rw [St.obj_put, St.obj_put, St.obj_setObj, St.obj_setObj, St.obj_setObj]
      by_cases e : id = id' <;> simp [e])⟩
  exact h5.le hle

/-- The return, where the first argument is left behind. -/
theorem Run.reto {r res x : AV} (hg : g.Post = PostOf g res [x]) (hr : retOf X st = some r) (he : r = res) (h0 : X.pins.contains 0 = true) (hx : st.get 0 = x) (hf : (!(isTop x) && x.free) = true)
    (hk : ((X.fn.results.toList.map st.rkey).all fun k => decide (k ≠ .s 0)) = true) : Run X g (.code .ret :: k) st := by
  obtain ⟨h1, h2, h3⟩ := retOf_ok hr
  simp only [Bool.and_eq_true, Bool.not_eq_true'] at hf
  have hp : 0 ∈ X.pins := by simpa using h0
  refine Run.ret' fun hX a w hI => ret_post hX hg h1 h2 (h3.trans he) ?_ ?_ hI
  · intro j y hy
    cases j with
    | zero =>
      simp only [List.getElem?_cons_zero, Option.some.injEq] at hy
      subst hy
      refine .inr ⟨isTop_ne hf.1, hp, hx, hf.2, fun rv hrv => ?_⟩
      have := List.all_eq_true.1 hk (st.rkey rv) (List.mem_map.2 ⟨rv, hrv, rfl⟩)
      simpa using this
    | succ j => simp at hy
  · obtain ⟨β, F, hI⟩ := hI
    have hpin := hI.pin 0 hp
    obtain ⟨u, hu, _⟩ := hI.slot 0
    have hu := hu.resolve_right (by rw [hx]; exact isTop_ne hf.1)
    rw [hpin] at hu
    have := (Array.getElem?_eq_some_iff.1 hu).1
    simp only [List.length_cons, List.length_nil]
    omega

end
end Go.Av
