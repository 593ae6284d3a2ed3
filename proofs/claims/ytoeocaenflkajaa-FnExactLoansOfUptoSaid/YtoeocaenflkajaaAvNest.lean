/- Own memory within own memory: parts of values become objects, and go back. -/
import Derived.Test.YtoeocaenflkajaaAvMove
namespace Go.Av
open Go Go.RowKit

section
variable {X : Fx} {g : Gx} {st st' : St} {a : Act} {w w' : World} {β β' : Env} {F : Key → List Nat} {L : Nat → Prop} {K : List Item}

def KRel (w : World) (L : Nat → Prop) (a : Act) (st : St) (β : Env) : Key → List Nat → Prop
  | .s d, G => ∃ u, (a.tmps[d]? = some u ∨ st.get d = .top) ∧ Rel w L β (st.get d) u G
  | .o id, G => ObRel w L β id (st.obj id) G

theorem Inv.krel (h : Inv X g st a w β F L) (k : Key) : KRel w L a st β k (F k) := by
  cases k with
  | s d => exact h.slot d
  | o id => exact h.obj id

theorem KRel.upd {k : Key} {G : List Nat} (h : KRel w L a st β k G) {id : Id} (z : Value × Nat) (hn : st.nrf id = true) (hne : k ≠ .o id) : KRel w L a st (updE β id z) k G := by
  cases k with
  | s d => obtain ⟨u, hu, hr⟩ := h; exact ⟨u, hu, hr.upd _ _ (St.nrf_get hn d)⟩
  | o id' => exact ObRel.upd h id z (fun e => hne (by rw [e])) (St.nrf_obj hn id')

theorem KRel.congr {k : Key} {G : List Nat} (h : KRel w L a st β k G) (hs : ∀ d, k = .s d → st'.get d = st.get d) (ho : ∀ id, k = .o id → st'.obj id = st.obj id) : KRel w L a st' β k G := by
  cases k with
  | s d => simp only [KRel, hs d rfl]; exact h
  | o id => simp only [KRel, ho id rfl]; exact h

theorem KRel.sub {k : Key} {G : List Nat} {L' : Nat → Prop} (h : KRel w L a st β k G) (hL : ∀ b, L' b → L b) : KRel w L' a st β k G := by
  cases k with
  | s d => obtain ⟨u, hu, hr⟩ := h; exact ⟨u, hu, hr.sub fun b _ hb => hL b hb⟩
  | o id => exact ObRel.keep (M := fun _ => False) (fun _ _ _ => rfl) (fun _ h => h.elim) (fun b _ hb => hL b hb) h (fun _ _ h => h)

/-- Two keys share anew what they owned. -/
theorem Inv.two (h : Inv X g st a w β F (Lv g F)) {k1 k2 : Key} {G1 G2 : List Nat} (hne : k1 ≠ k2) (hn : (G1 ++ G2).Nodup) (hs : ∀ b ∈ G1 ++ G2, b ∈ F k1 ∨ b ∈ F k2)
    (hk : ∀ k, k ≠ k1 → k ≠ k2 → KRel w (Lv g F) a st' β' k (F k)) (h1 : KRel w (Lv g F) a st' β' k1 G1) (h2 : KRel w (Lv g F) a st' β' k2 G2) : SR X g st' a w := by
  let F' : Key → List Nat := updF (updF F k1 G1) k2 G2
  have e2 : F' k2 = G2 := updF_same _ _ _
  have e1 : F' k1 = G1 := by simp only [F']; rw [updF_ne _ hne, updF_same]
  have e0 : ∀ k, k ≠ k1 → k ≠ k2 → F' k = F k := fun k x1 x2 => by simp only [F']; rw [updF_ne _ x2, updF_ne _ x1]
  obtain ⟨n1, n2, n3⟩ := List.nodup_append.1 hn
  have own : ∀ k b, b ∈ F' k → (k = k1 ∧ b ∈ G1) ∨ (k = k2 ∧ b ∈ G2) ∨ (k ≠ k1 ∧ k ≠ k2 ∧ b ∈ F k) := by
    intro k b hb
    by_cases x1 : k = k1
    · subst x1; exact .inl ⟨rfl, e1 ▸ hb⟩
    · by_cases x2 : k = k2
      · subst x2; exact .inr (.inl ⟨rfl, e2 ▸ hb⟩)
      · exact .inr (.inr ⟨x1, x2, e0 k x1 x2 ▸ hb⟩)
  have src : ∀ k b, b ∈ F' k → ∃ k', b ∈ F k' := by
    intro k b hb
    rcases own k b hb with ⟨_, hc⟩ | ⟨_, hc⟩ | ⟨_, _, hc⟩
    · rcases hs b (List.mem_append_left _ hc) with h | h <;> exact ⟨_, h⟩
    · rcases hs b (List.mem_append_right _ hc) with h | h <;> exact ⟨_, h⟩
    · exact ⟨_, hc⟩
  have out : ∀ k b, k ≠ k1 → k ≠ k2 → b ∈ F k → b ∉ G1 ∧ b ∉ G2 := by
    intro k b x1 x2 hb
    refine ⟨fun hm => ?_, fun hm => ?_⟩
    · rcases hs b (List.mem_append_left _ hm) with h' | h'
      · exact h.sep.apart _ _ b x1 hb h'
      · exact h.sep.apart _ _ b x2 hb h'
    · rcases hs b (List.mem_append_right _ hm) with h' | h'
      · exact h.sep.apart _ _ b x1 hb h'
      · exact h.sep.apart _ _ b x2 hb h'
  have hL : ∀ b, Lv g F' b → Lv g F b := by
    rintro b (hb | ⟨k, hb⟩)
    · exact .inl hb
    · exact .inr (src k b hb)
  have all : ∀ k, KRel w (Lv g F') a st' β' k (F' k) := by
    intro k
    by_cases x1 : k = k1
    · subst x1; rw [e1]; exact h1.sub hL
    · by_cases x2 : k = k2
      · subst x2; rw [e2]; exact h2.sub hL
      · rw [e0 k x1 x2]; exact (hk k x1 x2).sub hL
  refine ⟨β', F', h.defers, h.size, h.kp, ⟨fun k => ?_, fun k k' b hne' hb hb' => ?_⟩, fun k b hb => ?_, fun d => all (.s d), fun id => all (.o id), h.pin⟩
  · by_cases x1 : k = k1
    · subst x1; rw [e1]; exact n1
    · by_cases x2 : k = k2
      · subst x2; rw [e2]; exact n2
      · rw [e0 k x1 x2]; exact h.sep.nodup k
  · rcases own k b hb with ⟨e, hc⟩ | ⟨e, hc⟩ | ⟨x1, x2, hc⟩ <;> rcases own k' b hb' with ⟨e', hc'⟩ | ⟨e', hc'⟩ | ⟨y1, y2, hc'⟩
    · exact hne' (e.trans e'.symm)
    · exact n3 b hc b hc' rfl
    · exact (out _ b y1 y2 hc').1 hc
    · exact n3 b hc' b hc rfl
    · exact hne' (e.trans e'.symm)
    · exact (out _ b y1 y2 hc').2 hc
    · exact (out _ b x1 x2 hc).1 hc'
    · exact (out _ b x1 x2 hc).2 hc'
    · exact h.sep.apart _ _ b hne' hc hc'
  · obtain ⟨k', hb'⟩ := src k b hb
    exact h.range k' b hb'

/-! ### Footprints of parts -/
def updN (Fs : Nat → List Nat) (c : Nat) (G : List Nat) : Nat → List Nat := fun k => if k = c then G else Fs k
theorem updN_same {Fs : Nat → List Nat} {c : Nat} {G : List Nat} : updN Fs c G c = G := by simp [updN]
theorem updN_ne {Fs : Nat → List Nat} {c k : Nat} {G : List Nat} (h : k ≠ c) : updN Fs c G k = Fs k := by simp [updN, h]

theorem foots_drop {Fs : Nat → List Nat} {n c : Nat} (hc : c < n) (h : (foots Fs n).Nodup) : (foots (updN Fs c []) n ++ Fs c).Nodup ∧ ∀ b ∈ foots (updN Fs c []) n ++ Fs c, b ∈ foots Fs n := by
  have hf := foots_nodup h
  refine ⟨List.nodup_append.2 ⟨nodup_foots fun k hk => ⟨?_, fun k' hk' hne b hb hb' => ?_⟩, (hf c hc).1, fun b hb b' hb' e => ?_⟩, fun b hb => ?_⟩
  · unfold updN; split; simp; exact (hf k hk).1
  · unfold updN at hb hb'
    split at hb
    · simp at hb
    · split at hb'
      · simp at hb'
      · exact (hf k hk).2 k' hk' hne b hb hb'
  · subst e
    obtain ⟨k, hk, hb⟩ := mem_foots.1 hb
    unfold updN at hb
    split at hb
    · simp at hb
    · rename_i hne
      exact (hf k hk).2 c hc hne b hb hb'
  · rcases List.mem_append.1 hb with hb | hb
    · obtain ⟨k, hk, hb⟩ := mem_foots.1 hb
      unfold updN at hb
      split at hb
      · simp at hb
      · exact foots_sub hk hb
    · exact foots_sub hc hb

theorem foots_put {Fs : Nat → List Nat} {n c : Nat} {G : List Nat} (h : (foots Fs n).Nodup) (h0 : Fs c = []) (hG : G.Nodup) (ha : ∀ b ∈ G, b ∉ foots Fs n) :
    (foots (updN Fs c G) n).Nodup ∧ ∀ b ∈ foots (updN Fs c G) n, b ∈ foots Fs n ∨ b ∈ G := by
  have hf := foots_nodup h
  refine ⟨nodup_foots fun k hk => ⟨?_, fun k' hk' hne b hb hb' => ?_⟩, fun b hb => ?_⟩
  · unfold updN; split; exact hG; exact (hf k hk).1
  · unfold updN at hb hb'
    split at hb
    · split at hb'
      · omega
      · exact ha b hb (foots_sub hk' hb')
    · split at hb'
      · exact ha b hb' (foots_sub hk hb)
      · exact (hf k hk).2 k' hk' hne b hb hb'
  · obtain ⟨k, hk, hb⟩ := mem_foots.1 hb
    unfold updN at hb
    split at hb
    · exact .inr hb
    · exact .inl (foots_sub hk hb)

theorem Rel.vec_nil {id : Id} {i n : Nat} {u : Value} {G : List Nat} (h : Rel w L β (.vec id i n) u G) : G = [] := h.pl_nil rfl

theorem St.get_put_ne {d k : Nat} {v : AV} (h : d ≠ k) : (st.put d v).get k = st.get k := by rw [St.get_put, if_neg h]
theorem St.obj_set_ne {d k : Id} {v : Ob} (h : d ≠ k) : (st.setObj d v).obj k = st.obj k := by rw [St.obj_setObj, if_neg h]
theorem St.get_put_same {d : Nat} {v : AV} : (st.put d v).get d = v := by rw [St.get_put, if_pos rfl]
theorem St.obj_set_same {d : Id} {v : Ob} : (st.setObj d v).obj d = v := by rw [St.obj_setObj, if_pos rfl]

/-- A component of the aggregate in slot d, which owns a slice, becomes an object. -/
theorem SR.unagg {d c sz : Nat} {ex : Bool} {cs xs : List AV} {id : Id} (hd : st.get d = .agg cs) (hc : cs[c]? = some (.own sz ex xs)) (hn : st.nrf id = true) (h : SR X g st a w) :
    SR X g ((st.setObj id (.vec sz ex xs)).put d (.agg (cs.set c (.vec id 0 xs.length)))) a w := by
  obtain ⟨β, F, h⟩ := h
  have hne : st.get d ≠ .top := by rw [hd]; simp
  have hget := h.slotget hne
  have hr := h.slotv hne
  have hnd := h.sep.nodup (.s d)
  rw [hd] at hr
  generalize a.tmps.getD d undef = u at hr hget
  generalize hF : F (.s d) = G at hr hnd
  cases hr with
  | agg _ _ vals Fs hl hrr =>
  have hcl : c < cs.length := (List.getElem?_eq_some_iff.1 hc).1
  have hcv : c < vals.size := by omega
  obtain ⟨q1, q2⟩ := foots_drop hcl hnd
  have hown := hrr c _ _ hc (Array.getElem?_eq_getElem hcv)
  have hkn : Key.s d ≠ Key.o id := by intro e; cases e
  refine h.two (β' := updE β id (vals[c], sz)) (k1 := .s d) (k2 := .o id) hkn q1 (fun b hb => .inl (by rw [hF]; exact q2 b hb)) ?_ ?_ ?_
  · intro k x1 x2
    refine ((h.krel k).upd _ hn x2).congr (fun d' e => ?_) (fun id' e => ?_)
    · rw [St.get_put_ne (by rintro rfl; exact x1 e), St.get_setObj]
    · rw [St.obj_put, St.obj_set_ne (by rintro rfl; exact x2 e)]
  · refine ⟨_, .inl hget, ?_⟩
    rw [St.get_put_same]
    have := Rel.agg (w := w) (L := Lv g F) (updE β id (vals[c], sz)) (cs.set c (.vec id 0 xs.length)) vals (updN Fs c []) (by simpa using hl) (by
      intro k x u hx hu
      by_cases e : k = c
      · subst e
        rw [List.getElem?_set_self hcl] at hx
        cases hx
        rw [Array.getElem?_eq_getElem hcv] at hu
        cases hu
        rw [updN_same]
        exact hown.own_vec id
      · rw [List.getElem?_set_ne (Ne.symm e)] at hx
        rw [updN_ne e]
        refine (hrr k x u hx hu).upd _ _ (AV.nrfL_get (xs := cs) ?_ k x hx)
        have := St.nrf_get hn d
        rw [hd] at this
        simpa [AV.nrf] using this)
    rwa [List.length_set] at this
  · simp only [KRel]
    rw [St.obj_put, St.obj_set_same]
    exact ⟨vals[c], by simp [updE], hown.upd _ _ (by simp [AV.nrf])⟩

theorem Run.unagg (d c : Nat) {sz : Nat} {ex : Bool} {cs xs : List AV} (id : Id) (hd : st.get d = .agg cs) (hc : cs[c]? = some (.own sz ex xs)) (hn : st.nrf id = true)
    (h : Run X g K ((st.setObj id (.vec sz ex xs)).put d (.agg (cs.set c (.vec id 0 xs.length))))) : Run X g K st := Run.ghost (fun _ _ hI => hI.unagg hd hc hn) h

/-- .. and goes back. -/
theorem SR.packAgg {d c sz n : Nat} {ex : Bool} {cs xs : List AV} {id : Id} (hd : st.get d = .agg cs) (hc : cs[c]? = some (.vec id 0 n)) (ho : st.obj id = .vec sz ex xs) (hn : n = xs.length) (h : SR X g st a w) :
    SR X g ((st.setObj id .gone).put d (.agg (cs.set c (.own sz ex xs)))) a w := by
  obtain ⟨β, F, h⟩ := h
  have hne : st.get d ≠ .top := by rw [hd]; simp
  have hget := h.slotget hne
  have hr := h.slotv hne
  have hnd := h.sep.nodup (.s d)
  rw [hd] at hr
  have hob := h.obj id
  rw [ho] at hob
  obtain ⟨v, hβ, hown⟩ := hob
  generalize a.tmps.getD d undef = u at hr hget
  generalize hF : F (.s d) = G at hr hnd
  cases hr with
  | agg _ _ vals Fs hl hrr =>
  have hcl : c < cs.length := (List.getElem?_eq_some_iff.1 hc).1
  have hcv : c < vals.size := by omega
  have hvec := hrr c _ _ hc (Array.getElem?_eq_getElem hcv)
  have h0 := hvec.vec_nil
  obtain ⟨G, hG, hown'⟩ := hvec.vec_own hn hβ hown
  have hGs : ∀ b ∈ G, b ∈ F (.o id) := by rintro b hb; rcases hG with rfl | rfl; exact hb; simp at hb
  have hGn : G.Nodup := by rcases hG with rfl | rfl; exact h.sep.nodup _; simp
  have hkn : Key.o id ≠ Key.s d := by intro e; cases e
  obtain ⟨q1, q2⟩ := foots_put (G := G) hnd h0 hGn (fun b hb hb' => h.sep.apart _ _ b hkn (hGs b hb) (by rw [hF]; exact hb'))
  refine h.two (β' := β) (k1 := .o id) (k2 := .s d) (G1 := []) hkn (by simpa using q1) (fun b hb => ?_) ?_ ?_ ?_
  · rcases q2 b (by simpa using hb) with hb | hb
    · exact .inr (by rw [hF]; exact hb)
    · exact .inl (hGs b hb)
  · intro k x1 x2
    refine (h.krel k).congr (fun d' e => ?_) (fun id' e => ?_)
    · rw [St.get_put_ne (by rintro rfl; exact x2 e), St.get_setObj]
    · rw [St.obj_put, St.obj_set_ne (by rintro rfl; exact x1 e)]
  · simp only [KRel]
    rw [St.obj_put, St.obj_set_same]
    rfl
  · refine ⟨_, .inl hget, ?_⟩
    rw [St.get_put_same]
    have := Rel.agg (w := w) (L := Lv g F) β (cs.set c (.own sz ex xs)) vals (updN Fs c G) (by simpa using hl) (by
      intro k x u hx hu
      by_cases e : k = c
      · subst e
        rw [List.getElem?_set_self hcl] at hx
        cases hx
        rw [Array.getElem?_eq_getElem hcv] at hu
        cases hu
        rw [updN_same]
        exact hown'
      · rw [List.getElem?_set_ne (Ne.symm e)] at hx
        rw [updN_ne e]
        exact hrr k x u hx hu)
    rwa [List.length_set] at this

theorem Run.packAgg (d c : Nat) {sz n : Nat} {ex : Bool} {cs xs : List AV} {id : Id} (hd : st.get d = .agg cs) (hc : cs[c]? = some (.vec id 0 n)) (ho : st.obj id = .vec sz ex xs) (hn : n = xs.length)
    (h : Run X g K ((st.setObj id .gone).put d (.agg (cs.set c (.own sz ex xs))))) : Run X g K st := Run.ghost (fun _ _ hI => hI.packAgg hd hc ho hn) h

/-- A slice object that a box's cell refers to is put into the cell. -/
theorem SR.packBox {c sz n : Nat} {ex : Bool} {cs xs : List AV} {id0 id : Id} (hd : st.obj id0 = .box cs) (hc : cs[c]? = some (.vec id 0 n)) (ho : st.obj id = .vec sz ex xs) (hn : n = xs.length) (h : SR X g st a w) :
    SR X g ((st.setObj id .gone).setObj id0 (.box (cs.set c (.own sz ex xs)))) a w := by
  obtain ⟨β, F, h⟩ := h
  have hii : id ≠ id0 := by rintro rfl; rw [hd] at ho; cases ho
  have hob0 := h.obj id0
  rw [hd] at hob0
  obtain ⟨b, arr, T, lo, hi, Fs, hβ0, hb, hfz, hs, hrr, hF⟩ := hob0
  have hob := h.obj id
  rw [ho] at hob
  obtain ⟨v, hβ, hown⟩ := hob
  have hnd := h.sep.nodup (.o id0)
  rw [hF] at hnd
  obtain ⟨nd1, nd2⟩ := List.nodup_cons.1 hnd
  have hcl : c < cs.length := (List.getElem?_eq_some_iff.1 hc).1
  have hcv : c < arr.size := by omega
  have hvec := hrr c _ _ hc (Array.getElem?_eq_getElem hcv)
  have h0 := hvec.vec_nil
  obtain ⟨G, hG, hown'⟩ := hvec.vec_own hn hβ hown
  have hGs : ∀ b ∈ G, b ∈ F (.o id) := by rintro b hb; rcases hG with rfl | rfl; exact hb; simp at hb
  have hGn : G.Nodup := by rcases hG with rfl | rfl; exact h.sep.nodup _; simp
  have hkn : Key.o id ≠ Key.o id0 := by intro e; injection e with e; exact hii e
  have hap : ∀ x ∈ G, x ∉ F (.o id0) := fun x hx hx' => h.sep.apart _ _ x hkn (hGs x hx) hx'
  obtain ⟨q1, q2⟩ := foots_put (G := G) nd2 h0 hGn (fun x hx hx' => hap x hx (by rw [hF]; exact List.mem_cons_of_mem _ hx'))
  refine h.two (β' := β) (k1 := .o id) (k2 := .o id0) (G1 := []) (G2 := b :: foots (updN Fs c G) cs.length) hkn ?_ (fun x hx => ?_) ?_ ?_ ?_
  · refine List.nodup_cons.2 ⟨fun hm => ?_, q1⟩
    rcases q2 b hm with hm | hm
    · exact nd1 hm
    · exact hap b hm (by rw [hF]; simp)
  · rcases List.mem_cons.1 (by simpa using hx : x ∈ b :: foots (updN Fs c G) cs.length) with rfl | hx
    · exact .inr (by rw [hF]; simp)
    · rcases q2 x hx with hx | hx
      · exact .inr (by rw [hF]; exact List.mem_cons_of_mem _ hx)
      · exact .inl (hGs x hx)
  · intro k x1 x2
    refine (h.krel k).congr (fun d' e => rfl) (fun id' e => ?_)
    rw [St.obj_set_ne (by rintro rfl; exact x2 e), St.obj_set_ne (by rintro rfl; exact x1 e)]
  · simp only [KRel]
    rw [St.obj_set_ne (Ne.symm hii), St.obj_set_same]
    rfl
  · simp only [KRel]
    rw [St.obj_set_same]
    refine ⟨b, arr, T, lo, hi, updN Fs c G, hβ0, hb, hfz, by simpa using hs, ?_, by rw [List.length_set]⟩
    intro k x u hx hu
    by_cases e : k = c
    · subst e
      rw [List.getElem?_set_self hcl] at hx
      cases hx
      rw [Array.getElem?_eq_getElem hcv] at hu
      cases hu
      rw [updN_same]
      exact hown'
    · rw [List.getElem?_set_ne (Ne.symm e)] at hx
      rw [updN_ne e]
      exact hrr k x u hx hu

theorem Run.packBox (id0 : Id) (c : Nat) {sz n : Nat} {ex : Bool} {cs xs : List AV} {id : Id} (hd : st.obj id0 = .box cs) (hc : cs[c]? = some (.vec id 0 n)) (ho : st.obj id = .vec sz ex xs) (hn : n = xs.length)
    (h : Run X g K ((st.setObj id .gone).setObj id0 (.box (cs.set c (.own sz ex xs))))) : Run X g K st := Run.ghost (fun _ _ hI => hI.packBox hd hc ho hn) h

end
end Go.Av
