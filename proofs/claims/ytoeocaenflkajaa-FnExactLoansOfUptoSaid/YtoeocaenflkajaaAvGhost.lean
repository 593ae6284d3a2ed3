/- Ghost steps: what is known is put another way. -/
import Derived.Test.YtoeocaenflkajaaAvRet
namespace Go.Av
open Go Go.RowKit

section
variable {X : Fx} {g : Gx} {st : St} {a : Act} {w : World} {β : Env} {F : Key → List Nat} {L : Nat → Prop} {K : List Item}

theorem Run.ghost {st' : St} (hs : ∀ a w, SR X g st a w → SR X g st' a w) (h : Run X g K st') : Run X g K st :=
  fun hX a w b cs hI => h hX a w b cs (hs a w hI)

theorem Rel.own_vec {sz : Nat} {ex : Bool} {xs : List AV} {u : Value} {G : List Nat} (h : Rel w L β (.own sz ex xs) u G) (id : Id) :
    Rel w L (updE β id (u, sz)) (.vec id 0 xs.length) u [] := by
  cases h with
  | ownNil _ _ _ A => exact .vecNil _ _ sz A A (by simp [updE])
  | own _ _ _ _ b c arr T lo hi Fs hb hfz hs hz hr hc hm he =>
    have := Rel.vec (w := w) (L := L) (updE β id (.slice (some ⟨b, 0, none⟩) xs.length c, sz)) id 0 xs.length b xs.length c sz ⟨b, 0, none⟩ (by simp [updE]) (by omega) (by simp) hc
    simpa using this

theorem Rel.vec_own {id : Id} {sz : Nat} {ex : Bool} {xs : List AV} {u v : Value} {G G' : List Nat} {n : Nat} (h : Rel w L β (.vec id 0 n) u G') (hn : n = xs.length)
    (hβ : β id = some (v, sz)) (ho : Rel w L β (.own sz ex xs) v G) : ∃ G1, (G1 = G ∨ G1 = []) ∧ Rel w L β (.own sz ex xs) u G1 := by
  subst hn
  cases ho with
  | ownNil _ _ _ A =>
    generalize hx : (AV.vec id 0 ([] : List AV).length) = x at h
    cases h with
    | vec _ _ _ _ b n c sz' A' hβ' ho hA hn => 
      injection hx with h1 h2 h3
      subst h1; subst h2; subst h3
      rw [hβ] at hβ'
      injection hβ' with hβ'
      injection hβ' with hβ' _
      injection hβ' with _ h4 h5
      subst h5
      exact ⟨[], .inr rfl, .ownNil _ _ _ _⟩
    | vecNil _ _ _ _ A' hβ' => exact ⟨[], .inr rfl, .ownNil _ _ _ _⟩
    | _ => cases hx
  | own _ _ _ _ b c arr T lo hi Fs hb hfz hs hz hr hc hm he =>
    generalize hx : (AV.vec id 0 xs.length) = x at h
    cases h with
    | vec _ _ _ _ b' n c' sz' A' hβ' ho hA hn =>
      injection hx with h1 h2 h3
      subst h1; subst h2; subst h3
      rw [hβ] at hβ'
      injection hβ' with hβ'
      injection hβ' with hβ' hs'
      injection hβ' with h3 h4 h5
      subst h5
      injection h3 with h3
      injection h3 with h3 _ _
      subst h3
      by_cases hc0 : 0 < c
      · obtain rfl := hA hc0
        simp only [Nat.zero_mul, Nat.sub_zero]
        exact ⟨_, .inl rfl, .own _ _ _ _ _ _ arr T lo hi Fs hb hfz hs hz hr hc hm he⟩
      · obtain rfl : c = 0 := by omega
        obtain rfl : xs = [] := by cases xs; rfl; simp at hc
        exact ⟨[], .inr rfl, .ownNil _ _ _ _⟩
    | vecNil _ _ _ A A' hβ' =>
      injection hx with h1 h2 h3
      subst h1
      rw [hβ] at hβ'
      injection hβ' with hβ'
      injection hβ' with hβ' hs'
      injection hβ' with h4 h5 h6
      subst h6
      have : xs = [] := by cases xs; rfl; simp at h3
      subst this
      exact ⟨[], .inr rfl, .ownNil _ _ _ _⟩
    | _ => cases hx

theorem Lv_upd2 {k k' : Key} {G : List Nat} {b : Nat} (hG : ∀ b ∈ G, b ∈ F k) (h : Lv g (updF (updF F k []) k' G) b) : Lv g F b := by
  rcases h with h | ⟨k2, h⟩
  · exact .inl h
  · by_cases e : k2 = k'
    · subst e; rw [updF_same] at h; exact .inr ⟨k, hG b h⟩
    · rw [updF_ne _ e] at h
      by_cases e2 : k2 = k
      · subst e2; rw [updF_same] at h; simp at h
      · rw [updF_ne _ e2] at h; exact .inr ⟨k2, h⟩

/-- What key k owns goes over to key k', which owned nothing. -/
theorem Sep.move (h : Sep F) {k k' : Key} {G : List Nat} (hne : k' ≠ k) (hG : ∀ b ∈ G, b ∈ F k) (hn : G.Nodup) : Sep (updF (updF F k []) k' G) := by
  have sub : ∀ k2 b, b ∈ updF (updF F k []) k' G k2 → (k2 = k' ∧ b ∈ F k) ∨ (k2 ≠ k' ∧ k2 ≠ k ∧ b ∈ F k2) := by
    intro k2 b hb
    by_cases e : k2 = k'
    · subst e; rw [updF_same] at hb; exact .inl ⟨rfl, hG b hb⟩
    · rw [updF_ne _ e] at hb
      by_cases e2 : k2 = k
      · subst e2; rw [updF_same] at hb; simp at hb
      · rw [updF_ne _ e2] at hb; exact .inr ⟨e, e2, hb⟩
  refine ⟨fun k2 => ?_, fun k2 k3 b hne' hb hb' => ?_⟩
  · by_cases e : k2 = k'
    · subst e; rw [updF_same]; exact hn
    · rw [updF_ne _ e]
      by_cases e2 : k2 = k
      · subst e2; rw [updF_same]; simp
      · rw [updF_ne _ e2]; exact h.nodup k2
  · rcases sub k2 b hb with ⟨rfl, h1⟩ | ⟨e1, e2, h1⟩
    · rcases sub k3 b hb' with ⟨rfl, h2⟩ | ⟨e3, e4, h2⟩
      · exact hne' rfl
      · exact h.apart k k3 b (Ne.symm e4) h1 h2
    · rcases sub k3 b hb' with ⟨rfl, h2⟩ | ⟨e3, e4, h2⟩
      · exact h.apart k2 k b e2 h1 h2
      · exact h.apart k2 k3 b hne' h1 h2

/-- The slice in slot d, which nobody else has, becomes object (d, 0). -/
theorem SR.unpack {d sz : Nat} {ex : Bool} {xs : List AV} (hd : st.get d = .own sz ex xs) (hn : st.nrf (d, 0) = true)
    (h : SR X g st a w) : SR X g ((st.setObj (d, 0) (.vec sz ex xs)).put d (.vec (d, 0) 0 xs.length)) a w := by
  obtain ⟨β, F, h⟩ := h
  obtain ⟨u, hu, hr⟩ := h.slot d
  rw [hd] at hr
  have hne : Key.o (d, 0) ≠ Key.s d := by intro e; cases e
  have hL : ∀ b, Lv g (updF (updF F (.s d) []) (.o (d, 0)) (F (.s d))) b → Lv g F b := fun b hb => Lv_upd2 (fun _ h => h) hb
  refine ⟨updE β (d, 0) (u, sz), updF (updF F (.s d) []) (.o (d, 0)) (F (.s d)), h.defers, h.size, h.kp, h.sep.move hne (fun _ h => h) (h.sep.nodup _), ?_, ?_, ?_, h.pin⟩
  · intro k b hb
    by_cases e : k = .o (d, 0)
    · subst e; rw [updF_same] at hb; exact h.range _ b hb
    · rw [updF_ne _ e] at hb
      by_cases e2 : k = .s d
      · subst e2; rw [updF_same] at hb; simp at hb
      · rw [updF_ne _ e2] at hb; exact h.range _ b hb
  · intro j
    rw [St.get_put, St.get_setObj]
    by_cases hj : d = j
    · subst hj
      rw [if_pos rfl, updF_ne _ (Ne.symm hne), updF_same]
      refine ⟨u, .inl (hu.resolve_right (by rw [hd]; simp)), ?_⟩
      exact (hr.own_vec _).sub fun b _ hb => hL b hb
    · rw [if_neg hj, updF_ne _ (by intro e; cases e), updF_ne _ (by intro e; injection e with e; exact hj e.symm)]
      obtain ⟨u', hu', hr'⟩ := h.slot j
      exact ⟨u', hu', (hr'.upd _ _ (St.nrf_get hn j)).sub fun b _ hb => hL b hb⟩
  · intro id
    rw [St.obj_put, St.obj_setObj]
    by_cases hi : (d, 0) = id
    · subst hi
      rw [if_pos rfl, updF_same]
      refine ⟨u, by simp [updE], ?_⟩
      exact (hr.upd _ _ (by simp [AV.nrf])).sub fun b _ hb => hL b hb
    · rw [if_neg hi, updF_ne _ (by intro e; injection e with e; exact hi e.symm), updF_ne _ (by intro e; cases e)]
      exact ((h.obj id).upd _ _ (fun e => hi e.symm) (St.nrf_obj hn id)).keep (M := fun _ => False) (fun _ _ _ => rfl) (fun _ h => h.elim) (fun b _ hb => hL b hb) (fun _ _ h => h)

/-- Object id is put back into slot d. -/
theorem SR.pack {d sz : Nat} {ex : Bool} {xs : List AV} {id : Id} {n : Nat} (hd : st.get d = .vec id 0 n) (ho : st.obj id = .vec sz ex xs) (hn : n = xs.length)
    (h : SR X g st a w) : SR X g ((st.setObj id .gone).put d (.own sz ex xs)) a w := by
  obtain ⟨β, F, h⟩ := h
  obtain ⟨u, hu, hr⟩ := h.slot d
  rw [hd] at hr
  have hob := h.obj id
  rw [ho] at hob
  obtain ⟨v, hβ, hown⟩ := hob
  obtain ⟨G, hG, hown'⟩ := hr.vec_own hn hβ hown
  have hGs : ∀ b ∈ G, b ∈ F (.o id) := by rintro b hb; rcases hG with rfl | rfl; exact hb; simp at hb
  have hGn : G.Nodup := by rcases hG with rfl | rfl; exact h.sep.nodup _; simp
  have hne : Key.s d ≠ Key.o id := by intro e; cases e
  have hL : ∀ b, Lv g (updF (updF F (.o id) []) (.s d) G) b → Lv g F b := fun b hb => Lv_upd2 hGs hb
  refine ⟨β, updF (updF F (.o id) []) (.s d) G, h.defers, h.size, h.kp, h.sep.move hne hGs hGn, ?_, ?_, ?_, h.pin⟩
  · intro k b hb
    by_cases e : k = .s d
    · subst e; rw [updF_same] at hb; exact h.range _ b (hGs b hb)
    · rw [updF_ne _ e] at hb
      by_cases e2 : k = .o id
      · subst e2; rw [updF_same] at hb; simp at hb
      · rw [updF_ne _ e2] at hb; exact h.range _ b hb
  · intro j
    rw [St.get_put, St.get_setObj]
    by_cases hj : d = j
    · subst hj
      rw [if_pos rfl, updF_same]
      exact ⟨u, .inl (hu.resolve_right (by rw [hd]; simp)), hown'.sub fun b _ hb => hL b hb⟩
    · rw [if_neg hj, updF_ne _ (by intro e; injection e with e; exact hj e.symm), updF_ne _ (by intro e; cases e)]
      obtain ⟨u', hu', hr'⟩ := h.slot j
      exact ⟨u', hu', hr'.sub fun b _ hb => hL b hb⟩
  · intro id'
    rw [St.obj_put, St.obj_setObj]
    by_cases hi : id = id'
    · subst hi
      rw [if_pos rfl, updF_ne _ (Ne.symm hne), updF_same]
      rfl
    · rw [if_neg hi, updF_ne _ (by intro e; cases e), updF_ne _ (by intro e; injection e with e; exact hi e.symm)]
      exact (h.obj id').keep (M := fun _ => False) (fun _ _ _ => rfl) (fun _ h => h.elim) (fun b _ hb => hL b hb) (fun _ _ h => h)

/-- The value in a slot is known in another way, too. -/
theorem SR.conv {d : Nat} {v : AV} (hv : ∀ (w : World) (L : Nat → Prop) (β : Env) (u : Value) (G : List Nat), Rel w L β (st.get d) u G → ∃ G1, (∀ b ∈ G1, b ∈ G) ∧ G1.Nodup ∧ Rel w L β v u G1) (hd : st.get d ≠ .top)
    (h : SR X g st a w) : SR X g (st.put d v) a w := by
  obtain ⟨β, F, h⟩ := h
  obtain ⟨u, hu, hr⟩ := h.slot d
  obtain ⟨G, hGs, hGn, hr'⟩ := hv _ _ _ _ _ hr
  have hL : ∀ b, Lv g (updF F (.s d) G) b → Lv g F b := by
    rintro b (hb | ⟨k, hb⟩)
    · exact .inl hb
    · by_cases e : k = .s d
      · subst e; rw [updF_same] at hb; exact .inr ⟨_, hGs b hb⟩
      · rw [updF_ne _ e] at hb; exact .inr ⟨_, hb⟩
  refine ⟨β, updF F (.s d) G, h.defers, h.size, h.kp, ⟨?_, ?_⟩, ?_, ?_, ?_, h.pin⟩
  · intro k
    by_cases e : k = .s d
    · subst e; rw [updF_same]; exact hGn
    · rw [updF_ne _ e]; exact h.sep.nodup _
  · intro k k' b hne hb hb'
    have aux : ∀ k, b ∈ updF F (.s d) G k → b ∈ F k := by
      intro k hb
      by_cases e : k = .s d
      · subst e; rw [updF_same] at hb; exact hGs b hb
      · rw [updF_ne _ e] at hb; exact hb
    exact h.sep.apart k k' b hne (aux k hb) (aux k' hb')
  · intro k b hb
    by_cases e : k = .s d
    · subst e; rw [updF_same] at hb; exact h.range _ b (hGs b hb)
    · rw [updF_ne _ e] at hb; exact h.range _ b hb
  · intro j
    rw [St.get_put]
    by_cases hj : d = j
    · subst hj
      rw [if_pos rfl, updF_same]
      exact ⟨u, .inl (hu.resolve_right hd), hr'.sub fun b _ hb => hL b hb⟩
    · rw [if_neg hj, updF_ne _ (by intro e; injection e with e; exact hj e.symm)]
      obtain ⟨u', hu', hr'⟩ := h.slot j
      exact ⟨u', hu', hr'.sub fun b _ hb => hL b hb⟩
  · intro id
    rw [St.obj_put, updF_ne _ (by intro e; cases e)]
    exact (h.obj id).keep (M := fun _ => False) (fun _ _ _ => rfl) (fun _ h => h.elim) (fun b _ hb => hL b hb) (fun _ _ h => h)

/-- What slot d owns is only read from now on. -/
theorem SR.freeze {d : Nat} (hd : st.get d ≠ .top) (h : SR X g st a w) : SR X g (st.put d (st.get d).frz) a w := by
  obtain ⟨β, F, h⟩ := h
  obtain ⟨u, hu, hr⟩ := h.slot d
  have hL : ∀ b, Lv g (updF F (.s d) []) b → Lv g F b := fun b hb => Lv_updF_nil hb
  have hout : ∀ b ∈ F (.s d), ¬ Lv g (updF F (.s d) []) b := by
    rintro b hb (h0 | ⟨k, hk⟩)
    · obtain ⟨h1, h2⟩ := g.hL b h0
      rcases h.range _ b hb with h3 | h3
      · exact h2 h3
      · omega
    · by_cases e : k = .s d
      · subst e; rw [updF_same] at hk; simp at hk
      · rw [updF_ne _ e] at hk; exact h.sep.apart _ _ b e hk hb
  refine ⟨β, updF F (.s d) [], h.defers, h.size, h.kp, ⟨?_, ?_⟩, ?_, ?_, ?_, h.pin⟩
  · intro k
    by_cases e : k = .s d
    · subst e; rw [updF_same]; simp
    · rw [updF_ne _ e]; exact h.sep.nodup _
  · intro k k' b hne hb hb'
    have aux : ∀ k, b ∈ updF F (.s d) [] k → b ∈ F k := by
      intro k hb
      by_cases e : k = .s d
      · subst e; rw [updF_same] at hb; simp at hb
      · rw [updF_ne _ e] at hb; exact hb
    exact h.sep.apart k k' b hne (aux k hb) (aux k' hb')
  · intro k b hb
    by_cases e : k = .s d
    · subst e; rw [updF_same] at hb; simp at hb
    · rw [updF_ne _ e] at hb; exact h.range _ b hb
  · intro j
    rw [St.get_put]
    by_cases hj : d = j
    · subst hj
      rw [if_pos rfl, updF_same]
      exact ⟨u, .inl (hu.resolve_right hd), hr.frz (fun b _ hb => hL b hb) hout⟩
    · rw [if_neg hj, updF_ne _ (by intro e; injection e with e; exact hj e.symm)]
      obtain ⟨u', hu', hr'⟩ := h.slot j
      exact ⟨u', hu', hr'.sub fun b _ hb => hL b hb⟩
  · intro id
    rw [St.obj_put, updF_ne _ (by intro e; cases e)]
    exact (h.obj id).keep (M := fun _ => False) (fun _ _ _ => rfl) (fun _ h => h.elim) (fun b _ hb => hL b hb) (fun _ _ h => h)

end
end Go.Av
