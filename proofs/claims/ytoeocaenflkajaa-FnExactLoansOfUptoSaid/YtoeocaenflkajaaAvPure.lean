/- Operations that yield a value and touch nothing. -/
import Derived.Test.YtoeocaenflkajaaAvGhost
namespace Go.Av
open Go Go.RowKit

-- owns nothing, and is known
mutual
def AV.pl : AV → Bool
  | .top => false
  | .own .. => false
  | .tup _ => false
  | .agg cs => AV.plL cs
  | _ => true
def AV.plL : List AV → Bool
  | [] => true
  | x :: xs => x.pl && AV.plL xs
end

theorem AV.plL_get {xs : List AV} (h : AV.plL xs = true) : ∀ (k : Nat) (x : AV), xs[k]? = some x → x.pl = true := by
  induction xs with
  | nil => intro k x hx; simp at hx
  | cons y ys ih =>
    simp only [AV.plL, Bool.and_eq_true] at h
    intro k x hx
    cases k with
    | zero => simp at hx; subst hx; exact h.1
    | succ k => exact ih h.2 k x (by simpa using hx)

theorem Rel.pl_nil {w : World} {L : Nat → Prop} {β : Env} {x : AV} {v : Value} {F : List Nat} (h : Rel w L β x v F) : x.pl = true → F = [] := by
  induction h with
  | agg β cs vals Fs hl hr ih =>
    intro hp
    refine foots_nil fun k hk => ?_
    exact ih k _ _ (List.getElem?_eq_getElem hk) (Array.getElem?_eq_getElem (hl ▸ hk)) (AV.plL_get (by simpa [AV.pl] using hp) k _ (List.getElem?_eq_getElem hk))
  | ownNil => intro hp; simp [AV.pl] at hp
  | own => intro hp; simp [AV.pl] at hp
  | tup => intro hp; simp [AV.pl] at hp
  | top => intro hp; simp [AV.pl] at hp
  | _ => intro _; rfl

def liftv : Value → AV
  | .agg cs => .agg (cs.toList.map .lit)
  | v => .lit v

theorem liftv_rel (w : World) (L : Nat → Prop) (β : Env) (v : Value) : Rel w L β (liftv v) v [] := by
  cases v with
  | agg cs =>
    have := Rel.agg (w := w) (L := L) β (cs.toList.map .lit) cs (fun _ => []) (by simp) (by
      intro k x u hx hu
      rw [List.getElem?_map] at hx
      obtain ⟨y, hy, rfl⟩ := Option.map_eq_some_iff.1 hx
      obtain rfl : y = u := by simpa [hu] using hy.symm
      exact .lit _ _)
    rwa [foots_nil (fun _ _ => rfl)] at this
  | _ => exact .lit _ _

def St.ev (st : St) : Operand → AV
  | .tmp d => st.get d
  | .const v => liftv v
  | .func f => .fn f []
  | .global _ => .top

/-- The value itself, if it owns nothing and is known (spelled anew, so that it stands there plainly). -/
def plain : AV → Option AV
  | .lit v => some (.lit v)
  | .ro s e xs => some (.ro s e xs)
  | .fn f cs => some (.fn f cs)
  | .mv f cs => some (.mv f cs)
  | .rp cs j => some (.rp cs j)
  | .bp id j => some (.bp id j)
  | .ep id i j => some (.ep id i j)
  | .vec id o l => some (.vec id o l)
  | .agg cs => bif AV.plL cs then some (.agg cs) else none
  | _ => none

theorem plain_some {x v : AV} (h : plain x = some v) : x = v ∧ v.pl = true := by
  cases x <;> simp only [plain] at h <;> first
    | (cases h; done)
    | (cases h; exact ⟨rfl, rfl⟩)
    | (rename_i cs
       cases hp : AV.plL cs <;> simp [hp] at h
       subst h; exact ⟨rfl, by simpa [AV.pl] using hp⟩)

section
variable {X : Fx} {g : Gx} {st : St} {a : Act} {w : World} {β : Env} {F : Key → List Nat} {L : Nat → Prop}

theorem ev_rel0 (h : Inv X g st a w β F L) (x : Operand) (hp : st.ev x ≠ .top) : ∃ G, Rel w L β (st.ev x) (a.eval x) G := by
  cases x with
  | tmp d => exact ⟨_, h.slotv hp⟩
  | const v => exact ⟨[], liftv_rel _ _ _ _⟩
  | func f => exact ⟨[], .fn _ _ [] #[] rfl (by simp)⟩
  | global _ => exact absurd rfl hp

theorem ev_rel (h : Inv X g st a w β F L) (x : Operand) (hp : (st.ev x).pl = true) : Rel w L β (st.ev x) (a.eval x) [] := by
  obtain ⟨G, hG⟩ := ev_rel0 h x (by intro e; rw [e] at hp; simp [AV.pl] at hp)
  obtain rfl := hG.pl_nil hp
  exact hG

theorem ev_lit (h : Inv X g st a w β F L) {x : Operand} {v : Value} (hx : st.ev x = .lit v) : a.eval x = v := by
  have := ev_rel h x (by rw [hx]; rfl)
  rw [hx] at this
  generalize a.eval x = u at this
  cases this; rfl

/-- n cells from j on, as a value of the type. -/
def rdc (i : TI) (cs : List AV) (j : Nat) : Option AV :=
  bif isAggD i.ud then
    let l := (cs.drop j).take i.sz
    bif Nat.beq l.length i.sz && AV.plL l then some (.agg l) else none
  else match cs[j]? with
    | some x => plain x
    | none => none

theorem load_row {P : Program} {t : TypeId} {i : TI} (ht : TyOk P t i) {b o j : Nat} {vals : List Value} {cs : List AV} {Fs : Nat → List Nat} {v : AV}
    (hl : cs.length = vals.length) (hr : ∀ (k : Nat) (x : AV) (u : Value), cs[k]? = some x → vals[k]? = some u → Rel w L β x u (Fs k))
    (hv : rdc i cs j = some v) : ∃ u, (∀ w2, RowAt w2 b o vals → (loadVar t ⟨b, o + j, none⟩).run P w2 = .ok u w2) ∧ Rel w L β v u [] := by
  unfold rdc at hv
  cases hag : isAggD i.ud
  · rw [hag] at hv
    simp only [cond_false] at hv
    split at hv
    · rename_i x hx
      obtain ⟨rfl, hp⟩ := plain_some hv
      have hj : j < vals.length := by rw [← hl]; exact (List.getElem?_eq_some_iff.1 hx).1
      have hu := List.getElem?_eq_getElem hj
      have hR := hr j x _ hx hu
      obtain he := hR.pl_nil hp
      rw [he] at hR
      refine ⟨vals[j], fun w2 hrow2 => ?_, hR⟩
      simp only [loadVar, Sem.run_bind, isAgg_run ht, hag, Result.andThen_ok, Bool.false_eq_true, if_false]
      simp [hrow2 j _ hu]
    · cases hv
  · rw [hag] at hv
    simp only [cond_true] at hv
    by_cases hc : (Nat.beq ((cs.drop j).take i.sz).length i.sz && AV.plL ((cs.drop j).take i.sz)) = true
    · rw [hc] at hv
      simp only [cond_true, Option.some.injEq] at hv
      subst hv
      simp only [Bool.and_eq_true] at hc
      obtain ⟨h1, h2⟩ := hc
      have h1 := Nat.eq_of_beq_eq_true h1
      have hlv : ((vals.drop j).take i.sz).length = i.sz := by simp at h1 ⊢; omega
      have hload := fun (w2 : World) (hrow2 : RowAt w2 b o vals) => run_loadCells_list (P := P) (w := w2) ⟨b, o + j, none⟩ ((vals.drop j).take i.sz) (fun k u hk => by
        have hadd : (⟨b, o + j, none⟩ : Addr).add k = ⟨b, o + (j + k), none⟩ := by unfold Addr.add; split <;> simp_all <;> omega
        rw [hadd]
        refine hrow2 (j + k) u ?_
        rw [List.getElem?_take] at hk
        split at hk
        · simpa using hk
        · cases hk)
      refine ⟨.agg ((vals.drop j).take i.sz).toArray, ?_, ?_⟩
      · intro w2 hrow2
        have hload := hload w2 hrow2
        simp only [loadVar, Sem.run_bind, isAgg_run ht, hag, Result.andThen_ok, if_true, sizeOf_run ht]
        rw [hlv] at hload
        simp [hload]
      · have := Rel.agg (w := w) (L := L) β ((cs.drop j).take i.sz) ((vals.drop j).take i.sz).toArray (fun _ => []) (by simp at hlv h1 ⊢; omega) (by
          intro k x u hx hu
          have hp := AV.plL_get h2 k x hx
          rw [List.getElem?_take] at hx
          rw [List.getElem?_toArray, List.getElem?_take] at hu
          split at hx
          · rename_i hk
            rw [if_pos hk] at hu
            have hR := hr (j + k) x u (by simpa using hx) (by simpa using hu)
            rw [hR.pl_nil hp] at hR
            exact hR
          · cases hx)
        rwa [foots_nil (fun _ _ => rfl)] at this
    · simp only [Bool.not_eq_true] at hc
      rw [hc] at hv
      simp at hv

end
end Go.Av
