/- Slice expressions. -/
import Derived.Test.YtahdgoddpkmhbaaAvMore
namespace Go.Av
open Go Go.RowKit

section
variable {X : Fx} {g : Gx} {st st' : St} {a : Act} {w w' : World} {β β' : Env} {F : Key → List Nat} {L : Nat → Prop} {K : List Item} {k : List Item}
variable {ops : Array Oper} {i : Nat} {rest : List Nat} {o : Oper}

theorem sb_run {P : Program} {w : World} (b : Bool) (len cap : Nat) (lo hi : Option Value) (l h : Nat) (hlo : match lo with | none => l = 0 | some v => ∃ k, v = .int k (l : Int))
    (hhi : match hi with | none => h = len | some v => ∃ k, v = .int k (h : Int)) (h1 : l ≤ h) (h2 : h ≤ cap) : (Instr.sliceBounds b len cap lo hi none).run P w = .ok (l, h, cap) w := by
  have e1 : ∀ k y c, l ≤ y → (Instr.sliceBound (.int k (l : Int)) y c).run P w = .ok l w := by
    intro k y c hy
    have : (l : Int) ≤ y := by omega
    simp [Instr.sliceBound, asIntOf, this]
  have e2 : ∀ k y c, h ≤ y → (Instr.sliceBound (.int k (h : Int)) y c).run P w = .ok h w := by
    intro k y c hy
    have : (h : Int) ≤ y := by omega
    simp [Instr.sliceBound, asIntOf, this]
  cases lo with
  | none =>
    cases hi with
    | none =>
      simp only at hlo hhi
      subst hlo; subst hhi
      simp [Instr.sliceBounds]
    | some v =>
      simp only at hlo
      obtain ⟨k, rfl⟩ := hhi
      subst hlo
      simp [Instr.sliceBounds, e2 _ _ _ h2]
  | some u =>
    obtain ⟨k, rfl⟩ := hlo
    cases hi with
    | none =>
      simp only at hhi
      subst hhi
      simp [Instr.sliceBounds, e1 _ _ _ h1]
    | some v =>
      obtain ⟨k', rfl⟩ := hhi
      simp [Instr.sliceBounds, e1 _ _ _ h1, e2 _ _ _ h2]

/-- A bound of a slice expression. -/
def bndE (st : St) (y : Option Operand) (d : Nat) : Option Int :=
  match y with
  | none => some d
  | some y => match st.ev y with
    | .lit (.int _ n) => some n
    | _ => none

theorem bndE_ok (h : Inv X g st a w β F L) {y : Option Operand} {d : Nat} {n : Int} (hb : bndE st y d = some n) (h0 : 0 ≤ n) :
    match y.map a.eval with | none => n.toNat = d | some v => ∃ k, v = .int k (n.toNat : Int) := by
  unfold bndE at hb
  cases y with
  | none => simp at hb; simp; omega
  | some y =>
    simp only at hb
    split at hb
    · rename_i k m he
      cases hb
      refine ⟨k, ?_⟩
      rw [ev_lit h he]
      congr 1
      omega
    · cases hb

theorem RowAt.drop {w : World} {b o : Nat} {vals : List Value} (h : RowAt w b o vals) (l n : Nat) : RowAt w b (o + l) ((vals.take n).drop l) := by
  intro k u hk
  rw [List.getElem?_drop, List.getElem?_take] at hk
  split at hk
  · have := h (l + k) u hk
    rw [Nat.add_assoc]
    exact this
  · cases hk

/-- A part of a slice that is only read. -/
theorem ValOk.cut {t e : Nat} {ti : TI} {x : Operand} {lo hi : Option Operand} {sz : Nat} {ex : Bool} {xs ys : List AV} {l h : Int}
    (hop : o.op = .slice t x lo hi none) (hT : sliceAt X.T t = some (e, ti)) (hx : st.ev x = .ro sz ex xs) (hsz : ti.sz = sz)
    (hlo : bndE st lo 0 = some l) (hhi : bndE st hi xs.length = some h) (h0 : 0 ≤ l) (h1 : l ≤ h) (h2 : h ≤ xs.length) (hy : (xs.take h.toNat).drop l.toNat = ys) :
    ValOk X g st o (.ro sz false ys) := by
  subst hy
  intro hX a w β F hI
  obtain ⟨i', ht, hud, hte⟩ := sliceAt_ok hX hT
  have hR := ev_rel hI x (by rw [hx]; rfl)
  rw [hx] at hR
  have b1 := bndE_ok hI hlo h0
  have b2 := bndE_ok hI hhi (by omega)
  generalize hu : a.eval x = u at hR
  generalize hG : ([] : List Nat) = G at hR
  have hlh : l.toNat ≤ h.toNat := by omega
  have hhl : h.toNat ≤ xs.length := by omega
  cases hR with
  | roNil _ _ _ A c hc he =>
    have e1 : l.toNat = 0 := by simp at hhl; omega
    have e2 : h.toNat = 0 := by simp at hhl; omega
    refine ⟨.slice (if c = 0 then A else A.map (·.add (0 * ti.sz))) 0 (c - 0), fun w2 _ => ?_, ?_⟩
    · have hs := un_run ht w2
      rw [hud] at hs
      have hb := sb_run (P := X.P) (w := w2) true 0 c (lo.map a.eval) (hi.map a.eval) l.toNat h.toNat b1 b2 hlh (by omega)
      rw [e1, e2] at hb
      simp [execOp, hop, Instr.sliceAt, Instr.slice, hs, hu, hb, sizeOf_run hte]
    · simp only [List.take_nil, List.drop_nil]
      exact .roNil _ _ _ _ _ (by omega) (by simp)
  | ro _ _ _ _ b o' c vals hL hz hl hrow hr hc hm' he =>
    refine ⟨.slice (if c = l.toNat then some ⟨b, o', none⟩ else some ⟨b, o' + l.toNat * ti.sz, none⟩) (h.toNat - l.toNat) (c - l.toNat), fun w2 _ => ?_, ?_⟩
    · have hs := un_run ht w2
      rw [hud] at hs
      have hb := sb_run (P := X.P) (w := w2) true xs.length c (lo.map a.eval) (hi.map a.eval) l.toNat h.toNat b1 b2 hlh (by omega)
      simp [execOp, hop, Instr.sliceAt, Instr.slice, hs, hu, hb, sizeOf_run hte, addr_add]
    · have hlen : ((xs.take h.toNat).drop l.toNat).length = h.toNat - l.toNat := by simp; omega
      have hz' : ∀ x ∈ (xs.take h.toNat).drop l.toNat, x.cells.length = sz := fun x hx => hz x (List.mem_of_mem_take (List.mem_of_mem_drop hx))
      have hzt : ∀ x ∈ xs.take h.toNat, x.cells.length = sz := fun x hx => hz x (List.mem_of_mem_take hx)
      have hfl : flatc ((xs.take h.toNat).drop l.toNat) = ((flatc xs).take (h.toNat * sz)).drop (l.toNat * sz) := by rw [flatc_drop hzt, flatc_take hz]
      by_cases hc0 : c = l.toNat
      · have : (xs.take h.toNat).drop l.toNat = [] := List.length_eq_zero_iff.1 (by rw [hlen]; omega)
        rw [this, if_pos hc0, show h.toNat - l.toNat = 0 by omega]
        exact .roNil _ _ _ _ _ (by omega) (by simp)
      · rw [if_neg hc0, hsz, ← hlen]
        refine .ro _ _ _ _ b _ _ ((vals.take (h.toNat * sz)).drop (l.toNat * sz)) (fun hv => hL ?_) hz' ?_ (hrow.drop _ _) ?_ (by rw [hlen]; omega) (by omega) (by simp)
        · rintro rfl
          simp at hv
        · rw [hfl, List.length_drop, List.length_drop, List.length_take, List.length_take, hl]
        · intro k x u hx hu
          rw [hfl, List.getElem?_drop, List.getElem?_take] at hx
          rw [List.getElem?_drop, List.getElem?_take] at hu
          split at hx
          · rename_i hk
            rw [if_pos hk] at hu
            exact hr _ x u hx hu
          · cases hx

theorem one_cells {x : AV} (h : x.one = true) : x.cells = [x] := by
  cases x <;> first | rfl | (simp [AV.one] at h)

theorem flatc_one {xs : List AV} (h : oneL xs = true) : flatc xs = xs := by
  unfold flatc
  induction xs with
  | nil => rfl
  | cons x xs ih =>
    simp only [oneL, Bool.and_eq_true] at h
    rw [List.flatMap_cons, ih h.2, one_cells h.1]
    rfl

/-- All of an array in memory that is only read. -/
theorem ValOk.cutArr {t e n : Nat} {ti te : TI} {x : Operand} {cs ys : List AV} {j : Nat} (hop : o.op = .slice t x none none none) (hT : X.T t = some ti) (hud : ti.ud = .array n e) (hTe : X.T e = some te)
    (hsz : te.sz = 1) (hx : st.ev x = .rp cs j) (hy : (cs.drop j).take n = ys) (hl : ys.length = n) (h1 : oneL ys = true) (hn : Nat.ble n capMax = true) : ValOk X g st o (.ro 1 true ys) := by
  subst hy
  intro hX a w β F hI
  have ht := ty_of hX hT
  have hte := ty_of hX hTe
  have hR := ev_rel hI x (by rw [hx]; rfl)
  rw [hx] at hR
  generalize hu : a.eval x = u at hR
  generalize hG : ([] : List Nat) = G at hR
  cases hR with
  | rp _ _ _ b o' vals hL hl' hrow hr =>
    refine ⟨.slice (some ⟨b, o' + j, none⟩) n n, fun w2 _ => ?_, ?_⟩
    · have hs := un_run ht w2
      rw [hud] at hs
      have hb := sb_run (P := X.P) (w := w2) false n n none none 0 n rfl rfl (by omega) (by omega)
      by_cases h0 : n = 0
      · subst h0
        simp [execOp, hop, Instr.sliceAt, Instr.sureAddr, hs, hu, hb, sizeOf_run hte]
      · simp [execOp, hop, Instr.sliceAt, Instr.sureAddr, hs, hu, hb, sizeOf_run hte, h0, addr_add]
    · have hf := flatc_one h1
      have hv : ((vals.drop j).take n).length = n := by
        have := hl
        rw [List.length_take, List.length_drop] at this ⊢
        rw [← hl']
        exact this
      have := Rel.ro (w := w) (L := Lv g F) β 1 true ((cs.drop j).take n) b (o' + j) n ((vals.drop j).take n) (fun hv => hL (by rintro rfl; simp at hv)) (fun x hx => by
        obtain ⟨k, hk, rfl⟩ := List.getElem_of_mem hx
        rw [one_cells (oneL_get h1 k _ (List.getElem?_eq_getElem hk))]
        rfl) (by rw [hf, hl, hv]) ?_ ?_ (by omega) (Nat.le_of_ble_eq_true hn) (fun _ => hl.symm)
      · rw [hl] at this
        exact this
      · intro k u hk
        rw [List.getElem?_take] at hk
        split at hk
        · rw [List.getElem?_drop] at hk
          have := hrow (j + k) u hk
          rw [Nat.add_assoc]
          exact this
        · cases hk
      · intro k x u hx hu
        rw [hf, List.getElem?_take] at hx
        rw [List.getElem?_take] at hu
        split at hx
        · rename_i hk
          rw [if_pos hk, List.getElem?_drop] at hu
          rw [List.getElem?_drop] at hx
          exact hr _ x u hx hu
        · cases hx

/-- A part of an own slice. -/
theorem ValOk.cutv {t e : Nat} {ti : TI} {x : Operand} {lo hi : Option Operand} {id : Id} {off len sz : Nat} {ex : Bool} {xs : List AV} {l h : Int}
    (hop : o.op = .slice t x lo hi none) (hT : sliceAt X.T t = some (e, ti)) (hx : st.ev x = .vec id off len) (hob : st.obj id = .vec sz ex xs) (hsz : ti.sz = sz)
    (hlo : bndE st lo 0 = some l) (hhi : bndE st hi len = some h) (h0 : 0 ≤ l) (h1 : l ≤ h) (h2 : h ≤ len) : ValOk X g st o (.vec id (off + l.toNat) (h.toNat - l.toNat)) := by
  intro hX a w β F hI
  obtain ⟨i', ht, hud, hte⟩ := sliceAt_ok hX hT
  have hR := ev_rel hI x (by rw [hx]; rfl)
  rw [hx] at hR
  have b1 := bndE_ok hI hlo h0
  have b2 := bndE_ok hI hhi (by omega)
  have ho := hI.obj id
  rw [hob] at ho
  obtain ⟨v0, hβ0, hown⟩ := ho
  generalize hu : a.eval x = u at hR
  generalize hG : ([] : List Nat) = G at hR
  have hlh : l.toNat ≤ h.toNat := by omega
  have hhl : h.toNat ≤ len := by omega
  cases hR with
  | vec _ _ _ _ b n c sz' A hβ hlen hA hn =>
    rw [hβ] at hβ0
    cases hβ0
    subst hsz
    refine ⟨.slice (if c - off = l.toNat then some A else some (A.add (l.toNat * ti.sz))) (h.toNat - l.toNat) (c - off - l.toNat), fun w2 _ => ?_, ?_⟩
    · have hs := un_run ht w2
      rw [hud] at hs
      have hb := sb_run (P := X.P) (w := w2) true len (c - off) (lo.map a.eval) (hi.map a.eval) l.toNat h.toNat b1 b2 hlh (by omega)
      simp [execOp, hop, Instr.sliceAt, Instr.slice, hs, hu, hb, sizeOf_run hte]
    · have e1 : c - off - l.toNat = c - (off + l.toNat) := by omega
      rw [e1]
      by_cases hc0 : c - off = l.toNat
      · rw [if_pos hc0]
        exact .vec _ _ _ _ b n c _ A hβ (by omega) (fun h => by omega) hn
      · rw [if_neg hc0]
        refine .vec _ _ _ _ b n c _ _ hβ (by omega) (fun h => ?_) hn
        rw [hA (by omega), addr_add, Nat.add_mul]
  | vecNil _ _ sz' A A' hβ =>
    rw [hβ] at hβ0
    cases hβ0
    have e1 : l.toNat = 0 := by omega
    have e2 : h.toNat = 0 := by omega
    refine ⟨.slice A' 0 0, fun w2 _ => ?_, ?_⟩
    · have hs := un_run ht w2
      rw [hud] at hs
      have hb := sb_run (P := X.P) (w := w2) true 0 0 (lo.map a.eval) (hi.map a.eval) l.toNat h.toNat b1 b2 hlh (by omega)
      rw [e1, e2] at hb
      simp [execOp, hop, Instr.sliceAt, Instr.slice, hs, hu, hb, sizeOf_run hte]
    · rw [e1, e2]
      exact .vecNil _ _ _ _ _ hβ
end
end Go.Av
