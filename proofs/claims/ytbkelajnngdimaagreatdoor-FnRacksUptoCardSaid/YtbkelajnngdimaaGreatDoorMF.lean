/- Parts of a proof, in one text: AvCut, AvKey, AvTail, AvIdeal, AvRoApp, AvTake, AvRows, AvInsert, AvRef, AvFront, AvCell. -/
import Derived.Test.YtbkelajnngdimaaGreatDoorMB
import Derived.DeepKeys3
import Derived.Laws.Externs
set_option linter.unusedVariables false

/- Slice expressions. -/
namespace Go.Av
open Go Go.RowKit
section
variable {X : Fx} {g : Gx} {st st' : St} {a : Act} {w w' : World} {β β' : Env} {F : Key → List Nat} {L : Nat → Prop} {K : List Item} {k : List Item}
variable {ops : Array Oper} {i : Nat} {rest : List Nat} {o : Oper}
theorem sb_run {P : Program} {w : World} (b : Bool) (len cap : Nat) (lo hi : Option Value) (l h : Nat) (hlo : match lo with | none => l = 0 | some v => ∃ k, v = .int k (l : Int))
    (hhi : match hi with | none => h = len | some v => ∃ k, v = .int k (h : Int)) (h1 : l ≤ h) (h2 : h ≤ cap) : (Instr.sliceBounds b len cap lo hi none).run P w = .ok (l, h, cap) w := by
  have e1 : ∀ k y c, l ≤ y → (Instr.sliceBound (.int k (l : Int)) y c).run P w = .ok l w := by
    intro k y c hy
    have : (l : Int) ≤ y := by omega
    simp [Instr.sliceBound, asIntOf, this]
  have e2 : ∀ k y c, h ≤ y → (Instr.sliceBound (.int k (h : Int)) y c).run P w = .ok h w := by
    intro k y c hy
    have : (h : Int) ≤ y := by omega
    simp [Instr.sliceBound, asIntOf, this]
  cases lo with
  | none =>
    cases hi with
    | none =>
      simp only at hlo hhi
      subst hlo; subst hhi
      simp [Instr.sliceBounds]
    | some v =>
      simp only at hlo
      obtain ⟨k, rfl⟩ := hhi
      subst hlo
      simp [Instr.sliceBounds, e2 _ _ _ h2]
  | some u =>
    obtain ⟨k, rfl⟩ := hlo
    cases hi with
    | none =>
      simp only at hhi
      subst hhi
      simp [Instr.sliceBounds, e1 _ _ _ h1]
    | some v =>
      obtain ⟨k', rfl⟩ := hhi
      simp [Instr.sliceBounds, e1 _ _ _ h1, e2 _ _ _ h2]
def bndE (st : St) (y : Option Operand) (d : Nat) : Option Int :=
  match y with
  | none => some d
  | some y => match st.ev y with
    | .lit (.int _ n) => some n
    | _ => none
theorem bndE_ok (h : Inv X g st a w β F L) {y : Option Operand} {d : Nat} {n : Int} (hb : bndE st y d = some n) (h0 : 0 ≤ n) :
    match y.map a.eval with | none => n.toNat = d | some v => ∃ k, v = .int k (n.toNat : Int) := by
  unfold bndE at hb
  cases y with
  | none => simp at hb; simp; omega
  | some y =>
    simp only at hb
    split at hb
    · rename_i k m he
      cases hb
      refine ⟨k, ?_⟩
      rw [ev_lit h he]
      congr 1
      omega
    · cases hb
theorem RowAt.drop {w : World} {b o : Nat} {vals : List Value} (h : RowAt w b o vals) (l n : Nat) : RowAt w b (o + l) ((vals.take n).drop l) := by
  intro k u hk
  rw [List.getElem?_drop, List.getElem?_take] at hk
  split at hk
  · have := h (l + k) u hk
    rw [Nat.add_assoc]
    exact this
  · cases hk
theorem ValOk.cut {t e : Nat} {ti : TI} {x : Operand} {lo hi : Option Operand} {sz : Nat} {ex : Bool} {xs ys : List AV} {l h : Int}
    (hop : o.op = .slice t x lo hi none) (hT : sliceAt X.T t = some (e, ti)) (hx : st.ev x = .ro sz ex xs) (hsz : ti.sz = sz)
    (hlo : bndE st lo 0 = some l) (hhi : bndE st hi xs.length = some h) (h0 : 0 ≤ l) (h1 : l ≤ h) (h2 : h ≤ xs.length) (hy : (xs.take h.toNat).drop l.toNat = ys) :
    ValOk X g st o (.ro sz false ys) := by
  subst hy
  intro hX a w β F hI
  obtain ⟨i', ht, hud, hte⟩ := sliceAt_ok hX hT
  have hR := ev_rel hI x (by rw [hx]; rfl)
  rw [hx] at hR
  have b1 := bndE_ok hI hlo h0
  have b2 := bndE_ok hI hhi (by omega)
  generalize hu : a.eval x = u at hR
  generalize hG : ([] : List Nat) = G at hR
  have hlh : l.toNat ≤ h.toNat := by omega
  have hhl : h.toNat ≤ xs.length := by omega
  cases hR with
  | roNil _ _ _ A c hc he =>
    have e1 : l.toNat = 0 := by simp at hhl; omega
    have e2 : h.toNat = 0 := by simp at hhl; omega
    refine ⟨.slice (if c = 0 then A else A.map (·.add (0 * ti.sz))) 0 (c - 0), fun w2 _ => ?_, ?_⟩
    · have hs := un_run ht w2
      rw [hud] at hs
      have hb := sb_run (P := X.P) (w := w2) true 0 c (lo.map a.eval) (hi.map a.eval) l.toNat h.toNat b1 b2 hlh (by omega)
      rw [e1, e2] at hb
      simp [execOp, hop, Instr.sliceAt, Instr.slice, hs, hu, hb, sizeOf_run hte]
    · simp only [List.take_nil, List.drop_nil]
      exact .roNil _ _ _ _ _ (by omega) (by simp)
  | ro _ _ _ _ b o' c vals hL hz hl hrow hr hc hm' he =>
    refine ⟨.slice (if c = l.toNat then some ⟨b, o', none⟩ else some ⟨b, o' + l.toNat * ti.sz, none⟩) (h.toNat - l.toNat) (c - l.toNat), fun w2 _ => ?_, ?_⟩
    · have hs := un_run ht w2
      rw [hud] at hs
      have hb := sb_run (P := X.P) (w := w2) true xs.length c (lo.map a.eval) (hi.map a.eval) l.toNat h.toNat b1 b2 hlh (by omega)
      simp [execOp, hop, Instr.sliceAt, Instr.slice, hs, hu, hb, sizeOf_run hte, addr_add]
    · have hlen : ((xs.take h.toNat).drop l.toNat).length = h.toNat - l.toNat := by simp; omega
      have hz' : ∀ x ∈ (xs.take h.toNat).drop l.toNat, x.cells.length = sz := fun x hx => hz x (List.mem_of_mem_take (List.mem_of_mem_drop hx))
      have hzt : ∀ x ∈ xs.take h.toNat, x.cells.length = sz := fun x hx => hz x (List.mem_of_mem_take hx)
      have hfl : flatc ((xs.take h.toNat).drop l.toNat) = ((flatc xs).take (h.toNat * sz)).drop (l.toNat * sz) := by rw [flatc_drop hzt, flatc_take hz]
      by_cases hc0 : c = l.toNat
      · have : (xs.take h.toNat).drop l.toNat = [] := List.length_eq_zero_iff.1 (by rw [hlen]; omega)
        rw [this, if_pos hc0, show h.toNat - l.toNat = 0 by omega]
        exact .roNil _ _ _ _ _ (by omega) (by simp)
      · rw [if_neg hc0, hsz, ← hlen]
        refine .ro _ _ _ _ b _ _ ((vals.take (h.toNat * sz)).drop (l.toNat * sz)) (fun hv => hL ?_) hz' ?_ (hrow.drop _ _) ?_ (by rw [hlen]; omega) (by omega) (by simp)
        · rintro rfl
          simp at hv
        · rw [hfl, List.length_drop, List.length_drop, List.length_take, List.length_take, hl]
        · intro k x u hx hu
          rw [hfl, List.getElem?_drop, List.getElem?_take] at hx
          rw [List.getElem?_drop, List.getElem?_take] at hu
          split at hx
          · rename_i hk
            rw [if_pos hk] at hu
            exact hr _ x u hx hu
          · cases hx
theorem one_cells {x : AV} (h : x.one = true) : x.cells = [x] := by
  cases x <;> first | rfl | (simp [AV.one] at h)
theorem flatc_one {xs : List AV} (h : oneL xs = true) : flatc xs = xs := by
  unfold flatc
  induction xs with
  | nil => rfl
  | cons x xs ih =>
    simp only [oneL, Bool.and_eq_true] at h
    rw [List.flatMap_cons, ih h.2, one_cells h.1]
    rfl
theorem ValOk.cutArr {t e n : Nat} {ti te : TI} {x : Operand} {cs ys : List AV} {j : Nat} (hop : o.op = .slice t x none none none) (hT : X.T t = some ti) (hud : ti.ud = .array n e) (hTe : X.T e = some te)
    (hsz : te.sz = 1) (hx : st.ev x = .rp cs j) (hy : (cs.drop j).take n = ys) (hl : ys.length = n) (h1 : oneL ys = true) (hn : Nat.ble n capMax = true) : ValOk X g st o (.ro 1 true ys) := by
  subst hy
  intro hX a w β F hI
  have ht := ty_of hX hT
  have hte := ty_of hX hTe
  have hR := ev_rel hI x (by rw [hx]; rfl)
  rw [hx] at hR
  generalize hu : a.eval x = u at hR
  generalize hG : ([] : List Nat) = G at hR
  cases hR with
  | rp _ _ _ b o' vals hL hl' hrow hr =>
    refine ⟨.slice (some ⟨b, o' + j, none⟩) n n, fun w2 _ => ?_, ?_⟩
    · have hs := un_run ht w2
      rw [hud] at hs
      have hb := sb_run (P := X.P) (w := w2) false n n none none 0 n rfl rfl (by omega) (by omega)
      by_cases h0 : n = 0
      · subst h0
        simp [execOp, hop, Instr.sliceAt, Instr.sureAddr, hs, hu, hb, sizeOf_run hte]
      · simp [execOp, hop, Instr.sliceAt, Instr.sureAddr, hs, hu, hb, sizeOf_run hte, h0, addr_add]
    · have hf := flatc_one h1
      have hv : ((vals.drop j).take n).length = n := by
        have := hl
        rw [List.length_take, List.length_drop] at this ⊢
        rw [← hl']
        exact this
      have := Rel.ro (w := w) (L := Lv g F) β 1 true ((cs.drop j).take n) b (o' + j) n ((vals.drop j).take n) (fun hv => hL (by rintro rfl; simp at hv)) (fun x hx => by
        obtain ⟨k, hk, rfl⟩ := List.getElem_of_mem hx
        rw [one_cells (oneL_get h1 k _ (List.getElem?_eq_getElem hk))]
        rfl) (by rw [hf, hl, hv]) ?_ ?_ (by omega) (Nat.le_of_ble_eq_true hn) (fun _ => hl.symm)
      · rw [hl] at this
        exact this
      · intro k u hk
        rw [List.getElem?_take] at hk
        split at hk
        · rw [List.getElem?_drop] at hk
          have := hrow (j + k) u hk
          rw [Nat.add_assoc]
          exact this
        · cases hk
      · intro k x u hx hu
        rw [hf, List.getElem?_take] at hx
        rw [List.getElem?_take] at hu
        split at hx
        · rename_i hk
          rw [if_pos hk, List.getElem?_drop] at hu
          rw [List.getElem?_drop] at hx
          exact hr _ x u hx hu
        · cases hx
theorem ValOk.cutv {t e : Nat} {ti : TI} {x : Operand} {lo hi : Option Operand} {id : Id} {off len sz : Nat} {ex : Bool} {xs : List AV} {l h : Int}
    (hop : o.op = .slice t x lo hi none) (hT : sliceAt X.T t = some (e, ti)) (hx : st.ev x = .vec id off len) (hob : st.obj id = .vec sz ex xs) (hsz : ti.sz = sz)
    (hlo : bndE st lo 0 = some l) (hhi : bndE st hi len = some h) (h0 : 0 ≤ l) (h1 : l ≤ h) (h2 : h ≤ len) : ValOk X g st o (.vec id (off + l.toNat) (h.toNat - l.toNat)) := by
  intro hX a w β F hI
  obtain ⟨i', ht, hud, hte⟩ := sliceAt_ok hX hT
  have hR := ev_rel hI x (by rw [hx]; rfl)
  rw [hx] at hR
  have b1 := bndE_ok hI hlo h0
  have b2 := bndE_ok hI hhi (by omega)
  have ho := hI.obj id
  rw [hob] at ho
  obtain ⟨v0, hβ0, hown⟩ := ho
  generalize hu : a.eval x = u at hR
  generalize hG : ([] : List Nat) = G at hR
  have hlh : l.toNat ≤ h.toNat := by omega
  have hhl : h.toNat ≤ len := by omega
  cases hR with
  | vec _ _ _ _ b n c sz' A hβ hlen hA hn =>
    rw [hβ] at hβ0
    cases hβ0
    subst hsz
    refine ⟨.slice (if c - off = l.toNat then some A else some (A.add (l.toNat * ti.sz))) (h.toNat - l.toNat) (c - off - l.toNat), fun w2 _ => ?_, ?_⟩
    · have hs := un_run ht w2
      rw [hud] at hs
      have hb := sb_run (P := X.P) (w := w2) true len (c - off) (lo.map a.eval) (hi.map a.eval) l.toNat h.toNat b1 b2 hlh (by omega)
      simp [execOp, hop, Instr.sliceAt, Instr.slice, hs, hu, hb, sizeOf_run hte]
    · have e1 : c - off - l.toNat = c - (off + l.toNat) := by omega
      rw [e1]
      by_cases hc0 : c - off = l.toNat
      · rw [if_pos hc0]
        exact .vec _ _ _ _ b n c _ A hβ (by omega) (fun h => by omega) hn
      · rw [if_neg hc0]
        refine .vec _ _ _ _ b n c _ _ hβ (by omega) (fun h => ?_) hn
        rw [hA (by omega), addr_add, Nat.add_mul]
  | vecNil _ _ sz' A A' hβ =>
    rw [hβ] at hβ0
    cases hβ0
    have e1 : l.toNat = 0 := by omega
    have e2 : h.toNat = 0 := by omega
    refine ⟨.slice A' 0 0, fun w2 _ => ?_, ?_⟩
    · have hs := un_run ht w2
      rw [hud] at hs
      have hb := sb_run (P := X.P) (w := w2) true 0 0 (lo.map a.eval) (hi.map a.eval) l.toNat h.toNat b1 b2 hlh (by omega)
      rw [e1, e2] at hb
      simp [execOp, hop, Instr.sliceAt, Instr.slice, hs, hu, hb, sizeOf_run hte]
    · rw [e1, e2]
      exact .vecNil _ _ _ _ _ hβ
end
end Go.Av

/- Structs and arrays of plain parts that are compared, or keys of maps. -/
namespace Go.Av
open Go Go.RowKit Go.MapKept
structure KTy (P : Program) (kt : TypeId) {κ : Type} [DecidableEq κ] (kv : κ → List Value) (ok : κ → Prop) : Prop where
  eq : ∀ w a b, ok a → ok b → (Op.equal kt (.agg (kv a).toArray) (.agg (kv b).toArray)).run P w = .ok (decide (a = b)) w
  chk : ∀ w em a, ok a → (Instr.checkKey em 10000 kt (.agg (kv a).toArray)).run P w = .ok () w
  wide : (match P.underlying kt with | some (.array _ _) | some (.struct _) => true | _ => false) = true
  gd : P.eqGuardType P.depth kt = false
theorem KTy.of {P : Program} {kt : TypeId} {κ : Type} [DecidableEq κ] {kv : κ → List Value} {ok : κ → Prop} (m m' : Nat) (hm : m ≤ 10000) (hk : P.keyTypeAt m kt = true) (htl : P.tiled m' kt = true)
    (hwide : (match P.underlying kt with | some (.array _ _) | some (.struct _) => true | _ => false) = true) (hkey : ∀ a, ok a → ∃ l, keyOf P kt (.agg (kv a).toArray) = some l) (hinj : ∀ a b, kv a = kv b → a = b) (hgd : P.eqGuardType P.depth kt = false) : KTy P kt kv ok := by
  refine ⟨?_, ?_, hwide, hgd⟩
  · intro w a b ha hb
    obtain ⟨la, hla⟩ := hkey a ha
    obtain ⟨lb, hlb⟩ := hkey b hb
    obtain ⟨r, hr, hiff⟩ := run_equal_deep (P := P) w hm hk hwide hla hlb
    rw [hr]
    congr 1
    rw [Bool.eq_iff_iff, hiff, decide_eq_true_eq]
    constructor
    · intro e
      subst e
      have := keyOf_inj_deep htl hwide hla hlb
      exact hinj _ _ (by simpa using this)
    · rintro rfl
      rw [hla] at hlb
      exact Option.some.inj hlb
  · intro w em a ha
    obtain ⟨la, hla⟩ := hkey a ha
    obtain ⟨xs, L1, e, h1, _⟩ := keyOf_top hwide hla
    have hf : (Value.agg (kv a).toArray).formed P kt = true := by
      unfold keyOf at hla
      split at hla
      · split at hla
        · rename_i hf; exact (Bool.and_eq_true_iff.1 hf).2
        · cases hla
      · split at hla
        · rename_i hf; exact (Bool.and_eq_true_iff.1 hf).2
        · cases hla
      · rename_i h1 h2
        split at hwide <;> simp_all
    have := run_checkKey_deep (P := P) em (10000 - m) m kt hk w _ (.agg (kv a).toArray) L1 hf (by rw [e]; exact h1)
    rwa [show 10000 - m + m = 10000 by omega] at this
def kfind {κ : Type} [DecidableEq κ] (n : κ) : List (κ × Int) → Nat → Option (Nat × Int)
  | [], _ => none
  | x :: r, i => if n = x.1 then some (i, x.2) else kfind n r (i + 1)
def mqv {κ : Type} (kv : κ → List Value) (l : List (κ × Int)) : List (Value × Value) := l.map fun x => (.agg (kv x.1).toArray, .int .i64 x.2)
theorem KTy.find {P : Program} {kt : TypeId} {κ : Type} [DecidableEq κ] {kv : κ → List Value} {ok : κ → Prop} (K : KTy P kt kv ok) (w : World) (n : κ) (hn : ok n) :
    ∀ (l : List (κ × Int)) (es : List MapEntry) (i : Nat), (∀ x ∈ l, ok x.1) → es.map (fun e => (e.key, e.val)) = mqv kv l →
    (Instr.findAsking kt (.agg (kv n).toArray) es i).run P w = .ok ((kfind n l i).map fun x => (x.1, .int .i64 x.2)) w := by
  intro l
  induction l with
  | nil =>
    intro es i _ h
    have : es = [] := by cases es; rfl; simp [mqv] at h
    subst this
    simp [Instr.findAsking, kfind]
  | cons x r ih =>
    intro es i hok h
    cases es with
    | nil => simp [mqv] at h
    | cons e es =>
      simp only [mqv, List.map_cons, List.cons.injEq, Prod.mk.injEq] at h
      obtain ⟨⟨h1, h2⟩, h3⟩ := h
      have hq := K.eq w n x.1 hn (hok x (by simp))
      have hih := ih es (i + 1) (fun y hy => hok y (by simp [hy])) h3
      unfold Instr.findAsking
      rw [h1]
      simp only [Sem.run_bind, hq, Result.andThen_ok, kfind]
      by_cases hx : n = x.1
      · simp [hx, h2]
      · simp [hx, hih]
section
variable {X : Fx} {g : Gx} {st st' : St} {a : Act} {w w' : World} {β β' : Env} {F : Key → List Nat} {L : Nat → Prop} {K : List Item} {k : List Item}
variable {ops : Array Oper} {i : Nat} {rest : List Nat} {o : Oper}
theorem ev_lits (h : Inv X g st a w β F L) {x : Operand} {ls : List Value} (hx : st.ev x = .agg (ls.map .lit)) : a.eval x = .agg ls.toArray := by
  have hpl : AV.plL (ls.map .lit) = true := by
    clear hx
    induction ls with
    | nil => rfl
    | cons y ls ih => simp only [List.map_cons, AV.plL, AV.pl, ih, Bool.and_self]
  have hR := ev_rel h x (by rw [hx]; exact hpl)
  rw [hx] at hR
  generalize a.eval x = u at hR
  generalize ([] : List Nat) = G at hR
  cases hR with
  | agg _ _ vals Fs hl hr =>
    congr 1
    apply Array.ext'
    apply List.ext_getElem?
    intro k
    by_cases hk : k < ls.length
    · have hkv : k < vals.size := by simp at hl; omega
      have h1 : (ls.map AV.lit)[k]? = some (.lit ls[k]) := by simp [hk]
      have h2 : vals[k]? = some vals[k] := Array.getElem?_eq_getElem hkv
      have := hr k _ _ h1 h2
      generalize hv : vals[k] = v at this
      rw [Array.getElem?_toList, h2, show (ls.toArray.toList)[k]? = some ls[k] by simp [hk]]
      generalize Fs k = G at this
      cases this
      rw [hv]
    · rw [List.getElem?_eq_none (by simp at hl ⊢; omega), List.getElem?_eq_none (by simp; omega)]
theorem ValOk.neK {κ : Type} [DecidableEq κ] {kv : κ → List Value} {ok : κ → Prop} {t t2 : Nat} {x y : Operand} (p q : κ) (hop : o.op = .binOp .neq t x y t2) (KK : KTy X.P t kv ok) (hx : st.ev x = .agg ((kv p).map .lit)) (hy : st.ev y = .agg ((kv q).map .lit))
    (hp : ok p) (hq : ok q) : ValOk X g st o (.lit (.bool (!decide (p = q)))) := by
  intro hX a w β F hI
  refine ⟨.bool (!decide (p = q)), fun w2 _ => ?_, .lit _ _⟩
  simp [execOp, hop, ev_lits hI hx, ev_lits hI hy, binOp, eqGuard, KK.gd, KK.eq w2 p q hp hq]
end
end Go.Av

/- A region whose order is drawn: it reads, and its last operation stores. -/
namespace Go
section
variable {P : Program} {md : Region.Mode} {ops : Array Oper} {C : World → Prop}
def wpAnyE (P : Program) (md : Region.Mode) (ops : Array Oper) (C : World → Prop) (m : Nat) (Q : Act → Prop) : Nat → Array Bool → Act → Prop
  | 0, listed, a => m ∈ Region.ready md ops listed ∧ Q a
  | fuel + 1, listed, a => (m ∈ Region.ready md ops listed → Q a) ∧ Region.ready md ops listed ≠ [] ∧
    ∀ i ∈ Region.ready md ops listed, i ≠ m → qOp P ops C i (wpAnyE P md ops C m Q fuel (listed.setIfInBounds i true)) a
def Region.lastB (md : Region.Mode) (ops : Array Oper) (m : Nat) : Bool :=
  Nat.beq ops.size (m + 1) && match ops[m]? with
    | some o => (List.range m).all fun j => o.after.any fun e => Nat.beq e.on j && Region.binds md e
    | none => false
theorem Region.last_cov {m : Nat} (h : Region.lastB md ops m = true) {listed : Array Bool} (hm : m ∈ Region.ready md ops listed) : ∀ i ∈ Region.ready md ops listed, i = m := by
  intro i hi
  unfold Region.lastB at h
  simp only [Bool.and_eq_true] at h
  obtain ⟨hs, h⟩ := h
  have hs := Nat.eq_of_beq_eq_true hs
  obtain ⟨_, o, ho, hall⟩ := mem_ready.1 hm
  rw [ho] at h
  simp only at h
  obtain ⟨hiu, oi, hoi, _⟩ := mem_ready.1 hi
  have hil : i < m + 1 := by
    rw [← hs]
    exact (Array.getElem?_eq_some_iff.1 hoi).1
  apply Classical.byContradiction
  intro hne
  have h1 := List.all_eq_true.1 h i (List.mem_range.2 (by omega))
  rw [Array.any_eq_true] at h1
  obtain ⟨x, hx, he⟩ := h1
  simp only [Bool.and_eq_true] at he
  have := hall o.after[x] (Array.getElem_mem hx) he.2
  rw [Nat.eq_of_beq_eq_true he.1] at this
  rcases Nat.lt_or_ge i listed.size with h' | h'
  · simp [h'] at hiu this
    rw [hiu] at this
    cases this
  · simp [Array.getElem?_eq_none h'] at hiu
theorem Region.last_end {m : Nat} (h : Region.lastB md ops m = true) {listed : Array Bool} (hm : m ∈ Region.ready md ops listed) : Region.ready md ops (listed.setIfInBounds m true) = [] := by
  cases hr : Region.ready md ops (listed.setIfInBounds m true) with
  | nil => rfl
  | cons i r =>
    exfalso
    have hi : i ∈ Region.ready md ops (listed.setIfInBounds m true) := by rw [hr]; simp
    obtain ⟨hiu, oi, hoi, hall⟩ := mem_ready.1 hi
    obtain ⟨hmu, om, hom, hallm⟩ := mem_ready.1 hm
    have hsz : m < listed.size := by
      apply Classical.byContradiction
      intro hge
      rw [Array.getD, dif_neg hge] at hmu
      cases hmu
    have hne : i ≠ m := by
      rintro rfl
      simp [hsz] at hiu
    unfold Region.lastB at h
    simp only [Bool.and_eq_true] at h
    obtain ⟨hs, h⟩ := h
    have hs := Nat.eq_of_beq_eq_true hs
    rw [hom] at h
    simp only at h
    have hil : i < m + 1 := by
      rw [← hs]
      exact (Array.getElem?_eq_some_iff.1 hoi).1
    have h1 := List.all_eq_true.1 h i (List.mem_range.2 (by omega))
    rw [Array.any_eq_true] at h1
    obtain ⟨x, hx, he⟩ := h1
    simp only [Bool.and_eq_true] at he
    have := hallm om.after[x] (Array.getElem_mem hx) he.2
    rw [Nat.eq_of_beq_eq_true he.1] at this
    rw [getD_set_ne true (Ne.symm hne)] at hiu
    rcases Nat.lt_or_ge i listed.size with h' | h'
    · simp [h'] at hiu this
      rw [hiu] at this
      cases this
    · simp [Array.getElem?_eq_none h'] at hiu
theorem wpAnyE_first {m : Nat} (hL : Region.lastB md ops m = true) {Q : Act → Prop} {i : Nat} {oi : Oper} {v : Value} (hi : ops[i]? = some oi) (him : i ≠ m) (hsel : ∀ (j : Nat) (o : Oper) cs b, ops[j]? = some o → o.op ≠ .select cs b) :
    ∀ (fuel : Nat) (listed : Array Bool) (a : Act),
      (∀ j oj, ops[j]? = some oj → j ≠ i → listed.getD j true = false → (∀ e ∈ oj.after, Region.binds md e = true → e.on ≠ i) → oi.apart ops oj = true) →
      i ∈ Region.ready md ops listed → YieldsIn P ops C oi v a →
      wpAnyE P md ops C m Q fuel (listed.setIfInBounds i true) (a.put oi.dst v) → wpAnyE P md ops C m Q (fuel + 1) listed a := by
  intro fuel
  induction fuel with
  | zero =>
    intro listed a _ hr hy H
    refine ⟨fun h => absurd (Region.last_cov hL h i hr) him, fun h => (by rw [h] at hr; cases hr), fun j hj hjm => ?_⟩
    by_cases hji : j = i
    · subst hji; exact hy.qOp hi H
    · exact absurd (Region.last_cov hL H.1 j (ready_mono hj hji)) hjm
  | succ fuel ih =>
    intro listed a hfree hr hy H
    refine ⟨fun h => absurd (Region.last_cov hL h i hr) him, fun h => (by rw [h] at hr; cases hr), fun j hj hjm => ?_⟩
    by_cases hji : j = i
    · subst hji; exact hy.qOp hi H
    · have h1 := H.2.2 j (ready_mono hj hji) hjm
      obtain ⟨hjun, oj, hoj, hall⟩ := mem_ready.1 hj
      have hnot : ∀ e ∈ oj.after, Region.binds md e = true → e.on ≠ i := fun e he hb heq => by
        have h1 := hall e he hb
        have h0 := (mem_ready.1 hr).1
        rw [heq] at h1
        rcases Nat.lt_or_ge i listed.size with h' | h'
        · simp [h'] at h0 h1; rw [h0] at h1; cases h1
        · simp [Array.getElem?_eq_none h'] at h1
      have h2 := qOp_put hoj (hfree j oj hoj hji hjun hnot) (fun cs b => hsel i oi cs b hi) (fun cs b => hsel j oj cs b hoj) hy h1
      have hfree' : ∀ k ok, ops[k]? = some ok → k ≠ i → (listed.setIfInBounds j true).getD k true = false →
          (∀ e ∈ ok.after, Region.binds md e = true → e.on ≠ i) → oi.apart ops ok = true := fun k ok hk hki hun hno => by
        refine hfree k ok hk hki ?_ hno
        by_cases hjk : j = k
        · subst hjk; exact hjun
        · rw [getD_set_ne true hjk] at hun; exact hun
      refine qOp_mono (fun a' h3 => ih (listed.setIfInBounds j true) a' hfree' (ready_mono hr (Ne.symm hji)) h3.1 ?_) h2
      rw [Array.setIfInBounds_comm _ _ hji]
      exact h3.2
def Region.lexFromE (md : Region.Mode) (ops : Array Oper) (m : Nat) : Nat → Nat → Array Bool → Bool
  | 0, _, listed => (Region.ready md ops listed).contains m
  | fuel + 1, k, listed => (Region.ready md ops listed).contains k && Region.free md ops listed k && !(Nat.beq k m) && Region.lexFromE md ops m fuel (k + 1) (listed.setIfInBounds k true)
def Region.lexE (md : Region.Mode) (ops : Array Oper) (m : Nat) : Bool := Region.noSelect ops && Region.lastB md ops m && Region.lexFromE md ops m m 0 (Array.replicate ops.size false)
theorem wpAnyE_lex {m : Nat} (hL : Region.lastB md ops m = true) {Q : Act → Prop} (hs : Region.noSelect ops = true) : ∀ (l : List Oper) (k : Nat) (listed : Array Bool) (a : Act), (∀ j o, l[j]? = some o → ops[k + j]? = some o) →
    Region.lexFromE md ops m l.length k listed = true → wpQuiet P ops C Q l a → wpAnyE P md ops C m Q l.length listed a
  | [], _, _, _, _, hB, h => ⟨by simpa [Region.lexFromE] using hB, h⟩
  | o :: l, k, listed, a, hl, hB, h => by
    have h0 : ops[k]? = some o := by simpa using hl 0 o rfl
    simp only [List.length_cons, Region.lexFromE, Bool.and_eq_true] at hB
    obtain ⟨⟨⟨hr, hf⟩, hne⟩, hB'⟩ := hB
    have hst : qOp P ops C k (wpQuiet P ops C Q l) a := by unfold qOp; simp only [h0]; exact h
    obtain ⟨v, hy, hK⟩ := yieldsIn_of_qOp h0 hst
    have hkm : k ≠ m := by
      rintro rfl
      simp at hne
    exact wpAnyE_first hL h0 hkm (Region.noSelect_spec hs) l.length listed a (Region.free_spec h0 hf) (by simpa using hr) hy
      (wpAnyE_lex hL hs l (k + 1) _ _ (fun j o' ho' => by have := hl (j + 1) o' (by simpa using ho'); simpa [Nat.add_assoc, Nat.add_comm 1 j] using this) hB' hK)
theorem wpAny_of_E {m : Nat} (hL : Region.lastB md ops m = true) {Q : Act → Prop} {Q' : Exit → Act → World → Prop}
    (hQ : ∀ a w, C w → Q a → ∀ K : Act → World → Prop, (∀ a' w', Q' .normal a' w' → K a' w') → wpOp P ops Q' m K a w) : ∀ (fuel : Nat) (listed : Array Bool) (a : Act) (w : World), C w →
    wpAnyE P md ops C m Q fuel listed a → wpAny P md ops Q' (fuel + 1) listed a w
  | 0, listed, a, w, hw, h => ⟨fun h0 => (by have := h.1; rw [h0] at this; cases this), fun i hi => by
      obtain rfl := Region.last_cov hL h.1 i hi
      exact hQ a w hw h.2 _ fun a' w' hq => ⟨Region.last_end hL h.1, hq⟩⟩
  | fuel + 1, listed, a, w, hw, h => ⟨fun h0 => absurd h0 h.2.1, fun i hi => by
      by_cases him : i = m
      · subst him
        exact hQ a w hw (h.1 hi) _ fun a' w' hq => ⟨fun _ => hq, fun j hj => by rw [Region.last_end hL hi] at hj; cases hj⟩
      · exact wpOp_of_qOp hw (fun a' w' hw' hh => wpAny_of_E hL hQ fuel _ a' w' hw' hh) (h.2.2 i hi him)⟩
theorem wp_region_tail {id : Nat} {Q : Exit → Act → World → Prop} {a : Act} {w : World} {l : List Oper} {o : Oper} (hm : P.follows .mixedOrders = true) (hB : Region.lexE .any (l ++ [o]).toArray l.length = true) (hC : C { w with drawn := w.drawn + 1 })
    (h : wpQuiet P (l ++ [o]).toArray C (fun a' => ∀ w', C w' → ∀ K : Act → World → Prop, (∀ a' w', Q .normal a' w' → K a' w') → wpOp P (l ++ [o]).toArray Q l.length K a' w') l a) : (Code.region id (l ++ [o]).toArray true).wp P Q a w := by
  simp only [Region.lexE, Bool.and_eq_true] at hB
  obtain ⟨⟨hs, hL⟩, hX⟩ := hB
  have := wpAnyE_lex (P := P) (C := C) hL hs l 0 (Array.replicate (l ++ [o]).toArray.size false) a (by
    intro j x hx
    have hj : j < l.length := (List.getElem?_eq_some_iff.1 hx).1
    rw [Nat.zero_add]
    simp only [List.getElem?_toArray]
    rw [List.getElem?_append_left hj]
    exact hx) hX h
  have := wpAny_of_E (P := P) (Q' := Q) hL (fun a w hw hq K hK => hq w hw K hK) _ _ _ _ hC this
  refine wp_region_any hm ?_
  simpa using this
end
end Go
namespace Go.Av
open Go Go.RowKit
section
variable {X : Fx} {g : Gx} {st st' : St} {a : Act} {w w' : World} {β β' : Env} {F : Key → List Nat} {L : Nat → Prop} {K : List Item} {k : List Item}
variable {ops : Array Oper} {i : Nat} {rest : List Nat} {o : Oper}
def stStore (X : Fx) (st : St) (o : Oper) : Option St :=
  match o.dst, o.guard, o.op with
  | none, none, .store t p x => match X.T t, st.ev p with
    | some ti, .bp id j => match st.obj id with
      | .box cs => bif (st.ev x).okc && (st.ev x).pl && Nat.beq (st.ev x).cells.length ti.sz && Nat.ble (j + ti.sz) cs.length then some (st.setObj id (.box (putAt cs j (st.ev x).cells))) else none
      | _ => none
    | _, _ => none
  | _, _, _ => none
theorem stStore_ok {st' : St} (hs : stStore X st o = some st') (hX : X.Ok) (hI : SR X g st a w) : ∃ w', (execOp a.eval o).run X.P w = .ok .skip w' ∧ SR X g st' (a.put o.dst undef) w' ∧ o.guard = none := by
  unfold stStore at hs
  split at hs
  · rename_i t p x hd hgd hop
    split at hs
    · rename_i ti id j hti hp
      split at hs
      · rename_i cs hob
        by_cases hc : ((st.ev x).okc && (st.ev x).pl && Nat.beq (st.ev x).cells.length ti.sz && Nat.ble (j + ti.sz) cs.length) = true
        · rw [hc] at hs
          simp only [cond_true, Option.some.injEq] at hs
          subst hs
          simp only [Bool.and_eq_true] at hc
          obtain ⟨⟨⟨h1, h2⟩, h3⟩, h4⟩ := hc
          obtain ⟨w', hu, hI'⟩ := hI.storev hX hti hp hob h1 h2 (Nat.eq_of_beq_eq_true h3) (Nat.le_of_ble_eq_true h4)
          refine ⟨w', ?_, by rw [hd]; exact hI', hgd⟩
          simp [execOp, hop, hu]
        · simp only [Bool.not_eq_true] at hc; rw [hc] at hs; simp at hs
      · cases hs
    · cases hs
  · cases hs
theorem Run.drawSt {id : Nat} {L : List Oper} {o : Oper} (hl : L = L.dropLast ++ [o]) (hm : X.P.follows .mixedOrders = true) (hB : Region.lexE .any L.toArray L.dropLast.length = true)
    (h : Quiet X g L.toArray (fun st' => ∃ st'', stStore X st' o = some st'' ∧ Run X g k st'') L.dropLast st) (hrd : g.rd = none := by first | exact rd_plain (by assumption) | exact rd_marked (by assumption)) : Run X g (.code (.region id L.toArray true) :: k) st := by
  generalize L.dropLast = l at hl hB h
  subst hl
  intro hX a w b cs hI hf hk
  obtain ⟨β, F, hI⟩ := hI
  have hwp := wp_region_tail (P := X.P) (l := l) (o := o) (id := id) (a := a) (w := w) (C := fun w' => Kp [] w w')
    (Q := fun e a' w' => e = .normal ∧ ∃ st', Run X g k st' ∧ SR X g st' a' w') hm hB ⟨rfl, rfl, rfl, Nat.le_refl _, fun _ _ _ => rfl⟩ (by
      have := h hX a w β F hI
      refine wpQuiet_mono' ?_ this
      rintro a' ⟨st', β', F', ⟨st'', hs, hK⟩, hI'⟩ w' hw' K hKq
      have hI2 : SR X g st' a' w' := ⟨β', F', hI'.world (M := fun _ => False) (hI.kp.trans hw' (by simp)) (fun b hb _ => hw'.block b hb (by simp)) (fun _ h => h.elim) (fun _ _ h => h) (fun _ _ _ h => h)⟩
      obtain ⟨w2, hr, hI3, hgd⟩ := stStore_ok hs hX hI2
      unfold wpOp
      have ho : (l ++ [o]).toArray[l.length]? = some o := by simp
      rw [ho]
      simp only
      have hwt : Region.wanted o (yielded (l ++ [o]).toArray a'.tmps) = true := by simp [Region.wanted, hgd]
      rw [if_pos hwt]
      refine .inl ?_
      unfold Oper.wp
      rw [hr]
      exact hKq _ _ ⟨rfl, st'', hK, hI3⟩)
  obtain ⟨e, a', w', ⟨rfl, st', hK, hI'⟩, harr⟩ := hwp b k cs
  obtain ⟨v, w2, fr, hp, hst⟩ := hK hX a' w' b cs hI' hf hk
  rw [Frame.atR_of_none (hk.2.trans hrd)] at hst ⊢
  exact ⟨v, w2, fr, hp, Steps.trans harr hst⟩
end
end Go.Av

/- A region whose order is drawn, by what has been done so far: one state for each set of operations that may be behind us. -/
namespace Go.Av
open Go Go.RowKit
def afterOf (md : Region.Mode) (ops : Array Oper) (i : Nat) : List Nat :=
  match ops[i]? with
  | some o => (o.after.toList.filter fun e => Region.binds md e).map (·.on)
  | none => []
def succOf (md : Region.Mode) (ops : Array Oper) (i : Nat) : List Nat := (List.range ops.size).filter fun j => (afterOf md ops j).contains i
def AllD (D : Nat → Bool) (b : Bool) : List Nat → Prop
  | [] => True
  | x :: xs => D x = b ∧ AllD D b xs
theorem AllD.of {D : Nat → Bool} {b : Bool} : ∀ {l : List Nat}, (∀ x ∈ l, D x = b) → AllD D b l
  | [], _ => trivial
  | x :: xs, h => ⟨h x (by simp), AllD.of fun y hy => h y (by simp [hy])⟩
theorem AllD.mem {D : Nat → Bool} {b : Bool} : ∀ {l : List Nat}, AllD D b l → ∀ x ∈ l, D x = b
  | [], _, x, hx => by simp at hx
  | y :: l, h, x, hx => by
    rcases List.mem_cons.1 hx with rfl | hx
    · exact h.1
    · exact AllD.mem h.2 x hx
theorem ideal_sub {D : Nat → Bool} {b : Bool} {l l' : List Nat} (h : AllD D b l) (hs : (l'.all fun x => l.contains x) = true) : AllD D b l' :=
  AllD.of fun x hx => h.mem x (by simpa using List.all_eq_true.1 hs x hx)
def downB (md : Region.Mode) (ops : Array Oper) : Bool := (List.range ops.size).all fun i => (afterOf md ops i).all fun j => Nat.blt j i
theorem mem_afterOf {md : Region.Mode} {ops : Array Oper} {i j : Nat} {o : Oper} (ho : ops[i]? = some o) : j ∈ afterOf md ops i ↔ ∃ e ∈ o.after, Region.binds md e = true ∧ e.on = j := by
  unfold afterOf
  rw [ho]
  simp only [List.mem_map, List.mem_filter, Array.mem_toList_iff]
  constructor
  · rintro ⟨e, ⟨h1, h2⟩, h3⟩
    exact ⟨e, h1, h2, h3⟩
  · rintro ⟨e, h1, h2, h3⟩
    exact ⟨e, ⟨h1, h2⟩, h3⟩
theorem getD_ft {a : Array Bool} {j : Nat} (h : a.getD j false = true) : a.getD j true = true := by
  by_cases hj : j < a.size
  · simpa [hj] using h
  · simp [hj]
theorem getD_tf {a : Array Bool} {j : Nat} (hj : j < a.size) (h : a.getD j true = true) : a.getD j false = true := by
  simpa [hj] using h
def IdealD (ops : Array Oper) (D : Nat → Bool) : Prop := ∀ i j, i < ops.size → j ∈ afterOf .any ops i → D i = true → D j = true
theorem ideal_no {ops : Array Oper} {D : Nat → Bool} (h : IdealD ops D) {i j : Nat} (hij : (Nat.blt i ops.size && (afterOf .any ops i).contains j) = true) (hj : D j = false) : D i = false := by
  simp only [Bool.and_eq_true, List.contains_iff_mem] at hij
  cases hi : D i with
  | false => rfl
  | true => rw [h i j (blt_lt hij.1) hij.2 hi] at hj; cases hj
section
variable {X : Fx} {g : Gx} {st : St} {k : List Item} {ops : Array Oper}
theorem ready_nil {md : Region.Mode} {listed : Array Bool} (hd : downB md ops = true) (hs : listed.size = ops.size) (hr : Region.ready md ops listed = []) : ∀ i, listed.getD i true = true := by
  intro i
  induction i using Nat.strongRecOn with
  | _ i ih =>
    by_cases hi : i < ops.size
    · apply Classical.byContradiction
      intro hf
      have hf : listed.getD i true = false := by simpa using hf
      have : i ∈ Region.ready md ops listed := by
        refine mem_ready.2 ⟨hf, ops[i], Array.getElem?_eq_getElem hi, fun e he hb => ?_⟩
        have h1 := List.all_eq_true.1 (List.all_eq_true.1 hd i (List.mem_range.2 hi)) e.on ((mem_afterOf (Array.getElem?_eq_getElem hi)).2 ⟨e, he, hb, rfl⟩)
        have h1 := blt_lt h1
        exact getD_tf (by omega) (ih e.on h1)
      rw [hr] at this
      cases this
    · simp [show ¬ i < listed.size by omega]
theorem ideal_run {S : (Nat → Bool) → St} (hd : downB .any ops = true) (hend : Run X g (.inRegion ops [] :: k) (S fun _ => true))
    (hstep : AllL (fun i => ∀ D, IdealD ops D → D i = false → AllD D true (afterOf .any ops i) → AllD D false (succOf .any ops i) → ∀ rest, Run X g (.inRegion ops rest :: k) (S fun j => j == i || D j) →
      Run X g (.inRegion ops (i :: rest) :: k) (S D)) (List.range ops.size)) :
    ∀ (n : Nat) (listed : Array Bool), listed.size = ops.size → (∀ i o, ops[i]? = some o → listed.getD i true = true → ∀ e ∈ o.after, Region.binds .any e = true → listed.getD e.on true = true) →
      (List.range ops.size).countP (fun i => !listed.getD i true) ≤ n → ∀ l ∈ ords .any ops n listed, Run X g (.inRegion ops l :: k) (S fun i => listed.getD i true) := by
  intro n
  have fin : ∀ listed : Array Bool, (∀ i, listed.getD i true = true) → Run X g (.inRegion ops [] :: k) (S fun i => listed.getD i true) := by
    intro listed h
    rw [show (fun i => listed.getD i true) = fun _ => true from funext h]
    exact hend
  induction n with
  | zero =>
    intro listed hs hc hn l hl
    simp only [ords, List.mem_singleton] at hl
    subst hl
    refine fin listed fun i => ?_
    have h0 := List.countP_eq_zero.1 (Nat.le_zero.1 hn)
    by_cases hi : i < ops.size
    · simpa using h0 i (List.mem_range.2 hi)
    · simp [show ¬ i < listed.size by omega]
  | succ n ih =>
    intro listed hs hc hn l hl
    simp only [ords] at hl
    split at hl
    · rename_i hr
      simp only [List.mem_singleton] at hl
      subst hl
      exact fin listed (ready_nil hd hs hr)
    · rename_i rs hr
      obtain ⟨i, hi, hl⟩ := List.mem_flatMap.1 hl
      obtain ⟨l', hl', rfl⟩ := List.mem_map.1 hl
      obtain ⟨hiu, o, ho, hall⟩ := mem_ready.1 hi
      have his : i < ops.size := (Array.getElem?_eq_some_iff.1 ho).1
      have hD : ∀ j, (listed.setIfInBounds i true).getD j true = (j == i || listed.getD j true) := by
        intro j
        by_cases e : i = j
        · subst e
          simp [hs, his]
        · rw [getD_set_ne true e]
          have : (j == i) = false := by simpa using fun h => e h.symm
          rw [this, Bool.false_or]
      have hrun := ih (listed.setIfInBounds i true) (by simpa using hs) (by
        intro j oj hoj hj e he hb
        rw [hD] at hj ⊢
        rw [Bool.or_eq_true] at hj ⊢
        rcases hj with hj | hj
        · have : j = i := by simpa using hj
          subst this
          rw [ho] at hoj
          cases hoj
          exact .inr (getD_ft (hall e he hb))
        · exact .inr (hc j oj hoj hj e he hb)) (by
        have hlt : (List.range ops.size).countP (fun j => !(listed.setIfInBounds i true).getD j true) < (List.range ops.size).countP (fun j => !listed.getD j true) := by
          have hsplit : List.range ops.size = List.range i ++ i :: (List.range (ops.size - i - 1)).map (i + 1 + ·) := by
            have h1 : ops.size = i + (1 + (ops.size - i - 1)) := by omega
            conv => lhs; rw [h1]
            rw [List.range_add, List.range_add]
            simp [Function.comp_def, Nat.add_assoc]
          rw [hsplit, List.countP_append, List.countP_append, List.countP_cons, List.countP_cons]
          have e1 : ∀ L : List Nat, L.countP (fun j => !(listed.setIfInBounds i true).getD j true) ≤ L.countP (fun j => !listed.getD j true) := by
            intro L
            refine List.countP_mono_left fun j _ hj => ?_
            rw [hD] at hj
            simp only [Bool.not_eq_true', Bool.or_eq_false_iff] at hj ⊢
            exact hj.2
          have e2 := e1 (List.range i)
          have e3 := e1 ((List.range (ops.size - i - 1)).map (i + 1 + ·))
          rw [hD i, hiu, show (i == i) = true from by simp]
          simp only [Bool.true_or, Bool.not_true, Bool.false_eq_true, if_false, Bool.not_false, if_true]
          omega
        omega) l' hl'
      have hid : IdealD ops fun j => listed.getD j true := by
        intro x y hx hy hDx
        obtain ⟨e, he, hb, rfl⟩ := (mem_afterOf (Array.getElem?_eq_getElem hx)).1 hy
        exact hc x _ (Array.getElem?_eq_getElem hx) hDx e he hb
      refine (AllL.mem hstep i (List.mem_range.2 his)) _ hid hiu (AllD.of fun j hj => ?_) (AllD.of fun j hj => ?_) l' ?_
      · obtain ⟨e, he, hb, rfl⟩ := (mem_afterOf ho).1 hj
        exact getD_ft (hall e he hb)
      · simp only [succOf, List.mem_filter, List.mem_range, List.contains_iff_mem] at hj
        obtain ⟨hjs, hj⟩ := hj
        obtain ⟨e, he, hb, heq⟩ := (mem_afterOf (Array.getElem?_eq_getElem hjs)).1 hj
        cases hx : listed.getD j true with
        | false => rfl
        | true =>
          have := hc j _ (Array.getElem?_eq_getElem hjs) hx e he hb
          rw [heq, hiu] at this
          cases this
      · rw [show (fun j => j == i || listed.getD j true) = fun j => (listed.setIfInBounds i true).getD j true from funext fun j => (hD j).symm]
        exact hrun
theorem Run.drawI {id : Nat} (S : (Nat → Bool) → St) (hm : X.P.follows .mixedOrders = true) (hd : downB .any ops = true) (h0 : St.Le (S fun i => !Nat.blt i ops.size) st) (hend : Run X g k (S fun _ => true))
    (hstep : ∀ k', AllL (fun i => ∀ D, IdealD ops D → D i = false → AllD D true (afterOf .any ops i) → AllD D false (succOf .any ops i) → ∀ rest, Run X g (.inRegion ops rest :: k') (S fun j => j == i || D j) →
      Run X g (.inRegion ops (i :: rest) :: k') (S D)) (List.range ops.size)) : Run X g (.code (.region id ops true) :: k) st := by
  intro hX a w b cs hI hf hk
  have key : ∀ t, Run X g (.inRegion ops (Region.schedule (X.P.follows .mixedOrders) ops t) :: k) (S fun i => !Nat.blt i ops.size) := by
    intro t
    have hmem : Region.schedule (X.P.follows .mixedOrders) ops t ∈ ords .any ops ops.size (Array.replicate ops.size false) := by
      simp only [Region.schedule, hm, Bool.true_or, if_true]
      exact linearise_mem .any ops ops.size t _
    have h1 : ∀ i, (Array.replicate ops.size false).getD i true = !Nat.blt i ops.size := by
      intro i
      by_cases hi : i < ops.size
      · have : Nat.blt i ops.size = true := Nat.ble_eq_true_of_le hi
        rw [this]
        simp [hi]
      · have : Nat.blt i ops.size = false := by
          cases hb : Nat.blt i ops.size with
          | false => rfl
          | true => exact absurd (blt_lt hb) hi
        rw [this]
        simp [hi]
    have := ideal_run (S := S) (k := k) hd (Run.ctl rfl hend) (hstep k) ops.size (Array.replicate ops.size false) (by simp) (by
      intro i o ho hl
      rw [h1] at hl
      have his : i < ops.size := (Array.getElem?_eq_some_iff.1 ho).1
      have : Nat.blt i ops.size = true := Nat.ble_eq_true_of_le his
      rw [this] at hl
      cases hl) (by
      refine Nat.le_trans List.countP_le_length ?_
      simp) _ hmem
    rwa [show (fun i => (Array.replicate ops.size false).getD i true) = fun i => !Nat.blt i ops.size from funext h1] at this
  obtain ⟨v, w', fr, hp, hst⟩ := Run.le h0 (key _) hX a _ b cs hI.draw hf hk
  exact ⟨v, w', fr, hp, .head stepR_region_draw hst⟩
end
end Go.Av

/- append of the elements of a slice that is only read; a slice held against nil. -/
namespace Go.Av
open Go Go.RowKit
section
variable {X : Fx} {g : Gx} {st st' : St} {a : Act} {w w' : World} {β β' : Env} {F : Key → List Nat} {L : Nat → Prop} {K : List Item} {k : List Item}
variable {ops : Array Oper} {i : Nat} {rest : List Nat} {o : Oper}
theorem run_eqNil {P : Program} {t e : TypeId} (hu : P.underlying t = some (.slice e)) (A : Option Addr) (l m n c : Nat) (w : World) : (Op.equal t (.slice A l m) (.slice none n c)).run P w = .ok A.isNone w := by
  show (Op.equalIn (9999 + 1) t _ _).run P w = _
  unfold Op.equalIn
  cases A with
  | none => simp [run_underlying hu]
  | some A => simp [run_underlying hu]
theorem Run.roNil {d t t2 : Nat} {x : Operand} {ti : TI} {e n c : Nat} {sz : Nat} {ex : Bool} {xs : List AV} (ho : ops[i]? = some o) (hg : guardOf ops st o = some true) (hd : o.dst = some d)
    (hop : o.op = .binOp .eql t x (.const (.slice none n c)) t2) (hT : X.T t = some ti) (hud : ti.ud = .slice e) (hx : st.ev x = .ro sz ex xs)
    (hdn : (Nat.blt d X.fn.ntmps && !(X.pins.contains d)) = true)
    (h : ∀ b : Bool, (b = true → xs = []) → Run X g (.inRegion ops rest :: k) (st.put d (.lit (.bool b)))) : Run X g (.inRegion ops (i :: rest) :: k) st := by
  simp only [Bool.and_eq_true, Bool.not_eq_true'] at hdn
  refine Run.opE (π := { b : Bool // b = true → xs = [] }) (fun p => st.put d (.lit (.bool p.1))) ho (fun a w hI => guardOf_ok hg a w hI) ?_ fun p => h p.1 p.2
  rintro hX a w ⟨β, F, hI⟩
  have hu : X.P.underlying t = some (.slice e) := by rw [(ty_of hX hT).ud, hud]
  have hR := ev_rel hI x (by rw [hx]; rfl)
  rw [hx] at hR
  generalize hv : a.eval x = v at hR
  have fin : ∀ (A : Option Addr) (l m : Nat), v = .slice A l m → (A.isNone = true → xs = []) → ∃ p : { b : Bool // b = true → xs = [] }, ∃ u w', ((execOp a.eval o).run X.P w = .ok (.value u) w' ∨ ((execOp a.eval o).run X.P w = .ok .skip w' ∧ u = undef)) ∧ SR X g (st.put d (.lit (.bool p.1))) (a.put o.dst u) w' := by
    intro A l m hA hn
    subst hA
    refine ⟨⟨A.isNone, hn⟩, .bool A.isNone, w, .inl ?_, ?_⟩
    · have e1 : (binOp .eql t (.slice A l m) (.slice none n c)).run X.P w = .ok (.bool A.isNone) w := by
        have := run_eqNil hu A l m n c w
        simp [binOp, this]
      have e2 : (eqGuard .eql t x (.const (.slice none n c)) (.slice A l m) (.slice none n c)).run X.P w = .ok () w := by simp [eqGuard]
      have e3 : a.eval (.const (.slice none n c)) = .slice none n c := rfl
      simp only [execOp, hop, hv, e3, Sem.run_bind, e1, e2, Result.andThen_ok, Sem.run_pure]
    · rw [hd]
      exact hI.putv (blt_lt hdn.1) (contains_iff hdn.2) (.lit _ _)
  cases hR with
  | roNil => exact fin _ _ _ rfl fun _ => rfl
  | ro _ _ _ _ b o' c' vals hL hz hl hrow hr hc hm he => exact fin _ _ _ rfl fun hh => by cases hh
theorem Run.appendr {d s t u te : Nat} {x : Operand} {ti tu : TI} {id : Id} {n sz : Nat} {ex ex' : Bool} {xs ys : List AV} (ho : ops[i]? = some o) (hg : guardOf ops st o = some true) (hd : o.dst = some d)
    (hop : o.op = .call ⟨.builtin .append, #[.tmp s, x], #[t, u]⟩) (hT : sliceAt X.T t = some (te, ti)) (hU : X.T u = some tu) (hui : (match tu.ud with | .slice _ => true | .string => true | _ => false) = true)
    (hs : st.get s = .vec id 0 n) (hob : st.obj id = .vec sz ex xs) (he : st.ev x = .ro sz ex' ys) (hsz : ti.sz = sz) (hzl : Nat.beq ti.zero.length ti.sz = true) (hn : n = xs.length)
    (hone : oneC ys = true) (hlen : (xs.length + ys.length) * ti.by' ≤ 140737488355328) (hcap : xs.length + ys.length ≤ capMax) (hdn : (Nat.blt d X.fn.ntmps && !(X.pins.contains d)) = true)
    (h : Run X g (.inRegion ops rest :: k) ((st.setObj id .gone).put d (.own sz false (xs ++ ys)))) : Run X g (.inRegion ops (i :: rest) :: k) st := by
  subst hsz
  simp only [Bool.and_eq_true, Bool.not_eq_true'] at hdn
  refine Run.op ho (fun a w hI => guardOf_ok hg a w hI) ?_ h
  rintro hX a w ⟨β, F, hI⟩
  obtain ⟨i', h1, h2, h3⟩ := sliceAt_ok hX hT
  have hu := ty_of hX hU
  have hsv := hI.slotv (d := s) (by rw [hs]; simp)
  rw [hs] at hsv
  rw [hsv.vec_nil] at hsv
  have hobj := hI.obj id
  rw [hob] at hobj
  obtain ⟨v, hβ, hown⟩ := hobj
  obtain ⟨G, hG, hx⟩ := hsv.vec_own hn hβ hown
  have hGs : ∀ b ∈ G, b ∈ F (.o id) := by rintro b hb; rcases hG with rfl | rfl; exact hb; simp at hb
  have hGn : G.Nodup := by rcases hG with rfl | rfl; exact hI.sep.nodup _; simp
  obtain ⟨vx, Fx, Bx, ocx, hzx, hvx, hrx, hGx⟩ := hx.ownCells
  rw [hGx] at hGn
  obtain ⟨nx1, nx2, nx3⟩ := List.nodup_append.1 hGn
  have hxs : ∀ b, b ∈ Bx ∨ b ∈ foots Fx (flatc xs).length → b ∈ F (.o id) := fun b hb => hGs b (by rw [hGx]; exact List.mem_append.2 hb)
  have hey : ∃ (A : Option Addr) (c : Nat) (vy : List Value), a.eval x = .slice A ys.length c ∧ vy.length = ys.length * ti.sz ∧ (∀ y ∈ ys, y.cells.length = ti.sz) ∧
      (∀ w2 : World, w2.heap = w.heap → (Builtin.firstCells ti.sz ys.length (a.eval x)).run X.P w2 = .ok vy.toArray w2) ∧
      (∀ (k : Nat) (x : AV) (u : Value), (flatc ys)[k]? = some x → vy[k]? = some u → Rel w (Lv g F) noEnv x u []) := by
    have hR := ev_rel hI x (by rw [he]; rfl)
    rw [he] at hR
    generalize a.eval x = vv at hR
    cases hR with
    | roNil _ _ _ A c hc he' =>
      refine ⟨A, c, [], rfl, by simp, by simp, fun w2 _ => ?_, by simp [flatc]⟩
      cases A with
      | none => rfl
      | some A => simp [Builtin.firstCells, loadCells, loadCellsFrom]
    | ro _ _ _ _ b o' c vals hL hz hl hrow hr hc hm he' =>
      have hvl : vals.length = ys.length * ti.sz := by rw [← hl, flatc_length hz]
      refine ⟨_, c, vals, rfl, hvl, hz, fun w2 hw2 => ?_, hr⟩
      refine run_firstCells_some (P := X.P) w2 ti.sz ys.length ⟨b, o', none⟩ ys.length c vals hvl fun k v hk => ?_
      rw [addr_add]
      have := hrow k v hk
      simpa [World.cell?, hw2] using this
  obtain ⟨Ay, cy, vy, huy, hvy, hzy, hfy, hry⟩ := hey
  have hone' : ∀ c ∈ vy, c.oneCell' = true := by
    intro c hc
    obtain ⟨k, hk, rfl⟩ := List.getElem_of_mem hc
    have hk' : k < (flatc ys).length := by rw [flatc_length hzy, ← hvy]; exact hk
    exact ((hry k _ _ (List.getElem?_eq_getElem hk') (List.getElem?_eq_getElem hk)).oneCell (oneC_flat hone k _ (List.getElem?_eq_getElem hk'))).1
  have hdu : ∀ kk, tu.ud ≠ .int kk := by intro kk e; rw [e] at hui; cases hui
  have ht' : X.P.underlying t = some (.slice te) := by rw [h1.ud, h2]
  obtain ⟨v', w', Bs', e1, e2, e3, e4⟩ := append_run (P := X.P) (w := w) (t := t) (u := u) (ty := o.type) ht' hu.ud hdu h3 (Nat.eq_of_beq_eq_true hzl) ocx (x := a.eval x) (m := ys.length) (news := vy)
    (fun w2 => by rw [huy]; rfl) (fun w2 hw2 => hfy w2 hw2) hvy hone' hlen hcap
  refine ⟨v', w', .inl ?_, ?_⟩
  · obtain ⟨dst, op, type, pos, after, guard⟩ := o
    simp only at hop
    subst hop
    simp only [execOp, Sem.run_bind, resolve_builtin, Result.andThen_ok, invoke, builtin]
    have e1' : (Builtin.append_ #[t, u] type #[a.eval (.tmp s), a.eval x]).run X.P w = .ok v' w' := e1
    simp [e1']
  · rw [hd]
    have h0 : Inv X g (st.setObj id .gone) a w β (updF F (.o id) []) (Lv g F) := hI.setOb id .gone rfl (by simp) (by simp) (by simp)
    have hsub : ∀ kk b, b ∈ updF F (.o id) [] kk → b ∈ F kk ∧ kk ≠ .o id := by
      intro kk b hb
      by_cases x2 : kk = .o id
      · subst x2; rw [updF_same] at hb; simp at hb
      · rw [updF_ne _ x2] at hb; exact ⟨hb, x2⟩
    have hfo := foots_append Fx (fun _ => []) (flatc xs).length (flatc ys).length
    have hfn : foots (fun _ => []) (flatc ys).length = [] := foots_nil fun _ _ => rfl
    rw [hfn, List.append_nil] at hfo
    have hfl : (flatc (xs ++ ys)).length = (flatc xs).length + (flatc ys).length := by rw [flatc_append, List.length_append]
    have apx : ∀ b kk, b ∈ F (.o id) → b ∉ updF F (.o id) [] kk := fun b kk hb hb' => by
      obtain ⟨q1, q2⟩ := hsub kk b hb'
      exact hI.sep.apart _ _ b (Ne.symm q2) hb q1
    refine h0.made (L := Lv g F) (zs := xs ++ ys) (Hs := fun kk => if kk < (flatc xs).length then Fx kk else []) (fun kk b hb => Lv_of (hsub kk b hb).1) (fun b hb => .inl hb) e3
      (fun b hb => ⟨Lv_of (hxs b (.inl hb)), fun kk => apx b kk (hxs b (.inl hb)), hI.range _ b (hxs b (.inl hb))⟩) e4 nx1 e2 (by simp) ?_ ?_ ?_ ?_ (blt_lt hdn.1) (contains_iff hdn.2)
    · intro x hx'
      rcases List.mem_append.1 hx' with hx' | hx'
      · exact hzx x hx'
      · exact hzy x hx'
    · intro kk x uu hx' hu'
      rw [flatc_append] at hx'
      have hvxl : vx.length = (flatc xs).length := by rw [hvx, flatc_length hzx]
      by_cases hk : kk < (flatc xs).length
      · rw [List.getElem?_append_left hk] at hx'
        rw [List.getElem?_append_left (by omega)] at hu'
        simp only [if_pos hk]
        exact hrx kk x uu hx' hu'
      · rw [List.getElem?_append_right (by omega)] at hx'
        rw [List.getElem?_append_right (by omega), hvxl] at hu'
        simp only [if_neg hk]
        exact hry _ x uu hx' hu'
    · rw [hfl]
      refine (congrArg List.Nodup hfo).mpr nx2
    · intro b hb
      rw [hfl] at hb
      have hb : b ∈ foots Fx (flatc xs).length := by rw [← hfo]; exact hb
      exact ⟨Lv_of (hxs b (.inr hb)), fun hb' => nx3 b hb' b hb rfl, fun kk => apx b kk (hxs b (.inr hb)), hI.range _ b (hxs b (.inr hb)), hI.lt _ b (hxs b (.inr hb))⟩
end
end Go.Av

/- Own slices given away for good, or shortened; append to a slice without room, which stays. -/
namespace Go.Av
open Go Go.RowKit
section
variable {X : Fx} {g : Gx} {st st' : St} {a : Act} {w w' : World} {β β' : Env} {F : Key → List Nat} {L : Nat → Prop} {K : List Item} {k : List Item}
variable {ops : Array Oper} {i : Nat} {rest : List Nat} {o : Oper}
theorem foots_prefix {Fs : Nat → List Nat} {n m : Nat} (h : n ≤ m) : ∃ r, foots Fs m = foots Fs n ++ r := by
  unfold foots
  obtain ⟨d, rfl⟩ := Nat.exists_eq_add_of_le h
  rw [List.range_add, List.flatMap_append]
  exact ⟨_, rfl⟩
theorem flatc_take_get {xs : List AV} {sz m : Nat} (hz : ∀ x ∈ xs, x.cells.length = sz) {k : Nat} {x : AV} (h : (flatc (xs.take m))[k]? = some x) : (flatc xs)[k]? = some x := by
  have : flatc xs = flatc (xs.take m) ++ flatc (xs.drop m) := by rw [← flatc_append, List.take_append_drop]
  rw [this, List.getElem?_append_left (List.getElem?_eq_some_iff.1 h).1]
  exact h
theorem Rel.vec_take {id : Id} {sz : Nat} {ex : Bool} {xs : List AV} {u v : Value} {G G' : List Nat} {m : Nat} (h : Rel w L β (.vec id 0 m) u G') (hm : m ≤ xs.length)
    (hβ : β id = some (v, sz)) (ho : Rel w L β (.own sz ex xs) v G) (hn : G.Nodup) : ∃ G1, (∀ b ∈ G1, b ∈ G) ∧ G1.Nodup ∧ Rel w L β (.own sz false (xs.take m)) u G1 := by
  have nil : ∀ A : Option Addr, m = 0 → u = .slice A 0 0 → ∃ G1, (∀ b ∈ G1, b ∈ G) ∧ G1.Nodup ∧ Rel w L β (.own sz false (xs.take m)) u G1 := by
    rintro A rfl rfl
    exact ⟨[], by simp, by simp, .ownNil _ _ _ _⟩
  cases ho with
  | ownNil _ _ _ A =>
    obtain rfl : m = 0 := by simpa using hm
    generalize hx : (AV.vec id 0 0) = x at h
    cases h with
    | vec _ _ _ _ b n c sz' A' hβ' ho hA hn =>
      injection hx with h1 h2 h3
      subst h1; subst h2; subst h3
      rw [hβ] at hβ'
      injection hβ' with hβ'
      injection hβ' with hβ' _
      injection hβ' with _ h4 h5
      subst h5
      exact nil _ rfl rfl
    | vecNil _ _ _ _ A' hβ' => exact nil _ rfl rfl
    | _ => cases hx
  | own _ _ _ _ b c arr T lo hi Fs hb hfz hs hz hr hc hmm he =>
    generalize hx : (AV.vec id 0 m) = x at h
    cases h with
    | vec _ _ _ _ b' n c' sz' A' hβ' ho hA hn' =>
      injection hx with h1 h2 h3
      subst h1; subst h2; subst h3
      rw [hβ] at hβ'
      injection hβ' with hβ'
      injection hβ' with hβ' hs'
      injection hβ' with h3 h4 h5
      injection h3 with h3
      injection h3 with h3 _ _
      subst h5
      subst hs'
      subst h3
      by_cases hc0 : c = 0
      · subst hc0
        exact nil _ (by omega) (by rw [show m = 0 by omega])
      · obtain rfl := hA (by omega)
        have hzt : ∀ x ∈ xs.take m, x.cells.length = sz := fun x hx => hz x (List.mem_of_mem_take hx)
        have hlt : (flatc (xs.take m)).length ≤ (flatc xs).length := by
          rw [flatc_length hzt, flatc_length hz]
          exact Nat.mul_le_mul_right _ (by simp; omega)
        obtain ⟨r, hr'⟩ := foots_prefix (Fs := Fs) hlt
        refine ⟨b :: foots Fs (flatc (xs.take m)).length, ?_, ?_, ?_⟩
        · intro x hx
          rw [hr']
          rcases List.mem_cons.1 hx with rfl | hx
          · simp
          · exact List.mem_cons_of_mem _ (List.mem_append_left _ hx)
        · rw [hr', ← List.cons_append] at hn
          exact (List.nodup_append.1 hn).1
        · have hml : (xs.take m).length = m := by simp; omega
          have := Rel.own (L := L) β sz false (xs.take m) b c arr T lo hi Fs hb hfz hs hzt (fun k x u hx hu => hr k x u (flatc_take_get hz hx) hu) (by rw [hml]; omega) hmm (fun h => by cases h)
          rw [hml] at this
          simpa using this
    | vecNil _ _ _ A A' hβ' =>
      injection hx with h1 h2 h3
      subst h3
      exact nil _ rfl rfl
    | _ => cases hx
theorem SR.packTake {d sz : Nat} {ex : Bool} {xs : List AV} {id : Id} {m : Nat} (hd : st.get d = .vec id 0 m) (ho : st.obj id = .vec sz ex xs) (hm : m ≤ xs.length)
    (h : SR X g st a w) : SR X g ((st.setObj id .gone).put d (.own sz false (xs.take m))) a w := by
  obtain ⟨β, F, h⟩ := h
  obtain ⟨u, hu, hr⟩ := h.slot d
  rw [hd] at hr
  have hob := h.obj id
  rw [ho] at hob
  obtain ⟨v, hβ, hown⟩ := hob
  obtain ⟨G, hGs, hGn, hown'⟩ := hr.vec_take hm hβ hown (h.sep.nodup _)
  have hne : Key.s d ≠ Key.o id := by intro e; cases e
  have hL : ∀ b, Lv g (updF (updF F (.o id) []) (.s d) G) b → Lv g F b := fun b hb => Lv_upd2 hGs hb
  refine ⟨β, updF (updF F (.o id) []) (.s d) G, h.defers, h.size, h.kp, h.sep.move hne hGs hGn, ?_, ?_, ?_, h.pin⟩
  · intro k b hb
    by_cases e : k = .s d
    · subst e; rw [updF_same] at hb; exact h.range _ b (hGs b hb)
    · rw [updF_ne _ e] at hb
      by_cases e2 : k = .o id
      · subst e2; rw [updF_same] at hb; simp at hb
      · rw [updF_ne _ e2] at hb; exact h.range _ b hb
  · intro j
    rw [St.get_put, St.get_setObj]
    by_cases hj : d = j
    · subst hj
      rw [if_pos rfl, updF_same]
      exact ⟨u, .inl (hu.resolve_right (by rw [hd]; simp)), hown'.sub fun b _ hb => hL b hb⟩
    · rw [if_neg hj, updF_ne _ (by intro e; injection e with e; exact hj e.symm), updF_ne _ (by intro e; cases e)]
      obtain ⟨u', hu', hr'⟩ := h.slot j
      exact ⟨u', hu', hr'.sub fun b _ hb => hL b hb⟩
  · intro id'
    rw [St.obj_put, St.obj_setObj]
    by_cases hi : id = id'
    · subst hi
      rw [if_pos rfl, updF_ne _ (Ne.symm hne), updF_same]
      rfl
    · rw [if_neg hi, updF_ne _ (by intro e; cases e), updF_ne _ (by intro e; injection e with e; exact hi e.symm)]
      exact (h.obj id').keep (M := fun _ => False) (fun _ _ _ => rfl) (fun _ h => h.elim) (fun b _ hb => hL b hb) (fun _ _ h => h)
theorem Run.packTake (d : Nat) {sz : Nat} {ex : Bool} {xs : List AV} {id : Id} {m : Nat} (hd : st.get d = .vec id 0 m) (ho : st.obj id = .vec sz ex xs) (hm : m ≤ xs.length)
    (h : Run X g K ((st.setObj id .gone).put d (.own sz false (xs.take m)))) : Run X g K st := Run.ghost (fun _ _ hI => hI.packTake hd ho hm) h
theorem Run.callg {d : Nat} {fo x0 : Operand} {xs : Array Operand} {rs : List Operand} {ts : Array TypeId} {f : FuncId} (id : Id) {sz n : Nat} {ex : Bool} {zs ps qs : List AV} {res : AV}
    (ho : ops[i]? = some o) (hg : guardOf ops st o = some true) (hd : o.dst = some d) (hop : o.op = .call ⟨.value fo, xs, ts⟩) (hf : st.ev fo = .fn f [])
    (hxs : xs.toList = x0 :: rs) (hx0 : st.ev x0 = .vec id 0 n) (hob : st.obj id = .vec sz ex zs) (hn : n = zs.length) (hps : evs st rs = some ps) (hfree : AV.freeL ps = true) (hqs : .own sz ex zs :: ps = qs)
    (hct : Ct X.P f qs res [])
    (hdn : (Nat.blt d X.fn.ntmps && !(X.pins.contains d)) = true) (h : Run X g (.inRegion ops rest :: k) ((st.setObj id .gone).put d res)) : Run X g (.inRegion ops (i :: rest) :: k) st := by
  subst hqs
  simp only [Bool.and_eq_true, Bool.not_eq_true'] at hdn
  refine Run.opc ho (fun a w hI => guardOf_ok hg a w hI) ?_ h
  rintro hX a w ⟨β, F, hI⟩
  have hfr := ev_rel hI fo (by rw [hf]; rfl)
  rw [hf] at hfr
  generalize hfv : a.eval fo = fv at hfr
  cases hfr with
  | fn _ _ _ vals hlv hr =>
  obtain rfl : vals = #[] := by
    have : vals.size = 0 := by simpa using hlv.symm
    exact Array.eq_empty_of_size_eq_zero this
  refine ⟨f, xs.map a.eval ++ #[], w, run_call hop hfv hct.enters, ?_⟩
  have hobj := hI.obj id
  rw [hob] at hobj
  obtain ⟨v, hβ, hown⟩ := hobj
  have hvec := ev_rel hI x0 (by rw [hx0]; rfl)
  rw [hx0] at hvec
  obtain ⟨G, hG, hx⟩ := hvec.vec_own hn hβ hown
  have hGs : ∀ b ∈ G, b ∈ F (.o id) := by rintro b hb; rcases hG with rfl | rfl; exact hb; simp at hb
  have hGn : G.Nodup := by rcases hG with rfl | rfl; exact hI.sep.nodup _; simp
  have hGr : ∀ b ∈ G, b ∈ g.F0 ∨ g.w0.heap.size ≤ b := fun b hb => hI.range _ b (hGs b hb)
  have h1 : Inv X g (st.setObj id .gone) a w β (updF F (.o id) []) (Lv g F) := hI.setOb id .gone rfl (by simp) (by simp) (by simp)
  have hL1 : ∀ b, Lv g (updF F (.o id) []) b → Lv g F b := by
    rintro b (hb | ⟨kk, hb⟩)
    · exact .inl hb
    · by_cases e : kk = .o id
      · subst e; rw [updF_same] at hb; simp at hb
      · rw [updF_ne _ e] at hb; exact .inr ⟨kk, hb⟩
  have hLG : ∀ b, Lv g (updF F (.o id) []) b → b ∉ G := by
    rintro b (hb | ⟨kk, hb⟩) hbG
    · obtain ⟨q1, q2⟩ := g.hL b hb
      rcases hGr b hbG with q | q
      · exact q2 q
      · omega
    · by_cases e : kk = .o id
      · subst e; rw [updF_same] at hb; simp at hb
      · rw [updF_ne _ e] at hb
        exact hI.sep.apart _ _ b e hb (hGs b hbG)
  obtain ⟨e1, e2⟩ := evs_ok hI _ _ hps
  have hxsz : xs.size = rs.length + 1 := by rw [← Array.length_toList, hxs]; rfl
  have hval : ∀ kk : Nat, (xs.map a.eval)[kk]? = ((x0 :: rs).map a.eval)[kk]? := by
    intro kk
    rw [← hxs]
    simp
  have harg : Rel w (fun b => Lv g (updF F (.o id) []) b ∨ b ∈ G) noEnv (.tup (.own sz ex zs :: ps)) (.tuple (xs.map a.eval ++ #[])) G := by
    have := Rel.tup (w := w) (L := fun b => Lv g (updF F (.o id) []) b ∨ b ∈ G) noEnv (.own sz ex zs :: ps) (xs.map a.eval ++ #[]) (updN (fun _ => []) 0 G) (by simp [hxsz, e1]) (by
      intro kk y u hy hu
      rw [Array.append_empty, hval] at hu
      have hsub : ∀ b, (Lv g (updF F (.o id) []) b ∨ b ∈ G) → Lv g F b := by
        rintro b (hb | hb)
        · exact hL1 b hb
        · exact Lv_of (hGs b hb)
      cases kk with
      | zero =>
        simp only [List.getElem?_cons_zero, Option.some.injEq] at hy
        subst hy
        simp only [List.map_cons, List.getElem?_cons_zero, Option.some.injEq] at hu
        subst hu
        rw [updN_same]
        exact (hx.env noEnv rfl).sub fun b _ hb => hsub b hb
      | succ kk =>
        rw [updN_ne (by omega)]
        have hy' : ps[kk]? = some y := by simpa using hy
        exact ((e2 kk y u hy' (by simpa using hu)).env noEnv (AV.freeL_get hfree kk y hy')).sub fun b _ hb => hsub b hb)
    rwa [foots_first (by simp) (fun kk hk => updN_ne (by omega)), updN_same] at this
  have hLlt : ∀ b, Lv g (updF F (.o id) []) b → b < w.heap.size ∧ b ∉ G := by
    intro b hb
    refine ⟨?_, hLG b hb⟩
    rcases hL1 b hb with hb | ⟨kk, hb⟩
    · exact Nat.lt_of_lt_of_le (g.hL b hb).1 hI.kp.size
    · exact hI.lt kk b hb
  refine (hct.calls w (Lv g (updF F (.o id) [])) _ G hLlt hGn harg).mono ?_
  rintro e w' ⟨v1, F', rfl, hk, hn', hr', hR⟩
  obtain ⟨G2, hG2n, hG2s, hRes⟩ := ct_res hn' hR
  refine ⟨v1, rfl, ?_⟩
  rw [hd]
  have h2 : Inv X g (st.setObj id .gone) a w' β (updF F (.o id) []) (fun b => Lv g (updF F (.o id) []) b ∨ b ∈ G2) := by
    refine h1.world (M := fun b => b ∈ G) (hI.kp.trans hk hGr) (fun b hb hM => hk.block b hb hM) (fun b hb => Lv_of (hGs b hb)) ?_ ?_
    · rintro b hb (h | h)
      · exact hL1 b h
      · rcases hr' b (hG2s b h) with h | h
        · exact Lv_of (hGs b h)
        · omega
    · rintro kk b hb hM
      by_cases e : kk = .o id
      · subst e; rw [updF_same] at hb; simp at hb
      · rw [updF_ne _ e] at hb; exact hI.sep.apart _ _ b e hb (hGs b hM)
  refine ⟨_, _, (h2.put (d := d) (v := res) (u := v1) (G := G2) (blt_lt hdn.1) (contains_iff hdn.2) ((hRes.of_noEnv rfl β).sub ?_) hG2n ?_ ?_).setL fun b _ hb => ?_⟩
  · rintro b _ (hb | hb)
    · exact .inl hb
    · exact .inr (hG2s b hb)
  · intro kk _ b hb hb'
    have hbF : b ∈ F kk ∧ kk ≠ .o id := by
      by_cases e : kk = .o id
      · subst e; rw [updF_same] at hb'; simp at hb'
      · rw [updF_ne _ e] at hb'; exact ⟨hb', e⟩
    rcases hr' b (hG2s b hb) with h | h
    · exact hI.sep.apart _ _ b hbF.2 hbF.1 (hGs b h)
    · have := hI.lt kk b hbF.1; omega
  · intro b hb
    rcases hr' b (hG2s b hb) with h | h
    · exact hGr b h
    · exact .inr (Nat.le_trans hI.kp.size h)
  · refine Lv_sub (L := fun b => Lv g (updF F (.o id) []) b ∨ b ∈ G2) hb (fun kk hk' => ?_) (fun h => Or.inl (Or.inl h))
    by_cases e : kk = .s d
    · subst e; rw [updF_same] at hk'; exact .inr hk'
    · rw [updF_ne _ e] at hk'
      exact .inl (Lv_of hk')
def isLT : AV → Bool
  | .lit _ => true
  | .top => true
  | _ => false
theorem rel_lit {x : AV} {u : Value} {G : List Nat} (h : Rel w L β x u G) (hl : isLT x = true) : G = [] := by
  cases h <;> simp [isLT] at hl <;> rfl
end
end Go.Av

/- Rows of an own slice written at once: clear, copy; its room: cap, and what a longer part of it holds. -/
namespace Go.Av
open Go Go.RowKit
section
variable {X : Fx} {g : Gx} {st st' : St} {a : Act} {w w' : World} {β β' : Env} {F : Key → List Nat} {L : Nat → Prop} {K : List Item} {k : List Item}
variable {ops : Array Oper} {i : Nat} {rest : List Nat} {o : Oper}
theorem foots_lt {xs : List AV} {sz : Nat} {arr : Array Value} {Fs : Nat → List Nat} (hlx : (flatc xs).all isLT = true) (hs : (flatc xs).length ≤ arr.size)
    (hr : ∀ (k : Nat) (x : AV) (u : Value), (flatc xs)[k]? = some x → arr[k]? = some u → Rel w L β x u (Fs k)) : foots Fs (flatc xs).length = [] := by
  refine foots_nil fun k hk => ?_
  have h1 : (flatc xs)[k]? = some (flatc xs)[k] := List.getElem?_eq_getElem hk
  have h2 : arr[k]? = some arr[k] := Array.getElem?_eq_getElem (by omega)
  exact rel_lit (hr k _ _ h1 h2) (List.all_eq_true.1 hlx _ (List.getElem_mem hk))
theorem Inv.setRow {id : Id} {sz m b n c : Nat} {ex : Bool} {xs ys : List AV} {vals : List Value} (ho : st.obj id = .vec sz ex xs) (hβ : β id = some (.slice (some ⟨b, 0, none⟩) n c, sz)) (hne : xs ≠ [])
    (hlx : (flatc xs).all isLT = true) (hly : (flatc ys).all isLT = true) (hvl : vals.length = ys.length * sz) (hyz : ∀ y ∈ ys, y.cells.length = sz) (hfit : m + ys.length ≤ xs.length)
    (hry : ∀ (k : Nat) (x : AV) (u : Value), (flatc ys)[k]? = some x → vals[k]? = some u → Rel w (Lv g F) noEnv x u []) (h : Inv X g st a w β F (Lv g F)) :
    SR X g (st.setObj id (.vec sz ex (xs.take m ++ ys ++ xs.drop (m + ys.length)))) a (w.setCells b (m * sz) vals) := by
  have hob := h.obj id
  rw [ho] at hob
  obtain ⟨v, hβ', hown⟩ := hob
  rw [hβ] at hβ'
  cases hβ'
  obtain ⟨arr, T, lo, hi, Fs, hb, hfz, hs, hz, hr, hn, hc, hcm, he, hG⟩ := own_row hown rfl hne
  subst hn
  have hle : (flatc xs).length ≤ arr.size := by rw [flatc_length hz, hs]; exact Nat.mul_le_mul_right _ hc
  have hF0 : foots Fs (flatc xs).length = [] := foots_lt (sz := sz) hlx hle hr
  rw [hF0] at hG
  have hrx : ∀ (k : Nat) (x : AV) (u : Value), (flatc xs)[k]? = some x → arr[k]? = some u → Rel w (Lv g F) noEnv x u [] := by
    intro k x u hx hu
    have := hr k x u hx hu
    rwa [rel_lit this (List.all_eq_true.1 hlx x (List.mem_of_getElem? hx))] at this
  have hbF : b ∈ F (.o id) := by rw [hG]; simp
  have hbr := h.range _ b hbF
  have hmul : m * sz + ys.length * sz ≤ xs.length * sz := by rw [← Nat.add_mul]; exact Nat.mul_le_mul_right _ hfit
  have hms : m * sz + vals.length ≤ arr.size := by
    rw [hvl]
    rw [flatc_length hz] at hle
    omega
  have hb2 : (w.setCells b (m * sz) vals).heap[b]? = some (.cells (arrSet arr (m * sz) vals) T (lo, hi)) := heap_setCells b T (lo, hi) _ _ _ _ hb
  generalize hzs : xs.take m ++ ys ++ xs.drop (m + ys.length) = zs
  have hzl : zs.length = xs.length := by rw [← hzs]; simp; omega
  have hz2 : ∀ x ∈ zs, x.cells.length = sz := by
    intro x hx
    rw [← hzs] at hx
    simp only [List.mem_append] at hx
    rcases hx with (hx | hx) | hx
    · exact hz x (List.mem_of_mem_take hx)
    · exact hyz x hx
    · exact hz x (List.mem_of_mem_drop hx)
  have hft : (flatc (xs.take m)).length = m * sz := by
    rw [flatc_length fun x hx => hz x (List.mem_of_mem_take hx)]
    congr 1
    simp
    omega
  have hfy : (flatc ys).length = vals.length := by rw [flatc_length hyz, hvl]
  have hw : ∀ c, c < w.heap.size → ¬ (c = b) → (w.setCells b (m * sz) vals).heap[c]? = w.heap[c]? := fun c _ hc => heap_setCells_ne b c hc _ _ _
  have hkeep : ∀ {y v}, Rel w (Lv g F) noEnv y v [] → Rel (w.setCells b (m * sz) vals) (Lv g F) noEnv y v [] := fun hr =>
    hr.keep hw (fun c hc => by subst hc; exact Lv_of hbF) (fun _ _ h => h) (by simp)
  have h1 : Inv X g (st.setObj id .gone) a w β (updF F (.o id) []) (Lv g F) := h.setOb id .gone rfl (by simp) (by simp) (by simp)
  have h2 : Inv X g (st.setObj id .gone) a (w.setCells b (m * sz) vals) β (updF F (.o id) []) (Lv g F) := by
    refine h1.world (M := fun c => c = b) (h.kp.trans (kp_setCells b _ _ _) (by simpa using hbr)) hw (fun c hc => by subst hc; exact Lv_of hbF) (fun _ _ h => h) ?_
    rintro k c hc rfl
    by_cases e : k = .o id
    · subst e; rw [updF_same] at hc; simp at hc
    · rw [updF_ne _ e] at hc; exact h.sep.apart _ _ c e hc hbF
  have hrel : Rel (w.setCells b (m * sz) vals) (Lv g F) β (.own sz ex zs) (.slice (some ⟨b, 0, none⟩) zs.length c) (b :: foots (fun _ => []) (flatc zs).length) := by
    refine .own _ _ _ _ _ _ _ T lo hi (fun _ => []) hb2 (by rw [size_arrSet]; exact hfz) (by rw [size_arrSet]; exact hs) hz2 (fun k z u hz' hu => ?_) (by rw [hzl]; exact hc) hcm (by rw [hzl]; exact he)
    rw [get_arrSet _ _ _ hms] at hu
    refine hkeep ?_
    have hfx : flatc xs = flatc (xs.take m) ++ flatc (xs.drop m) := by rw [← flatc_append, List.take_append_drop]
    have hfd : flatc (xs.drop (m + ys.length)) = (flatc xs).drop (m * sz + vals.length) := by
      rw [hvl, ← Nat.add_mul, flatc_drop hz]
    rw [← hzs, flatc_append, flatc_append, List.append_assoc] at hz'
    by_cases k1 : k < m * sz
    · rw [List.getElem?_append_left (by omega)] at hz'
      rw [if_neg (by omega)] at hu
      refine hrx k z u ?_ hu
      rw [hfx, List.getElem?_append_left (by omega)]
      exact hz'
    · rw [List.getElem?_append_right (by omega), hft] at hz'
      by_cases k2 : k < m * sz + vals.length
      · rw [List.getElem?_append_left (by omega)] at hz'
        rw [if_pos (by omega)] at hu
        exact hry _ z u hz' hu
      · rw [List.getElem?_append_right (by omega), hfd, List.getElem?_drop] at hz'
        rw [if_neg (by omega)] at hu
        refine hrx k z u ?_ hu
        rw [← hz']
        congr 1
        omega
  rw [foots_nil fun _ _ => rfl, hzl] at hrel
  have h3 := h2.setOb id (.vec sz ex zs) (G := [b]) ⟨_, hβ, hrel⟩ (by simp) (by
    intro k hk c hc hc'
    rw [updF_ne _ hk] at hc'
    rw [List.mem_singleton.1 hc] at hc'
    exact h.sep.apart _ _ b hk hc' hbF) (by
    intro c hc
    rw [List.mem_singleton.1 hc]
    exact hbr)
  have h4 : SR X g ((st.setObj id .gone).setObj id (.vec sz ex zs)) a (w.setCells b (m * sz) vals) := by
    refine ⟨_, _, h3.setL fun c _ hc => ?_⟩
    refine Lv_sub hc (fun k hk => ?_) .inl
    by_cases e : k = .o id
    · subst e
      rw [updF_same] at hk
      rw [List.mem_singleton.1 hk]
      exact Lv_of hbF
    · rw [updF_ne _ e, updF_ne _ e] at hk; exact Lv_of hk
  have hle : St.Le (st.setObj id (.vec sz ex zs)) ((st.setObj id .gone).setObj id (.vec sz ex zs)) :=
    ⟨fun d => .inr rfl, fun id' => .inr (by
      rw [St.obj_setObj, St.obj_setObj, St.obj_setObj]
      by_cases e : id = id' <;> simp [e])⟩
  exact h4.le hle
theorem storeRow_run {P : Program} {b n c o' : Nat} {sz : Nat} {ex : Bool} {xs : List AV} {G : List Nat} (hown : Rel w L β (.own sz ex xs) (.slice (some ⟨b, 0, none⟩) n c) G) (hne : xs ≠ []) {vals : List Value}
    (hfit : o' + vals.length ≤ xs.length * sz) (h1 : ∀ v ∈ vals, v.oneCell' = true) : (storeCells ⟨b, o', none⟩ vals).run P w = .ok () (w.setCells b o' vals) := by
  obtain ⟨arr, T, lo, hi, Fs, hb, hfz, hs, hz, hr, hn, hc, hcm, he, hG⟩ := own_row hown rfl hne
  have hle : xs.length * sz ≤ arr.size := by rw [hs]; exact Nat.mul_le_mul_right _ hc
  have hst := run_storeCells_cells (P := P) b o' vals 0 w (fun k hk => by
    have hk' : o' + 0 + k < arr.size := by omega
    simp only [World.cell?, hb]
    simp only [Option.isSome_none, Bool.false_eq_true, if_false]
    rw [Array.getElem?_eq_getElem hk']; rfl) (fun k hk => by
    have := hfz.1 (o' + 0 + k) (by omega)
    simp only [World.frozen?, hb]
    simp only [Bool.and_eq_false_iff, decide_eq_false_iff_not]
    omega) h1
  simpa using hst
theorem vec_val {id : Id} {off len sz : Nat} {ex : Bool} {xs : List AV} {u v : Value} {G G' : List Nat} (h : Rel w L β (.vec id off len) u G') (hβ : β id = some (v, sz)) (ho : Rel w L β (.own sz ex xs) v G) (hpos : 0 < len) :
    ∃ b c, v = .slice (some ⟨b, 0, none⟩) xs.length c ∧ u = .slice (some ⟨b, off * sz, none⟩) len (c - off) ∧ off + len ≤ xs.length ∧ xs.length ≤ c := by
  generalize hx : AV.vec id off len = x at h
  cases h with
  | vec _ _ _ _ b n c sz' A hβ' hol hA hn =>
    cases hx
    rw [hβ] at hβ'
    injection hβ' with hβ'
    injection hβ' with hv hs
    subst hs
    subst hv
    have hnx : n = xs.length := by
      generalize hvv : Value.slice (some ⟨b, 0, none⟩) n c = vv at ho
      cases ho with
      | ownNil => cases hvv; rfl
      | own => cases hvv; rfl
    subst hnx
    obtain rfl := hA (by omega)
    exact ⟨b, c, rfl, rfl, hol, hn⟩
  | vecNil => cases hx; omega
  | _ => cases hx
theorem Run.clearv {t te : Nat} {x : Operand} {ti : TI} {id : Id} {m len sz : Nat} {ex : Bool} {xs : List AV} (y : AV) (ho : ops[i]? = some o) (hg : guardOf ops st o = some true) (hd : o.dst = none)
    (hop : o.op = .call ⟨.builtin .clear, #[x], #[t]⟩) (hT : sliceAt X.T t = some (te, ti)) (hx : st.ev x = .vec id m len) (hob : st.obj id = .vec sz ex xs) (hsz : ti.sz = sz) (hpos : Nat.blt 0 ti.sz = true)
    (hzl : Nat.beq ti.zero.length ti.sz = true) (hy : y.cells = ti.zero.map .lit) (h1 : ti.zero.all (fun v => v.oneCell') = true) (hlx : (flatc xs).all isLT = true) (hfit : m + len ≤ xs.length)
    (h : Run X g (.inRegion ops rest :: k) (st.setObj id (.vec sz ex (xs.take m ++ List.replicate len y ++ xs.drop (m + len))))) : Run X g (.inRegion ops (i :: rest) :: k) st := by
  subst hsz
  refine Run.op ho (fun a w hI => guardOf_ok hg a w hI) ?_ h
  rintro hX a w ⟨β, F, hI⟩
  obtain ⟨i', ht, hud, hte⟩ := sliceAt_ok hX hT
  have hR := ev_rel hI x (by rw [hx]; rfl)
  rw [hx] at hR
  have hobj := hI.obj id
  rw [hob] at hobj
  obtain ⟨v, hβ, hown⟩ := hobj
  have hzl' := Nat.eq_of_beq_eq_true hzl
  have hyl : y.cells.length = ti.sz := by rw [hy, List.length_map, hzl']
  have ht' : X.P.underlying t = some (.slice te) := by rw [ht.ud, hud]
  obtain ⟨dst, op, type, pos, after, guard⟩ := o
  simp only at hop hd
  subst hop
  subst hd
  by_cases hl0 : len = 0
  · subst hl0
    have hu0 : ∃ A c, a.eval x = .slice A 0 c := by
      generalize a.eval x = u at hR
      generalize hG0 : ([] : List Nat) = G0 at hR
      generalize hvv : AV.vec id m 0 = vv at hR
      cases hR with
      | vec => cases hvv; exact ⟨_, _, rfl⟩
      | vecNil => cases hvv; exact ⟨_, _, rfl⟩
      | _ => cases hvv
    obtain ⟨A, c, hu0⟩ := hu0
    refine ⟨.tuple #[], w, .inl ?_, ?_⟩
    · cases A with
      | none => simp [execOp, invoke, builtin, resolve_builtin, hu0, Builtin.clear_, run_underlying ht']
      | some A => simp [execOp, invoke, builtin, resolve_builtin, hu0, Builtin.clear_, run_underlying ht']
    · have hsame : xs.take m ++ List.replicate 0 y ++ xs.drop (m + 0) = xs := by simp
      rw [hsame]
      have hle : St.Le (st.setObj id (.vec ti.sz ex xs)) st := ⟨fun d => .inr rfl, fun id' => .inr (by
        rw [St.obj_setObj]
        by_cases e : id = id'
        · subst e; simp [hob]
        · simp [e])⟩
      exact SR.le hle ⟨β, F, hI⟩
  · obtain ⟨b, c, rfl, hu, hol, hnc⟩ := vec_val hR hβ hown (by omega)
    have hne : xs ≠ [] := by intro e; subst e; simp at hol; omega
    obtain ⟨j, z, hj, hz, hjs, hjb, hzc⟩ := zero_run' hte
    have hzsz : z.cells.size = ti.sz := by rw [← hzl', ← hzc]; simp
    have hzcells : (Builtin.zeroCells z.cells len).size = len * ti.sz := by rw [size_zeroCells, hzsz]
    generalize hvals : (Builtin.zeroCells z.cells len).toList = vals
    have hvl : vals.length = len * ti.sz := by rw [← hvals, Array.length_toList, hzcells]
    have hget : ∀ (q : Nat) (u : Value), vals[q]? = some u → z.cells[q % ti.sz]? = some u := by
      intro q u hq
      rw [← hvals, Array.getElem?_toList] at hq
      have hqs : q < len * ti.sz := by rw [← hzcells]; exact (Array.getElem?_eq_some_iff.1 hq).1
      simp only [Builtin.zeroCells] at hq
      rw [Array.getElem?_map, Array.getElem?_range, hzsz, if_pos hqs] at hq
      simp only [Option.map_some, Option.some.injEq] at hq
      have hlt : q % ti.sz < z.cells.size := by rw [hzsz]; exact Nat.mod_lt _ (blt_lt hpos)
      rw [← hq, getElem!_pos z.cells _ hlt]
      exact Array.getElem?_eq_getElem hlt
    have hone : ∀ v ∈ vals, v.oneCell' = true := by
      intro v hv
      obtain ⟨q, hq, rfl⟩ := List.getElem_of_mem hv
      have := hget q _ (List.getElem?_eq_getElem hq)
      have hm : vals[q] ∈ ti.zero := by
        rw [← hzc]
        exact Array.mem_toList_iff.2 (Array.mem_of_getElem? this)
      exact List.all_eq_true.1 h1 _ hm
    have hst := storeRow_run (P := X.P) (o' := m * ti.sz) (vals := vals) hown hne (by rw [hvl, ← Nat.add_mul]; exact Nat.mul_le_mul_right _ hfit) hone
    refine ⟨.tuple #[], w.setCells b (m * ti.sz) vals, .inl ?_, ?_⟩
    · obtain ⟨len', rfl⟩ := Nat.exists_eq_succ_of_ne_zero hl0
      simp [execOp, invoke, builtin, resolve_builtin, hu, Builtin.clear_, run_underlying ht', zeroValue, typeInfo, hj, hz, hvals, hst]
    · have := hI.setRow (m := m) (ys := List.replicate len y) (vals := vals) hob hβ hne hlx (by
        rw [List.all_eq_true]
        intro c hc
        obtain ⟨y', hy', hc⟩ := List.mem_flatMap.1 hc
        rw [List.eq_of_mem_replicate hy', hy] at hc
        obtain ⟨v, _, rfl⟩ := List.mem_map.1 hc
        rfl) (by simpa using hvl) (fun y' hy' => by rw [List.eq_of_mem_replicate hy']; exact hyl) (by simpa using hfit) (by
        intro q c u hc hq
        have hqs := hget q u hq
        have hmul : q < len * ti.sz := by rw [← hvl]; exact (List.getElem?_eq_some_iff.1 hq).1
        have hfr : (flatc (List.replicate len y))[q]? = y.cells[q % ti.sz]? := by
          have hrl : (List.replicate len y)[q / ti.sz]? = some y := by
            rw [List.getElem?_replicate, if_pos]
            exact (Nat.div_lt_iff_lt_mul (blt_lt hpos)).2 hmul
          have := elem_cells (xs := List.replicate len y) (sz := ti.sz) (fun y' hy' => by rw [List.eq_of_mem_replicate hy']; exact hyl) hrl (q % ti.sz) (Nat.mod_lt _ (blt_lt hpos))
          rw [Nat.mul_comm, Nat.div_add_mod] at this
          exact this
        rw [hfr, hy, List.getElem?_map] at hc
        obtain ⟨v, hv, rfl⟩ := Option.map_eq_some_iff.1 hc
        rw [← hzc, Array.getElem?_toList, hqs] at hv
        cases hv
        exact .lit _ _)
      rw [List.length_replicate] at this
      exact this
def srcOf (st : St) (x : Operand) : Option (Nat × List AV) :=
  match st.ev x with
  | .ro sz _ ys => some (sz, ys)
  | .vec id off len => match st.obj id with
    | .vec sz _ xs => bif Nat.ble (off + len) xs.length then some (sz, (xs.drop off).take len) else none
    | _ => none
  | _ => none
theorem srcOf_ok {P : Program} {x : Operand} {sz : Nat} {ys : List AV} (hI : Inv X g st a w β F (Lv g F)) (hs : srcOf st x = some (sz, ys)) (hly : (flatc ys).all isLT = true) :
    ∃ (A : Option Addr) (c : Nat) (vals : List Value), a.eval x = .slice A ys.length c ∧ vals.length = ys.length * sz ∧ (∀ y ∈ ys, y.cells.length = sz) ∧
      (∀ (n : Nat) (w2 : World), n ≤ ys.length → w2.heap = w.heap → (Builtin.firstCells sz n (a.eval x)).run P w2 = .ok (vals.take (n * sz)).toArray w2) ∧
      (∀ (k : Nat) (x : AV) (u : Value), (flatc ys)[k]? = some x → vals[k]? = some u → Rel w (Lv g F) noEnv x u []) := by
  have nil : ∀ (A : Option Addr) (c : Nat), ys = [] → a.eval x = .slice A 0 c → ∃ (A : Option Addr) (c : Nat) (vals : List Value), a.eval x = .slice A ys.length c ∧ vals.length = ys.length * sz ∧ (∀ y ∈ ys, y.cells.length = sz) ∧
      (∀ (n : Nat) (w2 : World), n ≤ ys.length → w2.heap = w.heap → (Builtin.firstCells sz n (a.eval x)).run P w2 = .ok (vals.take (n * sz)).toArray w2) ∧
      (∀ (k : Nat) (x : AV) (u : Value), (flatc ys)[k]? = some x → vals[k]? = some u → Rel w (Lv g F) noEnv x u []) := by
    rintro A c rfl hA
    refine ⟨A, c, [], hA, by simp, by simp, fun n w2 hn _ => ?_, by simp [flatc]⟩
    obtain rfl : n = 0 := by simpa using hn
    rw [hA]
    cases A with
    | none => simp [Builtin.firstCells]
    | some A => simp [Builtin.firstCells, loadCells, loadCellsFrom]
  unfold srcOf at hs
  split at hs
  · rename_i sz' ex' ys' he
    simp only [Option.some.injEq, Prod.mk.injEq] at hs
    obtain ⟨rfl, rfl⟩ := hs
    have hR := ev_rel hI x (by rw [he]; rfl)
    rw [he] at hR
    generalize a.eval x = vv at hR nil ⊢
    cases hR with
    | roNil _ _ _ A c hc he' => exact nil _ _ rfl rfl
    | ro _ _ _ _ b o' c vals hL hz hl hrow hr hc hm he' =>
      have hvl : vals.length = ys'.length * sz' := by rw [← hl, flatc_length hz]
      refine ⟨_, c, vals, rfl, hvl, hz, fun n w2 hn hw2 => ?_, hr⟩
      refine run_firstCells_some (P := P) w2 sz' n ⟨b, o', none⟩ ys'.length c _ (by rw [List.length_take, hvl]; exact Nat.min_eq_left (Nat.mul_le_mul_right _ hn)) fun k v hk => ?_
      rw [addr_add]
      rw [List.getElem?_take] at hk
      split at hk
      · have := hrow k v hk
        simpa [World.cell?, hw2] using this
      · cases hk
  · rename_i id off len he
    split at hs
    · rename_i sz' ex' xs hob
      by_cases hfit : off + len ≤ xs.length
      · rw [show Nat.ble (off + len) xs.length = true from Nat.ble_eq_true_of_le hfit] at hs
        simp only [cond_true, Option.some.injEq, Prod.mk.injEq] at hs
        obtain ⟨rfl, rfl⟩ := hs
        have hR := ev_rel hI x (by rw [he]; rfl)
        rw [he] at hR
        have hobj := hI.obj id
        rw [hob] at hobj
        obtain ⟨v, hβ, hown⟩ := hobj
        have hyl : ((xs.drop off).take len).length = len := by simp; omega
        by_cases hl0 : len = 0
        · subst hl0
          have hu0 : ∃ A c, a.eval x = .slice A 0 c := by
            generalize a.eval x = u at hR
            generalize hG0 : ([] : List Nat) = G0 at hR
            generalize hvv : AV.vec id off 0 = vv at hR
            cases hR with
            | vec => cases hvv; exact ⟨_, _, rfl⟩
            | vecNil => cases hvv; exact ⟨_, _, rfl⟩
            | _ => cases hvv
          obtain ⟨A, c, hu0⟩ := hu0
          exact nil A c (by simp) hu0
        · obtain ⟨b, c, rfl, hu, hol, hnc⟩ := vec_val hR hβ hown (by omega)
          have hne : xs ≠ [] := by intro e; subst e; simp at hol; omega
          obtain ⟨arr, T, lo, hi, Fs, hb, hfz, hs', hz, hr, hn, hc, hcm, he', hG⟩ := own_row hown rfl hne
          have hle : xs.length * sz' ≤ arr.size := by rw [hs']; exact Nat.mul_le_mul_right _ hc
          have hmul : off * sz' + len * sz' ≤ xs.length * sz' := by rw [← Nat.add_mul]; exact Nat.mul_le_mul_right _ hfit
          have hvl : ((arr.toList.drop (off * sz')).take (len * sz')).length = len * sz' := by simp; omega
          have hflat : ∀ (k : Nat) (c : AV), (flatc ((xs.drop off).take len))[k]? = some c → (flatc xs)[off * sz' + k]? = some c := by
            intro k c hk
            have h1 := flatc_take_get (xs := xs.drop off) (sz := sz') (fun x hx => hz x (List.mem_of_mem_drop hx)) hk
            rwa [flatc_drop hz, List.getElem?_drop] at h1
          refine ⟨_, _, (arr.toList.drop (off * sz')).take (len * sz'), by rw [hu, hyl], by rw [hvl, hyl], fun y hy => hz y (List.mem_of_mem_drop (List.mem_of_mem_take hy)), fun n w2 hn2 hw2 => ?_, fun k c u hc' hu' => ?_⟩
          · rw [hyl] at hn2
            rw [hu, List.take_take]
            have hnl : n * sz' ≤ len * sz' := Nat.mul_le_mul_right _ hn2
            rw [Nat.min_eq_left hnl]
            refine run_firstCells_some (P := P) w2 sz' n _ len (c - off) _ (by simp; omega) fun k v hk => ?_
            rw [addr_add]
            rw [List.getElem?_take] at hk
            split at hk
            · rw [List.getElem?_drop] at hk
              simp [World.cell?, hw2, hb]
              simpa using hk
            · cases hk
          · have hx' := hflat k c hc'
            rw [List.getElem?_take] at hu'
            split at hu'
            · rw [List.getElem?_drop] at hu'
              have := hr _ c u hx' (by simpa using hu')
              have hl := List.all_eq_true.1 hly c (List.mem_of_getElem? hc')
              rwa [rel_lit this hl] at this
            · cases hu'
      · have : Nat.ble (off + len) xs.length = false := by
          cases hb : Nat.ble (off + len) xs.length with
          | false => rfl
          | true => exact absurd (Nat.le_of_ble_eq_true hb) hfit
        rw [this] at hs
        cases hs
    · cases hs
  · cases hs
theorem Rel.regrow {x : AV} {v : Value} {G : List Nat} {id : Id} {b n c sz : Nat} (h : Rel w L β x v G) (hβ : β id = some (.slice (some ⟨b, 0, none⟩) n c, sz)) (hnc : n ≤ c) :
    Rel w L (updE β id (.slice (some ⟨b, 0, none⟩) c c, sz)) x v G := by
  revert hβ
  induction h with
  | top β v => intro _; exact .top _ _
  | lit β v => intro _; exact .lit _ _
  | roNil β sz ex A c hc he => intro _; exact .roNil _ _ _ _ _ hc he
  | ro β sz ex xs b o c vals hL hz hl hrow hr hc hm he ih => intro _; exact .ro _ _ _ _ _ _ _ vals hL hz hl hrow hr hc hm he
  | ownNil β sz ex A => intro _; exact .ownNil _ _ _ _
  | own β sz ex xs b c arr T lo hi Fs hb hfz hs hz hr hc hm he ih => intro _; exact .own _ _ _ _ _ _ arr T lo hi Fs hb hfz hs hz hr hc hm he
  | agg β cs vals Fs hl hr ih => intro hβ; exact .agg _ _ _ _ hl fun k x u hx hu => ih k x u hx hu hβ
  | tup β cs vals Fs hl hr ih => intro hβ; exact .tup _ _ _ _ hl fun k x u hx hu => ih k x u hx hu hβ
  | fn β f cs vals hl hr ih => intro hβ; exact .fn _ _ _ _ hl fun k x u hx hu => ih k x u hx hu hβ
  | mv β f cs vals hl hr ih => intro hβ; exact .mv _ _ _ _ hl fun k x u hx hu => ih k x u hx hu hβ
  | rp β cs j b o vals hL hl hrow hr ih => intro _; exact .rp _ _ _ _ _ vals hL hl hrow hr
  | bp β id' j b' h =>
    intro hβ
    by_cases e : id' = id
    · subst e; rw [hβ] at h; cases h
    · exact .bp _ _ _ _ (by rw [updE_ne (by cases hq : eqId id' id with | false => rfl | true => exact absurd ((eqId_iff _ _).1 hq) e)]; exact h)
  | ep β id' i j b' n' c' sz' h =>
    intro hβ
    by_cases e : id' = id
    · subst e
      rw [hβ] at h
      injection h with h
      injection h with h hs
      injection h with h1 h2 h3
      injection h1 with h1
      injection h1 with h1 _ _
      subst h1; subst h2; subst h3; subst hs
      exact .ep _ _ _ _ b c c sz (by simp [updE])
    · exact .ep _ _ _ _ _ _ _ _ (by rw [updE_ne (by cases hq : eqId id' id with | false => rfl | true => exact absurd ((eqId_iff _ _).1 hq) e)]; exact h)
  | vec β id' off len b' n' c' sz' A h ho hA hn =>
    intro hβ
    by_cases e : id' = id
    · subst e
      rw [hβ] at h
      injection h with h
      injection h with h hs
      injection h with h1 h2 h3
      injection h1 with h1
      injection h1 with h1 _ _
      subst h1; subst h2; subst h3; subst hs
      exact .vec _ _ _ _ b c c sz A (by simp [updE]) (by omega) hA (Nat.le_refl _)
    · exact .vec _ _ _ _ _ _ _ _ _ (by rw [updE_ne (by cases hq : eqId id' id with | false => rfl | true => exact absurd ((eqId_iff _ _).1 hq) e)]; exact h) ho hA hn
  | vecNil β id' sz' A A' h =>
    intro hβ
    by_cases e : id' = id
    · subst e
      rw [hβ] at h
      injection h with h
      injection h with h hs
      injection h with h1 h2 h3
      subst h2; subst h3; subst hs
      exact .vecNil _ _ sz (some ⟨b, 0, none⟩) _ (by simp [updE])
    · exact .vecNil _ _ _ _ _ (by rw [updE_ne (by cases hq : eqId id' id with | false => rfl | true => exact absurd ((eqId_iff _ _).1 hq) e)]; exact h)
def Ob.tied (id : Id) : Ob → Bool
  | .tie _ id' => eqId id' id
  | _ => false
def noTie (id : Id) : List (Id × Ob) → Bool
  | [] => true
  | x :: l => !(x.2.tied id) && noTie id l
theorem noTie_get {st : St} {id : Id} (h : noTie id st.ob = true) (id' : Id) : (st.obj id').tied id = false := by
  unfold St.obj
  generalize st.ob = l at h
  induction l with
  | nil => rfl
  | cons x l ih =>
    simp only [noTie, Bool.and_eq_true, Bool.not_eq_true'] at h
    unfold lookO
    cases eqId x.1 id'
    · exact ih h.2
    · exact h.1
theorem ObRel.regrow {id id' : Id} {ob : Ob} {b n c sz : Nat} {G : List Nat} (h : ObRel w L β id' ob G) (hβ : β id = some (.slice (some ⟨b, 0, none⟩) n c, sz)) (hnc : n ≤ c) (hne : id' ≠ id) (ht : ob.tied id = false) :
    ObRel w L (updE β id (.slice (some ⟨b, 0, none⟩) c c, sz)) id' ob G := by
  cases ob with
  | gone => exact h
  | vec sz' ex xs =>
    obtain ⟨v, e, hr⟩ := h
    exact ⟨v, by simp [updE, hne, e], hr.regrow hβ hnc⟩
  | tie v id'' =>
    obtain ⟨h1, sz', h2⟩ := h
    exact ⟨h1, sz', by rw [updE_ne (by simpa [Ob.tied] using ht)]; exact h2⟩
  | mp b kk es => exact h
  | mq b es => exact h
  | mem ms => exact h
  | box cs =>
    obtain ⟨b', arr, T, lo, hi, Fs, e, hb, hf, hs, hr, hF⟩ := h
    exact ⟨b', arr, T, lo, hi, Fs, by simp [updE, hne, e], hb, hf, hs, fun k x u hx hu => (hr k x u hx hu).regrow hβ hnc, hF⟩
theorem Run.capx {d t te : Nat} {x : Operand} {ti : TI} {id : Id} {len sz : Nat} {ex : Bool} {xs : List AV} (y : AV) (ho : ops[i]? = some o) (hg : guardOf ops st o = some true) (hd : o.dst = some d)
    (hop : o.op = .call ⟨.builtin .cap, #[x], #[t]⟩) (hT : sliceAt X.T t = some (te, ti)) (hx : st.ev x = .vec id 0 len) (hob : st.obj id = .vec sz ex xs) (hy : y.cells = List.replicate sz .top)
    (hlx : (flatc xs).all isLT = true) (htie : noTie id st.ob = true) (hdn : (Nat.blt d X.fn.ntmps && !(X.pins.contains d)) = true)
    (h : ∀ c : Nat, xs.length ≤ c → c ≤ capMax → Run X g (.inRegion ops rest :: k) ((st.setObj id (.vec sz true (xs ++ List.replicate (c - xs.length) y))).put d (.lit (.int .i64 c)))) : Run X g (.inRegion ops (i :: rest) :: k) st := by
  simp only [Bool.and_eq_true, Bool.not_eq_true'] at hdn
  refine Run.opE (π := { c : Nat // xs.length ≤ c ∧ c ≤ capMax }) (fun c => (st.setObj id (.vec sz true (xs ++ List.replicate (c.1 - xs.length) y))).put d (.lit (.int .i64 c.1))) ho (fun a w hI => guardOf_ok hg a w hI) ?_ fun c => h c.1 c.2.1 c.2.2
  rintro hX a w ⟨β, F, hI⟩
  obtain ⟨i', ht, hud, hte⟩ := sliceAt_ok hX hT
  have ht' : X.P.underlying t = some (.slice te) := by rw [ht.ud, hud]
  have hR := ev_rel hI x (by rw [hx]; rfl)
  rw [hx] at hR
  have hobj := hI.obj id
  rw [hob] at hobj
  obtain ⟨v, hβ, hown⟩ := hobj
  obtain ⟨dst, op, type, pos, after, guard⟩ := o
  simp only at hop hd
  subst hop
  subst hd
  have hrun : ∀ (A : Option Addr) (l c : Nat), a.eval x = .slice A l c → (execOp a.eval ⟨some d, .call ⟨.builtin .cap, #[x], #[t]⟩, type, pos, after, guard⟩).run X.P w = .ok (.value (.int .i64 c)) w := by
    intro A l c hu
    simp [execOp, invoke, builtin, resolve_builtin, hu, Builtin.cap_, run_underlying ht', goInt]
  have nil : ∀ A : Option Addr, xs = [] → a.eval x = .slice A 0 0 → Rel w (Lv g F) β (.own sz true []) v (F (.o id)) → ∃ p : { c : Nat // xs.length ≤ c ∧ c ≤ capMax }, ∃ u w', ((execOp a.eval ⟨some d, .call ⟨.builtin .cap, #[x], #[t]⟩, type, pos, after, guard⟩).run X.P w = .ok (.value u) w' ∨ ((execOp a.eval ⟨some d, .call ⟨.builtin .cap, #[x], #[t]⟩, type, pos, after, guard⟩).run X.P w = .ok .skip w' ∧ u = undef)) ∧
      SR X g ((st.setObj id (.vec sz true (xs ++ List.replicate (p.1 - xs.length) y))).put d (.lit (.int .i64 p.1))) (a.put (some d) u) w' := by
    rintro A rfl hu hown'
    refine ⟨⟨0, by simp, by simp [capMax]⟩, _, w, .inl (hrun _ _ _ hu), ?_⟩
    have h3 := hI.setOb id (.vec sz true []) (G := F (.o id)) ⟨v, hβ, hown'⟩ (hI.sep.nodup _) (fun k hk b hb hb' => hI.sep.apart _ _ b hk hb' hb) (fun b hb => hI.range _ b hb)
    rw [show updF F (.o id) (F (.o id)) = F from by
      funext kk
      by_cases e : kk = .o id
      · subst e; rw [updF_same]
      · rw [updF_ne _ e]] at h3
    exact h3.putv (blt_lt hdn.1) (contains_iff hdn.2) (.lit _ _)
  have nilv : ∀ A : Option Addr, v = .slice A 0 0 → xs = [] → Rel w (Lv g F) β (.own sz true []) v (F (.o id)) := by
    rintro A rfl rfl
    generalize F (.o id) = Gq at hown
    generalize hvv : Value.slice A 0 0 = vv at hown
    cases hown with
    | ownNil => exact .ownNil _ _ _ _
    | own _ _ _ _ b c arr T lo hi Fs hb hfz hs hz hr hc hm he =>
      injection hvv with q1 q2 q3
      subst q3
      exact .own _ _ _ [] b 0 arr T lo hi Fs hb hfz hs (by simp) (by simp [flatc]) (by simp) (by simp [capMax]) (fun _ => rfl)
  generalize hu : a.eval x = u at hR
  generalize hG : ([] : List Nat) = G at hR
  generalize hvv : AV.vec id 0 len = vv at hR
  cases hR with
  | vecNil _ _ sz' A A' hβ' =>
    cases hvv
    rw [hβ] at hβ'
    cases hβ'
    have hx0 : xs = [] := by
      generalize F (.o id) = Gq at hown
      generalize hvv : Value.slice A 0 0 = vv at hown
      cases hown with
      | ownNil => rfl
      | own => injection hvv with _ q _; exact List.length_eq_zero_iff.1 q.symm
    exact nil _ hx0 hu (nilv _ rfl hx0)
  | vec _ _ _ _ b n c sz' A hβ' hol hA hn =>
    cases hvv
    rw [hβ] at hβ'
    injection hβ' with hβ'
    injection hβ' with hv hs
    subst hs
    subst hv
    have hcase : xs = [] ∧ n = 0 ∧ c = 0 ∨ ∃ arr T lo hi Fs, w.heap[b]? = some (.cells arr T (lo, hi)) ∧ ((∀ k, k < arr.size → ¬ (lo ≤ k ∧ k < hi)) ∧ (1 < sz → ¬ (lo ≤ arr.size ∧ arr.size < hi))) ∧ arr.size = c * sz ∧ (∀ x ∈ xs, x.cells.length = sz) ∧
        (∀ (k : Nat) (x : AV) (u : Value), (flatc xs)[k]? = some x → arr[k]? = some u → Rel w (Lv g F) noEnv x u (Fs k)) ∧ n = xs.length ∧ c ≤ capMax ∧ F (.o id) = b :: foots Fs (flatc xs).length := by
      generalize F (.o id) = Gq at hown
      generalize hvv : Value.slice (some ⟨b, 0, none⟩) n c = vv at hown
      cases hown with
      | ownNil => injection hvv with q1 q2 q3; exact .inl ⟨rfl, q2, q3⟩
      | own _ _ _ _ b c arr T lo hi Fs hb hfz hs hz hr hc hm he =>
        injection hvv with q1 q2 q3
        injection q1 with q1
        injection q1 with q1 _ _
        subst q1; subst q3
        exact .inr ⟨arr, T, lo, hi, Fs, hb, hfz, hs, hz, hr, q2, hm, rfl⟩
    rcases hcase with ⟨hx0, rfl, rfl⟩ | ⟨arr, T, lo, hi, Fs, hb, hfz, hs, hz, hr, rfl, hcm, hGF⟩
    · exact nil _ hx0 (by rw [hu]; congr 1; omega) (nilv _ rfl hx0)
    have hle : (flatc xs).length ≤ arr.size := by rw [flatc_length hz, hs]; exact Nat.mul_le_mul_right _ hn
    have hF0 : foots Fs (flatc xs).length = [] := foots_lt (sz := sz) hlx hle hr
    rw [hF0] at hGF
    have hrx : ∀ (k : Nat) (x : AV) (u : Value), (flatc xs)[k]? = some x → arr[k]? = some u → Rel w (Lv g F) noEnv x u [] := by
      intro k x u hx hu
      have := hr k x u hx hu
      rwa [rel_lit this (List.all_eq_true.1 hlx x (List.mem_of_getElem? hx))] at this
    refine ⟨⟨c, hn, hcm⟩, _, w, .inl (hrun _ _ _ (by rw [hu, Nat.sub_zero])), ?_⟩
    have hzl : (xs ++ List.replicate (c - xs.length) y).length = c := by simp; omega
    have hyl : y.cells.length = sz := by rw [hy, List.length_replicate]
    have hz2 : ∀ x ∈ xs ++ List.replicate (c - xs.length) y, x.cells.length = sz := by
      intro x hx
      rcases List.mem_append.1 hx with hx | hx
      · exact hz x hx
      · rw [List.eq_of_mem_replicate hx]; exact hyl
    have hrel : Rel w (Lv g F) (updE β id (.slice (some ⟨b, 0, none⟩) c c, sz)) (.own sz true (xs ++ List.replicate (c - xs.length) y)) (.slice (some ⟨b, 0, none⟩) c c) (F (.o id)) := by
      have := Rel.own (w := w) (L := Lv g F) (updE β id (.slice (some ⟨b, 0, none⟩) c c, sz)) sz true (xs ++ List.replicate (c - xs.length) y) b c arr T lo hi (fun _ => []) hb hfz hs hz2 (by
        intro kk z u hz' hu'
        rw [flatc_append] at hz'
        by_cases hk : kk < (flatc xs).length
        · rw [List.getElem?_append_left hk] at hz'
          exact hrx kk z u hz' hu'
        · rw [List.getElem?_append_right (by omega)] at hz'
          have hm := List.mem_of_getElem? hz'
          obtain ⟨y', hy', hz2⟩ := List.mem_flatMap.1 hm
          rw [List.eq_of_mem_replicate hy', hy] at hz2
          rw [List.eq_of_mem_replicate hz2]
          exact .top _ _) (by rw [hzl]; exact Nat.le_refl _) hcm (fun _ => hzl.symm)
      rw [hzl, foots_nil fun _ _ => rfl] at this
      rw [hGF]
      exact this
    have h3 : Inv X g (st.setObj id (.vec sz true (xs ++ List.replicate (c - xs.length) y))) a w (updE β id (.slice (some ⟨b, 0, none⟩) c c, sz)) F (Lv g F) := by
      refine ⟨hI.defers, hI.size, hI.kp, hI.sep, hI.range, ?_, ?_, hI.pin⟩
      · intro d'
        rw [St.get_setObj]
        obtain ⟨u', hu', hr'⟩ := hI.slot d'
        exact ⟨u', hu', hr'.regrow hβ hn⟩
      · intro id'
        rw [St.obj_setObj]
        by_cases e : id = id'
        · subst e
          rw [if_pos rfl]
          exact ⟨_, by simp [updE], hrel⟩
        · rw [if_neg e]
          exact (hI.obj id').regrow hβ hn (Ne.symm e) (noTie_get htie id')
    exact h3.putv (blt_lt hdn.1) (contains_iff hdn.2) (.lit _ _)
  | _ => cases hvv
theorem Run.condJ {d : Nat} {x y : Code} {b : Bool} (S : St) (hb : st.get d = .lit (.bool b)) (ht : b = true → ∀ k', Nxt (X := X) (g := g) (K := k') S → Run X g (.code x :: k') st)
    (hf : b = false → ∀ k', Nxt (X := X) (g := g) (K := k') S → Run X g (.code y :: k') st) (hk : Run X g k S) : Run X g (.code (.cond (.tmp d) x y) :: k) st :=
  Run.cond hb (fun h => ht h k hk) (fun h => hf h k hk)
end
end Go.Av

/- What slices.Insert and slices.Delete need: parts of a slice behind its length, append of a slice's own rest, of zeros, copy with a count, overlaps. -/
namespace Go.Av
open Go Go.RowKit
section
variable {X : Fx} {g : Gx} {st st' : St} {a : Act} {w w' : World} {β β' : Env} {F : Key → List Nat} {L : Nat → Prop} {K : List Item} {k : List Item}
variable {ops : Array Oper} {i : Nat} {rest : List Nat} {o : Oper}
theorem own_slice {sz : Nat} {ex : Bool} {xs : List AV} {b n c : Nat} {G : List Nat} (h : Rel w L β (.own sz ex xs) (.slice (some ⟨b, 0, none⟩) n c) G) : n = xs.length ∧ (xs = [] → n = 0) := by
  generalize hvv : Value.slice (some ⟨b, 0, none⟩) n c = vv at h
  cases h with
  | ownNil => injection hvv with _ q2 q3; exact ⟨q2, fun _ => q2⟩
  | own => injection hvv with _ q2 q3; exact ⟨q2, fun e => by rw [q2, e]; rfl⟩
theorem ValOk.cutl {t e : Nat} {ti : TI} {x : Operand} {lo hi : Option Operand} {id : Id} {off len sz : Nat} {ex : Bool} {xs : List AV} {l h : Int}
    (hop : o.op = .slice t x lo hi none) (hT : sliceAt X.T t = some (e, ti)) (hx : st.ev x = .vec id off len) (hob : st.obj id = .vec sz ex xs) (hsz : ti.sz = sz)
    (hlo : bndE st lo 0 = some l) (hhi : bndE st hi len = some h) (h0 : 0 ≤ l) (h1 : l ≤ h) (h2 : off + h.toNat ≤ xs.length) : ValOk X g st o (.vec id (off + l.toNat) (h.toNat - l.toNat)) := by
  intro hX a w β F hI
  obtain ⟨i', ht, hud, hte⟩ := sliceAt_ok hX hT
  have hR := ev_rel hI x (by rw [hx]; rfl)
  rw [hx] at hR
  have b1 := bndE_ok hI hlo h0
  have b2 := bndE_ok hI hhi (by omega)
  have ho := hI.obj id
  rw [hob] at ho
  obtain ⟨v0, hβ0, hown⟩ := ho
  generalize hu : a.eval x = u at hR
  generalize hG : ([] : List Nat) = G at hR
  have hlh : l.toNat ≤ h.toNat := by omega
  cases hR with
  | vec _ _ _ _ b n c sz' A hβ hlen hA hn =>
    rw [hβ] at hβ0
    cases hβ0
    subst hsz
    obtain ⟨rfl, _⟩ := own_slice hown
    refine ⟨.slice (if c - off = l.toNat then some A else some (A.add (l.toNat * ti.sz))) (h.toNat - l.toNat) (c - off - l.toNat), fun w2 _ => ?_, ?_⟩
    · have hs := un_run ht w2
      rw [hud] at hs
      have hb := sb_run (P := X.P) (w := w2) true len (c - off) (lo.map a.eval) (hi.map a.eval) l.toNat h.toNat b1 b2 hlh (by omega)
      simp [execOp, hop, Instr.sliceAt, Instr.slice, hs, hu, hb, sizeOf_run hte]
    · have e1 : c - off - l.toNat = c - (off + l.toNat) := by omega
      rw [e1]
      by_cases hc0 : c - off = l.toNat
      · rw [if_pos hc0]
        exact .vec _ _ _ _ b xs.length c _ A hβ (by omega) (fun h => by omega) hn
      · rw [if_neg hc0]
        refine .vec _ _ _ _ b xs.length c _ _ hβ (by omega) (fun h => ?_) hn
        rw [hA (by omega), addr_add, Nat.add_mul]
  | vecNil _ _ sz' A A' hβ =>
    rw [hβ] at hβ0
    cases hβ0
    have hx0 : xs = [] := by
      generalize F (.o id) = Gq at hown
      generalize hvv : Value.slice A 0 0 = vv at hown
      cases hown with
      | ownNil => rfl
      | own _ _ _ _ b c arr T lo hi Fs hb hfz hs hz hr hc hm he =>
        injection hvv with _ q _
        exact List.length_eq_zero_iff.1 q.symm
    subst hx0
    have e2 : h.toNat = 0 := by simpa using h2
    have e1 : l.toNat = 0 := by omega
    refine ⟨.slice A' 0 0, fun w2 _ => ?_, ?_⟩
    · have hs := un_run ht w2
      rw [hud] at hs
      have hb := sb_run (P := X.P) (w := w2) true 0 0 (lo.map a.eval) (hi.map a.eval) l.toNat h.toNat b1 b2 hlh (by omega)
      rw [e1, e2] at hb
      simp [execOp, hop, Instr.sliceAt, Instr.slice, hs, hu, hb, sizeOf_run hte]
    · rw [e1, e2]
      exact .vecNil _ _ _ _ _ hβ
theorem srcOf_vec {x : Operand} {id : Id} {off len sz : Nat} {ex : Bool} {xs : List AV} (hx : st.ev x = .vec id off len) (hob : st.obj id = .vec sz ex xs) (h : off + len ≤ xs.length) : srcOf st x = some (sz, (xs.drop off).take len) := by
  unfold srcOf
  rw [hx]
  simp only [hob]
  rw [show Nat.ble (off + len) xs.length = true from Nat.ble_eq_true_of_le h]
  rfl
theorem srcOf_ro {x : Operand} {sz : Nat} {ex : Bool} {ys : List AV} (hx : st.ev x = .ro sz ex ys) : srcOf st x = some (sz, ys) := by
  unfold srcOf
  rw [hx]
theorem Run.appendz {d s t u te p n : Nat} {x : Operand} {ti tu : TI} {kk kk' : IntKind} {id : Id} {sz : Nat} {xs : List AV} (y : AV) (ho : ops[i]? = some o) (hg : guardOf ops st o = some true) (hd : o.dst = some d)
    (hop : o.op = .call ⟨.builtin .append, #[.tmp s, x], #[t, u]⟩) (hT : sliceAt X.T t = some (te, ti)) (hU : X.T u = some tu) (hui : tu.ud = .int kk') (hx : st.ev x = .lit (.int kk (n : Int)))
    (hs : st.get s = .vec id 0 p) (hob : st.obj id = .vec sz true xs) (hsz : ti.sz = sz) (hpos' : Nat.blt 0 ti.sz = true) (hzl : Nat.beq ti.zero.length ti.sz = true) (hy : y.cells = ti.zero.map .lit) (hn1 : n ≤ 1048576) (hp : p ≤ xs.length) (hpos : xs.length < p + n)
    (hlx : (flatc xs).all isLT = true) (hlen : (p + n) * ti.by' ≤ 140737488355328) (hcap : p + n ≤ capMax) (hdn : (Nat.blt d X.fn.ntmps && !(X.pins.contains d)) = true)
    (h : Run X g (.inRegion ops rest :: k) (st.put d (.own sz false (xs.take p ++ List.replicate n y)))) : Run X g (.inRegion ops (i :: rest) :: k) st := by
  subst hsz
  simp only [Bool.and_eq_true, Bool.not_eq_true'] at hdn
  refine Run.op ho (fun a w hI => guardOf_ok hg a w hI) ?_ h
  rintro hX a w ⟨β, F, hI⟩
  obtain ⟨i', h1, h2, h3⟩ := sliceAt_ok hX hT
  have hu := ty_of hX hU
  have ht' : X.P.underlying t = some (.slice te) := by rw [h1.ud, h2]
  have hu' : X.P.underlying u = some (.int kk') := by rw [hu.ud, hui]
  have hsrc : srcOf st (.tmp s) = some (ti.sz, xs.take p) := by
    unfold srcOf
    show (match st.get s with | .ro sz _ ys => some (sz, ys) | .vec id off len => (match st.obj id with | .vec sz _ xs => bif Nat.ble (off + len) xs.length then some (sz, (xs.drop off).take len) else none | _ => none) | _ => none) = _
    rw [hs]
    simp only [hob]
    rw [show Nat.ble (0 + p) xs.length = true from Nat.ble_eq_true_of_le (by omega)]
    rfl
  have hzt : (flatc (xs.take p)).all isLT = true := by
    rw [List.all_eq_true] at hlx ⊢
    intro c hc
    refine hlx c ?_
    obtain ⟨z, hz, hcz⟩ := List.mem_flatMap.1 hc
    exact List.mem_flatMap.2 ⟨z, List.mem_of_mem_take hz, hcz⟩
  obtain ⟨A, cc, vals, hus, hvl, hyz, hfc, hry⟩ := srcOf_ok (P := X.P) hI hsrc hzt
  have htl : (xs.take p).length = p := by simp; omega
  rw [htl] at hus hvl
  have hus : a.tmps.getD s undef = .slice A p cc := hus
  have hcc : cc ≤ xs.length ∧ (A = none → p = 0) := by
    have hsv := hI.slotv (d := s) (by rw [hs]; simp)
    rw [hs, hus] at hsv
    have hobj := hI.obj id
    rw [hob] at hobj
    obtain ⟨v, hβ, hown⟩ := hobj
    generalize F (.s s) = Gs at hsv
    generalize hvv : AV.vec id 0 p = vv at hsv
    generalize huu : Value.slice A p cc = uu at hsv
    cases hsv with
    | vec _ _ _ _ b n' c sz' A' hβ' hol hA hn =>
      cases hvv
      injection huu with q1 q2 q3
      rw [hβ] at hβ'
      injection hβ' with hβ'
      injection hβ' with hv _
      subst hv
      have hc : c = xs.length ∨ c = 0 := by
        generalize F (.o id) = Gq at hown
        generalize hvv : Value.slice (some ⟨b, 0, none⟩) n' c = vv at hown
        cases hown with
        | ownNil => injection hvv with _ _ q; exact .inr q
        | own _ _ _ _ b c arr T lo hi Fs hb hfz hs hz hr hc hm he => injection hvv with _ _ q; exact .inl (by rw [q]; exact he rfl)
      refine ⟨by omega, fun e => by rw [e] at q1; cases q1⟩
    | vecNil =>
      cases hvv
      injection huu with q1 q2 q3
      exact ⟨by omega, fun _ => rfl⟩
    | _ => cases hvv
  obtain ⟨j, z, hj, hz, hjs, hjb, hzc⟩ := zero_run' h3
  have hzl' := Nat.eq_of_beq_eq_true hzl
  have hzsz : z.cells.size = ti.sz := by rw [← hzl', ← hzc]; simp
  have hyl : y.cells.length = ti.sz := by rw [hy, List.length_map, hzl']
  have hnp : ¬ (p + n ≤ cc) := by omega
  have hn63 : ¬ (9223372036854775807 < ((p : Int) + (n : Int))) := by simp only [capMax] at hcap; omega
  have hfit := growslice_fits (bytes := ti.by') (show cc < p + n by omega) hlen
  have h48 : ¬ (281474976710656 < Builtin.nextslicecap (p + n) cc * ti.by') := by omega
  have hcapg := grownCap_ge w (p + n) cc te
  have hcm := grownCap_le_maxLen w (p + n) cc te (by simpa [maxLen, capMax] using hcap)
  have hev := ev_lit hI hx
  have hw64 : IntKind.i64.wrap (n : Int) = n := by rw [IntKind.wrap_i64]; omega
  have hnb : ¬ (281474976710656 < (n : Int) * (ti.by' : Int)) := by
    have : n * ti.by' ≤ (p + n) * ti.by' := Nat.mul_le_mul_right _ (by omega)
    have h2 : ((n * ti.by' : Nat) : Int) = (n : Int) * (ti.by' : Int) := by simp
    omega
  have hn0 : ¬ (n * ti.sz = 0) := by
    have := blt_lt hpos'
    intro e
    rcases Nat.mul_eq_zero.1 e with e | e <;> omega
  have hfc' := hfc p w.drew (by omega) rfl
  rw [List.take_of_length_le (by rw [hvl]; exact Nat.le_refl _)] at hfc'
  have hfc' : (Builtin.firstCells ti.sz p (.slice A p cc)).run X.P w.drew = .ok vals.toArray w.drew := by rw [← hus]; exact hfc'
  generalize hnews : (Builtin.zeroCells z.cells n).toList = news
  have hnl : news.length = n * ti.sz := by rw [← hnews, Array.length_toList, size_zeroCells, hzsz]
  have hget : ∀ (q : Nat) (u : Value), news[q]? = some u → z.cells[q % ti.sz]? = some u := by
    intro q u hq
    rw [← hnews, Array.getElem?_toList] at hq
    have hqs : q < n * ti.sz := by
      have := (Array.getElem?_eq_some_iff.1 hq).1
      rwa [size_zeroCells, hzsz] at this
    simp only [Builtin.zeroCells] at hq
    rw [Array.getElem?_map, Array.getElem?_range, hzsz, if_pos hqs] at hq
    simp only [Option.map_some, Option.some.injEq] at hq
    have hlt : q % ti.sz < z.cells.size := by rw [hzsz]; exact Nat.mod_lt _ (blt_lt hpos')
    rw [← hq, getElem!_pos z.cells _ hlt]
    exact Array.getElem?_eq_getElem hlt
  let arr2 : Array Value := vals.toArray ++ news.toArray ++ Builtin.zeroCells z.cells (grownCap w (p + n) cc te - (p + n))
  refine ⟨.slice (some ⟨w.heap.size, 0, none⟩) (p + n) (grownCap w (p + n) cc te), w.drew.alloc (.cells arr2 te), .inl ?_, ?_⟩
  · obtain ⟨dst, op, type, pos, after, guard⟩ := o
    simp only at hop
    subst hop
    have e1 : (Builtin.append_ #[t, u] type #[a.eval (.tmp s), a.eval x]).run X.P w = .ok (.slice (some ⟨w.heap.size, 0, none⟩) (p + n) (grownCap w (p + n) cc te)) (w.drew.alloc (.cells arr2 te)) := by
      show (Builtin.append_ #[t, u] type #[a.tmps.getD s undef, a.eval x]).run X.P w = _
      rw [hus, hev]
      have hnn : ¬ ((n : Int) < 0) := by omega
      simp [Builtin.append_, run_underlying ht', run_underlying hu', sizeOf, typeInfo, zeroValue, hj, hz, hjs, hjb, asInt, asIntOf, hw64, hnn, hnb, hnp, hn63, h48, Question.forced, hfc', newRow, grownCap, hn0]
      simp only [arr2, ← hnews]
      congr 2
      apply Array.ext'
      simp [grownCap]
    simp only [execOp, Sem.run_bind, resolve_builtin, Result.andThen_ok, invoke, builtin]
    simp [e1]
  · rw [hd]
    have hocs : OwnCells (w.drew.alloc (.cells arr2 te)) (.slice (some ⟨w.heap.size, 0, none⟩) (p + n) (grownCap w (p + n) cc te)) (p + n) (vals ++ news) ti.sz [w.heap.size] false := by
      refine .inr ⟨w.heap.size, grownCap w (p + n) cc te, _, te, 0, 0, rfl, heap_alloc_new w.drew _, ⟨by intro k _ h; omega, fun _ h => by omega⟩, ?_, hcapg, by simpa [maxLen, capMax] using hcm, (fun h => by cases h), ?_, rfl⟩
      · simp only [arr2, Array.size_append, List.size_toArray, size_zeroCells, hzsz, hvl, hnl, ← Nat.add_mul]
        congr 1
        omega
      · simp only [arr2, Array.toList_append]
        rw [show (p + n) * ti.sz = (vals ++ news).length by rw [List.length_append, hvl, hnl, Nat.add_mul]]
        exact List.take_left
    have hnil : foots (fun _ => ([] : List Nat)) (flatc (xs.take p ++ List.replicate n y)).length = [] := foots_nil fun _ _ => rfl
    refine hI.made (sz := ti.sz) (n := p + n) (ex := false) (zs := xs.take p ++ List.replicate n y) (vals := vals ++ news) (Hs := fun _ => []) (Bs := []) (Bs' := [w.heap.size]) (fun k b hb => Lv_of hb) (fun b hb => .inl hb)
      ⟨rfl, rfl, rfl, by simp, fun k hk _ => Below.heap_alloc w.drew _ k hk⟩ (by simp) (.inr ⟨_, rfl, Nat.le_refl _⟩) (by simp) hocs
      (by simp; omega) ?_ ?_ (by rw [hnil]; simp) (by rw [hnil]; simp) (blt_lt hdn.1) (contains_iff hdn.2)
    · intro x hx'
      rcases List.mem_append.1 hx' with hx' | hx'
      · exact hyz x hx'
      · rw [List.eq_of_mem_replicate hx']; exact hyl
    · intro q x uu hx' hu'
      rw [flatc_append] at hx'
      have hvxl : vals.length = (flatc (xs.take p)).length := by rw [hvl, flatc_length hyz, htl]
      by_cases hk : q < (flatc (xs.take p)).length
      · rw [List.getElem?_append_left hk] at hx'
        rw [List.getElem?_append_left (by omega)] at hu'
        exact hry q x uu hx' hu'
      · rw [List.getElem?_append_right (by omega)] at hx'
        rw [List.getElem?_append_right (by omega), hvxl] at hu'
        generalize q - (flatc (xs.take p)).length = q at hx' hu'
        have hqs := hget q uu hu'
        have hmul : q < n * ti.sz := by rw [← hnl]; exact (List.getElem?_eq_some_iff.1 hu').1
        have hrl : (List.replicate n y)[q / ti.sz]? = some y := by
          rw [List.getElem?_replicate, if_pos]
          exact (Nat.div_lt_iff_lt_mul (blt_lt hpos')).2 hmul
        have := elem_cells (xs := List.replicate n y) (sz := ti.sz) (fun y' hy' => by rw [List.eq_of_mem_replicate hy']; exact hyl) hrl (q % ti.sz) (Nat.mod_lt _ (blt_lt hpos'))
        rw [Nat.mul_comm, Nat.div_add_mod] at this
        rw [this, hy, List.getElem?_map] at hx'
        obtain ⟨v, hv, rfl⟩ := Option.map_eq_some_iff.1 hx'
        rw [← hzc, Array.getElem?_toList, hqs] at hv
        cases hv
        exact .lit _ _
theorem Run.copyd {d t u te : Nat} {x y : Operand} {ti : TI} {id : Id} {m len sz : Nat} {ex : Bool} {xs ys : List AV} (ho : ops[i]? = some o) (hg : guardOf ops st o = some true) (hd : o.dst = some d)
    (hop : o.op = .call ⟨.builtin .copy, #[x, y], #[t, u]⟩) (hT : sliceAt X.T t = some (te, ti)) (hx : st.ev x = .vec id m len) (hob : st.obj id = .vec sz ex xs) (hsz : ti.sz = sz)
    (hy : srcOf st y = some (sz, ys)) (hlx : (flatc xs).all isLT = true) (hly : (flatc ys).all isLT = true) (hfit : m + len ≤ xs.length) (n : Nat) (hn : n = Nat.min ys.length len) (hone : oneC (ys.take n) = true)
    (hdn : (Nat.blt d X.fn.ntmps && !(X.pins.contains d)) = true) (h : Run X g (.inRegion ops rest :: k) ((st.setObj id (.vec sz ex (xs.take m ++ ys.take n ++ xs.drop (m + n)))).put d (.lit (.int .i64 n)))) : Run X g (.inRegion ops (i :: rest) :: k) st := by
  subst hsz
  simp only [Bool.and_eq_true, Bool.not_eq_true'] at hdn
  refine Run.op ho (fun a w hI => guardOf_ok hg a w hI) ?_ h
  rintro hX a w ⟨β, F, hI⟩
  obtain ⟨i', ht, hud, hte⟩ := sliceAt_ok hX hT
  have hR := ev_rel hI x (by rw [hx]; rfl)
  rw [hx] at hR
  have hobj := hI.obj id
  rw [hob] at hobj
  obtain ⟨v, hβ, hown⟩ := hobj
  have ht' : X.P.underlying t = some (.slice te) := by rw [ht.ud, hud]
  obtain ⟨A, c, vals, hu, hvl, hyz, hfc, hry⟩ := srcOf_ok (P := X.P) hI hy hly
  obtain ⟨dst, op, type, pos, after, guard⟩ := o
  simp only at hop hd
  subst hop
  subst hd
  have hny : n ≤ ys.length := by rw [hn]; exact Nat.min_le_left _ _
  have hnl : n ≤ len := by rw [hn]; exact Nat.min_le_right _ _
  have hfc' := hfc n w hny rfl
  have hszr : (sizeOf te).run X.P w = .ok ti.sz w := sizeOf_run hte w
  have hvx : ∃ B d, a.eval x = .slice B len d := by
    generalize a.eval x = u at hR
    generalize hG0 : ([] : List Nat) = G0 at hR
    generalize hvv : AV.vec id m len = vv at hR
    cases hR with
    | vec => cases hvv; exact ⟨_, _, rfl⟩
    | vecNil => cases hvv; exact ⟨_, _, rfl⟩
    | _ => cases hvv
  by_cases hl0 : n = 0
  · subst hl0
    obtain ⟨B, d, hB⟩ := hvx
    rw [hu] at hfc'
    refine ⟨goInt 0, w, .inl ?_, ?_⟩
    · cases B with
      | none => simp [execOp, invoke, builtin, resolve_builtin, hu, hB, Builtin.copy_, run_underlying ht', Builtin.lenOf, ← hn, hszr, hfc']
      | some B => simp [execOp, invoke, builtin, resolve_builtin, hu, hB, Builtin.copy_, run_underlying ht', Builtin.lenOf, ← hn, hszr, hfc', storeCells]
    · have hsame : xs.take m ++ ys.take 0 ++ xs.drop (m + 0) = xs := by simp
      rw [hsame]
      have hle : St.Le (st.setObj id (.vec ti.sz ex xs)) st := ⟨fun d => .inr rfl, fun id' => .inr (by
        rw [St.obj_setObj]
        by_cases e : id = id'
        · subst e; simp [hob]
        · simp [e])⟩
      obtain ⟨β5, F5, h5⟩ := SR.le hle ⟨β, F, hI⟩
      exact h5.putv (blt_lt hdn.1) (contains_iff hdn.2) (.lit _ _)
  · obtain ⟨b, cc, rfl, hux, hol, hnc⟩ := vec_val hR hβ hown (by omega)
    have hne : xs ≠ [] := by intro e; subst e; simp at hol; omega
    have hmul : n * ti.sz ≤ ys.length * ti.sz := Nat.mul_le_mul_right _ hny
    have hvl2 : (vals.take (n * ti.sz)).length = n * ti.sz := by rw [List.length_take, hvl]; exact Nat.min_eq_left hmul
    have hone' : ∀ v ∈ vals.take (n * ti.sz), v.oneCell' = true := by
      intro v hv
      obtain ⟨q, hq0, rfl⟩ := List.getElem_of_mem hv
      have hqn : q < n * ti.sz := by rw [hvl2] at hq0; exact hq0
      have hq : q < vals.length := by omega
      have hq' : q < (flatc ys).length := by rw [flatc_length hyz, ← hvl]; exact hq
      rw [List.getElem_take]
      refine ((hry q _ _ (List.getElem?_eq_getElem hq') (List.getElem?_eq_getElem hq)).oneCell (oneC_flat hone q _ ?_)).1
      rw [flatc_take hyz, List.getElem?_take, if_pos hqn]
      exact List.getElem?_eq_getElem hq'
    have hst := storeRow_run (P := X.P) (o' := m * ti.sz) (vals := vals.take (n * ti.sz)) hown hne (by rw [hvl2, ← Nat.add_mul]; exact Nat.mul_le_mul_right _ (by omega)) hone'
    rw [hu] at hfc'
    refine ⟨goInt n, w.setCells b (m * ti.sz) (vals.take (n * ti.sz)), .inl ?_, ?_⟩
    · simp [execOp, invoke, builtin, resolve_builtin, hu, hux, Builtin.copy_, run_underlying ht', Builtin.lenOf, ← hn, hszr, hfc', hst]
    · have hft : flatc (ys.take n) = (flatc ys).take (n * ti.sz) := by
        rw [flatc_take hyz]
      have := hI.setRow (m := m) (ys := ys.take n) (vals := vals.take (n * ti.sz)) hob hβ hne hlx (by
        rw [List.all_eq_true] at hly ⊢
        intro c hc
        rw [hft] at hc
        exact hly c (List.mem_of_mem_take hc)) (by rw [hvl2]; congr 1; simp; omega) (fun y' hy' => hyz y' (List.mem_of_mem_take hy')) (by simp; omega) (by
        intro q c u hc hq
        refine hry q c u (flatc_take_get hyz hc) ?_
        rw [List.getElem?_take] at hq
        split at hq
        · exact hq
        · cases hq)
      have e : (ys.take n).length = n := by simp; omega
      rw [e] at this
      obtain ⟨β5, F5, h5⟩ := this
      exact h5.putv (blt_lt hdn.1) (contains_iff hdn.2) (.lit _ _)
theorem Run.overlapsR {d t e f : Nat} {fo x y : Operand} {ts : Array TypeId} {fn : Func} {ti : TI} {id : Id} {off len sz sz' : Nat} {ex ex' : Bool} {zs xs : List AV} (ho : ops[i]? = some o) (hg : guardOf ops st o = some true) (hd : o.dst = some d)
    (hop : o.op = .call ⟨.value fo, #[x, y], ts⟩) (hf : st.ev fo = .fn f []) (hfn : X.P.funcs[f]? = some fn) (hnm : (fn.name == "runtime.NumGoroutine") = false) (hb : fn.body.isNone = true) (hnx : Extern.findNext fn = none)
    (hfd : Extern.find fn = some (Extern.SlicesOverlaps.overlaps fn.params fn.resultTypes)) (hps : fn.params = #[t, t]) (hT : sliceAt X.T t = some (e, ti)) (hx : st.ev x = .ro sz' ex zs) (hy : st.ev y = .vec id off len) (hob : st.obj id = .vec sz ex' xs) (hpos2 : (Nat.blt 0 sz' && Nat.blt 1 sz) = true)
    (hdn : (Nat.blt d X.fn.ntmps && !(X.pins.contains d)) = true) (h : Run X g (.inRegion ops rest :: k) (st.put d (.lit (.bool false)))) : Run X g (.inRegion ops (i :: rest) :: k) st := by
  rw [Bool.and_eq_true] at hpos2
  obtain ⟨hpos, hsz1⟩ := hpos2
  have hsz1 := blt_lt hsz1
  rw [hps] at hfd
  generalize fn.resultTypes = rt at hfd
  simp only [Bool.and_eq_true, Bool.not_eq_true'] at hdn
  refine Run.op ho (fun a w hI => guardOf_ok hg a w hI) ?_ h
  rintro hX a w ⟨β, F, hI⟩
  obtain ⟨i', h1, h2, h3⟩ := sliceAt_ok hX hT
  have ht' : X.P.underlying t = some (.slice e) := by rw [h1.ud, h2]
  have hszr : (sizeOf e).run X.P w = .ok ti.sz w := sizeOf_run h3 w
  have hfr := ev_rel hI fo (by rw [hf]; rfl)
  rw [hf] at hfr
  generalize hfv : a.eval fo = fv at hfr
  cases hfr with
  | fn _ _ _ vals hlv hr =>
  obtain rfl : vals = #[] := by
    have : vals.size = 0 := by simpa using hlv.symm
    exact Array.eq_empty_of_size_eq_zero this
  have hRx := ev_rel hI x (by rw [hx]; rfl)
  rw [hx] at hRx
  have hRy := ev_rel hI y (by rw [hy]; rfl)
  rw [hy] at hRy
  have hobj := hI.obj id
  rw [hob] at hobj
  obtain ⟨v, hβ, hown⟩ := hobj
  have hcall : ∀ r : Value, (Extern.SlicesOverlaps.overlaps #[t, t] rt #[a.eval x, a.eval y]).run X.P w = .ok r w → (execOp a.eval o).run X.P w = .ok (.value r) w := by
    intro r hr
    obtain ⟨dst, op, type, pos, after, guard⟩ := o
    simp only at hop
    subst hop
    have := run_callFunc_extern (P := X.P) hfn hnm hb hnx hfd #[a.eval x, a.eval y] w
    rw [hr] at this
    simp [execOp, resolve, hfv, Deferred.ofValue, invoke, this]
  refine ⟨.bool false, w, .inl (hcall _ ?_), by rw [hd]; exact hI.putv (blt_lt hdn.1) (contains_iff hdn.2) (.lit _ _)⟩
  have hyv : (∃ A c, a.eval y = .slice A 0 c) ∨ ∃ b arr T lo hi c, a.eval y = .slice (some ⟨b, off * sz, none⟩) len c ∧ 0 < len ∧ w.heap[b]? = some (.cells arr T (lo, hi)) ∧
      ((∀ k, k < arr.size → ¬ (lo ≤ k ∧ k < hi)) ∧ (1 < sz → ¬ (lo ≤ arr.size ∧ arr.size < hi))) ∧ off * sz ≤ arr.size ∧ Lv g F b := by
    by_cases hl0 : len = 0
    · subst hl0
      left
      generalize a.eval y = u at hRy
      generalize hG0 : ([] : List Nat) = G0 at hRy
      generalize hvv : AV.vec id off 0 = vv at hRy
      cases hRy with
      | vec => cases hvv; exact ⟨_, _, rfl⟩
      | vecNil => cases hvv; exact ⟨_, _, rfl⟩
      | _ => cases hvv
    · right
      obtain ⟨b, c, rfl, hu, hol, hnc⟩ := vec_val hRy hβ hown (by omega)
      have hne : xs ≠ [] := by intro e; subst e; simp at hol; omega
      obtain ⟨arr, T, lo, hi, Fs, hbb, hfz, hs', hz, hr, hn, hc, hcm, he', hG⟩ := own_row hown rfl hne
      refine ⟨b, arr, T, lo, hi, _, hu, by omega, hbb, hfz, ?_, Lv_of (k := .o id) (by rw [hG]; simp)⟩
      rw [hs']
      exact Nat.mul_le_mul_right _ (by omega)
  have hm : ∀ (A B : Option Addr) (la ca lb cb : Nat) (h1 : Option Addr → Nat → Nat → Option Addr → Nat → Nat → Sem Value) (h2 : Array Value → Sem Value),
      Extern.SlicesOverlaps.overlaps.match_4 (fun _ => Sem Value) #[.slice A la ca, .slice B lb cb] h1 h2 = h1 A la ca B lb cb := fun _ _ _ _ _ _ _ _ => rfl
  have zero : ∀ (A B : Option Addr) (la ca lb cb : Nat), (la = 0 ∨ lb = 0) → (Extern.SlicesOverlaps.overlaps #[t, t] rt #[.slice A la ca, .slice B lb cb]).run X.P w = .ok (.bool false) w := by
    intro A B la ca lb cb h0
    have h0' : la = 0 ∨ lb = 0 ∨ ti.sz = 0 := by omega
    delta Extern.SlicesOverlaps.overlaps
    rw [hm]
    cases A <;> cases B <;> simp [run_underlying ht', hszr, h0']
  generalize a.eval x = ux at hRx ⊢
  cases hRx with
  | roNil _ _ _ A c hc he =>
    rcases hyv with ⟨A', c', hA'⟩ | ⟨b, arr, T, lo, hi, c', hA', _⟩
    · rw [hA']; exact zero _ _ _ _ _ _ (.inl rfl)
    · rw [hA']; exact zero _ _ _ _ _ _ (.inl rfl)
  | ro _ _ _ _ bx ox c vals hL hz hl hrow hr hc hm' he =>
    by_cases hz0 : zs.length = 0
    · rcases hyv with ⟨A', c', hA'⟩ | ⟨b, arr, T, lo, hi, c', hA', _⟩
      · rw [hA']; exact zero _ _ _ _ _ _ (.inl hz0)
      · rw [hA']; exact zero _ _ _ _ _ _ (.inl hz0)
    · have hv0 : vals ≠ [] := by
        rintro rfl
        have : (flatc zs).length = 0 := by rw [hl]; rfl
        rw [flatc_length hz] at this
        have := blt_lt hpos
        rcases Nat.mul_eq_zero.1 ‹_› with h | h <;> omega
      obtain ⟨v0, vr, rfl⟩ : ∃ v0 vr, vals = v0 :: vr := by
        cases vals with
        | nil => exact absurd rfl hv0
        | cons v0 vr => exact ⟨_, _, rfl⟩
      have hcell := hrow 0 v0 rfl
      have hnL := hL (by simp)
      rcases hyv with ⟨A', c', hA'⟩ | ⟨b, arr, T, lo, hi, c', hA', hlp, hbb, hfz, hof, hLb⟩
      · rw [hA']; exact zero _ _ _ _ _ _ (.inr rfl)
      · rw [hA']
        have hne : bx ≠ b := by rintro rfl; exact hnL hLb
        have hnb : (bx != b) = true := by simpa using hne
        have hnb' : (bx == b) = false := by simpa using hne
        obtain ⟨arrx, Tx, fx, hbx, hxs⟩ : ∃ arrx Tx fx, w.heap[bx]? = some (.cells arrx Tx fx) ∧ 0 < arrx.size := by
          simp only [World.cell?] at hcell
          split at hcell
          · rename_i cx Tx fx hh
            refine ⟨cx, Tx, fx, hh, ?_⟩
            simp at hcell
            have := (Array.getElem?_eq_some_iff.1 hcell).1
            omega
          · cases hcell
        have hfb : ∀ q, q ≤ arr.size → w.frozen? ⟨b, q, none⟩ = false := by
          intro q hq
          have : ¬ (lo ≤ q ∧ q < hi) := by
            by_cases e : q = arr.size
            · rw [e]; exact hfz.2 hsz1
            · exact hfz.1 q (by omega)
          simp only [World.frozen?, hbb]
          simp only [Bool.and_eq_false_iff, decide_eq_false_iff_not]
          omega
        have hsb : w.shape? b = some (T, arr.size) := by simp [World.shape?, hbb]
        have hsx : w.shape? bx = some (Tx, arrx.size) := by simp [World.shape?, hbx]
        obtain ⟨sx, hsx'⟩ := Nat.exists_eq_succ_of_ne_zero (Nat.pos_iff_ne_zero.1 hxs)
        have hf1 := hfb _ hof
        have hf2 := hfb _ (Nat.le_refl _)
        delta Extern.SlicesOverlaps.overlaps
        rw [hm]
        have hlen0 : ¬ len = 0 := by omega
        by_cases hti : ti.sz = 0
        · simp [run_underlying ht', hszr, hti]
        · have h0' : ¬ (zs.length = 0 ∨ len = 0 ∨ ti.sz = 0) := by omega
          have hzn : ¬ zs = [] := by
            rintro rfl
            exact hz0 rfl
          simp [run_underlying ht', hszr, hti, hlen0, hzn, hnb, hnb', frozen, noView, viewAt, mayBeOne, stringish, shape, Sem.run, hsx, hsb, hf1, hf2, hsx']
end
end Go.Av

/- Calls that are lent an object of the running call: a pointer into it goes along, and it comes back changed. -/
namespace Go.Av
open Go Go.RowKit
def lid : Id := (1000000, 0)
def lidT : Id := (1000000, 1)
def Ob.szOf : Ob → Nat
  | .vec sz _ _ => sz
  | _ => 0
def Ob.free : Ob → Bool
  | .vec .. => true
  | .box cs => AV.freeL cs
  | _ => false
theorem Ob.env {w : World} {L : Nat → Prop} {β : Env} {ob : Ob} {G : List Nat} {v : Value} (h : ObRel w L β lid ob G) (hf : ob.free = true) (γ : Env) (hβ : β lid = some (v, ob.szOf)) (hγ : γ lid = some (v, ob.szOf)) : ObRel w L γ lid ob G := by
  cases ob with
  | vec sz ex xs =>
    obtain ⟨v', hv', hr⟩ := h
    rw [hβ] at hv'
    cases hv'
    exact ⟨_, hγ, hr.env γ rfl⟩
  | box cs =>
    obtain ⟨b, arr, T, lo, hi, Fs, e, hb, hfz, hs, hr, hF⟩ := h
    rw [hβ] at e
    cases e
    exact ⟨b, arr, T, lo, hi, Fs, hγ, hb, hfz, hs, fun k x u hx hu => (hr k x u hx hu).env γ (AV.freeL_get hf k x hx), hF⟩
  | _ => cases hf
theorem Ob.sz {w : World} {L : Nat → Prop} {β : Env} {ob : Ob} {G : List Nat} {id : Id} (h : ObRel w L β id ob G) (hf : ob.free = true) : ∃ v, β id = some (v, ob.szOf) := by
  cases ob with
  | vec sz ex xs => obtain ⟨v', hv', hr⟩ := h; exact ⟨v', hv'⟩
  | box cs => obtain ⟨b, arr, T, lo, hi, Fs, e, _⟩ := h; exact ⟨_, e⟩
  | _ => cases hf
structure CtG (P : Program) (f : FuncId) (args : List AV) (ob : Ob) (res : AV) (ob' : Ob) : Prop where
  enters : (P.funcs[f]?).map (fun fn => (fn.body.isSome, fn.name == "runtime.NumGoroutine")) = some (true, false)
  free' : ob'.free = true
  sz : ob'.szOf = ob.szOf
  calls : ∀ (w : World) (L : Nat → Prop) (vs : Array Value) (v0 : Value) (G : List Nat), (∀ b, L b → b < w.heap.size ∧ b ∉ G) → G.Nodup →
    Rel w (fun b => L b ∨ b ∈ G) (updE noEnv lid (v0, ob.szOf)) (.tup args) (.tuple vs) [] → ObRel w (fun b => L b ∨ b ∈ G) (updE noEnv lid (v0, ob.szOf)) lid ob G →
    Calls P f vs w fun e w' => ∃ v Gr G', e = .returned v ∧ Kp G w w' ∧ (Gr ++ G').Nodup ∧ (∀ b ∈ Gr ++ G', b ∈ G ∨ w.heap.size ≤ b) ∧
      Rel w' (fun b => L b ∨ b ∈ Gr ++ G') noEnv res v Gr ∧ ObRel w' (fun b => L b ∨ b ∈ Gr ++ G') (updE noEnv lid (v0, ob'.szOf)) lid ob' G'
def PostGP (g : Gx) (v0 : Value) (res : AV) (ob' : Ob) (v : Value) (w' : World) : Prop :=
  ∃ Gr G', Kp g.F0 g.w0 w' ∧ (Gr ++ G').Nodup ∧ (∀ b ∈ Gr ++ G', b ∈ g.F0 ∨ g.w0.heap.size ≤ b) ∧
    Rel w' (fun b => g.L0 b ∨ b ∈ Gr ++ G') noEnv res v Gr ∧ ObRel w' (fun b => g.L0 b ∨ b ∈ Gr ++ G') (updE noEnv lid (v0, ob'.szOf)) lid ob' G'
@[reducible] def PostG (g : Gx) (v0 : Value) (res : AV) (ob' : Ob) : GPost := .plain (PostGP g v0 res ob')
theorem foots_nil_sub {Fs : Nat → List Nat} {n : Nat} (h : foots Fs n = []) : ∀ k, k < n → Fs k = [] := by
  intro k hk
  cases hF : Fs k with
  | nil => rfl
  | cons b r =>
    have : b ∈ foots Fs n := mem_foots.2 ⟨k, hk, by rw [hF]; simp⟩
    rw [h] at this
    cases this
theorem CtG.intro (X : Fx) (hX : X.Ok) {c : Code} (hb : X.fn.body = some c) (hn : (X.fn.name == "runtime.NumGoroutine") = false) {args : List AV} {ob : Ob} {res : AV} {ob' : Ob}
    (hargs' : Nat.ble args.length X.fn.ntmps = true) (hpins' : (X.pins.all fun j => Nat.blt j args.length) = true) (hfree : ob'.free = true) (hsz : ob'.szOf = ob.szOf) (hgo : ob.free = true)
    (h : ∀ (g : Gx) (v0 : Value), g.Post = PostG g v0 res ob' → Run X g [.code c] ⟨initS args 0, [(lid, ob), (lidT, .tie v0 lid)]⟩) : CtG X.P X.f args ob res ob' := by
  have hargs : args.length ≤ X.fn.ntmps := Nat.le_of_ble_eq_true hargs'
  have hpins : ∀ j ∈ X.pins, j < args.length := fun j hj => by
    have := Nat.le_of_ble_eq_true (List.all_eq_true.1 hpins' j hj)
    omega
  refine ⟨by rw [hX.func]; simp [hb, hn], hfree, hsz, fun w L vs v0 G hL hF hr hO cs => ?_⟩
  generalize hGe : ([] : List Nat) = Ge at hr
  cases hr with
  | tup _ _ _ Fs hl hr =>
  have hFs := foots_nil_sub hGe.symm
  let g : Gx := ⟨w, G, L, vs, .plain fun v w' => ∃ Gr G', Kp G w w' ∧ (Gr ++ G').Nodup ∧ (∀ b ∈ Gr ++ G', b ∈ G ∨ w.heap.size ≤ b) ∧
    Rel w' (fun b => L b ∨ b ∈ Gr ++ G') noEnv res v Gr ∧ ObRel w' (fun b => L b ∨ b ∈ Gr ++ G') (updE noEnv lid (v0, ob'.szOf)) lid ob' G', hL⟩
  let b : Frame := { (default : Frame) with fn := X.f, kind := .normal, roundOf := none }
  let a : Act := { tmps := vs ++ Array.replicate (X.fn.ntmps - vs.size) undef, defers := [] }
  have henter : Frame.enter X.P X.f vs .normal = b.atR a [.code c] := by
    simp [Frame.enter, Frame.atR, hX.func, hb, b, a]
  have hsize : a.tmps.size = X.fn.ntmps := by simp [a]; omega
  have hget : ∀ d, d < args.length → a.tmps[d]? = vs[d]? := fun d hd => by
    simp only [a]; rw [Array.getElem?_append_left (by omega)]
  have hSR : SR X g ⟨initS args 0, [(lid, ob), (lidT, .tie v0 lid)]⟩ a w := by
    let FF : Key → List Nat := fun | .s d => [] | .o id => if id = lid then G else []
    have hLL : ∀ b, Lv g FF b → (L b ∨ b ∈ G) := by
      rintro b (hb | ⟨k, hb⟩)
      · exact .inl hb
      · cases k with
        | s d => simp [FF] at hb
        | o id =>
          simp only [FF] at hb
          split at hb
          · exact .inr hb
          · simp at hb
    have hob : ∀ id, St.obj ⟨initS args 0, [(lid, ob), (lidT, .tie v0 lid)]⟩ id = if id = lid then ob else if id = lidT then .tie v0 lid else .gone := by
      intro id
      show lookO [(lid, ob), (lidT, .tie v0 lid)] id = _
      simp only [lookO]
      by_cases h1 : id = lid
      · subst h1; rw [if_pos rfl, (eqId_iff lid lid).2 rfl]; rfl
      · have e1 : eqId lid id = false := by cases hb : eqId lid id; rfl; exact absurd ((eqId_iff _ _).1 hb).symm h1
        rw [if_neg h1, e1]
        by_cases h2 : id = lidT
        · subst h2; rw [if_pos rfl, (eqId_iff lidT lidT).2 rfl]; rfl
        · have e2 : eqId lidT id = false := by cases hb : eqId lidT id; rfl; exact absurd ((eqId_iff _ _).1 hb).symm h2
          rw [if_neg h2, e2]; rfl
    refine ⟨updE noEnv lid (v0, ob.szOf), FF, rfl, hsize, Kp.refl _ _, ⟨?_, ?_⟩, ?_, ?_, ?_, ?_⟩
    · intro k
      cases k with
      | s d => simp [FF]
      | o id => simp only [FF]; split; exact hF; simp
    · intro k k' b hne hb hb'
      cases k with
      | s d => simp [FF] at hb
      | o id =>
        cases k' with
        | s d => simp [FF] at hb'
        | o id' =>
          simp only [FF] at hb hb'
          split at hb
          · split at hb'
            · rename_i e1 e2; exact hne (by rw [e1, e2])
            · simp at hb'
          · simp at hb
    · intro k b hb
      cases k with
      | s d => simp [FF] at hb
      | o id =>
        simp only [FF] at hb
        split at hb
        · exact .inl hb
        · simp at hb
    · intro d
      show ∃ u, _ ∧ Rel w _ _ (lookS (initS args 0) d) u (FF (.s d))
      rw [show St.get ⟨initS args 0, [(lid, ob), (lidT, .tie v0 lid)]⟩ d = lookS (initS args 0) d from rfl, look_initS]
      simp only [Nat.zero_le, true_and, Nat.zero_add, Nat.sub_zero, FF]
      by_cases hd : d < args.length
      · rw [if_pos hd]
        have e1 : args[d]? = some (args.getD d .top) := by rw [List.getD_eq_getElem?_getD, List.getElem?_eq_getElem hd]; rfl
        have e2 : vs[d]? = some (vs.getD d undef) := by rw [Array.getD_eq_getD_getElem?, Array.getElem?_eq_getElem (by omega)]; rfl
        refine ⟨vs.getD d undef, .inl (by rw [hget d hd, e2]), ?_⟩
        have := hr d _ _ e1 e2
        rw [hFs d hd] at this
        exact this.keep (M := fun _ => False) (fun _ _ _ => rfl) (fun _ h => h.elim) (fun b _ hb => hLL b hb) (fun _ _ h => h)
      · rw [if_neg hd]
        exact ⟨undef, .inr rfl, .top _ _⟩
    · intro id
      rw [hob id]
      simp only [FF]
      by_cases h1 : id = lid
      · rw [if_pos h1, if_pos h1]
        subst h1
        exact hO.keep (M := fun _ => False) (fun _ _ _ => rfl) (fun _ h => h.elim) (fun b _ hb => hLL b hb) (fun _ _ h => h)
      · rw [if_neg h1, if_neg h1]
        by_cases h2 : id = lidT
        · rw [if_pos h2]
          exact ⟨rfl, ob.szOf, by simp [updE]⟩
        · rw [if_neg h2]; rfl
    · intro j hj; exact hget j (hpins j hj)
  obtain ⟨v, w', fr, ⟨⟨Gr, G', hp⟩, h1, h2⟩, hst⟩ := h g v0 rfl hX a w b cs hSR rfl ⟨rfl, rfl⟩
  rw [← henter] at hst
  exact ⟨.returned v, w', fr, ⟨v, Gr, G', rfl, hp⟩, hst, h1, h2⟩
section
variable {X : Fx} {g : Gx} {st st' : St} {a : Act} {w w' : World} {β β' : Env} {F : Key → List Nat} {L : Nat → Prop} {K : List Item} {k : List Item}
variable {ops : Array Oper} {i : Nat} {rest : List Nat} {o : Oper}
theorem ret_own {res : AV} (hX : X.Ok) (h : Inv X g st a w β F (Lv g F))
    (hne : ∀ rv ∈ X.fn.results.toList, st.rv X.T rv ≠ .top ∧ (st.rv X.T rv).free = true)
    (hk : (X.fn.results.toList.map st.rkey).Nodup)
    (hres : retV (X.fn.results.toList.map (st.rv X.T)) = res) :
    ∃ v G, (results X.fn a.tmps).run X.P w = .ok v w ∧ Rel w (Lv g F) noEnv res v G ∧ G.Nodup ∧ ∀ b ∈ G, ∃ rv ∈ X.fn.results.toList, b ∈ F (st.rkey rv) := by
  obtain ⟨us, Gs, h1, h2, h3, h4, h5, h6⟩ := rvs_ok hX h _ hne hk
  refine ⟨if us.length = 1 then us.headD undef else .tuple us.toArray, ?_⟩
  have hR : ∃ G : List Nat, Rel w (Lv g F) noEnv res (if us.length = 1 then us.headD undef else .tuple us.toArray) G ∧ G.Nodup ∧ ∀ b ∈ G, ∃ rv ∈ X.fn.results.toList, b ∈ F (st.rkey rv) := by
    subst hres
    generalize X.fn.results.toList = l at *
    by_cases hl : us.length = 1
    · rw [if_pos hl]
      rw [h2] at hl
      obtain ⟨rv, rfl⟩ := List.length_eq_one_iff.1 hl
      obtain ⟨u, rfl⟩ := List.length_eq_one_iff.1 h2
      exact ⟨Gs 0, h3 0 _ u rfl rfl, h5 0, fun b hb => ⟨rv, by simp, h4 0 rv rfl b hb⟩⟩
    · rw [if_neg hl]
      refine ⟨foots Gs (l.map (st.rv X.T)).length, ?_, ?_, ?_⟩
      · have : retV (l.map (st.rv X.T)) = .tup (l.map (st.rv X.T)) := by
          unfold retV
          split
          · rename_i x e
            have := congrArg List.length e
            simp at this; omega
          · rfl
        rw [this]
        exact .tup _ _ _ _ (by simp [h2]) fun k x u hx hu => h3 k x u hx (by simpa using hu)
      · refine nodup_foots fun k hk' => ⟨h5 k, fun k' hk'' hne' b hb hb' => ?_⟩
        simp at hk' hk''
        have e1 := h4 k _ (List.getElem?_eq_getElem hk') b hb
        have e2 := h4 k' _ (List.getElem?_eq_getElem hk'') b hb'
        refine h.sep.apart _ _ b ?_ e1 e2
        intro e
        have := (List.getElem_inj (i := k) (j := k') (h₀ := by simpa using hk') (h₁ := by simpa using hk'') hk).1 (by simpa using e)
        exact hne' this
      · intro b hb
        obtain ⟨k, hk', hb'⟩ := mem_foots.1 hb
        simp at hk'
        exact ⟨l[k], by simp, h4 k _ (List.getElem?_eq_getElem hk') b hb'⟩
  obtain ⟨G, q1, q2, q3⟩ := hR
  exact ⟨G, results_run h1, q1, q2, q3⟩
theorem retG_post {r res : AV} {ob' : Ob} {v0 : Value} (hX : X.Ok) (hr : retOf X st = some r) (he : r = res) (ho : st.obj lid = ob') (hf : ob'.free = true) (ht : st.obj lidT = .tie v0 lid)
    (hk : ((X.fn.results.toList.map st.rkey).all fun k => decide (k ≠ .o lid)) = true)
    (h : SR X g st a w) : ∃ v, (results X.fn a.tmps).run X.P w = .ok v w ∧ PostGP g v0 res ob' v w := by
  subst he
  obtain ⟨β, F, h⟩ := h
  obtain ⟨q1, q2, q3⟩ := retOf_ok hr
  obtain ⟨v, G, h1, hG1, hG2, hG3⟩ := ret_own hX h q1 q2 q3
  refine ⟨v, h1, ?_⟩
  have hob := h.obj lid
  have htie := h.obj lidT
  rw [ho] at hob
  rw [ht] at htie
  obtain ⟨_, sz, hsz⟩ := htie
  obtain ⟨v', hv'⟩ := Ob.sz hob hf
  have hβ : β lid = some (v0, ob'.szOf) := by
    rw [hsz] at hv'
    cases hv'
    exact hsz
  have hGk : ∀ b ∈ G, ∃ k, k ≠ .o lid ∧ b ∈ F k := by
    intro b hb
    obtain ⟨rv, hrv, hb'⟩ := hG3 b hb
    exact ⟨st.rkey rv, by simpa using List.all_eq_true.1 hk _ (List.mem_map.2 ⟨rv, hrv, rfl⟩), hb'⟩
  have hLL : ∀ b, (g.L0 b ∨ b ∈ G ++ F (.o lid)) → Lv g F b := by
    rintro b (hb | hb)
    · exact .inl hb
    · rcases List.mem_append.1 hb with hb | hb
      · obtain ⟨k, _, hk'⟩ := hGk b hb; exact .inr ⟨k, hk'⟩
      · exact .inr ⟨_, hb⟩
  refine ⟨G, F (.o lid), h.kp, ?_, ?_, hG1.sub fun b _ hb => hLL b hb, ?_⟩
  · refine List.nodup_append.2 ⟨hG2, h.sep.nodup _, fun x hx y hy e => ?_⟩
    subst e
    obtain ⟨k, hk1, hk2⟩ := hGk x hx
    exact h.sep.apart _ _ x hk1 hk2 hy
  · intro b hb
    rcases List.mem_append.1 hb with hb | hb
    · obtain ⟨k, _, hk'⟩ := hGk b hb; exact h.range k b hk'
    · exact h.range _ b hb
  · exact (Ob.env hob hf _ hβ (by simp [updE])).keep (M := fun _ => False) (fun _ _ _ => rfl) (fun _ h => h.elim) (fun b _ hb => hLL b hb) (fun _ _ h => h)
theorem Run.retG {r res : AV} {ob' : Ob} {v0 : Value} (hg : g.Post = PostG g v0 res ob') (hr : retOf X st = some r) (he : r = res) (ho : st.obj lid = ob') (hf : ob'.free = true) (ht : st.obj lidT = .tie v0 lid)
    (hk : ((X.fn.results.toList.map st.rkey).all fun k => decide (k ≠ .o lid)) = true) : Run X g (.code .ret :: k) st :=
  Run.ret' hg fun hX a w hI => retG_post hX hr he ho hf ht hk hI
def lendP (id : Id) : AV → Option AV
  | .ep i m j => bif eqId i id then some (.ep lid m j) else none
  | .bp i j => bif eqId i id then some (.bp lid j) else none
  | .vec i off len => bif eqId i id then some (.vec lid off len) else none
  | x => bif x.pl && x.free then some x else none
def lendPs (id : Id) : List AV → Option (List AV)
  | [] => some []
  | x :: xs => match lendP id x, lendPs id xs with
    | some y, some ys => some (y :: ys)
    | _, _ => none
theorem lendPs_get {id : Id} : ∀ {xs ys : List AV}, lendPs id xs = some ys → ys.length = xs.length ∧ ∀ (k : Nat) (y : AV), ys[k]? = some y → ∃ x, xs[k]? = some x ∧ lendP id x = some y
  | [], ys, h => by simp only [lendPs, Option.some.injEq] at h; subst h; simp
  | x :: xs, ys, h => by
    simp only [lendPs] at h
    split at h
    · rename_i y ys' h1 h2
      cases h
      obtain ⟨e1, e2⟩ := lendPs_get h2
      refine ⟨by simp [e1], fun k y' hy => ?_⟩
      cases k with
      | zero => simp at hy; subst hy; exact ⟨x, rfl, h1⟩
      | succ k => simpa using e2 k y' (by simpa using hy)
    · cases h
theorem lendP_ok {id : Id} {x y : AV} {u v0 : Value} {sz : Nat} {G : List Nat} (hl : lendP id x = some y) (hβ : β id = some (v0, sz)) (h : Rel w L β x u G) : Rel w L (updE noEnv lid (v0, sz)) y u [] := by
  have hγ : updE noEnv lid (v0, sz) lid = some (v0, sz) := by simp [updE]
  unfold lendP at hl
  split at hl
  · rename_i i m j
    cases he : eqId i id with
    | false => rw [he] at hl; cases hl
    | true =>
      rw [he] at hl
      cases hl
      obtain rfl := (eqId_iff _ _).1 he
      cases h with
      | ep _ _ _ _ b n c sz' h =>
        rw [hβ] at h
        cases h
        exact .ep _ _ _ _ b n c sz hγ
  · rename_i i j
    cases he : eqId i id with
    | false => rw [he] at hl; cases hl
    | true =>
      rw [he] at hl
      cases hl
      obtain rfl := (eqId_iff _ _).1 he
      cases h with
      | bp _ _ _ b h =>
        rw [hβ] at h
        cases h
        exact .bp _ _ _ b hγ
  · rename_i i off len
    cases he : eqId i id with
    | false => rw [he] at hl; cases hl
    | true =>
      rw [he] at hl
      cases hl
      obtain rfl := (eqId_iff _ _).1 he
      cases h with
      | vec _ _ _ _ b n c sz' A h ho hA hn =>
        rw [hβ] at h
        cases h
        exact .vec _ _ _ _ b n c sz A hγ ho hA hn
      | vecNil _ _ sz' A A' h =>
        rw [hβ] at h
        cases h
        exact .vecNil _ _ sz A A' hγ
  · cases hp : (x.pl && x.free) with
    | false => rw [hp] at hl; cases hl
    | true =>
      rw [hp] at hl
      cases hl
      simp only [Bool.and_eq_true] at hp
      obtain rfl := h.pl_nil hp.1
      exact h.env _ hp.2
theorem CtG.called (hX : X.Ok) {id : Id} {f : FuncId} {xs : Array Operand} {ps : List AV} {ob ob' : Ob} {res : AV} (hct : CtG X.P f ps ob res ob') (hI : Inv X g st a w β F (Lv g F)) (hob : st.obj id = ob) (hfo : ob.free = true)
    (hps : lendPs id (xs.toList.map st.ev) = some ps) :
    Calls X.P f (xs.map a.eval ++ #[]) w fun e w' => ∃ (v : Value) (Gr G' : List Nat) (β' : Env) (F' : Key → List Nat), e = .returned v ∧ (∀ b ∈ Gr, b ∈ F (.o id) ∨ w.heap.size ≤ b) ∧ Gr.Nodup ∧ (∀ k b, b ∈ Gr → b ∉ F' k) ∧
      Inv X g (st.setObj id ob') a w' β' F' (fun b => Lv g F' b ∨ b ∈ Gr) ∧ Rel w' (fun b => Lv g F' b ∨ b ∈ Gr) β' res v Gr ∧ (∀ b ∈ G', b ∈ F' (.o id)) := by
  subst hob
  have hobj := hI.obj id
  obtain ⟨v0, hβ⟩ := Ob.sz hobj hfo
  have hLG : ∀ b, ((Lv g F b ∧ b ∉ F (.o id)) ∨ b ∈ F (.o id)) ↔ Lv g F b := by
    intro b
    constructor
    · rintro (h | h)
      · exact h.1
      · exact .inr ⟨_, h⟩
    · intro h
      by_cases hb : b ∈ F (.o id)
      · exact .inr hb
      · exact .inl ⟨h, hb⟩
  have hargs : Rel w (fun b => (Lv g F b ∧ b ∉ F (.o id)) ∨ b ∈ F (.o id)) (updE noEnv lid (v0, (st.obj id).szOf)) (.tup ps) (.tuple (xs.map a.eval ++ #[])) [] := by
    obtain ⟨e1, e2⟩ := lendPs_get hps
    have := Rel.tup (w := w) (L := fun b => (Lv g F b ∧ b ∉ F (.o id)) ∨ b ∈ F (.o id)) (updE noEnv lid (v0, (st.obj id).szOf)) ps (xs.map a.eval ++ #[]) (fun _ => []) (by simp [e1]) (by
      intro k y u hy hu
      obtain ⟨x, hx, hl⟩ := e2 k y hy
      obtain ⟨G, hG⟩ := evT_ok hI xs.toList k x u hx (by simpa using hu)
      exact (lendP_ok hl hβ hG).sub fun b _ hb => (hLG b).1 hb)
    rwa [foots_nil (fun _ _ => rfl)] at this
  have hobG : ObRel w (fun b => (Lv g F b ∧ b ∉ F (.o id)) ∨ b ∈ F (.o id)) (updE noEnv lid (v0, (st.obj id).szOf)) lid (st.obj id) (F (.o id)) := by
    have h1 : ObRel w (Lv g F) (updE noEnv lid (v0, (st.obj id).szOf)) lid (st.obj id) (F (.o id)) := by
      have hγ : updE noEnv lid (v0, (st.obj id).szOf) lid = some (v0, (st.obj id).szOf) := by simp [updE]
      revert hobj hβ hfo hγ
      generalize st.obj id = ob0
      generalize updE noEnv lid (v0, ob0.szOf) = γ
      intro hfo hobj hβ hγ
      cases ob0 with
      | vec sz ex xs =>
        obtain ⟨v', hv', hr⟩ := hobj
        rw [hβ] at hv'
        cases hv'
        exact ⟨_, hγ, hr.env γ rfl⟩
      | box cs =>
        obtain ⟨b, arr, T, lo, hi, Fs, e, hb, hfz, hs, hr, hF⟩ := hobj
        rw [hβ] at e
        cases e
        exact ⟨b, arr, T, lo, hi, Fs, hγ, hb, hfz, hs, fun k x u hx hu => (hr k x u hx hu).env γ (AV.freeL_get hfo k x hx), hF⟩
      | _ => cases hfo
    exact h1.keep (M := fun _ => False) (fun _ _ _ => rfl) (fun _ h => h.elim) (fun b _ hb => (hLG b).1 hb) (fun _ _ h => h)
  have hLs : ∀ b, (Lv g F b ∧ b ∉ F (.o id)) → b < w.heap.size ∧ b ∉ F (.o id) := by
    rintro b ⟨hb | ⟨k, hb⟩, hn⟩
    · exact ⟨Nat.lt_of_lt_of_le (g.hL b hb).1 hI.kp.size, hn⟩
    · exact ⟨hI.lt k b hb, hn⟩
  refine (hct.calls w (fun b => Lv g F b ∧ b ∉ F (.o id)) _ v0 (F (.o id)) hLs (hI.sep.nodup _) hargs hobG).mono ?_
  rintro e w' ⟨v, Gr, G', rfl, hk, hn, hr', hRes, hOb'⟩
  have hnn := List.nodup_append.1 hn
  have hold : ∀ b ∈ Gr ++ G', ∀ kk, kk ≠ .o id → b ∉ F kk := by
    intro b hb kk hkk hbF
    rcases hr' b hb with h | h
    · exact hI.sep.apart _ _ b hkk hbF h
    · have := hI.lt kk b hbF; omega
  have hsub : ∀ b, (Lv g (updF F (.o id) G') b ∨ b ∈ Gr) → ((Lv g F b ∧ b ∉ F (.o id)) ∨ b ∈ Gr ++ G') ∨ (g.L0 b) := by
    rintro b (hb | hb)
    · rcases hb with hb | ⟨k, hb⟩
      · exact .inr hb
      · by_cases e : k = .o id
        · subst e; rw [updF_same] at hb; exact .inl (.inr (List.mem_append_right _ hb))
        · rw [updF_ne _ e] at hb
          exact .inl (.inl ⟨.inr ⟨k, hb⟩, fun h => hI.sep.apart _ _ b e hb h⟩)
    · exact .inl (.inr (List.mem_append_left _ hb))
  have hsub' : ∀ b, (Lv g (updF F (.o id) G') b ∨ b ∈ Gr) → ((Lv g F b ∧ b ∉ F (.o id)) ∨ b ∈ Gr ++ G') := by
    intro b hb
    rcases hsub b hb with h | h
    · exact h
    · refine .inl ⟨.inl h, fun h' => ?_⟩
      rcases hI.range _ b h' with h2 | h2
      · exact (g.hL b h).2 h2
      · have := (g.hL b h).1; omega
  have hGr0 : ∀ b ∈ Gr ++ G', b ∈ g.F0 ∨ g.w0.heap.size ≤ b := by
    intro b hb
    rcases hr' b hb with h | h
    · exact hI.range _ b h
    · exact .inr (Nat.le_trans hI.kp.size h)
  refine ⟨v, Gr, G', β, updF F (.o id) G', rfl, fun b hb => hr' b (List.mem_append_left _ hb), hnn.1, ?_, ?_, ?_, ?_⟩
  · intro kk b hb hbF
    by_cases e : kk = .o id
    · subst e; rw [updF_same] at hbF; exact hnn.2.2 b hb b hbF rfl
    · rw [updF_ne _ e] at hbF; exact hold b (List.mem_append_left _ hb) kk e hbF
  · have h1 : Inv X g (st.setObj id .gone) a w β (updF F (.o id) []) (Lv g F) := hI.setOb id .gone rfl (by simp) (by simp) (by simp)
    have h2 : Inv X g (st.setObj id .gone) a w' β (updF F (.o id) []) (fun b => Lv g (updF F (.o id) G') b ∨ b ∈ Gr) := by
      refine h1.world (M := fun b => b ∈ F (.o id)) (hI.kp.trans hk (fun b hb => hI.range _ b hb)) (fun b hb hM => hk.block b hb hM) (fun b hb => .inr ⟨_, hb⟩) ?_ ?_
      · intro b hb h
        rcases hsub' b h with h | h
        · exact h.1
        · rcases hr' b h with h | h
          · exact .inr ⟨_, h⟩
          · omega
      · rintro kk b hb hM
        by_cases e : kk = .o id
        · subst e; rw [updF_same] at hb; simp at hb
        · rw [updF_ne _ e] at hb; exact hI.sep.apart _ _ b e hb hM
    have hobn : ObRel w' (fun b => Lv g (updF F (.o id) G') b ∨ b ∈ Gr) β id ob' G' := by
      have h3 : ObRel w' (fun b => Lv g (updF F (.o id) G') b ∨ b ∈ Gr) (updE noEnv lid (v0, ob'.szOf)) lid ob' G' :=
        hOb'.keep (M := fun _ => False) (fun _ _ _ => rfl) (fun _ h => h.elim) (fun b _ hb => hsub' b hb) (fun _ _ h => h)
      have hγ : updE noEnv lid (v0, ob'.szOf) lid = some (v0, ob'.szOf) := by simp [updE]
      have hβ2 : β id = some (v0, ob'.szOf) := by rw [hct.sz]; exact hβ
      have hf' := hct.free'
      revert h3 hγ hβ2 hf'
      clear hOb' hct
      generalize (updE noEnv lid (v0, ob'.szOf)) = γ
      intro h3 hγ hβ2 hf'
      cases ob' with
      | vec sz ex xs =>
        obtain ⟨v', hv', hr⟩ := h3
        rw [hγ] at hv'
        cases hv'
        exact ⟨_, hβ2, hr.env β rfl⟩
      | box cs =>
        obtain ⟨b, arr, T, lo, hi, Fs, e, hb, hfz, hs, hr, hF⟩ := h3
        rw [hγ] at e
        cases e
        exact ⟨b, arr, T, lo, hi, Fs, hβ2, hb, hfz, hs, fun k x u hx hu => (hr k x u hx hu).env β (AV.freeL_get hf' k x hx), hF⟩
      | _ => cases hf'
    have h3 := h2.setOb id ob' (G := G') hobn hnn.2.1 (by
      intro kk e b hb hb'
      rw [updF_ne _ e] at hb'
      exact hold b (List.mem_append_right _ hb) kk e hb') (fun b hb => hGr0 b (List.mem_append_right _ hb))
    have e1 : updF (updF F (.o id) []) (.o id) G' = updF F (.o id) G' := by
      funext kk
      by_cases e : kk = .o id
      · subst e; rw [updF_same, updF_same]
      · rw [updF_ne _ e, updF_ne _ e, updF_ne _ e]
    rw [e1] at h3
    refine ⟨h3.defers, h3.size, h3.kp, h3.sep, h3.range, h3.slot, fun id' => ?_, h3.pin⟩
    have := h3.obj id'
    rw [St.obj_setObj] at this ⊢
    by_cases e : id = id'
    · rw [if_pos e] at this ⊢; exact this
    · rw [if_neg e] at this ⊢
      rw [St.obj_setObj, if_neg e] at this
      exact this
  · exact (hRes.of_noEnv rfl β).sub fun b _ hb => hsub' b hb
  · intro b hb; rw [updF_same]; exact hb
theorem Run.callG {d : Nat} {fo : Operand} {xs : Array Operand} {ts : Array TypeId} {f : FuncId} (id : Id) {ps qs : List AV} {ob ob' : Ob} {res : AV}
    (ho : ops[i]? = some o) (hg : guardOf ops st o = some true) (hd : o.dst = some d) (hop : o.op = .call ⟨.value fo, xs, ts⟩) (hf : st.ev fo = .fn f [])
    (hob : st.obj id = ob) (hfo : ob.free = true) (hps : lendPs id (xs.toList.map st.ev) = some ps) (hct : CtG X.P f qs ob res ob') (hqs : ps = qs)
    (hdn : (Nat.blt d X.fn.ntmps && !(X.pins.contains d)) = true) (h : Run X g (.inRegion ops rest :: k) ((st.setObj id ob').put d res)) : Run X g (.inRegion ops (i :: rest) :: k) st := by
  subst hqs
  simp only [Bool.and_eq_true, Bool.not_eq_true'] at hdn
  refine Run.opc ho (fun a w hI => guardOf_ok hg a w hI) ?_ h
  rintro hX a w ⟨β, F, hI⟩
  have hfr := ev_rel hI fo (by rw [hf]; rfl)
  rw [hf] at hfr
  generalize hfv : a.eval fo = fv at hfr
  cases hfr with
  | fn _ _ _ vals hlv hr =>
  obtain rfl : vals = #[] := by
    have : vals.size = 0 := by simpa using hlv.symm
    exact Array.eq_empty_of_size_eq_zero this
  refine ⟨f, xs.map a.eval ++ #[], w, run_call hop hfv hct.enters, ?_⟩
  refine (hct.called hX hI hob hfo hps).mono ?_
  rintro e w' ⟨v, Gr, G', β', F', rfl, hr1, hr2, hr3, hI', hR, _⟩
  refine ⟨v, rfl, ?_⟩
  rw [hd]
  have hGrr : ∀ b ∈ Gr, b ∈ g.F0 ∨ g.w0.heap.size ≤ b := by
    intro b hb
    rcases hr1 b hb with h | h
    · exact hI.range _ b h
    · exact .inr (Nat.le_trans hI.kp.size h)
  refine ⟨_, _, (hI'.put (blt_lt hdn.1) (contains_iff hdn.2) hR hr2 (fun kk _ b hb => hr3 kk b hb) hGrr).setL fun b _ hb => ?_⟩
  refine Lv_sub (L := fun b => Lv g F' b ∨ b ∈ Gr) hb (fun kk hk' => ?_) (fun h => Or.inl (Or.inl h))
  by_cases e : kk = .s d
  · subst e; rw [updF_same] at hk'; exact .inr hk'
  · rw [updF_ne _ e] at hk'; exact .inl (Lv_of hk')
end
end Go.Av

/- A region whose order is drawn: its first operations only read, in whatever order; the others wait for them all. -/
namespace Go
def Region.Closed (md : Region.Mode) (ops : Array Oper) (listed : Array Bool) : Prop :=
  ∀ i o, ops[i]? = some o → listed.getD i true = true → ∀ e ∈ o.after, Region.binds md e = true → listed.getD e.on true = true
def Region.waits (md : Region.Mode) (ops : Array Oper) : Nat → Nat → Nat → Bool
  | 0, _, _ => false
  | f + 1, j, i => match ops[j]? with
    | some o => o.after.toList.any fun e => Region.binds md e && (Nat.beq e.on i || Region.waits md ops f e.on i)
    | none => false
def Region.tailB (md : Region.Mode) (ops : Array Oper) (m : Nat) : Bool :=
  (List.range (ops.size - m)).all fun j => (List.range m).all fun i => Region.waits md ops ops.size (m + j) i
section
variable {P : Program} {md : Region.Mode} {ops : Array Oper} {C : World → Prop}
theorem Region.waits_listed {listed : Array Bool} (hc : Region.Closed md ops listed) : ∀ (f j i : Nat), Region.waits md ops f j i = true → (∀ o, ops[j]? = some o → ∀ e ∈ o.after, Region.binds md e = true → listed.getD e.on true = true) → listed.getD i true = true
  | 0, _, _, h, _ => by cases h
  | f + 1, j, i, h, hj => by
    unfold Region.waits at h
    split at h
    · rename_i o ho
      obtain ⟨e, he, h⟩ := List.any_eq_true.1 h
      simp only [Bool.and_eq_true, Bool.or_eq_true] at h
      obtain ⟨hb, h⟩ := h
      have hl := hj o ho e (by simpa using he) hb
      rcases h with h | h
      · rw [← Nat.eq_of_beq_eq_true h]; exact hl
      · exact Region.waits_listed hc f e.on i h fun o' ho' e' he' hb' => hc e.on o' ho' hl e' he' hb'
    · cases h
theorem Region.tail_cov {m : Nat} (hT : Region.tailB md ops m = true) {listed : Array Bool} (hc : Region.Closed md ops listed) {i j : Nat} (hi : i < m) (hiu : listed.getD i true = false)
    (hj : j ∈ Region.ready md ops listed) : j < m := by
  apply Classical.byContradiction
  intro hge
  obtain ⟨hju, o, ho, hall⟩ := mem_ready.1 hj
  have hjs : j < ops.size := (Array.getElem?_eq_some_iff.1 ho).1
  have h1 := List.all_eq_true.1 (List.all_eq_true.1 hT (j - m) (List.mem_range.2 (by omega))) i (List.mem_range.2 hi)
  rw [show m + (j - m) = j by omega] at h1
  have := Region.waits_listed hc _ _ _ h1 (fun o' ho' e he hb => by
    rw [ho] at ho'
    cases ho'
    exact Av.getD_ft (hall e he hb))
  rw [hiu] at this
  cases this
theorem getD_set' {listed : Array Bool} {i : Nat} (hi : i < listed.size) (j : Nat) : (listed.setIfInBounds i true).getD j true = (j == i || listed.getD j true) := by
  by_cases e : i = j
  · subst e
    simp [hi]
  · rw [getD_set_ne true e]
    have : (j == i) = false := by simpa using fun h => e h.symm
    rw [this, Bool.false_or]
theorem Region.Closed.set {listed : Array Bool} (hc : Region.Closed md ops listed) (hs : listed.size = ops.size) {i : Nat} (hi : i ∈ Region.ready md ops listed) : Region.Closed md ops (listed.setIfInBounds i true) := by
  obtain ⟨hiu, o, ho, hall⟩ := mem_ready.1 hi
  have his : i < ops.size := (Array.getElem?_eq_some_iff.1 ho).1
  intro j oj hoj hj e he hb
  rw [getD_set' (by omega)] at hj ⊢
  rw [Bool.or_eq_true] at hj ⊢
  rcases hj with hj | hj
  · have : j = i := by simpa using hj
    subst this
    rw [ho] at hoj
    cases hoj
    exact .inr (Av.getD_ft (hall e he hb))
  · exact .inr (hc j oj hoj hj e he hb)
def Region.cnt (m : Nat) (listed : Array Bool) : Nat := (List.range m).countP fun j => listed.getD j true
theorem countP_add {D : Nat → Bool} {i : Nat} (hi : D i = false) : ∀ m, (List.range m).countP (fun j => j == i || D j) = (List.range m).countP D + (if i < m then 1 else 0) := by
  intro m
  induction m with
  | zero => simp
  | succ m ih =>
    rw [List.range_succ, List.countP_append, List.countP_append, ih]
    simp only [List.countP_cons, List.countP_nil]
    by_cases e : m = i
    · subst e
      simp [hi]
    · have : (m == i) = false := by simpa using e
      rw [this, Bool.false_or]
      by_cases h : i < m
      · rw [if_pos h, if_pos (show i < m + 1 by omega)]; omega
      · rw [if_neg h, if_neg (show ¬ i < m + 1 by omega)]; omega
theorem Region.cnt_set {m i : Nat} {listed : Array Bool} (his : i < listed.size) (hi : i < m) (hiu : listed.getD i true = false) : Region.cnt m (listed.setIfInBounds i true) = Region.cnt m listed + 1 := by
  unfold Region.cnt
  rw [show (fun j => (listed.setIfInBounds i true).getD j true) = fun j => j == i || listed.getD j true from funext (getD_set' his), countP_add hiu, if_pos hi]
theorem Region.cnt_le (m : Nat) (listed : Array Bool) : Region.cnt m listed ≤ m := by
  unfold Region.cnt
  refine Nat.le_trans List.countP_le_length ?_
  simp
def wpAnyT (P : Program) (md : Region.Mode) (ops : Array Oper) (C : World → Prop) (Q : Act → Prop) : Nat → Array Bool → Act → Prop
  | 0, _, a => Q a
  | fuel + 1, listed, a => ∀ i ∈ Region.ready md ops listed, qOp P ops C i (wpAnyT P md ops C Q fuel (listed.setIfInBounds i true)) a
theorem ready_size {listed : Array Bool} {i : Nat} (hi : i ∈ Region.ready md ops listed) : i < ops.size := by
  obtain ⟨_, o, ho, _⟩ := mem_ready.1 hi
  exact (Array.getElem?_eq_some_iff.1 ho).1
theorem wpAnyT_first {m : Nat} (hT : Region.tailB md ops m = true) {Q : Act → Prop} {i : Nat} {oi : Oper} {v : Value} (hi : ops[i]? = some oi) (him : i < m) (hsel : ∀ (j : Nat) (o : Oper) cs b, ops[j]? = some o → o.op ≠ .select cs b) :
    ∀ (fuel : Nat) (listed : Array Bool) (a : Act), listed.size = ops.size → Region.Closed md ops listed → Region.cnt m listed + (fuel + 1) = m →
      (∀ j oj, ops[j]? = some oj → j ≠ i → j < m → listed.getD j true = false → (∀ e ∈ oj.after, Region.binds md e = true → e.on ≠ i) → oi.apart ops oj = true) →
      i ∈ Region.ready md ops listed → YieldsIn P ops C oi v a →
      wpAnyT P md ops C Q fuel (listed.setIfInBounds i true) (a.put oi.dst v) → wpAnyT P md ops C Q (fuel + 1) listed a := by
  intro fuel
  induction fuel with
  | zero =>
    intro listed a hsz hcl hcn _ hr hy H j hj
    by_cases hji : j = i
    · subst hji; exact hy.qOp hi H
    · exfalso
      have hiu := (mem_ready.1 hr).1
      have hju := (mem_ready.1 hj).1
      have hjm := Region.tail_cov hT hcl him hiu hj
      have h1 := Region.cnt_set (m := m) (by rw [hsz]; exact ready_size hr) him hiu
      have h2 := Region.cnt_set (m := m) (listed := listed.setIfInBounds i true) (i := j) (by simp; rw [hsz]; exact ready_size hj) hjm (by rw [getD_set_ne true (Ne.symm hji)]; exact hju)
      have := Region.cnt_le m ((listed.setIfInBounds i true).setIfInBounds j true)
      omega
  | succ fuel ih =>
    intro listed a hsz hcl hcn hfree hr hy H j hj
    by_cases hji : j = i
    · subst hji; exact hy.qOp hi H
    · have hiu := (mem_ready.1 hr).1
      have hjm := Region.tail_cov hT hcl him hiu hj
      have h1 := H j (ready_mono hj hji)
      obtain ⟨hjun, oj, hoj, hall⟩ := mem_ready.1 hj
      have hnot : ∀ e ∈ oj.after, Region.binds md e = true → e.on ≠ i := fun e he hb heq => by
        have h1 := hall e he hb
        have h0 := (mem_ready.1 hr).1
        rw [heq] at h1
        rcases Nat.lt_or_ge i listed.size with h' | h'
        · simp [h'] at h0 h1; rw [h0] at h1; cases h1
        · simp [Array.getElem?_eq_none h'] at h1
      have h2 := qOp_put hoj (hfree j oj hoj hji hjm hjun hnot) (fun cs b => hsel i oi cs b hi) (fun cs b => hsel j oj cs b hoj) hy h1
      have hfree' : ∀ k ok, ops[k]? = some ok → k ≠ i → k < m → (listed.setIfInBounds j true).getD k true = false →
          (∀ e ∈ ok.after, Region.binds md e = true → e.on ≠ i) → oi.apart ops ok = true := fun k ok hk hki hkm hun hno => by
        refine hfree k ok hk hki hkm ?_ hno
        by_cases hjk : j = k
        · subst hjk; exact hjun
        · rw [getD_set_ne true hjk] at hun; exact hun
      refine qOp_mono (fun a' h3 => ih (listed.setIfInBounds j true) a' (by simpa using hsz) (hcl.set hsz hj) ?_ hfree' (ready_mono hr (Ne.symm hji)) h3.1 ?_) h2
      · rw [Region.cnt_set (by rw [hsz]; exact ready_size hj) hjm hjun]; omega
      · rw [Array.setIfInBounds_comm _ _ hji]
        exact h3.2
def Region.freeM (md : Region.Mode) (ops : Array Oper) (m : Nat) (listed : Array Bool) (i : Nat) : Bool :=
  match ops[i]? with
  | none => false
  | some oi => (List.range m).all fun j => Nat.beq j i || listed.getD j true || match ops[j]? with
      | some oj => oj.after.any (fun e => Region.binds md e && e.on == i) || oi.apart ops oj
      | none => true
theorem Region.freeM_spec {m i : Nat} {oi : Oper} {listed : Array Bool} (hi : ops[i]? = some oi) (h : Region.freeM md ops m listed i = true) (j : Nat) (oj : Oper)
    (hj : ops[j]? = some oj) (hne : j ≠ i) (hjm : j < m) (hun : listed.getD j true = false) (hno : ∀ e ∈ oj.after, Region.binds md e = true → e.on ≠ i) :
    oi.apart ops oj = true := by
  simp only [Region.freeM, hi, List.all_eq_true, List.mem_range] at h
  have h1 := h j hjm
  have hb : Nat.beq j i = false := by cases hb : Nat.beq j i; rfl; exact absurd (Nat.eq_of_beq_eq_true hb) hne
  simp only [hj, Bool.or_eq_true, hb, Bool.false_eq_true, false_or, hun] at h1
  rcases h1 with h1 | h1
  · obtain ⟨e, he, hb⟩ := Array.any_eq_true'.1 h1
    simp only [Bool.and_eq_true, beq_iff_eq] at hb
    exact absurd hb.2 (hno e he hb.1)
  · exact h1
def Region.lexFromT (md : Region.Mode) (ops : Array Oper) (m : Nat) : Nat → Nat → Array Bool → Bool
  | 0, k, _ => Nat.beq k m
  | fuel + 1, k, listed => (Region.ready md ops listed).contains k && Region.freeM md ops m listed k && Nat.blt k m && Region.lexFromT md ops m fuel (k + 1) (listed.setIfInBounds k true)
def Region.lexT (md : Region.Mode) (ops : Array Oper) (m : Nat) : Bool := Region.noSelect ops && Region.tailB md ops m && Region.lexFromT md ops m m 0 (Array.replicate ops.size false)
theorem wpAnyT_lex {m : Nat} (hT : Region.tailB md ops m = true) {Q : Act → Prop} (hs : Region.noSelect ops = true) : ∀ (l : List Oper) (k : Nat) (listed : Array Bool) (a : Act), listed.size = ops.size → Region.Closed md ops listed →
    Region.cnt m listed + l.length = m → (∀ j o, l[j]? = some o → ops[k + j]? = some o) →
    Region.lexFromT md ops m l.length k listed = true → wpQuiet P ops C Q l a → wpAnyT P md ops C Q l.length listed a
  | [], _, _, _, _, _, _, _, hB, h => h
  | o :: l, k, listed, a, hsz, hcl, hcn, hl, hB, h => by
    have h0 : ops[k]? = some o := by simpa using hl 0 o rfl
    simp only [List.length_cons, Region.lexFromT, Bool.and_eq_true] at hB
    obtain ⟨⟨⟨hr, hf⟩, hkm⟩, hB'⟩ := hB
    have hkm : k < m := Nat.le_of_ble_eq_true hkm
    have hr : k ∈ Region.ready md ops listed := by simpa using hr
    have hst : qOp P ops C k (wpQuiet P ops C Q l) a := by unfold qOp; simp only [h0]; exact h
    obtain ⟨v, hy, hK⟩ := yieldsIn_of_qOp h0 hst
    simp only [List.length_cons] at hcn
    refine wpAnyT_first hT h0 hkm (Region.noSelect_spec hs) l.length listed a hsz hcl hcn (Region.freeM_spec h0 hf) hr hy ?_
    refine wpAnyT_lex hT hs l (k + 1) _ _ (by simpa using hsz) (hcl.set hsz hr) ?_ (fun j o' ho' => by have := hl (j + 1) o' (by simpa using ho'); simpa [Nat.add_assoc, Nat.add_comm 1 j] using this) hB' hK
    rw [Region.cnt_set (by rw [hsz]; exact ready_size hr) hkm (mem_ready.1 hr).1]
    omega
theorem qOp_step {i : Nat} {rest : List Nat} {K : Act → Prop} {a : Act} {w : World} {b : Frame} {cs : List Frame} {k : List Item} (hC : C w) (h : qOp P ops C i K a) :
    ∃ a' w', C w' ∧ K a' ∧ Steps P (lone (b.atR a (.inRegion ops (i :: rest) :: k)) cs w) (lone (b.atR a' (.inRegion ops rest :: k)) cs w') := by
  unfold qOp at h
  split at h
  · rename_i ho
    refine ⟨a, w, hC, h, .head (stepR_op_skip (by simp [ho])) ?_⟩
    simp only [ho, Option.bind_none]
    exact .refl _ _
  · rename_i o ho
    split at h
    · rename_i hw
      obtain ⟨v, h1, h2⟩ := h
      have h3 := h1 w hC
      unfold Oper.quietAt at h3
      have hg := stepGR_op (P := P) (b := b) (k := k) (cs := cs) (w := w) (rest := rest) ho hw
      have hfin := Av.finish_op (b := b) (a := a) (k := k) (rest := rest) ho v
      cases hr : (execOp a.eval o).run P w with
      | ok n w' =>
        rw [hr] at h3
        cases n <;> simp only [Oper.quietUpon] at h3
        case value u =>
          obtain ⟨rfl, rfl⟩ := h3
          refine ⟨_, _, hC, h2, .head ?_ (.refl _ _)⟩
          refine step_lone_go ?_
          rw [Oper.semAt_eq _ _ _ (Av.not_defer_of ⟨_, _, hr, by simp⟩)] at hg
          rw [← hfin, hg]
          simp [stepG.apply, hr]
        case skip =>
          obtain ⟨rfl, rfl⟩ := h3
          refine ⟨_, _, hC, h2, .head ?_ (.refl _ _)⟩
          refine step_lone_go ?_
          rw [Oper.semAt_eq _ _ _ (Av.not_defer_of ⟨_, _, hr, by simp⟩)] at hg
          rw [← hfin, hg]
          simp [stepG.apply, hr]
        case enter f args =>
          obtain ⟨rfl, hc⟩ := h3
          rw [Oper.semAt_eq _ _ _ (Av.not_defer_of ⟨_, _, hr, by simp⟩)] at hg
          obtain ⟨e, w2, fr2, ⟨rfl, hI'⟩, hsteps, _, hleave⟩ := hc (b.atR a (.inRegion ops (i :: rest) :: k) :: cs)
          have henter : step P (lone (b.atR a (.inRegion ops (i :: rest) :: k)) cs w') = .next (lone (Frame.enter P f args .normal) (b.atR a (.inRegion ops (i :: rest) :: k) :: cs) w') :=
            step_lone_go (by rw [hg]; simp [stepG.apply, hr, Frame.atR])
          refine ⟨_, _, hI', h2, .head henter (Steps.trans hsteps (.head ?_ (.refl _ _)))⟩
          rw [← hfin]
          exact step_leave_returned hleave
      | halt x w' => rw [hr] at h3; simp only [Oper.quietUpon] at h3
    · rename_i hw
      refine ⟨a.put o.dst undef, w, hC, h, .head (stepR_op_skip (by simp [ho, hw])) ?_⟩
      simp only [ho, Option.bind_some]
      exact .refl _ _
end
end Go
namespace Go.Av
open Go Go.RowKit
def upto (n m : Nat) : Array Bool := ((List.range n).map fun j => Nat.blt j m).toArray
section
variable {X : Fx} {g : Gx} {st : St} {k : List Item} {ops : Array Oper}
theorem front_run {m : Nat} {b : Frame} {cs : List Frame} {C : World → Prop} {Q : Act → Prop} {P : Program} (hd : downB .any ops = true) (hT : Region.tailB .any ops m = true) (hm : m ≤ ops.size) :
    ∀ (fuel n : Nat) (listed : Array Bool) (a : Act) (w : World), listed.size = ops.size → Region.Closed .any ops listed → (∀ j, m ≤ j → j < ops.size → listed.getD j true = false) → Region.cnt m listed + fuel = m → n + Region.cnt m listed = ops.size →
      C w → wpAnyT P .any ops C Q fuel listed a → ∀ l ∈ ords .any ops n listed, ∃ l' ∈ ords .any ops (ops.size - m) (upto ops.size m), ∃ a' w', C w' ∧ Q a' ∧
        Steps P (lone (b.atR a (.inRegion ops l :: k)) cs w) (lone (b.atR a' (.inRegion ops l' :: k)) cs w') := by
  intro fuel
  induction fuel with
  | zero =>
    intro n listed a w hsz hcl htl hcn hn hC h l hl
    have hall : ∀ j, j < m → listed.getD j true = true := by
      intro j hj
      have h1 : Region.cnt m listed = (List.range m).length := by rw [List.length_range]; omega
      have := List.countP_eq_length.1 h1 j (List.mem_range.2 hj)
      exact this
    have he : listed = upto ops.size m := by
      refine Array.ext (by simp [upto, hsz]) fun j h1 h2 => ?_
      have e1 : listed.getD j true = listed[j] := by simp [h1]
      rw [← e1]
      have e2 : (upto ops.size m)[j] = Nat.blt j m := by simp [upto]
      rw [e2]
      by_cases hj : j < m
      · rw [hall j hj, show Nat.blt j m = true from Nat.ble_eq_true_of_le hj]
      · rw [htl j (by omega) (by omega)]
        cases hb : Nat.blt j m with
        | false => rfl
        | true => exact absurd (blt_lt hb) hj
    have hn' : n = ops.size - m := by omega
    subst hn'
    rw [he] at hl
    exact ⟨l, hl, a, w, hC, h, .refl _ _⟩
  | succ fuel ih =>
    intro n listed a w hsz hcl htl hcn hn hC h l hl
    have hex : ∃ i, i < m ∧ listed.getD i true = false := by
      apply Classical.byContradiction
      intro hno
      have : Region.cnt m listed = (List.range m).length := by
        refine List.countP_eq_length.2 fun j hj => ?_
        cases hx : listed.getD j true with
        | true => rfl
        | false => exact absurd ⟨j, List.mem_range.1 hj, hx⟩ hno
      rw [List.length_range] at this
      omega
    obtain ⟨i0, hi0, hi0u⟩ := hex
    have hn0 : ∃ n', n = n' + 1 := ⟨n - 1, by have := Region.cnt_le m listed; omega⟩
    obtain ⟨n', rfl⟩ := hn0
    simp only [ords] at hl
    split at hl
    · rename_i hr
      have := ready_nil hd hsz hr i0
      rw [hi0u] at this
      cases this
    · rename_i rs hr
      obtain ⟨i, hi, hl⟩ := List.mem_flatMap.1 hl
      obtain ⟨l', hl', rfl⟩ := List.mem_map.1 hl
      have him := Region.tail_cov hT hcl hi0 hi0u hi
      have his := ready_size hi
      obtain ⟨a', w', hC', hK, hst⟩ := qOp_step (b := b) (cs := cs) (k := k) (rest := l') hC (h i hi)
      have hcs := Region.cnt_set (m := m) (by rw [hsz]; exact his) him (mem_ready.1 hi).1
      obtain ⟨l2, hl2, a2, w2, hC2, hQ2, hst2⟩ := ih n' (listed.setIfInBounds i true) a' w' (by simpa using hsz) (hcl.set hsz hi) (fun j hj hjs => by rw [getD_set_ne true (by omega)]; exact htl j hj hjs) (by omega) (by omega) hC' hK l' hl'
      exact ⟨l2, hl2, a2, w2, hC2, hQ2, Steps.trans hst hst2⟩
theorem Run.forget {K : List Item} (d : Nat) (h : Run X g K (st.put d .top)) : Run X g K st :=
  Run.le (st' := st.put d .top) ⟨fun k => by
    rw [St.get_put]
    split
    · exact .inl rfl
    · exact .inr rfl, fun id => .inr rfl⟩ h
theorem Run.drawQ0 {id : Nat} (m : Nat) (L : List (List Nat)) (hm : X.P.follows .mixedOrders = true) (hd : downB .any ops = true) (hB : Region.lexT .any ops m = true) (hms : Nat.ble m ops.size = true) (hL : ords .any ops (ops.size - m) (upto ops.size m) = L)
    (h : Quiet X g ops (fun st' => AllL (fun l => Run X g (.inRegion ops l :: k) st') L) (ops.toList.take m) st) : Run X g (.code (.region id ops true) :: k) st := by
  intro hX a w b cs hI hf hk
  have hms := Nat.le_of_ble_eq_true hms
  simp only [Region.lexT, Bool.and_eq_true] at hB
  obtain ⟨⟨hns, hT⟩, hX'⟩ := hB
  have hI := hI.draw
  obtain ⟨β, F, hI⟩ := hI
  have hq := h hX a _ β F hI
  generalize hw0 : ({ w with drawn := w.drawn + 1 } : World) = w0 at hI hq
  have hun : ∀ j, j < ops.size → (Array.replicate ops.size false).getD j true = false := fun j hj => by simp [hj]
  have hc0 : Region.Closed .any ops (Array.replicate ops.size false) := by
    intro i o ho hl
    rw [hun i (Array.getElem?_eq_some_iff.1 ho).1] at hl
    cases hl
  have hcn : Region.cnt m (Array.replicate ops.size false) = 0 := by
    unfold Region.cnt
    refine List.countP_eq_zero.2 fun j hj => ?_
    rw [hun j (by have := List.mem_range.1 hj; omega)]
    simp
  have hlen : (ops.toList.take m).length = m := by simp; omega
  have hwp := wpAnyT_lex (P := X.P) (C := fun w' => Kp [] w0 w') hT hns (ops.toList.take m) 0 (Array.replicate ops.size false) a (by simp) hc0 (by rw [hcn, hlen]; omega) (by
    intro j x hx
    rw [List.getElem?_take] at hx
    split at hx
    · simpa using hx
    · cases hx) (by rw [hlen]; exact hX') hq
  rw [hlen] at hwp
  have hmem : Region.schedule (X.P.follows .mixedOrders) ops (w.tape w.drawn (.order b.fn id)) ∈ ords .any ops ops.size (Array.replicate ops.size false) := by
    simp only [Region.schedule, hm, Bool.true_or, if_true]
    exact linearise_mem .any ops ops.size _ _
  obtain ⟨l', hl', a', w', hC', ⟨st', β', F', hall, hI'⟩, hst⟩ := front_run (b := b) (cs := cs) (k := k) hd hT hms m ops.size (Array.replicate ops.size false) a w0 (by simp) hc0 (fun j hj hjs => hun j hjs) (by rw [hcn]; omega) (by rw [hcn]; omega)
    ⟨rfl, rfl, rfl, Nat.le_refl _, fun _ _ _ => rfl⟩ hwp _ hmem
  rw [hL] at hl'
  have hI2 : SR X g st' a' w' := ⟨β', F', hI'.world (M := fun _ => False) (hI.kp.trans hC' (by simp)) (fun b hb _ => hC'.block b hb (by simp)) (fun _ h => h.elim) (fun _ _ h => h) (fun _ _ _ h => h)⟩
  obtain ⟨v, w2, fr, hp, hst2⟩ := AllL.mem hall l' hl' hX a' w' b cs hI2 hf hk
  refine ⟨v, w2, fr, hp, .head stepR_region_draw (Steps.trans ?_ hst2)⟩
  rw [hw0]
  exact hst
theorem Run.drawQ1 {id : Nat} (m : Nat) (l : List Nat) (hm : X.P.follows .mixedOrders = true) (hd : downB .any ops = true) (hB : Region.lexT .any ops m = true) (hms : Nat.ble m ops.size = true) (hL : ords .any ops (ops.size - m) (upto ops.size m) = [l])
    (h : Quiet X g ops (fun st' => Run X g (.inRegion ops l :: k) st') (ops.toList.take m) st) : Run X g (.code (.region id ops true) :: k) st :=
  Run.drawQ0 m [l] hm hd hB hms hL (Quiet.mono (fun _ h => ⟨h, trivial⟩) h)
end
section
variable {X : Fx} {g : Gx} {st st' : St} {a : Act} {w w' : World} {β β' : Env} {F : Key → List Nat} {L : Nat → Prop} {K : List Item} {k : List Item}
theorem SR.unBox {c sz : Nat} {ex : Bool} {cs xs : List AV} {id0 id : Id} (hd : st.obj id0 = .box cs) (hc : cs[c]? = some (.own sz ex xs)) (hn : st.nrf id = true) (hii : id ≠ id0) (h : SR X g st a w) :
    SR X g ((st.setObj id (.vec sz ex xs)).setObj id0 (.box (cs.set c (.vec id 0 xs.length)))) a w := by
  obtain ⟨β, F, h⟩ := h
  have hob0 := h.obj id0
  rw [hd] at hob0
  obtain ⟨b, arr, T, lo, hi, Fs, hβ0, hb, hfz, hs, hrr, hF⟩ := hob0
  have hnd := h.sep.nodup (.o id0)
  rw [hF] at hnd
  obtain ⟨nd1, nd2⟩ := List.nodup_cons.1 hnd
  have hcl : c < cs.length := (List.getElem?_eq_some_iff.1 hc).1
  have hcv : c < arr.size := by omega
  obtain ⟨q1, q2⟩ := foots_drop hcl nd2
  have hown := hrr c _ _ hc (Array.getElem?_eq_getElem hcv)
  have hkn : Key.o id0 ≠ Key.o id := by intro e; injection e with e; exact hii e.symm
  refine h.two (β' := updE β id (arr[c], sz)) (k1 := .o id0) (k2 := .o id) (G1 := b :: foots (updN Fs c []) cs.length) (G2 := Fs c) hkn ?_ (fun x hx => .inl ?_) ?_ ?_ ?_
  · rw [List.cons_append]
    exact List.nodup_cons.2 ⟨fun hm => nd1 (q2 b hm), q1⟩
  · rw [hF]
    rw [List.cons_append] at hx
    rcases List.mem_cons.1 hx with rfl | hx
    · simp
    · exact List.mem_cons_of_mem _ (q2 x hx)
  · intro k x1 x2
    refine ((h.krel k).upd _ hn x2).congr (fun d' e => rfl) (fun id' e => ?_)
    rw [St.obj_set_ne (by rintro rfl; exact x1 e), St.obj_set_ne (by rintro rfl; exact x2 e)]
  · simp only [KRel]
    rw [St.obj_set_same]
    have hβ1 : updE β id (arr[c], sz) id0 = some (.pointer (some ⟨b, 0, none⟩), 0) := by
      rw [← hβ0]
      simp only [updE]
      rw [if_neg (Ne.symm hii)]
    refine ⟨b, arr, T, lo, hi, updN Fs c [], hβ1, hb, hfz, by simpa using hs, ?_, by rw [List.length_set]⟩
    intro k x u hx hu
    by_cases e : k = c
    · subst e
      rw [List.getElem?_set_self hcl] at hx
      cases hx
      rw [Array.getElem?_eq_getElem hcv] at hu
      cases hu
      rw [updN_same]
      exact hown.own_vec id
    · rw [List.getElem?_set_ne (Ne.symm e)] at hx
      rw [updN_ne e]
      refine (hrr k x u hx hu).upd _ _ (AV.nrfL_get (xs := cs) ?_ k x hx)
      have := St.nrf_obj hn id0
      rw [hd] at this
      exact this
  · simp only [KRel]
    rw [St.obj_set_ne (Ne.symm hii), St.obj_set_same]
    exact ⟨arr[c], by simp [updE], hown.upd _ _ (by simp [AV.nrf])⟩
theorem Run.unBox (id0 : Id) (c : Nat) {sz : Nat} {ex : Bool} {cs xs : List AV} (id : Id) (hd : st.obj id0 = .box cs) (hc : cs[c]? = some (.own sz ex xs)) (hn : st.nrf id = true) (hii : id ≠ id0)
    (h : Run X g K ((st.setObj id (.vec sz ex xs)).setObj id0 (.box (cs.set c (.vec id 0 xs.length))))) : Run X g K st := Run.ghost (fun _ _ hI => hI.unBox hd hc hn hii) h
end
def AV.norm : AV → AV
  | .rp cs j => .rp (cs.drop j) 0
  | x => x
theorem Rel.norm {w : World} {L : Nat → Prop} {β : Env} {x : AV} {v : Value} {F : List Nat} (h : Rel w L β x v F) : Rel w L β x.norm v F := by
  cases h with
  | rp β cs j b o vals hL hl hrow hr =>
    refine Rel.rp β (cs.drop j) 0 b (o + j) (vals.drop j) (fun h0 => hL fun e => h0 (by rw [e, List.drop_nil])) (by simp [hl]) ?_ ?_
    · intro k u hk
      rw [List.getElem?_drop] at hk
      have := hrow (j + k) u hk
      rwa [← Nat.add_assoc] at this
    · intro k x u hx hu
      rw [List.getElem?_drop] at hx hu
      exact hr (j + k) x u hx hu
  | top => exact .top _ _
  | lit => exact .lit _ _
  | roNil _ sz ex A c hc he => exact .roNil _ _ _ _ _ hc he
  | ro _ sz ex xs b o c vals hL hz hl hrow hr hc hm he => exact .ro _ _ _ _ _ _ _ vals hL hz hl hrow hr hc hm he
  | ownNil => exact .ownNil _ _ _ _
  | own _ sz ex xs b c arr T lo hi Fs hb hfz hs hz hr hc hm he => exact .own _ _ _ _ _ _ arr T lo hi Fs hb hfz hs hz hr hc hm he
  | agg _ cs vals Fs hl hr => exact .agg _ _ _ _ hl hr
  | tup _ cs vals Fs hl hr => exact .tup _ _ _ _ hl hr
  | fn _ f cs vals hl hr => exact .fn _ _ _ _ hl hr
  | mv _ f cs vals hl hr => exact .mv _ _ _ _ hl hr
  | bp _ id j b h => exact .bp _ _ _ _ h
  | ep _ id i j b n c sz h => exact .ep _ _ _ _ _ _ _ _ h
  | vec _ id off len b n c sz A h ho hA hn => exact .vec _ _ _ _ _ _ _ _ _ h ho hA hn
  | vecNil _ id sz A A' h => exact .vecNil _ _ _ _ _ h
theorem Ct.norm {P : Program} {f : FuncId} {args : List AV} {res : AV} {outs : List AV} (hc : Ct P f (args.map AV.norm) res outs) : Ct P f args res outs := by
  refine ⟨hc.enters, fun w L vs F hL hF hr => hc.calls w L vs F hL hF ?_⟩
  cases hr with
  | tup _ _ _ Fs hl hr =>
    have := Rel.tup (w := w) (L := fun b => L b ∨ b ∈ foots Fs args.length) noEnv (args.map AV.norm) vs Fs (by simpa using hl) (by
      intro k x u hx hu
      rw [List.getElem?_map] at hx
      obtain ⟨y, hy, rfl⟩ := Option.map_eq_some_iff.1 hx
      exact (hr k y u hy hu).norm)
    rwa [List.length_map] at this
section
variable {X : Fx} {g : Gx} {st st' : St} {K : List Item} {k : List Item} {ops : Array Oper} {i : Nat} {rest : List Nat} {o : Oper}
theorem Run.alloc {d t : Nat} {ti : TI} (ho : ops[i]? = some o) (hg : guardOf ops st o = some true) (hd : o.dst = some d) (hop : o.op = .alloc t) (hT : X.T t = some ti) (hz : oneL (ti.zero.map .lit) = true) (hn : st.nrf (d, 0) = true)
    (hdn : (Nat.blt d X.fn.ntmps && !(X.pins.contains d)) = true) (h : Run X g (.inRegion ops rest :: k) ((st.setObj (d, 0) (.box (ti.zero.map .lit))).put d (.bp (d, 0) 0))) : Run X g (.inRegion ops (i :: rest) :: k) st := by
  simp only [Bool.and_eq_true, Bool.not_eq_true'] at hdn
  refine Run.op ho (fun a w hI => guardOf_ok hg a w hI) ?_ h
  intro hX a w hI
  obtain ⟨u, w', hu, hI'⟩ := hI.allocv hX hT hz hn (blt_lt hdn.1) (contains_iff hdn.2)
  refine ⟨u, w', .inl ?_, by rw [hd]; exact hI'⟩
  simp [execOp, hop, hu]
end
end Go.Av

/- Elements that are slices themselves become objects, and go back. -/
namespace Go.Av
open Go Go.RowKit
section
variable {X : Fx} {g : Gx} {st st' : St} {a : Act} {w w' : World} {β β' : Env} {F : Key → List Nat} {L : Nat → Prop} {K : List Item}
theorem SR.uncell1 {id0 id1 idt : Id} {sz m j sz' : Nat} {ex ex' : Bool} {xs zs : List AV} {y : AV} (ho : st.obj id0 = .vec sz ex xs) (hy : xs[m]? = some y) (hj : y.cells[j]? = some (.own sz' ex' zs))
    (hreb : ∀ v, (reb y (y.cells.set j (.lit v))).cells = y.cells.set j (.lit v)) (hn : st.nrf id1 = true) (h01 : id0 ≠ id1) (h0t : id0 ≠ idt) (h1t : id1 ≠ idt) (ht : st.obj idt = .gone) (h : SR X g st a w) :
    ∃ A n, SR X g (((st.setObj id0 (.vec sz ex (xs.set m (reb y (y.cells.set j (.lit (.slice A zs.length n))))))).setObj id1 (.vec sz' ex' zs)).setObj idt (.tie (.slice A zs.length n) id1)) a w := by
  obtain ⟨β, F, h⟩ := h
  have hob := h.obj id0
  rw [ho] at hob
  obtain ⟨v, hβ, hown⟩ := hob
  have hnd := h.sep.nodup (.o id0)
  have e0 : F (.o idt) = [] := by have := h.obj idt; rw [ht] at this; exact this
  obtain ⟨vals, Fs, Bs, hoc, hz, hvl, hr, hF⟩ := hown.ownCells
  rw [hF] at hnd
  have hm : m < xs.length := (List.getElem?_eq_some_iff.1 hy).1
  have hyl : y.cells.length = sz := hz y (List.mem_of_getElem? hy)
  have hjs : j < sz := by rw [← hyl]; exact (List.getElem?_eq_some_iff.1 hj).1
  have hq : (flatc xs)[m * sz + j]? = some (.own sz' ex' zs) := by rw [elem_at hz hy hjs]; exact hj
  have hql : m * sz + j < (flatc xs).length := (List.getElem?_eq_some_iff.1 hq).1
  have hqv : m * sz + j < vals.length := by rw [hvl, ← flatc_length hz]; exact hql
  have hcell := hr _ _ _ hq (List.getElem?_eq_getElem hqv)
  obtain ⟨nB, nFs, nap⟩ := List.nodup_append.1 hnd
  obtain ⟨q1, q2⟩ := foots_drop hql nFs
  obtain ⟨r1, r2, r3⟩ := List.nodup_append.1 q1
  obtain ⟨A, n, e⟩ := own_len hcell
  refine ⟨A, n, ?_⟩
  rw [← e]
  have hzz : ∀ x ∈ xs.set m (reb y (y.cells.set j (.lit vals[m * sz + j]))), x.cells.length = sz := by
    intro x hx
    rcases List.mem_or_eq_of_mem_set hx with hx | rfl
    · exact hz x hx
    · rw [hreb]; simpa using hyl
  have hfl : (flatc (xs.set m (reb y (y.cells.set j (.lit vals[m * sz + j]))))).length = (flatc xs).length := by
    rw [flatc_length hzz, flatc_length hz, List.length_set]
  refine h.two (β' := updE β id1 (vals[m * sz + j], sz')) (k1 := .o id0) (k2 := .o id1) (G1 := Bs ++ foots (updN Fs (m * sz + j) []) (flatc xs).length) (G2 := Fs (m * sz + j)) (by intro e; injection e with e; exact h01 e) ?_ (fun b hb => .inl ?_) ?_ ?_ ?_
  · rw [List.append_assoc]
    refine List.nodup_append.2 ⟨nB, q1, fun b hb b' hb' e => nap b hb b' (q2 b' hb') e⟩
  · rw [hF]
    rcases List.mem_append.1 hb with hb | hb
    · rcases List.mem_append.1 hb with hb | hb
      · exact List.mem_append_left _ hb
      · exact List.mem_append_right _ (q2 b (List.mem_append_left _ hb))
    · exact List.mem_append_right _ (q2 b (List.mem_append_right _ hb))
  · intro k x1 x2
    by_cases e : k = .o idt
    · subst e
      simp only [KRel]
      rw [St.obj_set_same]
      exact ⟨e0, sz', by simp [updE]⟩
    · refine ((h.krel k).upd _ hn x2).congr (fun d' e' => rfl) (fun id' e' => ?_)
      rw [St.obj_set_ne (by rintro rfl; exact e e'), St.obj_set_ne (by rintro rfl; exact x2 e'), St.obj_set_ne (by rintro rfl; exact x1 e')]
  · simp only [KRel]
    rw [St.obj_set_ne (Ne.symm h0t), St.obj_set_ne (Ne.symm h01), St.obj_set_same]
    refine ⟨v, by simp [updE, h01, hβ], ?_⟩
    rw [← hfl]
    refine hoc.rel (by simp) hzz fun k x u hx hu => ?_
    rw [flatc_set hz hy (by rw [hreb]; simpa using hyl)] at hx
    by_cases hk : m * sz ≤ k ∧ k < m * sz + sz
    · rw [if_pos hk, hreb] at hx
      by_cases e : k = m * sz + j
      · subst e
        rw [show m * sz + j - m * sz = j by omega, List.getElem?_set_self (by omega)] at hx
        cases hx
        rw [updN_same]
        rw [List.getElem?_eq_getElem hqv] at hu
        cases hu
        exact .lit _ _
      · rw [List.getElem?_set_ne (by omega)] at hx
        rw [updN_ne e]
        refine hr k x u ?_ hu
        have := elem_at hz hy (j := k - m * sz) (by omega)
        rw [show m * sz + (k - m * sz) = k by omega] at this
        rw [this]; exact hx
    · rw [if_neg hk] at hx
      rw [updN_ne (by omega)]
      exact hr k x u hx hu
  · simp only [KRel]
    rw [St.obj_set_ne (Ne.symm h1t), St.obj_set_same]
    exact ⟨_, by simp [updE], hcell.env _ rfl⟩
theorem Run.uncell1 (id0 id1 idt : Id) (m j : Nat) {sz sz' : Nat} {ex ex' : Bool} {xs zs : List AV} (y : AV) (ho : st.obj id0 = .vec sz ex xs) (hy : xs[m]? = some y) (hj : y.cells[j]? = some (.own sz' ex' zs))
    (hreb : ∀ v, (reb y (y.cells.set j (.lit v))).cells = y.cells.set j (.lit v)) (hn : st.nrf id1 = true) (h01 : id0 ≠ id1) (h0t : id0 ≠ idt) (h1t : id1 ≠ idt) (ht : st.obj idt = .gone)
    (h : ∀ A n, Run X g K (((st.setObj id0 (.vec sz ex (xs.set m (reb y (y.cells.set j (.lit (.slice A zs.length n))))))).setObj id1 (.vec sz' ex' zs)).setObj idt (.tie (.slice A zs.length n) id1))) : Run X g K st :=
  fun hX a w b cs hI => let ⟨A, n, hI'⟩ := hI.uncell1 ho hy hj hreb hn h01 h0t h1t ht; h A n hX a w b cs hI'
theorem SR.recell1 {id0 id1 idt : Id} {sz m j sz' : Nat} {ex ex' : Bool} {xs zs : List AV} {y : AV} {v0 : Value} (ho : st.obj id0 = .vec sz ex xs) (hy : xs[m]? = some y) (hj : y.cells[j]? = some (.lit v0))
    (ht : st.obj idt = .tie v0 id1) (h1 : st.obj id1 = .vec sz' ex' zs) (hreb : (reb y (y.cells.set j (.own sz' ex' zs))).cells = y.cells.set j (.own sz' ex' zs)) (h01 : id0 ≠ id1) (h : SR X g st a w) :
    SR X g (((st.setObj id0 (.vec sz ex (xs.set m (reb y (y.cells.set j (.own sz' ex' zs)))))).setObj id1 .gone).setObj idt .gone) a w := by
  obtain ⟨β, F, h⟩ := h
  have hob := h.obj id0
  rw [ho] at hob
  obtain ⟨v, hβ, hown⟩ := hob
  have hob1 := h.obj id1
  rw [h1] at hob1
  obtain ⟨v1, hβ1, hown1⟩ := hob1
  have hobt := h.obj idt
  rw [ht] at hobt
  obtain ⟨e0, sz2, hβt⟩ := hobt
  have hv1 : v1 = v0 := by
    have := hβ1.symm.trans hβt
    injection this with this
    injection this
  subst hv1
  have h0t : idt ≠ id0 := by rintro rfl; rw [ht] at ho; cases ho
  have h1t : idt ≠ id1 := by rintro rfl; rw [ht] at h1; cases h1
  have hnd := h.sep.nodup (.o id0)
  obtain ⟨vals, Fs, Bs, hoc, hz, hvl, hr, hF⟩ := hown.ownCells
  rw [hF] at hnd
  have hm : m < xs.length := (List.getElem?_eq_some_iff.1 hy).1
  have hyl : y.cells.length = sz := hz y (List.mem_of_getElem? hy)
  have hjs : j < sz := by rw [← hyl]; exact (List.getElem?_eq_some_iff.1 hj).1
  have hq : (flatc xs)[m * sz + j]? = some (.lit v1) := by rw [elem_at hz hy hjs]; exact hj
  have hql : m * sz + j < (flatc xs).length := (List.getElem?_eq_some_iff.1 hq).1
  have hqv : m * sz + j < vals.length := by rw [hvl, ← flatc_length hz]; exact hql
  have hcell := hr _ _ _ hq (List.getElem?_eq_getElem hqv)
  have hFq : Fs (m * sz + j) = [] := hcell.pl_nil rfl
  have hvq : vals[m * sz + j] = v1 := by
    rw [hFq] at hcell
    generalize vals[m * sz + j] = u at hcell
    cases hcell; rfl
  obtain ⟨nB, nFs, nap⟩ := List.nodup_append.1 hnd
  have hap : ∀ b ∈ F (.o id1), b ∉ F (.o id0) := fun b hb hb' => h.sep.apart _ _ b (by intro e; injection e with e; exact h01 e.symm) hb hb'
  obtain ⟨q1, q2⟩ := foots_put (G := F (.o id1)) nFs hFq (h.sep.nodup _) (fun b hb hb' => hap b hb (by rw [hF]; exact List.mem_append_right _ hb'))
  have hzz : ∀ x ∈ xs.set m (reb y (y.cells.set j (.own sz' ex' zs))), x.cells.length = sz := by
    intro x hx
    rcases List.mem_or_eq_of_mem_set hx with hx | rfl
    · exact hz x hx
    · rw [hreb]; simpa using hyl
  have hfl : (flatc (xs.set m (reb y (y.cells.set j (.own sz' ex' zs))))).length = (flatc xs).length := by
    rw [flatc_length hzz, flatc_length hz, List.length_set]
  refine h.two (β' := β) (k1 := .o id1) (k2 := .o id0) (G1 := []) (G2 := Bs ++ foots (updN Fs (m * sz + j) (F (.o id1))) (flatc xs).length) (by intro e; injection e with e; exact h01 e.symm) ?_ (fun b hb => ?_) ?_ ?_ ?_
  · rw [List.nil_append]
    refine List.nodup_append.2 ⟨nB, q1, fun b hb b' hb' e => ?_⟩
    subst e
    rcases q2 b hb' with h' | h'
    · exact nap b hb b h' rfl
    · exact hap b h' (by rw [hF]; exact List.mem_append_left _ hb)
  · rw [List.nil_append] at hb
    rcases List.mem_append.1 hb with hb | hb
    · exact .inr (by rw [hF]; exact List.mem_append_left _ hb)
    · rcases q2 b hb with hb | hb
      · exact .inr (by rw [hF]; exact List.mem_append_right _ hb)
      · exact .inl hb
  · intro k x1 x2
    by_cases e : k = .o idt
    · subst e
      simp only [KRel]
      rw [St.obj_set_same]
      exact e0
    · refine (h.krel k).congr (fun d' e' => rfl) (fun id' e' => ?_)
      rw [St.obj_set_ne (by rintro rfl; exact e e'), St.obj_set_ne (by rintro rfl; exact x1 e'), St.obj_set_ne (by rintro rfl; exact x2 e')]
  · simp only [KRel]
    rw [St.obj_set_ne h1t, St.obj_set_same]
    rfl
  · simp only [KRel]
    rw [St.obj_set_ne h0t, St.obj_set_ne (Ne.symm h01), St.obj_set_same]
    refine ⟨v, hβ, ?_⟩
    rw [← hfl]
    refine hoc.rel (by simp) hzz fun k x u hx hu => ?_
    rw [flatc_set hz hy (by rw [hreb]; simpa using hyl)] at hx
    by_cases hk : m * sz ≤ k ∧ k < m * sz + sz
    · rw [if_pos hk, hreb] at hx
      by_cases e : k = m * sz + j
      · subst e
        rw [show m * sz + j - m * sz = j by omega, List.getElem?_set_self (by omega)] at hx
        cases hx
        rw [updN_same]
        rw [List.getElem?_eq_getElem hqv] at hu
        cases hu
        rw [hvq]
        exact hown1.env _ rfl
      · rw [List.getElem?_set_ne (by omega)] at hx
        rw [updN_ne e]
        refine hr k x u ?_ hu
        have := elem_at hz hy (j := k - m * sz) (by omega)
        rw [show m * sz + (k - m * sz) = k by omega] at this
        rw [this]; exact hx
    · rw [if_neg hk] at hx
      rw [updN_ne (by omega)]
      exact hr k x u hx hu
theorem Run.recell1 (id0 id1 idt : Id) (m j : Nat) {sz sz' : Nat} {ex ex' : Bool} {xs zs : List AV} (y : AV) {v0 : Value} (ho : st.obj id0 = .vec sz ex xs) (hy : xs[m]? = some y) (hj : y.cells[j]? = some (.lit v0))
    (ht : st.obj idt = .tie v0 id1) (h1 : st.obj id1 = .vec sz' ex' zs) (hreb : (reb y (y.cells.set j (.own sz' ex' zs))).cells = y.cells.set j (.own sz' ex' zs)) (h01 : id0 ≠ id1)
    (h : Run X g K (((st.setObj id0 (.vec sz ex (xs.set m (reb y (y.cells.set j (.own sz' ex' zs)))))).setObj id1 .gone).setObj idt .gone)) : Run X g K st :=
  Run.ghost (fun _ _ hI => hI.recell1 ho hy hj ht h1 hreb h01) h
theorem SR.nameAgg {d c sz : Nat} {ex : Bool} {cs xs : List AV} {id idt : Id} {v0 : Value} (hd : st.get d = .agg cs) (hc : cs[c]? = some (.lit v0)) (ht : st.obj idt = .tie v0 id) (ho : st.obj id = .vec sz ex xs) (h : SR X g st a w) :
    SR X g (st.put d (.agg (cs.set c (.vec id 0 xs.length)))) a w := by
  obtain ⟨β, F, h⟩ := h
  have hne : st.get d ≠ .top := by rw [hd]; simp
  have hget := h.slotget hne
  have hr := h.slotv hne
  have hnd := h.sep.nodup (.s d)
  rw [hd] at hr
  have hob := h.obj id
  rw [ho] at hob
  obtain ⟨v, hβ, hown⟩ := hob
  have hobt := h.obj idt
  rw [ht] at hobt
  obtain ⟨_, sz2, hβt⟩ := hobt
  have hv : v = v0 := by
    have := hβ.symm.trans hβt
    injection this with this
    injection this
  subst hv
  have hup : updE β id (v, sz) = β := by
    funext x
    simp only [updE]
    split
    · rename_i e; subst e; exact hβ.symm
    · rfl
  have hv := hown.own_vec id
  rw [hup] at hv
  generalize a.tmps.getD d undef = u at hr hget
  generalize hF : F (.s d) = G at hr hnd
  cases hr with
  | agg _ _ vals Fs hl hrr =>
  have hcl : c < cs.length := (List.getElem?_eq_some_iff.1 hc).1
  have hcv : c < vals.size := by omega
  obtain ⟨q1, q2⟩ := foots_drop hcl hnd
  have hu : vals[c] = v := by
    have := hrr c _ _ hc (Array.getElem?_eq_getElem hcv)
    generalize vals[c] = z at this
    generalize Fs c = Gc at this
    cases this
    rfl
  have hnew := Rel.agg (w := w) (L := Lv g F) β (cs.set c (.vec id 0 xs.length)) vals (updN Fs c []) (by simpa using hl) (by
    intro k x u hx hu'
    by_cases e : k = c
    · subst e
      rw [List.getElem?_set_self hcl] at hx
      cases hx
      rw [Array.getElem?_eq_getElem hcv] at hu'
      cases hu'
      rw [updN_same, hu]
      exact hv
    · rw [List.getElem?_set_ne (Ne.symm e)] at hx
      rw [updN_ne e]
      exact hrr k x u hx hu')
  rw [List.length_set] at hnew
  have hG : ∀ b ∈ foots (updN Fs c []) cs.length, b ∈ F (.s d) := fun b hb => by rw [hF]; exact q2 b (by simp [hb])
  refine ⟨_, _, (h.conv (.inl hget) hnew hG (List.nodup_append.1 q1).1).setL fun b _ hb => ?_⟩
  refine Lv_sub hb (fun k hk => ?_) .inl
  by_cases e : k = .s d
  · subst e
    rw [updF_same] at hk
    exact Lv_of (hG b hk)
  · rw [updF_ne _ e] at hk
    exact Lv_of hk
theorem Run.nameAgg (d c : Nat) {sz : Nat} {ex : Bool} {cs xs : List AV} {id : Id} (idt : Id) {v0 : Value} (hd : st.get d = .agg cs) (hc : cs[c]? = some (.lit v0)) (ht : st.obj idt = .tie v0 id) (ho : st.obj id = .vec sz ex xs)
    (h : Run X g K (st.put d (.agg (cs.set c (.vec id 0 xs.length))))) : Run X g K st := Run.ghost (fun _ _ hI => hI.nameAgg hd hc ht ho) h
variable {ops : Array Oper} {i : Nat} {rest : List Nat} {k : List Item} {o : Oper}
theorem Run.appends {d s t u te : Nat} {x : Operand} {ti tu : TI} {id : Id} {n sz : Nat} {ex : Bool} {xs ys : List AV} (ho : ops[i]? = some o) (hg : guardOf ops st o = some true) (hd : o.dst = some d)
    (hop : o.op = .call ⟨.builtin .append, #[.tmp s, x], #[t, u]⟩) (hT : sliceAt X.T t = some (te, ti)) (hU : X.T u = some tu) (hui : (match tu.ud with | .slice _ => true | .string => true | _ => false) = true)
    (hs : st.get s = .vec id 0 n) (hob : st.obj id = .vec sz ex xs) (hy : srcOf st x = some (sz, ys)) (hly : (flatc ys).all isLT = true) (hsz : ti.sz = sz) (hzl : Nat.beq ti.zero.length ti.sz = true) (hn : n = xs.length)
    (hone : oneC ys = true) (hlen : (xs.length + ys.length) * ti.by' ≤ 140737488355328) (hcap : xs.length + ys.length ≤ capMax) (hdn : (Nat.blt d X.fn.ntmps && !(X.pins.contains d)) = true)
    (h : Run X g (.inRegion ops rest :: k) ((st.setObj id .gone).put d (.own sz false (xs ++ ys)))) : Run X g (.inRegion ops (i :: rest) :: k) st := by
  subst hsz
  simp only [Bool.and_eq_true, Bool.not_eq_true'] at hdn
  refine Run.op ho (fun a w hI => guardOf_ok hg a w hI) ?_ h
  rintro hX a w ⟨β, F, hI⟩
  obtain ⟨i', h1, h2, h3⟩ := sliceAt_ok hX hT
  have hu := ty_of hX hU
  have hsv := hI.slotv (d := s) (by rw [hs]; simp)
  rw [hs] at hsv
  rw [hsv.vec_nil] at hsv
  have hobj := hI.obj id
  rw [hob] at hobj
  obtain ⟨v, hβ, hown⟩ := hobj
  obtain ⟨G, hG, hx⟩ := hsv.vec_own hn hβ hown
  have hGs : ∀ b ∈ G, b ∈ F (.o id) := by rintro b hb; rcases hG with rfl | rfl; exact hb; simp at hb
  have hGn : G.Nodup := by rcases hG with rfl | rfl; exact hI.sep.nodup _; simp
  obtain ⟨vx, Fx, Bx, ocx, hzx, hvx, hrx, hGx⟩ := hx.ownCells
  rw [hGx] at hGn
  obtain ⟨nx1, nx2, nx3⟩ := List.nodup_append.1 hGn
  have hxs : ∀ b, b ∈ Bx ∨ b ∈ foots Fx (flatc xs).length → b ∈ F (.o id) := fun b hb => hGs b (by rw [hGx]; exact List.mem_append.2 hb)
  obtain ⟨Ay, cy, vy, huy, hvy, hzy, hfy, hry⟩ := srcOf_ok (P := X.P) hI hy hly
  have hone' : ∀ c ∈ vy, c.oneCell' = true := by
    intro c hc
    obtain ⟨k, hk, rfl⟩ := List.getElem_of_mem hc
    have hk' : k < (flatc ys).length := by rw [flatc_length hzy, ← hvy]; exact hk
    exact ((hry k _ _ (List.getElem?_eq_getElem hk') (List.getElem?_eq_getElem hk)).oneCell (oneC_flat hone k _ (List.getElem?_eq_getElem hk'))).1
  have hdu : ∀ kk, tu.ud ≠ .int kk := by intro kk e; rw [e] at hui; cases hui
  have ht' : X.P.underlying t = some (.slice te) := by rw [h1.ud, h2]
  obtain ⟨v', w', Bs', e1, e2, e3, e4⟩ := append_run (P := X.P) (w := w) (t := t) (u := u) (ty := o.type) ht' hu.ud hdu h3 (Nat.eq_of_beq_eq_true hzl) ocx (x := a.eval x) (m := ys.length) (news := vy)
    (fun w2 => by rw [huy]; rfl) (fun w2 hw2 => by have := hfy ys.length w2 (Nat.le_refl _) hw2; rwa [List.take_of_length_le (by rw [hvy]; exact Nat.le_refl _)] at this) hvy hone' hlen hcap
  refine ⟨v', w', .inl ?_, ?_⟩
  · obtain ⟨dst, op, type, pos, after, guard⟩ := o
    simp only at hop
    subst hop
    simp only [execOp, Sem.run_bind, resolve_builtin, Result.andThen_ok, invoke, builtin]
    have e1' : (Builtin.append_ #[t, u] type #[a.eval (.tmp s), a.eval x]).run X.P w = .ok v' w' := e1
    simp [e1']
  · rw [hd]
    have h0 : Inv X g (st.setObj id .gone) a w β (updF F (.o id) []) (Lv g F) := hI.setOb id .gone rfl (by simp) (by simp) (by simp)
    have hsub : ∀ kk b, b ∈ updF F (.o id) [] kk → b ∈ F kk ∧ kk ≠ .o id := by
      intro kk b hb
      by_cases x2 : kk = .o id
      · subst x2; rw [updF_same] at hb; simp at hb
      · rw [updF_ne _ x2] at hb; exact ⟨hb, x2⟩
    have hfo := foots_append Fx (fun _ => []) (flatc xs).length (flatc ys).length
    have hfn : foots (fun _ => []) (flatc ys).length = [] := foots_nil fun _ _ => rfl
    rw [hfn, List.append_nil] at hfo
    have hfl : (flatc (xs ++ ys)).length = (flatc xs).length + (flatc ys).length := by rw [flatc_append, List.length_append]
    have apx : ∀ b kk, b ∈ F (.o id) → b ∉ updF F (.o id) [] kk := fun b kk hb hb' => by
      obtain ⟨q1, q2⟩ := hsub kk b hb'
      exact hI.sep.apart _ _ b (Ne.symm q2) hb q1
    refine h0.made (L := Lv g F) (zs := xs ++ ys) (Hs := fun kk => if kk < (flatc xs).length then Fx kk else []) (fun kk b hb => Lv_of (hsub kk b hb).1) (fun b hb => .inl hb) e3
      (fun b hb => ⟨Lv_of (hxs b (.inl hb)), fun kk => apx b kk (hxs b (.inl hb)), hI.range _ b (hxs b (.inl hb))⟩) e4 nx1 e2 (by simp) ?_ ?_ ?_ ?_ (blt_lt hdn.1) (contains_iff hdn.2)
    · intro x hx'
      rcases List.mem_append.1 hx' with hx' | hx'
      · exact hzx x hx'
      · exact hzy x hx'
    · intro kk x uu hx' hu'
      rw [flatc_append] at hx'
      have hvxl : vx.length = (flatc xs).length := by rw [hvx, flatc_length hzx]
      by_cases hk : kk < (flatc xs).length
      · rw [List.getElem?_append_left hk] at hx'
        rw [List.getElem?_append_left (by omega)] at hu'
        simp only [if_pos hk]
        exact hrx kk x uu hx' hu'
      · rw [List.getElem?_append_right (by omega)] at hx'
        rw [List.getElem?_append_right (by omega), hvxl] at hu'
        simp only [if_neg hk]
        exact hry _ x uu hx' hu'
    · rw [hfl]
      refine (congrArg List.Nodup hfo).mpr nx2
    · intro b hb
      rw [hfl] at hb
      have hb : b ∈ foots Fx (flatc xs).length := by rw [← hfo]; exact hb
      exact ⟨Lv_of (hxs b (.inr hb)), fun hb' => nx3 b hb' b hb rfl, fun kk => apx b kk (hxs b (.inr hb)), hI.range _ b (hxs b (.inr hb)), hI.lt _ b (hxs b (.inr hb))⟩
theorem St.expL_ep {id : Id} {m j sz n : Nat} {ex : Bool} {xs r r' : List AV} {x : AV} (hob : st.obj id = .vec sz ex xs) (hx : xs[m]? = some x) (hr : St.expL st (n + 1) r = some r') : St.expL st (n + 2) (.ep id m j :: r) = some (.rp x.frz.cells j :: r') := by
  simp only [St.expL, St.exp, hob, hx, hr]
end
end Go.Av
