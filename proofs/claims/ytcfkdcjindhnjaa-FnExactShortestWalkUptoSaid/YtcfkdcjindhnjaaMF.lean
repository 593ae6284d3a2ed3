/- Parts of a proof, in one text: AvCut, AvKey, AvTail, AvIdeal, AvRoApp, AvTake, AvRows, AvInsert, AvRef, AvFront, AvCell. -/
import Derived.Test.YtcfkdcjindhnjaaMB
import Derived.DeepKeys3
import Derived.Laws.Externs
set_option linter.unusedVariables false

/- Slice expressions. -/
namespace Go.Av
open Go Go.RowKit

section
variable {X : Fx} {g : Gx} {st st' : St} {a : Act} {w w' : World} {β β' : Env} {F : Key → List Nat} {L : Nat → Prop} {K : List Item} {k : List Item}
variable {ops : Array Oper} {i : Nat} {rest : List Nat} {o : Oper}

theorem sb_run {P : Program} {w : World} (b : Bool) (len cap : Nat) (lo hi : Option Value) (l h : Nat) (hlo : match lo with | none => l = 0 | some v => ∃ k, v = .int k (l : Int))
    (hhi : match hi with | none => h = len | some v => ∃ k, v = .int k (h : Int)) (h1 : l ≤ h) (h2 : h ≤ cap) : (Instr.sliceBounds b len cap lo hi none).run P w = .ok (l, h, cap) w := by
  have e1 : ∀ k y c, l ≤ y → (Instr.sliceBound (.int k (l : Int)) y c).run P w = .ok l w := by
    intro k y c hy
    have : (l : Int) ≤ y := by omega
    simp [Instr.sliceBound, asIntOf, this]
  have e2 : ∀ k y c, h ≤ y → (Instr.sliceBound (.int k (h : Int)) y c).run P w = .ok h w := by
    intro k y c hy
    have : (h : Int) ≤ y := by omega
    simp [Instr.sliceBound, asIntOf, this]
  cases lo with
  | none =>
    cases hi with
    | none =>
      simp only at hlo hhi
      subst hlo; subst hhi
      simp [Instr.sliceBounds]
    | some v =>
      simp only at hlo
      obtain ⟨k, rfl⟩ := hhi
      subst hlo
      simp [Instr.sliceBounds, e2 _ _ _ h2]
  | some u =>
    obtain ⟨k, rfl⟩ := hlo
    cases hi with
    | none =>
      simp only at hhi
      subst hhi
      simp [Instr.sliceBounds, e1 _ _ _ h1]
    | some v =>
      obtain ⟨k', rfl⟩ := hhi
      simp [Instr.sliceBounds, e1 _ _ _ h1, e2 _ _ _ h2]

/-- A bound of a slice expression. -/
def bndE (st : St) (y : Option Operand) (d : Nat) : Option Int :=
  match y with
  | none => some d
  | some y => match st.ev y with
    | .lit (.int _ n) => some n
    | _ => none

theorem bndE_ok (h : Inv X g st a w β F L) {y : Option Operand} {d : Nat} {n : Int} (hb : bndE st y d = some n) (h0 : 0 ≤ n) :
    match y.map a.eval with | none => n.toNat = d | some v => ∃ k, v = .int k (n.toNat : Int) := by
  unfold bndE at hb
  cases y with
  | none => simp at hb; simp; omega
  | some y =>
    simp only at hb
    split at hb
    · rename_i k m he
      cases hb
      refine ⟨k, ?_⟩
      rw [ev_lit h he]
      congr 1
      omega
    · cases hb

theorem RowAt.drop {w : World} {b o : Nat} {vals : List Value} (h : RowAt w b o vals) (l n : Nat) : RowAt w b (o + l) ((vals.take n).drop l) := by
  intro k u hk
  rw [List.getElem?_drop, List.getElem?_take] at hk
  split at hk
  · have := h (l + k) u hk
    rw [Nat.add_assoc]
    exact this
  · cases hk

/-- A part of a slice that is only read. -/
theorem ValOk.cut {t e : Nat} {ti : TI} {x : Operand} {lo hi : Option Operand} {sz : Nat} {ex : Bool} {xs ys : List AV} {l h : Int}
    (hop : o.op = .slice t x lo hi none) (hT : sliceAt X.T t = some (e, ti)) (hx : st.ev x = .ro sz ex xs) (hsz : ti.sz = sz)
    (hlo : bndE st lo 0 = some l) (hhi : bndE st hi xs.length = some h) (h0 : 0 ≤ l) (h1 : l ≤ h) (h2 : h ≤ xs.length) (hy : (xs.take h.toNat).drop l.toNat = ys) :
    ValOk X g st o (.ro sz false ys) := by
  subst hy
  intro hX a w β F hI
  obtain ⟨i', ht, hud, hte⟩ := sliceAt_ok hX hT
  have hR := ev_rel hI x (by rw [hx]; rfl)
  rw [hx] at hR
  have b1 := bndE_ok hI hlo h0
  have b2 := bndE_ok hI hhi (by omega)
  generalize hu : a.eval x = u at hR
  generalize hG : ([] : List Nat) = G at hR
  have hlh : l.toNat ≤ h.toNat := by omega
  have hhl : h.toNat ≤ xs.length := by omega
  cases hR with
  | roNil _ _ _ A c hc he =>
    have e1 : l.toNat = 0 := by simp at hhl; omega
    have e2 : h.toNat = 0 := by simp at hhl; omega
    refine ⟨.slice (if c = 0 then A else A.map (·.add (0 * ti.sz))) 0 (c - 0), fun w2 _ => ?_, ?_⟩
    · have hs := un_run ht w2
      rw [hud] at hs
      have hb := sb_run (P := X.P) (w := w2) true 0 c (lo.map a.eval) (hi.map a.eval) l.toNat h.toNat b1 b2 hlh (by omega)
      rw [e1, e2] at hb
      simp [execOp, hop, Instr.sliceAt, Instr.slice, hs, hu, hb, sizeOf_run hte]
    · simp only [List.take_nil, List.drop_nil]
      exact .roNil _ _ _ _ _ (by omega) (by simp)
  | ro _ _ _ _ b o' c vals hL hz hl hrow hr hc hm' he =>
    refine ⟨.slice (if c = l.toNat then some ⟨b, o', none⟩ else some ⟨b, o' + l.toNat * ti.sz, none⟩) (h.toNat - l.toNat) (c - l.toNat), fun w2 _ => ?_, ?_⟩
    · have hs := un_run ht w2
      rw [hud] at hs
      have hb := sb_run (P := X.P) (w := w2) true xs.length c (lo.map a.eval) (hi.map a.eval) l.toNat h.toNat b1 b2 hlh (by omega)
      simp [execOp, hop, Instr.sliceAt, Instr.slice, hs, hu, hb, sizeOf_run hte, addr_add]
    · have hlen : ((xs.take h.toNat).drop l.toNat).length = h.toNat - l.toNat := by simp; omega
      have hz' : ∀ x ∈ (xs.take h.toNat).drop l.toNat, x.cells.length = sz := fun x hx => hz x (List.mem_of_mem_take (List.mem_of_mem_drop hx))
      have hzt : ∀ x ∈ xs.take h.toNat, x.cells.length = sz := fun x hx => hz x (List.mem_of_mem_take hx)
      have hfl : flatc ((xs.take h.toNat).drop l.toNat) = ((flatc xs).take (h.toNat * sz)).drop (l.toNat * sz) := by rw [flatc_drop hzt, flatc_take hz]
      by_cases hc0 : c = l.toNat
      · have : (xs.take h.toNat).drop l.toNat = [] := List.length_eq_zero_iff.1 (by rw [hlen]; omega)
        rw [this, if_pos hc0, show h.toNat - l.toNat = 0 by omega]
        exact .roNil _ _ _ _ _ (by omega) (by simp)
      · rw [if_neg hc0, hsz, ← hlen]
        refine .ro _ _ _ _ b _ _ ((vals.take (h.toNat * sz)).drop (l.toNat * sz)) (fun hv => hL ?_) hz' ?_ (hrow.drop _ _) ?_ (by rw [hlen]; omega) (by omega) (by simp)
        · rintro rfl
          simp at hv
        · rw [hfl, List.length_drop, List.length_drop, List.length_take, List.length_take, hl]
        · intro k x u hx hu
          rw [hfl, List.getElem?_drop, List.getElem?_take] at hx
          rw [List.getElem?_drop, List.getElem?_take] at hu
          split at hx
          · rename_i hk
            rw [if_pos hk] at hu
            exact hr _ x u hx hu
          · cases hx

/-- A part of an own slice. -/
theorem ValOk.cutv {t e : Nat} {ti : TI} {x : Operand} {lo hi : Option Operand} {id : Id} {off len sz : Nat} {ex : Bool} {xs : List AV} {l h : Int}
    (hop : o.op = .slice t x lo hi none) (hT : sliceAt X.T t = some (e, ti)) (hx : st.ev x = .vec id off len) (hob : st.obj id = .vec sz ex xs) (hsz : ti.sz = sz)
    (hlo : bndE st lo 0 = some l) (hhi : bndE st hi len = some h) (h0 : 0 ≤ l) (h1 : l ≤ h) (h2 : h ≤ len) : ValOk X g st o (.vec id (off + l.toNat) (h.toNat - l.toNat)) := by
  intro hX a w β F hI
  obtain ⟨i', ht, hud, hte⟩ := sliceAt_ok hX hT
  have hR := ev_rel hI x (by rw [hx]; rfl)
  rw [hx] at hR
  have b1 := bndE_ok hI hlo h0
  have b2 := bndE_ok hI hhi (by omega)
  have ho := hI.obj id
  rw [hob] at ho
  obtain ⟨v0, hβ0, hown⟩ := ho
  generalize hu : a.eval x = u at hR
  generalize hG : ([] : List Nat) = G at hR
  have hlh : l.toNat ≤ h.toNat := by omega
  have hhl : h.toNat ≤ len := by omega
  cases hR with
  | vec _ _ _ _ b n c sz' A hβ hlen hA hn =>
    rw [hβ] at hβ0
    cases hβ0
    subst hsz
    refine ⟨.slice (if c - off = l.toNat then some A else some (A.add (l.toNat * ti.sz))) (h.toNat - l.toNat) (c - off - l.toNat), fun w2 _ => ?_, ?_⟩
    · have hs := un_run ht w2
      rw [hud] at hs
      have hb := sb_run (P := X.P) (w := w2) true len (c - off) (lo.map a.eval) (hi.map a.eval) l.toNat h.toNat b1 b2 hlh (by omega)
      simp [execOp, hop, Instr.sliceAt, Instr.slice, hs, hu, hb, sizeOf_run hte]
    · have e1 : c - off - l.toNat = c - (off + l.toNat) := by omega
      rw [e1]
      by_cases hc0 : c - off = l.toNat
      · rw [if_pos hc0]
        exact .vec _ _ _ _ b n c _ A hβ (by omega) (fun h => by omega) hn
      · rw [if_neg hc0]
        refine .vec _ _ _ _ b n c _ _ hβ (by omega) (fun h => ?_) hn
        rw [hA (by omega), addr_add, Nat.add_mul]
  | vecNil _ _ sz' A A' hβ =>
    rw [hβ] at hβ0
    cases hβ0
    have e1 : l.toNat = 0 := by omega
    have e2 : h.toNat = 0 := by omega
    refine ⟨.slice A' 0 0, fun w2 _ => ?_, ?_⟩
    · have hs := un_run ht w2
      rw [hud] at hs
      have hb := sb_run (P := X.P) (w := w2) true 0 0 (lo.map a.eval) (hi.map a.eval) l.toNat h.toNat b1 b2 hlh (by omega)
      rw [e1, e2] at hb
      simp [execOp, hop, Instr.sliceAt, Instr.slice, hs, hu, hb, sizeOf_run hte]
    · rw [e1, e2]
      exact .vecNil _ _ _ _ _ hβ
end
end Go.Av

/- Structs and arrays of plain parts that are compared, or keys of maps. -/
namespace Go.Av
open Go Go.RowKit Go.MapKept

/-- A type whose values are compared part by part. -/
structure KTy (P : Program) (kt : TypeId) {κ : Type} [DecidableEq κ] (kv : κ → List Value) (ok : κ → Prop) : Prop where
  eq : ∀ w a b, ok a → ok b → (Op.equal kt (.agg (kv a).toArray) (.agg (kv b).toArray)).run P w = .ok (decide (a = b)) w
  chk : ∀ w em a, ok a → (Instr.checkKey em 10000 kt (.agg (kv a).toArray)).run P w = .ok () w
  wide : (match P.underlying kt with | some (.array _ _) | some (.struct _) => true | _ => false) = true
  gd : P.eqGuardType P.depth kt = false

theorem KTy.of {P : Program} {kt : TypeId} {κ : Type} [DecidableEq κ] {kv : κ → List Value} {ok : κ → Prop} (m m' : Nat) (hm : m ≤ 10000) (hk : P.keyTypeAt m kt = true) (htl : P.tiled m' kt = true)
    (hwide : (match P.underlying kt with | some (.array _ _) | some (.struct _) => true | _ => false) = true) (hkey : ∀ a, ok a → ∃ l, keyOf P kt (.agg (kv a).toArray) = some l) (hinj : ∀ a b, kv a = kv b → a = b) (hgd : P.eqGuardType P.depth kt = false) : KTy P kt kv ok := by
  refine ⟨?_, ?_, hwide, hgd⟩
  · intro w a b ha hb
    obtain ⟨la, hla⟩ := hkey a ha
    obtain ⟨lb, hlb⟩ := hkey b hb
    obtain ⟨r, hr, hiff⟩ := run_equal_deep (P := P) w hm hk hwide hla hlb
    rw [hr]
    congr 1
    rw [Bool.eq_iff_iff, hiff, decide_eq_true_eq]
    constructor
    · intro e
      subst e
      have := keyOf_inj_deep htl hwide hla hlb
      exact hinj _ _ (by simpa using this)
    · rintro rfl
      rw [hla] at hlb
      exact Option.some.inj hlb
  · intro w em a ha
    obtain ⟨la, hla⟩ := hkey a ha
    obtain ⟨xs, L1, e, h1, _⟩ := keyOf_top hwide hla
    have hf : (Value.agg (kv a).toArray).formed P kt = true := by
      unfold keyOf at hla
      split at hla
      · split at hla
        · rename_i hf; exact (Bool.and_eq_true_iff.1 hf).2
        · cases hla
      · split at hla
        · rename_i hf; exact (Bool.and_eq_true_iff.1 hf).2
        · cases hla
      · rename_i h1 h2
        split at hwide <;> simp_all
    have := run_checkKey_deep (P := P) em (10000 - m) m kt hk w _ (.agg (kv a).toArray) L1 hf (by rw [e]; exact h1)
    rwa [show 10000 - m + m = 10000 by omega] at this

section
variable {X : Fx} {g : Gx} {st st' : St} {a : Act} {w w' : World} {β β' : Env} {F : Key → List Nat} {L : Nat → Prop} {K : List Item} {k : List Item}
variable {ops : Array Oper} {i : Nat} {rest : List Nat} {o : Oper}

end
end Go.Av

/- A region whose order is drawn: it reads, and its last operation stores. -/
namespace Go

section
variable {P : Program} {md : Region.Mode} {ops : Array Oper} {C : World → Prop}

/-- Whatever order is picked from here on, up to the operation m, which waits for all others. -/
def wpAnyE (P : Program) (md : Region.Mode) (ops : Array Oper) (C : World → Prop) (m : Nat) (Q : Act → Prop) : Nat → Array Bool → Act → Prop
  | 0, listed, a => m ∈ Region.ready md ops listed ∧ Q a
  | fuel + 1, listed, a => (m ∈ Region.ready md ops listed → Q a) ∧ Region.ready md ops listed ≠ [] ∧
    ∀ i ∈ Region.ready md ops listed, i ≠ m → qOp P ops C i (wpAnyE P md ops C m Q fuel (listed.setIfInBounds i true)) a

/-- The last operation waits for each other one. -/
def Region.lastB (md : Region.Mode) (ops : Array Oper) (m : Nat) : Bool :=
  Nat.beq ops.size (m + 1) && match ops[m]? with
    | some o => (List.range m).all fun j => o.after.any fun e => Nat.beq e.on j && Region.binds md e
    | none => false

theorem Region.last_cov {m : Nat} (h : Region.lastB md ops m = true) {listed : Array Bool} (hm : m ∈ Region.ready md ops listed) : ∀ i ∈ Region.ready md ops listed, i = m := by
  intro i hi
  unfold Region.lastB at h
  simp only [Bool.and_eq_true] at h
  obtain ⟨hs, h⟩ := h
  have hs := Nat.eq_of_beq_eq_true hs
  obtain ⟨_, o, ho, hall⟩ := mem_ready.1 hm
  rw [ho] at h
  simp only at h
  obtain ⟨hiu, oi, hoi, _⟩ := mem_ready.1 hi
  have hil : i < m + 1 := by
    rw [← hs]
    exact (Array.getElem?_eq_some_iff.1 hoi).1
  apply Classical.byContradiction
  intro hne
  have h1 := List.all_eq_true.1 h i (List.mem_range.2 (by omega))
  rw [Array.any_eq_true] at h1
  obtain ⟨x, hx, he⟩ := h1
  simp only [Bool.and_eq_true] at he
  have := hall o.after[x] (Array.getElem_mem hx) he.2
  rw [Nat.eq_of_beq_eq_true he.1] at this
  rcases Nat.lt_or_ge i listed.size with h' | h'
  · simp [h'] at hiu this
    rw [hiu] at this
    cases this
  · simp [Array.getElem?_eq_none h'] at hiu

theorem Region.last_end {m : Nat} (h : Region.lastB md ops m = true) {listed : Array Bool} (hm : m ∈ Region.ready md ops listed) : Region.ready md ops (listed.setIfInBounds m true) = [] := by
  cases hr : Region.ready md ops (listed.setIfInBounds m true) with
  | nil => rfl
  | cons i r =>
    exfalso
    have hi : i ∈ Region.ready md ops (listed.setIfInBounds m true) := by rw [hr]; simp
    obtain ⟨hiu, oi, hoi, hall⟩ := mem_ready.1 hi
    obtain ⟨hmu, om, hom, hallm⟩ := mem_ready.1 hm
    have hsz : m < listed.size := by
      apply Classical.byContradiction
      intro hge
      rw [Array.getD, dif_neg hge] at hmu
      cases hmu
    have hne : i ≠ m := by
      rintro rfl
      simp [hsz] at hiu
    unfold Region.lastB at h
    simp only [Bool.and_eq_true] at h
    obtain ⟨hs, h⟩ := h
    have hs := Nat.eq_of_beq_eq_true hs
    rw [hom] at h
    simp only at h
    have hil : i < m + 1 := by
      rw [← hs]
      exact (Array.getElem?_eq_some_iff.1 hoi).1
    have h1 := List.all_eq_true.1 h i (List.mem_range.2 (by omega))
    rw [Array.any_eq_true] at h1
    obtain ⟨x, hx, he⟩ := h1
    simp only [Bool.and_eq_true] at he
    have := hallm om.after[x] (Array.getElem_mem hx) he.2
    rw [Nat.eq_of_beq_eq_true he.1] at this
    rw [getD_set_ne true (Ne.symm hne)] at hiu
    rcases Nat.lt_or_ge i listed.size with h' | h'
    · simp [h'] at hiu this
      rw [hiu] at this
      cases this
    · simp [Array.getElem?_eq_none h'] at hiu

theorem wpAnyE_first {m : Nat} (hL : Region.lastB md ops m = true) {Q : Act → Prop} {i : Nat} {oi : Oper} {v : Value} (hi : ops[i]? = some oi) (him : i ≠ m) (hsel : ∀ (j : Nat) (o : Oper) cs b, ops[j]? = some o → o.op ≠ .select cs b) :
    ∀ (fuel : Nat) (listed : Array Bool) (a : Act),
      (∀ j oj, ops[j]? = some oj → j ≠ i → listed.getD j true = false → (∀ e ∈ oj.after, Region.binds md e = true → e.on ≠ i) → oi.apart ops oj = true) →
      i ∈ Region.ready md ops listed → YieldsIn P ops C oi v a →
      wpAnyE P md ops C m Q fuel (listed.setIfInBounds i true) (a.put oi.dst v) → wpAnyE P md ops C m Q (fuel + 1) listed a := by
  intro fuel
  induction fuel with
  | zero =>
    intro listed a _ hr hy H
    refine ⟨fun h => absurd (Region.last_cov hL h i hr) him, fun h => (by rw [h] at hr; cases hr), fun j hj hjm => ?_⟩
    by_cases hji : j = i
    · subst hji; exact hy.qOp hi H
    · exact absurd (Region.last_cov hL H.1 j (ready_mono hj hji)) hjm
  | succ fuel ih =>
    intro listed a hfree hr hy H
    refine ⟨fun h => absurd (Region.last_cov hL h i hr) him, fun h => (by rw [h] at hr; cases hr), fun j hj hjm => ?_⟩
    by_cases hji : j = i
    · subst hji; exact hy.qOp hi H
    · have h1 := H.2.2 j (ready_mono hj hji) hjm
      obtain ⟨hjun, oj, hoj, hall⟩ := mem_ready.1 hj
      have hnot : ∀ e ∈ oj.after, Region.binds md e = true → e.on ≠ i := fun e he hb heq => by
        have h1 := hall e he hb
        have h0 := (mem_ready.1 hr).1
        rw [heq] at h1
        rcases Nat.lt_or_ge i listed.size with h' | h'
        · simp [h'] at h0 h1; rw [h0] at h1; cases h1
        · simp [Array.getElem?_eq_none h'] at h1
      have h2 := qOp_put hoj (hfree j oj hoj hji hjun hnot) (fun cs b => hsel i oi cs b hi) (fun cs b => hsel j oj cs b hoj) hy h1
      have hfree' : ∀ k ok, ops[k]? = some ok → k ≠ i → (listed.setIfInBounds j true).getD k true = false →
          (∀ e ∈ ok.after, Region.binds md e = true → e.on ≠ i) → oi.apart ops ok = true := fun k ok hk hki hun hno => by
        refine hfree k ok hk hki ?_ hno
        by_cases hjk : j = k
        · subst hjk; exact hjun
        · rw [getD_set_ne true hjk] at hun; exact hun
      refine qOp_mono (fun a' h3 => ih (listed.setIfInBounds j true) a' hfree' (ready_mono hr (Ne.symm hji)) h3.1 ?_) h2
      rw [Array.setIfInBounds_comm _ _ hji]
      exact h3.2

def Region.lexFromE (md : Region.Mode) (ops : Array Oper) (m : Nat) : Nat → Nat → Array Bool → Bool
  | 0, _, listed => (Region.ready md ops listed).contains m
  | fuel + 1, k, listed => (Region.ready md ops listed).contains k && Region.free md ops listed k && !(Nat.beq k m) && Region.lexFromE md ops m fuel (k + 1) (listed.setIfInBounds k true)

def Region.lexE (md : Region.Mode) (ops : Array Oper) (m : Nat) : Bool := Region.noSelect ops && Region.lastB md ops m && Region.lexFromE md ops m m 0 (Array.replicate ops.size false)

theorem wpAnyE_lex {m : Nat} (hL : Region.lastB md ops m = true) {Q : Act → Prop} (hs : Region.noSelect ops = true) : ∀ (l : List Oper) (k : Nat) (listed : Array Bool) (a : Act), (∀ j o, l[j]? = some o → ops[k + j]? = some o) →
    Region.lexFromE md ops m l.length k listed = true → wpQuiet P ops C Q l a → wpAnyE P md ops C m Q l.length listed a
  | [], _, _, _, _, hB, h => ⟨by simpa [Region.lexFromE] using hB, h⟩
  | o :: l, k, listed, a, hl, hB, h => by
    have h0 : ops[k]? = some o := by simpa using hl 0 o rfl
    simp only [List.length_cons, Region.lexFromE, Bool.and_eq_true] at hB
    obtain ⟨⟨⟨hr, hf⟩, hne⟩, hB'⟩ := hB
    have hst : qOp P ops C k (wpQuiet P ops C Q l) a := by unfold qOp; simp only [h0]; exact h
    obtain ⟨v, hy, hK⟩ := yieldsIn_of_qOp h0 hst
    have hkm : k ≠ m := by
      rintro rfl
      simp at hne
    exact wpAnyE_first hL h0 hkm (Region.noSelect_spec hs) l.length listed a (Region.free_spec h0 hf) (by simpa using hr) hy
      (wpAnyE_lex hL hs l (k + 1) _ _ (fun j o' ho' => by have := hl (j + 1) o' (by simpa using ho'); simpa [Nat.add_assoc, Nat.add_comm 1 j] using this) hB' hK)

theorem wpAny_of_E {m : Nat} (hL : Region.lastB md ops m = true) {Q : Act → Prop} {Q' : Exit → Act → World → Prop}
    (hQ : ∀ a w, C w → Q a → ∀ K : Act → World → Prop, (∀ a' w', Q' .normal a' w' → K a' w') → wpOp P ops Q' m K a w) : ∀ (fuel : Nat) (listed : Array Bool) (a : Act) (w : World), C w →
    wpAnyE P md ops C m Q fuel listed a → wpAny P md ops Q' (fuel + 1) listed a w
  | 0, listed, a, w, hw, h => ⟨fun h0 => (by have := h.1; rw [h0] at this; cases this), fun i hi => by
      obtain rfl := Region.last_cov hL h.1 i hi
      exact hQ a w hw h.2 _ fun a' w' hq => ⟨Region.last_end hL h.1, hq⟩⟩
  | fuel + 1, listed, a, w, hw, h => ⟨fun h0 => absurd h0 h.2.1, fun i hi => by
      by_cases him : i = m
      · subst him
        exact hQ a w hw (h.1 hi) _ fun a' w' hq => ⟨fun _ => hq, fun j hj => by rw [Region.last_end hL hi] at hj; cases hj⟩
      · exact wpOp_of_qOp hw (fun a' w' hw' hh => wpAny_of_E hL hQ fuel _ a' w' hw' hh) (h.2.2 i hi him)⟩

theorem wp_region_tail {id : Nat} {Q : Exit → Act → World → Prop} {a : Act} {w : World} {l : List Oper} {o : Oper} (hm : P.follows .mixedOrders = true) (hB : Region.lexE .any (l ++ [o]).toArray l.length = true) (hC : C { w with drawn := w.drawn + 1 })
    (h : wpQuiet P (l ++ [o]).toArray C (fun a' => ∀ w', C w' → ∀ K : Act → World → Prop, (∀ a' w', Q .normal a' w' → K a' w') → wpOp P (l ++ [o]).toArray Q l.length K a' w') l a) : (Code.region id (l ++ [o]).toArray true).wp P Q a w := by
  simp only [Region.lexE, Bool.and_eq_true] at hB
  obtain ⟨⟨hs, hL⟩, hX⟩ := hB
  have := wpAnyE_lex (P := P) (C := C) hL hs l 0 (Array.replicate (l ++ [o]).toArray.size false) a (by
    intro j x hx
    have hj : j < l.length := (List.getElem?_eq_some_iff.1 hx).1
    rw [Nat.zero_add]
    simp only [List.getElem?_toArray]
    rw [List.getElem?_append_left hj]
    exact hx) hX h
  have := wpAny_of_E (P := P) (Q' := Q) hL (fun a w hw hq K hK => hq w hw K hK) _ _ _ _ hC this
  refine wp_region_any hm ?_
  simpa using this
end
end Go

namespace Go.Av
open Go Go.RowKit

section
variable {X : Fx} {g : Gx} {st st' : St} {a : Act} {w w' : World} {β β' : Env} {F : Key → List Nat} {L : Nat → Prop} {K : List Item} {k : List Item}
variable {ops : Array Oper} {i : Nat} {rest : List Nat} {o : Oper}

/-- What a store into a box leaves. -/
def stStore (X : Fx) (st : St) (o : Oper) : Option St :=
  match o.dst, o.guard, o.op with
  | none, none, .store t p x => match X.T t, st.ev p with
    | some ti, .bp id j => match st.obj id with
      | .box cs => bif (st.ev x).okc && (st.ev x).pl && Nat.beq (st.ev x).cells.length ti.sz && Nat.ble (j + ti.sz) cs.length then some (st.setObj id (.box (putAt cs j (st.ev x).cells))) else none
      | _ => none
    | _, _ => none
  | _, _, _ => none

theorem stStore_ok {st' : St} (hs : stStore X st o = some st') (hX : X.Ok) (hI : SR X g st a w) : ∃ w', (execOp a.eval o).run X.P w = .ok .skip w' ∧ SR X g st' (a.put o.dst undef) w' ∧ o.guard = none := by
  unfold stStore at hs
  split at hs
  · rename_i t p x hd hgd hop
    split at hs
    · rename_i ti id j hti hp
      split at hs
      · rename_i cs hob
        by_cases hc : ((st.ev x).okc && (st.ev x).pl && Nat.beq (st.ev x).cells.length ti.sz && Nat.ble (j + ti.sz) cs.length) = true
        · rw [hc] at hs
          simp only [cond_true, Option.some.injEq] at hs
          subst hs
          simp only [Bool.and_eq_true] at hc
          obtain ⟨⟨⟨h1, h2⟩, h3⟩, h4⟩ := hc
          obtain ⟨w', hu, hI'⟩ := hI.storev hX hti hp hob h1 h2 (Nat.eq_of_beq_eq_true h3) (Nat.le_of_ble_eq_true h4)
          refine ⟨w', ?_, by rw [hd]; exact hI', hgd⟩
          simp [execOp, hop, hu]
        · simp only [Bool.not_eq_true] at hc; rw [hc] at hs; simp at hs
      · cases hs
    · cases hs
  · cases hs

/-- A region whose order is drawn: it reads, and then it stores into a box. -/
theorem Run.drawSt {id : Nat} {L : List Oper} {o : Oper} (hl : L = L.dropLast ++ [o]) (hm : X.P.follows .mixedOrders = true) (hB : Region.lexE .any L.toArray L.dropLast.length = true)
    (h : Quiet X g L.toArray (fun st' => ∃ st'', stStore X st' o = some st'' ∧ Run X g k st'') L.dropLast st) (hrd : g.rd = none := by first | exact rd_plain (by assumption) | exact rd_marked (by assumption)) : Run X g (.code (.region id L.toArray true) :: k) st := by
  generalize L.dropLast = l at hl hB h
  subst hl
  intro hX a w b cs hI hf hk
  obtain ⟨β, F, hI⟩ := hI
  have hwp := wp_region_tail (P := X.P) (l := l) (o := o) (id := id) (a := a) (w := w) (C := fun w' => Kp [] w w')
    (Q := fun e a' w' => e = .normal ∧ ∃ st', Run X g k st' ∧ SR X g st' a' w') hm hB ⟨rfl, rfl, rfl, Nat.le_refl _, fun _ _ _ => rfl⟩ (by
      have := h hX a w β F hI
      refine wpQuiet_mono' ?_ this
      rintro a' ⟨st', β', F', ⟨st'', hs, hK⟩, hI'⟩ w' hw' K hKq
      have hI2 : SR X g st' a' w' := ⟨β', F', hI'.world (M := fun _ => False) (hI.kp.trans hw' (by simp)) (fun b hb _ => hw'.block b hb (by simp)) (fun _ h => h.elim) (fun _ _ h => h) (fun _ _ _ h => h)⟩
      obtain ⟨w2, hr, hI3, hgd⟩ := stStore_ok hs hX hI2
      unfold wpOp
      have ho : (l ++ [o]).toArray[l.length]? = some o := by simp
      rw [ho]
      simp only
      have hwt : Region.wanted o (yielded (l ++ [o]).toArray a'.tmps) = true := by simp [Region.wanted, hgd]
      rw [if_pos hwt]
      refine .inl ?_
      unfold Oper.wp
      rw [hr]
      exact hKq _ _ ⟨rfl, st'', hK, hI3⟩)
  obtain ⟨e, a', w', ⟨rfl, st', hK, hI'⟩, harr⟩ := hwp b k cs
  obtain ⟨v, w2, fr, hp, hst⟩ := hK hX a' w' b cs hI' hf hk
  rw [Frame.atR_of_none (hk.2.trans hrd)] at hst ⊢
  exact ⟨v, w2, fr, hp, Steps.trans harr hst⟩

end
end Go.Av

/- A region whose order is drawn, by what has been done so far: one state for each set of operations that may be behind us. -/
namespace Go.Av
open Go Go.RowKit

def afterOf (md : Region.Mode) (ops : Array Oper) (i : Nat) : List Nat :=
  match ops[i]? with
  | some o => (o.after.toList.filter fun e => Region.binds md e).map (·.on)
  | none => []
def succOf (md : Region.Mode) (ops : Array Oper) (i : Nat) : List Nat := (List.range ops.size).filter fun j => (afterOf md ops j).contains i
def AllD (D : Nat → Bool) (b : Bool) : List Nat → Prop
  | [] => True
  | x :: xs => D x = b ∧ AllD D b xs
theorem AllD.of {D : Nat → Bool} {b : Bool} : ∀ {l : List Nat}, (∀ x ∈ l, D x = b) → AllD D b l
  | [], _ => trivial
  | x :: xs, h => ⟨h x (by simp), AllD.of fun y hy => h y (by simp [hy])⟩

theorem AllD.mem {D : Nat → Bool} {b : Bool} : ∀ {l : List Nat}, AllD D b l → ∀ x ∈ l, D x = b
  | [], _, x, hx => by simp at hx
  | y :: l, h, x, hx => by
    rcases List.mem_cons.1 hx with rfl | hx
    · exact h.1
    · exact AllD.mem h.2 x hx
theorem ideal_sub {D : Nat → Bool} {b : Bool} {l l' : List Nat} (h : AllD D b l) (hs : (l'.all fun x => l.contains x) = true) : AllD D b l' :=
  AllD.of fun x hx => h.mem x (by simpa using List.all_eq_true.1 hs x hx)

/-- What an operation waits for comes ahead of it. -/
def downB (md : Region.Mode) (ops : Array Oper) : Bool := (List.range ops.size).all fun i => (afterOf md ops i).all fun j => Nat.blt j i

theorem mem_afterOf {md : Region.Mode} {ops : Array Oper} {i j : Nat} {o : Oper} (ho : ops[i]? = some o) : j ∈ afterOf md ops i ↔ ∃ e ∈ o.after, Region.binds md e = true ∧ e.on = j := by
  unfold afterOf
  rw [ho]
  simp only [List.mem_map, List.mem_filter, Array.mem_toList_iff]
  constructor
  · rintro ⟨e, ⟨h1, h2⟩, h3⟩
    exact ⟨e, h1, h2, h3⟩
  · rintro ⟨e, h1, h2, h3⟩
    exact ⟨e, ⟨h1, h2⟩, h3⟩

theorem getD_ft {a : Array Bool} {j : Nat} (h : a.getD j false = true) : a.getD j true = true := by
  by_cases hj : j < a.size
  · simpa [hj] using h
  · simp [hj]
theorem getD_tf {a : Array Bool} {j : Nat} (hj : j < a.size) (h : a.getD j true = true) : a.getD j false = true := by
  simpa [hj] using h

/-- Whatever has been, what it waits for has been. -/
def IdealD (ops : Array Oper) (D : Nat → Bool) : Prop := ∀ i j, i < ops.size → j ∈ afterOf .any ops i → D i = true → D j = true
theorem ideal_no {ops : Array Oper} {D : Nat → Bool} (h : IdealD ops D) {i j : Nat} (hij : (Nat.blt i ops.size && (afterOf .any ops i).contains j) = true) (hj : D j = false) : D i = false := by
  simp only [Bool.and_eq_true, List.contains_iff_mem] at hij
  cases hi : D i with
  | false => rfl
  | true => rw [h i j (blt_lt hij.1) hij.2 hi] at hj; cases hj

section
variable {X : Fx} {g : Gx} {st : St} {k : List Item} {ops : Array Oper}

theorem ready_nil {md : Region.Mode} {listed : Array Bool} (hd : downB md ops = true) (hs : listed.size = ops.size) (hr : Region.ready md ops listed = []) : ∀ i, listed.getD i true = true := by
  intro i
  induction i using Nat.strongRecOn with
  | _ i ih =>
    by_cases hi : i < ops.size
    · apply Classical.byContradiction
      intro hf
      have hf : listed.getD i true = false := by simpa using hf
      have : i ∈ Region.ready md ops listed := by
        refine mem_ready.2 ⟨hf, ops[i], Array.getElem?_eq_getElem hi, fun e he hb => ?_⟩
        have h1 := List.all_eq_true.1 (List.all_eq_true.1 hd i (List.mem_range.2 hi)) e.on ((mem_afterOf (Array.getElem?_eq_getElem hi)).2 ⟨e, he, hb, rfl⟩)
        have h1 := blt_lt h1
        exact getD_tf (by omega) (ih e.on h1)
      rw [hr] at this
      cases this
    · simp [show ¬ i < listed.size by omega]

theorem ideal_run {S : (Nat → Bool) → St} (hd : downB .any ops = true) (hend : Run X g (.inRegion ops [] :: k) (S fun _ => true))
    (hstep : AllL (fun i => ∀ D, IdealD ops D → D i = false → AllD D true (afterOf .any ops i) → AllD D false (succOf .any ops i) → ∀ rest, Run X g (.inRegion ops rest :: k) (S fun j => j == i || D j) →
      Run X g (.inRegion ops (i :: rest) :: k) (S D)) (List.range ops.size)) :
    ∀ (n : Nat) (listed : Array Bool), listed.size = ops.size → (∀ i o, ops[i]? = some o → listed.getD i true = true → ∀ e ∈ o.after, Region.binds .any e = true → listed.getD e.on true = true) →
      (List.range ops.size).countP (fun i => !listed.getD i true) ≤ n → ∀ l ∈ ords .any ops n listed, Run X g (.inRegion ops l :: k) (S fun i => listed.getD i true) := by
  intro n
  have fin : ∀ listed : Array Bool, (∀ i, listed.getD i true = true) → Run X g (.inRegion ops [] :: k) (S fun i => listed.getD i true) := by
    intro listed h
    rw [show (fun i => listed.getD i true) = fun _ => true from funext h]
    exact hend
  induction n with
  | zero =>
    intro listed hs hc hn l hl
    simp only [ords, List.mem_singleton] at hl
    subst hl
    refine fin listed fun i => ?_
    have h0 := List.countP_eq_zero.1 (Nat.le_zero.1 hn)
    by_cases hi : i < ops.size
    · simpa using h0 i (List.mem_range.2 hi)
    · simp [show ¬ i < listed.size by omega]
  | succ n ih =>
    intro listed hs hc hn l hl
    simp only [ords] at hl
    split at hl
    · rename_i hr
      simp only [List.mem_singleton] at hl
      subst hl
      exact fin listed (ready_nil hd hs hr)
    · rename_i rs hr
      obtain ⟨i, hi, hl⟩ := List.mem_flatMap.1 hl
      obtain ⟨l', hl', rfl⟩ := List.mem_map.1 hl
      obtain ⟨hiu, o, ho, hall⟩ := mem_ready.1 hi
      have his : i < ops.size := (Array.getElem?_eq_some_iff.1 ho).1
      have hD : ∀ j, (listed.setIfInBounds i true).getD j true = (j == i || listed.getD j true) := by
        intro j
        by_cases e : i = j
        · subst e
          simp [hs, his]
        · rw [getD_set_ne true e]
          have : (j == i) = false := by simpa using fun h => e h.symm
          rw [this, Bool.false_or]
      have hrun := ih (listed.setIfInBounds i true) (by simpa using hs) (by
        intro j oj hoj hj e he hb
        rw [hD] at hj ⊢
        rw [Bool.or_eq_true] at hj ⊢
        rcases hj with hj | hj
        · have : j = i := by simpa using hj
          subst this
          rw [ho] at hoj
          cases hoj
          exact .inr (getD_ft (hall e he hb))
        · exact .inr (hc j oj hoj hj e he hb)) (by
        have hlt : (List.range ops.size).countP (fun j => !(listed.setIfInBounds i true).getD j true) < (List.range ops.size).countP (fun j => !listed.getD j true) := by
          have hsplit : List.range ops.size = List.range i ++ i :: (List.range (ops.size - i - 1)).map (i + 1 + ·) := by
            have h1 : ops.size = i + (1 + (ops.size - i - 1)) := by omega
            conv => lhs; rw [h1]
            rw [List.range_add, List.range_add]
            simp [Function.comp_def, Nat.add_assoc]
          rw [hsplit, List.countP_append, List.countP_append, List.countP_cons, List.countP_cons]
          have e1 : ∀ L : List Nat, L.countP (fun j => !(listed.setIfInBounds i true).getD j true) ≤ L.countP (fun j => !listed.getD j true) := by
            intro L
            refine List.countP_mono_left fun j _ hj => ?_
            rw [hD] at hj
            simp only [Bool.not_eq_true', Bool.or_eq_false_iff] at hj ⊢
            exact hj.2
          have e2 := e1 (List.range i)
          have e3 := e1 ((List.range (ops.size - i - 1)).map (i + 1 + ·))
          rw [hD i, hiu, show (i == i) = true from by simp]
          simp only [Bool.true_or, Bool.not_true, Bool.false_eq_true, if_false, Bool.not_false, if_true]
          omega
        omega) l' hl'
      have hid : IdealD ops fun j => listed.getD j true := by
        intro x y hx hy hDx
        obtain ⟨e, he, hb, rfl⟩ := (mem_afterOf (Array.getElem?_eq_getElem hx)).1 hy
        exact hc x _ (Array.getElem?_eq_getElem hx) hDx e he hb
      refine (AllL.mem hstep i (List.mem_range.2 his)) _ hid hiu (AllD.of fun j hj => ?_) (AllD.of fun j hj => ?_) l' ?_
      · obtain ⟨e, he, hb, rfl⟩ := (mem_afterOf ho).1 hj
        exact getD_ft (hall e he hb)
      · simp only [succOf, List.mem_filter, List.mem_range, List.contains_iff_mem] at hj
        obtain ⟨hjs, hj⟩ := hj
        obtain ⟨e, he, hb, heq⟩ := (mem_afterOf (Array.getElem?_eq_getElem hjs)).1 hj
        cases hx : listed.getD j true with
        | false => rfl
        | true =>
          have := hc j _ (Array.getElem?_eq_getElem hjs) hx e he hb
          rw [heq, hiu] at this
          cases this
      · rw [show (fun j => j == i || listed.getD j true) = fun j => (listed.setIfInBounds i true).getD j true from funext fun j => (hD j).symm]
        exact hrun

/-- A region whose order is drawn; S D: the state when D says of each operation whether it has been. -/
theorem Run.drawI {id : Nat} (S : (Nat → Bool) → St) (hm : X.P.follows .mixedOrders = true) (hd : downB .any ops = true) (h0 : St.Le (S fun i => !Nat.blt i ops.size) st) (hend : Run X g k (S fun _ => true))
    (hstep : ∀ k', AllL (fun i => ∀ D, IdealD ops D → D i = false → AllD D true (afterOf .any ops i) → AllD D false (succOf .any ops i) → ∀ rest, Run X g (.inRegion ops rest :: k') (S fun j => j == i || D j) →
      Run X g (.inRegion ops (i :: rest) :: k') (S D)) (List.range ops.size)) : Run X g (.code (.region id ops true) :: k) st := by
  intro hX a w b cs hI hf hk
  have key : ∀ t, Run X g (.inRegion ops (Region.schedule (X.P.follows .mixedOrders) ops t) :: k) (S fun i => !Nat.blt i ops.size) := by
    intro t
    have hmem : Region.schedule (X.P.follows .mixedOrders) ops t ∈ ords .any ops ops.size (Array.replicate ops.size false) := by
      simp only [Region.schedule, hm, Bool.true_or, if_true]
      exact linearise_mem .any ops ops.size t _
    have h1 : ∀ i, (Array.replicate ops.size false).getD i true = !Nat.blt i ops.size := by
      intro i
      by_cases hi : i < ops.size
      · have : Nat.blt i ops.size = true := Nat.ble_eq_true_of_le hi
        rw [this]
        simp [hi]
      · have : Nat.blt i ops.size = false := by
          cases hb : Nat.blt i ops.size with
          | false => rfl
          | true => exact absurd (blt_lt hb) hi
        rw [this]
        simp [hi]
    have := ideal_run (S := S) (k := k) hd (Run.ctl rfl hend) (hstep k) ops.size (Array.replicate ops.size false) (by simp) (by
      intro i o ho hl
      rw [h1] at hl
      have his : i < ops.size := (Array.getElem?_eq_some_iff.1 ho).1
      have : Nat.blt i ops.size = true := Nat.ble_eq_true_of_le his
      rw [this] at hl
      cases hl) (by
      refine Nat.le_trans List.countP_le_length ?_
      simp) _ hmem
    rwa [show (fun i => (Array.replicate ops.size false).getD i true) = fun i => !Nat.blt i ops.size from funext h1] at this
  obtain ⟨v, w', fr, hp, hst⟩ := Run.le h0 (key _) hX a _ b cs hI.draw hf hk
  exact ⟨v, w', fr, hp, .head stepR_region_draw hst⟩
end
end Go.Av

/- append of the elements of a slice that is only read; a slice held against nil. -/
namespace Go.Av
open Go Go.RowKit

section
variable {X : Fx} {g : Gx} {st st' : St} {a : Act} {w w' : World} {β β' : Env} {F : Key → List Nat} {L : Nat → Prop} {K : List Item} {k : List Item}
variable {ops : Array Oper} {i : Nat} {rest : List Nat} {o : Oper}

theorem run_eqNil {P : Program} {t e : TypeId} (hu : P.underlying t = some (.slice e)) (A : Option Addr) (l m n c : Nat) (w : World) : (Op.equal t (.slice A l m) (.slice none n c)).run P w = .ok A.isNone w := by
  show (Op.equalIn (9999 + 1) t _ _).run P w = _
  unfold Op.equalIn
  cases A with
  | none => simp [run_underlying hu]
  | some A => simp [run_underlying hu]

/-- A slice that is only read, held against nil: yes only if it has no element. -/
theorem Run.roNil {d t t2 : Nat} {x : Operand} {ti : TI} {e n c : Nat} {sz : Nat} {ex : Bool} {xs : List AV} (ho : ops[i]? = some o) (hg : guardOf ops st o = some true) (hd : o.dst = some d)
    (hop : o.op = .binOp .eql t x (.const (.slice none n c)) t2) (hT : X.T t = some ti) (hud : ti.ud = .slice e) (hx : st.ev x = .ro sz ex xs)
    (hdn : (Nat.blt d X.fn.ntmps && !(X.pins.contains d)) = true)
    (h : ∀ b : Bool, (b = true → xs = []) → Run X g (.inRegion ops rest :: k) (st.put d (.lit (.bool b)))) : Run X g (.inRegion ops (i :: rest) :: k) st := by
  simp only [Bool.and_eq_true, Bool.not_eq_true'] at hdn
  refine Run.opE (π := { b : Bool // b = true → xs = [] }) (fun p => st.put d (.lit (.bool p.1))) ho (fun a w hI => guardOf_ok hg a w hI) ?_ fun p => h p.1 p.2
  rintro hX a w ⟨β, F, hI⟩
  have hu : X.P.underlying t = some (.slice e) := by rw [(ty_of hX hT).ud, hud]
  have hR := ev_rel hI x (by rw [hx]; rfl)
  rw [hx] at hR
  generalize hv : a.eval x = v at hR
  have fin : ∀ (A : Option Addr) (l m : Nat), v = .slice A l m → (A.isNone = true → xs = []) → ∃ p : { b : Bool // b = true → xs = [] }, ∃ u w', ((execOp a.eval o).run X.P w = .ok (.value u) w' ∨ ((execOp a.eval o).run X.P w = .ok .skip w' ∧ u = undef)) ∧ SR X g (st.put d (.lit (.bool p.1))) (a.put o.dst u) w' := by
    intro A l m hA hn
    subst hA
    refine ⟨⟨A.isNone, hn⟩, .bool A.isNone, w, .inl ?_, ?_⟩
    · have e1 : (binOp .eql t (.slice A l m) (.slice none n c)).run X.P w = .ok (.bool A.isNone) w := by
        have := run_eqNil hu A l m n c w
        simp [binOp, this]
      have e2 : (eqGuard .eql t x (.const (.slice none n c)) (.slice A l m) (.slice none n c)).run X.P w = .ok () w := by simp [eqGuard]
      have e3 : a.eval (.const (.slice none n c)) = .slice none n c := rfl
      simp only [execOp, hop, hv, e3, Sem.run_bind, e1, e2, Result.andThen_ok, Sem.run_pure]
    · rw [hd]
      exact hI.putv (blt_lt hdn.1) (contains_iff hdn.2) (.lit _ _)
  cases hR with
  | roNil => exact fin _ _ _ rfl fun _ => rfl
  | ro _ _ _ _ b o' c' vals hL hz hl hrow hr hc hm he => exact fin _ _ _ rfl fun hh => by cases hh

/-- append(s, t...) where s is an object and t is only read. -/
theorem Run.appendr {d s t u te : Nat} {x : Operand} {ti tu : TI} {id : Id} {n sz : Nat} {ex ex' : Bool} {xs ys : List AV} (ho : ops[i]? = some o) (hg : guardOf ops st o = some true) (hd : o.dst = some d)
    (hop : o.op = .call ⟨.builtin .append, #[.tmp s, x], #[t, u]⟩) (hT : sliceAt X.T t = some (te, ti)) (hU : X.T u = some tu) (hui : (match tu.ud with | .slice _ => true | .string => true | _ => false) = true)
    (hs : st.get s = .vec id 0 n) (hob : st.obj id = .vec sz ex xs) (he : st.ev x = .ro sz ex' ys) (hsz : ti.sz = sz) (hzl : Nat.beq ti.zero.length ti.sz = true) (hn : n = xs.length)
    (hone : oneC ys = true) (hlen : (xs.length + ys.length) * ti.by' ≤ 140737488355328) (hcap : xs.length + ys.length ≤ capMax) (hdn : (Nat.blt d X.fn.ntmps && !(X.pins.contains d)) = true)
    (h : Run X g (.inRegion ops rest :: k) ((st.setObj id .gone).put d (.own sz false (xs ++ ys)))) : Run X g (.inRegion ops (i :: rest) :: k) st := by
  subst hsz
  simp only [Bool.and_eq_true, Bool.not_eq_true'] at hdn
  refine Run.op ho (fun a w hI => guardOf_ok hg a w hI) ?_ h
  rintro hX a w ⟨β, F, hI⟩
  obtain ⟨i', h1, h2, h3⟩ := sliceAt_ok hX hT
  have hu := ty_of hX hU
  have hsv := hI.slotv (d := s) (by rw [hs]; simp)
  rw [hs] at hsv
  rw [hsv.vec_nil] at hsv
  have hobj := hI.obj id
  rw [hob] at hobj
  obtain ⟨v, hβ, hown⟩ := hobj
  obtain ⟨G, hG, hx⟩ := hsv.vec_own hn hβ hown
  have hGs : ∀ b ∈ G, b ∈ F (.o id) := by rintro b hb; rcases hG with rfl | rfl; exact hb; simp at hb
  have hGn : G.Nodup := by rcases hG with rfl | rfl; exact hI.sep.nodup _; simp
  obtain ⟨vx, Fx, Bx, ocx, hzx, hvx, hrx, hGx⟩ := hx.ownCells
  rw [hGx] at hGn
  obtain ⟨nx1, nx2, nx3⟩ := List.nodup_append.1 hGn
  have hxs : ∀ b, b ∈ Bx ∨ b ∈ foots Fx (flatc xs).length → b ∈ F (.o id) := fun b hb => hGs b (by rw [hGx]; exact List.mem_append.2 hb)
  -- what is read
  have hey : ∃ (A : Option Addr) (c : Nat) (vy : List Value), a.eval x = .slice A ys.length c ∧ vy.length = ys.length * ti.sz ∧ (∀ y ∈ ys, y.cells.length = ti.sz) ∧
      (∀ w2 : World, w2.heap = w.heap → (Builtin.firstCells ti.sz ys.length (a.eval x)).run X.P w2 = .ok vy.toArray w2) ∧
      (∀ (k : Nat) (x : AV) (u : Value), (flatc ys)[k]? = some x → vy[k]? = some u → Rel w (Lv g F) noEnv x u []) := by
    have hR := ev_rel hI x (by rw [he]; rfl)
    rw [he] at hR
    generalize a.eval x = vv at hR
    cases hR with
    | roNil _ _ _ A c hc he' =>
      refine ⟨A, c, [], rfl, by simp, by simp, fun w2 _ => ?_, by simp [flatc]⟩
      cases A with
      | none => rfl
      | some A => simp [Builtin.firstCells, loadCells, loadCellsFrom]
    | ro _ _ _ _ b o' c vals hL hz hl hrow hr hc hm he' =>
      have hvl : vals.length = ys.length * ti.sz := by rw [← hl, flatc_length hz]
      refine ⟨_, c, vals, rfl, hvl, hz, fun w2 hw2 => ?_, hr⟩
      refine run_firstCells_some (P := X.P) w2 ti.sz ys.length ⟨b, o', none⟩ ys.length c vals hvl fun k v hk => ?_
      rw [addr_add]
      have := hrow k v hk
      simpa [World.cell?, hw2] using this
  obtain ⟨Ay, cy, vy, huy, hvy, hzy, hfy, hry⟩ := hey
  have hone' : ∀ c ∈ vy, c.oneCell' = true := by
    intro c hc
    obtain ⟨k, hk, rfl⟩ := List.getElem_of_mem hc
    have hk' : k < (flatc ys).length := by rw [flatc_length hzy, ← hvy]; exact hk
    exact ((hry k _ _ (List.getElem?_eq_getElem hk') (List.getElem?_eq_getElem hk)).oneCell (oneC_flat hone k _ (List.getElem?_eq_getElem hk'))).1
  have hdu : ∀ kk, tu.ud ≠ .int kk := by intro kk e; rw [e] at hui; cases hui
  have ht' : X.P.underlying t = some (.slice te) := by rw [h1.ud, h2]
  obtain ⟨v', w', Bs', e1, e2, e3, e4⟩ := append_run (P := X.P) (w := w) (t := t) (u := u) (ty := o.type) ht' hu.ud hdu h3 (Nat.eq_of_beq_eq_true hzl) ocx (x := a.eval x) (m := ys.length) (news := vy)
    (fun w2 => by rw [huy]; rfl) (fun w2 hw2 => hfy w2 hw2) hvy hone' hlen hcap
  refine ⟨v', w', .inl ?_, ?_⟩
  · obtain ⟨dst, op, type, pos, after, guard⟩ := o
    simp only at hop
    subst hop
    simp only [execOp, Sem.run_bind, resolve_builtin, Result.andThen_ok, invoke, builtin]
    have e1' : (Builtin.append_ #[t, u] type #[a.eval (.tmp s), a.eval x]).run X.P w = .ok v' w' := e1
    simp [e1']
  · rw [hd]
    have h0 : Inv X g (st.setObj id .gone) a w β (updF F (.o id) []) (Lv g F) := hI.setOb id .gone rfl (by simp) (by simp) (by simp)
    have hsub : ∀ kk b, b ∈ updF F (.o id) [] kk → b ∈ F kk ∧ kk ≠ .o id := by
      intro kk b hb
      by_cases x2 : kk = .o id
      · subst x2; rw [updF_same] at hb; simp at hb
      · rw [updF_ne _ x2] at hb; exact ⟨hb, x2⟩
    have hfo := foots_append Fx (fun _ => []) (flatc xs).length (flatc ys).length
    have hfn : foots (fun _ => []) (flatc ys).length = [] := foots_nil fun _ _ => rfl
    rw [hfn, List.append_nil] at hfo
    have hfl : (flatc (xs ++ ys)).length = (flatc xs).length + (flatc ys).length := by rw [flatc_append, List.length_append]
    have apx : ∀ b kk, b ∈ F (.o id) → b ∉ updF F (.o id) [] kk := fun b kk hb hb' => by
      obtain ⟨q1, q2⟩ := hsub kk b hb'
      exact hI.sep.apart _ _ b (Ne.symm q2) hb q1
    refine h0.made (L := Lv g F) (zs := xs ++ ys) (Hs := fun kk => if kk < (flatc xs).length then Fx kk else []) (fun kk b hb => Lv_of (hsub kk b hb).1) (fun b hb => .inl hb) e3
      (fun b hb => ⟨Lv_of (hxs b (.inl hb)), fun kk => apx b kk (hxs b (.inl hb)), hI.range _ b (hxs b (.inl hb))⟩) e4 nx1 e2 (by simp) ?_ ?_ ?_ ?_ (blt_lt hdn.1) (contains_iff hdn.2)
    · intro x hx'
      rcases List.mem_append.1 hx' with hx' | hx'
      · exact hzx x hx'
      · exact hzy x hx'
    · intro kk x uu hx' hu'
      rw [flatc_append] at hx'
      have hvxl : vx.length = (flatc xs).length := by rw [hvx, flatc_length hzx]
      by_cases hk : kk < (flatc xs).length
      · rw [List.getElem?_append_left hk] at hx'
        rw [List.getElem?_append_left (by omega)] at hu'
        simp only [if_pos hk]
        exact hrx kk x uu hx' hu'
      · rw [List.getElem?_append_right (by omega)] at hx'
        rw [List.getElem?_append_right (by omega), hvxl] at hu'
        simp only [if_neg hk]
        exact hry _ x uu hx' hu'
    · rw [hfl]
      refine (congrArg List.Nodup hfo).mpr nx2
    · intro b hb
      rw [hfl] at hb
      have hb : b ∈ foots Fx (flatc xs).length := by rw [← hfo]; exact hb
      exact ⟨Lv_of (hxs b (.inr hb)), fun hb' => nx3 b hb' b hb rfl, fun kk => apx b kk (hxs b (.inr hb)), hI.range _ b (hxs b (.inr hb)), hI.lt _ b (hxs b (.inr hb))⟩
end
end Go.Av

/- Own slices given away for good, or shortened; append to a slice without room, which stays. -/
namespace Go.Av
open Go Go.RowKit

section
variable {X : Fx} {g : Gx} {st st' : St} {a : Act} {w w' : World} {β β' : Env} {F : Key → List Nat} {L : Nat → Prop} {K : List Item} {k : List Item}
variable {ops : Array Oper} {i : Nat} {rest : List Nat} {o : Oper}

theorem foots_prefix {Fs : Nat → List Nat} {n m : Nat} (h : n ≤ m) : ∃ r, foots Fs m = foots Fs n ++ r := by
  unfold foots
  obtain ⟨d, rfl⟩ := Nat.exists_eq_add_of_le h
  rw [List.range_add, List.flatMap_append]
  exact ⟨_, rfl⟩

theorem flatc_take_get {xs : List AV} {sz m : Nat} (hz : ∀ x ∈ xs, x.cells.length = sz) {k : Nat} {x : AV} (h : (flatc (xs.take m))[k]? = some x) : (flatc xs)[k]? = some x := by
  have : flatc xs = flatc (xs.take m) ++ flatc (xs.drop m) := by rw [← flatc_append, List.take_append_drop]
  rw [this, List.getElem?_append_left (List.getElem?_eq_some_iff.1 h).1]
  exact h

/-- The head of an own slice, when nothing else of it is wanted any more. -/
theorem Rel.vec_take {id : Id} {sz : Nat} {ex : Bool} {xs : List AV} {u v : Value} {G G' : List Nat} {m : Nat} (h : Rel w L β (.vec id 0 m) u G') (hm : m ≤ xs.length)
    (hβ : β id = some (v, sz)) (ho : Rel w L β (.own sz ex xs) v G) (hn : G.Nodup) : ∃ G1, (∀ b ∈ G1, b ∈ G) ∧ G1.Nodup ∧ Rel w L β (.own sz false (xs.take m)) u G1 := by
  have nil : ∀ A : Option Addr, m = 0 → u = .slice A 0 0 → ∃ G1, (∀ b ∈ G1, b ∈ G) ∧ G1.Nodup ∧ Rel w L β (.own sz false (xs.take m)) u G1 := by
    rintro A rfl rfl
    exact ⟨[], by simp, by simp, .ownNil _ _ _ _⟩
  cases ho with
  | ownNil _ _ _ A =>
    obtain rfl : m = 0 := by simpa using hm
    generalize hx : (AV.vec id 0 0) = x at h
    cases h with
    | vec _ _ _ _ b n c sz' A' hβ' ho hA hn =>
      injection hx with h1 h2 h3
      subst h1; subst h2; subst h3
      rw [hβ] at hβ'
      injection hβ' with hβ'
      injection hβ' with hβ' _
      injection hβ' with _ h4 h5
      subst h5
      exact nil _ rfl rfl
    | vecNil _ _ _ _ A' hβ' => exact nil _ rfl rfl
    | _ => cases hx
  | own _ _ _ _ b c arr T lo hi Fs hb hfz hs hz hr hc hmm he =>
    generalize hx : (AV.vec id 0 m) = x at h
    cases h with
    | vec _ _ _ _ b' n c' sz' A' hβ' ho hA hn' =>
      injection hx with h1 h2 h3
      subst h1; subst h2; subst h3
      rw [hβ] at hβ'
      injection hβ' with hβ'
      injection hβ' with hβ' hs'
      injection hβ' with h3 h4 h5
      injection h3 with h3
      injection h3 with h3 _ _
      subst h5
      subst hs'
      subst h3
      by_cases hc0 : c = 0
      · subst hc0
        exact nil _ (by omega) (by rw [show m = 0 by omega])
      · obtain rfl := hA (by omega)
        have hzt : ∀ x ∈ xs.take m, x.cells.length = sz := fun x hx => hz x (List.mem_of_mem_take hx)
        have hlt : (flatc (xs.take m)).length ≤ (flatc xs).length := by
          rw [flatc_length hzt, flatc_length hz]
          exact Nat.mul_le_mul_right _ (by simp; omega)
        obtain ⟨r, hr'⟩ := foots_prefix (Fs := Fs) hlt
        refine ⟨b :: foots Fs (flatc (xs.take m)).length, ?_, ?_, ?_⟩
        · intro x hx
          rw [hr']
          rcases List.mem_cons.1 hx with rfl | hx
          · simp
          · exact List.mem_cons_of_mem _ (List.mem_append_left _ hx)
        · rw [hr', ← List.cons_append] at hn
          exact (List.nodup_append.1 hn).1
        · have hml : (xs.take m).length = m := by simp; omega
          have := Rel.own (L := L) β sz false (xs.take m) b c arr T lo hi Fs hb hfz hs hzt (fun k x u hx hu => hr k x u (flatc_take_get hz hx) hu) (by rw [hml]; omega) hmm (fun h => by cases h)
          rw [hml] at this
          simpa using this
    | vecNil _ _ _ A A' hβ' =>
      injection hx with h1 h2 h3
      subst h3
      exact nil _ rfl rfl
    | _ => cases hx

theorem SR.packTake {d sz : Nat} {ex : Bool} {xs : List AV} {id : Id} {m : Nat} (hd : st.get d = .vec id 0 m) (ho : st.obj id = .vec sz ex xs) (hm : m ≤ xs.length)
    (h : SR X g st a w) : SR X g ((st.setObj id .gone).put d (.own sz false (xs.take m))) a w := by
  obtain ⟨β, F, h⟩ := h
  obtain ⟨u, hu, hr⟩ := h.slot d
  rw [hd] at hr
  have hob := h.obj id
  rw [ho] at hob
  obtain ⟨v, hβ, hown⟩ := hob
  obtain ⟨G, hGs, hGn, hown'⟩ := hr.vec_take hm hβ hown (h.sep.nodup _)
  have hne : Key.s d ≠ Key.o id := by intro e; cases e
  have hL : ∀ b, Lv g (updF (updF F (.o id) []) (.s d) G) b → Lv g F b := fun b hb => Lv_upd2 hGs hb
  refine ⟨β, updF (updF F (.o id) []) (.s d) G, h.defers, h.size, h.kp, h.sep.move hne hGs hGn, ?_, ?_, ?_, h.pin⟩
  · intro k b hb
    by_cases e : k = .s d
    · subst e; rw [updF_same] at hb; exact h.range _ b (hGs b hb)
    · rw [updF_ne _ e] at hb
      by_cases e2 : k = .o id
      · subst e2; rw [updF_same] at hb; simp at hb
      · rw [updF_ne _ e2] at hb; exact h.range _ b hb
  · intro j
    rw [St.get_put, St.get_setObj]
    by_cases hj : d = j
    · subst hj
      rw [if_pos rfl, updF_same]
      exact ⟨u, .inl (hu.resolve_right (by rw [hd]; simp)), hown'.sub fun b _ hb => hL b hb⟩
    · rw [if_neg hj, updF_ne _ (by intro e; injection e with e; exact hj e.symm), updF_ne _ (by intro e; cases e)]
      obtain ⟨u', hu', hr'⟩ := h.slot j
      exact ⟨u', hu', hr'.sub fun b _ hb => hL b hb⟩
  · intro id'
    rw [St.obj_put, St.obj_setObj]
    by_cases hi : id = id'
    · subst hi
      rw [if_pos rfl, updF_ne _ (Ne.symm hne), updF_same]
      rfl
    · rw [if_neg hi, updF_ne _ (by intro e; cases e), updF_ne _ (by intro e; injection e with e; exact hi e.symm)]
      exact (h.obj id').keep (M := fun _ => False) (fun _ _ _ => rfl) (fun _ h => h.elim) (fun b _ hb => hL b hb) (fun _ _ h => h)

/-- The first elements of object id go back into slot d; the others are given up. -/
theorem Run.packTake (d : Nat) {sz : Nat} {ex : Bool} {xs : List AV} {id : Id} {m : Nat} (hd : st.get d = .vec id 0 m) (ho : st.obj id = .vec sz ex xs) (hm : m ≤ xs.length)
    (h : Run X g K ((st.setObj id .gone).put d (.own sz false (xs.take m)))) : Run X g K st := Run.ghost (fun _ _ hI => hI.packTake hd ho hm) h

/-- A plain value, known or not. -/
def isLT : AV → Bool
  | .lit _ => true
  | .top => true
  | _ => false
theorem rel_lit {x : AV} {u : Value} {G : List Nat} (h : Rel w L β x u G) (hl : isLT x = true) : G = [] := by
  cases h <;> simp [isLT] at hl <;> rfl

end
end Go.Av

/- Rows of an own slice written at once: clear, copy; its room: cap, and what a longer part of it holds. -/
namespace Go.Av
open Go Go.RowKit

section
variable {X : Fx} {g : Gx} {st st' : St} {a : Act} {w w' : World} {β β' : Env} {F : Key → List Nat} {L : Nat → Prop} {K : List Item} {k : List Item}
variable {ops : Array Oper} {i : Nat} {rest : List Nat} {o : Oper}

/-- The value of a part of an object. -/
theorem vec_val {id : Id} {off len sz : Nat} {ex : Bool} {xs : List AV} {u v : Value} {G G' : List Nat} (h : Rel w L β (.vec id off len) u G') (hβ : β id = some (v, sz)) (ho : Rel w L β (.own sz ex xs) v G) (hpos : 0 < len) :
    ∃ b c, v = .slice (some ⟨b, 0, none⟩) xs.length c ∧ u = .slice (some ⟨b, off * sz, none⟩) len (c - off) ∧ off + len ≤ xs.length ∧ xs.length ≤ c := by
  generalize hx : AV.vec id off len = x at h
  cases h with
  | vec _ _ _ _ b n c sz' A hβ' hol hA hn =>
    cases hx
    rw [hβ] at hβ'
    injection hβ' with hβ'
    injection hβ' with hv hs
    subst hs
    subst hv
    have hnx : n = xs.length := by
      generalize hvv : Value.slice (some ⟨b, 0, none⟩) n c = vv at ho
      cases ho with
      | ownNil => cases hvv; rfl
      | own => cases hvv; rfl
    subst hnx
    obtain rfl := hA (by omega)
    exact ⟨b, c, rfl, rfl, hol, hn⟩
  | vecNil => cases hx; omega
  | _ => cases hx

/-- Where a row of values is read from: memory that is only read, or an object of plain values. -/
def srcOf (st : St) (x : Operand) : Option (Nat × List AV) :=
  match st.ev x with
  | .ro sz _ ys => some (sz, ys)
  | .vec id off len => match st.obj id with
    | .vec sz _ xs => bif Nat.ble (off + len) xs.length then some (sz, (xs.drop off).take len) else none
    | _ => none
  | _ => none

theorem srcOf_ok {P : Program} {x : Operand} {sz : Nat} {ys : List AV} (hI : Inv X g st a w β F (Lv g F)) (hs : srcOf st x = some (sz, ys)) (hly : (flatc ys).all isLT = true) :
    ∃ (A : Option Addr) (c : Nat) (vals : List Value), a.eval x = .slice A ys.length c ∧ vals.length = ys.length * sz ∧ (∀ y ∈ ys, y.cells.length = sz) ∧
      (∀ (n : Nat) (w2 : World), n ≤ ys.length → w2.heap = w.heap → (Builtin.firstCells sz n (a.eval x)).run P w2 = .ok (vals.take (n * sz)).toArray w2) ∧
      (∀ (k : Nat) (x : AV) (u : Value), (flatc ys)[k]? = some x → vals[k]? = some u → Rel w (Lv g F) noEnv x u []) := by
  have nil : ∀ (A : Option Addr) (c : Nat), ys = [] → a.eval x = .slice A 0 c → ∃ (A : Option Addr) (c : Nat) (vals : List Value), a.eval x = .slice A ys.length c ∧ vals.length = ys.length * sz ∧ (∀ y ∈ ys, y.cells.length = sz) ∧
      (∀ (n : Nat) (w2 : World), n ≤ ys.length → w2.heap = w.heap → (Builtin.firstCells sz n (a.eval x)).run P w2 = .ok (vals.take (n * sz)).toArray w2) ∧
      (∀ (k : Nat) (x : AV) (u : Value), (flatc ys)[k]? = some x → vals[k]? = some u → Rel w (Lv g F) noEnv x u []) := by
    rintro A c rfl hA
    refine ⟨A, c, [], hA, by simp, by simp, fun n w2 hn _ => ?_, by simp [flatc]⟩
    obtain rfl : n = 0 := by simpa using hn
    rw [hA]
    cases A with
    | none => simp [Builtin.firstCells]
    | some A => simp [Builtin.firstCells, loadCells, loadCellsFrom]
  unfold srcOf at hs
  split at hs
  · rename_i sz' ex' ys' he
    simp only [Option.some.injEq, Prod.mk.injEq] at hs
    obtain ⟨rfl, rfl⟩ := hs
    have hR := ev_rel hI x (by rw [he]; rfl)
    rw [he] at hR
    generalize a.eval x = vv at hR nil ⊢
    cases hR with
    | roNil _ _ _ A c hc he' => exact nil _ _ rfl rfl
    | ro _ _ _ _ b o' c vals hL hz hl hrow hr hc hm he' =>
      have hvl : vals.length = ys'.length * sz' := by rw [← hl, flatc_length hz]
      refine ⟨_, c, vals, rfl, hvl, hz, fun n w2 hn hw2 => ?_, hr⟩
      refine run_firstCells_some (P := P) w2 sz' n ⟨b, o', none⟩ ys'.length c _ (by rw [List.length_take, hvl]; exact Nat.min_eq_left (Nat.mul_le_mul_right _ hn)) fun k v hk => ?_
      rw [addr_add]
      rw [List.getElem?_take] at hk
      split at hk
      · have := hrow k v hk
        simpa [World.cell?, hw2] using this
      · cases hk
  · rename_i id off len he
    split at hs
    · rename_i sz' ex' xs hob
      by_cases hfit : off + len ≤ xs.length
      · rw [show Nat.ble (off + len) xs.length = true from Nat.ble_eq_true_of_le hfit] at hs
        simp only [cond_true, Option.some.injEq, Prod.mk.injEq] at hs
        obtain ⟨rfl, rfl⟩ := hs
        have hR := ev_rel hI x (by rw [he]; rfl)
        rw [he] at hR
        have hobj := hI.obj id
        rw [hob] at hobj
        obtain ⟨v, hβ, hown⟩ := hobj
        have hyl : ((xs.drop off).take len).length = len := by simp; omega
        by_cases hl0 : len = 0
        · subst hl0
          have hu0 : ∃ A c, a.eval x = .slice A 0 c := by
            generalize a.eval x = u at hR
            generalize hG0 : ([] : List Nat) = G0 at hR
            generalize hvv : AV.vec id off 0 = vv at hR
            cases hR with
            | vec => cases hvv; exact ⟨_, _, rfl⟩
            | vecNil => cases hvv; exact ⟨_, _, rfl⟩
            | _ => cases hvv
          obtain ⟨A, c, hu0⟩ := hu0
          exact nil A c (by simp) hu0
        · obtain ⟨b, c, rfl, hu, hol, hnc⟩ := vec_val hR hβ hown (by omega)
          have hne : xs ≠ [] := by intro e; subst e; simp at hol; omega
          obtain ⟨arr, T, lo, hi, Fs, hb, hfz, hs', hz, hr, hn, hc, hcm, he', hG⟩ := own_row hown rfl hne
          have hle : xs.length * sz' ≤ arr.size := by rw [hs']; exact Nat.mul_le_mul_right _ hc
          have hmul : off * sz' + len * sz' ≤ xs.length * sz' := by rw [← Nat.add_mul]; exact Nat.mul_le_mul_right _ hfit
          have hvl : ((arr.toList.drop (off * sz')).take (len * sz')).length = len * sz' := by simp; omega
          have hflat : ∀ (k : Nat) (c : AV), (flatc ((xs.drop off).take len))[k]? = some c → (flatc xs)[off * sz' + k]? = some c := by
            intro k c hk
            have h1 := flatc_take_get (xs := xs.drop off) (sz := sz') (fun x hx => hz x (List.mem_of_mem_drop hx)) hk
            rwa [flatc_drop hz, List.getElem?_drop] at h1
          refine ⟨_, _, (arr.toList.drop (off * sz')).take (len * sz'), by rw [hu, hyl], by rw [hvl, hyl], fun y hy => hz y (List.mem_of_mem_drop (List.mem_of_mem_take hy)), fun n w2 hn2 hw2 => ?_, fun k c u hc' hu' => ?_⟩
          · rw [hyl] at hn2
            rw [hu, List.take_take]
            have hnl : n * sz' ≤ len * sz' := Nat.mul_le_mul_right _ hn2
            rw [Nat.min_eq_left hnl]
            refine run_firstCells_some (P := P) w2 sz' n _ len (c - off) _ (by simp; omega) fun k v hk => ?_
            rw [addr_add]
            rw [List.getElem?_take] at hk
            split at hk
            · rw [List.getElem?_drop] at hk
              simp [World.cell?, hw2, hb]
              simpa using hk
            · cases hk
          · have hx' := hflat k c hc'
            rw [List.getElem?_take] at hu'
            split at hu'
            · rw [List.getElem?_drop] at hu'
              have := hr _ c u hx' (by simpa using hu')
              have hl := List.all_eq_true.1 hly c (List.mem_of_getElem? hc')
              rwa [rel_lit this hl] at this
            · cases hu'
      · have : Nat.ble (off + len) xs.length = false := by
          cases hb : Nat.ble (off + len) xs.length with
          | false => rfl
          | true => exact absurd (Nat.le_of_ble_eq_true hb) hfit
        rw [this] at hs
        cases hs
    · cases hs
  · cases hs

/-! The whole room of an own slice. -/

theorem Rel.regrow {x : AV} {v : Value} {G : List Nat} {id : Id} {b n c sz : Nat} (h : Rel w L β x v G) (hβ : β id = some (.slice (some ⟨b, 0, none⟩) n c, sz)) (hnc : n ≤ c) :
    Rel w L (updE β id (.slice (some ⟨b, 0, none⟩) c c, sz)) x v G := by
  revert hβ
  induction h with
  | top β v => intro _; exact .top _ _
  | lit β v => intro _; exact .lit _ _
  | roNil β sz ex A c hc he => intro _; exact .roNil _ _ _ _ _ hc he
  | ro β sz ex xs b o c vals hL hz hl hrow hr hc hm he ih => intro _; exact .ro _ _ _ _ _ _ _ vals hL hz hl hrow hr hc hm he
  | ownNil β sz ex A => intro _; exact .ownNil _ _ _ _
  | own β sz ex xs b c arr T lo hi Fs hb hfz hs hz hr hc hm he ih => intro _; exact .own _ _ _ _ _ _ arr T lo hi Fs hb hfz hs hz hr hc hm he
  | agg β cs vals Fs hl hr ih => intro hβ; exact .agg _ _ _ _ hl fun k x u hx hu => ih k x u hx hu hβ
  | tup β cs vals Fs hl hr ih => intro hβ; exact .tup _ _ _ _ hl fun k x u hx hu => ih k x u hx hu hβ
  | fn β f cs vals hl hr ih => intro hβ; exact .fn _ _ _ _ hl fun k x u hx hu => ih k x u hx hu hβ
  | mv β f cs vals hl hr ih => intro hβ; exact .mv _ _ _ _ hl fun k x u hx hu => ih k x u hx hu hβ
  | rp β cs j b o vals hL hl hrow hr ih => intro _; exact .rp _ _ _ _ _ vals hL hl hrow hr
  | bp β id' j b' h =>
    intro hβ
    by_cases e : id' = id
    · subst e; rw [hβ] at h; cases h
    · exact .bp _ _ _ _ (by rw [updE_ne (by cases hq : eqId id' id with | false => rfl | true => exact absurd ((eqId_iff _ _).1 hq) e)]; exact h)
  | ep β id' i j b' n' c' sz' h =>
    intro hβ
    by_cases e : id' = id
    · subst e
      rw [hβ] at h
      injection h with h
      injection h with h hs
      injection h with h1 h2 h3
      injection h1 with h1
      injection h1 with h1 _ _
      subst h1; subst h2; subst h3; subst hs
      exact .ep _ _ _ _ b c c sz (by simp [updE])
    · exact .ep _ _ _ _ _ _ _ _ (by rw [updE_ne (by cases hq : eqId id' id with | false => rfl | true => exact absurd ((eqId_iff _ _).1 hq) e)]; exact h)
  | vec β id' off len b' n' c' sz' A h ho hA hn =>
    intro hβ
    by_cases e : id' = id
    · subst e
      rw [hβ] at h
      injection h with h
      injection h with h hs
      injection h with h1 h2 h3
      injection h1 with h1
      injection h1 with h1 _ _
      subst h1; subst h2; subst h3; subst hs
      exact .vec _ _ _ _ b c c sz A (by simp [updE]) (by omega) hA (Nat.le_refl _)
    · exact .vec _ _ _ _ _ _ _ _ _ (by rw [updE_ne (by cases hq : eqId id' id with | false => rfl | true => exact absurd ((eqId_iff _ _).1 hq) e)]; exact h) ho hA hn
  | vecNil β id' sz' A A' h =>
    intro hβ
    by_cases e : id' = id
    · subst e
      rw [hβ] at h
      injection h with h
      injection h with h hs
      injection h with h1 h2 h3
      subst h2; subst h3; subst hs
      exact .vecNil _ _ sz (some ⟨b, 0, none⟩) _ (by simp [updE])
    · exact .vecNil _ _ _ _ _ (by rw [updE_ne (by cases hq : eqId id' id with | false => rfl | true => exact absurd ((eqId_iff _ _).1 hq) e)]; exact h)

def Ob.tied (id : Id) : Ob → Bool
  | .tie _ id' => eqId id' id
  | _ => false
theorem ObRel.regrow {id id' : Id} {ob : Ob} {b n c sz : Nat} {G : List Nat} (h : ObRel w L β id' ob G) (hβ : β id = some (.slice (some ⟨b, 0, none⟩) n c, sz)) (hnc : n ≤ c) (hne : id' ≠ id) (ht : ob.tied id = false) :
    ObRel w L (updE β id (.slice (some ⟨b, 0, none⟩) c c, sz)) id' ob G := by
  cases ob with
  | gone => exact h
  | vec sz' ex xs =>
    obtain ⟨v, e, hr⟩ := h
    exact ⟨v, by simp [updE, hne, e], hr.regrow hβ hnc⟩
  | tie v id'' =>
    obtain ⟨h1, sz', h2⟩ := h
    exact ⟨h1, sz', by rw [updE_ne (by simpa [Ob.tied] using ht)]; exact h2⟩
  | mp b kk es => exact h
  | mq b es => exact h
  | mem ms => exact h
  | box cs =>
    obtain ⟨b', arr, T, lo, hi, Fs, e, hb, hf, hs, hr, hF⟩ := h
    exact ⟨b', arr, T, lo, hi, Fs, by simp [updE, hne, e], hb, hf, hs, fun k x u hx hu => (hr k x u hx hu).regrow hβ hnc, hF⟩

/-- A choice whose branches come together in state S. -/
theorem Run.condJ {d : Nat} {x y : Code} {b : Bool} (S : St) (hb : st.get d = .lit (.bool b)) (ht : b = true → ∀ k', Nxt (X := X) (g := g) (K := k') S → Run X g (.code x :: k') st)
    (hf : b = false → ∀ k', Nxt (X := X) (g := g) (K := k') S → Run X g (.code y :: k') st) (hk : Run X g k S) : Run X g (.code (.cond (.tmp d) x y) :: k) st :=
  Run.cond hb (fun h => ht h k hk) (fun h => hf h k hk)
end
end Go.Av

/- What slices.Insert and slices.Delete need: parts of a slice behind its length, append of a slice's own rest, of zeros, copy with a count, overlaps. -/
namespace Go.Av
open Go Go.RowKit

section
variable {X : Fx} {g : Gx} {st st' : St} {a : Act} {w w' : World} {β β' : Env} {F : Key → List Nat} {L : Nat → Prop} {K : List Item} {k : List Item}
variable {ops : Array Oper} {i : Nat} {rest : List Nat} {o : Oper}

theorem srcOf_vec {x : Operand} {id : Id} {off len sz : Nat} {ex : Bool} {xs : List AV} (hx : st.ev x = .vec id off len) (hob : st.obj id = .vec sz ex xs) (h : off + len ≤ xs.length) : srcOf st x = some (sz, (xs.drop off).take len) := by
  unfold srcOf
  rw [hx]
  simp only [hob]
  rw [show Nat.ble (off + len) xs.length = true from Nat.ble_eq_true_of_le h]
  rfl
end
end Go.Av

/- Calls that are lent an object of the running call: a pointer into it goes along, and it comes back changed. -/
namespace Go.Av
open Go Go.RowKit

/-- The name, in the called function, of the object that it is lent; and of the note that it stays where it is. -/
def lid : Id := (1000000, 0)
def lidT : Id := (1000000, 1)

def Ob.szOf : Ob → Nat
  | .vec sz _ _ => sz
  | _ => 0
/-- Its cells refer to no object. -/
def Ob.free : Ob → Bool
  | .vec .. => true
  | .box cs => AV.freeL cs
  | _ => false

theorem Ob.env {w : World} {L : Nat → Prop} {β : Env} {ob : Ob} {G : List Nat} {v : Value} (h : ObRel w L β lid ob G) (hf : ob.free = true) (γ : Env) (hβ : β lid = some (v, ob.szOf)) (hγ : γ lid = some (v, ob.szOf)) : ObRel w L γ lid ob G := by
  cases ob with
  | vec sz ex xs =>
    obtain ⟨v', hv', hr⟩ := h
    rw [hβ] at hv'
    cases hv'
    exact ⟨_, hγ, hr.env γ rfl⟩
  | box cs =>
    obtain ⟨b, arr, T, lo, hi, Fs, e, hb, hfz, hs, hr, hF⟩ := h
    rw [hβ] at e
    cases e
    exact ⟨b, arr, T, lo, hi, Fs, hγ, hb, hfz, hs, fun k x u hx hu => (hr k x u hx hu).env γ (AV.freeL_get hf k x hx), hF⟩
  | _ => cases hf

theorem Ob.sz {w : World} {L : Nat → Prop} {β : Env} {ob : Ob} {G : List Nat} {id : Id} (h : ObRel w L β id ob G) (hf : ob.free = true) : ∃ v, β id = some (v, ob.szOf) := by
  cases ob with
  | vec sz ex xs => obtain ⟨v', hv', hr⟩ := h; exact ⟨v', hv'⟩
  | box cs => obtain ⟨b, arr, T, lo, hi, Fs, e, _⟩ := h; exact ⟨_, e⟩
  | _ => cases hf

/-- A call of f with such arguments, lent such an object, returns such a result, and leaves the object so. -/
structure CtG (P : Program) (f : FuncId) (args : List AV) (ob : Ob) (res : AV) (ob' : Ob) : Prop where
  enters : (P.funcs[f]?).map (fun fn => (fn.body.isSome, fn.name == "runtime.NumGoroutine")) = some (true, false)
  free' : ob'.free = true
  sz : ob'.szOf = ob.szOf
  calls : ∀ (w : World) (L : Nat → Prop) (vs : Array Value) (v0 : Value) (G : List Nat), (∀ b, L b → b < w.heap.size ∧ b ∉ G) → G.Nodup →
    Rel w (fun b => L b ∨ b ∈ G) (updE noEnv lid (v0, ob.szOf)) (.tup args) (.tuple vs) [] → ObRel w (fun b => L b ∨ b ∈ G) (updE noEnv lid (v0, ob.szOf)) lid ob G →
    Calls P f vs w fun e w' => ∃ v Gr G', e = .returned v ∧ Kp G w w' ∧ (Gr ++ G').Nodup ∧ (∀ b ∈ Gr ++ G', b ∈ G ∨ w.heap.size ≤ b) ∧
      Rel w' (fun b => L b ∨ b ∈ Gr ++ G') noEnv res v Gr ∧ ObRel w' (fun b => L b ∨ b ∈ Gr ++ G') (updE noEnv lid (v0, ob'.szOf)) lid ob' G'

def PostGP (g : Gx) (v0 : Value) (res : AV) (ob' : Ob) (v : Value) (w' : World) : Prop :=
  ∃ Gr G', Kp g.F0 g.w0 w' ∧ (Gr ++ G').Nodup ∧ (∀ b ∈ Gr ++ G', b ∈ g.F0 ∨ g.w0.heap.size ≤ b) ∧
    Rel w' (fun b => g.L0 b ∨ b ∈ Gr ++ G') noEnv res v Gr ∧ ObRel w' (fun b => g.L0 b ∨ b ∈ Gr ++ G') (updE noEnv lid (v0, ob'.szOf)) lid ob' G'

@[reducible] def PostG (g : Gx) (v0 : Value) (res : AV) (ob' : Ob) : GPost := .plain (PostGP g v0 res ob')

theorem foots_nil_sub {Fs : Nat → List Nat} {n : Nat} (h : foots Fs n = []) : ∀ k, k < n → Fs k = [] := by
  intro k hk
  cases hF : Fs k with
  | nil => rfl
  | cons b r =>
    have : b ∈ foots Fs n := mem_foots.2 ⟨k, hk, by rw [hF]; simp⟩
    rw [h] at this
    cases this

theorem CtG.intro (X : Fx) (hX : X.Ok) {c : Code} (hb : X.fn.body = some c) (hn : (X.fn.name == "runtime.NumGoroutine") = false) {args : List AV} {ob : Ob} {res : AV} {ob' : Ob}
    (hargs' : Nat.ble args.length X.fn.ntmps = true) (hpins' : (X.pins.all fun j => Nat.blt j args.length) = true) (hfree : ob'.free = true) (hsz : ob'.szOf = ob.szOf) (hgo : ob.free = true)
    (h : ∀ (g : Gx) (v0 : Value), g.Post = PostG g v0 res ob' → Run X g [.code c] ⟨initS args 0, [(lid, ob), (lidT, .tie v0 lid)]⟩) : CtG X.P X.f args ob res ob' := by
  have hargs : args.length ≤ X.fn.ntmps := Nat.le_of_ble_eq_true hargs'
  have hpins : ∀ j ∈ X.pins, j < args.length := fun j hj => by
    have := Nat.le_of_ble_eq_true (List.all_eq_true.1 hpins' j hj)
    omega
  refine ⟨by rw [hX.func]; simp [hb, hn], hfree, hsz, fun w L vs v0 G hL hF hr hO cs => ?_⟩
  generalize hGe : ([] : List Nat) = Ge at hr
  cases hr with
  | tup _ _ _ Fs hl hr =>
  have hFs := foots_nil_sub hGe.symm
  let g : Gx := ⟨w, G, L, vs, .plain fun v w' => ∃ Gr G', Kp G w w' ∧ (Gr ++ G').Nodup ∧ (∀ b ∈ Gr ++ G', b ∈ G ∨ w.heap.size ≤ b) ∧
    Rel w' (fun b => L b ∨ b ∈ Gr ++ G') noEnv res v Gr ∧ ObRel w' (fun b => L b ∨ b ∈ Gr ++ G') (updE noEnv lid (v0, ob'.szOf)) lid ob' G', hL⟩
  let b : Frame := { (default : Frame) with fn := X.f, kind := .normal, roundOf := none }
  let a : Act := { tmps := vs ++ Array.replicate (X.fn.ntmps - vs.size) undef, defers := [] }
  have henter : Frame.enter X.P X.f vs .normal = b.atR a [.code c] := by
    simp [Frame.enter, Frame.atR, hX.func, hb, b, a]
  have hsize : a.tmps.size = X.fn.ntmps := by simp [a]; omega
  have hget : ∀ d, d < args.length → a.tmps[d]? = vs[d]? := fun d hd => by
    simp only [a]; rw [Array.getElem?_append_left (by omega)]
  have hSR : SR X g ⟨initS args 0, [(lid, ob), (lidT, .tie v0 lid)]⟩ a w := by
    let FF : Key → List Nat := fun | .s d => [] | .o id => if id = lid then G else []
    have hLL : ∀ b, Lv g FF b → (L b ∨ b ∈ G) := by
      rintro b (hb | ⟨k, hb⟩)
      · exact .inl hb
      · cases k with
        | s d => simp [FF] at hb
        | o id =>
          simp only [FF] at hb
          split at hb
          · exact .inr hb
          · simp at hb
    have hob : ∀ id, St.obj ⟨initS args 0, [(lid, ob), (lidT, .tie v0 lid)]⟩ id = if id = lid then ob else if id = lidT then .tie v0 lid else .gone := by
      intro id
      show lookO [(lid, ob), (lidT, .tie v0 lid)] id = _
      simp only [lookO]
      by_cases h1 : id = lid
      · subst h1; rw [if_pos rfl, (eqId_iff lid lid).2 rfl]; rfl
      · have e1 : eqId lid id = false := by cases hb : eqId lid id; rfl; exact absurd ((eqId_iff _ _).1 hb).symm h1
        rw [if_neg h1, e1]
        by_cases h2 : id = lidT
        · subst h2; rw [if_pos rfl, (eqId_iff lidT lidT).2 rfl]; rfl
        · have e2 : eqId lidT id = false := by cases hb : eqId lidT id; rfl; exact absurd ((eqId_iff _ _).1 hb).symm h2
          rw [if_neg h2, e2]; rfl
    refine ⟨updE noEnv lid (v0, ob.szOf), FF, rfl, hsize, Kp.refl _ _, ⟨?_, ?_⟩, ?_, ?_, ?_, ?_⟩
    · intro k
      cases k with
      | s d => simp [FF]
      | o id => simp only [FF]; split; exact hF; simp
    · intro k k' b hne hb hb'
      cases k with
      | s d => simp [FF] at hb
      | o id =>
        cases k' with
        | s d => simp [FF] at hb'
        | o id' =>
          simp only [FF] at hb hb'
          split at hb
          · split at hb'
            · rename_i e1 e2; exact hne (by rw [e1, e2])
            · simp at hb'
          · simp at hb
    · intro k b hb
      cases k with
      | s d => simp [FF] at hb
      | o id =>
        simp only [FF] at hb
        split at hb
        · exact .inl hb
        · simp at hb
    · intro d
      show ∃ u, _ ∧ Rel w _ _ (lookS (initS args 0) d) u (FF (.s d))
      rw [show St.get ⟨initS args 0, [(lid, ob), (lidT, .tie v0 lid)]⟩ d = lookS (initS args 0) d from rfl, look_initS]
      simp only [Nat.zero_le, true_and, Nat.zero_add, Nat.sub_zero, FF]
      by_cases hd : d < args.length
      · rw [if_pos hd]
        have e1 : args[d]? = some (args.getD d .top) := by rw [List.getD_eq_getElem?_getD, List.getElem?_eq_getElem hd]; rfl
        have e2 : vs[d]? = some (vs.getD d undef) := by rw [Array.getD_eq_getD_getElem?, Array.getElem?_eq_getElem (by omega)]; rfl
        refine ⟨vs.getD d undef, .inl (by rw [hget d hd, e2]), ?_⟩
        have := hr d _ _ e1 e2
        rw [hFs d hd] at this
        exact this.keep (M := fun _ => False) (fun _ _ _ => rfl) (fun _ h => h.elim) (fun b _ hb => hLL b hb) (fun _ _ h => h)
      · rw [if_neg hd]
        exact ⟨undef, .inr rfl, .top _ _⟩
    · intro id
      rw [hob id]
      simp only [FF]
      by_cases h1 : id = lid
      · rw [if_pos h1, if_pos h1]
        subst h1
        exact hO.keep (M := fun _ => False) (fun _ _ _ => rfl) (fun _ h => h.elim) (fun b _ hb => hLL b hb) (fun _ _ h => h)
      · rw [if_neg h1, if_neg h1]
        by_cases h2 : id = lidT
        · rw [if_pos h2]
          exact ⟨rfl, ob.szOf, by simp [updE]⟩
        · rw [if_neg h2]; rfl
    · intro j hj; exact hget j (hpins j hj)
  obtain ⟨v, w', fr, ⟨⟨Gr, G', hp⟩, h1, h2⟩, hst⟩ := h g v0 rfl hX a w b cs hSR rfl ⟨rfl, rfl⟩
  rw [← henter] at hst
  exact ⟨.returned v, w', fr, ⟨v, Gr, G', rfl, hp⟩, hst, h1, h2⟩

section
variable {X : Fx} {g : Gx} {st st' : St} {a : Act} {w w' : World} {β β' : Env} {F : Key → List Nat} {L : Nat → Prop} {K : List Item} {k : List Item}
variable {ops : Array Oper} {i : Nat} {rest : List Nat} {o : Oper}

/-- What a body returns, by itself. -/
theorem ret_own {res : AV} (hX : X.Ok) (h : Inv X g st a w β F (Lv g F))
    (hne : ∀ rv ∈ X.fn.results.toList, st.rv X.T rv ≠ .top ∧ (st.rv X.T rv).free = true)
    (hk : (X.fn.results.toList.map st.rkey).Nodup)
    (hres : retV (X.fn.results.toList.map (st.rv X.T)) = res) :
    ∃ v G, (results X.fn a.tmps).run X.P w = .ok v w ∧ Rel w (Lv g F) noEnv res v G ∧ G.Nodup ∧ ∀ b ∈ G, ∃ rv ∈ X.fn.results.toList, b ∈ F (st.rkey rv) := by
  obtain ⟨us, Gs, h1, h2, h3, h4, h5, h6⟩ := rvs_ok hX h _ hne hk
  refine ⟨if us.length = 1 then us.headD undef else .tuple us.toArray, ?_⟩
  have hR : ∃ G : List Nat, Rel w (Lv g F) noEnv res (if us.length = 1 then us.headD undef else .tuple us.toArray) G ∧ G.Nodup ∧ ∀ b ∈ G, ∃ rv ∈ X.fn.results.toList, b ∈ F (st.rkey rv) := by
    subst hres
    generalize X.fn.results.toList = l at *
    by_cases hl : us.length = 1
    · rw [if_pos hl]
      rw [h2] at hl
      obtain ⟨rv, rfl⟩ := List.length_eq_one_iff.1 hl
      obtain ⟨u, rfl⟩ := List.length_eq_one_iff.1 h2
      exact ⟨Gs 0, h3 0 _ u rfl rfl, h5 0, fun b hb => ⟨rv, by simp, h4 0 rv rfl b hb⟩⟩
    · rw [if_neg hl]
      refine ⟨foots Gs (l.map (st.rv X.T)).length, ?_, ?_, ?_⟩
      · have : retV (l.map (st.rv X.T)) = .tup (l.map (st.rv X.T)) := by
          unfold retV
          split
          · rename_i x e
            have := congrArg List.length e
            simp at this; omega
          · rfl
        rw [this]
        exact .tup _ _ _ _ (by simp [h2]) fun k x u hx hu => h3 k x u hx (by simpa using hu)
      · refine nodup_foots fun k hk' => ⟨h5 k, fun k' hk'' hne' b hb hb' => ?_⟩
        simp at hk' hk''
        have e1 := h4 k _ (List.getElem?_eq_getElem hk') b hb
        have e2 := h4 k' _ (List.getElem?_eq_getElem hk'') b hb'
        refine h.sep.apart _ _ b ?_ e1 e2
        intro e
        have := (List.getElem_inj (i := k) (j := k') (h₀ := by simpa using hk') (h₁ := by simpa using hk'') hk).1 (by simpa using e)
        exact hne' this
      · intro b hb
        obtain ⟨k, hk', hb'⟩ := mem_foots.1 hb
        simp at hk'
        exact ⟨l[k], by simp, h4 k _ (List.getElem?_eq_getElem hk') b hb'⟩
  obtain ⟨G, q1, q2, q3⟩ := hR
  exact ⟨G, results_run h1, q1, q2, q3⟩

theorem retG_post {r res : AV} {ob' : Ob} {v0 : Value} (hX : X.Ok) (hr : retOf X st = some r) (he : r = res) (ho : st.obj lid = ob') (hf : ob'.free = true) (ht : st.obj lidT = .tie v0 lid)
    (hk : ((X.fn.results.toList.map st.rkey).all fun k => decide (k ≠ .o lid)) = true)
    (h : SR X g st a w) : ∃ v, (results X.fn a.tmps).run X.P w = .ok v w ∧ PostGP g v0 res ob' v w := by
  subst he
  obtain ⟨β, F, h⟩ := h
  obtain ⟨q1, q2, q3⟩ := retOf_ok hr
  obtain ⟨v, G, h1, hG1, hG2, hG3⟩ := ret_own hX h q1 q2 q3
  refine ⟨v, h1, ?_⟩
  have hob := h.obj lid
  have htie := h.obj lidT
  rw [ho] at hob
  rw [ht] at htie
  obtain ⟨_, sz, hsz⟩ := htie
  obtain ⟨v', hv'⟩ := Ob.sz hob hf
  have hβ : β lid = some (v0, ob'.szOf) := by
    rw [hsz] at hv'
    cases hv'
    exact hsz
  have hGk : ∀ b ∈ G, ∃ k, k ≠ .o lid ∧ b ∈ F k := by
    intro b hb
    obtain ⟨rv, hrv, hb'⟩ := hG3 b hb
    exact ⟨st.rkey rv, by simpa using List.all_eq_true.1 hk _ (List.mem_map.2 ⟨rv, hrv, rfl⟩), hb'⟩
  have hLL : ∀ b, (g.L0 b ∨ b ∈ G ++ F (.o lid)) → Lv g F b := by
    rintro b (hb | hb)
    · exact .inl hb
    · rcases List.mem_append.1 hb with hb | hb
      · obtain ⟨k, _, hk'⟩ := hGk b hb; exact .inr ⟨k, hk'⟩
      · exact .inr ⟨_, hb⟩
  refine ⟨G, F (.o lid), h.kp, ?_, ?_, hG1.sub fun b _ hb => hLL b hb, ?_⟩
  · refine List.nodup_append.2 ⟨hG2, h.sep.nodup _, fun x hx y hy e => ?_⟩
    subst e
    obtain ⟨k, hk1, hk2⟩ := hGk x hx
    exact h.sep.apart _ _ x hk1 hk2 hy
  · intro b hb
    rcases List.mem_append.1 hb with hb | hb
    · obtain ⟨k, _, hk'⟩ := hGk b hb; exact h.range k b hk'
    · exact h.range _ b hb
  · exact (Ob.env hob hf _ hβ (by simp [updE])).keep (M := fun _ => False) (fun _ _ _ => rfl) (fun _ h => h.elim) (fun b _ hb => hLL b hb) (fun _ _ h => h)

/-- The return of a call that was lent an object. -/
theorem Run.retG {r res : AV} {ob' : Ob} {v0 : Value} (hg : g.Post = PostG g v0 res ob') (hr : retOf X st = some r) (he : r = res) (ho : st.obj lid = ob') (hf : ob'.free = true) (ht : st.obj lidT = .tie v0 lid)
    (hk : ((X.fn.results.toList.map st.rkey).all fun k => decide (k ≠ .o lid)) = true) : Run X g (.code .ret :: k) st :=
  Run.ret' hg fun hX a w hI => retG_post hX hr he ho hf ht hk hI
theorem Run.finG {r res : AV} {ob' : Ob} {v0 : Value} (hg : g.Post = PostG g v0 res ob') (hr : retOf X st = some r) (he : r = res) (ho : st.obj lid = ob') (hf : ob'.free = true) (ht : st.obj lidT = .tie v0 lid)
    (hk : ((X.fn.results.toList.map st.rkey).all fun k => decide (k ≠ .o lid)) = true) : Run X g [] st :=
  Run.end' hg fun hX a w hI => retG_post hX hr he ho hf ht hk hI

/-- The arguments, as the called function sees them. -/
def lendP (id : Id) : AV → Option AV
  | .ep i m j => bif eqId i id then some (.ep lid m j) else none
  | .bp i j => bif eqId i id then some (.bp lid j) else none
  | .vec i off len => bif eqId i id then some (.vec lid off len) else none
  | x => bif x.pl && x.free then some x else none
def lendPs (id : Id) : List AV → Option (List AV)
  | [] => some []
  | x :: xs => match lendP id x, lendPs id xs with
    | some y, some ys => some (y :: ys)
    | _, _ => none
theorem lendPs_get {id : Id} : ∀ {xs ys : List AV}, lendPs id xs = some ys → ys.length = xs.length ∧ ∀ (k : Nat) (y : AV), ys[k]? = some y → ∃ x, xs[k]? = some x ∧ lendP id x = some y
  | [], ys, h => by simp only [lendPs, Option.some.injEq] at h; subst h; simp
  | x :: xs, ys, h => by
    simp only [lendPs] at h
    split at h
    · rename_i y ys' h1 h2
      cases h
      obtain ⟨e1, e2⟩ := lendPs_get h2
      refine ⟨by simp [e1], fun k y' hy => ?_⟩
      cases k with
      | zero => simp at hy; subst hy; exact ⟨x, rfl, h1⟩
      | succ k => simpa using e2 k y' (by simpa using hy)
    · cases h

theorem lendP_ok {id : Id} {x y : AV} {u v0 : Value} {sz : Nat} {G : List Nat} (hl : lendP id x = some y) (hβ : β id = some (v0, sz)) (h : Rel w L β x u G) : Rel w L (updE noEnv lid (v0, sz)) y u [] := by
  have hγ : updE noEnv lid (v0, sz) lid = some (v0, sz) := by simp [updE]
  unfold lendP at hl
  split at hl
  · rename_i i m j
    cases he : eqId i id with
    | false => rw [he] at hl; cases hl
    | true =>
      rw [he] at hl
      cases hl
      obtain rfl := (eqId_iff _ _).1 he
      cases h with
      | ep _ _ _ _ b n c sz' h =>
        rw [hβ] at h
        cases h
        exact .ep _ _ _ _ b n c sz hγ
  · rename_i i j
    cases he : eqId i id with
    | false => rw [he] at hl; cases hl
    | true =>
      rw [he] at hl
      cases hl
      obtain rfl := (eqId_iff _ _).1 he
      cases h with
      | bp _ _ _ b h =>
        rw [hβ] at h
        cases h
        exact .bp _ _ _ b hγ
  · rename_i i off len
    cases he : eqId i id with
    | false => rw [he] at hl; cases hl
    | true =>
      rw [he] at hl
      cases hl
      obtain rfl := (eqId_iff _ _).1 he
      cases h with
      | vec _ _ _ _ b n c sz' A h ho hA hn =>
        rw [hβ] at h
        cases h
        exact .vec _ _ _ _ b n c sz A hγ ho hA hn
      | vecNil _ _ sz' A A' h =>
        rw [hβ] at h
        cases h
        exact .vecNil _ _ sz A A' hγ
  · cases hp : (x.pl && x.free) with
    | false => rw [hp] at hl; cases hl
    | true =>
      rw [hp] at hl
      cases hl
      simp only [Bool.and_eq_true] at hp
      obtain rfl := h.pl_nil hp.1
      exact h.env _ hp.2

/-- Behind a call that was lent object id. -/
theorem CtG.called (hX : X.Ok) {id : Id} {f : FuncId} {xs : Array Operand} {ps : List AV} {ob ob' : Ob} {res : AV} (hct : CtG X.P f ps ob res ob') (hI : Inv X g st a w β F (Lv g F)) (hob : st.obj id = ob) (hfo : ob.free = true)
    (hps : lendPs id (xs.toList.map st.ev) = some ps) :
    Calls X.P f (xs.map a.eval ++ #[]) w fun e w' => ∃ (v : Value) (Gr G' : List Nat) (β' : Env) (F' : Key → List Nat), e = .returned v ∧ (∀ b ∈ Gr, b ∈ F (.o id) ∨ w.heap.size ≤ b) ∧ Gr.Nodup ∧ (∀ k b, b ∈ Gr → b ∉ F' k) ∧
      Inv X g (st.setObj id ob') a w' β' F' (fun b => Lv g F' b ∨ b ∈ Gr) ∧ Rel w' (fun b => Lv g F' b ∨ b ∈ Gr) β' res v Gr ∧ (∀ b ∈ G', b ∈ F' (.o id)) := by
  subst hob
  have hobj := hI.obj id
  obtain ⟨v0, hβ⟩ := Ob.sz hobj hfo
  have hLG : ∀ b, ((Lv g F b ∧ b ∉ F (.o id)) ∨ b ∈ F (.o id)) ↔ Lv g F b := by
    intro b
    constructor
    · rintro (h | h)
      · exact h.1
      · exact .inr ⟨_, h⟩
    · intro h
      by_cases hb : b ∈ F (.o id)
      · exact .inr hb
      · exact .inl ⟨h, hb⟩
  have hargs : Rel w (fun b => (Lv g F b ∧ b ∉ F (.o id)) ∨ b ∈ F (.o id)) (updE noEnv lid (v0, (st.obj id).szOf)) (.tup ps) (.tuple (xs.map a.eval ++ #[])) [] := by
    obtain ⟨e1, e2⟩ := lendPs_get hps
    have := Rel.tup (w := w) (L := fun b => (Lv g F b ∧ b ∉ F (.o id)) ∨ b ∈ F (.o id)) (updE noEnv lid (v0, (st.obj id).szOf)) ps (xs.map a.eval ++ #[]) (fun _ => []) (by simp [e1]) (by
      intro k y u hy hu
      obtain ⟨x, hx, hl⟩ := e2 k y hy
      obtain ⟨G, hG⟩ := evT_ok hI xs.toList k x u hx (by simpa using hu)
      exact (lendP_ok hl hβ hG).sub fun b _ hb => (hLG b).1 hb)
    rwa [foots_nil (fun _ _ => rfl)] at this
  have hobG : ObRel w (fun b => (Lv g F b ∧ b ∉ F (.o id)) ∨ b ∈ F (.o id)) (updE noEnv lid (v0, (st.obj id).szOf)) lid (st.obj id) (F (.o id)) := by
    have h1 : ObRel w (Lv g F) (updE noEnv lid (v0, (st.obj id).szOf)) lid (st.obj id) (F (.o id)) := by
      have hγ : updE noEnv lid (v0, (st.obj id).szOf) lid = some (v0, (st.obj id).szOf) := by simp [updE]
      revert hobj hβ hfo hγ
      generalize st.obj id = ob0
      generalize updE noEnv lid (v0, ob0.szOf) = γ
      intro hfo hobj hβ hγ
      cases ob0 with
      | vec sz ex xs =>
        obtain ⟨v', hv', hr⟩ := hobj
        rw [hβ] at hv'
        cases hv'
        exact ⟨_, hγ, hr.env γ rfl⟩
      | box cs =>
        obtain ⟨b, arr, T, lo, hi, Fs, e, hb, hfz, hs, hr, hF⟩ := hobj
        rw [hβ] at e
        cases e
        exact ⟨b, arr, T, lo, hi, Fs, hγ, hb, hfz, hs, fun k x u hx hu => (hr k x u hx hu).env γ (AV.freeL_get hfo k x hx), hF⟩
      | _ => cases hfo
    exact h1.keep (M := fun _ => False) (fun _ _ _ => rfl) (fun _ h => h.elim) (fun b _ hb => (hLG b).1 hb) (fun _ _ h => h)
  have hLs : ∀ b, (Lv g F b ∧ b ∉ F (.o id)) → b < w.heap.size ∧ b ∉ F (.o id) := by
    rintro b ⟨hb | ⟨k, hb⟩, hn⟩
    · exact ⟨Nat.lt_of_lt_of_le (g.hL b hb).1 hI.kp.size, hn⟩
    · exact ⟨hI.lt k b hb, hn⟩
  refine (hct.calls w (fun b => Lv g F b ∧ b ∉ F (.o id)) _ v0 (F (.o id)) hLs (hI.sep.nodup _) hargs hobG).mono ?_
  rintro e w' ⟨v, Gr, G', rfl, hk, hn, hr', hRes, hOb'⟩
  have hnn := List.nodup_append.1 hn
  have hold : ∀ b ∈ Gr ++ G', ∀ kk, kk ≠ .o id → b ∉ F kk := by
    intro b hb kk hkk hbF
    rcases hr' b hb with h | h
    · exact hI.sep.apart _ _ b hkk hbF h
    · have := hI.lt kk b hbF; omega
  have hsub : ∀ b, (Lv g (updF F (.o id) G') b ∨ b ∈ Gr) → ((Lv g F b ∧ b ∉ F (.o id)) ∨ b ∈ Gr ++ G') ∨ (g.L0 b) := by
    rintro b (hb | hb)
    · rcases hb with hb | ⟨k, hb⟩
      · exact .inr hb
      · by_cases e : k = .o id
        · subst e; rw [updF_same] at hb; exact .inl (.inr (List.mem_append_right _ hb))
        · rw [updF_ne _ e] at hb
          exact .inl (.inl ⟨.inr ⟨k, hb⟩, fun h => hI.sep.apart _ _ b e hb h⟩)
    · exact .inl (.inr (List.mem_append_left _ hb))
  have hsub' : ∀ b, (Lv g (updF F (.o id) G') b ∨ b ∈ Gr) → ((Lv g F b ∧ b ∉ F (.o id)) ∨ b ∈ Gr ++ G') := by
    intro b hb
    rcases hsub b hb with h | h
    · exact h
    · refine .inl ⟨.inl h, fun h' => ?_⟩
      rcases hI.range _ b h' with h2 | h2
      · exact (g.hL b h).2 h2
      · have := (g.hL b h).1; omega
  have hGr0 : ∀ b ∈ Gr ++ G', b ∈ g.F0 ∨ g.w0.heap.size ≤ b := by
    intro b hb
    rcases hr' b hb with h | h
    · exact hI.range _ b h
    · exact .inr (Nat.le_trans hI.kp.size h)
  refine ⟨v, Gr, G', β, updF F (.o id) G', rfl, fun b hb => hr' b (List.mem_append_left _ hb), hnn.1, ?_, ?_, ?_, ?_⟩
  · intro kk b hb hbF
    by_cases e : kk = .o id
    · subst e; rw [updF_same] at hbF; exact hnn.2.2 b hb b hbF rfl
    · rw [updF_ne _ e] at hbF; exact hold b (List.mem_append_left _ hb) kk e hbF
  · have h1 : Inv X g (st.setObj id .gone) a w β (updF F (.o id) []) (Lv g F) := hI.setOb id .gone rfl (by simp) (by simp) (by simp)
    have h2 : Inv X g (st.setObj id .gone) a w' β (updF F (.o id) []) (fun b => Lv g (updF F (.o id) G') b ∨ b ∈ Gr) := by
      refine h1.world (M := fun b => b ∈ F (.o id)) (hI.kp.trans hk (fun b hb => hI.range _ b hb)) (fun b hb hM => hk.block b hb hM) (fun b hb => .inr ⟨_, hb⟩) ?_ ?_
      · intro b hb h
        rcases hsub' b h with h | h
        · exact h.1
        · rcases hr' b h with h | h
          · exact .inr ⟨_, h⟩
          · omega
      · rintro kk b hb hM
        by_cases e : kk = .o id
        · subst e; rw [updF_same] at hb; simp at hb
        · rw [updF_ne _ e] at hb; exact hI.sep.apart _ _ b e hb hM
    have hobn : ObRel w' (fun b => Lv g (updF F (.o id) G') b ∨ b ∈ Gr) β id ob' G' := by
      have h3 : ObRel w' (fun b => Lv g (updF F (.o id) G') b ∨ b ∈ Gr) (updE noEnv lid (v0, ob'.szOf)) lid ob' G' :=
        hOb'.keep (M := fun _ => False) (fun _ _ _ => rfl) (fun _ h => h.elim) (fun b _ hb => hsub' b hb) (fun _ _ h => h)
      have hγ : updE noEnv lid (v0, ob'.szOf) lid = some (v0, ob'.szOf) := by simp [updE]
      have hβ2 : β id = some (v0, ob'.szOf) := by rw [hct.sz]; exact hβ
      have hf' := hct.free'
      revert h3 hγ hβ2 hf'
      clear hOb' hct
      generalize (updE noEnv lid (v0, ob'.szOf)) = γ
      intro h3 hγ hβ2 hf'
      cases ob' with
      | vec sz ex xs =>
        obtain ⟨v', hv', hr⟩ := h3
        rw [hγ] at hv'
        cases hv'
        exact ⟨_, hβ2, hr.env β rfl⟩
      | box cs =>
        obtain ⟨b, arr, T, lo, hi, Fs, e, hb, hfz, hs, hr, hF⟩ := h3
        rw [hγ] at e
        cases e
        exact ⟨b, arr, T, lo, hi, Fs, hβ2, hb, hfz, hs, fun k x u hx hu => (hr k x u hx hu).env β (AV.freeL_get hf' k x hx), hF⟩
      | _ => cases hf'
    have h3 := h2.setOb id ob' (G := G') hobn hnn.2.1 (by
      intro kk e b hb hb'
      rw [updF_ne _ e] at hb'
      exact hold b (List.mem_append_right _ hb) kk e hb') (fun b hb => hGr0 b (List.mem_append_right _ hb))
    have e1 : updF (updF F (.o id) []) (.o id) G' = updF F (.o id) G' := by
      funext kk
      by_cases e : kk = .o id
      · subst e; rw [updF_same, updF_same]
      · rw [updF_ne _ e, updF_ne _ e, updF_ne _ e]
    rw [e1] at h3
    refine ⟨h3.defers, h3.size, h3.kp, h3.sep, h3.range, h3.slot, fun id' => ?_, h3.pin⟩
    have := h3.obj id'
    rw [St.obj_setObj] at this ⊢
    by_cases e : id = id'
    · rw [if_pos e] at this ⊢; exact this
    · rw [if_neg e] at this ⊢
      rw [St.obj_setObj, if_neg e] at this
      exact this
  · exact (hRes.of_noEnv rfl β).sub fun b _ hb => hsub' b hb
  · intro b hb; rw [updF_same]; exact hb

/-- A call that is lent object id. -/
theorem Run.callG {d : Nat} {fo : Operand} {xs : Array Operand} {ts : Array TypeId} {f : FuncId} (id : Id) {ps qs : List AV} {ob ob' : Ob} {res : AV}
    (ho : ops[i]? = some o) (hg : guardOf ops st o = some true) (hd : o.dst = some d) (hop : o.op = .call ⟨.value fo, xs, ts⟩) (hf : st.ev fo = .fn f [])
    (hob : st.obj id = ob) (hfo : ob.free = true) (hps : lendPs id (xs.toList.map st.ev) = some ps) (hct : CtG X.P f qs ob res ob') (hqs : ps = qs)
    (hdn : (Nat.blt d X.fn.ntmps && !(X.pins.contains d)) = true) (h : Run X g (.inRegion ops rest :: k) ((st.setObj id ob').put d res)) : Run X g (.inRegion ops (i :: rest) :: k) st := by
  subst hqs
  simp only [Bool.and_eq_true, Bool.not_eq_true'] at hdn
  refine Run.opc ho (fun a w hI => guardOf_ok hg a w hI) ?_ h
  rintro hX a w ⟨β, F, hI⟩
  have hfr := ev_rel hI fo (by rw [hf]; rfl)
  rw [hf] at hfr
  generalize hfv : a.eval fo = fv at hfr
  cases hfr with
  | fn _ _ _ vals hlv hr =>
  obtain rfl : vals = #[] := by
    have : vals.size = 0 := by simpa using hlv.symm
    exact Array.eq_empty_of_size_eq_zero this
  refine ⟨f, xs.map a.eval ++ #[], w, run_call hop hfv hct.enters, ?_⟩
  refine (hct.called hX hI hob hfo hps).mono ?_
  rintro e w' ⟨v, Gr, G', β', F', rfl, hr1, hr2, hr3, hI', hR, _⟩
  refine ⟨v, rfl, ?_⟩
  rw [hd]
  have hGrr : ∀ b ∈ Gr, b ∈ g.F0 ∨ g.w0.heap.size ≤ b := by
    intro b hb
    rcases hr1 b hb with h | h
    · exact hI.range _ b h
    · exact .inr (Nat.le_trans hI.kp.size h)
  refine ⟨_, _, (hI'.put (blt_lt hdn.1) (contains_iff hdn.2) hR hr2 (fun kk _ b hb => hr3 kk b hb) hGrr).setL fun b _ hb => ?_⟩
  refine Lv_sub (L := fun b => Lv g F' b ∨ b ∈ Gr) hb (fun kk hk' => ?_) (fun h => Or.inl (Or.inl h))
  by_cases e : kk = .s d
  · subst e; rw [updF_same] at hk'; exact .inr hk'
  · rw [updF_ne _ e] at hk'; exact .inl (Lv_of hk')

end
end Go.Av

/- A region whose order is drawn: its first operations only read, in whatever order; the others wait for them all. -/
namespace Go

/-- Whoever has been, what it waits for has been. -/
def Region.Closed (md : Region.Mode) (ops : Array Oper) (listed : Array Bool) : Prop :=
  ∀ i o, ops[i]? = some o → listed.getD i true = true → ∀ e ∈ o.after, Region.binds md e = true → listed.getD e.on true = true

section
variable {P : Program} {md : Region.Mode} {ops : Array Oper} {C : World → Prop}

theorem getD_set' {listed : Array Bool} {i : Nat} (hi : i < listed.size) (j : Nat) : (listed.setIfInBounds i true).getD j true = (j == i || listed.getD j true) := by
  by_cases e : i = j
  · subst e
    simp [hi]
  · rw [getD_set_ne true e]
    have : (j == i) = false := by simpa using fun h => e h.symm
    rw [this, Bool.false_or]

theorem Region.Closed.set {listed : Array Bool} (hc : Region.Closed md ops listed) (hs : listed.size = ops.size) {i : Nat} (hi : i ∈ Region.ready md ops listed) : Region.Closed md ops (listed.setIfInBounds i true) := by
  obtain ⟨hiu, o, ho, hall⟩ := mem_ready.1 hi
  have his : i < ops.size := (Array.getElem?_eq_some_iff.1 ho).1
  intro j oj hoj hj e he hb
  rw [getD_set' (by omega)] at hj ⊢
  rw [Bool.or_eq_true] at hj ⊢
  rcases hj with hj | hj
  · have : j = i := by simpa using hj
    subst this
    rw [ho] at hoj
    cases hoj
    exact .inr (Av.getD_ft (hall e he hb))
  · exact .inr (hc j oj hoj hj e he hb)

def Region.cnt (m : Nat) (listed : Array Bool) : Nat := (List.range m).countP fun j => listed.getD j true

theorem countP_add {D : Nat → Bool} {i : Nat} (hi : D i = false) : ∀ m, (List.range m).countP (fun j => j == i || D j) = (List.range m).countP D + (if i < m then 1 else 0) := by
  intro m
  induction m with
  | zero => simp
  | succ m ih =>
    rw [List.range_succ, List.countP_append, List.countP_append, ih]
    simp only [List.countP_cons, List.countP_nil]
    by_cases e : m = i
    · subst e
      simp [hi]
    · have : (m == i) = false := by simpa using e
      rw [this, Bool.false_or]
      by_cases h : i < m
      · rw [if_pos h, if_pos (show i < m + 1 by omega)]; omega
      · rw [if_neg h, if_neg (show ¬ i < m + 1 by omega)]; omega

end
end Go

namespace Go.Av
open Go Go.RowKit

/-- The first m of n have been. -/
def upto (n m : Nat) : Array Bool := ((List.range n).map fun j => Nat.blt j m).toArray

section
variable {X : Fx} {g : Gx} {st : St} {k : List Item} {ops : Array Oper}

theorem Run.forget {K : List Item} (d : Nat) (h : Run X g K (st.put d .top)) : Run X g K st :=
  Run.le (st' := st.put d .top) ⟨fun k => by
    rw [St.get_put]
    split
    · exact .inl rfl
    · exact .inr rfl, fun id => .inr rfl⟩ h

end

section
variable {X : Fx} {g : Gx} {st st' : St} {a : Act} {w w' : World} {β β' : Env} {F : Key → List Nat} {L : Nat → Prop} {K : List Item} {k : List Item}

/-- A cell of a box, which owns a slice, becomes an object. -/
theorem SR.unBox {c sz : Nat} {ex : Bool} {cs xs : List AV} {id0 id : Id} (hd : st.obj id0 = .box cs) (hc : cs[c]? = some (.own sz ex xs)) (hn : st.nrf id = true) (hii : id ≠ id0) (h : SR X g st a w) :
    SR X g ((st.setObj id (.vec sz ex xs)).setObj id0 (.box (cs.set c (.vec id 0 xs.length)))) a w := by
  obtain ⟨β, F, h⟩ := h
  have hob0 := h.obj id0
  rw [hd] at hob0
  obtain ⟨b, arr, T, lo, hi, Fs, hβ0, hb, hfz, hs, hrr, hF⟩ := hob0
  have hnd := h.sep.nodup (.o id0)
  rw [hF] at hnd
  obtain ⟨nd1, nd2⟩ := List.nodup_cons.1 hnd
  have hcl : c < cs.length := (List.getElem?_eq_some_iff.1 hc).1
  have hcv : c < arr.size := by omega
  obtain ⟨q1, q2⟩ := foots_drop hcl nd2
  have hown := hrr c _ _ hc (Array.getElem?_eq_getElem hcv)
  have hkn : Key.o id0 ≠ Key.o id := by intro e; injection e with e; exact hii e.symm
  refine h.two (β' := updE β id (arr[c], sz)) (k1 := .o id0) (k2 := .o id) (G1 := b :: foots (updN Fs c []) cs.length) (G2 := Fs c) hkn ?_ (fun x hx => .inl ?_) ?_ ?_ ?_
  · rw [List.cons_append]
    exact List.nodup_cons.2 ⟨fun hm => nd1 (q2 b hm), q1⟩
  · rw [hF]
    rw [List.cons_append] at hx
    rcases List.mem_cons.1 hx with rfl | hx
    · simp
    · exact List.mem_cons_of_mem _ (q2 x hx)
  · intro k x1 x2
    refine ((h.krel k).upd _ hn x2).congr (fun d' e => rfl) (fun id' e => ?_)
    rw [St.obj_set_ne (by rintro rfl; exact x1 e), St.obj_set_ne (by rintro rfl; exact x2 e)]
  · simp only [KRel]
    rw [St.obj_set_same]
    have hβ1 : updE β id (arr[c], sz) id0 = some (.pointer (some ⟨b, 0, none⟩), 0) := by
      rw [← hβ0]
      simp only [updE]
      rw [if_neg (Ne.symm hii)]
    refine ⟨b, arr, T, lo, hi, updN Fs c [], hβ1, hb, hfz, by simpa using hs, ?_, by rw [List.length_set]⟩
    intro k x u hx hu
    by_cases e : k = c
    · subst e
      rw [List.getElem?_set_self hcl] at hx
      cases hx
      rw [Array.getElem?_eq_getElem hcv] at hu
      cases hu
      rw [updN_same]
      exact hown.own_vec id
    · rw [List.getElem?_set_ne (Ne.symm e)] at hx
      rw [updN_ne e]
      refine (hrr k x u hx hu).upd _ _ (AV.nrfL_get (xs := cs) ?_ k x hx)
      have := St.nrf_obj hn id0
      rw [hd] at this
      exact this
  · simp only [KRel]
    rw [St.obj_set_ne (Ne.symm hii), St.obj_set_same]
    exact ⟨arr[c], by simp [updE], hown.upd _ _ (by simp [AV.nrf])⟩
theorem Run.unBox (id0 : Id) (c : Nat) {sz : Nat} {ex : Bool} {cs xs : List AV} (id : Id) (hd : st.obj id0 = .box cs) (hc : cs[c]? = some (.own sz ex xs)) (hn : st.nrf id = true) (hii : id ≠ id0)
    (h : Run X g K ((st.setObj id (.vec sz ex xs)).setObj id0 (.box (cs.set c (.vec id 0 xs.length))))) : Run X g K st := Run.ghost (fun _ _ hI => hI.unBox hd hc hn hii) h
end

/-- A pointer into memory that is only read, as one to the cells from there on. -/
def AV.norm : AV → AV
  | .rp cs j => .rp (cs.drop j) 0
  | x => x
theorem Rel.norm {w : World} {L : Nat → Prop} {β : Env} {x : AV} {v : Value} {F : List Nat} (h : Rel w L β x v F) : Rel w L β x.norm v F := by
  cases h with
  | rp β cs j b o vals hL hl hrow hr =>
    refine Rel.rp β (cs.drop j) 0 b (o + j) (vals.drop j) (fun h0 => hL fun e => h0 (by rw [e, List.drop_nil])) (by simp [hl]) ?_ ?_
    · intro k u hk
      rw [List.getElem?_drop] at hk
      have := hrow (j + k) u hk
      rwa [← Nat.add_assoc] at this
    · intro k x u hx hu
      rw [List.getElem?_drop] at hx hu
      exact hr (j + k) x u hx hu
  | top => exact .top _ _
  | lit => exact .lit _ _
  | roNil _ sz ex A c hc he => exact .roNil _ _ _ _ _ hc he
  | ro _ sz ex xs b o c vals hL hz hl hrow hr hc hm he => exact .ro _ _ _ _ _ _ _ vals hL hz hl hrow hr hc hm he
  | ownNil => exact .ownNil _ _ _ _
  | own _ sz ex xs b c arr T lo hi Fs hb hfz hs hz hr hc hm he => exact .own _ _ _ _ _ _ arr T lo hi Fs hb hfz hs hz hr hc hm he
  | agg _ cs vals Fs hl hr => exact .agg _ _ _ _ hl hr
  | tup _ cs vals Fs hl hr => exact .tup _ _ _ _ hl hr
  | fn _ f cs vals hl hr => exact .fn _ _ _ _ hl hr
  | mv _ f cs vals hl hr => exact .mv _ _ _ _ hl hr
  | bp _ id j b h => exact .bp _ _ _ _ h
  | ep _ id i j b n c sz h => exact .ep _ _ _ _ _ _ _ _ h
  | vec _ id off len b n c sz A h ho hA hn => exact .vec _ _ _ _ _ _ _ _ _ h ho hA hn
  | vecNil _ id sz A A' h => exact .vecNil _ _ _ _ _ h
theorem Ct.norm {P : Program} {f : FuncId} {args : List AV} {res : AV} {outs : List AV} (hc : Ct P f (args.map AV.norm) res outs) : Ct P f args res outs := by
  refine ⟨hc.enters, fun w L vs F hL hF hr => hc.calls w L vs F hL hF ?_⟩
  cases hr with
  | tup _ _ _ Fs hl hr =>
    have := Rel.tup (w := w) (L := fun b => L b ∨ b ∈ foots Fs args.length) noEnv (args.map AV.norm) vs Fs (by simpa using hl) (by
      intro k x u hx hu
      rw [List.getElem?_map] at hx
      obtain ⟨y, hy, rfl⟩ := Option.map_eq_some_iff.1 hx
      exact (hr k y u hy hu).norm)
    rwa [List.length_map] at this

section
variable {X : Fx} {g : Gx} {st st' : St} {K : List Item} {k : List Item} {ops : Array Oper} {i : Nat} {rest : List Nat} {o : Oper}

/-- A new variable that holds nought; that nothing refers to it is shown apart. -/
theorem Run.alloc {d t : Nat} {ti : TI} (ho : ops[i]? = some o) (hg : guardOf ops st o = some true) (hd : o.dst = some d) (hop : o.op = .alloc t) (hT : X.T t = some ti) (hz : oneL (ti.zero.map .lit) = true) (hn : st.nrf (d, 0) = true)
    (hdn : (Nat.blt d X.fn.ntmps && !(X.pins.contains d)) = true) (h : Run X g (.inRegion ops rest :: k) ((st.setObj (d, 0) (.box (ti.zero.map .lit))).put d (.bp (d, 0) 0))) : Run X g (.inRegion ops (i :: rest) :: k) st := by
  simp only [Bool.and_eq_true, Bool.not_eq_true'] at hdn
  refine Run.op ho (fun a w hI => guardOf_ok hg a w hI) ?_ h
  intro hX a w hI
  obtain ⟨u, w', hu, hI'⟩ := hI.allocv hX hT hz hn (blt_lt hdn.1) (contains_iff hdn.2)
  refine ⟨u, w', .inl ?_, by rw [hd]; exact hI'⟩
  simp [execOp, hop, hu]
end
end Go.Av

/- Elements that are slices themselves become objects, and go back. -/
namespace Go.Av
open Go Go.RowKit

section
variable {X : Fx} {g : Gx} {st st' : St} {a : Act} {w w' : World} {β β' : Env} {F : Key → List Nat} {L : Nat → Prop} {K : List Item}

/-- A cell of an element, which owns a slice, becomes an object; the cell keeps its name. -/
theorem SR.uncell1 {id0 id1 idt : Id} {sz m j sz' : Nat} {ex ex' : Bool} {xs zs : List AV} {y : AV} (ho : st.obj id0 = .vec sz ex xs) (hy : xs[m]? = some y) (hj : y.cells[j]? = some (.own sz' ex' zs))
    (hreb : ∀ v, (reb y (y.cells.set j (.lit v))).cells = y.cells.set j (.lit v)) (hn : st.nrf id1 = true) (h01 : id0 ≠ id1) (h0t : id0 ≠ idt) (h1t : id1 ≠ idt) (ht : st.obj idt = .gone) (h : SR X g st a w) :
    ∃ A n, SR X g (((st.setObj id0 (.vec sz ex (xs.set m (reb y (y.cells.set j (.lit (.slice A zs.length n))))))).setObj id1 (.vec sz' ex' zs)).setObj idt (.tie (.slice A zs.length n) id1)) a w := by
  obtain ⟨β, F, h⟩ := h
  have hob := h.obj id0
  rw [ho] at hob
  obtain ⟨v, hβ, hown⟩ := hob
  have hnd := h.sep.nodup (.o id0)
  have e0 : F (.o idt) = [] := by have := h.obj idt; rw [ht] at this; exact this
  obtain ⟨vals, Fs, Bs, hoc, hz, hvl, hr, hF⟩ := hown.ownCells
  rw [hF] at hnd
  have hm : m < xs.length := (List.getElem?_eq_some_iff.1 hy).1
  have hyl : y.cells.length = sz := hz y (List.mem_of_getElem? hy)
  have hjs : j < sz := by rw [← hyl]; exact (List.getElem?_eq_some_iff.1 hj).1
  have hq : (flatc xs)[m * sz + j]? = some (.own sz' ex' zs) := by rw [elem_at hz hy hjs]; exact hj
  have hql : m * sz + j < (flatc xs).length := (List.getElem?_eq_some_iff.1 hq).1
  have hqv : m * sz + j < vals.length := by rw [hvl, ← flatc_length hz]; exact hql
  have hcell := hr _ _ _ hq (List.getElem?_eq_getElem hqv)
  obtain ⟨nB, nFs, nap⟩ := List.nodup_append.1 hnd
  obtain ⟨q1, q2⟩ := foots_drop hql nFs
  obtain ⟨r1, r2, r3⟩ := List.nodup_append.1 q1
  obtain ⟨A, n, e⟩ := own_len hcell
  refine ⟨A, n, ?_⟩
  rw [← e]
  have hzz : ∀ x ∈ xs.set m (reb y (y.cells.set j (.lit vals[m * sz + j]))), x.cells.length = sz := by
    intro x hx
    rcases List.mem_or_eq_of_mem_set hx with hx | rfl
    · exact hz x hx
    · rw [hreb]; simpa using hyl
  have hfl : (flatc (xs.set m (reb y (y.cells.set j (.lit vals[m * sz + j]))))).length = (flatc xs).length := by
    rw [flatc_length hzz, flatc_length hz, List.length_set]
  refine h.two (β' := updE β id1 (vals[m * sz + j], sz')) (k1 := .o id0) (k2 := .o id1) (G1 := Bs ++ foots (updN Fs (m * sz + j) []) (flatc xs).length) (G2 := Fs (m * sz + j)) (by intro e; injection e with e; exact h01 e) ?_ (fun b hb => .inl ?_) ?_ ?_ ?_
  · rw [List.append_assoc]
    refine List.nodup_append.2 ⟨nB, q1, fun b hb b' hb' e => nap b hb b' (q2 b' hb') e⟩
  · rw [hF]
    rcases List.mem_append.1 hb with hb | hb
    · rcases List.mem_append.1 hb with hb | hb
      · exact List.mem_append_left _ hb
      · exact List.mem_append_right _ (q2 b (List.mem_append_left _ hb))
    · exact List.mem_append_right _ (q2 b (List.mem_append_right _ hb))
  · intro k x1 x2
    by_cases e : k = .o idt
    · subst e
      simp only [KRel]
      rw [St.obj_set_same]
      exact ⟨e0, sz', by simp [updE]⟩
    · refine ((h.krel k).upd _ hn x2).congr (fun d' e' => rfl) (fun id' e' => ?_)
      rw [St.obj_set_ne (by rintro rfl; exact e e'), St.obj_set_ne (by rintro rfl; exact x2 e'), St.obj_set_ne (by rintro rfl; exact x1 e')]
  · simp only [KRel]
    rw [St.obj_set_ne (Ne.symm h0t), St.obj_set_ne (Ne.symm h01), St.obj_set_same]
    refine ⟨v, by simp [updE, h01, hβ], ?_⟩
    rw [← hfl]
    refine hoc.rel (by simp) hzz fun k x u hx hu => ?_
    rw [flatc_set hz hy (by rw [hreb]; simpa using hyl)] at hx
    by_cases hk : m * sz ≤ k ∧ k < m * sz + sz
    · rw [if_pos hk, hreb] at hx
      by_cases e : k = m * sz + j
      · subst e
        rw [show m * sz + j - m * sz = j by omega, List.getElem?_set_self (by omega)] at hx
        cases hx
        rw [updN_same]
        rw [List.getElem?_eq_getElem hqv] at hu
        cases hu
        exact .lit _ _
      · rw [List.getElem?_set_ne (by omega)] at hx
        rw [updN_ne e]
        refine hr k x u ?_ hu
        have := elem_at hz hy (j := k - m * sz) (by omega)
        rw [show m * sz + (k - m * sz) = k by omega] at this
        rw [this]; exact hx
    · rw [if_neg hk] at hx
      rw [updN_ne (by omega)]
      exact hr k x u hx hu
  · simp only [KRel]
    rw [St.obj_set_ne (Ne.symm h1t), St.obj_set_same]
    exact ⟨_, by simp [updE], hcell.env _ rfl⟩

theorem Run.uncell1 (id0 id1 idt : Id) (m j : Nat) {sz sz' : Nat} {ex ex' : Bool} {xs zs : List AV} (y : AV) (ho : st.obj id0 = .vec sz ex xs) (hy : xs[m]? = some y) (hj : y.cells[j]? = some (.own sz' ex' zs))
    (hreb : ∀ v, (reb y (y.cells.set j (.lit v))).cells = y.cells.set j (.lit v)) (hn : st.nrf id1 = true) (h01 : id0 ≠ id1) (h0t : id0 ≠ idt) (h1t : id1 ≠ idt) (ht : st.obj idt = .gone)
    (h : ∀ A n, Run X g K (((st.setObj id0 (.vec sz ex (xs.set m (reb y (y.cells.set j (.lit (.slice A zs.length n))))))).setObj id1 (.vec sz' ex' zs)).setObj idt (.tie (.slice A zs.length n) id1))) : Run X g K st :=
  fun hX a w b cs hI => let ⟨A, n, hI'⟩ := hI.uncell1 ho hy hj hreb hn h01 h0t h1t ht; h A n hX a w b cs hI'

/-- .. and goes back into the cell. -/
theorem SR.recell1 {id0 id1 idt : Id} {sz m j sz' : Nat} {ex ex' : Bool} {xs zs : List AV} {y : AV} {v0 : Value} (ho : st.obj id0 = .vec sz ex xs) (hy : xs[m]? = some y) (hj : y.cells[j]? = some (.lit v0))
    (ht : st.obj idt = .tie v0 id1) (h1 : st.obj id1 = .vec sz' ex' zs) (hreb : (reb y (y.cells.set j (.own sz' ex' zs))).cells = y.cells.set j (.own sz' ex' zs)) (h01 : id0 ≠ id1) (h : SR X g st a w) :
    SR X g (((st.setObj id0 (.vec sz ex (xs.set m (reb y (y.cells.set j (.own sz' ex' zs)))))).setObj id1 .gone).setObj idt .gone) a w := by
  obtain ⟨β, F, h⟩ := h
  have hob := h.obj id0
  rw [ho] at hob
  obtain ⟨v, hβ, hown⟩ := hob
  have hob1 := h.obj id1
  rw [h1] at hob1
  obtain ⟨v1, hβ1, hown1⟩ := hob1
  have hobt := h.obj idt
  rw [ht] at hobt
  obtain ⟨e0, sz2, hβt⟩ := hobt
  have hv1 : v1 = v0 := by
    have := hβ1.symm.trans hβt
    injection this with this
    injection this
  subst hv1
  have h0t : idt ≠ id0 := by rintro rfl; rw [ht] at ho; cases ho
  have h1t : idt ≠ id1 := by rintro rfl; rw [ht] at h1; cases h1
  have hnd := h.sep.nodup (.o id0)
  obtain ⟨vals, Fs, Bs, hoc, hz, hvl, hr, hF⟩ := hown.ownCells
  rw [hF] at hnd
  have hm : m < xs.length := (List.getElem?_eq_some_iff.1 hy).1
  have hyl : y.cells.length = sz := hz y (List.mem_of_getElem? hy)
  have hjs : j < sz := by rw [← hyl]; exact (List.getElem?_eq_some_iff.1 hj).1
  have hq : (flatc xs)[m * sz + j]? = some (.lit v1) := by rw [elem_at hz hy hjs]; exact hj
  have hql : m * sz + j < (flatc xs).length := (List.getElem?_eq_some_iff.1 hq).1
  have hqv : m * sz + j < vals.length := by rw [hvl, ← flatc_length hz]; exact hql
  have hcell := hr _ _ _ hq (List.getElem?_eq_getElem hqv)
  have hFq : Fs (m * sz + j) = [] := hcell.pl_nil rfl
  have hvq : vals[m * sz + j] = v1 := by
    rw [hFq] at hcell
    generalize vals[m * sz + j] = u at hcell
    cases hcell; rfl
  obtain ⟨nB, nFs, nap⟩ := List.nodup_append.1 hnd
  have hap : ∀ b ∈ F (.o id1), b ∉ F (.o id0) := fun b hb hb' => h.sep.apart _ _ b (by intro e; injection e with e; exact h01 e.symm) hb hb'
  obtain ⟨q1, q2⟩ := foots_put (G := F (.o id1)) nFs hFq (h.sep.nodup _) (fun b hb hb' => hap b hb (by rw [hF]; exact List.mem_append_right _ hb'))
  have hzz : ∀ x ∈ xs.set m (reb y (y.cells.set j (.own sz' ex' zs))), x.cells.length = sz := by
    intro x hx
    rcases List.mem_or_eq_of_mem_set hx with hx | rfl
    · exact hz x hx
    · rw [hreb]; simpa using hyl
  have hfl : (flatc (xs.set m (reb y (y.cells.set j (.own sz' ex' zs))))).length = (flatc xs).length := by
    rw [flatc_length hzz, flatc_length hz, List.length_set]
  refine h.two (β' := β) (k1 := .o id1) (k2 := .o id0) (G1 := []) (G2 := Bs ++ foots (updN Fs (m * sz + j) (F (.o id1))) (flatc xs).length) (by intro e; injection e with e; exact h01 e.symm) ?_ (fun b hb => ?_) ?_ ?_ ?_
  · rw [List.nil_append]
    refine List.nodup_append.2 ⟨nB, q1, fun b hb b' hb' e => ?_⟩
    subst e
    rcases q2 b hb' with h' | h'
    · exact nap b hb b h' rfl
    · exact hap b h' (by rw [hF]; exact List.mem_append_left _ hb)
  · rw [List.nil_append] at hb
    rcases List.mem_append.1 hb with hb | hb
    · exact .inr (by rw [hF]; exact List.mem_append_left _ hb)
    · rcases q2 b hb with hb | hb
      · exact .inr (by rw [hF]; exact List.mem_append_right _ hb)
      · exact .inl hb
  · intro k x1 x2
    by_cases e : k = .o idt
    · subst e
      simp only [KRel]
      rw [St.obj_set_same]
      exact e0
    · refine (h.krel k).congr (fun d' e' => rfl) (fun id' e' => ?_)
      rw [St.obj_set_ne (by rintro rfl; exact e e'), St.obj_set_ne (by rintro rfl; exact x1 e'), St.obj_set_ne (by rintro rfl; exact x2 e')]
  · simp only [KRel]
    rw [St.obj_set_ne h1t, St.obj_set_same]
    rfl
  · simp only [KRel]
    rw [St.obj_set_ne h0t, St.obj_set_ne (Ne.symm h01), St.obj_set_same]
    refine ⟨v, hβ, ?_⟩
    rw [← hfl]
    refine hoc.rel (by simp) hzz fun k x u hx hu => ?_
    rw [flatc_set hz hy (by rw [hreb]; simpa using hyl)] at hx
    by_cases hk : m * sz ≤ k ∧ k < m * sz + sz
    · rw [if_pos hk, hreb] at hx
      by_cases e : k = m * sz + j
      · subst e
        rw [show m * sz + j - m * sz = j by omega, List.getElem?_set_self (by omega)] at hx
        cases hx
        rw [updN_same]
        rw [List.getElem?_eq_getElem hqv] at hu
        cases hu
        rw [hvq]
        exact hown1.env _ rfl
      · rw [List.getElem?_set_ne (by omega)] at hx
        rw [updN_ne e]
        refine hr k x u ?_ hu
        have := elem_at hz hy (j := k - m * sz) (by omega)
        rw [show m * sz + (k - m * sz) = k by omega] at this
        rw [this]; exact hx
    · rw [if_neg hk] at hx
      rw [updN_ne (by omega)]
      exact hr k x u hx hu

theorem Run.recell1 (id0 id1 idt : Id) (m j : Nat) {sz sz' : Nat} {ex ex' : Bool} {xs zs : List AV} (y : AV) {v0 : Value} (ho : st.obj id0 = .vec sz ex xs) (hy : xs[m]? = some y) (hj : y.cells[j]? = some (.lit v0))
    (ht : st.obj idt = .tie v0 id1) (h1 : st.obj id1 = .vec sz' ex' zs) (hreb : (reb y (y.cells.set j (.own sz' ex' zs))).cells = y.cells.set j (.own sz' ex' zs)) (h01 : id0 ≠ id1)
    (h : Run X g K (((st.setObj id0 (.vec sz ex (xs.set m (reb y (y.cells.set j (.own sz' ex' zs)))))).setObj id1 .gone).setObj idt .gone)) : Run X g K st :=
  Run.ghost (fun _ _ hI => hI.recell1 ho hy hj ht h1 hreb h01) h

/-- The value of that name in an aggregate is the object. -/
theorem SR.nameAgg {d c sz : Nat} {ex : Bool} {cs xs : List AV} {id idt : Id} {v0 : Value} (hd : st.get d = .agg cs) (hc : cs[c]? = some (.lit v0)) (ht : st.obj idt = .tie v0 id) (ho : st.obj id = .vec sz ex xs) (h : SR X g st a w) :
    SR X g (st.put d (.agg (cs.set c (.vec id 0 xs.length)))) a w := by
  obtain ⟨β, F, h⟩ := h
  have hne : st.get d ≠ .top := by rw [hd]; simp
  have hget := h.slotget hne
  have hr := h.slotv hne
  have hnd := h.sep.nodup (.s d)
  rw [hd] at hr
  have hob := h.obj id
  rw [ho] at hob
  obtain ⟨v, hβ, hown⟩ := hob
  have hobt := h.obj idt
  rw [ht] at hobt
  obtain ⟨_, sz2, hβt⟩ := hobt
  have hv : v = v0 := by
    have := hβ.symm.trans hβt
    injection this with this
    injection this
  subst hv
  have hup : updE β id (v, sz) = β := by
    funext x
    simp only [updE]
    split
    · rename_i e; subst e; exact hβ.symm
    · rfl
  have hv := hown.own_vec id
  rw [hup] at hv
  generalize a.tmps.getD d undef = u at hr hget
  generalize hF : F (.s d) = G at hr hnd
  cases hr with
  | agg _ _ vals Fs hl hrr =>
  have hcl : c < cs.length := (List.getElem?_eq_some_iff.1 hc).1
  have hcv : c < vals.size := by omega
  obtain ⟨q1, q2⟩ := foots_drop hcl hnd
  have hu : vals[c] = v := by
    have := hrr c _ _ hc (Array.getElem?_eq_getElem hcv)
    generalize vals[c] = z at this
    generalize Fs c = Gc at this
    cases this
    rfl
  have hnew := Rel.agg (w := w) (L := Lv g F) β (cs.set c (.vec id 0 xs.length)) vals (updN Fs c []) (by simpa using hl) (by
    intro k x u hx hu'
    by_cases e : k = c
    · subst e
      rw [List.getElem?_set_self hcl] at hx
      cases hx
      rw [Array.getElem?_eq_getElem hcv] at hu'
      cases hu'
      rw [updN_same, hu]
      exact hv
    · rw [List.getElem?_set_ne (Ne.symm e)] at hx
      rw [updN_ne e]
      exact hrr k x u hx hu')
  rw [List.length_set] at hnew
  have hG : ∀ b ∈ foots (updN Fs c []) cs.length, b ∈ F (.s d) := fun b hb => by rw [hF]; exact q2 b (by simp [hb])
  refine ⟨_, _, (h.conv (.inl hget) hnew hG (List.nodup_append.1 q1).1).setL fun b _ hb => ?_⟩
  refine Lv_sub hb (fun k hk => ?_) .inl
  by_cases e : k = .s d
  · subst e
    rw [updF_same] at hk
    exact Lv_of (hG b hk)
  · rw [updF_ne _ e] at hk
    exact Lv_of hk

theorem Run.nameAgg (d c : Nat) {sz : Nat} {ex : Bool} {cs xs : List AV} {id : Id} (idt : Id) {v0 : Value} (hd : st.get d = .agg cs) (hc : cs[c]? = some (.lit v0)) (ht : st.obj idt = .tie v0 id) (ho : st.obj id = .vec sz ex xs)
    (h : Run X g K (st.put d (.agg (cs.set c (.vec id 0 xs.length))))) : Run X g K st := Run.ghost (fun _ _ hI => hI.nameAgg hd hc ht ho) h

variable {ops : Array Oper} {i : Nat} {rest : List Nat} {k : List Item} {o : Oper}

/-- append(s, t...) where s is an object and t is part of an object, or is only read. -/
theorem Run.appends {d s t u te : Nat} {x : Operand} {ti tu : TI} {id : Id} {n sz : Nat} {ex : Bool} {xs ys : List AV} (ho : ops[i]? = some o) (hg : guardOf ops st o = some true) (hd : o.dst = some d)
    (hop : o.op = .call ⟨.builtin .append, #[.tmp s, x], #[t, u]⟩) (hT : sliceAt X.T t = some (te, ti)) (hU : X.T u = some tu) (hui : (match tu.ud with | .slice _ => true | .string => true | _ => false) = true)
    (hs : st.get s = .vec id 0 n) (hob : st.obj id = .vec sz ex xs) (hy : srcOf st x = some (sz, ys)) (hly : (flatc ys).all isLT = true) (hsz : ti.sz = sz) (hzl : Nat.beq ti.zero.length ti.sz = true) (hn : n = xs.length)
    (hone : oneC ys = true) (hlen : (xs.length + ys.length) * ti.by' ≤ 140737488355328) (hcap : xs.length + ys.length ≤ capMax) (hdn : (Nat.blt d X.fn.ntmps && !(X.pins.contains d)) = true)
    (h : Run X g (.inRegion ops rest :: k) ((st.setObj id .gone).put d (.own sz false (xs ++ ys)))) : Run X g (.inRegion ops (i :: rest) :: k) st := by
  subst hsz
  simp only [Bool.and_eq_true, Bool.not_eq_true'] at hdn
  refine Run.op ho (fun a w hI => guardOf_ok hg a w hI) ?_ h
  rintro hX a w ⟨β, F, hI⟩
  obtain ⟨i', h1, h2, h3⟩ := sliceAt_ok hX hT
  have hu := ty_of hX hU
  have hsv := hI.slotv (d := s) (by rw [hs]; simp)
  rw [hs] at hsv
  rw [hsv.vec_nil] at hsv
  have hobj := hI.obj id
  rw [hob] at hobj
  obtain ⟨v, hβ, hown⟩ := hobj
  obtain ⟨G, hG, hx⟩ := hsv.vec_own hn hβ hown
  have hGs : ∀ b ∈ G, b ∈ F (.o id) := by rintro b hb; rcases hG with rfl | rfl; exact hb; simp at hb
  have hGn : G.Nodup := by rcases hG with rfl | rfl; exact hI.sep.nodup _; simp
  obtain ⟨vx, Fx, Bx, ocx, hzx, hvx, hrx, hGx⟩ := hx.ownCells
  rw [hGx] at hGn
  obtain ⟨nx1, nx2, nx3⟩ := List.nodup_append.1 hGn
  have hxs : ∀ b, b ∈ Bx ∨ b ∈ foots Fx (flatc xs).length → b ∈ F (.o id) := fun b hb => hGs b (by rw [hGx]; exact List.mem_append.2 hb)
  obtain ⟨Ay, cy, vy, huy, hvy, hzy, hfy, hry⟩ := srcOf_ok (P := X.P) hI hy hly
  have hone' : ∀ c ∈ vy, c.oneCell' = true := by
    intro c hc
    obtain ⟨k, hk, rfl⟩ := List.getElem_of_mem hc
    have hk' : k < (flatc ys).length := by rw [flatc_length hzy, ← hvy]; exact hk
    exact ((hry k _ _ (List.getElem?_eq_getElem hk') (List.getElem?_eq_getElem hk)).oneCell (oneC_flat hone k _ (List.getElem?_eq_getElem hk'))).1
  have hdu : ∀ kk, tu.ud ≠ .int kk := by intro kk e; rw [e] at hui; cases hui
  have ht' : X.P.underlying t = some (.slice te) := by rw [h1.ud, h2]
  obtain ⟨v', w', Bs', e1, e2, e3, e4⟩ := append_run (P := X.P) (w := w) (t := t) (u := u) (ty := o.type) ht' hu.ud hdu h3 (Nat.eq_of_beq_eq_true hzl) ocx (x := a.eval x) (m := ys.length) (news := vy)
    (fun w2 => by rw [huy]; rfl) (fun w2 hw2 => by have := hfy ys.length w2 (Nat.le_refl _) hw2; rwa [List.take_of_length_le (by rw [hvy]; exact Nat.le_refl _)] at this) hvy hone' hlen hcap
  refine ⟨v', w', .inl ?_, ?_⟩
  · obtain ⟨dst, op, type, pos, after, guard⟩ := o
    simp only at hop
    subst hop
    simp only [execOp, Sem.run_bind, resolve_builtin, Result.andThen_ok, invoke, builtin]
    have e1' : (Builtin.append_ #[t, u] type #[a.eval (.tmp s), a.eval x]).run X.P w = .ok v' w' := e1
    simp [e1']
  · rw [hd]
    have h0 : Inv X g (st.setObj id .gone) a w β (updF F (.o id) []) (Lv g F) := hI.setOb id .gone rfl (by simp) (by simp) (by simp)
    have hsub : ∀ kk b, b ∈ updF F (.o id) [] kk → b ∈ F kk ∧ kk ≠ .o id := by
      intro kk b hb
      by_cases x2 : kk = .o id
      · subst x2; rw [updF_same] at hb; simp at hb
      · rw [updF_ne _ x2] at hb; exact ⟨hb, x2⟩
    have hfo := foots_append Fx (fun _ => []) (flatc xs).length (flatc ys).length
    have hfn : foots (fun _ => []) (flatc ys).length = [] := foots_nil fun _ _ => rfl
    rw [hfn, List.append_nil] at hfo
    have hfl : (flatc (xs ++ ys)).length = (flatc xs).length + (flatc ys).length := by rw [flatc_append, List.length_append]
    have apx : ∀ b kk, b ∈ F (.o id) → b ∉ updF F (.o id) [] kk := fun b kk hb hb' => by
      obtain ⟨q1, q2⟩ := hsub kk b hb'
      exact hI.sep.apart _ _ b (Ne.symm q2) hb q1
    refine h0.made (L := Lv g F) (zs := xs ++ ys) (Hs := fun kk => if kk < (flatc xs).length then Fx kk else []) (fun kk b hb => Lv_of (hsub kk b hb).1) (fun b hb => .inl hb) e3
      (fun b hb => ⟨Lv_of (hxs b (.inl hb)), fun kk => apx b kk (hxs b (.inl hb)), hI.range _ b (hxs b (.inl hb))⟩) e4 nx1 e2 (by simp) ?_ ?_ ?_ ?_ (blt_lt hdn.1) (contains_iff hdn.2)
    · intro x hx'
      rcases List.mem_append.1 hx' with hx' | hx'
      · exact hzx x hx'
      · exact hzy x hx'
    · intro kk x uu hx' hu'
      rw [flatc_append] at hx'
      have hvxl : vx.length = (flatc xs).length := by rw [hvx, flatc_length hzx]
      by_cases hk : kk < (flatc xs).length
      · rw [List.getElem?_append_left hk] at hx'
        rw [List.getElem?_append_left (by omega)] at hu'
        simp only [if_pos hk]
        exact hrx kk x uu hx' hu'
      · rw [List.getElem?_append_right (by omega)] at hx'
        rw [List.getElem?_append_right (by omega), hvxl] at hu'
        simp only [if_neg hk]
        exact hry _ x uu hx' hu'
    · rw [hfl]
      refine (congrArg List.Nodup hfo).mpr nx2
    · intro b hb
      rw [hfl] at hb
      have hb : b ∈ foots Fx (flatc xs).length := by rw [← hfo]; exact hb
      exact ⟨Lv_of (hxs b (.inr hb)), fun hb' => nx3 b hb' b hb rfl, fun kk => apx b kk (hxs b (.inr hb)), hI.range _ b (hxs b (.inr hb)), hI.lt _ b (hxs b (.inr hb))⟩

end
end Go.Av
