/- Structs and arrays of plain parts that are compared, or keys of maps. -/
import Derived.Test.YtahdgoddpkmhbaaAvCut
import Derived.DeepKeys3
namespace Go.Av
open Go Go.RowKit Go.MapKept

/-- A type whose values are compared part by part. -/
structure KTy (P : Program) (kt : TypeId) {κ : Type} [DecidableEq κ] (kv : κ → List Value) (ok : κ → Prop) : Prop where
  eq : ∀ w a b, ok a → ok b → (Op.equal kt (.agg (kv a).toArray) (.agg (kv b).toArray)).run P w = .ok (decide (a = b)) w
  chk : ∀ w em a, ok a → (Instr.checkKey em 10000 kt (.agg (kv a).toArray)).run P w = .ok () w
  wide : (match P.underlying kt with | some (.array _ _) | some (.struct _) => true | _ => false) = true
  gd : P.eqGuardType P.depth kt = false

theorem KTy.of {P : Program} {kt : TypeId} {κ : Type} [DecidableEq κ] {kv : κ → List Value} {ok : κ → Prop} (m m' : Nat) (hm : m ≤ 10000) (hk : P.keyTypeAt m kt = true) (htl : P.tiled m' kt = true)
    (hwide : (match P.underlying kt with | some (.array _ _) | some (.struct _) => true | _ => false) = true) (hkey : ∀ a, ok a → ∃ l, keyOf P kt (.agg (kv a).toArray) = some l) (hinj : ∀ a b, kv a = kv b → a = b) (hgd : P.eqGuardType P.depth kt = false) : KTy P kt kv ok := by
  refine ⟨?_, ?_, hwide, hgd⟩
  · intro w a b ha hb
    obtain ⟨la, hla⟩ := hkey a ha
    obtain ⟨lb, hlb⟩ := hkey b hb
    obtain ⟨r, hr, hiff⟩ := run_equal_deep (P := P) w hm hk hwide hla hlb
    rw [hr]
    congr 1
    rw [Bool.eq_iff_iff, hiff, decide_eq_true_eq]
    constructor
    · intro e
      subst e
      have := keyOf_inj_deep htl hwide hla hlb
      exact hinj _ _ (by simpa using this)
    · rintro rfl
      rw [hla] at hlb
      exact Option.some.inj hlb
  · intro w em a ha
    obtain ⟨la, hla⟩ := hkey a ha
    obtain ⟨xs, L1, e, h1, _⟩ := keyOf_top hwide hla
    have hf : (Value.agg (kv a).toArray).formed P kt = true := by
      unfold keyOf at hla
      split at hla
      · split at hla
        · rename_i hf; exact (Bool.and_eq_true_iff.1 hf).2
        · cases hla
      · split at hla
        · rename_i hf; exact (Bool.and_eq_true_iff.1 hf).2
        · cases hla
      · rename_i h1 h2
        split at hwide <;> simp_all
    have := run_checkKey_deep (P := P) em (10000 - m) m kt hk w _ (.agg (kv a).toArray) L1 hf (by rw [e]; exact h1)
    rwa [show 10000 - m + m = 10000 by omega] at this

/-- Where a key is, and the number there. -/
def kfind {κ : Type} [DecidableEq κ] (n : κ) : List (κ × Int) → Nat → Option (Nat × Int)
  | [], _ => none
  | x :: r, i => if n = x.1 then some (i, x.2) else kfind n r (i + 1)

theorem kfind_some {κ : Type} [DecidableEq κ] {n : κ} : ∀ {l : List (κ × Int)} {i j : Nat} {v : Int}, kfind n l i = some (j, v) → i ≤ j ∧ l[j - i]? = some (n, v) := by
  intro l
  induction l with
  | nil => intro i j v h; cases h
  | cons x r ih =>
    intro i j v h
    unfold kfind at h
    split at h
    · rename_i e
      cases h
      subst e
      simp
    · obtain ⟨h1, h2⟩ := ih h
      refine ⟨by omega, ?_⟩
      rw [show j - i = (j - (i + 1)) + 1 by omega]
      simpa using h2

/-- A map's entries: struct keys, whole numbers. -/
def mqv {κ : Type} (kv : κ → List Value) (l : List (κ × Int)) : List (Value × Value) := l.map fun x => (.agg (kv x.1).toArray, .int .i64 x.2)

theorem KTy.find {P : Program} {kt : TypeId} {κ : Type} [DecidableEq κ] {kv : κ → List Value} {ok : κ → Prop} (K : KTy P kt kv ok) (w : World) (n : κ) (hn : ok n) :
    ∀ (l : List (κ × Int)) (es : List MapEntry) (i : Nat), (∀ x ∈ l, ok x.1) → es.map (fun e => (e.key, e.val)) = mqv kv l →
    (Instr.findAsking kt (.agg (kv n).toArray) es i).run P w = .ok ((kfind n l i).map fun x => (x.1, .int .i64 x.2)) w := by
  intro l
  induction l with
  | nil =>
    intro es i _ h
    have : es = [] := by cases es; rfl; simp [mqv] at h
    subst this
    simp [Instr.findAsking, kfind]
  | cons x r ih =>
    intro es i hok h
    cases es with
    | nil => simp [mqv] at h
    | cons e es =>
      simp only [mqv, List.map_cons, List.cons.injEq, Prod.mk.injEq] at h
      obtain ⟨⟨h1, h2⟩, h3⟩ := h
      have hq := K.eq w n x.1 hn (hok x (by simp))
      have hih := ih es (i + 1) (fun y hy => hok y (by simp [hy])) h3
      unfold Instr.findAsking
      rw [h1]
      simp only [Sem.run_bind, hq, Result.andThen_ok, kfind]
      by_cases hx : n = x.1
      · simp [hx, h2]
      · simp [hx, hih]

section
variable {X : Fx} {g : Gx} {st st' : St} {a : Act} {w w' : World} {β β' : Env} {F : Key → List Nat} {L : Nat → Prop} {K : List Item} {k : List Item}
variable {ops : Array Oper} {i : Nat} {rest : List Nat} {o : Oper}

theorem ev_lits (h : Inv X g st a w β F L) {x : Operand} {ls : List Value} (hx : st.ev x = .agg (ls.map .lit)) : a.eval x = .agg ls.toArray := by
  have hpl : AV.plL (ls.map .lit) = true := by
    clear hx
    induction ls with
    | nil => rfl
    | cons y ls ih => simp only [List.map_cons, AV.plL, AV.pl, ih, Bool.and_self]
  have hR := ev_rel h x (by rw [hx]; exact hpl)
  rw [hx] at hR
  generalize a.eval x = u at hR
  generalize ([] : List Nat) = G at hR
  cases hR with
  | agg _ _ vals Fs hl hr =>
    congr 1
    apply Array.ext'
    apply List.ext_getElem?
    intro k
    by_cases hk : k < ls.length
    · have hkv : k < vals.size := by simp at hl; omega
      have h1 : (ls.map AV.lit)[k]? = some (.lit ls[k]) := by simp [hk]
      have h2 : vals[k]? = some vals[k] := Array.getElem?_eq_getElem hkv
      have := hr k _ _ h1 h2
      generalize hv : vals[k] = v at this
      rw [Array.getElem?_toList, h2, show (ls.toArray.toList)[k]? = some ls[k] by simp [hk]]
      generalize Fs k = G at this
      cases this
      rw [hv]
    · rw [List.getElem?_eq_none (by simp at hl ⊢; omega), List.getElem?_eq_none (by simp; omega)]

/-- Whether two values of such a type are equal. -/
theorem ValOk.eqK {κ : Type} [DecidableEq κ] {kv : κ → List Value} {ok : κ → Prop} {t t2 : Nat} {x y : Operand} (p q : κ) (hop : o.op = .binOp .eql t x y t2) (KK : KTy X.P t kv ok) (hx : st.ev x = .agg ((kv p).map .lit)) (hy : st.ev y = .agg ((kv q).map .lit))
    (hp : ok p) (hq : ok q) : ValOk X g st o (.lit (.bool (decide (p = q)))) := by
  intro hX a w β F hI
  refine ⟨.bool (decide (p = q)), fun w2 _ => ?_, .lit _ _⟩
  simp [execOp, hop, ev_lits hI hx, ev_lits hI hy, binOp, eqGuard, KK.gd, KK.eq w2 p q hp hq]

theorem ValOk.neK {κ : Type} [DecidableEq κ] {kv : κ → List Value} {ok : κ → Prop} {t t2 : Nat} {x y : Operand} (p q : κ) (hop : o.op = .binOp .neq t x y t2) (KK : KTy X.P t kv ok) (hx : st.ev x = .agg ((kv p).map .lit)) (hy : st.ev y = .agg ((kv q).map .lit))
    (hp : ok p) (hq : ok q) : ValOk X g st o (.lit (.bool (!decide (p = q)))) := by
  intro hX a w β F hI
  refine ⟨.bool (!decide (p = q)), fun w2 _ => ?_, .lit _ _⟩
  simp [execOp, hop, ev_lits hI hx, ev_lits hI hy, binOp, eqGuard, KK.gd, KK.eq w2 p q hp hq]

theorem SR.mqSet {id : Id} {b : Nat} {es es' : List (Value × Value)} {arr arr' : Array MapEntry} (hob : st.obj id = .mq b es) (hb : w.heap[b]? = some (.map arr arr.size))
    (he : arr'.toList.map (fun e => (e.key, e.val)) = es') (hborn : ∀ (i : Nat) (e : MapEntry), arr'[i]? = some e → e.born = i) (h : Inv X g st a w β F (Lv g F)) :
    SR X g (st.setObj id (.mq b es')) a { w with heap := w.heap.setIfInBounds b (.map arr' arr'.size) } := by
  have hobj := h.obj id
  rw [hob] at hobj
  obtain ⟨hF, _⟩ := hobj
  have hbF : b ∈ F (.o id) := by rw [hF]; simp
  have hbr := h.range _ b hbF
  obtain ⟨hs1, hs2⟩ := heap_set (o' := .map arr' arr'.size) hb
  generalize hw' : ({ w with heap := w.heap.setIfInBounds b (.map arr' arr'.size) } : World) = w'
  have hk : Kp [b] w w' := by subst hw'; exact ⟨rfl, rfl, rfl, by simp, fun c _ hc => hs2 c (by simpa using hc)⟩
  have h1' : Inv X g (st.setObj id .gone) a w β (updF F (.o id) []) (Lv g F) := h.setOb id .gone rfl (by simp) (by simp) (by simp)
  have h2' : Inv X g (st.setObj id .gone) a w' β (updF F (.o id) []) (Lv g F) := by
    refine h1'.world (M := fun c => c = b) (h.kp.trans hk (by simpa using hbr)) (fun c hc hM => hk.block c hc (by simpa using hM)) (fun c hc => by subst hc; exact Lv_of hbF) (fun _ _ h => h) ?_
    rintro kk2 c hc rfl
    by_cases e : kk2 = .o id
    · subst e; rw [updF_same] at hc; simp at hc
    · rw [updF_ne _ e] at hc; exact h.sep.apart _ _ c e hc hbF
  have h3 := h2'.setOb id (.mq b es') (G := [b]) ⟨rfl, arr', by subst hw'; exact hs1, he, hborn⟩ (by simp) (by
    intro kk2 hk2 c hc hc'
    rw [List.mem_singleton.1 hc] at hc'
    rw [updF_ne _ hk2] at hc'
    exact h.sep.apart _ _ b hk2 hc' hbF) (by
    intro c hc
    rw [List.mem_singleton.1 hc]; exact hbr)
  have h4 : SR X g ((st.setObj id .gone).setObj id (.mq b es')) a w' := by
    refine ⟨_, _, h3.setL fun c _ hc => ?_⟩
    refine Lv_sub hc (fun k2 hk2 => ?_) .inl
    by_cases e : k2 = .o id
    · subst e; rw [updF_same] at hk2; rw [List.mem_singleton.1 hk2]; exact Lv_of hbF
    · rw [updF_ne _ e, updF_ne _ e] at hk2; exact Lv_of hk2
  have hle : St.Le (st.setObj id (.mq b es')) ((st.setObj id .gone).setObj id (.mq b es')) := ⟨fun d => .inr rfl, fun id' => .inr (by
    rw [St.obj_setObj, St.obj_setObj, St.obj_setObj]
    by_cases e : id = id' <;> simp [e])⟩
  exact h4.le hle

theorem SR.putT {d : Nat} {vs : List Value} (hdn : d < X.fn.ntmps) (hpin : d ∉ X.pins) (h : SR X g st a w) : SR X g (st.put d (.tup (vs.map .lit))) (a.put (some d) (.tuple vs.toArray)) w := by
  obtain ⟨β, F, h⟩ := h
  have hr : Rel w (Lv g F) β (.tup (vs.map .lit)) (.tuple vs.toArray) [] := by
    have := Rel.tup (w := w) (L := Lv g F) β (vs.map AV.lit) vs.toArray (fun _ => []) (by simp) (by
      intro k x u hx hu
      rw [List.getElem?_map] at hx
      obtain ⟨y, hy, rfl⟩ := Option.map_eq_some_iff.1 hx
      have : y = u := by simpa [hy] using hu
      subst this
      exact .lit _ _)
    rwa [foots_nil fun _ _ => rfl] at this
  exact h.putv hdn hpin hr

/-- The entry at a key that is there. -/
theorem Run.entryOld {κ : Type} [DecidableEq κ] {kv : κ → List Value} {ok : κ → Prop} {d t kt et : Nat} {m x : Operand} {id : Id} {b j : Nat} {l : List (κ × Int)} (n : κ) {v : Int} {tm : TI}
    (ho : ops[i]? = some o) (hg : guardOf ops st o = some true) (hd : o.dst = some d) (hop : o.op = .mapEntry t m x) (hT : X.T t = some tm) (htm : tm.ud = .map kt et) (KK : KTy X.P kt kv ok)
    (hsame : ∀ a, Instr.sameBits 10000 (.agg (kv a).toArray) (.agg (kv a).toArray) = true)
    (hm : st.ev m = .lit (.map (some b))) (hob : st.obj id = .mq b (mqv kv l)) (hx : st.ev x = .agg ((kv n).map .lit)) (hn : ok n) (hl : ∀ x ∈ l, ok x.1) (hf : kfind n l 0 = some (j, v))
    (hdn : (Nat.blt d X.fn.ntmps && !(X.pins.contains d)) = true)
    (h : Run X g (.inRegion ops rest :: k) (st.put d (.tup [.lit (.int .i64 v), .lit (.int .i64 j)]))) : Run X g (.inRegion ops (i :: rest) :: k) st := by
  simp only [Bool.and_eq_true, Bool.not_eq_true'] at hdn
  refine Run.op ho (fun a w hI => guardOf_ok hg a w hI) ?_ h
  rintro hX a w hSR
  obtain ⟨β, F, hI⟩ := hSR
  have h1 := ty_of hX hT
  have hobj := hI.obj id
  rw [hob] at hobj
  obtain ⟨hF, arr, hb, he, hborn⟩ := hobj
  have hs := un_run h1 w
  rw [htm] at hs
  have hfind := KK.find w n hn l arr.toList 0 hl he
  rw [hf] at hfind
  have hck := KK.chk w false n hn
  have hkey := (run_findKey_eq (P := X.P) (w := w) KK.wide (.agg (kv n).toArray) arr.toList).trans hfind
  obtain ⟨_, hj⟩ := kfind_some hf
  simp only [Nat.sub_zero] at hj
  have hje : ∃ e, arr[j]? = some e ∧ e.key = .agg (kv n).toArray := by
    have h3 : (arr.toList.map (fun e => (e.key, e.val)))[j]? = (mqv kv l)[j]? := by rw [he]
    rw [List.getElem?_map, mqv, List.getElem?_map, hj] at h3
    obtain ⟨e, he1, he2⟩ := Option.map_eq_some_iff.1 h3
    exact ⟨e, by simpa using he1, by simpa using congrArg Prod.fst he2⟩
  obtain ⟨e, he1, he2⟩ := hje
  have hmod : arr.modify j (fun e => { e with key := .agg (kv n).toArray }) = arr := by
    apply Array.ext_getElem?
    intro c
    rw [Array.getElem?_modify]
    by_cases hc : j = c
    · subst hc
      rw [if_pos rfl, he1, ← he2]
      rfl
    · rw [if_neg hc]
  have hself : ({ w with heap := w.heap.setIfInBounds b (.map arr arr.size) } : World) = w := by
    have : w.heap.setIfInBounds b (.map arr arr.size) = w.heap := by
      apply Array.ext_getElem?
      intro c
      rw [Array.getElem?_setIfInBounds]
      by_cases hc : b = c
      · subst hc
        rw [if_pos rfl, hb]
        simp [(Array.getElem?_eq_some_iff.1 hb).1]
      · rw [if_neg hc]
    rw [this]
  have hso := Go.MapKept.run_setObj_map (P := X.P) (.map arr arr.size) hb
  rw [hself] at hso
  refine ⟨.tuple #[.int .i64 v, .int .i64 j], w, .inl ?_, ?_⟩
  · simp [execOp, hop, Instr.mapEntry, ev_lit hI hm, ev_lits hI hx, hs, Go.MapKept.run_getObj_map hb, hck, hkey, he1, he2, Instr.keyThatStays, hsame, hmod, hso, hborn j e he1, goInt]
  · rw [hd]
    exact SR.putT (vs := [.int .i64 v, .int .i64 j]) (blt_lt hdn.1) (contains_iff hdn.2) ⟨β, F, hI⟩

/-- The entry at a new key. -/
theorem Run.entryNew {κ : Type} [DecidableEq κ] {kv : κ → List Value} {ok : κ → Prop} {d t kt et : Nat} {m x : Operand} {id : Id} {b : Nat} {l : List (κ × Int)} (n : κ) {tm te : TI}
    (ho : ops[i]? = some o) (hg : guardOf ops st o = some true) (hd : o.dst = some d) (hop : o.op = .mapEntry t m x) (hT : X.T t = some tm) (htm : tm.ud = .map kt et) (KK : KTy X.P kt kv ok)
    (hz : (X.P.info? et).map (·.zero) = some (some (.int .i64 0)))
    (hm : st.ev m = .lit (.map (some b))) (hob : st.obj id = .mq b (mqv kv l)) (hx : st.ev x = .agg ((kv n).map .lit)) (hn : ok n) (hl : ∀ x ∈ l, ok x.1) (hf : kfind n l 0 = none)
    (hdn : (Nat.blt d X.fn.ntmps && !(X.pins.contains d)) = true)
    (h : Run X g (.inRegion ops rest :: k) ((st.setObj id (.mq b (mqv kv (l ++ [(n, 0)])))).put d (.tup [.lit (.int .i64 0), .lit (.int .i64 l.length)]))) : Run X g (.inRegion ops (i :: rest) :: k) st := by
  simp only [Bool.and_eq_true, Bool.not_eq_true'] at hdn
  refine Run.op ho (fun a w hI => guardOf_ok hg a w hI) ?_ h
  rintro hX a w hSR
  obtain ⟨β, F, hI⟩ := hSR
  have h1 := ty_of hX hT
  obtain ⟨jz, hjz, hz0⟩ := Option.map_eq_some_iff.1 hz
  have hobj := hI.obj id
  rw [hob] at hobj
  obtain ⟨hF, arr, hb, he, hborn⟩ := hobj
  have hs := un_run h1 w
  rw [htm] at hs
  have hfind := KK.find w n hn l arr.toList 0 hl he
  rw [hf] at hfind
  have hck := KK.chk w false n hn
  have hkey := (run_findKey_eq (P := X.P) (w := w) KK.wide (.agg (kv n).toArray) arr.toList).trans hfind
  have hlen : arr.size = l.length := by
    have := congrArg List.length he
    simpa [mqv] using this
  have hso := Go.MapKept.run_setObj_map (P := X.P) (.map (arr.push { key := .agg (kv n).toArray, val := .int .i64 0, born := arr.size }) (arr.size + 1)) hb
  refine ⟨.tuple #[.int .i64 0, .int .i64 l.length], { w with heap := w.heap.setIfInBounds b (.map (arr.push { key := .agg (kv n).toArray, val := .int .i64 0, born := arr.size }) (arr.push { key := .agg (kv n).toArray, val := .int .i64 0, born := arr.size }).size) }, .inl ?_, ?_⟩
  rotate_left
  · rw [hd]
    refine SR.putT (vs := [.int .i64 0, .int .i64 l.length]) (blt_lt hdn.1) (contains_iff hdn.2) (SR.mqSet (arr' := arr.push { key := .agg (kv n).toArray, val := .int .i64 0, born := arr.size }) hob hb ?_ ?_ hI)
    · simp [he, mqv]
    · intro c e hc
      rw [Array.getElem?_push] at hc
      split at hc
      · rename_i hcs
        cases hc
        exact hcs.symm
      · exact hborn c e hc
  · rw [hlen] at hso
    simp [execOp, hop, Instr.mapEntry, ev_lit hI hm, ev_lits hI hx, hs, Go.MapKept.run_getObj_map hb, hck, hkey, hso, zeroValue, typeInfo, hjz, hz0, goInt, hlen]

/-- A store into an entry. -/
theorem Run.entrySet {κ : Type} {kv : κ → List Value} {t : Nat} {m s v : Operand} {id : Id} {b : Nat} {l : List (κ × Int)} {kk : IntKind} (j : Nat) (n : κ) {u u0 : Int}
    (ho : ops[i]? = some o) (hg : guardOf ops st o = some true) (hd : o.dst = none) (hop : o.op = .entryStore t m s v)
    (hm : st.ev m = .lit (.map (some b))) (hob : st.obj id = .mq b (mqv kv l)) (hs : st.ev s = .lit (.int kk j)) (hv : st.ev v = .lit (.int .i64 u)) (hj : l[j]? = some (n, u0))
    (h : Run X g (.inRegion ops rest :: k) (st.setObj id (.mq b (mqv kv (l.set j (n, u)))))) : Run X g (.inRegion ops (i :: rest) :: k) st := by
  refine Run.op ho (fun a w hI => guardOf_ok hg a w hI) ?_ h
  rintro hX a w hSR
  obtain ⟨β, F, hI⟩ := hSR
  have hobj := hI.obj id
  rw [hob] at hobj
  obtain ⟨hF, arr, hb, he, hborn⟩ := hobj
  have hlen : arr.size = l.length := by
    have := congrArg List.length he
    simpa [mqv] using this
  have hjl : j < arr.size := by rw [hlen]; exact (List.getElem?_eq_some_iff.1 hj).1
  have hidx : arr.findIdx? (fun e => (e.born : Int) == (j : Int)) = some j := by
    rw [Array.findIdx?_eq_some_iff_getElem]
    refine ⟨hjl, ?_, ?_⟩
    · have := hborn j arr[j] (Array.getElem?_eq_getElem hjl)
      simp [this]
    · intro c hc
      have := hborn c arr[c] (Array.getElem?_eq_getElem (by omega))
      simp [this]
      omega
  have hso := Go.MapKept.run_setObj_map (P := X.P) (.map (arr.modify j fun e => { e with val := .int .i64 u }) arr.size) hb
  refine ⟨undef, { w with heap := w.heap.setIfInBounds b (.map (arr.modify j fun e => { e with val := .int .i64 u }) (arr.modify j fun e => { e with val := .int .i64 u }).size) }, .inr ⟨?_, rfl⟩, ?_⟩
  rotate_left
  · rw [hd]
    have hsz : arr.size = (arr.modify j fun e => { e with val := .int .i64 u }).size := by simp
    refine SR.mqSet (arr' := arr.modify j fun e => { e with val := .int .i64 u }) hob hb ?_ ?_ hI
    · apply List.ext_getElem?
      intro c
      have h3 : (arr.toList.map (fun e => (e.key, e.val)))[c]? = (mqv kv l)[c]? := by rw [he]
      rw [List.getElem?_map, mqv, List.getElem?_map] at h3
      rw [List.getElem?_map, mqv, List.getElem?_map, List.getElem?_set, Array.getElem?_toList, Array.getElem?_modify]
      rw [Array.getElem?_toList] at h3
      by_cases hc : j = c
      · subst hc
        rw [if_pos rfl, if_pos rfl, if_pos (by rw [← hlen]; exact hjl)]
        rw [hj, Array.getElem?_eq_getElem hjl] at h3
        rw [Array.getElem?_eq_getElem hjl]
        simp only [Option.map_some, Option.some.injEq, Prod.mk.injEq] at h3 ⊢
        exact ⟨h3.1, trivial⟩
      · rw [if_neg hc, if_neg hc]
        exact h3
    · intro c e hc
      rw [Array.getElem?_modify] at hc
      split at hc
      · rename_i hcj
        obtain ⟨e', he', rfl⟩ := Option.map_eq_some_iff.1 hc
        exact hborn c e' he'
      · exact hborn c e hc
  · simp [execOp, hop, Instr.entryStore, ev_lit hI hm, ev_lit hI hs, ev_lit hI hv, Go.MapKept.run_getObj_map hb, asInt, asIntOf, hidx, hso]

theorem Run.makeMapK {d t : Nat} (id : Id) (ho : ops[i]? = some o) (hg : guardOf ops st o = some true) (hd : o.dst = some d) (hop : o.op = .makeMap t none)
    (hdn : (Nat.blt d X.fn.ntmps && !(X.pins.contains d)) = true)
    (h : ∀ b, Run X g (.inRegion ops rest :: k) ((st.setObj id (.mq b [])).put d (.lit (.map (some b))))) : Run X g (.inRegion ops (i :: rest) :: k) st := by
  simp only [Bool.and_eq_true, Bool.not_eq_true'] at hdn
  refine Run.opE (fun b => (st.setObj id (.mq b [])).put d (.lit (.map (some b)))) ho (fun a w hI => guardOf_ok hg a w hI) ?_ h
  rintro hX a w ⟨β, F, hI⟩
  refine ⟨w.heap.size, .map (some w.heap.size), w.alloc (.map #[] 0), .inl ?_, ?_⟩
  · simp [execOp, hop, Instr.makeMap]
  · rw [hd]
    have hk : Kp [] w (w.alloc (.map #[] 0)) := ⟨rfl, rfl, rfl, by simp, fun k hk _ => Below.heap_alloc w _ k hk⟩
    have h1 : Inv X g st a (w.alloc (.map #[] 0)) β F (fun b => Lv g F b ∨ b = w.heap.size) :=
      hI.world (M := fun _ => False) (hI.kp.trans hk (by simp)) (fun b hb _ => hk.block b hb (by simp)) (fun _ h => h.elim) (fun b hb h => by rcases h with h | h; exact h; omega) (fun _ _ _ h => h)
    have h2 := h1.setOb id (.mq w.heap.size []) (G := [w.heap.size]) ⟨rfl, #[], heap_alloc_new w _, rfl, by simp⟩ (by simp) (by
      intro kk' _ b hb hb'
      rw [List.mem_singleton.1 hb] at hb'
      have := hI.lt kk' _ hb'
      omega) (by
      intro b hb
      rw [List.mem_singleton.1 hb]
      exact .inr hI.kp.size)
    have h3 := h2.put (d := d) (v := .lit (.map (some w.heap.size))) (u := .map (some w.heap.size)) (G := []) (blt_lt hdn.1) (contains_iff hdn.2) (.lit _ _) (by simp) (by simp) (by simp)
    refine ⟨_, _, h3.setL fun b _ hb => ?_⟩
    refine Lv_sub (L := fun b => Lv g F b ∨ b = w.heap.size) hb (fun kk' hk' => ?_) (fun h => Or.inl (Or.inl h))
    by_cases e : kk' = .s d
    · subst e; rw [updF_same] at hk'; simp at hk'
    · rw [updF_ne _ e] at hk'
      by_cases e2 : kk' = .o id
      · subst e2; rw [updF_same] at hk'; exact .inr (List.mem_singleton.1 hk')
      · rw [updF_ne _ e2] at hk'; exact .inl (Lv_of hk')
end
end Go.Av
