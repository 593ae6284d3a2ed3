/- Operations that yield a value and touch nothing: the function, and that it is right. -/
import Derived.Test.YtoeocaenflkajaaAvPure
namespace Go.Av
open Go Go.RowKit

/-- Fills one cell. -/
def AV.one : AV → Bool
  | .lit v => match v with | .agg _ | .tuple _ => false | _ => true
  | .top | .agg _ | .tup _ => false
  | _ => true
def oneL : List AV → Bool
  | [] => true
  | x :: xs => x.one && oneL xs
/-- Its cells are known one by one. -/
def AV.okc : AV → Bool
  | .agg cs => oneL cs
  | x => x.one

theorem oneL_get {xs : List AV} (h : oneL xs = true) : ∀ (k : Nat) (x : AV), xs[k]? = some x → x.one = true := by
  induction xs with
  | nil => intro k x hx; simp at hx
  | cons y ys ih =>
    simp only [oneL, Bool.and_eq_true] at h
    intro k x hx
    cases k with
    | zero => simp at hx; subst hx; exact h.1
    | succ k => exact ih h.2 k x (by simpa using hx)

theorem Rel.oneCell {w : World} {L : Nat → Prop} {β : Env} {x : AV} {v : Value} {F : List Nat} (h : Rel w L β x v F) (hx : x.one = true) : v.oneCell' = true ∧ v.cells = #[v] := by
  cases h with
  | lit β v => cases v <;> first | (simp [AV.one] at hx; done) | exact ⟨rfl, rfl⟩
  | agg => simp [AV.one] at hx
  | tup => simp [AV.one] at hx
  | top => simp [AV.one] at hx
  | _ => exact ⟨rfl, rfl⟩

theorem Rel.cells {w : World} {L : Nat → Prop} {β : Env} {x : AV} {v : Value} {G : List Nat} (h : Rel w L β x v G) (hx : x.okc = true) :
    ∃ Fs : Nat → List Nat, x.cells.length = v.cells.size ∧ G = foots Fs x.cells.length ∧ (∀ c ∈ v.cells, c.oneCell' = true) ∧
      ∀ (k : Nat) (y : AV) (u : Value), x.cells[k]? = some y → v.cells[k]? = some u → Rel w L β y u (Fs k) := by
  have one : x.one = true → x.cells = [x] → ∃ Fs : Nat → List Nat, x.cells.length = v.cells.size ∧ G = foots Fs x.cells.length ∧ (∀ c ∈ v.cells, c.oneCell' = true) ∧
      ∀ (k : Nat) (y : AV) (u : Value), x.cells[k]? = some y → v.cells[k]? = some u → Rel w L β y u (Fs k) := by
    intro h1 h2
    obtain ⟨e1, e2⟩ := h.oneCell h1
    refine ⟨fun _ => G, by rw [h2, e2]; rfl, by rw [h2]; simp [foots, List.range_succ], ?_, ?_⟩
    · rw [e2]; simpa using e1
    · intro k y u hy hu
      rw [h2] at hy
      rw [e2] at hu
      cases k with
      | zero => simp at hy hu; subst hy; subst hu; exact h
      | succ k => simp at hy
  cases x with
  | agg cs =>
    cases h with
    | agg _ _ vals Fs hl hr =>
      refine ⟨Fs, hl, rfl, ?_, hr⟩
      intro c hc
      obtain ⟨k, hk, rfl⟩ := Array.mem_iff_getElem.1 hc
      have hk' : k < cs.length := by rw [hl]; exact hk
      exact ((hr k _ _ (List.getElem?_eq_getElem hk') (Array.getElem?_eq_getElem hk)).oneCell (oneL_get (by simpa [AV.okc] using hx) k _ (List.getElem?_eq_getElem hk'))).1
  | _ => exact one hx rfl

def aint (op : BinOp) (k : IntKind) (a b : Int) : Option Value :=
  match op with
  | .add => some (.int k (k.wrap (a + b)))
  | .sub => some (.int k (k.wrap (a - b)))
  | .mul => some (.int k (k.wrap (a * b)))
  | .quo => bif decide (b = 0) then none else some (.int k (k.wrap (a.tdiv b)))
  | .rem => bif decide (b = 0) then none else some (.int k (a.tmod b))
  | .eql => some (.bool (a == b))
  | .neq => some (.bool (a != b))
  | .lss => some (.bool (decide (a < b)))
  | .leq => some (.bool (decide (a ≤ b)))
  | .gtr => some (.bool (decide (a > b)))
  | .geq => some (.bool (decide (a ≥ b)))
  | _ => none

def astr (op : BinOp) (a b : ByteArray) : Option Value :=
  match op with
  | .eql => some (.bool (a.toList == b.toList))
  | .neq => some (.bool (!(a.toList == b.toList)))
  | .lss => some (.bool (Op.bytesLess a.toList b.toList))
  | _ => none

def abin (T : Nat → Option TI) (op : BinOp) (t : TypeId) : Value → Value → Option Value
  | .int k a, .int k' b => bif decide (k = k') then aint op k a b else none
  | .string a, .string b => astr op a b
  | .bool a, .bool b => match T t with
    | some i => match i.ud, op with
      | .bool, .eql => some (.bool (a == b))
      | .bool, .neq => some (.bool (!(a == b)))
      | _, _ => none
    | none => none
  | _, _ => none

def aun (op : UnOp) : Value → Option Value
  | .bool b => match op with | .not => some (.bool (!b)) | _ => none
  | .int k n => match op with | .neg => some (.int k (k.wrap (0 - n))) | _ => none
  | _ => none

def aconv (T : Nat → Option TI) (s t : TypeId) : Value → Option Value
  | .int _ n => match T s, T t with
    | some _, some i => match i.ud with
      | .int k => some (.int k (k.wrap n))
      | _ => none
    | _, _ => none
  | .string b => match T s, T t with
    | some _, some i => match i.ud with
      | .string => some (.string b)
      | _ => none
    | _, _ => none
  | _ => none

/-- A pointer moved by some cells. -/
def shiftp (x : AV) (n : Nat) : Option AV :=
  match x with
  | .bp id j => some (.bp id (j + n))
  | .rp cs j => some (.rp cs (j + n))
  | .ep id i j => some (.ep id i (j + n))
  | _ => none

def fieldAt (T : Nat → Option TI) (s f : Nat) : Option (Nat × TI) :=
  match T s with
  | some i => match i.ud with
    | .struct fs => match fs[f]? with
      | some fd => match T fd.type with
        | some ti => some (fd.offset, ti)
        | none => none
      | none => none
    | _ => none
  | none => none

def arrayAt (T : Nat → Option TI) (t : Nat) : Option (Nat × TI) :=
  match T t with
  | some i => match i.ud with
    | .array n e => match T e with
      | some ti => some (n, ti)
      | none => none
    | _ => none
  | none => none

def evs (st : St) (xs : List Operand) : Option (List AV) :=
  match xs with
  | [] => some []
  | x :: r => match plain (st.ev x), evs st r with
    | some v, some vs => some (v :: vs)
    | _, _ => none

def amax (b : Bool) : Value → Value → Option Value
  | .int k x, .int _ y => some (.int k (bif b then (if y > x then y else x) else (if y < x then y else x)))
  | _, _ => none

def aop (T : Nat → Option TI) (st : St) : Op → Option AV
  | .move x => plain (st.ev x)
  | .assign x => plain (st.ev x)
  | .pick c x y => match st.ev c with
    | .lit (.bool true) => plain (st.ev x)
    | .lit (.bool false) => plain (st.ev y)
    | _ => none
  | .load t x => match T t with
    | some i => match st.ev x with
      | .bp id j => match st.obj id with
        | .box cs => rdc i cs j
        | _ => none
      | .rp cs j => rdc i cs j
      | _ => none
    | none => none
  | .fieldAddr s x f => match fieldAt T s f with
    | some (off, i) => bif Nat.beq i.sz 0 then none else shiftp (st.ev x) off
    | none => none
  | .field s x f => match fieldAt T s f with
    | some (off, i) => match st.ev x with
      | .agg cs => rdc i cs off
      | _ => none
    | none => none
  | .nilCheck x => match st.ev x with
    | .bp id j => some (.bp id j)
    | .rp cs j => some (.rp cs j)
    | .ep id i j => some (.ep id i j)
    | _ => none
  | .binOp op t x y _ => match st.ev x, st.ev y with
    | .lit a, .lit b => (abin T op t a b).map .lit
    | _, _ => none
  | .unOp op _ x => match st.ev x with
    | .lit a => (aun op a).map .lit
    | _ => none
  | .convert s t x => match st.ev x with
    | .lit a => (aconv T s t a).map .lit
    | _ => none
  | .makeFunc (.func f) fs cs => match fs.toList with
    | [] => (evs st cs.toList).map (.fn f)
    | y :: ys => match cs.toList with
      | [] => (evs st (y :: ys)).map (.mv f)
      | _ => none
  | .extract t i => match st.ev t with
    | .tup vs => match vs[i]? with
      | some x => plain x
      | none => none
    | _ => none
  | .indexAddr t x i => match arrayAt T t with
    | some (n, ti) => match st.ev i with
      | .lit (.int _ m) => bif decide (0 ≤ m) && decide (m < n) then shiftp (st.ev x) (m.toNat * ti.sz) else none
      | _ => none
    | none => none
  | .index t x i => match arrayAt T t with
    | some (n, ti) => match st.ev i with
      | .lit (.int _ m) => bif decide (0 ≤ m) && decide (m < n) then (match st.ev x with
        | .agg cs => rdc ti cs (m.toNat * ti.sz)
        | _ => none) else none
      | _ => none
    | none => none
  | .call ⟨.builtin .len, xs, ts⟩ => match xs.toList, ts.toList with
    | [x], [t] => match T t with
      | some i => match st.ev x, i.ud with
        | .lit (.string s), .string => some (.lit (.int .i64 s.size))
        | .ro _ _ ys, .slice _ => some (.lit (.int .i64 ys.length))
        | .vec _ _ n, .slice _ => some (.lit (.int .i64 n))
        | .lit (.slice _ n _), .slice _ => some (.lit (.int .i64 n))
        | _, _ => none
      | none => none
    | _, _ => none
  | .call ⟨.builtin .max, xs, _⟩ => match xs.toList with
    | [x, y] => match st.ev x, st.ev y with
      | .lit a, .lit b => (amax true a b).map .lit
      | _, _ => none
    | _ => none
  | .call ⟨.builtin .min, xs, _⟩ => match xs.toList with
    | [x, y] => match st.ev x, st.ev y with
      | .lit a, .lit b => (amax false a b).map .lit
      | _, _ => none
    | _ => none
  | _ => none

section
variable {X : Fx} {g : Gx} {st : St} {a : Act} {w : World} {β : Env} {F : Key → List Nat} {L : Nat → Prop}

theorem ty_of (hX : X.Ok) {t : Nat} {i : TI} (h : X.T t = some i) : TyOk X.P t i := hX.ty t i h

theorem abin_ok (hX : X.Ok) {op : BinOp} {t : TypeId} {x y v : Value} (h : abin X.T op t x y = some v) (xo yo : Operand) :
    (do eqGuard op t xo yo x y; binOp op t x y : Sem Value).run X.P w = .ok v w := by
  cases x <;> cases y <;> simp only [abin] at h <;> try (cases h; done)
  case bool.bool a b =>
    have key : ∀ t', (underlying t).run X.P w = .ok .bool w → t' = t → (Op.equal t' (.bool a) (.bool b)).run X.P w = .ok (a == b) w := by
      rintro t' hu rfl
      have gen : ∀ d, (Op.equalIn (d + 1) t' (.bool a) (.bool b)).run X.P w = .ok (a == b) w := by
        intro d
        rw [Op.equalIn]
        simp only [Sem.run_bind, hu, Result.andThen_ok, Sem.run_pure]
      exact gen 9999
    split at h
    · rename_i i hi
      have hu := un_run (ty_of hX hi) w
      split at h <;> cases h
      · rename_i hud
        rw [hud] at hu
        have := key t hu rfl
        simp [eqGuard, binOp, this]
      · rename_i hud
        rw [hud] at hu
        have := key t hu rfl
        simp [eqGuard, binOp, this]
    · cases h
  case int.int k a k' b =>
    by_cases hk : k = k'
    · subst hk
      simp only [decide_true, cond_true] at h
      cases op <;> simp only [aint] at h <;> (try (cases h; done)) <;>
        first
        | (cases h; simp [eqGuard, binOp, Op.intArith, Op.intCmp]; done)
        | (by_cases hb : b = 0
           · simp [hb] at h
           · simp [hb] at h; subst h; simp [eqGuard, binOp, Op.intDiv, hb])
    · simp [hk] at h
  case string.string a b =>
    cases op <;> simp only [astr] at h <;> (try (cases h; done)) <;> cases h <;> simp [eqGuard, binOp, Op.stringOp]

theorem aun_ok {op : UnOp} {x v : Value} (h : aun op x = some v) : (Op.unary op x).run X.P w = .ok v w := by
  cases x <;> simp only [aun] at h <;> (try (cases h; done)) <;> cases op <;> simp only at h <;> (try (cases h; done)) <;> cases h <;> simp [Op.unary, Op.intArith]

theorem aconv_ok (hX : X.Ok) {s t : TypeId} {x v : Value} (h : aconv X.T s t x = some v) : (convert s t x).run X.P w = .ok v w := by
  cases x <;> simp only [aconv] at h <;> (try (cases h; done))
  all_goals
    split at h
    · rename_i i j hi hj
      have h1 := un_run (ty_of hX hi) w
      have h2 := un_run (ty_of hX hj) w
      split at h <;> cases h
      rename_i hud
      rw [hud] at h2
      simp only [convert, Sem.run_bind, h1, h2, Result.andThen_ok]
      cases i.ud <;> simp [Conv.intToInt]
    · cases h

theorem shiftp_ok {x y : AV} {n : Nat} {v : Value} (h : shiftp x n = some y) (hr : Rel w L β x v []) : ∃ ad : Addr, v = .pointer (some ad) ∧ ad.spot = none ∧ Rel w L β y (.pointer (some (ad.add n))) [] := by
  have hadd : ∀ b o : Nat, (⟨b, o, none⟩ : Addr).add n = ⟨b, o + n, none⟩ := by intro b o; unfold Addr.add; split <;> simp_all
  cases x <;> simp only [shiftp] at h <;> (try (cases h; done)) <;> cases h
  case rp cs j =>
    cases hr with
    | rp _ _ _ b o vals hL hl hrow hr =>
      refine ⟨_, rfl, rfl, ?_⟩
      rw [hadd, Nat.add_assoc]
      exact .rp _ _ _ _ _ vals hL hl hrow hr
  case bp id j =>
    cases hr with
    | bp _ _ _ b hβ => exact ⟨_, rfl, rfl, by rw [hadd]; exact .bp _ _ _ _ hβ⟩
  case ep id i j =>
    cases hr with
    | ep _ _ _ _ b n' c sz hβ => exact ⟨_, rfl, rfl, by rw [hadd, Nat.add_assoc]; exact .ep _ _ _ _ _ _ _ _ hβ⟩

theorem shiftp_pl {x y : AV} {n : Nat} (h : shiftp x n = some y) : x.pl = true := by
  cases x <;> simp only [shiftp] at h <;> first | (cases h; done) | rfl

theorem rdc_part {P : Program} {t : TypeId} {i : TI} (ht : TyOk P t i) {cs : List AV} {vals : Array Value} {Fs : Nat → List Nat} {j : Nat} {v : AV} (hl : cs.length = vals.size)
    (hr : ∀ (k : Nat) (x : AV) (u : Value), cs[k]? = some x → vals[k]? = some u → Rel w L β x u (Fs k)) (hv : rdc i cs j = some v) :
    ∃ u, (∀ w2, (part t vals j).run P w2 = .ok u w2) ∧ Rel w L β v u [] := by
  unfold rdc at hv
  cases hag : isAggD i.ud
  · rw [hag] at hv
    simp only [cond_false] at hv
    split at hv
    · rename_i x hx
      obtain ⟨rfl, hp⟩ := plain_some hv
      have hj : j < vals.size := by rw [← hl]; exact (List.getElem?_eq_some_iff.1 hx).1
      have hu := Array.getElem?_eq_getElem hj
      have hR := hr j x _ hx hu
      rw [hR.pl_nil hp] at hR
      refine ⟨vals[j], fun w2 => ?_, hR⟩
      simp [part, isAgg_run ht, hag, hu]
    · cases hv
  · rw [hag] at hv
    simp only [cond_true] at hv
    by_cases hc : (Nat.beq ((cs.drop j).take i.sz).length i.sz && AV.plL ((cs.drop j).take i.sz)) = true
    · rw [hc] at hv
      simp only [cond_true, Option.some.injEq] at hv
      subst hv
      simp only [Bool.and_eq_true] at hc
      obtain ⟨h1, h2⟩ := hc
      have h1 := Nat.eq_of_beq_eq_true h1
      refine ⟨.agg (vals.extract j (j + i.sz)), fun w2 => by simp [part, isAgg_run ht, hag, sizeOf_run ht], ?_⟩
      have := Rel.agg (w := w) (L := L) β ((cs.drop j).take i.sz) (vals.extract j (j + i.sz)) (fun _ => []) (by simp at h1 ⊢; omega) (by
        intro k x u hx hu
        have hp := AV.plL_get h2 k x hx
        rw [List.getElem?_take] at hx
        rw [Array.getElem?_extract] at hu
        split at hx
        · rename_i hk
          split at hu
          · have hR := hr (j + k) x u (by simpa using hx) hu
            rw [hR.pl_nil hp] at hR
            exact hR
          · cases hu
        · cases hx)
      rwa [foots_nil (fun _ _ => rfl)] at this
    · simp only [Bool.not_eq_true] at hc
      rw [hc] at hv
      simp at hv

theorem evs_ok (h : Inv X g st a w β F L) : ∀ (xs : List Operand) (vs : List AV), evs st xs = some vs →
    vs.length = xs.length ∧ ∀ (k : Nat) (y : AV) (u : Value), vs[k]? = some y → (xs.map a.eval)[k]? = some u → Rel w L β y u []
  | [], vs, hv => by simp only [evs, Option.some.injEq] at hv; subst hv; simp
  | x :: r, vs, hv => by
    simp only [evs] at hv
    split at hv
    · rename_i v vs' h1 h2
      obtain ⟨rfl, hp⟩ := plain_some h1
      simp only [Option.some.injEq] at hv
      subst hv
      obtain ⟨i1, i2⟩ := evs_ok h r vs' h2
      refine ⟨by simp [i1], fun k y u hy hu => ?_⟩
      cases k with
      | zero =>
        simp at hy hu
        subst hy; subst hu
        exact ev_rel h x hp
      | succ k => exact i2 k y u (by simpa using hy) (by simpa using hu)
    · cases hv

theorem fieldAt_ok (hX : X.Ok) {s f off : Nat} {ti : TI} (h : fieldAt X.T s f = some (off, ti)) :
    ∃ (i : TI) (fs : Array Field) (fd : Field), TyOk X.P s i ∧ i.ud = .struct fs ∧ fs[f]? = some fd ∧ fd.offset = off ∧ TyOk X.P fd.type ti := by
  simp only [fieldAt] at h
  split at h
  · rename_i i hi
    split at h
    · rename_i fs hud
      split at h
      · rename_i fd hfd
        split at h
        · rename_i ti' hti
          cases h
          exact ⟨i, fs, fd, ty_of hX hi, hud, hfd, rfl, ty_of hX hti⟩
        · cases h
      · cases h
    · cases h
  · cases h

theorem arrayAt_ok (hX : X.Ok) {t n : Nat} {ti : TI} (h : arrayAt X.T t = some (n, ti)) : ∃ (i : TI) (e : TypeId), TyOk X.P t i ∧ i.ud = .array n e ∧ TyOk X.P e ti := by
  simp only [arrayAt] at h
  split at h
  · rename_i i hi
    split at h
    · rename_i n' e hud
      split at h
      · rename_i ti' hti
        cases h
        exact ⟨i, e, ty_of hX hi, hud, ty_of hX hti⟩
      · cases h
    · cases h
  · cases h

theorem load_ok (hX : X.Ok) (h : Inv X g st a w β F L) {t : TypeId} {x : Operand} {v : AV} (hv : aop X.T st (.load t x) = some v) :
    ∃ u, (∀ w2, Kp [] w w2 → (Instr.loadAt t (a.eval x)).run X.P w2 = .ok u w2) ∧ Rel w L β v u [] := by
  simp only [aop] at hv
  split at hv
  · rename_i i hi
    have ht := ty_of hX hi
    split at hv
    · rename_i id j he
      split at hv
      · rename_i cs ho
        have hx := ev_rel h x (by rw [he]; rfl)
        rw [he] at hx
        have hob := h.obj id
        rw [ho] at hob
        obtain ⟨b, arr, T, lo, hi', Fs, hβ, hb, hfz, hs, hr, hF⟩ := hob
        generalize a.eval x = u at hx
        cases hx with
        | bp _ _ _ b' hβ' =>
        rw [hβ] at hβ'
        cases hβ'
        have hrow : ∀ w2, Kp [] w w2 → RowAt w2 b 0 arr.toList := by
          intro w2 hk2 k u hk
          have hb2 : w2.heap[b]? = some (.cells arr T (lo, hi')) := by rw [hk2.block b (Array.getElem?_eq_some_iff.1 hb).1 (by simp)]; exact hb
          simp only [Nat.zero_add]
          simp [World.cell?, hb2]; simpa using hk
        obtain ⟨u, hu, hR⟩ := load_row (P := X.P) (w := w) (b := b) (o := 0) (vals := arr.toList) (β := β) (L := L) ht (j := j) (by simp [hs]) (fun k x u hx hu => hr k x u hx (by simpa using hu)) hv
        rw [Nat.zero_add] at hu
        exact ⟨u, fun w2 hk2 => by simpa [Instr.loadAt, Instr.sureAddr] using hu w2 (hrow w2 hk2), hR⟩
      · cases hv
    · rename_i cs j he
      have hx := ev_rel h x (by rw [he]; rfl)
      rw [he] at hx
      generalize a.eval x = u at hx
      cases hx with
      | rp _ _ _ b o vals hL hl hrow hr =>
      obtain ⟨u, hu, hR⟩ := load_row (P := X.P) (w := w) (b := b) (o := o) (vals := vals) (β := noEnv) (L := L) (Fs := fun _ => []) ht (j := j) hl hr hv
      refine ⟨u, fun w2 hk2 => by simpa [Instr.loadAt, Instr.sureAddr] using hu w2 (hrow.keep fun hb => hk2.block b hb (by simp)), hR.of_noEnv rfl β⟩
    · cases hv
  · cases hv

theorem resolve_builtin {P : Program} {ρ : Operand → Value} {b : Builtin} {xs : Array Operand} {ts : Array TypeId} {ty : TypeId} :
    (resolve ρ ⟨.builtin b, xs, ts⟩ ty).run P w = .ok { target := .builtin b ts ty (xs.map fun | .const _ => true | _ => false), args := xs.map ρ } w := rfl

theorem of_toList2 {α : Type} {xs : Array α} {x y : α} (h : xs.toList = [x, y]) : xs = #[x, y] := by
  cases xs; simp at h; subst h; rfl
theorem of_toList1 {α : Type} {xs : Array α} {x : α} (h : xs.toList = [x]) : xs = #[x] := by
  cases xs; simp at h; subst h; rfl
theorem of_toList0 {α : Type} {xs : Array α} (h : xs.toList = []) : xs = #[] := by
  cases xs; simp at h; subst h; rfl

theorem map_lit {o : Option Value} {v : AV} (h : o.map AV.lit = some v) : ∃ u, o = some u ∧ v = .lit u := by
  cases o with
  | none => cases h
  | some u => exact ⟨u, rfl, (Option.some.inj h).symm⟩

theorem aop_ok (hX : X.Ok) (h : Inv X g st a w β F L) {o : Oper} {v : AV} (hv : aop X.T st o.op = some v) :
    ∃ u, (∀ w2, Kp [] w w2 → (execOp a.eval o).run X.P w2 = .ok (.value u) w2) ∧ Rel w L β v u [] := by
  obtain ⟨dst, op, type, pos, after, guard⟩ := o
  simp only at hv
  cases op with
  | move x =>
    obtain ⟨rfl, hp⟩ := plain_some hv
    exact ⟨_, fun _ _ => rfl, ev_rel h x hp⟩
  | assign x =>
    obtain ⟨rfl, hp⟩ := plain_some hv
    exact ⟨_, fun _ _ => rfl, ev_rel h x hp⟩
  | pick c x y =>
    simp only [aop] at hv
    split at hv
    · rename_i he
      obtain ⟨rfl, hp⟩ := plain_some hv
      exact ⟨_, fun _ _ => by simp [execOp, ev_lit h he, asBool], ev_rel h x hp⟩
    · rename_i he
      obtain ⟨rfl, hp⟩ := plain_some hv
      exact ⟨_, fun _ _ => by simp [execOp, ev_lit h he, asBool], ev_rel h y hp⟩
    · cases hv
  | load t x =>
    obtain ⟨u, hu, hR⟩ := load_ok hX h hv
    exact ⟨u, fun w2 hk => by simp [execOp, hu w2 hk], hR⟩
  | fieldAddr s x f =>
    simp only [aop] at hv
    split at hv
    · rename_i off ti hf
      obtain ⟨i, fs, fd, h1, h2, h3, h4, h5⟩ := fieldAt_ok hX hf
      cases hb : Nat.beq ti.sz 0
      · rw [hb] at hv
        simp only [cond_false] at hv
        obtain ⟨ad, had, hsp, hR⟩ := shiftp_ok hv (ev_rel h x (shiftp_pl hv))
        refine ⟨_, fun w2 _ => ?_, hR⟩
        have hs := un_run h1 w2
        rw [h2] at hs
        have hz : ti.sz ≠ 0 := fun e => by rw [e] at hb; simp at hb
        simp [execOp, Instr.fieldAt, hs, h3, had, Instr.sureAddr, fieldPlace, sizeOf_run h5, hz, h4]
      · rw [hb] at hv; simp at hv
    · cases hv
  | field s x f =>
    simp only [aop] at hv
    split at hv
    · rename_i off ti hf
      obtain ⟨i, fs, fd, h1, h2, h3, h4, h5⟩ := fieldAt_ok hX hf
      split at hv
      · rename_i cs he
        obtain ⟨G, hR⟩ := ev_rel0 h x (by rw [he]; simp)
        rw [he] at hR
        generalize hu : a.eval x = u at hR
        cases hR with
        | agg _ _ vals Fs hl hr =>
        obtain ⟨u, hp, hR'⟩ := rdc_part (P := X.P) (w := w) (L := L) (β := β) h5 hl hr hv
        refine ⟨u, fun w2 _ => ?_, hR'⟩
        have hs := un_run h1 w2
        have hp := hp w2
        rw [h2] at hs
        subst h4
        simp [execOp, Instr.field, hs, h3, hu, asAgg, hp]
      · cases hv
    · cases hv
  | nilCheck x =>
    simp only [aop] at hv
    split at hv <;> cases hv
    all_goals
      rename_i he
      have hR := ev_rel h x (by rw [he]; rfl)
      rw [he] at hR
      refine ⟨a.eval x, fun w2 _ => ?_, hR⟩
      generalize hu : a.eval x = u at hR
      cases hR <;> simp [execOp, hu]
  | binOp op t x y yt =>
    simp only [aop] at hv
    split at hv
    · rename_i v1 v2 h1 h2
      obtain ⟨u, hu, rfl⟩ := map_lit hv
      refine ⟨u, fun w2 _ => ?_, .lit _ _⟩
      have := abin_ok (w := w2) hX hu x y
      simp only [execOp, ev_lit h h1, ev_lit h h2]
      simp only [Sem.run_bind] at this ⊢
      rw [this]
      rfl
    · cases hv
  | unOp op t x =>
    simp only [aop] at hv
    split at hv
    · rename_i v1 h1
      obtain ⟨u, hu, rfl⟩ := map_lit hv
      refine ⟨u, fun w2 _ => ?_, .lit _ _⟩
      simp [execOp, ev_lit h h1, aun_ok hu]
    · cases hv
  | convert s t x =>
    simp only [aop] at hv
    split at hv
    · rename_i v1 h1
      obtain ⟨u, hu, rfl⟩ := map_lit hv
      refine ⟨u, fun w2 _ => ?_, .lit _ _⟩
      simp [execOp, ev_lit h h1, aconv_ok hX hu]
    · cases hv
  | makeFunc fn fs cs =>
    cases fn with
    | func f =>
      simp only [aop] at hv
      split at hv
      · rename_i hfs
        obtain rfl := of_toList0 hfs
        obtain ⟨vs, hvs, rfl⟩ := Option.map_eq_some_iff.1 hv
        obtain ⟨e1, e2⟩ := evs_ok h cs.toList vs hvs
        refine ⟨.func (.func f) #[] (cs.map a.eval), fun _ _ => by simp [execOp, Instr.makeFunc], .fn _ _ _ _ (by simpa using e1) fun k x u hx hu => e2 k x u hx ?_⟩
        simpa using hu
      · rename_i y ys hfs
        split at hv
        · rename_i hcs
          obtain rfl := of_toList0 hcs
          obtain ⟨vs, hvs, rfl⟩ := Option.map_eq_some_iff.1 hv
          rw [← hfs] at hvs
          obtain ⟨e1, e2⟩ := evs_ok h fs.toList vs hvs
          refine ⟨.func (.func f) (fs.map a.eval) #[], fun _ _ => by simp [execOp, Instr.makeFunc], .mv _ _ _ _ (by simpa using e1) fun k x u hx hu => e2 k x u hx ?_⟩
          simpa using hu
        · cases hv
    | _ => cases hv
  | extract t i =>
    simp only [aop] at hv
    split at hv
    · rename_i vs he
      split at hv
      · rename_i x hx
        obtain ⟨rfl, hp⟩ := plain_some hv
        obtain ⟨G, hR⟩ := ev_rel0 h t (by rw [he]; simp)
        rw [he] at hR
        generalize hu : a.eval t = u at hR
        cases hR with
        | tup _ _ vals Fs hl hr =>
        have hi : i < vals.size := by rw [← hl]; exact (List.getElem?_eq_some_iff.1 hx).1
        have hR' := hr i x _ hx (Array.getElem?_eq_getElem hi)
        rw [hR'.pl_nil hp] at hR'
        exact ⟨vals[i], fun _ _ => by simp [execOp, Instr.extract, hu, Array.getElem?_eq_getElem hi], hR'⟩
      · cases hv
    · cases hv
  | indexAddr t x i =>
    simp only [aop] at hv
    split at hv
    · rename_i n ti hf
      obtain ⟨i', e, h1, h2, h3⟩ := arrayAt_ok hX hf
      split at hv
      · rename_i k m he
        by_cases hc : 0 ≤ m ∧ m < n
        · have hc' : (decide (0 ≤ m) && decide (m < (n : Int))) = true := by simp [hc]
          rw [hc'] at hv
          simp only [cond_true] at hv
          obtain ⟨ad, had, hsp, hR⟩ := shiftp_ok hv (ev_rel h x (shiftp_pl hv))
          refine ⟨_, fun w2 _ => ?_, hR⟩
          have hs := un_run h1 w2
          rw [h2] at hs
          simp [execOp, Instr.indexAt, ev_lit h he, asIntOf, hs, had, Instr.sureAddr, hc, sizeOf_run h3]
        · have hc' : (decide (0 ≤ m) && decide (m < (n : Int))) = false := by
            rw [Bool.and_eq_false_iff]; simp; omega
          rw [hc'] at hv; simp at hv
      · cases hv
    · cases hv
  | index t x i =>
    simp only [aop] at hv
    split at hv
    · rename_i n ti hf
      obtain ⟨i', e, h1, h2, h3⟩ := arrayAt_ok hX hf
      split at hv
      · rename_i k m he
        by_cases hc : 0 ≤ m ∧ m < n
        · have hc' : (decide (0 ≤ m) && decide (m < (n : Int))) = true := by simp [hc]
          rw [hc'] at hv
          simp only [cond_true] at hv
          split at hv
          · rename_i cs hx
            obtain ⟨G, hR⟩ := ev_rel0 h x (by rw [hx]; simp)
            rw [hx] at hR
            generalize hu : a.eval x = u at hR
            cases hR with
            | agg _ _ vals Fs hl hr =>
            obtain ⟨u, hp, hR'⟩ := rdc_part (P := X.P) (w := w) (L := L) (β := β) h3 hl hr hv
            refine ⟨u, fun w2 _ => ?_, hR'⟩
            have hs := un_run h1 w2
            have hp := hp w2
            rw [h2] at hs
            simp [execOp, Instr.index, ev_lit h he, asIntOf, hs, hu, hc, sizeOf_run h3, hp]
          · cases hv
        · have hc' : (decide (0 ≤ m) && decide (m < (n : Int))) = false := by
            rw [Bool.and_eq_false_iff]; simp; omega
          rw [hc'] at hv; simp at hv
      · cases hv
    · cases hv
  | call c =>
    obtain ⟨callee, xs, ts⟩ := c
    cases callee with
    | builtin b =>
      cases b with
      | len =>
        simp only [aop] at hv
        split at hv
        · rename_i x t hxs hts
          obtain rfl := of_toList1 hxs
          obtain rfl := of_toList1 hts
          split at hv
          · rename_i i hi
            have hs := un_run (ty_of hX hi)
            have run : ∀ n : Nat, (∀ w, (Builtin.len_ #[t] type #[a.eval x]).run X.P w = .ok (goInt n) w) → ∀ w2, Kp [] w w2 → (execOp a.eval ⟨dst, .call ⟨.builtin .len, #[x], #[t]⟩, type, pos, after, guard⟩).run X.P w2 = .ok (.value (.int .i64 n)) w2 := by
              intro n hn w2 _
              simp only [execOp, Sem.run_bind, resolve_builtin, Result.andThen_ok, invoke, builtin]
              simp [hn, goInt]
            split at hv <;> cases hv
            · rename_i s he hud
              rw [hud] at hs
              exact ⟨_, run _ (fun w => by simp [Builtin.len_, hs, ev_lit h he]), .lit _ _⟩
            · rename_i sz ex ys e he hud
              rw [hud] at hs
              have hR := ev_rel h x (by rw [he]; rfl)
              rw [he] at hR
              refine ⟨_, run _ (fun w' => ?_), .lit _ _⟩
              generalize a.eval x = u at hR
              cases hR <;> simp [Builtin.len_, hs]
            · rename_i id off n e he hud
              rw [hud] at hs
              have hR := ev_rel h x (by rw [he]; rfl)
              rw [he] at hR
              refine ⟨_, run _ (fun w' => ?_), .lit _ _⟩
              generalize a.eval x = u at hR
              cases hR <;> simp [Builtin.len_, hs]
            · rename_i A n c e he hud
              rw [hud] at hs
              exact ⟨_, run _ (fun w => by simp [Builtin.len_, hs, ev_lit h he]), .lit _ _⟩
          · cases hv
        · cases hv
      | max =>
        simp only [aop] at hv
        split at hv
        · rename_i x y hxs
          obtain rfl := of_toList2 hxs
          split at hv
          · rename_i v1 v2 h1 h2
            obtain ⟨u, hu, rfl⟩ := map_lit hv
            refine ⟨u, fun w2 _ => ?_, .lit _ _⟩
            simp only [execOp, Sem.run_bind, resolve_builtin, Result.andThen_ok, invoke, builtin]
            cases v1 <;> cases v2 <;> simp only [amax] at hu <;> (try (cases hu; done))
            cases hu
            simp [Builtin.max_, ev_lit h h1, ev_lit h h2, Builtin.max2]
          · cases hv
        · cases hv
      | min =>
        simp only [aop] at hv
        split at hv
        · rename_i x y hxs
          obtain rfl := of_toList2 hxs
          split at hv
          · rename_i v1 v2 h1 h2
            obtain ⟨u, hu, rfl⟩ := map_lit hv
            refine ⟨u, fun w2 _ => ?_, .lit _ _⟩
            simp only [execOp, Sem.run_bind, resolve_builtin, Result.andThen_ok, invoke, builtin]
            cases v1 <;> cases v2 <;> simp only [amax] at hu <;> (try (cases hu; done))
            cases hu
            simp [Builtin.min_, ev_lit h h1, ev_lit h h2, Builtin.min2]
          · cases hv
        · cases hv
      | _ => cases hv
    | _ => cases hv
  | _ => cases hv

end
end Go.Av
