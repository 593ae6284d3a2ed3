/- From a row's data to what the av texts say of the arguments; and back to the row's form. -/
import Derived.Test.YtcfkdcjindhnjaaMB
import Derived.ProofKit
import Derived.OpenShut
import Derived.JoinedCond
import Derived.Carry
import Derived.ChangeOld
import Derived.Deep.Slices
namespace Go.Av
open Go Go.RowKit Go.ChangeShapes Go.WideShapes

/-- A measure that bounds the lengths of what is read. -/
structure BK (H : Type) where
  bulk : DataW H → Nat
  len : ∀ es sp, es.length ≤ bulk (.slice es sp)
  elem : ∀ es sp d, d ∈ es → bulk d ≤ bulk (.slice es sp)
  part : ∀ ps d, d ∈ ps → bulk d ≤ bulk (.agg ps)
  str : ∀ b, b.length ≤ bulk (.lit (.string b))

def Cls (W : World) (xs : List AV) (cs : List Value) : Prop :=
  xs.length = cs.length ∧ ∀ (k : Nat) (x : AV) (u : Value), xs[k]? = some x → cs[k]? = some u → Rel W (fun _ => False) noEnv x u []

theorem Cls.append {W : World} {xs ys : List AV} {cs ds : List Value} (h : Cls W xs cs) (h' : Cls W ys ds) : Cls W (xs ++ ys) (cs ++ ds) := by
  refine ⟨by simp [h.1, h'.1], fun k x u hx hu => ?_⟩
  by_cases hk : k < xs.length
  · rw [List.getElem?_append_left hk] at hx
    rw [List.getElem?_append_left (h.1 ▸ hk)] at hu
    exact h.2 k x u hx hu
  · rw [List.getElem?_append_right (by omega)] at hx
    rw [List.getElem?_append_right (by rw [← h.1]; omega), ← h.1] at hu
    exact h'.2 _ x u hx hu

theorem Cls.nil {W : World} : Cls W [] [] := ⟨rfl, by simp⟩
theorem Cls.one {W : World} {x : AV} {u : Value} (h : Rel W (fun _ => False) noEnv x u []) : Cls W [x] [u] := by
  refine ⟨rfl, fun k x' u' hx hu => ?_⟩
  cases k with
  | zero => simp at hx hu; subst hx; subst hu; exact h
  | succ k => simp at hx

/-- What is read at a type is of this form. -/
structure Rd (P : Program) (N : Nat) (t : TypeId) (sz : Nat) {α : Type} (av : α → AV) (ok : α → Prop) : Prop where
  len : ∀ x, ok x → (av x).cells.length = sz
  rd : ∀ {H : Type} (enc : TypeId × Value → H) (B : BK H) (W : World) (fuel : Nat) (cs : List Value) (d : DataW H) (ps : List MemPlace),
    DataW.trod enc P W 0 (fun _ => true) true fuel t cs = some (d, ps) → B.bulk d ≤ N → ∃ x, ok x ∧ Cls W (av x).cells cs
  arg : ∀ (W : World) (base : Nat) (v : Value) (x : α), Value.okWide P W .any base t v → Cls W (av x).cells v.cells.toList → Rel W (fun _ => False) noEnv (av x) v []

theorem one_arg {W : World} {x : AV} {v : Value} (hx : x.cells = [x]) (hv : v.cells = #[v]) (h : Cls W x.cells v.cells.toList) : Rel W (fun _ => False) noEnv x v [] := by
  rw [hx, hv] at h
  exact h.2 0 x v rfl rfl

section
variable {P : Program} {N : Nat} {t : TypeId}

theorem Rd.int {k : IntKind} (ht : P.underlying t = some (.int k)) : Rd P N t 1 (fun n : Int => .lit (.int k n)) (fun n => (Lit.int k n).wf = true) := by
  refine ⟨fun _ _ => rfl, fun enc B W fuel cs d ps h hb => ?_, fun W base v x hv h => ?_⟩
  · cases fuel with
    | zero => simp [DataW.trod] at h
    | succ fuel =>
      simp only [DataW.trod, ht] at h
      split at h <;> simp_all
      rename_i h0
      obtain ⟨⟨h1, h2⟩, _⟩ := h
      subst h0; subst h1
      exact ⟨_, h2, Cls.one (.lit _ _)⟩
  · obtain ⟨n, rfl⟩ := okWide_int ht hv
    exact one_arg rfl rfl h

theorem Rd.bool (ht : P.underlying t = some .bool) : Rd P N t 1 (fun b : Bool => .lit (.bool b)) (fun _ => True) := by
  refine ⟨fun _ _ => rfl, fun enc B W fuel cs d ps h hb => ?_, fun W base v x hv h => ?_⟩
  · cases fuel with
    | zero => simp [DataW.trod] at h
    | succ fuel =>
      simp only [DataW.trod, ht] at h
      split at h <;> simp_all only [Option.some.injEq, reduceCtorEq]
      exact ⟨_, trivial, Cls.one (.lit _ _)⟩
  · obtain ⟨n, rfl⟩ := okWide_bool ht hv
    exact one_arg rfl rfl h

theorem Rd.str (ht : P.underlying t = some .string) : Rd P N t 1 (fun b : ByteArray => .lit (.string b)) (fun b => b.size ≤ N) := by
  refine ⟨fun _ _ => rfl, fun enc B W fuel cs d ps h hb => ?_, fun W base v x hv h => ?_⟩
  · cases fuel with
    | zero => simp [DataW.trod] at h
    | succ fuel =>
      simp only [DataW.trod, ht] at h
      split at h <;> simp_all only [Option.some.injEq, reduceCtorEq]
      rename_i s
      split at h
      · simp only [Option.some.injEq, Prod.mk.injEq] at h
        obtain ⟨rfl, _⟩ := h
        refine ⟨s, ?_, Cls.one (.lit _ _)⟩
        have h1 := B.str s.data.toList
        have h2 : s.data.toList.length = s.size := Array.length_toList
        omega
      · cases h
  · obtain ⟨n, rfl⟩ := okWide_string ht hv
    exact one_arg rfl rfl h

theorem mapM_len {α β : Type} {f : α → Option β} : ∀ {l : List α} {r : List β}, l.mapM f = some r → r.length = l.length ∧ ∀ (k : Nat) (x : α), l[k]? = some x → ∃ y, r[k]? = some y ∧ f x = some y := by
  intro l
  induction l with
  | nil => intro r h; simp at h; subst h; exact ⟨rfl, by simp⟩
  | cons a as ih =>
    intro r h
    rw [List.mapM_cons] at h
    cases ha : f a with
    | none => rw [ha] at h; cases h
    | some y =>
      rw [ha] at h
      cases hs : as.mapM f with
      | none => rw [hs] at h; cases h
      | some ys =>
        rw [hs] at h
        cases h
        obtain ⟨i1, i2⟩ := ih hs
        refine ⟨by simp [i1], fun k x hx => ?_⟩
        cases k with
        | zero => simp at hx; subst hx; exact ⟨y, rfl, ha⟩
        | succ k => simpa using i2 k x (by simpa using hx)

theorem list_of {α : Type} (n : Nat) (p : Nat → α → Prop) (h : ∀ i, i < n → ∃ x, p i x) : ∃ l : List α, l.length = n ∧ ∀ i x, l[i]? = some x → p i x := by
  induction n with
  | zero => exact ⟨[], rfl, by simp⟩
  | succ n ih =>
    obtain ⟨l, h1, h2⟩ := ih fun i hi => h i (by omega)
    obtain ⟨x, hx⟩ := h n (by omega)
    refine ⟨l ++ [x], by simp [h1], fun i y hy => ?_⟩
    by_cases hi : i < l.length
    · rw [List.getElem?_append_left hi] at hy; exact h2 i y hy
    · rw [List.getElem?_append_right (by omega)] at hy
      have : i - l.length = 0 := by
        have := (List.getElem?_eq_some_iff.1 hy).1
        simp at this
        omega
      rw [this] at hy
      simp at hy
      subst hy
      have : i = n := by omega
      subst this
      exact hx

theorem cells_of {w : World} {a : Addr} {n : Nat} {cs : List Value} (h : w.cells? 0 a n = some cs) : cs.length = n ∧ ∀ k, k < n → w.cell? (a.add k) = cs[k]? := by
  unfold World.cells? at h
  rw [if_pos (Nat.zero_le _)] at h
  obtain ⟨h1, h2⟩ := mapM_len h
  refine ⟨by simpa using h1, fun k hk => ?_⟩
  obtain ⟨y, hy, hc⟩ := h2 k k (by simp [hk])
  rw [hy, hc]

theorem Addr.add_add (a : Addr) (m n : Nat) : (a.add m).add n = a.add (m + n) := by
  unfold Addr.add
  by_cases hm : m = 0 <;> by_cases hn : n = 0 <;> simp_all [Nat.add_assoc]

theorem spot_none {w : World} {a : Addr} {v : Value} (h : w.cell? a = some v) : a.spot = none := by
  unfold World.cell? at h
  split at h
  · split at h
    · cases h
    · simp_all
  · cases h

theorem Rd.slice {e : TypeId} {sz : Nat} {α : Type} {av : α → AV} {ok : α → Prop} (ht : P.underlying t = some (.slice e)) (hsz : P.cellsOf e = sz) (hpos : 0 < sz) (he : Rd P N e sz av ok) :
    Rd P N t 1 (fun l : List α => .ro sz false (l.map av)) (fun l => l.length ≤ N ∧ ∀ x ∈ l, ok x) := by
  refine ⟨fun _ _ => rfl, fun enc B W fuel cs d ps h hb => ?_, fun W base v x hv h => ?_⟩
  · rcases Deep.open_slice ht h with ⟨rfl, _⟩ | ⟨a, len, cap, m, n, D, Pl, rfl, _, hlc, hcm, hm, hd, hx⟩
    · exact ⟨[], by simp, Cls.one (.roNil _ _ _ _ _ (by simp [capMax]) (by simp))⟩
    rw [hsz] at hx
    simp only [if_true] at hm
    subst hm
    simp only [Prod.mk.injEq] at hd
    obtain ⟨hd, _⟩ := hd
    have hN : len ≤ N := by
      have := B.len ((List.range len).map D) ((List.range (m - len)).map fun j => D (len + j))
      rw [← hd] at this
      simp only [List.length_map, List.length_range] at this
      omega
    have each : ∀ i, i < len → ∃ x, ok x ∧ ∃ cs, W.cells? 0 (a.add (i * sz)) sz = some cs ∧ Cls W (av x).cells cs := by
      intro i hi
      obtain ⟨cs, hcs, hc⟩ := hx i (by omega)
      obtain ⟨x, hx, hcl⟩ := he.rd enc B W n cs _ _ hc (by
        have := B.elem ((List.range len).map D) ((List.range (m - len)).map fun j => D (len + j)) (D i) (List.mem_map.2 ⟨i, by simp [hi], rfl⟩)
        rw [← hd] at this
        omega)
      exact ⟨x, hx, cs, hcs, hcl⟩
    obtain ⟨l, hl, hel'⟩ := list_of len _ each
    refine ⟨l, ⟨by omega, fun x hx => ?_⟩, Cls.one ?_⟩
    · obtain ⟨i, hi, rfl⟩ := List.getElem_of_mem hx
      exact (hel' i _ (List.getElem?_eq_getElem hi)).1
    · cases hl0 : l with
      | nil =>
        rw [hl0] at hl
        simp at hl
        subst hl
        exact .roNil _ _ _ _ _ (by simpa [capMax, maxLen] using hcm) (by simp)
      | cons x0 l0 =>
        rw [← hl0]
        have hcell : ∀ i, i < len → ∀ k, k < sz → ∃ u, W.cell? (a.add (i * sz + k)) = some u ∧ ∀ x y, l[i]? = some x → (av x).cells[k]? = some y → Rel W (fun _ => False) noEnv y u [] := by
          intro i hi k hk
          obtain ⟨_, cs, hcs, hcl⟩ := hel' i l[i] (List.getElem?_eq_getElem (by omega))
          obtain ⟨c1, c2⟩ := cells_of hcs
          have c3 := c2 k hk
          rw [Addr.add_add, List.getElem?_eq_getElem (by omega)] at c3
          refine ⟨_, c3, fun x y hx hy => ?_⟩
          rw [List.getElem?_eq_getElem (by omega)] at hx
          cases hx
          exact hcl.2 k y _ hy (List.getElem?_eq_getElem (by omega))
        have hlen0 : 0 < len := by rw [← hl, hl0]; simp
        obtain ⟨u0, hu0, _⟩ := hcell 0 hlen0 0 hpos
        have hsp : a.spot = none := by
          have h1 := spot_none hu0
          simpa [Addr.add] using h1
        obtain ⟨b, o, sp⟩ := a
        simp only at hsp
        subst hsp
        let vals : List Value := (List.range (len * sz)).map fun k => (W.cell? (Addr.add ⟨b, o, none⟩ k)).getD .nilIface
        have hzl : ∀ x ∈ l.map av, x.cells.length = sz := by
          intro x hx
          obtain ⟨y, hy, rfl⟩ := List.mem_map.1 hx
          obtain ⟨i, hi, rfl⟩ := List.getElem_of_mem hy
          exact he.len _ (hel' i _ (List.getElem?_eq_getElem hi)).1
        have hfl : (flatc (l.map av)).length = len * sz := by rw [flatc_length hzl]; simp [hl]
        have := Rel.ro (w := W) (L := fun _ => False) noEnv sz false (l.map av) b o m vals (fun _ h => h) hzl (by simp [vals, hfl])
          (by
            intro k u hk
            have hk' := (List.getElem?_eq_some_iff.1 hk).1
            simp only [vals, List.length_map, List.length_range] at hk'
            have hdm : k / sz * sz + k % sz = k := by rw [Nat.mul_comm]; exact Nat.div_add_mod k sz
            obtain ⟨u', hu', _⟩ := hcell (k / sz) (Nat.div_lt_of_lt_mul (by rw [Nat.mul_comm]; exact hk')) (k % sz) (Nat.mod_lt _ hpos)
            rw [hdm] at hu'
            rw [addr_add] at hu'
            simp only [vals] at hk
            rw [List.getElem?_map, List.getElem?_range hk', Option.map_some, addr_add, hu'] at hk
            rw [hu']
            simpa using hk)
          (by
            intro k x u hx hu
            have hk' := (List.getElem?_eq_some_iff.1 hu).1
            simp only [vals, List.length_map, List.length_range] at hk'
            have hdm : k / sz * sz + k % sz = k := by rw [Nat.mul_comm]; exact Nat.div_add_mod k sz
            have hkl : k / sz < len := Nat.div_lt_of_lt_mul (by rw [Nat.mul_comm]; exact hk')
            obtain ⟨u', hu', hrel⟩ := hcell (k / sz) hkl (k % sz) (Nat.mod_lt _ hpos)
            rw [hdm] at hu'
            simp only [vals] at hu
            rw [List.getElem?_map, List.getElem?_range hk', Option.map_some, hu'] at hu
            simp at hu
            subst hu
            have hm : (l.map av)[k / sz]? = some (av l[k / sz]) := by simp [hkl, hl]
            have he' := elem_cells hzl hm (k % sz) (Nat.mod_lt _ hpos)
            rw [hdm, hx] at he'
            exact hrel _ _ (List.getElem?_eq_getElem (by omega)) he'.symm)
          (by simp [hl, hlc]) (by simpa [capMax, maxLen] using hcm) (by simp)
        simpa [hl] using this
  · obtain ⟨a, len, cap, rfl⟩ := okWide_slice ht hv
    exact one_arg rfl rfl h

theorem Rd.map {sz : Nat} {α β : Type} {av : α → AV} {ok : α → Prop} {av' : β → AV} {ok' : β → Prop} (g : α → β) (h : Rd P N t sz av ok)
    (hav : ∀ x, ok x → av' (g x) = av x) (hok : ∀ x, ok x → ok' (g x)) (hlen : ∀ y, ok' y → (av' y).cells.length = sz) (hag : ∀ y, ∃ x, av' y = av x) : Rd P N t sz av' ok' := by
  refine ⟨hlen, fun enc B W fuel cs d ps h1 h2 => ?_, fun W base v y hv hc => ?_⟩
  · obtain ⟨x, hx, hc⟩ := h.rd enc B W fuel cs d ps h1 h2
    exact ⟨g x, hok x hx, by rw [hav x hx]; exact hc⟩
  · obtain ⟨x, hx⟩ := hag y
    rw [hx] at hc ⊢
    exact h.arg W base v x hv hc

/-- The fields from a place on. -/
structure RdF (P : Program) (N : Nat) (off : Nat) (fs : List Field) (n : Nat) {α : Type} (av : α → List AV) (ok : α → Prop) : Prop where
  len : ∀ x, ok x → (av x).length = n
  rd : ∀ {H : Type} (enc : TypeId × Value → H) (B : BK H) (W : World) (fuel : Nat) (cs : List Value),
    (∀ f ∈ fs, ∃ y, DataW.trod enc P W 0 (fun _ => true) true fuel f.type ((cs.drop f.offset).take (P.cellsOf f.type)) = some y ∧ B.bulk y.1 ≤ N) →
    ∃ x, ok x ∧ Cls W (av x) ((cs.drop off).take n)

theorem RdF.nil {off : Nat} : RdF P N off [] 0 (fun _ : Unit => []) (fun _ => True) :=
  ⟨fun _ _ => rfl, fun enc B W fuel cs h => ⟨(), trivial, by simpa using Cls.nil⟩⟩

theorem RdF.cons {off off' : Nat} {f : Field} {fs : List Field} {sz n n' : Nat} {α β : Type} {av : α → AV} {ok : α → Prop} {avs : β → List AV} {oks : β → Prop}
    (h : Rd P N f.type sz av ok) (hsz : P.cellsOf f.type = sz) (ho : f.offset = off) (ho' : off' = off + sz) (hn : n' = sz + n) (hr : RdF P N off' fs n avs oks) :
    RdF P N off (f :: fs) n' (fun x : α × β => (av x.1).cells ++ avs x.2) (fun x => ok x.1 ∧ oks x.2) := by
  subst ho'; subst hn
  refine ⟨fun x hx => by simp [h.len x.1 hx.1, hr.len x.2 hx.2], fun enc B W fuel cs hm => ?_⟩
  obtain ⟨y, hy, hb⟩ := hm f (by simp)
  obtain ⟨x, hx, hc⟩ := h.rd enc B W fuel _ y.1 y.2 hy hb
  obtain ⟨z, hz, hcz⟩ := hr.rd enc B W fuel cs fun f hf => hm f (by simp [hf])
  rw [ho, hsz] at hc
  refine ⟨(x, z), ⟨hx, hz⟩, ?_⟩
  have : (cs.drop off).take (sz + n) = (cs.drop off).take sz ++ (cs.drop (off + sz)).take n := by
    rw [List.take_add, List.drop_drop]
  rw [this]
  exact hc.append hcz

theorem Rd.struct {fs : Array Field} {n : Nat} {α : Type} {av : α → List AV} {ok : α → Prop} (ht : P.underlying t = some (.struct fs)) (hsz : P.cellsOf t = n) (h : RdF P N 0 fs.toList n av ok) :
    Rd P N t n (fun x => .agg (av x)) ok := by
  refine ⟨fun x hx => h.len x hx, fun enc B W fuel cs d ps hd hb => ?_, fun W base v x hv hc => ?_⟩
  · obtain ⟨xs, m, _, he, hl, hlen, hf⟩ := DataW.trod_struct ht hd
    simp only [Prod.mk.injEq] at he
    obtain ⟨rfl, _⟩ := he
    obtain ⟨x, hx, hc⟩ := h.rd enc B W m cs fun f hf' => by
      obtain ⟨i, hi, rfl⟩ := List.getElem_of_mem hf'
      have h1 := hf i fs.toList[i] (by simp)
      have hi' : i < xs.length := by simp at hi; omega
      rw [List.getElem?_eq_getElem hi'] at h1
      refine ⟨_, h1, ?_⟩
      have := B.part (xs.map (·.1)) xs[i].1 (List.mem_map.2 ⟨xs[i], List.getElem_mem hi', rfl⟩)
      omega
    refine ⟨x, hx, ?_⟩
    rw [List.drop_zero, List.take_of_length_le (by omega)] at hc
    exact hc
  · obtain ⟨cs, rfl, hcs⟩ := okWide_struct ht hv
    have e : (Value.agg cs).cells.toList = cs.toList := by simp [Value.cells]
    rw [e] at hc
    have hc1 := hc.1
    simp only [AV.cells] at hc1
    have := Rel.agg (w := W) (L := fun _ => False) noEnv (av x) cs (fun _ => []) (by simpa using hc1) (fun k y u hy hu => hc.2 k y u hy (by simpa using hu))
    rwa [foots_nil fun _ _ => rfl] at this

theorem okWide_array {n : Nat} {e : TypeId} {W : World} {base : Nat} {v : Value} (ht : P.underlying t = some (.array n e)) (h : Value.okWide P W .any base t v) : ∃ cs, v = .agg cs ∧ cs.size = P.cellsOf t := by
  simp only [Value.okWide, ht] at h
  obtain ⟨cs, h1, h2, _⟩ := h
  exact ⟨cs, h1, h2⟩

theorem Rd.array {m n sz : Nat} {e : TypeId} {α : Type} {av : α → AV} {ok : α → Prop} (ht : P.underlying t = some (.array m e)) (hsz : P.cellsOf t = n) (hn : n = m * sz) (he : Rd P N e sz av ok) (hse : P.cellsOf e = sz) :
    Rd P N t n (fun l : List α => .agg (flatc (l.map av))) (fun l => l.length = m ∧ ∀ x ∈ l, ok x) := by
  have hflen : ∀ l : List α, (∀ x ∈ l, ok x) → ∀ x ∈ l.map av, x.cells.length = sz := by
    intro l hl x hx
    obtain ⟨y, hy, rfl⟩ := List.mem_map.1 hx
    exact he.len y (hl y hy)
  refine ⟨fun l hl => ?_, fun enc B W fuel cs d ps hd hb => ?_, fun W base v x hv hc => ?_⟩
  · show (flatc (l.map av)).length = n
    rw [flatc_length (hflen l hl.2), List.length_map, hl.1, hn]
  · obtain ⟨xs, f, _, he', hl, hlen, hf⟩ := DataW.trod_array ht hd
    simp only [Prod.mk.injEq] at he'
    obtain ⟨rfl, _⟩ := he'
    rw [hse] at hf
    have key : ∀ j, j ≤ m → ∃ l : List α, l.length = j ∧ (∀ x ∈ l, ok x) ∧ Cls W (flatc (l.map av)) (cs.take (j * sz)) := by
      intro j
      induction j with
      | zero => intro _; exact ⟨[], rfl, by simp, by simpa [flatc] using Cls.nil⟩
      | succ j ih =>
        intro hj
        obtain ⟨l, i1, i2, i3⟩ := ih (by omega)
        have h1 := hf j (by omega)
        have hi' : j < xs.length := by omega
        rw [List.getElem?_eq_getElem hi'] at h1
        obtain ⟨x, hx, hc⟩ := he.rd enc B W f _ xs[j].1 xs[j].2 h1 (by
          have := B.part (xs.map (·.1)) xs[j].1 (List.mem_map.2 ⟨xs[j], List.getElem_mem hi', rfl⟩)
          omega)
        refine ⟨l ++ [x], by simp [i1], fun y hy => ?_, ?_⟩
        · rcases List.mem_append.1 hy with hy | hy
          · exact i2 y hy
          · rw [List.mem_singleton.1 hy]; exact hx
        have e1 : flatc ((l ++ [x]).map av) = flatc (l.map av) ++ (av x).cells := by simp [flatc]
        have e2 : cs.take ((j + 1) * sz) = cs.take (j * sz) ++ (cs.drop (j * sz)).take sz := by rw [Nat.succ_mul, List.take_add]
        rw [e1, e2]
        exact i3.append hc
    obtain ⟨l, i1, i2, i3⟩ := key m (Nat.le_refl _)
    refine ⟨l, ⟨i1, i2⟩, ?_⟩
    rw [List.take_of_length_le (by omega)] at i3
    exact i3
  · obtain ⟨cs, rfl, hcs⟩ := okWide_array ht hv
    have e : (Value.agg cs).cells.toList = cs.toList := by simp [Value.cells]
    rw [e] at hc
    have hc1 := hc.1
    simp only [AV.cells] at hc1
    have := Rel.agg (w := W) (L := fun _ => False) noEnv (flatc (x.map av)) cs (fun _ => []) (by simpa using hc1) (fun k y u hy hu => hc.2 k y u hy (by simpa using hu))
    rwa [foots_nil fun _ _ => rfl] at this

/-- The arguments, one after the other. -/
structure RdA (P : Program) (N : Nat) (ts : List TypeId) {α : Type} (av : α → List AV) (ok : α → Prop) : Prop where
  rd : ∀ {H : Type} (enc : TypeId × Value → H) (B : BK H) (W : World) (base : Nat) (vs : List Value) (ds : List (DataW H)) (ps : List MemPlace),
    DataW.TrodAll enc P W 0 (fun _ => true) true ts vs ds ps → (∀ d ∈ ds, B.bulk d ≤ N) → (∀ (j : Nat) t v, ts[j]? = some t → vs[j]? = some v → Value.okWide P W .any base t v) →
    ∃ x, ok x ∧ Cls W (av x) vs

theorem RdA.nil : RdA P N [] (fun _ : Unit => []) (fun _ => True) :=
  ⟨fun enc B W base vs ds ps h _ _ => by obtain ⟨rfl, rfl, rfl⟩ := trodAll_nil h; exact ⟨(), trivial, Cls.nil⟩⟩

theorem RdA.cons {ts : List TypeId} {sz : Nat} {α β : Type} {av : α → AV} {ok : α → Prop} {avs : β → List AV} {oks : β → Prop} (h : Rd P N t sz av ok) (hr : RdA P N ts avs oks) :
    RdA P N (t :: ts) (fun x : α × β => av x.1 :: avs x.2) (fun x => ok x.1 ∧ oks x.2) := by
  refine ⟨fun enc B W base vs ds ps hd hb hv => ?_⟩
  obtain ⟨v, vs', d, ds', p, q, rfl, rfl, rfl, h1, h2⟩ := trodAll_cons hd
  obtain ⟨fuel, hf⟩ := h1
  obtain ⟨x, hx, hc⟩ := h.rd enc B W fuel _ _ _ hf (hb d (by simp))
  obtain ⟨y, hy, hcy⟩ := hr.rd enc B W base vs' ds' q h2 (fun d hd => hb d (by simp [hd])) (fun j t v hj hj' => hv (j + 1) t v (by simpa using hj) (by simpa using hj'))
  exact ⟨(x, y), ⟨hx, hy⟩, (Cls.one (h.arg W base v x (hv 0 t v rfl rfl) hc)).append hcy⟩

theorem trodAll_below {H : Type} {enc : TypeId × Value → H} (hl : laidOutB P = true) {W W' : World} (hb : Below W.heap.size W W') : ∀ {ts : List TypeId} {vs : List Value} {ds : List (DataW H)} {ps : List MemPlace},
    (ts.all fun t => P.readableRec t && decide (t < P.types.size)) = true → DataW.TrodAll enc P W 0 (fun _ => true) true ts vs ds ps →
    DataW.TrodAll enc P W' 0 (fun b => decide (b < W.heap.size)) true ts vs ds ps := by
  intro ts
  induction ts with
  | nil => intro vs ds ps _ h; obtain ⟨rfl, rfl, rfl⟩ := trodAll_nil h; exact trodAll_mk0
  | cons t ts ih =>
    intro vs ds ps ht h
    obtain ⟨v, vs', d, ds', p, q, rfl, rfl, rfl, h1, h2⟩ := trodAll_cons h
    simp only [List.all_cons, Bool.and_eq_true, decide_eq_true_eq] at ht
    obtain ⟨⟨ht1, ht2⟩, ht3⟩ := ht
    refine trodAll_cons_mk (Below.trod hl ht1 ht2 h1 hb ?_) (ih (by simpa using ht3) h2)
    obtain ⟨m, hm⟩ := h1
    exact DataW.trod_lt m _ _ _ hm

/-- A law's contract, in the row's form; A holds of the world. -/
theorem law_postA (A : Amb) {f : FuncId} {fn : Func} {H : Type} {enc : TypeId × Value → H} {s : ChangeSpec} {W : World} {base : Nat} {args : Array Value} {ds gs : List (DataW H)} {before : List MemPlace} {α : Type} {av : α → List AV} {ok : α → Prop}
    (B : BK H) (hvars : s.vars = []) (hs : ds.length = fn.params.toList.length → s.fn H ds = { results := [.lit (.bool true)], args := ds }) (hl : laidOutB P = true)
    (hts : (fn.params.toList.all fun t => P.readableRec t && decide (t < P.types.size)) = true) {rt : TypeId} (hres : fn.resultTypes = #[rt]) (hrt : P.underlying rt = some .bool)
    (hR : RdA P N fn.params.toList av ok) (hct : ∀ x, ok x → CtA A P f (av x) (.lit (.bool true)) []) (hAm : A.on W [])
    (hval : ∀ (j : Nat) t v, fn.params[j]? = some t → args[j]? = some v → Value.okWide P W .any base t v)
    (hW : DataW.Whole enc P fn.params.toList s.vars false W args.toList ds gs before) (hb : ∀ d ∈ ds, B.bulk d ≤ N) :
    Calls P f args W fun e W' => ∃ v, e = .returned v ∧ s.post enc P fn false true false false W args v W' := by
  have hW' := hW
  obtain ⟨p, q, hA, hV, rfl, hfz, hnd⟩ := hW
  have hlen : ds.length = fn.params.toList.length := by
    have : ∀ {ts : List TypeId} {vs : List Value} {ds : List (DataW H)} {ps}, DataW.TrodAll enc P W 0 (fun _ => true) true ts vs ds ps → ds.length = ts.length := by
      intro ts
      induction ts with
      | nil => intro vs ds ps h; obtain ⟨rfl, rfl, rfl⟩ := trodAll_nil h; rfl
      | cons t ts ih =>
        intro vs ds ps h
        obtain ⟨v, vs', d, ds', p, q, rfl, rfl, rfl, h1, h2⟩ := trodAll_cons h
        simp [ih h2]
    exact this hA
  have hgs : gs = [] ∧ q = [] := by
    rw [hvars] at hV
    exact trodVars_none hV
  obtain ⟨rfl, rfl⟩ := hgs
  obtain ⟨x, hx, hc⟩ := hR.rd enc B W base args.toList ds p hA hb fun j t v hj hj' => hval j t v (by simpa using hj) (by simpa using hj')
  have hrel : Rel W (fun b => False ∨ b ∈ ([] : List Nat)) noEnv (.tup (av x)) (.tuple args) [] := by
    have := Rel.tup (w := W) (L := fun _ => False) noEnv (av x) args (fun _ => []) (by simpa using hc.1) (fun k y u hy hu => hc.2 k y u hy (by simpa using hu))
    rw [foots_nil fun _ _ => rfl] at this
    simpa using this
  refine ((hct x hx).calls W (fun _ => False) args [] hAm (fun _ h => h.elim) (by simp) hrel).mono fun e W' ⟨v, F', he, hk, _, _, hv⟩ => ?_
  subst he
  have hv' : v = .bool true := by
    cases hv with
    | tup _ _ _ Fs hl' hr' =>
      have := hr' 0 (.lit (.bool true)) v rfl (by simp)
      generalize hG : Fs 0 = G at this
      cases this
      rfl
  subst hv'
  have bel := hk.below
  refine ⟨_, rfl, ds, [], p ++ [], [], p, [], hW', ?_, ?_, ?_, bel.frame _, fun h => by cases h⟩
  · rw [hres]
    simp only [List.append_nil, hs hlen]
    exact trodAll_mk1 (shut_bool hrt _)
  · simp only [List.append_nil, hs hlen]
    exact trodAll_below hl bel hts hA
  · rw [hvars]
    simp only [List.append_nil, hs hlen]
    simp [DataW.TrodVars]

def noAmb : Amb := ⟨0, fun _ => True, fun _ _ _ h => h⟩

/-- A law's contract, in the row's form. -/
theorem law_post {f : FuncId} {fn : Func} {H : Type} {enc : TypeId × Value → H} {s : ChangeSpec} {W : World} {base : Nat} {args : Array Value} {ds gs : List (DataW H)} {before : List MemPlace} {α : Type} {av : α → List AV} {ok : α → Prop}
    (B : BK H) (hvars : s.vars = []) (hs : ds.length = fn.params.toList.length → s.fn H ds = { results := [.lit (.bool true)], args := ds }) (hl : laidOutB P = true)
    (hts : (fn.params.toList.all fun t => P.readableRec t && decide (t < P.types.size)) = true) {rt : TypeId} (hres : fn.resultTypes = #[rt]) (hrt : P.underlying rt = some .bool)
    (hR : RdA P N fn.params.toList av ok) (hct : ∀ x, ok x → Ct P f (av x) (.lit (.bool true)) [])
    (hval : ∀ (j : Nat) t v, fn.params[j]? = some t → args[j]? = some v → Value.okWide P W .any base t v)
    (hW : DataW.Whole enc P fn.params.toList s.vars false W args.toList ds gs before) (hb : ∀ d ∈ ds, B.bulk d ≤ N) :
    Calls P f args W fun e W' => ∃ v, e = .returned v ∧ s.post enc P fn false true false false W args v W' :=
  law_postA noAmb B hvars hs hl hts hres hrt hR (fun x hx => (hct x hx).amb noAmb) ⟨trivial, Nat.zero_le _, by simp⟩ hval hW hb
end
end Go.Av
