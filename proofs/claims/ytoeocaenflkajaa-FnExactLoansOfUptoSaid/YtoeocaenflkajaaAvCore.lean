/- Abstract values for Go data: what a value of the model reads as, and which blocks it owns. -/
import Derived.WalkKit
import Derived.KernelRfl
namespace Go.Av
open Go Go.RowKit

/-- What is known of a value. `top`: nothing. `ro`: a slice that is only read. `own`: a slice whose memory nobody else has.
`rp`: a pointer into memory that is only read. `bp`, `ep`, `vec`: into an object of the running call. -/
inductive AV where
  | top
  | lit (v : Value)
  | ro (sz : Nat) (ex : Bool) (xs : List AV)
  | own (sz : Nat) (ex : Bool) (xs : List AV)
  | agg (cs : List AV)
  | tup (vs : List AV)
  | fn (f : FuncId) (caps : List AV)
  | mv (f : FuncId) (fs : List AV)
  | rp (cs : List AV) (j : Nat)
  | bp (id : Nat × Nat) (j : Nat)
  | ep (id : Nat × Nat) (i j : Nat)
  | vec (id : Nat × Nat) (off len : Nat)
  deriving Inhabited

def AV.cells : AV → List AV
  | .agg cs => cs
  | x => [x]

def flatc (xs : List AV) : List AV := xs.flatMap AV.cells

def capMax : Nat := 9223372036854775807

/-- The cells from offset o of block b on are these values. -/
def RowAt (w : World) (b o : Nat) (vals : List Value) : Prop := ∀ k u, vals[k]? = some u → w.cell? ⟨b, o + k, none⟩ = some u

def foots (Fs : Nat → List Nat) (n : Nat) : List Nat := (List.range n).flatMap Fs

theorem mem_foots {Fs : Nat → List Nat} {n b : Nat} : b ∈ foots Fs n ↔ ∃ k, k < n ∧ b ∈ Fs k := by
  simp [foots, List.mem_flatMap]

theorem foots_nil {Fs : Nat → List Nat} {n : Nat} (h : ∀ k, k < n → Fs k = []) : foots Fs n = [] := by
  unfold foots
  rw [List.flatMap_eq_nil_iff]
  intro x hx
  exact h x (by simpa using hx)

abbrev Id := Nat × Nat
/-- Where an object of the running call lies: its slice (or a box's pointer), and the cells of an element. -/
abbrev Env := Id → Option (Value × Nat)
def noEnv : Env := fun _ => none

inductive Rel (w : World) (L : Nat → Prop) : Env → AV → Value → List Nat → Prop
  | top (β v) : Rel w L β .top v []
  | lit (β v) : Rel w L β (.lit v) v []
  | roNil (β sz ex A c) (hc : c ≤ capMax) (he : ex = true → c = 0) : Rel w L β (.ro sz ex []) (.slice A 0 c) []
  | ro (β sz ex xs b o c vals) (hL : vals ≠ [] → ¬ L b) (hz : ∀ x ∈ xs, x.cells.length = sz) (hl : (flatc xs).length = vals.length)
      (hrow : RowAt w b o vals) (hr : ∀ (k : Nat) (x : AV) (u : Value), (flatc xs)[k]? = some x → vals[k]? = some u → Rel w L noEnv x u [])
      (hc : xs.length ≤ c) (hm : c ≤ capMax) (he : ex = true → c = xs.length) :
      Rel w L β (.ro sz ex xs) (.slice (some ⟨b, o, none⟩) xs.length c) []
  | ownNil (β sz ex A) : Rel w L β (.own sz ex []) (.slice A 0 0) []
  | own (β sz ex xs b c arr T lo hi Fs) (hb : w.heap[b]? = some (.cells arr T (lo, hi))) (hfz : ∀ k, k < arr.size → ¬ (lo ≤ k ∧ k < hi))
      (hs : arr.size = c * sz) (hz : ∀ x ∈ xs, x.cells.length = sz)
      (hr : ∀ (k : Nat) (x : AV) (u : Value), (flatc xs)[k]? = some x → arr[k]? = some u → Rel w L noEnv x u (Fs k))
      (hc : xs.length ≤ c) (hm : c ≤ capMax) (he : ex = true → c = xs.length) :
      Rel w L β (.own sz ex xs) (.slice (some ⟨b, 0, none⟩) xs.length c) (b :: foots Fs (flatc xs).length)
  | agg (β cs vals Fs) (hl : cs.length = vals.size) (hr : ∀ (k : Nat) (x : AV) (u : Value), cs[k]? = some x → vals[k]? = some u → Rel w L β x u (Fs k)) :
      Rel w L β (.agg cs) (.agg vals) (foots Fs cs.length)
  | tup (β cs vals Fs) (hl : cs.length = vals.size) (hr : ∀ (k : Nat) (x : AV) (u : Value), cs[k]? = some x → vals[k]? = some u → Rel w L β x u (Fs k)) :
      Rel w L β (.tup cs) (.tuple vals) (foots Fs cs.length)
  | fn (β f cs vals) (hl : cs.length = vals.size) (hr : ∀ (k : Nat) (x : AV) (u : Value), cs[k]? = some x → vals[k]? = some u → Rel w L β x u []) :
      Rel w L β (.fn f cs) (.func (.func f) #[] vals) []
  | mv (β f cs vals) (hl : cs.length = vals.size) (hr : ∀ (k : Nat) (x : AV) (u : Value), cs[k]? = some x → vals[k]? = some u → Rel w L β x u []) :
      Rel w L β (.mv f cs) (.func (.func f) vals #[]) []
  | rp (β cs j b o vals) (hL : vals ≠ [] → ¬ L b) (hl : cs.length = vals.length) (hrow : RowAt w b o vals)
      (hr : ∀ (k : Nat) (x : AV) (u : Value), cs[k]? = some x → vals[k]? = some u → Rel w L noEnv x u []) :
      Rel w L β (.rp cs j) (.pointer (some ⟨b, o + j, none⟩)) []
  | bp (β id j b) (h : β id = some (.pointer (some ⟨b, 0, none⟩), 0)) : Rel w L β (.bp id j) (.pointer (some ⟨b, j, none⟩)) []
  | ep (β id i j b n c sz) (h : β id = some (.slice (some ⟨b, 0, none⟩) n c, sz)) : Rel w L β (.ep id i j) (.pointer (some ⟨b, i * sz + j, none⟩)) []
  | vec (β id off len b n c sz A) (h : β id = some (.slice (some ⟨b, 0, none⟩) n c, sz)) (ho : off + len ≤ n) (hA : off < c → A = ⟨b, off * sz, none⟩) (hn : n ≤ c) :
      Rel w L β (.vec id off len) (.slice (some A) len (c - off)) []
  | vecNil (β id sz A A') (h : β id = some (.slice A 0 0, sz)) : Rel w L β (.vec id 0 0) (.slice A' 0 0) []

theorem cell_lt {w : World} {b o : Nat} {v : Value} (h : w.cell? ⟨b, o, none⟩ = some v) : b < w.heap.size :=
  World.block_lt_of_cell? w _ h

/-- A block that a row of cells lies in. -/
theorem RowAt.keep {w w' : World} {b o : Nat} {vals : List Value} (h : RowAt w b o vals) (hb : b < w.heap.size → w'.heap[b]? = w.heap[b]?) : RowAt w' b o vals := by
  intro k u hk
  have h1 := h k u hk
  rw [← h1]
  exact World.cell?_of_block (w := w) (a := ⟨b, o + k, none⟩) (hb (cell_lt h1))

theorem flatc_length {xs : List AV} {sz : Nat} (hz : ∀ x ∈ xs, x.cells.length = sz) : (flatc xs).length = xs.length * sz := by
  unfold flatc
  induction xs with
  | nil => simp
  | cons x xs ihx =>
    have h1 := hz x (by simp)
    have h2 := ihx (fun y hy => hz y (by simp [hy]))
    simp only [List.flatMap_cons, List.length_append, List.length_cons, Nat.succ_mul]
    omega

theorem Rel.lt {w : World} {L : Nat → Prop} {β : Env} {x : AV} {v : Value} {F : List Nat} (h : Rel w L β x v F) : ∀ b ∈ F, b < w.heap.size := by
  induction h with
  | own β sz ex xs b c arr T lo hi Fs hb hfz hs hz hr hc hm he ih =>
    intro b' hb'
    rcases List.mem_cons.1 hb' with rfl | hb'
    · exact (Array.getElem?_eq_some_iff.1 hb).1
    · obtain ⟨k, hk, hm'⟩ := mem_foots.1 hb'
      have hk2 : k < arr.size := by
        have : (flatc xs).length = xs.length * sz := flatc_length hz
        rw [hs]
        exact Nat.lt_of_lt_of_le (this ▸ hk) (Nat.mul_le_mul_right _ hc)
      exact ih k _ _ (List.getElem?_eq_getElem hk) (Array.getElem?_eq_getElem hk2) _ hm'
  | agg β cs vals Fs hl hr ih =>
    intro b' hb'
    obtain ⟨k, hk, hm'⟩ := mem_foots.1 hb'
    exact ih k _ _ (List.getElem?_eq_getElem hk) (Array.getElem?_eq_getElem (hl ▸ hk)) _ hm'
  | tup β cs vals Fs hl hr ih =>
    intro b' hb'
    obtain ⟨k, hk, hm'⟩ := mem_foots.1 hb'
    exact ih k _ _ (List.getElem?_eq_getElem hk) (Array.getElem?_eq_getElem (hl ▸ hk)) _ hm'
  | _ => intro b hb; simp at hb

theorem RowAt.lt {w : World} {b o : Nat} {vals : List Value} (h : RowAt w b o vals) (h0 : vals ≠ []) : b < w.heap.size := by
  cases vals with
  | nil => exact absurd rfl h0
  | cons v vs => exact cell_lt (h 0 v rfl)

/-- What is not touched reads as it did; the set L may lose blocks, and gain new ones. -/
theorem Rel.keep {w w' : World} {L L' : Nat → Prop} {M : Nat → Prop} {β : Env} {x : AV} {v : Value} {F : List Nat}
    (hw : ∀ b, b < w.heap.size → ¬ M b → w'.heap[b]? = w.heap[b]?) (hML : ∀ b, M b → L b) (hLL : ∀ b, b < w.heap.size → L' b → L b)
    (h : Rel w L β x v F) : (∀ b ∈ F, ¬ M b) → Rel w' L' β x v F := by
  induction h with
  | top β v => intro _; exact .top _ _
  | lit β v => intro _; exact .lit _ _
  | roNil β sz ex A c hc he => intro _; exact .roNil _ _ _ _ _ hc he
  | ro β sz ex xs b o c vals hL hz hl hrow hr hc hm he ih =>
    intro _
    refine .ro _ _ _ _ _ _ _ vals (fun h0 h1 => hL h0 (hLL b (hrow.lt h0) h1)) hz hl ?_ (fun k x u hx hu => ih k x u hx hu (by simp)) hc hm he
    by_cases h0 : vals = []
    · subst h0; intro k u hk; simp at hk
    · exact hrow.keep fun hb => hw b hb fun hM => hL h0 (hML b hM)
  | ownNil β sz ex A => intro _; exact .ownNil _ _ _ _
  | own β sz ex xs b c arr T lo hi Fs hb hfz hs hz hr hc hm he ih =>
    intro hF
    have hlt := (Array.getElem?_eq_some_iff.1 hb).1
    refine .own _ _ _ _ _ _ arr T lo hi Fs ?_ hfz hs hz (fun k x u hx hu => ih k x u hx hu fun b' hb' => hF b' ?_) hc hm he
    · rw [hw b hlt (hF b (by simp))]; exact hb
    · exact List.mem_cons_of_mem _ (mem_foots.2 ⟨k, (List.getElem?_eq_some_iff.1 hx).1, hb'⟩)
  | agg β cs vals Fs hl hr ih =>
    intro hF
    exact .agg _ _ _ _ hl fun k x u hx hu => ih k x u hx hu fun b' hb' => hF b' (mem_foots.2 ⟨k, (List.getElem?_eq_some_iff.1 hx).1, hb'⟩)
  | tup β cs vals Fs hl hr ih =>
    intro hF
    exact .tup _ _ _ _ hl fun k x u hx hu => ih k x u hx hu fun b' hb' => hF b' (mem_foots.2 ⟨k, (List.getElem?_eq_some_iff.1 hx).1, hb'⟩)
  | fn β f cs vals hl hr ih => intro _; exact .fn _ _ _ _ hl fun k x u hx hu => ih k x u hx hu (by simp)
  | mv β f cs vals hl hr ih => intro _; exact .mv _ _ _ _ hl fun k x u hx hu => ih k x u hx hu (by simp)
  | rp β cs j b o vals hL hl hrow hr ih =>
    intro _
    refine .rp _ _ _ _ _ vals (fun h0 h1 => hL h0 (hLL b (hrow.lt h0) h1)) hl ?_ (fun k x u hx hu => ih k x u hx hu (by simp))
    by_cases h0 : vals = []
    · subst h0; intro k u hk; simp at hk
    · exact hrow.keep fun hb => hw b hb fun hM => hL h0 (hML b hM)
  | bp β id j b h => intro _; exact .bp _ _ _ _ h
  | ep β id i j b n c sz h => intro _; exact .ep _ _ _ _ _ _ _ _ h
  | vec β id off len b n c sz A h ho hA hn => intro _; exact .vec _ _ _ _ _ _ _ _ _ h ho hA hn
  | vecNil β id sz A A' h => intro _; exact .vecNil _ _ _ _ _ h

-- No part of it points into an object of the running call.
mutual
def AV.free : AV → Bool
  | .bp .. | .ep .. | .vec .. => false
  | .agg cs => AV.freeL cs
  | .tup cs => AV.freeL cs
  | .fn _ cs => AV.freeL cs
  | .mv _ cs => AV.freeL cs
  | _ => true
def AV.freeL : List AV → Bool
  | [] => true
  | x :: xs => x.free && AV.freeL xs
end

theorem AV.freeL_get {xs : List AV} (h : AV.freeL xs = true) : ∀ (k : Nat) (x : AV), xs[k]? = some x → x.free = true := by
  induction xs with
  | nil => intro k x hx; simp at hx
  | cons y ys ih =>
    simp only [AV.freeL, Bool.and_eq_true] at h
    intro k x hx
    cases k with
    | zero => simp at hx; subst hx; exact h.1
    | succ k => exact ih h.2 k x (by simpa using hx)

theorem Rel.env {w : World} {L : Nat → Prop} {β : Env} {x : AV} {v : Value} {F : List Nat} (h : Rel w L β x v F) (γ : Env) : x.free = true → Rel w L γ x v F := by
  induction h with
  | top β v => intro _; exact .top _ _
  | lit β v => intro _; exact .lit _ _
  | roNil β sz ex A c hc he => intro _; exact .roNil _ _ _ _ _ hc he
  | ro β sz ex xs b o c vals hL hz hl hrow hr hc hm he ih => intro _; exact .ro _ _ _ _ _ _ _ vals hL hz hl hrow hr hc hm he
  | ownNil β sz ex A => intro _; exact .ownNil _ _ _ _
  | own β sz ex xs b c arr T lo hi Fs hb hfz hs hz hr hc hm he ih => intro _; exact .own _ _ _ _ _ _ arr T lo hi Fs hb hfz hs hz hr hc hm he
  | agg β cs vals Fs hl hr ih =>
    intro hf
    exact .agg _ _ _ _ hl fun k x u hx hu => ih k x u hx hu (AV.freeL_get (by simpa [AV.free] using hf) k x hx)
  | tup β cs vals Fs hl hr ih =>
    intro hf
    exact .tup _ _ _ _ hl fun k x u hx hu => ih k x u hx hu (AV.freeL_get (by simpa [AV.free] using hf) k x hx)
  | fn β f cs vals hl hr ih =>
    intro hf
    exact .fn _ _ _ _ hl fun k x u hx hu => ih k x u hx hu (AV.freeL_get (by simpa [AV.free] using hf) k x hx)
  | mv β f cs vals hl hr ih =>
    intro hf
    exact .mv _ _ _ _ hl fun k x u hx hu => ih k x u hx hu (AV.freeL_get (by simpa [AV.free] using hf) k x hx)
  | rp β cs j b o vals hL hl hrow hr ih => intro _; exact .rp _ _ _ _ _ vals hL hl hrow hr
  | bp β id j b h => intro hf; simp [AV.free] at hf
  | ep β id i j b n c sz h => intro hf; simp [AV.free] at hf
  | vec β id off len b n c sz A h ho hA hn => intro hf; simp [AV.free] at hf
  | vecNil β id sz A A' h => intro hf; simp [AV.free] at hf

theorem Rel.of_noEnv {w : World} {L : Nat → Prop} {β : Env} {x : AV} {v : Value} {F : List Nat} (h : Rel w L β x v F) (hβ : β = noEnv) (γ : Env) : Rel w L γ x v F := by
  induction h with
  | top β v => exact .top _ _
  | lit β v => exact .lit _ _
  | roNil β sz ex A c hc he => exact .roNil _ _ _ _ _ hc he
  | ro β sz ex xs b o c vals hL hz hl hrow hr hc hm he ih => exact .ro _ _ _ _ _ _ _ vals hL hz hl hrow hr hc hm he
  | ownNil β sz ex A => exact .ownNil _ _ _ _
  | own β sz ex xs b c arr T lo hi Fs hb hfz hs hz hr hc hm he ih => exact .own _ _ _ _ _ _ arr T lo hi Fs hb hfz hs hz hr hc hm he
  | agg β cs vals Fs hl hr ih => exact .agg _ _ _ _ hl fun k x u hx hu => ih k x u hx hu hβ
  | tup β cs vals Fs hl hr ih => exact .tup _ _ _ _ hl fun k x u hx hu => ih k x u hx hu hβ
  | fn β f cs vals hl hr ih => exact .fn _ _ _ _ hl fun k x u hx hu => ih k x u hx hu hβ
  | mv β f cs vals hl hr ih => exact .mv _ _ _ _ hl fun k x u hx hu => ih k x u hx hu hβ
  | rp β cs j b o vals hL hl hrow hr ih => exact .rp _ _ _ _ _ vals hL hl hrow hr
  | bp β id j b h => subst hβ; cases h
  | ep β id i j b n c sz h => subst hβ; cases h
  | vec β id off len b n c sz A h ho hA hn => subst hβ; cases h
  | vecNil β id sz A A' h => subst hβ; cases h

-- Given up: what was owned is only read from now on.
mutual
def AV.frz : AV → AV
  | .own sz ex xs => .ro sz ex (AV.frzL xs)
  | .agg cs => .agg (AV.frzL cs)
  | .tup cs => .tup (AV.frzL cs)
  | x => x
def AV.frzL : List AV → List AV
  | [] => []
  | x :: xs => x.frz :: AV.frzL xs
end

theorem AV.frzL_eq (xs : List AV) : AV.frzL xs = xs.map AV.frz := by
  induction xs with
  | nil => simp [AV.frzL]
  | cons x xs ih => simp [AV.frzL, ih]

theorem AV.cells_frz (x : AV) : x.frz.cells = x.cells.map AV.frz := by
  cases x <;> simp [AV.frz, AV.cells, AV.frzL_eq]

theorem flatc_frz (xs : List AV) : flatc (xs.map AV.frz) = (flatc xs).map AV.frz := by
  unfold flatc
  induction xs with
  | nil => simp
  | cons x xs ih => simp [ih, AV.cells_frz]

theorem Rel.frz {w : World} {L L' : Nat → Prop} {β : Env} {x : AV} {v : Value} {F : List Nat}
    (hLL : ∀ b, b < w.heap.size → L' b → L b) (h : Rel w L β x v F) : (∀ b ∈ F, ¬ L' b) → Rel w L' β x.frz v [] := by
  have keep : ∀ {β x v}, Rel w L β x v [] → Rel w L' β x v [] := fun h => h.keep (M := fun _ => False) (fun _ _ _ => rfl) (fun _ h => h.elim) hLL (by simp)
  have hnil : ∀ n, foots (fun _ => []) n = [] := fun n => foots_nil fun _ _ => rfl
  induction h with
  | top β v => intro _; exact .top _ _
  | lit β v => intro _; exact .lit _ _
  | roNil β sz ex A c hc he => intro _; exact .roNil _ _ _ _ _ hc he
  | ro β sz ex xs b o c vals hL hz hl hrow hr hc hm he ih => intro _; exact keep (.ro _ _ _ _ _ _ _ vals hL hz hl hrow hr hc hm he)
  | ownNil β sz ex A => intro _; simp only [AV.frz, AV.frzL]; exact .roNil _ _ _ _ _ (by simp [capMax]) (fun _ => rfl)
  | own β sz ex xs b c arr T lo hi Fs hb hfz hs hz hr hc hm he ih =>
    intro hF
    have hlen := flatc_length hz
    have hle : (flatc xs).length ≤ arr.size := by rw [hlen, hs]; exact Nat.mul_le_mul_right _ hc
    simp only [AV.frz, AV.frzL_eq]
    have := Rel.ro (w := w) (L := L') β sz ex (xs.map AV.frz) b 0 c (arr.toList.take (flatc xs).length) (fun _ => hF b (by simp))
      (by intro x hx; obtain ⟨y, hy, rfl⟩ := List.mem_map.1 hx; rw [AV.cells_frz]; simpa using hz y hy)
      (by rw [flatc_frz]; simp; omega)
      (by
        intro k u hk
        have hk' : arr[k]? = some u := by
          rw [List.getElem?_take] at hk; split at hk <;> simp_all
        simp [World.cell?, hb, hk'])
      (by
        intro k x u hx hu
        rw [flatc_frz] at hx
        have hu' : arr[k]? = some u := by rw [List.getElem?_take] at hu; split at hu <;> simp_all
        rw [List.getElem?_map] at hx
        obtain ⟨y, hy, rfl⟩ := Option.map_eq_some_iff.1 hx
        exact ih k y u hy hu' fun b' hb' => hF b' (List.mem_cons_of_mem _ (mem_foots.2 ⟨k, (List.getElem?_eq_some_iff.1 hy).1, hb'⟩)))
      (by simpa using hc) hm (by simpa using he)
    simpa using this
  | agg β cs vals Fs hl hr ih =>
    intro hF
    simp only [AV.frz, AV.frzL_eq]
    have := Rel.agg (w := w) (L := L') β (cs.map AV.frz) vals (fun _ => []) (by simpa using hl) (by
      intro k x u hx hu
      rw [List.getElem?_map] at hx
      obtain ⟨y, hy, rfl⟩ := Option.map_eq_some_iff.1 hx
      exact ih k y u hy hu fun b' hb' => hF b' (mem_foots.2 ⟨k, (List.getElem?_eq_some_iff.1 hy).1, hb'⟩))
    rwa [hnil] at this
  | tup β cs vals Fs hl hr ih =>
    intro hF
    simp only [AV.frz, AV.frzL_eq]
    have := Rel.tup (w := w) (L := L') β (cs.map AV.frz) vals (fun _ => []) (by simpa using hl) (by
      intro k x u hx hu
      rw [List.getElem?_map] at hx
      obtain ⟨y, hy, rfl⟩ := Option.map_eq_some_iff.1 hx
      exact ih k y u hy hu fun b' hb' => hF b' (mem_foots.2 ⟨k, (List.getElem?_eq_some_iff.1 hy).1, hb'⟩))
    rwa [hnil] at this
  | fn β f cs vals hl hr ih => intro _; exact keep (.fn _ _ _ _ hl hr)
  | mv β f cs vals hl hr ih => intro _; exact keep (.mv _ _ _ _ hl hr)
  | rp β cs j b o vals hL hl hrow hr ih => intro _; exact keep (.rp _ _ _ _ _ vals hL hl hrow hr)
  | bp β id j b h => intro _; exact .bp _ _ _ _ h
  | ep β id i j b n c sz h => intro _; exact .ep _ _ _ _ _ _ _ _ h
  | vec β id off len b n c sz A h ho hA hn => intro _; exact .vec _ _ _ _ _ _ _ _ _ h ho hA hn
  | vecNil β id sz A A' h => intro _; exact .vecNil _ _ _ _ _ h

end Go.Av
