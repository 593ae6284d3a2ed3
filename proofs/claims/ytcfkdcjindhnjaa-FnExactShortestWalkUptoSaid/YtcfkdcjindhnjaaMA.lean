/- Parts of a proof, in one text: AvCore, AvRun, AvOps, AvCall, AvRet, AvGhost, AvPure, AvAop, AvBox, AvUse, AvGo. -/
import Derived.WalkKit
import Derived.KernelRfl
import Derived.AtR
import Derived.Laws.Sem
import Derived.Laws.Entries
import Derived.Laws.IdiomCopy
set_option linter.unusedVariables false

/- Abstract values for Go data: what a value of the model reads as, and which blocks it owns. -/
namespace Go.Av
open Go Go.RowKit

/-- What is known of a value. `top`: nothing. `ro`: a slice that is only read. `own`: a slice whose memory nobody else has.
`rp`: a pointer into memory that is only read. `bp`, `ep`, `vec`: into an object of the running call. -/
inductive AV where
  | top
  | lit (v : Value)
  | ro (sz : Nat) (ex : Bool) (xs : List AV)
  | own (sz : Nat) (ex : Bool) (xs : List AV)
  | agg (cs : List AV)
  | tup (vs : List AV)
  | fn (f : FuncId) (caps : List AV)
  | mv (f : FuncId) (fs : List AV)
  | rp (cs : List AV) (j : Nat)
  | bp (id : Nat × Nat) (j : Nat)
  | ep (id : Nat × Nat) (i j : Nat)
  | vec (id : Nat × Nat) (off len : Nat)
  deriving Inhabited

def AV.cells : AV → List AV
  | .agg cs => cs
  | x => [x]

def flatc (xs : List AV) : List AV := xs.flatMap AV.cells

def capMax : Nat := 9223372036854775807

/-- The cells from offset o of block b on are these values. -/
def RowAt (w : World) (b o : Nat) (vals : List Value) : Prop := ∀ k u, vals[k]? = some u → w.cell? ⟨b, o + k, none⟩ = some u

def foots (Fs : Nat → List Nat) (n : Nat) : List Nat := (List.range n).flatMap Fs

theorem mem_foots {Fs : Nat → List Nat} {n b : Nat} : b ∈ foots Fs n ↔ ∃ k, k < n ∧ b ∈ Fs k := by
  simp [foots, List.mem_flatMap]

theorem foots_nil {Fs : Nat → List Nat} {n : Nat} (h : ∀ k, k < n → Fs k = []) : foots Fs n = [] := by
  unfold foots
  rw [List.flatMap_eq_nil_iff]
  intro x hx
  exact h x (by simpa using hx)

abbrev Id := Nat × Nat
/-- Where an object of the running call lies: its slice (or a box's pointer), and the cells of an element. -/
abbrev Env := Id → Option (Value × Nat)
def noEnv : Env := fun _ => none

inductive Rel (w : World) (L : Nat → Prop) : Env → AV → Value → List Nat → Prop
  | top (β v) : Rel w L β .top v []
  | lit (β v) : Rel w L β (.lit v) v []
  | roNil (β sz ex A c) (hc : c ≤ capMax) (he : ex = true → c = 0) : Rel w L β (.ro sz ex []) (.slice A 0 c) []
  | ro (β sz ex xs b o c vals) (hL : vals ≠ [] → ¬ L b) (hz : ∀ x ∈ xs, x.cells.length = sz) (hl : (flatc xs).length = vals.length)
      (hrow : RowAt w b o vals) (hr : ∀ (k : Nat) (x : AV) (u : Value), (flatc xs)[k]? = some x → vals[k]? = some u → Rel w L noEnv x u [])
      (hc : xs.length ≤ c) (hm : c ≤ capMax) (he : ex = true → c = xs.length) :
      Rel w L β (.ro sz ex xs) (.slice (some ⟨b, o, none⟩) xs.length c) []
  | ownNil (β sz ex A) : Rel w L β (.own sz ex []) (.slice A 0 0) []
  | own (β sz ex xs b c arr T lo hi Fs) (hb : w.heap[b]? = some (.cells arr T (lo, hi))) (hfz : (∀ k, k < arr.size → ¬ (lo ≤ k ∧ k < hi)) ∧ (1 < sz → ¬ (lo ≤ arr.size ∧ arr.size < hi)))
      (hs : arr.size = c * sz) (hz : ∀ x ∈ xs, x.cells.length = sz)
      (hr : ∀ (k : Nat) (x : AV) (u : Value), (flatc xs)[k]? = some x → arr[k]? = some u → Rel w L noEnv x u (Fs k))
      (hc : xs.length ≤ c) (hm : c ≤ capMax) (he : ex = true → c = xs.length) :
      Rel w L β (.own sz ex xs) (.slice (some ⟨b, 0, none⟩) xs.length c) (b :: foots Fs (flatc xs).length)
  | agg (β cs vals Fs) (hl : cs.length = vals.size) (hr : ∀ (k : Nat) (x : AV) (u : Value), cs[k]? = some x → vals[k]? = some u → Rel w L β x u (Fs k)) :
      Rel w L β (.agg cs) (.agg vals) (foots Fs cs.length)
  | tup (β cs vals Fs) (hl : cs.length = vals.size) (hr : ∀ (k : Nat) (x : AV) (u : Value), cs[k]? = some x → vals[k]? = some u → Rel w L β x u (Fs k)) :
      Rel w L β (.tup cs) (.tuple vals) (foots Fs cs.length)
  | fn (β f cs vals) (hl : cs.length = vals.size) (hr : ∀ (k : Nat) (x : AV) (u : Value), cs[k]? = some x → vals[k]? = some u → Rel w L β x u []) :
      Rel w L β (.fn f cs) (.func (.func f) #[] vals) []
  | mv (β f cs vals) (hl : cs.length = vals.size) (hr : ∀ (k : Nat) (x : AV) (u : Value), cs[k]? = some x → vals[k]? = some u → Rel w L β x u []) :
      Rel w L β (.mv f cs) (.func (.func f) vals #[]) []
  | rp (β cs j b o vals) (hL : vals ≠ [] → ¬ L b) (hl : cs.length = vals.length) (hrow : RowAt w b o vals)
      (hr : ∀ (k : Nat) (x : AV) (u : Value), cs[k]? = some x → vals[k]? = some u → Rel w L noEnv x u []) :
      Rel w L β (.rp cs j) (.pointer (some ⟨b, o + j, none⟩)) []
  | bp (β id j b) (h : β id = some (.pointer (some ⟨b, 0, none⟩), 0)) : Rel w L β (.bp id j) (.pointer (some ⟨b, j, none⟩)) []
  | ep (β id i j b n c sz) (h : β id = some (.slice (some ⟨b, 0, none⟩) n c, sz)) : Rel w L β (.ep id i j) (.pointer (some ⟨b, i * sz + j, none⟩)) []
  | vec (β id off len b n c sz A) (h : β id = some (.slice (some ⟨b, 0, none⟩) n c, sz)) (ho : off + len ≤ n) (hA : off < c → A = ⟨b, off * sz, none⟩) (hn : n ≤ c) :
      Rel w L β (.vec id off len) (.slice (some A) len (c - off)) []
  | vecNil (β id sz A A') (h : β id = some (.slice A 0 0, sz)) : Rel w L β (.vec id 0 0) (.slice A' 0 0) []

theorem cell_lt {w : World} {b o : Nat} {v : Value} (h : w.cell? ⟨b, o, none⟩ = some v) : b < w.heap.size :=
  World.block_lt_of_cell? w _ h

/-- A block that a row of cells lies in. -/
theorem RowAt.keep {w w' : World} {b o : Nat} {vals : List Value} (h : RowAt w b o vals) (hb : b < w.heap.size → w'.heap[b]? = w.heap[b]?) : RowAt w' b o vals := by
  intro k u hk
  have h1 := h k u hk
  rw [← h1]
  exact World.cell?_of_block (w := w) (a := ⟨b, o + k, none⟩) (hb (cell_lt h1))

theorem flatc_length {xs : List AV} {sz : Nat} (hz : ∀ x ∈ xs, x.cells.length = sz) : (flatc xs).length = xs.length * sz := by
  unfold flatc
  induction xs with
  | nil => simp
  | cons x xs ihx =>
    have h1 := hz x (by simp)
    have h2 := ihx (fun y hy => hz y (by simp [hy]))
    simp only [List.flatMap_cons, List.length_append, List.length_cons, Nat.succ_mul]
    omega

theorem Rel.lt {w : World} {L : Nat → Prop} {β : Env} {x : AV} {v : Value} {F : List Nat} (h : Rel w L β x v F) : ∀ b ∈ F, b < w.heap.size := by
  induction h with
  | own β sz ex xs b c arr T lo hi Fs hb hfz hs hz hr hc hm he ih =>
    intro b' hb'
    rcases List.mem_cons.1 hb' with rfl | hb'
    · exact (Array.getElem?_eq_some_iff.1 hb).1
    · obtain ⟨k, hk, hm'⟩ := mem_foots.1 hb'
      have hk2 : k < arr.size := by
        have : (flatc xs).length = xs.length * sz := flatc_length hz
        rw [hs]
        exact Nat.lt_of_lt_of_le (this ▸ hk) (Nat.mul_le_mul_right _ hc)
      exact ih k _ _ (List.getElem?_eq_getElem hk) (Array.getElem?_eq_getElem hk2) _ hm'
  | agg β cs vals Fs hl hr ih =>
    intro b' hb'
    obtain ⟨k, hk, hm'⟩ := mem_foots.1 hb'
    exact ih k _ _ (List.getElem?_eq_getElem hk) (Array.getElem?_eq_getElem (hl ▸ hk)) _ hm'
  | tup β cs vals Fs hl hr ih =>
    intro b' hb'
    obtain ⟨k, hk, hm'⟩ := mem_foots.1 hb'
    exact ih k _ _ (List.getElem?_eq_getElem hk) (Array.getElem?_eq_getElem (hl ▸ hk)) _ hm'
  | _ => intro b hb; simp at hb

theorem RowAt.lt {w : World} {b o : Nat} {vals : List Value} (h : RowAt w b o vals) (h0 : vals ≠ []) : b < w.heap.size := by
  cases vals with
  | nil => exact absurd rfl h0
  | cons v vs => exact cell_lt (h 0 v rfl)

/-- What is not touched reads as it did; the set L may lose blocks, and gain new ones. -/
theorem Rel.keep {w w' : World} {L L' : Nat → Prop} {M : Nat → Prop} {β : Env} {x : AV} {v : Value} {F : List Nat}
    (hw : ∀ b, b < w.heap.size → ¬ M b → w'.heap[b]? = w.heap[b]?) (hML : ∀ b, M b → L b) (hLL : ∀ b, b < w.heap.size → L' b → L b)
    (h : Rel w L β x v F) : (∀ b ∈ F, ¬ M b) → Rel w' L' β x v F := by
  induction h with
  | top β v => intro _; exact .top _ _
  | lit β v => intro _; exact .lit _ _
  | roNil β sz ex A c hc he => intro _; exact .roNil _ _ _ _ _ hc he
  | ro β sz ex xs b o c vals hL hz hl hrow hr hc hm he ih =>
    intro _
    refine .ro _ _ _ _ _ _ _ vals (fun h0 h1 => hL h0 (hLL b (hrow.lt h0) h1)) hz hl ?_ (fun k x u hx hu => ih k x u hx hu (by simp)) hc hm he
    by_cases h0 : vals = []
    · subst h0; intro k u hk; simp at hk
    · exact hrow.keep fun hb => hw b hb fun hM => hL h0 (hML b hM)
  | ownNil β sz ex A => intro _; exact .ownNil _ _ _ _
  | own β sz ex xs b c arr T lo hi Fs hb hfz hs hz hr hc hm he ih =>
    intro hF
    have hlt := (Array.getElem?_eq_some_iff.1 hb).1
    refine .own _ _ _ _ _ _ arr T lo hi Fs ?_ hfz hs hz (fun k x u hx hu => ih k x u hx hu fun b' hb' => hF b' ?_) hc hm he
    · rw [hw b hlt (hF b (by simp))]; exact hb
    · exact List.mem_cons_of_mem _ (mem_foots.2 ⟨k, (List.getElem?_eq_some_iff.1 hx).1, hb'⟩)
  | agg β cs vals Fs hl hr ih =>
    intro hF
    exact .agg _ _ _ _ hl fun k x u hx hu => ih k x u hx hu fun b' hb' => hF b' (mem_foots.2 ⟨k, (List.getElem?_eq_some_iff.1 hx).1, hb'⟩)
  | tup β cs vals Fs hl hr ih =>
    intro hF
    exact .tup _ _ _ _ hl fun k x u hx hu => ih k x u hx hu fun b' hb' => hF b' (mem_foots.2 ⟨k, (List.getElem?_eq_some_iff.1 hx).1, hb'⟩)
  | fn β f cs vals hl hr ih => intro _; exact .fn _ _ _ _ hl fun k x u hx hu => ih k x u hx hu (by simp)
  | mv β f cs vals hl hr ih => intro _; exact .mv _ _ _ _ hl fun k x u hx hu => ih k x u hx hu (by simp)
  | rp β cs j b o vals hL hl hrow hr ih =>
    intro _
    refine .rp _ _ _ _ _ vals (fun h0 h1 => hL h0 (hLL b (hrow.lt h0) h1)) hl ?_ (fun k x u hx hu => ih k x u hx hu (by simp))
    by_cases h0 : vals = []
    · subst h0; intro k u hk; simp at hk
    · exact hrow.keep fun hb => hw b hb fun hM => hL h0 (hML b hM)
  | bp β id j b h => intro _; exact .bp _ _ _ _ h
  | ep β id i j b n c sz h => intro _; exact .ep _ _ _ _ _ _ _ _ h
  | vec β id off len b n c sz A h ho hA hn => intro _; exact .vec _ _ _ _ _ _ _ _ _ h ho hA hn
  | vecNil β id sz A A' h => intro _; exact .vecNil _ _ _ _ _ h

-- No part of it points into an object of the running call.
mutual
def AV.free : AV → Bool
  | .bp .. | .ep .. | .vec .. => false
  | .agg cs => AV.freeL cs
  | .tup cs => AV.freeL cs
  | .fn _ cs => AV.freeL cs
  | .mv _ cs => AV.freeL cs
  | _ => true
def AV.freeL : List AV → Bool
  | [] => true
  | x :: xs => x.free && AV.freeL xs
end

theorem AV.freeL_get {xs : List AV} (h : AV.freeL xs = true) : ∀ (k : Nat) (x : AV), xs[k]? = some x → x.free = true := by
  induction xs with
  | nil => intro k x hx; simp at hx
  | cons y ys ih =>
    simp only [AV.freeL, Bool.and_eq_true] at h
    intro k x hx
    cases k with
    | zero => simp at hx; subst hx; exact h.1
    | succ k => exact ih h.2 k x (by simpa using hx)

theorem Rel.env {w : World} {L : Nat → Prop} {β : Env} {x : AV} {v : Value} {F : List Nat} (h : Rel w L β x v F) (γ : Env) : x.free = true → Rel w L γ x v F := by
  induction h with
  | top β v => intro _; exact .top _ _
  | lit β v => intro _; exact .lit _ _
  | roNil β sz ex A c hc he => intro _; exact .roNil _ _ _ _ _ hc he
  | ro β sz ex xs b o c vals hL hz hl hrow hr hc hm he ih => intro _; exact .ro _ _ _ _ _ _ _ vals hL hz hl hrow hr hc hm he
  | ownNil β sz ex A => intro _; exact .ownNil _ _ _ _
  | own β sz ex xs b c arr T lo hi Fs hb hfz hs hz hr hc hm he ih => intro _; exact .own _ _ _ _ _ _ arr T lo hi Fs hb hfz hs hz hr hc hm he
  | agg β cs vals Fs hl hr ih =>
    intro hf
    exact .agg _ _ _ _ hl fun k x u hx hu => ih k x u hx hu (AV.freeL_get (by simpa [AV.free] using hf) k x hx)
  | tup β cs vals Fs hl hr ih =>
    intro hf
    exact .tup _ _ _ _ hl fun k x u hx hu => ih k x u hx hu (AV.freeL_get (by simpa [AV.free] using hf) k x hx)
  | fn β f cs vals hl hr ih =>
    intro hf
    exact .fn _ _ _ _ hl fun k x u hx hu => ih k x u hx hu (AV.freeL_get (by simpa [AV.free] using hf) k x hx)
  | mv β f cs vals hl hr ih =>
    intro hf
    exact .mv _ _ _ _ hl fun k x u hx hu => ih k x u hx hu (AV.freeL_get (by simpa [AV.free] using hf) k x hx)
  | rp β cs j b o vals hL hl hrow hr ih => intro _; exact .rp _ _ _ _ _ vals hL hl hrow hr
  | bp β id j b h => intro hf; simp [AV.free] at hf
  | ep β id i j b n c sz h => intro hf; simp [AV.free] at hf
  | vec β id off len b n c sz A h ho hA hn => intro hf; simp [AV.free] at hf
  | vecNil β id sz A A' h => intro hf; simp [AV.free] at hf

theorem Rel.of_noEnv {w : World} {L : Nat → Prop} {β : Env} {x : AV} {v : Value} {F : List Nat} (h : Rel w L β x v F) (hβ : β = noEnv) (γ : Env) : Rel w L γ x v F := by
  induction h with
  | top β v => exact .top _ _
  | lit β v => exact .lit _ _
  | roNil β sz ex A c hc he => exact .roNil _ _ _ _ _ hc he
  | ro β sz ex xs b o c vals hL hz hl hrow hr hc hm he ih => exact .ro _ _ _ _ _ _ _ vals hL hz hl hrow hr hc hm he
  | ownNil β sz ex A => exact .ownNil _ _ _ _
  | own β sz ex xs b c arr T lo hi Fs hb hfz hs hz hr hc hm he ih => exact .own _ _ _ _ _ _ arr T lo hi Fs hb hfz hs hz hr hc hm he
  | agg β cs vals Fs hl hr ih => exact .agg _ _ _ _ hl fun k x u hx hu => ih k x u hx hu hβ
  | tup β cs vals Fs hl hr ih => exact .tup _ _ _ _ hl fun k x u hx hu => ih k x u hx hu hβ
  | fn β f cs vals hl hr ih => exact .fn _ _ _ _ hl fun k x u hx hu => ih k x u hx hu hβ
  | mv β f cs vals hl hr ih => exact .mv _ _ _ _ hl fun k x u hx hu => ih k x u hx hu hβ
  | rp β cs j b o vals hL hl hrow hr ih => exact .rp _ _ _ _ _ vals hL hl hrow hr
  | bp β id j b h => subst hβ; cases h
  | ep β id i j b n c sz h => subst hβ; cases h
  | vec β id off len b n c sz A h ho hA hn => subst hβ; cases h
  | vecNil β id sz A A' h => subst hβ; cases h

-- Given up: what was owned is only read from now on.
mutual
def AV.frz : AV → AV
  | .own sz ex xs => .ro sz ex (AV.frzL xs)
  | .agg cs => .agg (AV.frzL cs)
  | .tup cs => .tup (AV.frzL cs)
  | x => x
def AV.frzL : List AV → List AV
  | [] => []
  | x :: xs => x.frz :: AV.frzL xs
end

theorem AV.frzL_eq (xs : List AV) : AV.frzL xs = xs.map AV.frz := by
  induction xs with
  | nil => simp [AV.frzL]
  | cons x xs ih => simp [AV.frzL, ih]

theorem AV.cells_frz (x : AV) : x.frz.cells = x.cells.map AV.frz := by
  cases x <;> simp [AV.frz, AV.cells, AV.frzL_eq]

theorem flatc_frz (xs : List AV) : flatc (xs.map AV.frz) = (flatc xs).map AV.frz := by
  unfold flatc
  induction xs with
  | nil => simp
  | cons x xs ih => simp [ih, AV.cells_frz]

theorem Rel.frz {w : World} {L L' : Nat → Prop} {β : Env} {x : AV} {v : Value} {F : List Nat}
    (hLL : ∀ b, b < w.heap.size → L' b → L b) (h : Rel w L β x v F) : (∀ b ∈ F, ¬ L' b) → Rel w L' β x.frz v [] := by
  have keep : ∀ {β x v}, Rel w L β x v [] → Rel w L' β x v [] := fun h => h.keep (M := fun _ => False) (fun _ _ _ => rfl) (fun _ h => h.elim) hLL (by simp)
  have hnil : ∀ n, foots (fun _ => []) n = [] := fun n => foots_nil fun _ _ => rfl
  induction h with
  | top β v => intro _; exact .top _ _
  | lit β v => intro _; exact .lit _ _
  | roNil β sz ex A c hc he => intro _; exact .roNil _ _ _ _ _ hc he
  | ro β sz ex xs b o c vals hL hz hl hrow hr hc hm he ih => intro _; exact keep (.ro _ _ _ _ _ _ _ vals hL hz hl hrow hr hc hm he)
  | ownNil β sz ex A => intro _; simp only [AV.frz, AV.frzL]; exact .roNil _ _ _ _ _ (by simp [capMax]) (fun _ => rfl)
  | own β sz ex xs b c arr T lo hi Fs hb hfz hs hz hr hc hm he ih =>
    intro hF
    have hlen := flatc_length hz
    have hle : (flatc xs).length ≤ arr.size := by rw [hlen, hs]; exact Nat.mul_le_mul_right _ hc
    simp only [AV.frz, AV.frzL_eq]
    have := Rel.ro (w := w) (L := L') β sz ex (xs.map AV.frz) b 0 c (arr.toList.take (flatc xs).length) (fun _ => hF b (by simp))
      (by intro x hx; obtain ⟨y, hy, rfl⟩ := List.mem_map.1 hx; rw [AV.cells_frz]; simpa using hz y hy)
      (by rw [flatc_frz]; simp; omega)
      (by
        intro k u hk
        have hk' : arr[k]? = some u := by
          rw [List.getElem?_take] at hk; split at hk <;> simp_all
        simp [World.cell?, hb, hk'])
      (by
        intro k x u hx hu
        rw [flatc_frz] at hx
        have hu' : arr[k]? = some u := by rw [List.getElem?_take] at hu; split at hu <;> simp_all
        rw [List.getElem?_map] at hx
        obtain ⟨y, hy, rfl⟩ := Option.map_eq_some_iff.1 hx
        exact ih k y u hy hu' fun b' hb' => hF b' (List.mem_cons_of_mem _ (mem_foots.2 ⟨k, (List.getElem?_eq_some_iff.1 hy).1, hb'⟩)))
      (by simpa using hc) hm (by simpa using he)
    simpa using this
  | agg β cs vals Fs hl hr ih =>
    intro hF
    simp only [AV.frz, AV.frzL_eq]
    have := Rel.agg (w := w) (L := L') β (cs.map AV.frz) vals (fun _ => []) (by simpa using hl) (by
      intro k x u hx hu
      rw [List.getElem?_map] at hx
      obtain ⟨y, hy, rfl⟩ := Option.map_eq_some_iff.1 hx
      exact ih k y u hy hu fun b' hb' => hF b' (mem_foots.2 ⟨k, (List.getElem?_eq_some_iff.1 hy).1, hb'⟩))
    rwa [hnil] at this
  | tup β cs vals Fs hl hr ih =>
    intro hF
    simp only [AV.frz, AV.frzL_eq]
    have := Rel.tup (w := w) (L := L') β (cs.map AV.frz) vals (fun _ => []) (by simpa using hl) (by
      intro k x u hx hu
      rw [List.getElem?_map] at hx
      obtain ⟨y, hy, rfl⟩ := Option.map_eq_some_iff.1 hx
      exact ih k y u hy hu fun b' hb' => hF b' (mem_foots.2 ⟨k, (List.getElem?_eq_some_iff.1 hy).1, hb'⟩))
    rwa [hnil] at this
  | fn β f cs vals hl hr ih => intro _; exact keep (.fn _ _ _ _ hl hr)
  | mv β f cs vals hl hr ih => intro _; exact keep (.mv _ _ _ _ hl hr)
  | rp β cs j b o vals hL hl hrow hr ih => intro _; exact keep (.rp _ _ _ _ _ vals hL hl hrow hr)
  | bp β id j b h => intro _; exact .bp _ _ _ _ h
  | ep β id i j b n c sz h => intro _; exact .ep _ _ _ _ _ _ _ _ h
  | vec β id off len b n c sz A h ho hA hn => intro _; exact .vec _ _ _ _ _ _ _ _ _ h ho hA hn
  | vecNil β id sz A A' h => intro _; exact .vecNil _ _ _ _ _ h

end Go.Av

/- The running call: what is known of its slots and of the objects it has made, and what it does from there. -/
namespace Go.Av
open Go Go.RowKit

inductive Key where
  | s (d : Nat)
  | o (id : Id)
  deriving DecidableEq

inductive Ob where
  | gone
  | box (cs : List AV)
  | vec (sz : Nat) (ex : Bool) (xs : List AV)
  | tie (v : Value) (id : Nat × Nat)
  | mp (b : Nat) (kk : IntKind) (es : List (Int × Value))
  | mq (b : Nat) (es : List (Value × Value))
  | mem (ms : List (Nat × Obj))

structure St where
  sl : List (Nat × AV)
  ob : List (Id × Ob)

def lookS : List (Nat × AV) → Nat → AV
  | [], _ => .top
  | (k, v) :: r, d => bif Nat.beq k d then v else lookS r d
def eqId (a b : Id) : Bool := Nat.beq a.1 b.1 && Nat.beq a.2 b.2
def lookO : List (Id × Ob) → Id → Ob
  | [], _ => .gone
  | (k, v) :: r, d => bif eqId k d then v else lookO r d
def St.get (st : St) (d : Nat) : AV := lookS st.sl d
def St.obj (st : St) (d : Id) : Ob := lookO st.ob d
def St.put (st : St) (d : Nat) (v : AV) : St := ⟨(d, v) :: st.sl, st.ob⟩
def St.setObj (st : St) (d : Id) (v : Ob) : St := ⟨st.sl, (d, v) :: st.ob⟩

theorem eqId_iff (a b : Id) : eqId a b = true ↔ a = b := by
  cases a; cases b; simp [eqId, Nat.beq_eq]
theorem St.get_put (st : St) (d k : Nat) (v : AV) : (st.put d v).get k = if d = k then v else st.get k := by
  simp only [St.put, St.get, lookS]
  by_cases h : d = k
  · subst h; simp
  · have : Nat.beq d k = false := by cases hb : Nat.beq d k; rfl; exact absurd (Nat.eq_of_beq_eq_true hb) h
    simp [this, h]
theorem St.obj_put (st : St) (d : Nat) (k : Id) (v : AV) : (st.put d v).obj k = st.obj k := rfl
theorem St.get_setObj (st : St) (d : Id) (k : Nat) (v : Ob) : (st.setObj d v).get k = st.get k := rfl
theorem St.obj_setObj (st : St) (d k : Id) (v : Ob) : (st.setObj d v).obj k = if d = k then v else st.obj k := by
  simp only [St.setObj, St.obj, lookO]
  by_cases h : d = k
  · subst h; simp [(eqId_iff d d).2 rfl]
  · have : eqId d k = false := by cases hb : eqId d k; rfl; exact absurd ((eqId_iff _ _).1 hb) h
    simp [this, h]

/-- What is known of a type. -/
structure TI where
  sz : Nat
  by' : Nat
  zero : List Value
  ud : TypeDesc

structure TyOk (P : Program) (t : TypeId) (i : TI) : Prop where
  info : (P.info? t).map (fun j => (j.size, j.bytes, j.zero.map fun z => z.cells.toList)) = some (i.sz, i.by', some i.zero)
  ud : P.underlying t = some i.ud

structure Fx where
  P : Program
  T : Nat → Option TI
  f : FuncId
  fn : Func
  pins : List Nat

structure Fx.Ok (X : Fx) : Prop where
  func : X.P.funcs[X.f]? = some X.fn
  ty : ∀ t i, X.T t = some i → TyOk X.P t i

/-- Blocks that were there are as they were, but for those of F0. -/
structure Kp (F0 : List Nat) (w w' : World) : Prop where
  os : w'.os = w.os
  tape : w'.tape = w.tape
  output : w'.output = w.output
  size : w.heap.size ≤ w'.heap.size
  block : ∀ b, b < w.heap.size → b ∉ F0 → w'.heap[b]? = w.heap[b]?

theorem Kp.refl (F0 : List Nat) (w : World) : Kp F0 w w := ⟨rfl, rfl, rfl, Nat.le_refl _, fun _ _ _ => rfl⟩
theorem Kp.trans {F0 F1 : List Nat} {a b c : World} (h : Kp F0 a b) (k : Kp F1 b c) (hF : ∀ x ∈ F1, x ∈ F0 ∨ a.heap.size ≤ x) : Kp F0 a c :=
  ⟨k.os.trans h.os, k.tape.trans h.tape, k.output.trans h.output, Nat.le_trans h.size k.size, fun x hx hn =>
    (k.block x (Nat.lt_of_lt_of_le hx h.size) (fun hm => (hF x hm).elim hn (by omega))).trans (h.block x hx hn)⟩
theorem Kp.below {w w' : World} (h : Kp [] w w') : Below w.heap.size w w' := ⟨h.os, h.tape, h.output, h.size, fun k hk => h.block k hk (by simp)⟩
theorem Kp.of_below {w w' : World} (h : Below w.heap.size w w') : Kp [] w w' := ⟨h.os, h.tape, h.output, h.size, fun k hk _ => h.block k hk⟩
theorem Kp.alloc (F0 : List Nat) (w : World) (o : Obj) : Kp F0 w (w.alloc o) :=
  ⟨rfl, rfl, rfl, by simp, fun k hk _ => Below.heap_alloc w o k hk⟩

/-- How a body ends: it returns; it returns, and block D, for the deferred calls of the rounds of a range over a function, is shut; it ends a round of loop l. -/
inductive GPost where
  | plain (p : Value → World → Prop)
  | marked (D : Nat) (p : Value → World → Prop)
  | round (l : Nat) (p : Option Code → World → Prop)

structure Gx where
  w0 : World
  F0 : List Nat
  L0 : Nat → Prop
  args : Array Value
  Post : GPost
  hL : ∀ b, L0 b → b < w0.heap.size ∧ b ∉ F0

def Gx.df (g : Gx) : List Deferred := match g.Post with
  | .marked D _ => [{ target := .collected D, args := #[] }]
  | _ => []
def Gx.rd (g : Gx) : Option Nat := match g.Post with
  | .round l _ => some l
  | _ => none
theorem rd_plain {g : Gx} {p : Value → World → Prop} (h : g.Post = .plain p) : g.rd = none := by simp [Gx.rd, h]
theorem df_plain {g : Gx} {p : Value → World → Prop} (h : g.Post = .plain p) : g.df = [] := by simp [Gx.df, h]
theorem rd_marked {g : Gx} {D : Nat} {p : Value → World → Prop} (h : g.Post = .marked D p) : g.rd = none := by simp [Gx.rd, h]
theorem df_marked {g : Gx} {D : Nat} {p : Value → World → Prop} (h : g.Post = .marked D p) : g.df = [{ target := .collected D, args := #[] }] := by simp [Gx.df, h]
theorem rd_round {g : Gx} {l : Nat} {p : Option Code → World → Prop} (h : g.Post = .round l p) : g.rd = some l := by simp [Gx.rd, h]
theorem df_round {g : Gx} {l : Nat} {p : Option Code → World → Prop} (h : g.Post = .round l p) : g.df = [] := by simp [Gx.df, h]

def Lv (g : Gx) (F : Key → List Nat) : Nat → Prop := fun b => g.L0 b ∨ ∃ k, b ∈ F k

structure Sep (F : Key → List Nat) : Prop where
  nodup : ∀ k, (F k).Nodup
  apart : ∀ k k' b, k ≠ k' → b ∈ F k → b ∉ F k'

def ObRel (w : World) (L : Nat → Prop) (β : Env) (id : Id) : Ob → List Nat → Prop
  | .gone, F => F = []
  | .vec sz ex xs, F => ∃ v, β id = some (v, sz) ∧ Rel w L β (.own sz ex xs) v F
  | .tie v id', F => F = [] ∧ ∃ sz, β id' = some (v, sz)
  | .mp b kk es, F => F = [b] ∧ ∃ arr clock, w.heap[b]? = some (.map arr clock) ∧ arr.toList.map (fun e => (e.key, e.val)) = es.map fun x => (.int kk x.1, x.2)
  | .mq b es, F => F = [b] ∧ ∃ arr, w.heap[b]? = some (.map arr arr.size) ∧ arr.toList.map (fun e => (e.key, e.val)) = es ∧ ∀ (i : Nat) (e : MapEntry), arr[i]? = some e → e.born = i
  | .mem ms, F => F = ms.map Prod.fst ∧ ∀ e ∈ ms, w.heap[e.1]? = some e.2
  | .box cs, F => ∃ b arr T lo hi Fs, β id = some (.pointer (some ⟨b, 0, none⟩), 0) ∧ w.heap[b]? = some (.cells arr T (lo, hi)) ∧
      (∀ k, k ≤ arr.size → ¬ (lo ≤ k ∧ k < hi)) ∧ arr.size = cs.length ∧
      (∀ (k : Nat) (x : AV) (u : Value), cs[k]? = some x → arr[k]? = some u → Rel w L β x u (Fs k)) ∧ F = b :: foots Fs cs.length

structure Inv (X : Fx) (g : Gx) (st : St) (a : Act) (w : World) (β : Env) (F : Key → List Nat) (L : Nat → Prop) : Prop where
  defers : a.defers = g.df
  size : a.tmps.size = X.fn.ntmps
  kp : Kp g.F0 g.w0 w
  sep : Sep F
  range : ∀ k b, b ∈ F k → b ∈ g.F0 ∨ g.w0.heap.size ≤ b
  slot : ∀ d, ∃ u, (a.tmps[d]? = some u ∨ st.get d = .top) ∧ Rel w L β (st.get d) u (F (.s d))
  obj : ∀ id, ObRel w L β id (st.obj id) (F (.o id))
  pin : ∀ j ∈ X.pins, a.tmps[j]? = g.args[j]?

def SR (X : Fx) (g : Gx) (st : St) (a : Act) (w : World) : Prop := ∃ β F, Inv X g st a w β F (Lv g F)

/-- A frame that has come to its end. -/
def Fin (X : Fx) (g : Gx) (v : Value) (w1 : World) (fr : Frame) : Prop :=
  match g.Post with
  | .plain p => p v w1 ∧ fr.fn = X.f ∧ fr.leaving X.P w1 (.returned v)
  | .marked _ p => p v w1 ∧ fr.fn = X.f ∧ fr.leaving X.P w1 (.returned v)
  | .round l p => ∃ jump, p jump w1 ∧ ∀ u w', (Instr.endRound l jump).run X.P w1 = .ok u w' → ∀ c cs, step X.P (lone fr (c :: cs) w1) = .next (lone (c.finish u) cs w')

theorem fin_plain {X : Fx} {g : Gx} {v : Value} {w1 : World} {fr : Frame} {p : Value → World → Prop} (h : g.Post = .plain p) : Fin X g v w1 fr ↔ p v w1 ∧ fr.fn = X.f ∧ fr.leaving X.P w1 (.returned v) := by simp [Fin, h]
theorem fin_marked {X : Fx} {g : Gx} {v : Value} {w1 : World} {fr : Frame} {D : Nat} {p : Value → World → Prop} (h : g.Post = .marked D p) : Fin X g v w1 fr ↔ p v w1 ∧ fr.fn = X.f ∧ fr.leaving X.P w1 (.returned v) := by simp [Fin, h]
theorem fin_round {X : Fx} {g : Gx} {v : Value} {w1 : World} {fr : Frame} {l : Nat} {p : Option Code → World → Prop} (h : g.Post = .round l p) :
    Fin X g v w1 fr ↔ ∃ jump, p jump w1 ∧ ∀ u w', (Instr.endRound l jump).run X.P w1 = .ok u w' → ∀ c cs, step X.P (lone fr (c :: cs) w1) = .next (lone (c.finish u) cs w') := by simp [Fin, h]

/-- From these items on the call returns as it should. -/
def Run (X : Fx) (g : Gx) (K : List Item) (st : St) : Prop :=
  X.Ok → ∀ (a : Act) (w : World) (b : Frame) (cs : List Frame), SR X g st a w → b.fn = X.f → b.kind = .normal ∧ b.roundOf = g.rd →
    ∃ v w' fr, Fin X g v w' fr ∧ Steps X.P (lone (b.atR a K) cs w) (lone fr cs w')

/-- The same; what is left to do is not shown. -/
def Nxt {X : Fx} {g : Gx} {K : List Item} (st : St) : Prop := Run X g K st

section control
variable {X : Fx} {g : Gx} {st : St} {k : List Item}

theorem Run.of_step {K K' : List Item} (hs : ∀ (b : Frame) (a : Act) (cs : List Frame) (w : World), step X.P (lone (b.atR a K) cs w) = .next (lone (b.atR a K') cs w))
    (h : Run X g K' st) : Run X g K st := by
  intro hX a w b cs hI hf hk
  obtain ⟨v, w', fr, hp, hst⟩ := h hX a w b cs hI hf hk
  exact ⟨v, w', fr, hp, .head (hs b a cs w) hst⟩

/-- The steps of control that need no look at a slot. -/
def cstep : List Item → Option (List Item)
  | .code .skip :: k => some k
  | .code (.seq x y) :: k => some (.code x :: .code y :: k)
  | .code (.block id c) :: k => some (.code c :: .inBlock id :: k)
  | .inBlock _ :: k => some k
  | .code (.exit id) :: k => exitTo id k
  | .code (.region _ ops false) :: k => some (.inRegion ops (List.range ops.size) :: k)
  | .inRegion _ [] :: k => some k
  | _ => none

theorem Run.ctl {K K' : List Item} (hc : cstep K = some K') (h : Run X g K' st) : Run X g K st := by
  refine Run.of_step (fun b a cs w => ?_) h
  unfold cstep at hc
  split at hc
  · obtain rfl := Option.some.inj hc; exact stepR_skip
  · obtain rfl := Option.some.inj hc; exact stepR_seq
  · obtain rfl := Option.some.inj hc; exact stepR_block
  · obtain rfl := Option.some.inj hc; exact stepR_inBlock
  · exact stepR_exit hc
  · obtain rfl := Option.some.inj hc; exact stepR_region
  · obtain rfl := Option.some.inj hc; exact stepR_region_end
  · cases hc

theorem Run.inLoop {c : Code} (h : Run X g (.code c :: .inLoop c :: k) st) : Run X g (.inLoop c :: k) st := Run.of_step (fun _ _ _ _ => stepR_inLoop) h
theorem Run.code_loop {c : Code} (h : Run X g (.code c :: .inLoop c :: k) st) : Run X g (.code (.loop c) :: k) st := Run.of_step (fun _ _ _ _ => stepR_loop) h

/-- What is known less of, may be forgotten. -/
structure St.Le (st' st : St) : Prop where
  sl : ∀ d, st'.get d = .top ∨ st'.get d = st.get d
  ob : ∀ id, st'.obj id = .gone ∨ st'.obj id = st.obj id

theorem SR.le {st st' : St} {a : Act} {w : World} (hle : St.Le st' st) (h : SR X g st a w) : SR X g st' a w := by
  classical
  obtain ⟨β, F, h⟩ := h
  let F' : Key → List Nat := fun
    | .s d => if st'.get d = .top then [] else F (.s d)
    | .o id => if st'.obj id = .gone then [] else F (.o id)
  have hsub : ∀ k b, b ∈ F' k → b ∈ F k := by
    intro k b hb
    cases k <;> simp only [F'] at hb <;> split at hb <;> simp_all
  have hL : ∀ b, b < w.heap.size → Lv g F' b → Lv g F b := by
    rintro b - (hb | ⟨k, hb⟩)
    · exact .inl hb
    · exact .inr ⟨k, hsub k b hb⟩
  refine ⟨β, F', h.defers, h.size, h.kp, ⟨?_, ?_⟩, fun k b hb => h.range k b (hsub k b hb), ?_, ?_, h.pin⟩
  · intro k
    cases k <;> simp only [F'] <;> split <;> simp [h.sep.nodup]
  · intro k k' b hk hb hb'
    exact h.sep.apart k k' b hk (hsub _ _ hb) (hsub _ _ hb')
  · intro d
    obtain ⟨u, hu, hr⟩ := h.slot d
    by_cases h0 : st'.get d = .top
    · refine ⟨u, .inr h0, ?_⟩
      simp only [F', if_pos h0]
      rw [h0]; exact .top _ _
    · have h1 := (hle.sl d).resolve_left h0
      refine ⟨u, ?_, ?_⟩
      · rw [h1]; exact hu
      · simp only [F', if_neg h0]
        rw [h1]
        exact hr.keep (M := fun _ => False) (fun _ _ _ => rfl) (fun _ h => h.elim) hL (fun _ _ h => h)
  · intro id
    by_cases h0 : st'.obj id = .gone
    · simp only [F', if_pos h0]
      rw [h0]; rfl
    · have h1 := (hle.ob id).resolve_left h0
      simp only [F', if_neg h0]
      rw [h1]
      have ho := h.obj id
      have keep : ∀ {x v G}, Rel w (Lv g F) β x v G → Rel w (Lv g F') β x v G := fun hr => hr.keep (M := fun _ => False) (fun _ _ _ => rfl) (fun _ h => h.elim) hL (fun _ _ h => h)
      revert ho
      cases st.obj id with
      | gone => exact fun h => h
      | vec sz ex xs => rintro ⟨v, e, hr⟩; exact ⟨v, e, keep hr⟩
      | tie v id' => exact fun h => h
      | mp b kk es => exact fun h => h
      | mq b es => exact fun h => h
      | mem ms => exact fun h => h
      | box cs => rintro ⟨b, arr, T, lo, hi, Fs, e, hb, hf, hs, hr, hF⟩; exact ⟨b, arr, T, lo, hi, Fs, e, hb, hf, hs, fun k x u hx hu => keep (hr k x u hx hu), hF⟩

theorem Run.le {st st' : St} {K : List Item} (hle : St.Le st' st) (h : Run X g K st') : Run X g K st :=
  fun hX a w b cs hI hf hk => h hX a w b cs (hI.le hle) hf hk

def leS : List (Nat × AV) → St → Prop
  | [], _ => True
  | (d, v) :: r, st => st.get d = v ∧ leS r st
def leO : List (Id × Ob) → St → Prop
  | [], _ => True
  | (d, v) :: r, st => st.obj d = v ∧ leO r st

theorem look_leS {l : List (Nat × AV)} {st : St} (h : leS l st) (d : Nat) : lookS l d = .top ∨ lookS l d = st.get d := by
  induction l with
  | nil => exact .inl rfl
  | cons e l ih =>
    obtain ⟨k, v⟩ := e
    obtain ⟨h1, h2⟩ := h
    simp only [lookS]
    cases hb : Nat.beq k d
    · exact ih h2
    · obtain rfl := Nat.eq_of_beq_eq_true hb
      exact .inr h1.symm
theorem look_leO {l : List (Id × Ob)} {st : St} (h : leO l st) (d : Id) : lookO l d = .gone ∨ lookO l d = st.obj d := by
  induction l with
  | nil => exact .inl rfl
  | cons e l ih =>
    obtain ⟨k, v⟩ := e
    obtain ⟨h1, h2⟩ := h
    simp only [lookO]
    cases hb : eqId k d
    · exact ih h2
    · obtain rfl := (eqId_iff _ _).1 hb
      exact .inr h1.symm

theorem St.Le.mk' {st' st : St} (h1 : leS st'.sl st) (h2 : leO st'.ob st) : St.Le st' st := ⟨look_leS h1, look_leO h2⟩

/-- A loop, by what holds at its head, and a measure. -/
theorem Run.loop {ι : Type} {c : Code} (S : ι → St) (I : ι → Prop) (μ : ι → Nat) (i : ι) (hi : I i)
    (hle : St.Le (S i) st)
    (round : ∀ i, I i → (∀ j, I j → μ j < μ i → Nxt (X := X) (g := g) (K := .inLoop c :: k) (S j)) → Run X g (.code c :: .inLoop c :: k) (S i)) :
    Run X g (.code (.loop c) :: k) st := by
  refine Run.le hle (Run.code_loop ?_)
  clear hle
  have key : ∀ m i, I i → μ i < m → Run X g (.code c :: .inLoop c :: k) (S i) := by
    intro m
    induction m with
    | zero => intro i _ h; omega
    | succ m ih => exact fun i hi hm => round i hi fun j hj hlt => Run.inLoop (ih j hj (by omega))
  exact key (μ i + 1) i hi (by omega)

theorem Inv.slotv {a : Act} {w : World} {β : Env} {F : Key → List Nat} {L : Nat → Prop} (h : Inv X g st a w β F L) {d : Nat} (hd : st.get d ≠ .top) :
    Rel w L β (st.get d) (a.tmps.getD d undef) (F (.s d)) := by
  obtain ⟨u, hu, hr⟩ := h.slot d
  have := hu.resolve_right hd
  rw [Array.getD_eq_getD_getElem?, this]
  exact hr

theorem Run.cond {d : Nat} {x y : Code} {b : Bool} (hb : st.get d = .lit (.bool b))
    (ht : b = true → Run X g (.code x :: k) st) (hf : b = false → Run X g (.code y :: k) st) : Run X g (.code (.cond (.tmp d) x y) :: k) st := by
  intro hX a w fr cs hI h1 h2
  have hv : a.eval (.tmp d) = .bool b := by
    obtain ⟨β, F, hI⟩ := hI
    have := hI.slotv (d := d) (by rw [hb]; simp)
    rw [hb] at this
    generalize hu : a.tmps.getD d undef = u at this
    generalize F (.s d) = G at this
    cases this
    exact hu
  cases b with
  | true =>
    obtain ⟨v, w', fr', hp, hst⟩ := ht rfl hX a w fr cs hI h1 h2
    exact ⟨v, w', fr', hp, .head (stepR_cond hv) hst⟩
  | false =>
    obtain ⟨v, w', fr', hp, hst⟩ := hf rfl hX a w fr cs hI h1 h2
    exact ⟨v, w', fr', hp, .head (stepR_cond hv) (by simpa using hst)⟩

end control

end Go.Av

/- The steps of the running call: operations, calls, the return. -/
namespace Go.Av
open Go Go.RowKit

section
variable {X : Fx} {g : Gx} {st st' : St} {k : List Item} {ops : Array Oper} {i : Nat} {rest : List Nat} {o : Oper}

theorem finish_op {b : Frame} {a : Act} (ho : ops[i]? = some o) (v : Value) :
    (b.atR a (.inRegion ops (i :: rest) :: k)).finish v = b.atR (a.put o.dst v) (.inRegion ops rest :: k) := by
  rw [Frame.finish_atR, ho]; rfl

theorem not_defer_of {P : Program} {ρ : Operand → Value} {o : Oper} {w : World} (h : ∃ n w', (execOp ρ o).run P w = .ok n w' ∧ ∀ d, n ≠ .defer d) : ∀ c, o.op ≠ .defer c := by
  rintro c hc
  obtain ⟨n, w', h, hn⟩ := h
  obtain ⟨d, w1, hd⟩ : ∃ d w1, n = .defer d ∧ w1 = w' := by
    simp only [execOp, hc, Sem.run_bind] at h
    cases hr : (resolve ρ c o.type).run P w with
    | ok d w1 => rw [hr] at h; simp [Result.andThen, Sem.run_pure] at h; exact ⟨d, w1, h.1.symm, h.2⟩
    | halt x w1 => rw [hr] at h; simp [Result.andThen] at h
  exact hn d hd.1

/-- An operation that yields a value, or nothing. -/
theorem Run.op (ho : ops[i]? = some o) (hw : ∀ a w, SR X g st a w → Region.wanted o (yielded ops a.tmps) = true)
    (hs : X.Ok → ∀ a w, SR X g st a w → ∃ u w', ((execOp a.eval o).run X.P w = .ok (.value u) w' ∨ ((execOp a.eval o).run X.P w = .ok .skip w' ∧ u = undef)) ∧ SR X g st' (a.put o.dst u) w')
    (h : Run X g (.inRegion ops rest :: k) st') : Run X g (.inRegion ops (i :: rest) :: k) st := by
  intro hX a w b cs hI hf hk
  obtain ⟨u, w1, hr, hI'⟩ := hs hX a w hI
  obtain ⟨v, w', fr, hp, hst⟩ := h hX (a.put o.dst u) w1 b cs hI' hf hk
  refine ⟨v, w', fr, hp, .head ?_ hst⟩
  have hg := stepGR_op (P := X.P) (b := b) (k := k) (cs := cs) (w := w) (rest := rest) ho (hw a w hI)
  rw [Oper.semAt_eq _ _ _ (not_defer_of (by
    rcases hr with hr | ⟨hr, _⟩
    · exact ⟨_, _, hr, by simp⟩
    · exact ⟨_, _, hr, by simp⟩))] at hg
  refine step_lone_go ?_
  rw [← finish_op ho]
  rcases hr with hr | ⟨hr, rfl⟩
  · rw [hg]; simp [stepG.apply, hr]
  · rw [hg]; simp [stepG.apply, hr]

/-- An operation whose guard does not hold. -/
theorem Run.op_off (ho : ops[i]? = some o) (hw : ∀ a w, SR X g st a w → Region.wanted o (yielded ops a.tmps) = false)
    (hs : ∀ a w, SR X g st a w → SR X g st' (a.put o.dst undef) w)
    (h : Run X g (.inRegion ops rest :: k) st') : Run X g (.inRegion ops (i :: rest) :: k) st := by
  intro hX a w b cs hI hf hk
  obtain ⟨v, w', fr, hp, hst⟩ := h hX _ w b cs (hs a w hI) hf hk
  refine ⟨v, w', fr, hp, .head ?_ hst⟩
  have := stepR_op_skip (P := X.P) (b := b) (a := a) (k := k) (cs := cs) (w := w) (ops := ops) (i := i) (rest := rest) (by simp [ho, hw a w hI])
  simpa [ho] using this

/-- An operation that enters a function. -/
theorem Run.opc (ho : ops[i]? = some o) (hw : ∀ a w, SR X g st a w → Region.wanted o (yielded ops a.tmps) = true)
    (hs : X.Ok → ∀ a w, SR X g st a w → ∃ f args w', (execOp a.eval o).run X.P w = .ok (.enter f args) w' ∧
      Calls X.P f args w' fun e w'' => ∃ u, e = .returned u ∧ SR X g st' (a.put o.dst u) w'')
    (h : Run X g (.inRegion ops rest :: k) st') : Run X g (.inRegion ops (i :: rest) :: k) st := by
  intro hX a w b cs hI hf hk
  obtain ⟨f, args, w1, hr, hc⟩ := hs hX a w hI
  obtain ⟨e, w2, fr2, ⟨u, rfl, hI'⟩, hsteps, _, hleave⟩ := hc (b.atR a (.inRegion ops (i :: rest) :: k) :: cs)
  obtain ⟨v, w', fr, hp, hst⟩ := h hX (a.put o.dst u) w2 b cs hI' hf hk
  have hg := stepGR_op (P := X.P) (b := b) (k := k) (cs := cs) (w := w) (rest := rest) ho (hw a w hI)
  rw [Oper.semAt_eq _ _ _ (not_defer_of ⟨_, _, hr, by simp⟩)] at hg
  have henter : step X.P (lone (b.atR a (.inRegion ops (i :: rest) :: k)) cs w) =
      .next (lone (Frame.enter X.P f args .normal) (b.atR a (.inRegion ops (i :: rest) :: k) :: cs) w1) :=
    step_lone_go (by rw [hg]; simp [stepG.apply, hr, Frame.atR])
  refine ⟨v, w', fr, hp, .head henter (Steps.trans hsteps (.head ?_ hst))⟩
  rw [← finish_op ho]
  exact step_leave_returned hleave

theorem Run.ret' {p : Value → World → Prop} (hp : g.Post = .plain p) (hs : X.Ok → ∀ a w, SR X g st a w → ∃ v, (results X.fn a.tmps).run X.P w = .ok v w ∧ p v w) : Run X g (.code .ret :: k) st := by
  intro hX a w b cs hI hf hk
  obtain ⟨v, hr, hp'⟩ := hs hX a w hI
  obtain ⟨β, F, hi⟩ := hI
  exact ⟨v, w, { b.atR a (.code .ret :: k) with mode := .returning }, (fin_plain hp).2 ⟨hp', hf, rfl, hi.defers.trans (df_plain hp), hk.1, X.fn, (show X.P.funcs[b.fn]? = some X.fn by rw [hf]; exact hX.func), hr⟩, .one (stepR_ret (hk.2.trans (rd_plain hp)))⟩

theorem Run.end' {p : Value → World → Prop} (hp : g.Post = .plain p) (hs : X.Ok → ∀ a w, SR X g st a w → ∃ v, (results X.fn a.tmps).run X.P w = .ok v w ∧ p v w) : Run X g [] st := by
  intro hX a w b cs hI hf hk
  obtain ⟨v, hr, hp'⟩ := hs hX a w hI
  obtain ⟨β, F, hi⟩ := hI
  exact ⟨v, w, { b.atR a [] with mode := .returning }, (fin_plain hp).2 ⟨hp', hf, rfl, hi.defers.trans (df_plain hp), hk.1, X.fn, (show X.P.funcs[b.fn]? = some X.fn by rw [hf]; exact hX.func), hr⟩, .one (stepR_end (hk.2.trans (rd_plain hp)))⟩
end

/-! ### Changes of what is known -/

def updF (F : Key → List Nat) (k : Key) (G : List Nat) : Key → List Nat := fun k' => if k' = k then G else F k'
def updE (β : Env) (id : Id) (z : Value × Nat) : Env := fun id' => if id' = id then some z else β id'

theorem updF_same (F : Key → List Nat) (k : Key) (G : List Nat) : updF F k G k = G := by simp [updF]
theorem updF_ne {F : Key → List Nat} {k k' : Key} (G : List Nat) (h : k' ≠ k) : updF F k G k' = F k' := by simp [updF, h]

mutual
def AV.nrf (id : Id) : AV → Bool
  | .bp i _ => !eqId i id
  | .ep i _ _ => !eqId i id
  | .vec i _ _ => !eqId i id
  | .agg cs => AV.nrfL id cs
  | .tup cs => AV.nrfL id cs
  | .fn _ cs => AV.nrfL id cs
  | .mv _ cs => AV.nrfL id cs
  | _ => true
def AV.nrfL (id : Id) : List AV → Bool
  | [] => true
  | x :: xs => x.nrf id && AV.nrfL id xs
end

theorem AV.nrfL_get {id : Id} {xs : List AV} (h : AV.nrfL id xs = true) : ∀ (k : Nat) (x : AV), xs[k]? = some x → x.nrf id = true := by
  induction xs with
  | nil => intro k x hx; simp at hx
  | cons y ys ih =>
    simp only [AV.nrfL, Bool.and_eq_true] at h
    intro k x hx
    cases k with
    | zero => simp at hx; subst hx; exact h.1
    | succ k => exact ih h.2 k x (by simpa using hx)

theorem updE_ne {β : Env} {i id : Id} {z : Value × Nat} (h : (!eqId i id) = true) : updE β id z i = β i := by
  have : i ≠ id := fun e => by rw [(eqId_iff i id).2 e] at h; simp at h
  simp [updE, this]

theorem Rel.upd {w : World} {L : Nat → Prop} {β : Env} {x : AV} {v : Value} {F : List Nat} (h : Rel w L β x v F) (id : Id) (z : Value × Nat) : x.nrf id = true → Rel w L (updE β id z) x v F := by
  induction h with
  | top β v => intro _; exact .top _ _
  | lit β v => intro _; exact .lit _ _
  | roNil β sz ex A c hc he => intro _; exact .roNil _ _ _ _ _ hc he
  | ro β sz ex xs b o c vals hL hz hl hrow hr hc hm he ih => intro _; exact .ro _ _ _ _ _ _ _ vals hL hz hl hrow hr hc hm he
  | ownNil β sz ex A => intro _; exact .ownNil _ _ _ _
  | own β sz ex xs b c arr T lo hi Fs hb hfz hs hz hr hc hm he ih => intro _; exact .own _ _ _ _ _ _ arr T lo hi Fs hb hfz hs hz hr hc hm he
  | agg β cs vals Fs hl hr ih =>
    intro hf
    exact .agg _ _ _ _ hl fun k x u hx hu => ih k x u hx hu (AV.nrfL_get (by simpa [AV.nrf] using hf) k x hx)
  | tup β cs vals Fs hl hr ih =>
    intro hf
    exact .tup _ _ _ _ hl fun k x u hx hu => ih k x u hx hu (AV.nrfL_get (by simpa [AV.nrf] using hf) k x hx)
  | fn β f cs vals hl hr ih =>
    intro hf
    exact .fn _ _ _ _ hl fun k x u hx hu => ih k x u hx hu (AV.nrfL_get (by simpa [AV.nrf] using hf) k x hx)
  | mv β f cs vals hl hr ih =>
    intro hf
    exact .mv _ _ _ _ hl fun k x u hx hu => ih k x u hx hu (AV.nrfL_get (by simpa [AV.nrf] using hf) k x hx)
  | rp β cs j b o vals hL hl hrow hr ih => intro _; exact .rp _ _ _ _ _ vals hL hl hrow hr
  | bp β id' j b h => intro hf; exact .bp _ _ _ _ (by rw [updE_ne (by simpa [AV.nrf] using hf)]; exact h)
  | ep β id' i j b n c sz h => intro hf; exact .ep _ _ _ _ _ _ _ _ (by rw [updE_ne (by simpa [AV.nrf] using hf)]; exact h)
  | vec β id' off len b n c sz A h ho hA hn => intro hf; exact .vec _ _ _ _ _ _ _ _ _ (by rw [updE_ne (by simpa [AV.nrf] using hf)]; exact h) ho hA hn
  | vecNil β id' sz A A' h => intro hf; exact .vecNil _ _ _ _ _ (by rw [updE_ne (by simpa [AV.nrf] using hf)]; exact h)

def Ob.nrf (id : Id) : Ob → Bool
  | .box cs => AV.nrfL id cs
  | .tie _ id' => !eqId id' id
  | _ => true
/-- Nothing that is known refers to object id. -/
def St.nrf (id : Id) (st : St) : Bool := (st.sl.all fun e => e.2.nrf id) && st.ob.all fun e => e.2.nrf id

theorem St.nrf_get {id : Id} {st : St} (h : st.nrf id = true) (d : Nat) : (st.get d).nrf id = true := by
  simp only [St.nrf, Bool.and_eq_true] at h
  have := h.1
  clear h
  unfold St.get
  generalize st.sl = l at this
  induction l with
  | nil => rfl
  | cons e l ih =>
    simp only [List.all_cons, Bool.and_eq_true] at this
    obtain ⟨k, v⟩ := e
    simp only [lookS]
    cases Nat.beq k d
    · exact ih this.2
    · exact this.1
theorem St.nrf_obj {id : Id} {st : St} (h : st.nrf id = true) (d : Id) : (st.obj d).nrf id = true := by
  simp only [St.nrf, Bool.and_eq_true] at h
  have := h.2
  clear h
  unfold St.obj
  generalize st.ob = l at this
  induction l with
  | nil => rfl
  | cons e l ih =>
    simp only [List.all_cons, Bool.and_eq_true] at this
    obtain ⟨k, v⟩ := e
    simp only [lookO]
    cases eqId k d
    · exact ih this.2
    · exact this.1

theorem ObRel.upd {w : World} {L : Nat → Prop} {β : Env} {id' : Id} {ob : Ob} {G : List Nat} (h : ObRel w L β id' ob G) (id : Id) (z : Value × Nat) (hne : id' ≠ id) (hn : ob.nrf id = true) :
    ObRel w L (updE β id z) id' ob G := by
  cases ob with
  | gone => exact h
  | vec sz ex xs =>
    obtain ⟨v, e, hr⟩ := h
    exact ⟨v, by simp [updE, hne, e], hr.upd id z (by simp [AV.nrf])⟩
  | tie v id'' =>
    obtain ⟨h1, sz, h2⟩ := h
    exact ⟨h1, sz, by rw [updE_ne (by simpa [Ob.nrf] using hn)]; exact h2⟩
  | mp b kk es => exact h
  | mq b es => exact h
  | mem ms => exact h
  | box cs =>
    obtain ⟨b, arr, T, lo, hi, Fs, e, hb, hf, hs, hr, hF⟩ := h
    exact ⟨b, arr, T, lo, hi, Fs, by simp [updE, hne, e], hb, hf, hs, fun k x u hx hu => (hr k x u hx hu).upd id z (AV.nrfL_get (by simpa [Ob.nrf] using hn) k x hx), hF⟩

theorem ObRel.keep {w w' : World} {L L' M : Nat → Prop} {β : Env} {id : Id} {ob : Ob} {G : List Nat}
    (hw : ∀ b, b < w.heap.size → ¬ M b → w'.heap[b]? = w.heap[b]?) (hML : ∀ b, M b → L b) (hLL : ∀ b, b < w.heap.size → L' b → L b)
    (h : ObRel w L β id ob G) (hG : ∀ b ∈ G, ¬ M b) : ObRel w' L' β id ob G := by
  cases ob with
  | gone => exact h
  | vec sz ex xs =>
    obtain ⟨v, e, hr⟩ := h
    exact ⟨v, e, hr.keep hw hML hLL hG⟩
  | tie v id' => exact h
  | mp b kk es =>
    obtain ⟨rfl, arr, clock, hb, he⟩ := h
    exact ⟨rfl, arr, clock, by rw [hw b (Array.getElem?_eq_some_iff.1 hb).1 (hG b (by simp))]; exact hb, he⟩
  | mq b es =>
    obtain ⟨rfl, arr, hb, he⟩ := h
    exact ⟨rfl, arr, by rw [hw b (Array.getElem?_eq_some_iff.1 hb).1 (hG b (by simp))]; exact hb, he⟩
  | mem ms =>
    obtain ⟨rfl, hm⟩ := h
    exact ⟨rfl, fun e he => by rw [hw e.1 (Array.getElem?_eq_some_iff.1 (hm e he)).1 (hG e.1 (List.mem_map_of_mem he))]; exact hm e he⟩
  | box cs =>
    obtain ⟨b, arr, T, lo, hi, Fs, e, hb, hf, hs, hr, rfl⟩ := h
    have hlt := (Array.getElem?_eq_some_iff.1 hb).1
    refine ⟨b, arr, T, lo, hi, Fs, e, ?_, hf, hs, fun k x u hx hu => (hr k x u hx hu).keep hw hML hLL fun b' hb' => hG b' ?_, rfl⟩
    · rw [hw b hlt (hG b (by simp))]; exact hb
    · exact List.mem_cons_of_mem _ (mem_foots.2 ⟨k, (List.getElem?_eq_some_iff.1 hx).1, hb'⟩)

section
variable {X : Fx} {g : Gx} {st : St} {a : Act} {w w' : World} {β : Env} {F : Key → List Nat} {L L' M : Nat → Prop}

theorem Inv.world (h : Inv X g st a w β F L) (hk : Kp g.F0 g.w0 w')
    (hw : ∀ b, b < w.heap.size → ¬ M b → w'.heap[b]? = w.heap[b]?) (hML : ∀ b, M b → L b) (hLL : ∀ b, b < w.heap.size → L' b → L b)
    (hFM : ∀ k b, b ∈ F k → ¬ M b) : Inv X g st a w' β F L' :=
  ⟨h.defers, h.size, hk, h.sep, h.range, fun d => let ⟨u, hu, hr⟩ := h.slot d; ⟨u, hu, hr.keep hw hML hLL (hFM _)⟩,
    fun id => (h.obj id).keep hw hML hLL (hFM _), h.pin⟩

theorem Inv.setL (h : Inv X g st a w β F L) (hLL : ∀ b, b < w.heap.size → L' b → L b) : Inv X g st a w β F L' :=
  h.world (M := fun _ => False) h.kp (fun _ _ _ => rfl) (fun _ h => h.elim) hLL (fun _ _ _ h => h)

theorem getElem?_put {a : Act} {d j : Nat} {u : Value} : (a.put (some d) u).tmps[j]? = if d = j ∧ d < a.tmps.size then some u else a.tmps[j]? := by
  simp only [Act.put, Array.getElem?_setIfInBounds]
  by_cases h : d = j
  · subst h
    by_cases h' : d < a.tmps.size
    · simp [h']
    · simp [h']
  · simp [h]

/-- A slot is written; what it owned is dropped. -/
theorem Inv.put (h : Inv X g st a w β F L) {d : Nat} {v : AV} {u : Value} {G : List Nat} (hd : d < X.fn.ntmps) (hp : d ∉ X.pins)
    (hv : Rel w L β v u G) (hG : G.Nodup) (hGF : ∀ k, k ≠ .s d → ∀ b ∈ G, b ∉ F k) (hGr : ∀ b ∈ G, b ∈ g.F0 ∨ g.w0.heap.size ≤ b) :
    Inv X g (st.put d v) (a.put (some d) u) w β (updF F (.s d) G) L := by
  refine ⟨h.defers, by simp [Act.put, h.size], h.kp, ⟨?_, ?_⟩, ?_, ?_, ?_, ?_⟩
  · intro k
    by_cases hk : k = .s d
    · subst hk; rw [updF_same]; exact hG
    · rw [updF_ne _ hk]; exact h.sep.nodup k
  · intro k k' b hne hb hb'
    by_cases hk : k = .s d
    · subst hk
      rw [updF_same] at hb
      rw [updF_ne _ (Ne.symm hne)] at hb'
      exact hGF k' (Ne.symm hne) b hb hb'
    · rw [updF_ne _ hk] at hb
      by_cases hk' : k' = .s d
      · subst hk'; rw [updF_same] at hb'; exact hGF k hk b hb' hb
      · rw [updF_ne _ hk'] at hb'; exact h.sep.apart k k' b hne hb hb'
  · intro k b hb
    by_cases hk : k = .s d
    · subst hk; rw [updF_same] at hb; exact hGr b hb
    · rw [updF_ne _ hk] at hb; exact h.range k b hb
  · intro j
    rw [St.get_put]
    by_cases hj : d = j
    · subst hj
      refine ⟨u, .inl ?_, ?_⟩
      · rw [getElem?_put]; simp [h.size, hd]
      · rw [if_pos rfl, updF_same]; exact hv
    · obtain ⟨u', hu, hr⟩ := h.slot j
      refine ⟨u', ?_, ?_⟩
      · rw [getElem?_put, if_neg hj, if_neg (fun e => hj e.1)]; exact hu
      · rw [if_neg hj, updF_ne _ (by intro e; injection e with e; exact hj e.symm)]; exact hr
  · intro id
    rw [St.obj_put, updF_ne _ (by intro e; cases e)]
    exact h.obj id
  · intro j hj
    rw [getElem?_put, if_neg (by rintro ⟨rfl, _⟩; exact hp hj)]
    exact h.pin j hj

theorem Lv_updF_nil {k : Key} {b : Nat} (h : Lv g (updF F k []) b) : Lv g F b := by
  rcases h with h | ⟨k', h⟩
  · exact .inl h
  · by_cases e : k' = k
    · subst e; rw [updF_same] at h; simp at h
    · rw [updF_ne _ e] at h; exact .inr ⟨k', h⟩

/-- A slot gets a value that owns nothing. -/
theorem Inv.putv (h : Inv X g st a w β F (Lv g F)) {d : Nat} {v : AV} {u : Value} (hd : d < X.fn.ntmps) (hp : d ∉ X.pins)
    (hv : Rel w (Lv g F) β v u []) : SR X g (st.put d v) (a.put (some d) u) w :=
  ⟨β, updF F (.s d) [], (h.put hd hp hv (by simp) (by simp) (by simp)).setL fun _ _ hb => Lv_updF_nil hb⟩

end
end Go.Av

/- Contracts of functions; how a body is entered and left; ghost steps. -/
namespace Go.Av
open Go Go.RowKit

/-- A call of f with such arguments returns such a result, and leaves (of what it was handed to keep) such arguments behind. -/
structure Ct (P : Program) (f : FuncId) (args : List AV) (res : AV) (outs : List AV) : Prop where
  enters : (P.funcs[f]?).map (fun fn => (fn.body.isSome, fn.name == "runtime.NumGoroutine")) = some (true, false)
  calls : ∀ (w : World) (L : Nat → Prop) (vs : Array Value) (F : List Nat), (∀ b, L b → b < w.heap.size ∧ b ∉ F) → F.Nodup →
    Rel w (fun b => L b ∨ b ∈ F) noEnv (.tup args) (.tuple vs) F →
    Calls P f vs w fun e w' => ∃ v F', e = .returned v ∧ Kp F w w' ∧ F'.Nodup ∧ (∀ b ∈ F', b ∈ F ∨ w.heap.size ≤ b) ∧
      Rel w' (fun b => L b ∨ b ∈ F') noEnv (.tup (res :: outs)) (.tuple (#[v] ++ vs.extract 0 outs.length)) F'

def initS : List AV → Nat → List (Nat × AV)
  | [], _ => []
  | x :: xs, i => (i, x) :: initS xs (i + 1)

theorem look_initS (xs : List AV) (i d : Nat) : lookS (initS xs i) d = if i ≤ d ∧ d < i + xs.length then xs.getD (d - i) .top else .top := by
  induction xs generalizing i with
  | nil => simp [initS, lookS]
  | cons x xs ih =>
    simp only [initS, lookS]
    cases hb : Nat.beq i d
    · have : i ≠ d := fun e => by subst e; simp at hb
      simp only [cond_false]
      rw [ih]
      by_cases h : i + 1 ≤ d ∧ d < i + 1 + xs.length
      · rw [if_pos h, if_pos (by simp; omega)]
        rw [show d - i = (d - (i + 1)) + 1 by omega, List.getD_cons_succ]
      · rw [if_neg h, if_neg (by simp; omega)]
    · obtain rfl := Nat.eq_of_beq_eq_true hb
      simp

/-- The post of a body. -/
def PostP (g : Gx) (res : AV) (outs : List AV) (v : Value) (w' : World) : Prop :=
  ∃ F', Kp g.F0 g.w0 w' ∧ F'.Nodup ∧ (∀ b ∈ F', b ∈ g.F0 ∨ g.w0.heap.size ≤ b) ∧
    Rel w' (fun b => g.L0 b ∨ b ∈ F') noEnv (.tup (res :: outs)) (.tuple (#[v] ++ g.args.extract 0 outs.length)) F'

/-- It returns so. -/
@[reducible] def PostOf (g : Gx) (res : AV) (outs : List AV) : GPost := .plain (PostP g res outs)

theorem foots_nodup {Fs : Nat → List Nat} {n : Nat} (h : (foots Fs n).Nodup) : ∀ k, k < n → (Fs k).Nodup ∧ ∀ k', k' < n → k ≠ k' → ∀ b ∈ Fs k, b ∉ Fs k' := by
  induction n with
  | zero => intro k hk; omega
  | succ n ih =>
    unfold foots at h
    rw [List.range_succ, List.flatMap_append, List.nodup_append] at h
    obtain ⟨h1, h2, h3⟩ := h
    simp only [List.flatMap_cons, List.flatMap_nil, List.append_nil] at h2 h3
    intro k hk
    by_cases e : k = n
    · subst e
      refine ⟨h2, fun k' hk' hne b hb hb' => ?_⟩
      exact h3 b (mem_foots.2 ⟨k', by omega, hb'⟩) b hb rfl
    · obtain ⟨i1, i2⟩ := ih h1 k (by omega)
      refine ⟨i1, fun k' hk' hne b hb hb' => ?_⟩
      by_cases e' : k' = n
      · subst e'; exact h3 b (mem_foots.2 ⟨k, by omega, hb⟩) b hb' rfl
      · exact i2 k' (by omega) hne b hb hb'

theorem nodup_foots {Fs : Nat → List Nat} {n : Nat} (h : ∀ k, k < n → (Fs k).Nodup ∧ ∀ k', k' < n → k ≠ k' → ∀ b ∈ Fs k, b ∉ Fs k') : (foots Fs n).Nodup := by
  induction n with
  | zero => simp [foots]
  | succ n ih =>
    unfold foots
    rw [List.range_succ, List.flatMap_append, List.nodup_append]
    refine ⟨ih fun k hk => ⟨(h k (by omega)).1, fun k' hk' => (h k (by omega)).2 k' (by omega)⟩, ?_, ?_⟩
    · simpa using (h n (by omega)).1
    · intro b hb b' hb' e
      subst e
      obtain ⟨k, hk, hbk⟩ := mem_foots.1 hb
      simp at hb'
      exact (h k (by omega)).2 n (by omega) (by omega) b hbk hb'

/-- A body that is walked from its arguments on returns as it should; of the world and of what is handed over, Q is known. -/
theorem body_calls (Q : World → List Nat → Prop) (X : Fx) (hX : X.Ok) {c : Code} (hb : X.fn.body = some c) (hn : (X.fn.name == "runtime.NumGoroutine") = false) {args : List AV} {res : AV} {outs : List AV}
    (hargs' : Nat.ble args.length X.fn.ntmps = true) (hpins' : (X.pins.all fun j => Nat.blt j args.length) = true)
    (h : ∀ g : Gx, Q g.w0 g.F0 → g.Post = PostOf g res outs → Run X g [.code c] ⟨initS args 0, []⟩) :
    ∀ (w : World) (L : Nat → Prop) (vs : Array Value) (F : List Nat), Q w F → (∀ b, L b → b < w.heap.size ∧ b ∉ F) → F.Nodup →
    Rel w (fun b => L b ∨ b ∈ F) noEnv (.tup args) (.tuple vs) F →
    Calls X.P X.f vs w fun e w' => ∃ v F', e = .returned v ∧ Kp F w w' ∧ F'.Nodup ∧ (∀ b ∈ F', b ∈ F ∨ w.heap.size ≤ b) ∧
      Rel w' (fun b => L b ∨ b ∈ F') noEnv (.tup (res :: outs)) (.tuple (#[v] ++ vs.extract 0 outs.length)) F' := by
  have hargs : args.length ≤ X.fn.ntmps := Nat.le_of_ble_eq_true hargs'
  have hpins : ∀ j ∈ X.pins, j < args.length := fun j hj => by
    have := Nat.le_of_ble_eq_true (List.all_eq_true.1 hpins' j hj)
    omega
  intro w L vs F hQ hL hF hr cs
  cases hr with
  | tup _ _ _ Fs hl hr =>
  let g : Gx := ⟨w, foots Fs args.length, L, vs, .plain fun v w' => ∃ F' : List Nat, Kp (foots Fs args.length) w w' ∧ F'.Nodup ∧ (∀ b ∈ F', b ∈ foots Fs args.length ∨ w.heap.size ≤ b) ∧
    Rel w' (fun b => L b ∨ b ∈ F') noEnv (.tup (res :: outs)) (.tuple (#[v] ++ vs.extract 0 outs.length)) F', hL⟩
  have hnd := foots_nodup hF
  let b : Frame := { (default : Frame) with fn := X.f, kind := .normal, roundOf := none }
  let a : Act := { tmps := vs ++ Array.replicate (X.fn.ntmps - vs.size) undef, defers := [] }
  have henter : Frame.enter X.P X.f vs .normal = b.atR a [.code c] := by
    simp [Frame.enter, Frame.atR, hX.func, hb, b, a]
  have hsize : a.tmps.size = X.fn.ntmps := by simp [a]; omega
  have hget : ∀ d, d < args.length → a.tmps[d]? = vs[d]? := fun d hd => by
    simp only [a]; rw [Array.getElem?_append_left (by omega)]
  have hSR : SR X g ⟨initS args 0, []⟩ a w := by
    let FF : Key → List Nat := fun | .s d => if d < args.length then Fs d else [] | .o _ => []
    have hLL : ∀ b, Lv g FF b → (L b ∨ b ∈ foots Fs args.length) := by
      rintro b (hb | ⟨k, hb⟩)
      · exact .inl hb
      · cases k with
        | s d =>
          simp only [FF] at hb
          split at hb
          · rename_i hd; exact .inr (mem_foots.2 ⟨d, hd, hb⟩)
          · simp at hb
        | o id => simp [FF] at hb
    refine ⟨noEnv, FF, rfl, hsize, Kp.refl _ _, ⟨?_, ?_⟩, ?_, ?_, ?_, ?_⟩
    · intro k
      cases k with
      | s d => simp only [FF]; split; exact (hnd d (by assumption)).1; simp
      | o id => simp [FF]
    · intro k k' b hne hb hb'
      cases k with
      | o id => simp [FF] at hb
      | s d =>
        cases k' with
        | o id => simp [FF] at hb'
        | s d' =>
          simp only [FF] at hb hb'
          split at hb
          · split at hb'
            · exact (hnd d (by assumption)).2 d' (by assumption) (fun e => hne (by rw [e])) b hb hb'
            · simp at hb'
          · simp at hb
    · intro k b hb
      cases k with
      | o id => simp [FF] at hb
      | s d =>
        simp only [FF] at hb
        split at hb
        · rename_i hd; exact .inl (mem_foots.2 ⟨d, hd, hb⟩)
        · simp at hb
    · intro d
      show ∃ u, _ ∧ Rel w _ noEnv (lookS (initS args 0) d) u (FF (.s d))
      rw [show St.get ⟨initS args 0, []⟩ d = lookS (initS args 0) d from rfl, look_initS]
      simp only [Nat.zero_le, true_and, Nat.zero_add, Nat.sub_zero, FF]
      by_cases hd : d < args.length
      · rw [if_pos hd, if_pos hd]
        have e1 : args[d]? = some (args.getD d .top) := by rw [List.getD_eq_getElem?_getD, List.getElem?_eq_getElem hd]; rfl
        have e2 : vs[d]? = some (vs.getD d undef) := by rw [Array.getD_eq_getD_getElem?, Array.getElem?_eq_getElem (by omega)]; rfl
        refine ⟨vs.getD d undef, .inl (by rw [hget d hd, e2]), ?_⟩
        exact (hr d _ _ e1 e2).keep (M := fun _ => False) (fun _ _ _ => rfl) (fun _ h => h.elim) (fun b _ hb => hLL b hb) (fun _ _ h => h)
      · rw [if_neg hd, if_neg hd]
        exact ⟨undef, .inr rfl, .top _ _⟩
    · intro id; rfl
    · intro j hj; exact hget j (hpins j hj)
  obtain ⟨v, w', fr, ⟨⟨F', hp⟩, h1, h2⟩, hst⟩ := h g hQ rfl hX a w b cs hSR rfl ⟨rfl, rfl⟩
  rw [← henter] at hst
  exact ⟨.returned v, w', fr, ⟨v, F', rfl, hp⟩, hst, h1, h2⟩

/-- A body that is walked from its arguments on gives the contract. -/
theorem Ct.intro (X : Fx) (hX : X.Ok) {c : Code} (hb : X.fn.body = some c) (hn : (X.fn.name == "runtime.NumGoroutine") = false) {args : List AV} {res : AV} {outs : List AV}
    (hargs' : Nat.ble args.length X.fn.ntmps = true) (hpins' : (X.pins.all fun j => Nat.blt j args.length) = true)
    (h : ∀ g : Gx, g.Post = PostOf g res outs → Run X g [.code c] ⟨initS args 0, []⟩) : Ct X.P X.f args res outs :=
  ⟨by rw [hX.func]; simp [hb, hn], fun w L vs F hL hF hr => body_calls (fun _ _ => True) X hX hb hn hargs' hpins' (fun g _ hg => h g hg) w L vs F trivial hL hF hr⟩

/-! ### What holds of the world all the while: package-level variables -/

/-- A fact about the blocks below n. -/
structure Amb where
  n : Nat
  holds : World → Prop
  stable : ∀ w w' : World, (∀ b, b < n → w'.heap[b]? = w.heap[b]?) → holds w → holds w'

def Amb.on (A : Amb) (w : World) (F : List Nat) : Prop := A.holds w ∧ A.n ≤ w.heap.size ∧ ∀ b ∈ F, A.n ≤ b

theorem Amb.on.keep {A : Amb} {w w' : World} {F F' : List Nat} (h : A.on w F) (hk : Kp F w w') (hF : ∀ b ∈ F', b ∈ F ∨ w.heap.size ≤ b) : A.on w' F' := by
  obtain ⟨h1, h2, h3⟩ := h
  refine ⟨A.stable w w' (fun b hb => hk.block b (by omega) fun hm => ?_) h1, Nat.le_trans h2 hk.size, fun b hb => ?_⟩
  · have := h3 b hm; omega
  · rcases hF b hb with h | h
    · exact h3 b h
    · omega

/-- A contract, where A holds of the world. -/
structure CtA (A : Amb) (P : Program) (f : FuncId) (args : List AV) (res : AV) (outs : List AV) : Prop where
  enters : (P.funcs[f]?).map (fun fn => (fn.body.isSome, fn.name == "runtime.NumGoroutine")) = some (true, false)
  calls : ∀ (w : World) (L : Nat → Prop) (vs : Array Value) (F : List Nat), A.on w F → (∀ b, L b → b < w.heap.size ∧ b ∉ F) → F.Nodup →
    Rel w (fun b => L b ∨ b ∈ F) noEnv (.tup args) (.tuple vs) F →
    Calls P f vs w fun e w' => ∃ v F', e = .returned v ∧ Kp F w w' ∧ F'.Nodup ∧ (∀ b ∈ F', b ∈ F ∨ w.heap.size ≤ b) ∧
      Rel w' (fun b => L b ∨ b ∈ F') noEnv (.tup (res :: outs)) (.tuple (#[v] ++ vs.extract 0 outs.length)) F'

/-- A contract, in the worlds that a running call comes to. -/
structure CtAt (g : Gx) (P : Program) (f : FuncId) (args : List AV) (res : AV) (outs : List AV) : Prop where
  enters : (P.funcs[f]?).map (fun fn => (fn.body.isSome, fn.name == "runtime.NumGoroutine")) = some (true, false)
  calls : ∀ (w : World) (L : Nat → Prop) (vs : Array Value) (F : List Nat), Kp g.F0 g.w0 w → (∀ b ∈ F, b ∈ g.F0 ∨ g.w0.heap.size ≤ b) → (∀ b, L b → b < w.heap.size ∧ b ∉ F) → F.Nodup →
    Rel w (fun b => L b ∨ b ∈ F) noEnv (.tup args) (.tuple vs) F →
    Calls P f vs w fun e w' => ∃ v F', e = .returned v ∧ Kp F w w' ∧ F'.Nodup ∧ (∀ b ∈ F', b ∈ F ∨ w.heap.size ≤ b) ∧
      Rel w' (fun b => L b ∨ b ∈ F') noEnv (.tup (res :: outs)) (.tuple (#[v] ++ vs.extract 0 outs.length)) F'

theorem Ct.at {P : Program} {f : FuncId} {args : List AV} {res : AV} {outs : List AV} (h : Ct P f args res outs) {g : Gx} : CtAt g P f args res outs :=
  ⟨h.enters, fun w L vs F _ _ hL hF hr => h.calls w L vs F hL hF hr⟩
theorem CtA.at {A : Amb} {P : Program} {f : FuncId} {args : List AV} {res : AV} {outs : List AV} (h : CtA A P f args res outs) {g : Gx} (hA : A.on g.w0 g.F0) : CtAt g P f args res outs :=
  ⟨h.enters, fun w L vs F hk hr hL hF hR => h.calls w L vs F (hA.keep hk hr) hL hF hR⟩
theorem Ct.amb {P : Program} {f : FuncId} {args : List AV} {res : AV} {outs : List AV} (h : Ct P f args res outs) (A : Amb) : CtA A P f args res outs :=
  ⟨h.enters, fun w L vs F _ hL hF hr => h.calls w L vs F hL hF hr⟩

theorem CtA.intro (A : Amb) (X : Fx) (hX : X.Ok) {c : Code} (hb : X.fn.body = some c) (hn : (X.fn.name == "runtime.NumGoroutine") = false) {args : List AV} {res : AV} {outs : List AV}
    (hargs' : Nat.ble args.length X.fn.ntmps = true) (hpins' : (X.pins.all fun j => Nat.blt j args.length) = true)
    (h : ∀ g : Gx, A.on g.w0 g.F0 → g.Post = PostOf g res outs → Run X g [.code c] ⟨initS args 0, []⟩) : CtA A X.P X.f args res outs :=
  ⟨by rw [hX.func]; simp [hb, hn], fun w L vs F hA hL hF hr => body_calls A.on X hX hb hn hargs' hpins' h w L vs F hA hL hF hr⟩

/-! ### The return -/

def isAggD : TypeDesc → Bool
  | .struct _ | .array _ _ => true
  | _ => false

theorem un_run {P : Program} {t : TypeId} {i : TI} (h : TyOk P t i) (w : World) : (underlying t).run P w = .ok i.ud w := run_underlying h.ud w

theorem isAgg_run {P : Program} {t : TypeId} {i : TI} (h : TyOk P t i) (w : World) : (isAgg t).run P w = .ok (isAggD i.ud) w := by
  simp only [isAgg, Sem.run_bind, un_run h, Result.andThen_ok]
  cases i.ud <;> rfl

theorem sizeOf_run {P : Program} {t : TypeId} {i : TI} (h : TyOk P t i) (w : World) : (sizeOf t).run P w = .ok i.sz w := by
  obtain ⟨j, hj, he⟩ := Option.map_eq_some_iff.1 h.info
  simp only [Prod.mk.injEq] at he
  simp [sizeOf, typeInfo, hj, he.1]

theorem zero_run {P : Program} {t : TypeId} {i : TI} (h : TyOk P t i) (w : World) : ∃ z, (zeroValue t).run P w = .ok z w ∧ z.cells.toList = i.zero := by
  obtain ⟨j, hj, he⟩ := Option.map_eq_some_iff.1 h.info
  simp only [Prod.mk.injEq] at he
  obtain ⟨z, hz, hc⟩ := Option.map_eq_some_iff.1 he.2.2
  exact ⟨z, by simp [zeroValue, typeInfo, hj, hz], hc⟩

end Go.Av

/- The return; ghost steps. -/
namespace Go.Av
open Go Go.RowKit

theorem Rel.sub {w : World} {L L' : Nat → Prop} {β : Env} {x : AV} {v : Value} {F : List Nat} (h : Rel w L β x v F) (hLL : ∀ b, b < w.heap.size → L' b → L b) : Rel w L' β x v F :=
  h.keep (M := fun _ => False) (fun _ _ _ => rfl) (fun _ h => h.elim) hLL (fun _ _ h => h)

def resOf (tmps : Array Value) : ResultVar → Sem Value
  | .tmp t => pure (tmps.getD t undef)
  | .cell a t => do loadVar t (← asAddr (tmps.getD a undef))

/-- What a result variable holds. -/
def St.rv (st : St) (T : Nat → Option TI) : ResultVar → AV
  | .tmp t => st.get t
  | .cell a t => match st.get a with
    | .bp id 0 => match st.obj id with
      | .box cs => match T t with
        | some i => bif isAggD i.ud && Nat.beq cs.length i.sz then .agg cs else bif isAggD i.ud then .top else cs.headD .top
        | none => .top
      | _ => .top
    | _ => .top

def St.rkey (st : St) : ResultVar → Key
  | .tmp t => .s t
  | .cell a _ => match st.get a with
    | .bp id _ => .o id
    | _ => .s a

theorem loadCells_arr {P : Program} {w : World} {b : Nat} {arr : Array Value} {T : TypeId} {fr : Nat × Nat} (hb : w.heap[b]? = some (.cells arr T fr)) :
    (loadCells ⟨b, 0, none⟩ arr.size).run P w = .ok arr w := by
  have := run_loadCells_list (P := P) (w := w) ⟨b, 0, none⟩ arr.toList (fun j v hv => by
    have : (⟨b, 0, none⟩ : Addr).add j = ⟨b, j, none⟩ := by unfold Addr.add; split <;> simp_all
    rw [this]; simp [World.cell?, hb]; simpa using hv)
  simpa using this

section
variable {X : Fx} {g : Gx} {st : St} {a : Act} {w : World} {β : Env} {F : Key → List Nat} {L : Nat → Prop}

theorem rv_ok (hX : X.Ok) (h : Inv X g st a w β F L) (rv : ResultVar) (hne : st.rv X.T rv ≠ .top) (hf : (st.rv X.T rv).free = true) :
    ∃ u G, (resOf a.tmps rv).run X.P w = .ok u w ∧ Rel w L noEnv (st.rv X.T rv) u G ∧ (∀ b ∈ G, b ∈ F (st.rkey rv)) ∧ G.Nodup := by
  cases rv with
  | tmp t => exact ⟨_, _, rfl, (h.slotv hne).env _ hf, fun _ hb => hb, h.sep.nodup _⟩
  | cell c t =>
    simp only [St.rv] at hne hf ⊢
    generalize hc : st.get c = vc at hne hf
    cases vc with
    | bp id j =>
      cases j with
      | succ j => exact absurd rfl hne
      | zero =>
        simp only at hne hf ⊢
        have hs := h.slotv (d := c) (by rw [hc]; simp)
        have ho := h.obj id
        generalize hob : st.obj id = ob at hne hf ho
        cases ob with
        | gone => exact absurd rfl hne
        | vec => exact absurd rfl hne
        | tie => exact absurd rfl hne
        | mp => exact absurd rfl hne
        | mq => exact absurd rfl hne
        | mem => exact absurd rfl hne
        | box cs =>
          simp only at hne hf ⊢
          generalize hT : X.T t = ti at hne hf
          cases ti with
          | none => exact absurd rfl hne
          | some i =>
            simp only at hne hf ⊢
            by_cases hcond : (isAggD i.ud && Nat.beq cs.length i.sz) = true
            · simp only [hcond, cond_true] at hne hf ⊢
              simp only [Bool.and_eq_true] at hcond
              have hty := hX.ty t i hT
              obtain ⟨b, arr, T, lo, hi, Fs, hβ, hb, hfz, hs2, hr, hF⟩ := ho
              rw [hc] at hs
              generalize hu : a.tmps.getD c undef = u at hs
              generalize F (.s c) = G at hs
              cases hs with
              | bp _ _ _ b' hβ' =>
              rw [hβ] at hβ'
              injection hβ' with hβ'
              injection hβ' with hβ' _
              injection hβ' with hβ'
              injection hβ' with hβ'
              injection hβ' with hβ' _ _
              subst hβ'
              have hsz : i.sz = arr.size := by rw [hs2]; exact (Nat.eq_of_beq_eq_true hcond.2).symm
              refine ⟨.agg arr, foots Fs cs.length, ?_, ?_, ?_, ?_⟩
              · simp only [resOf, hu, asAddr, Sem.run_bind, loadVar]
                simp only [Sem.run_pure, Result.andThen_ok, Sem.run_bind, isAgg_run hty, hcond.1, if_true, sizeOf_run hty, hsz, loadCells_arr hb]
              · exact (Rel.agg β cs arr Fs (by omega) hr).env _ hf
              · intro b' hb'
                simp only [St.rkey, hc]
                rw [hF]
                exact List.mem_cons_of_mem _ hb'
              · have := h.sep.nodup (.o id)
                rw [hF] at this
                exact (List.nodup_cons.1 this).2
            · simp only [Bool.not_eq_true] at hcond
              simp only [hcond, cond_false] at hne hf ⊢
              cases hag : isAggD i.ud with
              | true => simp only [hag, cond_true] at hne; exact absurd rfl hne
              | false =>
                simp only [hag, cond_false] at hne hf ⊢
                have hty := hX.ty t i hT
                obtain ⟨b, arr, T, lo, hi, Fs, hβ, hb, hfz, hs2, hr, hF⟩ := ho
                rw [hc] at hs
                generalize hu : a.tmps.getD c undef = u at hs
                generalize F (.s c) = G at hs
                cases hs with
                | bp _ _ _ b' hβ' =>
                rw [hβ] at hβ'
                injection hβ' with hβ'
                injection hβ' with hβ' _
                injection hβ' with hβ'
                injection hβ' with hβ'
                injection hβ' with hβ' _ _
                subst hβ'
                cases cs with
                | nil => exact absurd rfl hne
                | cons x cs =>
                  have hlt : 0 < arr.size := by rw [hs2]; simp
                  have hv := Array.getElem?_eq_getElem hlt
                  refine ⟨arr[0], Fs 0, ?_, (hr 0 x _ rfl hv).env _ hf, ?_, ?_⟩
                  · simp only [resOf, hu, asAddr, Sem.run_bind, loadVar]
                    simp only [Sem.run_pure, Result.andThen_ok, Sem.run_bind, isAgg_run hty, hag, Bool.false_eq_true, if_false]
                    have : w.cell? ⟨b, 0, none⟩ = some arr[0] := by simp [World.cell?, hb, hv]
                    simp [this]
                  · intro b' hb'
                    simp only [St.rkey, hc]
                    rw [hF]
                    exact List.mem_cons_of_mem _ (mem_foots.2 ⟨0, by simp, hb'⟩)
                  · have := h.sep.nodup (.o id)
                    rw [hF] at this
                    exact (foots_nodup (List.nodup_cons.1 this).2 0 (by simp)).1
    | _ => exact absurd rfl hne

theorem rvs_ok (hX : X.Ok) (h : Inv X g st a w β F L) (l : List ResultVar) (hne : ∀ rv ∈ l, st.rv X.T rv ≠ .top ∧ (st.rv X.T rv).free = true) (hk : (l.map st.rkey).Nodup) :
    ∃ (us : List Value) (Gs : Nat → List Nat), (l.mapM (resOf a.tmps)).run X.P w = .ok us w ∧ us.length = l.length ∧
      (∀ (k : Nat) (x : AV) (u : Value), (l.map (st.rv X.T))[k]? = some x → us[k]? = some u → Rel w L noEnv x u (Gs k)) ∧
      (∀ k rv, l[k]? = some rv → ∀ b ∈ Gs k, b ∈ F (st.rkey rv)) ∧ (∀ k, (Gs k).Nodup) ∧ (∀ k, l.length ≤ k → Gs k = []) := by
  induction l with
  | nil => exact ⟨[], fun _ => [], rfl, rfl, by simp, by simp, by simp, by simp⟩
  | cons rv l ih =>
    obtain ⟨u, G, hu, hr, hG, hnd⟩ := rv_ok hX h rv (hne rv (by simp)).1 (hne rv (by simp)).2
    obtain ⟨us, Gs, h1, h2, h3, h4, h5, h6⟩ := ih (fun rv' h' => hne rv' (by simp [h'])) (by simp at hk; exact hk.2)
    refine ⟨u :: us, fun k => match k with | 0 => G | k + 1 => Gs k, ?_, by simp [h2], ?_, ?_, ?_, ?_⟩
    · simp only [List.mapM_cons, Sem.run_bind, hu, Result.andThen_ok, h1, Sem.run_pure]
    · intro k x u' hx hu'
      cases k with
      | zero => simp at hx hu'; subst hx; subst hu'; exact hr
      | succ k => exact h3 k x u' (by simpa using hx) (by simpa using hu')
    · intro k rv' hk' b hb
      cases k with
      | zero => simp at hk'; subst hk'; exact hG b hb
      | succ k => exact h4 k rv' (by simpa using hk') b hb
    · intro k; cases k with
      | zero => exact hnd
      | succ k => exact h5 k
    · intro k hk'; cases k with
      | zero => simp at hk'
      | succ k => exact h6 k (by simpa using hk')

theorem results_run {fn : Func} {tmps : Array Value} {us : List Value} {P : Program} (h : (fn.results.toList.mapM (resOf tmps)).run P w = .ok us w) :
    (results fn tmps).run P w = .ok (if us.length = 1 then us.headD undef else .tuple us.toArray) w := by
  have e : results fn tmps = (fn.results.toList.mapM (resOf tmps)) >>= fun us => pure (if us.length = 1 then us.headD undef else .tuple us.toArray) := by
    unfold results
    have hf : ∀ f : ResultVar → Sem Value, (∀ x, f x = resOf tmps x) → fn.results.mapM f = List.toArray <$> fn.results.toList.mapM (resOf tmps) := by
      intro f hf
      obtain rfl := funext hf
      exact Array.mapM_eq_mapM_toList
    rw [hf _ (by intro x; cases x <;> rfl)]
    simp only [bind_map_left]
    congr 1
    funext us
    congr 1
    cases us with
    | nil => simp
    | cons u us =>
      cases us with
      | nil => simp
      | cons u' us => simp
  rw [e]
  simp [h]


/-- The value that a body returns. -/
def retV (l : List AV) : AV := match l with | [x] => x | l => .tup l

theorem ret_post {res : AV} {outs : List AV} (hX : X.Ok)
    (hne : ∀ rv ∈ X.fn.results.toList, st.rv X.T rv ≠ .top ∧ (st.rv X.T rv).free = true)
    (hk : (X.fn.results.toList.map st.rkey).Nodup)
    (hres : retV (X.fn.results.toList.map (st.rv X.T)) = res)
    (houts : ∀ (j : Nat) (x : AV), outs[j]? = some x → x = .top ∨ (x ≠ .top ∧ j ∈ X.pins ∧ st.get j = x ∧ x.free = true ∧ ∀ rv ∈ X.fn.results.toList, st.rkey rv ≠ .s j))
    (hargs : outs.length ≤ g.args.size)
    (h : SR X g st a w) : ∃ v, (results X.fn a.tmps).run X.P w = .ok v w ∧ PostP g res outs v w := by
  classical
  obtain ⟨β, F, h⟩ := h
  obtain ⟨us, Gs, h1, h2, h3, h4, h5, h6⟩ := rvs_ok hX h _ hne hk
  refine ⟨_, results_run h1, ?_⟩
  -- the result's own part
  have hR : ∃ G : List Nat, Rel w (Lv g F) noEnv res (if us.length = 1 then us.headD undef else .tuple us.toArray) G ∧ G.Nodup ∧ ∀ b ∈ G, ∃ rv ∈ X.fn.results.toList, b ∈ F (st.rkey rv) := by
    subst hres
    generalize X.fn.results.toList = l at *
    by_cases hl : us.length = 1
    · rw [if_pos hl]
      rw [h2] at hl
      obtain ⟨rv, rfl⟩ := List.length_eq_one_iff.1 hl
      obtain ⟨u, rfl⟩ := List.length_eq_one_iff.1 h2
      exact ⟨Gs 0, h3 0 _ u rfl rfl, h5 0, fun b hb => ⟨rv, by simp, h4 0 rv rfl b hb⟩⟩
    · rw [if_neg hl]
      refine ⟨foots Gs (l.map (st.rv X.T)).length, ?_, ?_, ?_⟩
      · have : retV (l.map (st.rv X.T)) = .tup (l.map (st.rv X.T)) := by
          unfold retV
          split
          · rename_i x e
            have := congrArg List.length e
            simp at this; omega
          · rfl
        rw [this]
        exact .tup _ _ _ _ (by simp [h2]) fun k x u hx hu => h3 k x u hx (by simpa using hu)
      · refine nodup_foots fun k hk' => ⟨h5 k, fun k' hk'' hne' b hb hb' => ?_⟩
        simp at hk' hk''
        have e1 := h4 k _ (List.getElem?_eq_getElem hk') b hb
        have e2 := h4 k' _ (List.getElem?_eq_getElem hk'') b hb'
        refine h.sep.apart _ _ b ?_ e1 e2
        intro e
        have := (List.getElem_inj (i := k) (j := k') (h₀ := by simpa using hk') (h₁ := by simpa using hk'') hk).1 (by simpa using e)
        exact hne' this
      · intro b hb
        obtain ⟨k, hk', hb'⟩ := mem_foots.1 hb
        simp at hk'
        exact ⟨l[k], by simp, h4 k _ (List.getElem?_eq_getElem hk') b hb'⟩
  obtain ⟨G, hG1, hG2, hG3⟩ := hR
  generalize (if us.length = 1 then us.headD undef else Value.tuple us.toArray) = v at *
  -- what stays with the caller
  let Fs : Nat → List Nat := fun | 0 => G | j + 1 => match outs[j]? with | some x => if x = .top then [] else F (.s j) | none => []
  have hFs : ∀ k b, b ∈ Fs k → ∃ key, b ∈ F key := by
    intro k b hb
    cases k with
    | zero => obtain ⟨rv, _, hb'⟩ := hG3 b hb; exact ⟨_, hb'⟩
    | succ j =>
      simp only [Fs] at hb
      split at hb
      · split at hb
        · simp at hb
        · exact ⟨_, hb⟩
      · simp at hb
  have hLL : ∀ b, (g.L0 b ∨ b ∈ foots Fs (res :: outs).length) → Lv g F b := by
    rintro b (hb | hb)
    · exact .inl hb
    · obtain ⟨k, _, hb'⟩ := mem_foots.1 hb
      exact .inr (hFs k b hb')
  refine ⟨foots Fs (res :: outs).length, h.kp, ?_, ?_, ?_⟩
  · refine nodup_foots fun k hk' => ⟨?_, fun k' hk'' hne' b hb hb' => ?_⟩
    · cases k with
      | zero => exact hG2
      | succ j => simp only [Fs]; split; (split; simp; exact h.sep.nodup _); simp
    · have aux : ∀ j, b ∈ G → b ∈ Fs (j + 1) → False := by
        intro j hb hb'
        obtain ⟨rv, hrv, hb1⟩ := hG3 b hb
        simp only [Fs] at hb'
        split at hb'
        · rename_i x hx
          split at hb'
          · simp at hb'
          · rename_i hnt
            rcases houts j x hx with ht | ⟨_, _, _, _, hkk⟩
            · exact hnt ht
            · exact h.sep.apart _ _ b (hkk rv hrv) hb1 hb'
        · simp at hb'
      cases k with
      | zero =>
        cases k' with
        | zero => exact hne' rfl
        | succ j => exact aux j hb hb'
      | succ j =>
        cases k' with
        | zero => exact aux j hb' hb
        | succ j' =>
          simp only [Fs] at hb hb'
          split at hb
          · split at hb'
            · split at hb
              · simp at hb
              · split at hb'
                · simp at hb'
                · exact h.sep.apart _ _ b (by intro e; injection e with e; exact hne' (by rw [e])) hb hb'
            · simp at hb'
          · simp at hb
  · intro b hb
    obtain ⟨k, _, hb'⟩ := mem_foots.1 hb
    obtain ⟨key, hb''⟩ := hFs k b hb'
    exact h.range key b hb''
  · refine .tup _ _ _ _ (by simp; omega) fun k x u hx hu => ?_
    cases k with
    | zero =>
      rw [Array.getElem?_append_left (by simp)] at hu
      simp at hx hu
      subst hx; subst hu
      exact hG1.sub fun b _ hb => hLL b hb
    | succ j =>
      have hx' : outs[j]? = some x := by simpa using hx
      have hj : j < outs.length := (List.getElem?_eq_some_iff.1 hx').1
      have hu' : g.args[j]? = some u := by
        rw [Array.getElem?_append_right (by simp)] at hu
        simp only [List.size_toArray, List.length_cons, List.length_nil] at hu
        rw [show j + 1 - (0 + 1) = j by omega, Array.getElem?_extract] at hu
        have hu2 : j < min outs.length g.args.size ∧ g.args[j]? = some u := by simpa [hj] using hu
        exact hu2.2
      simp only [Fs, hx']
      rcases houts j x hx' with rfl | ⟨hnt, hp, hgj, hfr, _⟩
      · rw [if_pos rfl]; exact .top _ _
      · rw [if_neg hnt]
        have hpin := h.pin j hp
        have := h.slotv (d := j) (by rw [hgj]; exact hnt)
        rw [Array.getD_eq_getD_getElem?, hpin, hu', hgj] at this
        exact (this.env noEnv hfr).sub fun b _ hb => hLL b hb

end
end Go.Av

/- Ghost steps: what is known is put another way. -/
namespace Go.Av
open Go Go.RowKit

section
variable {X : Fx} {g : Gx} {st : St} {a : Act} {w : World} {β : Env} {F : Key → List Nat} {L : Nat → Prop} {K : List Item}

theorem Run.ghost {st' : St} (hs : ∀ a w, SR X g st a w → SR X g st' a w) (h : Run X g K st') : Run X g K st :=
  fun hX a w b cs hI => h hX a w b cs (hs a w hI)

theorem Rel.own_vec {sz : Nat} {ex : Bool} {xs : List AV} {u : Value} {G : List Nat} (h : Rel w L β (.own sz ex xs) u G) (id : Id) :
    Rel w L (updE β id (u, sz)) (.vec id 0 xs.length) u [] := by
  cases h with
  | ownNil _ _ _ A => exact .vecNil _ _ sz A A (by simp [updE])
  | own _ _ _ _ b c arr T lo hi Fs hb hfz hs hz hr hc hm he =>
    have := Rel.vec (w := w) (L := L) (updE β id (.slice (some ⟨b, 0, none⟩) xs.length c, sz)) id 0 xs.length b xs.length c sz ⟨b, 0, none⟩ (by simp [updE]) (by omega) (by simp) hc
    simpa using this

theorem Rel.vec_own {id : Id} {sz : Nat} {ex : Bool} {xs : List AV} {u v : Value} {G G' : List Nat} {n : Nat} (h : Rel w L β (.vec id 0 n) u G') (hn : n = xs.length)
    (hβ : β id = some (v, sz)) (ho : Rel w L β (.own sz ex xs) v G) : ∃ G1, (G1 = G ∨ G1 = []) ∧ Rel w L β (.own sz ex xs) u G1 := by
  subst hn
  cases ho with
  | ownNil _ _ _ A =>
    generalize hx : (AV.vec id 0 ([] : List AV).length) = x at h
    cases h with
    | vec _ _ _ _ b n c sz' A' hβ' ho hA hn => 
      injection hx with h1 h2 h3
      subst h1; subst h2; subst h3
      rw [hβ] at hβ'
      injection hβ' with hβ'
      injection hβ' with hβ' _
      injection hβ' with _ h4 h5
      subst h5
      exact ⟨[], .inr rfl, .ownNil _ _ _ _⟩
    | vecNil _ _ _ _ A' hβ' => exact ⟨[], .inr rfl, .ownNil _ _ _ _⟩
    | _ => cases hx
  | own _ _ _ _ b c arr T lo hi Fs hb hfz hs hz hr hc hm he =>
    generalize hx : (AV.vec id 0 xs.length) = x at h
    cases h with
    | vec _ _ _ _ b' n c' sz' A' hβ' ho hA hn =>
      injection hx with h1 h2 h3
      subst h1; subst h2; subst h3
      rw [hβ] at hβ'
      injection hβ' with hβ'
      injection hβ' with hβ' hs'
      injection hβ' with h3 h4 h5
      subst h5
      injection h3 with h3
      injection h3 with h3 _ _
      subst h3
      by_cases hc0 : 0 < c
      · obtain rfl := hA hc0
        simp only [Nat.zero_mul, Nat.sub_zero]
        exact ⟨_, .inl rfl, .own _ _ _ _ _ _ arr T lo hi Fs hb hfz hs hz hr hc hm he⟩
      · obtain rfl : c = 0 := by omega
        obtain rfl : xs = [] := by cases xs; rfl; simp at hc
        exact ⟨[], .inr rfl, .ownNil _ _ _ _⟩
    | vecNil _ _ _ A A' hβ' =>
      injection hx with h1 h2 h3
      subst h1
      rw [hβ] at hβ'
      injection hβ' with hβ'
      injection hβ' with hβ' hs'
      injection hβ' with h4 h5 h6
      subst h6
      have : xs = [] := by cases xs; rfl; simp at h3
      subst this
      exact ⟨[], .inr rfl, .ownNil _ _ _ _⟩
    | _ => cases hx

theorem Lv_upd2 {k k' : Key} {G : List Nat} {b : Nat} (hG : ∀ b ∈ G, b ∈ F k) (h : Lv g (updF (updF F k []) k' G) b) : Lv g F b := by
  rcases h with h | ⟨k2, h⟩
  · exact .inl h
  · by_cases e : k2 = k'
    · subst e; rw [updF_same] at h; exact .inr ⟨k, hG b h⟩
    · rw [updF_ne _ e] at h
      by_cases e2 : k2 = k
      · subst e2; rw [updF_same] at h; simp at h
      · rw [updF_ne _ e2] at h; exact .inr ⟨k2, h⟩

/-- What key k owns goes over to key k', which owned nothing. -/
theorem Sep.move (h : Sep F) {k k' : Key} {G : List Nat} (hne : k' ≠ k) (hG : ∀ b ∈ G, b ∈ F k) (hn : G.Nodup) : Sep (updF (updF F k []) k' G) := by
  have sub : ∀ k2 b, b ∈ updF (updF F k []) k' G k2 → (k2 = k' ∧ b ∈ F k) ∨ (k2 ≠ k' ∧ k2 ≠ k ∧ b ∈ F k2) := by
    intro k2 b hb
    by_cases e : k2 = k'
    · subst e; rw [updF_same] at hb; exact .inl ⟨rfl, hG b hb⟩
    · rw [updF_ne _ e] at hb
      by_cases e2 : k2 = k
      · subst e2; rw [updF_same] at hb; simp at hb
      · rw [updF_ne _ e2] at hb; exact .inr ⟨e, e2, hb⟩
  refine ⟨fun k2 => ?_, fun k2 k3 b hne' hb hb' => ?_⟩
  · by_cases e : k2 = k'
    · subst e; rw [updF_same]; exact hn
    · rw [updF_ne _ e]
      by_cases e2 : k2 = k
      · subst e2; rw [updF_same]; simp
      · rw [updF_ne _ e2]; exact h.nodup k2
  · rcases sub k2 b hb with ⟨rfl, h1⟩ | ⟨e1, e2, h1⟩
    · rcases sub k3 b hb' with ⟨rfl, h2⟩ | ⟨e3, e4, h2⟩
      · exact hne' rfl
      · exact h.apart k k3 b (Ne.symm e4) h1 h2
    · rcases sub k3 b hb' with ⟨rfl, h2⟩ | ⟨e3, e4, h2⟩
      · exact h.apart k2 k b e2 h1 h2
      · exact h.apart k2 k3 b hne' h1 h2

/-- The slice in slot d, which nobody else has, becomes object (d, 0). -/
theorem SR.unpack {d sz : Nat} {ex : Bool} {xs : List AV} (hd : st.get d = .own sz ex xs) (hn : st.nrf (d, 0) = true)
    (h : SR X g st a w) : SR X g ((st.setObj (d, 0) (.vec sz ex xs)).put d (.vec (d, 0) 0 xs.length)) a w := by
  obtain ⟨β, F, h⟩ := h
  obtain ⟨u, hu, hr⟩ := h.slot d
  rw [hd] at hr
  have hne : Key.o (d, 0) ≠ Key.s d := by intro e; cases e
  have hL : ∀ b, Lv g (updF (updF F (.s d) []) (.o (d, 0)) (F (.s d))) b → Lv g F b := fun b hb => Lv_upd2 (fun _ h => h) hb
  refine ⟨updE β (d, 0) (u, sz), updF (updF F (.s d) []) (.o (d, 0)) (F (.s d)), h.defers, h.size, h.kp, h.sep.move hne (fun _ h => h) (h.sep.nodup _), ?_, ?_, ?_, h.pin⟩
  · intro k b hb
    by_cases e : k = .o (d, 0)
    · subst e; rw [updF_same] at hb; exact h.range _ b hb
    · rw [updF_ne _ e] at hb
      by_cases e2 : k = .s d
      · subst e2; rw [updF_same] at hb; simp at hb
      · rw [updF_ne _ e2] at hb; exact h.range _ b hb
  · intro j
    rw [St.get_put, St.get_setObj]
    by_cases hj : d = j
    · subst hj
      rw [if_pos rfl, updF_ne _ (Ne.symm hne), updF_same]
      refine ⟨u, .inl (hu.resolve_right (by rw [hd]; simp)), ?_⟩
      exact (hr.own_vec _).sub fun b _ hb => hL b hb
    · rw [if_neg hj, updF_ne _ (by intro e; cases e), updF_ne _ (by intro e; injection e with e; exact hj e.symm)]
      obtain ⟨u', hu', hr'⟩ := h.slot j
      exact ⟨u', hu', (hr'.upd _ _ (St.nrf_get hn j)).sub fun b _ hb => hL b hb⟩
  · intro id
    rw [St.obj_put, St.obj_setObj]
    by_cases hi : (d, 0) = id
    · subst hi
      rw [if_pos rfl, updF_same]
      refine ⟨u, by simp [updE], ?_⟩
      exact (hr.upd _ _ (by simp [AV.nrf])).sub fun b _ hb => hL b hb
    · rw [if_neg hi, updF_ne _ (by intro e; injection e with e; exact hi e.symm), updF_ne _ (by intro e; cases e)]
      exact ((h.obj id).upd _ _ (fun e => hi e.symm) (St.nrf_obj hn id)).keep (M := fun _ => False) (fun _ _ _ => rfl) (fun _ h => h.elim) (fun b _ hb => hL b hb) (fun _ _ h => h)

/-- Object id is put back into slot d. -/
theorem SR.pack {d sz : Nat} {ex : Bool} {xs : List AV} {id : Id} {n : Nat} (hd : st.get d = .vec id 0 n) (ho : st.obj id = .vec sz ex xs) (hn : n = xs.length)
    (h : SR X g st a w) : SR X g ((st.setObj id .gone).put d (.own sz ex xs)) a w := by
  obtain ⟨β, F, h⟩ := h
  obtain ⟨u, hu, hr⟩ := h.slot d
  rw [hd] at hr
  have hob := h.obj id
  rw [ho] at hob
  obtain ⟨v, hβ, hown⟩ := hob
  obtain ⟨G, hG, hown'⟩ := hr.vec_own hn hβ hown
  have hGs : ∀ b ∈ G, b ∈ F (.o id) := by rintro b hb; rcases hG with rfl | rfl; exact hb; simp at hb
  have hGn : G.Nodup := by rcases hG with rfl | rfl; exact h.sep.nodup _; simp
  have hne : Key.s d ≠ Key.o id := by intro e; cases e
  have hL : ∀ b, Lv g (updF (updF F (.o id) []) (.s d) G) b → Lv g F b := fun b hb => Lv_upd2 hGs hb
  refine ⟨β, updF (updF F (.o id) []) (.s d) G, h.defers, h.size, h.kp, h.sep.move hne hGs hGn, ?_, ?_, ?_, h.pin⟩
  · intro k b hb
    by_cases e : k = .s d
    · subst e; rw [updF_same] at hb; exact h.range _ b (hGs b hb)
    · rw [updF_ne _ e] at hb
      by_cases e2 : k = .o id
      · subst e2; rw [updF_same] at hb; simp at hb
      · rw [updF_ne _ e2] at hb; exact h.range _ b hb
  · intro j
    rw [St.get_put, St.get_setObj]
    by_cases hj : d = j
    · subst hj
      rw [if_pos rfl, updF_same]
      exact ⟨u, .inl (hu.resolve_right (by rw [hd]; simp)), hown'.sub fun b _ hb => hL b hb⟩
    · rw [if_neg hj, updF_ne _ (by intro e; injection e with e; exact hj e.symm), updF_ne _ (by intro e; cases e)]
      obtain ⟨u', hu', hr'⟩ := h.slot j
      exact ⟨u', hu', hr'.sub fun b _ hb => hL b hb⟩
  · intro id'
    rw [St.obj_put, St.obj_setObj]
    by_cases hi : id = id'
    · subst hi
      rw [if_pos rfl, updF_ne _ (Ne.symm hne), updF_same]
      rfl
    · rw [if_neg hi, updF_ne _ (by intro e; cases e), updF_ne _ (by intro e; injection e with e; exact hi e.symm)]
      exact (h.obj id').keep (M := fun _ => False) (fun _ _ _ => rfl) (fun _ h => h.elim) (fun b _ hb => hL b hb) (fun _ _ h => h)

/-- The value in a slot is known in another way, too. -/
theorem SR.conv {d : Nat} {v : AV} (hv : ∀ (w : World) (L : Nat → Prop) (β : Env) (u : Value) (G : List Nat), Rel w L β (st.get d) u G → ∃ G1, (∀ b ∈ G1, b ∈ G) ∧ G1.Nodup ∧ Rel w L β v u G1) (hd : st.get d ≠ .top)
    (h : SR X g st a w) : SR X g (st.put d v) a w := by
  obtain ⟨β, F, h⟩ := h
  obtain ⟨u, hu, hr⟩ := h.slot d
  obtain ⟨G, hGs, hGn, hr'⟩ := hv _ _ _ _ _ hr
  have hL : ∀ b, Lv g (updF F (.s d) G) b → Lv g F b := by
    rintro b (hb | ⟨k, hb⟩)
    · exact .inl hb
    · by_cases e : k = .s d
      · subst e; rw [updF_same] at hb; exact .inr ⟨_, hGs b hb⟩
      · rw [updF_ne _ e] at hb; exact .inr ⟨_, hb⟩
  refine ⟨β, updF F (.s d) G, h.defers, h.size, h.kp, ⟨?_, ?_⟩, ?_, ?_, ?_, h.pin⟩
  · intro k
    by_cases e : k = .s d
    · subst e; rw [updF_same]; exact hGn
    · rw [updF_ne _ e]; exact h.sep.nodup _
  · intro k k' b hne hb hb'
    have aux : ∀ k, b ∈ updF F (.s d) G k → b ∈ F k := by
      intro k hb
      by_cases e : k = .s d
      · subst e; rw [updF_same] at hb; exact hGs b hb
      · rw [updF_ne _ e] at hb; exact hb
    exact h.sep.apart k k' b hne (aux k hb) (aux k' hb')
  · intro k b hb
    by_cases e : k = .s d
    · subst e; rw [updF_same] at hb; exact h.range _ b (hGs b hb)
    · rw [updF_ne _ e] at hb; exact h.range _ b hb
  · intro j
    rw [St.get_put]
    by_cases hj : d = j
    · subst hj
      rw [if_pos rfl, updF_same]
      exact ⟨u, .inl (hu.resolve_right hd), hr'.sub fun b _ hb => hL b hb⟩
    · rw [if_neg hj, updF_ne _ (by intro e; injection e with e; exact hj e.symm)]
      obtain ⟨u', hu', hr'⟩ := h.slot j
      exact ⟨u', hu', hr'.sub fun b _ hb => hL b hb⟩
  · intro id
    rw [St.obj_put, updF_ne _ (by intro e; cases e)]
    exact (h.obj id).keep (M := fun _ => False) (fun _ _ _ => rfl) (fun _ h => h.elim) (fun b _ hb => hL b hb) (fun _ _ h => h)

/-- What slot d owns is only read from now on. -/
theorem SR.freeze {d : Nat} (hd : st.get d ≠ .top) (h : SR X g st a w) : SR X g (st.put d (st.get d).frz) a w := by
  obtain ⟨β, F, h⟩ := h
  obtain ⟨u, hu, hr⟩ := h.slot d
  have hL : ∀ b, Lv g (updF F (.s d) []) b → Lv g F b := fun b hb => Lv_updF_nil hb
  have hout : ∀ b ∈ F (.s d), ¬ Lv g (updF F (.s d) []) b := by
    rintro b hb (h0 | ⟨k, hk⟩)
    · obtain ⟨h1, h2⟩ := g.hL b h0
      rcases h.range _ b hb with h3 | h3
      · exact h2 h3
      · omega
    · by_cases e : k = .s d
      · subst e; rw [updF_same] at hk; simp at hk
      · rw [updF_ne _ e] at hk; exact h.sep.apart _ _ b e hk hb
  refine ⟨β, updF F (.s d) [], h.defers, h.size, h.kp, ⟨?_, ?_⟩, ?_, ?_, ?_, h.pin⟩
  · intro k
    by_cases e : k = .s d
    · subst e; rw [updF_same]; simp
    · rw [updF_ne _ e]; exact h.sep.nodup _
  · intro k k' b hne hb hb'
    have aux : ∀ k, b ∈ updF F (.s d) [] k → b ∈ F k := by
      intro k hb
      by_cases e : k = .s d
      · subst e; rw [updF_same] at hb; simp at hb
      · rw [updF_ne _ e] at hb; exact hb
    exact h.sep.apart k k' b hne (aux k hb) (aux k' hb')
  · intro k b hb
    by_cases e : k = .s d
    · subst e; rw [updF_same] at hb; simp at hb
    · rw [updF_ne _ e] at hb; exact h.range _ b hb
  · intro j
    rw [St.get_put]
    by_cases hj : d = j
    · subst hj
      rw [if_pos rfl, updF_same]
      exact ⟨u, .inl (hu.resolve_right hd), hr.frz (fun b _ hb => hL b hb) hout⟩
    · rw [if_neg hj, updF_ne _ (by intro e; injection e with e; exact hj e.symm)]
      obtain ⟨u', hu', hr'⟩ := h.slot j
      exact ⟨u', hu', hr'.sub fun b _ hb => hL b hb⟩
  · intro id
    rw [St.obj_put, updF_ne _ (by intro e; cases e)]
    exact (h.obj id).keep (M := fun _ => False) (fun _ _ _ => rfl) (fun _ h => h.elim) (fun b _ hb => hL b hb) (fun _ _ h => h)

end
end Go.Av

/- Operations that yield a value and touch nothing. -/
namespace Go.Av
open Go Go.RowKit

-- owns nothing, and is known
mutual
def AV.pl : AV → Bool
  | .top => false
  | .own .. => false
  | .tup _ => false
  | .agg cs => AV.plL cs
  | _ => true
def AV.plL : List AV → Bool
  | [] => true
  | x :: xs => x.pl && AV.plL xs
end

theorem AV.plL_get {xs : List AV} (h : AV.plL xs = true) : ∀ (k : Nat) (x : AV), xs[k]? = some x → x.pl = true := by
  induction xs with
  | nil => intro k x hx; simp at hx
  | cons y ys ih =>
    simp only [AV.plL, Bool.and_eq_true] at h
    intro k x hx
    cases k with
    | zero => simp at hx; subst hx; exact h.1
    | succ k => exact ih h.2 k x (by simpa using hx)

theorem Rel.pl_nil {w : World} {L : Nat → Prop} {β : Env} {x : AV} {v : Value} {F : List Nat} (h : Rel w L β x v F) : x.pl = true → F = [] := by
  induction h with
  | agg β cs vals Fs hl hr ih =>
    intro hp
    refine foots_nil fun k hk => ?_
    exact ih k _ _ (List.getElem?_eq_getElem hk) (Array.getElem?_eq_getElem (hl ▸ hk)) (AV.plL_get (by simpa [AV.pl] using hp) k _ (List.getElem?_eq_getElem hk))
  | ownNil => intro hp; simp [AV.pl] at hp
  | own => intro hp; simp [AV.pl] at hp
  | tup => intro hp; simp [AV.pl] at hp
  | top => intro hp; simp [AV.pl] at hp
  | _ => intro _; rfl

def liftv : Value → AV
  | .agg cs => .agg (cs.toList.map .lit)
  | v => .lit v

theorem liftv_rel (w : World) (L : Nat → Prop) (β : Env) (v : Value) : Rel w L β (liftv v) v [] := by
  cases v with
  | agg cs =>
    have := Rel.agg (w := w) (L := L) β (cs.toList.map .lit) cs (fun _ => []) (by simp) (by
      intro k x u hx hu
      rw [List.getElem?_map] at hx
      obtain ⟨y, hy, rfl⟩ := Option.map_eq_some_iff.1 hx
      obtain rfl : y = u := by simpa [hu] using hy.symm
      exact .lit _ _)
    rwa [foots_nil (fun _ _ => rfl)] at this
  | _ => exact .lit _ _

def St.ev (st : St) : Operand → AV
  | .tmp d => st.get d
  | .const v => liftv v
  | .func f => .fn f []
  | .global _ => .top

/-- The value itself, if it owns nothing and is known (spelled anew, so that it stands there plainly). -/
def plain : AV → Option AV
  | .lit v => some (.lit v)
  | .ro s e xs => some (.ro s e xs)
  | .fn f cs => some (.fn f cs)
  | .mv f cs => some (.mv f cs)
  | .rp cs j => some (.rp cs j)
  | .bp id j => some (.bp id j)
  | .ep id i j => some (.ep id i j)
  | .vec id o l => some (.vec id o l)
  | .agg cs => bif AV.plL cs then some (.agg cs) else none
  | _ => none

theorem plain_some {x v : AV} (h : plain x = some v) : x = v ∧ v.pl = true := by
  cases x <;> simp only [plain] at h <;> first
    | (cases h; done)
    | (cases h; exact ⟨rfl, rfl⟩)
    | (rename_i cs
       cases hp : AV.plL cs <;> simp [hp] at h
       subst h; exact ⟨rfl, by simpa [AV.pl] using hp⟩)

section
variable {X : Fx} {g : Gx} {st : St} {a : Act} {w : World} {β : Env} {F : Key → List Nat} {L : Nat → Prop}

theorem ev_rel0 (h : Inv X g st a w β F L) (x : Operand) (hp : st.ev x ≠ .top) : ∃ G, Rel w L β (st.ev x) (a.eval x) G := by
  cases x with
  | tmp d => exact ⟨_, h.slotv hp⟩
  | const v => exact ⟨[], liftv_rel _ _ _ _⟩
  | func f => exact ⟨[], .fn _ _ [] #[] rfl (by simp)⟩
  | global _ => exact absurd rfl hp

theorem ev_rel (h : Inv X g st a w β F L) (x : Operand) (hp : (st.ev x).pl = true) : Rel w L β (st.ev x) (a.eval x) [] := by
  obtain ⟨G, hG⟩ := ev_rel0 h x (by intro e; rw [e] at hp; simp [AV.pl] at hp)
  obtain rfl := hG.pl_nil hp
  exact hG

theorem ev_lit (h : Inv X g st a w β F L) {x : Operand} {v : Value} (hx : st.ev x = .lit v) : a.eval x = v := by
  have := ev_rel h x (by rw [hx]; rfl)
  rw [hx] at this
  generalize a.eval x = u at this
  cases this; rfl

/-- n cells from j on, as a value of the type. -/
def rdc (i : TI) (cs : List AV) (j : Nat) : Option AV :=
  bif isAggD i.ud then
    let l := (cs.drop j).take i.sz
    bif Nat.beq l.length i.sz && AV.plL l then some (.agg l) else none
  else match cs[j]? with
    | some x => plain x
    | none => none

theorem load_row {P : Program} {t : TypeId} {i : TI} (ht : TyOk P t i) {b o j : Nat} {vals : List Value} {cs : List AV} {Fs : Nat → List Nat} {v : AV}
    (hl : cs.length = vals.length) (hr : ∀ (k : Nat) (x : AV) (u : Value), cs[k]? = some x → vals[k]? = some u → Rel w L β x u (Fs k))
    (hv : rdc i cs j = some v) : ∃ u, (∀ w2, RowAt w2 b o vals → (loadVar t ⟨b, o + j, none⟩).run P w2 = .ok u w2) ∧ Rel w L β v u [] := by
  unfold rdc at hv
  cases hag : isAggD i.ud
  · rw [hag] at hv
    simp only [cond_false] at hv
    split at hv
    · rename_i x hx
      obtain ⟨rfl, hp⟩ := plain_some hv
      have hj : j < vals.length := by rw [← hl]; exact (List.getElem?_eq_some_iff.1 hx).1
      have hu := List.getElem?_eq_getElem hj
      have hR := hr j x _ hx hu
      obtain he := hR.pl_nil hp
      rw [he] at hR
      refine ⟨vals[j], fun w2 hrow2 => ?_, hR⟩
      simp only [loadVar, Sem.run_bind, isAgg_run ht, hag, Result.andThen_ok, Bool.false_eq_true, if_false]
      simp [hrow2 j _ hu]
    · cases hv
  · rw [hag] at hv
    simp only [cond_true] at hv
    by_cases hc : (Nat.beq ((cs.drop j).take i.sz).length i.sz && AV.plL ((cs.drop j).take i.sz)) = true
    · rw [hc] at hv
      simp only [cond_true, Option.some.injEq] at hv
      subst hv
      simp only [Bool.and_eq_true] at hc
      obtain ⟨h1, h2⟩ := hc
      have h1 := Nat.eq_of_beq_eq_true h1
      have hlv : ((vals.drop j).take i.sz).length = i.sz := by simp at h1 ⊢; omega
      have hload := fun (w2 : World) (hrow2 : RowAt w2 b o vals) => run_loadCells_list (P := P) (w := w2) ⟨b, o + j, none⟩ ((vals.drop j).take i.sz) (fun k u hk => by
        have hadd : (⟨b, o + j, none⟩ : Addr).add k = ⟨b, o + (j + k), none⟩ := by unfold Addr.add; split <;> simp_all <;> omega
        rw [hadd]
        refine hrow2 (j + k) u ?_
        rw [List.getElem?_take] at hk
        split at hk
        · simpa using hk
        · cases hk)
      refine ⟨.agg ((vals.drop j).take i.sz).toArray, ?_, ?_⟩
      · intro w2 hrow2
        have hload := hload w2 hrow2
        simp only [loadVar, Sem.run_bind, isAgg_run ht, hag, Result.andThen_ok, if_true, sizeOf_run ht]
        rw [hlv] at hload
        simp [hload]
      · have := Rel.agg (w := w) (L := L) β ((cs.drop j).take i.sz) ((vals.drop j).take i.sz).toArray (fun _ => []) (by simp at hlv h1 ⊢; omega) (by
          intro k x u hx hu
          have hp := AV.plL_get h2 k x hx
          rw [List.getElem?_take] at hx
          rw [List.getElem?_toArray, List.getElem?_take] at hu
          split at hx
          · rename_i hk
            rw [if_pos hk] at hu
            have hR := hr (j + k) x u (by simpa using hx) (by simpa using hu)
            rw [hR.pl_nil hp] at hR
            exact hR
          · cases hx)
        rwa [foots_nil (fun _ _ => rfl)] at this
    · simp only [Bool.not_eq_true] at hc
      rw [hc] at hv
      simp at hv

end
end Go.Av

/- Operations that yield a value and touch nothing: the function, and that it is right. -/
namespace Go.Av
open Go Go.RowKit

/-- Fills one cell. -/
def AV.one : AV → Bool
  | .lit v => match v with | .agg _ | .tuple _ => false | _ => true
  | .top | .agg _ | .tup _ => false
  | _ => true
def oneL : List AV → Bool
  | [] => true
  | x :: xs => x.one && oneL xs
/-- Its cells are known one by one. -/
def AV.okc : AV → Bool
  | .agg cs => oneL cs
  | x => x.one

theorem oneL_get {xs : List AV} (h : oneL xs = true) : ∀ (k : Nat) (x : AV), xs[k]? = some x → x.one = true := by
  induction xs with
  | nil => intro k x hx; simp at hx
  | cons y ys ih =>
    simp only [oneL, Bool.and_eq_true] at h
    intro k x hx
    cases k with
    | zero => simp at hx; subst hx; exact h.1
    | succ k => exact ih h.2 k x (by simpa using hx)

theorem Rel.oneCell {w : World} {L : Nat → Prop} {β : Env} {x : AV} {v : Value} {F : List Nat} (h : Rel w L β x v F) (hx : x.one = true) : v.oneCell' = true ∧ v.cells = #[v] := by
  cases h with
  | lit β v => cases v <;> first | (simp [AV.one] at hx; done) | exact ⟨rfl, rfl⟩
  | agg => simp [AV.one] at hx
  | tup => simp [AV.one] at hx
  | top => simp [AV.one] at hx
  | _ => exact ⟨rfl, rfl⟩

theorem Rel.cells {w : World} {L : Nat → Prop} {β : Env} {x : AV} {v : Value} {G : List Nat} (h : Rel w L β x v G) (hx : x.okc = true) :
    ∃ Fs : Nat → List Nat, x.cells.length = v.cells.size ∧ G = foots Fs x.cells.length ∧ (∀ c ∈ v.cells, c.oneCell' = true) ∧
      ∀ (k : Nat) (y : AV) (u : Value), x.cells[k]? = some y → v.cells[k]? = some u → Rel w L β y u (Fs k) := by
  have one : x.one = true → x.cells = [x] → ∃ Fs : Nat → List Nat, x.cells.length = v.cells.size ∧ G = foots Fs x.cells.length ∧ (∀ c ∈ v.cells, c.oneCell' = true) ∧
      ∀ (k : Nat) (y : AV) (u : Value), x.cells[k]? = some y → v.cells[k]? = some u → Rel w L β y u (Fs k) := by
    intro h1 h2
    obtain ⟨e1, e2⟩ := h.oneCell h1
    refine ⟨fun _ => G, by rw [h2, e2]; rfl, by rw [h2]; simp [foots, List.range_succ], ?_, ?_⟩
    · rw [e2]; simpa using e1
    · intro k y u hy hu
      rw [h2] at hy
      rw [e2] at hu
      cases k with
      | zero => simp at hy hu; subst hy; subst hu; exact h
      | succ k => simp at hy
  cases x with
  | agg cs =>
    cases h with
    | agg _ _ vals Fs hl hr =>
      refine ⟨Fs, hl, rfl, ?_, hr⟩
      intro c hc
      obtain ⟨k, hk, rfl⟩ := Array.mem_iff_getElem.1 hc
      have hk' : k < cs.length := by rw [hl]; exact hk
      exact ((hr k _ _ (List.getElem?_eq_getElem hk') (Array.getElem?_eq_getElem hk)).oneCell (oneL_get (by simpa [AV.okc] using hx) k _ (List.getElem?_eq_getElem hk'))).1
  | _ => exact one hx rfl

def aint (op : BinOp) (k : IntKind) (a b : Int) : Option Value :=
  match op with
  | .add => some (.int k (k.wrap (a + b)))
  | .sub => some (.int k (k.wrap (a - b)))
  | .mul => some (.int k (k.wrap (a * b)))
  | .quo => bif decide (b = 0) then none else some (.int k (k.wrap (a.tdiv b)))
  | .rem => bif decide (b = 0) then none else some (.int k (a.tmod b))
  | .eql => some (.bool (a == b))
  | .neq => some (.bool (a != b))
  | .lss => some (.bool (decide (a < b)))
  | .leq => some (.bool (decide (a ≤ b)))
  | .gtr => some (.bool (decide (a > b)))
  | .geq => some (.bool (decide (a ≥ b)))
  | _ => none

def astr (op : BinOp) (a b : ByteArray) : Option Value :=
  match op with
  | .eql => some (.bool (a.toList == b.toList))
  | .neq => some (.bool (!(a.toList == b.toList)))
  | .lss => some (.bool (Op.bytesLess a.toList b.toList))
  | _ => none

def abin (T : Nat → Option TI) (op : BinOp) (t : TypeId) : Value → Value → Option Value
  | .int k a, .int k' b => bif decide (k = k') then aint op k a b else none
  | .string a, .string b => astr op a b
  | .bool a, .bool b => match T t with
    | some i => match i.ud, op with
      | .bool, .eql => some (.bool (a == b))
      | .bool, .neq => some (.bool (!(a == b)))
      | _, _ => none
    | none => none
  | _, _ => none

def aun (op : UnOp) : Value → Option Value
  | .bool b => match op with | .not => some (.bool (!b)) | _ => none
  | .int k n => match op with | .neg => some (.int k (k.wrap (0 - n))) | _ => none
  | _ => none

def aconv (T : Nat → Option TI) (s t : TypeId) : Value → Option Value
  | .int _ n => match T s, T t with
    | some _, some i => match i.ud with
      | .int k => some (.int k (k.wrap n))
      | _ => none
    | _, _ => none
  | .string b => match T s, T t with
    | some _, some i => match i.ud with
      | .string => some (.string b)
      | _ => none
    | _, _ => none
  | _ => none

/-- A pointer moved by some cells. -/
def shiftp (x : AV) (n : Nat) : Option AV :=
  match x with
  | .bp id j => some (.bp id (j + n))
  | .rp cs j => some (.rp cs (j + n))
  | .ep id i j => some (.ep id i (j + n))
  | _ => none

def fieldAt (T : Nat → Option TI) (s f : Nat) : Option (Nat × TI) :=
  match T s with
  | some i => match i.ud with
    | .struct fs => match fs[f]? with
      | some fd => match T fd.type with
        | some ti => some (fd.offset, ti)
        | none => none
      | none => none
    | _ => none
  | none => none

def arrayAt (T : Nat → Option TI) (t : Nat) : Option (Nat × TI) :=
  match T t with
  | some i => match i.ud with
    | .array n e => match T e with
      | some ti => some (n, ti)
      | none => none
    | _ => none
  | none => none

def evs (st : St) (xs : List Operand) : Option (List AV) :=
  match xs with
  | [] => some []
  | x :: r => match plain (st.ev x), evs st r with
    | some v, some vs => some (v :: vs)
    | _, _ => none

def amax (b : Bool) : Value → Value → Option Value
  | .int k x, .int _ y => some (.int k (bif b then (if y > x then y else x) else (if y < x then y else x)))
  | _, _ => none

def aop (T : Nat → Option TI) (st : St) : Op → Option AV
  | .move x => plain (st.ev x)
  | .assign x => plain (st.ev x)
  | .pick c x y => match st.ev c with
    | .lit (.bool true) => plain (st.ev x)
    | .lit (.bool false) => plain (st.ev y)
    | _ => none
  | .load t x => match T t with
    | some i => match st.ev x with
      | .bp id j => match st.obj id with
        | .box cs => rdc i cs j
        | _ => none
      | .rp cs j => rdc i cs j
      | _ => none
    | none => none
  | .fieldAddr s x f => match fieldAt T s f with
    | some (off, i) => bif Nat.beq i.sz 0 then none else shiftp (st.ev x) off
    | none => none
  | .field s x f => match fieldAt T s f with
    | some (off, i) => match st.ev x with
      | .agg cs => rdc i cs off
      | _ => none
    | none => none
  | .nilCheck x => match st.ev x with
    | .bp id j => some (.bp id j)
    | .rp cs j => some (.rp cs j)
    | .ep id i j => some (.ep id i j)
    | _ => none
  | .binOp op t x y _ => match st.ev x, st.ev y with
    | .lit a, .lit b => (abin T op t a b).map .lit
    | _, _ => none
  | .unOp op _ x => match st.ev x with
    | .lit a => (aun op a).map .lit
    | _ => none
  | .convert s t x => match st.ev x with
    | .lit a => (aconv T s t a).map .lit
    | _ => none
  | .makeFunc (.func f) fs cs => match fs.toList with
    | [] => (evs st cs.toList).map (.fn f)
    | y :: ys => match cs.toList with
      | [] => (evs st (y :: ys)).map (.mv f)
      | _ => none
  | .extract t i => match st.ev t with
    | .tup vs => match vs[i]? with
      | some x => plain x
      | none => none
    | _ => none
  | .indexAddr t x i => match arrayAt T t with
    | some (n, ti) => match st.ev i with
      | .lit (.int _ m) => bif decide (0 ≤ m) && decide (m < n) then shiftp (st.ev x) (m.toNat * ti.sz) else none
      | _ => none
    | none => none
  | .index t x i => match arrayAt T t with
    | some (n, ti) => match st.ev i with
      | .lit (.int _ m) => bif decide (0 ≤ m) && decide (m < n) then (match st.ev x with
        | .agg cs => rdc ti cs (m.toNat * ti.sz)
        | _ => none) else none
      | _ => none
    | none => none
  | .call ⟨.builtin .len, xs, ts⟩ => match xs.toList, ts.toList with
    | [x], [t] => match T t with
      | some i => match st.ev x, i.ud with
        | .lit (.string s), .string => some (.lit (.int .i64 s.size))
        | .ro _ _ ys, .slice _ => some (.lit (.int .i64 ys.length))
        | .vec _ _ n, .slice _ => some (.lit (.int .i64 n))
        | .lit (.slice _ n _), .slice _ => some (.lit (.int .i64 n))
        | _, _ => none
      | none => none
    | _, _ => none
  | .call ⟨.builtin .max, xs, _⟩ => match xs.toList with
    | [x, y] => match st.ev x, st.ev y with
      | .lit a, .lit b => (amax true a b).map .lit
      | _, _ => none
    | _ => none
  | .call ⟨.builtin .min, xs, _⟩ => match xs.toList with
    | [x, y] => match st.ev x, st.ev y with
      | .lit a, .lit b => (amax false a b).map .lit
      | _, _ => none
    | _ => none
  | _ => none

section
variable {X : Fx} {g : Gx} {st : St} {a : Act} {w : World} {β : Env} {F : Key → List Nat} {L : Nat → Prop}

theorem ty_of (hX : X.Ok) {t : Nat} {i : TI} (h : X.T t = some i) : TyOk X.P t i := hX.ty t i h

theorem abin_ok (hX : X.Ok) {op : BinOp} {t : TypeId} {x y v : Value} (h : abin X.T op t x y = some v) (xo yo : Operand) :
    (do eqGuard op t xo yo x y; binOp op t x y : Sem Value).run X.P w = .ok v w := by
  cases x <;> cases y <;> simp only [abin] at h <;> try (cases h; done)
  case bool.bool a b =>
    have key : ∀ t', (underlying t).run X.P w = .ok .bool w → t' = t → (Op.equal t' (.bool a) (.bool b)).run X.P w = .ok (a == b) w := by
      rintro t' hu rfl
      have gen : ∀ d, (Op.equalIn (d + 1) t' (.bool a) (.bool b)).run X.P w = .ok (a == b) w := by
        intro d
        rw [Op.equalIn]
        simp only [Sem.run_bind, hu, Result.andThen_ok, Sem.run_pure]
      exact gen 9999
    split at h
    · rename_i i hi
      have hu := un_run (ty_of hX hi) w
      split at h <;> cases h
      · rename_i hud
        rw [hud] at hu
        have := key t hu rfl
        simp [eqGuard, binOp, this]
      · rename_i hud
        rw [hud] at hu
        have := key t hu rfl
        simp [eqGuard, binOp, this]
    · cases h
  case int.int k a k' b =>
    by_cases hk : k = k'
    · subst hk
      simp only [decide_true, cond_true] at h
      cases op <;> simp only [aint] at h <;> (try (cases h; done)) <;>
        first
        | (cases h; simp [eqGuard, binOp, Op.intArith, Op.intCmp]; done)
        | (by_cases hb : b = 0
           · simp [hb] at h
           · simp [hb] at h; subst h; simp [eqGuard, binOp, Op.intDiv, hb])
    · simp [hk] at h
  case string.string a b =>
    cases op <;> simp only [astr] at h <;> (try (cases h; done)) <;> cases h <;> simp [eqGuard, binOp, Op.stringOp]

theorem aun_ok {op : UnOp} {x v : Value} (h : aun op x = some v) : (Op.unary op x).run X.P w = .ok v w := by
  cases x <;> simp only [aun] at h <;> (try (cases h; done)) <;> cases op <;> simp only at h <;> (try (cases h; done)) <;> cases h <;> simp [Op.unary, Op.intArith]

theorem aconv_ok (hX : X.Ok) {s t : TypeId} {x v : Value} (h : aconv X.T s t x = some v) : (convert s t x).run X.P w = .ok v w := by
  cases x <;> simp only [aconv] at h <;> (try (cases h; done))
  all_goals
    split at h
    · rename_i i j hi hj
      have h1 := un_run (ty_of hX hi) w
      have h2 := un_run (ty_of hX hj) w
      split at h <;> cases h
      rename_i hud
      rw [hud] at h2
      simp only [convert, Sem.run_bind, h1, h2, Result.andThen_ok]
      cases i.ud <;> simp [Conv.intToInt]
    · cases h

theorem shiftp_ok {x y : AV} {n : Nat} {v : Value} (h : shiftp x n = some y) (hr : Rel w L β x v []) : ∃ ad : Addr, v = .pointer (some ad) ∧ ad.spot = none ∧ Rel w L β y (.pointer (some (ad.add n))) [] := by
  have hadd : ∀ b o : Nat, (⟨b, o, none⟩ : Addr).add n = ⟨b, o + n, none⟩ := by intro b o; unfold Addr.add; split <;> simp_all
  cases x <;> simp only [shiftp] at h <;> (try (cases h; done)) <;> cases h
  case rp cs j =>
    cases hr with
    | rp _ _ _ b o vals hL hl hrow hr =>
      refine ⟨_, rfl, rfl, ?_⟩
      rw [hadd, Nat.add_assoc]
      exact .rp _ _ _ _ _ vals hL hl hrow hr
  case bp id j =>
    cases hr with
    | bp _ _ _ b hβ => exact ⟨_, rfl, rfl, by rw [hadd]; exact .bp _ _ _ _ hβ⟩
  case ep id i j =>
    cases hr with
    | ep _ _ _ _ b n' c sz hβ => exact ⟨_, rfl, rfl, by rw [hadd, Nat.add_assoc]; exact .ep _ _ _ _ _ _ _ _ hβ⟩

theorem shiftp_pl {x y : AV} {n : Nat} (h : shiftp x n = some y) : x.pl = true := by
  cases x <;> simp only [shiftp] at h <;> first | (cases h; done) | rfl

theorem rdc_part {P : Program} {t : TypeId} {i : TI} (ht : TyOk P t i) {cs : List AV} {vals : Array Value} {Fs : Nat → List Nat} {j : Nat} {v : AV} (hl : cs.length = vals.size)
    (hr : ∀ (k : Nat) (x : AV) (u : Value), cs[k]? = some x → vals[k]? = some u → Rel w L β x u (Fs k)) (hv : rdc i cs j = some v) :
    ∃ u, (∀ w2, (part t vals j).run P w2 = .ok u w2) ∧ Rel w L β v u [] := by
  unfold rdc at hv
  cases hag : isAggD i.ud
  · rw [hag] at hv
    simp only [cond_false] at hv
    split at hv
    · rename_i x hx
      obtain ⟨rfl, hp⟩ := plain_some hv
      have hj : j < vals.size := by rw [← hl]; exact (List.getElem?_eq_some_iff.1 hx).1
      have hu := Array.getElem?_eq_getElem hj
      have hR := hr j x _ hx hu
      rw [hR.pl_nil hp] at hR
      refine ⟨vals[j], fun w2 => ?_, hR⟩
      simp [part, isAgg_run ht, hag, hu]
    · cases hv
  · rw [hag] at hv
    simp only [cond_true] at hv
    by_cases hc : (Nat.beq ((cs.drop j).take i.sz).length i.sz && AV.plL ((cs.drop j).take i.sz)) = true
    · rw [hc] at hv
      simp only [cond_true, Option.some.injEq] at hv
      subst hv
      simp only [Bool.and_eq_true] at hc
      obtain ⟨h1, h2⟩ := hc
      have h1 := Nat.eq_of_beq_eq_true h1
      refine ⟨.agg (vals.extract j (j + i.sz)), fun w2 => by simp [part, isAgg_run ht, hag, sizeOf_run ht], ?_⟩
      have := Rel.agg (w := w) (L := L) β ((cs.drop j).take i.sz) (vals.extract j (j + i.sz)) (fun _ => []) (by simp at h1 ⊢; omega) (by
        intro k x u hx hu
        have hp := AV.plL_get h2 k x hx
        rw [List.getElem?_take] at hx
        rw [Array.getElem?_extract] at hu
        split at hx
        · rename_i hk
          split at hu
          · have hR := hr (j + k) x u (by simpa using hx) hu
            rw [hR.pl_nil hp] at hR
            exact hR
          · cases hu
        · cases hx)
      rwa [foots_nil (fun _ _ => rfl)] at this
    · simp only [Bool.not_eq_true] at hc
      rw [hc] at hv
      simp at hv

theorem evs_ok (h : Inv X g st a w β F L) : ∀ (xs : List Operand) (vs : List AV), evs st xs = some vs →
    vs.length = xs.length ∧ ∀ (k : Nat) (y : AV) (u : Value), vs[k]? = some y → (xs.map a.eval)[k]? = some u → Rel w L β y u []
  | [], vs, hv => by simp only [evs, Option.some.injEq] at hv; subst hv; simp
  | x :: r, vs, hv => by
    simp only [evs] at hv
    split at hv
    · rename_i v vs' h1 h2
      obtain ⟨rfl, hp⟩ := plain_some h1
      simp only [Option.some.injEq] at hv
      subst hv
      obtain ⟨i1, i2⟩ := evs_ok h r vs' h2
      refine ⟨by simp [i1], fun k y u hy hu => ?_⟩
      cases k with
      | zero =>
        simp at hy hu
        subst hy; subst hu
        exact ev_rel h x hp
      | succ k => exact i2 k y u (by simpa using hy) (by simpa using hu)
    · cases hv

theorem fieldAt_ok (hX : X.Ok) {s f off : Nat} {ti : TI} (h : fieldAt X.T s f = some (off, ti)) :
    ∃ (i : TI) (fs : Array Field) (fd : Field), TyOk X.P s i ∧ i.ud = .struct fs ∧ fs[f]? = some fd ∧ fd.offset = off ∧ TyOk X.P fd.type ti := by
  simp only [fieldAt] at h
  split at h
  · rename_i i hi
    split at h
    · rename_i fs hud
      split at h
      · rename_i fd hfd
        split at h
        · rename_i ti' hti
          cases h
          exact ⟨i, fs, fd, ty_of hX hi, hud, hfd, rfl, ty_of hX hti⟩
        · cases h
      · cases h
    · cases h
  · cases h

theorem arrayAt_ok (hX : X.Ok) {t n : Nat} {ti : TI} (h : arrayAt X.T t = some (n, ti)) : ∃ (i : TI) (e : TypeId), TyOk X.P t i ∧ i.ud = .array n e ∧ TyOk X.P e ti := by
  simp only [arrayAt] at h
  split at h
  · rename_i i hi
    split at h
    · rename_i n' e hud
      split at h
      · rename_i ti' hti
        cases h
        exact ⟨i, e, ty_of hX hi, hud, ty_of hX hti⟩
      · cases h
    · cases h
  · cases h

theorem load_ok (hX : X.Ok) (h : Inv X g st a w β F L) {t : TypeId} {x : Operand} {v : AV} (hv : aop X.T st (.load t x) = some v) :
    ∃ u, (∀ w2, Kp [] w w2 → (Instr.loadAt t (a.eval x)).run X.P w2 = .ok u w2) ∧ Rel w L β v u [] := by
  simp only [aop] at hv
  split at hv
  · rename_i i hi
    have ht := ty_of hX hi
    split at hv
    · rename_i id j he
      split at hv
      · rename_i cs ho
        have hx := ev_rel h x (by rw [he]; rfl)
        rw [he] at hx
        have hob := h.obj id
        rw [ho] at hob
        obtain ⟨b, arr, T, lo, hi', Fs, hβ, hb, hfz, hs, hr, hF⟩ := hob
        generalize a.eval x = u at hx
        cases hx with
        | bp _ _ _ b' hβ' =>
        rw [hβ] at hβ'
        cases hβ'
        have hrow : ∀ w2, Kp [] w w2 → RowAt w2 b 0 arr.toList := by
          intro w2 hk2 k u hk
          have hb2 : w2.heap[b]? = some (.cells arr T (lo, hi')) := by rw [hk2.block b (Array.getElem?_eq_some_iff.1 hb).1 (by simp)]; exact hb
          simp only [Nat.zero_add]
          simp [World.cell?, hb2]; simpa using hk
        obtain ⟨u, hu, hR⟩ := load_row (P := X.P) (w := w) (b := b) (o := 0) (vals := arr.toList) (β := β) (L := L) ht (j := j) (by simp [hs]) (fun k x u hx hu => hr k x u hx (by simpa using hu)) hv
        rw [Nat.zero_add] at hu
        exact ⟨u, fun w2 hk2 => by simpa [Instr.loadAt, Instr.sureAddr] using hu w2 (hrow w2 hk2), hR⟩
      · cases hv
    · rename_i cs j he
      have hx := ev_rel h x (by rw [he]; rfl)
      rw [he] at hx
      generalize a.eval x = u at hx
      cases hx with
      | rp _ _ _ b o vals hL hl hrow hr =>
      obtain ⟨u, hu, hR⟩ := load_row (P := X.P) (w := w) (b := b) (o := o) (vals := vals) (β := noEnv) (L := L) (Fs := fun _ => []) ht (j := j) hl hr hv
      refine ⟨u, fun w2 hk2 => by simpa [Instr.loadAt, Instr.sureAddr] using hu w2 (hrow.keep fun hb => hk2.block b hb (by simp)), hR.of_noEnv rfl β⟩
    · cases hv
  · cases hv

theorem resolve_builtin {P : Program} {ρ : Operand → Value} {b : Builtin} {xs : Array Operand} {ts : Array TypeId} {ty : TypeId} :
    (resolve ρ ⟨.builtin b, xs, ts⟩ ty).run P w = .ok { target := .builtin b ts ty (xs.map fun | .const _ => true | _ => false), args := xs.map ρ } w := rfl

theorem of_toList2 {α : Type} {xs : Array α} {x y : α} (h : xs.toList = [x, y]) : xs = #[x, y] := by
  cases xs; simp at h; subst h; rfl
theorem of_toList1 {α : Type} {xs : Array α} {x : α} (h : xs.toList = [x]) : xs = #[x] := by
  cases xs; simp at h; subst h; rfl
theorem of_toList0 {α : Type} {xs : Array α} (h : xs.toList = []) : xs = #[] := by
  cases xs; simp at h; subst h; rfl

theorem map_lit {o : Option Value} {v : AV} (h : o.map AV.lit = some v) : ∃ u, o = some u ∧ v = .lit u := by
  cases o with
  | none => cases h
  | some u => exact ⟨u, rfl, (Option.some.inj h).symm⟩

theorem aop_ok (hX : X.Ok) (h : Inv X g st a w β F L) {o : Oper} {v : AV} (hv : aop X.T st o.op = some v) :
    ∃ u, (∀ w2, Kp [] w w2 → (execOp a.eval o).run X.P w2 = .ok (.value u) w2) ∧ Rel w L β v u [] := by
  obtain ⟨dst, op, type, pos, after, guard⟩ := o
  simp only at hv
  cases op with
  | move x =>
    obtain ⟨rfl, hp⟩ := plain_some hv
    exact ⟨_, fun _ _ => rfl, ev_rel h x hp⟩
  | assign x =>
    obtain ⟨rfl, hp⟩ := plain_some hv
    exact ⟨_, fun _ _ => rfl, ev_rel h x hp⟩
  | pick c x y =>
    simp only [aop] at hv
    split at hv
    · rename_i he
      obtain ⟨rfl, hp⟩ := plain_some hv
      exact ⟨_, fun _ _ => by simp [execOp, ev_lit h he, asBool], ev_rel h x hp⟩
    · rename_i he
      obtain ⟨rfl, hp⟩ := plain_some hv
      exact ⟨_, fun _ _ => by simp [execOp, ev_lit h he, asBool], ev_rel h y hp⟩
    · cases hv
  | load t x =>
    obtain ⟨u, hu, hR⟩ := load_ok hX h hv
    exact ⟨u, fun w2 hk => by simp [execOp, hu w2 hk], hR⟩
  | fieldAddr s x f =>
    simp only [aop] at hv
    split at hv
    · rename_i off ti hf
      obtain ⟨i, fs, fd, h1, h2, h3, h4, h5⟩ := fieldAt_ok hX hf
      cases hb : Nat.beq ti.sz 0
      · rw [hb] at hv
        simp only [cond_false] at hv
        obtain ⟨ad, had, hsp, hR⟩ := shiftp_ok hv (ev_rel h x (shiftp_pl hv))
        refine ⟨_, fun w2 _ => ?_, hR⟩
        have hs := un_run h1 w2
        rw [h2] at hs
        have hz : ti.sz ≠ 0 := fun e => by rw [e] at hb; simp at hb
        simp [execOp, Instr.fieldAt, hs, h3, had, Instr.sureAddr, fieldPlace, sizeOf_run h5, hz, h4]
      · rw [hb] at hv; simp at hv
    · cases hv
  | field s x f =>
    simp only [aop] at hv
    split at hv
    · rename_i off ti hf
      obtain ⟨i, fs, fd, h1, h2, h3, h4, h5⟩ := fieldAt_ok hX hf
      split at hv
      · rename_i cs he
        obtain ⟨G, hR⟩ := ev_rel0 h x (by rw [he]; simp)
        rw [he] at hR
        generalize hu : a.eval x = u at hR
        cases hR with
        | agg _ _ vals Fs hl hr =>
        obtain ⟨u, hp, hR'⟩ := rdc_part (P := X.P) (w := w) (L := L) (β := β) h5 hl hr hv
        refine ⟨u, fun w2 _ => ?_, hR'⟩
        have hs := un_run h1 w2
        have hp := hp w2
        rw [h2] at hs
        subst h4
        simp [execOp, Instr.field, hs, h3, hu, asAgg, hp]
      · cases hv
    · cases hv
  | nilCheck x =>
    simp only [aop] at hv
    split at hv <;> cases hv
    all_goals
      rename_i he
      have hR := ev_rel h x (by rw [he]; rfl)
      rw [he] at hR
      refine ⟨a.eval x, fun w2 _ => ?_, hR⟩
      generalize hu : a.eval x = u at hR
      cases hR <;> simp [execOp, hu]
  | binOp op t x y yt =>
    simp only [aop] at hv
    split at hv
    · rename_i v1 v2 h1 h2
      obtain ⟨u, hu, rfl⟩ := map_lit hv
      refine ⟨u, fun w2 _ => ?_, .lit _ _⟩
      have := abin_ok (w := w2) hX hu x y
      simp only [execOp, ev_lit h h1, ev_lit h h2]
      simp only [Sem.run_bind] at this ⊢
      rw [this]
      rfl
    · cases hv
  | unOp op t x =>
    simp only [aop] at hv
    split at hv
    · rename_i v1 h1
      obtain ⟨u, hu, rfl⟩ := map_lit hv
      refine ⟨u, fun w2 _ => ?_, .lit _ _⟩
      simp [execOp, ev_lit h h1, aun_ok hu]
    · cases hv
  | convert s t x =>
    simp only [aop] at hv
    split at hv
    · rename_i v1 h1
      obtain ⟨u, hu, rfl⟩ := map_lit hv
      refine ⟨u, fun w2 _ => ?_, .lit _ _⟩
      simp [execOp, ev_lit h h1, aconv_ok hX hu]
    · cases hv
  | makeFunc fn fs cs =>
    cases fn with
    | func f =>
      simp only [aop] at hv
      split at hv
      · rename_i hfs
        obtain rfl := of_toList0 hfs
        obtain ⟨vs, hvs, rfl⟩ := Option.map_eq_some_iff.1 hv
        obtain ⟨e1, e2⟩ := evs_ok h cs.toList vs hvs
        refine ⟨.func (.func f) #[] (cs.map a.eval), fun _ _ => by simp [execOp, Instr.makeFunc], .fn _ _ _ _ (by simpa using e1) fun k x u hx hu => e2 k x u hx ?_⟩
        simpa using hu
      · rename_i y ys hfs
        split at hv
        · rename_i hcs
          obtain rfl := of_toList0 hcs
          obtain ⟨vs, hvs, rfl⟩ := Option.map_eq_some_iff.1 hv
          rw [← hfs] at hvs
          obtain ⟨e1, e2⟩ := evs_ok h fs.toList vs hvs
          refine ⟨.func (.func f) (fs.map a.eval) #[], fun _ _ => by simp [execOp, Instr.makeFunc], .mv _ _ _ _ (by simpa using e1) fun k x u hx hu => e2 k x u hx ?_⟩
          simpa using hu
        · cases hv
    | _ => cases hv
  | extract t i =>
    simp only [aop] at hv
    split at hv
    · rename_i vs he
      split at hv
      · rename_i x hx
        obtain ⟨rfl, hp⟩ := plain_some hv
        obtain ⟨G, hR⟩ := ev_rel0 h t (by rw [he]; simp)
        rw [he] at hR
        generalize hu : a.eval t = u at hR
        cases hR with
        | tup _ _ vals Fs hl hr =>
        have hi : i < vals.size := by rw [← hl]; exact (List.getElem?_eq_some_iff.1 hx).1
        have hR' := hr i x _ hx (Array.getElem?_eq_getElem hi)
        rw [hR'.pl_nil hp] at hR'
        exact ⟨vals[i], fun _ _ => by simp [execOp, Instr.extract, hu, Array.getElem?_eq_getElem hi], hR'⟩
      · cases hv
    · cases hv
  | indexAddr t x i =>
    simp only [aop] at hv
    split at hv
    · rename_i n ti hf
      obtain ⟨i', e, h1, h2, h3⟩ := arrayAt_ok hX hf
      split at hv
      · rename_i k m he
        by_cases hc : 0 ≤ m ∧ m < n
        · have hc' : (decide (0 ≤ m) && decide (m < (n : Int))) = true := by simp [hc]
          rw [hc'] at hv
          simp only [cond_true] at hv
          obtain ⟨ad, had, hsp, hR⟩ := shiftp_ok hv (ev_rel h x (shiftp_pl hv))
          refine ⟨_, fun w2 _ => ?_, hR⟩
          have hs := un_run h1 w2
          rw [h2] at hs
          simp [execOp, Instr.indexAt, ev_lit h he, asIntOf, hs, had, Instr.sureAddr, hc, sizeOf_run h3]
        · have hc' : (decide (0 ≤ m) && decide (m < (n : Int))) = false := by
            rw [Bool.and_eq_false_iff]; simp; omega
          rw [hc'] at hv; simp at hv
      · cases hv
    · cases hv
  | index t x i =>
    simp only [aop] at hv
    split at hv
    · rename_i n ti hf
      obtain ⟨i', e, h1, h2, h3⟩ := arrayAt_ok hX hf
      split at hv
      · rename_i k m he
        by_cases hc : 0 ≤ m ∧ m < n
        · have hc' : (decide (0 ≤ m) && decide (m < (n : Int))) = true := by simp [hc]
          rw [hc'] at hv
          simp only [cond_true] at hv
          split at hv
          · rename_i cs hx
            obtain ⟨G, hR⟩ := ev_rel0 h x (by rw [hx]; simp)
            rw [hx] at hR
            generalize hu : a.eval x = u at hR
            cases hR with
            | agg _ _ vals Fs hl hr =>
            obtain ⟨u, hp, hR'⟩ := rdc_part (P := X.P) (w := w) (L := L) (β := β) h3 hl hr hv
            refine ⟨u, fun w2 _ => ?_, hR'⟩
            have hs := un_run h1 w2
            have hp := hp w2
            rw [h2] at hs
            simp [execOp, Instr.index, ev_lit h he, asIntOf, hs, hu, hc, sizeOf_run h3, hp]
          · cases hv
        · have hc' : (decide (0 ≤ m) && decide (m < (n : Int))) = false := by
            rw [Bool.and_eq_false_iff]; simp; omega
          rw [hc'] at hv; simp at hv
      · cases hv
    · cases hv
  | call c =>
    obtain ⟨callee, xs, ts⟩ := c
    cases callee with
    | builtin b =>
      cases b with
      | len =>
        simp only [aop] at hv
        split at hv
        · rename_i x t hxs hts
          obtain rfl := of_toList1 hxs
          obtain rfl := of_toList1 hts
          split at hv
          · rename_i i hi
            have hs := un_run (ty_of hX hi)
            have run : ∀ n : Nat, (∀ w, (Builtin.len_ #[t] type #[a.eval x]).run X.P w = .ok (goInt n) w) → ∀ w2, Kp [] w w2 → (execOp a.eval ⟨dst, .call ⟨.builtin .len, #[x], #[t]⟩, type, pos, after, guard⟩).run X.P w2 = .ok (.value (.int .i64 n)) w2 := by
              intro n hn w2 _
              simp only [execOp, Sem.run_bind, resolve_builtin, Result.andThen_ok, invoke, builtin]
              simp [hn, goInt]
            split at hv <;> cases hv
            · rename_i s he hud
              rw [hud] at hs
              exact ⟨_, run _ (fun w => by simp [Builtin.len_, hs, ev_lit h he]), .lit _ _⟩
            · rename_i sz ex ys e he hud
              rw [hud] at hs
              have hR := ev_rel h x (by rw [he]; rfl)
              rw [he] at hR
              refine ⟨_, run _ (fun w' => ?_), .lit _ _⟩
              generalize a.eval x = u at hR
              cases hR <;> simp [Builtin.len_, hs]
            · rename_i id off n e he hud
              rw [hud] at hs
              have hR := ev_rel h x (by rw [he]; rfl)
              rw [he] at hR
              refine ⟨_, run _ (fun w' => ?_), .lit _ _⟩
              generalize a.eval x = u at hR
              cases hR <;> simp [Builtin.len_, hs]
            · rename_i A n c e he hud
              rw [hud] at hs
              exact ⟨_, run _ (fun w => by simp [Builtin.len_, hs, ev_lit h he]), .lit _ _⟩
          · cases hv
        · cases hv
      | max =>
        simp only [aop] at hv
        split at hv
        · rename_i x y hxs
          obtain rfl := of_toList2 hxs
          split at hv
          · rename_i v1 v2 h1 h2
            obtain ⟨u, hu, rfl⟩ := map_lit hv
            refine ⟨u, fun w2 _ => ?_, .lit _ _⟩
            simp only [execOp, Sem.run_bind, resolve_builtin, Result.andThen_ok, invoke, builtin]
            cases v1 <;> cases v2 <;> simp only [amax] at hu <;> (try (cases hu; done))
            cases hu
            simp [Builtin.max_, ev_lit h h1, ev_lit h h2, Builtin.max2]
          · cases hv
        · cases hv
      | min =>
        simp only [aop] at hv
        split at hv
        · rename_i x y hxs
          obtain rfl := of_toList2 hxs
          split at hv
          · rename_i v1 v2 h1 h2
            obtain ⟨u, hu, rfl⟩ := map_lit hv
            refine ⟨u, fun w2 _ => ?_, .lit _ _⟩
            simp only [execOp, Sem.run_bind, resolve_builtin, Result.andThen_ok, invoke, builtin]
            cases v1 <;> cases v2 <;> simp only [amax] at hu <;> (try (cases hu; done))
            cases hu
            simp [Builtin.min_, ev_lit h h1, ev_lit h h2, Builtin.min2]
          · cases hv
        · cases hv
      | _ => cases hv
    | _ => cases hv
  | _ => cases hv

end
end Go.Av

/- New objects, stores into them. -/
namespace Go.Av
open Go Go.RowKit

section
variable {X : Fx} {g : Gx} {st : St} {a : Act} {w w' : World} {β : Env} {F : Key → List Nat} {L : Nat → Prop} {k : List Item}

/-- A slot is forgotten; what it owned is free. -/
theorem Inv.drop (h : Inv X g st a w β F L) (d : Nat) : Inv X g (st.put d .top) a w β (updF F (.s d) []) L := by
  have sub : ∀ k b, b ∈ updF F (.s d) [] k → b ∈ F k := by
    intro k b hb
    by_cases e : k = .s d
    · subst e; rw [updF_same] at hb; simp at hb
    · rw [updF_ne _ e] at hb; exact hb
  refine ⟨h.defers, h.size, h.kp, ⟨fun k => ?_, fun k k' b hne hb hb' => h.sep.apart k k' b hne (sub _ _ hb) (sub _ _ hb')⟩, fun k b hb => h.range k b (sub _ _ hb), fun j => ?_, fun id => ?_, h.pin⟩
  · by_cases e : k = .s d
    · subst e; rw [updF_same]; simp
    · rw [updF_ne _ e]; exact h.sep.nodup k
  · rw [St.get_put]
    by_cases hj : d = j
    · subst hj
      rw [if_pos rfl, updF_same]
      exact ⟨undef, .inr rfl, .top _ _⟩
    · rw [if_neg hj, updF_ne _ (by intro e; injection e with e; exact hj e.symm)]
      exact h.slot j
  · rw [St.obj_put, updF_ne _ (by intro e; cases e)]
    exact h.obj id

/-- An object is known anew; its name may stand for another place from now on. -/
theorem Inv.addObj (h : Inv X g st a w β F L) (id : Id) (ob : Ob) (z : Value × Nat) {G : List Nat} (hn : st.nrf id = true)
    (hob : ObRel w L (updE β id z) id ob G) (hG : G.Nodup) (hGF : ∀ k, k ≠ .o id → ∀ b ∈ G, b ∉ F k) (hGr : ∀ b ∈ G, b ∈ g.F0 ∨ g.w0.heap.size ≤ b) :
    Inv X g (st.setObj id ob) a w (updE β id z) (updF F (.o id) G) L := by
  refine ⟨h.defers, h.size, h.kp, ⟨fun k => ?_, fun k k' b hne hb hb' => ?_⟩, fun k b hb => ?_, fun j => ?_, fun id' => ?_, h.pin⟩
  · by_cases e : k = .o id
    · subst e; rw [updF_same]; exact hG
    · rw [updF_ne _ e]; exact h.sep.nodup k
  · by_cases e : k = .o id
    · subst e
      rw [updF_same] at hb
      rw [updF_ne _ (Ne.symm hne)] at hb'
      exact hGF k' (Ne.symm hne) b hb hb'
    · rw [updF_ne _ e] at hb
      by_cases e' : k' = .o id
      · subst e'; rw [updF_same] at hb'; exact hGF k e b hb' hb
      · rw [updF_ne _ e'] at hb'; exact h.sep.apart k k' b hne hb hb'
  · by_cases e : k = .o id
    · subst e; rw [updF_same] at hb; exact hGr b hb
    · rw [updF_ne _ e] at hb; exact h.range k b hb
  · rw [St.get_setObj, updF_ne _ (by intro e; cases e)]
    obtain ⟨u, hu, hr⟩ := h.slot j
    exact ⟨u, hu, hr.upd _ _ (St.nrf_get hn j)⟩
  · rw [St.obj_setObj]
    by_cases hi : id = id'
    · subst hi; rw [if_pos rfl, updF_same]; exact hob
    · rw [if_neg hi, updF_ne _ (by intro e; injection e with e; exact hi e.symm)]
      exact (h.obj id').upd _ _ (fun e => hi e.symm) (St.nrf_obj hn id')

/-- An object is known anew, at the same place. -/
theorem Inv.setOb (h : Inv X g st a w β F L) (id : Id) (ob : Ob) {G : List Nat}
    (hob : ObRel w L β id ob G) (hG : G.Nodup) (hGF : ∀ k, k ≠ .o id → ∀ b ∈ G, b ∉ F k) (hGr : ∀ b ∈ G, b ∈ g.F0 ∨ g.w0.heap.size ≤ b) :
    Inv X g (st.setObj id ob) a w β (updF F (.o id) G) L := by
  refine ⟨h.defers, h.size, h.kp, ⟨fun k => ?_, fun k k' b hne hb hb' => ?_⟩, fun k b hb => ?_, fun j => ?_, fun id' => ?_, h.pin⟩
  · by_cases e : k = .o id
    · subst e; rw [updF_same]; exact hG
    · rw [updF_ne _ e]; exact h.sep.nodup k
  · by_cases e : k = .o id
    · subst e
      rw [updF_same] at hb
      rw [updF_ne _ (Ne.symm hne)] at hb'
      exact hGF k' (Ne.symm hne) b hb hb'
    · rw [updF_ne _ e] at hb
      by_cases e' : k' = .o id
      · subst e'; rw [updF_same] at hb'; exact hGF k e b hb' hb
      · rw [updF_ne _ e'] at hb'; exact h.sep.apart k k' b hne hb hb'
  · by_cases e : k = .o id
    · subst e; rw [updF_same] at hb; exact hGr b hb
    · rw [updF_ne _ e] at hb; exact h.range k b hb
  · rw [St.get_setObj, updF_ne _ (by intro e; cases e)]
    exact h.slot j
  · rw [St.obj_setObj]
    by_cases hi : id = id'
    · subst hi; rw [if_pos rfl, updF_same]; exact hob
    · rw [if_neg hi, updF_ne _ (by intro e; injection e with e; exact hi e.symm)]
      exact h.obj id'

theorem Lv_sub {G : Key → List Nat} {b : Nat} (h : Lv g G b) (hs : ∀ k, b ∈ G k → L b) (h0 : g.L0 b → L b) : L b := h.elim h0 fun ⟨k, hk⟩ => hs k hk

theorem heap_alloc_new' (w : World) (o : Obj) : (w.alloc o).heap[w.heap.size]? = some o := heap_alloc_new w o

/-- A value goes into a new box: what is known behind it. -/
theorem Inv.box (h : Inv X g st a w β F L) {d : Nat} {x : AV} {u : Value} {G : List Nat} {T : TypeId} (hx : x.okc = true) (hu : Rel w L β x u G) (hGn : G.Nodup)
    (hGF : ∀ k, ∀ b ∈ G, b ∉ F k) (hGr : ∀ b ∈ G, b ∈ g.F0 ∨ g.w0.heap.size ≤ b)
    (hFL : ∀ k b, b ∈ F k → L b) (hGL : ∀ b ∈ G, L b) (hL0 : ∀ b, g.L0 b → L b)
    (hn : st.nrf (d, 0) = true) (hxn : x.nrf (d, 0) = true) (hd : d < X.fn.ntmps) (hp : d ∉ X.pins) :
    SR X g ((st.setObj (d, 0) (.box x.cells)).put d (.bp (d, 0) 0)) (a.put (some d) (.pointer (some ⟨w.heap.size, 0, none⟩))) (w.alloc (.cells u.cells T)) := by
  obtain ⟨Fs, hl, rfl, hone, hr⟩ := hu.cells hx
  let L2 : Nat → Prop := fun b => L b ∨ b = w.heap.size
  have hw : ∀ b, b < w.heap.size → (w.alloc (.cells u.cells T)).heap[b]? = w.heap[b]? := fun b hb => Below.heap_alloc w _ b hb
  have hLL : ∀ b, b < w.heap.size → L2 b → L b := by rintro b hb (h | rfl); exact h; omega
  have hlt : ∀ b ∈ foots Fs x.cells.length, b < w.heap.size := hu.lt
  have h1 : Inv X g st a (w.alloc (.cells u.cells T)) β F L2 :=
    h.world (M := fun _ => False) (h.kp.trans (Kp.alloc [] w _) (by simp)) (fun b hb _ => hw b hb) (fun _ h => h.elim) hLL (fun _ _ _ h => h)
  have hFlt : ∀ k b, b ∈ F k → b < w.heap.size := by
    intro k b hb
    cases k with
    | s j => obtain ⟨u', _, hr'⟩ := h.slot j; exact hr'.lt b hb
    | o id =>
      have ho := h.obj id
      revert ho
      cases st.obj id with
      | gone => intro ho; rw [show F (.o id) = [] from ho] at hb; simp at hb
      | vec sz ex xs => rintro ⟨v, _, hr'⟩; exact hr'.lt b hb
      | tie v id' => rintro ⟨h0, _⟩; rw [h0] at hb; simp at hb
      | mp b' kk es =>
        rintro ⟨h0, arr, clock, hb', _⟩
        rw [h0] at hb
        rw [List.mem_singleton.1 hb]
        exact (Array.getElem?_eq_some_iff.1 hb').1
      | mq b' es =>
        rintro ⟨h0, arr, hb', _⟩
        rw [h0] at hb
        rw [List.mem_singleton.1 hb]
        exact (Array.getElem?_eq_some_iff.1 hb').1
      | mem ms =>
        rintro ⟨h0, hm⟩
        rw [h0] at hb
        obtain ⟨e, he, rfl⟩ := List.mem_map.1 hb
        exact (Array.getElem?_eq_some_iff.1 (hm e he)).1
      | box cs =>
        rintro ⟨b0, arr, T', lo, hi, Fs', _, hb0, _, hs, hr', hF⟩
        rw [hF] at hb
        rcases List.mem_cons.1 hb with rfl | hb
        · exact (Array.getElem?_eq_some_iff.1 hb0).1
        · obtain ⟨k, hk, hb'⟩ := mem_foots.1 hb
          exact (hr' k _ _ (List.getElem?_eq_getElem hk) (Array.getElem?_eq_getElem (by omega))).lt b hb'
  have hob : ObRel (w.alloc (.cells u.cells T)) L2 (updE β (d, 0) (.pointer (some ⟨w.heap.size, 0, none⟩), 0)) (d, 0) (.box x.cells) (w.heap.size :: foots Fs x.cells.length) := by
    refine ⟨w.heap.size, u.cells, T, 0, 0, Fs, by simp [updE], heap_alloc_new' _ _, by intro k _ h; omega, hl.symm, fun k y c hy hc => ?_, rfl⟩
    have hyn : y.nrf (d, 0) = true := by
      have hm : y ∈ x.cells := List.mem_of_getElem? hy
      cases x <;> simp only [AV.cells] at hm hy <;> first
        | (simp at hm; subst hm; exact hxn)
        | exact AV.nrfL_get (by simpa [AV.nrf] using hxn) k y hy
    exact ((hr k y c hy hc).upd _ _ hyn).keep (M := fun _ => False) (fun b hb _ => hw b hb) (fun _ h => h.elim) hLL (fun _ _ h => h)
  have hcons : (w.heap.size :: foots Fs x.cells.length).Nodup := List.nodup_cons.2 ⟨fun hm => by have := hlt _ hm; omega, hGn⟩
  have hr2 : ∀ b ∈ w.heap.size :: foots Fs x.cells.length, b ∈ g.F0 ∨ g.w0.heap.size ≤ b := by
    intro b hb
    rcases List.mem_cons.1 hb with rfl | hb
    · exact .inr h.kp.size
    · exact hGr b hb
  have h2 := h1.addObj (d, 0) (.box x.cells) _ hn hob hcons (by
    intro k _ b hb hb'
    rcases List.mem_cons.1 hb with rfl | hb
    · have := hFlt k _ hb'; omega
    · exact hGF k b hb hb') hr2
  have h3 := h2.put (d := d) (v := .bp (d, 0) 0) (u := .pointer (some ⟨w.heap.size, 0, none⟩)) hd hp (.bp _ _ _ _ (by simp [updE])) (by simp) (by simp) (by simp)
  refine ⟨_, _, h3.setL fun b _ hb => ?_⟩
  refine Lv_sub hb (fun k hk => ?_) (fun h => .inl (hL0 b h))
  by_cases e : k = .s d
  · subst e; rw [updF_same] at hk; simp at hk
  · rw [updF_ne _ e] at hk
    by_cases e2 : k = .o (d, 0)
    · subst e2
      rw [updF_same] at hk
      rcases List.mem_cons.1 hk with rfl | hk
      · exact .inr rfl
      · exact .inl (hGL b hk)
    · rw [updF_ne _ e2] at hk; exact .inl (hFL k b hk)

theorem Lv_of {k : Key} {b : Nat} (h : b ∈ F k) : Lv g F b := .inr ⟨k, h⟩

/-- 'box' of a value that owns nothing. -/
theorem SR.boxv {d : Nat} {x : Operand} {T : TypeId} (hx : (st.ev x).okc = true) (hp : (st.ev x).pl = true) (hn : st.nrf (d, 0) = true) (hxn : (st.ev x).nrf (d, 0) = true)
    (hd : d < X.fn.ntmps) (hpi : d ∉ X.pins) (h : SR X g st a w) :
    ∃ u w', (Instr.box T (a.eval x)).run X.P w = .ok u w' ∧ SR X g ((st.setObj (d, 0) (.box (st.ev x).cells)).put d (.bp (d, 0) 0)) (a.put (some d) u) w' := by
  obtain ⟨β, F, h⟩ := h
  exact ⟨_, _, rfl, h.box hx (ev_rel h x hp) (by simp) (by simp) (by simp) (fun k b hb => Lv_of hb) (by simp) (fun b hb => .inl hb) hn hxn hd hpi⟩

/-- A new variable that holds nought. -/
theorem SR.allocv {d : Nat} {T : TypeId} {i : TI} (hX : X.Ok) (hT : X.T T = some i) (hz : oneL (i.zero.map .lit) = true) (hn : st.nrf (d, 0) = true) (hd : d < X.fn.ntmps) (hpi : d ∉ X.pins) (h : SR X g st a w) :
    ∃ u w', (Instr.alloc T true (.tuple #[])).run X.P w = .ok u w' ∧ SR X g ((st.setObj (d, 0) (.box (i.zero.map .lit))).put d (.bp (d, 0) 0)) (a.put (some d) u) w' := by
  obtain ⟨β, F, h⟩ := h
  obtain ⟨z, hz1, hz2⟩ := zero_run (hX.ty T i hT) w
  have e1 : (Instr.alloc T true (.tuple #[])).run X.P w = .ok (.pointer (some ⟨w.heap.size, 0, none⟩)) (w.alloc (.cells z.cells T)) := by
    simp [Instr.alloc, hz1, newVar, newRow]
  have hR : Rel w (Lv g F) β (.agg (i.zero.map .lit)) (.agg z.cells) [] := by
    have := liftv_rel w (Lv g F) β (.agg z.cells)
    simp only [liftv] at this
    rwa [hz2] at this
  have := h.box (d := d) (T := T) (x := .agg (i.zero.map .lit)) (u := .agg z.cells) (by simpa [AV.okc] using hz) hR (by simp) (by simp) (by simp) (fun k b hb => Lv_of hb) (by simp) (fun b hb => .inl hb) hn (by
    simp only [AV.nrf]
    generalize i.zero = l
    induction l with
    | nil => rfl
    | cons v l ih => simp [AV.nrfL, AV.nrf, ih]) hd hpi
  exact ⟨_, _, e1, this⟩

/-! ### Stores -/

def arrSet : Array Value → Nat → List Value → Array Value
  | arr, _, [] => arr
  | arr, o, v :: r => arrSet (arr.setIfInBounds o v) (o + 1) r

theorem size_arrSet (arr : Array Value) (o : Nat) (vs : List Value) : (arrSet arr o vs).size = arr.size := by
  induction vs generalizing arr o with
  | nil => rfl
  | cons v r ih => simp [arrSet, ih]

theorem get_arrSet (arr : Array Value) (o : Nat) (vs : List Value) (h : o + vs.length ≤ arr.size) (k : Nat) :
    (arrSet arr o vs)[k]? = if o ≤ k ∧ k < o + vs.length then vs[k - o]? else arr[k]? := by
  induction vs generalizing arr o with
  | nil => simp only [arrSet, List.length_nil]; rw [if_neg (by omega)]
  | cons v r ih =>
    simp only [List.length_cons] at h ⊢
    simp only [arrSet]
    rw [ih _ _ (by simp; omega)]
    by_cases h1 : o + 1 ≤ k ∧ k < o + 1 + r.length
    · rw [if_pos h1, if_pos (by omega), show k - o = (k - (o + 1)) + 1 by omega, List.getElem?_cons_succ]
    · rw [if_neg h1]
      by_cases h2 : k = o
      · subst h2
        have hk : k < arr.size := by omega
        rw [if_pos (by omega), Array.getElem?_setIfInBounds_self_of_lt hk]
        simp
      · rw [if_neg (by omega)]
        rw [Array.getElem?_setIfInBounds_ne (by omega)]

theorem heap_setCells (b : Nat) (T : TypeId) (fr : Nat × Nat) : ∀ (vs : List Value) (o : Nat) (w : World) (arr : Array Value), w.heap[b]? = some (.cells arr T fr) →
    (w.setCells b o vs).heap[b]? = some (.cells (arrSet arr o vs) T fr)
  | [], _, _, _, h => h
  | v :: r, o, w, arr, h => by
    show ((w.setCell ⟨b, o, none⟩ v).setCells b (o + 1) r).heap[b]? = _
    refine heap_setCells b T fr r (o + 1) _ _ ?_
    simp only [World.setCell, Array.getElem?_modify, h]
    simp

theorem heap_setCells_ne (b c : Nat) (hc : c ≠ b) : ∀ (vs : List Value) (o : Nat) (w : World), (w.setCells b o vs).heap[c]? = w.heap[c]?
  | [], _, _ => rfl
  | v :: r, o, w => by
    show ((w.setCell ⟨b, o, none⟩ v).setCells b (o + 1) r).heap[c]? = _
    rw [heap_setCells_ne b c hc r (o + 1)]
    exact Below.heap_setCell _ _ _ _ (by simpa using hc)

theorem kp_setCells (b : Nat) : ∀ (vs : List Value) (o : Nat) (w : World), Kp [b] w (w.setCells b o vs)
  | [], _, w => Kp.refl _ _
  | v :: r, o, w => by
    have h1 : Kp [b] w (w.setCell ⟨b, o, none⟩ v) := ⟨rfl, rfl, rfl, by simp [World.setCell], fun c _ hn => Below.heap_setCell _ _ _ _ (by simpa using hn)⟩
    exact h1.trans (kp_setCells b r (o + 1) _) (by simp)

/-- A row of an own block is written. -/
theorem store_run {P : Program} {t : TypeId} {i : TI} (ht : TyOk P t i) {b o : Nat} {arr : Array Value} {T : TypeId} {lo hi : Nat} (hb : w.heap[b]? = some (.cells arr T (lo, hi)))
    (hfz : ∀ k, k < arr.size → ¬ (lo ≤ k ∧ k < hi)) {u : Value} (hs : u.cells.size = i.sz) (ho : o + i.sz ≤ arr.size) (h1 : ∀ c ∈ u.cells, c.oneCell' = true) :
    (storeVar t ⟨b, o, none⟩ u).run P w = .ok () (w.setCells b o u.cells.toList) := by
  have key := run_storeCells_cells (P := P) b o u.cells.toList 0 w (fun j hj => by
    have hj' : o + 0 + j < arr.size := by simp at hj; omega
    simp only [World.cell?, hb]
    simp only [Option.isSome_none, Bool.false_eq_true, if_false]
    rw [Array.getElem?_eq_getElem hj']; rfl) (fun j hj => by
    have hj' : o + 0 + j < arr.size := by simp at hj; omega
    simp only [World.frozen?, hb]
    have := hfz _ hj'
    simp only [Bool.and_eq_false_iff, decide_eq_false_iff_not]
    omega) (by simpa using h1)
  simp only [storeVar, Sem.run_bind, sizeOf_run ht, Result.andThen_ok]
  rw [if_neg (by simpa using hs)]
  simpa using key

def putAt (cs : List AV) (j : Nat) (ys : List AV) : List AV := cs.take j ++ ys ++ cs.drop (j + ys.length)

theorem putAt_length (cs : List AV) (j : Nat) (ys : List AV) (h : j + ys.length ≤ cs.length) : (putAt cs j ys).length = cs.length := by
  simp [putAt]; omega

theorem putAt_get (cs : List AV) (j : Nat) (ys : List AV) (h : j + ys.length ≤ cs.length) (k : Nat) :
    (putAt cs j ys)[k]? = if j ≤ k ∧ k < j + ys.length then ys[k - j]? else cs[k]? := by
  unfold putAt
  by_cases h1 : k < j
  · rw [if_neg (by omega), List.append_assoc, List.getElem?_append_left (by simp; omega), List.getElem?_take, if_pos h1]
  · by_cases h2 : k < j + ys.length
    · rw [if_pos (by omega), List.getElem?_append_left (by simp; omega), List.getElem?_append_right (by simp; omega)]
      simp [Nat.min_eq_left (show j ≤ cs.length by omega)]
    · rw [if_neg (by omega), List.getElem?_append_right (by simp; omega), List.getElem?_drop]
      congr 1
      simp; omega

theorem foots_sub {Fs : Nat → List Nat} {n k b : Nat} (hk : k < n) (h : b ∈ Fs k) : b ∈ foots Fs n := mem_foots.2 ⟨k, hk, h⟩

/-- A store of a value that owns nothing into a box. -/
theorem SR.storev {t : TypeId} {i : TI} {p x : Operand} {id : Id} {j : Nat} {cs : List AV} (hX : X.Ok) (hT : X.T t = some i) (hp : st.ev p = .bp id j) (ho : st.obj id = .box cs)
    (hx : (st.ev x).okc = true) (hpl : (st.ev x).pl = true) (hsz : (st.ev x).cells.length = i.sz) (hj : j + i.sz ≤ cs.length) (h : SR X g st a w) :
    ∃ w', (Instr.storeAt t (a.eval p) (a.eval x)).run X.P w = .ok () w' ∧ SR X g (st.setObj id (.box (putAt cs j (st.ev x).cells))) a w' := by
  obtain ⟨β, F, h⟩ := h
  have hR := ev_rel h p (by rw [hp]; rfl)
  rw [hp] at hR
  have hob := h.obj id
  rw [ho] at hob
  obtain ⟨b, arr, T, lo, hi, Fs, hβ, hb, hfz, hs, hr, hF⟩ := hob
  obtain ⟨Gs, hl, hG, hone, hrx⟩ := (ev_rel h x hpl).cells hx
  have hGs : ∀ k, k < (st.ev x).cells.length → Gs k = [] := by
    intro k hk
    have := congrArg List.length hG
    cases hg' : Gs k with
    | nil => rfl
    | cons c r => have : c ∈ foots Gs (st.ev x).cells.length := foots_sub hk (by rw [hg']; simp); rw [← hG] at this; simp at this
  generalize a.eval p = up at hR
  cases hR with
  | bp _ _ _ b' hβ' =>
  rw [hβ] at hβ'
  cases hβ'
  have ht := hX.ty t i hT
  have hrun := store_run (P := X.P) (o := j) ht hb (fun k h => hfz k (Nat.le_of_lt h)) (u := a.eval x) (by omega) (by omega) hone
  refine ⟨_, by simpa [Instr.storeAt, Instr.sureAddr] using hrun, ?_⟩
  generalize hus : (a.eval x).cells = us at *
  have hbF : b ∈ F (.o id) := by rw [hF]; simp
  have hbr := h.range _ b hbF
  have hnd := h.sep.nodup (.o id)
  rw [hF] at hnd
  have hb2 : (w.setCells b j us.toList).heap[b]? = some (.cells (arrSet arr j us.toList) T (lo, hi)) := heap_setCells b T (lo, hi) _ _ _ _ hb
  let Fs2 : Nat → List Nat := fun k => if j ≤ k ∧ k < j + i.sz then [] else Fs k
  have hsub : ∀ c, c ∈ foots Fs2 cs.length → c ∈ foots Fs cs.length := by
    intro c hc
    obtain ⟨k, hk, hc⟩ := mem_foots.1 hc
    simp only [Fs2] at hc
    split at hc
    · simp at hc
    · exact foots_sub hk hc
  have hw : ∀ c, c < w.heap.size → ¬ (c = b) → (w.setCells b j us.toList).heap[c]? = w.heap[c]? := fun c _ hc => heap_setCells_ne b c hc _ _ _
  have hkeep : ∀ {y v G}, Rel w (Lv g F) β y v G → (∀ c ∈ G, c ≠ b) → Rel (w.setCells b j us.toList) (Lv g F) β y v G := fun hr hG =>
    hr.keep hw (fun c hc => by subst hc; exact Lv_of hbF) (fun _ _ h => h) hG
  have hcl : (st.ev x).cells.length = us.size := hl
  -- the others, in the new world
  have h1 : Inv X g (st.setObj id .gone) a w β (updF F (.o id) []) (Lv g F) := h.setOb id .gone rfl (by simp) (by simp) (by simp)
  have h2 : Inv X g (st.setObj id .gone) a (w.setCells b j us.toList) β (updF F (.o id) []) (Lv g F) := by
    refine h1.world (M := fun c => c = b) (h.kp.trans (kp_setCells b _ _ _) (by simpa using hbr)) hw (fun c hc => by subst hc; exact Lv_of hbF) (fun _ _ h => h) ?_
    rintro k c hc rfl
    by_cases e : k = .o id
    · subst e; rw [updF_same] at hc; simp at hc
    · rw [updF_ne _ e] at hc; exact h.sep.apart _ _ c e hc hbF
  have hlen : (putAt cs j (st.ev x).cells).length = cs.length := putAt_length _ _ _ (by omega)
  have h3 := h2.setOb id (.box (putAt cs j (st.ev x).cells)) (G := b :: foots Fs2 cs.length) (by
    refine ⟨b, _, T, lo, hi, Fs2, hβ, hb2, by rw [size_arrSet]; exact hfz, by rw [size_arrSet, hlen]; exact hs, fun k y u hy hu => ?_, by rw [hlen]⟩
    rw [putAt_get _ _ _ (by omega)] at hy
    rw [get_arrSet _ _ _ (by simp; omega)] at hu
    simp only [Array.length_toList] at hu
    by_cases hk : j ≤ k ∧ k < j + i.sz
    · rw [if_pos (by omega)] at hy
      rw [if_pos (by omega)] at hu
      simp only [Fs2, if_pos hk]
      have := hrx (k - j) y u hy (by simpa using hu)
      rw [hGs (k - j) (by omega)] at this
      exact hkeep this (by simp)
    · rw [if_neg (by omega)] at hy
      rw [if_neg (by omega)] at hu
      simp only [Fs2, if_neg hk]
      refine hkeep (hr k y u hy hu) ?_
      rintro c hc rfl
      exact (List.nodup_cons.1 hnd).1 (foots_sub (List.getElem?_eq_some_iff.1 hy).1 hc)) (by
    refine List.nodup_cons.2 ⟨fun hm => (List.nodup_cons.1 hnd).1 (hsub _ hm), ?_⟩
    have := foots_nodup (List.nodup_cons.1 hnd).2
    refine nodup_foots fun k hk => ⟨?_, fun k' hk' hne c hc hc' => ?_⟩
    · simp only [Fs2]; split; simp; exact (this k hk).1
    · simp only [Fs2] at hc hc'
      split at hc
      · simp at hc
      · split at hc'
        · simp at hc'
        · exact (this k hk).2 k' hk' hne c hc hc') (by
    intro k hk c hc hc'
    rw [updF_ne _ hk] at hc'
    refine h.sep.apart _ _ c hk hc' ?_
    rw [hF]
    rcases List.mem_cons.1 hc with rfl | hc
    · simp
    · exact List.mem_cons_of_mem _ (hsub c hc)) (by
    intro c hc
    refine h.range (.o id) c ?_
    rw [hF]
    rcases List.mem_cons.1 hc with rfl | hc
    · simp
    · exact List.mem_cons_of_mem _ (hsub c hc))
  have h4 : SR X g ((st.setObj id .gone).setObj id (.box (putAt cs j (st.ev x).cells))) a (w.setCells b j us.toList) := by
    refine ⟨_, _, h3.setL fun c _ hc => ?_⟩
    refine Lv_sub hc (fun k hk => ?_) .inl
    by_cases e : k = .o id
    · subst e
      rw [updF_same] at hk
      refine Lv_of (k := .o id) ?_
      rw [hF]
      rcases List.mem_cons.1 hk with rfl | hk
      · simp
      · exact List.mem_cons_of_mem _ (hsub c hk)
    · rw [updF_ne _ e, updF_ne _ e] at hk; exact Lv_of hk
  have hle : St.Le (st.setObj id (.box (putAt cs j (st.ev x).cells))) ((st.setObj id .gone).setObj id (.box (putAt cs j (st.ev x).cells))) :=
    ⟨fun d => .inr rfl, fun id' => .inr (by
      rw [St.obj_setObj, St.obj_setObj, St.obj_setObj]
      by_cases e : id = id' <;> simp [e])⟩
  exact h4.le hle

end
end Go.Av

/- Calls. -/
namespace Go.Av
open Go Go.RowKit

-- no part of it is memory that is only read
mutual
def AV.rf : AV → Bool
  | .ro _ _ xs => match xs with | [] => true | _ :: _ => false
  | .own _ _ xs => AV.rfL xs
  | .agg cs => AV.rfL cs
  | .tup cs => AV.rfL cs
  | .fn _ cs => AV.rfL cs
  | .mv _ cs => AV.rfL cs
  | .rp .. => false
  | _ => true
def AV.rfL : List AV → Bool
  | [] => true
  | x :: xs => x.rf && AV.rfL xs
end

theorem AV.rfL_get {xs : List AV} (h : AV.rfL xs = true) : ∀ (k : Nat) (x : AV), xs[k]? = some x → x.rf = true := by
  induction xs with
  | nil => intro k x hx; simp at hx
  | cons y ys ih =>
    simp only [AV.rfL, Bool.and_eq_true] at h
    intro k x hx
    cases k with
    | zero => simp at hx; subst hx; exact h.1
    | succ k => exact ih h.2 k x (by simpa using hx)

theorem AV.rfL_append {xs ys : List AV} : AV.rfL (xs ++ ys) = (AV.rfL xs && AV.rfL ys) := by
  induction xs with
  | nil => simp [AV.rfL]
  | cons x xs ih => simp [AV.rfL, ih, Bool.and_assoc]

theorem rf_flatc {xs : List AV} (h : AV.rfL xs = true) : AV.rfL (flatc xs) = true := by
  unfold flatc
  induction xs with
  | nil => rfl
  | cons x xs ih =>
    simp only [AV.rfL, Bool.and_eq_true] at h
    simp only [List.flatMap_cons, AV.rfL_append, ih h.2, Bool.and_true]
    cases x <;> simp only [AV.cells, AV.rfL, Bool.and_true] <;> first | exact h.1 | (simpa [AV.rf] using h.1)

theorem Rel.anyL {w : World} {L : Nat → Prop} {β : Env} {x : AV} {v : Value} {F : List Nat} (h : Rel w L β x v F) (L' : Nat → Prop) : x.rf = true → Rel w L' β x v F := by
  induction h with
  | top β v => intro _; exact .top _ _
  | lit β v => intro _; exact .lit _ _
  | roNil β sz ex A c hc he => intro _; exact .roNil _ _ _ _ _ hc he
  | ro β sz ex xs b o c vals hL hz hl hrow hr hc hm he ih =>
    intro hf
    cases xs with
    | nil => exact .roNil _ _ _ _ _ hm he
    | cons => simp [AV.rf] at hf
  | ownNil β sz ex A => intro _; exact .ownNil _ _ _ _
  | own β sz ex xs b c arr T lo hi Fs hb hfz hs hz hr hc hm he ih =>
    intro hf
    exact .own _ _ _ _ _ _ arr T lo hi Fs hb hfz hs hz (fun k x u hx hu => ih k x u hx hu (AV.rfL_get (rf_flatc (by simpa [AV.rf] using hf)) k x hx)) hc hm he
  | agg β cs vals Fs hl hr ih =>
    intro hf
    exact .agg _ _ _ _ hl fun k x u hx hu => ih k x u hx hu (AV.rfL_get (by simpa [AV.rf] using hf) k x hx)
  | tup β cs vals Fs hl hr ih =>
    intro hf
    exact .tup _ _ _ _ hl fun k x u hx hu => ih k x u hx hu (AV.rfL_get (by simpa [AV.rf] using hf) k x hx)
  | fn β f cs vals hl hr ih =>
    intro hf
    exact .fn _ _ _ _ hl fun k x u hx hu => ih k x u hx hu (AV.rfL_get (by simpa [AV.rf] using hf) k x hx)
  | mv β f cs vals hl hr ih =>
    intro hf
    exact .mv _ _ _ _ hl fun k x u hx hu => ih k x u hx hu (AV.rfL_get (by simpa [AV.rf] using hf) k x hx)
  | rp β cs j b o vals hL hl hrow hr ih => intro hf; simp [AV.rf] at hf
  | bp β id j b h => intro _; exact .bp _ _ _ _ h
  | ep β id i j b n c sz h => intro _; exact .ep _ _ _ _ _ _ _ _ h
  | vec β id off len b n c sz A h ho hA hn => intro _; exact .vec _ _ _ _ _ _ _ _ _ h ho hA hn
  | vecNil β id sz A A' h => intro _; exact .vecNil _ _ _ _ _ h

-- what a callee is shown of a value: memory of the running call is only read meanwhile
mutual
def St.exp (st : St) : Nat → AV → Option AV
  | 0, _ => none
  | _ + 1, .vec id off len => match st.obj id with
    | .vec sz ex xs => some (bif Nat.beq off 0 && decide (len = xs.length) then .ro sz ex (AV.frzL xs) else .ro sz false (((AV.frzL xs).drop off).take len))
    | _ => none
  | n + 1, .bp id j => match st.obj id with
    | .box cs => match St.expL st n cs with
      | some cs' => some (.rp cs' j)
      | none => none
    | _ => none
  | _ + 1, .ep id i j => match st.obj id with
    | .vec _ _ xs => match xs[i]? with
      | some x => some (.rp x.frz.cells j)
      | none => none
    | _ => none
  | n + 1, .agg cs => match St.expL st n cs with
    | some cs' => some (.agg cs')
    | none => none
  | n + 1, .fn f cs => match St.expL st n cs with
    | some cs' => some (.fn f cs')
    | none => none
  | n + 1, .mv f cs => match St.expL st n cs with
    | some cs' => some (.mv f cs')
    | none => none
  | _ + 1, .own sz ex xs => some (.ro sz ex (AV.frzL xs))
  | _ + 1, .tup _ => none
  | _ + 1, x => some x
def St.expL (st : St) : Nat → List AV → Option (List AV)
  | 0, _ => none
  | _ + 1, [] => some []
  | n + 1, x :: xs => match St.exp st n x, St.expL st n xs with
    | some x', some xs' => some (x' :: xs')
    | _, _ => none
end

theorem flatc_take {xs : List AV} {sz : Nat} (hz : ∀ x ∈ xs, x.cells.length = sz) (n : Nat) : flatc (xs.take n) = (flatc xs).take (n * sz) := by
  unfold flatc
  induction xs generalizing n with
  | nil => simp
  | cons x xs ih =>
    cases n with
    | zero => simp
    | succ n =>
      have h1 := hz x (by simp)
      simp only [List.take_succ_cons, List.flatMap_cons, ih (fun y hy => hz y (by simp [hy]))]
      rw [List.take_append, h1, Nat.succ_mul]
      rw [List.take_of_length_le (l := x.cells) (by omega)]
      congr 2
      omega

theorem flatc_drop {xs : List AV} {sz : Nat} (hz : ∀ x ∈ xs, x.cells.length = sz) (n : Nat) : flatc (xs.drop n) = (flatc xs).drop (n * sz) := by
  unfold flatc
  induction xs generalizing n with
  | nil => simp
  | cons x xs ih =>
    cases n with
    | zero => simp
    | succ n =>
      have h1 := hz x (by simp)
      simp only [List.drop_succ_cons, List.flatMap_cons, ih (fun y hy => hz y (by simp [hy]))]
      rw [List.drop_append, h1, Nat.succ_mul]
      rw [List.drop_eq_nil_of_le (as := x.cells) (by omega), List.nil_append]
      congr 1
      omega

section
variable {X : Fx} {g : Gx} {st : St} {a : Act} {w w' : World} {β : Env} {F : Key → List Nat} {L : Nat → Prop} {k : List Item}

/-- A part of an own slice, as it is read. -/
theorem Rel.own_ro {sz : Nat} {ex : Bool} {xs : List AV} {v u : Value} {G : List Nat} {id : Id} {off len : Nat} {γ : Env} (ho : Rel w L γ (.own sz ex xs) v G)
    (hβ : β id = some (v, sz)) (h : Rel w L β (.vec id off len) u []) :
    Rel w (fun _ => False) noEnv (.ro sz false (((AV.frzL xs).drop off).take len)) u [] ∧ (off = 0 → len = xs.length → Rel w (fun _ => False) noEnv (.ro sz ex (AV.frzL xs)) u []) := by
  have hfr := ho.frz (L' := fun _ => False) (fun _ _ h => h.elim) (fun _ _ h => h)
  generalize hx : AV.vec id off len = x at h
  generalize hG0 : ([] : List Nat) = G0 at h
  cases h with
  | vecNil _ _ _ A A' hβ' =>
    injection hx with h1 h2 h3
    subst h1; subst h2; subst h3
    simp only [List.take_zero]
    refine ⟨.roNil _ _ _ _ _ (by simp [capMax]) (fun h => by cases h), fun _ hl => ?_⟩
    have : xs = [] := by cases xs; rfl; simp at hl
    subst this
    exact .roNil _ _ _ _ _ (by simp [capMax]) (fun _ => rfl)
  | vec _ _ _ _ b n c sz' A hβ' hol hA hn =>
    injection hx with h1 h2 h3
    subst h1; subst h2; subst h3
    rw [hβ] at hβ'
    cases hβ'
    simp only [AV.frz] at hfr
    generalize hc1 : (Value.slice (some ⟨b, 0, none⟩) n c) = v at hfr ho
    have hxs : xs.length = n ∧ c ≤ capMax ∧ (ex = true → c = n) := by
      cases ho with
      | ownNil _ _ _ A0 => cases hc1; exact ⟨rfl, by simp [capMax], fun _ => rfl⟩
      | own _ _ _ _ b' c' arr T lo hi Fs hb hfz hs hz hr hc hm he => cases hc1; exact ⟨rfl, hm, he⟩
    obtain ⟨hxn, hcm, hex⟩ := hxs
    by_cases hoc : off < c
    · obtain rfl := hA hoc
      generalize hys : AV.frzL xs = ys at hfr
      have hyl : ys.length = n := by rw [← hys, AV.frzL_eq]; simpa using hxn
      generalize hrr : AV.ro sz ex ys = r at hfr
      generalize hG1 : ([] : List Nat) = G1 at hfr
      cases hfr with
      | ro _ _ _ _ b' o' c' vals hL hz hl hrow hr hc hm he =>
        cases hc1; cases hrr
        have hz2 : ∀ y ∈ (ys.drop off).take len, y.cells.length = sz := fun y hy => hz y (List.mem_of_mem_drop (List.mem_of_mem_take hy))
        have hfl : flatc ((ys.drop off).take len) = ((flatc ys).drop (off * sz)).take (len * sz) := by
          rw [flatc_take (sz := sz) (fun y hy => hz y (List.mem_of_mem_drop hy)), flatc_drop hz]
        have hlen2 : ((ys.drop off).take len).length = len := by simp; omega
        have key := Rel.ro (w := w) (L := fun _ => False) noEnv sz false ((ys.drop off).take len) b (off * sz) (c - off) ((vals.drop (off * sz)).take (len * sz)) (fun _ h => h) hz2
          (by rw [hfl]; simp; omega)
          (by
            intro k u hk
            rw [List.getElem?_take] at hk
            split at hk
            · rw [List.getElem?_drop] at hk
              have := hrow _ _ hk
              simpa using this
            · cases hk)
          (by
            intro k x u hx hu
            rw [hfl, List.getElem?_take] at hx
            rw [List.getElem?_take] at hu
            split at hx
            · rename_i hk
              rw [if_pos hk] at hu
              exact hr (off * sz + k) x u (by simpa using hx) (by simpa using hu)
            · cases hx)
          (by omega) (by omega) (fun h => by cases h)
        rw [hlen2] at key
        refine ⟨key, ?_⟩
        rintro rfl rfl
        have := Rel.ro (w := w) (L := fun _ => False) noEnv sz ex ys b 0 c vals hL hz hl hrow hr hc hm he
        simp only [Nat.zero_mul, Nat.sub_zero]
        rwa [hyl, ← hxn] at this
      | roNil _ _ _ A' c' hcc he =>
        cases hc1; cases hrr
        have hl0 : len = 0 := by omega
        subst hl0
        simp only [List.take_zero]
        refine ⟨.roNil _ _ _ _ _ (by omega) (fun h => by cases h), ?_⟩
        rintro rfl hl
        exact .roNil _ _ _ _ _ (by omega) (fun h => by rw [hex h])
      | _ => cases hrr
    · have hl0 : len = 0 := by omega
      subst hl0
      simp only [List.take_zero]
      refine ⟨.roNil _ _ _ _ _ (by omega) (fun h => by cases h), ?_⟩
      rintro rfl hl
      have : xs = [] := by cases xs; rfl; simp at hl
      subst this
      have hc0 : c = 0 := by omega
      subst hc0
      exact .roNil _ _ _ _ _ (by simp [capMax]) (fun _ => rfl)
  | _ => cases hx

theorem exp_ok (h : Inv X g st a w β F L) : ∀ (n : Nat),
    (∀ (x x' : AV) (u : Value) (G : List Nat), Rel w L β x u G → st.exp n x = some x' → Rel w (fun _ => False) noEnv x' u []) ∧
    (∀ (xs xs' : List AV), st.expL n xs = some xs' → xs'.length = xs.length ∧ ∀ (k : Nat) (y' : AV), xs'[k]? = some y' → ∃ (y : AV) (m : Nat), xs[k]? = some y ∧ m < n ∧ st.exp m y = some y')
  | 0 => ⟨fun x x' u G _ hx => by simp [St.exp] at hx, fun xs xs' hx => by simp [St.expL] at hx⟩
  | n + 1 => by
    obtain ⟨i1, i2⟩ := exp_ok h n
    have mono : ∀ m, m ≤ n → ∀ (x x' : AV) (u : Value) (G : List Nat), Rel w L β x u G → st.exp m x = some x' → Rel w (fun _ => False) noEnv x' u [] := by
      intro m hm
      exact (exp_ok h m).1
    have pureK : ∀ (x : AV) (u : Value) (G : List Nat), Rel w L β x u G → x.free = true → x.pl = true ∨ x = .top → Rel w (fun _ => False) noEnv x u [] := by
      intro x u G hr hf hp
      have : G = [] := by
        rcases hp with hp | rfl
        · exact hr.pl_nil hp
        · cases hr; rfl
      subst this
      exact (hr.env noEnv hf).sub fun _ _ h => h.elim
    have lists : ∀ (cs cs' : List AV) (vals : Array Value) (Fs : Nat → List Nat), cs.length = vals.size → (∀ (k : Nat) (x : AV) (u : Value), cs[k]? = some x → vals[k]? = some u → Rel w L β x u (Fs k)) → st.expL n cs = some cs' →
        cs'.length = vals.size ∧ ∀ (k : Nat) (x : AV) (u : Value), cs'[k]? = some x → vals[k]? = some u → Rel w (fun _ => False) noEnv x u [] := by
      intro cs cs' vals Fs hl hr he
      obtain ⟨e1, e2⟩ := i2 cs cs' he
      refine ⟨by omega, fun k x u hx hu => ?_⟩
      obtain ⟨y, m, hy, hm, hey⟩ := e2 k x hx
      exact mono m (by omega) y x u _ (hr k y u hy hu) hey
    refine ⟨fun x x' u G hr hx => ?_, fun xs xs' hx => ?_⟩
    · cases x with
      | vec id off len =>
        simp only [St.exp] at hx
        have ho := h.obj id
        split at hx
        · rename_i sz ex xs hob
          rw [hob] at ho
          obtain ⟨v, hβ, hown⟩ := ho
          have hG : G = [] := hr.pl_nil rfl
          subst hG
          obtain ⟨k1, k2⟩ := hown.own_ro hβ hr
          simp only [Option.some.injEq] at hx
          subst hx
          cases hb : Nat.beq off 0 && decide (len = xs.length)
          · simpa using k1
          · simp only [Bool.and_eq_true, decide_eq_true_eq] at hb
            simpa using k2 (Nat.eq_of_beq_eq_true hb.1) hb.2
        · cases hx
      | bp id j =>
        simp only [St.exp] at hx
        have ho := h.obj id
        split at hx
        · rename_i cs hob
          rw [hob] at ho
          obtain ⟨b, arr, T, lo, hi, Fs, hβ, hb, hfz, hs, hrr, hF⟩ := ho
          split at hx
          · rename_i cs' he
            cases hx
            cases hr with
            | bp _ _ _ b' hβ' =>
            rw [hβ] at hβ'
            cases hβ'
            obtain ⟨e1, e2⟩ := lists cs cs' arr Fs hs.symm hrr he
            have := Rel.rp (w := w) (L := fun _ => False) noEnv cs' j b 0 arr.toList (fun _ h => h) (by simpa using e1) (by
              intro k u hk
              simp only [Nat.zero_add]
              simp [World.cell?, hb]; simpa using hk) (fun k x u hx hu => e2 k x u hx (by simpa using hu))
            simpa using this
          · cases hx
        · cases hx
      | ep id i j =>
        simp only [St.exp] at hx
        have ho := h.obj id
        split at hx
        · rename_i sz ex xs hob
          rw [hob] at ho
          obtain ⟨v, hβ, hown⟩ := ho
          split at hx
          · rename_i x hxi
            cases hx
            cases hr with
            | ep _ _ _ _ b n' c sz' hβ' =>
            rw [hβ] at hβ'
            cases hβ'
            have hfr := hown.frz (L' := fun _ => False) (fun _ _ h => h.elim) (fun _ _ h => h)
            simp only [AV.frz] at hfr
            generalize hc1 : (Value.slice (some ⟨b, 0, none⟩) n' c) = v at hfr
            generalize hys : AV.frzL xs = ys at hfr
            have hyi : ys[i]? = some x.frz := by rw [← hys, AV.frzL_eq, List.getElem?_map, hxi]; rfl
            generalize hrr : AV.ro sz ex ys = r at hfr
            generalize hG1 : ([] : List Nat) = G1 at hfr
            cases hfr with
            | ro _ _ _ _ b' o' c' vals hL hz hl hrow hr' hc hm he =>
              cases hc1; cases hrr
              have hiy : i < ys.length := (List.getElem?_eq_some_iff.1 hyi).1
              have hxm : x.frz ∈ ys := List.mem_of_getElem? hyi
              have hfx : x.frz.cells = ((flatc ys).drop (i * sz)).take sz := by
                have h1 : (ys.drop i).take 1 = [x.frz] := by
                  rw [List.take_one, List.head?_drop, hyi]; rfl
                have h2 := flatc_take (sz := sz) (xs := ys.drop i) (fun y hy => hz y (List.mem_of_mem_drop hy)) 1
                rw [h1, flatc_drop hz] at h2
                simpa [flatc] using h2
              have hlen : (i + 1) * sz ≤ vals.length := by
                rw [← hl, flatc_length hz]; exact Nat.mul_le_mul_right _ hiy
              have hxl := hz _ hxm
              rw [Nat.succ_mul] at hlen
              have := Rel.rp (w := w) (L := fun _ => False) noEnv x.frz.cells j b (i * sz) ((vals.drop (i * sz)).take sz) (fun _ h => h) (by simp; omega) (by
                intro k u hk
                rw [List.getElem?_take] at hk
                split at hk
                · rw [List.getElem?_drop] at hk
                  simpa using hrow _ _ hk
                · cases hk) (by
                intro k y u hy hu
                rw [hfx, List.getElem?_take] at hy
                rw [List.getElem?_take] at hu
                split at hy
                · rename_i hk
                  rw [if_pos hk] at hu
                  exact hr' (i * sz + k) y u (by simpa using hy) (by simpa using hu)
                · cases hy)
              exact this
            | roNil _ _ _ A' c' hcc he => cases hrr; simp at hyi
            | _ => cases hrr
          · cases hx
        · cases hx
      | agg cs =>
        simp only [St.exp] at hx
        split at hx
        · rename_i cs' he
          cases hx
          cases hr with
          | agg _ _ vals Fs hl hrr =>
          obtain ⟨e1, e2⟩ := lists cs cs' vals Fs hl hrr he
          have := Rel.agg (w := w) (L := fun _ => False) noEnv cs' vals (fun _ => []) e1 e2
          rwa [foots_nil (fun _ _ => rfl)] at this
        · cases hx
      | fn f cs =>
        simp only [St.exp] at hx
        split at hx
        · rename_i cs' he
          cases hx
          cases hr with
          | fn _ _ _ vals hl hrr =>
          obtain ⟨e1, e2⟩ := lists cs cs' vals (fun _ => []) hl hrr he
          exact .fn _ _ _ _ e1 e2
        · cases hx
      | mv f cs =>
        simp only [St.exp] at hx
        split at hx
        · rename_i cs' he
          cases hx
          cases hr with
          | mv _ _ _ vals hl hrr =>
          obtain ⟨e1, e2⟩ := lists cs cs' vals (fun _ => []) hl hrr he
          exact .mv _ _ _ _ e1 e2
        · cases hx
      | own sz ex xs =>
        simp only [St.exp, Option.some.injEq] at hx
        subst hx
        have := hr.frz (L' := fun _ => False) (fun _ _ h => h.elim) (fun _ _ h => h)
        simp only [AV.frz] at this
        exact this.env noEnv rfl
      | tup vs => simp [St.exp] at hx
      | lit v => simp only [St.exp, Option.some.injEq] at hx; subst hx; exact pureK _ _ _ hr rfl (.inl rfl)
      | top => simp only [St.exp, Option.some.injEq] at hx; subst hx; exact .top _ _
      | ro sz ex xs => simp only [St.exp, Option.some.injEq] at hx; subst hx; exact pureK _ _ _ hr rfl (.inl rfl)
      | rp cs j => simp only [St.exp, Option.some.injEq] at hx; subst hx; exact pureK _ _ _ hr rfl (.inl rfl)
    · cases xs with
      | nil => simp only [St.expL, Option.some.injEq] at hx; subst hx; simp
      | cons x xs =>
        simp only [St.expL] at hx
        split at hx
        · rename_i x1 xs1 h1 h2
          simp only [Option.some.injEq] at hx
          subst hx
          obtain ⟨e1, e2⟩ := i2 xs xs1 h2
          refine ⟨by simp [e1], fun k y' hy => ?_⟩
          cases k with
          | zero => simp at hy; subst hy; exact ⟨x, n, rfl, by omega, h1⟩
          | succ k =>
            obtain ⟨y, m, hy1, hm, hy2⟩ := e2 k y' (by simpa using hy)
            exact ⟨y, m, by simpa using hy1, by omega, hy2⟩
        · cases hx

end
end Go.Av

/- The rules of the walk: calls, and many small steps at once. -/
namespace Go.Av
open Go Go.RowKit

section
variable {X : Fx} {g : Gx} {st : St} {a : Act} {w w' : World} {β : Env} {F : Key → List Nat} {L : Nat → Prop} {k : List Item}
variable {ops : Array Oper} {i : Nat} {rest : List Nat} {o : Oper}

theorem Inv.lt (h : Inv X g st a w β F L) : ∀ k b, b ∈ F k → b < w.heap.size := by
  intro k b hb
  cases k with
  | s j => obtain ⟨u', _, hr'⟩ := h.slot j; exact hr'.lt b hb
  | o id =>
    have ho := h.obj id
    revert ho
    cases st.obj id with
    | gone => intro ho; rw [show F (.o id) = [] from ho] at hb; simp at hb
    | vec sz ex xs => rintro ⟨v, _, hr'⟩; exact hr'.lt b hb
    | tie v id' => rintro ⟨h0, _⟩; rw [h0] at hb; simp at hb
    | mp b' kk es =>
      rintro ⟨h0, arr, clock, hb', _⟩
      rw [h0] at hb
      rw [List.mem_singleton.1 hb]
      exact (Array.getElem?_eq_some_iff.1 hb').1
    | mq b' es =>
      rintro ⟨h0, arr, hb', _⟩
      rw [h0] at hb
      rw [List.mem_singleton.1 hb]
      exact (Array.getElem?_eq_some_iff.1 hb').1
    | mem ms =>
      rintro ⟨h0, hm⟩
      rw [h0] at hb
      obtain ⟨e, he, rfl⟩ := List.mem_map.1 hb
      exact (Array.getElem?_eq_some_iff.1 (hm e he)).1
    | box cs =>
      rintro ⟨b0, arr, T', lo, hi, Fs', _, hb0, _, hs, hr', hF⟩
      rw [hF] at hb
      rcases List.mem_cons.1 hb with rfl | hb
      · exact (Array.getElem?_eq_some_iff.1 hb0).1
      · obtain ⟨k, hk, hb'⟩ := mem_foots.1 hb
        exact (hr' k _ _ (List.getElem?_eq_getElem hk) (Array.getElem?_eq_getElem (by omega))).lt b hb'

theorem ev_relT (h : Inv X g st a w β F L) (x : Operand) : ∃ G, Rel w L β (st.ev x) (a.eval x) G := by
  by_cases ht : st.ev x = .top
  · rw [ht]; exact ⟨[], .top _ _⟩
  · exact ev_rel0 h x ht

theorem evT_ok (h : Inv X g st a w β F L) (xs : List Operand) (k : Nat) (y : AV) (u : Value) (hy : (xs.map st.ev)[k]? = some y) (hu : (xs.map a.eval)[k]? = some u) : ∃ G, Rel w L β y u G := by
  rw [List.getElem?_map] at hy hu
  obtain ⟨x, hx, rfl⟩ := Option.map_eq_some_iff.1 hy
  rw [hx] at hu
  obtain rfl := Option.some.inj hu
  exact ev_relT h x

theorem run_call {P : Program} {ρ : Operand → Value} {o : Oper} {fo : Operand} {xs : Array Operand} {ts : Array TypeId} {f : FuncId} {vals : Array Value}
    (hop : o.op = .call ⟨.value fo, xs, ts⟩) (hf : ρ fo = .func (.func f) #[] vals)
    (he : (P.funcs[f]?).map (fun fn => (fn.body.isSome, fn.name == "runtime.NumGoroutine")) = some (true, false)) :
    (execOp ρ o).run P w = .ok (.enter f (xs.map ρ ++ vals)) w := by
  obtain ⟨fn, hfn, e⟩ := Option.map_eq_some_iff.1 he
  simp only [Prod.mk.injEq] at e
  have h1 : ¬ fn.name = "runtime.NumGoroutine" := by simpa using e.2
  have h2 : ¬ fn.body = none := by intro hb; rw [hb] at e; simp at e
  obtain ⟨dst, op, type, pos, after, guard⟩ := o
  simp only at hop
  subst hop
  simp [execOp, resolve, hf, Deferred.ofValue, invoke, callFunc, hfn, h1, h2]

/-- Behind a call that was handed nothing to keep. -/
theorem Inv.called (h : Inv X g st a w β F (Lv g F)) {d : Nat} {res : AV} {v : Value} {G : List Nat} (hk : Kp [] w w') (hG : G.Nodup) (hGr : ∀ b ∈ G, w.heap.size ≤ b)
    (hR : Rel w' (fun b => Lv g F b ∨ b ∈ G) β res v G) (hd : d < X.fn.ntmps) (hp : d ∉ X.pins) : SR X g (st.put d res) (a.put (some d) v) w' := by
  have h1 : Inv X g st a w' β F (fun b => Lv g F b ∨ b ∈ G) :=
    h.world (M := fun _ => False) (h.kp.trans hk (by simp)) (fun b hb _ => hk.block b hb (by simp)) (fun _ h => h.elim)
      (by rintro b hb (h | h); exact h; have := hGr b h; omega) (fun _ _ _ h => h)
  refine ⟨_, _, (h1.put hd hp hR hG (fun k _ b hb hb' => ?_) (fun b hb => .inr (Nat.le_trans h.kp.size (hGr b hb)))).setL fun b _ hb => ?_⟩
  · have := h.lt k b hb'; have := hGr b hb; omega
  · refine Lv_sub (L := fun b => Lv g F b ∨ b ∈ G) hb (fun k hk => ?_) (fun h => Or.inl (Or.inl h))
    by_cases e : k = .s d
    · subst e; rw [updF_same] at hk; exact .inr hk
    · rw [updF_ne _ e] at hk; exact .inl (Lv_of hk)

theorem ct_res {w : World} {L : Nat → Prop} {β : Env} {res v : _} {outs : List AV} {vs : Array Value} {F' : List Nat} (hn : F'.Nodup)
    (h : Rel w L β (.tup (res :: outs)) (.tuple (#[v] ++ vs)) F') : ∃ G, G.Nodup ∧ (∀ b ∈ G, b ∈ F') ∧ Rel w L β res v G := by
  cases h with
  | tup _ _ _ Fs hl hr =>
    refine ⟨Fs 0, (foots_nodup hn 0 (by simp)).1, fun b hb => foots_sub (by simp) hb, hr 0 res v rfl ?_⟩
    rw [Array.getElem?_append_left (by simp)]; rfl

/-- Whether the operation is carried out: its guard. -/
def guardOf (ops : Array Oper) (st : St) (o : Oper) : Option Bool :=
  match o.guard with
  | none => some true
  | some (j, want) => match ops[j]? with
    | some oj => match oj.dst with
      | some d => match st.get d with
        | .lit (.bool true) => some want
        | .lit (.bool false) => some (!want)
        | .lit (.tuple _) => some false
        | _ => none
      | none => none
    | none => none

theorem guardOf_ok {ops : Array Oper} {st : St} {o : Oper} {b : Bool} (h : guardOf ops st o = some b) (a : Act) (w : World) (hI : SR X g st a w) :
    Region.wanted o (yielded ops a.tmps) = b := by
  obtain ⟨β, F, hI⟩ := hI
  unfold guardOf at h
  split at h
  · rename_i hg
    cases h
    simp [Region.wanted, hg]
  · rename_i j want hg
    split at h
    · rename_i oj hoj
      split at h
      · rename_i d hd
        have key : ∀ c, st.get d = .lit (.bool c) → yielded ops a.tmps j = some c := by
          intro c hc
          obtain ⟨u, hu, hr⟩ := hI.slot d
          rw [hc] at hr hu
          have hu := hu.resolve_right (by simp)
          generalize F (.s d) = G at hr
          cases hr
          simp [yielded, hoj, hd, hu]
        split at h
        · rename_i hc
          obtain rfl := Option.some.inj h
          simp only [Region.wanted, hg, key _ hc]
          cases want <;> rfl
        · rename_i hc
          obtain rfl := Option.some.inj h
          simp only [Region.wanted, hg, key _ hc]
          cases want <;> rfl
        · rename_i vs hc
          obtain rfl := Option.some.inj h
          have hy : yielded ops a.tmps j = none := by
            obtain ⟨u, hu, hr⟩ := hI.slot d
            rw [hc] at hr hu
            have hu := hu.resolve_right (by simp)
            generalize F (.s d) = G at hr
            cases hr
            simp [yielded, hoj, hd, hu]
          simp only [Region.wanted, hg, hy]
          cases want <;> rfl
        · cases h
      · cases h
    · cases h

/-- A call whose arguments are read meanwhile, and whose result has no memory but of its own. -/
theorem Run.callsA {d : Nat} {fo : Operand} {xs : Array Operand} {ts : Array TypeId} {f : FuncId} {caps ps qs : List AV} {res : AV} {outs : List AV}
    (ho : ops[i]? = some o) (hg : guardOf ops st o = some true) (hd : o.dst = some d) (hop : o.op = .call ⟨.value fo, xs, ts⟩) (hf : st.ev fo = .fn f caps)
    (hps : st.expL 40 (xs.toList.map st.ev ++ caps) = some ps) (hqs : ps = qs) (hct : CtAt g X.P f qs res outs) (hrf : res.rf = true)
    (hdn : d < X.fn.ntmps) (hpin : d ∉ X.pins) (h : Run X g (.inRegion ops rest :: k) (st.put d res)) : Run X g (.inRegion ops (i :: rest) :: k) st := by
  subst hqs
  refine Run.opc ho (fun a w hI => guardOf_ok hg a w hI) ?_ h
  rintro hX a w ⟨β, F, hI⟩
  have hfr := ev_rel hI fo (by rw [hf]; rfl)
  rw [hf] at hfr
  generalize hfv : a.eval fo = fv at hfr
  cases hfr with
  | fn _ _ _ vals hl hr =>
  refine ⟨f, xs.map a.eval ++ vals, w, run_call hop hfv hct.enters, ?_⟩
  obtain ⟨e1, e2⟩ := (exp_ok hI 40).2 _ _ hps
  have hargs : Rel w (fun b => False ∨ b ∈ ([] : List Nat)) noEnv (.tup ps) (.tuple (xs.map a.eval ++ vals)) [] := by
    have := Rel.tup (w := w) (L := fun b => False ∨ b ∈ ([] : List Nat)) noEnv ps (xs.map a.eval ++ vals) (fun _ => []) (by simp [e1, hl]) (by
      intro k y' u hy hu
      obtain ⟨y, m, hy1, hm, hy2⟩ := e2 k y' hy
      have : ∃ G, Rel w (Lv g F) β y u G := by
        by_cases hk : k < xs.size
        · rw [List.getElem?_append_left (by simpa using hk)] at hy1
          rw [Array.getElem?_append_left (by simpa using hk)] at hu
          exact evT_ok hI xs.toList k y u hy1 (by simpa using hu)
        · rw [List.getElem?_append_right (by simpa using hk)] at hy1
          rw [Array.getElem?_append_right (by simpa using hk)] at hu
          exact ⟨_, hr (k - xs.size) y u (by simpa using hy1) (by simpa using hu)⟩
      obtain ⟨G, hG⟩ := this
      exact ((exp_ok hI m).1 y y' u G hG hy2).sub (by simp))
    rwa [foots_nil (fun _ _ => rfl)] at this
  refine (hct.calls w (fun _ => False) _ [] hI.kp (by simp) (fun _ h => h.elim) (by simp) hargs).mono ?_
  rintro e w' ⟨v, F', rfl, hk, hn, hr', hR⟩
  obtain ⟨G, hG, hGs, hRes⟩ := ct_res hn hR
  refine ⟨v, rfl, ?_⟩
  rw [hd]
  exact hI.called hk hG (fun b hb => by simpa using hr' b (hGs b hb)) ((hRes.anyL _ hrf).of_noEnv rfl β) hdn hpin

theorem Run.calls {d : Nat} {fo : Operand} {xs : Array Operand} {ts : Array TypeId} {f : FuncId} {caps ps qs : List AV} {res : AV} {outs : List AV}
    (ho : ops[i]? = some o) (hg : guardOf ops st o = some true) (hd : o.dst = some d) (hop : o.op = .call ⟨.value fo, xs, ts⟩) (hf : st.ev fo = .fn f caps)
    (hps : st.expL 40 (xs.toList.map st.ev ++ caps) = some ps) (hqs : ps = qs) (hct : Ct X.P f qs res outs) (hrf : res.rf = true)
    (hdn : d < X.fn.ntmps) (hpin : d ∉ X.pins) (h : Run X g (.inRegion ops rest :: k) (st.put d res)) : Run X g (.inRegion ops (i :: rest) :: k) st :=
  Run.callsA ho hg hd hop hf hps hqs hct.at hrf hdn hpin h

/-- A call whose arguments have nothing of the running call's own. -/
theorem Run.callpA {d : Nat} {fo : Operand} {xs : Array Operand} {ts : Array TypeId} {f : FuncId} {caps ps qs : List AV} {res : AV} {outs : List AV}
    (ho : ops[i]? = some o) (hg : guardOf ops st o = some true) (hd : o.dst = some d) (hop : o.op = .call ⟨.value fo, xs, ts⟩) (hf : st.ev fo = .fn f caps)
    (hps : evs st xs.toList = some ps) (hfree : AV.freeL ps = true) (hcf : AV.freeL caps = true) (hqs : ps ++ caps = qs) (hct : CtAt g X.P f qs res outs)
    (hdn : d < X.fn.ntmps) (hpin : d ∉ X.pins) (h : Run X g (.inRegion ops rest :: k) (st.put d res)) : Run X g (.inRegion ops (i :: rest) :: k) st := by
  subst hqs
  refine Run.opc ho (fun a w hI => guardOf_ok hg a w hI) ?_ h
  rintro hX a w ⟨β, F, hI⟩
  have hfr := ev_rel hI fo (by rw [hf]; rfl)
  rw [hf] at hfr
  generalize hfv : a.eval fo = fv at hfr
  cases hfr with
  | fn _ _ _ vals hl hr =>
  refine ⟨f, xs.map a.eval ++ vals, w, run_call hop hfv hct.enters, ?_⟩
  obtain ⟨e1, e2⟩ := evs_ok hI _ _ hps
  have hsz : ps.length = xs.size := by simpa using e1
  have hargs : Rel w (fun b => Lv g F b ∨ b ∈ ([] : List Nat)) noEnv (.tup (ps ++ caps)) (.tuple (xs.map a.eval ++ vals)) [] := by
    have := Rel.tup (w := w) (L := fun b => Lv g F b ∨ b ∈ ([] : List Nat)) noEnv (ps ++ caps) (xs.map a.eval ++ vals) (fun _ => []) (by simp [hsz, hl]) (by
      intro k y u hy hu
      by_cases hk : k < xs.size
      · rw [List.getElem?_append_left (by omega)] at hy
        rw [Array.getElem?_append_left (by simpa using hk)] at hu
        exact ((e2 k y u hy (by simpa using hu)).env noEnv (AV.freeL_get hfree k y hy)).sub (by simp)
      · rw [List.getElem?_append_right (by omega)] at hy
        rw [Array.getElem?_append_right (by simpa using hk)] at hu
        rw [hsz] at hy
        exact ((hr (k - xs.size) y u hy (by simpa using hu)).env noEnv (AV.freeL_get hcf _ y hy)).sub (by simp))
    rwa [foots_nil (fun _ _ => rfl)] at this
  have hLlt : ∀ b, Lv g F b → b < w.heap.size ∧ b ∉ ([] : List Nat) := by
    rintro b (hb | ⟨k, hb⟩)
    · exact ⟨Nat.lt_of_lt_of_le (g.hL b hb).1 hI.kp.size, by simp⟩
    · exact ⟨hI.lt k b hb, by simp⟩
  refine (hct.calls w (Lv g F) _ [] hI.kp (by simp) hLlt (by simp) hargs).mono ?_
  rintro e w' ⟨v, F', rfl, hk, hn, hr', hR⟩
  obtain ⟨G, hG, hGs, hRes⟩ := ct_res hn hR
  refine ⟨v, rfl, ?_⟩
  rw [hd]
  refine hI.called hk hG (fun b hb => by simpa using hr' b (hGs b hb)) ((hRes.of_noEnv rfl β).sub ?_) hdn hpin
  rintro b _ (hb | hb)
  · exact .inl hb
  · exact .inr (hGs b hb)

theorem Run.callp {d : Nat} {fo : Operand} {xs : Array Operand} {ts : Array TypeId} {f : FuncId} {caps ps qs : List AV} {res : AV} {outs : List AV}
    (ho : ops[i]? = some o) (hg : guardOf ops st o = some true) (hd : o.dst = some d) (hop : o.op = .call ⟨.value fo, xs, ts⟩) (hf : st.ev fo = .fn f caps)
    (hps : evs st xs.toList = some ps) (hfree : AV.freeL ps = true) (hcf : AV.freeL caps = true) (hqs : ps ++ caps = qs) (hct : Ct X.P f qs res outs)
    (hdn : d < X.fn.ntmps) (hpin : d ∉ X.pins) (h : Run X g (.inRegion ops rest :: k) (st.put d res)) : Run X g (.inRegion ops (i :: rest) :: k) st :=
  Run.callpA ho hg hd hop hf hps hfree hcf hqs hct.at hdn hpin h

/-- A call's place, function and arguments, read meanwhile. -/
def callS (X : Fx) (ops : Array Oper) (st : St) (i : Nat) : Option (Nat × FuncId × List AV) :=
  match ops[i]? with
  | some o => match guardOf ops st o, o.dst, o.op with
    | some true, some d, .call ⟨.value fo, xs, _⟩ => match st.ev fo with
      | .fn f caps => match st.expL 40 (xs.toList.map st.ev ++ caps) with
        | some ps => bif Nat.blt d X.fn.ntmps && !(X.pins.contains d) then some (d, f, ps) else none
        | none => none
      | _ => none
    | _, _, _ => none
  | none => none

theorem Run.csA {d : Nat} {f : FuncId} {ps qs : List AV} {res : AV} {outs : List AV} (hs : callS X ops st i = some (d, f, ps)) (hct : CtAt g X.P f qs res outs) (hqs : ps = qs) (hrf : res.rf = true)
    (h : Run X g (.inRegion ops rest :: k) (st.put d res)) : Run X g (.inRegion ops (i :: rest) :: k) st := by
  unfold callS at hs
  split at hs
  · rename_i o ho
    split at hs
    · rename_i d' fo xs ts hg hd hop
      split at hs
      · rename_i f' caps hf
        split at hs
        · rename_i ps' hps
          by_cases hc : (Nat.blt d' X.fn.ntmps && !(X.pins.contains d')) = true
          · rw [hc] at hs
            simp only [cond_true, Option.some.injEq, Prod.mk.injEq] at hs
            obtain ⟨rfl, rfl, rfl⟩ := hs
            simp only [Bool.and_eq_true, Bool.not_eq_true'] at hc
            refine Run.callsA ho hg hd hop hf hps hqs hct hrf (Nat.le_of_ble_eq_true hc.1) ?_ h
            intro hm
            have := hc.2
            simp [hm] at this
          · simp only [Bool.not_eq_true] at hc; rw [hc] at hs; simp at hs
        · cases hs
      · cases hs
    · cases hs
  · cases hs

theorem Run.cs {d : Nat} {f : FuncId} {ps qs : List AV} {res : AV} {outs : List AV} (hs : callS X ops st i = some (d, f, ps)) (hct : Ct X.P f qs res outs) (hqs : ps = qs) (hrf : res.rf = true)
    (h : Run X g (.inRegion ops rest :: k) (st.put d res)) : Run X g (.inRegion ops (i :: rest) :: k) st := Run.csA hs hct.at hqs hrf h

/-! ### Many small steps at once -/

theorem contains_iff {d : Nat} {l : List Nat} : l.contains d = false → d ∉ l := by
  intro h hm
  rw [List.contains_iff_mem.2 hm] at h
  cases h

/-- One small step. -/
def pstep (X : Fx) (K : List Item) (st : St) : Option (List Item × St) :=
  match K with
  | .inRegion ops (i :: rest) :: k => match ops[i]? with
    | some o => match guardOf ops st o with
      | some true => match o.dst with
        | some d => match aop X.T st o.op with
          | some v => bif Nat.blt d X.fn.ntmps && !(X.pins.contains d) then some (.inRegion ops rest :: k, st.put d v) else none
          | none => match o.op with
            | .box _ x => bif (st.ev x).okc && (st.ev x).pl && st.nrf (d, 0) && (st.ev x).nrf (d, 0) && Nat.blt d X.fn.ntmps && !(X.pins.contains d) then
                some (.inRegion ops rest :: k, (st.setObj (d, 0) (.box (st.ev x).cells)).put d (.bp (d, 0) 0)) else none
            | .alloc t => match X.T t with
              | some ti => bif oneL (ti.zero.map .lit) && st.nrf (d, 0) && Nat.blt d X.fn.ntmps && !(X.pins.contains d) then
                  some (.inRegion ops rest :: k, (st.setObj (d, 0) (.box (ti.zero.map .lit))).put d (.bp (d, 0) 0)) else none
              | none => none
            | _ => none
        | none => match o.op with
          | .store t p x => match X.T t, st.ev p with
            | some ti, .bp id j => match st.obj id with
              | .box cs => bif (st.ev x).okc && (st.ev x).pl && Nat.beq (st.ev x).cells.length ti.sz && Nat.ble (j + ti.sz) cs.length then
                  some (.inRegion ops rest :: k, st.setObj id (.box (putAt cs j (st.ev x).cells))) else none
              | _ => none
            | _, _ => none
          | _ => none
      | some false => match o.dst with
        | some d => bif Nat.blt d X.fn.ntmps && !(X.pins.contains d) then some (.inRegion ops rest :: k, st.put d (.lit undef)) else none
        | none => some (.inRegion ops rest :: k, st)
      | none => none
    | none => none
  | K => match cstep K with
    | some K' => some (K', st)
    | none => none

theorem blt_lt {d n : Nat} (h : Nat.blt d n = true) : d < n := by
  have := Nat.le_of_ble_eq_true h; omega

theorem Run.step {K K' : List Item} {st st' : St} (hs : pstep X K st = some (K', st')) (h : Run X g K' st') : Run X g K st := by
  unfold pstep at hs
  split at hs
  · rename_i ops i rest k
    split at hs
    · rename_i o ho
      split at hs
      · rename_i hgd
        have hw := fun a w hI => guardOf_ok (X := X) (g := g) hgd a w hI
        split at hs
        · rename_i d hd
          split at hs
          · rename_i v hv
            by_cases hc : (Nat.blt d X.fn.ntmps && !(X.pins.contains d)) = true
            · rw [hc] at hs
              simp only [cond_true, Option.some.injEq, Prod.mk.injEq] at hs
              obtain ⟨rfl, rfl⟩ := hs
              simp only [Bool.and_eq_true, Bool.not_eq_true'] at hc
              refine Run.op ho hw ?_ h
              rintro hX a w ⟨β, F, hI⟩
              obtain ⟨u, hu, hR⟩ := aop_ok hX hI hv
              refine ⟨u, w, .inl (hu w (Kp.refl _ _)), ?_⟩
              rw [hd]
              exact hI.putv (blt_lt hc.1) (contains_iff hc.2) hR
            · simp only [Bool.not_eq_true] at hc; rw [hc] at hs; simp at hs
          · split at hs
            · rename_i t x hop
              by_cases hc : ((st.ev x).okc && (st.ev x).pl && st.nrf (d, 0) && (st.ev x).nrf (d, 0) && Nat.blt d X.fn.ntmps && !(X.pins.contains d)) = true
              · rw [hc] at hs
                simp only [cond_true, Option.some.injEq, Prod.mk.injEq] at hs
                obtain ⟨rfl, rfl⟩ := hs
                simp only [Bool.and_eq_true, Bool.not_eq_true'] at hc
                obtain ⟨⟨⟨⟨⟨h1, h2⟩, h3⟩, h4⟩, h5⟩, h6⟩ := hc
                refine Run.op ho hw ?_ h
                intro hX a w hI
                obtain ⟨u, w', hu, hI'⟩ := hI.boxv (T := t) h1 h2 h3 h4 (blt_lt h5) (contains_iff h6)
                refine ⟨u, w', .inl ?_, by rw [hd]; exact hI'⟩
                simp [execOp, hop, hu]
              · simp only [Bool.not_eq_true] at hc; rw [hc] at hs; simp at hs
            · rename_i t hop
              split at hs
              · rename_i ti hti
                by_cases hc : (oneL (ti.zero.map .lit) && st.nrf (d, 0) && Nat.blt d X.fn.ntmps && !(X.pins.contains d)) = true
                · rw [hc] at hs
                  simp only [cond_true, Option.some.injEq, Prod.mk.injEq] at hs
                  obtain ⟨rfl, rfl⟩ := hs
                  simp only [Bool.and_eq_true, Bool.not_eq_true'] at hc
                  obtain ⟨⟨⟨h1, h3⟩, h5⟩, h6⟩ := hc
                  refine Run.op ho hw ?_ h
                  intro hX a w hI
                  obtain ⟨u, w', hu, hI'⟩ := hI.allocv hX hti h1 h3 (blt_lt h5) (contains_iff h6)
                  refine ⟨u, w', .inl ?_, by rw [hd]; exact hI'⟩
                  simp [execOp, hop, hu]
                · simp only [Bool.not_eq_true] at hc; rw [hc] at hs; simp at hs
              · cases hs
            · cases hs
        · rename_i hd
          split at hs
          · rename_i t p x hop
            split at hs
            · rename_i ti id j hti hp
              split at hs
              · rename_i cs hob
                by_cases hc : ((st.ev x).okc && (st.ev x).pl && Nat.beq (st.ev x).cells.length ti.sz && Nat.ble (j + ti.sz) cs.length) = true
                · rw [hc] at hs
                  simp only [cond_true, Option.some.injEq, Prod.mk.injEq] at hs
                  obtain ⟨rfl, rfl⟩ := hs
                  simp only [Bool.and_eq_true] at hc
                  obtain ⟨⟨⟨h1, h2⟩, h3⟩, h4⟩ := hc
                  refine Run.op ho hw ?_ h
                  intro hX a w hI
                  obtain ⟨w', hu, hI'⟩ := hI.storev hX hti hp hob h1 h2 (Nat.eq_of_beq_eq_true h3) (Nat.le_of_ble_eq_true h4)
                  refine ⟨undef, w', .inr ⟨?_, rfl⟩, by rw [hd]; exact hI'⟩
                  simp [execOp, hop, hu]
                · simp only [Bool.not_eq_true] at hc; rw [hc] at hs; simp at hs
              · cases hs
            · cases hs
          · cases hs
      · rename_i hgd
        have hw := fun a w hI => guardOf_ok (X := X) (g := g) hgd a w hI
        split at hs
        · rename_i d hd
          by_cases hc : (Nat.blt d X.fn.ntmps && !(X.pins.contains d)) = true
          · rw [hc] at hs
            simp only [cond_true, Option.some.injEq, Prod.mk.injEq] at hs
            obtain ⟨rfl, rfl⟩ := hs
            simp only [Bool.and_eq_true, Bool.not_eq_true'] at hc
            refine Run.op_off ho hw ?_ h
            rintro a w ⟨β, F, hI⟩
            rw [hd]
            exact hI.putv (blt_lt hc.1) (contains_iff hc.2) (.lit _ _)
          · simp only [Bool.not_eq_true] at hc; rw [hc] at hs; simp at hs
        · rename_i hd
          cases hs
          refine Run.op_off ho hw ?_ h
          intro a w hI
          rw [hd]; exact hI
      · cases hs
    · cases hs
  · split at hs
    · rename_i hc
      cases hs
      exact Run.ctl hc h
    · cases hs

theorem Run.shown {K : List Item} {st : St} (h : Nxt (X := X) (g := g) (K := K) st) : Run X g K st := h
theorem Run.of {K : List Item} {st st' : St} (h : Nxt (X := X) (g := g) (K := K) st') (h1 : leS st'.sl st) (h2 : leO st'.ob st) : Run X g K st := Run.le (St.Le.mk' h1 h2) h

def isTop : AV → Bool
  | .top => true
  | _ => false
def nodupK : List Key → Bool
  | [] => true
  | k :: r => !(r.any fun k' => decide (k = k')) && nodupK r
theorem nodupK_ok {l : List Key} (h : nodupK l = true) : l.Nodup := by
  induction l with
  | nil => simp
  | cons k r ih =>
    simp only [nodupK, Bool.and_eq_true, Bool.not_eq_true', List.any_eq_false] at h
    refine List.nodup_cons.2 ⟨fun hm => ?_, ih h.2⟩
    have := h.1 k hm
    simp at this

/-- What is returned. -/
def retOf (X : Fx) (st : St) : Option AV :=
  let l := X.fn.results.toList
  bif (l.all fun rv => !(isTop (st.rv X.T rv)) && (st.rv X.T rv).free) && nodupK (l.map st.rkey) then some (retV (l.map (st.rv X.T))) else none

theorem retOf_ok {r : AV} (h : retOf X st = some r) : (∀ rv ∈ X.fn.results.toList, st.rv X.T rv ≠ .top ∧ (st.rv X.T rv).free = true) ∧ (X.fn.results.toList.map st.rkey).Nodup ∧ retV (X.fn.results.toList.map (st.rv X.T)) = r := by
  unfold retOf at h
  simp only at h
  by_cases hc : ((X.fn.results.toList.all fun rv => !(isTop (st.rv X.T rv)) && (st.rv X.T rv).free) && nodupK (X.fn.results.toList.map st.rkey)) = true
  · rw [hc] at h
    simp only [cond_true, Option.some.injEq] at h
    simp only [Bool.and_eq_true, List.all_eq_true] at hc
    refine ⟨fun rv hrv => ?_, nodupK_ok hc.2, h⟩
    have := hc.1 rv hrv
    refine ⟨fun e => ?_, this.2⟩
    rw [e] at this
    simp [isTop] at this
  · simp only [Bool.not_eq_true] at hc
    rw [hc] at h
    cases h

/-- The return. -/
theorem Run.ret {r res : AV} (hg : g.Post = PostOf g res []) (hr : retOf X st = some r) (he : r = res) : Run X g (.code .ret :: k) st := by
  obtain ⟨h1, h2, h3⟩ := retOf_ok hr
  exact Run.ret' hg fun hX a w hI => ret_post hX h1 h2 (h3.trans he) (by simp) (by simp) hI
theorem Run.fin {r res : AV} (hg : g.Post = PostOf g res []) (hr : retOf X st = some r) (he : r = res) : Run X g [] st := by
  obtain ⟨h1, h2, h3⟩ := retOf_ok hr
  exact Run.end' hg fun hX a w hI => ret_post hX h1 h2 (h3.trans he) (by simp) (by simp) hI

theorem SR.slotb {a : Act} {w : World} {d : Nat} {b c : Bool} (hb : st.get d = .lit (.bool b)) (hc : b = c) (h : SR X g st a w) : SR X g (st.put d (.lit (.bool c))) a w := by
  subst hc
  refine h.conv (fun w L β u G hr => ?_) (by rw [hb]; simp)
  rw [hb] at hr
  have hG := hr.pl_nil rfl
  exact ⟨G, fun _ h => h, by rw [hG]; simp, hr⟩

/-- A bool that is known by its sign is taken apart. -/
theorem Run.bool {K : List Item} (d : Nat) {b : Bool} (hb : st.get d = .lit (.bool b)) (ht : b = true → Run X g K (st.put d (.lit (.bool true))))
    (hf : b = false → Run X g K (st.put d (.lit (.bool false)))) : Run X g K st := by
  cases hbb : b with
  | true => exact Run.ghost (fun a w hI => hI.slotb hb hbb) (ht hbb)
  | false => exact Run.ghost (fun a w hI => hI.slotb hb hbb) (hf hbb)

end

def lookT : List (Nat × TI) → Nat → Option TI
  | [], _ => none
  | (k, i) :: r, t => bif Nat.beq k t then some i else lookT r t

theorem lookT_ok {P : Program} {l : List (Nat × TI)} (h : ∀ e ∈ l, TyOk P e.1 e.2) : ∀ t i, lookT l t = some i → TyOk P t i := by
  induction l with
  | nil => intro t i h'; cases h'
  | cons e l ih =>
    intro t i h'
    obtain ⟨k, j⟩ := e
    simp only [lookT] at h'
    cases hb : Nat.beq k t
    · rw [hb] at h'
      exact ih (fun e he => h e (by simp [he])) t i h'
    · rw [hb] at h'
      simp only [cond_true, Option.some.injEq] at h'
      obtain rfl := Nat.eq_of_beq_eq_true hb
      subst h'
      exact h (k, j) (by simp)

end Go.Av
