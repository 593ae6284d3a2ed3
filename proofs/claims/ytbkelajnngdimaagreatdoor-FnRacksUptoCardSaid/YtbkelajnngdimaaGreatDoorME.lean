/- Parts of a proof, in one text: B10, B11, B12, B13, B14, B15, B16, B17, B18, B19. -/
import Derived.Test.YtbkelajnngdimaaGreatDoorMC
import Derived.Test.YtbkelajnngdimaaGreatDoorMD
import Derived.Test.YtbkelajnngdimaaGreatDoorMF
set_option linter.unusedVariables false

/- Contracts of the program's functions, and what follows from them. -/
set_option maxRecDepth 100000
namespace Go.Proofs.YtbkelajnngdimaaGreatDoor
open Go Go.Av
def rsP (l : List Int) (j : Nat) : Bool := decide (l.getD j 0 < l.getD (j + 1) 0)
def rs (l : List Int) : Bool := (List.range (l.length - 1)).all (rsP l)
noncomputable def X83 : Fx := ⟨Tryz.prog, tys, 83, Tryz.f83, [0]⟩
theorem X83_ok : X83.Ok := ⟨Tryz.func83, tys_ok⟩
theorem rises_ct (l : List Int) (ex : Bool) (hlen : l.length ≤ 1048576) : Ct Tryz.prog 83 [.ro 1 ex (l.map i64)] (bo (rs l)) [] := by
  refine Ct.intro X83 X83_ok rfl rfl rfl rfl fun g hg => ?_
  repeat (refine Run.go rfl ?_)
  refine Run.loop (fun j : Nat => ⟨[(0, .ro 1 ex (l.map i64)), (3, i64 ((j + 1 : Nat) : Int))], []⟩) (fun j => j ≤ l.length - 1 ∧ ∀ i, i < j → rsP l i = true) (fun j => l.length - 1 - j) 0 ⟨by omega, fun i h => by omega⟩ ?_ ?_
  · exact St.Le.mk' ⟨rfl, rfl, trivial⟩ trivial
  rintro j ⟨hj, hall⟩ IH
  repeat (refine Run.go rfl ?_)
  refine Run.cond rfl (fun h => ?_) (fun h => ?_)
  · have hlt : j + 1 < l.length := by simp at h; omega
    have hp : rsP l j = decide (l[j] < l[j + 1]) := by simp [rsP, hlt, Nat.lt_of_succ_lt hlt]
    repeat (refine Run.go rfl ?_)
    refine Run.draw (by kernel_rfl) (by decide +kernel) ?_
    repeat (refine Quiet.go rfl ?_)
    rw [show IntKind.i64.wrap (((j + 1 : Nat) : Int) - 1) = (j : Int) by rw [wrap_i64 (by omega) (by omega)]; omega]
    refine Quiet.val rfl rfl (ValOk.idx (i64 l[j]) rfl rfl rfl rfl rfl (by omega) (by simp only [Int.toNat_natCast, List.getElem?_map, List.getElem?_eq_getElem (Nat.lt_of_succ_lt hlt), Option.map_some])) rfl ?_
    repeat (refine Quiet.go rfl ?_)
    refine Quiet.val rfl rfl (ValOk.idx (i64 l[j + 1]) rfl rfl rfl rfl rfl (by omega) (by simp only [Int.toNat_natCast, List.getElem?_map, List.getElem?_eq_getElem hlt, Option.map_some])) rfl ?_
    repeat (refine Quiet.go rfl ?_)
    refine Quiet.nil ?_
    repeat (refine Run.go rfl ?_)
    refine Run.cond rfl (fun h => ?_) (fun h => ?_)
    · have h : l[j + 1] ≤ l[j] := of_decide_eq_true h
      repeat (refine Run.go rfl ?_)
      refine Run.ret hg rfl ?_
      have : rs l = false := by
        rw [rs, List.all_eq_false]
        exact ⟨j, List.mem_range.mpr (by omega), by rw [hp]; simp; omega⟩
      rw [this]
      rfl
    · have h : ¬ l[j + 1] ≤ l[j] := of_decide_eq_false h
      repeat (refine Run.go rfl ?_)
      refine Run.of (IH (j + 1) ⟨by omega, fun i hi => ?_⟩ (by omega)) ⟨rfl, ?_, trivial⟩ trivial
      · by_cases e : i = j
        · rw [e, hp]; exact decide_eq_true (by omega)
        · exact hall i (by omega)
      · show i64 _ = _
        rw [wrap_i64 (by omega) (by omega)]
        rfl
  · have hj' : l.length - 1 ≤ j := by simp at h; omega
    repeat (refine Run.go rfl ?_)
    refine Run.ret hg rfl ?_
    have : rs l = true := by
      rw [rs, List.all_eq_true]
      intro i hi
      exact hall i (by have := List.mem_range.mp hi; omega)
    rw [this]
    rfl
end Go.Proofs.YtbkelajnngdimaaGreatDoor

/- Contracts of the program's functions, and what follows from them. -/
set_option maxRecDepth 100000
namespace Go.Proofs.YtbkelajnngdimaaGreatDoor
open Go Go.Av
def fst (n : Nat) (q : Nat → Bool) : Nat := (List.range n).findIdx q
def bof (b : Bool) : AV := bo b
def isIn (out : List Int) (i : Nat) : Bool := out.any fun x => x == (i : Int)
theorem frzBo (l : List Bool) : AV.frzL (l.map bof) = l.map bof := frzL_map (fun _ => rfl) l
def mfst (l : List Bk) (like : Bk → Bk → Bool) (out : List Int) (w : Bk) : Nat := fst l.length fun i => !isIn out i && like (l.getD i bk0) w
def ms (l ws : List Bk) (like : Bk → Bk → Bool) : Nat → List Int × Bool
  | 0 => ([], true)
  | j + 1 => if (ms l ws like j).2 then (if mfst l like (ms l ws like j).1 (ws.getD j bk0) < l.length then ((ms l ws like j).1 ++ [(mfst l like (ms l ws like j).1 (ws.getD j bk0) : Int)], true) else ((ms l ws like j).1, false)) else ms l ws like j
end Go.Proofs.YtbkelajnngdimaaGreatDoor

/- Contracts of the program's functions, and what follows from them. -/
set_option maxRecDepth 100000
namespace Go.Proofs.YtbkelajnngdimaaGreatDoor
open Go Go.Av
end Go.Proofs.YtbkelajnngdimaaGreatDoor

/- Contracts of the program's functions, and what follows from them. -/
set_option maxRecDepth 100000
namespace Go.Proofs.YtbkelajnngdimaaGreatDoor
open Go Go.Av
def scode (a b : List Bk) : Int := if stCode a b = 0 then (if sameP a b then 0 else 8) else stCode a b
theorem countP_add {p : Nat → Bool} {k : Nat} (hk : p k = false) (n : Nat) : (List.range n).countP (fun i => p i || i == k) = (List.range n).countP p + (if k < n then 1 else 0) := by
  induction n with
  | zero => simp
  | succ n ih =>
    rw [List.range_succ, List.countP_append, List.countP_append, ih, List.countP_singleton, List.countP_singleton]
    by_cases e : n = k
    · subst e
      simp [hk]
    · have e' : (n == k) = false := by simpa using e
      rw [e', Bool.or_false]
      generalize (if p n = true then 1 else 0) = z
      by_cases h1 : k < n
      · rw [if_pos h1, if_pos (show k < n + 1 by omega)]
        omega
      · rw [if_neg h1, if_neg (show ¬ k < n + 1 by omega)]
        omega
end Go.Proofs.YtbkelajnngdimaaGreatDoor

/- Contracts of the program's functions, and what follows from them. -/
set_option maxRecDepth 100000
namespace Go.Proofs.YtbkelajnngdimaaGreatDoor
open Go Go.Av
theorem take_snoc_eq {a b : List Bk} {j : Nat} (ha : j < a.length) (hb : j < b.length) (h : a.take j = b.take j) (he : a[j] = b[j]) : a.take (j + 1) = b.take (j + 1) := by
  rw [List.take_succ_eq_append_getElem ha, List.take_succ_eq_append_getElem hb, h, he]
noncomputable def X180 : Fx := ⟨Tryz.prog, tys, 180, Tryz.f180, [0, 1]⟩
theorem X180_ok : X180.Ok := ⟨Tryz.func180, tys_ok⟩
theorem eqBk_ct (a b : List Bk) (e1 e2 : Bool) (ha : a.length ≤ 1048576 ∧ ∀ x ∈ a, bkRng x) (hb : b.length ≤ 1048576 ∧ ∀ x ∈ b, bkRng x) : Ct Tryz.prog 180 [.ro 8 e1 (a.map bkA), .ro 8 e2 (b.map bkA)] (bo (decide (a = b))) [] := by
  obtain ⟨hal, har⟩ := ha
  obtain ⟨hbl, hbr⟩ := hb
  refine Ct.intro X180 X180_ok rfl (by kernel_rfl) rfl rfl fun g hg => ?_
  repeat (refine Run.go rfl ?_)
  refine Run.cond rfl (fun h => ?_) (fun h => ?_)
  · have h : a.length ≠ b.length := by
      intro e
      simp [e] at h
    repeat (refine Run.go rfl ?_)
    refine Run.ret hg rfl ?_
    rw [decide_eq_false (p := a = b) fun e => h (by rw [e])]
    rfl
  have hl : a.length = b.length := by
    simp at h
    omega
  repeat (refine Run.go rfl ?_)
  refine Run.loop (fun j : Nat => ⟨[(0, .ro 8 e1 (a.map bkA)), (1, .ro 8 e2 (b.map bkA)), (12, i64 a.length), (13, i64 j)], []⟩) (fun j => j ≤ a.length ∧ a.take j = b.take j) (fun j => a.length - j) 0 ⟨by omega, rfl⟩ ?_ ?_
  · refine St.Le.mk' ⟨rfl, rfl, ?_, rfl, trivial⟩ trivial
    show i64 _ = _
    simp
  rintro j ⟨hj, ht⟩ IH
  repeat (refine Run.go rfl ?_)
  refine Run.cond rfl (fun h => ?_) (fun h => ?_)
  · have hlt : j < a.length := by simpa using h
    have hlb : j < b.length := by omega
    repeat (refine Run.go rfl ?_)
    refine Run.drawS ⟨[(0, .ro 8 e1 (a.map bkA)), (1, .ro 8 e2 (b.map bkA)), (12, i64 a.length), (13, i64 j), (24, bo (!decide (a[j] = b[j])))], []⟩ (by kernel_rfl) (by decide +kernel) ?_ ?_
    · repeat (refine Quiet.go rfl ?_)
      refine Quiet.val rfl rfl (ValOk.idx (bkA a[j]) rfl rfl rfl rfl rfl (by omega) (by simp [hlt])) rfl ?_
      repeat (refine Quiet.go rfl ?_)
      refine Quiet.val rfl rfl (ValOk.idx (bkA b[j]) rfl rfl rfl rfl rfl (by omega) (by simp [hlb])) rfl ?_
      repeat (refine Quiet.go rfl ?_)
      refine Quiet.val rfl rfl (ValOk.neK a[j] b[j] rfl bkK rfl rfl (har _ (by simp)) (hbr _ (by simp))) rfl ?_
      exact Quiet.nil (St.Le.mk' ⟨rfl, rfl, rfl, rfl, rfl, trivial⟩ trivial)
    refine Run.cond rfl (fun h => ?_) (fun h => ?_)
    · have h : a[j] ≠ b[j] := by simpa using h
      repeat (refine Run.go rfl ?_)
      refine Run.ret hg rfl ?_
      rw [decide_eq_false (p := a = b) fun e => h (by simp only [e])]
      rfl
    · have h : a[j] = b[j] := by simpa using h
      repeat (refine Run.go rfl ?_)
      refine Run.of (IH (j + 1) ⟨by omega, take_snoc_eq hlt hlb ht h⟩ (by omega)) ⟨rfl, rfl, rfl, ?_, trivial⟩ trivial
      show i64 _ = _
      rw [wrap_i64 (by omega) (by omega)]
      rfl
  · have hj' : j = a.length := by simp at h; omega
    subst hj'
    repeat (refine Run.go rfl ?_)
    refine Run.ret hg rfl ?_
    rw [List.take_length, hl, List.take_length] at ht
    rw [decide_eq_true ht]
    rfl
noncomputable def X98 : Fx := ⟨Tryz.prog, tys, 98, Tryz.f98, [0, 1]⟩
theorem X98_ok : X98.Ok := ⟨Tryz.func98, tys_ok⟩
theorem sameBooks_ct (a b : List Bk) (e1 e2 : Bool) (ha : a.length ≤ 1048576 ∧ ∀ x ∈ a, bkRng x) (hb : b.length ≤ 1048576 ∧ ∀ x ∈ b, bkRng x) : Ct Tryz.prog 98 [.ro 8 e1 (a.map bkA), .ro 8 e2 (b.map bkA)] (bo (decide (a = b))) [] := by
  refine Ct.intro X98 X98_ok rfl rfl rfl rfl fun g hg => ?_
  repeat (refine Run.go rfl ?_)
  refine Run.cs rfl (eqBk_ct a b e1 e2 ha hb) rfl rfl ?_
  repeat (refine Run.go rfl ?_)
  exact Run.ret hg rfl rfl
theorem oneC_bk (a : List Bk) : oneC (a.map bkA) = true := by
  simp only [oneC, List.all_map, List.all_eq_true]
  intro x _
  rfl
end Go.Proofs.YtbkelajnngdimaaGreatDoor

/- Contracts of the program's functions, and what follows from them. -/
set_option maxRecDepth 100000
namespace Go.Proofs.YtbkelajnngdimaaGreatDoor
open Go Go.Av
end Go.Proofs.YtbkelajnngdimaaGreatDoor

/- Contracts of the program's functions, and what follows from them. -/
set_option maxRecDepth 100000
namespace Go.Proofs.YtbkelajnngdimaaGreatDoor
open Go Go.Av
def nA (o : List Nat) : List AV := o.map fun k : Nat => i64 k
end Go.Proofs.YtbkelajnngdimaaGreatDoor

/- Contracts of the program's functions, and what follows from them. -/
set_option maxRecDepth 100000
namespace Go.Proofs.YtbkelajnngdimaaGreatDoor
open Go Go.Av
end Go.Proofs.YtbkelajnngdimaaGreatDoor

/- Contracts of the program's functions, and what follows from them. -/
set_option maxRecDepth 100000
namespace Go.Proofs.YtbkelajnngdimaaGreatDoor
open Go Go.Av
theorem lt_bk (L : List Bk) : (flatc (L.map bkA)).all isLT = true := by
  induction L with
  | nil => rfl
  | cons x r ih =>
    rw [List.map_cons, show flatc (bkA x :: r.map bkA) = (bkA x).cells ++ flatc (r.map bkA) from rfl, List.all_append, ih]
    rfl
theorem lt_app (xs ys : List AV) : (flatc (xs ++ ys)).all isLT = ((flatc xs).all isLT && (flatc ys).all isLT) := by
  unfold flatc
  rw [List.flatMap_append, List.all_append]
theorem lt_rep (n : Nat) (y : AV) (h : y.cells.all isLT = true) : (flatc (List.replicate n y)).all isLT = true := by
  induction n with
  | zero => rfl
  | succ n ih =>
    rw [List.replicate_succ, show flatc (y :: List.replicate n y) = y.cells ++ flatc (List.replicate n y) from rfl, List.all_append, ih, h]
    rfl
end Go.Proofs.YtbkelajnngdimaaGreatDoor

/- Contracts of the program's functions, and what follows from them. -/
set_option maxRecDepth 100000
namespace Go.Proofs.YtbkelajnngdimaaGreatDoor
open Go Go.Av
def mvL (b : List Bk) (f t : Nat) : List Bk := (b.take f ++ b.drop (f + 1)).take t ++ (b.drop f).take 1 ++ (b.take f ++ b.drop (f + 1)).drop t
structure Slip (a b : List Bk) (R : (Int × Int) × Int) : Prop where
  h0 : scode a b ≠ 0 → R = ((0, 0), scode a b)
  h1 : scode a b = 0 → a = b → R = ((0, 0), 6)
  h2 : scode a b = 0 → a ≠ b → ∀ i j, i < b.length → j < b.length → mvL b i j = a → (∀ i' j', (i' < i ∨ i' = i ∧ j' < j) → j' < b.length → mvL b i' j' ≠ a) → R = (((i : Int), (j : Int)), 0)
  h3 : scode a b = 0 → a ≠ b → (∀ i j, i < b.length → j < b.length → mvL b i j ≠ a) → R = ((0, 0), 6)
noncomputable def X97 : Fx := ⟨Tryz.prog, tys, 97, Tryz.f97, [0, 1]⟩
theorem X97_ok : X97.Ok := ⟨Tryz.func97, tys_ok⟩
theorem l01Same_ct (a b : List Bk) (e1 e2 : Bool) (ha : a.length ≤ 1048576 ∧ ∀ x ∈ a, bkRng x) (hb : b.length ≤ 1048576 ∧ ∀ x ∈ b, bkRng x) : Ct Tryz.prog 97 [.ro 8 e1 (a.map bkA), .ro 8 e2 (b.map bkA)] (bo (decide (a = b))) [] := by
  obtain ⟨hal, har⟩ := ha
  obtain ⟨hbl, hbr⟩ := hb
  refine Ct.intro X97 X97_ok rfl (by kernel_rfl) rfl rfl fun g hg => ?_
  repeat (refine Run.go rfl ?_)
  refine Run.cond rfl (fun h => ?_) (fun h => ?_)
  · have h : a.length ≠ b.length := by
      intro e
      simp [e] at h
    repeat (refine Run.go rfl ?_)
    refine Run.ret hg rfl ?_
    rw [decide_eq_false (p := a = b) fun e => h (by rw [e])]
    rfl
  have hl : a.length = b.length := by
    simp at h
    omega
  repeat (refine Run.go rfl ?_)
  refine Run.loop (fun j : Nat => ⟨[(0, .ro 8 e1 (a.map bkA)), (1, .ro 8 e2 (b.map bkA)), (5, i64 j)], []⟩) (fun j => j ≤ a.length ∧ a.take j = b.take j) (fun j => a.length - j) 0 ⟨by omega, rfl⟩ ?_ ?_
  · exact St.Le.mk' ⟨rfl, rfl, rfl, trivial⟩ trivial
  rintro j ⟨hj, ht⟩ IH
  repeat (refine Run.go rfl ?_)
  refine Run.cond rfl (fun h => ?_) (fun h => ?_)
  · have hlt : j < a.length := by simpa using h
    have hlb : j < b.length := by omega
    repeat (refine Run.go rfl ?_)
    refine Run.drawS ⟨[(0, .ro 8 e1 (a.map bkA)), (1, .ro 8 e2 (b.map bkA)), (5, i64 j), (25, bo (!decide (a[j] = b[j])))], []⟩ (by kernel_rfl) (by decide +kernel) ?_ ?_
    · repeat (refine Quiet.go rfl ?_)
      refine Quiet.val rfl rfl (ValOk.idx (bkA a[j]) rfl rfl rfl rfl rfl (by omega) (by simp [hlt])) rfl ?_
      repeat (refine Quiet.go rfl ?_)
      refine Quiet.val rfl rfl (ValOk.idx (bkA b[j]) rfl rfl rfl rfl rfl (by omega) (by simp [hlb])) rfl ?_
      repeat (refine Quiet.go rfl ?_)
      refine Quiet.val rfl rfl (ValOk.neK a[j] b[j] rfl bkK rfl rfl (har _ (by simp)) (hbr _ (by simp))) rfl ?_
      exact Quiet.nil (St.Le.mk' ⟨rfl, rfl, rfl, rfl, trivial⟩ trivial)
    refine Run.cond rfl (fun h => ?_) (fun h => ?_)
    · have h : a[j] ≠ b[j] := by simpa using h
      repeat (refine Run.go rfl ?_)
      refine Run.ret hg rfl ?_
      rw [decide_eq_false (p := a = b) fun e => h (by simp only [e])]
      rfl
    · have h : a[j] = b[j] := by simpa using h
      repeat (refine Run.go rfl ?_)
      refine Run.of (IH (j + 1) ⟨by omega, take_snoc_eq hlt hlb ht h⟩ (by omega)) ⟨rfl, rfl, ?_, trivial⟩ trivial
      show i64 _ = _
      rw [wrap_i64 (by omega) (by omega)]
      rfl
  · have hj' : j = a.length := by simp at h; omega
    subst hj'
    repeat (refine Run.go rfl ?_)
    refine Run.ret hg rfl ?_
    rw [List.take_length, hl, List.take_length] at ht
    rw [decide_eq_true ht]
    rfl
end Go.Proofs.YtbkelajnngdimaaGreatDoor
