/- Parts of a proof, in one text: B10, B11, B12, B13, B14, B15, B16, B17, B18, B19. -/
import Derived.Test.YtofakfkmglmhoaaGreatMC
import Derived.Test.YtofakfkmglmhoaaGreatMD
import Derived.Test.YtofakfkmglmhoaaGreatMF
set_option linter.unusedVariables false

/- Contracts of the program's functions, and what follows from them. -/
set_option maxRecDepth 100000
namespace Go.Proofs.YtofakfkmglmhoaaGreat
open Go Go.Av

/-! A shelf without some books. -/

noncomputable def X57 : Fx := ⟨Tryz.prog, tys, 57, Tryz.f57, [0, 1]⟩
theorem X57_ok : X57.Ok := ⟨Tryz.func57, tys_ok⟩
theorem l00Has_ct (l : List Int) (ex : Bool) (n : Int) (hlen : l.length ≤ 1048576) : Ct Tryz.prog 57 [.ro 1 ex (l.map i64), i64 n] (bo (l.any fun x => x == n)) [] := by
  refine Ct.intro X57 X57_ok rfl rfl rfl rfl fun g hg => ?_
  repeat (refine Run.go rfl ?_)
  refine Run.loop (fun j : Nat => ⟨[(0, .ro 1 ex (l.map i64)), (1, i64 n), (5, i64 j)], []⟩) (fun j => j ≤ l.length ∧ (l.take j).any (fun x => x == n) = false) (fun j => l.length - j) 0 ⟨by omega, rfl⟩ ?_ ?_
  · exact St.Le.mk' ⟨rfl, rfl, rfl, trivial⟩ trivial
  rintro j ⟨hj, hany⟩ IH
  repeat (refine Run.go rfl ?_)
  refine Run.cond rfl (fun h => ?_) (fun h => ?_)
  · have hlt : j < l.length := by simpa using h
    repeat (refine Run.go rfl ?_)
    refine Run.val rfl rfl rfl (ValOk.idx (i64 l[j]) rfl rfl rfl rfl rfl (by omega) (by simp [hlt])) rfl ?_
    repeat (refine Run.go rfl ?_)
    refine Run.cond rfl (fun h => ?_) (fun h => ?_)
    · have h : (l[j] == n) = true := h
      repeat (refine Run.go rfl ?_)
      refine Run.ret hg rfl ?_
      have : l.any (fun x => x == n) = true := List.any_eq_true.mpr ⟨l[j], by simp, h⟩
      rw [this]
      rfl
    · have h : (l[j] == n) = false := h
      repeat (refine Run.go rfl ?_)
      refine Run.of (IH (j + 1) ⟨by omega, ?_⟩ (by omega)) ⟨rfl, rfl, ?_, trivial⟩ trivial
      · rw [List.take_succ_eq_append_getElem hlt, List.any_append, hany]
        simp only [List.any_cons, List.any_nil, h, Bool.or_false]
      · show i64 _ = _
        rw [wrap_i64 (by omega) (by omega)]
        rfl
  · have hj' : j = l.length := by simp at h; omega
    subst hj'
    rw [List.take_length] at hany
    repeat (refine Run.go rfl ?_)
    refine Run.ret hg rfl ?_
    rw [hany]
    rfl

def rsP (l : List Int) (j : Nat) : Bool := decide (l.getD j 0 < l.getD (j + 1) 0)
def rs (l : List Int) : Bool := (List.range (l.length - 1)).all (rsP l)

noncomputable def X47 : Fx := ⟨Tryz.prog, tys, 47, Tryz.f47, [0]⟩
theorem X47_ok : X47.Ok := ⟨Tryz.func47, tys_ok⟩
theorem rises_ct (l : List Int) (ex : Bool) (hlen : l.length ≤ 1048576) : Ct Tryz.prog 47 [.ro 1 ex (l.map i64)] (bo (rs l)) [] := by
  refine Ct.intro X47 X47_ok rfl rfl rfl rfl fun g hg => ?_
  repeat (refine Run.go rfl ?_)
  refine Run.loop (fun j : Nat => ⟨[(0, .ro 1 ex (l.map i64)), (3, i64 ((j + 1 : Nat) : Int))], []⟩) (fun j => j ≤ l.length - 1 ∧ ∀ i, i < j → rsP l i = true) (fun j => l.length - 1 - j) 0 ⟨by omega, fun i h => by omega⟩ ?_ ?_
  · exact St.Le.mk' ⟨rfl, rfl, trivial⟩ trivial
  rintro j ⟨hj, hall⟩ IH
  repeat (refine Run.go rfl ?_)
  refine Run.cond rfl (fun h => ?_) (fun h => ?_)
  · have hlt : j + 1 < l.length := by simp at h; omega
    have hp : rsP l j = decide (l[j] < l[j + 1]) := by simp [rsP, hlt, Nat.lt_of_succ_lt hlt]
    repeat (refine Run.go rfl ?_)
    refine Run.draw (by kernel_rfl) (by decide +kernel) ?_
    repeat (refine Quiet.go rfl ?_)
    rw [show IntKind.i64.wrap (((j + 1 : Nat) : Int) - 1) = (j : Int) by rw [wrap_i64 (by omega) (by omega)]; omega]
    refine Quiet.val rfl rfl (ValOk.idx (i64 l[j]) rfl rfl rfl rfl rfl (by omega) (by simp only [Int.toNat_natCast, List.getElem?_map, List.getElem?_eq_getElem (Nat.lt_of_succ_lt hlt), Option.map_some])) rfl ?_
    repeat (refine Quiet.go rfl ?_)
    refine Quiet.val rfl rfl (ValOk.idx (i64 l[j + 1]) rfl rfl rfl rfl rfl (by omega) (by simp only [Int.toNat_natCast, List.getElem?_map, List.getElem?_eq_getElem hlt, Option.map_some])) rfl ?_
    repeat (refine Quiet.go rfl ?_)
    refine Quiet.nil ?_
    repeat (refine Run.go rfl ?_)
    refine Run.cond rfl (fun h => ?_) (fun h => ?_)
    · have h : l[j + 1] ≤ l[j] := of_decide_eq_true h
      repeat (refine Run.go rfl ?_)
      refine Run.ret hg rfl ?_
      have : rs l = false := by
        rw [rs, List.all_eq_false]
        exact ⟨j, List.mem_range.mpr (by omega), by rw [hp]; simp; omega⟩
      rw [this]
      rfl
    · have h : ¬ l[j + 1] ≤ l[j] := of_decide_eq_false h
      repeat (refine Run.go rfl ?_)
      refine Run.of (IH (j + 1) ⟨by omega, fun i hi => ?_⟩ (by omega)) ⟨rfl, ?_, trivial⟩ trivial
      · by_cases e : i = j
        · rw [e, hp]; exact decide_eq_true (by omega)
        · exact hall i (by omega)
      · show i64 _ = _
        rw [wrap_i64 (by omega) (by omega)]
        rfl
  · have hj' : l.length - 1 ≤ j := by simp at h; omega
    repeat (refine Run.go rfl ?_)
    refine Run.ret hg rfl ?_
    have : rs l = true := by
      rw [rs, List.all_eq_true]
      intro i hi
      exact hall i (by have := List.mem_range.mp hi; omega)
    rw [this]
    rfl

end Go.Proofs.YtofakfkmglmhoaaGreat

/- Contracts of the program's functions, and what follows from them. -/
set_option maxRecDepth 100000
namespace Go.Proofs.YtofakfkmglmhoaaGreat
open Go Go.Av

/-! For each wanted book the first one that is like it and not taken. -/

def fst (n : Nat) (q : Nat → Bool) : Nat := (List.range n).findIdx q
def bof (b : Bool) : AV := bo b
def isIn (out : List Int) (i : Nat) : Bool := out.any fun x => x == (i : Int)
theorem frzBo (l : List Bool) : AV.frzL (l.map bof) = l.map bof := frzL_map (fun _ => rfl) l

/-- The first book that is like w and not yet in out. -/
def mfst (l : List Bk) (like : Bk → Bk → Bool) (out : List Int) (w : Bk) : Nat := fst l.length fun i => !isIn out i && like (l.getD i bk0) w
def ms (l ws : List Bk) (like : Bk → Bk → Bool) : Nat → List Int × Bool
  | 0 => ([], true)
  | j + 1 => if (ms l ws like j).2 then (if mfst l like (ms l ws like j).1 (ws.getD j bk0) < l.length then ((ms l ws like j).1 ++ [(mfst l like (ms l ws like j).1 (ws.getD j bk0) : Int)], true) else ((ms l ws like j).1, false)) else ms l ws like j
end Go.Proofs.YtofakfkmglmhoaaGreat

/- Contracts of the program's functions, and what follows from them. -/
set_option maxRecDepth 100000
namespace Go.Proofs.YtofakfkmglmhoaaGreat
open Go Go.Av

/-! Where wanted books stand. -/

end Go.Proofs.YtofakfkmglmhoaaGreat

/- Contracts of the program's functions, and what follows from them. -/
set_option maxRecDepth 100000
namespace Go.Proofs.YtofakfkmglmhoaaGreat
open Go Go.Av

/-! The places of a shelf's books in a catalogue of the same stock. -/

def scode (a b : List Bk) : Int := if stCode a b = 0 then (if sameP a b then 0 else 8) else stCode a b

/-! All are found. -/

theorem countP_add {p : Nat → Bool} {k : Nat} (hk : p k = false) (n : Nat) : (List.range n).countP (fun i => p i || i == k) = (List.range n).countP p + (if k < n then 1 else 0) := by
  induction n with
  | zero => simp
  | succ n ih =>
    rw [List.range_succ, List.countP_append, List.countP_append, ih, List.countP_singleton, List.countP_singleton]
    by_cases e : n = k
    · subst e
      simp [hk]
    · have e' : (n == k) = false := by simpa using e
      rw [e', Bool.or_false]
      generalize (if p n = true then 1 else 0) = z
      by_cases h1 : k < n
      · rw [if_pos h1, if_pos (show k < n + 1 by omega)]
        omega
      · rw [if_neg h1, if_neg (show ¬ k < n + 1 by omega)]
        omega

end Go.Proofs.YtofakfkmglmhoaaGreat

/- Contracts of the program's functions, and what follows from them. -/
set_option maxRecDepth 100000
namespace Go.Proofs.YtofakfkmglmhoaaGreat
open Go Go.Av

/-! One exchange that makes the shelf of a catalogue. -/

theorem take_snoc_eq {a b : List Bk} {j : Nat} (ha : j < a.length) (hb : j < b.length) (h : a.take j = b.take j) (he : a[j] = b[j]) : a.take (j + 1) = b.take (j + 1) := by
  rw [List.take_succ_eq_append_getElem ha, List.take_succ_eq_append_getElem hb, h, he]

theorem oneC_bk (a : List Bk) : oneC (a.map bkA) = true := by
  simp only [oneC, List.all_map, List.all_eq_true]
  intro x _
  rfl

/-! Which places differ. -/

end Go.Proofs.YtofakfkmglmhoaaGreat

/- Contracts of the program's functions, and what follows from them. -/
set_option maxRecDepth 100000
namespace Go.Proofs.YtofakfkmglmhoaaGreat
open Go Go.Av

/-! The most books that can be kept: the numbers. -/

end Go.Proofs.YtofakfkmglmhoaaGreat

/- Contracts of the program's functions, and what follows from them. -/
set_option maxRecDepth 100000
namespace Go.Proofs.YtofakfkmglmhoaaGreat
open Go Go.Av

/-! The most books that can be kept: which. -/

end Go.Proofs.YtofakfkmglmhoaaGreat

/- Contracts of the program's functions, and what follows from them. -/
set_option maxRecDepth 100000
namespace Go.Proofs.YtofakfkmglmhoaaGreat
open Go Go.Av

/-! The books out of place. -/

end Go.Proofs.YtofakfkmglmhoaaGreat

/- Contracts of the program's functions, and what follows from them. -/
set_option maxRecDepth 100000
namespace Go.Proofs.YtofakfkmglmhoaaGreat
open Go Go.Av

/-! Parts of a list are put in, and taken out. -/

theorem lt_app (xs ys : List AV) : (flatc (xs ++ ys)).all isLT = ((flatc xs).all isLT && (flatc ys).all isLT) := by
  unfold flatc
  rw [List.flatMap_append, List.all_append]
theorem lt_rep (n : Nat) (y : AV) (h : y.cells.all isLT = true) : (flatc (List.replicate n y)).all isLT = true := by
  induction n with
  | zero => rfl
  | succ n ih =>
    rw [List.replicate_succ, show flatc (y :: List.replicate n y) = y.cells ++ flatc (List.replicate n y) from rfl, List.all_append, ih, h]
    rfl

end Go.Proofs.YtofakfkmglmhoaaGreat

/- Contracts of the program's functions, and what follows from them. -/
set_option maxRecDepth 100000
namespace Go.Proofs.YtofakfkmglmhoaaGreat
open Go Go.Av

/-! One book put elsewhere makes the shelf of a catalogue. -/

def mvL (b : List Bk) (f t : Nat) : List Bk := (b.take f ++ b.drop (f + 1)).take t ++ (b.drop f).take 1 ++ (b.take f ++ b.drop (f + 1)).drop t
/-- What the first move is. -/
structure Slip (a b : List Bk) (R : (Int × Int) × Int) : Prop where
  h0 : scode a b ≠ 0 → R = ((0, 0), scode a b)
  h1 : scode a b = 0 → a = b → R = ((0, 0), 6)
  h2 : scode a b = 0 → a ≠ b → ∀ i j, i < b.length → j < b.length → mvL b i j = a → (∀ i' j', (i' < i ∨ i' = i ∧ j' < j) → j' < b.length → mvL b i' j' ≠ a) → R = (((i : Int), (j : Int)), 0)
  h3 : scode a b = 0 → a ≠ b → (∀ i j, i < b.length → j < b.length → mvL b i j ≠ a) → R = ((0, 0), 6)

noncomputable def X45 : Fx := ⟨Tryz.prog, tys, 45, Tryz.f45, [0, 1]⟩
theorem X45_ok : X45.Ok := ⟨Tryz.func45, tys_ok⟩
theorem l01Same_ct (a b : List Bk) (e1 e2 : Bool) (ha : a.length ≤ 1048576 ∧ ∀ x ∈ a, bkRng x) (hb : b.length ≤ 1048576 ∧ ∀ x ∈ b, bkRng x) : Ct Tryz.prog 45 [.ro 8 e1 (a.map bkA), .ro 8 e2 (b.map bkA)] (bo (decide (a = b))) [] := by
  obtain ⟨hal, har⟩ := ha
  obtain ⟨hbl, hbr⟩ := hb
  refine Ct.intro X45 X45_ok rfl (by kernel_rfl) rfl rfl fun g hg => ?_
  repeat (refine Run.go rfl ?_)
  refine Run.cond rfl (fun h => ?_) (fun h => ?_)
  · have h : a.length ≠ b.length := by
      intro e
      simp [e] at h
    repeat (refine Run.go rfl ?_)
    refine Run.ret hg rfl ?_
    rw [decide_eq_false (p := a = b) fun e => h (by rw [e])]
    rfl
  have hl : a.length = b.length := by
    simp at h
    omega
  repeat (refine Run.go rfl ?_)
  refine Run.loop (fun j : Nat => ⟨[(0, .ro 8 e1 (a.map bkA)), (1, .ro 8 e2 (b.map bkA)), (5, i64 j)], []⟩) (fun j => j ≤ a.length ∧ a.take j = b.take j) (fun j => a.length - j) 0 ⟨by omega, rfl⟩ ?_ ?_
  · exact St.Le.mk' ⟨rfl, rfl, rfl, trivial⟩ trivial
  rintro j ⟨hj, ht⟩ IH
  repeat (refine Run.go rfl ?_)
  refine Run.cond rfl (fun h => ?_) (fun h => ?_)
  · have hlt : j < a.length := by simpa using h
    have hlb : j < b.length := by omega
    repeat (refine Run.go rfl ?_)
    refine Run.drawS ⟨[(0, .ro 8 e1 (a.map bkA)), (1, .ro 8 e2 (b.map bkA)), (5, i64 j), (25, bo (!decide (a[j] = b[j])))], []⟩ (by kernel_rfl) (by decide +kernel) ?_ ?_
    · repeat (refine Quiet.go rfl ?_)
      refine Quiet.val rfl rfl (ValOk.idx (bkA a[j]) rfl rfl rfl rfl rfl (by omega) (by simp [hlt])) rfl ?_
      repeat (refine Quiet.go rfl ?_)
      refine Quiet.val rfl rfl (ValOk.idx (bkA b[j]) rfl rfl rfl rfl rfl (by omega) (by simp [hlb])) rfl ?_
      repeat (refine Quiet.go rfl ?_)
      refine Quiet.val rfl rfl (ValOk.neK a[j] b[j] rfl bkK rfl rfl (har _ (by simp)) (hbr _ (by simp))) rfl ?_
      exact Quiet.nil (St.Le.mk' ⟨rfl, rfl, rfl, rfl, trivial⟩ trivial)
    refine Run.cond rfl (fun h => ?_) (fun h => ?_)
    · have h : a[j] ≠ b[j] := by simpa using h
      repeat (refine Run.go rfl ?_)
      refine Run.ret hg rfl ?_
      rw [decide_eq_false (p := a = b) fun e => h (by simp only [e])]
      rfl
    · have h : a[j] = b[j] := by simpa using h
      repeat (refine Run.go rfl ?_)
      refine Run.of (IH (j + 1) ⟨by omega, take_snoc_eq hlt hlb ht h⟩ (by omega)) ⟨rfl, rfl, ?_, trivial⟩ trivial
      show i64 _ = _
      rw [wrap_i64 (by omega) (by omega)]
      rfl
  · have hj' : j = a.length := by simp at h; omega
    subst hj'
    repeat (refine Run.go rfl ?_)
    refine Run.ret hg rfl ?_
    rw [List.take_length, hl, List.take_length] at ht
    rw [decide_eq_true ht]
    rfl

end Go.Proofs.YtofakfkmglmhoaaGreat
