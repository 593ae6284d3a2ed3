/- Parts of a proof, in one text: B10, B11, B12, B13, B14, B15, B16, B17, B18, B19. -/
import Derived.Test.YtcfkdcjindhnjaaMC
import Derived.Test.YtcfkdcjindhnjaaMD
import Derived.Test.YtcfkdcjindhnjaaMF
set_option linter.unusedVariables false

/- Contracts of the program's functions, and what follows from them. -/
set_option maxRecDepth 100000
namespace Go.Proofs.Ytcfkdcjindhnjaa
open Go Go.Av

/-! A shelf without some books. -/

noncomputable def X5 : Fx := ⟨Try.prog, tys, 5, Try.f5, [0]⟩
theorem X5_ok : X5.Ok := ⟨Try.func5, tys_ok⟩
theorem toInt64S_ct (l : List Int) (ex : Bool) (hlen : l.length ≤ 1048576) : Ct Try.prog 5 [.ro 1 ex (l.map i64)] (.own 1 true (l.map i64)) [] := by
  refine Ct.intro X5 X5_ok rfl rfl rfl rfl fun g hg => ?_
  repeat (refine Run.go rfl ?_)
  refine Run.make rfl rfl rfl rfl rfl rfl rfl rfl rfl rfl (by simp; omega) (by show _ * 8 ≤ _; simp; omega) rfl ?_
  repeat (refine Run.go rfl ?_)
  refine Run.loop (fun j : Nat => ⟨[(0, .ro 1 ex (l.map i64)), (3, .own 1 true ((l.take j).map i64 ++ List.replicate (l.length - j) (i64 0))), (4, i64 j)], []⟩) (fun j => j ≤ l.length) (fun j => l.length - j) 0 (by omega) ?_ ?_
  · refine St.Le.mk' ⟨rfl, ?_, rfl, trivial⟩ trivial
    show AV.own 1 true (List.replicate (l.map i64).length (i64 0)) = _
    simp
  · intro j hj IH
    repeat (refine Run.go rfl ?_)
    refine Run.cond rfl (fun h => ?_) (fun h => ?_)
    · have hlt : j < l.length := by simpa using h
      repeat (refine Run.go rfl ?_)
      refine Run.val rfl rfl rfl (ValOk.idx (i64 l[j]) rfl rfl rfl rfl rfl (by omega) (by simp [hlt])) rfl ?_
      repeat (refine Run.go rfl ?_)
      refine Run.val rfl rfl rfl (ValOk.idxv rfl rfl rfl rfl rfl rfl (by omega) (by simp; omega)) rfl ?_
      refine Run.storee (i64 0) (i64 l[j]) rfl rfl rfl rfl rfl rfl rfl ?_ rfl rfl rfl ?_
      · simpa using fill_at hlt
      repeat (refine Run.go rfl ?_)
      refine Run.pack 3 rfl rfl (by simp) ?_
      refine Run.of (IH (j + 1) (by omega) (by omega)) ⟨rfl, ?_, ?_, trivial⟩ trivial
      · show AV.own _ _ _ = _
        congr 1
        simp only [Nat.zero_add, Int.toNat_natCast]
        exact fill_step hlt
      · show i64 _ = _
        rw [wrap_i64 (by omega) (by omega)]
        rfl
    · have hj' : j = l.length := by simp at h; omega
      subst hj'
      repeat (refine Run.go rfl ?_)
      refine Run.pack 2 rfl rfl rfl ?_
      refine Run.ret hg rfl ?_
      show AV.own _ _ _ = _
      simp

def rsP (l : List Int) (j : Nat) : Bool := decide (l.getD j 0 < l.getD (j + 1) 0)
def rs (l : List Int) : Bool := (List.range (l.length - 1)).all (rsP l)

end Go.Proofs.Ytcfkdcjindhnjaa

/- Contracts of the program's functions, and what follows from them. -/
set_option maxRecDepth 100000
namespace Go.Proofs.Ytcfkdcjindhnjaa
open Go Go.Av

/-! For each wanted book the first one that is like it and not taken. -/

def fst (n : Nat) (q : Nat → Bool) : Nat := (List.range n).findIdx q
def isIn (out : List Int) (i : Nat) : Bool := out.any fun x => x == (i : Int)
/-- The first book that is like w and not yet in out. -/
def mfst (l : List Bk) (like : Bk → Bk → Bool) (out : List Int) (w : Bk) : Nat := fst l.length fun i => !isIn out i && like (l.getD i bk0) w
def ms (l ws : List Bk) (like : Bk → Bk → Bool) : Nat → List Int × Bool
  | 0 => ([], true)
  | j + 1 => if (ms l ws like j).2 then (if mfst l like (ms l ws like j).1 (ws.getD j bk0) < l.length then ((ms l ws like j).1 ++ [(mfst l like (ms l ws like j).1 (ws.getD j bk0) : Int)], true) else ((ms l ws like j).1, false)) else ms l ws like j
end Go.Proofs.Ytcfkdcjindhnjaa

/- Contracts of the program's functions, and what follows from them. -/
set_option maxRecDepth 100000
namespace Go.Proofs.Ytcfkdcjindhnjaa
open Go Go.Av

/-! Where wanted books stand. -/

end Go.Proofs.Ytcfkdcjindhnjaa

/- Contracts of the program's functions, and what follows from them. -/
set_option maxRecDepth 100000
namespace Go.Proofs.Ytcfkdcjindhnjaa
open Go Go.Av

/-! The places of a shelf's books in a catalogue of the same stock. -/

def scode (a b : List Bk) : Int := if stCode a b = 0 then (if sameP a b then 0 else 8) else stCode a b

/-! All are found. -/

theorem countP_add {p : Nat → Bool} {k : Nat} (hk : p k = false) (n : Nat) : (List.range n).countP (fun i => p i || i == k) = (List.range n).countP p + (if k < n then 1 else 0) := by
  induction n with
  | zero => simp
  | succ n ih =>
    rw [List.range_succ, List.countP_append, List.countP_append, ih, List.countP_singleton, List.countP_singleton]
    by_cases e : n = k
    · subst e
      simp [hk]
    · have e' : (n == k) = false := by simpa using e
      rw [e', Bool.or_false]
      generalize (if p n = true then 1 else 0) = z
      by_cases h1 : k < n
      · rw [if_pos h1, if_pos (show k < n + 1 by omega)]
        omega
      · rw [if_neg h1, if_neg (show ¬ k < n + 1 by omega)]
        omega

end Go.Proofs.Ytcfkdcjindhnjaa

/- Contracts of the program's functions, and what follows from them. -/
set_option maxRecDepth 100000
namespace Go.Proofs.Ytcfkdcjindhnjaa
open Go Go.Av

/-! One exchange that makes the shelf of a catalogue. -/

/-! Which places differ. -/

end Go.Proofs.Ytcfkdcjindhnjaa

/- Contracts of the program's functions, and what follows from them. -/
set_option maxRecDepth 100000
namespace Go.Proofs.Ytcfkdcjindhnjaa
open Go Go.Av

/-! The most books that can be kept: the numbers. -/

end Go.Proofs.Ytcfkdcjindhnjaa

/- Contracts of the program's functions, and what follows from them. -/
set_option maxRecDepth 100000
namespace Go.Proofs.Ytcfkdcjindhnjaa
open Go Go.Av

/-! The most books that can be kept: which. -/

theorem lt64 (L : List Int) : (flatc (L.map i64)).all isLT = true := by
  induction L with
  | nil => rfl
  | cons x r ih =>
    rw [List.map_cons, show flatc (i64 x :: r.map i64) = i64 x :: flatc (r.map i64) from rfl, List.all_cons, ih]
    rfl

end Go.Proofs.Ytcfkdcjindhnjaa

/- Contracts of the program's functions, and what follows from them. -/
set_option maxRecDepth 100000
namespace Go.Proofs.Ytcfkdcjindhnjaa
open Go Go.Av

/-! The books out of place. -/

end Go.Proofs.Ytcfkdcjindhnjaa

/- Contracts of the program's functions, and what follows from them. -/
set_option maxRecDepth 100000
namespace Go.Proofs.Ytcfkdcjindhnjaa
open Go Go.Av

/-! Parts of a list are put in, and taken out. -/

end Go.Proofs.Ytcfkdcjindhnjaa

/- Contracts of the program's functions, and what follows from them. -/
set_option maxRecDepth 100000
namespace Go.Proofs.Ytcfkdcjindhnjaa
open Go Go.Av

/-! One book put elsewhere makes the shelf of a catalogue. -/

def mvL (b : List Bk) (f t : Nat) : List Bk := (b.take f ++ b.drop (f + 1)).take t ++ (b.drop f).take 1 ++ (b.take f ++ b.drop (f + 1)).drop t
/-- What the first move is. -/
structure Slip (a b : List Bk) (R : (Int × Int) × Int) : Prop where
  h0 : scode a b ≠ 0 → R = ((0, 0), scode a b)
  h1 : scode a b = 0 → a = b → R = ((0, 0), 6)
  h2 : scode a b = 0 → a ≠ b → ∀ i j, i < b.length → j < b.length → mvL b i j = a → (∀ i' j', (i' < i ∨ i' = i ∧ j' < j) → j' < b.length → mvL b i' j' ≠ a) → R = (((i : Int), (j : Int)), 0)
  h3 : scode a b = 0 → a ≠ b → (∀ i j, i < b.length → j < b.length → mvL b i j ≠ a) → R = ((0, 0), 6)

end Go.Proofs.Ytcfkdcjindhnjaa
