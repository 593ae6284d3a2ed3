/- Parts of a proof, in one text: B1, B2, BRd, B3, B4, B5, B6, B7, B8, B9. -/
import Derived.Test.YtcfkdcjindhnjaaMD
import Derived.Test.YtcfkdcjindhnjaaMF
import Derived.Test.YtcfkdcjindhnjaaAvRow
set_option linter.unusedVariables false

/- Contracts of the program's functions, and what follows from them. -/
set_option maxRecDepth 100000
namespace Go.Proofs.Ytcfkdcjindhnjaa
open Go Go.Av

/-! Books: copied, measured, compared. -/

structure Bk where
  cl : Int
  a : Int
  b : Int
  c : Int
  vol : Int
  wd : Int
  hi : Int
  wt : Int
  deriving DecidableEq

def bk0 : Bk := ⟨0, 0, 0, 0, 0, 0, 0, 0⟩
end Go.Proofs.Ytcfkdcjindhnjaa

/- Contracts of the program's functions, and what follows from them. -/
set_option maxRecDepth 100000
namespace Go.Proofs.Ytcfkdcjindhnjaa
open Go Go.Av

/-! Which books are valid. -/

noncomputable def X32 : Fx := ⟨Try.prog, tys, 32, Try.f32, [0, 1]⟩
theorem X32_ok : X32.Ok := ⟨Try.func32, tys_ok⟩
theorem indexW_ct (l : List Int) (ex : Bool) (f : Nat) (caps : List AV) (p : Int → Bool) (hlen : l.length ≤ 1048576) (hc : AV.freeL caps = true)
    (hf : ∀ x ∈ l, Ct Try.prog f ([i64 x] ++ caps) (bo (p x)) []) : Ct Try.prog 32 [.ro 1 ex (l.map i64), .fn f caps] (i64 (fi p l)) [] := by
  refine Ct.intro X32 X32_ok rfl (by kernel_rfl) rfl rfl fun g hg => ?_
  repeat (refine Run.step rfl ?_)
  refine Run.loop (fun j : Nat => ⟨[(0, .ro 1 ex (l.map i64)), (1, .fn f caps), (7, i64 l.length), (8, i64 j)], []⟩) (fun j => j ≤ l.length ∧ j ≤ l.findIdx p) (fun j => l.length - j) 0 ⟨by omega, by omega⟩ ?_ ?_
  · refine St.Le.mk' ⟨rfl, rfl, ?_, rfl, trivial⟩ trivial
    show i64 _ = _
    simp
  · rintro j ⟨hj1, hj2⟩ IH
    repeat (refine Run.step rfl ?_)
    refine Run.cond rfl (fun h => ?_) (fun h => ?_)
    · have hlt : j < l.length := by simpa using h
      repeat (refine Run.step rfl ?_)
      refine Run.val rfl rfl rfl (ValOk.idx (i64 l[j]) rfl rfl rfl rfl rfl (by omega) (by simp [hlt])) rfl ?_
      repeat (refine Run.step rfl ?_)
      refine Run.callp rfl rfl rfl rfl rfl rfl rfl hc rfl (hf l[j] (by simp)) (by decide) (by decide) ?_
      repeat (refine Run.step rfl ?_)
      refine Run.cond rfl (fun h => ?_) (fun h => ?_)
      · repeat (refine Run.step rfl ?_)
        refine Run.ret hg rfl ?_
        show i64 _ = _
        rw [fi_at hlt h hj2]
      · repeat (refine Run.step rfl ?_)
        refine Run.of (IH (j + 1) ⟨by omega, fi_next hlt h hj2⟩ (by omega)) ⟨rfl, rfl, rfl, ?_, trivial⟩ trivial
        show i64 _ = _
        rw [wrap_i64 (by omega) (by omega)]
        rfl
    · repeat (refine Run.step rfl ?_)
      have hj : j = l.length := by simp at h; omega
      refine Run.ret hg rfl ?_
      show i64 (-1) = _
      rw [fi_none (by omega)]

noncomputable def X35 : Fx := ⟨Try.prog, tys, 35, Try.f35, [0, 1]⟩
theorem X35_ok : X35.Ok := ⟨Try.func35, tys_ok⟩
theorem containsW_ct (l : List Int) (ex : Bool) (f : Nat) (caps : List AV) (p : Int → Bool) (hlen : l.length ≤ 1048576) (hc : AV.freeL caps = true)
    (hf : ∀ x ∈ l, Ct Try.prog f ([i64 x] ++ caps) (bo (p x)) []) : Ct Try.prog 35 [.ro 1 ex (l.map i64), .fn f caps] (bo (l.any p)) [] := by
  refine Ct.intro X35 X35_ok rfl (by kernel_rfl) rfl rfl fun g hg => ?_
  repeat (refine Run.go rfl ?_)
  refine Run.callp rfl rfl rfl rfl rfl rfl (by simp [AV.freeL, AV.free, hc]) rfl rfl (indexW_ct l ex f caps p hlen hc hf) (by decide) (by decide) ?_
  repeat (refine Run.go rfl ?_)
  refine Run.ret hg rfl ?_
  show bo _ = _
  rw [← fi_nonneg]

noncomputable def X36 : Fx := ⟨Try.prog, tys, 36, Try.f36, [0, 1]⟩
theorem X36_ok : X36.Ok := ⟨Try.func36, tys_ok⟩
theorem areAllW10_ct (c : Int) (f : Nat) (p : Bool) (hf : Ct Try.prog f [i64 c] (bo p) []) : Ct Try.prog 36 [i64 c, .rp [.fn f []] 0] (bo (!p)) [] := by
  refine Ct.intro X36 X36_ok rfl (by kernel_rfl) rfl rfl fun g hg => ?_
  repeat (refine Run.go rfl ?_)
  refine Run.cs rfl hf rfl rfl ?_
  repeat (refine Run.go rfl ?_)
  exact Run.ret hg rfl rfl

noncomputable def X27 : Fx := ⟨Try.prog, tys, 27, Try.f27, [0, 1]⟩
theorem X27_ok : X27.Ok := ⟨Try.func27, tys_ok⟩
theorem areAllW0_ct (l : List Int) (ex : Bool) (f : Nat) (p : Int → Bool) (hlen : l.length ≤ 1048576) (hf : ∀ x ∈ l, Ct Try.prog f [i64 x] (bo (p x)) []) :
    Ct Try.prog 27 [.ro 1 ex (l.map i64), .fn f []] (bo (l.all p)) [] := by
  refine Ct.intro X27 X27_ok rfl (by kernel_rfl) rfl rfl fun g hg => ?_
  repeat (refine Run.go rfl ?_)
  refine Run.cs rfl (containsW_ct l ex 36 [.rp [.fn f []] 0] (fun x => !p x) hlen rfl (fun x hx => areAllW10_ct x f (p x) (hf x hx))) rfl rfl ?_
  repeat (refine Run.go rfl ?_)
  refine Run.ret hg rfl ?_
  show bo (!l.any fun x => !p x) = _
  congr 2
  simp [List.all_eq_not_any_not]

def sm (n : Int) : Bool := decide (97 ≤ n) && decide (n ≤ 122)
def vB (x : Bk) : Bool := inr x.cl 0 999 && (sm x.a && (sm x.b && sm x.c)) && inr x.vol 1 99 && inr x.wd 1 100 && inr x.hi 50 400 && inr x.wt 1 9999
def vBs (l : List Bk) : Bool := decide (l.length ≤ 60) && l.all vB

noncomputable def X23 : Fx := ⟨Try.prog, tys, 23, Try.f23, [0]⟩
theorem X23_ok : X23.Ok := ⟨Try.func23, tys_ok⟩
theorem l01Class_ct (n : Int) : Ct Try.prog 23 [i64 n] (bo (inr n 0 999)) [] := by
  refine Ct.intro X23 X23_ok rfl rfl rfl rfl fun g hg => ?_
  repeat (refine Run.go rfl ?_)
  refine Run.cs rfl (l00In_ct n 0 999) rfl rfl ?_
  repeat (refine Run.go rfl ?_)
  exact Run.ret hg rfl rfl

end Go.Proofs.Ytcfkdcjindhnjaa

/- Contracts of the program's functions, and what follows from them. -/
set_option maxRecDepth 100000
namespace Go.Proofs.Ytcfkdcjindhnjaa
open Go Go.Av

end Go.Proofs.Ytcfkdcjindhnjaa

/- Contracts of the program's functions, and what follows from them. -/
set_option maxRecDepth 100000
namespace Go.Proofs.Ytcfkdcjindhnjaa
open Go Go.Av

/-! The heaviest books next to each other. -/

def sW (l : List Bk) : Int := (l.map Bk.wd).sum
def sT (l : List Bk) : Int := (l.map Bk.wt).sum
def part (l : List Bk) (i k : Nat) : List Bk := (l.take k).drop i
def hsStep (l : List Bk) (w : Int) (i k : Nat) (s : Int × Int × Int) : Int × Int × Int := if sW (part l i k) ≤ w ∧ s.2.2 < sT (part l i k) then ((i : Int), (k : Int) - i, sT (part l i k)) else s
def hsIn (l : List Bk) (w : Int) (i : Nat) (s : Int × Int × Int) : Nat → Int × Int × Int
  | 0 => s
  | m + 1 => hsStep l w i (i + m + 1) (hsIn l w i s m)
def hs (l : List Bk) (w : Int) : Nat → Int × Int × Int
  | 0 => (0, 0, 0)
  | i + 1 => hsIn l w i (hs l w i) (l.length - i)
end Go.Proofs.Ytcfkdcjindhnjaa

/- Contracts of the program's functions, and what follows from them. -/
set_option maxRecDepth 100000
namespace Go.Proofs.Ytcfkdcjindhnjaa
open Go Go.Av

/-! Books compared by the usual order; sorted lists. -/

def lex3 (p q : Int × Int × Int) : Int := if cmpI p.1 q.1 ≠ 0 then cmpI p.1 q.1 else if cmpI p.2.1 q.2.1 ≠ 0 then cmpI p.2.1 q.2.1 else cmpI p.2.2 q.2.2
def nm (x : Bk) : Nat → Int × Int × Int
  | 0 => (x.cl, 0, 0)
  | 1 => (x.a, x.b, x.c)
  | _ => (x.vol, 0, 0)
def fc (x y : Bk) (i : Nat) : Int := lex3 (nm x i) (nm y i)
def uc (x y : Bk) : Int := if fc x y 0 ≠ 0 then fc x y 0 else if fc x y 1 ≠ 0 then fc x y 1 else fc x y 2

def ooo (l : List Bk) (j : Nat) : Bool := decide (uc (l.getD (j + 1) bk0) (l.getD j bk0) < 0)
def srt (l : List Bk) : Bool := !((List.range (l.length - 1)).any (ooo l))
end Go.Proofs.Ytcfkdcjindhnjaa

/- Contracts of the program's functions, and what follows from them. -/
set_option maxRecDepth 100000
namespace Go.Proofs.Ytcfkdcjindhnjaa
open Go Go.Av

/-! The reference's order of books; the codes of catalogues and shelves. -/

def stCode (a b : List Bk) : Int := if vBs a && vBs b then (if srt a then 0 else 4) else 1

end Go.Proofs.Ytcfkdcjindhnjaa

/- Contracts of the program's functions, and what follows from them. -/
set_option maxRecDepth 100000
namespace Go.Proofs.Ytcfkdcjindhnjaa
open Go Go.Av

/-! Books as keys; which books one list has more often than another one. -/

def moreP (l o : List Bk) (j : Nat) : Bool := decide (o.count (l.getD j bk0) ≤ (l.take j).count (l.getD j bk0))
def more (l o : List Bk) : Nat → List Bk
  | 0 => []
  | j + 1 => more l o j ++ (if moreP l o j then [l.getD j bk0] else [])
/-! The number at a key. -/

end Go.Proofs.Ytcfkdcjindhnjaa

/- Contracts of the program's functions, and what follows from them. -/
set_option maxRecDepth 100000
namespace Go.Proofs.Ytcfkdcjindhnjaa
open Go Go.Av

/-! What one list has more often, by a map of numbers. -/

end Go.Proofs.Ytcfkdcjindhnjaa

/- Contracts of the program's functions, and what follows from them. -/
set_option maxRecDepth 100000
namespace Go.Proofs.Ytcfkdcjindhnjaa
open Go Go.Av

/-! The same stock; missing and foreign books. -/

def sameP (a b : List Bk) : Bool := decide (a.length = b.length) && decide (more a b a.length = [])
end Go.Proofs.Ytcfkdcjindhnjaa

/- Contracts of the program's functions, and what follows from them. -/
set_option maxRecDepth 100000
namespace Go.Proofs.Ytcfkdcjindhnjaa
open Go Go.Av

/-! Lists of books: marked, held. -/

end Go.Proofs.Ytcfkdcjindhnjaa
