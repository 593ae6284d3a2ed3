/- Parts of a proof, in one text: B1, B2, BRd. -/
import Derived.Test.YtmeejegdgfkogaaDoorMD
import Derived.Test.YtmeejegdgfkogaaDoorMF
import Derived.Test.YtmeejegdgfkogaaDoorAvRow
set_option linter.unusedVariables false

/- Contracts of the program's functions, and what follows from them. -/
set_option maxRecDepth 100000
namespace Go.Proofs.YtmeejegdgfkogaaDoor
open Go Go.Av

/-! Books: copied, measured, compared. -/

structure Bk where
  cl : Int
  a : Int
  b : Int
  c : Int
  vol : Int
  wd : Int
  hi : Int
  wt : Int
  deriving DecidableEq

def bkV (x : Bk) : List Value := [.int .i16 x.cl, .int .u8 x.a, .int .u8 x.b, .int .u8 x.c, .int .i16 x.vol, .int .i16 x.wd, .int .i16 x.hi, .int .i16 x.wt]
def bkA (x : Bk) : AV := .agg [i16 x.cl, u8 x.a, u8 x.b, u8 x.c, i16 x.vol, i16 x.wd, i16 x.hi, i16 x.wt]
def bk0 : Bk := ⟨0, 0, 0, 0, 0, 0, 0, 0⟩
theorem bk_rf (x : Bk) : (bkA x).rf = true := rfl
theorem bk_frz (x : Bk) : (bkA x).frz = bkA x := rfl
theorem frzB (l : List Bk) : AV.frzL (l.map bkA) = l.map bkA := frzL_map bk_frz l
theorem rfB (l : List Bk) : AV.rfL (l.map bkA) = true := rfL_map bk_rf l
def m3 (a b c : Int) : Nat → AV
  | 0 => .agg [u8 0, u8 0, u8 0]
  | 1 => .agg [u8 a, u8 0, u8 0]
  | 2 => .agg [u8 a, u8 b, u8 0]
  | _ => .agg [u8 a, u8 b, u8 c]

def szB (l : List Bk) (n : Int) : Int := if n - l.length < 0 then -1 else n - l.length

end Go.Proofs.YtmeejegdgfkogaaDoor

/- Contracts of the program's functions, and what follows from them. -/
set_option maxRecDepth 100000
namespace Go.Proofs.YtmeejegdgfkogaaDoor
open Go Go.Av

/-! Which books are valid. -/


def u8r (n : Int) : Prop := 0 ≤ n ∧ n ≤ 255
def bkRng (x : Bk) : Prop := i16r x.cl ∧ u8r x.a ∧ u8r x.b ∧ u8r x.c ∧ i16r x.vol ∧ i16r x.wd ∧ i16r x.hi ∧ i16r x.wt
def sm (n : Int) : Bool := decide (97 ≤ n) && decide (n ≤ 122)
def vB (x : Bk) : Bool := inr x.cl 0 999 && (sm x.a && (sm x.b && sm x.c)) && inr x.vol 1 99 && inr x.wd 1 100 && inr x.hi 50 400 && inr x.wt 1 9999
def vBs (l : List Bk) : Bool := decide (l.length ≤ 60) && l.all vB

end Go.Proofs.YtmeejegdgfkogaaDoor

/- Contracts of the program's functions, and what follows from them. -/
set_option maxRecDepth 100000
namespace Go.Proofs.YtmeejegdgfkogaaDoor
open Go Go.Av

theorem wfu8 {n : Int} (h : (Lit.int .u8 n).wf = true) : u8r n := by
  simpa [Lit.wf, IntKind.min, IntKind.max, IntKind.signed, IntKind.bits, u8r] using h

end Go.Proofs.YtmeejegdgfkogaaDoor
