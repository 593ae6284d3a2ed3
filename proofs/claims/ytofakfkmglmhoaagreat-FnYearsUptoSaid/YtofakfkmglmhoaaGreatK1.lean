/- Contracts of the program's functions, and what follows from them. -/
import Derived.Test.YtofakfkmglmhoaaGreatME
set_option linter.unusedVariables false
set_option maxRecDepth 100000
set_option linter.unusedSimpArgs false
namespace Go.Proofs.YtofakfkmglmhoaaGreat
open Go Go.Av

/-! Racks: copied, measured, compared, marked, held. -/

structure Pl where
  p : Int
  b : Bk
  deriving DecidableEq
structure Rk where
  pl : Int
  bs : List Pl
  deriving DecidableEq

def plA (x : Pl) : AV := .agg [i16 x.p, i16 x.b.cl, u8 x.b.a, u8 x.b.b, u8 x.b.c, i16 x.b.vol, i16 x.b.wd, i16 x.b.hi, i16 x.b.wt]
def pl0 : Pl := ⟨0, bk0⟩
def rkR (ex : Bool) (r : Rk) : AV := .agg [i16 r.pl, .ro 9 ex (r.bs.map plA)]
def rkO (ex : Bool) (r : Rk) : AV := .agg [i16 r.pl, .own 9 ex (r.bs.map plA)]
theorem pl_rf (x : Pl) : (plA x).rf = true := rfl
theorem pl_frz (x : Pl) : (plA x).frz = plA x := rfl
theorem frzP (l : List Pl) : AV.frzL (l.map plA) = l.map plA := frzL_map pl_frz l
theorem rfP (l : List Pl) : AV.rfL (l.map plA) = true := rfL_map pl_rf l
theorem rk_rf (ex : Bool) (r : Rk) : (rkO ex r).rf = true := by simp only [rkO, AV.rf, AV.rfL, rfP]; rfl
theorem rk_frz (ex : Bool) (r : Rk) : (rkO ex r).frz = rkR ex r := by simp only [rkO, rkR, AV.frz, AV.frzL, frzP]
theorem one_pl (a : List Pl) : oneC (a.map plA) = true := by
  simp only [oneC, List.all_map, List.all_eq_true]
  intro x _
  rfl

end Go.Proofs.YtofakfkmglmhoaaGreat
