/- Contracts of the program's functions, and what follows from them. -/
import Derived.Test.YtahdgoddpkmhbaaAvTys
import Derived.Test.YtahdgoddpkmhbaaAvKit
set_option linter.unusedVariables false
namespace Go.Proofs.Ytahdgoddpkmhbaa
open Go Go.Av

structure Cp where
  st : Int
  who : Int
  due : Int
  ren : Int
  q : List Int
  deriving DecidableEq
structure Dk where
  day : Int
  cs : List Cp
  deriving DecidableEq

def cpO (c : Cp) : AV := .agg [i8 c.st, i8 c.who, i16 c.due, i8 c.ren, .own 1 true (c.q.map i8)]
def cpR (ex : Bool) (c : Cp) : AV := .agg [i8 c.st, i8 c.who, i16 c.due, i8 c.ren, .ro 1 ex (c.q.map i8)]
def dkO (d : Dk) : AV := .agg [i16 d.day, .own 5 true (d.cs.map cpO)]
def dkR (ex ex' : Bool) (d : Dk) : AV := .agg [i16 d.day, .ro 5 ex (d.cs.map (cpR ex'))]

theorem frz8 (l : List Int) : AV.frzL (l.map i8) = l.map i8 := frzL_map (fun _ => rfl) l
theorem rf8 (l : List Int) : AV.rfL (l.map i8) = true := rfL_map (fun _ => rfl) l
theorem cpO_rf (c : Cp) : (cpO c).rf = true := by
  simp only [cpO, AV.rf, AV.rfL, rf8]; rfl
theorem cpO_frz (c : Cp) : (cpO c).frz = cpR true c := by
  simp only [cpO, cpR, AV.frz, AV.frzL, frz8]
theorem dkO_rf (d : Dk) : (dkO d).rf = true := by
  simp only [dkO, AV.rf, AV.rfL, rfL_map cpO_rf]; rfl
theorem dkO_frz (d : Dk) : (dkO d).frz = dkR true true d := by
  simp only [dkO, dkR, AV.frz, AV.frzL, frzL_map cpO_frz]

end Go.Proofs.Ytahdgoddpkmhbaa
