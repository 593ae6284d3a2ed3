/- Contracts of the program's functions, and what follows from them. -/
import Derived.Test.YtahdgoddpkmhbaaD3
set_option linter.unusedVariables false
namespace Go.Proofs.Ytahdgoddpkmhbaa
open Go Go.Av

/-- Numbers from k on, as the marks are. -/
def mk8 (n : Nat) (k : Int) : List Int := (List.range n).map fun i : Nat => IntKind.i8.wrap (k + (i : Int))

/-- A copy that is marked from k on. -/
def mkC (c : Cp) (k : Int) : Cp := ⟨IntKind.i8.wrap k, IntKind.i8.wrap (k + 1), IntKind.i16.wrap (k + 2), IntKind.i8.wrap (k + 3), mk8 c.q.length (k + 4)⟩
def cnt (l : List Cp) : Nat := (l.map fun c => c.q.length + 4).sum
def mkCs : List Cp → Int → List Cp
  | [], _ => []
  | c :: l, k => mkC c k :: mkCs l (k + (c.q.length + 4 : Nat))

theorem mkCs_len (l : List Cp) (k : Int) : (mkCs l k).length = l.length := by
  induction l generalizing k with
  | nil => rfl
  | cons c l ih => simp [mkCs, ih]
theorem cnt_cons (c : Cp) (l : List Cp) : cnt (c :: l) = c.q.length + 4 + cnt l := by simp [cnt]
theorem cnt_append (l m : List Cp) : cnt (l ++ m) = cnt l + cnt m := by simp [cnt]
theorem mkCs_append (l m : List Cp) (k : Int) : mkCs (l ++ m) k = mkCs l k ++ mkCs m (k + (cnt l : Nat)) := by
  induction l generalizing k with
  | nil => simp [mkCs, cnt]
  | cons c l ih =>
    simp only [List.cons_append, mkCs, ih, cnt_cons]
    congr 3
    omega
theorem mkCs_step {l : List Cp} {j : Nat} (h : j < l.length) (k : Int) : mkCs (l.take (j + 1)) k = mkCs (l.take j) k ++ [mkC l[j] (k + (cnt (l.take j) : Nat))] := by
  rw [List.take_succ_eq_append_getElem h, mkCs_append]
  rfl
theorem cnt_step {l : List Cp} {j : Nat} (h : j < l.length) : cnt (l.take (j + 1)) = cnt (l.take j) + (l[j].q.length + 4) := by
  rw [List.take_succ_eq_append_getElem h, cnt_append]
  rfl
theorem cnt_take (l : List Cp) (j : Nat) : cnt (l.take j) ≤ cnt l := by
  have := cnt_append (l.take j) (l.drop j)
  rw [List.take_append_drop] at this
  omega

def mkD (d : Dk) (k : Int) : Dk := ⟨d.day, mkCs d.cs k⟩

end Go.Proofs.Ytahdgoddpkmhbaa
