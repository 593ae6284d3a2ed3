/- Small words for contracts: whole numbers, bools, lists of them. -/
import Derived.Test.YtoeocaenflkajaaAvBuild
namespace Go.Av
open Go Go.RowKit

abbrev i64 (n : Int) : AV := .lit (.int .i64 n)
abbrev i8 (n : Int) : AV := .lit (.int .i8 n)
abbrev i16 (n : Int) : AV := .lit (.int .i16 n)
abbrev u8 (n : Int) : AV := .lit (.int .u8 n)
abbrev bo (b : Bool) : AV := .lit (.bool b)

theorem wrap_i64 {n : Int} (h1 : -9223372036854775808 ≤ n) (h2 : n ≤ 9223372036854775807) : IntKind.i64.wrap n = n := by
  have e : IntKind.i64.wrap n = if n % 18446744073709551616 ≥ 9223372036854775808 then n % 18446744073709551616 - 18446744073709551616 else n % 18446744073709551616 := by
    simp [IntKind.wrap, IntKind.bits, IntKind.signed]
  rw [e]
  split <;> omega
theorem wrap_i16 {n : Int} (h1 : -32768 ≤ n) (h2 : n ≤ 32767) : IntKind.i16.wrap n = n := by
  have e : IntKind.i16.wrap n = if n % 65536 ≥ 32768 then n % 65536 - 65536 else n % 65536 := by
    simp [IntKind.wrap, IntKind.bits, IntKind.signed]
  rw [e]
  split <;> omega
theorem wrap_i8 {n : Int} (h1 : -128 ≤ n) (h2 : n ≤ 127) : IntKind.i8.wrap n = n := by
  have e : IntKind.i8.wrap n = if n % 256 ≥ 128 then n % 256 - 256 else n % 256 := by
    simp [IntKind.wrap, IntKind.bits, IntKind.signed]
  rw [e]
  split <;> omega

theorem rfL_map {α : Type} {f : α → AV} (h : ∀ x, (f x).rf = true) (l : List α) : AV.rfL (l.map f) = true := by
  induction l with
  | nil => rfl
  | cons x l ih => simp [AV.rfL, h x, ih]
theorem frzL_map {α : Type} {f f' : α → AV} (h : ∀ x, (f x).frz = f' x) (l : List α) : AV.frzL (l.map f) = l.map f' := by
  rw [AV.frzL_eq, List.map_map]
  exact List.map_congr_left fun x _ => h x
theorem rf_own {α : Type} {f : α → AV} (h : ∀ x, (f x).rf = true) {sz : Nat} {ex : Bool} (l : List α) : (AV.own sz ex (l.map f)).rf = true := rfL_map h l

theorem fill_step {α : Type} {f : α → AV} {z : AV} {l : List α} {j : Nat} (h : j < l.length) :
    ((l.take j).map f ++ List.replicate (l.length - j) z).set j (f l[j]) = (l.take (j + 1)).map f ++ List.replicate (l.length - (j + 1)) z := by
  rw [fill_set _ _ _ _ _ (by simp; omega) h, List.take_succ_eq_append_getElem h, List.map_append]
  rfl
theorem fill_at {α : Type} {f : α → AV} {z : AV} {l : List α} {j : Nat} (h : j < l.length) : ((l.take j).map f ++ List.replicate (l.length - j) z)[j]? = some z :=
  fill_get ((l.take j).map f) z j l.length (by simp; omega) h
theorem fill_done {α : Type} {f : α → AV} {z : AV} {l : List α} : (l.take l.length).map f ++ List.replicate (l.length - l.length) z = l.map f := by simp
end Go.Av
