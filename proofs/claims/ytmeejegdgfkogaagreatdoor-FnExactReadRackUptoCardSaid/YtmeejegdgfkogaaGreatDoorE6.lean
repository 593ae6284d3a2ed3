/- Contracts of the program's functions, and what follows from them. -/
import Derived.Test.YtmeejegdgfkogaaGreatDoorE1
import Derived.Test.YtmeejegdgfkogaaGreatDoorMC
import Derived.Test.YtmeejegdgfkogaaGreatDoorMH
import Derived.Lib.Bytealg
set_option linter.unusedVariables false
set_option maxRecDepth 100000
set_option linter.unusedSimpArgs false
namespace Go.Proofs.YtmeejegdgfkogaaGreatDoor
open Go Go.Av

/-! Labels. -/

/-- The table of the powers of ten is laid. -/
noncomputable def ambT : Amb := Amb.var Tryz.prog "internal/strconv.uint64pow10" 3 (fun cs => cs = (Lib.pow10Tab.map fun z => Value.int .u64 z).toArray)
theorem ambT_tab {w : World} {F : List Nat} (h : ambT.on w F) : Lib.TabIs Tryz.prog w "internal/strconv.uint64pow10" .u64 Lib.pow10Tab := by
  obtain ⟨⟨_, cs, hv, rfl⟩, _⟩ := h
  exact hv

theorem FormatInt_ctA (m : Nat) (h : m ≤ 9223372036854775807) : CtA ambT Tryz.prog 70 [i64 m, i64 10] (str (Lib.decDigits m)) [] := by
  refine CtA.ofCalls ambT (vs := [.int .i64 m, .int .i64 10]) Tryz.func70 (by kernel_rfl) (by kernel_rfl) fun w hA => ?_
  refine (Tryz.strconv_FormatInt_10 m (by omega) (by omega) w (ambT_tab hA)).mono ?_
  rintro e w' ⟨rfl, k, os, rfl⟩
  refine ⟨_, rfl, (Kp.drewN [] w k).trans (Kp.grow [] _ os) (by simp), fun L => ?_⟩
  rw [Lib.itoa_nonneg]
  exact .lit _ _

noncomputable def X43 : Fx := ⟨Tryz.prog, tys, 43, Tryz.f43, [0]⟩
theorem X43_ok : X43.Ok := ⟨Tryz.func43, tys_ok⟩
theorem dec16_ct (n : Int) (h0 : 0 ≤ n) (h1 : n ≤ 32767) : CtA ambT Tryz.prog 43 [i16 n] (str (Lib.decDigits n.toNat)) [] := by
  obtain ⟨m, rfl⟩ := Int.eq_ofNat_of_zero_le h0
  refine CtA.intro ambT X43 X43_ok rfl rfl rfl rfl fun g hA hg => ?_
  repeat (refine Run.go rfl ?_)
  have e : IntKind.i64.wrap ((m : Nat) : Int) = m := wrap_i64 (by omega) (by omega)
  rw [e]
  refine Run.csA rfl ((FormatInt_ctA m (by omega)).at hA) rfl rfl ?_
  repeat (refine Run.go rfl ?_)
  exact Run.ret hg rfl rfl

/-- Noughts ahead. -/
def pad (n : Nat) (l : List UInt8) : List UInt8 := List.replicate (n - l.length) 48 ++ l

theorem repL (c : Nat) : Lib.repeatL [48] c = List.replicate c 48 := by
  induction c with
  | zero => rfl
  | succ c ih => rw [Lib.repeatL, ih]; rfl

/-- The value of a character, below 0 if there is none. -/
def sv (c : Int) : Int := if 48 ≤ c ∧ c ≤ 57 then c - 48 else if 97 ≤ c ∧ c ≤ 122 then c - 97 + 1 else -1
theorem sv_rng (c : Int) : -1 ≤ sv c ∧ sv c ≤ 26 := by unfold sv; split; omega; split <;> omega

theorem wrap_u8' {n : Int} (h1 : 0 ≤ n) (h2 : n ≤ 255) : IntKind.u8.wrap n = n := wrap_u8 h1 h2

def labB : List UInt8 := [48, 49, 50, 51, 52, 53, 54, 55, 56, 57, 97, 98, 99, 100, 101, 102, 103, 104, 105, 106, 107, 108, 109, 110, 111, 112, 113, 114, 115, 116, 117, 118, 119, 120, 121, 122]

theorem IndexByte_ct (s : List UInt8) (c : Int) : Ct Tryz.prog 56 [str s, u8 c] (i64 (Lib.indexByte s c.toNat.toUInt8)) [] := by
  refine Ct.ofCalls (vs := [.string ⟨s.toArray⟩, .int .u8 c]) Tryz.func56 (by kernel_rfl) (by kernel_rfl) fun w => ?_
  refine (Tryz.strings_IndexByte ⟨s.toArray⟩ c w).mono ?_
  rintro e w' ⟨rfl, rfl⟩
  exact ⟨_, rfl, Kp.refl _ _, fun L => .lit _ _⟩

theorem lab_ix : ∀ n : Fin 256, (if 10 ≤ Lib.indexByte labB n.val.toUInt8 then Lib.indexByte labB n.val.toUInt8 - 10 + 1 else Lib.indexByte labB n.val.toUInt8) = sv (n.val : Int) ∧ -1 ≤ Lib.indexByte labB n.val.toUInt8 ∧ Lib.indexByte labB n.val.toUInt8 ≤ 35 := by decide +kernel

/-! The check digit. -/

def wL : List Int := [1, 3, 7, 9, 1, 3, 7, 9]
def bv (t : List UInt8) (i : Nat) : Int := ((t.getD i 0).toNat : Int)
/-- The sum of the first j products. -/
def psum (t : List UInt8) : Nat → Int
  | 0 => 0
  | j + 1 => psum t j + wL.getD j 0 * sv (bv t j)
theorem bv_rng (t : List UInt8) (i : Nat) : 0 ≤ bv t i ∧ bv t i ≤ 255 := by
  unfold bv
  have := (t.getD i 0).toNat_lt
  omega
theorem wL_rng (j : Nat) : 0 ≤ wL.getD j 0 ∧ wL.getD j 0 ≤ 9 := by
  by_cases h : j < 8
  · have hj : j = 0 ∨ j = 1 ∨ j = 2 ∨ j = 3 ∨ j = 4 ∨ j = 5 ∨ j = 6 ∨ j = 7 := by omega
    rcases hj with h | h | h | h | h | h | h | h <;> subst h <;> decide
  · have : wL.getD j 0 = 0 := by rw [List.getD_eq_getElem?_getD, List.getElem?_eq_none (by show 8 ≤ j; omega)]; rfl
    omega
theorem prod_rng (t : List UInt8) (j : Nat) : -9 ≤ wL.getD j 0 * sv (bv t j) ∧ wL.getD j 0 * sv (bv t j) ≤ 234 := by
  have h1 := wL_rng j
  have h2 := sv_rng (bv t j)
  generalize wL.getD j 0 = x at *
  generalize sv (bv t j) = y at *
  have hx : x = 0 ∨ x = 1 ∨ x = 2 ∨ x = 3 ∨ x = 4 ∨ x = 5 ∨ x = 6 ∨ x = 7 ∨ x = 8 ∨ x = 9 := by omega
  rcases hx with h | h | h | h | h | h | h | h | h | h <;> subst h <;> omega
theorem psum_rng (t : List UInt8) (j : Nat) : -9 * (j : Int) ≤ psum t j ∧ psum t j ≤ 234 * (j : Int) := by
  induction j with
  | zero => simp [psum]
  | succ j ih =>
    have := prod_rng t j
    simp only [psum]
    push_cast
    omega
theorem psum_nonneg (t : List UInt8) (j : Nat) (h : ∀ i, i < j → 0 ≤ sv (bv t i)) : 0 ≤ psum t j := by
  induction j with
  | zero => simp [psum]
  | succ j ih =>
    have h1 := ih fun i hi => h i (by omega)
    have h2 := h j (by omega)
    have h3 := (wL_rng j).1
    have := Int.mul_nonneg h3 h2
    simp only [psum]
    omega

theorem getD_some (t : List UInt8) (i : Nat) (h : i < t.length) : t[i]? = some (t.getD i 0) := by
  rw [List.getD_eq_getElem?_getD, List.getElem?_eq_getElem h]; rfl

/-- The digit for a sum. -/
def dgt (t : List UInt8) : UInt8 := UInt8.ofNat (48 + (psum t 8).toNat % 10)

end Go.Proofs.YtmeejegdgfkogaaGreatDoor
