/- Contracts of the program's functions, and what follows from them. -/
import Derived.Test.YtjajfepcknieeaaGreatDoorMD
import Derived.Test.YtjajfepcknieeaaGreatDoorMH
import Derived.Test.YtjajfepcknieeaaGreatDoorMF
import Derived.Test.YtjajfepcknieeaaGreatDoorSA
import Derived.Lib.ItoaLen
set_option linter.unusedVariables false
set_option maxRecDepth 100000
set_option linter.unusedSimpArgs false
namespace Go.Proofs.YtjajfepcknieeaaGreatDoor
open Go Go.Av

/-! Texts of acts: numbers below 100. -/

theorem dl_len (m : Nat) (h : m ≤ 9223372036854775807) : (Lib.decDigits m).length ≤ 21 := by
  have := Lib.itoa_length_le (m : Int) (by omega) (by omega)
  rwa [Lib.itoa_nonneg] at this

theorem FormatInt_small_ct (i : Nat) (h : i < 100) : Ct Tryz.prog 133 [i64 i, i64 10] (str (Lib.decDigits i)) [] := by
  refine Ct.ofCalls (vs := [.int .i64 i, .int .i64 10]) Tryz.func133 (by kernel_rfl) (by kernel_rfl) fun w => ?_
  refine (Tryz.strconv_FormatInt_10_small i h w).mono ?_
  rintro e w' ⟨rfl, rfl⟩
  exact ⟨_, rfl, Kp.refl _ _, fun L => .lit _ _⟩

noncomputable def X89 : Fx := ⟨Tryz.prog, tys, 89, Tryz.f89, [0]⟩
theorem X89_ok : X89.Ok := ⟨Tryz.func89, tys_ok⟩
theorem dec8_ct (n : Int) (h0 : 0 ≤ n) (h1 : n < 100) : Ct Tryz.prog 89 [i8 n] (str (Lib.decDigits n.toNat)) [] := by
  obtain ⟨m, rfl⟩ := Int.eq_ofNat_of_zero_le h0
  refine Ct.intro X89 X89_ok rfl rfl rfl rfl fun g hg => ?_
  repeat (refine Run.go rfl ?_)
  have e : IntKind.i64.wrap ((m : Nat) : Int) = m := wrap_i64 (by omega) (by omega)
  rw [e]
  refine Run.cs rfl (FormatInt_small_ct m (by omega)) rfl rfl ?_
  repeat (refine Run.go rfl ?_)
  exact Run.ret hg rfl rfl

def wordsL : List (List UInt8) := [[108, 101, 110, 100], [114, 101, 116, 117, 114, 110], [97, 115, 107], [114, 101, 110, 101, 119], [100, 114, 111, 112], [100, 97, 121]]

noncomputable def X81 : Fx := ⟨Tryz.prog, tys, 81, Tryz.f81, []⟩
theorem X81_ok : X81.Ok := ⟨Tryz.func81, tys_ok⟩
theorem actWords_ct : Ct Tryz.prog 81 [] (.own 1 true (wordsL.map str)) [] := by
  refine Ct.intro X81 X81_ok rfl rfl rfl rfl fun g hg => ?_
  repeat (refine Run.go rfl ?_)
  refine Run.buildSlice (wordsL.map str) rfl rfl rfl rfl rfl rfl rfl rfl rfl rfl rfl rfl rfl rfl ?_
  repeat (refine Run.go rfl ?_)
  exact Run.ret hg rfl rfl
end Go.Proofs.YtjajfepcknieeaaGreatDoor
