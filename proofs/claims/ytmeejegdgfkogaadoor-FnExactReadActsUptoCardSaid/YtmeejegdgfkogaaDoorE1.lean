/- Contracts of the program's functions, and what follows from them. -/
import Derived.Test.YtmeejegdgfkogaaDoorMD
import Derived.Test.YtmeejegdgfkogaaDoorMH
import Derived.Test.YtmeejegdgfkogaaDoorMF
import Derived.Test.YtmeejegdgfkogaaDoorSA
import Derived.Lib.ItoaLen
set_option linter.unusedVariables false
set_option maxRecDepth 100000
set_option linter.unusedSimpArgs false
namespace Go.Proofs.YtmeejegdgfkogaaDoor
open Go Go.Av

/-! Texts of acts: numbers below 100. -/

theorem dl_len (m : Nat) (h : m ≤ 9223372036854775807) : (Lib.decDigits m).length ≤ 21 := by
  have := Lib.itoa_length_le (m : Int) (by omega) (by omega)
  rwa [Lib.itoa_nonneg] at this

theorem wrap_u8 {n : Int} (h1 : 0 ≤ n) (h2 : n ≤ 255) : IntKind.u8.wrap n = n := by
  have e : IntKind.u8.wrap n = n % 256 := by simp [IntKind.wrap, IntKind.bits, IntKind.signed]
  rw [e]; omega

theorem dig_eq (m : Nat) : bys [IntKind.u8.wrap (IntKind.i64.wrap (48 + (m : Int).tmod 10))] = [UInt8.ofNat (48 + m % 10)] := by
  have e : ((m : Int).tmod 10) = ((m % 10 : Nat) : Int) := by rw [Int.tmod_eq_emod_of_nonneg (by omega)]; omega
  rw [e, wrap_i64 (by omega) (by omega), wrap_u8 (by omega) (by omega)]
  unfold bys
  simp only [List.map_cons, List.map_nil]
  congr 2

theorem FormatInt_small_ct (i : Nat) (h : i < 100) : Ct Tryd.prog 46 [i64 i, i64 10] (str (Lib.decDigits i)) [] := by
  refine Ct.ofCalls (vs := [.int .i64 i, .int .i64 10]) Tryd.func46 (by kernel_rfl) (by kernel_rfl) fun w => ?_
  refine (Tryd.strconv_FormatInt_10_small i h w).mono ?_
  rintro e w' ⟨rfl, rfl⟩
  exact ⟨_, rfl, Kp.refl _ _, fun L => .lit _ _⟩

noncomputable def X40 : Fx := ⟨Tryd.prog, tys, 40, Tryd.f40, [0]⟩
theorem X40_ok : X40.Ok := ⟨Tryd.func40, tys_ok⟩
theorem dec8_ct (n : Int) (h0 : 0 ≤ n) (h1 : n < 100) : Ct Tryd.prog 40 [i8 n] (str (Lib.decDigits n.toNat)) [] := by
  obtain ⟨m, rfl⟩ := Int.eq_ofNat_of_zero_le h0
  refine Ct.intro X40 X40_ok rfl rfl rfl rfl fun g hg => ?_
  repeat (refine Run.go rfl ?_)
  have e : IntKind.i64.wrap ((m : Nat) : Int) = m := wrap_i64 (by omega) (by omega)
  rw [e]
  refine Run.cs rfl (FormatInt_small_ct m (by omega)) rfl rfl ?_
  repeat (refine Run.go rfl ?_)
  exact Run.ret hg rfl rfl

def wordsL : List (List UInt8) := [[108, 101, 110, 100], [114, 101, 116, 117, 114, 110], [97, 115, 107], [114, 101, 110, 101, 119], [100, 114, 111, 112], [100, 97, 121]]

noncomputable def X14 : Fx := ⟨Tryd.prog, tys, 14, Tryd.f14, []⟩
theorem X14_ok : X14.Ok := ⟨Tryd.func14, tys_ok⟩
theorem l06Words_ct : Ct Tryd.prog 14 [] (.own 1 true (wordsL.map str)) [] := by
  refine Ct.intro X14 X14_ok rfl rfl rfl rfl fun g hg => ?_
  repeat (refine Run.go rfl ?_)
  refine Run.buildSlice (wordsL.map str) rfl rfl rfl rfl rfl rfl rfl rfl rfl rfl rfl rfl rfl rfl ?_
  repeat (refine Run.go rfl ?_)
  exact Run.ret hg rfl rfl

noncomputable def X23 : Fx := ⟨Tryd.prog, tys, 23, Tryd.f23, []⟩
theorem X23_ok : X23.Ok := ⟨Tryd.func23, tys_ok⟩
theorem actWords_ct : Ct Tryd.prog 23 [] (.own 1 true (wordsL.map str)) [] := by
  refine Ct.intro X23 X23_ok rfl rfl rfl rfl fun g hg => ?_
  repeat (refine Run.go rfl ?_)
  refine Run.buildSlice (wordsL.map str) rfl rfl rfl rfl rfl rfl rfl rfl rfl rfl rfl rfl rfl rfl ?_
  repeat (refine Run.go rfl ?_)
  exact Run.ret hg rfl rfl
end Go.Proofs.YtmeejegdgfkogaaDoor
