/- Contracts of the program's functions, and what follows from them. -/
import Derived.Test.YtmeejegdgfkogaaGreatDoorMD
import Derived.Test.YtmeejegdgfkogaaGreatDoorMH
import Derived.Test.YtmeejegdgfkogaaGreatDoorMF
import Derived.Test.YtmeejegdgfkogaaGreatDoorSA
import Derived.Lib.ItoaLen
set_option linter.unusedVariables false
set_option maxRecDepth 100000
set_option linter.unusedSimpArgs false
namespace Go.Proofs.YtmeejegdgfkogaaGreatDoor
open Go Go.Av

/-! Texts of acts: numbers below 100. -/

theorem dl_len (m : Nat) (h : m ≤ 9223372036854775807) : (Lib.decDigits m).length ≤ 21 := by
  have := Lib.itoa_length_le (m : Int) (by omega) (by omega)
  rwa [Lib.itoa_nonneg] at this

theorem wrap_u8 {n : Int} (h1 : 0 ≤ n) (h2 : n ≤ 255) : IntKind.u8.wrap n = n := by
  have e : IntKind.u8.wrap n = n % 256 := by simp [IntKind.wrap, IntKind.bits, IntKind.signed]
  rw [e]; omega

theorem dig_eq (m : Nat) : bys [IntKind.u8.wrap (IntKind.i64.wrap (48 + (m : Int).tmod 10))] = [UInt8.ofNat (48 + m % 10)] := by
  have e : ((m : Int).tmod 10) = ((m % 10 : Nat) : Int) := by rw [Int.tmod_eq_emod_of_nonneg (by omega)]; omega
  rw [e, wrap_i64 (by omega) (by omega), wrap_u8 (by omega) (by omega)]
  unfold bys
  simp only [List.map_cons, List.map_nil]
  congr 2

theorem FormatInt_small_ct (i : Nat) (h : i < 100) : Ct Tryz.prog 70 [i64 i, i64 10] (str (Lib.decDigits i)) [] := by
  refine Ct.ofCalls (vs := [.int .i64 i, .int .i64 10]) Tryz.func70 (by kernel_rfl) (by kernel_rfl) fun w => ?_
  refine (Tryz.strconv_FormatInt_10_small i h w).mono ?_
  rintro e w' ⟨rfl, rfl⟩
  exact ⟨_, rfl, Kp.refl _ _, fun L => .lit _ _⟩

def wordsL : List (List UInt8) := [[108, 101, 110, 100], [114, 101, 116, 117, 114, 110], [97, 115, 107], [114, 101, 110, 101, 119], [100, 114, 111, 112], [100, 97, 121]]

end Go.Proofs.YtmeejegdgfkogaaGreatDoor
