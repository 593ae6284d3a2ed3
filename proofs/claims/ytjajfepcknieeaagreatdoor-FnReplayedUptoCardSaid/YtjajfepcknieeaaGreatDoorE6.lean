/- Contracts of the program's functions, and what follows from them. -/
import Derived.Test.YtjajfepcknieeaaGreatDoorE1
import Derived.Test.YtjajfepcknieeaaGreatDoorMC
import Derived.Test.YtjajfepcknieeaaGreatDoorMH
import Derived.Lib.Bytealg
set_option linter.unusedVariables false
set_option maxRecDepth 100000
set_option linter.unusedSimpArgs false
namespace Go.Proofs.YtjajfepcknieeaaGreatDoor
open Go Go.Av

/-! Labels. -/

/-- The table of the powers of ten is laid. -/
noncomputable def ambT : Amb := Amb.var Tryz.prog "internal/strconv.uint64pow10" 3 (fun cs => cs = (Lib.pow10Tab.map fun z => Value.int .u64 z).toArray)
theorem ambT_tab {w : World} {F : List Nat} (h : ambT.on w F) : Lib.TabIs Tryz.prog w "internal/strconv.uint64pow10" .u64 Lib.pow10Tab := by
  obtain ⟨⟨_, cs, hv, rfl⟩, _⟩ := h
  exact hv

theorem IndexByte_ct (s : List UInt8) (c : Int) : Ct Tryz.prog 127 [str s, u8 c] (i64 (Lib.indexByte s c.toNat.toUInt8)) [] := by
  refine Ct.ofCalls (vs := [.string ⟨s.toArray⟩, .int .u8 c]) Tryz.func127 (by kernel_rfl) (by kernel_rfl) fun w => ?_
  refine (Tryz.strings_IndexByte ⟨s.toArray⟩ c w).mono ?_
  rintro e w' ⟨rfl, rfl⟩
  exact ⟨_, rfl, Kp.refl _ _, fun L => .lit _ _⟩

/-! The check digit. -/

theorem getD_some (t : List UInt8) (i : Nat) (h : i < t.length) : t[i]? = some (t.getD i 0) := by
  rw [List.getD_eq_getElem?_getD, List.getElem?_eq_getElem h]; rfl

end Go.Proofs.YtjajfepcknieeaaGreatDoor
