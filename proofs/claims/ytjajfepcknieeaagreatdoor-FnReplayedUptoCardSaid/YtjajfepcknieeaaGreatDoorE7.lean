/- Contracts of the program's functions, and what follows from them. -/
import Derived.Test.YtjajfepcknieeaaGreatDoorE6
import Derived.Test.YtjajfepcknieeaaGreatDoorE2
set_option linter.unusedVariables false
set_option maxRecDepth 100000
set_option linter.unusedSimpArgs false
namespace Go.Proofs.YtjajfepcknieeaaGreatDoor
open Go Go.Av

/-! The label of a book. -/

theorem dd_dig (n : Nat) : ∀ b ∈ Lib.decDigits n, 48 ≤ b.toNat ∧ b.toNat ≤ 57 := by
  induction n using Nat.strongRecOn with
  | _ n IH =>
  have one : ∀ k, k < 10 → (UInt8.ofNat (48 + k)).toNat = 48 + k := fun k hk => by
    simp only [UInt8.toNat_ofNat']; omega
  intro b hb
  rw [Lib.decDigits] at hb
  split at hb
  · rename_i h
    rw [List.mem_singleton] at hb
    rw [hb, one n h]; omega
  · rename_i h
    rcases List.mem_append.1 hb with hb | hb
    · exact IH (n / 10) (by omega) b hb
    · rw [List.mem_singleton] at hb
      rw [hb, one _ (by omega)]; omega

theorem dd_len2 {n : Nat} (h : n < 100) : (Lib.decDigits n).length ≤ 2 := by
  by_cases h1 : n < 10
  · rw [Lib.decDigits_one h1]; simp
  · rw [Lib.decDigits_two h1 h]; simp
end Go.Proofs.YtjajfepcknieeaaGreatDoor
