/- Contracts of the program's functions, and what follows from them. -/
import Derived.Test.YtmeejegdgfkogaaGreatDoorE7
import Derived.Test.YtmeejegdgfkogaaGreatDoorMF
import Derived.Test.YtmeejegdgfkogaaGreatDoorSB
import Derived.Lib.AtoiTie
set_option linter.unusedVariables false
set_option maxRecDepth 100000
set_option linter.unusedSimpArgs false
namespace Go.Proofs.YtmeejegdgfkogaaGreatDoor
open Go Go.Av

/-! Reading labels. -/

noncomputable def ambE : Amb := Amb.var Tryz.prog "strconv.ErrSyntax" 1 (fun cs => ∃ tp p, cs = #[.iface tp p])
noncomputable def ambS : Amb := Amb.and ambT ambE
theorem ambS_T {w : World} {F : List Nat} (h : ambS.on w F) : ambT.on w F := (Amb.on_and.1 h).1

def atoV (s : List UInt8) : Int := (Lib.atoi s).getD 0

theorem decFrom_lt (l : List UInt8) : ∀ acc n, Lib.decFrom acc l = some n → n < (acc + 1) * 10 ^ l.length := by
  induction l with
  | nil => intro acc n h; simp only [Lib.decFrom, Option.some.injEq] at h; subst h; simp
  | cons b r ih =>
    intro acc n h
    simp only [Lib.decFrom] at h
    split at h
    · rename_i d hd
      have h1 := ih _ _ h
      have hd9 : d ≤ 9 := by
        unfold Lib.digitVal at hd
        split at hd
        · obtain rfl := Option.some.inj hd; omega
        · cases hd
      refine Nat.lt_of_lt_of_le h1 ?_
      rw [List.length_cons, Nat.pow_succ', ← Nat.mul_assoc]
      exact Nat.mul_le_mul_right _ (by omega)
    · cases h
theorem decNat_lt {l : List UInt8} {n : Nat} (h : Lib.decNat l = some n) : n < 10 ^ l.length := by
  unfold Lib.decNat at h
  split at h
  · cases h
  · have := decFrom_lt l 0 n h
    simpa using this
theorem atoV_lt (s : List UInt8) : atoV s < (10 ^ s.length : Nat) := by
  have hp : ∀ k, 0 < 10 ^ k := fun k => Nat.pow_pos (by omega)
  unfold atoV
  cases s with
  | nil => simp [Lib.atoi]
  | cons b r =>
    have hle : 10 ^ r.length ≤ 10 ^ (b :: r).length := Nat.pow_le_pow_right (by omega) (by simp)
    have hP := hp (b :: r).length
    have hQ : ∀ m, Lib.decNat r = some m → m < 10 ^ r.length := fun m h => decNat_lt h
    have hR : ∀ m, Lib.decNat (b :: r) = some m → m < 10 ^ (b :: r).length := fun m h => decNat_lt h
    generalize 10 ^ (b :: r).length = P at *
    generalize 10 ^ r.length = Q at *
    simp only [Lib.atoi]
    split
    · cases h : Lib.decNat r with
      | none => simp only [Option.map_none, Option.getD_none]; omega
      | some m => simp only [Option.map_some, Option.getD_some]; omega
    · split
      · cases h : Lib.decNat r with
        | none => simp only [Option.map_none, Option.getD_none]; omega
        | some m => have := hQ m h; simp only [Option.map_some, Option.getD_some]; omega
      · cases h : Lib.decNat (b :: r) with
        | none => simp only [Option.map_none, Option.getD_none]; omega
        | some m => have := hR m h; simp only [Option.map_some, Option.getD_some]; omega

/-- The book that nine bytes tell of. -/
def rlB (t : List UInt8) : Bk := ⟨max (atoV (t.take 3)) 0, bv t 3, bv t 4, bv t 5, max (atoV ((t.take 8).drop 6)) 0, 0, 0, 0⟩
def rlOk (t : List UInt8) : Bool := (sm (rlB t).a && (sm (rlB t).b && sm (rlB t).c)) && !decide ((rlB t).vol = 0) && decide (labT (rlB t) = t)
/-- What a text tells, as a label. -/
def rlR (t : List UInt8) : Bk × Bool :=
  if t.length ≠ 9 then (bk0, false) else if (sm (rlB t).a && (sm (rlB t).b && sm (rlB t).c)) && !decide ((rlB t).vol = 0) then (rlB t, decide (labT (rlB t) = t)) else (bk0, false)

theorem rlB_rng (t : List UInt8) (hl : t.length = 9) : (0 ≤ (rlB t).cl ∧ (rlB t).cl ≤ 999) ∧ (0 ≤ (rlB t).vol ∧ (rlB t).vol ≤ 99) := by
  have h1 := atoV_lt (t.take 3)
  have h2 := atoV_lt ((t.take 8).drop 6)
  rw [show (t.take 3).length = 3 by simp; omega] at h1
  rw [show ((t.take 8).drop 6).length = 2 by simp; omega] at h2
  simp only [rlB]
  have e3 : ((10 ^ 3 : Nat) : Int) = 1000 := rfl
  have e2 : ((10 ^ 2 : Nat) : Int) = 100 := rfl
  rw [e3] at h1
  rw [e2] at h2
  omega

theorem amax0 (x : Int) : (if (0 : Int) > x then 0 else x) = max x 0 := by
  split <;> omega

end Go.Proofs.YtmeejegdgfkogaaGreatDoor
