/- Contracts of the program's functions, and what follows from them. -/
import Derived.Test.YtjajfepcknieeaaGreatDoorE8
import Derived.Test.YtjajfepcknieeaaGreatDoorMH
import Derived.Lib.SplitLaws
import Derived.Lib.IndexLaws
import Derived.Lib.IndexBytes
import Derived.Lib.ParseIntBCases
set_option linter.unusedVariables false
set_option maxRecDepth 100000
set_option linter.unusedSimpArgs false
namespace Go.Proofs.YtjajfepcknieeaaGreatDoor
open Go Go.Av

/-! Texts split at a byte, and canonical numbers. -/

def spl (c : UInt8) : List UInt8 → List (List UInt8)
  | [] => [[]]
  | b :: r => if b = c then [] :: spl c r else match spl c r with
    | [] => [[b]]
    | w :: ws => (b :: w) :: ws

theorem spl_miss {c : UInt8} {u : List UInt8} (h : c ∉ u) : spl c u = [u] := by
  induction u with
  | nil => rfl
  | cons b r ih =>
    simp only [List.mem_cons, not_or] at h
    unfold spl
    rw [if_neg (fun e => h.1 e.symm), ih h.2]
theorem spl_hit {c : UInt8} {u r : List UInt8} (h : c ∉ u) : spl c (u ++ c :: r) = u :: spl c r := by
  induction u with
  | nil =>
    show spl c (c :: r) = _
    rw [spl, if_pos rfl]
  | cons b s ih =>
    simp only [List.mem_cons, not_or] at h
    rw [List.cons_append, spl, if_neg (fun e => h.1 e.symm), ih h.2]
theorem spl_ne (c : UInt8) (l : List UInt8) : spl c l ≠ [] := by
  cases l with
  | nil => simp [spl]
  | cons b r =>
    unfold spl
    split
    · simp
    · split <;> simp
theorem spl_pos (c : UInt8) (l : List UInt8) : 1 ≤ (spl c l).length := by
  have := spl_ne c l
  cases h : spl c l with
  | nil => exact absurd h this
  | cons _ _ => simp

def jn (c : UInt8) : List (List UInt8) → List UInt8
  | [] => []
  | [w] => w
  | w :: v :: ws => w ++ c :: jn c (v :: ws)
theorem jn_cons (c b : UInt8) (w : List UInt8) (ws : List (List UInt8)) : jn c ((b :: w) :: ws) = b :: jn c (w :: ws) := by
  cases ws <;> rfl
theorem jn_spl (c : UInt8) (l : List UInt8) : jn c (spl c l) = l := by
  induction l with
  | nil => rfl
  | cons b r ih =>
    unfold spl
    have hn := spl_ne c r
    split
    · rename_i hb
      cases hr : spl c r with
      | nil => exact absurd hr hn
      | cons v ws => rw [jn, ← hr, ih, hb]; rfl
    · cases hr : spl c r with
      | nil => exact absurd hr hn
      | cons v ws =>
        show jn c ((b :: v) :: ws) = _
        rw [jn_cons, ← hr, ih]

theorem splitK_spl (c : UInt8) : ∀ (k : Nat) (s : List UInt8), s.count c ≤ k → Lib.splitK [c] 0 k s = spl c s
  | 0, s, h => by
    rw [Lib.splitK, spl_miss (List.count_eq_zero.1 (by omega))]
  | k + 1, s, h => by
    rw [Lib.splitK, Lib.index_one]
    have hge := Lib.indexByte_ge s c
    by_cases hm : Lib.indexByte s c = -1
    · rw [if_pos (by rw [hm]; rfl), spl_miss]
      intro hc
      obtain ⟨j, hj⟩ := List.getElem?_of_mem hc
      exact Lib.indexByte_none hm j hj
    · obtain ⟨o, ho⟩ : ∃ o : Nat, Lib.indexByte s c = o := ⟨(Lib.indexByte s c).toNat, by omega⟩
      obtain ⟨h1, h2⟩ := Lib.indexByte_some ho
      obtain ⟨hlt, h1'⟩ := List.getElem?_eq_some_iff.1 h1
      have hs : s = s.take o ++ c :: s.drop (o + 1) := by
        rw [← h1', ← List.drop_eq_getElem_cons hlt, List.take_append_drop]
      have hno : c ∉ s.take o := by
        intro hc
        obtain ⟨j, hj⟩ := List.getElem?_of_mem hc
        rw [List.getElem?_take] at hj
        split at hj
        · rename_i hjo; exact h2 j hjo hj
        · cases hj
      rw [if_neg (by rw [ho]; simp only [beq_iff_eq]; omega), ho]
      have hcnt : (s.drop (o + 1)).count c ≤ k := by
        rw [hs, List.count_append, List.count_cons_self] at h
        omega
      have e1 : ((o : Int)).toNat = o := by omega
      rw [e1, Nat.add_zero]
      show s.take o :: Lib.splitK [c] 0 k (s.drop (o + 1)) = _
      rw [splitK_spl c k _ hcnt]
      conv => rhs; rw [hs]
      rw [spl_hit hno]

/-! Numbers -/

theorem decFrom_app (l m : List UInt8) : ∀ acc, Lib.decFrom acc (l ++ m) = (Lib.decFrom acc l).bind fun n => Lib.decFrom n m := by
  induction l with
  | nil => intro acc; simp [Lib.decFrom]
  | cons b r ih =>
    intro acc
    rw [List.cons_append, Lib.decFrom, Lib.decFrom]
    cases Lib.digitVal b with
    | none => rfl
    | some d => exact ih _
theorem dv_some {b : UInt8} {d : Nat} (h : Lib.digitVal b = some d) : d ≤ 9 ∧ b = UInt8.ofNat (48 + d) ∧ b.toNat = 48 + d := by
  unfold Lib.digitVal at h
  split at h
  · obtain rfl := Option.some.inj h
    have e : b.toNat = 48 + (b.toNat - 48) := by omega
    refine ⟨by omega, ?_, e⟩
    rw [← e]
    exact (UInt8.ofNat_toNat).symm
  · cases h
theorem dv_dgc {d : Nat} (h : d ≤ 9) : Lib.digitVal (UInt8.ofNat (48 + d)) = some d := by
  have e : (UInt8.ofNat (48 + d)).toNat = 48 + d := by simp only [UInt8.toNat_ofNat']; omega
  unfold Lib.digitVal
  rw [e, if_pos (by omega)]
  congr 1
  omega
theorem dec_dd (n : Nat) : Lib.decFrom 0 (Lib.decDigits n) = some n := by
  induction n using Nat.strongRecOn with
  | _ n IH =>
    by_cases h : n < 10
    · rw [Lib.decDigits_one h, Lib.decFrom, dv_dgc (by omega)]
      simp [Lib.decFrom]
    · rw [Lib.decDigits, dif_neg h, decFrom_app, IH (n / 10) (by omega)]
      show Lib.decFrom (n / 10) [UInt8.ofNat (48 + n % 10)] = _
      rw [Lib.decFrom, dv_dgc (by omega)]
      simp only [Lib.decFrom]
      congr 1
      omega
theorem dd_ne (n : Nat) : Lib.decDigits n ≠ [] := by
  rw [Lib.decDigits]
  split <;> simp
/-- The number that a text spells, as one writes it. -/
def cn (s : List UInt8) : Option Nat := match Lib.decNat s with
  | some n => if Lib.decDigits n = s then some n else none
  | none => none
theorem cn_dd (n : Nat) : cn (Lib.decDigits n) = some n := by
  have h : Lib.decNat (Lib.decDigits n) = some n := by
    unfold Lib.decNat
    rw [if_neg (by simp [dd_ne]), dec_dd]
  unfold cn
  rw [h]
  simp
theorem cn_some {s : List UInt8} {n : Nat} (h : cn s = some n) : s = Lib.decDigits n := by
  unfold cn at h
  split at h
  · split at h
    · rename_i e
      obtain rfl := Option.some.inj h
      exact e.symm
    · cases h
  · cases h

/-- The reference's number. -/
def l1n (s : List UInt8) : Int × Bool := match cn s with
  | some n => if s.length ≤ 9 then (n, true) else (0, false)
  | none => (0, false)
/-- The program's number. -/
def shV (s : List UInt8) : Int := match cn s with
  | some n => if n ≤ 32767 then n else -1
  | none => -1
theorem shV_ge (s : List UInt8) : -1 ≤ shV s ∧ shV s ≤ 32767 := by
  unfold shV
  split
  · split <;> omega
  · omega
theorem shV_nonneg {s : List UInt8} (h : 0 ≤ shV s) : cn s = some (shV s).toNat := by
  unfold shV at h ⊢
  split at h
  · rename_i n hn
    split at h
    · rename_i hle
      rw [hn]
      simp [hle]
    · omega
  · omega

theorem parseM_dec (l : List UInt8) : ∀ acc u, Lib.decFrom acc l = some u → u ≤ 32767 → acc ≤ u ∧ Lib.parseUintM 18446744073709551615 acc l = .ok u := by
  induction l with
  | nil => intro acc u h _; simp only [Lib.decFrom, Option.some.injEq] at h; subst h; exact ⟨Nat.le_refl _, rfl⟩
  | cons b r ih =>
    intro acc u h hu
    rw [Lib.decFrom] at h
    cases hb : Lib.digitVal b with
    | none => rw [hb] at h; cases h
    | some d =>
      rw [hb] at h
      obtain ⟨hd9, _, ht⟩ := dv_some hb
      obtain ⟨h1, h2⟩ := ih _ u h hu
      have h1 : acc * 10 + d ≤ u := by
        first | exact h1 | (rw [Nat.mul_comm] at h1; exact h1)
      refine ⟨by omega, ?_⟩
      rw [Lib.parseUintM, if_pos (by omega), if_neg (by omega), if_neg (by omega)]
      rw [show b.toNat - 48 = d by omega]
      first | exact h2 | (rw [Nat.mul_comm]; exact h2)
theorem parse_dd {n : Nat} (h : n ≤ 32767) : Lib.parseIntB 64 (Lib.decDigits n) = .ok (n : Int) := by
  have hd := dec_dd n
  have hdig := dd_dig n
  cases hl : Lib.decDigits n with
  | nil => exact absurd hl (dd_ne n)
  | cons c r =>
    rw [hl] at hd hdig
    have hc := hdig c (by simp)
    have hp := (parseM_dec (c :: r) 0 n hd h).2
    rw [Lib.parseIntB]
    have hn1 : ¬ (c.toNat = 43 ∨ c.toNat = 45) := by omega
    have hn2 : ¬ c.toNat = 45 := by omega
    simp only [if_neg hn1]
    rw [show Lib.parseUintB 64 (c :: r) = .ok n by rw [Lib.parseUintB, if_neg (by simp)]; exact hp]
    simp only [hn2]
    rw [if_neg (by simp only [not_false_eq_true, true_and]; omega)]
    simp
end Go.Proofs.YtjajfepcknieeaaGreatDoor
