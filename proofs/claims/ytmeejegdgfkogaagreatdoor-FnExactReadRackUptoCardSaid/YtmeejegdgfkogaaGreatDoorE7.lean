/- Contracts of the program's functions, and what follows from them. -/
import Derived.Test.YtmeejegdgfkogaaGreatDoorE6
import Derived.Test.YtmeejegdgfkogaaGreatDoorE2
set_option linter.unusedVariables false
set_option maxRecDepth 100000
set_option linter.unusedSimpArgs false
namespace Go.Proofs.YtmeejegdgfkogaaGreatDoor
open Go Go.Av

/-! The label of a book. -/

theorem dd_dig (n : Nat) : ∀ b ∈ Lib.decDigits n, 48 ≤ b.toNat ∧ b.toNat ≤ 57 := by
  induction n using Nat.strongRecOn with
  | _ n IH =>
  have one : ∀ k, k < 10 → (UInt8.ofNat (48 + k)).toNat = 48 + k := fun k hk => by
    simp only [UInt8.toNat_ofNat']; omega
  intro b hb
  rw [Lib.decDigits] at hb
  split at hb
  · rename_i h
    rw [List.mem_singleton] at hb
    rw [hb, one n h]; omega
  · rename_i h
    rcases List.mem_append.1 hb with hb | hb
    · exact IH (n / 10) (by omega) b hb
    · rw [List.mem_singleton] at hb
      rw [hb, one _ (by omega)]; omega

theorem dd_len2 {n : Nat} (h : n < 100) : (Lib.decDigits n).length ≤ 2 := by
  by_cases h1 : n < 10
  · rw [Lib.decDigits_one h1]; simp
  · rw [Lib.decDigits_two h1 h]; simp
theorem dd_len3 {n : Nat} (h : n < 1000) : (Lib.decDigits n).length ≤ 3 := by
  by_cases h1 : n < 10
  · rw [Lib.decDigits_one h1]; simp
  · rw [Lib.decDigits, dif_neg h1, List.length_append]
    have := dd_len2 (n := n / 10) (by omega)
    simp only [List.length_cons, List.length_nil]
    omega

theorem pad_len {n : Nat} {l : List UInt8} (h : l.length ≤ n) : (pad n l).length = n := by
  unfold pad
  rw [List.length_append, List.length_replicate]
  omega

/-- A text of values. -/
def svOk (t : List UInt8) : Prop := ∀ b ∈ t, 0 ≤ sv (b.toNat : Int)
theorem svOk_app {s t : List UInt8} (h1 : svOk s) (h2 : svOk t) : svOk (s ++ t) := fun b hb => (List.mem_append.1 hb).elim (h1 b) (h2 b)
theorem sv_dig {b : UInt8} (h : 48 ≤ b.toNat ∧ b.toNat ≤ 57) : 0 ≤ sv (b.toNat : Int) := by
  rw [sv, if_pos (by omega)]; omega
theorem svOk_pad (n m : Nat) : svOk (pad n (Lib.decDigits m)) := by
  refine svOk_app (fun b hb => ?_) fun b hb => sv_dig (dd_dig m b hb)
  rw [List.eq_of_mem_replicate hb]
  decide
theorem svOk_bv {t : List UInt8} (h : svOk t) (i : Nat) (hi : i < t.length) : 0 ≤ sv (bv t i) := by
  have : t.getD i 0 ∈ t := by
    rw [List.getD_eq_getElem?_getD, List.getElem?_eq_getElem hi]
    exact List.getElem_mem hi
  exact h _ this
theorem sm_toNat {n : Int} (h : sm n = true) : ((UInt8.ofNat n.toNat).toNat : Int) = n ∧ 97 ≤ n ∧ n ≤ 122 := by
  simp only [sm, Bool.and_eq_true, decide_eq_true_eq] at h
  refine ⟨?_, h⟩
  simp only [UInt8.toNat_ofNat']
  omega
theorem sv_sm {n : Int} (h : sm n = true) : 0 ≤ sv ((UInt8.ofNat n.toNat).toNat : Int) := by
  obtain ⟨e, h1, h2⟩ := sm_toNat h
  rw [e, sv, if_neg (by omega), if_pos ⟨h1, h2⟩]
  omega

/-- What a label tells of a book is in these bounds. -/
def lbOk (x : Bk) : Prop := (0 ≤ x.cl ∧ x.cl ≤ 999) ∧ (sm x.a = true ∧ sm x.b = true ∧ sm x.c = true) ∧ (0 ≤ x.vol ∧ x.vol ≤ 99)
theorem vB_lb {x : Bk} (h : vB x = true) : lbOk x := by
  simp only [vB, Bool.and_eq_true, inr, decide_eq_true_eq] at h
  obtain ⟨⟨⟨⟨⟨h1, h2, h3, h4⟩, h5⟩, _⟩, _⟩, _⟩ := h
  exact ⟨h1, ⟨h2, h3, h4⟩, by omega⟩

/-- The first eight characters, the label. -/
def lab8 (x : Bk) : List UInt8 := pad 3 (Lib.decDigits x.cl.toNat) ++ bys [x.a, x.b, x.c] ++ pad 2 (Lib.decDigits x.vol.toNat)
def labT (x : Bk) : List UInt8 := lab8 x ++ [dgt (lab8 x)]

theorem lab8_facts {x : Bk} (h : lbOk x) : (Lib.decDigits x.cl.toNat).length ≤ 3 ∧ (Lib.decDigits x.vol.toNat).length ≤ 2 ∧ (lab8 x).length = 8 ∧ ∀ i, i < 8 → 0 ≤ sv (bv (lab8 x) i) := by
  obtain ⟨h1, ⟨ha, hb, hc⟩, h2⟩ := h
  have l1 := dd_len3 (n := x.cl.toNat) (by omega)
  have l2 := dd_len2 (n := x.vol.toNat) (by omega)
  have hl : (lab8 x).length = 8 := by
    unfold lab8
    rw [List.length_append, List.length_append, pad_len l1, pad_len l2]
    rfl
  refine ⟨l1, l2, hl, fun i hi => svOk_bv ?_ i (by omega)⟩
  refine svOk_app (svOk_app (svOk_pad _ _) fun b hb' => ?_) (svOk_pad _ _)
  simp only [bys, List.map_cons, List.map_nil, List.mem_cons, List.not_mem_nil, or_false] at hb'
  rcases hb' with rfl | rfl | rfl
  · exact sv_sm ha
  · exact sv_sm hb
  · exact sv_sm hc

theorem bys_dgt (t : List UInt8) : bys [((48 + (psum t 8).toNat % 10 : Nat) : Int)] = [dgt t] := rfl

def lRes (x : Bk) : List UInt8 := if vB x then labT x else []

end Go.Proofs.YtmeejegdgfkogaaGreatDoor
