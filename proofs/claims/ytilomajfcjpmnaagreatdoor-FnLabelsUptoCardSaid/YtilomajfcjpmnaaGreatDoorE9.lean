/- Contracts of the program's functions, and what follows from them. -/
import Derived.Test.YtilomajfcjpmnaaGreatDoorE8
set_option linter.unusedVariables false
set_option maxRecDepth 100000
set_option linter.unusedSimpArgs false
namespace Go.Proofs.YtilomajfcjpmnaaGreatDoor
open Go Go.Av

/-! What a label is. -/

def dgc (n : Nat) : UInt8 := UInt8.ofNat (48 + n)
theorem dgc_nat {n : Nat} (h : n ≤ 9) : (dgc n).toNat = 48 + n := by unfold dgc; simp only [UInt8.toNat_ofNat']; omega

theorem pad2_eq {v : Nat} (h : v < 100) : pad 2 (Lib.decDigits v) = [dgc (v / 10), dgc (v % 10)] := by
  by_cases h1 : v < 10
  · rw [Lib.decDigits_one h1]
    have e1 : v / 10 = 0 := by omega
    have e2 : v % 10 = v := by omega
    rw [e1, e2]
    rfl
  · rw [Lib.decDigits_two h1 h]
    rfl
theorem pad3_eq {v : Nat} (h : v < 1000) : pad 3 (Lib.decDigits v) = [dgc (v / 100), dgc (v / 10 % 10), dgc (v % 10)] := by
  by_cases h1 : v < 10
  · rw [Lib.decDigits_one h1]
    have e1 : v / 10 = 0 := by omega
    have e2 : v % 10 = v := by omega
    have e3 : v / 100 = 0 := by omega
    rw [e1, e2, e3]
    rfl
  · by_cases h2 : v < 100
    · rw [Lib.decDigits_two h1 h2]
      have e3 : v / 100 = 0 := by omega
      have e1 : v / 10 % 10 = v / 10 := by omega
      rw [e1, e3]
      rfl
    · rw [Lib.decDigits, dif_neg h1, Lib.decDigits_two (by omega) (by omega)]
      have e1 : v / 10 / 10 = v / 100 := by omega
      rw [e1]
      rfl

theorem lab8_eq {x : Bk} (h : lbOk x) : lab8 x = [dgc (x.cl.toNat / 100), dgc (x.cl.toNat / 10 % 10), dgc (x.cl.toNat % 10), UInt8.ofNat x.a.toNat, UInt8.ofNat x.b.toNat, UInt8.ofNat x.c.toNat, dgc (x.vol.toNat / 10), dgc (x.vol.toNat % 10)] := by
  obtain ⟨h1, _, h2⟩ := h
  unfold lab8
  rw [pad3_eq (by omega), pad2_eq (by omega)]
  rfl

theorem psum_congr {s t : List UInt8} (j : Nat) (h : ∀ i, i < j → bv s i = bv t i) : psum s j = psum t j := by
  induction j with
  | zero => rfl
  | succ j ih => simp only [psum]; rw [ih fun i hi => h i (by omega), h j (by omega)]

def chOk (t : List UInt8) (i : Nat) : Bool := decide (0 ≤ sv (bv t i)) && (decide (3 ≤ i ∧ i < 6) == decide (97 ≤ bv t i))
/-- The reference's answer. -/
def isLb (t : List UInt8) : Bool :=
  decide (t.length = 9) && ((List.range 9).all (chOk t) && (!decide ((t.take 8).drop 6 = [48, 48]) && decide (bv t 8 = ((48 + (psum t 8).toNat % 10 : Nat) : Int))))

theorem chOk_dig {t : List UInt8} {i : Nat} (h : chOk t i = true) (hi : ¬ (3 ≤ i ∧ i < 6)) : 48 ≤ bv t i ∧ bv t i ≤ 57 := by
  simp only [chOk, Bool.and_eq_true, decide_eq_true_eq, decide_eq_false hi] at h
  obtain ⟨h1, h2⟩ := h
  have h2 : ¬ 97 ≤ bv t i := by simpa using h2
  unfold sv at h1
  split at h1
  · omega
  · split at h1 <;> omega
theorem chOk_let {t : List UInt8} {i : Nat} (h : chOk t i = true) (hi : 3 ≤ i ∧ i < 6) : sm (bv t i) = true := by
  simp only [chOk, Bool.and_eq_true, decide_eq_true_eq, decide_eq_true hi] at h
  obtain ⟨h1, h2⟩ := h
  have h2 : 97 ≤ bv t i := by simpa using h2
  unfold sv at h1
  split at h1
  · omega
  · split at h1
    · simp [sm]; omega
    · omega
theorem chOk_of_dig {t : List UInt8} {i : Nat} (h : 48 ≤ bv t i ∧ bv t i ≤ 57) (hi : ¬ (3 ≤ i ∧ i < 6)) : chOk t i = true := by
  have h1 : 0 ≤ sv (bv t i) := by rw [sv, if_pos h]; omega
  have h2 : ¬ 97 ≤ bv t i := by omega
  simp [chOk, h1, h2, hi]
theorem chOk_of_let {t : List UInt8} {i : Nat} (h : sm (bv t i) = true) (hi : 3 ≤ i ∧ i < 6) : chOk t i = true := by
  have h' := h
  simp only [sm, Bool.and_eq_true, decide_eq_true_eq] at h'
  have h1 : 0 ≤ sv (bv t i) := by rw [sv, if_neg (by omega), if_pos h']; omega
  simp [chOk, h1, h'.1, hi]

theorem digitVal_of {c : UInt8} (h : 48 ≤ c.toNat ∧ c.toNat ≤ 57) : Lib.digitVal c = some (c.toNat - 48) := by rw [Lib.digitVal, if_pos h]
theorem atoV3 {a b c : UInt8} (ha : 48 ≤ a.toNat ∧ a.toNat ≤ 57) (hb : 48 ≤ b.toNat ∧ b.toNat ≤ 57) (hc : 48 ≤ c.toNat ∧ c.toNat ≤ 57) :
    atoV [a, b, c] = (((a.toNat - 48) * 10 + (b.toNat - 48)) * 10 + (c.toNat - 48) : Nat) := by
  have n1 : (a == 45) = false := by rw [beq_eq_false_iff_ne]; rintro rfl; exact absurd ha.1 (by decide)
  have n2 : (a == 43) = false := by rw [beq_eq_false_iff_ne]; rintro rfl; exact absurd ha.1 (by decide)
  have e : Lib.decNat [a, b, c] = some (((a.toNat - 48) * 10 + (b.toNat - 48)) * 10 + (c.toNat - 48)) := by
    simp [Lib.decNat, Lib.decFrom, digitVal_of ha, digitVal_of hb, digitVal_of hc]
  simp only [atoV, Lib.atoi, n1, n2, Bool.false_eq_true, if_false, e, Option.map_some, Option.getD_some]
theorem atoV2 {a b : UInt8} (ha : 48 ≤ a.toNat ∧ a.toNat ≤ 57) (hb : 48 ≤ b.toNat ∧ b.toNat ≤ 57) :
    atoV [a, b] = ((a.toNat - 48) * 10 + (b.toNat - 48) : Nat) := by
  have n1 : (a == 45) = false := by rw [beq_eq_false_iff_ne]; rintro rfl; exact absurd ha.1 (by decide)
  have n2 : (a == 43) = false := by rw [beq_eq_false_iff_ne]; rintro rfl; exact absurd ha.1 (by decide)
  have e : Lib.decNat [a, b] = some ((a.toNat - 48) * 10 + (b.toNat - 48)) := by
    simp [Lib.decNat, Lib.decFrom, digitVal_of ha, digitVal_of hb]
  simp only [atoV, Lib.atoi, n1, n2, Bool.false_eq_true, if_false, e, Option.map_some, Option.getD_some]

theorem dgc_of {c : UInt8} {n : Nat} (h : c.toNat = 48 + n) : dgc n = c := by
  unfold dgc
  rw [← h, UInt8.ofNat_toNat]

/-- Where the bytes are those of a label, the book that they tell of has this label. -/
theorem isLb_rl {t : List UInt8} (h : isLb t = true) : t.length = 9 ∧ lbOk (rlB t) ∧ (rlB t).vol ≠ 0 ∧ labT (rlB t) = t := by
  simp only [isLb, Bool.and_eq_true, decide_eq_true_eq, List.all_eq_true, Bool.not_eq_true', decide_eq_false_iff_not] at h
  obtain ⟨hl, hall, h00, h8⟩ := h
  refine ⟨hl, ?_⟩
  match t, hl with
  | [c0, c1, c2, c3, c4, c5, c6, c7, c8], _ =>
  have ch := fun i (hi : i < 9) => hall i (List.mem_range.2 hi)
  have d0 := chOk_dig (ch 0 (by omega)) (by omega)
  have d1 := chOk_dig (ch 1 (by omega)) (by omega)
  have d2 := chOk_dig (ch 2 (by omega)) (by omega)
  have l3 := chOk_let (ch 3 (by omega)) (by omega)
  have l4 := chOk_let (ch 4 (by omega)) (by omega)
  have l5 := chOk_let (ch 5 (by omega)) (by omega)
  have d6 := chOk_dig (ch 6 (by omega)) (by omega)
  have d7 := chOk_dig (ch 7 (by omega)) (by omega)
  simp only [bv, List.getD_cons_zero, List.getD_cons_succ] at d0 d1 d2 d6 d7
  have b0 : 48 ≤ c0.toNat ∧ c0.toNat ≤ 57 := by omega
  have b1 : 48 ≤ c1.toNat ∧ c1.toNat ≤ 57 := by omega
  have b2 : 48 ≤ c2.toNat ∧ c2.toNat ≤ 57 := by omega
  have b6 : 48 ≤ c6.toNat ∧ c6.toNat ≤ 57 := by omega
  have b7 : 48 ≤ c7.toNat ∧ c7.toNat ≤ 57 := by omega
  clear d0 d1 d2 d6 d7 hall ch
  have ecl : (rlB [c0, c1, c2, c3, c4, c5, c6, c7, c8]).cl = (((c0.toNat - 48) * 10 + (c1.toNat - 48)) * 10 + (c2.toNat - 48) : Nat) := by
    show max (atoV [c0, c1, c2]) 0 = _
    rw [atoV3 b0 b1 b2]; omega
  have evl : (rlB [c0, c1, c2, c3, c4, c5, c6, c7, c8]).vol = ((c6.toNat - 48) * 10 + (c7.toNat - 48) : Nat) := by
    show max (atoV [c6, c7]) 0 = _
    rw [atoV2 b6 b7]; omega
  have hlb : lbOk (rlB [c0, c1, c2, c3, c4, c5, c6, c7, c8]) := ⟨by rw [ecl]; omega, ⟨l3, l4, l5⟩, by rw [evl]; omega⟩
  refine ⟨hlb, ?_, ?_⟩
  · rw [evl]
    intro h0
    refine h00 ?_
    have e6 : c6.toNat = 48 := by omega
    have e7 : c7.toNat = 48 := by omega
    have e6' : c6 = 48 := UInt8.toNat_inj.1 e6
    have e7' : c7 = 48 := UInt8.toNat_inj.1 e7
    rw [e6', e7']
    rfl
  · have e8 : lab8 (rlB [c0, c1, c2, c3, c4, c5, c6, c7, c8]) = [c0, c1, c2, c3, c4, c5, c6, c7] := by
      rw [lab8_eq hlb, ecl, evl]
      simp only [Int.toNat_natCast]
      rw [dgc_of (c := c0) (by omega), dgc_of (c := c1) (by omega), dgc_of (c := c2) (by omega), dgc_of (c := c6) (by omega), dgc_of (c := c7) (by omega)]
      have ea : ∀ c : UInt8, UInt8.ofNat ((c.toNat : Int)).toNat = c := fun c => by rw [Int.toNat_natCast, UInt8.ofNat_toNat]
      show [c0, c1, c2, UInt8.ofNat ((c3.toNat : Int)).toNat, UInt8.ofNat ((c4.toNat : Int)).toNat, UInt8.ofNat ((c5.toNat : Int)).toNat, c6, c7] = _
      rw [ea, ea, ea]
    unfold labT
    rw [e8]
    have ep : psum [c0, c1, c2, c3, c4, c5, c6, c7] 8 = psum [c0, c1, c2, c3, c4, c5, c6, c7, c8] 8 := psum_congr 8 fun i hi => by
      have hi : i = 0 ∨ i = 1 ∨ i = 2 ∨ i = 3 ∨ i = 4 ∨ i = 5 ∨ i = 6 ∨ i = 7 := by omega
      rcases hi with h | h | h | h | h | h | h | h <;> subst h <;> rfl
    have e9 : dgt [c0, c1, c2, c3, c4, c5, c6, c7] = c8 := by
      unfold dgt
      rw [ep]
      have h8 : (c8.toNat : Int) = ((48 + (psum [c0, c1, c2, c3, c4, c5, c6, c7, c8] 8).toNat % 10 : Nat) : Int) := h8
      exact dgc_of (c := c8) (by omega)
    rw [e9]
    rfl

/-- The label of a book is one. -/
theorem lab_isLb {x : Bk} (h : lbOk x) (hv : x.vol ≠ 0) : isLb (labT x) = true := by
  have h' := h
  obtain ⟨h1, ⟨ha, hb, hc⟩, h2⟩ := h'
  have na := sm_toNat ha
  have nb := sm_toNat hb
  have nc := sm_toNat hc
  have e8 := lab8_eq h
  have eT : labT x = [dgc (x.cl.toNat / 100), dgc (x.cl.toNat / 10 % 10), dgc (x.cl.toNat % 10), UInt8.ofNat x.a.toNat, UInt8.ofNat x.b.toNat, UInt8.ofNat x.c.toNat, dgc (x.vol.toNat / 10), dgc (x.vol.toNat % 10), dgt (lab8 x)] := by
    unfold labT
    conv => lhs; arg 1; rw [e8]
    rfl
  have ep : psum (labT x) 8 = psum (lab8 x) 8 := psum_congr 8 fun i hi => by
    rw [eT, e8]
    have hi : i = 0 ∨ i = 1 ∨ i = 2 ∨ i = 3 ∨ i = 4 ∨ i = 5 ∨ i = 6 ∨ i = 7 := by omega
    rcases hi with h | h | h | h | h | h | h | h <;> subst h <;> rfl
  have b0 : bv (labT x) 0 = (48 + x.cl.toNat / 100 : Nat) := by rw [eT]; show ((dgc _).toNat : Int) = _; rw [dgc_nat (by omega)]
  have b1 : bv (labT x) 1 = (48 + x.cl.toNat / 10 % 10 : Nat) := by rw [eT]; show ((dgc _).toNat : Int) = _; rw [dgc_nat (by omega)]
  have b2 : bv (labT x) 2 = (48 + x.cl.toNat % 10 : Nat) := by rw [eT]; show ((dgc _).toNat : Int) = _; rw [dgc_nat (by omega)]
  have b3 : bv (labT x) 3 = x.a := by rw [eT]; exact na.1
  have b4 : bv (labT x) 4 = x.b := by rw [eT]; exact nb.1
  have b5 : bv (labT x) 5 = x.c := by rw [eT]; exact nc.1
  have b6 : bv (labT x) 6 = (48 + x.vol.toNat / 10 : Nat) := by rw [eT]; show ((dgc _).toNat : Int) = _; rw [dgc_nat (by omega)]
  have b7 : bv (labT x) 7 = (48 + x.vol.toNat % 10 : Nat) := by rw [eT]; show ((dgc _).toNat : Int) = _; rw [dgc_nat (by omega)]
  have b8 : bv (labT x) 8 = ((48 + (psum (labT x) 8).toNat % 10 : Nat) : Int) := by
    rw [ep, eT]
    show ((dgc ((psum (lab8 x) 8).toNat % 10)).toNat : Int) = _
    rw [dgc_nat (by omega)]
  have hlen : (labT x).length = 9 := by rw [eT]; rfl
  have h00 : ((labT x).take 8).drop 6 ≠ [48, 48] := by
    rw [eT]
    show [dgc (x.vol.toNat / 10), dgc (x.vol.toNat % 10)] ≠ [48, 48]
    intro hh
    injection hh with h6 hh
    injection hh with h7 _
    have h6 := congrArg UInt8.toNat h6
    have h7 := congrArg UInt8.toNat h7
    rw [dgc_nat (by omega)] at h6 h7
    have e48 : (48 : UInt8).toNat = 48 := rfl
    rw [e48] at h6 h7
    omega
  have hall : (List.range 9).all (chOk (labT x)) = true := by
    rw [List.all_eq_true]
    intro i hi
    have hi := List.mem_range.1 hi
    have hi : i = 0 ∨ i = 1 ∨ i = 2 ∨ i = 3 ∨ i = 4 ∨ i = 5 ∨ i = 6 ∨ i = 7 ∨ i = 8 := by omega
    rcases hi with h | h | h | h | h | h | h | h | h <;> subst h
    · exact chOk_of_dig (by rw [b0]; omega) (by omega)
    · exact chOk_of_dig (by rw [b1]; omega) (by omega)
    · exact chOk_of_dig (by rw [b2]; omega) (by omega)
    · exact chOk_of_let (by rw [b3]; exact ha) (by omega)
    · exact chOk_of_let (by rw [b4]; exact hb) (by omega)
    · exact chOk_of_let (by rw [b5]; exact hc) (by omega)
    · exact chOk_of_dig (by rw [b6]; omega) (by omega)
    · exact chOk_of_dig (by rw [b7]; omega) (by omega)
    · exact chOk_of_dig (by rw [b8]; omega) (by omega)
  simp only [isLb, Bool.and_eq_true, decide_eq_true_eq, Bool.not_eq_true', decide_eq_false_iff_not]
  exact ⟨hlen, hall, h00, b8⟩

theorem rl_isLb (t : List UInt8) : (rlR t).2 = isLb t := by
  by_cases hi : isLb t = true
  · obtain ⟨hl, hlb, hv, hT⟩ := isLb_rl hi
    have hs : (sm (rlB t).a && (sm (rlB t).b && sm (rlB t).c)) = true := by
      obtain ⟨_, ⟨a, b, c⟩, _⟩ := hlb
      rw [a, b, c]; rfl
    rw [rlR, if_neg (by omega), if_pos (by rw [hs, decide_eq_false hv]; rfl), hi]
    exact decide_eq_true hT
  · have hf : isLb t = false := by simpa using hi
    rw [hf]
    unfold rlR
    split
    · rfl
    · rename_i hl
      split
      · rename_i hc
        simp only [Bool.and_eq_true, Bool.not_eq_true', decide_eq_false_iff_not] at hc
        obtain ⟨⟨a, b, c⟩, hv⟩ := hc
        have hr := rlB_rng t (by omega)
        refine decide_eq_false fun hT => hi ?_
        rw [← hT]
        exact lab_isLb ⟨hr.1, ⟨a, b, c⟩, hr.2⟩ hv
      · rfl
end Go.Proofs.YtilomajfcjpmnaaGreatDoor
