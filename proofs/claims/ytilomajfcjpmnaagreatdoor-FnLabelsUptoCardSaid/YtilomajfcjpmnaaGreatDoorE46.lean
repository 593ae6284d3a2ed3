/- Contracts of the program's functions, and what follows from them. -/
import Derived.Test.YtilomajfcjpmnaaGreatDoorE31
import Derived.Test.YtilomajfcjpmnaaGreatDoorE45
set_option linter.unusedVariables false
set_option maxRecDepth 100000
set_option linter.unusedSimpArgs false
namespace Go.Proofs.YtilomajfcjpmnaaGreatDoor
open Go Go.Av

/-! Labels, mistyped: what holds of them, with no program in sight. -/

theorem labT_inj {x y : Bk} (hx : lbOk x) (hy : lbOk y) (h : labT y = labT x) : y.cl = x.cl ∧ y.a = x.a ∧ y.b = x.b ∧ y.c = x.c ∧ y.vol = x.vol := by
  have h8 : lab8 y = lab8 x := by
    have h1 := congrArg (List.take 8) h
    unfold labT at h1
    obtain ⟨_, _, ly, _⟩ := lab8_facts hy
    obtain ⟨_, _, lx, _⟩ := lab8_facts hx
    rwa [List.take_append_of_le_length (by omega), List.take_append_of_le_length (by omega), List.take_of_length_le (by omega), List.take_of_length_le (by omega)] at h1
  rw [lab8_eq hy, lab8_eq hx] at h8
  obtain ⟨⟨c1, c2⟩, ⟨ha, hb, hc⟩, v1, v2⟩ := hx
  obtain ⟨⟨c1', c2'⟩, ⟨ha', hb', hc'⟩, v1', v2'⟩ := hy
  simp only [List.cons.injEq, and_true] at h8
  obtain ⟨e0, e1, e2, e3, e4, e5, e6, e7⟩ := h8
  have dd : ∀ {m n : Nat}, m ≤ 9 → n ≤ 9 → dgc m = dgc n → m = n := fun hm hn e => by
    have := congrArg UInt8.toNat e
    rw [dgc_nat hm, dgc_nat hn] at this
    omega
  have e0 := dd (by omega) (by omega) e0
  have e1 := dd (by omega) (by omega) e1
  have e2 := dd (by omega) (by omega) e2
  have e6 := dd (by omega) (by omega) e6
  have e7 := dd (by omega) (by omega) e7
  have q : ∀ {m n : Int}, sm m = true → sm n = true → UInt8.ofNat m.toNat = UInt8.ofNat n.toNat → m = n := fun hm hn e => by
    have : ((UInt8.ofNat _).toNat : Int) = ((UInt8.ofNat _).toNat : Int) := congrArg (fun u : UInt8 => (u.toNat : Int)) e
    rw [(sm_toNat hm).1, (sm_toNat hn).1] at this
    exact this
  exact ⟨by omega, q ha' ha e3, q hb' hb e4, q hc' hc e5, by omega⟩

/-- A book's label, read. -/
theorem rd_lab {x : Bk} (h : lbOk x) (hv : x.vol ≠ 0) : rdR (labT x) = (x.cl, bys [x.a, x.b, x.c], x.vol, 0) := by
  have hi := lab_isLb h hv
  obtain ⟨_, h2, _, h4⟩ := isLb_rl hi
  obtain ⟨e1, e2, e3, e4, e5⟩ := labT_inj h h2 h4
  rw [rdR, if_pos hi, e1, e2, e3, e4, e5]

theorem psum8 (t : List UInt8) : psum t 8 = sv (bv t 0) + 3 * sv (bv t 1) + 7 * sv (bv t 2) + 9 * sv (bv t 3) + sv (bv t 4) + 3 * sv (bv t 5) + 7 * sv (bv t 6) + 9 * sv (bv t 7) := by
  have h : psum t 8 = 0 + 1 * sv (bv t 0) + 3 * sv (bv t 1) + 7 * sv (bv t 2) + 9 * sv (bv t 3) + 1 * sv (bv t 4) + 3 * sv (bv t 5) + 7 * sv (bv t 6) + 9 * sv (bv t 7) := rfl
  rw [h]; omega

theorem bv_set {t : List UInt8} {i : Nat} (hi : i < t.length) (c : UInt8) (j : Nat) : bv (t.set i c) j = if j = i then (c.toNat : Int) else bv t j := by
  unfold bv
  rw [List.getD_eq_getElem?_getD, List.getElem?_set]
  by_cases e : i = j
  · subst e
    rw [if_pos rfl, if_pos hi, if_pos rfl]; rfl
  · rw [if_neg e, if_neg (Ne.symm e), List.getD_eq_getElem?_getD]

/-- The digit d, moved on by k. -/
def mv10 (d k : Int) : Int := 48 + (d - 48 + k) % 10

theorem sv_dgi {c : Int} (h : 48 ≤ c ∧ c ≤ 57) : sv c = c - 48 := by rw [sv, if_pos h]

theorem isLb_all {t : List UInt8} (h : isLb t = true) : t.length = 9 ∧ (∀ i, i < 8 → 0 ≤ sv (bv t i)) ∧ (∀ i, i < 9 → ¬ (3 ≤ i ∧ i < 6) → 48 ≤ bv t i ∧ bv t i ≤ 57) ∧ bv t 8 = 48 + (psum t 8) % 10 := by
  simp only [isLb, Bool.and_eq_true, decide_eq_true_eq, List.all_eq_true, Bool.not_eq_true', decide_eq_false_iff_not] at h
  obtain ⟨hl, hall, h00, h8⟩ := h
  have hn : ∀ i, i < 8 → 0 ≤ sv (bv t i) := fun i hi => by
    have := hall i (List.mem_range.2 (by omega))
    simp only [chOk, Bool.and_eq_true, decide_eq_true_eq] at this
    exact this.1
  have := psum_nonneg t 8 hn
  exact ⟨hl, hn, fun i hi h => chOk_dig (hall i (List.mem_range.2 hi)) h, by rw [h8]; omega⟩

/-- A label with one digit moved is none. -/
theorem moved_not {t : List UInt8} (h : isLb t = true) {i : Nat} (hi : i = 0 ∨ i = 1 ∨ i = 2 ∨ i = 6 ∨ i = 7 ∨ i = 8) {k : Int} (hk : 1 ≤ k ∧ k ≤ 9) {c : UInt8} (hc : (c.toNat : Int) = mv10 (bv t i) k) : isLb (t.set i c) = false := by
  refine Bool.eq_false_iff.2 fun h' => ?_
  obtain ⟨hl, hn, hd, h8⟩ := isLb_all h
  obtain ⟨hl', hn', hd', h8'⟩ := isLb_all h'
  have hd0 := hd i (by omega) (by omega)
  have hb := fun j => bv_set (t := t) (i := i) (by omega) c j
  have hm : 48 ≤ (c.toNat : Int) ∧ (c.toNat : Int) ≤ 57 := by rw [hc, mv10]; omega
  have s1 := sv_dgi hd0
  have s2 := sv_dgi hm
  rw [mv10] at hc
  have hD : sv (c.toNat : Int) = sv (bv t i) + k ∨ sv (c.toNat : Int) = sv (bv t i) + k - 10 := by rw [s1, s2]; omega
  clear hd hd' hn hn' hl' hl h h' s1 s2 hm
  rw [psum8] at h8 h8'
  rcases hi with rfl | rfl | rfl | rfl | rfl | rfl
  all_goals
    simp (decide := true) only [hb, if_true, if_false, ite_true, ite_false] at h8'
    omega

/-- How many of the first j bytes differ. -/
def dfs (x w : List UInt8) : Nat → Nat
  | 0 => 0
  | j + 1 => dfs x w j + if bv x j = bv w j then 0 else 1

theorem dfs_set {w : List UInt8} {p : Nat} (hp : p < w.length) {c : UInt8} (hc : c ≠ w[p]) (j : Nat) : dfs (w.set p c) w j = if p < j then 1 else 0 := by
  induction j with
  | zero => rfl
  | succ j ih =>
    have hcc : (c.toNat : Int) ≠ bv w p := by
      intro e
      refine hc (UInt8.toNat_inj.1 ?_)
      have : bv w p = (w[p].toNat : Int) := by unfold bv; rw [List.getD_eq_getElem?_getD, List.getElem?_eq_getElem hp]; rfl
      rw [this] at e
      exact Int.ofNat_inj.1 e
    rw [dfs, ih, bv_set hp]
    by_cases e : j = p
    · subst e
      rw [if_pos rfl, if_neg hcc, if_neg (by omega), if_pos (by omega)]
    · rw [if_neg e, if_pos rfl]
      by_cases h : p < j
      · rw [if_pos h, if_pos (by omega)]
      · rw [if_neg h, if_neg (by omega)]

theorem near_dfs {w x : List UInt8} (hw : w.length = 9) (h : x ∈ lbsOf w (nearAll w)) : isLb x = true ∧ x.length = 9 ∧ dfs x w 9 = 1 := by
  obtain ⟨_, hm, _⟩ := lbsOf_facts w (nearAll w)
  obtain ⟨h1, h2, h3⟩ := (hm x).1 h
  refine ⟨h3, (isLb_rl h3).1, ?_⟩
  obtain ⟨m, hm, rfl⟩ := (nearAll_mem w x).1 h1
  have hp : m / 36 < w.length := by omega
  have hne : lettersL.getD (m % 36) 0 ≠ w[m / 36] := fun e => h2 ((rep_ne hp _).2 e)
  rw [rep_eq hp, dfs_set hp hne, if_pos (by omega)]

/-- The label meant is among those near the mistyped one. -/
theorem due_near {t : List UInt8} (h : isLb t = true) {i : Nat} (hi : i < 9) (hi2 : ¬ (3 ≤ i ∧ i < 6)) {c : UInt8} (hw : isLb (t.set i c) = false) : t ∈ lbsOf (t.set i c) (nearAll (t.set i c)) := by
  obtain ⟨hl, _, hd, _⟩ := isLb_all h
  obtain ⟨_, hm, _⟩ := lbsOf_facts (t.set i c) (nearAll (t.set i c))
  refine (hm t).2 ⟨?_, fun e => ?_, h⟩
  · unfold nearAll
    rw [List.mem_flatMap]
    refine ⟨i, List.mem_range.2 hi, List.mem_map.2 ⟨t[i], ?_, ?_⟩⟩
    · have := hd i hi hi2
      have e : bv t i = (t[i].toNat : Int) := by unfold bv; rw [List.getD_eq_getElem?_getD, List.getElem?_eq_getElem (by omega)]; rfl
      rw [e] at this
      have h3 : ∀ n : Fin 256, 48 ≤ n.val → n.val ≤ 57 → UInt8.ofNat n.val ∈ lettersL := by decide
      have := h3 ⟨t[i].toNat, t[i].toNat_lt⟩ (by show 48 ≤ t[i].toNat; omega) (by show t[i].toNat ≤ 57; omega)
      simpa using this
    · rw [rep_eq (by simp; omega)]
      rw [List.set_set]
      exact List.set_getElem_self _
  · rw [← e] at hw
    rw [h] at hw
    cases hw
end Go.Proofs.YtilomajfcjpmnaaGreatDoor
