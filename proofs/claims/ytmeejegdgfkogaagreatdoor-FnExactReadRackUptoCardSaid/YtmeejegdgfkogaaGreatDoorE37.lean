/- Contracts of the program's functions, and what follows from them. -/
import Derived.Test.YtmeejegdgfkogaaGreatDoorE36
set_option linter.unusedVariables false
set_option maxRecDepth 100000
set_option linter.unusedSimpArgs false
namespace Go.Proofs.YtmeejegdgfkogaaGreatDoor
open Go Go.Av

/-! Racks out of their texts: what the program and the reference read, and that they agree. -/

/-- A book in a place, out of a line: the program. -/
def rpP (s : List UInt8) : Pl × Bool := (⟨shV (Lib.cut s [32]).1, (rbP (Lib.cut s [32]).2.1).1⟩, (rbP (Lib.cut s [32]).2.1).2)
def rdLP (s : List UInt8) : List Pl × Bool := if (rdOk s 60 && (lines s).all fun l => (rpP l).2) = true then ((lines s).map fun l => (rpP l).1, true) else ([], false)
def rkC (s : List UInt8) : Rk := ⟨shV (Lib.cut s [10]).1, (rdLP (Lib.cut s [10]).2.1).1⟩
def rkP (s : List UInt8) : Rk × Int := if ((Lib.cut s [10]).2.2 && (rdLP (Lib.cut s [10]).2.1).2 && vR (rkC s) && decide (rkT (rkC s) = s)) = true then (rkC s, 0) else (rk0, 5)

/-- The first word of a line. -/
def fw (s : List UInt8) : List UInt8 := s.takeWhile fun b => decide (b ≠ 32)
def lnS (n : Int) (s : List UInt8) : Bool := (l1n (fw s)).2 && decide ((l1n (fw s)).1 < n) && decide ((fw s).length ≠ s.length) && (rbS (s.drop ((fw s).length + 1))).2
def lnV (s : List UInt8) : Pl := ⟨(l1n (fw s)).1, (rbS (s.drop ((fw s).length + 1))).1⟩
def rkS (s : List UInt8) : Rk × Int := match lines s with
  | [] => (rk0, 5)
  | w :: ls => if (ended s && (l1n w).2 && inr (l1n w).1 1 60 && ls.all (lnS (l1n w).1)) = true then (if vR ⟨(l1n w).1, ls.map lnV⟩ = true then (⟨(l1n w).1, ls.map lnV⟩, 0) else (rk0, 5)) else (rk0, 5)

theorem fw_hit {u r : List UInt8} (h : (32 : UInt8) ∉ u) : fw (u ++ 32 :: r) = u := by
  induction u with
  | nil => simp [fw]
  | cons b u ih =>
    have hb : b ≠ 32 := fun e => h (by simp [e])
    have := ih (fun h' => h (List.mem_cons_of_mem _ h'))
    rw [fw] at this ⊢
    rw [List.cons_append, List.takeWhile_cons, decide_eq_true hb, this]
    rfl
theorem fw_split {s : List UInt8} (h : (fw s).length ≠ s.length) : s = fw s ++ 32 :: s.drop ((fw s).length + 1) ∧ (32 : UInt8) ∉ fw s := by
  by_cases hm : (32 : UInt8) ∈ s
  · obtain ⟨u, r, e, hu⟩ := first_at hm
    have : fw s = u := by rw [e, fw_hit hu]
    rw [this]
    refine ⟨?_, hu⟩
    rw [e, show u ++ 32 :: r = (u ++ [32]) ++ r by simp, List.drop_left' (by simp)]
    simp
  · exfalso
    apply h
    have : fw s = s := by
      rw [fw]
      have : ∀ l : List UInt8, (32 : UInt8) ∉ l → l.takeWhile (fun b => decide (b ≠ 32)) = l := by
        intro l
        induction l with
        | nil => intro _; rfl
        | cons b l ih =>
          intro h
          have hb : b ≠ 32 := fun e => h (by simp [e])
          rw [List.takeWhile_cons, decide_eq_true hb, ih (fun h' => h (List.mem_cons_of_mem _ h'))]
          rfl
      exact this s hm
    rw [this]

theorem jn_end (c : UInt8) : ∀ ls : List (List UInt8), jn c (ls ++ [[]]) = ls.flatMap fun l => l ++ [c]
  | [] => rfl
  | [w] => by simp [jn]
  | w :: v :: ls => by
    have := jn_end c (v :: ls)
    rw [List.cons_append, List.cons_append, jn, ← List.cons_append, this]
    simp
/-- A text of ended lines, by its lines. -/
theorem ended_eq {s : List UInt8} (h : ended s = true) : s = (lines s).flatMap fun l => l ++ [10] := by
  obtain ⟨w, h1, h2, _⟩ := lines_facts s
  rw [h, decide_eq_true_eq] at h2
  have := jn_spl 10 s
  rw [h1, h2, jn_end] at this
  exact this.symm
theorem lines_of {s : List UInt8} {ls : List (List UInt8)} (h : spl 10 s = ls ++ [[]]) : lines s = ls ∧ ended s = true := by
  obtain ⟨w, h1, h2, _⟩ := lines_facts s
  have hl : lines s = ls := by rw [lines, h]; simp
  refine ⟨hl, ?_⟩
  rw [h, hl] at h1
  have := List.append_cancel_left h1
  rw [← h2]
  simp at this
  simp [this]

theorem vB_rng {x : Bk} (h : vB x = true) : bkRng x := by
  obtain ⟨h1, ⟨ha, hb, hc⟩, h2, h3, h4, h5⟩ := vB_parts h
  have sr : ∀ n, sm n = true → u8r n := fun n hn => by
    obtain ⟨_, a, b⟩ := sm_toNat hn
    simp only [u8r]; omega
  refine ⟨?_, sr _ ha, sr _ hb, sr _ hc, ?_, ?_, ?_, ?_⟩ <;> simp only [i16r] <;> omega

theorem bookT_no {x : Bk} (h : vB x = true) : (10 : UInt8) ∉ bookT x := by
  obtain ⟨_, ⟨ha, hb, hc⟩, _⟩ := vB_parts h
  have hn : ∀ n : Int, (10 : UInt8) ∉ dcN n := fun n => dd_no (.inl (by decide))
  rw [bookT_eq]
  simp only [List.mem_append, List.mem_cons, not_or]
  exact ⟨hn _, by decide, bys_no ha hb hc (by decide), by decide, hn _, by decide, ⟨hn _, by decide, hn _⟩, by decide, hn _⟩
theorem plT_no {y : Pl} (h : vB y.b = true) : (10 : UInt8) ∉ plT y := by
  rw [plT]
  simp only [List.mem_append, List.mem_singleton, not_or]
  exact ⟨⟨dd_no (.inl (by decide)), by decide⟩, bookT_no h⟩
theorem spl_lnT : ∀ {l : List Pl}, (∀ y ∈ l, vB y.b = true) → spl 10 (lns plT l) = l.map plT ++ [[]]
  | [], _ => rfl
  | y :: l, h => by
    have e : lns plT (y :: l) = plT y ++ 10 :: lns plT l := by simp [lns]
    rw [e, spl_hit (plT_no (h y (by simp))), spl_lnT (fun z hz => h z (by simp [hz]))]
    rfl

theorem plT_line {y : Pl} {n : Int} (hb : vB y.b = true) (h0 : 0 ≤ y.p) (h1 : y.p < n) (hn : n ≤ 60) : lnS n (plT y) = true ∧ lnV (plT y) = y := by
  have e : plT y = dcN y.p ++ 32 :: bookT y.b := by simp [plT]
  have h32 : (32 : UInt8) ∉ dcN y.p := dd_no (.inl (by decide))
  have hf : fw (plT y) = dcN y.p := by rw [e, fw_hit h32]
  have hd : (plT y).drop ((dcN y.p).length + 1) = bookT y.b := by
    rw [e, show dcN y.p ++ 32 :: bookT y.b = (dcN y.p ++ [32]) ++ bookT y.b by simp, List.drop_left' (by simp)]
  have hl : l1n (dcN y.p) = (y.p, true) := by
    rw [dcN, l1n_small (by omega)]
    simp only [Prod.mk.injEq, and_true]
    omega
  refine ⟨?_, ?_⟩
  · rw [lnS, hf, hl, hd, rbS_bookT hb]
    have : (dcN y.p).length ≠ (plT y).length := by rw [e, List.length_append, List.length_cons]; omega
    simp [h1, this]
  · rw [lnV, hf, hl, hd, rbS_bookT hb]

theorem rkS_rkT {r : Rk} (h : vR r = true) : rkS (rkT r) = (r, 0) := by
  obtain ⟨hp, hx⟩ := vR_pl h
  have hvb : ∀ y ∈ r.bs, vB y.b = true := fun y hy => (hx y hy).2
  have e : rkT r = dcN r.pl ++ 10 :: lns plT r.bs := by simp [rkT]
  have hspl : spl 10 (rkT r) = (dcN r.pl :: r.bs.map plT) ++ [[]] := by
    have h10 : (10 : UInt8) ∉ dcN r.pl := dd_no (.inl (by decide))
    rw [e, spl_hit h10, spl_lnT hvb]; rfl
  obtain ⟨hl, he⟩ := lines_of hspl
  have hn : l1n (dcN r.pl) = (r.pl, true) := by
    rw [dcN, l1n_small (by omega)]
    simp only [Prod.mk.injEq, and_true]
    omega
  have hline := fun y (hy : y ∈ r.bs) => plT_line (n := r.pl) (hvb y hy) (hx y hy).1.1 (hx y hy).1.2 hp.2
  have hall : ((r.bs.map plT).all (lnS r.pl)) = true := by
    rw [List.all_eq_true]
    intro l hl
    obtain ⟨y, hy, rfl⟩ := List.mem_map.1 hl
    exact (hline y hy).1
  have hmap : (r.bs.map plT).map lnV = r.bs := by
    rw [List.map_map]
    conv => rhs; rw [← List.map_id r.bs]
    exact List.map_congr_left fun y hy => (hline y hy).2
  have hin : inr r.pl 1 60 = true := by simp only [inr, Bool.and_eq_true, decide_eq_true_eq]; exact hp
  rw [rkS, hl]
  simp only [hn, hall, hmap, he, hin, Bool.and_self, if_true, h]

theorem rkS_bad {s : List UInt8} (h : (rkS s).2 ≠ 0) : rkS s = (rk0, 5) := by
  unfold rkS at h ⊢
  split
  · rfl
  · rename_i w ls hl
    rw [hl] at h
    simp only at h
    split
    · rename_i h1
      rw [if_pos h1] at h
      split
      · rename_i h2
        rw [if_pos h2] at h
        exact absurd rfl h
      · rfl
    · rfl

theorem rkS_ok {s : List UInt8} (h : (rkS s).2 = 0) : rkP s = rkS s := by
  have hf := lines_facts s
  have hR : rkS s = rkS s := rfl
  conv at hR => rhs; unfold rkS
  have hen := ended_eq (s := s)
  obtain ⟨w0, hspl, hw0, _⟩ := hf
  generalize lines s = W at hR hen hspl
  cases W with
  | nil => rw [hR] at h; cases h
  | cons w ls =>
    simp only at hR
    by_cases hc : (ended s && (l1n w).2 && inr (l1n w).1 1 60 && ls.all (lnS (l1n w).1)) = true
    · rw [if_pos hc] at hR
      by_cases hv : vR ⟨(l1n w).1, ls.map lnV⟩ = true
      · rw [if_pos hv] at hR
        rw [Bool.and_eq_true, Bool.and_eq_true, Bool.and_eq_true] at hc
        obtain ⟨⟨⟨he, hn⟩, hin⟩, hall⟩ := hc
        have hse := hen he
        rw [he, decide_eq_true_eq] at hw0
        rw [hw0] at hspl
        obtain ⟨n, hwn, hn1⟩ := l1n_can hn
        rw [List.all_eq_true] at hall
        have hpos : 1 ≤ (n : Int) ∧ (n : Int) ≤ 60 := by
          rw [hn1] at hin
          simpa only [inr, Bool.and_eq_true, decide_eq_true_eq] using hin
        have hline : ∀ l ∈ ls, plT (lnV l) = l ∧ rpP l = (lnV l, true) := by
          intro l hl
          have := hall l hl
          rw [lnS, Bool.and_eq_true, Bool.and_eq_true, Bool.and_eq_true, decide_eq_true_eq, decide_eq_true_eq] at this
          obtain ⟨⟨⟨h1, h2⟩, h3⟩, h4⟩ := this
          obtain ⟨e, h32⟩ := fw_split h3
          obtain ⟨m, hm1, hm2⟩ := l1n_can h1
          obtain ⟨b1, b2, b3⟩ := rbS_ok h4
          have hm : m ≤ 60 := by rw [hn1] at h2; omega
          constructor
          · rw [plT, lnV, b2, hm2, dcN, Int.toNat_natCast, ← hm1]
            rw [List.append_assoc]
            exact e.symm
          · have hcut : Lib.cut l [32] = (fw l, l.drop ((fw l).length + 1), true) := by
              conv => lhs; rw [e]
              exact cut_hit h32
            have hsv : shV (fw l) = m := by rw [hm1]; exact shV_small (by omega)
            rw [rpP, hcut]
            simp only
            rw [b3, lnV, hm2, hsv]
        have hrest : s = w ++ 10 :: ls.flatMap fun l => l ++ [10] := by
          rw [hse]; simp
        have h10 : (10 : UInt8) ∉ w := by rw [hwn]; exact dd_no (.inl (by decide))
        have hcut : Lib.cut s [10] = (w, ls.flatMap (fun l => l ++ [10]), true) := by
          conv => lhs; rw [hrest]
          exact cut_hit h10
        have hsplr : spl 10 (ls.flatMap fun l => l ++ [10]) = ls ++ [[]] := by
          have := hspl
          rw [hrest, spl_hit h10, List.cons_append] at this
          exact (List.cons.inj this).2
        obtain ⟨hl2, he2⟩ := lines_of hsplr
        have hrng : ∀ x ∈ (⟨(l1n w).1, ls.map lnV⟩ : Rk).bs, plRng x := by
          intro x hx
          obtain ⟨hpl, hxx⟩ := vR_pl hv
          obtain ⟨⟨a1, a2⟩, a3⟩ := hxx x hx
          refine ⟨?_, vB_rng a3⟩
          simp only [i16r]
          have := hpl.2
          omega
        have hlen : ls.length ≤ 60 := by
          have : (((ls.map lnV).length : Nat) : Int) ≤ (l1n w).1 := VR.len ((vR_VR hrng).1 hv)
          rw [hn1, List.length_map] at this
          omega
        obtain ⟨_, hspl3, _, hcount⟩ := lines_facts (ls.flatMap fun l => l ++ [10])
        rw [hl2] at hcount
        have hL : rdLP (ls.flatMap fun l => l ++ [10]) = (ls.map lnV, true) := by
          have h1 : rdOk (ls.flatMap fun l => l ++ [10]) 60 = true := by
            rw [rdOk, he2, hcount]; simp [hlen]
          have h2 : (ls.all fun l => (rpP l).2) = true := by
            rw [List.all_eq_true]
            intro l hl
            rw [(hline l hl).2]
          rw [rdLP, hl2, h1, h2]
          simp only [Bool.and_self, if_true, Prod.mk.injEq, and_true]
          exact List.map_congr_left fun l hl => by rw [(hline l hl).2]
        have hr : rkC s = ⟨(l1n w).1, ls.map lnV⟩ := by
          rw [rkC, hcut]
          simp only
          rw [hL, hn1, hwn, shV_small (by omega)]
        have hT : rkT (rkC s) = s := by
          rw [hr, rkT, hn1]
          simp only
          rw [dcN, Int.toNat_natCast, ← hwn]
          conv => rhs; rw [hrest]
          rw [List.append_assoc]
          have : lns plT (ls.map lnV) = ls.flatMap fun l => l ++ [10] := by
            rw [lns, List.flatMap_map]
            rw [List.flatMap_def, List.flatMap_def]
            congr 1
            exact List.map_congr_left fun l hl => by rw [(hline l hl).1]
          rw [this]
          rfl
        rw [hR, rkP, hT, hr, hcut]
        simp only
        rw [hL, hv]
        simp
      · rw [if_neg hv] at hR; rw [hR] at h; cases h
    · rw [if_neg hc] at hR; rw [hR] at h; cases h

/-- The program reads what the reference reads. -/
theorem rk_eq (s : List UInt8) : rkP s = rkS s := by
  by_cases h : (rkS s).2 = 0
  · exact rkS_ok h
  · rw [rkS_bad h]
    unfold rkP
    split
    · rename_i hc
      rw [Bool.and_eq_true, Bool.and_eq_true, decide_eq_true_eq] at hc
      have := rkS_rkT hc.1.2
      rw [hc.2] at this
      rw [this] at h
      exact absurd rfl h
    · rfl
end Go.Proofs.YtmeejegdgfkogaaGreatDoor
