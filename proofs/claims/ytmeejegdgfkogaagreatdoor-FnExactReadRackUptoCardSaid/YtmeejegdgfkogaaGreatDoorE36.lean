/- Contracts of the program's functions, and what follows from them. -/
import Derived.Test.YtmeejegdgfkogaaGreatDoorE33
import Derived.Test.YtmeejegdgfkogaaGreatDoorE13
import Derived.Test.YtmeejegdgfkogaaGreatDoorK3
set_option linter.unusedVariables false
set_option maxRecDepth 100000
set_option linter.unusedSimpArgs false
namespace Go.Proofs.YtmeejegdgfkogaaGreatDoor
open Go Go.Av

/-! Books and racks out of their texts: what the program and the reference read, and that they agree. -/

theorem cut_hit {c : UInt8} {u r : List UInt8} (h : c ∉ u) : Lib.cut (u ++ c :: r) [c] = (u, r, true) := by
  rw [Lib.cut, Lib.index_one, ix_hit h, if_pos (by omega)]
  simp only [Int.toNat_natCast, List.length_singleton, Prod.mk.injEq, and_true]
  refine ⟨List.take_left' rfl, ?_⟩
  rw [show u ++ c :: r = (u ++ [c]) ++ r by simp, List.drop_left' (by simp)]
theorem cut_miss {c : UInt8} {s : List UInt8} (h : c ∉ s) : Lib.cut s [c] = (s, [], false) := by
  rw [Lib.cut, Lib.index_one, ix_miss h, if_neg (by omega)]
theorem cut_len {c : UInt8} (s : List UInt8) : (Lib.cut s [c]).1.length ≤ s.length ∧ (Lib.cut s [c]).2.1.length ≤ s.length := by
  by_cases h : c ∈ s
  · obtain ⟨u, r, rfl, hu⟩ := first_at h
    rw [cut_hit hu]
    simp only [List.length_append, List.length_cons]
    omega
  · rw [cut_miss h]; simp

theorem dd_no {n : Nat} {c : UInt8} (h : c.toNat < 48 ∨ 57 < c.toNat) : c ∉ Lib.decDigits n := fun hm => by
  have := dd_dig n c hm
  omega
theorem dd_len4 {n : Nat} (h : n ≤ 99999) : (Lib.decDigits n).length ≤ 9 := by
  rw [Lib.decDigits]
  split
  · simp
  · have h2 : n / 10 < 10000 := by omega
    rw [List.length_append, Lib.decDigits]
    split
    · simp
    · have := dd_len3 (n := n / 10 / 10) (by omega)
      rw [List.length_append]
      simp only [List.length_singleton]
      omega
theorem l1n_can {s : List UInt8} (h : (l1n s).2 = true) : ∃ n : Nat, s = Lib.decDigits n ∧ (l1n s).1 = n := by
  unfold l1n at h ⊢
  cases hc : cn s with
  | none => rw [hc] at h; simp at h
  | some n =>
    rw [hc] at h
    simp only at h ⊢
    split at h
    · rename_i hl
      exact ⟨n, cn_some hc, by rw [if_pos hl]⟩
    · simp at h
theorem l1n_small {n : Nat} (h : n ≤ 99999) : l1n (Lib.decDigits n) = ((n : Int), true) := by
  unfold l1n
  rw [cn_dd]
  simp only
  rw [if_pos (dd_len4 h)]
theorem shV_small {n : Nat} (h : n ≤ 32767) : shV (Lib.decDigits n) = n := by
  unfold shV
  rw [cn_dd]
  simp only
  rw [if_pos h]

/-- A book out of the parts of a text. -/
def mkB3 (f : List UInt8 → Int) (w0 w1 w2 z0 z1 w4 : List UInt8) : Bk := ⟨f w0, ((w1.getD 0 0).toNat : Int), ((w1.getD 1 0).toNat : Int), ((w1.getD 2 0).toNat : Int), f w2, f z0, f z1, f w4⟩
/-- What the program reads. -/
def rbP (s : List UInt8) : Bk × Bool :=
  let W := spl 32 s
  if W.length = 5 ∧ (W.getD 1 []).length = 3 then
    let b := mkB3 shV (W.getD 0 []) (W.getD 1 []) (W.getD 2 []) (Lib.cut (W.getD 3 []) [120]).1 (Lib.cut (W.getD 3 []) [120]).2.1 (W.getD 4 [])
    (b, vB b && decide (bookT b = s))
  else (bk0, false)

def okN (w : List UInt8) : Bool := (l1n w).2 && decide ((l1n w).1 ≤ 9999)
/-- What the reference reads. -/
def rbS (s : List UInt8) : Bk × Bool :=
  let W := spl 32 s
  if W.length = 5 ∧ (W.getD 1 []).length = 3 then
    let Z := spl 120 (W.getD 3 [])
    if Z.length = 2 then
      if ([W.getD 0 [], W.getD 2 [], Z.getD 0 [], Z.getD 1 [], W.getD 4 []].all okN) = true then
        let b := mkB3 (fun w => (l1n w).1) (W.getD 0 []) (W.getD 1 []) (W.getD 2 []) (Z.getD 0 []) (Z.getD 1 []) (W.getD 4 [])
        if vB b = true then (b, true) else (bk0, false)
      else (bk0, false)
    else (bk0, false)
  else (bk0, false)

theorem okN_can {w : List UInt8} (h : okN w = true) : ∃ n : Nat, n ≤ 9999 ∧ w = Lib.decDigits n ∧ (l1n w).1 = n ∧ shV w = n := by
  rw [okN, Bool.and_eq_true, decide_eq_true_eq] at h
  obtain ⟨n, h1, h2⟩ := l1n_can h.1
  have hn : n ≤ 9999 := by have := h.2; omega
  exact ⟨n, hn, h1, h2, by rw [h1]; exact shV_small (by omega)⟩
theorem okN_dd {n : Nat} (h : n ≤ 9999) : okN (Lib.decDigits n) = true := by
  rw [okN, l1n_small (by omega)]
  simp; omega

theorem bookT_eq (x : Bk) : bookT x = dcN x.cl ++ 32 :: (bys [x.a, x.b, x.c] ++ 32 :: (dcN x.vol ++ 32 :: ((dcN x.wd ++ 120 :: dcN x.hi) ++ 32 :: dcN x.wt))) := by simp [bookT]

theorem vB_parts {x : Bk} (h : vB x = true) : (0 ≤ x.cl ∧ x.cl ≤ 999) ∧ (sm x.a = true ∧ sm x.b = true ∧ sm x.c = true) ∧ (1 ≤ x.vol ∧ x.vol ≤ 99) ∧ (1 ≤ x.wd ∧ x.wd ≤ 100) ∧ (50 ≤ x.hi ∧ x.hi ≤ 400) ∧ (1 ≤ x.wt ∧ x.wt ≤ 9999) := by
  simp only [vB, Bool.and_eq_true, inr, decide_eq_true_eq] at h
  obtain ⟨⟨⟨⟨⟨h1, h2, h3, h4⟩, h5⟩, h6⟩, h7⟩, h8⟩ := h
  exact ⟨h1, ⟨h2, h3, h4⟩, h5, h6, h7, h8⟩

theorem bys_no {a b c : Int} {d : UInt8} (ha : sm a = true) (hb : sm b = true) (hc : sm c = true) (hd : d.toNat < 97) : d ∉ bys [a, b, c] := by
  have key : ∀ n : Int, sm n = true → d ≠ UInt8.ofNat n.toNat := fun n hn e => by
    obtain ⟨e1, h1, _⟩ := sm_toNat hn
    rw [← e] at e1
    omega
  simp only [bys, List.map_cons, List.map_nil, List.mem_cons, List.not_mem_nil, or_false, not_or]
  exact ⟨key a ha, key b hb, key c hc⟩

/-- The words of a book's text. -/
theorem spl_bookT {x : Bk} (h : vB x = true) : spl 32 (bookT x) = [dcN x.cl, bys [x.a, x.b, x.c], dcN x.vol, dcN x.wd ++ 120 :: dcN x.hi, dcN x.wt] := by
  obtain ⟨_, ⟨ha, hb, hc⟩, _⟩ := vB_parts h
  have hn : ∀ n : Int, (32 : UInt8) ∉ dcN n := fun n => dd_no (.inl (by decide))
  rw [bookT_eq, spl_hit (hn _), spl_hit (bys_no ha hb hc (by decide)), spl_hit (hn _), spl_hit (u := dcN x.wd ++ 120 :: dcN x.hi), spl_miss (hn _)]
  simp only [List.mem_append, List.mem_cons, not_or]
  exact ⟨hn _, by decide, hn _⟩

theorem mark_back {x : Bk} (ha : sm x.a = true) (hb : sm x.b = true) (hc : sm x.c = true) :
    (((bys [x.a, x.b, x.c]).getD 0 0).toNat : Int) = x.a ∧ (((bys [x.a, x.b, x.c]).getD 1 0).toNat : Int) = x.b ∧ (((bys [x.a, x.b, x.c]).getD 2 0).toNat : Int) = x.c :=
  ⟨(sm_toNat ha).1, (sm_toNat hb).1, (sm_toNat hc).1⟩

theorem rbS_bookT {x : Bk} (h : vB x = true) : rbS (bookT x) = (x, true) := by
  obtain ⟨h1, ⟨ha, hb, hc⟩, h2, h3, h4, h5⟩ := vB_parts h
  obtain ⟨m1, m2, m3⟩ := mark_back ha hb hc
  have hz : spl 120 (dcN x.wd ++ 120 :: dcN x.hi) = [dcN x.wd, dcN x.hi] := by
    have hn : ∀ n : Int, (120 : UInt8) ∉ dcN n := fun n => dd_no (.inr (by decide))
    rw [spl_hit (hn _), spl_miss (hn _)]
  have hv : ∀ n : Int, 0 ≤ n → n ≤ 9999 → okN (dcN n) = true ∧ (l1n (dcN n)).1 = n := fun n a b => by
    refine ⟨okN_dd (by omega), ?_⟩
    rw [dcN, l1n_small (by omega)]
    simp only
    omega
  have v1 := hv x.cl (by omega) (by omega)
  have v2 := hv x.vol (by omega) (by omega)
  have v3 := hv x.wd (by omega) (by omega)
  have v4 := hv x.hi (by omega) (by omega)
  have v5 := hv x.wt (by omega) (by omega)
  unfold rbS
  rw [spl_bookT h]
  simp only [List.getD_cons_succ, List.getD_cons_zero, hz]
  have hb3 : mkB3 (fun w => (l1n w).1) (dcN x.cl) (bys [x.a, x.b, x.c]) (dcN x.vol) (dcN x.wd) (dcN x.hi) (dcN x.wt) = x := by
    rw [mkB3, v1.2, v2.2, v3.2, v4.2, v5.2, m1, m2, m3]
  rw [if_pos ⟨rfl, rfl⟩, if_pos (show [dcN x.wd, dcN x.hi].length = 2 from rfl), if_pos (by simp only [List.all_cons, List.all_nil, v1.1, v2.1, v3.1, v4.1, v5.1, Bool.and_self]), hb3, if_pos h]

theorem list5 {l : List (List UInt8)} (h : l.length = 5) : l = [l.getD 0 [], l.getD 1 [], l.getD 2 [], l.getD 3 [], l.getD 4 []] := by
  match l, h with
  | [a, b, c, d, e], _ => rfl
theorem list2 {l : List (List UInt8)} (h : l.length = 2) : l = [l.getD 0 [], l.getD 1 []] := by
  match l, h with
  | [a, b], _ => rfl
theorem list3 {l : List UInt8} (h : l.length = 3) : bys [((l.getD 0 0).toNat : Int), ((l.getD 1 0).toNat : Int), ((l.getD 2 0).toNat : Int)] = l := by
  match l, h with
  | [a, b, c], _ => simp [bys]

/-- What the reference reads is the book with that text, and the program reads it, too. -/
theorem rbS_ok {s : List UInt8} (h : (rbS s).2 = true) : vB (rbS s).1 = true ∧ bookT (rbS s).1 = s ∧ rbP s = ((rbS s).1, true) := by
  have hs := jn_spl 32 s
  unfold rbS at h ⊢
  unfold rbP
  generalize spl 32 s = W at h hs ⊢
  simp only at h ⊢
  by_cases hW : W.length = 5 ∧ (W.getD 1 []).length = 3
  · rw [if_pos hW] at h ⊢
    rw [if_pos hW]
    have hz := jn_spl 120 (W.getD 3 [])
    generalize spl 120 (W.getD 3 []) = Z at h hz ⊢
    by_cases hZ : Z.length = 2
    · rw [if_pos hZ] at h ⊢
      have e5 := list5 hW.1
      have e2 := list2 hZ
      generalize W.getD 0 [] = w0 at e5 h ⊢
      generalize hw1 : W.getD 1 [] = w1 at e5 h hW ⊢
      generalize W.getD 2 [] = w2 at e5 h ⊢
      generalize W.getD 3 [] = w3 at e5 h hz ⊢
      generalize W.getD 4 [] = w4 at e5 h ⊢
      generalize Z.getD 0 [] = z0 at e2 h ⊢
      generalize Z.getD 1 [] = z1 at e2 h ⊢
      by_cases hall : ([w0, w2, z0, z1, w4].all okN) = true
      · rw [if_pos hall] at h ⊢
        simp only [List.all_cons, List.all_nil, Bool.and_true, Bool.and_eq_true] at hall
        obtain ⟨o0, o2, oz0, oz1, o4⟩ := hall
        obtain ⟨n0, b0, c0, l0, s0⟩ := okN_can o0
        obtain ⟨n2, b2, c2, l2, s2⟩ := okN_can o2
        obtain ⟨m0, bz0, cz0, lz0, sz0⟩ := okN_can oz0
        obtain ⟨m1, bz1, cz1, lz1, sz1⟩ := okN_can oz1
        obtain ⟨n4, b4, c4, l4, s4⟩ := okN_can o4
        rw [e2] at hz
        have hz : z0 ++ 120 :: z1 = w3 := hz
        rw [e5] at hs
        have hs : w0 ++ 32 :: (w1 ++ 32 :: (w2 ++ 32 :: (w3 ++ 32 :: w4))) = s := hs
        have hcut : Lib.cut w3 [120] = (z0, z1, true) := by
          rw [← hz]
          exact cut_hit (by rw [cz0]; exact dd_no (.inr (by decide)))
        have hbk : mkB3 shV w0 w1 w2 (Lib.cut w3 [120]).1 (Lib.cut w3 [120]).2.1 w4 = mkB3 (fun w => (l1n w).1) w0 w1 w2 z0 z1 w4 := by
          rw [hcut]
          simp only [mkB3, l0, l2, lz0, lz1, l4, s0, s2, sz0, sz1, s4]
        rw [hbk]
        have hT : bookT (mkB3 (fun w => (l1n w).1) w0 w1 w2 z0 z1 w4) = s := by
          rw [bookT_eq]
          simp only [mkB3, l0, l2, lz0, lz1, l4, list3 hW.2, dcN, Int.toNat_natCast]
          rw [← c0, ← c2, ← cz0, ← cz1, ← c4, hz, hs]
        generalize mkB3 (fun w => (l1n w).1) w0 w1 w2 z0 z1 w4 = b at h hT ⊢
        by_cases hv : vB b = true
        · rw [if_pos hv]
          exact ⟨hv, hT, by rw [hv, decide_eq_true hT]; rfl⟩
        · rw [if_neg hv] at h
          cases h
      · rw [if_neg hall] at h; cases h
    · rw [if_neg hZ] at h; cases h
  · rw [if_neg hW] at h; cases h

theorem rbP_ok {s : List UInt8} (h : (rbP s).2 = true) : vB (rbP s).1 = true ∧ bookT (rbP s).1 = s ∧ rbS s = ((rbP s).1, true) := by
  have key : vB (rbP s).1 = true ∧ bookT (rbP s).1 = s := by
    unfold rbP at h ⊢
    simp only at h ⊢
    split at h
    · rename_i hW
      rw [if_pos hW]
      rw [Bool.and_eq_true, decide_eq_true_eq] at h
      exact h
    · cases h
  refine ⟨key.1, key.2, ?_⟩
  have := rbS_bookT key.1
  rwa [key.2] at this

theorem rb_eq (s : List UInt8) : (rbP s).2 = (rbS s).2 ∧ ((rbP s).2 = true → (rbP s).1 = (rbS s).1) := by
  constructor
  · cases h1 : (rbP s).2 with
    | true => rw [(rbP_ok h1).2.2]
    | false =>
      cases h2 : (rbS s).2 with
      | false => rfl
      | true => rw [(rbS_ok h2).2.2] at h1; cases h1
  · intro h
    rw [(rbP_ok h).2.2]

theorem rbP_rng (s : List UInt8) : bkRng (rbP s).1 := by
  have hu : ∀ b : UInt8, (0 : Int) ≤ (b.toNat : Int) ∧ (b.toNat : Int) ≤ 255 := fun b => by have := b.toNat_lt; omega
  have hs : ∀ w, i16r (shV w) := fun w => by have := shV_ge w; simp only [i16r]; omega
  unfold rbP
  simp only
  split
  · exact ⟨hs _, hu _, hu _, hu _, hs _, hs _, hs _, hs _⟩
  · simp only [bkRng, i16r, u8r, bk0]; omega
end Go.Proofs.YtmeejegdgfkogaaGreatDoor
