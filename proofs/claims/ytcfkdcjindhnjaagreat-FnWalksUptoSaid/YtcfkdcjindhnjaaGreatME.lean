/- Parts of a proof, in one text: B10, B11, B12, B13, B14, B15, B16, B17, B18, B19. -/
import Derived.Test.YtcfkdcjindhnjaaGreatMC
import Derived.Test.YtcfkdcjindhnjaaGreatMD
import Derived.Test.YtcfkdcjindhnjaaGreatMF
set_option linter.unusedVariables false

/- Contracts of the program's functions, and what follows from them. -/
set_option maxRecDepth 100000
namespace Go.Proofs.YtcfkdcjindhnjaaGreat
open Go Go.Av

/-! A shelf without some books. -/

noncomputable def X45 : Fx := ⟨Tryz.prog, tys, 45, Tryz.f45, [0, 1]⟩
theorem X45_ok : X45.Ok := ⟨Tryz.func45, tys_ok⟩
theorem l00Has_ct (l : List Int) (ex : Bool) (n : Int) (hlen : l.length ≤ 1048576) : Ct Tryz.prog 45 [.ro 1 ex (l.map i64), i64 n] (bo (l.any fun x => x == n)) [] := by
  refine Ct.intro X45 X45_ok rfl rfl rfl rfl fun g hg => ?_
  repeat (refine Run.go rfl ?_)
  refine Run.loop (fun j : Nat => ⟨[(0, .ro 1 ex (l.map i64)), (1, i64 n), (5, i64 j)], []⟩) (fun j => j ≤ l.length ∧ (l.take j).any (fun x => x == n) = false) (fun j => l.length - j) 0 ⟨by omega, rfl⟩ ?_ ?_
  · exact St.Le.mk' ⟨rfl, rfl, rfl, trivial⟩ trivial
  rintro j ⟨hj, hany⟩ IH
  repeat (refine Run.go rfl ?_)
  refine Run.cond rfl (fun h => ?_) (fun h => ?_)
  · have hlt : j < l.length := by simpa using h
    repeat (refine Run.go rfl ?_)
    refine Run.val rfl rfl rfl (ValOk.idx (i64 l[j]) rfl rfl rfl rfl rfl (by omega) (by simp [hlt])) rfl ?_
    repeat (refine Run.go rfl ?_)
    refine Run.cond rfl (fun h => ?_) (fun h => ?_)
    · have h : (l[j] == n) = true := h
      repeat (refine Run.go rfl ?_)
      refine Run.ret hg rfl ?_
      have : l.any (fun x => x == n) = true := List.any_eq_true.mpr ⟨l[j], by simp, h⟩
      rw [this]
      rfl
    · have h : (l[j] == n) = false := h
      repeat (refine Run.go rfl ?_)
      refine Run.of (IH (j + 1) ⟨by omega, ?_⟩ (by omega)) ⟨rfl, rfl, ?_, trivial⟩ trivial
      · rw [List.take_succ_eq_append_getElem hlt, List.any_append, hany]
        simp only [List.any_cons, List.any_nil, h, Bool.or_false]
      · show i64 _ = _
        rw [wrap_i64 (by omega) (by omega)]
        rfl
  · have hj' : j = l.length := by simp at h; omega
    subst hj'
    rw [List.take_length] at hany
    repeat (refine Run.go rfl ?_)
    refine Run.ret hg rfl ?_
    rw [hany]
    rfl

def rsP (l : List Int) (j : Nat) : Bool := decide (l.getD j 0 < l.getD (j + 1) 0)
def rs (l : List Int) : Bool := (List.range (l.length - 1)).all (rsP l)

end Go.Proofs.YtcfkdcjindhnjaaGreat

/- Contracts of the program's functions, and what follows from them. -/
set_option maxRecDepth 100000
namespace Go.Proofs.YtcfkdcjindhnjaaGreat
open Go Go.Av

/-! For each wanted book the first one that is like it and not taken. -/

def fst (n : Nat) (q : Nat → Bool) : Nat := (List.range n).findIdx q
theorem fst_le (n : Nat) (q : Nat → Bool) : fst n q ≤ n := by
  have := List.findIdx_le_length (xs := List.range n) (p := q)
  rwa [List.length_range] at this
theorem fst_at {n : Nat} {q : Nat → Bool} (h : fst n q < n) : q (fst n q) = true := by
  have h' : (List.range n).findIdx q < (List.range n).length := by rw [List.length_range]; exact h
  have := List.findIdx_getElem (w := h')
  rwa [List.getElem_range] at this
theorem fst_eq {n j : Nat} {q : Nat → Bool} (hj : j < n) (hq : q j = true) (hn : ∀ i, i < j → q i = false) : fst n q = j := by
  unfold fst
  rw [List.findIdx_eq (by rw [List.length_range]; exact hj)]
  refine ⟨by rw [List.getElem_range]; exact hq, fun i hi => ?_⟩
  rw [List.getElem_range]
  exact hn i hi
theorem fst_none {n : Nat} {q : Nat → Bool} (hn : ∀ i, i < n → q i = false) : fst n q = n := by
  have h1 := fst_le n q
  apply Classical.byContradiction
  intro hne
  have h2 := fst_at (n := n) (q := q) (by omega)
  rw [hn _ (by omega)] at h2
  cases h2

theorem fi_nums (n : Nat) (p : Int → Bool) : (if 0 ≤ fi p (nums n) then fi p (nums n) else ((nums n).length : Int)) = (fst n (fun i => p (i : Int)) : Nat) := by
  have e : (nums n).findIdx p = fst n (fun i => p (i : Int)) := by
    unfold nums fst
    rw [List.findIdx_map]
    rfl
  have hl : (nums n).length = n := by simp [nums]
  have h1 := fst_le n (fun i => p (i : Int))
  unfold fi
  rw [e, hl]
  split <;> split <;> omega

noncomputable def X63 : Fx := ⟨Tryz.prog, tys, 63, Tryz.f63, [0, 1]⟩
theorem X63_ok : X63.Ok := ⟨Tryz.func63, tys_ok⟩
theorem firstOf_ct (L : List Int) (ex : Bool) (f : Nat) (caps : List AV) (p : Int → Bool) (hlen : L.length ≤ 1048576) (hc : AV.freeL caps = true) (hf : ∀ x ∈ L, Ct Tryz.prog f ([i64 x] ++ caps) (bo (p x)) []) :
    Ct Tryz.prog 63 [.ro 1 ex (L.map i64), .fn f caps] (i64 (if 0 ≤ fi p L then fi p L else (L.length : Int))) [] := by
  refine Ct.intro X63 X63_ok rfl (by kernel_rfl) rfl rfl fun g hg => ?_
  repeat (refine Run.go rfl ?_)
  refine Run.callp rfl rfl rfl rfl rfl rfl (by simp [AV.freeL, AV.free, hc]) rfl rfl (indexI_ct L ex f caps p hlen hc hf) (by decide) (by decide) ?_
  repeat (refine Run.go rfl ?_)
  refine Run.cond rfl (fun h => ?_) (fun h => ?_)
  · have h : 0 ≤ fi p L := of_decide_eq_true h
    repeat (refine Run.go rfl ?_)
    refine Run.ret hg rfl ?_
    rw [if_pos h]
    rfl
  · have h : ¬ 0 ≤ fi p L := of_decide_eq_false h
    repeat (refine Run.go rfl ?_)
    refine Run.ret hg rfl ?_
    rw [if_neg h]
    show i64 ((L.map i64).length : Int) = _
    rw [List.length_map]

def bof (b : Bool) : AV := bo b
def isIn (out : List Int) (i : Nat) : Bool := out.any fun x => x == (i : Int)
def flg (n : Nat) (out : List Int) : List Bool := (List.range n).map (isIn out)
theorem frzBo (l : List Bool) : AV.frzL (l.map bof) = l.map bof := frzL_map (fun _ => rfl) l

noncomputable def X65 : Fx := ⟨Tryz.prog, tys, 65, Tryz.f65, [0, 1, 2, 3, 4]⟩
theorem X65_ok : X65.Ok := ⟨Tryz.func65, tys_ok⟩
theorem matched1_ct (i : Nat) (fl : List Bool) (l : List Bk) (w : Bk) (e : Bool) (f : Nat) (like : Bk → Bk → Bool) (hi : i < l.length) (hfl : fl.length = l.length) (hw : bkRng w) (hr : ∀ x ∈ l, bkRng x)
    (hf : ∀ x y, bkRng x → bkRng y → Ct Tryz.prog f [bkA x, bkA y] (bo (like x y)) []) :
    Ct Tryz.prog 65 [i64 i, .rp [.ro 1 true (fl.map bof)] 0, .rp [.fn f []] 0, .rp [.ro 8 e (l.map bkA)] 0, .rp (bkA w).cells 0] (bo (!fl.getD i false && like (l.getD i bk0) w)) [] := by
  have hif : i < fl.length := by omega
  rw [show fl.getD i false = fl[i] by simp [hif], show l.getD i bk0 = l[i] by simp [hi]]
  refine Ct.intro X65 X65_ok rfl (by kernel_rfl) rfl rfl fun g hg => ?_
  repeat (refine Run.go rfl ?_)
  refine Run.drawS ⟨[(6, bo (!fl[i] && like l[i] w))], []⟩ (by kernel_rfl) (by decide +kernel) ?_ ?_
  · repeat (refine Quiet.go rfl ?_)
    refine Quiet.val rfl rfl (ValOk.idx (bof fl[i]) rfl rfl rfl rfl rfl (by omega) (by simp [hif])) rfl ?_
    repeat (refine Quiet.go rfl ?_)
    refine Quiet.bool 12 rfl (fun h => ?_) (fun h => ?_)
    · have h : (!fl[i]) = true := h
      repeat (refine Quiet.go rfl ?_)
      refine Quiet.val rfl rfl (ValOk.idx (bkA l[i]) rfl rfl rfl rfl rfl (by omega) (by simp [hi])) rfl ?_
      repeat (refine Quiet.go rfl ?_)
      refine Quiet.cs rfl rfl rfl rfl rfl (hf l[i] w (hr _ (by simp)) hw) rfl rfl ?_
      repeat (refine Quiet.go rfl ?_)
      refine Quiet.nil (St.Le.mk' ⟨?_, trivial⟩ trivial)
      show bo (like l[i] w) = bo _
      rw [h, Bool.true_and]
    · have h : (!fl[i]) = false := h
      repeat (refine Quiet.go rfl ?_)
      refine Quiet.nil (St.Le.mk' ⟨?_, trivial⟩ trivial)
      show bo false = bo _
      rw [h, Bool.false_and]
  · repeat (refine Run.go rfl ?_)
    exact Run.ret hg rfl rfl

/-- The first book that is like w and not yet in out. -/
def mfst (l : List Bk) (like : Bk → Bk → Bool) (out : List Int) (w : Bk) : Nat := fst l.length fun i => !isIn out i && like (l.getD i bk0) w
def ms (l ws : List Bk) (like : Bk → Bk → Bool) : Nat → List Int × Bool
  | 0 => ([], true)
  | j + 1 => if (ms l ws like j).2 then (if mfst l like (ms l ws like j).1 (ws.getD j bk0) < l.length then ((ms l ws like j).1 ++ [(mfst l like (ms l ws like j).1 (ws.getD j bk0) : Int)], true) else ((ms l ws like j).1, false)) else ms l ws like j
theorem ms_succ (l ws : List Bk) (like : Bk → Bk → Bool) (j : Nat) : ms l ws like (j + 1) = if (ms l ws like j).2 then (if mfst l like (ms l ws like j).1 (ws.getD j bk0) < l.length then ((ms l ws like j).1 ++ [(mfst l like (ms l ws like j).1 (ws.getD j bk0) : Int)], true) else ((ms l ws like j).1, false)) else ms l ws like j := rfl
theorem ms_len (l ws : List Bk) (like : Bk → Bk → Bool) (j : Nat) : (ms l ws like j).1.length ≤ j ∧ ((ms l ws like j).2 = true → (ms l ws like j).1.length = j) ∧ ((ms l ws like j).2 = false → (ms l ws like j).1.length < j) := by
  induction j with
  | zero => simp [ms]
  | succ j ih =>
    obtain ⟨h1, h2, h3⟩ := ih
    rw [ms_succ]
    by_cases ht : (ms l ws like j).2 = true
    · rw [if_pos ht]
      have := h2 ht
      split
      · simp; omega
      · simp; omega
    · rw [if_neg ht]
      have hf : (ms l ws like j).2 = false := by simpa using ht
      have := h3 hf
      exact ⟨by omega, fun h => absurd h (by rw [hf]; decide), fun _ => by omega⟩
theorem ms_stop (l ws : List Bk) (like : Bk → Bk → Bool) {j : Nat} (h : (ms l ws like j).2 = false) : ∀ k, j ≤ k → ms l ws like k = ms l ws like j := by
  intro k hk
  induction k with
  | zero =>
    have : j = 0 := by omega
    subst this
    rfl
  | succ k ih =>
    by_cases e : j = k + 1
    · rw [e]
    · have := ih (by omega)
      rw [ms_succ, this, h]
      rfl
theorem fst_congr {n : Nat} {q q' : Nat → Bool} (h : ∀ i, i < n → q i = q' i) : fst n q = fst n q' := by
  have h1 := fst_le n q'
  by_cases hl : fst n q' < n
  · have h2 := fst_at hl
    refine fst_eq hl (by rw [h _ hl]; exact h2) fun i hi => ?_
    rw [h i (by omega)]
    cases hq : q' i with
    | false => rfl
    | true =>
      exfalso
      have : fst n q' ≤ i := by
        unfold fst
        apply Classical.byContradiction
        intro hc
        have := List.not_of_lt_findIdx (xs := List.range n) (p := q') (i := i) (by omega)
        rw [List.getElem_range, hq] at this
        cases this
      omega
  · have e : fst n q' = n := by omega
    rw [e]
    refine fst_none fun i hi => ?_
    rw [h i hi]
    cases hq : q' i with
    | false => rfl
    | true =>
      exfalso
      have := List.not_of_lt_findIdx (xs := List.range n) (p := q') (i := i) (by show i < fst n q'; omega)
      rw [List.getElem_range, hq] at this
      cases this
theorem flg_get {n : Nat} {out : List Int} {i : Nat} (h : i < n) : (flg n out).getD i false = isIn out i := by simp [flg, h]
theorem flg_snoc {n : Nat} {out : List Int} {a : Nat} (ha : a < n) : (flg n out).set a true = flg n (out ++ [(a : Int)]) := by
  apply List.ext_getElem?
  intro k
  rw [List.getElem?_set]
  unfold flg
  simp only [List.length_map, List.length_range, List.getElem?_map]
  by_cases hk : k < n
  · rw [List.getElem?_range hk]
    by_cases e : a = k
    · subst e
      rw [if_pos rfl, if_pos hk]
      simp [isIn]
    · rw [if_neg e]
      simp [isIn]
      omega
  · rw [if_neg (by omega), List.getElem?_eq_none (by rw [List.length_range]; omega)]
    rfl

noncomputable def X41 : Fx := ⟨Tryz.prog, tys, 41, Tryz.f41, [1, 2]⟩
theorem X41_ok : X41.Ok := ⟨Tryz.func41, tys_ok⟩
theorem matched_ct (l ws : List Bk) (e1 e2 : Bool) (f : Nat) (like : Bk → Bk → Bool) (hl : l.length ≤ 1048576 ∧ ∀ x ∈ l, bkRng x) (hw : ws.length ≤ 1048576 ∧ ∀ x ∈ ws, bkRng x)
    (hf : ∀ x y, bkRng x → bkRng y → Ct Tryz.prog f [bkA x, bkA y] (bo (like x y)) []) :
    Ct Tryz.prog 41 [.ro 8 e1 (l.map bkA), .ro 8 e2 (ws.map bkA), .fn f []] (.own 1 false ((ms l ws like ws.length).1.map i64)) [] := by
  obtain ⟨hlen, hr⟩ := hl
  obtain ⟨hwlen, hwr⟩ := hw
  refine Ct.intro X41 X41_ok rfl (by kernel_rfl) rfl rfl fun g hg => ?_
  repeat (refine Run.go rfl ?_)
  refine Run.make rfl rfl rfl rfl rfl rfl rfl rfl rfl rfl (by simp; omega) (by show _ * 1 ≤ _; simp; omega) rfl ?_
  refine Run.unpack 14 rfl rfl ?_
  repeat (refine Run.go rfl ?_)
  refine Run.nilSlot 8 1 false rfl ?_
  refine Run.loop (fun j : Nat => ⟨[(3, .bp (3, 0) 0), (5, .bp (5, 0) 0), (7, .bp (7, 0) 0), (8, .own 1 false ((ms l ws like j).1.map i64)), (15, .ro 8 e2 (ws.map bkA)), (16, i64 ws.length), (17, i64 j)], [((3, 0), .box [.ro 8 e1 (l.map bkA)]), ((5, 0), .box [.fn f []]), ((7, 0), .box [.vec (14, 0) 0 l.length]), ((14, 0), .vec 1 true ((flg l.length (ms l ws like j).1).map bof))]⟩) (fun j => j ≤ ws.length ∧ (ms l ws like j).2 = true) (fun j => ws.length - j) 0 ⟨by omega, rfl⟩ ?_ ?_
  · refine St.Le.mk' ⟨rfl, rfl, rfl, rfl, rfl, ?_, rfl, trivial⟩ ⟨rfl, rfl, ?_, ?_, trivial⟩
    · show i64 (ws.map bkA).length = _
      simp
    · show Ob.box [.vec (14, 0) 0 (List.replicate (l.map bkA).length (bof false)).length] = _
      simp
    · show Ob.vec 1 true (List.replicate (l.map bkA).length (bof false)) = _
      congr 1
      rw [List.length_map]
      apply List.ext_getElem?
      intro k
      rw [List.getElem?_replicate, List.getElem?_map, flg, List.getElem?_map]
      by_cases hk : k < l.length
      · rw [if_pos hk, List.getElem?_range hk]
        rfl
      · rw [if_neg hk, List.getElem?_eq_none (by rw [List.length_range]; omega)]
        rfl
  rintro j ⟨hj, hgo⟩ IH
  repeat (refine Run.go rfl ?_)
  refine Run.cond rfl (fun h => ?_) (fun h => ?_)
  · have hlt : j < ws.length := by simpa using h
    have hml := ms_len l ws like j
    have hst : ms l ws like (j + 1) = if mfst l like (ms l ws like j).1 ws[j] < l.length then ((ms l ws like j).1 ++ [(mfst l like (ms l ws like j).1 ws[j] : Int)], true) else ((ms l ws like j).1, false) := by
      rw [ms_succ, if_pos hgo, show ws.getD j bk0 = ws[j] by simp [hlt]]
    have hstop : (ms l ws like (j + 1)).2 = false → (ms l ws like ws.length).1 = (ms l ws like (j + 1)).1 := by
      intro hr2
      rw [ms_stop l ws like (j := j + 1) hr2 ws.length (by omega)]
    obtain ⟨out, hout⟩ : ∃ out, out = (ms l ws like j).1 := ⟨_, rfl⟩
    rw [← hout] at hst hml
    rw [← hout]
    have hwj : bkRng ws[j] := hwr _ (by simp)
    obtain ⟨w, hww⟩ : ∃ w, w = ws[j] := ⟨_, rfl⟩
    rw [← hww] at hst hwj
    have hflen : (flg l.length out).length = l.length := by simp [flg]
    have hnx : fst l.length (fun i => !((flg l.length out).getD i false) && like (l.getD i bk0) w) = mfst l like out w := by
      unfold mfst
      exact fst_congr fun i hi => by rw [flg_get hi]
    have ha := fst_le l.length (fun i => !isIn out i && like (l.getD i bk0) w)
    have ha : mfst l like out w ≤ l.length := ha
    repeat (refine Run.go rfl ?_)
    refine Run.val rfl rfl rfl (ValOk.idx (bkA w) rfl rfl rfl rfl rfl (by omega) (by simp [hlt, hww])) rfl ?_
    repeat (refine Run.go rfl ?_)
    refine Run.cs rfl (upTo_ct l.length hlen) (by show [i64 ((l.map bkA).length : Int)] = _; rw [List.length_map]) (rf64 _) ?_
    repeat (refine Run.go rfl ?_)
    refine Run.cs rfl (firstOf_ct (nums l.length) false 65 [.rp [.ro 1 true ((flg l.length out).map bof)] 0, .rp [.fn f []] 0, .rp [.ro 8 e1 (l.map bkA)] 0, .rp (bkA w).cells 0] (fun x => !((flg l.length out).getD x.toNat false) && like (l.getD x.toNat bk0) w) (by simp [nums]; omega) rfl ?_) (by rw [frz64, frzBo, decide_eq_true (by simp [flg])]; rfl) rfl ?_
    · intro x hx
      obtain ⟨i, hi, rfl⟩ : ∃ i : Nat, i < l.length ∧ x = (i : Int) := by
        unfold nums at hx
        obtain ⟨i, hi, rfl⟩ := List.mem_map.mp hx
        exact ⟨i, List.mem_range.mp hi, rfl⟩
      exact matched1_ct i (flg l.length out) l w e1 f like hi hflen hwj hr hf
    rw [fi_nums]
    rw [show fst l.length (fun i => (fun x : Int => !((flg l.length out).getD x.toNat false) && like (l.getD x.toNat bk0) w) (i : Int)) = mfst l like out w from hnx]
    generalize mfst l like out w = at' at hst ha
    repeat (refine Run.go rfl ?_)
    refine Run.cond rfl (fun h => ?_) (fun h => ?_)
    · have h : ¬ at' < l.length := by simp at h; omega
      rw [if_neg h] at hst
      repeat (refine Run.go rfl ?_)
      refine Run.pack 6 rfl rfl rfl ?_
      refine Run.ret hg rfl ?_
      rw [hstop (by rw [hst]), hst]
      rfl
    · have h : at' < l.length := by simp at h; omega
      rw [if_pos h] at hst
      have hat : ((flg l.length out).map bof)[at']? = some (bof ((flg l.length out)[at']'(by rw [hflen]; exact h))) := by
        rw [List.getElem?_map, List.getElem?_eq_getElem (by rw [hflen]; exact h)]
        rfl
      repeat (refine Run.go rfl ?_)
      refine Run.val rfl rfl rfl (ValOk.idxv rfl rfl rfl rfl rfl rfl (by omega) (by omega)) rfl ?_
      rw [show 0 + ((at' : Int)).toNat = at' by simp]
      refine Run.storee _ (bof true) rfl rfl rfl rfl rfl rfl rfl hat rfl rfl rfl ?_
      repeat (refine Run.go rfl ?_)
      refine Run.buildSlice [i64 at'] rfl rfl rfl rfl rfl rfl rfl rfl rfl rfl rfl rfl rfl rfl ?_
      refine Run.appendo rfl rfl rfl rfl rfl rfl rfl rfl rfl rfl rfl rfl rfl rfl (by show (_ + 1) * 8 ≤ _; simp; omega) (by simp [capMax]; omega) (by decide) rfl ?_
      repeat (refine Run.go rfl ?_)
      refine Run.of (IH (j + 1) ⟨by omega, by rw [hst]⟩ (by omega)) ⟨rfl, rfl, rfl, ?_, rfl, rfl, ?_, trivial⟩ ⟨rfl, rfl, rfl, ?_, trivial⟩
      · rw [hst]
        show AV.own _ _ _ = AV.own _ _ _
        simp
      · show i64 _ = _
        rw [wrap_i64 (by omega) (by omega)]
        rfl
      · rw [hst]
        show Ob.vec 1 true (((flg l.length out).map bof).set at' (bof true)) = _
        rw [← flg_snoc h, List.map_set]
  · have hj' : j = ws.length := by simp at h; omega
    subst hj'
    repeat (refine Run.go rfl ?_)
    refine Run.pack 6 rfl rfl rfl ?_
    exact Run.ret hg rfl rfl
end Go.Proofs.YtcfkdcjindhnjaaGreat

/- Contracts of the program's functions, and what follows from them. -/
set_option maxRecDepth 100000
namespace Go.Proofs.YtcfkdcjindhnjaaGreat
open Go Go.Av

/-! Where wanted books stand. -/

def lkU (x y : Bk) : Bool := uc x y == 0
def wtRes (a b : List Bk) : List Int × Int := if vBs a && vBs b then (if (ms a b lkU b.length).2 then ((ms a b lkU b.length).1, 0) else ([], 6)) else ([], 1)
noncomputable def X42 : Fx := ⟨Tryz.prog, tys, 42, Tryz.f42, [0, 1]⟩
theorem X42_ok : X42.Ok := ⟨Tryz.func42, tys_ok⟩
theorem walkTo1_ct (x y : Bk) : Ct Tryz.prog 42 [bkA x, bkA y] (bo (lkU x y)) [] := by
  refine Ct.intro X42 X42_ok rfl rfl rfl rfl fun g hg => ?_
  repeat (refine Run.go rfl ?_)
  refine Run.cs rfl (compare_ct x y) rfl rfl ?_
  repeat (refine Run.go rfl ?_)
  exact Run.ret hg rfl rfl

noncomputable def X15 : Fx := ⟨Tryz.prog, tys, 15, Tryz.f15, [0, 1]⟩
theorem X15_ok : X15.Ok := ⟨Tryz.func15, tys_ok⟩
theorem implWalkTo_ct (a b : List Bk) (e1 e2 : Bool) (ha : a.length ≤ 1048576 ∧ ∀ x ∈ a, bkRng x) (hb : b.length ≤ 1048576 ∧ ∀ x ∈ b, bkRng x) : Ct Tryz.prog 15 [.ro 8 e1 (a.map bkA), .ro 8 e2 (b.map bkA)] (lsR (wtRes a b)) [] := by
  have hml := ms_len a b lkU b.length
  refine Ct.intro X15 X15_ok rfl rfl rfl rfl fun g hg => ?_
  repeat (refine Run.go rfl ?_)
  refine Run.cs rfl (validBooks_ct a e1 ha.1) rfl rfl ?_
  repeat (refine Run.go rfl ?_)
  refine Run.bool 10 rfl (fun h => ?_) (fun h1 => ?_)
  · have h : vBs a = false := by simpa using h
    repeat (refine Run.go rfl ?_)
    refine Run.cond rfl (fun _ => ?_) (fun h => by simp at h)
    repeat (refine Run.go rfl ?_)
    refine Run.nilSlot 4 1 false rfl ?_
    refine Run.ret hg rfl ?_
    rw [wtRes, h]
    rfl
  have h1 : vBs a = true := by simpa using h1
  repeat (refine Run.go rfl ?_)
  refine Run.cs rfl (validBooks_ct b e2 hb.1) rfl rfl ?_
  repeat (refine Run.go rfl ?_)
  refine Run.cond rfl (fun h => ?_) (fun h2 => ?_)
  · have h : vBs b = false := by simpa using h
    repeat (refine Run.go rfl ?_)
    refine Run.nilSlot 4 1 false rfl ?_
    refine Run.ret hg rfl ?_
    rw [wtRes, h1, h]
    rfl
  have h2 : vBs b = true := by simpa using h2
  repeat (refine Run.go rfl ?_)
  refine Run.cs rfl (matched_ct a b e1 e2 _ lkU ha hb fun x y _ _ => walkTo1_ct x y) rfl (rf64 _) ?_
  refine Run.unpack 17 rfl rfl ?_
  repeat (refine Run.go rfl ?_)
  refine Run.cond rfl (fun h => ?_) (fun h => ?_)
  · have h : (ms a b lkU b.length).2 = false := by
      cases hs : (ms a b lkU b.length).2 with
      | false => rfl
      | true =>
        have := hml.2.1 hs
        simp at h
        omega
    repeat (refine Run.go rfl ?_)
    refine Run.nilSlot 4 1 false rfl ?_
    refine Run.ret hg rfl ?_
    rw [wtRes, h1, h2, h]
    rfl
  · have h : (ms a b lkU b.length).2 = true := by
      cases hs : (ms a b lkU b.length).2 with
      | true => rfl
      | false =>
        have := hml.2.2 hs
        simp at h
        omega
    repeat (refine Run.go rfl ?_)
    refine Run.pack 4 rfl rfl rfl ?_
    refine Run.ret hg rfl ?_
    rw [wtRes, h1, h2, h]
    rfl

noncomputable def X16 : Fx := ⟨Tryz.prog, tys, 16, Tryz.f16, [0, 1]⟩
theorem X16_ok : X16.Ok := ⟨Tryz.func16, tys_ok⟩
theorem specWalkTo_ct (a b : List Bk) (e1 e2 : Bool) (ha : a.length ≤ 1048576 ∧ ∀ x ∈ a, bkRng x) (hb : b.length ≤ 1048576 ∧ ∀ x ∈ b, bkRng x) : Ct Tryz.prog 16 [.ro 8 e1 (a.map bkA), .ro 8 e2 (b.map bkA)] (lsR (wtRes a b)) [] := by
  obtain ⟨hal, har⟩ := ha
  obtain ⟨hbl, hbr⟩ := hb
  refine Ct.intro X16 X16_ok rfl rfl rfl rfl fun g hg => ?_
  repeat (refine Run.go rfl ?_)
  refine Run.cs rfl (l01Ok_ct a e1 hal har) rfl rfl ?_
  repeat (refine Run.go rfl ?_)
  refine Run.bool 12 rfl (fun h => ?_) (fun h1 => ?_)
  · have h : vBs a = false := by simpa using h
    repeat (refine Run.go rfl ?_)
    refine Run.cond rfl (fun _ => ?_) (fun h => by simp at h)
    repeat (refine Run.go rfl ?_)
    refine Run.buildSlice [] rfl rfl rfl rfl rfl rfl rfl rfl rfl rfl rfl rfl rfl rfl ?_
    repeat (refine Run.go rfl ?_)
    refine Run.loosen0 4 rfl ?_
    refine Run.ret hg rfl ?_
    rw [wtRes, h]
    rfl
  have h1 : vBs a = true := by simpa using h1
  repeat (refine Run.go rfl ?_)
  refine Run.cs rfl (l01Ok_ct b e2 hbl hbr) rfl rfl ?_
  repeat (refine Run.go rfl ?_)
  refine Run.cond rfl (fun h => ?_) (fun h2 => ?_)
  · have h : vBs b = false := by simpa using h
    repeat (refine Run.go rfl ?_)
    refine Run.buildSlice [] rfl rfl rfl rfl rfl rfl rfl rfl rfl rfl rfl rfl rfl rfl ?_
    repeat (refine Run.go rfl ?_)
    refine Run.loosen0 4 rfl ?_
    refine Run.ret hg rfl ?_
    rw [wtRes, h1, h]
    rfl
  have h2 : vBs b = true := by simpa using h2
  repeat (refine Run.go rfl ?_)
  refine Run.buildSlice [] rfl rfl rfl rfl rfl rfl rfl rfl rfl rfl rfl rfl rfl rfl ?_
  repeat (refine Run.go rfl ?_)
  refine Run.loosen0 6 rfl ?_
  refine Run.loop (fun j : Nat => ⟨[(0, .ro 8 e1 (a.map bkA)), (1, .ro 8 e2 (b.map bkA)), (6, .own 1 false ((ms a b lkU j).1.map i64)), (7, i64 j)], []⟩) (fun j => j ≤ b.length ∧ (ms a b lkU j).2 = true) (fun j => b.length - j) 0 ⟨by omega, rfl⟩ ?_ ?_
  · exact St.Le.mk' ⟨rfl, rfl, rfl, rfl, trivial⟩ trivial
  rintro j ⟨hj, hgo⟩ IH
  repeat (refine Run.go rfl ?_)
  refine Run.cond rfl (fun h => ?_) (fun h => ?_)
  · have hlt : j < b.length := by simpa using h
    have hml := ms_len a b lkU j
    have hst : ms a b lkU (j + 1) = if mfst a lkU (ms a b lkU j).1 b[j] < a.length then ((ms a b lkU j).1 ++ [(mfst a lkU (ms a b lkU j).1 b[j] : Int)], true) else ((ms a b lkU j).1, false) := by
      rw [ms_succ, if_pos hgo, show b.getD j bk0 = b[j] by simp [hlt]]
    have hstop : (ms a b lkU (j + 1)).2 = false → (ms a b lkU b.length).2 = false := by
      intro hr2
      rw [ms_stop a b lkU (j := j + 1) hr2 b.length (by omega), hr2]
    obtain ⟨out, hout⟩ : ∃ out, out = (ms a b lkU j).1 := ⟨_, rfl⟩
    rw [← hout] at hst hml
    rw [← hout]
    have hwj : bkRng b[j] := hbr _ (by simp)
    obtain ⟨w, hww⟩ : ∃ w, w = b[j] := ⟨_, rfl⟩
    rw [← hww] at hst hwj
    have hq : ∀ i, i < a.length → (!isIn out i && lkU (a.getD i bk0) w) = (!(decide (uc (a.getD i bk0) w ≠ 0) || isIn out i)) := by
      intro i hi
      unfold lkU
      generalize uc (a.getD i bk0) w = z
      by_cases e : z = 0 <;> cases isIn out i <;> simp [e]
    refine Run.unpack 6 rfl rfl ?_
    repeat (refine Run.go rfl ?_)
    refine Run.loop (fun k : Nat => ⟨[(0, .ro 8 e1 (a.map bkA)), (1, .ro 8 e2 (b.map bkA)), (6, .vec (6, 0) 0 (out.map i64).length), (7, i64 j), (8, i64 k)], [((6, 0), .vec 1 false (out.map i64))]⟩) (fun k => k ≤ a.length ∧ ∀ i, i < k → (!isIn out i && lkU (a.getD i bk0) w) = false) (fun k => a.length - k) 0 ⟨by omega, fun i h => by omega⟩ ?_ ?_
    · exact St.Le.mk' ⟨rfl, rfl, rfl, rfl, rfl, trivial⟩ ⟨rfl, trivial⟩
    rintro k ⟨hk, hno⟩ IH2
    repeat (refine Run.go rfl ?_)
    refine Run.drawS ⟨[(0, .ro 8 e1 (a.map bkA)), (1, .ro 8 e2 (b.map bkA)), (6, .vec (6, 0) 0 (out.map i64).length), (7, i64 j), (8, i64 k), (43, bo (decide (k < a.length) && (decide (uc (a.getD k bk0) w ≠ 0) || isIn out k)))], [((6, 0), .vec 1 false (out.map i64))]⟩ (by kernel_rfl) (by decide +kernel) ?_ ?_
    · repeat (refine Quiet.go rfl ?_)
      refine Quiet.bool 29 rfl (fun hA => ?_) (fun hA => ?_)
      · have hA : k < a.length := by simpa using hA
        have e : a.getD k bk0 = a[k] := by simp [hA]
        rw [e]
        repeat (refine Quiet.go rfl ?_)
        refine Quiet.val rfl rfl (ValOk.idx (bkA a[k]) rfl rfl rfl rfl rfl (by omega) (by simp [hA])) rfl ?_
        repeat (refine Quiet.go rfl ?_)
        refine Quiet.val rfl rfl (ValOk.idx (bkA w) rfl rfl rfl rfl rfl (by omega) (by simp [hlt, hww])) rfl ?_
        repeat (refine Quiet.go rfl ?_)
        refine Quiet.cs rfl rfl rfl rfl rfl (l01Usual_ct a[k] w (har _ (by simp)) hwj) rfl rfl ?_
        repeat (refine Quiet.go rfl ?_)
        refine Quiet.bool 38 rfl (fun hB => ?_) (fun hB => ?_)
        · have hB : uc a[k] w ≠ 0 := by simpa using hB
          repeat (refine Quiet.go rfl ?_)
          refine Quiet.nil (St.Le.mk' ⟨rfl, rfl, rfl, rfl, rfl, ?_, trivial⟩ ⟨rfl, trivial⟩)
          show bo true = bo _
          simp [hA, hB]
        · have hB : uc a[k] w = 0 := by simpa using hB
          repeat (refine Quiet.go rfl ?_)
          refine Quiet.cs rfl rfl rfl rfl rfl (l00Has_ct out false (k : Int) (by omega)) (by rw [frz64, decide_eq_true rfl]; rfl) rfl ?_
          repeat (refine Quiet.go rfl ?_)
          refine Quiet.nil (St.Le.mk' ⟨rfl, rfl, rfl, rfl, rfl, ?_, trivial⟩ ⟨rfl, trivial⟩)
          show bo (isIn out k) = bo _
          simp [hA, hB]
      · have hA : ¬ k < a.length := by simpa using hA
        repeat (refine Quiet.go rfl ?_)
        refine Quiet.nil (St.Le.mk' ⟨rfl, rfl, rfl, rfl, rfl, ?_, trivial⟩ ⟨rfl, trivial⟩)
        show bo false = bo _
        simp [hA]
    refine Run.cond rfl (fun h => ?_) (fun h => ?_)
    · have h : (decide (k < a.length) && (decide (uc (a.getD k bk0) w ≠ 0) || isIn out k)) = true := h
      rw [Bool.and_eq_true, decide_eq_true_eq] at h
      repeat (refine Run.go rfl ?_)
      refine Run.of (IH2 (k + 1) ⟨by omega, fun i hi => ?_⟩ (by omega)) ⟨rfl, rfl, rfl, rfl, ?_, trivial⟩ ⟨rfl, trivial⟩
      · by_cases e : i = k
        · rw [e, hq k h.1, h.2]
          rfl
        · exact hno i (by omega)
      · show i64 _ = _
        rw [wrap_i64 (by omega) (by omega)]
        rfl
    · have h : (decide (k < a.length) && (decide (uc (a.getD k bk0) w ≠ 0) || isIn out k)) = false := h
      repeat (refine Run.go rfl ?_)
      refine Run.cond rfl (fun hC => ?_) (fun hC => ?_)
      · have hC : k = a.length := by simp at hC; omega
        have hm : mfst a lkU out w = a.length := fst_none fun i hi => hno i (by omega)
        rw [hm, if_neg (by omega)] at hst
        repeat (refine Run.go rfl ?_)
        refine Run.buildSlice [] rfl rfl rfl rfl rfl rfl rfl rfl rfl rfl rfl rfl rfl rfl ?_
        repeat (refine Run.go rfl ?_)
        refine Run.loosen0 4 rfl ?_
        refine Run.ret hg rfl ?_
        rw [wtRes, h1, h2, hstop (by rw [hst])]
        rfl
      · have hC : k < a.length := by simp at hC; omega
        rw [decide_eq_true hC, Bool.true_and] at h
        have hm : mfst a lkU out w = k := fst_eq hC (by rw [hq k hC, h]; rfl) hno
        rw [hm, if_pos hC] at hst
        repeat (refine Run.go rfl ?_)
        refine Run.buildSlice [i64 k] rfl rfl rfl rfl rfl rfl rfl rfl rfl rfl rfl rfl rfl rfl ?_
        refine Run.appendo rfl rfl rfl rfl rfl rfl rfl rfl rfl rfl rfl rfl rfl rfl (by show (_ + 1) * 8 ≤ _; simp; omega) (by simp [capMax]; omega) (by decide) rfl ?_
        repeat (refine Run.go rfl ?_)
        refine Run.of (IH (j + 1) ⟨by omega, by rw [hst]⟩ (by omega)) ⟨rfl, rfl, ?_, ?_, trivial⟩ trivial
        · rw [hst]
          show AV.own _ _ _ = AV.own _ _ _
          simp
        · show i64 _ = _
          rw [wrap_i64 (by omega) (by omega)]
          rfl
  · have hj' : j = b.length := by simp at h; omega
    subst hj'
    repeat (refine Run.go rfl ?_)
    refine Run.pack 4 rfl rfl rfl ?_
    refine Run.ret hg rfl ?_
    rw [wtRes, h1, h2, hgo]
    rfl
end Go.Proofs.YtcfkdcjindhnjaaGreat

/- Contracts of the program's functions, and what follows from them. -/
set_option maxRecDepth 100000
namespace Go.Proofs.YtcfkdcjindhnjaaGreat
open Go Go.Av

/-! The places of a shelf's books in a catalogue of the same stock. -/

def scode (a b : List Bk) : Int := if stCode a b = 0 then (if sameP a b then 0 else 8) else stCode a b

/-! All are found. -/

theorem countP_add {p : Nat → Bool} {k : Nat} (hk : p k = false) (n : Nat) : (List.range n).countP (fun i => p i || i == k) = (List.range n).countP p + (if k < n then 1 else 0) := by
  induction n with
  | zero => simp
  | succ n ih =>
    rw [List.range_succ, List.countP_append, List.countP_append, ih, List.countP_singleton, List.countP_singleton]
    by_cases e : n = k
    · subst e
      simp [hk]
    · have e' : (n == k) = false := by simpa using e
      rw [e', Bool.or_false]
      generalize (if p n = true then 1 else 0) = z
      by_cases h1 : k < n
      · rw [if_pos h1, if_pos (show k < n + 1 by omega)]
        omega
      · rw [if_neg h1, if_neg (show ¬ k < n + 1 by omega)]
        omega

end Go.Proofs.YtcfkdcjindhnjaaGreat

/- Contracts of the program's functions, and what follows from them. -/
set_option maxRecDepth 100000
namespace Go.Proofs.YtcfkdcjindhnjaaGreat
open Go Go.Av

/-! One exchange that makes the shelf of a catalogue. -/

/-! Which places differ. -/

end Go.Proofs.YtcfkdcjindhnjaaGreat

/- Contracts of the program's functions, and what follows from them. -/
set_option maxRecDepth 100000
namespace Go.Proofs.YtcfkdcjindhnjaaGreat
open Go Go.Av

/-! The most books that can be kept: the numbers. -/

end Go.Proofs.YtcfkdcjindhnjaaGreat

/- Contracts of the program's functions, and what follows from them. -/
set_option maxRecDepth 100000
namespace Go.Proofs.YtcfkdcjindhnjaaGreat
open Go Go.Av

/-! The most books that can be kept: which. -/

theorem lt64 (L : List Int) : (flatc (L.map i64)).all isLT = true := by
  induction L with
  | nil => rfl
  | cons x r ih =>
    rw [List.map_cons, show flatc (i64 x :: r.map i64) = i64 x :: flatc (r.map i64) from rfl, List.all_cons, ih]
    rfl

end Go.Proofs.YtcfkdcjindhnjaaGreat

/- Contracts of the program's functions, and what follows from them. -/
set_option maxRecDepth 100000
namespace Go.Proofs.YtcfkdcjindhnjaaGreat
open Go Go.Av

/-! The books out of place. -/

end Go.Proofs.YtcfkdcjindhnjaaGreat

/- Contracts of the program's functions, and what follows from them. -/
set_option maxRecDepth 100000
namespace Go.Proofs.YtcfkdcjindhnjaaGreat
open Go Go.Av

/-! Parts of a list are put in, and taken out. -/

end Go.Proofs.YtcfkdcjindhnjaaGreat

/- Contracts of the program's functions, and what follows from them. -/
set_option maxRecDepth 100000
namespace Go.Proofs.YtcfkdcjindhnjaaGreat
open Go Go.Av

/-! One book put elsewhere makes the shelf of a catalogue. -/

def mvL (b : List Bk) (f t : Nat) : List Bk := (b.take f ++ b.drop (f + 1)).take t ++ (b.drop f).take 1 ++ (b.take f ++ b.drop (f + 1)).drop t
/-- What the first move is. -/
structure Slip (a b : List Bk) (R : (Int × Int) × Int) : Prop where
  h0 : scode a b ≠ 0 → R = ((0, 0), scode a b)
  h1 : scode a b = 0 → a = b → R = ((0, 0), 6)
  h2 : scode a b = 0 → a ≠ b → ∀ i j, i < b.length → j < b.length → mvL b i j = a → (∀ i' j', (i' < i ∨ i' = i ∧ j' < j) → j' < b.length → mvL b i' j' ≠ a) → R = (((i : Int), (j : Int)), 0)
  h3 : scode a b = 0 → a ≠ b → (∀ i j, i < b.length → j < b.length → mvL b i j ≠ a) → R = ((0, 0), 6)

end Go.Proofs.YtcfkdcjindhnjaaGreat
