/- Parts of a proof, in one text: B10, B11, B12, B13, B14, B15, B16, B17, B18, B19. -/
import Derived.Test.YtmeejegdgfkogaaGreatDoorMC
import Derived.Test.YtmeejegdgfkogaaGreatDoorMD
import Derived.Test.YtmeejegdgfkogaaGreatDoorMF
set_option linter.unusedVariables false

/- Contracts of the program's functions, and what follows from them. -/
set_option maxRecDepth 100000
namespace Go.Proofs.YtmeejegdgfkogaaGreatDoor
open Go Go.Av

/-! A shelf without some books. -/

def rsP (l : List Int) (j : Nat) : Bool := decide (l.getD j 0 < l.getD (j + 1) 0)
def rs (l : List Int) : Bool := (List.range (l.length - 1)).all (rsP l)

noncomputable def X35 : Fx := ⟨Tryz.prog, tys, 35, Tryz.f35, [0]⟩
theorem X35_ok : X35.Ok := ⟨Tryz.func35, tys_ok⟩
theorem rises_ct (l : List Int) (ex : Bool) (hlen : l.length ≤ 1048576) : Ct Tryz.prog 35 [.ro 1 ex (l.map i64)] (bo (rs l)) [] := by
  refine Ct.intro X35 X35_ok rfl rfl rfl rfl fun g hg => ?_
  repeat (refine Run.go rfl ?_)
  refine Run.loop (fun j : Nat => ⟨[(0, .ro 1 ex (l.map i64)), (3, i64 ((j + 1 : Nat) : Int))], []⟩) (fun j => j ≤ l.length - 1 ∧ ∀ i, i < j → rsP l i = true) (fun j => l.length - 1 - j) 0 ⟨by omega, fun i h => by omega⟩ ?_ ?_
  · exact St.Le.mk' ⟨rfl, rfl, trivial⟩ trivial
  rintro j ⟨hj, hall⟩ IH
  repeat (refine Run.go rfl ?_)
  refine Run.cond rfl (fun h => ?_) (fun h => ?_)
  · have hlt : j + 1 < l.length := by simp at h; omega
    have hp : rsP l j = decide (l[j] < l[j + 1]) := by simp [rsP, hlt, Nat.lt_of_succ_lt hlt]
    repeat (refine Run.go rfl ?_)
    refine Run.draw (by kernel_rfl) (by decide +kernel) ?_
    repeat (refine Quiet.go rfl ?_)
    rw [show IntKind.i64.wrap (((j + 1 : Nat) : Int) - 1) = (j : Int) by rw [wrap_i64 (by omega) (by omega)]; omega]
    refine Quiet.val rfl rfl (ValOk.idx (i64 l[j]) rfl rfl rfl rfl rfl (by omega) (by simp only [Int.toNat_natCast, List.getElem?_map, List.getElem?_eq_getElem (Nat.lt_of_succ_lt hlt), Option.map_some])) rfl ?_
    repeat (refine Quiet.go rfl ?_)
    refine Quiet.val rfl rfl (ValOk.idx (i64 l[j + 1]) rfl rfl rfl rfl rfl (by omega) (by simp only [Int.toNat_natCast, List.getElem?_map, List.getElem?_eq_getElem hlt, Option.map_some])) rfl ?_
    repeat (refine Quiet.go rfl ?_)
    refine Quiet.nil ?_
    repeat (refine Run.go rfl ?_)
    refine Run.cond rfl (fun h => ?_) (fun h => ?_)
    · have h : l[j + 1] ≤ l[j] := of_decide_eq_true h
      repeat (refine Run.go rfl ?_)
      refine Run.ret hg rfl ?_
      have : rs l = false := by
        rw [rs, List.all_eq_false]
        exact ⟨j, List.mem_range.mpr (by omega), by rw [hp]; simp; omega⟩
      rw [this]
      rfl
    · have h : ¬ l[j + 1] ≤ l[j] := of_decide_eq_false h
      repeat (refine Run.go rfl ?_)
      refine Run.of (IH (j + 1) ⟨by omega, fun i hi => ?_⟩ (by omega)) ⟨rfl, ?_, trivial⟩ trivial
      · by_cases e : i = j
        · rw [e, hp]; exact decide_eq_true (by omega)
        · exact hall i (by omega)
      · show i64 _ = _
        rw [wrap_i64 (by omega) (by omega)]
        rfl
  · have hj' : l.length - 1 ≤ j := by simp at h; omega
    repeat (refine Run.go rfl ?_)
    refine Run.ret hg rfl ?_
    have : rs l = true := by
      rw [rs, List.all_eq_true]
      intro i hi
      exact hall i (by have := List.mem_range.mp hi; omega)
    rw [this]
    rfl

def inAll (n : Nat) (out : List Int) : Bool := out.all fun x => inr x 0 ((n : Int) - 1)
def wo (l : List Bk) (out : List Int) : Nat → List Bk
  | 0 => []
  | i + 1 => wo l out i ++ (if out.any (fun x => x == (i : Int)) then [] else [l.getD i bk0])
theorem wo_len (l : List Bk) (out : List Int) (i : Nat) : (wo l out i).length ≤ i := by
  induction i with
  | zero => exact Nat.le_refl 0
  | succ i ih =>
    unfold wo
    rw [List.length_append]
    split <;> simp <;> omega
def woRes (l : List Bk) (out : List Int) : List Bk × Int := if vBs l then (if rs out && inAll l.length out then (wo l out l.length, 0) else ([], 2)) else ([], 1)
theorem woRes_len (l : List Bk) (out : List Int) : (woRes l out).1.length ≤ l.length := by
  unfold woRes
  split
  · split
    · exact wo_len _ _ _
    · simp
  · simp

def lastAt (out : List Int) (j : Nat) : Int := if j = 0 then -1 else out.getD (j - 1) 0
def okAt (n : Nat) (out : List Int) (j : Nat) : Bool := inr (out.getD j 0) (lastAt out j + 1) ((n : Int) - 1)

theorem okAt_all (n : Nat) (out : List Int) : (rs out && inAll n out) = (List.range out.length).all (okAt n out) := by
  rw [Bool.eq_iff_iff, Bool.and_eq_true]
  simp only [rs, inAll, List.all_eq_true, List.mem_range]
  constructor
  · rintro ⟨h1, h2⟩ j hj
    have h3 := h2 out[j] (by simp)
    have e : out.getD j 0 = out[j] := by simp [hj]
    unfold okAt lastAt inr
    unfold inr at h3
    rw [Bool.and_eq_true, decide_eq_true_eq, decide_eq_true_eq] at h3 ⊢
    rw [e]
    refine ⟨?_, h3.2⟩
    split
    · omega
    · have h4 := of_decide_eq_true (h1 (j - 1) (by omega))
      rw [show j - 1 + 1 = j by omega, e] at h4
      omega
  · intro h
    have hpos : ∀ j, j < out.length → 0 ≤ out.getD j 0 := by
      intro j
      induction j with
      | zero =>
        intro hj
        have := h 0 hj
        unfold okAt lastAt inr at this
        rw [Bool.and_eq_true, decide_eq_true_eq] at this
        simpa using this.1
      | succ j ih =>
        intro hj
        have h1 := ih (by omega)
        have := h (j + 1) hj
        unfold okAt lastAt inr at this
        rw [Bool.and_eq_true, decide_eq_true_eq, if_neg (by omega), show j + 1 - 1 = j by omega] at this
        omega
    constructor
    · intro j hj
      have := h (j + 1) (by omega)
      unfold okAt lastAt inr at this
      rw [Bool.and_eq_true, decide_eq_true_eq, if_neg (by omega), show j + 1 - 1 = j by omega] at this
      exact decide_eq_true (by omega)
    · intro x hx
      obtain ⟨j, hj, rfl⟩ := List.getElem_of_mem hx
      have h1 := hpos j hj
      have h2 := h j hj
      have e : out.getD j 0 = out[j] := by simp [hj]
      unfold okAt inr at h2
      rw [Bool.and_eq_true, decide_eq_true_eq, decide_eq_true_eq] at h2
      rw [e] at h1 h2
      unfold inr
      rw [Bool.and_eq_true, decide_eq_true_eq, decide_eq_true_eq]
      exact ⟨h1, h2.2⟩

end Go.Proofs.YtmeejegdgfkogaaGreatDoor

/- Contracts of the program's functions, and what follows from them. -/
set_option maxRecDepth 100000
namespace Go.Proofs.YtmeejegdgfkogaaGreatDoor
open Go Go.Av

/-! For each wanted book the first one that is like it and not taken. -/

def fst (n : Nat) (q : Nat → Bool) : Nat := (List.range n).findIdx q
theorem fst_le (n : Nat) (q : Nat → Bool) : fst n q ≤ n := by
  have := List.findIdx_le_length (xs := List.range n) (p := q)
  rwa [List.length_range] at this
theorem fst_at {n : Nat} {q : Nat → Bool} (h : fst n q < n) : q (fst n q) = true := by
  have h' : (List.range n).findIdx q < (List.range n).length := by rw [List.length_range]; exact h
  have := List.findIdx_getElem (w := h')
  rwa [List.getElem_range] at this
theorem fst_eq {n j : Nat} {q : Nat → Bool} (hj : j < n) (hq : q j = true) (hn : ∀ i, i < j → q i = false) : fst n q = j := by
  unfold fst
  rw [List.findIdx_eq (by rw [List.length_range]; exact hj)]
  refine ⟨by rw [List.getElem_range]; exact hq, fun i hi => ?_⟩
  rw [List.getElem_range]
  exact hn i hi
theorem fst_none {n : Nat} {q : Nat → Bool} (hn : ∀ i, i < n → q i = false) : fst n q = n := by
  have h1 := fst_le n q
  apply Classical.byContradiction
  intro hne
  have h2 := fst_at (n := n) (q := q) (by omega)
  rw [hn _ (by omega)] at h2
  cases h2

theorem fi_nums (n : Nat) (p : Int → Bool) : (if 0 ≤ fi p (nums n) then fi p (nums n) else ((nums n).length : Int)) = (fst n (fun i => p (i : Int)) : Nat) := by
  have e : (nums n).findIdx p = fst n (fun i => p (i : Int)) := by
    unfold nums fst
    rw [List.findIdx_map]
    rfl
  have hl : (nums n).length = n := by simp [nums]
  have h1 := fst_le n (fun i => p (i : Int))
  unfold fi
  rw [e, hl]
  split <;> split <;> omega

def bof (b : Bool) : AV := bo b
def isIn (out : List Int) (i : Nat) : Bool := out.any fun x => x == (i : Int)
def flg (n : Nat) (out : List Int) : List Bool := (List.range n).map (isIn out)
theorem frzBo (l : List Bool) : AV.frzL (l.map bof) = l.map bof := frzL_map (fun _ => rfl) l

/-- The first book that is like w and not yet in out. -/
def mfst (l : List Bk) (like : Bk → Bk → Bool) (out : List Int) (w : Bk) : Nat := fst l.length fun i => !isIn out i && like (l.getD i bk0) w
def ms (l ws : List Bk) (like : Bk → Bk → Bool) : Nat → List Int × Bool
  | 0 => ([], true)
  | j + 1 => if (ms l ws like j).2 then (if mfst l like (ms l ws like j).1 (ws.getD j bk0) < l.length then ((ms l ws like j).1 ++ [(mfst l like (ms l ws like j).1 (ws.getD j bk0) : Int)], true) else ((ms l ws like j).1, false)) else ms l ws like j
theorem ms_succ (l ws : List Bk) (like : Bk → Bk → Bool) (j : Nat) : ms l ws like (j + 1) = if (ms l ws like j).2 then (if mfst l like (ms l ws like j).1 (ws.getD j bk0) < l.length then ((ms l ws like j).1 ++ [(mfst l like (ms l ws like j).1 (ws.getD j bk0) : Int)], true) else ((ms l ws like j).1, false)) else ms l ws like j := rfl
theorem ms_len (l ws : List Bk) (like : Bk → Bk → Bool) (j : Nat) : (ms l ws like j).1.length ≤ j ∧ ((ms l ws like j).2 = true → (ms l ws like j).1.length = j) ∧ ((ms l ws like j).2 = false → (ms l ws like j).1.length < j) := by
  induction j with
  | zero => simp [ms]
  | succ j ih =>
    obtain ⟨h1, h2, h3⟩ := ih
    rw [ms_succ]
    by_cases ht : (ms l ws like j).2 = true
    · rw [if_pos ht]
      have := h2 ht
      split
      · simp; omega
      · simp; omega
    · rw [if_neg ht]
      have hf : (ms l ws like j).2 = false := by simpa using ht
      have := h3 hf
      exact ⟨by omega, fun h => absurd h (by rw [hf]; decide), fun _ => by omega⟩
theorem ms_stop (l ws : List Bk) (like : Bk → Bk → Bool) {j : Nat} (h : (ms l ws like j).2 = false) : ∀ k, j ≤ k → ms l ws like k = ms l ws like j := by
  intro k hk
  induction k with
  | zero =>
    have : j = 0 := by omega
    subst this
    rfl
  | succ k ih =>
    by_cases e : j = k + 1
    · rw [e]
    · have := ih (by omega)
      rw [ms_succ, this, h]
      rfl
theorem fst_congr {n : Nat} {q q' : Nat → Bool} (h : ∀ i, i < n → q i = q' i) : fst n q = fst n q' := by
  have h1 := fst_le n q'
  by_cases hl : fst n q' < n
  · have h2 := fst_at hl
    refine fst_eq hl (by rw [h _ hl]; exact h2) fun i hi => ?_
    rw [h i (by omega)]
    cases hq : q' i with
    | false => rfl
    | true =>
      exfalso
      have : fst n q' ≤ i := by
        unfold fst
        apply Classical.byContradiction
        intro hc
        have := List.not_of_lt_findIdx (xs := List.range n) (p := q') (i := i) (by omega)
        rw [List.getElem_range, hq] at this
        cases this
      omega
  · have e : fst n q' = n := by omega
    rw [e]
    refine fst_none fun i hi => ?_
    rw [h i hi]
    cases hq : q' i with
    | false => rfl
    | true =>
      exfalso
      have := List.not_of_lt_findIdx (xs := List.range n) (p := q') (i := i) (by show i < fst n q'; omega)
      rw [List.getElem_range, hq] at this
      cases this
theorem flg_get {n : Nat} {out : List Int} {i : Nat} (h : i < n) : (flg n out).getD i false = isIn out i := by simp [flg, h]
theorem flg_snoc {n : Nat} {out : List Int} {a : Nat} (ha : a < n) : (flg n out).set a true = flg n (out ++ [(a : Int)]) := by
  apply List.ext_getElem?
  intro k
  rw [List.getElem?_set]
  unfold flg
  simp only [List.length_map, List.length_range, List.getElem?_map]
  by_cases hk : k < n
  · rw [List.getElem?_range hk]
    by_cases e : a = k
    · subst e
      rw [if_pos rfl, if_pos hk]
      simp [isIn]
    · rw [if_neg e]
      simp [isIn]
      omega
  · rw [if_neg (by omega), List.getElem?_eq_none (by rw [List.length_range]; omega)]
    rfl

end Go.Proofs.YtmeejegdgfkogaaGreatDoor

/- Contracts of the program's functions, and what follows from them. -/
set_option maxRecDepth 100000
namespace Go.Proofs.YtmeejegdgfkogaaGreatDoor
open Go Go.Av

/-! Where wanted books stand. -/

def lkU (x y : Bk) : Bool := uc x y == 0
def wtRes (a b : List Bk) : List Int × Int := if vBs a && vBs b then (if (ms a b lkU b.length).2 then ((ms a b lkU b.length).1, 0) else ([], 6)) else ([], 1)
theorem wtRes_len (a b : List Bk) : (wtRes a b).1.length ≤ b.length := by
  unfold wtRes
  split
  · split
    · exact (ms_len a b lkU b.length).1
    · simp
  · simp

end Go.Proofs.YtmeejegdgfkogaaGreatDoor

/- Contracts of the program's functions, and what follows from them. -/
set_option maxRecDepth 100000
namespace Go.Proofs.YtmeejegdgfkogaaGreatDoor
open Go Go.Av

/-! The places of a shelf's books in a catalogue of the same stock. -/

def lkE (x y : Bk) : Bool := decide (x = y)
def scode (a b : List Bk) : Int := if stCode a b = 0 then (if sameP a b then 0 else 8) else stCode a b

theorem scode_0 {a b : List Bk} (h : scode a b = 0) : sameP a b = true := by
  unfold scode at h
  split at h
  · split at h
    · assumption
    · cases h
  · contradiction

/-! All are found. -/

theorem countP_add {p : Nat → Bool} {k : Nat} (hk : p k = false) (n : Nat) : (List.range n).countP (fun i => p i || i == k) = (List.range n).countP p + (if k < n then 1 else 0) := by
  induction n with
  | zero => simp
  | succ n ih =>
    rw [List.range_succ, List.countP_append, List.countP_append, ih, List.countP_singleton, List.countP_singleton]
    by_cases e : n = k
    · subst e
      simp [hk]
    · have e' : (n == k) = false := by simpa using e
      rw [e', Bool.or_false]
      generalize (if p n = true then 1 else 0) = z
      by_cases h1 : k < n
      · rw [if_pos h1, if_pos (show k < n + 1 by omega)]
        omega
      · rw [if_neg h1, if_neg (show ¬ k < n + 1 by omega)]
        omega

theorem count_range (l : List Bk) (w : Bk) : (List.range l.length).countP (fun i => decide (l.getD i bk0 = w)) = l.count w := by
  suffices h : ∀ k, k ≤ l.length → (List.range k).countP (fun i => decide (l.getD i bk0 = w)) = (l.take k).count w by
    have := h l.length (Nat.le_refl _)
    rwa [List.take_length] at this
  intro k
  induction k with
  | zero => intro _; simp
  | succ k ih =>
    intro hk
    have hlt : k < l.length := hk
    rw [List.range_succ, List.countP_append, ih (by omega), count_step hlt, List.countP_singleton]
    congr 1
    rw [show l.getD k bk0 = l[k] by simp [hlt]]
    by_cases e : l[k] = w <;> simp [e]

def rcnt (a : List Bk) (out : List Int) (w : Bk) : Nat := (List.range a.length).countP fun i => isIn out i && decide (a.getD i bk0 = w)
theorem isIn_snoc (out : List Int) (k i : Nat) : isIn (out ++ [(k : Int)]) i = (isIn out i || i == k) := by
  simp only [isIn, List.any_append, List.any_cons, List.any_nil, Bool.or_false]
  congr 1
  rw [Bool.eq_iff_iff]
  simp
  omega
theorem rcnt_snoc {a : List Bk} {out : List Int} {k : Nat} (hk : k < a.length) (hno : isIn out k = false) (w : Bk) : rcnt a (out ++ [(k : Int)]) w = rcnt a out w + (if a.getD k bk0 = w then 1 else 0) := by
  unfold rcnt
  by_cases hd : a.getD k bk0 = w
  · rw [if_pos hd]
    have := countP_add (p := fun i => isIn out i && decide (a.getD i bk0 = w)) (k := k) (by simp [hno]) a.length
    rw [if_pos hk] at this
    rw [← this]
    congr 1
    funext i
    rw [isIn_snoc]
    by_cases e : i = k
    · subst e
      rw [decide_eq_true hd]
      simp
    · have e' : (i == k) = false := by simpa using e
      rw [e', Bool.or_false, Bool.or_false]
  · rw [if_neg hd, Nat.add_zero]
    congr 1
    funext i
    rw [isIn_snoc]
    by_cases e : i = k
    · subst e
      have : decide (a.getD i bk0 = w) = false := decide_eq_false hd
      rw [this, Bool.and_false, Bool.and_false]
    · have e' : (i == k) = false := by simpa using e
      rw [e', Bool.or_false]

theorem ms_all {a b : List Bk} (h : sameP a b = true) : ∀ j, j ≤ b.length → (ms a b lkE j).2 = true ∧ ∀ w, rcnt a (ms a b lkE j).1 w = (b.take j).count w := by
  obtain ⟨m1, m2⟩ := (sameP_iff a b).mp h
  have c1 := more_counts.mp m1
  have c2 := more_counts.mp m2
  intro j
  induction j with
  | zero =>
    intro _
    refine ⟨rfl, fun w => ?_⟩
    simp [ms, rcnt, isIn]
  | succ j ih =>
    intro hj
    obtain ⟨h1, h2⟩ := ih (by omega)
    have hlt : j < b.length := hj
    have e : b.getD j bk0 = b[j] := by simp [hlt]
    have hex : mfst a lkE (ms a b lkE j).1 b[j] < a.length := by
      apply Classical.byContradiction
      intro hno
      have hle := fst_le a.length (fun i => !isIn (ms a b lkE j).1 i && lkE (a.getD i bk0) b[j])
      have hall : ∀ i, i < a.length → (!isIn (ms a b lkE j).1 i && lkE (a.getD i bk0) b[j]) = false := by
        intro i hi
        have := List.not_of_lt_findIdx (xs := List.range a.length) (p := fun i => !isIn (ms a b lkE j).1 i && lkE (a.getD i bk0) b[j]) (i := i) (by
          show i < mfst a lkE (ms a b lkE j).1 b[j]
          omega)
        rw [List.getElem_range] at this
        simpa using this
      have hr : rcnt a (ms a b lkE j).1 b[j] = a.count b[j] := by
        rw [← count_range]
        unfold rcnt
        apply List.countP_congr
        intro i hi
        have := hall i (List.mem_range.mp hi)
        rw [show lkE (a.getD i bk0) b[j] = decide (a.getD i bk0 = b[j]) from rfl] at this
        generalize decide (a.getD i bk0 = b[j]) = z at this
        generalize isIn (ms a b lkE j).1 i = y at this
        revert this
        cases y <;> cases z <;> decide
      have h3 := h2 b[j]
      have h4 := count_step hlt b[j]
      rw [if_pos rfl] at h4
      have h5 := count_take_le b b[j] (j + 1)
      have h6 := c2 b[j]
      omega
    have hat := fst_at hex
    rw [ms_succ, if_pos h1, e, if_pos hex]
    refine ⟨rfl, fun w => ?_⟩
    simp only [Bool.and_eq_true, Bool.not_eq_true'] at hat
    have hka : a.getD (mfst a lkE (ms a b lkE j).1 b[j]) bk0 = b[j] := of_decide_eq_true hat.2
    rw [rcnt_snoc hex hat.1, h2, count_step hlt, hka]

def rpRes (a b : List Bk) : List Int × Int := if scode a b = 0 then ((ms a b lkE b.length).1, 0) else ([], scode a b)
theorem rpRes_len (a b : List Bk) : (rpRes a b).1.length ≤ b.length := by
  unfold rpRes
  split
  · exact (ms_len a b lkE b.length).1
  · simp

end Go.Proofs.YtmeejegdgfkogaaGreatDoor

/- Contracts of the program's functions, and what follows from them. -/
set_option maxRecDepth 100000
namespace Go.Proofs.YtmeejegdgfkogaaGreatDoor
open Go Go.Av

/-! One exchange that makes the shelf of a catalogue. -/

def mvA (f t : Int) : AV := .agg [i16 f, i16 t]
def mvR (r : (Int × Int) × Int) : AV := .tup [mvA r.1.1 r.1.2, i64 r.2]

theorem take_snoc_eq {a b : List Bk} {j : Nat} (ha : j < a.length) (hb : j < b.length) (h : a.take j = b.take j) (he : a[j] = b[j]) : a.take (j + 1) = b.take (j + 1) := by
  rw [List.take_succ_eq_append_getElem ha, List.take_succ_eq_append_getElem hb, h, he]

theorem oneC_bk (a : List Bk) : oneC (a.map bkA) = true := by
  simp only [oneC, List.all_map, List.all_eq_true]
  intro x _
  rfl

def sw (b : List Bk) (i j : Nat) : List Bk := (b.set i (b.getD j bk0)).set j (b.getD i bk0)

theorem scode_vB {a b : List Bk} (h : scode a b = 0) : a.length ≤ 60 ∧ b.length ≤ 60 := by
  have h1 : stCode a b = 0 := by
    unfold scode at h
    split at h
    · assumption
    · exact h
  unfold stCode at h1
  split at h1
  · rename_i h2
    simp only [vBs, Bool.and_eq_true, decide_eq_true_eq] at h2
    exact ⟨h2.1.1, h2.2.1⟩
  · cases h1

/-! Which places differ. -/

def dfs (a b : List Bk) (j : Nat) : List Nat := (List.range j).filter fun k => !decide (b.getD k bk0 = a.getD k bk0)
def osRes (a b : List Bk) : (Int × Int) × Int := if scode a b = 0 then (match dfs a b b.length with | [i, j] => (((i : Int), (j : Int)), 0) | _ => ((0, 0), 6)) else ((0, 0), scode a b)

theorem filter_two {i j : Nat} (hij : i < j) : ∀ n, (List.range n).filter (fun k => k == i || k == j) = (if i < n then [i] else []) ++ (if j < n then [j] else []) := by
  intro n
  induction n with
  | zero => simp
  | succ n ih =>
    rw [List.range_succ, List.filter_append, ih]
    by_cases e1 : n = i
    · subst e1
      rw [if_neg (show ¬ n < n by omega), if_neg (show ¬ j < n by omega), if_pos (show n < n + 1 by omega), if_neg (show ¬ j < n + 1 by omega)]
      simp
    · by_cases e2 : n = j
      · subst e2
        rw [if_neg (show ¬ n < n by omega), if_pos (show i < n by omega), if_pos (show n < n + 1 by omega), if_pos (show i < n + 1 by omega)]
        simp
      · have h1 : (n == i || n == j) = false := by simp [e1, e2]
        have h2 : (i < n + 1) = (i < n) := by
          apply propext; omega
        have h3 : (j < n + 1) = (j < n) := by
          apply propext; omega
        simp only [List.filter_cons, h1, h2, h3, List.filter_nil]
        simp

theorem sw_get {b : List Bk} {i j k : Nat} (hi : i < b.length) (hj : j < b.length) (hij : i < j) : (sw b i j).getD k bk0 = if k = j then b.getD i bk0 else if k = i then b.getD j bk0 else b.getD k bk0 := by
  unfold sw
  rw [List.getD_eq_getElem?_getD, List.getElem?_set]
  by_cases e : k = j
  · subst e
    simp [hj]
  · rw [if_neg (Ne.symm e), if_neg e, List.getElem?_set]
    by_cases e2 : k = i
    · subst e2
      simp [hi]
    · rw [if_neg (Ne.symm e2), if_neg e2, List.getD_eq_getElem?_getD]

theorem sw_len (b : List Bk) (i j : Nat) : (sw b i j).length = b.length := by simp [sw]

theorem dfs_sw {a b : List Bk} {i j : Nat} (hi : i < b.length) (hj : j < b.length) (hij : i < j) (h : sw b i j = a) (hne : a ≠ b) : dfs a b b.length = [i, j] := by
  have hd : b.getD i bk0 ≠ b.getD j bk0 := by
    intro e
    apply hne
    rw [← h]
    apply List.ext_getElem (sw_len b i j)
    intro k h1 h2
    have := sw_get (k := k) hi hj hij
    rw [show (sw b i j).getD k bk0 = (sw b i j)[k] by simp [h1]] at this
    rw [this]
    split
    · rename_i e'
      subst e'
      rw [e]
      simp [h2]
    · split
      · rename_i e'
        subst e'
        rw [← e]
        simp [h2]
      · simp [h2]
  have := filter_two hij b.length
  rw [if_pos hi, if_pos hj] at this
  unfold dfs
  rw [← h]
  refine Eq.trans (List.filter_congr fun k hk => ?_) this
  rw [sw_get hi hj hij]
  by_cases e : k = j
  · subst e
    simp only [if_pos]
    rw [decide_eq_false (Ne.symm hd)]
    simp
  · rw [if_neg e]
    by_cases e2 : k = i
    · subst e2
      simp only [if_pos]
      rw [decide_eq_false hd]
      simp
    · rw [if_neg e2]
      simp [e, e2]

theorem perm_of_same {a b : List Bk} (h : sameP a b = true) : a.Perm b := by
  obtain ⟨m1, m2⟩ := (sameP_iff a b).mp h
  exact List.perm_iff_count.2 fun x => Nat.le_antisymm (more_counts.mp m1 x) (more_counts.mp m2 x)

theorem sw_of_dfs {a b : List Bk} {i j : Nat} (hp : a.Perm b) (h : dfs a b b.length = [i, j]) : i < b.length ∧ j < b.length ∧ i < j ∧ sw b i j = a := by
  have hl := hp.length_eq
  have hm : ∀ k, k ∈ dfs a b b.length ↔ (k < b.length ∧ b.getD k bk0 ≠ a.getD k bk0) := by
    intro k
    simp [dfs]
  rw [h] at hm
  obtain ⟨hi, hdi⟩ := (hm i).1 (by simp)
  obtain ⟨hj, hdj⟩ := (hm j).1 (by simp)
  have hij : i < j := by
    have hs : (dfs a b b.length).Pairwise (· < ·) := List.Pairwise.filter _ List.pairwise_lt_range
    rw [h] at hs
    simpa using hs
  refine ⟨hi, hj, hij, ?_⟩
  have hoth : ∀ k, k < b.length → k ≠ i → k ≠ j → b.getD k bk0 = a.getD k bk0 := by
    intro k hk h1 h2
    apply Classical.byContradiction
    intro h3
    have := (hm k).2 ⟨hk, h3⟩
    simp [h1, h2] at this
  have hae : a = (b.set i (a.getD i bk0)).set j (a.getD j bk0) := by
    apply List.ext_getElem (by simpa using hl)
    intro k h1 h2
    rw [List.getElem_set, List.getElem_set]
    by_cases e : j = k
    · subst e
      rw [if_pos rfl]
      simp [h1]
    · rw [if_neg e]
      by_cases e2 : i = k
      · subst e2
        rw [if_pos rfl]
        simp [h1]
      · rw [if_neg e2]
        have := hoth k (by omega) (Ne.symm e2) (Ne.symm e)
        rw [show b.getD k bk0 = b[k]'(by omega) by simp [show k < b.length by omega], show a.getD k bk0 = a[k] by simp [h1]] at this
        exact this.symm
  have hc : ∀ w, a.count w = b.count w := fun w => hp.count_eq w
  have hcs : ∀ w, b.count w + (if a.getD i bk0 = w then 1 else 0) + (if a.getD j bk0 = w then 1 else 0) = a.count w + (if b.getD i bk0 = w then 1 else 0) + (if b.getD j bk0 = w then 1 else 0) := by
    intro w
    have e1 := List.count_set (b := w) (a := a.getD j bk0) (l := b.set i (a.getD i bk0)) (i := j) (by simpa using hj)
    have e2 := List.count_set (b := w) (a := a.getD i bk0) (l := b) (i := i) hi
    rw [← hae] at e1
    have e3 : (b.set i (a.getD i bk0))[j]'(by simpa using hj) = b.getD j bk0 := by
      rw [List.getElem_set, if_neg (by omega)]
      simp [hj]
    rw [e3] at e1
    have e4 : b[i] = b.getD i bk0 := by simp [hi]
    rw [e4] at e2
    simp only [beq_iff_eq] at e1 e2
    have p1 : (if b.getD i bk0 = w then 1 else 0) ≤ b.count w := by
      split
      · rename_i e
        rw [← e4] at e
        exact List.count_pos_iff.2 (e ▸ List.getElem_mem hi)
      · omega
    have p2 : (if b.getD j bk0 = w then 1 else 0) ≤ (b.set i (a.getD i bk0)).count w := by
      split
      · rename_i e
        rw [← e3] at e
        exact List.count_pos_iff.2 (e ▸ List.getElem_mem _)
      · omega
    omega
  have q1 : b.getD j bk0 = a.getD i bk0 := by
    have := hcs (a.getD i bk0)
    rw [hc, if_pos rfl, if_neg hdi] at this
    apply Classical.byContradiction
    intro hn
    rw [if_neg hn] at this
    omega
  have q2 : b.getD i bk0 = a.getD j bk0 := by
    have := hcs (a.getD j bk0)
    rw [hc, if_pos (rfl : a.getD j bk0 = a.getD j bk0), if_neg hdj] at this
    apply Classical.byContradiction
    intro hn
    rw [if_neg hn] at this
    omega
  rw [sw, q1, q2]
  exact hae.symm

end Go.Proofs.YtmeejegdgfkogaaGreatDoor

/- Contracts of the program's functions, and what follows from them. -/
set_option maxRecDepth 100000
namespace Go.Proofs.YtmeejegdgfkogaaGreatDoor
open Go Go.Av

/-! The most books that can be kept: the numbers. -/

theorem cmpI_anti (a b : Int) : cmpI b a = - cmpI a b := by
  unfold cmpI
  split <;> split <;> (try split) <;> (try split) <;> omega
theorem lex3_anti (p q : Int × Int × Int) : lex3 q p = - lex3 p q := by
  unfold lex3
  rw [cmpI_anti p.1 q.1, cmpI_anti p.2.1 q.2.1, cmpI_anti p.2.2 q.2.2]
  by_cases h1 : cmpI p.1 q.1 = 0
  · by_cases h2 : cmpI p.2.1 q.2.1 = 0
    · simp [h1, h2]
    · simp [h1, h2]
  · simp [h1]
theorem uc_anti (x y : Bk) : uc y x = - uc x y := by
  unfold uc fc
  rw [lex3_anti (nm x 0) (nm y 0), lex3_anti (nm x 1) (nm y 1), lex3_anti (nm x 2) (nm y 2)]
  by_cases h1 : lex3 (nm x 0) (nm y 0) = 0
  · by_cases h2 : lex3 (nm x 1) (nm y 1) = 0
    · simp [h1, h2]
    · simp [h1, h2]
  · simp [h1]

def mxf (l : List Bk) (f : Nat → Int) (i : Nat) : Nat → Int
  | 0 => 0
  | m + 1 => if i < m ∧ uc (l.getD i bk0) (l.getD m bk0) ≤ 0 then max (mxf l f i m) (f m) else mxf l f i m
def bt (l : List Bk) : Nat → Nat → Int
  | 0, _ => 0
  | t + 1, j => if j = l.length - 1 - t then 1 + mxf l (bt l t) j l.length else bt l t j
def btL (l : List Bk) (t : Nat) : List Int := (List.range l.length).map (bt l t)

theorem mxf_le {l : List Bk} {f : Nat → Int} {B : Int} (hB : 0 ≤ B) (h : ∀ j, 0 ≤ f j ∧ f j ≤ B) (i : Nat) : ∀ m, 0 ≤ mxf l f i m ∧ mxf l f i m ≤ B := by
  intro m
  induction m with
  | zero => exact ⟨Int.le_refl _, hB⟩
  | succ m ih =>
    have := h m
    simp only [mxf]
    split <;> omega
theorem mxf_zero {l : List Bk} {f : Nat → Int} {i : Nat} : ∀ m, m ≤ i + 1 → mxf l f i m = 0 := by
  intro m
  induction m with
  | zero => intro _; rfl
  | succ m ih =>
    intro h
    simp only [mxf]
    rw [if_neg (by omega)]
    exact ih (by omega)
theorem mxf_congr {l : List Bk} {f g : Nat → Int} {i : Nat} : ∀ m, (∀ j, i < j → j < m → f j = g j) → mxf l f i m = mxf l g i m := by
  intro m
  induction m with
  | zero => intro _; rfl
  | succ m ih =>
    intro h
    simp only [mxf]
    rw [ih fun j h1 h2 => h j h1 (by omega)]
    by_cases hc : i < m ∧ uc (l.getD i bk0) (l.getD m bk0) ≤ 0
    · rw [if_pos hc, if_pos hc, h m hc.1 (by omega)]
    · rw [if_neg hc, if_neg hc]
theorem mxf_at {l : List Bk} {f : Nat → Int} {i : Nat} : ∀ m, 0 < mxf l f i m → ∃ j, i < j ∧ j < m ∧ uc (l.getD i bk0) (l.getD j bk0) ≤ 0 ∧ f j = mxf l f i m := by
  intro m
  induction m with
  | zero => intro h; simp [mxf] at h
  | succ m ih =>
    intro h
    simp only [mxf] at h ⊢
    by_cases hc : i < m ∧ uc (l.getD i bk0) (l.getD m bk0) ≤ 0
    · rw [if_pos hc] at h ⊢
      by_cases hm : mxf l f i m ≤ f m
      · exact ⟨m, hc.1, by omega, hc.2, by omega⟩
      · obtain ⟨j, h1, h2, h3, h4⟩ := ih (by omega)
        exact ⟨j, h1, by omega, h3, by omega⟩
    · rw [if_neg hc] at h ⊢
      obtain ⟨j, h1, h2, h3, h4⟩ := ih h
      exact ⟨j, h1, by omega, h3, h4⟩

theorem bt_le (l : List Bk) : ∀ t j, 0 ≤ bt l t j ∧ bt l t j ≤ t := by
  intro t
  induction t with
  | zero => intro j; simp [bt]
  | succ t ih =>
    intro j
    have := mxf_le (l := l) (B := t) (by omega) ih j l.length
    have := ih j
    simp only [bt]
    split <;> omega
theorem bt_keep (l : List Bk) {j : Nat} (hj : j < l.length) : ∀ t, l.length - j ≤ t → t ≤ l.length → bt l t j = bt l (l.length - j) j := by
  intro t
  induction t with
  | zero => intro h _; rw [show l.length - j = 0 by omega]
  | succ t ih =>
    intro h1 h2
    by_cases e : l.length - j = t + 1
    · rw [e]
    · have : bt l (t + 1) j = bt l t j := by
        simp only [bt]
        rw [if_neg (by omega)]
      rw [this, ih (by omega) (by omega)]
def bh (l : List Bk) : Nat → Int := bt l l.length
theorem bh_eq (l : List Bk) {j : Nat} (hj : j < l.length) : bh l j = 1 + mxf l (bh l) j l.length := by
  unfold bh
  rw [bt_keep l hj l.length (by omega) (by omega)]
  have e : bt l (l.length - j) j = 1 + mxf l (bt l (l.length - j - 1)) j l.length := by
    rw [show l.length - j = (l.length - j - 1) + 1 by omega]
    simp only [bt]
    rw [if_pos (by omega)]
    rfl
  rw [e]
  congr 1
  apply mxf_congr
  intro k h1 h2
  rw [bt_keep l h2 l.length (by omega) (by omega), bt_keep l h2 (l.length - j - 1) (by omega) (by omega)]
theorem btL_len (l : List Bk) (t : Nat) : (btL l t).length = l.length := by simp [btL]
theorem btL_at {l : List Bk} {t j : Nat} (h : j < l.length) : (btL l t)[j]? = some (bt l t j) := by simp [btL, h]
theorem btL_set {l : List Bk} {t : Nat} (h : t < l.length) : (btL l t).set (l.length - 1 - t) (1 + mxf l (bt l t) (l.length - 1 - t) l.length) = btL l (t + 1) := by
  apply List.ext_getElem?
  intro k
  rw [List.getElem?_set]
  by_cases e : l.length - 1 - t = k
  · subst e
    rw [if_pos rfl, btL_len, if_pos (by omega), btL_at (by omega)]
    simp [bt]
  · rw [if_neg e]
    by_cases hk : k < l.length
    · rw [btL_at hk, btL_at hk]
      simp only [bt]
      rw [if_neg (by omega)]
    · rw [List.getElem?_eq_none (by rw [btL_len]; omega), List.getElem?_eq_none (by rw [btL_len]; omega)]

end Go.Proofs.YtmeejegdgfkogaaGreatDoor

/- Contracts of the program's functions, and what follows from them. -/
set_option maxRecDepth 100000
namespace Go.Proofs.YtmeejegdgfkogaaGreatDoor
open Go Go.Av

/-! The most books that can be kept: which. -/

theorem lt64 (L : List Int) : (flatc (L.map i64)).all isLT = true := by
  induction L with
  | nil => rfl
  | cons x r ih =>
    rw [List.map_cons, show flatc (i64 x :: r.map i64) = i64 x :: flatc (r.map i64) from rfl, List.all_cons, ih]
    rfl

def mxL (L : List Int) : Int := L.tail.foldl max (L.headD 0)
def mxa (b : Nat → Int) : Nat → Int
  | 0 => 0
  | m + 1 => max (mxa b m) (b m)
theorem foldl_max (r : List Int) : ∀ a x, r.foldl max (max a x) = max a (r.foldl max x) := by
  induction r with
  | nil => intro a x; rfl
  | cons y r ih =>
    intro a x
    rw [List.foldl_cons, List.foldl_cons, Int.max_assoc, ih]
theorem mxL_zero (L : List Int) : mxL (L ++ [0]) = L.foldl max 0 := by
  cases L with
  | nil => rfl
  | cons x r =>
    rw [mxL, List.cons_append, List.tail_cons, List.headD_cons, List.foldl_append, List.foldl_cons, List.foldl_cons, List.foldl_nil, foldl_max, Int.max_comm]
theorem foldl_mxa (b : Nat → Int) : ∀ n, ((List.range n).map b).foldl max 0 = mxa b n := by
  intro n
  induction n with
  | zero => rfl
  | succ n ih => rw [List.range_succ, List.map_append, List.foldl_append, ih]; rfl
theorem mxL_bt (l : List Bk) : mxL (btL l l.length ++ [0]) = mxa (bh l) l.length := by
  rw [mxL_zero]
  exact foldl_mxa _ _
theorem mxa_at (b : Nat → Int) : ∀ n, 0 < mxa b n → ∃ j, j < n ∧ b j = mxa b n := by
  intro n
  induction n with
  | zero => intro h; simp [mxa] at h
  | succ n ih =>
    intro h
    simp only [mxa] at h ⊢
    by_cases hm : mxa b n ≤ b n
    · exact ⟨n, by omega, by omega⟩
    · obtain ⟨j, h1, h2⟩ := ih (by omega)
      exact ⟨j, by omega, by omega⟩
theorem mxa_le {b : Nat → Int} {B : Int} (hB : 0 ≤ B) (h : ∀ j, 0 ≤ b j ∧ b j ≤ B) : ∀ n, 0 ≤ mxa b n ∧ mxa b n ≤ B := by
  intro n
  induction n with
  | zero => exact ⟨Int.le_refl _, hB⟩
  | succ n ih =>
    have := h n
    simp only [mxa]
    omega

def kcond (l : List Bk) (b : Nat → Int) (o : List Nat) (m : Int) (j : Nat) : Bool := (b j == m) && (((o.length : Int) == 0) || decide (uc (l.getD (o.getLastD 0) bk0) (l.getD j bk0) ≤ 0))
def kst (l : List Bk) (b : Nat → Int) (m0 : Int) : Nat → List Nat × Int
  | 0 => ([], m0)
  | i + 1 => if (decide (0 < (kst l b m0 i).2) && kcond l b (kst l b m0 i).1 (kst l b m0 i).2 i) = true then ((kst l b m0 i).1 ++ [i], (kst l b m0 i).2 - 1) else kst l b m0 i
def keptL (l : List Bk) : List Nat := (kst l (bh l) (mxa (bh l) l.length) l.length).1

theorem kst_yes {l : List Bk} {b : Nat → Int} {m0 : Int} {i : Nat} (h1 : 0 < (kst l b m0 i).2) (h2 : kcond l b (kst l b m0 i).1 (kst l b m0 i).2 i = true) : kst l b m0 (i + 1) = ((kst l b m0 i).1 ++ [i], (kst l b m0 i).2 - 1) := by
  simp only [kst]
  rw [h2, decide_eq_true h1]
  rfl
theorem kst_no {l : List Bk} {b : Nat → Int} {m0 : Int} {i : Nat} (h2 : kcond l b (kst l b m0 i).1 (kst l b m0 i).2 i = false) : kst l b m0 (i + 1) = kst l b m0 i := by
  simp only [kst]
  rw [h2, Bool.and_false]
  rfl
theorem kst_stop {l : List Bk} {b : Nat → Int} {m0 : Int} {i : Nat} (h : (kst l b m0 i).2 ≤ 0) : ∀ k, kst l b m0 (i + k) = kst l b m0 i := by
  intro k
  induction k with
  | zero => rfl
  | succ k ih =>
    rw [Nat.add_succ]
    simp only [kst]
    rw [ih, decide_eq_false (by omega), Bool.false_and]
    rfl
theorem kst_lt {l : List Bk} {b : Nat → Int} {m0 : Int} : ∀ i, (kst l b m0 i).1.Pairwise (· < ·) ∧ (∀ x ∈ (kst l b m0 i).1, x < i) ∧ (kst l b m0 i).2 ≤ m0 := by
  intro i
  induction i with
  | zero => simp [kst]
  | succ i ih =>
    obtain ⟨h1, h2, h3⟩ := ih
    simp only [kst]
    split
    · refine ⟨List.pairwise_append.2 ⟨h1, by simp, fun x hx y hy => ?_⟩, fun x hx => ?_, by simp; omega⟩
      · rw [List.mem_singleton.1 hy]
        exact h2 x hx
      · rcases List.mem_append.1 hx with hx | hx
        · have := h2 x hx; omega
        · rw [List.mem_singleton.1 hx]; omega
    · exact ⟨h1, fun x hx => by have := h2 x hx; omega, h3⟩
theorem kst_len {l : List Bk} {b : Nat → Int} {m0 : Int} : ∀ i, (kst l b m0 i).1.length ≤ i := by
  intro i
  induction i with
  | zero => simp [kst]
  | succ i ih =>
    simp only [kst]
    split
    · simp; omega
    · omega

theorem kst_ex (l : List Bk) : ∀ i, i ≤ l.length → 0 < (kst l (bh l) (mxa (bh l) l.length) i).2 → ∃ j, i ≤ j ∧ j < l.length ∧ kcond l (bh l) (kst l (bh l) (mxa (bh l) l.length) i).1 (kst l (bh l) (mxa (bh l) l.length) i).2 j = true := by
  intro i
  induction i with
  | zero =>
    intro _ h
    obtain ⟨j, h1, h2⟩ := mxa_at (bh l) l.length h
    refine ⟨j, by omega, h1, ?_⟩
    simp only [kst, kcond, h2]
    simp
  | succ i ih =>
    intro hi h
    by_cases hm : 0 < (kst l (bh l) (mxa (bh l) l.length) i).2
    · cases hc : kcond l (bh l) (kst l (bh l) (mxa (bh l) l.length) i).1 (kst l (bh l) (mxa (bh l) l.length) i).2 i with
      | true =>
        rw [kst_yes hm hc] at h ⊢
        generalize kst l (bh l) (mxa (bh l) l.length) i = S at h hc ⊢
        have hb : bh l i = S.2 := by
          simp only [kcond, Bool.and_eq_true, beq_iff_eq] at hc
          exact hc.1
        have he := bh_eq l (j := i) (by omega)
        have h : 0 < S.2 - 1 := h
        obtain ⟨j, h1, h2, h3, h4⟩ := mxf_at (l := l) (f := bh l) (i := i) l.length (by omega)
        refine ⟨j, by omega, h2, ?_⟩
        simp only [kcond]
        rw [show bh l j = S.2 - 1 by omega, show (S.1 ++ [i]).getLastD 0 = i by simp, decide_eq_true h3]
        simp
      | false =>
        rw [kst_no hc]
        obtain ⟨j, h1, h2, h3⟩ := ih (by omega) hm
        refine ⟨j, ?_, h2, h3⟩
        have : j ≠ i := by
          rintro rfl
          rw [hc] at h3
          cases h3
        omega
    · have := kst_stop (l := l) (b := bh l) (m0 := mxa (bh l) l.length) (i := i) (by omega) 1
      rw [this] at h
      exact absurd h hm

def nA (o : List Nat) : List AV := o.map fun k : Nat => i64 k
theorem nA_snoc (o : List Nat) (k : Nat) : nA (o ++ [k]) = nA o ++ [i64 k] := by simp [nA]
theorem nA_len (o : List Nat) : (nA o).length = o.length := by simp [nA]
theorem nA_eq (o : List Nat) : nA o = (o.map fun k : Nat => (k : Int)).map i64 := by simp [nA, Function.comp_def]
theorem nA_frz (o : List Nat) : AV.frzL (nA o) = nA o := by rw [nA_eq, frz64]
theorem nA_rf (o : List Nat) : AV.rfL (nA o) = true := by rw [nA_eq, rf64]

theorem list_snoc {α : Type} {o : List α} (h : o ≠ []) : ∃ o' k, o = o' ++ [k] := ⟨o.dropLast, o.getLast h, (List.dropLast_concat_getLast h).symm⟩

end Go.Proofs.YtmeejegdgfkogaaGreatDoor

/- Contracts of the program's functions, and what follows from them. -/
set_option maxRecDepth 100000
namespace Go.Proofs.YtmeejegdgfkogaaGreatDoor
open Go Go.Av

/-! The books out of place. -/

theorem lt_deleteI_ct (L : List Int) : (flatc (L.map i64)).all isLT = true := lt64 L

def oop (l : List Bk) : List Nat := (List.range l.length).filter fun i => !(keptL l).any fun k => k == i
theorem oop_lt (l : List Bk) : ∀ x ∈ oop l, x < l.length := by
  intro x hx
  simp only [oop, List.mem_filter, List.mem_range] at hx
  exact hx.1
theorem oop_le (l : List Bk) : (oop l).length ≤ l.length := by
  unfold oop
  refine Nat.le_trans (List.length_filter_le _ _) ?_
  simp
theorem kept_le (l : List Bk) : (keptL l).length ≤ l.length := kst_len _
theorem kept_any (l : List Bk) (i : Nat) : ((keptL l).map fun k : Nat => (k : Int)).any (fun x => x == (i : Int)) = (keptL l).any fun k => k == i := by
  rw [List.any_map]
  congr 1
  funext k
  simp only [Function.comp]
  rw [Bool.eq_iff_iff, beq_iff_eq, beq_iff_eq]
  omega
theorem oop_len (l : List Bk) : (oop l).length + (keptL l).length = l.length := by
  have hk := kst_lt (l := l) (b := bh l) (m0 := mxa (bh l) l.length) l.length
  have hnd : (keptL l).Nodup := hk.1.imp fun h => Nat.ne_of_lt h
  have hp : ((List.range l.length).filter fun i => (keptL l).any fun k => k == i).Perm (keptL l) := by
    rw [List.perm_ext_iff_of_nodup (List.Pairwise.filter _ List.nodup_range) hnd]
    intro x
    simp only [List.mem_filter, List.mem_range, List.any_eq_true, beq_iff_eq]
    constructor
    · rintro ⟨_, k, hk, rfl⟩
      exact hk
    · intro hx
      exact ⟨hk.2.1 x hx, x, hx, rfl⟩
  have h1 := hp.length_eq
  have h2 := List.length_eq_countP_add_countP (fun i => (keptL l).any fun k => k == i) (l := List.range l.length)
  rw [List.length_range, List.countP_eq_length_filter, List.countP_eq_length_filter] at h2
  unfold oop
  simp only [decide_not, Bool.decide_eq_true] at h2
  omega

def oopR (l : List Bk) : List Int × Int := if vBs l then ((oop l).map fun k : Nat => (k : Int), 0) else ([], 1)
theorem oopR_len (l : List Bk) : (oopR l).1.length ≤ l.length := by
  have := oop_le l
  unfold oopR
  split <;> simp
  exact this

def fsRes (a b : List Bk) : Int × Int := if scode a b = 0 then (((oop b).length : Int), 0) else (0, scode a b)

theorem scode_vBs {a b : List Bk} (h : scode a b = 0) : vBs b = true := by
  have h1 : stCode a b = 0 := by
    unfold scode at h
    split at h
    · assumption
    · exact h
  unfold stCode at h1
  split at h1
  · rename_i h2
    simp only [Bool.and_eq_true] at h2
    exact h2.2
  · cases h1

end Go.Proofs.YtmeejegdgfkogaaGreatDoor

/- Contracts of the program's functions, and what follows from them. -/
set_option maxRecDepth 100000
namespace Go.Proofs.YtmeejegdgfkogaaGreatDoor
open Go Go.Av

/-! Parts of a list are put in, and taken out. -/

theorem one_bk (a : List Bk) : oneC (a.map bkA) = true := oneC_bk a
theorem lt_bk (L : List Bk) : (flatc (L.map bkA)).all isLT = true := by
  induction L with
  | nil => rfl
  | cons x r ih =>
    rw [List.map_cons, show flatc (bkA x :: r.map bkA) = (bkA x).cells ++ flatc (r.map bkA) from rfl, List.all_append, ih]
    rfl
theorem lt_app (xs ys : List AV) : (flatc (xs ++ ys)).all isLT = ((flatc xs).all isLT && (flatc ys).all isLT) := by
  unfold flatc
  rw [List.flatMap_append, List.all_append]
theorem lt_rep (n : Nat) (y : AV) (h : y.cells.all isLT = true) : (flatc (List.replicate n y)).all isLT = true := by
  induction n with
  | zero => rfl
  | succ n ih =>
    rw [List.replicate_succ, show flatc (y :: List.replicate n y) = y.cells ++ flatc (List.replicate n y) from rfl, List.all_append, ih, h]
    rfl

end Go.Proofs.YtmeejegdgfkogaaGreatDoor

/- Contracts of the program's functions, and what follows from them. -/
set_option maxRecDepth 100000
namespace Go.Proofs.YtmeejegdgfkogaaGreatDoor
open Go Go.Av

/-! One book put elsewhere makes the shelf of a catalogue. -/

def mvL (b : List Bk) (f t : Nat) : List Bk := (b.take f ++ b.drop (f + 1)).take t ++ (b.drop f).take 1 ++ (b.take f ++ b.drop (f + 1)).drop t
theorem mvL_len {b : List Bk} {f t : Nat} (hf : f < b.length) (ht : t < b.length) : (mvL b f t).length = b.length := by
  unfold mvL
  simp
  omega
theorem mvL_mem {b : List Bk} {f t : Nat} {x : Bk} (h : x ∈ mvL b f t) : x ∈ b := by
  unfold mvL at h
  rw [List.mem_append, List.mem_append] at h
  rcases h with (h | h) | h
  · have := List.mem_of_mem_take h
    rw [List.mem_append] at this
    rcases this with h | h
    · exact List.mem_of_mem_take h
    · exact List.mem_of_mem_drop h
  · exact List.mem_of_mem_drop (List.mem_of_mem_take h)
  · have := List.mem_of_mem_drop h
    rw [List.mem_append] at this
    rcases this with h | h
    · exact List.mem_of_mem_take h
    · exact List.mem_of_mem_drop h

/-- What the first move is. -/
structure Slip (a b : List Bk) (R : (Int × Int) × Int) : Prop where
  h0 : scode a b ≠ 0 → R = ((0, 0), scode a b)
  h1 : scode a b = 0 → a = b → R = ((0, 0), 6)
  h2 : scode a b = 0 → a ≠ b → ∀ i j, i < b.length → j < b.length → mvL b i j = a → (∀ i' j', (i' < i ∨ i' = i ∧ j' < j) → j' < b.length → mvL b i' j' ≠ a) → R = (((i : Int), (j : Int)), 0)
  h3 : scode a b = 0 → a ≠ b → (∀ i j, i < b.length → j < b.length → mvL b i j ≠ a) → R = ((0, 0), 6)

theorem first_pair (n : Nat) (P : Nat → Nat → Prop) : (∀ i j, i < n → j < n → ¬ P i j) ∨ ∃ i j, i < n ∧ j < n ∧ P i j ∧ ∀ i' j', (i' < i ∨ i' = i ∧ j' < j) → j' < n → ¬ P i' j' := by
  have row : ∀ i q, (∀ j, j < q → ¬ P i j) ∨ ∃ j, j < q ∧ P i j ∧ ∀ j', j' < j → ¬ P i j' := by
    intro i q
    induction q with
    | zero => exact .inl fun j h => by omega
    | succ q ih =>
      rcases ih with h | ⟨j, h1, h2, h3⟩
      · by_cases hp : P i q
        · exact .inr ⟨q, by omega, hp, h⟩
        · refine .inl fun j hj => ?_
          by_cases e : j = q
          · subst e; exact hp
          · exact h j (by omega)
      · exact .inr ⟨j, by omega, h2, h3⟩
  have all : ∀ m, (∀ i j, i < m → j < n → ¬ P i j) ∨ ∃ i j, i < m ∧ j < n ∧ P i j ∧ ∀ i' j', (i' < i ∨ i' = i ∧ j' < j) → j' < n → ¬ P i' j' := by
    intro m
    induction m with
    | zero => exact .inl fun i j h => by omega
    | succ m ih =>
      rcases ih with h | ⟨i, j, h1, h2, h3, h4⟩
      · rcases row m n with h' | ⟨j, h1, h2, h3⟩
        · refine .inl fun i j hi hj => ?_
          by_cases e : i = m
          · subst e; exact h' j hj
          · exact h i j (by omega) hj
        · refine .inr ⟨m, j, by omega, h1, h2, fun i' j' hh hj' => ?_⟩
          rcases hh with hh | ⟨rfl, hh⟩
          · exact h i' j' hh hj'
          · exact h3 j' hh
      · exact .inr ⟨i, j, by omega, h2, h3, h4⟩
  exact all n

theorem slip_ex (a b : List Bk) : ∃ R, Slip a b R := by
  by_cases hc : scode a b = 0
  · by_cases he : a = b
    · exact ⟨((0, 0), 6), ⟨fun h => absurd hc h, fun _ _ => rfl, fun _ h => absurd he h, fun _ h => absurd he h⟩⟩
    · rcases first_pair b.length (fun i j => mvL b i j = a) with h | ⟨i, j, h1, h2, h3, h4⟩
      · exact ⟨((0, 0), 6), ⟨fun h => absurd hc h, fun _ _ => rfl, fun _ _ i j hi hj hm => absurd hm (h i j hi hj), fun _ _ _ => rfl⟩⟩
      · refine ⟨(((i : Int), (j : Int)), 0), ⟨fun h => absurd hc h, fun _ h => absurd h he, fun _ _ i' j' hi hj hm hn => ?_, fun _ _ hn => absurd h3 (hn i j h1 h2)⟩⟩
        rcases Nat.lt_trichotomy i i' with e | e | e
        · exact absurd h3 (hn i j (.inl e) h2)
        · subst e
          rcases Nat.lt_trichotomy j j' with e | e | e
          · exact absurd h3 (hn i j (.inr ⟨rfl, e⟩) h2)
          · subst e; rfl
          · exact absurd hm (h4 i j' (.inr ⟨rfl, e⟩) hj)
        · exact absurd hm (h4 i' j' (.inl e) hj)
  · exact ⟨((0, 0), scode a b), ⟨fun _ => rfl, fun h => absurd h hc, fun h => absurd h hc, fun h => absurd h hc⟩⟩

end Go.Proofs.YtmeejegdgfkogaaGreatDoor
