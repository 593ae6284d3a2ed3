/- Parts of a proof, in one text: B10, B11, B12, B13, B14, B15, B16, B17, B18, B19. -/
import Derived.Test.YtenknlnnnicdeaaGreatDoorMC
import Derived.Test.YtenknlnnnicdeaaGreatDoorMD
import Derived.Test.YtenknlnnnicdeaaGreatDoorMF
set_option linter.unusedVariables false

/- Contracts of the program's functions, and what follows from them. -/
set_option maxRecDepth 100000
namespace Go.Proofs.YtenknlnnnicdeaaGreatDoor
open Go Go.Av

/-! A shelf without some books. -/

noncomputable def X98 : Fx := ⟨Tryz.prog, tys, 98, Tryz.f98, [0, 1]⟩
theorem X98_ok : X98.Ok := ⟨Tryz.func98, tys_ok⟩
theorem index64_ct (l : List Int) (ex : Bool) (n : Int) (hlen : l.length ≤ 1048576) : Ct Tryz.prog 98 [.ro 1 ex (l.map i64), i64 n] (i64 (fi (fun x => x == n) l)) [] := by
  refine Ct.intro X98 X98_ok rfl rfl rfl rfl fun g hg => ?_
  repeat (refine Run.go rfl ?_)
  refine Run.loop (fun j : Nat => ⟨[(0, .ro 1 ex (l.map i64)), (1, i64 n), (7, i64 l.length), (8, i64 j)], []⟩) (fun j => j ≤ l.length ∧ j ≤ l.findIdx (fun x => x == n)) (fun j => l.length - j) 0 ⟨by omega, by omega⟩ ?_ ?_
  · refine St.Le.mk' ⟨rfl, rfl, ?_, rfl, trivial⟩ trivial
    show i64 (l.map i64).length = _
    simp
  · rintro j ⟨hj1, hj2⟩ IH
    repeat (refine Run.go rfl ?_)
    refine Run.cond rfl (fun h => ?_) (fun h => ?_)
    · have hlt : j < l.length := by simpa using h
      repeat (refine Run.go rfl ?_)
      refine Run.val rfl rfl rfl (ValOk.idx (i64 l[j]) rfl rfl rfl rfl rfl (by omega) (by simp [hlt])) rfl ?_
      repeat (refine Run.go rfl ?_)
      refine Run.cond rfl (fun h => ?_) (fun h => ?_)
      · have h : (l[j] == n) = true := by simp at h; simp [h]
        repeat (refine Run.go rfl ?_)
        refine Run.ret hg rfl ?_
        show i64 _ = _
        rw [fi_at hlt h hj2]
      · have h : (l[j] == n) = false := by simp at h; simp; omega
        repeat (refine Run.go rfl ?_)
        refine Run.of (IH (j + 1) ⟨by omega, fi_next hlt h hj2⟩ (by omega)) ⟨rfl, rfl, rfl, ?_, trivial⟩ trivial
        show i64 _ = _
        rw [wrap_i64 (by omega) (by omega)]
        rfl
    · repeat (refine Run.go rfl ?_)
      have hj : j = l.length := by simp at h; omega
      refine Run.ret hg rfl ?_
      show i64 (-1) = _
      rw [fi_none (by omega)]

noncomputable def X52 : Fx := ⟨Tryz.prog, tys, 52, Tryz.f52, [0, 1]⟩
theorem X52_ok : X52.Ok := ⟨Tryz.func52, tys_ok⟩
theorem contains64_ct (l : List Int) (ex : Bool) (n : Int) (hlen : l.length ≤ 1048576) : Ct Tryz.prog 52 [.ro 1 ex (l.map i64), i64 n] (bo (l.any fun x => x == n)) [] := by
  refine Ct.intro X52 X52_ok rfl (by kernel_rfl) rfl rfl fun g hg => ?_
  repeat (refine Run.go rfl ?_)
  refine Run.cs rfl (index64_ct l ex n hlen) rfl rfl ?_
  repeat (refine Run.go rfl ?_)
  refine Run.ret hg rfl ?_
  show bo (decide (0 ≤ fi _ _)) = _
  rw [fi_nonneg]

noncomputable def X78 : Fx := ⟨Tryz.prog, tys, 78, Tryz.f78, [0, 1]⟩
theorem X78_ok : X78.Ok := ⟨Tryz.func78, tys_ok⟩
theorem l00Has_ct (l : List Int) (ex : Bool) (n : Int) (hlen : l.length ≤ 1048576) : Ct Tryz.prog 78 [.ro 1 ex (l.map i64), i64 n] (bo (l.any fun x => x == n)) [] := by
  refine Ct.intro X78 X78_ok rfl rfl rfl rfl fun g hg => ?_
  repeat (refine Run.go rfl ?_)
  refine Run.loop (fun j : Nat => ⟨[(0, .ro 1 ex (l.map i64)), (1, i64 n), (5, i64 j)], []⟩) (fun j => j ≤ l.length ∧ (l.take j).any (fun x => x == n) = false) (fun j => l.length - j) 0 ⟨by omega, rfl⟩ ?_ ?_
  · exact St.Le.mk' ⟨rfl, rfl, rfl, trivial⟩ trivial
  rintro j ⟨hj, hany⟩ IH
  repeat (refine Run.go rfl ?_)
  refine Run.cond rfl (fun h => ?_) (fun h => ?_)
  · have hlt : j < l.length := by simpa using h
    repeat (refine Run.go rfl ?_)
    refine Run.val rfl rfl rfl (ValOk.idx (i64 l[j]) rfl rfl rfl rfl rfl (by omega) (by simp [hlt])) rfl ?_
    repeat (refine Run.go rfl ?_)
    refine Run.cond rfl (fun h => ?_) (fun h => ?_)
    · have h : (l[j] == n) = true := h
      repeat (refine Run.go rfl ?_)
      refine Run.ret hg rfl ?_
      have : l.any (fun x => x == n) = true := List.any_eq_true.mpr ⟨l[j], by simp, h⟩
      rw [this]
      rfl
    · have h : (l[j] == n) = false := h
      repeat (refine Run.go rfl ?_)
      refine Run.of (IH (j + 1) ⟨by omega, ?_⟩ (by omega)) ⟨rfl, rfl, ?_, trivial⟩ trivial
      · rw [List.take_succ_eq_append_getElem hlt, List.any_append, hany]
        simp only [List.any_cons, List.any_nil, h, Bool.or_false]
      · show i64 _ = _
        rw [wrap_i64 (by omega) (by omega)]
        rfl
  · have hj' : j = l.length := by simp at h; omega
    subst hj'
    rw [List.take_length] at hany
    repeat (refine Run.go rfl ?_)
    refine Run.ret hg rfl ?_
    rw [hany]
    rfl

def rsP (l : List Int) (j : Nat) : Bool := decide (l.getD j 0 < l.getD (j + 1) 0)
def rs (l : List Int) : Bool := (List.range (l.length - 1)).all (rsP l)

noncomputable def X48 : Fx := ⟨Tryz.prog, tys, 48, Tryz.f48, [0]⟩
theorem X48_ok : X48.Ok := ⟨Tryz.func48, tys_ok⟩
theorem rises_ct (l : List Int) (ex : Bool) (hlen : l.length ≤ 1048576) : Ct Tryz.prog 48 [.ro 1 ex (l.map i64)] (bo (rs l)) [] := by
  refine Ct.intro X48 X48_ok rfl rfl rfl rfl fun g hg => ?_
  repeat (refine Run.go rfl ?_)
  refine Run.loop (fun j : Nat => ⟨[(0, .ro 1 ex (l.map i64)), (3, i64 ((j + 1 : Nat) : Int))], []⟩) (fun j => j ≤ l.length - 1 ∧ ∀ i, i < j → rsP l i = true) (fun j => l.length - 1 - j) 0 ⟨by omega, fun i h => by omega⟩ ?_ ?_
  · exact St.Le.mk' ⟨rfl, rfl, trivial⟩ trivial
  rintro j ⟨hj, hall⟩ IH
  repeat (refine Run.go rfl ?_)
  refine Run.cond rfl (fun h => ?_) (fun h => ?_)
  · have hlt : j + 1 < l.length := by simp at h; omega
    have hp : rsP l j = decide (l[j] < l[j + 1]) := by simp [rsP, hlt, Nat.lt_of_succ_lt hlt]
    repeat (refine Run.go rfl ?_)
    refine Run.draw (by kernel_rfl) (by decide +kernel) ?_
    repeat (refine Quiet.go rfl ?_)
    rw [show IntKind.i64.wrap (((j + 1 : Nat) : Int) - 1) = (j : Int) by rw [wrap_i64 (by omega) (by omega)]; omega]
    refine Quiet.val rfl rfl (ValOk.idx (i64 l[j]) rfl rfl rfl rfl rfl (by omega) (by simp only [Int.toNat_natCast, List.getElem?_map, List.getElem?_eq_getElem (Nat.lt_of_succ_lt hlt), Option.map_some])) rfl ?_
    repeat (refine Quiet.go rfl ?_)
    refine Quiet.val rfl rfl (ValOk.idx (i64 l[j + 1]) rfl rfl rfl rfl rfl (by omega) (by simp only [Int.toNat_natCast, List.getElem?_map, List.getElem?_eq_getElem hlt, Option.map_some])) rfl ?_
    repeat (refine Quiet.go rfl ?_)
    refine Quiet.nil ?_
    repeat (refine Run.go rfl ?_)
    refine Run.cond rfl (fun h => ?_) (fun h => ?_)
    · have h : l[j + 1] ≤ l[j] := of_decide_eq_true h
      repeat (refine Run.go rfl ?_)
      refine Run.ret hg rfl ?_
      have : rs l = false := by
        rw [rs, List.all_eq_false]
        exact ⟨j, List.mem_range.mpr (by omega), by rw [hp]; simp; omega⟩
      rw [this]
      rfl
    · have h : ¬ l[j + 1] ≤ l[j] := of_decide_eq_false h
      repeat (refine Run.go rfl ?_)
      refine Run.of (IH (j + 1) ⟨by omega, fun i hi => ?_⟩ (by omega)) ⟨rfl, ?_, trivial⟩ trivial
      · by_cases e : i = j
        · rw [e, hp]; exact decide_eq_true (by omega)
        · exact hall i (by omega)
      · show i64 _ = _
        rw [wrap_i64 (by omega) (by omega)]
        rfl
  · have hj' : l.length - 1 ≤ j := by simp at h; omega
    repeat (refine Run.go rfl ?_)
    refine Run.ret hg rfl ?_
    have : rs l = true := by
      rw [rs, List.all_eq_true]
      intro i hi
      exact hall i (by have := List.mem_range.mp hi; omega)
    rw [this]
    rfl

noncomputable def X50 : Fx := ⟨Tryz.prog, tys, 50, Tryz.f50, [0, 1]⟩
theorem X50_ok : X50.Ok := ⟨Tryz.func50, tys_ok⟩
theorem without1_ct (i : Int) (l : List Bk) (ex : Bool) (hlen : l.length ≤ 1048576) : Ct Tryz.prog 50 [i64 i, .rp [.ro 8 ex (l.map bkA)] 0] (bo (inr i 0 ((l.length : Int) - 1))) [] := by
  have ew : IntKind.i64.wrap (((l.map bkA).length : Int) - 1) = (l.length : Int) - 1 := by rw [List.length_map, wrap_i64 (by omega) (by omega)]
  refine Ct.intro X50 X50_ok rfl rfl rfl rfl fun g hg => ?_
  repeat (refine Run.go rfl ?_)
  rw [ew]
  refine Run.cs rfl (within64_ct i 0 ((l.length : Int) - 1)) rfl rfl ?_
  repeat (refine Run.go rfl ?_)
  exact Run.ret hg rfl rfl

def inAll (n : Nat) (out : List Int) : Bool := out.all fun x => inr x 0 ((n : Int) - 1)
def wo (l : List Bk) (out : List Int) : Nat → List Bk
  | 0 => []
  | i + 1 => wo l out i ++ (if out.any (fun x => x == (i : Int)) then [] else [l.getD i bk0])
theorem wo_len (l : List Bk) (out : List Int) (i : Nat) : (wo l out i).length ≤ i := by
  induction i with
  | zero => exact Nat.le_refl 0
  | succ i ih =>
    unfold wo
    rw [List.length_append]
    split <;> simp <;> omega
def woRes (l : List Bk) (out : List Int) : List Bk × Int := if vBs l then (if rs out && inAll l.length out then (wo l out l.length, 0) else ([], 2)) else ([], 1)
noncomputable def X15 : Fx := ⟨Tryz.prog, tys, 15, Tryz.f15, [1]⟩
theorem X15_ok : X15.Ok := ⟨Tryz.func15, tys_ok⟩
theorem implWithoutBooks_ct (l : List Bk) (out : List Int) (e1 e2 : Bool) (hl : l.length ≤ 1048576 ∧ ∀ x ∈ l, bkRng x) (ho : out.length ≤ 1048576) : Ct Tryz.prog 15 [.ro 8 e1 (l.map bkA), .ro 1 e2 (out.map i64)] (bR (woRes l out)) [] := by
  obtain ⟨hlen, hr⟩ := hl
  refine Ct.intro X15 X15_ok rfl rfl rfl rfl fun g hg => ?_
  repeat (refine Run.go rfl ?_)
  refine Run.cs rfl (validBooks_ct l e1 hlen) rfl rfl ?_
  repeat (refine Run.go rfl ?_)
  refine Run.cond rfl (fun h => ?_) (fun h => ?_)
  · have h : vBs l = false := by simpa using h
    repeat (refine Run.go rfl ?_)
    refine Run.nilSlot 4 8 false rfl ?_
    refine Run.ret hg rfl ?_
    rw [woRes, h]
    rfl
  have hv : vBs l = true := by simpa using h
  repeat (refine Run.go rfl ?_)
  refine Run.cs rfl (rises_ct out e2 ho) rfl rfl ?_
  repeat (refine Run.go rfl ?_)
  refine Run.bool 17 rfl (fun h => ?_) (fun h => ?_)
  · have h : rs out = false := by simpa using h
    repeat (refine Run.go rfl ?_)
    refine Run.cond rfl (fun _ => ?_) (fun h => by simp at h)
    repeat (refine Run.go rfl ?_)
    refine Run.nilSlot 4 8 false rfl ?_
    refine Run.ret hg rfl ?_
    rw [woRes, hv, h]
    rfl
  have hrs : rs out = true := by simpa using h
  repeat (refine Run.go rfl ?_)
  refine Run.cs rfl (areAllW_ct out e2 _ [.ro 8 e1 (l.map bkA)] 0 (fun x => inr x 0 ((l.length : Int) - 1)) ho fun x _ => without1_ct x l e1 hlen) rfl rfl ?_
  repeat (refine Run.go rfl ?_)
  refine Run.cond rfl (fun h => ?_) (fun h => ?_)
  · have h : inAll l.length out = false := by
      have h : (!inAll l.length out) = true := h
      simpa using h
    repeat (refine Run.go rfl ?_)
    refine Run.nilSlot 4 8 false rfl ?_
    refine Run.ret hg rfl ?_
    rw [woRes, hv, hrs, h]
    rfl
  have hin : inAll l.length out = true := by
    have h : (!inAll l.length out) = false := h
    simpa using h
  repeat (refine Run.go rfl ?_)
  refine Run.nilSlot 6 8 false rfl ?_
  refine Run.loop (fun j : Nat => ⟨[(1, .ro 1 e2 (out.map i64)), (6, .own 8 false ((wo l out j).map bkA)), (23, .ro 8 e1 (l.map bkA)), (24, i64 l.length), (25, i64 j)], []⟩) (fun j => j ≤ l.length) (fun j => l.length - j) 0 (by omega) ?_ ?_
  · refine St.Le.mk' ⟨rfl, rfl, rfl, ?_, rfl, trivial⟩ trivial
    show i64 (l.map bkA).length = _
    simp
  intro j hj IH
  repeat (refine Run.go rfl ?_)
  refine Run.cond rfl (fun h => ?_) (fun h => ?_)
  · have hlt : j < l.length := by simpa using h
    have hm := wo_len l out j
    have hst : wo l out (j + 1) = wo l out j ++ (if out.any (fun x => x == (j : Int)) then [] else [l.getD j bk0]) := rfl
    rw [show l.getD j bk0 = l[j] by simp [hlt]] at hst
    repeat (refine Run.go rfl ?_)
    refine Run.val rfl rfl rfl (ValOk.idx (bkA l[j]) rfl rfl rfl rfl rfl (by omega) (by simp [hlt])) rfl ?_
    repeat (refine Run.go rfl ?_)
    refine Run.cs rfl (contains64_ct out e2 (j : Int) ho) rfl rfl ?_
    repeat (refine Run.go rfl ?_)
    refine Run.cond rfl (fun h => ?_) (fun h => ?_)
    · have h : out.any (fun x => x == (j : Int)) = false := by
        have h : (!out.any (fun x => x == (j : Int))) = true := h
        simpa only [Bool.not_eq_true'] using h
      rw [h] at hst
      repeat (refine Run.go rfl ?_)
      refine Run.buildSlice [bkA l[j]] rfl rfl rfl rfl rfl rfl rfl rfl rfl rfl rfl rfl rfl rfl ?_
      refine Run.appendo rfl rfl rfl rfl rfl rfl rfl rfl rfl rfl rfl rfl rfl rfl (by show (_ + 1) * 14 ≤ _; simp; omega) (by simp [capMax]; omega) (by decide) rfl ?_
      repeat (refine Run.go rfl ?_)
      refine Run.of (IH (j + 1) (by omega) (by omega)) ⟨rfl, ?_, rfl, rfl, ?_, trivial⟩ trivial
      · rw [hst]
        show AV.own _ _ _ = AV.own _ _ _
        simp
      · show i64 _ = _
        rw [wrap_i64 (by omega) (by omega)]
        rfl
    · have h : out.any (fun x => x == (j : Int)) = true := by
        have h : (!out.any (fun x => x == (j : Int))) = false := h
        simpa only [Bool.not_eq_false'] using h
      rw [h, if_pos rfl, List.append_nil] at hst
      repeat (refine Run.go rfl ?_)
      refine Run.of (IH (j + 1) (by omega) (by omega)) ⟨rfl, ?_, rfl, rfl, ?_, trivial⟩ trivial
      · rw [hst]
        rfl
      · show i64 _ = _
        rw [wrap_i64 (by omega) (by omega)]
        rfl
  · have hj' : j = l.length := by simp at h; omega
    subst hj'
    repeat (refine Run.go rfl ?_)
    refine Run.pack 4 rfl rfl rfl ?_
    refine Run.ret hg rfl ?_
    rw [woRes, hv, hrs, hin]
    rfl

end Go.Proofs.YtenknlnnnicdeaaGreatDoor

/- Contracts of the program's functions, and what follows from them. -/
set_option maxRecDepth 100000
namespace Go.Proofs.YtenknlnnnicdeaaGreatDoor
open Go Go.Av

/-! For each wanted book the first one that is like it and not taken. -/

def fst (n : Nat) (q : Nat → Bool) : Nat := (List.range n).findIdx q
theorem fst_le (n : Nat) (q : Nat → Bool) : fst n q ≤ n := by
  have := List.findIdx_le_length (xs := List.range n) (p := q)
  rwa [List.length_range] at this
theorem fst_at {n : Nat} {q : Nat → Bool} (h : fst n q < n) : q (fst n q) = true := by
  have h' : (List.range n).findIdx q < (List.range n).length := by rw [List.length_range]; exact h
  have := List.findIdx_getElem (w := h')
  rwa [List.getElem_range] at this
theorem fst_eq {n j : Nat} {q : Nat → Bool} (hj : j < n) (hq : q j = true) (hn : ∀ i, i < j → q i = false) : fst n q = j := by
  unfold fst
  rw [List.findIdx_eq (by rw [List.length_range]; exact hj)]
  refine ⟨by rw [List.getElem_range]; exact hq, fun i hi => ?_⟩
  rw [List.getElem_range]
  exact hn i hi
theorem fst_none {n : Nat} {q : Nat → Bool} (hn : ∀ i, i < n → q i = false) : fst n q = n := by
  have h1 := fst_le n q
  apply Classical.byContradiction
  intro hne
  have h2 := fst_at (n := n) (q := q) (by omega)
  rw [hn _ (by omega)] at h2
  cases h2

theorem fi_nums (n : Nat) (p : Int → Bool) : (if 0 ≤ fi p (nums n) then fi p (nums n) else ((nums n).length : Int)) = (fst n (fun i => p (i : Int)) : Nat) := by
  have e : (nums n).findIdx p = fst n (fun i => p (i : Int)) := by
    unfold nums fst
    rw [List.findIdx_map]
    rfl
  have hl : (nums n).length = n := by simp [nums]
  have h1 := fst_le n (fun i => p (i : Int))
  unfold fi
  rw [e, hl]
  split <;> split <;> omega

noncomputable def X112 : Fx := ⟨Tryz.prog, tys, 112, Tryz.f112, [0, 1]⟩
theorem X112_ok : X112.Ok := ⟨Tryz.func112, tys_ok⟩
theorem firstOf_ct (L : List Int) (ex : Bool) (f : Nat) (caps : List AV) (p : Int → Bool) (hlen : L.length ≤ 1048576) (hc : AV.freeL caps = true) (hf : ∀ x ∈ L, Ct Tryz.prog f ([i64 x] ++ caps) (bo (p x)) []) :
    Ct Tryz.prog 112 [.ro 1 ex (L.map i64), .fn f caps] (i64 (if 0 ≤ fi p L then fi p L else (L.length : Int))) [] := by
  refine Ct.intro X112 X112_ok rfl (by kernel_rfl) rfl rfl fun g hg => ?_
  repeat (refine Run.go rfl ?_)
  refine Run.callp rfl rfl rfl rfl rfl rfl (by simp [AV.freeL, AV.free, hc]) rfl rfl (indexI_ct L ex f caps p hlen hc hf) (by decide) (by decide) ?_
  repeat (refine Run.go rfl ?_)
  refine Run.cond rfl (fun h => ?_) (fun h => ?_)
  · have h : 0 ≤ fi p L := of_decide_eq_true h
    repeat (refine Run.go rfl ?_)
    refine Run.ret hg rfl ?_
    rw [if_pos h]
    rfl
  · have h : ¬ 0 ≤ fi p L := of_decide_eq_false h
    repeat (refine Run.go rfl ?_)
    refine Run.ret hg rfl ?_
    rw [if_neg h]
    show i64 ((L.map i64).length : Int) = _
    rw [List.length_map]

def bof (b : Bool) : AV := bo b
def isIn (out : List Int) (i : Nat) : Bool := out.any fun x => x == (i : Int)
def flg (n : Nat) (out : List Int) : List Bool := (List.range n).map (isIn out)
theorem frzBo (l : List Bool) : AV.frzL (l.map bof) = l.map bof := frzL_map (fun _ => rfl) l

noncomputable def X113 : Fx := ⟨Tryz.prog, tys, 113, Tryz.f113, [0, 1, 2, 3, 4]⟩
theorem X113_ok : X113.Ok := ⟨Tryz.func113, tys_ok⟩
theorem matched1_ct (i : Nat) (fl : List Bool) (l : List Bk) (w : Bk) (e : Bool) (f : Nat) (like : Bk → Bk → Bool) (hi : i < l.length) (hfl : fl.length = l.length) (hw : bkRng w) (hr : ∀ x ∈ l, bkRng x)
    (hf : ∀ x y, bkRng x → bkRng y → Ct Tryz.prog f [bkA x, bkA y] (bo (like x y)) []) :
    Ct Tryz.prog 113 [i64 i, .rp [.ro 1 true (fl.map bof)] 0, .rp [.fn f []] 0, .rp [.ro 8 e (l.map bkA)] 0, .rp (bkA w).cells 0] (bo (!fl.getD i false && like (l.getD i bk0) w)) [] := by
  have hif : i < fl.length := by omega
  rw [show fl.getD i false = fl[i] by simp [hif], show l.getD i bk0 = l[i] by simp [hi]]
  refine Ct.intro X113 X113_ok rfl (by kernel_rfl) rfl rfl fun g hg => ?_
  repeat (refine Run.go rfl ?_)
  refine Run.drawS ⟨[(6, bo (!fl[i] && like l[i] w))], []⟩ (by kernel_rfl) (by decide +kernel) ?_ ?_
  · repeat (refine Quiet.go rfl ?_)
    refine Quiet.val rfl rfl (ValOk.idx (bof fl[i]) rfl rfl rfl rfl rfl (by omega) (by simp [hif])) rfl ?_
    repeat (refine Quiet.go rfl ?_)
    refine Quiet.bool 12 rfl (fun h => ?_) (fun h => ?_)
    · have h : (!fl[i]) = true := h
      repeat (refine Quiet.go rfl ?_)
      refine Quiet.val rfl rfl (ValOk.idx (bkA l[i]) rfl rfl rfl rfl rfl (by omega) (by simp [hi])) rfl ?_
      repeat (refine Quiet.go rfl ?_)
      refine Quiet.cs rfl rfl rfl rfl rfl (hf l[i] w (hr _ (by simp)) hw) rfl rfl ?_
      repeat (refine Quiet.go rfl ?_)
      refine Quiet.nil (St.Le.mk' ⟨?_, trivial⟩ trivial)
      show bo (like l[i] w) = bo _
      rw [h, Bool.true_and]
    · have h : (!fl[i]) = false := h
      repeat (refine Quiet.go rfl ?_)
      refine Quiet.nil (St.Le.mk' ⟨?_, trivial⟩ trivial)
      show bo false = bo _
      rw [h, Bool.false_and]
  · repeat (refine Run.go rfl ?_)
    exact Run.ret hg rfl rfl

/-- The first book that is like w and not yet in out. -/
def mfst (l : List Bk) (like : Bk → Bk → Bool) (out : List Int) (w : Bk) : Nat := fst l.length fun i => !isIn out i && like (l.getD i bk0) w
def ms (l ws : List Bk) (like : Bk → Bk → Bool) : Nat → List Int × Bool
  | 0 => ([], true)
  | j + 1 => if (ms l ws like j).2 then (if mfst l like (ms l ws like j).1 (ws.getD j bk0) < l.length then ((ms l ws like j).1 ++ [(mfst l like (ms l ws like j).1 (ws.getD j bk0) : Int)], true) else ((ms l ws like j).1, false)) else ms l ws like j
theorem ms_succ (l ws : List Bk) (like : Bk → Bk → Bool) (j : Nat) : ms l ws like (j + 1) = if (ms l ws like j).2 then (if mfst l like (ms l ws like j).1 (ws.getD j bk0) < l.length then ((ms l ws like j).1 ++ [(mfst l like (ms l ws like j).1 (ws.getD j bk0) : Int)], true) else ((ms l ws like j).1, false)) else ms l ws like j := rfl
theorem ms_len (l ws : List Bk) (like : Bk → Bk → Bool) (j : Nat) : (ms l ws like j).1.length ≤ j ∧ ((ms l ws like j).2 = true → (ms l ws like j).1.length = j) ∧ ((ms l ws like j).2 = false → (ms l ws like j).1.length < j) := by
  induction j with
  | zero => simp [ms]
  | succ j ih =>
    obtain ⟨h1, h2, h3⟩ := ih
    rw [ms_succ]
    by_cases ht : (ms l ws like j).2 = true
    · rw [if_pos ht]
      have := h2 ht
      split
      · simp; omega
      · simp; omega
    · rw [if_neg ht]
      have hf : (ms l ws like j).2 = false := by simpa using ht
      have := h3 hf
      exact ⟨by omega, fun h => absurd h (by rw [hf]; decide), fun _ => by omega⟩
theorem ms_stop (l ws : List Bk) (like : Bk → Bk → Bool) {j : Nat} (h : (ms l ws like j).2 = false) : ∀ k, j ≤ k → ms l ws like k = ms l ws like j := by
  intro k hk
  induction k with
  | zero =>
    have : j = 0 := by omega
    subst this
    rfl
  | succ k ih =>
    by_cases e : j = k + 1
    · rw [e]
    · have := ih (by omega)
      rw [ms_succ, this, h]
      rfl
theorem fst_congr {n : Nat} {q q' : Nat → Bool} (h : ∀ i, i < n → q i = q' i) : fst n q = fst n q' := by
  have h1 := fst_le n q'
  by_cases hl : fst n q' < n
  · have h2 := fst_at hl
    refine fst_eq hl (by rw [h _ hl]; exact h2) fun i hi => ?_
    rw [h i (by omega)]
    cases hq : q' i with
    | false => rfl
    | true =>
      exfalso
      have : fst n q' ≤ i := by
        unfold fst
        apply Classical.byContradiction
        intro hc
        have := List.not_of_lt_findIdx (xs := List.range n) (p := q') (i := i) (by omega)
        rw [List.getElem_range, hq] at this
        cases this
      omega
  · have e : fst n q' = n := by omega
    rw [e]
    refine fst_none fun i hi => ?_
    rw [h i hi]
    cases hq : q' i with
    | false => rfl
    | true =>
      exfalso
      have := List.not_of_lt_findIdx (xs := List.range n) (p := q') (i := i) (by show i < fst n q'; omega)
      rw [List.getElem_range, hq] at this
      cases this
theorem flg_get {n : Nat} {out : List Int} {i : Nat} (h : i < n) : (flg n out).getD i false = isIn out i := by simp [flg, h]
theorem flg_snoc {n : Nat} {out : List Int} {a : Nat} (ha : a < n) : (flg n out).set a true = flg n (out ++ [(a : Int)]) := by
  apply List.ext_getElem?
  intro k
  rw [List.getElem?_set]
  unfold flg
  simp only [List.length_map, List.length_range, List.getElem?_map]
  by_cases hk : k < n
  · rw [List.getElem?_range hk]
    by_cases e : a = k
    · subst e
      rw [if_pos rfl, if_pos hk]
      simp [isIn]
    · rw [if_neg e]
      simp [isIn]
      omega
  · rw [if_neg (by omega), List.getElem?_eq_none (by rw [List.length_range]; omega)]
    rfl

noncomputable def X76 : Fx := ⟨Tryz.prog, tys, 76, Tryz.f76, [1, 2]⟩
theorem X76_ok : X76.Ok := ⟨Tryz.func76, tys_ok⟩
theorem matched_ct (l ws : List Bk) (e1 e2 : Bool) (f : Nat) (like : Bk → Bk → Bool) (hl : l.length ≤ 1048576 ∧ ∀ x ∈ l, bkRng x) (hw : ws.length ≤ 1048576 ∧ ∀ x ∈ ws, bkRng x)
    (hf : ∀ x y, bkRng x → bkRng y → Ct Tryz.prog f [bkA x, bkA y] (bo (like x y)) []) :
    Ct Tryz.prog 76 [.ro 8 e1 (l.map bkA), .ro 8 e2 (ws.map bkA), .fn f []] (.own 1 false ((ms l ws like ws.length).1.map i64)) [] := by
  obtain ⟨hlen, hr⟩ := hl
  obtain ⟨hwlen, hwr⟩ := hw
  refine Ct.intro X76 X76_ok rfl (by kernel_rfl) rfl rfl fun g hg => ?_
  repeat (refine Run.go rfl ?_)
  refine Run.make rfl rfl rfl rfl rfl rfl rfl rfl rfl rfl (by simp; omega) (by show _ * 1 ≤ _; simp; omega) rfl ?_
  refine Run.unpack 14 rfl rfl ?_
  repeat (refine Run.go rfl ?_)
  refine Run.nilSlot 8 1 false rfl ?_
  refine Run.loop (fun j : Nat => ⟨[(3, .bp (3, 0) 0), (5, .bp (5, 0) 0), (7, .bp (7, 0) 0), (8, .own 1 false ((ms l ws like j).1.map i64)), (15, .ro 8 e2 (ws.map bkA)), (16, i64 ws.length), (17, i64 j)], [((3, 0), .box [.ro 8 e1 (l.map bkA)]), ((5, 0), .box [.fn f []]), ((7, 0), .box [.vec (14, 0) 0 l.length]), ((14, 0), .vec 1 true ((flg l.length (ms l ws like j).1).map bof))]⟩) (fun j => j ≤ ws.length ∧ (ms l ws like j).2 = true) (fun j => ws.length - j) 0 ⟨by omega, rfl⟩ ?_ ?_
  · refine St.Le.mk' ⟨rfl, rfl, rfl, rfl, rfl, ?_, rfl, trivial⟩ ⟨rfl, rfl, ?_, ?_, trivial⟩
    · show i64 (ws.map bkA).length = _
      simp
    · show Ob.box [.vec (14, 0) 0 (List.replicate (l.map bkA).length (bof false)).length] = _
      simp
    · show Ob.vec 1 true (List.replicate (l.map bkA).length (bof false)) = _
      congr 1
      rw [List.length_map]
      apply List.ext_getElem?
      intro k
      rw [List.getElem?_replicate, List.getElem?_map, flg, List.getElem?_map]
      by_cases hk : k < l.length
      · rw [if_pos hk, List.getElem?_range hk]
        rfl
      · rw [if_neg hk, List.getElem?_eq_none (by rw [List.length_range]; omega)]
        rfl
  rintro j ⟨hj, hgo⟩ IH
  repeat (refine Run.go rfl ?_)
  refine Run.cond rfl (fun h => ?_) (fun h => ?_)
  · have hlt : j < ws.length := by simpa using h
    have hml := ms_len l ws like j
    have hst : ms l ws like (j + 1) = if mfst l like (ms l ws like j).1 ws[j] < l.length then ((ms l ws like j).1 ++ [(mfst l like (ms l ws like j).1 ws[j] : Int)], true) else ((ms l ws like j).1, false) := by
      rw [ms_succ, if_pos hgo, show ws.getD j bk0 = ws[j] by simp [hlt]]
    have hstop : (ms l ws like (j + 1)).2 = false → (ms l ws like ws.length).1 = (ms l ws like (j + 1)).1 := by
      intro hr2
      rw [ms_stop l ws like (j := j + 1) hr2 ws.length (by omega)]
    obtain ⟨out, hout⟩ : ∃ out, out = (ms l ws like j).1 := ⟨_, rfl⟩
    rw [← hout] at hst hml
    rw [← hout]
    have hwj : bkRng ws[j] := hwr _ (by simp)
    obtain ⟨w, hww⟩ : ∃ w, w = ws[j] := ⟨_, rfl⟩
    rw [← hww] at hst hwj
    have hflen : (flg l.length out).length = l.length := by simp [flg]
    have hnx : fst l.length (fun i => !((flg l.length out).getD i false) && like (l.getD i bk0) w) = mfst l like out w := by
      unfold mfst
      exact fst_congr fun i hi => by rw [flg_get hi]
    have ha := fst_le l.length (fun i => !isIn out i && like (l.getD i bk0) w)
    have ha : mfst l like out w ≤ l.length := ha
    repeat (refine Run.go rfl ?_)
    refine Run.val rfl rfl rfl (ValOk.idx (bkA w) rfl rfl rfl rfl rfl (by omega) (by simp [hlt, hww])) rfl ?_
    repeat (refine Run.go rfl ?_)
    refine Run.cs rfl (upTo_ct l.length hlen) (by show [i64 ((l.map bkA).length : Int)] = _; rw [List.length_map]) (rf64 _) ?_
    repeat (refine Run.go rfl ?_)
    refine Run.cs rfl (firstOf_ct (nums l.length) false 113 [.rp [.ro 1 true ((flg l.length out).map bof)] 0, .rp [.fn f []] 0, .rp [.ro 8 e1 (l.map bkA)] 0, .rp (bkA w).cells 0] (fun x => !((flg l.length out).getD x.toNat false) && like (l.getD x.toNat bk0) w) (by simp [nums]; omega) rfl ?_) (by rw [frz64, frzBo, decide_eq_true (by simp [flg])]; rfl) rfl ?_
    · intro x hx
      obtain ⟨i, hi, rfl⟩ : ∃ i : Nat, i < l.length ∧ x = (i : Int) := by
        unfold nums at hx
        obtain ⟨i, hi, rfl⟩ := List.mem_map.mp hx
        exact ⟨i, List.mem_range.mp hi, rfl⟩
      exact matched1_ct i (flg l.length out) l w e1 f like hi hflen hwj hr hf
    rw [fi_nums]
    rw [show fst l.length (fun i => (fun x : Int => !((flg l.length out).getD x.toNat false) && like (l.getD x.toNat bk0) w) (i : Int)) = mfst l like out w from hnx]
    generalize mfst l like out w = at' at hst ha
    repeat (refine Run.go rfl ?_)
    refine Run.cond rfl (fun h => ?_) (fun h => ?_)
    · have h : ¬ at' < l.length := by simp at h; omega
      rw [if_neg h] at hst
      repeat (refine Run.go rfl ?_)
      refine Run.pack 6 rfl rfl rfl ?_
      refine Run.ret hg rfl ?_
      rw [hstop (by rw [hst]), hst]
      rfl
    · have h : at' < l.length := by simp at h; omega
      rw [if_pos h] at hst
      have hat : ((flg l.length out).map bof)[at']? = some (bof ((flg l.length out)[at']'(by rw [hflen]; exact h))) := by
        rw [List.getElem?_map, List.getElem?_eq_getElem (by rw [hflen]; exact h)]
        rfl
      repeat (refine Run.go rfl ?_)
      refine Run.val rfl rfl rfl (ValOk.idxv rfl rfl rfl rfl rfl rfl (by omega) (by omega)) rfl ?_
      rw [show 0 + ((at' : Int)).toNat = at' by simp]
      refine Run.storee _ (bof true) rfl rfl rfl rfl rfl rfl rfl hat rfl rfl rfl ?_
      repeat (refine Run.go rfl ?_)
      refine Run.buildSlice [i64 at'] rfl rfl rfl rfl rfl rfl rfl rfl rfl rfl rfl rfl rfl rfl ?_
      refine Run.appendo rfl rfl rfl rfl rfl rfl rfl rfl rfl rfl rfl rfl rfl rfl (by show (_ + 1) * 8 ≤ _; simp; omega) (by simp [capMax]; omega) (by decide) rfl ?_
      repeat (refine Run.go rfl ?_)
      refine Run.of (IH (j + 1) ⟨by omega, by rw [hst]⟩ (by omega)) ⟨rfl, rfl, rfl, ?_, rfl, rfl, ?_, trivial⟩ ⟨rfl, rfl, rfl, ?_, trivial⟩
      · rw [hst]
        show AV.own _ _ _ = AV.own _ _ _
        simp
      · show i64 _ = _
        rw [wrap_i64 (by omega) (by omega)]
        rfl
      · rw [hst]
        show Ob.vec 1 true (((flg l.length out).map bof).set at' (bof true)) = _
        rw [← flg_snoc h, List.map_set]
  · have hj' : j = ws.length := by simp at h; omega
    subst hj'
    repeat (refine Run.go rfl ?_)
    refine Run.pack 6 rfl rfl rfl ?_
    exact Run.ret hg rfl rfl
end Go.Proofs.YtenknlnnnicdeaaGreatDoor

/- Contracts of the program's functions, and what follows from them. -/
set_option maxRecDepth 100000
namespace Go.Proofs.YtenknlnnnicdeaaGreatDoor
open Go Go.Av

/-! Where wanted books stand. -/

end Go.Proofs.YtenknlnnnicdeaaGreatDoor

/- Contracts of the program's functions, and what follows from them. -/
set_option maxRecDepth 100000
namespace Go.Proofs.YtenknlnnnicdeaaGreatDoor
open Go Go.Av

/-! The places of a shelf's books in a catalogue of the same stock. -/

def lkE (x y : Bk) : Bool := decide (x = y)
def scode (a b : List Bk) : Int := if stCode a b = 0 then (if sameP a b then 0 else 8) else stCode a b

noncomputable def X71 : Fx := ⟨Tryz.prog, tys, 71, Tryz.f71, [0, 1]⟩
theorem X71_ok : X71.Ok := ⟨Tryz.func71, tys_ok⟩
theorem l07Same_ct (a b : List Bk) (e1 e2 : Bool) (ha : a.length ≤ 1048576 ∧ ∀ x ∈ a, bkRng x) (hb : b.length ≤ 1048576 ∧ ∀ x ∈ b, bkRng x) : Ct Tryz.prog 71 [.ro 8 e1 (a.map bkA), .ro 8 e2 (b.map bkA)] (i64 (scode a b)) [] := by
  refine Ct.intro X71 X71_ok rfl rfl rfl rfl fun g hg => ?_
  repeat (refine Run.go rfl ?_)
  refine Run.cs rfl (l07Both_ct a b e1 e2 ha hb) rfl rfl ?_
  repeat (refine Run.go rfl ?_)
  refine Run.bool 11 rfl (fun h => ?_) (fun h => ?_)
  · have h : stCode a b = 0 := by simpa using h
    repeat (refine Run.go rfl ?_)
    refine Run.cs rfl (l07Stock_ct a b e1 e2 ha hb) rfl rfl ?_
    repeat (refine Run.go rfl ?_)
    refine Run.cond rfl (fun h2 => ?_) (fun h2 => ?_)
    · have h2 : sameP a b = false := by simpa using h2
      repeat (refine Run.go rfl ?_)
      refine Run.ret hg rfl ?_
      rw [scode, if_pos h, h2]
      rfl
    · have h2 : sameP a b = true := by simpa using h2
      repeat (refine Run.go rfl ?_)
      refine Run.ret hg rfl ?_
      rw [scode, if_pos h, h2]
      show i64 (stCode a b) = _
      rw [h]
      rfl
  · have h : stCode a b ≠ 0 := by simpa using h
    repeat (refine Run.go rfl ?_)
    refine Run.cond rfl (fun h2 => by simp at h2) (fun h2 => ?_)
    repeat (refine Run.go rfl ?_)
    refine Run.ret hg rfl ?_
    rw [scode, if_neg h]
    rfl

noncomputable def X75 : Fx := ⟨Tryz.prog, tys, 75, Tryz.f75, [0, 1]⟩
theorem X75_ok : X75.Ok := ⟨Tryz.func75, tys_ok⟩
theorem sameCode_ct (a b : List Bk) (e1 e2 : Bool) (ha : a.length ≤ 1048576 ∧ ∀ x ∈ a, bkRng x) (hb : b.length ≤ 1048576 ∧ ∀ x ∈ b, bkRng x) : Ct Tryz.prog 75 [.ro 8 e1 (a.map bkA), .ro 8 e2 (b.map bkA)] (i64 (scode a b)) [] := by
  refine Ct.intro X75 X75_ok rfl rfl rfl rfl fun g hg => ?_
  repeat (refine Run.go rfl ?_)
  refine Run.cs rfl (stockCode_ct a b e1 e2 ha.1 hb.1) rfl rfl ?_
  repeat (refine Run.go rfl ?_)
  refine Run.bool 11 rfl (fun h => ?_) (fun h => ?_)
  · have h : stCode a b = 0 := by simpa using h
    repeat (refine Run.go rfl ?_)
    refine Run.cs rfl (isSameStock_ct a b e1 e2 ha hb) rfl rfl ?_
    repeat (refine Run.go rfl ?_)
    refine Run.cond rfl (fun h2 => ?_) (fun h2 => ?_)
    · have h2 : sameP a b = false := by simpa using h2
      repeat (refine Run.go rfl ?_)
      refine Run.ret hg rfl ?_
      rw [scode, if_pos h, h2]
      rfl
    · have h2 : sameP a b = true := by simpa using h2
      repeat (refine Run.go rfl ?_)
      refine Run.ret hg rfl ?_
      rw [scode, if_pos h, h2]
      show i64 (stCode a b) = _
      rw [h]
      rfl
  · have h : stCode a b ≠ 0 := by simpa using h
    repeat (refine Run.go rfl ?_)
    refine Run.cond rfl (fun h2 => by simp at h2) (fun h2 => ?_)
    repeat (refine Run.go rfl ?_)
    refine Run.ret hg rfl ?_
    rw [scode, if_neg h]
    rfl

theorem scode_0 {a b : List Bk} (h : scode a b = 0) : sameP a b = true := by
  unfold scode at h
  split at h
  · split at h
    · assumption
    · cases h
  · contradiction

/-! All are found. -/

theorem countP_add {p : Nat → Bool} {k : Nat} (hk : p k = false) (n : Nat) : (List.range n).countP (fun i => p i || i == k) = (List.range n).countP p + (if k < n then 1 else 0) := by
  induction n with
  | zero => simp
  | succ n ih =>
    rw [List.range_succ, List.countP_append, List.countP_append, ih, List.countP_singleton, List.countP_singleton]
    by_cases e : n = k
    · subst e
      simp [hk]
    · have e' : (n == k) = false := by simpa using e
      rw [e', Bool.or_false]
      generalize (if p n = true then 1 else 0) = z
      by_cases h1 : k < n
      · rw [if_pos h1, if_pos (show k < n + 1 by omega)]
        omega
      · rw [if_neg h1, if_neg (show ¬ k < n + 1 by omega)]
        omega

theorem count_range (l : List Bk) (w : Bk) : (List.range l.length).countP (fun i => decide (l.getD i bk0 = w)) = l.count w := by
  suffices h : ∀ k, k ≤ l.length → (List.range k).countP (fun i => decide (l.getD i bk0 = w)) = (l.take k).count w by
    have := h l.length (Nat.le_refl _)
    rwa [List.take_length] at this
  intro k
  induction k with
  | zero => intro _; simp
  | succ k ih =>
    intro hk
    have hlt : k < l.length := hk
    rw [List.range_succ, List.countP_append, ih (by omega), count_step hlt, List.countP_singleton]
    congr 1
    rw [show l.getD k bk0 = l[k] by simp [hlt]]
    by_cases e : l[k] = w <;> simp [e]

def rcnt (a : List Bk) (out : List Int) (w : Bk) : Nat := (List.range a.length).countP fun i => isIn out i && decide (a.getD i bk0 = w)
theorem isIn_snoc (out : List Int) (k i : Nat) : isIn (out ++ [(k : Int)]) i = (isIn out i || i == k) := by
  simp only [isIn, List.any_append, List.any_cons, List.any_nil, Bool.or_false]
  congr 1
  rw [Bool.eq_iff_iff]
  simp
  omega
theorem rcnt_snoc {a : List Bk} {out : List Int} {k : Nat} (hk : k < a.length) (hno : isIn out k = false) (w : Bk) : rcnt a (out ++ [(k : Int)]) w = rcnt a out w + (if a.getD k bk0 = w then 1 else 0) := by
  unfold rcnt
  by_cases hd : a.getD k bk0 = w
  · rw [if_pos hd]
    have := countP_add (p := fun i => isIn out i && decide (a.getD i bk0 = w)) (k := k) (by simp [hno]) a.length
    rw [if_pos hk] at this
    rw [← this]
    congr 1
    funext i
    rw [isIn_snoc]
    by_cases e : i = k
    · subst e
      rw [decide_eq_true hd]
      simp
    · have e' : (i == k) = false := by simpa using e
      rw [e', Bool.or_false, Bool.or_false]
  · rw [if_neg hd, Nat.add_zero]
    congr 1
    funext i
    rw [isIn_snoc]
    by_cases e : i = k
    · subst e
      have : decide (a.getD i bk0 = w) = false := decide_eq_false hd
      rw [this, Bool.and_false, Bool.and_false]
    · have e' : (i == k) = false := by simpa using e
      rw [e', Bool.or_false]

theorem ms_all {a b : List Bk} (h : sameP a b = true) : ∀ j, j ≤ b.length → (ms a b lkE j).2 = true ∧ ∀ w, rcnt a (ms a b lkE j).1 w = (b.take j).count w := by
  obtain ⟨m1, m2⟩ := (sameP_iff a b).mp h
  have c1 := more_counts.mp m1
  have c2 := more_counts.mp m2
  intro j
  induction j with
  | zero =>
    intro _
    refine ⟨rfl, fun w => ?_⟩
    simp [ms, rcnt, isIn]
  | succ j ih =>
    intro hj
    obtain ⟨h1, h2⟩ := ih (by omega)
    have hlt : j < b.length := hj
    have e : b.getD j bk0 = b[j] := by simp [hlt]
    have hex : mfst a lkE (ms a b lkE j).1 b[j] < a.length := by
      apply Classical.byContradiction
      intro hno
      have hle := fst_le a.length (fun i => !isIn (ms a b lkE j).1 i && lkE (a.getD i bk0) b[j])
      have hall : ∀ i, i < a.length → (!isIn (ms a b lkE j).1 i && lkE (a.getD i bk0) b[j]) = false := by
        intro i hi
        have := List.not_of_lt_findIdx (xs := List.range a.length) (p := fun i => !isIn (ms a b lkE j).1 i && lkE (a.getD i bk0) b[j]) (i := i) (by
          show i < mfst a lkE (ms a b lkE j).1 b[j]
          omega)
        rw [List.getElem_range] at this
        simpa using this
      have hr : rcnt a (ms a b lkE j).1 b[j] = a.count b[j] := by
        rw [← count_range]
        unfold rcnt
        apply List.countP_congr
        intro i hi
        have := hall i (List.mem_range.mp hi)
        rw [show lkE (a.getD i bk0) b[j] = decide (a.getD i bk0 = b[j]) from rfl] at this
        generalize decide (a.getD i bk0 = b[j]) = z at this
        generalize isIn (ms a b lkE j).1 i = y at this
        revert this
        cases y <;> cases z <;> decide
      have h3 := h2 b[j]
      have h4 := count_step hlt b[j]
      rw [if_pos rfl] at h4
      have h5 := count_take_le b b[j] (j + 1)
      have h6 := c2 b[j]
      omega
    have hat := fst_at hex
    rw [ms_succ, if_pos h1, e, if_pos hex]
    refine ⟨rfl, fun w => ?_⟩
    simp only [Bool.and_eq_true, Bool.not_eq_true'] at hat
    have hka : a.getD (mfst a lkE (ms a b lkE j).1 b[j]) bk0 = b[j] := of_decide_eq_true hat.2
    rw [rcnt_snoc hex hat.1, h2, count_step hlt, hka]

def rpRes (a b : List Bk) : List Int × Int := if scode a b = 0 then ((ms a b lkE b.length).1, 0) else ([], scode a b)
theorem rpRes_len (a b : List Bk) : (rpRes a b).1.length ≤ b.length := by
  unfold rpRes
  split
  · exact (ms_len a b lkE b.length).1
  · simp

noncomputable def X77 : Fx := ⟨Tryz.prog, tys, 77, Tryz.f77, [0, 1]⟩
theorem X77_ok : X77.Ok := ⟨Tryz.func77, tys_ok⟩
theorem rightPlaces1_ct (x y : Bk) (hx : bkRng x) (hy : bkRng y) : Ct Tryz.prog 77 [bkA x, bkA y] (bo (lkE x y)) [] := by
  refine Ct.intro X77 X77_ok rfl rfl rfl rfl fun g hg => ?_
  repeat (refine Run.go rfl ?_)
  refine Run.val rfl rfl rfl (ValOk.eqK x y rfl bkK rfl rfl hx hy) rfl ?_
  repeat (refine Run.go rfl ?_)
  exact Run.ret hg rfl rfl

noncomputable def X28 : Fx := ⟨Tryz.prog, tys, 28, Tryz.f28, [0, 1]⟩
theorem X28_ok : X28.Ok := ⟨Tryz.func28, tys_ok⟩
theorem implRightPlaces_ct (a b : List Bk) (e1 e2 : Bool) (ha : a.length ≤ 1048576 ∧ ∀ x ∈ a, bkRng x) (hb : b.length ≤ 1048576 ∧ ∀ x ∈ b, bkRng x) : Ct Tryz.prog 28 [.ro 8 e1 (a.map bkA), .ro 8 e2 (b.map bkA)] (lsR (rpRes a b)) [] := by
  refine Ct.intro X28 X28_ok rfl rfl rfl rfl fun g hg => ?_
  repeat (refine Run.go rfl ?_)
  refine Run.cs rfl (sameCode_ct a b e1 e2 ha hb) rfl rfl ?_
  repeat (refine Run.go rfl ?_)
  refine Run.cond rfl (fun h => ?_) (fun h => ?_)
  · have h : scode a b ≠ 0 := by simpa using h
    repeat (refine Run.go rfl ?_)
    refine Run.nilSlot 4 1 false rfl ?_
    refine Run.ret hg rfl ?_
    rw [rpRes, if_neg h]
    rfl
  · have h : scode a b = 0 := by simpa using h
    repeat (refine Run.go rfl ?_)
    refine Run.cs rfl (matched_ct a b e1 e2 _ lkE ha hb rightPlaces1_ct) rfl (rf64 _) ?_
    repeat (refine Run.go rfl ?_)
    refine Run.ret hg rfl ?_
    rw [rpRes, if_pos h]
    rfl

noncomputable def X29 : Fx := ⟨Tryz.prog, tys, 29, Tryz.f29, [0, 1]⟩
theorem X29_ok : X29.Ok := ⟨Tryz.func29, tys_ok⟩
theorem specRightPlaces_ct (a b : List Bk) (e1 e2 : Bool) (ha : a.length ≤ 1048576 ∧ ∀ x ∈ a, bkRng x) (hb : b.length ≤ 1048576 ∧ ∀ x ∈ b, bkRng x) : Ct Tryz.prog 29 [.ro 8 e1 (a.map bkA), .ro 8 e2 (b.map bkA)] (lsR (rpRes a b)) [] := by
  obtain ⟨hal, har⟩ := ha
  obtain ⟨hbl, hbr⟩ := hb
  refine Ct.intro X29 X29_ok rfl rfl rfl rfl fun g hg => ?_
  repeat (refine Run.go rfl ?_)
  refine Run.cs rfl (l07Same_ct a b e1 e2 ⟨hal, har⟩ ⟨hbl, hbr⟩) rfl rfl ?_
  repeat (refine Run.go rfl ?_)
  refine Run.cond rfl (fun h => ?_) (fun h => ?_)
  · have h : scode a b ≠ 0 := by simpa using h
    repeat (refine Run.go rfl ?_)
    refine Run.buildSlice [] rfl rfl rfl rfl rfl rfl rfl rfl rfl rfl rfl rfl rfl rfl ?_
    repeat (refine Run.go rfl ?_)
    refine Run.loosen0 4 rfl ?_
    refine Run.ret hg rfl ?_
    rw [rpRes, if_neg h]
    rfl
  have hsc : scode a b = 0 := by simpa using h
  have hsame := scode_0 hsc
  repeat (refine Run.go rfl ?_)
  refine Run.buildSlice [] rfl rfl rfl rfl rfl rfl rfl rfl rfl rfl rfl rfl rfl rfl ?_
  repeat (refine Run.go rfl ?_)
  refine Run.loosen0 7 rfl ?_
  refine Run.loop (fun j : Nat => ⟨[(0, .ro 8 e1 (a.map bkA)), (1, .ro 8 e2 (b.map bkA)), (7, .own 1 false ((ms a b lkE j).1.map i64)), (8, i64 j)], []⟩) (fun j => j ≤ b.length) (fun j => b.length - j) 0 (by omega) ?_ ?_
  · exact St.Le.mk' ⟨rfl, rfl, rfl, rfl, trivial⟩ trivial
  intro j hj IH
  repeat (refine Run.go rfl ?_)
  refine Run.cond rfl (fun h => ?_) (fun h => ?_)
  · have hlt : j < b.length := by simpa using h
    have hml := ms_len a b lkE j
    have hgo := (ms_all hsame j hj).1
    have hgo2 := (ms_all hsame (j + 1) hlt).1
    have hst : ms a b lkE (j + 1) = if mfst a lkE (ms a b lkE j).1 b[j] < a.length then ((ms a b lkE j).1 ++ [(mfst a lkE (ms a b lkE j).1 b[j] : Int)], true) else ((ms a b lkE j).1, false) := by
      rw [ms_succ, if_pos hgo, show b.getD j bk0 = b[j] by simp [hlt]]
    obtain ⟨out, hout⟩ : ∃ out, out = (ms a b lkE j).1 := ⟨_, rfl⟩
    rw [← hout] at hst hml
    rw [← hout]
    have hwj : bkRng b[j] := hbr _ (by simp)
    obtain ⟨w, hww⟩ : ∃ w, w = b[j] := ⟨_, rfl⟩
    rw [← hww] at hst hwj
    have hex : mfst a lkE out w < a.length := by
      apply Classical.byContradiction
      intro hno
      rw [if_neg hno] at hst
      rw [hst] at hgo2
      cases hgo2
    rw [if_pos hex] at hst
    have hat := fst_at hex
    have hbef : ∀ i, i < mfst a lkE out w → (!isIn out i && lkE (a.getD i bk0) w) = false := by
      intro i hi
      have := List.not_of_lt_findIdx (xs := List.range a.length) (p := fun i => !isIn out i && lkE (a.getD i bk0) w) (i := i) hi
      rw [List.getElem_range] at this
      simpa using this
    have hat : (!isIn out (mfst a lkE out w) && lkE (a.getD (mfst a lkE out w) bk0) w) = true := hat
    generalize mfst a lkE out w = at' at hst hex hat hbef
    refine Run.unpack 7 rfl rfl ?_
    repeat (refine Run.go rfl ?_)
    refine Run.loop (fun k : Nat => ⟨[(0, .ro 8 e1 (a.map bkA)), (1, .ro 8 e2 (b.map bkA)), (7, .vec (7, 0) 0 (out.map i64).length), (8, i64 j), (9, i64 k)], [((7, 0), .vec 1 false (out.map i64))]⟩) (fun k => k ≤ at') (fun k => at' - k) 0 (by omega) ?_ ?_
    · exact St.Le.mk' ⟨rfl, rfl, rfl, rfl, rfl, trivial⟩ ⟨rfl, trivial⟩
    intro k hk IH2
    have hA : k < a.length := by omega
    have e : a.getD k bk0 = a[k] := by simp [hA]
    repeat (refine Run.go rfl ?_)
    refine Run.drawS ⟨[(0, .ro 8 e1 (a.map bkA)), (1, .ro 8 e2 (b.map bkA)), (7, .vec (7, 0) 0 (out.map i64).length), (8, i64 j), (9, i64 k), (37, bo (!decide (a[k] = w) || isIn out k))], [((7, 0), .vec 1 false (out.map i64))]⟩ (by kernel_rfl) (by decide +kernel) ?_ ?_
    · repeat (refine Quiet.go rfl ?_)
      refine Quiet.val rfl rfl (ValOk.idx (bkA a[k]) rfl rfl rfl rfl rfl (by omega) (by simp [hA])) rfl ?_
      repeat (refine Quiet.go rfl ?_)
      refine Quiet.val rfl rfl (ValOk.idx (bkA w) rfl rfl rfl rfl rfl (by omega) (by simp [hlt, hww])) rfl ?_
      repeat (refine Quiet.go rfl ?_)
      refine Quiet.val rfl rfl (ValOk.neK a[k] w rfl bkK rfl rfl (har _ (by simp)) hwj) rfl ?_
      repeat (refine Quiet.go rfl ?_)
      refine Quiet.bool 33 rfl (fun hB => ?_) (fun hB => ?_)
      · have hB : (!decide (a[k] = w)) = true := hB
        repeat (refine Quiet.go rfl ?_)
        refine Quiet.nil (St.Le.mk' ⟨rfl, rfl, rfl, rfl, rfl, ?_, trivial⟩ ⟨rfl, trivial⟩)
        show bo true = bo _
        rw [hB, Bool.true_or]
      · have hB : (!decide (a[k] = w)) = false := hB
        repeat (refine Quiet.go rfl ?_)
        refine Quiet.cs rfl rfl rfl rfl rfl (l00Has_ct out false (k : Int) (by omega)) (by rw [frz64, decide_eq_true rfl]; rfl) rfl ?_
        repeat (refine Quiet.go rfl ?_)
        refine Quiet.nil (St.Le.mk' ⟨rfl, rfl, rfl, rfl, rfl, ?_, trivial⟩ ⟨rfl, trivial⟩)
        show bo (isIn out k) = bo _
        rw [hB, Bool.false_or]
    refine Run.cond rfl (fun h => ?_) (fun h => ?_)
    · have h : (!decide (a[k] = w) || isIn out k) = true := h
      have hne : k ≠ at' := by
        rintro rfl
        rw [e] at hat
        unfold lkE at hat
        rw [Bool.and_eq_true, Bool.not_eq_true'] at hat
        rw [hat.1, hat.2] at h
        cases h
      repeat (refine Run.go rfl ?_)
      refine Run.of (IH2 (k + 1) (by omega) (by omega)) ⟨rfl, rfl, rfl, rfl, ?_, trivial⟩ ⟨rfl, trivial⟩
      show i64 _ = _
      rw [wrap_i64 (by omega) (by omega)]
      rfl
    · have h : (!decide (a[k] = w) || isIn out k) = false := h
      have heq : k = at' := by
        apply Classical.byContradiction
        intro hne
        have := hbef k (by omega)
        rw [e] at this
        unfold lkE at this
        rw [Bool.or_eq_false_iff] at h
        rw [h.2, Bool.not_false, Bool.true_and] at this
        rw [this] at h
        exact absurd h.1 (by decide)
      subst heq
      repeat (refine Run.go rfl ?_)
      refine Run.buildSlice [i64 k] rfl rfl rfl rfl rfl rfl rfl rfl rfl rfl rfl rfl rfl rfl ?_
      refine Run.appendo rfl rfl rfl rfl rfl rfl rfl rfl rfl rfl rfl rfl rfl rfl (by show (_ + 1) * 8 ≤ _; simp; omega) (by simp [capMax]; omega) (by decide) rfl ?_
      repeat (refine Run.go rfl ?_)
      refine Run.of (IH (j + 1) (by omega) (by omega)) ⟨rfl, rfl, ?_, ?_, trivial⟩ trivial
      · rw [hst]
        show AV.own _ _ _ = AV.own _ _ _
        simp
      · show i64 _ = _
        rw [wrap_i64 (by omega) (by omega)]
        rfl
  · have hj' : j = b.length := by simp at h; omega
    subst hj'
    repeat (refine Run.go rfl ?_)
    refine Run.pack 4 rfl rfl rfl ?_
    refine Run.ret hg rfl ?_
    rw [rpRes, if_pos hsc]
    rfl
end Go.Proofs.YtenknlnnnicdeaaGreatDoor

/- Contracts of the program's functions, and what follows from them. -/
set_option maxRecDepth 100000
namespace Go.Proofs.YtenknlnnnicdeaaGreatDoor
open Go Go.Av

/-! One exchange that makes the shelf of a catalogue. -/

def mvA (f t : Int) : AV := .agg [i16 f, i16 t]
def mvR (r : (Int × Int) × Int) : AV := .tup [mvA r.1.1 r.1.2, i64 r.2]

theorem take_snoc_eq {a b : List Bk} {j : Nat} (ha : j < a.length) (hb : j < b.length) (h : a.take j = b.take j) (he : a[j] = b[j]) : a.take (j + 1) = b.take (j + 1) := by
  rw [List.take_succ_eq_append_getElem ha, List.take_succ_eq_append_getElem hb, h, he]

noncomputable def X141 : Fx := ⟨Tryz.prog, tys, 141, Tryz.f141, [0, 1]⟩
theorem X141_ok : X141.Ok := ⟨Tryz.func141, tys_ok⟩
theorem eqBk_ct (a b : List Bk) (e1 e2 : Bool) (ha : a.length ≤ 1048576 ∧ ∀ x ∈ a, bkRng x) (hb : b.length ≤ 1048576 ∧ ∀ x ∈ b, bkRng x) : Ct Tryz.prog 141 [.ro 8 e1 (a.map bkA), .ro 8 e2 (b.map bkA)] (bo (decide (a = b))) [] := by
  obtain ⟨hal, har⟩ := ha
  obtain ⟨hbl, hbr⟩ := hb
  refine Ct.intro X141 X141_ok rfl (by kernel_rfl) rfl rfl fun g hg => ?_
  repeat (refine Run.go rfl ?_)
  refine Run.cond rfl (fun h => ?_) (fun h => ?_)
  · have h : a.length ≠ b.length := by
      intro e
      simp [e] at h
    repeat (refine Run.go rfl ?_)
    refine Run.ret hg rfl ?_
    rw [decide_eq_false (p := a = b) fun e => h (by rw [e])]
    rfl
  have hl : a.length = b.length := by
    simp at h
    omega
  repeat (refine Run.go rfl ?_)
  refine Run.loop (fun j : Nat => ⟨[(0, .ro 8 e1 (a.map bkA)), (1, .ro 8 e2 (b.map bkA)), (12, i64 a.length), (13, i64 j)], []⟩) (fun j => j ≤ a.length ∧ a.take j = b.take j) (fun j => a.length - j) 0 ⟨by omega, rfl⟩ ?_ ?_
  · refine St.Le.mk' ⟨rfl, rfl, ?_, rfl, trivial⟩ trivial
    show i64 _ = _
    simp
  rintro j ⟨hj, ht⟩ IH
  repeat (refine Run.go rfl ?_)
  refine Run.cond rfl (fun h => ?_) (fun h => ?_)
  · have hlt : j < a.length := by simpa using h
    have hlb : j < b.length := by omega
    repeat (refine Run.go rfl ?_)
    refine Run.drawS ⟨[(0, .ro 8 e1 (a.map bkA)), (1, .ro 8 e2 (b.map bkA)), (12, i64 a.length), (13, i64 j), (24, bo (!decide (a[j] = b[j])))], []⟩ (by kernel_rfl) (by decide +kernel) ?_ ?_
    · repeat (refine Quiet.go rfl ?_)
      refine Quiet.val rfl rfl (ValOk.idx (bkA a[j]) rfl rfl rfl rfl rfl (by omega) (by simp [hlt])) rfl ?_
      repeat (refine Quiet.go rfl ?_)
      refine Quiet.val rfl rfl (ValOk.idx (bkA b[j]) rfl rfl rfl rfl rfl (by omega) (by simp [hlb])) rfl ?_
      repeat (refine Quiet.go rfl ?_)
      refine Quiet.val rfl rfl (ValOk.neK a[j] b[j] rfl bkK rfl rfl (har _ (by simp)) (hbr _ (by simp))) rfl ?_
      exact Quiet.nil (St.Le.mk' ⟨rfl, rfl, rfl, rfl, rfl, trivial⟩ trivial)
    refine Run.cond rfl (fun h => ?_) (fun h => ?_)
    · have h : a[j] ≠ b[j] := by simpa using h
      repeat (refine Run.go rfl ?_)
      refine Run.ret hg rfl ?_
      rw [decide_eq_false (p := a = b) fun e => h (by simp only [e])]
      rfl
    · have h : a[j] = b[j] := by simpa using h
      repeat (refine Run.go rfl ?_)
      refine Run.of (IH (j + 1) ⟨by omega, take_snoc_eq hlt hlb ht h⟩ (by omega)) ⟨rfl, rfl, rfl, ?_, trivial⟩ trivial
      show i64 _ = _
      rw [wrap_i64 (by omega) (by omega)]
      rfl
  · have hj' : j = a.length := by simp at h; omega
    subst hj'
    repeat (refine Run.go rfl ?_)
    refine Run.ret hg rfl ?_
    rw [List.take_length, hl, List.take_length] at ht
    rw [decide_eq_true ht]
    rfl

noncomputable def X109 : Fx := ⟨Tryz.prog, tys, 109, Tryz.f109, [0, 1]⟩
theorem X109_ok : X109.Ok := ⟨Tryz.func109, tys_ok⟩
theorem sameBooks_ct (a b : List Bk) (e1 e2 : Bool) (ha : a.length ≤ 1048576 ∧ ∀ x ∈ a, bkRng x) (hb : b.length ≤ 1048576 ∧ ∀ x ∈ b, bkRng x) : Ct Tryz.prog 109 [.ro 8 e1 (a.map bkA), .ro 8 e2 (b.map bkA)] (bo (decide (a = b))) [] := by
  refine Ct.intro X109 X109_ok rfl rfl rfl rfl fun g hg => ?_
  repeat (refine Run.go rfl ?_)
  refine Run.cs rfl (eqBk_ct a b e1 e2 ha hb) rfl rfl ?_
  repeat (refine Run.go rfl ?_)
  exact Run.ret hg rfl rfl

theorem oneC_bk (a : List Bk) : oneC (a.map bkA) = true := by
  simp only [oneC, List.all_map, List.all_eq_true]
  intro x _
  rfl

noncomputable def X74 : Fx := ⟨Tryz.prog, tys, 74, Tryz.f74, [0]⟩
theorem X74_ok : X74.Ok := ⟨Tryz.func74, tys_ok⟩
theorem cloneBk_ct (a : List Bk) (e1 : Bool) (ha : a.length ≤ 1048576) : Ct Tryz.prog 74 [.ro 8 e1 (a.map bkA)] (.own 8 false (a.map bkA)) [] := by
  refine Ct.intro X74 X74_ok rfl (by kernel_rfl) rfl rfl fun g hg => ?_
  repeat (refine Run.go rfl ?_)
  refine Run.roNil rfl rfl rfl rfl rfl rfl rfl rfl fun b hb => ?_
  repeat (refine Run.go rfl ?_)
  refine Run.cond rfl (fun h => ?_) (fun h => ?_)
  · have hn := hb h
    repeat (refine Run.go rfl ?_)
    refine Run.nilSlot 2 8 false rfl ?_
    refine Run.ret hg rfl ?_
    rw [hn]
    rfl
  · repeat (refine Run.go rfl ?_)
    refine Run.buildSlice [] rfl rfl rfl rfl rfl rfl rfl rfl rfl rfl rfl rfl rfl rfl ?_
    refine Run.unpack 5 rfl rfl ?_
    repeat (refine Run.go rfl ?_)
    refine Run.appendr rfl rfl rfl rfl rfl rfl rfl rfl rfl rfl rfl rfl rfl (oneC_bk a) (by show (_ + _) * 14 ≤ _; simp; omega) (by simp [capMax]; omega) rfl ?_
    repeat (refine Run.go rfl ?_)
    exact Run.ret hg rfl rfl

def sw (b : List Bk) (i j : Nat) : List Bk := (b.set i (b.getD j bk0)).set j (b.getD i bk0)

noncomputable def X73 : Fx := ⟨Tryz.prog, tys, 73, Tryz.f73, [0, 1]⟩
theorem X73_ok : X73.Ok := ⟨Tryz.func73, tys_ok⟩
theorem oneSwap2_ct (b : List Bk) (e2 : Bool) (hb : b.length ≤ 60) (i j : Nat) (hi : i < b.length) (hj : j < b.length) : Ct Tryz.prog 73 [mvA i j, .rp [.ro 8 e2 (b.map bkA)] 0] (.own 8 false ((sw b i j).map bkA)) [] := by
  refine Ct.intro X73 X73_ok rfl rfl rfl rfl fun g hg => ?_
  repeat (refine Run.go rfl ?_)
  refine Run.cs rfl (cloneBk_ct b e2 (by omega)) rfl (rfB _) ?_
  repeat (refine Run.go rfl ?_)
  refine Run.unpack 4 rfl rfl ?_
  have hyi : (b.map bkA)[0 + (i : Int).toNat]? = some (bkA (b.getD i bk0)) := by simp [hi]
  have hyj : (b.map bkA)[0 + (j : Int).toNat]? = some (bkA (b.getD j bk0)) := by simp [hj]
  have hyj2 : ((b.map bkA).set (0 + (i : Int).toNat) (bkA (b.getD j bk0)))[0 + (j : Int).toNat]? = some (bkA (b.getD j bk0)) := by
    rw [List.getElem?_set]
    split
    · rename_i e
      rw [if_pos (by simpa using hi)]
    · exact hyj
  refine Run.drawI (fun D => ⟨[(4, .vec (4, 0) 0 (b.map bkA).length), (2, .bp (2, 0) 0), (7, bif D 0 then .vec (4, 0) 0 (b.map bkA).length else .top), (8, bif D 1 then .bp (2, 0) 0 else .top), (9, bif D 2 then i16 i else .top), (10, bif D 3 then .vec (4, 0) 0 (b.map bkA).length else .top), (11, bif D 4 then .bp (2, 0) 1 else .top), (12, bif D 5 then i16 j else .top), (13, bif D 6 then .vec (4, 0) 0 (b.map bkA).length else .top), (14, bif D 7 then .bp (2, 0) 1 else .top), (15, bif D 8 then i16 j else .top), (16, bif D 9 then .ep (4, 0) (0 + (j : Int).toNat) 0 else .top), (17, bif D 10 then bkA (b.getD j bk0) else .top), (18, bif D 11 then .vec (4, 0) 0 (b.map bkA).length else .top), (19, bif D 12 then .bp (2, 0) 0 else .top), (20, bif D 13 then i16 i else .top), (21, bif D 14 then .ep (4, 0) (0 + (i : Int).toNat) 0 else .top), (22, bif D 15 then bkA (b.getD i bk0) else .top), (23, bif D 16 then .ep (4, 0) (0 + (i : Int).toNat) 0 else .top), (24, bif D 18 then .ep (4, 0) (0 + (j : Int).toNat) 0 else .top)], [((2, 0), Ob.box [i16 i, i16 j]), ((4, 0), (bif D 19 then Ob.vec 8 false (((b.map bkA).set (0 + (i : Int).toNat) (bkA (b.getD j bk0))).set (0 + (j : Int).toNat) (bkA (b.getD i bk0))) else (bif D 17 then Ob.vec 8 false ((b.map bkA).set (0 + (i : Int).toNat) (bkA (b.getD j bk0))) else Ob.vec 8 false (b.map bkA))))]⟩) (by decide +kernel) (by decide +kernel) ?_ ?_ fun k' => ⟨?_, ?_, ?_, ?_, ?_, ?_, ?_, ?_, ?_, ?_, ?_, ?_, ?_, ?_, ?_, ?_, ?_, ?_, ?_, ?_, trivial⟩
  · exact St.Le.mk' ⟨rfl, rfl, rfl, rfl, rfl, rfl, rfl, rfl, rfl, rfl, rfl, rfl, rfl, rfl, rfl, rfl, rfl, rfl, rfl, rfl, trivial⟩ ⟨rfl, rfl, trivial⟩
  rotate_left
  · intro D hid h0 hp hs rest hK
    obtain ⟨d16, d17, d18, d19, -⟩ : AllD D false [16, 17, 18, 19] := ideal_sub hs (by decide +kernel)
    simp only [d16, d17, d18, d19, h0, cond_true, cond_false]
    refine Run.go rfl ?_
    refine Run.le ?_ hK
    simp only [d16, d17, d18, d19, h0, Nat.reduceBEq, Bool.false_or, Bool.true_or, cond_true, cond_false]
    exact St.Le.mk' ⟨rfl, rfl, rfl, rfl, rfl, rfl, rfl, rfl, rfl, rfl, rfl, rfl, rfl, rfl, rfl, rfl, rfl, rfl, rfl, rfl, trivial⟩ ⟨rfl, rfl, trivial⟩
  · intro D hid h0 hp hs rest hK
    obtain ⟨d2, d16, d17, d18, d19, -⟩ : AllD D false [2, 16, 17, 18, 19] := ideal_sub hs (by decide +kernel)
    simp only [d2, d16, d17, d18, d19, h0, cond_true, cond_false]
    refine Run.go rfl ?_
    refine Run.le ?_ hK
    simp only [d2, d16, d17, d18, d19, h0, Nat.reduceBEq, Bool.false_or, Bool.true_or, cond_true, cond_false]
    exact St.Le.mk' ⟨rfl, rfl, rfl, rfl, rfl, rfl, rfl, rfl, rfl, rfl, rfl, rfl, rfl, rfl, rfl, rfl, rfl, rfl, rfl, rfl, trivial⟩ ⟨rfl, rfl, trivial⟩
  · intro D hid h0 hp hs rest hK
    obtain ⟨d1, -⟩ : AllD D true [1] := ideal_sub hp (by decide +kernel)
    obtain ⟨d16, d17, d18, d19, -⟩ : AllD D false [16, 17, 18, 19] := ideal_sub hs (by decide +kernel)
    simp only [d1, d16, d17, d18, d19, h0, cond_true, cond_false]
    refine Run.go rfl ?_
    refine Run.le ?_ hK
    simp only [d1, d16, d17, d18, d19, h0, Nat.reduceBEq, Bool.false_or, Bool.true_or, cond_true, cond_false]
    exact St.Le.mk' ⟨rfl, rfl, rfl, rfl, rfl, rfl, rfl, rfl, rfl, rfl, rfl, rfl, rfl, rfl, rfl, rfl, rfl, rfl, rfl, rfl, trivial⟩ ⟨rfl, rfl, trivial⟩
  · intro D hid h0 hp hs rest hK
    obtain ⟨d18, d19, -⟩ : AllD D false [18, 19] := ideal_sub hs (by decide +kernel)
    simp only [d18, d19, h0, cond_true, cond_false]
    refine Run.go rfl ?_
    refine Run.le ?_ hK
    simp only [d18, d19, h0, Nat.reduceBEq, Bool.false_or, Bool.true_or, cond_true, cond_false]
    exact St.Le.mk' ⟨rfl, rfl, rfl, rfl, rfl, rfl, rfl, rfl, rfl, rfl, rfl, rfl, rfl, rfl, rfl, rfl, rfl, rfl, rfl, rfl, trivial⟩ ⟨rfl, rfl, trivial⟩
  · intro D hid h0 hp hs rest hK
    obtain ⟨d5, d18, d19, -⟩ : AllD D false [5, 18, 19] := ideal_sub hs (by decide +kernel)
    simp only [d5, d18, d19, h0, cond_true, cond_false]
    refine Run.go rfl ?_
    refine Run.le ?_ hK
    simp only [d5, d18, d19, h0, Nat.reduceBEq, Bool.false_or, Bool.true_or, cond_true, cond_false]
    exact St.Le.mk' ⟨rfl, rfl, rfl, rfl, rfl, rfl, rfl, rfl, rfl, rfl, rfl, rfl, rfl, rfl, rfl, rfl, rfl, rfl, rfl, rfl, trivial⟩ ⟨rfl, rfl, trivial⟩
  · intro D hid h0 hp hs rest hK
    obtain ⟨d4, -⟩ : AllD D true [4] := ideal_sub hp (by decide +kernel)
    obtain ⟨d18, d19, -⟩ : AllD D false [18, 19] := ideal_sub hs (by decide +kernel)
    simp only [d4, d18, d19, h0, cond_true, cond_false]
    refine Run.go rfl ?_
    refine Run.le ?_ hK
    simp only [d4, d18, d19, h0, Nat.reduceBEq, Bool.false_or, Bool.true_or, cond_true, cond_false]
    exact St.Le.mk' ⟨rfl, rfl, rfl, rfl, rfl, rfl, rfl, rfl, rfl, rfl, rfl, rfl, rfl, rfl, rfl, rfl, rfl, rfl, rfl, rfl, trivial⟩ ⟨rfl, rfl, trivial⟩
  · intro D hid h0 hp hs rest hK
    obtain ⟨d9, d16, d17, d18, d19, -⟩ : AllD D false [9, 16, 17, 18, 19] := ideal_sub hs (by decide +kernel)
    simp only [d9, d16, d17, d18, d19, h0, cond_true, cond_false]
    refine Run.go rfl ?_
    refine Run.le ?_ hK
    simp only [d9, d16, d17, d18, d19, h0, Nat.reduceBEq, Bool.false_or, Bool.true_or, cond_true, cond_false]
    exact St.Le.mk' ⟨rfl, rfl, rfl, rfl, rfl, rfl, rfl, rfl, rfl, rfl, rfl, rfl, rfl, rfl, rfl, rfl, rfl, rfl, rfl, rfl, trivial⟩ ⟨rfl, rfl, trivial⟩
  · intro D hid h0 hp hs rest hK
    obtain ⟨d8, d16, d17, d18, d19, -⟩ : AllD D false [8, 16, 17, 18, 19] := ideal_sub hs (by decide +kernel)
    simp only [d8, d16, d17, d18, d19, h0, cond_true, cond_false]
    refine Run.go rfl ?_
    refine Run.le ?_ hK
    simp only [d8, d16, d17, d18, d19, h0, Nat.reduceBEq, Bool.false_or, Bool.true_or, cond_true, cond_false]
    exact St.Le.mk' ⟨rfl, rfl, rfl, rfl, rfl, rfl, rfl, rfl, rfl, rfl, rfl, rfl, rfl, rfl, rfl, rfl, rfl, rfl, rfl, rfl, trivial⟩ ⟨rfl, rfl, trivial⟩
  · intro D hid h0 hp hs rest hK
    obtain ⟨d7, -⟩ : AllD D true [7] := ideal_sub hp (by decide +kernel)
    obtain ⟨d9, d16, d17, d18, d19, -⟩ : AllD D false [9, 16, 17, 18, 19] := ideal_sub hs (by decide +kernel)
    simp only [d7, d9, d16, d17, d18, d19, h0, cond_true, cond_false]
    refine Run.go rfl ?_
    refine Run.le ?_ hK
    simp only [d7, d9, d16, d17, d18, d19, h0, Nat.reduceBEq, Bool.false_or, Bool.true_or, cond_true, cond_false]
    exact St.Le.mk' ⟨rfl, rfl, rfl, rfl, rfl, rfl, rfl, rfl, rfl, rfl, rfl, rfl, rfl, rfl, rfl, rfl, rfl, rfl, rfl, rfl, trivial⟩ ⟨rfl, rfl, trivial⟩
  · intro D hid h0 hp hs rest hK
    obtain ⟨d6, d8, -⟩ : AllD D true [6, 8] := ideal_sub hp (by decide +kernel)
    obtain ⟨d10, d16, d17, d18, d19, -⟩ : AllD D false [10, 16, 17, 18, 19] := ideal_sub hs (by decide +kernel)
    have d17 : D 17 = false := ideal_no (i := 17) (j := 10) hid (by decide +kernel) d10
    simp only [d6, d8, d10, d16, d17, d18, d19, d17, h0, cond_true, cond_false]
    refine Run.val rfl rfl rfl (ValOk.idxv rfl rfl rfl rfl rfl rfl (by omega) (by simp; omega)) rfl ?_
    refine Run.le ?_ hK
    simp only [d6, d8, d10, d16, d17, d18, d19, d17, h0, Nat.reduceBEq, Bool.false_or, Bool.true_or, cond_true, cond_false]
    exact St.Le.mk' ⟨rfl, rfl, rfl, rfl, rfl, rfl, rfl, rfl, rfl, rfl, rfl, rfl, rfl, rfl, rfl, rfl, rfl, rfl, rfl, rfl, trivial⟩ ⟨rfl, rfl, trivial⟩
  · intro D hid h0 hp hs rest hK
    obtain ⟨d9, -⟩ : AllD D true [9] := ideal_sub hp (by decide +kernel)
    obtain ⟨d16, d17, d18, d19, -⟩ : AllD D false [16, 17, 18, 19] := ideal_sub hs (by decide +kernel)
    simp only [d9, d16, d17, d18, d19, h0, cond_true, cond_false]
    refine Run.val rfl rfl rfl (ValOk.loadv (bkA (b.getD j bk0)) rfl rfl rfl rfl hyj rfl) rfl ?_
    refine Run.le ?_ hK
    simp only [d9, d16, d17, d18, d19, h0, Nat.reduceBEq, Bool.false_or, Bool.true_or, cond_true, cond_false]
    exact St.Le.mk' ⟨rfl, rfl, rfl, rfl, rfl, rfl, rfl, rfl, rfl, rfl, rfl, rfl, rfl, rfl, rfl, rfl, rfl, rfl, rfl, rfl, trivial⟩ ⟨rfl, rfl, trivial⟩
  · intro D hid h0 hp hs rest hK
    obtain ⟨d14, d18, d19, -⟩ : AllD D false [14, 18, 19] := ideal_sub hs (by decide +kernel)
    simp only [d14, d18, d19, h0, cond_true, cond_false]
    refine Run.go rfl ?_
    refine Run.le ?_ hK
    simp only [d14, d18, d19, h0, Nat.reduceBEq, Bool.false_or, Bool.true_or, cond_true, cond_false]
    exact St.Le.mk' ⟨rfl, rfl, rfl, rfl, rfl, rfl, rfl, rfl, rfl, rfl, rfl, rfl, rfl, rfl, rfl, rfl, rfl, rfl, rfl, rfl, trivial⟩ ⟨rfl, rfl, trivial⟩
  · intro D hid h0 hp hs rest hK
    obtain ⟨d13, d18, d19, -⟩ : AllD D false [13, 18, 19] := ideal_sub hs (by decide +kernel)
    simp only [d13, d18, d19, h0, cond_true, cond_false]
    refine Run.go rfl ?_
    refine Run.le ?_ hK
    simp only [d13, d18, d19, h0, Nat.reduceBEq, Bool.false_or, Bool.true_or, cond_true, cond_false]
    exact St.Le.mk' ⟨rfl, rfl, rfl, rfl, rfl, rfl, rfl, rfl, rfl, rfl, rfl, rfl, rfl, rfl, rfl, rfl, rfl, rfl, rfl, rfl, trivial⟩ ⟨rfl, rfl, trivial⟩
  · intro D hid h0 hp hs rest hK
    obtain ⟨d12, -⟩ : AllD D true [12] := ideal_sub hp (by decide +kernel)
    obtain ⟨d14, d18, d19, -⟩ : AllD D false [14, 18, 19] := ideal_sub hs (by decide +kernel)
    simp only [d12, d14, d18, d19, h0, cond_true, cond_false]
    refine Run.go rfl ?_
    refine Run.le ?_ hK
    simp only [d12, d14, d18, d19, h0, Nat.reduceBEq, Bool.false_or, Bool.true_or, cond_true, cond_false]
    exact St.Le.mk' ⟨rfl, rfl, rfl, rfl, rfl, rfl, rfl, rfl, rfl, rfl, rfl, rfl, rfl, rfl, rfl, rfl, rfl, rfl, rfl, rfl, trivial⟩ ⟨rfl, rfl, trivial⟩
  · intro D hid h0 hp hs rest hK
    obtain ⟨d11, d13, -⟩ : AllD D true [11, 13] := ideal_sub hp (by decide +kernel)
    obtain ⟨d15, d18, d19, -⟩ : AllD D false [15, 18, 19] := ideal_sub hs (by decide +kernel)
    have d17 : D 17 = false := ideal_no (i := 17) (j := 15) hid (by decide +kernel) d15
    simp only [d11, d13, d15, d18, d19, d17, h0, cond_true, cond_false]
    refine Run.val rfl rfl rfl (ValOk.idxv rfl rfl rfl rfl rfl rfl (by omega) (by simp; omega)) rfl ?_
    refine Run.le ?_ hK
    simp only [d11, d13, d15, d18, d19, d17, h0, Nat.reduceBEq, Bool.false_or, Bool.true_or, cond_true, cond_false]
    exact St.Le.mk' ⟨rfl, rfl, rfl, rfl, rfl, rfl, rfl, rfl, rfl, rfl, rfl, rfl, rfl, rfl, rfl, rfl, rfl, rfl, rfl, rfl, trivial⟩ ⟨rfl, rfl, trivial⟩
  · intro D hid h0 hp hs rest hK
    obtain ⟨d14, -⟩ : AllD D true [14] := ideal_sub hp (by decide +kernel)
    obtain ⟨d16, d17, d18, d19, -⟩ : AllD D false [16, 17, 18, 19] := ideal_sub hs (by decide +kernel)
    simp only [d14, d16, d17, d18, d19, h0, cond_true, cond_false]
    refine Run.val rfl rfl rfl (ValOk.loadv (bkA (b.getD i bk0)) rfl rfl rfl rfl hyi rfl) rfl ?_
    refine Run.le ?_ hK
    simp only [d14, d16, d17, d18, d19, h0, Nat.reduceBEq, Bool.false_or, Bool.true_or, cond_true, cond_false]
    exact St.Le.mk' ⟨rfl, rfl, rfl, rfl, rfl, rfl, rfl, rfl, rfl, rfl, rfl, rfl, rfl, rfl, rfl, rfl, rfl, rfl, rfl, rfl, trivial⟩ ⟨rfl, rfl, trivial⟩
  · intro D hid h0 hp hs rest hK
    obtain ⟨d0, d1, d2, d6, d7, d8, d9, d10, d15, -⟩ : AllD D true [0, 1, 2, 6, 7, 8, 9, 10, 15] := ideal_sub hp (by decide +kernel)
    obtain ⟨d17, d18, d19, -⟩ : AllD D false [17, 18, 19] := ideal_sub hs (by decide +kernel)
    simp only [d0, d1, d2, d6, d7, d8, d9, d10, d15, d17, d18, d19, h0, cond_true, cond_false]
    refine Run.val rfl rfl rfl (ValOk.idxv rfl rfl rfl rfl rfl rfl (by omega) (by simp; omega)) rfl ?_
    refine Run.le ?_ hK
    simp only [d0, d1, d2, d6, d7, d8, d9, d10, d15, d17, d18, d19, h0, Nat.reduceBEq, Bool.false_or, Bool.true_or, cond_true, cond_false]
    exact St.Le.mk' ⟨rfl, rfl, rfl, rfl, rfl, rfl, rfl, rfl, rfl, rfl, rfl, rfl, rfl, rfl, rfl, rfl, rfl, rfl, rfl, rfl, trivial⟩ ⟨rfl, rfl, trivial⟩
  · intro D hid h0 hp hs rest hK
    obtain ⟨d0, d1, d2, d6, d7, d8, d9, d10, d15, d16, -⟩ : AllD D true [0, 1, 2, 6, 7, 8, 9, 10, 15, 16] := ideal_sub hp (by decide +kernel)
    obtain ⟨d18, d19, -⟩ : AllD D false [18, 19] := ideal_sub hs (by decide +kernel)
    simp only [d0, d1, d2, d6, d7, d8, d9, d10, d15, d16, d18, d19, h0, cond_true, cond_false]
    refine Run.storee (bkA (b.getD i bk0)) (bkA (b.getD j bk0)) rfl rfl rfl rfl rfl rfl rfl hyi rfl rfl rfl ?_
    refine Run.le ?_ hK
    simp only [d0, d1, d2, d6, d7, d8, d9, d10, d15, d16, d18, d19, h0, Nat.reduceBEq, Bool.false_or, Bool.true_or, cond_true, cond_false]
    exact St.Le.mk' ⟨rfl, rfl, rfl, rfl, rfl, rfl, rfl, rfl, rfl, rfl, rfl, rfl, rfl, rfl, rfl, rfl, rfl, rfl, rfl, rfl, trivial⟩ ⟨rfl, rfl, trivial⟩
  · intro D hid h0 hp hs rest hK
    obtain ⟨d0, d1, d2, d3, d4, d5, d6, d7, d8, d9, d10, d11, d12, d13, d14, d15, d16, d17, -⟩ : AllD D true [0, 1, 2, 3, 4, 5, 6, 7, 8, 9, 10, 11, 12, 13, 14, 15, 16, 17] := ideal_sub hp (by decide +kernel)
    obtain ⟨d19, -⟩ : AllD D false [19] := ideal_sub hs (by decide +kernel)
    simp only [d0, d1, d2, d3, d4, d5, d6, d7, d8, d9, d10, d11, d12, d13, d14, d15, d16, d17, d19, h0, cond_true, cond_false]
    refine Run.val rfl rfl rfl (ValOk.idxv rfl rfl rfl rfl rfl rfl (by omega) (by simp; omega)) rfl ?_
    refine Run.le ?_ hK
    simp only [d0, d1, d2, d3, d4, d5, d6, d7, d8, d9, d10, d11, d12, d13, d14, d15, d16, d17, d19, h0, Nat.reduceBEq, Bool.false_or, Bool.true_or, cond_true, cond_false]
    exact St.Le.mk' ⟨rfl, rfl, rfl, rfl, rfl, rfl, rfl, rfl, rfl, rfl, rfl, rfl, rfl, rfl, rfl, rfl, rfl, rfl, rfl, rfl, trivial⟩ ⟨rfl, rfl, trivial⟩
  · intro D hid h0 hp hs rest hK
    obtain ⟨d0, d1, d2, d3, d4, d5, d6, d7, d8, d9, d10, d11, d12, d13, d14, d15, d16, d17, d18, -⟩ : AllD D true [0, 1, 2, 3, 4, 5, 6, 7, 8, 9, 10, 11, 12, 13, 14, 15, 16, 17, 18] := ideal_sub hp (by decide +kernel)
    simp only [d0, d1, d2, d3, d4, d5, d6, d7, d8, d9, d10, d11, d12, d13, d14, d15, d16, d17, d18, h0, cond_true, cond_false]
    refine Run.storee (bkA (b.getD j bk0)) (bkA (b.getD i bk0)) rfl rfl rfl rfl rfl rfl rfl hyj2 rfl rfl rfl ?_
    refine Run.le ?_ hK
    simp only [d0, d1, d2, d3, d4, d5, d6, d7, d8, d9, d10, d11, d12, d13, d14, d15, d16, d17, d18, h0, Nat.reduceBEq, Bool.false_or, Bool.true_or, cond_true, cond_false]
    exact St.Le.mk' ⟨rfl, rfl, rfl, rfl, rfl, rfl, rfl, rfl, rfl, rfl, rfl, rfl, rfl, rfl, rfl, rfl, rfl, rfl, rfl, rfl, trivial⟩ ⟨rfl, rfl, trivial⟩
  repeat (refine Run.go rfl ?_)
  refine Run.pack 3 rfl rfl (by simp) ?_
  refine Run.ret hg rfl ?_
  show AV.own _ _ _ = AV.own _ _ _
  simp [sw, List.map_set]

noncomputable def X72 : Fx := ⟨Tryz.prog, tys, 72, Tryz.f72, [0]⟩
theorem X72_ok : X72.Ok := ⟨Tryz.func72, tys_ok⟩
theorem oneSwap1_ct (i : Nat) (hi : i < 1048576) : Ct Tryz.prog 72 [i64 i] (i64 ((i + 1 : Nat) : Int)) [] := by
  refine Ct.intro X72 X72_ok rfl rfl rfl rfl fun g hg => ?_
  repeat (refine Run.go rfl ?_)
  refine Run.ret hg rfl ?_
  show i64 _ = _
  rw [wrap_i64 (by omega) (by omega)]
  rfl

theorem scode_vB {a b : List Bk} (h : scode a b = 0) : a.length ≤ 60 ∧ b.length ≤ 60 := by
  have h1 : stCode a b = 0 := by
    unfold scode at h
    split at h
    · assumption
    · exact h
  unfold stCode at h1
  split at h1
  · rename_i h2
    simp only [vBs, Bool.and_eq_true, decide_eq_true_eq] at h2
    exact ⟨h2.1.1, h2.2.1⟩
  · cases h1

noncomputable def X67 : Fx := ⟨Tryz.prog, tys, 67, Tryz.f67, [0, 1, 2, 3]⟩
theorem X67_ok : X67.Ok := ⟨Tryz.func67, tys_ok⟩
theorem firstMove_ct (a b : List Bk) (e1 e2 : Bool) (fl fm : Nat) (cs : List AV) (least : Nat → Nat) (made : Nat → Nat → List Bk) (R : (Int × Int) × Int) (ha : a.length ≤ 1048576 ∧ ∀ x ∈ a, bkRng x) (hb : b.length ≤ 1048576 ∧ ∀ x ∈ b, bkRng x)
    (hl : ∀ i, i < b.length → Ct Tryz.prog fl [i64 i] (i64 (least i)) []) (hm : scode a b = 0 → ∀ i j, i < b.length → j < b.length → Ct Tryz.prog fm [mvA i j, .rp cs 0] (.own 8 false ((made i j).map bkA)) [])
    (hmr : ∀ i j, i < b.length → j < b.length → (made i j).length ≤ 1048576 ∧ ∀ x ∈ made i j, bkRng x)
    (h0 : scode a b ≠ 0 → R = ((0, 0), scode a b)) (h1 : scode a b = 0 → a = b → R = ((0, 0), 6))
    (h2 : scode a b = 0 → a ≠ b → ∀ i j, i < b.length → least i ≤ j → j < b.length → made i j = a → (∀ i' j', (i' < i ∨ i' = i ∧ j' < j) → least i' ≤ j' → j' < b.length → made i' j' ≠ a) → R = (((i : Int), (j : Int)), 0))
    (h3 : scode a b = 0 → a ≠ b → (∀ i j, i < b.length → least i ≤ j → j < b.length → made i j ≠ a) → R = ((0, 0), 6)) :
    Ct Tryz.prog 67 [.ro 8 e1 (a.map bkA), .ro 8 e2 (b.map bkA), .fn fl [], .fn fm [.rp cs 0]] (mvR R) [] := by
  refine Ct.intro X67 X67_ok rfl (by kernel_rfl) rfl rfl fun g hg => ?_
  repeat (refine Run.go rfl ?_)
  refine Run.cs rfl (sameCode_ct a b e1 e2 ha hb) rfl rfl ?_
  repeat (refine Run.go rfl ?_)
  refine Run.cond rfl (fun h => ?_) (fun h => ?_)
  · have h : scode a b ≠ 0 := by simpa using h
    repeat (refine Run.go rfl ?_)
    refine Run.val rfl rfl rfl (ValOk.build rfl rfl rfl rfl rfl) rfl ?_
    repeat (refine Run.go rfl ?_)
    refine Run.ret hg rfl ?_
    rw [h0 h]
    rfl
  have hsc : scode a b = 0 := by simpa using h
  obtain ⟨hal60, hbl60⟩ := scode_vB hsc
  repeat (refine Run.go rfl ?_)
  refine Run.cs rfl (sameBooks_ct a b e1 e2 ha hb) rfl rfl ?_
  repeat (refine Run.go rfl ?_)
  refine Run.cond rfl (fun h => ?_) (fun h => ?_)
  · have h : a = b := by simpa using h
    repeat (refine Run.go rfl ?_)
    refine Run.val rfl rfl rfl (ValOk.build rfl rfl rfl rfl rfl) rfl ?_
    repeat (refine Run.go rfl ?_)
    refine Run.ret hg rfl ?_
    rw [h1 hsc h]
    rfl
  have hne : a ≠ b := by simpa using h
  repeat (refine Run.go rfl ?_)
  refine Run.loop (fun i : Nat => ⟨[(0, .ro 8 e1 (a.map bkA)), (1, .ro 8 e2 (b.map bkA)), (2, .fn fl []), (3, .fn fm [.rp cs 0]), (8, .bp (8, 0) 0), (26, i64 b.length), (27, i64 i)], [((8, 0), .box [i16 0, i16 0])]⟩)
    (fun i => i ≤ b.length ∧ ∀ i' j', i' < i → least i' ≤ j' → j' < b.length → made i' j' ≠ a) (fun i => b.length - i) 0 ⟨by omega, fun i' j' h => by omega⟩ ?_ ?_
  · refine St.Le.mk' ⟨rfl, rfl, rfl, rfl, rfl, ?_, rfl, trivial⟩ ⟨rfl, trivial⟩
    show i64 _ = _
    simp
  rintro i ⟨hi, hno⟩ IH
  repeat (refine Run.go rfl ?_)
  refine Run.cond rfl (fun h => ?_) (fun h => ?_)
  · have hlt : i < b.length := by simpa using h
    repeat (refine Run.go rfl ?_)
    refine Run.cs rfl (hl i hlt) rfl rfl ?_
    repeat (refine Run.go rfl ?_)
    refine Run.loop (fun j : Nat => ⟨[(0, .ro 8 e1 (a.map bkA)), (1, .ro 8 e2 (b.map bkA)), (2, .fn fl []), (3, .fn fm [.rp cs 0]), (8, .bp (8, 0) 0), (26, i64 b.length), (27, i64 i), (11, i64 i), (12, i64 j)], [((8, 0), .box [i16 0, i16 0])]⟩)
      (fun j => least i ≤ j ∧ ∀ j', least i ≤ j' → j' < j → j' < b.length → made i j' ≠ a) (fun j => b.length - j) (least i) ⟨by omega, fun j' h h' => by omega⟩ ?_ ?_
    · exact St.Le.mk' ⟨rfl, rfl, rfl, rfl, rfl, rfl, rfl, rfl, rfl, trivial⟩ ⟨rfl, trivial⟩
    rintro j ⟨hlj, hnoj⟩ IH2
    repeat (refine Run.go rfl ?_)
    refine Run.cond rfl (fun h => ?_) (fun h => ?_)
    · have hjl : j < b.length := by simpa using h
      repeat (refine Run.go rfl ?_)
      refine Run.val rfl rfl rfl (ValOk.build rfl rfl rfl rfl rfl) rfl ?_
      repeat (refine Run.go rfl ?_)
      refine Run.cs rfl (hm hsc i j hlt hjl) (by rw [wrap_i16 (by omega) (by omega), wrap_i16 (by omega) (by omega)]; rfl) (rfB _) ?_
      repeat (refine Run.go rfl ?_)
      refine Run.cs rfl (sameBooks_ct (made i j) a false e1 (hmr i j hlt hjl) ha) (by rw [frzB]; rfl) rfl ?_
      repeat (refine Run.go rfl ?_)
      refine Run.cond rfl (fun h => ?_) (fun h => ?_)
      · have h : made i j = a := by simpa using h
        repeat (refine Run.go rfl ?_)
        refine Run.ret hg rfl ?_
        rw [h2 hsc hne i j hlt hlj hjl h (fun i' j' hh h3 h4 => by
          rcases hh with hh | ⟨rfl, hh⟩
          · exact hno i' j' hh h3 h4
          · exact hnoj j' h3 hh h4)]
        show AV.tup [AV.agg [i16 _, i16 _], _] = _
        rw [wrap_i16 (by omega) (by omega), wrap_i16 (by omega) (by omega)]
        rfl
      · have h : made i j ≠ a := by simpa using h
        repeat (refine Run.go rfl ?_)
        refine Run.of (IH2 (j + 1) ⟨by omega, fun j' h1 h2 h3 => ?_⟩ (by omega)) ⟨rfl, rfl, rfl, rfl, rfl, rfl, rfl, rfl, ?_, trivial⟩ ⟨rfl, trivial⟩
        · by_cases e : j' = j
          · subst e; exact h
          · exact hnoj j' h1 (by omega) h3
        · show i64 _ = _
          rw [wrap_i64 (by omega) (by omega)]
          rfl
    · have hjl : b.length ≤ j := by simpa using h
      repeat (refine Run.go rfl ?_)
      refine Run.of (IH (i + 1) ⟨by omega, fun i' j' h1 h2 h3 => ?_⟩ (by omega)) ⟨rfl, rfl, rfl, rfl, rfl, rfl, ?_, trivial⟩ ⟨rfl, trivial⟩
      · by_cases e : i' = i
        · subst e; exact hnoj j' h2 (by omega) h3
        · exact hno i' j' (by omega) h2 h3
      · show i64 _ = _
        rw [wrap_i64 (by omega) (by omega)]
        rfl
  · have hin : i = b.length := by simp at h; omega
    repeat (refine Run.go rfl ?_)
    refine Run.val rfl rfl rfl (ValOk.build rfl rfl rfl rfl rfl) rfl ?_
    repeat (refine Run.go rfl ?_)
    refine Run.ret hg rfl ?_
    rw [h3 hsc hne fun i' j' q1 q2 q3 => hno i' j' (by omega) q2 q3]
    rfl

/-! Which places differ. -/

def dfs (a b : List Bk) (j : Nat) : List Nat := (List.range j).filter fun k => !decide (b.getD k bk0 = a.getD k bk0)
def osRes (a b : List Bk) : (Int × Int) × Int := if scode a b = 0 then (match dfs a b b.length with | [i, j] => (((i : Int), (j : Int)), 0) | _ => ((0, 0), 6)) else ((0, 0), scode a b)

theorem filter_two {i j : Nat} (hij : i < j) : ∀ n, (List.range n).filter (fun k => k == i || k == j) = (if i < n then [i] else []) ++ (if j < n then [j] else []) := by
  intro n
  induction n with
  | zero => simp
  | succ n ih =>
    rw [List.range_succ, List.filter_append, ih]
    by_cases e1 : n = i
    · subst e1
      rw [if_neg (show ¬ n < n by omega), if_neg (show ¬ j < n by omega), if_pos (show n < n + 1 by omega), if_neg (show ¬ j < n + 1 by omega)]
      simp
    · by_cases e2 : n = j
      · subst e2
        rw [if_neg (show ¬ n < n by omega), if_pos (show i < n by omega), if_pos (show n < n + 1 by omega), if_pos (show i < n + 1 by omega)]
        simp
      · have h1 : (n == i || n == j) = false := by simp [e1, e2]
        have h2 : (i < n + 1) = (i < n) := by
          apply propext; omega
        have h3 : (j < n + 1) = (j < n) := by
          apply propext; omega
        simp only [List.filter_cons, h1, h2, h3, List.filter_nil]
        simp

theorem sw_get {b : List Bk} {i j k : Nat} (hi : i < b.length) (hj : j < b.length) (hij : i < j) : (sw b i j).getD k bk0 = if k = j then b.getD i bk0 else if k = i then b.getD j bk0 else b.getD k bk0 := by
  unfold sw
  rw [List.getD_eq_getElem?_getD, List.getElem?_set]
  by_cases e : k = j
  · subst e
    simp [hj]
  · rw [if_neg (Ne.symm e), if_neg e, List.getElem?_set]
    by_cases e2 : k = i
    · subst e2
      simp [hi]
    · rw [if_neg (Ne.symm e2), if_neg e2, List.getD_eq_getElem?_getD]

theorem sw_len (b : List Bk) (i j : Nat) : (sw b i j).length = b.length := by simp [sw]

theorem dfs_sw {a b : List Bk} {i j : Nat} (hi : i < b.length) (hj : j < b.length) (hij : i < j) (h : sw b i j = a) (hne : a ≠ b) : dfs a b b.length = [i, j] := by
  have hd : b.getD i bk0 ≠ b.getD j bk0 := by
    intro e
    apply hne
    rw [← h]
    apply List.ext_getElem (sw_len b i j)
    intro k h1 h2
    have := sw_get (k := k) hi hj hij
    rw [show (sw b i j).getD k bk0 = (sw b i j)[k] by simp [h1]] at this
    rw [this]
    split
    · rename_i e'
      subst e'
      rw [e]
      simp [h2]
    · split
      · rename_i e'
        subst e'
        rw [← e]
        simp [h2]
      · simp [h2]
  have := filter_two hij b.length
  rw [if_pos hi, if_pos hj] at this
  unfold dfs
  rw [← h]
  refine Eq.trans (List.filter_congr fun k hk => ?_) this
  rw [sw_get hi hj hij]
  by_cases e : k = j
  · subst e
    simp only [if_pos]
    rw [decide_eq_false (Ne.symm hd)]
    simp
  · rw [if_neg e]
    by_cases e2 : k = i
    · subst e2
      simp only [if_pos]
      rw [decide_eq_false hd]
      simp
    · rw [if_neg e2]
      simp [e, e2]

theorem perm_of_same {a b : List Bk} (h : sameP a b = true) : a.Perm b := by
  obtain ⟨m1, m2⟩ := (sameP_iff a b).mp h
  exact List.perm_iff_count.2 fun x => Nat.le_antisymm (more_counts.mp m1 x) (more_counts.mp m2 x)

theorem sw_of_dfs {a b : List Bk} {i j : Nat} (hp : a.Perm b) (h : dfs a b b.length = [i, j]) : i < b.length ∧ j < b.length ∧ i < j ∧ sw b i j = a := by
  have hl := hp.length_eq
  have hm : ∀ k, k ∈ dfs a b b.length ↔ (k < b.length ∧ b.getD k bk0 ≠ a.getD k bk0) := by
    intro k
    simp [dfs]
  rw [h] at hm
  obtain ⟨hi, hdi⟩ := (hm i).1 (by simp)
  obtain ⟨hj, hdj⟩ := (hm j).1 (by simp)
  have hij : i < j := by
    have hs : (dfs a b b.length).Pairwise (· < ·) := List.Pairwise.filter _ List.pairwise_lt_range
    rw [h] at hs
    simpa using hs
  refine ⟨hi, hj, hij, ?_⟩
  have hoth : ∀ k, k < b.length → k ≠ i → k ≠ j → b.getD k bk0 = a.getD k bk0 := by
    intro k hk h1 h2
    apply Classical.byContradiction
    intro h3
    have := (hm k).2 ⟨hk, h3⟩
    simp [h1, h2] at this
  have hae : a = (b.set i (a.getD i bk0)).set j (a.getD j bk0) := by
    apply List.ext_getElem (by simpa using hl)
    intro k h1 h2
    rw [List.getElem_set, List.getElem_set]
    by_cases e : j = k
    · subst e
      rw [if_pos rfl]
      simp [h1]
    · rw [if_neg e]
      by_cases e2 : i = k
      · subst e2
        rw [if_pos rfl]
        simp [h1]
      · rw [if_neg e2]
        have := hoth k (by omega) (Ne.symm e2) (Ne.symm e)
        rw [show b.getD k bk0 = b[k]'(by omega) by simp [show k < b.length by omega], show a.getD k bk0 = a[k] by simp [h1]] at this
        exact this.symm
  have hc : ∀ w, a.count w = b.count w := fun w => hp.count_eq w
  have hcs : ∀ w, b.count w + (if a.getD i bk0 = w then 1 else 0) + (if a.getD j bk0 = w then 1 else 0) = a.count w + (if b.getD i bk0 = w then 1 else 0) + (if b.getD j bk0 = w then 1 else 0) := by
    intro w
    have e1 := List.count_set (b := w) (a := a.getD j bk0) (l := b.set i (a.getD i bk0)) (i := j) (by simpa using hj)
    have e2 := List.count_set (b := w) (a := a.getD i bk0) (l := b) (i := i) hi
    rw [← hae] at e1
    have e3 : (b.set i (a.getD i bk0))[j]'(by simpa using hj) = b.getD j bk0 := by
      rw [List.getElem_set, if_neg (by omega)]
      simp [hj]
    rw [e3] at e1
    have e4 : b[i] = b.getD i bk0 := by simp [hi]
    rw [e4] at e2
    simp only [beq_iff_eq] at e1 e2
    have p1 : (if b.getD i bk0 = w then 1 else 0) ≤ b.count w := by
      split
      · rename_i e
        rw [← e4] at e
        exact List.count_pos_iff.2 (e ▸ List.getElem_mem hi)
      · omega
    have p2 : (if b.getD j bk0 = w then 1 else 0) ≤ (b.set i (a.getD i bk0)).count w := by
      split
      · rename_i e
        rw [← e3] at e
        exact List.count_pos_iff.2 (e ▸ List.getElem_mem _)
      · omega
    omega
  have q1 : b.getD j bk0 = a.getD i bk0 := by
    have := hcs (a.getD i bk0)
    rw [hc, if_pos rfl, if_neg hdi] at this
    apply Classical.byContradiction
    intro hn
    rw [if_neg hn] at this
    omega
  have q2 : b.getD i bk0 = a.getD j bk0 := by
    have := hcs (a.getD j bk0)
    rw [hc, if_pos (rfl : a.getD j bk0 = a.getD j bk0), if_neg hdj] at this
    apply Classical.byContradiction
    intro hn
    rw [if_neg hn] at this
    omega
  rw [sw, q1, q2]
  exact hae.symm

noncomputable def X25 : Fx := ⟨Tryz.prog, tys, 25, Tryz.f25, [0, 1]⟩
theorem X25_ok : X25.Ok := ⟨Tryz.func25, tys_ok⟩
theorem implOneSwap_ct (a b : List Bk) (e1 e2 : Bool) (ha : a.length ≤ 1048576 ∧ ∀ x ∈ a, bkRng x) (hb : b.length ≤ 1048576 ∧ ∀ x ∈ b, bkRng x) : Ct Tryz.prog 25 [.ro 8 e1 (a.map bkA), .ro 8 e2 (b.map bkA)] (mvR (osRes a b)) [] := by
  refine Ct.intro X25 X25_ok rfl rfl rfl rfl fun g hg => ?_
  iterate 4 (refine Run.go rfl ?_)
  refine Run.freezeBox 3 (3, 0) [.ro 8 e2 (b.map bkA)] rfl rfl rfl rfl ?_
  repeat (refine Run.go rfl ?_)
  refine Run.cs rfl (firstMove_ct a b e1 e2 _ _ [.ro 8 e2 (b.map bkA)] (fun i => i + 1) (sw b) (osRes a b) ha hb (fun i hi => oneSwap1_ct i (by omega)) (fun hs i j hi hj => oneSwap2_ct b e2 (scode_vB hs).2 i j hi hj) ?_ ?_ ?_ ?_ ?_) rfl rfl ?_
  · intro i j hi hj
    refine ⟨by rw [sw_len]; exact hb.1, fun x hx => ?_⟩
    unfold sw at hx
    rcases List.mem_or_eq_of_mem_set hx with hx | rfl
    · rcases List.mem_or_eq_of_mem_set hx with hx | rfl
      · exact hb.2 x hx
      · exact hb.2 _ (by simp [hj])
    · exact hb.2 _ (by simp [hi])
  · intro h
    rw [osRes, if_neg h]
  · rintro h rfl
    rw [osRes, if_pos h]
    have : dfs a a a.length = [] := by simp [dfs]
    rw [this]
  · intro h hne i j hi hlj hj hs _
    rw [osRes, if_pos h, dfs_sw hi hj (by omega) hs hne]
  · intro h hne hno
    rw [osRes, if_pos h]
    split
    · rename_i i j hd
      obtain ⟨h1, h2, h3, h4⟩ := sw_of_dfs (perm_of_same (scode_0 h)) hd
      exact absurd h4 (hno i j h1 h3 h2)
    · rfl
  repeat (refine Run.go rfl ?_)
  exact Run.ret hg rfl rfl

noncomputable def X26 : Fx := ⟨Tryz.prog, tys, 26, Tryz.f26, [0, 1]⟩
theorem X26_ok : X26.Ok := ⟨Tryz.func26, tys_ok⟩
theorem specOneSwap_ct (a b : List Bk) (e1 e2 : Bool) (ha : a.length ≤ 1048576 ∧ ∀ x ∈ a, bkRng x) (hb : b.length ≤ 1048576 ∧ ∀ x ∈ b, bkRng x) : Ct Tryz.prog 26 [.ro 8 e1 (a.map bkA), .ro 8 e2 (b.map bkA)] (mvR (osRes a b)) [] := by
  refine Ct.intro X26 X26_ok rfl rfl rfl rfl fun g hg => ?_
  repeat (refine Run.go rfl ?_)
  refine Run.cs rfl (l07Same_ct a b e1 e2 ha hb) rfl rfl ?_
  repeat (refine Run.go rfl ?_)
  refine Run.cond rfl (fun h => ?_) (fun h => ?_)
  · have h : scode a b ≠ 0 := by simpa using h
    repeat (refine Run.go rfl ?_)
    refine Run.val rfl rfl rfl (ValOk.build rfl rfl rfl rfl rfl) rfl ?_
    repeat (refine Run.go rfl ?_)
    refine Run.ret hg rfl ?_
    rw [osRes, if_neg h]
    rfl
  have hsc : scode a b = 0 := by simpa using h
  have hll := (perm_of_same (scode_0 hsc)).length_eq
  have hb60 := (scode_vB hsc).2
  repeat (refine Run.go rfl ?_)
  refine Run.buildSlice [] rfl rfl rfl rfl rfl rfl rfl rfl rfl rfl rfl rfl rfl rfl ?_
  repeat (refine Run.go rfl ?_)
  refine Run.loosen0 7 rfl ?_
  refine Run.loop (fun j : Nat => ⟨[(0, .ro 8 e1 (a.map bkA)), (1, .ro 8 e2 (b.map bkA)), (4, .bp (4, 0) 0), (7, .own 1 false ((dfs a b j).map fun k : Nat => i64 k)), (8, i64 j)], [((4, 0), .box [i16 0, i16 0])]⟩) (fun j => j ≤ b.length) (fun j => b.length - j) 0 (by omega) ?_ ?_
  · exact St.Le.mk' ⟨rfl, rfl, rfl, rfl, rfl, trivial⟩ ⟨rfl, trivial⟩
  intro j hj IH
  repeat (refine Run.go rfl ?_)
  refine Run.cond rfl (fun h => ?_) (fun h => ?_)
  · have hlt : j < b.length := by simpa using h
    have hla : j < a.length := by omega
    have hstep : dfs a b (j + 1) = dfs a b j ++ (if b[j] = a[j] then [] else [j]) := by
      unfold dfs
      rw [List.range_succ, List.filter_append]
      congr 1
      rw [show List.filter (fun k => !decide (b.getD k bk0 = a.getD k bk0)) [j] = if (!decide (b.getD j bk0 = a.getD j bk0)) = true then [j] else [] from by simp only [List.filter_cons, List.filter_nil]]
      rw [show b.getD j bk0 = b[j] by simp [hlt], show a.getD j bk0 = a[j] by simp [hla]]
      by_cases e : b[j] = a[j] <;> simp [e]
    have hdl : (dfs a b j).length ≤ j := by
      unfold dfs
      refine Nat.le_trans (List.length_filter_le _ _) ?_
      simp
    generalize dfs a b j = D at hdl hstep
    repeat (refine Run.go rfl ?_)
    refine Run.drawS ⟨[(0, .ro 8 e1 (a.map bkA)), (1, .ro 8 e2 (b.map bkA)), (4, .bp (4, 0) 0), (7, .own 1 false (D.map fun k : Nat => i64 k)), (8, i64 j), (31, bo (!decide (b[j] = a[j])))], [((4, 0), .box [i16 0, i16 0])]⟩ (by kernel_rfl) (by decide +kernel) ?_ ?_
    · repeat (refine Quiet.go rfl ?_)
      refine Quiet.val rfl rfl (ValOk.idx (bkA b[j]) rfl rfl rfl rfl rfl (by omega) (by simp [hlt])) rfl ?_
      repeat (refine Quiet.go rfl ?_)
      refine Quiet.val rfl rfl (ValOk.idx (bkA a[j]) rfl rfl rfl rfl rfl (by omega) (by simp [hla])) rfl ?_
      repeat (refine Quiet.go rfl ?_)
      refine Quiet.val rfl rfl (ValOk.neK b[j] a[j] rfl bkK rfl rfl (hb.2 _ (by simp)) (ha.2 _ (by simp))) rfl ?_
      exact Quiet.nil (St.Le.mk' ⟨rfl, rfl, rfl, rfl, rfl, rfl, trivial⟩ ⟨rfl, trivial⟩)
    refine Run.cond rfl (fun h => ?_) (fun h => ?_)
    · have h : b[j] ≠ a[j] := by simpa using h
      rw [if_neg h] at hstep
      refine Run.unpack 7 rfl rfl ?_
      repeat (refine Run.go rfl ?_)
      refine Run.buildSlice [i64 j] rfl rfl rfl rfl rfl rfl rfl rfl rfl rfl rfl rfl rfl rfl ?_
      refine Run.appendo rfl rfl rfl rfl rfl rfl rfl rfl rfl rfl rfl rfl rfl rfl (by show (_ + 1) * 8 ≤ _; simp; omega) (by simp [capMax]; omega) (by decide) rfl ?_
      repeat (refine Run.go rfl ?_)
      refine Run.of (IH (j + 1) (by omega) (by omega)) ⟨rfl, rfl, rfl, ?_, ?_, trivial⟩ ⟨rfl, trivial⟩
      · rw [hstep]
        show AV.own _ _ _ = AV.own _ _ _
        simp
      · show i64 _ = _
        rw [wrap_i64 (by omega) (by omega)]
        rfl
    · have h : b[j] = a[j] := by simpa using h
      rw [if_pos h, List.append_nil] at hstep
      repeat (refine Run.go rfl ?_)
      refine Run.of (IH (j + 1) (by omega) (by omega)) ⟨rfl, rfl, rfl, ?_, ?_, trivial⟩ ⟨rfl, trivial⟩
      · rw [hstep]
        rfl
      · show i64 _ = _
        rw [wrap_i64 (by omega) (by omega)]
        rfl
  · have hj' : j = b.length := by simp at h; omega
    subst hj'
    have hR : osRes a b = (match dfs a b b.length with | [i, j] => (((i : Int), (j : Int)), 0) | _ => ((0, 0), 6)) := by rw [osRes, if_pos hsc]
    have hlim : ∀ k ∈ dfs a b b.length, k < b.length := fun k hk => by
      simp [dfs] at hk
      exact hk.1
    rw [hR] at hg
    generalize dfs a b b.length = D at hlim hg
    repeat (refine Run.go rfl ?_)
    refine Run.cond rfl (fun h => ?_) (fun h => ?_)
    · have h : D.length ≠ 2 := by
        intro e
        simp [e] at h
      repeat (refine Run.go rfl ?_)
      refine Run.val rfl rfl rfl (ValOk.build rfl rfl rfl rfl rfl) rfl ?_
      repeat (refine Run.go rfl ?_)
      refine Run.ret hg rfl ?_
      split
      · exact absurd rfl h
      · rfl
    have h : D.length = 2 := by
      simp at h
      omega
    obtain ⟨x, y, rfl⟩ : ∃ x y, D = [x, y] := by
      match D, h with
      | [x, y], _ => exact ⟨x, y, rfl⟩
    have hx := hlim x (by simp)
    have hy := hlim y (by simp)
    repeat (refine Run.go rfl ?_)
    obtain ⟨p, hp⟩ : ∃ p : Int, p = x := ⟨_, rfl⟩
    obtain ⟨q, hq⟩ : ∃ q : Int, q = y := ⟨_, rfl⟩
    simp only [List.map_cons, List.map_nil, ← hp, ← hq]
    refine Run.drawI (fun D => ⟨[(4, .bp (4, 0) 0), (7, .vec (7, 0) 0 2), (40, bif D 0 then .vec (7, 0) 0 2 else .top), (41, bif D 1 then .ep (7, 0) 0 0 else .top), (42, bif D 2 then i64 p else .top), (43, bif D 3 then i16 (IntKind.i16.wrap p) else .top), (44, bif D 4 then .vec (7, 0) 0 2 else .top), (45, bif D 5 then .ep (7, 0) 1 0 else .top), (46, bif D 6 then i64 q else .top), (47, bif D 7 then i16 (IntKind.i16.wrap q) else .top), (48, bif D 8 then mvA (IntKind.i16.wrap p) (IntKind.i16.wrap q) else .top), (5, bif D 10 then i64 0 else .top)], [((4, 0), (bif D 9 then Ob.box [i16 (IntKind.i16.wrap p), i16 (IntKind.i16.wrap q)] else Ob.box [i16 0, i16 0])), ((7, 0), Ob.vec 1 false [i64 p, i64 q])]⟩) (by decide +kernel) (by decide +kernel) ?_ ?_ fun k' => ⟨?_, ?_, ?_, ?_, ?_, ?_, ?_, ?_, ?_, ?_, ?_, trivial⟩
    · exact St.Le.mk' ⟨rfl, rfl, rfl, rfl, rfl, rfl, rfl, rfl, rfl, rfl, rfl, rfl, trivial⟩ ⟨rfl, rfl, trivial⟩
    rotate_left
    · intro D hid h0 hp hs rest hK
      obtain ⟨d1, d9, d10, -⟩ : AllD D false [1, 9, 10] := ideal_sub hs (by decide +kernel)
      simp only [d1, d9, d10, h0, cond_true, cond_false]
      refine Run.go rfl ?_
      refine Run.le ?_ hK
      simp only [d1, d9, d10, h0, Nat.reduceBEq, Bool.false_or, Bool.true_or, cond_true, cond_false]
      exact St.Le.mk' ⟨rfl, rfl, rfl, rfl, rfl, rfl, rfl, rfl, rfl, rfl, rfl, rfl, trivial⟩ ⟨rfl, rfl, trivial⟩
    · intro D hid h0 hp hs rest hK
      obtain ⟨d0, -⟩ : AllD D true [0] := ideal_sub hp (by decide +kernel)
      obtain ⟨d2, d9, d10, -⟩ : AllD D false [2, 9, 10] := ideal_sub hs (by decide +kernel)
      simp only [d0, d2, d9, d10, h0, cond_true, cond_false]
      refine Run.val rfl rfl rfl (ValOk.idxv rfl rfl rfl rfl rfl rfl (by omega) (by decide)) rfl ?_
      refine Run.le ?_ hK
      simp only [d0, d2, d9, d10, h0, Nat.reduceBEq, Bool.false_or, Bool.true_or, cond_true, cond_false]
      exact St.Le.mk' ⟨rfl, rfl, rfl, rfl, rfl, rfl, rfl, rfl, rfl, rfl, rfl, rfl, trivial⟩ ⟨rfl, rfl, trivial⟩
    · intro D hid h0 hp hs rest hK
      obtain ⟨d1, -⟩ : AllD D true [1] := ideal_sub hp (by decide +kernel)
      obtain ⟨d3, d9, d10, -⟩ : AllD D false [3, 9, 10] := ideal_sub hs (by decide +kernel)
      simp only [d1, d3, d9, d10, h0, cond_true, cond_false]
      refine Run.val rfl rfl rfl (ValOk.loadv (i64 p) rfl rfl rfl rfl rfl rfl) rfl ?_
      refine Run.le ?_ hK
      simp only [d1, d3, d9, d10, h0, Nat.reduceBEq, Bool.false_or, Bool.true_or, cond_true, cond_false]
      exact St.Le.mk' ⟨rfl, rfl, rfl, rfl, rfl, rfl, rfl, rfl, rfl, rfl, rfl, rfl, trivial⟩ ⟨rfl, rfl, trivial⟩
    · intro D hid h0 hp hs rest hK
      obtain ⟨d2, -⟩ : AllD D true [2] := ideal_sub hp (by decide +kernel)
      obtain ⟨d8, d9, d10, -⟩ : AllD D false [8, 9, 10] := ideal_sub hs (by decide +kernel)
      simp only [d2, d8, d9, d10, h0, cond_true, cond_false]
      refine Run.go rfl ?_
      refine Run.le ?_ hK
      simp only [d2, d8, d9, d10, h0, Nat.reduceBEq, Bool.false_or, Bool.true_or, cond_true, cond_false]
      exact St.Le.mk' ⟨rfl, rfl, rfl, rfl, rfl, rfl, rfl, rfl, rfl, rfl, rfl, rfl, trivial⟩ ⟨rfl, rfl, trivial⟩
    · intro D hid h0 hp hs rest hK
      obtain ⟨d5, d9, d10, -⟩ : AllD D false [5, 9, 10] := ideal_sub hs (by decide +kernel)
      simp only [d5, d9, d10, h0, cond_true, cond_false]
      refine Run.go rfl ?_
      refine Run.le ?_ hK
      simp only [d5, d9, d10, h0, Nat.reduceBEq, Bool.false_or, Bool.true_or, cond_true, cond_false]
      exact St.Le.mk' ⟨rfl, rfl, rfl, rfl, rfl, rfl, rfl, rfl, rfl, rfl, rfl, rfl, trivial⟩ ⟨rfl, rfl, trivial⟩
    · intro D hid h0 hp hs rest hK
      obtain ⟨d4, -⟩ : AllD D true [4] := ideal_sub hp (by decide +kernel)
      obtain ⟨d6, d9, d10, -⟩ : AllD D false [6, 9, 10] := ideal_sub hs (by decide +kernel)
      simp only [d4, d6, d9, d10, h0, cond_true, cond_false]
      refine Run.val rfl rfl rfl (ValOk.idxv rfl rfl rfl rfl rfl rfl (by omega) (by decide)) rfl ?_
      refine Run.le ?_ hK
      simp only [d4, d6, d9, d10, h0, Nat.reduceBEq, Bool.false_or, Bool.true_or, cond_true, cond_false]
      exact St.Le.mk' ⟨rfl, rfl, rfl, rfl, rfl, rfl, rfl, rfl, rfl, rfl, rfl, rfl, trivial⟩ ⟨rfl, rfl, trivial⟩
    · intro D hid h0 hp hs rest hK
      obtain ⟨d5, -⟩ : AllD D true [5] := ideal_sub hp (by decide +kernel)
      obtain ⟨d7, d9, d10, -⟩ : AllD D false [7, 9, 10] := ideal_sub hs (by decide +kernel)
      simp only [d5, d7, d9, d10, h0, cond_true, cond_false]
      refine Run.val rfl rfl rfl (ValOk.loadv (i64 q) rfl rfl rfl rfl rfl rfl) rfl ?_
      refine Run.le ?_ hK
      simp only [d5, d7, d9, d10, h0, Nat.reduceBEq, Bool.false_or, Bool.true_or, cond_true, cond_false]
      exact St.Le.mk' ⟨rfl, rfl, rfl, rfl, rfl, rfl, rfl, rfl, rfl, rfl, rfl, rfl, trivial⟩ ⟨rfl, rfl, trivial⟩
    · intro D hid h0 hp hs rest hK
      obtain ⟨d6, -⟩ : AllD D true [6] := ideal_sub hp (by decide +kernel)
      obtain ⟨d8, d9, d10, -⟩ : AllD D false [8, 9, 10] := ideal_sub hs (by decide +kernel)
      simp only [d6, d8, d9, d10, h0, cond_true, cond_false]
      refine Run.go rfl ?_
      refine Run.le ?_ hK
      simp only [d6, d8, d9, d10, h0, Nat.reduceBEq, Bool.false_or, Bool.true_or, cond_true, cond_false]
      exact St.Le.mk' ⟨rfl, rfl, rfl, rfl, rfl, rfl, rfl, rfl, rfl, rfl, rfl, rfl, trivial⟩ ⟨rfl, rfl, trivial⟩
    · intro D hid h0 hp hs rest hK
      obtain ⟨d3, d7, -⟩ : AllD D true [3, 7] := ideal_sub hp (by decide +kernel)
      obtain ⟨d9, d10, -⟩ : AllD D false [9, 10] := ideal_sub hs (by decide +kernel)
      simp only [d3, d7, d9, d10, h0, cond_true, cond_false]
      refine Run.val rfl rfl rfl (ValOk.build rfl rfl rfl rfl rfl) rfl ?_
      refine Run.le ?_ hK
      simp only [d3, d7, d9, d10, h0, Nat.reduceBEq, Bool.false_or, Bool.true_or, cond_true, cond_false]
      exact St.Le.mk' ⟨rfl, rfl, rfl, rfl, rfl, rfl, rfl, rfl, rfl, rfl, rfl, rfl, trivial⟩ ⟨rfl, rfl, trivial⟩
    · intro D hid h0 hp hs rest hK
      obtain ⟨d0, d1, d2, d3, d4, d5, d6, d7, d8, -⟩ : AllD D true [0, 1, 2, 3, 4, 5, 6, 7, 8] := ideal_sub hp (by decide +kernel)
      obtain ⟨d10, -⟩ : AllD D false [10] := ideal_sub hs (by decide +kernel)
      simp only [d0, d1, d2, d3, d4, d5, d6, d7, d8, d10, h0, cond_true, cond_false]
      refine Run.go rfl ?_
      refine Run.le ?_ hK
      simp only [d0, d1, d2, d3, d4, d5, d6, d7, d8, d10, h0, Nat.reduceBEq, Bool.false_or, Bool.true_or, cond_true, cond_false]
      exact St.Le.mk' ⟨rfl, rfl, rfl, rfl, rfl, rfl, rfl, rfl, rfl, rfl, rfl, rfl, trivial⟩ ⟨rfl, rfl, trivial⟩
    · intro D hid h0 hp hs rest hK
      obtain ⟨d0, d1, d2, d3, d4, d5, d6, d7, d8, d9, -⟩ : AllD D true [0, 1, 2, 3, 4, 5, 6, 7, 8, 9] := ideal_sub hp (by decide +kernel)
      simp only [d0, d1, d2, d3, d4, d5, d6, d7, d8, d9, h0, cond_true, cond_false]
      refine Run.go rfl ?_
      refine Run.le ?_ hK
      simp only [d0, d1, d2, d3, d4, d5, d6, d7, d8, d9, h0, Nat.reduceBEq, Bool.false_or, Bool.true_or, cond_true, cond_false]
      exact St.Le.mk' ⟨rfl, rfl, rfl, rfl, rfl, rfl, rfl, rfl, rfl, rfl, rfl, rfl, trivial⟩ ⟨rfl, rfl, trivial⟩
    repeat (refine Run.go rfl ?_)
    refine Run.ret hg rfl ?_
    show AV.tup [AV.agg [i16 _, i16 _], _] = _
    rw [wrap_i16 (by omega) (by omega), wrap_i16 (by omega) (by omega), hp, hq]
    rfl
end Go.Proofs.YtenknlnnnicdeaaGreatDoor

/- Contracts of the program's functions, and what follows from them. -/
set_option maxRecDepth 100000
namespace Go.Proofs.YtenknlnnnicdeaaGreatDoor
open Go Go.Av

/-! The most books that can be kept: the numbers. -/

theorem cmpI_anti (a b : Int) : cmpI b a = - cmpI a b := by
  unfold cmpI
  split <;> split <;> (try split) <;> (try split) <;> omega
theorem lex3_anti (p q : Int × Int × Int) : lex3 q p = - lex3 p q := by
  unfold lex3
  rw [cmpI_anti p.1 q.1, cmpI_anti p.2.1 q.2.1, cmpI_anti p.2.2 q.2.2]
  by_cases h1 : cmpI p.1 q.1 = 0
  · by_cases h2 : cmpI p.2.1 q.2.1 = 0
    · simp [h1, h2]
    · simp [h1, h2]
  · simp [h1]
theorem uc_anti (x y : Bk) : uc y x = - uc x y := by
  unfold uc fc
  rw [lex3_anti (nm x 0) (nm y 0), lex3_anti (nm x 1) (nm y 1), lex3_anti (nm x 2) (nm y 2)]
  by_cases h1 : lex3 (nm x 0) (nm y 0) = 0
  · by_cases h2 : lex3 (nm x 1) (nm y 1) = 0
    · simp [h1, h2]
    · simp [h1, h2]
  · simp [h1]

def mxf (l : List Bk) (f : Nat → Int) (i : Nat) : Nat → Int
  | 0 => 0
  | m + 1 => if i < m ∧ uc (l.getD i bk0) (l.getD m bk0) ≤ 0 then max (mxf l f i m) (f m) else mxf l f i m
def bt (l : List Bk) : Nat → Nat → Int
  | 0, _ => 0
  | t + 1, j => if j = l.length - 1 - t then 1 + mxf l (bt l t) j l.length else bt l t j
def btL (l : List Bk) (t : Nat) : List Int := (List.range l.length).map (bt l t)

theorem mxf_le {l : List Bk} {f : Nat → Int} {B : Int} (hB : 0 ≤ B) (h : ∀ j, 0 ≤ f j ∧ f j ≤ B) (i : Nat) : ∀ m, 0 ≤ mxf l f i m ∧ mxf l f i m ≤ B := by
  intro m
  induction m with
  | zero => exact ⟨Int.le_refl _, hB⟩
  | succ m ih =>
    have := h m
    simp only [mxf]
    split <;> omega
theorem mxf_zero {l : List Bk} {f : Nat → Int} {i : Nat} : ∀ m, m ≤ i + 1 → mxf l f i m = 0 := by
  intro m
  induction m with
  | zero => intro _; rfl
  | succ m ih =>
    intro h
    simp only [mxf]
    rw [if_neg (by omega)]
    exact ih (by omega)
theorem mxf_congr {l : List Bk} {f g : Nat → Int} {i : Nat} : ∀ m, (∀ j, i < j → j < m → f j = g j) → mxf l f i m = mxf l g i m := by
  intro m
  induction m with
  | zero => intro _; rfl
  | succ m ih =>
    intro h
    simp only [mxf]
    rw [ih fun j h1 h2 => h j h1 (by omega)]
    by_cases hc : i < m ∧ uc (l.getD i bk0) (l.getD m bk0) ≤ 0
    · rw [if_pos hc, if_pos hc, h m hc.1 (by omega)]
    · rw [if_neg hc, if_neg hc]
theorem mxf_at {l : List Bk} {f : Nat → Int} {i : Nat} : ∀ m, 0 < mxf l f i m → ∃ j, i < j ∧ j < m ∧ uc (l.getD i bk0) (l.getD j bk0) ≤ 0 ∧ f j = mxf l f i m := by
  intro m
  induction m with
  | zero => intro h; simp [mxf] at h
  | succ m ih =>
    intro h
    simp only [mxf] at h ⊢
    by_cases hc : i < m ∧ uc (l.getD i bk0) (l.getD m bk0) ≤ 0
    · rw [if_pos hc] at h ⊢
      by_cases hm : mxf l f i m ≤ f m
      · exact ⟨m, hc.1, by omega, hc.2, by omega⟩
      · obtain ⟨j, h1, h2, h3, h4⟩ := ih (by omega)
        exact ⟨j, h1, by omega, h3, by omega⟩
    · rw [if_neg hc] at h ⊢
      obtain ⟨j, h1, h2, h3, h4⟩ := ih h
      exact ⟨j, h1, by omega, h3, h4⟩

theorem bt_le (l : List Bk) : ∀ t j, 0 ≤ bt l t j ∧ bt l t j ≤ t := by
  intro t
  induction t with
  | zero => intro j; simp [bt]
  | succ t ih =>
    intro j
    have := mxf_le (l := l) (B := t) (by omega) ih j l.length
    have := ih j
    simp only [bt]
    split <;> omega
theorem bt_keep (l : List Bk) {j : Nat} (hj : j < l.length) : ∀ t, l.length - j ≤ t → t ≤ l.length → bt l t j = bt l (l.length - j) j := by
  intro t
  induction t with
  | zero => intro h _; rw [show l.length - j = 0 by omega]
  | succ t ih =>
    intro h1 h2
    by_cases e : l.length - j = t + 1
    · rw [e]
    · have : bt l (t + 1) j = bt l t j := by
        simp only [bt]
        rw [if_neg (by omega)]
      rw [this, ih (by omega) (by omega)]
def bh (l : List Bk) : Nat → Int := bt l l.length
theorem bh_eq (l : List Bk) {j : Nat} (hj : j < l.length) : bh l j = 1 + mxf l (bh l) j l.length := by
  unfold bh
  rw [bt_keep l hj l.length (by omega) (by omega)]
  have e : bt l (l.length - j) j = 1 + mxf l (bt l (l.length - j - 1)) j l.length := by
    rw [show l.length - j = (l.length - j - 1) + 1 by omega]
    simp only [bt]
    rw [if_pos (by omega)]
    rfl
  rw [e]
  congr 1
  apply mxf_congr
  intro k h1 h2
  rw [bt_keep l h2 l.length (by omega) (by omega), bt_keep l h2 (l.length - j - 1) (by omega) (by omega)]
theorem btL_len (l : List Bk) (t : Nat) : (btL l t).length = l.length := by simp [btL]
theorem btL_at {l : List Bk} {t j : Nat} (h : j < l.length) : (btL l t)[j]? = some (bt l t j) := by simp [btL, h]
theorem btL_set {l : List Bk} {t : Nat} (h : t < l.length) : (btL l t).set (l.length - 1 - t) (1 + mxf l (bt l t) (l.length - 1 - t) l.length) = btL l (t + 1) := by
  apply List.ext_getElem?
  intro k
  rw [List.getElem?_set]
  by_cases e : l.length - 1 - t = k
  · subst e
    rw [if_pos rfl, btL_len, if_pos (by omega), btL_at (by omega)]
    simp [bt]
  · rw [if_neg e]
    by_cases hk : k < l.length
    · rw [btL_at hk, btL_at hk]
      simp only [bt]
      rw [if_neg (by omega)]
    · rw [List.getElem?_eq_none (by rw [btL_len]; omega), List.getElem?_eq_none (by rw [btL_len]; omega)]

noncomputable def X128 : Fx := ⟨Tryz.prog, tys, 128, Tryz.f128, [0]⟩
theorem X128_ok : X128.Ok := ⟨Tryz.func128, tys_ok⟩
theorem l03Behind_ct (l : List Bk) (ex : Bool) (hl : l.length ≤ 1048576 ∧ ∀ x ∈ l, bkRng x) : Ct Tryz.prog 128 [.ro 8 ex (l.map bkA)] (.own 1 true ((btL l l.length).map i64)) [] := by
  obtain ⟨hlen, hr⟩ := hl
  refine Ct.intro X128 X128_ok rfl rfl rfl rfl fun g hg => ?_
  repeat (refine Run.go rfl ?_)
  refine Run.make rfl rfl rfl rfl rfl rfl rfl rfl rfl rfl (by simp; omega) (by show _ * 8 ≤ _; simp; omega) rfl ?_
  repeat (refine Run.go rfl ?_)
  refine Run.unpack 3 rfl rfl ?_
  refine Run.loop (fun t : Nat => ⟨[(0, .ro 8 ex (l.map bkA)), (3, .vec (3, 0) 0 l.length), (4, i64 ((l.length : Int) - 1 - t))], [((3, 0), .vec 1 true ((btL l t).map i64))]⟩) (fun t => t ≤ l.length) (fun t => l.length - t) 0 (by omega) ?_ ?_
  · refine St.Le.mk' ⟨rfl, ?_, ?_, trivial⟩ ⟨?_, trivial⟩
    · show AV.vec _ _ (List.replicate (l.map bkA).length _).length = _
      simp
    · show i64 _ = _
      rw [List.length_map, wrap_i64 (by omega) (by omega)]
      simp
    · show Ob.vec 1 true (List.replicate (l.map bkA).length (i64 0)) = _
      congr 1
      rw [List.length_map]
      apply List.ext_getElem?
      intro k
      rw [List.getElem?_replicate, List.getElem?_map, btL, List.getElem?_map]
      by_cases hk : k < l.length
      · rw [if_pos hk, List.getElem?_range hk]
        rfl
      · rw [if_neg hk, List.getElem?_eq_none (by simp; omega)]
        rfl
  intro t ht IH
  repeat (refine Run.go rfl ?_)
  refine Run.cond rfl (fun h => ?_) (fun h => ?_)
  · have hlt : t < l.length := by
      simp at h
      omega
    obtain ⟨i, hi⟩ : ∃ i, i = l.length - 1 - t := ⟨_, rfl⟩
    have hil : i < l.length := by omega
    have hiI : (l.length : Int) - 1 - t = i := by omega
    rw [hiI]
    repeat (refine Run.go rfl ?_)
    refine Run.loop (fun k : Nat => ⟨[(0, .ro 8 ex (l.map bkA)), (3, .vec (3, 0) 0 l.length), (4, i64 i), (5, i64 (mxf l (bt l t) i k)), (6, i64 k)], [((3, 0), .vec 1 true ((btL l t).map i64))]⟩) (fun k => i + 1 ≤ k ∧ k ≤ l.length) (fun k => l.length - k) (i + 1) ⟨by omega, by omega⟩ ?_ ?_
    · refine St.Le.mk' ⟨rfl, rfl, rfl, ?_, ?_, trivial⟩ ⟨rfl, trivial⟩
      · rw [mxf_zero (i + 1) (by omega)]
        rfl
      · show i64 _ = _
        rw [wrap_i64 (by omega) (by omega)]
        rfl
    rintro k ⟨hk1, hk2⟩ IH2
    have hbm := mxf_le (l := l) (B := t) (by omega) (bt_le l t) i k
    repeat (refine Run.go rfl ?_)
    refine Run.cond rfl (fun h => ?_) (fun h => ?_)
    · have hkl : k < l.length := by simpa using h
      have hbk := bt_le l t k
      have hst : mxf l (bt l t) i (k + 1) = if uc l[i] l[k] ≤ 0 then max (mxf l (bt l t) i k) (bt l t k) else mxf l (bt l t) i k := by
        simp only [mxf]
        rw [show l.getD i bk0 = l[i] by simp [hil], show l.getD k bk0 = l[k] by simp [hkl]]
        by_cases hc : uc l[i] l[k] ≤ 0
        · rw [if_pos ⟨by omega, hc⟩, if_pos hc]
        · rw [if_neg fun h => hc h.2, if_neg hc]
      generalize mxf l (bt l t) i k = M at hst hbm
      repeat (refine Run.go rfl ?_)
      refine Run.drawS ⟨[(0, .ro 8 ex (l.map bkA)), (3, .vec (3, 0) 0 l.length), (4, i64 i), (5, i64 M), (6, i64 k), (32, bo (decide (0 ≤ uc l[k] l[i])))], [((3, 0), .vec 1 true ((btL l t).map i64))]⟩ (by kernel_rfl) (by decide +kernel) ?_ ?_
      · repeat (refine Quiet.go rfl ?_)
        refine Quiet.val rfl rfl (ValOk.idx (bkA l[k]) rfl rfl rfl rfl rfl (by omega) (by simp [hkl])) rfl ?_
        repeat (refine Quiet.go rfl ?_)
        refine Quiet.val rfl rfl (ValOk.idx (bkA l[i]) rfl rfl rfl rfl rfl (by omega) (by simp [hil])) rfl ?_
        repeat (refine Quiet.go rfl ?_)
        refine Quiet.cs rfl rfl rfl rfl rfl (l01Usual_ct l[k] l[i] (hr _ (by simp)) (hr _ (by simp))) rfl rfl ?_
        repeat (refine Quiet.go rfl ?_)
        exact Quiet.nil (St.Le.mk' ⟨rfl, rfl, rfl, rfl, rfl, rfl, trivial⟩ ⟨rfl, trivial⟩)
      refine Run.cond rfl (fun h => ?_) (fun h => ?_)
      · have h : 0 ≤ uc l[k] l[i] := of_decide_eq_true h
        rw [uc_anti] at h
        rw [if_pos (by omega)] at hst
        repeat (refine Run.go rfl ?_)
        refine Run.val rfl rfl rfl (ValOk.idxv rfl rfl rfl rfl rfl rfl (by omega) (by omega)) rfl ?_
        repeat (refine Run.go rfl ?_)
        refine Run.val rfl rfl rfl (ValOk.loadv (i64 (bt l t k)) rfl rfl rfl rfl (by rw [List.getElem?_map]; simp [btL_at hkl]) rfl) rfl ?_
        repeat (refine Run.go rfl ?_)
        refine Run.cs rfl (l00Max_ct M (bt l t k)) rfl rfl ?_
        repeat (refine Run.go rfl ?_)
        refine Run.of (IH2 (k + 1) ⟨by omega, by omega⟩ (by omega)) ⟨rfl, rfl, rfl, ?_, ?_, trivial⟩ ⟨rfl, trivial⟩
        · rw [hst]
          rfl
        · show i64 _ = _
          rw [wrap_i64 (by omega) (by omega)]
          rfl
      · have h : ¬ 0 ≤ uc l[k] l[i] := of_decide_eq_false h
        rw [uc_anti] at h
        rw [if_neg (by omega)] at hst
        repeat (refine Run.go rfl ?_)
        refine Run.of (IH2 (k + 1) ⟨by omega, by omega⟩ (by omega)) ⟨rfl, rfl, rfl, ?_, ?_, trivial⟩ ⟨rfl, trivial⟩
        · rw [hst]
          rfl
        · show i64 _ = _
          rw [wrap_i64 (by omega) (by omega)]
          rfl
    · have hkl : k = l.length := by simp at h; omega
      subst hkl
      repeat (refine Run.go rfl ?_)
      refine Run.val rfl rfl rfl (ValOk.idxv rfl rfl rfl rfl rfl rfl (by omega) (by omega)) rfl ?_
      repeat (refine Run.go rfl ?_)
      refine Run.storee (i64 (bt l t i)) (i64 (1 + mxf l (bt l t) i l.length)) rfl rfl rfl rfl rfl rfl rfl (by rw [List.getElem?_map]; simp [btL_at hil]) rfl rfl (by
        show i64 _ = i64 _
        rw [wrap_i64 (by omega) (by omega), Int.add_comm]) ?_
      repeat (refine Run.go rfl ?_)
      refine Run.of (IH (t + 1) (by omega) (by omega)) ⟨rfl, rfl, ?_, trivial⟩ ⟨?_, trivial⟩
      · show i64 _ = i64 _
        rw [wrap_i64 (by omega) (by omega)]
        congr 1
        omega
      · show Ob.vec 1 true _ = Ob.vec 1 true _
        congr 1
        rw [← btL_set hlt, ← hi, List.map_set]
        congr 1
        simp
  · have htl : t = l.length := by
      simp at h
      omega
    subst htl
    repeat (refine Run.go rfl ?_)
    refine Run.pack 2 rfl rfl (by simp [btL_len]) ?_
    exact Run.ret hg rfl rfl
end Go.Proofs.YtenknlnnnicdeaaGreatDoor

/- Contracts of the program's functions, and what follows from them. -/
set_option maxRecDepth 100000
namespace Go.Proofs.YtenknlnnnicdeaaGreatDoor
open Go Go.Av

/-! The most books that can be kept: which. -/

theorem lt64 (L : List Int) : (flatc (L.map i64)).all isLT = true := by
  induction L with
  | nil => rfl
  | cons x r ih =>
    rw [List.map_cons, show flatc (i64 x :: r.map i64) = i64 x :: flatc (r.map i64) from rfl, List.all_cons, ih]
    rfl

def mxL (L : List Int) : Int := L.tail.foldl max (L.headD 0)
def mxa (b : Nat → Int) : Nat → Int
  | 0 => 0
  | m + 1 => max (mxa b m) (b m)
theorem foldl_max (r : List Int) : ∀ a x, r.foldl max (max a x) = max a (r.foldl max x) := by
  induction r with
  | nil => intro a x; rfl
  | cons y r ih =>
    intro a x
    rw [List.foldl_cons, List.foldl_cons, Int.max_assoc, ih]
theorem mxL_zero (L : List Int) : mxL (L ++ [0]) = L.foldl max 0 := by
  cases L with
  | nil => rfl
  | cons x r =>
    rw [mxL, List.cons_append, List.tail_cons, List.headD_cons, List.foldl_append, List.foldl_cons, List.foldl_cons, List.foldl_nil, foldl_max, Int.max_comm]
theorem foldl_mxa (b : Nat → Int) : ∀ n, ((List.range n).map b).foldl max 0 = mxa b n := by
  intro n
  induction n with
  | zero => rfl
  | succ n ih => rw [List.range_succ, List.map_append, List.foldl_append, ih]; rfl
theorem mxL_bt (l : List Bk) : mxL (btL l l.length ++ [0]) = mxa (bh l) l.length := by
  rw [mxL_zero]
  exact foldl_mxa _ _
theorem mxa_at (b : Nat → Int) : ∀ n, 0 < mxa b n → ∃ j, j < n ∧ b j = mxa b n := by
  intro n
  induction n with
  | zero => intro h; simp [mxa] at h
  | succ n ih =>
    intro h
    simp only [mxa] at h ⊢
    by_cases hm : mxa b n ≤ b n
    · exact ⟨n, by omega, by omega⟩
    · obtain ⟨j, h1, h2⟩ := ih (by omega)
      exact ⟨j, by omega, by omega⟩
theorem mxa_le {b : Nat → Int} {B : Int} (hB : 0 ≤ B) (h : ∀ j, 0 ≤ b j ∧ b j ≤ B) : ∀ n, 0 ≤ mxa b n ∧ mxa b n ≤ B := by
  intro n
  induction n with
  | zero => exact ⟨Int.le_refl _, hB⟩
  | succ n ih =>
    have := h n
    simp only [mxa]
    omega

noncomputable def X101 : Fx := ⟨Tryz.prog, tys, 101, Tryz.f101, [0]⟩
theorem X101_ok : X101.Ok := ⟨Tryz.func101, tys_ok⟩
theorem maxI_ct (L : List Int) (ex : Bool) (hL : L ≠ []) (hlen : L.length ≤ 1048577) : Ct Tryz.prog 101 [.ro 1 ex (L.map i64)] (i64 (mxL L)) [] := by
  have hpos : 0 < L.length := List.length_pos_iff.2 hL
  refine Ct.intro X101 X101_ok rfl (by kernel_rfl) rfl rfl fun g hg => ?_
  repeat (refine Run.go rfl ?_)
  refine Run.cond rfl (fun h => by simp at h; omega) (fun h => ?_)
  repeat (refine Run.go rfl ?_)
  refine Run.val rfl rfl rfl (ValOk.idx (i64 L[0]) rfl rfl rfl rfl rfl (by omega) (by simp [hpos])) rfl ?_
  repeat (refine Run.go rfl ?_)
  refine Run.loop (fun j : Nat => ⟨[(0, .ro 1 ex (L.map i64)), (3, i64 (mxL (L.take j))), (4, i64 j)], []⟩) (fun j => 1 ≤ j ∧ j ≤ L.length) (fun j => L.length - j) 1 ⟨by omega, by omega⟩ ?_ ?_
  · refine St.Le.mk' ⟨rfl, ?_, rfl, trivial⟩ trivial
    show i64 _ = i64 _
    cases L with
    | nil => exact absurd rfl hL
    | cons x r => rfl
  rintro j ⟨hj1, hj2⟩ IH
  repeat (refine Run.go rfl ?_)
  refine Run.cond rfl (fun h => ?_) (fun h => ?_)
  · have hlt : j < L.length := by simpa using h
    have hst : mxL (L.take (j + 1)) = max (mxL (L.take j)) L[j] := by
      cases L with
      | nil => exact absurd rfl hL
      | cons x r =>
        obtain ⟨j', rfl⟩ := Nat.exists_eq_add_of_le' hj1
        have hl' : j' < r.length := by simpa using hlt
        simp only [mxL, List.take_succ_cons, List.tail_cons, List.headD_cons, List.getElem_cons_succ]
        rw [List.take_succ_eq_append_getElem hl', List.foldl_append]
        rfl
    generalize mxL (L.take j) = M at hst
    repeat (refine Run.go rfl ?_)
    refine Run.val rfl rfl rfl (ValOk.idx (i64 L[j]) rfl rfl rfl rfl rfl (by omega) (by simp [hlt])) rfl ?_
    repeat (refine Run.go rfl ?_)
    refine Run.of (IH (j + 1) ⟨by omega, by omega⟩ (by omega)) ⟨rfl, ?_, ?_, trivial⟩ trivial
    · rw [hst]
      show i64 (if L[j] > M then L[j] else M) = _
      congr 1
      split <;> omega
    · show i64 _ = _
      rw [wrap_i64 (by omega) (by omega)]
      rfl
  · have hj' : j = L.length := by simp at h; omega
    subst hj'
    repeat (refine Run.go rfl ?_)
    refine Run.ret hg rfl ?_
    rw [List.take_length]
    rfl

def kcond (l : List Bk) (b : Nat → Int) (o : List Nat) (m : Int) (j : Nat) : Bool := (b j == m) && (((o.length : Int) == 0) || decide (uc (l.getD (o.getLastD 0) bk0) (l.getD j bk0) ≤ 0))
def kst (l : List Bk) (b : Nat → Int) (m0 : Int) : Nat → List Nat × Int
  | 0 => ([], m0)
  | i + 1 => if (decide (0 < (kst l b m0 i).2) && kcond l b (kst l b m0 i).1 (kst l b m0 i).2 i) = true then ((kst l b m0 i).1 ++ [i], (kst l b m0 i).2 - 1) else kst l b m0 i
def keptL (l : List Bk) : List Nat := (kst l (bh l) (mxa (bh l) l.length) l.length).1

theorem kst_yes {l : List Bk} {b : Nat → Int} {m0 : Int} {i : Nat} (h1 : 0 < (kst l b m0 i).2) (h2 : kcond l b (kst l b m0 i).1 (kst l b m0 i).2 i = true) : kst l b m0 (i + 1) = ((kst l b m0 i).1 ++ [i], (kst l b m0 i).2 - 1) := by
  simp only [kst]
  rw [h2, decide_eq_true h1]
  rfl
theorem kst_no {l : List Bk} {b : Nat → Int} {m0 : Int} {i : Nat} (h2 : kcond l b (kst l b m0 i).1 (kst l b m0 i).2 i = false) : kst l b m0 (i + 1) = kst l b m0 i := by
  simp only [kst]
  rw [h2, Bool.and_false]
  rfl
theorem kst_stop {l : List Bk} {b : Nat → Int} {m0 : Int} {i : Nat} (h : (kst l b m0 i).2 ≤ 0) : ∀ k, kst l b m0 (i + k) = kst l b m0 i := by
  intro k
  induction k with
  | zero => rfl
  | succ k ih =>
    rw [Nat.add_succ]
    simp only [kst]
    rw [ih, decide_eq_false (by omega), Bool.false_and]
    rfl
theorem kst_lt {l : List Bk} {b : Nat → Int} {m0 : Int} : ∀ i, (kst l b m0 i).1.Pairwise (· < ·) ∧ (∀ x ∈ (kst l b m0 i).1, x < i) ∧ (kst l b m0 i).2 ≤ m0 := by
  intro i
  induction i with
  | zero => simp [kst]
  | succ i ih =>
    obtain ⟨h1, h2, h3⟩ := ih
    simp only [kst]
    split
    · refine ⟨List.pairwise_append.2 ⟨h1, by simp, fun x hx y hy => ?_⟩, fun x hx => ?_, by simp; omega⟩
      · rw [List.mem_singleton.1 hy]
        exact h2 x hx
      · rcases List.mem_append.1 hx with hx | hx
        · have := h2 x hx; omega
        · rw [List.mem_singleton.1 hx]; omega
    · exact ⟨h1, fun x hx => by have := h2 x hx; omega, h3⟩
theorem kst_len {l : List Bk} {b : Nat → Int} {m0 : Int} : ∀ i, (kst l b m0 i).1.length ≤ i := by
  intro i
  induction i with
  | zero => simp [kst]
  | succ i ih =>
    simp only [kst]
    split
    · simp; omega
    · omega

theorem kst_ex (l : List Bk) : ∀ i, i ≤ l.length → 0 < (kst l (bh l) (mxa (bh l) l.length) i).2 → ∃ j, i ≤ j ∧ j < l.length ∧ kcond l (bh l) (kst l (bh l) (mxa (bh l) l.length) i).1 (kst l (bh l) (mxa (bh l) l.length) i).2 j = true := by
  intro i
  induction i with
  | zero =>
    intro _ h
    obtain ⟨j, h1, h2⟩ := mxa_at (bh l) l.length h
    refine ⟨j, by omega, h1, ?_⟩
    simp only [kst, kcond, h2]
    simp
  | succ i ih =>
    intro hi h
    by_cases hm : 0 < (kst l (bh l) (mxa (bh l) l.length) i).2
    · cases hc : kcond l (bh l) (kst l (bh l) (mxa (bh l) l.length) i).1 (kst l (bh l) (mxa (bh l) l.length) i).2 i with
      | true =>
        rw [kst_yes hm hc] at h ⊢
        generalize kst l (bh l) (mxa (bh l) l.length) i = S at h hc ⊢
        have hb : bh l i = S.2 := by
          simp only [kcond, Bool.and_eq_true, beq_iff_eq] at hc
          exact hc.1
        have he := bh_eq l (j := i) (by omega)
        have h : 0 < S.2 - 1 := h
        obtain ⟨j, h1, h2, h3, h4⟩ := mxf_at (l := l) (f := bh l) (i := i) l.length (by omega)
        refine ⟨j, by omega, h2, ?_⟩
        simp only [kcond]
        rw [show bh l j = S.2 - 1 by omega, show (S.1 ++ [i]).getLastD 0 = i by simp, decide_eq_true h3]
        simp
      | false =>
        rw [kst_no hc]
        obtain ⟨j, h1, h2, h3⟩ := ih (by omega) hm
        refine ⟨j, ?_, h2, h3⟩
        have : j ≠ i := by
          rintro rfl
          rw [hc] at h3
          cases h3
        omega
    · have := kst_stop (l := l) (b := bh l) (m0 := mxa (bh l) l.length) (i := i) (by omega) 1
      rw [this] at h
      exact absurd h hm

def nA (o : List Nat) : List AV := o.map fun k : Nat => i64 k
theorem nA_snoc (o : List Nat) (k : Nat) : nA (o ++ [k]) = nA o ++ [i64 k] := by simp [nA]
theorem nA_len (o : List Nat) : (nA o).length = o.length := by simp [nA]
theorem nA_eq (o : List Nat) : nA o = (o.map fun k : Nat => (k : Int)).map i64 := by simp [nA, Function.comp_def]
theorem nA_rf (o : List Nat) : AV.rfL (nA o) = true := by rw [nA_eq, rf64]

theorem list_snoc {α : Type} {o : List α} (h : o ≠ []) : ∃ o' k, o = o' ++ [k] := ⟨o.dropLast, o.getLast h, (List.dropLast_concat_getLast h).symm⟩

noncomputable def X54 : Fx := ⟨Tryz.prog, tys, 54, Tryz.f54, [0]⟩
theorem X54_ok : X54.Ok := ⟨Tryz.func54, tys_ok⟩
theorem kept_ct (l : List Bk) (ex : Bool) (hl : l.length ≤ 1048576 ∧ ∀ x ∈ l, bkRng x) : Ct Tryz.prog 54 [.ro 8 ex (l.map bkA)] (.own 1 false (nA (keptL l))) [] := by
  obtain ⟨hlen, hr⟩ := hl
  refine Ct.intro X54 X54_ok rfl rfl rfl rfl fun g hg => ?_
  repeat (refine Run.go rfl ?_)
  refine Run.make rfl rfl rfl rfl rfl rfl rfl rfl rfl rfl (by simp; omega) (by show _ * 8 ≤ _; simp; omega) rfl ?_
  repeat (refine Run.go rfl ?_)
  refine Run.unpack 4 rfl rfl ?_
  refine Run.loop (fun t : Nat => ⟨[(0, .ro 8 ex (l.map bkA)), (3, i64 l.length), (4, .vec (4, 0) 0 l.length), (5, i64 ((l.length : Int) - 1 - t))], [((4, 0), .vec 1 true ((btL l t).map i64))]⟩) (fun t => t ≤ l.length) (fun t => l.length - t) 0 (by omega) ?_ ?_
  · refine St.Le.mk' ⟨rfl, ?_, ?_, ?_, trivial⟩ ⟨?_, trivial⟩
    · show i64 _ = _
      simp
    · show AV.vec _ _ (List.replicate (l.map bkA).length _).length = _
      simp
    · show i64 _ = _
      rw [List.length_map, wrap_i64 (by omega) (by omega)]
      simp
    · show Ob.vec 1 true (List.replicate (l.map bkA).length (i64 0)) = _
      congr 1
      rw [List.length_map]
      apply List.ext_getElem?
      intro k
      rw [List.getElem?_replicate, List.getElem?_map, btL, List.getElem?_map]
      by_cases hk : k < l.length
      · rw [if_pos hk, List.getElem?_range hk]
        rfl
      · rw [if_neg hk, List.getElem?_eq_none (by simp; omega)]
        rfl
  intro t ht IH
  repeat (refine Run.go rfl ?_)
  refine Run.cond rfl (fun h => ?_) (fun h => ?_)
  · have hlt : t < l.length := by
      simp at h
      omega
    obtain ⟨i, hi⟩ : ∃ i, i = l.length - 1 - t := ⟨_, rfl⟩
    have hil : i < l.length := by omega
    have hiI : (l.length : Int) - 1 - t = i := by omega
    rw [hiI]
    repeat (refine Run.go rfl ?_)
    refine Run.val rfl rfl rfl (ValOk.idxv rfl rfl rfl rfl rfl rfl (by omega) (by omega)) rfl ?_
    refine Run.storee (i64 (bt l t i)) (i64 1) rfl rfl rfl rfl rfl rfl rfl (by rw [List.getElem?_map]; simp [btL_at hil]) rfl rfl rfl ?_
    repeat (refine Run.go rfl ?_)
    refine Run.loop (fun k : Nat => ⟨[(0, .ro 8 ex (l.map bkA)), (3, i64 l.length), (4, .vec (4, 0) 0 l.length), (5, i64 i), (6, i64 k)], [((4, 0), .vec 1 true (((btL l t).set i (1 + mxf l (bt l t) i k)).map i64))]⟩) (fun k => i + 1 ≤ k ∧ k ≤ l.length) (fun k => l.length - k) (i + 1) ⟨by omega, by omega⟩ ?_ ?_
    · refine St.Le.mk' ⟨rfl, rfl, rfl, rfl, ?_, trivial⟩ ⟨?_, trivial⟩
      · show i64 _ = _
        rw [wrap_i64 (by omega) (by omega)]
        rfl
      · show Ob.vec 1 true _ = Ob.vec 1 true _
        rw [mxf_zero (i + 1) (by omega), List.map_set]
        congr 2
        simp
    rintro k ⟨hk1, hk2⟩ IH2
    have hbm := mxf_le (l := l) (B := t) (by omega) (bt_le l t) i k
    repeat (refine Run.go rfl ?_)
    refine Run.cond rfl (fun h => ?_) (fun h => ?_)
    · have hkl : k < l.length := by simpa using h
      have hbk := bt_le l t k
      have hst : mxf l (bt l t) i (k + 1) = if uc l[i] l[k] ≤ 0 then max (mxf l (bt l t) i k) (bt l t k) else mxf l (bt l t) i k := by
        simp only [mxf]
        rw [show l.getD i bk0 = l[i] by simp [hil], show l.getD k bk0 = l[k] by simp [hkl]]
        by_cases hc : uc l[i] l[k] ≤ 0
        · rw [if_pos ⟨by omega, hc⟩, if_pos hc]
        · rw [if_neg fun h => hc h.2, if_neg hc]
      generalize mxf l (bt l t) i k = M at hst hbm
      obtain ⟨B, hB⟩ : ∃ B, B = bt l t k := ⟨_, rfl⟩
      rw [← hB] at hst hbk
      have hset : (((btL l t).set i (1 + M)).map i64).set i (i64 (1 + max M B)) = ((btL l t).set i (1 + max M B)).map i64 := by
        rw [List.map_set, List.map_set, List.set_set]
      have hA1 : (((btL l t).set i (1 + M)).map i64)[0 + (i : Int).toNat]? = some (i64 (1 + M)) := by
        rw [List.getElem?_map, List.getElem?_set]
        simp [btL_len, hil]
      have hA2 : (((btL l t).set i (1 + M)).map i64)[0 + (k : Int).toNat]? = some (i64 B) := by
        rw [List.getElem?_map, List.getElem?_set]
        simp only [Nat.zero_add, Int.toNat_natCast]
        rw [if_neg (by omega), btL_at hkl, hB]
        rfl
      have hAno : ((btL l t).set i (1 + M)).map i64 = ((btL l t).set i (1 + M)).map i64 := rfl
      generalize hA : ((btL l t).set i (1 + M)).map i64 = A at hset hA1 hA2
      repeat (refine Run.go rfl ?_)
      refine Run.drawS ⟨[(0, .ro 8 ex (l.map bkA)), (3, i64 l.length), (4, .vec (4, 0) 0 l.length), (5, i64 i), (6, i64 k), (40, bo (decide (uc l[i] l[k] ≤ 0)))], [((4, 0), .vec 1 true A)]⟩ (by kernel_rfl) (by decide +kernel) ?_ ?_
      · repeat (refine Quiet.go rfl ?_)
        refine Quiet.val rfl rfl (ValOk.idx (bkA l[i]) rfl rfl rfl rfl rfl (by omega) (by simp [hil])) rfl ?_
        repeat (refine Quiet.go rfl ?_)
        refine Quiet.val rfl rfl (ValOk.idx (bkA l[k]) rfl rfl rfl rfl rfl (by omega) (by simp [hkl])) rfl ?_
        repeat (refine Quiet.go rfl ?_)
        refine Quiet.cs rfl rfl rfl rfl rfl (compare_ct l[i] l[k]) rfl rfl ?_
        repeat (refine Quiet.go rfl ?_)
        exact Quiet.nil (St.Le.mk' ⟨rfl, rfl, rfl, rfl, rfl, rfl, trivial⟩ ⟨rfl, trivial⟩)
      refine Run.cond rfl (fun h => ?_) (fun h => ?_)
      · have h : uc l[i] l[k] ≤ 0 := of_decide_eq_true h
        rw [if_pos h] at hst
        repeat (refine Run.go rfl ?_)
        refine Run.drawI (fun D => ⟨[(0, .ro 8 ex (l.map bkA)), (3, i64 l.length), (4, .vec (4, 0) 0 l.length), (5, i64 i), (6, i64 k), (41, bif D 0 then .vec (4, 0) 0 l.length else .top), (42, bif D 1 then i64 i else .top), (43, bif D 2 then .vec (4, 0) 0 l.length else .top), (44, bif D 3 then i64 i else .top), (45, bif D 4 then .ep (4, 0) (0 + (i : Int).toNat) 0 else .top), (46, bif D 5 then i64 (1 + M) else .top), (47, bif D 6 then .vec (4, 0) 0 l.length else .top), (48, bif D 7 then i64 k else .top), (49, bif D 8 then .ep (4, 0) (0 + (k : Int).toNat) 0 else .top), (50, bif D 9 then i64 B else .top), (51, bif D 10 then i64 (IntKind.i64.wrap (B + 1)) else .top), (52, bif D 11 then i64 (if IntKind.i64.wrap (B + 1) > 1 + M then IntKind.i64.wrap (B + 1) else 1 + M) else .top), (53, bif D 12 then .ep (4, 0) (0 + (i : Int).toNat) 0 else .top)], [((4, 0), (bif D 13 then Ob.vec 1 true (A.set (0 + (i : Int).toNat) (i64 (if IntKind.i64.wrap (B + 1) > 1 + M then IntKind.i64.wrap (B + 1) else 1 + M))) else Ob.vec 1 true A))]⟩) (by decide +kernel) (by decide +kernel) ?_ ?_ fun k' => ⟨?_, ?_, ?_, ?_, ?_, ?_, ?_, ?_, ?_, ?_, ?_, ?_, ?_, ?_, trivial⟩
        · exact St.Le.mk' ⟨rfl, rfl, rfl, rfl, rfl, rfl, rfl, rfl, rfl, rfl, rfl, rfl, rfl, rfl, rfl, rfl, rfl, rfl, trivial⟩ ⟨rfl, trivial⟩
        rotate_left
        · intro D hid h0 hp hs rest hK
          obtain ⟨d12, d13, -⟩ : AllD D false [12, 13] := ideal_sub hs (by decide +kernel)
          simp only [d12, d13, h0, cond_true, cond_false]
          refine Run.go rfl ?_
          refine Run.le ?_ hK
          simp only [d12, d13, h0, Nat.reduceBEq, Bool.false_or, Bool.true_or, cond_true, cond_false]
          exact St.Le.mk' ⟨rfl, rfl, rfl, rfl, rfl, rfl, rfl, rfl, rfl, rfl, rfl, rfl, rfl, rfl, rfl, rfl, rfl, rfl, trivial⟩ ⟨rfl, trivial⟩
        · intro D hid h0 hp hs rest hK
          obtain ⟨d12, d13, -⟩ : AllD D false [12, 13] := ideal_sub hs (by decide +kernel)
          simp only [d12, d13, h0, cond_true, cond_false]
          refine Run.go rfl ?_
          refine Run.le ?_ hK
          simp only [d12, d13, h0, Nat.reduceBEq, Bool.false_or, Bool.true_or, cond_true, cond_false]
          exact St.Le.mk' ⟨rfl, rfl, rfl, rfl, rfl, rfl, rfl, rfl, rfl, rfl, rfl, rfl, rfl, rfl, rfl, rfl, rfl, rfl, trivial⟩ ⟨rfl, trivial⟩
        · intro D hid h0 hp hs rest hK
          obtain ⟨d4, d12, d13, -⟩ : AllD D false [4, 12, 13] := ideal_sub hs (by decide +kernel)
          simp only [d4, d12, d13, h0, cond_true, cond_false]
          refine Run.go rfl ?_
          refine Run.le ?_ hK
          simp only [d4, d12, d13, h0, Nat.reduceBEq, Bool.false_or, Bool.true_or, cond_true, cond_false]
          exact St.Le.mk' ⟨rfl, rfl, rfl, rfl, rfl, rfl, rfl, rfl, rfl, rfl, rfl, rfl, rfl, rfl, rfl, rfl, rfl, rfl, trivial⟩ ⟨rfl, trivial⟩
        · intro D hid h0 hp hs rest hK
          obtain ⟨d4, d12, d13, -⟩ : AllD D false [4, 12, 13] := ideal_sub hs (by decide +kernel)
          simp only [d4, d12, d13, h0, cond_true, cond_false]
          refine Run.go rfl ?_
          refine Run.le ?_ hK
          simp only [d4, d12, d13, h0, Nat.reduceBEq, Bool.false_or, Bool.true_or, cond_true, cond_false]
          exact St.Le.mk' ⟨rfl, rfl, rfl, rfl, rfl, rfl, rfl, rfl, rfl, rfl, rfl, rfl, rfl, rfl, rfl, rfl, rfl, rfl, trivial⟩ ⟨rfl, trivial⟩
        · intro D hid h0 hp hs rest hK
          obtain ⟨d2, d3, -⟩ : AllD D true [2, 3] := ideal_sub hp (by decide +kernel)
          obtain ⟨d5, d12, d13, -⟩ : AllD D false [5, 12, 13] := ideal_sub hs (by decide +kernel)
          have d13 : D 13 = false := ideal_no (i := 13) (j := 12) hid (by decide +kernel) d12
          simp only [d2, d3, d5, d12, d13, d13, h0, cond_true, cond_false]
          refine Run.val rfl rfl rfl (ValOk.idxv rfl rfl rfl rfl rfl rfl (by omega) (by omega)) rfl ?_
          refine Run.le ?_ hK
          simp only [d2, d3, d5, d12, d13, d13, h0, Nat.reduceBEq, Bool.false_or, Bool.true_or, cond_true, cond_false]
          exact St.Le.mk' ⟨rfl, rfl, rfl, rfl, rfl, rfl, rfl, rfl, rfl, rfl, rfl, rfl, rfl, rfl, rfl, rfl, rfl, rfl, trivial⟩ ⟨rfl, trivial⟩
        · intro D hid h0 hp hs rest hK
          obtain ⟨d4, -⟩ : AllD D true [4] := ideal_sub hp (by decide +kernel)
          obtain ⟨d11, d12, d13, -⟩ : AllD D false [11, 12, 13] := ideal_sub hs (by decide +kernel)
          simp only [d4, d11, d12, d13, h0, cond_true, cond_false]
          refine Run.val rfl rfl rfl (ValOk.loadv (i64 (1 + M)) rfl rfl rfl rfl hA1 rfl) rfl ?_
          refine Run.le ?_ hK
          simp only [d4, d11, d12, d13, h0, Nat.reduceBEq, Bool.false_or, Bool.true_or, cond_true, cond_false]
          exact St.Le.mk' ⟨rfl, rfl, rfl, rfl, rfl, rfl, rfl, rfl, rfl, rfl, rfl, rfl, rfl, rfl, rfl, rfl, rfl, rfl, trivial⟩ ⟨rfl, trivial⟩
        · intro D hid h0 hp hs rest hK
          obtain ⟨d8, d12, d13, -⟩ : AllD D false [8, 12, 13] := ideal_sub hs (by decide +kernel)
          simp only [d8, d12, d13, h0, cond_true, cond_false]
          refine Run.go rfl ?_
          refine Run.le ?_ hK
          simp only [d8, d12, d13, h0, Nat.reduceBEq, Bool.false_or, Bool.true_or, cond_true, cond_false]
          exact St.Le.mk' ⟨rfl, rfl, rfl, rfl, rfl, rfl, rfl, rfl, rfl, rfl, rfl, rfl, rfl, rfl, rfl, rfl, rfl, rfl, trivial⟩ ⟨rfl, trivial⟩
        · intro D hid h0 hp hs rest hK
          obtain ⟨d8, d12, d13, -⟩ : AllD D false [8, 12, 13] := ideal_sub hs (by decide +kernel)
          simp only [d8, d12, d13, h0, cond_true, cond_false]
          refine Run.go rfl ?_
          refine Run.le ?_ hK
          simp only [d8, d12, d13, h0, Nat.reduceBEq, Bool.false_or, Bool.true_or, cond_true, cond_false]
          exact St.Le.mk' ⟨rfl, rfl, rfl, rfl, rfl, rfl, rfl, rfl, rfl, rfl, rfl, rfl, rfl, rfl, rfl, rfl, rfl, rfl, trivial⟩ ⟨rfl, trivial⟩
        · intro D hid h0 hp hs rest hK
          obtain ⟨d6, d7, -⟩ : AllD D true [6, 7] := ideal_sub hp (by decide +kernel)
          obtain ⟨d9, d12, d13, -⟩ : AllD D false [9, 12, 13] := ideal_sub hs (by decide +kernel)
          simp only [d6, d7, d9, d12, d13, h0, cond_true, cond_false]
          refine Run.val rfl rfl rfl (ValOk.idxv rfl rfl rfl rfl rfl rfl (by omega) (by omega)) rfl ?_
          refine Run.le ?_ hK
          simp only [d6, d7, d9, d12, d13, h0, Nat.reduceBEq, Bool.false_or, Bool.true_or, cond_true, cond_false]
          exact St.Le.mk' ⟨rfl, rfl, rfl, rfl, rfl, rfl, rfl, rfl, rfl, rfl, rfl, rfl, rfl, rfl, rfl, rfl, rfl, rfl, trivial⟩ ⟨rfl, trivial⟩
        · intro D hid h0 hp hs rest hK
          obtain ⟨d8, -⟩ : AllD D true [8] := ideal_sub hp (by decide +kernel)
          obtain ⟨d10, d12, d13, -⟩ : AllD D false [10, 12, 13] := ideal_sub hs (by decide +kernel)
          simp only [d8, d10, d12, d13, h0, cond_true, cond_false]
          refine Run.val rfl rfl rfl (ValOk.loadv (i64 B) rfl rfl rfl rfl hA2 rfl) rfl ?_
          refine Run.le ?_ hK
          simp only [d8, d10, d12, d13, h0, Nat.reduceBEq, Bool.false_or, Bool.true_or, cond_true, cond_false]
          exact St.Le.mk' ⟨rfl, rfl, rfl, rfl, rfl, rfl, rfl, rfl, rfl, rfl, rfl, rfl, rfl, rfl, rfl, rfl, rfl, rfl, trivial⟩ ⟨rfl, trivial⟩
        · intro D hid h0 hp hs rest hK
          obtain ⟨d9, -⟩ : AllD D true [9] := ideal_sub hp (by decide +kernel)
          obtain ⟨d11, d12, d13, -⟩ : AllD D false [11, 12, 13] := ideal_sub hs (by decide +kernel)
          simp only [d9, d11, d12, d13, h0, cond_true, cond_false]
          refine Run.go rfl ?_
          refine Run.le ?_ hK
          simp only [d9, d11, d12, d13, h0, Nat.reduceBEq, Bool.false_or, Bool.true_or, cond_true, cond_false]
          exact St.Le.mk' ⟨rfl, rfl, rfl, rfl, rfl, rfl, rfl, rfl, rfl, rfl, rfl, rfl, rfl, rfl, rfl, rfl, rfl, rfl, trivial⟩ ⟨rfl, trivial⟩
        · intro D hid h0 hp hs rest hK
          obtain ⟨d5, d10, -⟩ : AllD D true [5, 10] := ideal_sub hp (by decide +kernel)
          obtain ⟨d12, d13, -⟩ : AllD D false [12, 13] := ideal_sub hs (by decide +kernel)
          simp only [d5, d10, d12, d13, h0, cond_true, cond_false]
          refine Run.go rfl ?_
          refine Run.le ?_ hK
          simp only [d5, d10, d12, d13, h0, Nat.reduceBEq, Bool.false_or, Bool.true_or, cond_true, cond_false]
          exact St.Le.mk' ⟨rfl, rfl, rfl, rfl, rfl, rfl, rfl, rfl, rfl, rfl, rfl, rfl, rfl, rfl, rfl, rfl, rfl, rfl, trivial⟩ ⟨rfl, trivial⟩
        · intro D hid h0 hp hs rest hK
          obtain ⟨d0, d1, d2, d3, d4, d5, d6, d7, d8, d9, d10, d11, -⟩ : AllD D true [0, 1, 2, 3, 4, 5, 6, 7, 8, 9, 10, 11] := ideal_sub hp (by decide +kernel)
          obtain ⟨d13, -⟩ : AllD D false [13] := ideal_sub hs (by decide +kernel)
          simp only [d0, d1, d2, d3, d4, d5, d6, d7, d8, d9, d10, d11, d13, h0, cond_true, cond_false]
          refine Run.val rfl rfl rfl (ValOk.idxv rfl rfl rfl rfl rfl rfl (by omega) (by omega)) rfl ?_
          refine Run.le ?_ hK
          simp only [d0, d1, d2, d3, d4, d5, d6, d7, d8, d9, d10, d11, d13, h0, Nat.reduceBEq, Bool.false_or, Bool.true_or, cond_true, cond_false]
          exact St.Le.mk' ⟨rfl, rfl, rfl, rfl, rfl, rfl, rfl, rfl, rfl, rfl, rfl, rfl, rfl, rfl, rfl, rfl, rfl, rfl, trivial⟩ ⟨rfl, trivial⟩
        · intro D hid h0 hp hs rest hK
          obtain ⟨d0, d1, d2, d3, d4, d5, d6, d7, d8, d9, d10, d11, d12, -⟩ : AllD D true [0, 1, 2, 3, 4, 5, 6, 7, 8, 9, 10, 11, 12] := ideal_sub hp (by decide +kernel)
          simp only [d0, d1, d2, d3, d4, d5, d6, d7, d8, d9, d10, d11, d12, h0, cond_true, cond_false]
          refine Run.storee (i64 (1 + M)) (i64 (if IntKind.i64.wrap (B + 1) > 1 + M then IntKind.i64.wrap (B + 1) else 1 + M)) rfl rfl rfl rfl rfl rfl rfl hA1 rfl rfl rfl ?_
          refine Run.le ?_ hK
          simp only [d0, d1, d2, d3, d4, d5, d6, d7, d8, d9, d10, d11, d12, h0, Nat.reduceBEq, Bool.false_or, Bool.true_or, cond_true, cond_false]
          exact St.Le.mk' ⟨rfl, rfl, rfl, rfl, rfl, rfl, rfl, rfl, rfl, rfl, rfl, rfl, rfl, rfl, rfl, rfl, rfl, rfl, trivial⟩ ⟨rfl, trivial⟩
        repeat (refine Run.go rfl ?_)
        refine Run.of (IH2 (k + 1) ⟨by omega, by omega⟩ (by omega)) ⟨rfl, rfl, rfl, rfl, ?_, trivial⟩ ⟨?_, trivial⟩
        · show i64 _ = _
          rw [wrap_i64 (by omega) (by omega)]
          rfl
        · show Ob.vec 1 true _ = Ob.vec 1 true _
          rw [hst, ← hset]
          congr 2
          · simp
          · congr 1
            rw [wrap_i64 (by omega) (by omega)]
            split <;> omega
      · have h : ¬ uc l[i] l[k] ≤ 0 := of_decide_eq_false h
        rw [if_neg h] at hst
        repeat (refine Run.go rfl ?_)
        refine Run.of (IH2 (k + 1) ⟨by omega, by omega⟩ (by omega)) ⟨rfl, rfl, rfl, rfl, ?_, trivial⟩ ⟨?_, trivial⟩
        · show i64 _ = _
          rw [wrap_i64 (by omega) (by omega)]
          rfl
        · show Ob.vec 1 true _ = Ob.vec 1 true _
          rw [hst, ← hA]
    · have hkl : k = l.length := by simp at h; omega
      subst hkl
      repeat (refine Run.go rfl ?_)
      refine Run.of (IH (t + 1) (by omega) (by omega)) ⟨rfl, rfl, rfl, ?_, trivial⟩ ⟨?_, trivial⟩
      · show i64 _ = i64 _
        rw [wrap_i64 (by omega) (by omega)]
        congr 1
        omega
      · show Ob.vec 1 true _ = Ob.vec 1 true _
        rw [← btL_set hlt, ← hi]
  · have htl : t = l.length := by
      simp at h
      omega
    subst htl
    have hkn : keptL l = (kst l (bh l) (mxa (bh l) l.length) l.length).1 := rfl
    have hm0 := mxa_le (b := bh l) (B := l.length) (by omega) (fun j => by have := bt_le l l.length j; exact this) l.length
    have hbb : ∀ j, 0 ≤ bh l j ∧ bh l j ≤ l.length := fun j => bt_le l l.length j
    have hex := kst_ex l
    have hlt' := kst_lt (l := l) (b := bh l) (m0 := mxa (bh l) l.length)
    have hln := kst_len (l := l) (b := bh l) (m0 := mxa (bh l) l.length)
    have hmx := mxL_bt l
    have hbat : ∀ j, j < l.length → ((btL l l.length).map i64)[0 + (j : Int).toNat]? = some (i64 (bh l j)) := by
      intro j hj
      rw [List.getElem?_map]
      simp [btL_at hj, bh]
    have hbl := btL_len l l.length
    generalize btL l l.length = BL at hmx hbat hbl ⊢
    generalize mxa (bh l) l.length = m0 at hkn hm0 hex hlt' hln hmx
    have hyes : ∀ i, _ → _ → kst l (bh l) m0 (i + 1) = _ := fun i => kst_yes (l := l) (b := bh l) (m0 := m0) (i := i)
    have hno : ∀ i, _ → kst l (bh l) m0 (i + 1) = _ := fun i => kst_no (l := l) (b := bh l) (m0 := m0) (i := i)
    have hstop : ∀ i, _ → ∀ k, kst l (bh l) m0 (i + k) = _ := fun i => kst_stop (l := l) (b := bh l) (m0 := m0) (i := i)
    have hkst0 : kst l (bh l) m0 0 = ([], m0) := rfl
    generalize kst l (bh l) m0 = ks at hkn hex hlt' hln hyes hno hstop hkst0
    repeat (refine Run.go rfl ?_)
    refine Run.nilSlot 7 1 false rfl ?_
    refine Run.buildSlice [i64 0] rfl rfl rfl rfl rfl rfl rfl rfl rfl rfl rfl rfl rfl rfl ?_
    refine Run.appendx rfl rfl rfl rfl rfl rfl rfl rfl rfl rfl rfl rfl (by simp; omega) (by simp; omega) (lt64 BL) rfl (by show (_ + 1) * 8 ≤ _; omega) (by show _ + 1 ≤ _; simp [capMax]; omega) rfl ?_
    refine Run.cs rfl (maxI_ct (BL ++ [0]) false (by simp) (by simp; omega)) (by
      rw [show (BL.map i64).take l.length ++ [i64 0] = (BL ++ [0]).map i64 from by rw [List.take_of_length_le (by simp; omega)]; simp, frz64]) rfl ?_
    rw [hmx]
    repeat (refine Run.go rfl ?_)
    refine Run.loop (fun i : Nat => ⟨[(0, .ro 8 ex (l.map bkA)), (3, i64 l.length), (4, .vec (4, 0) 0 l.length), (7, .own 1 false (nA (ks i).1)), (8, i64 (ks i).2)], [((4, 0), .vec 1 true (BL.map i64))]⟩)
      (fun i => i ≤ l.length ∧ i = if (ks i).1 = [] then 0 else (ks i).1.getLastD 0 + 1) (fun i => l.length - i) 0 ⟨by omega, by rw [hkst0]; rfl⟩ ?_ ?_
    · rw [hkst0]
      exact St.Le.mk' ⟨rfl, rfl, rfl, rfl, rfl, trivial⟩ ⟨rfl, trivial⟩
    rintro i ⟨hi, hfrm⟩ IH
    obtain ⟨hp1, hp2, hp3⟩ := hlt' i
    have hol := hln i
    obtain ⟨o, ho⟩ : ∃ o, o = (ks i).1 := ⟨_, rfl⟩
    obtain ⟨m, hm⟩ : ∃ m, m = (ks i).2 := ⟨_, rfl⟩
    rw [← ho] at hfrm hp1 hp2 hol
    rw [← hm] at hp3
    rw [← ho, ← hm]
    repeat (refine Run.go rfl ?_)
    refine Run.cond rfl (fun h => ?_) (fun h => ?_)
    · have hmp : 0 < m := of_decide_eq_true h
      repeat (refine Run.go rfl ?_)
      refine Run.condJ ⟨[(0, .ro 8 ex (l.map bkA)), (3, i64 l.length), (4, .vec (4, 0) 0 l.length), (7, .vec (7, 0) 0 o.length), (8, i64 m), (9, i64 i)], [((4, 0), .vec 1 true (BL.map i64)), ((7, 0), .vec 1 false (nA o))]⟩ rfl (fun h k' hN => ?_) (fun h k' hN => ?_) ?_
      · have hone : o ≠ [] := by
          rintro rfl
          simp [nA] at h
        rw [if_neg hone] at hfrm
        obtain ⟨o', q, rfl⟩ := list_snoc hone
        have hq : (o' ++ [q]).getLastD 0 = q := by simp
        rw [hq] at hfrm
        have hw : IntKind.i64.wrap (((nA (o' ++ [q])).length : Int) - 1) = (o'.length : Int) := by
          rw [nA_len, wrap_i64 (by omega) (by omega)]
          simp
        repeat (refine Run.go rfl ?_)
        refine Run.val rfl rfl rfl (ValOk.idxv rfl rfl rfl rfl rfl rfl (by rw [hw]; omega) (by rw [hw, nA_len]; simp; omega)) rfl ?_
        repeat (refine Run.go rfl ?_)
        refine Run.val rfl rfl rfl (ValOk.loadv (i64 q) rfl rfl rfl rfl (by rw [hw, nA_snoc]; simp [nA]) rfl) rfl ?_
        repeat (refine Run.go rfl ?_)
        refine Run.of hN ⟨rfl, rfl, rfl, ?_, rfl, ?_, trivial⟩ ⟨rfl, rfl, trivial⟩
        · show AV.vec _ _ _ = _
          rw [nA_len]
        · show i64 _ = _
          rw [wrap_i64 (by omega) (by omega), hfrm]
          rfl
      · have hone : o = [] := by
          simp [nA] at h
          exact h
        rw [if_pos hone] at hfrm
        repeat (refine Run.go rfl ?_)
        refine Run.of hN ⟨rfl, rfl, rfl, ?_, rfl, ?_, trivial⟩ ⟨rfl, rfl, trivial⟩
        · show AV.vec _ _ _ = _
          rw [nA_len]
        · show i64 _ = _
          rw [hfrm]
          rfl
      repeat (refine Run.go rfl ?_)
      refine Run.loop (fun j : Nat => ⟨[(0, .ro 8 ex (l.map bkA)), (3, i64 l.length), (4, .vec (4, 0) 0 l.length), (7, .vec (7, 0) 0 o.length), (8, i64 m), (10, i64 j)], [((4, 0), .vec 1 true (BL.map i64)), ((7, 0), .vec 1 false (nA o))]⟩)
        (fun j => i ≤ j ∧ j ≤ l.length ∧ ks j = ks i) (fun j => l.length - j) i ⟨by omega, by omega, rfl⟩ ?_ ?_
      · exact St.Le.mk' ⟨rfl, rfl, rfl, rfl, rfl, rfl, trivial⟩ ⟨rfl, rfl, trivial⟩
      rintro j ⟨hij, hjl, hkj⟩ IH2
      obtain ⟨j', q1, q2, q3⟩ := hex j hjl (by rw [hkj, ← hm]; exact hmp)
      have hjlt : j < l.length := by omega
      have hbj := hbb j
      have hy := hyes j
      have hn := hno j
      rw [hkj, ← ho, ← hm] at hy hn
      repeat (refine Run.go rfl ?_)
      refine Run.drawS ⟨[(0, .ro 8 ex (l.map bkA)), (3, i64 l.length), (4, .vec (4, 0) 0 l.length), (7, .vec (7, 0) 0 o.length), (8, i64 m), (10, i64 j), (102, bo (kcond l (bh l) o m j))], [((4, 0), .vec 1 true (BL.map i64)), ((7, 0), .vec 1 false (nA o))]⟩ (by kernel_rfl) (by decide +kernel) ?_ ?_
      · repeat (refine Quiet.go rfl ?_)
        refine Quiet.val rfl rfl (ValOk.idxv rfl rfl rfl rfl rfl rfl (by omega) (by omega)) rfl ?_
        repeat (refine Quiet.go rfl ?_)
        refine Quiet.val rfl rfl (ValOk.loadv (i64 (bh l j)) rfl rfl rfl rfl (hbat j hjlt) rfl) rfl ?_
        repeat (refine Quiet.go rfl ?_)
        refine Quiet.bool 81 rfl (fun hb1 => ?_) (fun hb1 => ?_)
        · have hb1 : (bh l j == m) = true := hb1
          repeat (refine Quiet.go rfl ?_)
          refine Quiet.bool 85 rfl (fun hb2 => ?_) (fun hb2 => ?_)
          · have hb2 : ((o.length : Int) == 0) = true := hb2
            repeat (refine Quiet.go rfl ?_)
            refine Quiet.nil (St.Le.mk' ⟨rfl, rfl, rfl, rfl, rfl, rfl, ?_, trivial⟩ ⟨rfl, rfl, trivial⟩)
            show bo true = bo _
            rw [kcond, hb1, hb2]
            rfl
          · have hb2 : ((o.length : Int) == 0) = false := hb2
            have hone : o ≠ [] := by
              rintro rfl
              simp at hb2
            obtain ⟨o', q, ho'⟩ := list_snoc hone
            have hq : o.getLastD 0 = q := by rw [ho']; simp
            have hql : q < l.length := by
              have := hp2 q (by rw [ho']; simp)
              omega
            have hw : IntKind.i64.wrap ((o.length : Int) - 1) = (o'.length : Int) := by
              rw [ho', wrap_i64 (by simp only [List.length_append, List.length_singleton]; omega) (by rw [ho'] at hol; omega)]
              simp
            have hoq : (nA o)[0 + (o'.length : Int).toNat]? = some (i64 q) := by rw [ho', nA_snoc]; simp [nA]
            repeat (refine Quiet.go rfl ?_)
            refine Quiet.val rfl rfl (ValOk.idxv rfl rfl rfl rfl rfl rfl (by rw [hw]; omega) (by rw [hw, ho']; simp; omega)) rfl ?_
            repeat (refine Quiet.go rfl ?_)
            refine Quiet.val rfl rfl (ValOk.loadv (i64 q) rfl rfl rfl rfl (by rw [hw]; exact hoq) rfl) rfl ?_
            repeat (refine Quiet.go rfl ?_)
            refine Quiet.val rfl rfl (ValOk.idx (bkA l[q]) rfl rfl rfl rfl rfl (by omega) (by simp [hql])) rfl ?_
            repeat (refine Quiet.go rfl ?_)
            refine Quiet.val rfl rfl (ValOk.idx (bkA l[j]) rfl rfl rfl rfl rfl (by omega) (by simp [hjlt])) rfl ?_
            repeat (refine Quiet.go rfl ?_)
            refine Quiet.cs rfl rfl rfl rfl rfl (compare_ct l[q] l[j]) rfl rfl ?_
            repeat (refine Quiet.go rfl ?_)
            refine Quiet.nil (St.Le.mk' ⟨rfl, rfl, rfl, rfl, rfl, rfl, ?_, trivial⟩ ⟨rfl, rfl, trivial⟩)
            show bo (decide (uc l[q] l[j] ≤ 0)) = bo _
            rw [kcond, hb1, hb2, hq, show l.getD q bk0 = l[q] by simp [hql], show l.getD j bk0 = l[j] by simp [hjlt]]
            rfl
        · have hb1 : (bh l j == m) = false := hb1
          repeat (refine Quiet.go rfl ?_)
          refine Quiet.nil (St.Le.mk' ⟨rfl, rfl, rfl, rfl, rfl, rfl, ?_, trivial⟩ ⟨rfl, rfl, trivial⟩)
          show bo false = bo _
          rw [kcond, hb1]
          rfl
      refine Run.cond rfl (fun h => ?_) (fun h => ?_)
      · have h : kcond l (bh l) o m j = true := h
        have hy := hy hmp h
        repeat (refine Run.go rfl ?_)
        refine Run.buildSlice [i64 j] rfl rfl rfl rfl rfl rfl rfl rfl rfl rfl rfl rfl rfl rfl ?_
        refine Run.appendo rfl rfl rfl rfl rfl rfl rfl rfl rfl rfl rfl rfl (nA_len o).symm rfl (by show (_ + 1) * 8 ≤ _; rw [nA_len]; omega) (by simp [capMax, nA_len]; omega) (by decide) rfl ?_
        repeat (refine Run.go rfl ?_)
        refine Run.of (IH (j + 1) ⟨by omega, ?_⟩ (by omega)) ⟨rfl, rfl, rfl, ?_, ?_, trivial⟩ ⟨rfl, trivial⟩
        · rw [hy]
          simp
        · rw [hy, nA_snoc]
          rfl
        · rw [hy]
          show i64 _ = i64 _
          rw [wrap_i64 (by omega) (by omega)]
      · have h : kcond l (bh l) o m j = false := h
        have hn := hn h
        repeat (refine Run.go rfl ?_)
        refine Run.of (IH2 (j + 1) ⟨by omega, by omega, ?_⟩ (by omega)) ⟨rfl, rfl, rfl, rfl, rfl, ?_, trivial⟩ ⟨rfl, rfl, trivial⟩
        · rw [hn]
        · show i64 _ = _
          rw [wrap_i64 (by omega) (by omega)]
          rfl
    · have hmn : ¬ 0 < m := of_decide_eq_false h
      repeat (refine Run.go rfl ?_)
      have := hstop i (by rw [← hm]; omega) (l.length - i)
      rw [show i + (l.length - i) = l.length by omega] at this
      refine Run.pack 2 rfl rfl rfl ?_
      refine Run.ret hg rfl ?_
      rw [hkn, this, ← ho]
      rfl

noncomputable def X95 : Fx := ⟨Tryz.prog, tys, 95, Tryz.f95, [0]⟩
theorem X95_ok : X95.Ok := ⟨Tryz.func95, tys_ok⟩
theorem l03Kept_ct (l : List Bk) (ex : Bool) (hl : l.length ≤ 1048576 ∧ ∀ x ∈ l, bkRng x) : Ct Tryz.prog 95 [.ro 8 ex (l.map bkA)] (.own 1 false (nA (keptL l))) [] := by
  have hbeh := l03Behind_ct l ex hl
  obtain ⟨hlen, hr⟩ := hl
  have hkn : keptL l = (kst l (bh l) (mxa (bh l) l.length) l.length).1 := rfl
  have hbb : ∀ j, 0 ≤ bh l j ∧ bh l j ≤ l.length := fun j => bt_le l l.length j
  have hlt' := kst_lt (l := l) (b := bh l) (m0 := mxa (bh l) l.length)
  have hln := kst_len (l := l) (b := bh l) (m0 := mxa (bh l) l.length)
  have hm0 := mxa_le (b := bh l) (B := l.length) (by omega) hbb l.length
  have hbat : ∀ j, j < l.length → ((btL l l.length).map i64)[0 + (j : Int).toNat]? = some (i64 (bh l j)) := by
    intro j hj
    rw [List.getElem?_map]
    simp [btL_at hj, bh]
  have hbl := btL_len l l.length
  generalize btL l l.length = BL at hbat hbl hbeh
  have hyes : ∀ i, _ → _ → kst l (bh l) (mxa (bh l) l.length) (i + 1) = _ := fun i => kst_yes (l := l) (b := bh l) (m0 := mxa (bh l) l.length) (i := i)
  have hno : ∀ i, _ → kst l (bh l) (mxa (bh l) l.length) (i + 1) = _ := fun i => kst_no (l := l) (b := bh l) (m0 := mxa (bh l) l.length) (i := i)
  have hstop : ∀ i, _ → ∀ k, kst l (bh l) (mxa (bh l) l.length) (i + k) = _ := fun i => kst_stop (l := l) (b := bh l) (m0 := mxa (bh l) l.length) (i := i)
  have hkst0 : kst l (bh l) (mxa (bh l) l.length) 0 = ([], mxa (bh l) l.length) := rfl
  generalize kst l (bh l) (mxa (bh l) l.length) = ks at hkn hlt' hln hyes hno hstop hkst0
  refine Ct.intro X95 X95_ok rfl rfl rfl rfl fun g hg => ?_
  repeat (refine Run.go rfl ?_)
  refine Run.cs rfl hbeh rfl (rf64 _) ?_
  repeat (refine Run.go rfl ?_)
  refine Run.unpack 3 rfl rfl ?_
  refine Run.loop (fun j : Nat => ⟨[(0, .ro 8 ex (l.map bkA)), (3, .vec (3, 0) 0 l.length), (4, i64 (mxa (bh l) j)), (5, i64 j)], [((3, 0), .vec 1 true (BL.map i64))]⟩) (fun j => j ≤ l.length) (fun j => l.length - j) 0 (by omega) ?_ ?_
  · refine St.Le.mk' ⟨rfl, ?_, rfl, rfl, trivial⟩ ⟨rfl, trivial⟩
    show AV.vec _ _ _ = _
    rw [List.length_map, hbl]
  · intro j hj IH
    repeat (refine Run.go rfl ?_)
    refine Run.cond rfl (fun h => ?_) (fun h => ?_)
    · have hlt : j < l.length := by simpa using h
      repeat (refine Run.go rfl ?_)
      refine Run.val rfl rfl rfl (ValOk.idxv rfl rfl rfl rfl rfl rfl (by omega) (by omega)) rfl ?_
      repeat (refine Run.go rfl ?_)
      refine Run.val rfl rfl rfl (ValOk.loadv (i64 (bh l j)) rfl rfl rfl rfl (hbat j hlt) rfl) rfl ?_
      repeat (refine Run.go rfl ?_)
      refine Run.cs rfl (l00Max_ct (mxa (bh l) j) (bh l j)) rfl rfl ?_
      repeat (refine Run.go rfl ?_)
      refine Run.of (IH (j + 1) (by omega) (by omega)) ⟨rfl, rfl, rfl, ?_, trivial⟩ ⟨rfl, trivial⟩
      show i64 _ = _
      rw [wrap_i64 (by omega) (by omega)]
      rfl
    · have hj' : j = l.length := by simp at h; omega
      subst hj'
      generalize mxa (bh l) l.length = m0 at hm0 hlt' hkst0
      repeat (refine Run.go rfl ?_)
      refine Run.buildSlice [] rfl rfl rfl rfl rfl rfl rfl rfl rfl rfl rfl rfl rfl rfl ?_
      repeat (refine Run.go rfl ?_)
      refine Run.loosen0 6 rfl ?_
      refine Run.loop (fun i : Nat => ⟨[(0, .ro 8 ex (l.map bkA)), (3, .vec (3, 0) 0 l.length), (4, i64 (ks i).2), (6, .own 1 false (nA (ks i).1)), (7, i64 (if (ks i).1 = [] then -1 else (((ks i).1.getLastD 0 : Nat) : Int))), (8, i64 i)], [((3, 0), .vec 1 true (BL.map i64))]⟩)
        (fun i => i ≤ l.length) (fun i => l.length - i) 0 (by omega) ?_ ?_
      · rw [hkst0]
        exact St.Le.mk' ⟨rfl, rfl, rfl, rfl, rfl, rfl, trivial⟩ ⟨rfl, trivial⟩
      intro i hi IH3
      obtain ⟨hp1, hp2, hp3⟩ := hlt' i
      have hol := hln i
      have hy := hyes i
      have hn := hno i
      have hst := hstop i
      obtain ⟨o, ho⟩ : ∃ o, o = (ks i).1 := ⟨_, rfl⟩
      obtain ⟨m, hm⟩ : ∃ m, m = (ks i).2 := ⟨_, rfl⟩
      rw [← ho] at hp1 hp2 hol hy hn
      rw [← hm] at hp3 hy hn hst
      rw [← ho, ← hm]
      have hfin : m ≤ 0 ∨ i = l.length → (ks l.length).1 = o := by
        rintro (h | rfl)
        · have := hst h (l.length - i)
          rw [show i + (l.length - i) = l.length by omega] at this
          rw [this, ho]
        · exact ho.symm
      repeat (refine Run.go rfl ?_)
      refine Run.bool 28 rfl (fun h1 => ?_) (fun h1 => ?_)
      · have hlt : i < l.length := by
          have h1 : decide ((i : Int) < _) = true := h1
          simpa using h1
        repeat (refine Run.go rfl ?_)
        refine Run.cond rfl (fun h => ?_) (fun h => ?_)
        · have hmp : 0 < m := of_decide_eq_true h
          have hbj := hbb i
          repeat (refine Run.go rfl ?_)
          refine Run.drawS ⟨[(0, .ro 8 ex (l.map bkA)), (3, .vec (3, 0) 0 l.length), (4, i64 m), (6, .own 1 false (nA o)), (7, i64 (if o = [] then -1 else ((o.getLastD 0 : Nat) : Int))), (8, i64 i), (53, bo (kcond l (bh l) o m i))], [((3, 0), .vec 1 true (BL.map i64))]⟩ (by kernel_rfl) (by decide +kernel) ?_ ?_
          · repeat (refine Quiet.go rfl ?_)
            refine Quiet.val rfl rfl (ValOk.idxv rfl rfl rfl rfl rfl rfl (by omega) (by omega)) rfl ?_
            repeat (refine Quiet.go rfl ?_)
            refine Quiet.val rfl rfl (ValOk.loadv (i64 (bh l i)) rfl rfl rfl rfl (hbat i hlt) rfl) rfl ?_
            repeat (refine Quiet.go rfl ?_)
            refine Quiet.bool 40 rfl (fun hb1 => ?_) (fun hb1 => ?_)
            · have hb1 : (bh l i == m) = true := hb1
              by_cases hone : o = []
              · subst hone
                repeat (refine Quiet.go rfl ?_)
                refine Quiet.bool 43 rfl (fun hb2 => ?_) (fun hb2 => by simp at hb2)
                repeat (refine Quiet.go rfl ?_)
                refine Quiet.nil (St.Le.mk' ⟨rfl, rfl, rfl, rfl, rfl, rfl, ?_, trivial⟩ ⟨rfl, trivial⟩)
                show bo true = bo _
                rw [kcond, hb1]
                rfl
              · obtain ⟨o', q, ho'⟩ := list_snoc hone
                have hq : o.getLastD 0 = q := by rw [ho']; simp
                have hql : q < l.length := by
                  have := hp2 q (by rw [ho']; simp)
                  omega
                rw [if_neg hone, hq]
                repeat (refine Quiet.go rfl ?_)
                refine Quiet.bool 43 rfl (fun hb2 => by simp at hb2; omega) (fun hb2 => ?_)
                repeat (refine Quiet.go rfl ?_)
                refine Quiet.val rfl rfl (ValOk.idx (bkA l[i]) rfl rfl rfl rfl rfl (by omega) (by simp [hlt])) rfl ?_
                repeat (refine Quiet.go rfl ?_)
                refine Quiet.val rfl rfl (ValOk.idx (bkA l[q]) rfl rfl rfl rfl rfl (by omega) (by simp [hql])) rfl ?_
                repeat (refine Quiet.go rfl ?_)
                refine Quiet.cs rfl rfl rfl rfl rfl (l01Usual_ct l[i] l[q] (hr _ (by simp)) (hr _ (by simp))) rfl rfl ?_
                repeat (refine Quiet.go rfl ?_)
                refine Quiet.nil (St.Le.mk' ⟨rfl, rfl, rfl, rfl, rfl, rfl, ?_, trivial⟩ ⟨rfl, trivial⟩)
                show bo (decide (0 ≤ uc l[i] l[q])) = bo _
                rw [kcond, hb1, hq, show l.getD q bk0 = l[q] by simp [hql], show l.getD i bk0 = l[i] by simp [hlt], uc_anti l[q] l[i],
                  show ((o.length : Int) == 0) = false by rw [ho']; simp; omega]
                rw [Bool.true_and, Bool.false_or]
                congr 1
                rw [decide_eq_decide]
                omega
            · have hb1 : (bh l i == m) = false := hb1
              repeat (refine Quiet.go rfl ?_)
              refine Quiet.nil (St.Le.mk' ⟨rfl, rfl, rfl, rfl, rfl, rfl, ?_, trivial⟩ ⟨rfl, trivial⟩)
              show bo false = bo _
              rw [kcond, hb1]
              rfl
          refine Run.cond rfl (fun h => ?_) (fun h => ?_)
          · have h : kcond l (bh l) o m i = true := h
            have hy := hy hmp h
            repeat (refine Run.go rfl ?_)
            refine Run.buildSlice [i64 i] rfl rfl rfl rfl rfl rfl rfl rfl rfl rfl rfl rfl rfl rfl ?_
            refine Run.appendo rfl rfl rfl rfl rfl rfl rfl rfl rfl rfl rfl rfl rfl rfl (by show (_ + 1) * 8 ≤ _; rw [nA_len]; omega) (by simp [capMax, nA_len]; omega) (by decide) rfl ?_
            repeat (refine Run.go rfl ?_)
            refine Run.of (IH3 (i + 1) (by omega) (by omega)) ⟨rfl, rfl, ?_, ?_, ?_, ?_, trivial⟩ ⟨rfl, trivial⟩
            · rw [hy]
              show i64 _ = i64 _
              rw [wrap_i64 (by omega) (by omega)]
            · rw [hy, nA_snoc]
              rfl
            · rw [hy]
              show i64 (i : Int) = i64 (if o ++ [i] = [] then -1 else (((o ++ [i]).getLastD 0 : Nat) : Int))
              rw [if_neg (show ¬ o ++ [i] = [] by simp), show (o ++ [i]).getLastD 0 = i by simp]
            · show i64 _ = _
              rw [wrap_i64 (by omega) (by omega)]
              rfl
          · have h : kcond l (bh l) o m i = false := h
            have hn := hn h
            repeat (refine Run.go rfl ?_)
            refine Run.of (IH3 (i + 1) (by omega) (by omega)) ⟨rfl, rfl, ?_, ?_, ?_, ?_, trivial⟩ ⟨rfl, trivial⟩
            · rw [hn, ← hm]
              rfl
            · rw [hn, ← ho]
              rfl
            · rw [hn, ← ho]
              rfl
            · show i64 _ = _
              rw [wrap_i64 (by omega) (by omega)]
              rfl
        · have hmn : ¬ 0 < m := of_decide_eq_false h
          repeat (refine Run.go rfl ?_)
          refine Run.pack 2 rfl rfl rfl ?_
          refine Run.ret hg rfl ?_
          rw [hkn, hfin (.inl (by omega))]
          rfl
      · have hge : i = l.length := by
          have h1 : decide ((i : Int) < _) = false := h1
          simp at h1
          omega
        repeat (refine Run.go rfl ?_)
        refine Run.cond rfl (fun h => by simp at h) (fun h => ?_)
        repeat (refine Run.go rfl ?_)
        refine Run.pack 2 rfl rfl rfl ?_
        refine Run.ret hg rfl ?_
        rw [hkn, hfin (.inr hge)]
        rfl
end Go.Proofs.YtenknlnnnicdeaaGreatDoor

/- Contracts of the program's functions, and what follows from them. -/
set_option maxRecDepth 100000
namespace Go.Proofs.YtenknlnnnicdeaaGreatDoor
open Go Go.Av

/-! The books out of place. -/

noncomputable def X124 : Fx := ⟨Tryz.prog, tys, 124, Tryz.f124, [0, 1]⟩
theorem X124_ok : X124.Ok := ⟨Tryz.func124, tys_ok⟩
theorem indexInt_ct (l : List Int) (ex : Bool) (n : Int) (hlen : l.length ≤ 1048576) : Ct Tryz.prog 124 [.ro 1 ex (l.map i64), i64 n] (i64 (fi (fun x => x == n) l)) [] := by
  refine Ct.intro X124 X124_ok rfl rfl rfl rfl fun g hg => ?_
  repeat (refine Run.go rfl ?_)
  refine Run.loop (fun j : Nat => ⟨[(0, .ro 1 ex (l.map i64)), (1, i64 n), (7, i64 l.length), (8, i64 j)], []⟩) (fun j => j ≤ l.length ∧ j ≤ l.findIdx (fun x => x == n)) (fun j => l.length - j) 0 ⟨by omega, by omega⟩ ?_ ?_
  · refine St.Le.mk' ⟨rfl, rfl, ?_, rfl, trivial⟩ trivial
    show i64 (l.map i64).length = _
    simp
  · rintro j ⟨hj1, hj2⟩ IH
    repeat (refine Run.go rfl ?_)
    refine Run.cond rfl (fun h => ?_) (fun h => ?_)
    · have hlt : j < l.length := by simpa using h
      repeat (refine Run.go rfl ?_)
      refine Run.val rfl rfl rfl (ValOk.idx (i64 l[j]) rfl rfl rfl rfl rfl (by omega) (by simp [hlt])) rfl ?_
      repeat (refine Run.go rfl ?_)
      refine Run.cond rfl (fun h => ?_) (fun h => ?_)
      · have h : (l[j] == n) = true := by simp at h; simp [h]
        repeat (refine Run.go rfl ?_)
        refine Run.ret hg rfl ?_
        show i64 _ = _
        rw [fi_at hlt h hj2]
      · have h : (l[j] == n) = false := by simp at h; simp; omega
        repeat (refine Run.go rfl ?_)
        refine Run.of (IH (j + 1) ⟨by omega, fi_next hlt h hj2⟩ (by omega)) ⟨rfl, rfl, rfl, ?_, trivial⟩ trivial
        show i64 _ = _
        rw [wrap_i64 (by omega) (by omega)]
        rfl
    · repeat (refine Run.go rfl ?_)
      have hj : j = l.length := by simp at h; omega
      refine Run.ret hg rfl ?_
      show i64 (-1) = _
      rw [fi_none (by omega)]

noncomputable def X92 : Fx := ⟨Tryz.prog, tys, 92, Tryz.f92, [0, 1]⟩
theorem X92_ok : X92.Ok := ⟨Tryz.func92, tys_ok⟩
theorem containsInt_ct (l : List Int) (ex : Bool) (n : Int) (hlen : l.length ≤ 1048576) : Ct Tryz.prog 92 [.ro 1 ex (l.map i64), i64 n] (bo (l.any fun x => x == n)) [] := by
  refine Ct.intro X92 X92_ok rfl (by kernel_rfl) rfl rfl fun g hg => ?_
  repeat (refine Run.go rfl ?_)
  refine Run.cs rfl (indexInt_ct l ex n hlen) rfl rfl ?_
  repeat (refine Run.go rfl ?_)
  refine Run.ret hg rfl ?_
  show bo (decide (0 ≤ fi _ _)) = _
  rw [fi_nonneg]

theorem lt_deleteI_ct (L : List Int) : (flatc (L.map i64)).all isLT = true := lt64 L

noncomputable def X89 : Fx := ⟨Tryz.prog, tys, 89, Tryz.f89, []⟩
theorem X89_ok : X89.Ok := ⟨Tryz.func89, tys_ok⟩
theorem deleteI_ct (L : List Int) (ex : Bool) (f : Nat) (cs : List AV) (p : Int → Bool) (hlen : L.length ≤ 1048576) (hf : ∀ x ∈ L, Ct Tryz.prog f [i64 x, .rp cs 0] (bo (p x)) []) :
    Ct Tryz.prog 89 [.own 1 ex (L.map i64), .fn f [.rp cs 0]] (.own 1 false ((L.filter fun x => !p x).map i64)) [] := by
  refine Ct.intro X89 X89_ok rfl (by kernel_rfl) rfl rfl fun g hg => ?_
  repeat (refine Run.go rfl ?_)
  refine Run.cs rfl (indexI_ct L ex f [.rp cs 0] p hlen rfl hf) (by rw [frz64, decide_eq_true (by simp)]; rfl) rfl ?_
  repeat (refine Run.go rfl ?_)
  refine Run.cond rfl (fun h => ?_) (fun h => ?_)
  · have h : fi p L = -1 := by simpa using h
    have hnone : L.filter (fun x => !p x) = L := by
      rw [List.filter_eq_self]
      intro x hx
      have hany : L.any p = false := by
        rw [← fi_nonneg, h]
        rfl
      have := List.any_eq_false.1 hany x hx
      simpa using this
    repeat (refine Run.go rfl ?_)
    refine Run.packTake 4 rfl rfl (Nat.le_refl _) ?_
    refine Run.ret hg rfl ?_
    rw [hnone, List.take_length]
    rfl
  have h : fi p L ≠ -1 := by simpa using h
  have hi0 : L.findIdx p < L.length := by
    unfold fi at h
    split at h
    · assumption
    · exact absurd rfl h
  have hfi : fi p L = (L.findIdx p : Int) := by
    unfold fi
    rw [if_pos hi0]
  have hpi : p (L[L.findIdx p]) = true := List.findIdx_getElem
  have hfl0 : (L.take (L.findIdx p + 1)).filter (fun x => !p x) = L.take (L.findIdx p) := by
    rw [List.take_succ_eq_append_getElem hi0, List.filter_append, List.filter_cons, hpi]
    simp only [Bool.not_true, Bool.false_eq_true, if_false, List.filter_nil, List.append_nil]
    rw [List.filter_eq_self]
    intro x hx
    obtain ⟨q, hq, rfl⟩ := List.getElem_of_mem hx
    have hq2 : q < L.findIdx p := by simp at hq; omega
    have := List.not_of_lt_findIdx hq2
    simp only [List.getElem_take]
    simpa using this
  rw [hfi]
  generalize L.findIdx p = i0 at hi0 hfl0
  repeat (refine Run.go rfl ?_)
  refine Run.loop (fun j : Nat => ⟨[(0, .vec (0, 0) 0 L.length), (1, .fn f [.rp cs 0]), (5, i64 ((L.take j).filter (fun x => !p x)).length), (6, i64 j)], [((0, 0), .vec 1 ex (((L.take j).filter (fun x => !p x) ++ L.drop ((L.take j).filter (fun x => !p x)).length).map i64))]⟩)
    (fun j => j ≤ L.length ∧ ((L.take j).filter (fun x => !p x)).length < j) (fun j => L.length - j) (i0 + 1) ⟨by omega, by rw [hfl0]; simp; omega⟩ ?_ ?_
  · refine St.Le.mk' ⟨?_, rfl, ?_, ?_, trivial⟩ ⟨?_, trivial⟩
    · show AV.vec _ _ (L.map i64).length = _
      rw [List.length_map]
    · show i64 (i0 : Int) = i64 _
      rw [hfl0, List.length_take, Nat.min_eq_left (by omega)]
    · show i64 _ = _
      rw [wrap_i64 (by omega) (by omega)]
      rfl
    · show Ob.vec _ _ _ = Ob.vec _ _ _
      rw [hfl0, List.length_take, Nat.min_eq_left (by omega), List.take_append_drop]
  rintro j ⟨hj, hlt0⟩ IH
  obtain ⟨fl, hfl⟩ : ∃ fl, fl = (L.take j).filter (fun x => !p x) := ⟨_, rfl⟩
  rw [← hfl] at hlt0
  rw [← hfl]
  repeat (refine Run.go rfl ?_)
  refine Run.cond rfl (fun h => ?_) (fun h => ?_)
  · have hlt : j < L.length := by simpa using h
    have hat : ((fl ++ L.drop fl.length).map i64)[0 + (j : Int).toNat]? = some (i64 L[j]) := by
      rw [List.getElem?_map, Nat.zero_add, Int.toNat_natCast, List.getElem?_append_right (by omega), List.getElem?_drop, show fl.length + (j - fl.length) = j by omega, List.getElem?_eq_getElem hlt]
      rfl
    have hat2 : ((fl ++ L.drop fl.length).map i64)[0 + (fl.length : Int).toNat]? = some (i64 (L[fl.length]'(by omega))) := by
      rw [List.getElem?_map, Nat.zero_add, Int.toNat_natCast, List.getElem?_append_right (by omega), List.getElem?_drop, Nat.sub_self, Nat.add_zero, List.getElem?_eq_getElem (by omega)]
      rfl
    have hnext : (L.take (j + 1)).filter (fun x => !p x) = if p L[j] = true then fl else fl ++ [L[j]] := by
      rw [List.take_succ_eq_append_getElem hlt, List.filter_append, ← hfl, List.filter_cons]
      cases p L[j] <;> simp
    have hseta : ((fl ++ L.drop fl.length).map i64).set (0 + (fl.length : Int).toNat) (i64 L[j]) = (fl ++ [L[j]] ++ L.drop (fl.length + 1)).map i64 := by
      rw [← List.map_set, Nat.zero_add, Int.toNat_natCast, List.set_append, if_neg (by omega), Nat.sub_self, List.append_assoc]
      congr 2
      rw [List.drop_eq_getElem_cons (i := fl.length) (by omega)]
      rfl
    have hml : 0 + (j : Int) < (L.length : Int) := by omega
    have hcl : ((fl ++ L.drop fl.length).map i64).length = L.length := by simp; omega
    generalize hC : (fl ++ L.drop fl.length).map i64 = C at hat hat2 hseta hcl
    repeat (refine Run.go rfl ?_)
    refine Run.val rfl rfl rfl (ValOk.idxv rfl rfl rfl rfl rfl rfl (by omega) (by omega)) rfl ?_
    repeat (refine Run.go rfl ?_)
    refine Run.val rfl rfl rfl (ValOk.loadv (i64 L[j]) rfl rfl rfl rfl hat rfl) rfl ?_
    repeat (refine Run.go rfl ?_)
    refine Run.cs rfl (hf L[j] (by simp)) rfl rfl ?_
    repeat (refine Run.go rfl ?_)
    refine Run.cond rfl (fun h => ?_) (fun h => ?_)
    · have h : p L[j] = false := by simpa using h
      rw [if_neg (by rw [h]; decide)] at hnext
      repeat (refine Run.go rfl ?_)
      refine Run.val rfl rfl rfl (ValOk.idxv rfl rfl rfl rfl rfl rfl (by omega) (by omega)) rfl ?_
      refine Run.storee (i64 (L[fl.length]'(by omega))) (i64 L[j]) rfl rfl rfl rfl rfl rfl rfl hat2 rfl rfl rfl ?_
      repeat (refine Run.go rfl ?_)
      refine Run.of (IH (j + 1) ⟨by omega, by rw [hnext]; simp; omega⟩ (by omega)) ⟨rfl, rfl, ?_, ?_, trivial⟩ ⟨?_, trivial⟩
      · show i64 _ = i64 _
        rw [wrap_i64 (by omega) (by omega), hnext]
        congr 1
        simp
      · show i64 _ = _
        rw [wrap_i64 (by omega) (by omega)]
        rfl
      · show Ob.vec _ _ _ = Ob.vec _ _ _
        rw [hseta, hnext]
        congr 3
        simp
    · have h : p L[j] = true := by simpa using h
      rw [if_pos h] at hnext
      repeat (refine Run.go rfl ?_)
      refine Run.of (IH (j + 1) ⟨by omega, by rw [hnext]; omega⟩ (by omega)) ⟨rfl, rfl, ?_, ?_, trivial⟩ ⟨?_, trivial⟩
      · show i64 _ = i64 _
        rw [hnext]
      · show i64 _ = _
        rw [wrap_i64 (by omega) (by omega)]
        rfl
      · show Ob.vec _ _ _ = Ob.vec _ _ _
        rw [hnext, hC]
  · have hj' : j = L.length := by simp at h; omega
    subst hj'
    rw [List.take_length] at hfl
    have hcl : ((fl ++ L.drop fl.length).map i64).length = L.length := by simp; omega
    repeat (refine Run.go rfl ?_)
    refine Run.val rfl rfl rfl (ValOk.cutv rfl rfl rfl rfl rfl rfl rfl (by omega) (by omega) (by omega)) rfl ?_
    refine Run.clearv (i64 0) rfl rfl rfl rfl rfl rfl rfl rfl rfl rfl rfl rfl (lt_deleteI_ct _) (by rw [hcl]; omega) ?_
    repeat (refine Run.go rfl ?_)
    refine Run.val rfl rfl rfl (ValOk.cutv rfl rfl rfl rfl rfl rfl rfl (by omega) (by omega) (by omega)) rfl ?_
    repeat (refine Run.go rfl ?_)
    refine Run.packTake 4 rfl rfl (by first | (simp; done) | (simp; omega)) ?_
    refine Run.ret hg rfl ?_
    rw [← hfl]
    show AV.own _ _ _ = AV.own _ _ _
    congr 1
    simp only [Int.toNat_natCast, Int.toNat_zero, Nat.sub_zero, Nat.zero_add]
    rw [List.append_assoc, List.take_append_of_le_length (by simp), List.take_take, Nat.min_self, List.map_append, List.take_append_of_le_length (by simp), List.take_of_length_le (by simp)]

noncomputable def X93 : Fx := ⟨Tryz.prog, tys, 93, Tryz.f93, [0]⟩
theorem X93_ok : X93.Ok := ⟨Tryz.func93, tys_ok⟩
theorem wide_ct (n : Int) : Ct Tryz.prog 93 [i64 n] (i64 n) [] := by
  refine Ct.intro X93 X93_ok rfl rfl rfl rfl fun g hg => ?_
  repeat (refine Run.go rfl ?_)
  exact Run.ret hg rfl rfl

noncomputable def X88 : Fx := ⟨Tryz.prog, tys, 88, Tryz.f88, [1]⟩
theorem X88_ok : X88.Ok := ⟨Tryz.func88, tys_ok⟩
theorem eachI_ct (L : List Int) (ex : Bool) (f : Nat) (hlen : L.length ≤ 1048576) (hf : ∀ x ∈ L, Ct Tryz.prog f [i64 x] (i64 x) []) : Ct Tryz.prog 88 [.ro 1 ex (L.map i64), .fn f []] (.own 1 false (L.map i64)) [] := by
  refine Ct.intro X88 X88_ok rfl (by kernel_rfl) rfl rfl fun g hg => ?_
  repeat (refine Run.go rfl ?_)
  refine Run.nilSlot 5 1 false rfl ?_
  refine Run.loop (fun j : Nat => ⟨[(1, .fn f []), (5, .own 1 false ((L.take j).map i64)), (8, .ro 1 ex (L.map i64)), (9, i64 L.length), (10, i64 j)], []⟩) (fun j => j ≤ L.length) (fun j => L.length - j) 0 (by omega) ?_ ?_
  · refine St.Le.mk' ⟨rfl, rfl, rfl, ?_, rfl, trivial⟩ trivial
    show i64 _ = _
    simp
  intro j hj IH
  repeat (refine Run.go rfl ?_)
  refine Run.cond rfl (fun h => ?_) (fun h => ?_)
  · have hlt : j < L.length := by simpa using h
    have htl : (L.take j).length = j := by simp; omega
    repeat (refine Run.go rfl ?_)
    refine Run.val rfl rfl rfl (ValOk.idx (i64 L[j]) rfl rfl rfl rfl rfl (by omega) (by simp [hlt])) rfl ?_
    repeat (refine Run.go rfl ?_)
    refine Run.cs rfl (hf L[j] (by simp)) rfl rfl ?_
    refine Run.buildSlice [i64 L[j]] rfl rfl rfl rfl rfl rfl rfl rfl rfl rfl rfl rfl rfl rfl ?_
    refine Run.appendo rfl rfl rfl rfl rfl rfl rfl rfl rfl rfl rfl rfl rfl rfl (by show (_ + 1) * 8 ≤ _; simp; omega) (by simp [capMax]; omega) (by decide) rfl ?_
    repeat (refine Run.go rfl ?_)
    refine Run.of (IH (j + 1) (by omega) (by omega)) ⟨rfl, ?_, rfl, rfl, ?_, trivial⟩ trivial
    · rw [List.take_succ_eq_append_getElem hlt, List.map_append]
      rfl
    · show i64 _ = _
      rw [wrap_i64 (by omega) (by omega)]
      rfl
  · have hj' : j = L.length := by simp at h; omega
    subst hj'
    repeat (refine Run.go rfl ?_)
    refine Run.pack 4 rfl rfl rfl ?_
    refine Run.ret hg rfl ?_
    rw [List.take_length]
    rfl

def oop (l : List Bk) : List Nat := (List.range l.length).filter fun i => !(keptL l).any fun k => k == i
theorem oop_lt (l : List Bk) : ∀ x ∈ oop l, x < l.length := by
  intro x hx
  simp only [oop, List.mem_filter, List.mem_range] at hx
  exact hx.1
theorem oop_le (l : List Bk) : (oop l).length ≤ l.length := by
  unfold oop
  refine Nat.le_trans (List.length_filter_le _ _) ?_
  simp
theorem kept_le (l : List Bk) : (keptL l).length ≤ l.length := kst_len _
theorem kept_any (l : List Bk) (i : Nat) : ((keptL l).map fun k : Nat => (k : Int)).any (fun x => x == (i : Int)) = (keptL l).any fun k => k == i := by
  rw [List.any_map]
  congr 1
  funext k
  simp only [Function.comp]
  rw [Bool.eq_iff_iff, beq_iff_eq, beq_iff_eq]
  omega
theorem oop_len (l : List Bk) : (oop l).length + (keptL l).length = l.length := by
  have hk := kst_lt (l := l) (b := bh l) (m0 := mxa (bh l) l.length) l.length
  have hnd : (keptL l).Nodup := hk.1.imp fun h => Nat.ne_of_lt h
  have hp : ((List.range l.length).filter fun i => (keptL l).any fun k => k == i).Perm (keptL l) := by
    rw [List.perm_ext_iff_of_nodup (List.Pairwise.filter _ List.nodup_range) hnd]
    intro x
    simp only [List.mem_filter, List.mem_range, List.any_eq_true, beq_iff_eq]
    constructor
    · rintro ⟨_, k, hk, rfl⟩
      exact hk
    · intro hx
      exact ⟨hk.2.1 x hx, x, hx, rfl⟩
  have h1 := hp.length_eq
  have h2 := List.length_eq_countP_add_countP (fun i => (keptL l).any fun k => k == i) (l := List.range l.length)
  rw [List.length_range, List.countP_eq_length_filter, List.countP_eq_length_filter] at h2
  unfold oop
  simp only [decide_not, Bool.decide_eq_true] at h2
  omega

noncomputable def X91 : Fx := ⟨Tryz.prog, tys, 91, Tryz.f91, [0, 1]⟩
theorem X91_ok : X91.Ok := ⟨Tryz.func91, tys_ok⟩
theorem outOfPlace1_ct (K : List Int) (ex : Bool) (n : Int) (hlen : K.length ≤ 1048576) : Ct Tryz.prog 91 [i64 n, .rp [.ro 1 ex (K.map i64)] 0] (bo (K.any fun x => x == n)) [] := by
  refine Ct.intro X91 X91_ok rfl rfl rfl rfl fun g hg => ?_
  repeat (refine Run.go rfl ?_)
  refine Run.cs rfl (containsInt_ct K ex n hlen) rfl rfl ?_
  repeat (refine Run.go rfl ?_)
  exact Run.ret hg rfl rfl

noncomputable def X45 : Fx := ⟨Tryz.prog, tys, 45, Tryz.f45, [0]⟩
theorem X45_ok : X45.Ok := ⟨Tryz.func45, tys_ok⟩
theorem outOfPlace_ct (l : List Bk) (ex : Bool) (hl : l.length ≤ 1048576 ∧ ∀ x ∈ l, bkRng x) : Ct Tryz.prog 45 [.ro 8 ex (l.map bkA)] (.own 1 false (nA (oop l))) [] := by
  have hkl := kept_le l
  refine Ct.intro X45 X45_ok rfl rfl rfl rfl fun g hg => ?_
  repeat (refine Run.go rfl ?_)
  refine Run.cs rfl (kept_ct l ex hl) rfl (nA_rf _) ?_
  refine Run.unpack 5 rfl rfl ?_
  iterate 2 (refine Run.go rfl ?_)
  refine Run.packBox (3, 0) 0 rfl rfl rfl rfl ?_
  refine Run.freezeBox 3 (3, 0) [.ro 1 false (((keptL l).map fun k : Nat => (k : Int)).map i64)] rfl rfl (by rw [nA_eq]; show [AV.ro 1 false (AV.frzL _)] = _; rw [frz64]) rfl ?_
  repeat (refine Run.go rfl ?_)
  refine Run.cs rfl (upTo_ct l.length hl.1) (by rw [List.length_map]; rfl) (rf64 _) ?_
  refine Run.unpack 8 rfl rfl ?_
  repeat (refine Run.go rfl ?_)
  refine Run.callg (8, 0) rfl rfl rfl rfl rfl rfl rfl rfl rfl rfl rfl rfl (deleteI_ct (nums l.length) false _ [.ro 1 false (((keptL l).map fun k : Nat => (k : Int)).map i64)] (fun n => ((keptL l).map fun k : Nat => (k : Int)).any fun x => x == n) (by simp [nums]; exact hl.1) (fun n _ => outOfPlace1_ct _ false n (by rw [List.length_map]; have := hl.1; omega))) rfl ?_
  have ho : (nums l.length).filter (fun n => !((keptL l).map fun k : Nat => (k : Int)).any fun x => x == n) = (oop l).map fun k : Nat => (k : Int) := by
    unfold nums oop
    rw [List.filter_map]
    congr 1
    apply List.filter_congr
    intro x _
    simp only [Function.comp]
    rw [kept_any]
  rw [ho]
  have hol := oop_le l
  refine Run.cs rfl (eachI_ct ((oop l).map fun k : Nat => (k : Int)) false _ (by rw [List.length_map]; have := hl.1; omega) (fun x _ => wide_ct x)) (by rw [frz64]) (rf64 _) ?_
  repeat (refine Run.go rfl ?_)
  refine Run.ret hg rfl ?_
  show AV.own 1 false _ = _
  rw [nA_eq]

def oopR (l : List Bk) : List Int × Int := if vBs l then ((oop l).map fun k : Nat => (k : Int), 0) else ([], 1)
noncomputable def X13 : Fx := ⟨Tryz.prog, tys, 13, Tryz.f13, [0]⟩
theorem X13_ok : X13.Ok := ⟨Tryz.func13, tys_ok⟩
theorem implOutOfPlace_ct (l : List Bk) (ex : Bool) (hl : l.length ≤ 1048576 ∧ ∀ x ∈ l, bkRng x) : Ct Tryz.prog 13 [.ro 8 ex (l.map bkA)] (lsR (oopR l)) [] := by
  refine Ct.intro X13 X13_ok rfl rfl rfl rfl fun g hg => ?_
  repeat (refine Run.go rfl ?_)
  refine Run.cs rfl (validBooks_ct l ex hl.1) rfl rfl ?_
  repeat (refine Run.go rfl ?_)
  refine Run.cond rfl (fun h => ?_) (fun h => ?_)
  · have h : vBs l = false := by simpa using h
    repeat (refine Run.go rfl ?_)
    refine Run.nilSlot 2 1 false rfl ?_
    refine Run.ret hg rfl ?_
    rw [oopR, h]
    rfl
  · have h : vBs l = true := by simpa using h
    repeat (refine Run.go rfl ?_)
    refine Run.cs rfl (outOfPlace_ct l ex hl) rfl (nA_rf _) ?_
    repeat (refine Run.go rfl ?_)
    refine Run.ret hg rfl ?_
    rw [oopR, h, nA_eq]
    rfl

noncomputable def X47 : Fx := ⟨Tryz.prog, tys, 47, Tryz.f47, [0]⟩
theorem X47_ok : X47.Ok := ⟨Tryz.func47, tys_ok⟩
theorem l07Out_ct (l : List Bk) (ex : Bool) (hl : l.length ≤ 1048576 ∧ ∀ x ∈ l, bkRng x) : Ct Tryz.prog 47 [.ro 8 ex (l.map bkA)] (.own 1 false (nA (oop l))) [] := by
  have hkl := kept_le l
  have hlen := hl.1
  refine Ct.intro X47 X47_ok rfl rfl rfl rfl fun g hg => ?_
  repeat (refine Run.go rfl ?_)
  refine Run.cs rfl (l03Kept_ct l ex hl) rfl (nA_rf _) ?_
  repeat (refine Run.go rfl ?_)
  refine Run.buildSlice [] rfl rfl rfl rfl rfl rfl rfl rfl rfl rfl rfl rfl rfl rfl ?_
  repeat (refine Run.go rfl ?_)
  refine Run.loosen0 4 rfl ?_
  have hs : ∀ j, ((List.range (j + 1)).filter fun i => !(keptL l).any fun k => k == i) = ((List.range j).filter fun i => !(keptL l).any fun k => k == i) ++ (if (keptL l).any (fun k => k == j) = true then [] else [j]) := by
    intro j
    rw [List.range_succ, List.filter_append, List.filter_cons, List.filter_nil]
    cases (keptL l).any (fun k => k == j) <;> rfl
  refine Run.loop (fun j : Nat => ⟨[(0, .ro 8 ex (l.map bkA)), (3, .own 1 false (nA (keptL l))), (4, .own 1 false (nA ((List.range j).filter fun i => !(keptL l).any fun k => k == i))), (5, i64 j)], []⟩) (fun j => j ≤ l.length) (fun j => l.length - j) 0 (by omega) ?_ ?_
  · exact St.Le.mk' ⟨rfl, rfl, rfl, rfl, trivial⟩ trivial
  intro j hj IH
  have hs := hs j
  have hfl : ((List.range j).filter fun i => !(keptL l).any fun k => k == i).length ≤ j := by
    refine Nat.le_trans (List.length_filter_le _ _) ?_
    simp
  have hend : ((List.range l.length).filter fun i => !(keptL l).any fun k => k == i) = oop l := rfl
  generalize hD : ((List.range j).filter fun i => !(keptL l).any fun k => k == i) = D at hs hfl
  repeat (refine Run.go rfl ?_)
  refine Run.cond rfl (fun h => ?_) (fun h => ?_)
  · have hlt : j < l.length := by simpa using h
    repeat (refine Run.go rfl ?_)
    refine Run.cs rfl (l00Has_ct ((keptL l).map fun k : Nat => (k : Int)) false (j : Int) (by simp; omega)) (by rw [nA_eq, frz64, decide_eq_true (by simp)]; rfl) rfl ?_
    rw [kept_any]
    repeat (refine Run.go rfl ?_)
    refine Run.cond rfl (fun h => ?_) (fun h => ?_)
    · have h : (keptL l).any (fun k => k == j) = false := by simpa using h
      rw [if_neg (by rw [h]; decide)] at hs
      repeat (refine Run.go rfl ?_)
      refine Run.buildSlice [i64 j] rfl rfl rfl rfl rfl rfl rfl rfl rfl rfl rfl rfl rfl rfl ?_
      refine Run.appendo rfl rfl rfl rfl rfl rfl rfl rfl rfl rfl rfl rfl rfl rfl (by show (_ + 1) * 8 ≤ _; rw [nA_len]; omega) (by simp [capMax, nA_len]; omega) (by decide) rfl ?_
      repeat (refine Run.go rfl ?_)
      refine Run.pack 3 rfl rfl rfl ?_
      refine Run.of (IH (j + 1) (by omega) (by omega)) ⟨rfl, rfl, ?_, ?_, trivial⟩ trivial
      · rw [hs, nA_snoc]
        rfl
      · show i64 _ = _
        rw [wrap_i64 (by omega) (by omega)]
        rfl
    · have h : (keptL l).any (fun k => k == j) = true := by simpa using h
      rw [if_pos h, List.append_nil] at hs
      repeat (refine Run.go rfl ?_)
      refine Run.pack 3 rfl rfl rfl ?_
      refine Run.of (IH (j + 1) (by omega) (by omega)) ⟨rfl, rfl, ?_, ?_, trivial⟩ trivial
      · rw [hs]
        rfl
      · show i64 _ = _
        rw [wrap_i64 (by omega) (by omega)]
        rfl
  · have hj' : j = l.length := by simp at h; omega
    subst hj'
    rw [← hD, hend]
    repeat (refine Run.go rfl ?_)
    refine Run.pack 2 rfl rfl rfl ?_
    exact Run.ret hg rfl rfl

noncomputable def X14 : Fx := ⟨Tryz.prog, tys, 14, Tryz.f14, [0]⟩
theorem X14_ok : X14.Ok := ⟨Tryz.func14, tys_ok⟩
theorem specOutOfPlace_ct (l : List Bk) (ex : Bool) (hl : l.length ≤ 1048576 ∧ ∀ x ∈ l, bkRng x) : Ct Tryz.prog 14 [.ro 8 ex (l.map bkA)] (lsR (oopR l)) [] := by
  refine Ct.intro X14 X14_ok rfl rfl rfl rfl fun g hg => ?_
  repeat (refine Run.go rfl ?_)
  refine Run.cs rfl (l01Ok_ct l ex hl.1 hl.2) rfl rfl ?_
  repeat (refine Run.go rfl ?_)
  refine Run.cond rfl (fun h => ?_) (fun h => ?_)
  · have h : vBs l = false := by simpa using h
    repeat (refine Run.go rfl ?_)
    refine Run.buildSlice [] rfl rfl rfl rfl rfl rfl rfl rfl rfl rfl rfl rfl rfl rfl ?_
    repeat (refine Run.go rfl ?_)
    refine Run.loosen0 2 rfl ?_
    refine Run.ret hg rfl ?_
    rw [oopR, h]
    rfl
  · have h : vBs l = true := by simpa using h
    repeat (refine Run.go rfl ?_)
    refine Run.cs rfl (l07Out_ct l ex hl) rfl (nA_rf _) ?_
    repeat (refine Run.go rfl ?_)
    refine Run.ret hg rfl ?_
    rw [oopR, h, nA_eq]
    rfl

def fsRes (a b : List Bk) : Int × Int := if scode a b = 0 then (((oop b).length : Int), 0) else (0, scode a b)

noncomputable def X17 : Fx := ⟨Tryz.prog, tys, 17, Tryz.f17, [0]⟩
theorem X17_ok : X17.Ok := ⟨Tryz.func17, tys_ok⟩
theorem leastMoves_ct (l : List Bk) (ex : Bool) (hl : l.length ≤ 1048576 ∧ ∀ x ∈ l, bkRng x) (hv : vBs l = true) : Ct Tryz.prog 17 [.ro 8 ex (l.map bkA)] (.tup [i64 ((oop l).length : Nat), i64 0]) [] := by
  have hol := oop_len l
  have hlen := hl.1
  refine Ct.intro X17 X17_ok rfl rfl rfl rfl fun g hg => ?_
  repeat (refine Run.go rfl ?_)
  refine Run.cs rfl (validBooks_ct l ex hl.1) rfl rfl ?_
  repeat (refine Run.go rfl ?_)
  refine Run.cond rfl (fun h => ?_) (fun h => ?_)
  · rw [hv] at h
    simp at h
  · repeat (refine Run.go rfl ?_)
    refine Run.cs rfl (kept_ct l ex hl) rfl (nA_rf _) ?_
    refine Run.unpack 10 rfl rfl ?_
    repeat (refine Run.go rfl ?_)
    refine Run.ret hg rfl ?_
    show AV.tup [i64 _, i64 0] = _
    rw [List.length_map, nA_len, wrap_i64 (by omega) (by omega), show (l.length : Int) - (keptL l).length = ((oop l).length : Nat) by omega]

theorem scode_vBs {a b : List Bk} (h : scode a b = 0) : vBs b = true := by
  have h1 : stCode a b = 0 := by
    unfold scode at h
    split at h
    · assumption
    · exact h
  unfold stCode at h1
  split at h1
  · rename_i h2
    simp only [Bool.and_eq_true] at h2
    exact h2.2
  · cases h1

noncomputable def X27 : Fx := ⟨Tryz.prog, tys, 27, Tryz.f27, [0, 1]⟩
theorem X27_ok : X27.Ok := ⟨Tryz.func27, tys_ok⟩
theorem implFewestSlips_ct (a b : List Bk) (e1 e2 : Bool) (ha : a.length ≤ 1048576 ∧ ∀ x ∈ a, bkRng x) (hb : b.length ≤ 1048576 ∧ ∀ x ∈ b, bkRng x) : Ct Tryz.prog 27 [.ro 8 e1 (a.map bkA), .ro 8 e2 (b.map bkA)] (.tup [i64 (fsRes a b).1, i64 (fsRes a b).2]) [] := by
  refine Ct.intro X27 X27_ok rfl rfl rfl rfl fun g hg => ?_
  repeat (refine Run.go rfl ?_)
  refine Run.cs rfl (sameCode_ct a b e1 e2 ha hb) rfl rfl ?_
  repeat (refine Run.go rfl ?_)
  refine Run.cond rfl (fun h => ?_) (fun h => ?_)
  · have h : scode a b ≠ 0 := by simpa using h
    repeat (refine Run.go rfl ?_)
    refine Run.ret hg rfl ?_
    rw [fsRes, if_neg h]
    rfl
  · have h : scode a b = 0 := by simpa using h
    repeat (refine Run.go rfl ?_)
    refine Run.cs rfl (leastMoves_ct b e2 hb (scode_vBs h)) rfl rfl ?_
    repeat (refine Run.go rfl ?_)
    refine Run.ret hg rfl ?_
    rw [fsRes, if_pos h]
    rfl

end Go.Proofs.YtenknlnnnicdeaaGreatDoor

/- Contracts of the program's functions, and what follows from them. -/
set_option maxRecDepth 100000
namespace Go.Proofs.YtenknlnnnicdeaaGreatDoor
open Go Go.Av

/-! Parts of a list are put in, and taken out. -/

theorem one_bk (a : List Bk) : oneC (a.map bkA) = true := oneC_bk a
theorem lt_bk (L : List Bk) : (flatc (L.map bkA)).all isLT = true := by
  induction L with
  | nil => rfl
  | cons x r ih =>
    rw [List.map_cons, show flatc (bkA x :: r.map bkA) = (bkA x).cells ++ flatc (r.map bkA) from rfl, List.all_append, ih]
    rfl
theorem lt_app (xs ys : List AV) : (flatc (xs ++ ys)).all isLT = ((flatc xs).all isLT && (flatc ys).all isLT) := by
  unfold flatc
  rw [List.flatMap_append, List.all_append]
theorem lt_rep (n : Nat) (y : AV) (h : y.cells.all isLT = true) : (flatc (List.replicate n y)).all isLT = true := by
  induction n with
  | zero => rfl
  | succ n ih =>
    rw [List.replicate_succ, show flatc (y :: List.replicate n y) = y.cells ++ flatc (List.replicate n y) from rfl, List.all_append, ih, h]
    rfl

noncomputable def X144 : Fx := ⟨Tryz.prog, tys, 144, Tryz.f144, []⟩
theorem X144_ok : X144.Ok := ⟨Tryz.func144, tys_ok⟩
theorem delete_bk_ct (L : List Bk) (ex : Bool) (i j : Nat) (hij : i < j) (hj : j ≤ L.length) (hlen : L.length ≤ 1048576) : Ct Tryz.prog 144 [.own 8 ex (L.map bkA), i64 i, i64 j] (.own 8 false ((L.take i ++ L.drop j).map bkA)) [] := by
  refine Ct.intro X144 X144_ok rfl (by kernel_rfl) rfl rfl fun g hg => ?_
  repeat (refine Run.go rfl ?_)
  refine Run.val rfl rfl rfl (ValOk.cut3 rfl rfl rfl rfl rfl rfl (by omega) (by omega) (by simp; omega) (by simp)) rfl ?_
  repeat (refine Run.go rfl ?_)
  refine Run.cond rfl (fun h => by simp at h; omega) (fun h => ?_)
  repeat (refine Run.go rfl ?_)
  have hml : (L.map bkA).length = L.length := List.length_map ..
  have hdl : (((L.map bkA).drop j).take (L.length - j)) = (L.drop j).map bkA := by rw [← List.map_drop, List.take_of_length_le (by simp)]
  have hyl : ((L.drop j).map bkA).length = L.length - j := by simp
  have ht1 : (L.map bkA).take i = (L.take i).map bkA := by rw [List.map_take]
  refine Run.drawQ1 6 [6, 7] (by kernel_rfl) (by decide +kernel) (by decide +kernel) rfl (by decide +kernel) ?_
  · repeat (refine Quiet.go rfl ?_)
    refine Quiet.val rfl rfl (ValOk.cutv (l := 0) (h := i) rfl rfl rfl rfl rfl rfl rfl (by omega) (by omega) (by rw [hml]; omega)) rfl ?_
    repeat (refine Quiet.go rfl ?_)
    refine Quiet.val rfl rfl (ValOk.cutv (l := j) (h := (L.map bkA).length) rfl rfl rfl rfl rfl rfl rfl (by omega) (by rw [hml]; omega) (by omega)) rfl ?_
    refine Quiet.nil ?_
    show Run _ _ _ _
    refine Run.appendvv (id := (0, 0)) (p := i) (ys := (L.drop j).map bkA) rfl rfl rfl rfl rfl rfl rfl ?_ rfl ?_ rfl (by rw [hml]; omega) (by rw [hyl, hml]; omega) (lt_bk _) (lt_bk _) (one_bk _) rfl ?_
    · show AV.vec _ _ _ = _
      rfl
    · rw [← hdl]
      refine srcOf_vec (id := (0, 0)) ?_ rfl (by rw [hml]; omega)
      show AV.vec _ _ _ = AV.vec _ _ _
      congr 1
      · first | (simp; done) | (simp; omega)
      · rw [hml]; omega
    repeat (refine Run.go rfl ?_)
    generalize hO : (L.map bkA).take i ++ (L.drop j).map bkA ++ (L.map bkA).drop (i + ((L.drop j).map bkA).length) = O
    have hOl : O.length = L.length := by rw [← hO]; simp; omega
    have hOlt : (flatc O).all isLT = true := by
      rw [← hO, ht1, ← List.map_drop, ← List.map_append, ← List.map_append]
      exact lt_bk _
    refine Run.val rfl rfl rfl (ValOk.cutl (l := (i + ((L.drop j).map bkA).length : Nat)) (h := (L.map bkA).length) rfl rfl rfl rfl rfl rfl rfl (by omega) (by rw [hyl, hml]; omega) (by rw [hml, hOl]; simp)) rfl ?_
    refine Run.clearv (bkA bk0) rfl rfl rfl rfl rfl rfl rfl rfl rfl rfl rfl rfl hOlt (by rw [hOl, hyl, hml]; omega) ?_
    repeat (refine Run.go rfl ?_)
    refine Run.packTake 6 rfl rfl (by simp [hOl]; omega) ?_
    refine Run.ret hg rfl ?_
    show AV.own _ _ _ = AV.own _ _ _
    congr 1
    rw [List.append_assoc, Nat.zero_add, List.take_append_of_le_length (by simp [hOl]; omega), List.take_take, Int.toNat_natCast, Nat.min_self, ← hO, ht1, List.append_assoc, ← List.append_assoc, List.take_append_of_le_length (by simp; omega), ← List.map_append, List.take_of_length_le (by simp; omega)]

noncomputable def X143 : Fx := ⟨Tryz.prog, tys, 143, Tryz.f143, []⟩
theorem X143_ok : X143.Ok := ⟨Tryz.func143, tys_ok⟩
theorem insert_bk_ct (L Y : List Bk) (ex e2 : Bool) (i : Nat) (hi : i ≤ L.length) (hlen : L.length + Y.length ≤ 1048576) : Ct Tryz.prog 143 [.own 8 ex (L.map bkA), i64 i, .ro 8 e2 (Y.map bkA)] (.own 8 false ((L.take i ++ Y ++ L.drop i).map bkA)) [] := by
  have hml : (L.map bkA).length = L.length := List.length_map ..
  have hyl : (Y.map bkA).length = Y.length := List.length_map ..
  refine Ct.intro X143 X143_ok rfl (by kernel_rfl) rfl rfl fun g hg => ?_
  repeat (refine Run.go rfl ?_)
  refine Run.val rfl rfl rfl (ValOk.cutv (l := i) (h := (L.map bkA).length) rfl rfl rfl rfl rfl rfl rfl (by omega) (by omega) (by omega)) rfl ?_
  repeat (refine Run.go rfl ?_)
  refine Run.cond rfl (fun h => ?_) (fun hY => ?_)
  · have h : Y = [] := by simpa using h
    repeat (refine Run.go rfl ?_)
    refine Run.packTake 6 rfl rfl (by simp) ?_
    refine Run.ret hg rfl ?_
    rw [h, List.append_nil, List.take_append_drop, List.take_length]
    rfl
  have hY : 0 < Y.length := by
    cases Y with
    | nil => simp at hY
    | cons => simp
  repeat (refine Run.go rfl ?_)
  refine Run.cond rfl (fun h => ?_) (fun hn => ?_)
  · have h : i = L.length := by simp at h; omega
    repeat (refine Run.go rfl ?_)
    refine Run.appendr rfl rfl rfl rfl rfl rfl rfl rfl rfl rfl rfl rfl rfl (one_bk _) (by show (_ + _) * 14 ≤ _; simp; omega) (by simp [capMax]; omega) rfl ?_
    repeat (refine Run.go rfl ?_)
    refine Run.ret hg rfl ?_
    rw [h, List.take_length, List.drop_length, List.append_nil, List.map_append]
    rfl
  have hn : i < L.length := by
    have : ¬ (i : Int) = L.length := by simpa using hn
    omega
  repeat (refine Run.go rfl ?_)
  refine Run.capx (.agg (List.replicate 8 .top)) rfl rfl rfl rfl rfl rfl rfl rfl (lt_bk _) rfl rfl fun c hc1 hc2 => ?_
  generalize hR : List.replicate (c - (L.map bkA).length) (AV.agg (List.replicate 8 .top)) = R
  have hRl : R.length = c - L.length := by rw [← hR]; simp
  have hRlt : (flatc R).all isLT = true := by rw [← hR]; exact lt_rep _ _ (by decide)
  have hOlt : (flatc (L.map bkA ++ R)).all isLT = true := by rw [lt_app, lt_bk, hRlt]; rfl
  have hOl : (L.map bkA ++ R).length = c := by simp [hRl]; omega
  have hT : (L.map bkA ++ R).take i = (L.take i).map bkA := by rw [List.take_append_of_le_length (by omega), List.map_take]
  have hD : ((L.map bkA ++ R).drop i).take (L.length - i) = (L.drop i).map bkA := by
    rw [List.drop_append_of_le_length (by omega), List.take_append_of_le_length (by simp), ← List.map_drop, List.take_of_length_le (by simp)]
  have hTl : ((L.take i).map bkA).length = i := by simp; omega
  have hDl : ((L.drop i).map bkA).length = L.length - i := by simp
  have hcap : c ≤ 9223372036854775807 := hc2
  have hout : (L.take i).map bkA ++ Y.map bkA ++ (L.drop i).map bkA = (L.take i ++ Y ++ L.drop i).map bkA := by rw [List.map_append, List.map_append]
  clear hR
  generalize hT0 : (L.take i).map bkA = T at *
  generalize hD0 : (L.drop i).map bkA = D at *
  have hsum : IntKind.i64.wrap ((L.length : Int) + Y.length) = (L.length + Y.length : Nat) := by rw [wrap_i64 (by omega) (by omega)]; rfl
  have hsum2 : IntKind.i64.wrap ((i : Int) + Y.length) = (i + Y.length : Nat) := by rw [wrap_i64 (by omega) (by omega)]; rfl
  repeat (refine Run.go rfl ?_)
  refine Run.cond rfl (fun h => ?_) (fun h => ?_)
  · have h : c < L.length + Y.length := by
      have h : (c : Int) < IntKind.i64.wrap (((L.map bkA).length : Int) + ((Y.map bkA).length : Nat)) := by simpa using h
      rw [hml, hyl, hsum] at h
      omega
    repeat (refine Run.go rfl ?_)
    refine Run.val rfl rfl rfl (ValOk.cutl (l := 0) (h := i) rfl rfl rfl rfl rfl rfl rfl (by omega) (by omega) (by rw [hOl]; omega)) rfl ?_
    repeat (refine Run.go rfl ?_)
    have hmk : IntKind.i64.wrap (IntKind.i64.wrap (((L.map bkA).length : Int) + ((Y.map bkA).length : Nat)) - i) = (L.length + Y.length - i : Nat) := by rw [hml, hyl, hsum, wrap_i64 (by omega) (by omega)]; omega
    refine Run.appendz (kk := .i64) (id := (0, 0)) (p := i) (n := L.length + Y.length - i) (bkA bk0) rfl rfl rfl rfl rfl rfl rfl ?_ ?_ rfl rfl rfl rfl rfl (by omega) (by rw [hOl]; omega) (by rw [hOl]; omega) hOlt (by show (_ + _) * 14 ≤ _; omega) (by show _ + _ ≤ 9223372036854775807; omega) rfl ?_
    · show i64 _ = i64 _
      rw [← hmk]
    · show AV.vec _ _ _ = _
      rfl
    rw [hT]
    have hZl : (T ++ List.replicate (L.length + Y.length - i) (bkA bk0)).length = L.length + Y.length := by simp; omega
    have hZlt : (flatc (T ++ List.replicate (L.length + Y.length - i) (bkA bk0))).all isLT = true := by rw [lt_app, lt_rep _ _ rfl, ← hT0, lt_bk]; rfl
    have hZt : (T ++ List.replicate (L.length + Y.length - i) (bkA bk0)).take i = T := by rw [List.take_append_of_le_length (by omega), List.take_of_length_le (by omega)]
    generalize T ++ List.replicate (L.length + Y.length - i) (bkA bk0) = Z at hZl hZlt hZt
    repeat (refine Run.go rfl ?_)
    refine Run.val rfl rfl rfl (ValOk.cutv (l := i) (h := Z.length) rfl rfl rfl rfl rfl rfl rfl (by omega) (by omega) (by omega)) rfl ?_
    repeat (refine Run.go rfl ?_)
    refine Run.copyd (id := (9, 0)) (m := i) (len := L.length + Y.length - i) (ys := Y.map bkA) rfl rfl rfl rfl rfl ?_ rfl rfl (srcOf_ro rfl) hZlt (lt_bk _) (by rw [hZl]; omega) Y.length (by rw [hyl]; exact (Nat.min_eq_left (by omega)).symm) (by rw [List.take_of_length_le (Nat.le_of_eq hyl)]; exact one_bk _) rfl ?_
    · show AV.vec _ _ _ = AV.vec _ _ _
      congr 1
      · first | (simp; done) | (simp; omega)
      · rw [hZl]; first | (simp; done) | (simp; omega)
    rw [hZt, List.take_of_length_le (Nat.le_of_eq hyl)]
    have hWl : (T ++ Y.map bkA ++ Z.drop (i + Y.length)).length = L.length + Y.length := by simp [hZl]; omega
    have hWlt : (flatc (T ++ Y.map bkA ++ Z.drop (i + Y.length))).all isLT = true := by
      rw [lt_app, lt_app, ← hT0, lt_bk, lt_bk]
      rw [Bool.true_and, Bool.true_and]
      have := hZlt
      rw [← List.take_append_drop (i + Y.length) Z, lt_app, Bool.and_eq_true] at this
      exact this.2
    have hWt : (T ++ Y.map bkA ++ Z.drop (i + Y.length)).take (i + Y.length) = T ++ Y.map bkA := by rw [List.take_append_of_le_length (by simp; omega), List.take_of_length_le (by simp; omega)]
    generalize T ++ Y.map bkA ++ Z.drop (i + Y.length) = W at hWl hWlt hWt
    repeat (refine Run.go rfl ?_)
    refine Run.drawQ1 8 [8] (by kernel_rfl) (by decide +kernel) (by decide +kernel) rfl (by decide +kernel) ?_
    repeat (refine Quiet.go rfl ?_)
    refine Quiet.val rfl rfl (ValOk.cutl (l := (i + Y.length : Nat)) (h := Z.length) rfl rfl rfl rfl rfl (by show some (IntKind.i64.wrap ((i : Int) + ((Y.map bkA).length : Nat))) = _; rw [hyl, hsum2]) rfl (by omega) (by rw [hZl]; omega) (by rw [hWl, hZl]; omega)) rfl ?_
    repeat (refine Quiet.go rfl ?_)
    refine Quiet.val rfl rfl (ValOk.cutl (l := i) (h := (L.map bkA).length) rfl rfl rfl rfl rfl rfl rfl (by omega) (by rw [hml]; omega) (by rw [hOl, hml]; omega)) rfl ?_
    refine Quiet.nil ?_
    refine Run.copyd (id := (9, 0)) (m := i + Y.length) (len := L.length - i) (ys := D) rfl rfl rfl rfl rfl ?_ rfl rfl ?_ hWlt (by rw [← hD0]; exact lt_bk _) (by rw [hWl]; omega) (L.length - i) (by rw [hDl]; exact (Nat.min_self _).symm) (by rw [List.take_of_length_le (Nat.le_of_eq hDl), ← hD0]; exact one_bk _) rfl ?_
    · show AV.vec _ _ _ = AV.vec _ _ _
      congr 1
      · first | (simp; done) | (simp; omega)
      · rw [hZl]; simp; omega
    · rw [← hD]
      refine srcOf_vec (id := (0, 0)) ?_ rfl (by rw [hOl]; omega)
      show AV.vec _ _ _ = AV.vec _ _ _
      congr 1
      · first | (simp; done) | (simp; omega)
      · rw [hml]; omega
    repeat (refine Run.go rfl ?_)
    refine Run.packTake 6 rfl rfl (by rw [hZl]; simp [hWl, hTl, hDl]; omega) ?_
    refine Run.ret hg rfl ?_
    show AV.own _ _ _ = AV.own _ _ _
    congr 1
    rw [hWt, List.take_of_length_le (Nat.le_of_eq hDl), List.take_append_of_le_length (by simp [hTl, hDl, hZl]; omega), hout, List.take_of_length_le (by rw [← hout]; simp [hTl, hDl, hZl]; omega)]
  · have h : L.length + Y.length ≤ c := by
      have h : ¬ (c : Int) < IntKind.i64.wrap (((L.map bkA).length : Int) + ((Y.map bkA).length : Nat)) := by simpa using h
      rw [hml, hyl, hsum] at h
      omega
    have e1 : IntKind.i64.wrap (((L.map bkA).length : Int) + ((Y.map bkA).length : Nat)) = (L.length + Y.length : Nat) := by rw [hml, hyl, hsum]
    have e2 : IntKind.i64.wrap ((i : Int) + ((Y.map bkA).length : Nat)) = (i + Y.length : Nat) := by rw [hyl, hsum2]
    generalize hO : L.map bkA ++ R = O at *
    repeat (refine Run.go rfl ?_)
    refine Run.val rfl rfl rfl (ValOk.cutl (l := 0) (h := (L.length + Y.length : Nat)) rfl rfl rfl rfl rfl rfl (by show some _ = some _; rw [e1]) (by omega) (by omega) (by rw [hOl]; omega)) rfl ?_
    repeat (refine Run.go rfl ?_)
    refine Run.val rfl rfl rfl (ValOk.cutl (l := (i + Y.length : Nat)) (h := (L.length + Y.length : Nat)) rfl rfl rfl rfl rfl (by show some _ = some _; rw [e2]) (by show some _ = some _; first | (simp; done) | (simp; omega)) (by omega) (by omega) (by rw [hOl]; simp; omega)) rfl ?_
    refine Run.overlapsR (fn := Tryz.f161) (t := 24) rfl rfl rfl rfl rfl Tryz.func161 (by kernel_rfl) (by kernel_rfl) (by kernel_rfl) (by kernel_rfl) (by kernel_rfl) rfl rfl rfl rfl rfl rfl ?_
    repeat (refine Run.go rfl ?_)
    refine Run.cond rfl (fun h => ?_) (fun h => by simp at h)
    repeat (refine Run.go rfl ?_)
    refine Run.drawQ1 8 [8] (by kernel_rfl) (by decide +kernel) (by decide +kernel) rfl (by decide +kernel) ?_
    repeat (refine Quiet.go rfl ?_)
    refine Quiet.val rfl rfl (ValOk.cutl (l := (i + Y.length : Nat)) (h := (L.length + Y.length : Nat)) rfl rfl rfl rfl rfl (by show some _ = some _; rw [e2]) (by show some _ = some _; first | (simp; done) | (simp; omega)) (by omega) (by omega) (by rw [hOl]; simp; omega)) rfl ?_
    repeat (refine Quiet.go rfl ?_)
    refine Quiet.val rfl rfl (ValOk.cutl (l := i) (h := (L.length + Y.length : Nat)) rfl rfl rfl rfl rfl rfl (by show some _ = some _; first | (simp; done) | (simp; omega)) (by omega) (by omega) (by rw [hOl]; simp; omega)) rfl ?_
    refine Quiet.nil ?_
    have hsrc : ((O.drop i).take (L.length + Y.length - i)).take (L.length - i) = D := by rw [List.take_take, Nat.min_eq_left (by omega), hD]
    have hslt : (flatc ((O.drop i).take (L.length + Y.length - i))).all isLT = true := by
      have := hOlt
      rw [← List.take_append_drop i O, lt_app, Bool.and_eq_true, ← List.take_append_drop (L.length + Y.length - i) (O.drop i), lt_app, Bool.and_eq_true] at this
      exact this.2.1
    refine Run.copyd (id := (0, 0)) (m := i + Y.length) (len := L.length - i) (ys := (O.drop i).take (L.length + Y.length - i)) rfl rfl rfl rfl rfl ?_ rfl rfl ?_ hOlt hslt (by rw [hOl]; omega) (L.length - i) ?_ (by rw [hsrc, ← hD0]; exact one_bk _) rfl ?_
    · show AV.vec _ _ _ = AV.vec _ _ _
      congr 1
      · first | (simp; done) | (simp; omega)
      · simp; omega
    · refine srcOf_vec (id := (0, 0)) ?_ rfl (by rw [hOl]; omega)
      show AV.vec _ _ _ = AV.vec _ _ _
      congr 1
      · first | (simp; done) | (simp; omega)
    · rw [List.length_take, List.length_drop, hOl]
      show _ = min _ _
      omega
    rw [hsrc]
    have hVl : (O.take (i + Y.length) ++ D ++ O.drop (i + Y.length + (L.length - i))).length = c := by simp [hOl, hDl]; omega
    have hVlt : (flatc (O.take (i + Y.length) ++ D ++ O.drop (i + Y.length + (L.length - i)))).all isLT = true := by
      have h1 := hOlt
      rw [← List.take_append_drop (i + Y.length) O, lt_app, Bool.and_eq_true] at h1
      have h2 := hOlt
      rw [← List.take_append_drop (i + Y.length + (L.length - i)) O, lt_app, Bool.and_eq_true] at h2
      rw [lt_app, lt_app, h1.1, h2.2, ← hD0, lt_bk]
      rfl
    have hVt : (O.take (i + Y.length) ++ D ++ O.drop (i + Y.length + (L.length - i))).take i = T := by
      rw [List.append_assoc, List.take_append_of_le_length (by simp [hOl]; omega), List.take_take, Nat.min_eq_left (by omega), hT]
    have hVd : (O.take (i + Y.length) ++ D ++ O.drop (i + Y.length + (L.length - i))).drop (i + Y.length) = D ++ O.drop (i + Y.length + (L.length - i)) := by
      rw [List.append_assoc, List.drop_left' (by simp [hOl]; omega)]
    generalize O.take (i + Y.length) ++ D ++ O.drop (i + Y.length + (L.length - i)) = V at hVl hVlt hVt hVd
    repeat (refine Run.go rfl ?_)
    refine Run.val rfl rfl rfl (ValOk.cutl (l := i) (h := (L.length + Y.length : Nat)) rfl rfl rfl rfl rfl rfl (by show some _ = some _; first | (simp; done) | (simp; omega)) (by omega) (by omega) (by rw [hVl]; simp; omega)) rfl ?_
    repeat (refine Run.go rfl ?_)
    refine Run.copyd (id := (0, 0)) (m := i) (len := L.length + Y.length - i) (ys := Y.map bkA) rfl rfl rfl rfl rfl ?_ rfl rfl (srcOf_ro rfl) hVlt (lt_bk _) (by rw [hVl]; omega) Y.length (by rw [hyl]; exact (Nat.min_eq_left (by omega)).symm) (by rw [List.take_of_length_le (Nat.le_of_eq hyl)]; exact one_bk _) rfl ?_
    · show AV.vec _ _ _ = AV.vec _ _ _
      congr 1
      · first | (simp; done) | (simp; omega)
    rw [hVt, hVd, List.take_of_length_le (Nat.le_of_eq hyl)]
    repeat (refine Run.go rfl ?_)
    refine Run.packTake 6 rfl rfl (by simp [hTl, hDl, hOl]; omega) ?_
    refine Run.ret hg rfl ?_
    show AV.own _ _ _ = AV.own _ _ _
    congr 1
    rw [← List.append_assoc, List.take_append_of_le_length (by simp [hTl, hDl]; omega), hout, List.take_of_length_le (by rw [← hout]; simp [hTl, hDl]; omega)]

end Go.Proofs.YtenknlnnnicdeaaGreatDoor

/- Contracts of the program's functions, and what follows from them. -/
set_option maxRecDepth 100000
namespace Go.Proofs.YtenknlnnnicdeaaGreatDoor
open Go Go.Av

/-! One book put elsewhere makes the shelf of a catalogue. -/

def mvL (b : List Bk) (f t : Nat) : List Bk := (b.take f ++ b.drop (f + 1)).take t ++ (b.drop f).take 1 ++ (b.take f ++ b.drop (f + 1)).drop t
theorem mvL_len {b : List Bk} {f t : Nat} (hf : f < b.length) (ht : t < b.length) : (mvL b f t).length = b.length := by
  unfold mvL
  simp
  omega
theorem mvL_mem {b : List Bk} {f t : Nat} {x : Bk} (h : x ∈ mvL b f t) : x ∈ b := by
  unfold mvL at h
  rw [List.mem_append, List.mem_append] at h
  rcases h with (h | h) | h
  · have := List.mem_of_mem_take h
    rw [List.mem_append] at this
    rcases this with h | h
    · exact List.mem_of_mem_take h
    · exact List.mem_of_mem_drop h
  · exact List.mem_of_mem_drop (List.mem_of_mem_take h)
  · have := List.mem_of_mem_drop h
    rw [List.mem_append] at this
    rcases this with h | h
    · exact List.mem_of_mem_take h
    · exact List.mem_of_mem_drop h

noncomputable def X142 : Fx := ⟨Tryz.prog, tys, 142, Tryz.f142, [0, 1, 2]⟩
theorem X142_ok : X142.Ok := ⟨Tryz.func142, tys_ok⟩
theorem withinI_ct (a b c : Int) : Ct Tryz.prog 142 [i64 a, i64 b, i64 c] (bo (inr a b c)) [] := by
  refine Ct.intro X142 X142_ok rfl rfl rfl rfl fun g hg => ?_
  repeat (refine Run.step rfl ?_)
  refine Run.bool 10 rfl (fun h => ?_) (fun h => ?_)
  · repeat (refine Run.step rfl ?_)
    refine Run.ret hg rfl ?_
    show bo _ = _
    simp_all [inr]
  · repeat (refine Run.step rfl ?_)
    refine Run.ret hg rfl ?_
    show bo _ = _
    simp_all [inr] <;> omega

noncomputable def X110 : Fx := ⟨Tryz.prog, tys, 110, Tryz.f110, [0]⟩
theorem X110_ok : X110.Ok := ⟨Tryz.func110, tys_ok⟩
theorem blockMoved_ct (b : List Bk) (e : Bool) (f t : Nat) (hf : f < b.length) (ht : t < b.length) (hb : b.length ≤ 60) :
    Ct Tryz.prog 110 [.ro 8 e (b.map bkA), .agg [i16 f, i16 1, i16 t]] (.tup [.own 8 false ((mvL b f t).map bkA), bo true]) [] := by
  have hbl : (b.map bkA).length = b.length := List.length_map ..
  have hf1 : IntKind.i64.wrap (f : Int) = f := wrap_i64 (by omega) (by omega)
  have ht1 : IntKind.i64.wrap (t : Int) = t := wrap_i64 (by omega) (by omega)
  have hf2 : IntKind.i64.wrap ((f : Int) + 1) = (f + 1 : Nat) := by rw [wrap_i64 (by omega) (by omega)]; rfl
  have hn2 : IntKind.i64.wrap ((b.length : Int) - 1) = b.length - 1 := by rw [wrap_i64 (by omega) (by omega)]
  refine Ct.intro X110 X110_ok rfl (by kernel_rfl) rfl rfl fun g hg => ?_
  repeat (refine Run.go rfl ?_)
  refine Run.draw (by kernel_rfl) (by decide +kernel) ?_
  repeat (refine Quiet.go rfl ?_)
  refine Quiet.nil ?_
  refine Run.le (st' := ⟨[(0, .ro 8 e (b.map bkA)), (6, i64 f), (7, i64 1), (8, i64 t)], []⟩) (St.Le.mk' ⟨rfl, ?_, ?_, ?_, trivial⟩ trivial) ?_
  · show i64 _ = i64 _
    rw [hf1]
  · show i64 _ = i64 _
    rw [wrap_i64 (by omega) (by omega)]
  · show i64 _ = i64 _
    rw [ht1]
  repeat (refine Run.go rfl ?_)
  refine Run.bool 25 rfl (fun h => by simp at h; omega) (fun h => ?_)
  repeat (refine Run.go rfl ?_)
  refine Run.bool 33 rfl (fun h => ?_) (fun h => ?_)
  · have h : IntKind.i64.wrap ((f : Int) + 1) > ((b.map bkA).length : Nat) := by simpa using h
    rw [hf2, hbl] at h
    omega
  repeat (refine Run.go rfl ?_)
  refine Run.cs rfl (withinI_ct t 0 (b.length - 1)) ?_ rfl ?_
  · show [i64 _, i64 _, i64 _] = [i64 _, i64 _, i64 _]
    rw [hbl, hn2]
  rw [show inr (t : Int) 0 (b.length - 1) = true by simp [inr]; omega]
  repeat (refine Run.go rfl ?_)
  refine Run.cond rfl (fun h => by simp at h) (fun h => ?_)
  repeat (refine Run.go rfl ?_)
  refine Run.val rfl rfl rfl (ValOk.cut (l := f) (h := (f + 1 : Nat)) (ys := ((b.drop f).take 1).map bkA) rfl rfl rfl rfl rfl (by show some (IntKind.i64.wrap ((f : Int) + 1)) = _; rw [hf2]) (by omega) (by omega) (by rw [hbl]; omega) ?_) rfl ?_
  · rw [Int.toNat_natCast, Int.toNat_natCast, List.map_take, List.map_drop, List.take_drop]
  repeat (refine Run.go rfl ?_)
  refine Run.cs rfl (cloneBk_ct ((b.drop f).take 1) false (by simp; omega)) rfl (rfB _) ?_
  repeat (refine Run.go rfl ?_)
  refine Run.freeze (v' := .ro 8 false (((b.drop f).take 1).map bkA)) 9 rfl rfl (by show AV.ro _ _ (AV.frzL _) = _; rw [frzB]) ?_
  refine Run.cs rfl (cloneBk_ct b e (by omega)) rfl (rfB _) ?_
  refine Run.unpack 50 rfl rfl ?_
  repeat (refine Run.go rfl ?_)
  refine Run.callg (50, 0) rfl rfl rfl rfl rfl rfl rfl rfl rfl rfl rfl ?_ (delete_bk_ct b false f (f + 1) (by omega) (by omega) (by omega)) rfl ?_
  · show [AV.own _ _ _, i64 _, i64 _] = [AV.own _ _ _, i64 _, i64 _]
    rw [hf2]
  refine Run.unpack 55 rfl rfl ?_
  repeat (refine Run.go rfl ?_)
  refine Run.callg (55, 0) rfl rfl rfl rfl rfl rfl rfl rfl rfl rfl rfl rfl (insert_bk_ct (b.take f ++ b.drop (f + 1)) ((b.drop f).take 1) false false t (by simp; omega) (by simp; omega)) rfl ?_
  repeat (refine Run.go rfl ?_)
  exact Run.ret hg rfl rfl

noncomputable def X70 : Fx := ⟨Tryz.prog, tys, 70, Tryz.f70, [0]⟩
theorem X70_ok : X70.Ok := ⟨Tryz.func70, tys_ok⟩
theorem moved_ct (b : List Bk) (e : Bool) (f t : Nat) (hf : f < b.length) (ht : t < b.length) (hb : b.length ≤ 60) :
    Ct Tryz.prog 70 [.ro 8 e (b.map bkA), mvA f t] (.tup [.own 8 false ((mvL b f t).map bkA), bo true]) [] := by
  refine Ct.intro X70 X70_ok rfl (by kernel_rfl) rfl rfl fun g hg => ?_
  repeat (refine Run.go rfl ?_)
  refine Run.val rfl rfl rfl (ValOk.build rfl rfl rfl rfl rfl) rfl ?_
  refine Run.cs rfl (blockMoved_ct b e f t hf ht hb) rfl (by simp only [AV.rf, AV.rfL, rfB]; rfl) ?_
  repeat (refine Run.go rfl ?_)
  exact Run.ret hg rfl rfl

noncomputable def X68 : Fx := ⟨Tryz.prog, tys, 68, Tryz.f68, [0]⟩
theorem X68_ok : X68.Ok := ⟨Tryz.func68, tys_ok⟩
theorem oneSlip1_ct (i : Nat) : Ct Tryz.prog 68 [i64 i] (i64 ((0 : Nat) : Int)) [] := by
  refine Ct.intro X68 X68_ok rfl rfl rfl rfl fun g hg => ?_
  repeat (refine Run.go rfl ?_)
  exact Run.ret hg rfl rfl

noncomputable def X69 : Fx := ⟨Tryz.prog, tys, 69, Tryz.f69, [1]⟩
theorem X69_ok : X69.Ok := ⟨Tryz.func69, tys_ok⟩
theorem oneSlip2_ct (b : List Bk) (e2 : Bool) (hb : b.length ≤ 60) (i j : Nat) (hi : i < b.length) (hj : j < b.length) : Ct Tryz.prog 69 [mvA i j, .rp [.ro 8 e2 (b.map bkA)] 0] (.own 8 false ((mvL b i j).map bkA)) [] := by
  refine Ct.intro X69 X69_ok rfl rfl rfl rfl fun g hg => ?_
  repeat (refine Run.go rfl ?_)
  refine Run.cs rfl (moved_ct b e2 i j hi hj hb) rfl (by simp only [AV.rf, AV.rfL, rfB]; rfl) ?_
  repeat (refine Run.go rfl ?_)
  refine Run.pack 3 rfl rfl rfl ?_
  exact Run.ret hg rfl rfl

/-- What the first move is. -/
structure Slip (a b : List Bk) (R : (Int × Int) × Int) : Prop where
  h0 : scode a b ≠ 0 → R = ((0, 0), scode a b)
  h1 : scode a b = 0 → a = b → R = ((0, 0), 6)
  h2 : scode a b = 0 → a ≠ b → ∀ i j, i < b.length → j < b.length → mvL b i j = a → (∀ i' j', (i' < i ∨ i' = i ∧ j' < j) → j' < b.length → mvL b i' j' ≠ a) → R = (((i : Int), (j : Int)), 0)
  h3 : scode a b = 0 → a ≠ b → (∀ i j, i < b.length → j < b.length → mvL b i j ≠ a) → R = ((0, 0), 6)

theorem first_pair (n : Nat) (P : Nat → Nat → Prop) : (∀ i j, i < n → j < n → ¬ P i j) ∨ ∃ i j, i < n ∧ j < n ∧ P i j ∧ ∀ i' j', (i' < i ∨ i' = i ∧ j' < j) → j' < n → ¬ P i' j' := by
  have row : ∀ i q, (∀ j, j < q → ¬ P i j) ∨ ∃ j, j < q ∧ P i j ∧ ∀ j', j' < j → ¬ P i j' := by
    intro i q
    induction q with
    | zero => exact .inl fun j h => by omega
    | succ q ih =>
      rcases ih with h | ⟨j, h1, h2, h3⟩
      · by_cases hp : P i q
        · exact .inr ⟨q, by omega, hp, h⟩
        · refine .inl fun j hj => ?_
          by_cases e : j = q
          · subst e; exact hp
          · exact h j (by omega)
      · exact .inr ⟨j, by omega, h2, h3⟩
  have all : ∀ m, (∀ i j, i < m → j < n → ¬ P i j) ∨ ∃ i j, i < m ∧ j < n ∧ P i j ∧ ∀ i' j', (i' < i ∨ i' = i ∧ j' < j) → j' < n → ¬ P i' j' := by
    intro m
    induction m with
    | zero => exact .inl fun i j h => by omega
    | succ m ih =>
      rcases ih with h | ⟨i, j, h1, h2, h3, h4⟩
      · rcases row m n with h' | ⟨j, h1, h2, h3⟩
        · refine .inl fun i j hi hj => ?_
          by_cases e : i = m
          · subst e; exact h' j hj
          · exact h i j (by omega) hj
        · refine .inr ⟨m, j, by omega, h1, h2, fun i' j' hh hj' => ?_⟩
          rcases hh with hh | ⟨rfl, hh⟩
          · exact h i' j' hh hj'
          · exact h3 j' hh
      · exact .inr ⟨i, j, by omega, h2, h3, h4⟩
  exact all n

theorem slip_ex (a b : List Bk) : ∃ R, Slip a b R := by
  by_cases hc : scode a b = 0
  · by_cases he : a = b
    · exact ⟨((0, 0), 6), ⟨fun h => absurd hc h, fun _ _ => rfl, fun _ h => absurd he h, fun _ h => absurd he h⟩⟩
    · rcases first_pair b.length (fun i j => mvL b i j = a) with h | ⟨i, j, h1, h2, h3, h4⟩
      · exact ⟨((0, 0), 6), ⟨fun h => absurd hc h, fun _ _ => rfl, fun _ _ i j hi hj hm => absurd hm (h i j hi hj), fun _ _ _ => rfl⟩⟩
      · refine ⟨(((i : Int), (j : Int)), 0), ⟨fun h => absurd hc h, fun _ h => absurd h he, fun _ _ i' j' hi hj hm hn => ?_, fun _ _ hn => absurd h3 (hn i j h1 h2)⟩⟩
        rcases Nat.lt_trichotomy i i' with e | e | e
        · exact absurd h3 (hn i j (.inl e) h2)
        · subst e
          rcases Nat.lt_trichotomy j j' with e | e | e
          · exact absurd h3 (hn i j (.inr ⟨rfl, e⟩) h2)
          · subst e; rfl
          · exact absurd hm (h4 i j' (.inr ⟨rfl, e⟩) hj)
        · exact absurd hm (h4 i' j' (.inl e) hj)
  · exact ⟨((0, 0), scode a b), ⟨fun _ => rfl, fun h => absurd h hc, fun h => absurd h hc, fun h => absurd h hc⟩⟩

noncomputable def X23 : Fx := ⟨Tryz.prog, tys, 23, Tryz.f23, [0, 1]⟩
theorem X23_ok : X23.Ok := ⟨Tryz.func23, tys_ok⟩
theorem implOneSlip_ct (a b : List Bk) (e1 e2 : Bool) (R : (Int × Int) × Int) (hR : Slip a b R) (ha : a.length ≤ 1048576 ∧ ∀ x ∈ a, bkRng x) (hb : b.length ≤ 1048576 ∧ ∀ x ∈ b, bkRng x) : Ct Tryz.prog 23 [.ro 8 e1 (a.map bkA), .ro 8 e2 (b.map bkA)] (mvR R) [] := by
  refine Ct.intro X23 X23_ok rfl rfl rfl rfl fun g hg => ?_
  iterate 4 (refine Run.go rfl ?_)
  refine Run.freezeBox 3 (3, 0) [.ro 8 e2 (b.map bkA)] rfl rfl rfl rfl ?_
  repeat (refine Run.go rfl ?_)
  refine Run.cs rfl (firstMove_ct a b e1 e2 _ _ [.ro 8 e2 (b.map bkA)] (fun i => 0) (mvL b) R ha hb (fun i hi => oneSlip1_ct i) (fun hs i j hi hj => oneSlip2_ct b e2 (scode_vB hs).2 i j hi hj) ?_ ?_ ?_ ?_ ?_) rfl rfl ?_
  · intro i j hi hj
    exact ⟨by rw [mvL_len hi hj]; exact hb.1, fun x hx => hb.2 x (mvL_mem hx)⟩
  · exact hR.h0
  · exact hR.h1
  · intro h hne i j hi _ hj hm hn
    exact hR.h2 h hne i j hi hj hm fun i' j' hh hj' => hn i' j' hh (by omega) hj'
  · intro h hne hno
    exact hR.h3 h hne fun i j hi hj => hno i j hi (by omega) hj
  repeat (refine Run.go rfl ?_)
  exact Run.ret hg rfl rfl

noncomputable def X84 : Fx := ⟨Tryz.prog, tys, 84, Tryz.f84, [0]⟩
theorem X84_ok : X84.Ok := ⟨Tryz.func84, tys_ok⟩
theorem l03Carried_ct (b : List Bk) (e : Bool) (f t : Nat) (hf : f < b.length) (ht : t < b.length) (hb : b.length ≤ 60) :
    Ct Tryz.prog 84 [.ro 8 e (b.map bkA), .agg [i16 f, i16 1, i16 t]] (.own 8 false ((mvL b f t).map bkA)) [] := by
  have hbl : (b.map bkA).length = b.length := List.length_map ..
  have hf1 : IntKind.i64.wrap (f : Int) = f := wrap_i64 (by omega) (by omega)
  have hf2 : IntKind.i64.wrap ((f : Int) + 1) = (f + 1 : Nat) := by rw [wrap_i64 (by omega) (by omega)]; rfl
  have hot : oneC ((b.map bkA).take f) = true := by rw [← List.map_take]; exact oneC_bk _
  have hod : oneC ((b.map bkA).drop (f + 1)) = true := by rw [← List.map_drop]; exact oneC_bk _
  refine Ct.intro X84 X84_ok rfl (by kernel_rfl) rfl rfl fun g hg => ?_
  repeat (refine Run.go rfl ?_)
  refine Run.le (st' := ⟨[(0, .ro 8 e (b.map bkA)), (3, .bp (3, 0) 0), (5, i64 f), (6, i64 ((f + 1 : Nat) : Int))], [((3, 0), Ob.box [i16 f, i16 1, i16 t])]⟩) (St.Le.mk' ⟨rfl, rfl, ?_, ?_, trivial⟩ ⟨rfl, trivial⟩) ?_
  · show i64 _ = i64 _
    rw [hf1]
  · show i64 _ = i64 _
    rw [hf1, wrap_i64 (n := 1) (by omega) (by omega), hf2]
  refine Run.drawI (fun D => ⟨[(0, .ro 8 e (b.map bkA)), (3, .bp (3, 0) 0), (5, i64 f), (6, i64 ((f + 1 : Nat) : Int)), (17, bif D 4 then .top else bif D 0 then .own 8 false [] else .top), (18, bif D 1 then .ro 8 e (b.map bkA) else .top), (19, bif D 2 then i64 f else .top), (20, bif D 3 then .ro 8 false ((b.map bkA).take f) else .top), (21, bif D 8 then .top else bif D 4 then .own 8 false ((b.map bkA).take f) else .top), (22, bif D 5 then .ro 8 e (b.map bkA) else .top), (23, bif D 6 then i64 ((f + 1 : Nat) : Int) else .top), (24, bif D 7 then .ro 8 false ((b.map bkA).drop (f + 1)) else .top), (25, bif D 9 then .top else bif D 8 then .own 8 false (((b.map bkA).take f) ++ ((b.map bkA).drop (f + 1))) else .top), (7, bif D 9 then .own 8 false (((b.map bkA).take f) ++ ((b.map bkA).drop (f + 1))) else .top)], [((3, 0), Ob.box [i16 f, i16 1, i16 t])]⟩) (by decide +kernel) (by decide +kernel) ?_ ?_ fun k' => ⟨?_, ?_, ?_, ?_, ?_, ?_, ?_, ?_, ?_, ?_, trivial⟩
  · exact St.Le.mk' ⟨rfl, rfl, rfl, rfl, rfl, rfl, rfl, rfl, rfl, rfl, rfl, rfl, rfl, rfl, trivial⟩ ⟨rfl, trivial⟩
  rotate_left
  · intro D hid h0 hp hs rest hK
    obtain ⟨d4, -⟩ : AllD D false [4] := ideal_sub hs (by decide +kernel)
    simp only [d4, h0, cond_true, cond_false]
    refine Run.buildSlice [] rfl rfl rfl rfl rfl rfl rfl rfl rfl rfl rfl rfl rfl rfl ?_
    refine Run.loosen0 17 rfl ?_
    refine Run.le ?_ hK
    simp only [d4, h0, Nat.reduceBEq, Bool.false_or, Bool.true_or, cond_true, cond_false]
    exact St.Le.mk' ⟨rfl, rfl, rfl, rfl, rfl, rfl, rfl, rfl, rfl, rfl, rfl, rfl, rfl, rfl, trivial⟩ ⟨rfl, trivial⟩
  · intro D hid h0 hp hs rest hK
    obtain ⟨d3, -⟩ : AllD D false [3] := ideal_sub hs (by decide +kernel)
    simp only [d3, h0, cond_true, cond_false]
    refine Run.go rfl ?_
    refine Run.le ?_ hK
    simp only [d3, h0, Nat.reduceBEq, Bool.false_or, Bool.true_or, cond_true, cond_false]
    exact St.Le.mk' ⟨rfl, rfl, rfl, rfl, rfl, rfl, rfl, rfl, rfl, rfl, rfl, rfl, rfl, rfl, trivial⟩ ⟨rfl, trivial⟩
  · intro D hid h0 hp hs rest hK
    obtain ⟨d3, -⟩ : AllD D false [3] := ideal_sub hs (by decide +kernel)
    simp only [d3, h0, cond_true, cond_false]
    refine Run.go rfl ?_
    refine Run.le ?_ hK
    simp only [d3, h0, Nat.reduceBEq, Bool.false_or, Bool.true_or, cond_true, cond_false]
    exact St.Le.mk' ⟨rfl, rfl, rfl, rfl, rfl, rfl, rfl, rfl, rfl, rfl, rfl, rfl, rfl, rfl, trivial⟩ ⟨rfl, trivial⟩
  · intro D hid h0 hp hs rest hK
    obtain ⟨d1, d2, -⟩ : AllD D true [1, 2] := ideal_sub hp (by decide +kernel)
    obtain ⟨d4, -⟩ : AllD D false [4] := ideal_sub hs (by decide +kernel)
    simp only [d1, d2, d4, h0, cond_true, cond_false]
    refine Run.val rfl rfl rfl (ValOk.cut (l := 0) (h := f) rfl rfl rfl rfl rfl rfl (by omega) (by omega) (by rw [hbl]; omega) rfl) rfl ?_
    refine Run.le ?_ hK
    simp only [d1, d2, d4, h0, Nat.reduceBEq, Bool.false_or, Bool.true_or, cond_true, cond_false]
    exact St.Le.mk' ⟨rfl, rfl, rfl, rfl, rfl, rfl, rfl, rfl, rfl, rfl, rfl, rfl, rfl, rfl, trivial⟩ ⟨rfl, trivial⟩
  · intro D hid h0 hp hs rest hK
    obtain ⟨d0, d3, -⟩ : AllD D true [0, 3] := ideal_sub hp (by decide +kernel)
    obtain ⟨d8, -⟩ : AllD D false [8] := ideal_sub hs (by decide +kernel)
    simp only [d0, d3, d8, h0, cond_true, cond_false]
    refine Run.unpack 17 rfl (by cases D 1 <;> cases D 2 <;> cases D 5 <;> cases D 6 <;> cases D 7 <;> cases D 9 <;> rfl) ?_
    refine Run.appendr (ys := ((b.map bkA).take f)) rfl rfl rfl rfl rfl rfl rfl rfl rfl rfl rfl rfl rfl hot (by show (0 + _) * 14 ≤ _; simp; omega) (by simp [capMax]; omega) rfl ?_
    rw [List.nil_append]
    refine Run.forget 17 ?_
    refine Run.le ?_ hK
    simp only [d0, d3, d8, h0, Nat.reduceBEq, Bool.false_or, Bool.true_or, cond_true, cond_false]
    exact St.Le.mk' ⟨rfl, rfl, rfl, rfl, rfl, rfl, rfl, rfl, rfl, rfl, rfl, rfl, rfl, rfl, trivial⟩ ⟨rfl, trivial⟩
  · intro D hid h0 hp hs rest hK
    obtain ⟨d7, -⟩ : AllD D false [7] := ideal_sub hs (by decide +kernel)
    simp only [d7, h0, cond_true, cond_false]
    refine Run.go rfl ?_
    refine Run.le ?_ hK
    simp only [d7, h0, Nat.reduceBEq, Bool.false_or, Bool.true_or, cond_true, cond_false]
    exact St.Le.mk' ⟨rfl, rfl, rfl, rfl, rfl, rfl, rfl, rfl, rfl, rfl, rfl, rfl, rfl, rfl, trivial⟩ ⟨rfl, trivial⟩
  · intro D hid h0 hp hs rest hK
    obtain ⟨d7, -⟩ : AllD D false [7] := ideal_sub hs (by decide +kernel)
    simp only [d7, h0, cond_true, cond_false]
    refine Run.go rfl ?_
    refine Run.le ?_ hK
    simp only [d7, h0, Nat.reduceBEq, Bool.false_or, Bool.true_or, cond_true, cond_false]
    exact St.Le.mk' ⟨rfl, rfl, rfl, rfl, rfl, rfl, rfl, rfl, rfl, rfl, rfl, rfl, rfl, rfl, trivial⟩ ⟨rfl, trivial⟩
  · intro D hid h0 hp hs rest hK
    obtain ⟨d5, d6, -⟩ : AllD D true [5, 6] := ideal_sub hp (by decide +kernel)
    obtain ⟨d8, -⟩ : AllD D false [8] := ideal_sub hs (by decide +kernel)
    simp only [d5, d6, d8, h0, cond_true, cond_false]
    refine Run.val rfl rfl rfl (ValOk.cut (l := (f + 1 : Nat)) (h := (b.map bkA).length) rfl rfl rfl rfl rfl rfl (by omega) (by rw [hbl]; omega) (by omega) (by rw [Int.toNat_natCast, Int.toNat_natCast, List.take_length])) rfl ?_
    refine Run.le ?_ hK
    simp only [d5, d6, d8, h0, Nat.reduceBEq, Bool.false_or, Bool.true_or, cond_true, cond_false]
    exact St.Le.mk' ⟨rfl, rfl, rfl, rfl, rfl, rfl, rfl, rfl, rfl, rfl, rfl, rfl, rfl, rfl, trivial⟩ ⟨rfl, trivial⟩
  · intro D hid h0 hp hs rest hK
    obtain ⟨d4, d7, -⟩ : AllD D true [4, 7] := ideal_sub hp (by decide +kernel)
    obtain ⟨d9, -⟩ : AllD D false [9] := ideal_sub hs (by decide +kernel)
    simp only [d4, d7, d9, h0, cond_true, cond_false]
    refine Run.unpack 21 rfl (by cases D 1 <;> cases D 2 <;> cases D 3 <;> cases D 5 <;> cases D 6 <;> rfl) ?_
    refine Run.appendr (ys := ((b.map bkA).drop (f + 1))) rfl rfl rfl rfl rfl rfl rfl rfl rfl rfl rfl rfl rfl hod (by show (_ + _) * 14 ≤ _; simp; omega) (by simp [capMax]; omega) rfl ?_
    refine Run.forget 21 ?_
    refine Run.le ?_ hK
    simp only [d4, d7, d9, h0, Nat.reduceBEq, Bool.false_or, Bool.true_or, cond_true, cond_false]
    exact St.Le.mk' ⟨rfl, rfl, rfl, rfl, rfl, rfl, rfl, rfl, rfl, rfl, rfl, rfl, rfl, rfl, trivial⟩ ⟨rfl, trivial⟩
  · intro D hid h0 hp hs rest hK
    obtain ⟨d8, -⟩ : AllD D true [8] := ideal_sub hp (by decide +kernel)
    simp only [d8, h0, cond_true, cond_false]
    refine Run.go rfl ?_
    refine Run.le ?_ hK
    simp only [d8, h0, Nat.reduceBEq, Bool.false_or, Bool.true_or, cond_true, cond_false]
    exact St.Le.mk' ⟨rfl, rfl, rfl, rfl, rfl, rfl, rfl, rfl, rfl, rfl, rfl, rfl, rfl, rfl, trivial⟩ ⟨rfl, trivial⟩
  have hrl : ((b.map bkA).take f ++ (b.map bkA).drop (f + 1)).length = b.length - 1 := by simp; omega
  have hro : oneC ((b.map bkA).take f ++ (b.map bkA).drop (f + 1)) = true := by rw [← List.map_take, ← List.map_drop, ← List.map_append]; exact oneC_bk _
  have hrm : (b.map bkA).take f ++ (b.map bkA).drop (f + 1) = (b.take f ++ b.drop (f + 1)).map bkA := by rw [← List.map_take, ← List.map_drop, ← List.map_append]
  rw [hrm] at hrl hro ⊢
  generalize hr : b.take f ++ b.drop (f + 1) = r at hrl hro
  have hrl : r.length = b.length - 1 := by simpa using hrl
  refine Run.freeze (v' := .ro 8 false (r.map bkA)) 7 rfl rfl (by show AV.ro _ _ (AV.frzL _) = _; rw [frzB]) ?_
  repeat (refine Run.go rfl ?_)
  refine Run.buildSlice [] rfl rfl rfl rfl rfl rfl rfl rfl rfl rfl rfl rfl rfl rfl ?_
  refine Run.loosen0 26 rfl ?_
  refine Run.unpack 26 rfl rfl ?_
  repeat (refine Run.go rfl ?_)
  refine Run.val rfl rfl rfl (ValOk.cut (l := 0) (h := t) (ys := (r.take t).map bkA) rfl rfl rfl rfl rfl rfl (by omega) (by omega) (by simp [hrl]; omega) (by simp)) rfl ?_
  refine Run.appendr (ys := (r.take t).map bkA) rfl rfl rfl rfl rfl rfl rfl rfl rfl rfl rfl rfl rfl (oneC_bk _) (by show (0 + _) * 14 ≤ _; simp; omega) (by simp [capMax]; omega) rfl ?_
  rw [List.nil_append]
  repeat (refine Run.go rfl ?_)
  refine Run.val rfl rfl rfl (ValOk.cut (l := f) (h := (f + 1 : Nat)) (ys := ((b.drop f).take 1).map bkA) rfl rfl rfl rfl rfl rfl (by omega) (by omega) (by rw [hbl]; omega) ?_) rfl ?_
  · rw [Int.toNat_natCast, Int.toNat_natCast, List.map_take, List.map_drop, List.take_drop]
  refine Run.appendr (ys := ((b.drop f).take 1).map bkA) rfl rfl rfl rfl rfl rfl rfl rfl rfl rfl rfl rfl rfl (oneC_bk _) (by show (_ + _) * 14 ≤ _; simp; omega) (by simp [capMax]; omega) rfl ?_
  repeat (refine Run.go rfl ?_)
  refine Run.le (st' := ⟨[(3, .bp (3, 0) 0), (7, .ro 8 false (r.map bkA)), (8, .own 8 false ((r.take t).map bkA ++ ((b.drop f).take 1).map bkA))], [((3, 0), Ob.box [i16 f, i16 1, i16 t])]⟩) (St.Le.mk' ⟨rfl, rfl, rfl, trivial⟩ ⟨rfl, trivial⟩) ?_
  repeat (refine Run.go rfl ?_)
  refine Run.val rfl rfl rfl (ValOk.cut (l := t) (h := (r.map bkA).length) (xs := r.map bkA) (ys := (r.drop t).map bkA) rfl rfl rfl rfl rfl rfl (by omega) (by simp [hrl]; omega) (by omega) (by rw [Int.toNat_natCast, Int.toNat_natCast, List.take_length, List.map_drop])) rfl ?_
  refine Run.appendr (ys := (r.drop t).map bkA) rfl rfl rfl rfl rfl rfl rfl rfl rfl rfl rfl rfl rfl (oneC_bk _) (by show (_ + _) * 14 ≤ _; simp; omega) (by simp [capMax]; omega) rfl ?_
  repeat (refine Run.go rfl ?_)
  refine Run.ret hg rfl ?_
  show AV.own _ _ _ = AV.own _ _ _
  rw [mvL, hr, List.map_append, List.map_append]

noncomputable def X36 : Fx := ⟨Tryz.prog, tys, 36, Tryz.f36, [0]⟩
theorem X36_ok : X36.Ok := ⟨Tryz.func36, tys_ok⟩
theorem l03Moved_ct (b : List Bk) (e : Bool) (f t : Nat) (hf : f < b.length) (ht : t < b.length) (hb : b.length ≤ 60) :
    Ct Tryz.prog 36 [.ro 8 e (b.map bkA), mvA f t] (.own 8 false ((mvL b f t).map bkA)) [] := by
  refine Ct.intro X36 X36_ok rfl (by kernel_rfl) rfl rfl fun g hg => ?_
  repeat (refine Run.go rfl ?_)
  refine Run.val rfl rfl rfl (ValOk.build rfl rfl rfl rfl rfl) rfl ?_
  refine Run.cs rfl (l03Carried_ct b e f t hf ht hb) rfl (rfB _) ?_
  repeat (refine Run.go rfl ?_)
  exact Run.ret hg rfl rfl

noncomputable def X64 : Fx := ⟨Tryz.prog, tys, 64, Tryz.f64, [0, 1]⟩
theorem X64_ok : X64.Ok := ⟨Tryz.func64, tys_ok⟩
theorem l01Same_ct (a b : List Bk) (e1 e2 : Bool) (ha : a.length ≤ 1048576 ∧ ∀ x ∈ a, bkRng x) (hb : b.length ≤ 1048576 ∧ ∀ x ∈ b, bkRng x) : Ct Tryz.prog 64 [.ro 8 e1 (a.map bkA), .ro 8 e2 (b.map bkA)] (bo (decide (a = b))) [] := by
  obtain ⟨hal, har⟩ := ha
  obtain ⟨hbl, hbr⟩ := hb
  refine Ct.intro X64 X64_ok rfl (by kernel_rfl) rfl rfl fun g hg => ?_
  repeat (refine Run.go rfl ?_)
  refine Run.cond rfl (fun h => ?_) (fun h => ?_)
  · have h : a.length ≠ b.length := by
      intro e
      simp [e] at h
    repeat (refine Run.go rfl ?_)
    refine Run.ret hg rfl ?_
    rw [decide_eq_false (p := a = b) fun e => h (by rw [e])]
    rfl
  have hl : a.length = b.length := by
    simp at h
    omega
  repeat (refine Run.go rfl ?_)
  refine Run.loop (fun j : Nat => ⟨[(0, .ro 8 e1 (a.map bkA)), (1, .ro 8 e2 (b.map bkA)), (5, i64 j)], []⟩) (fun j => j ≤ a.length ∧ a.take j = b.take j) (fun j => a.length - j) 0 ⟨by omega, rfl⟩ ?_ ?_
  · exact St.Le.mk' ⟨rfl, rfl, rfl, trivial⟩ trivial
  rintro j ⟨hj, ht⟩ IH
  repeat (refine Run.go rfl ?_)
  refine Run.cond rfl (fun h => ?_) (fun h => ?_)
  · have hlt : j < a.length := by simpa using h
    have hlb : j < b.length := by omega
    repeat (refine Run.go rfl ?_)
    refine Run.drawS ⟨[(0, .ro 8 e1 (a.map bkA)), (1, .ro 8 e2 (b.map bkA)), (5, i64 j), (25, bo (!decide (a[j] = b[j])))], []⟩ (by kernel_rfl) (by decide +kernel) ?_ ?_
    · repeat (refine Quiet.go rfl ?_)
      refine Quiet.val rfl rfl (ValOk.idx (bkA a[j]) rfl rfl rfl rfl rfl (by omega) (by simp [hlt])) rfl ?_
      repeat (refine Quiet.go rfl ?_)
      refine Quiet.val rfl rfl (ValOk.idx (bkA b[j]) rfl rfl rfl rfl rfl (by omega) (by simp [hlb])) rfl ?_
      repeat (refine Quiet.go rfl ?_)
      refine Quiet.val rfl rfl (ValOk.neK a[j] b[j] rfl bkK rfl rfl (har _ (by simp)) (hbr _ (by simp))) rfl ?_
      exact Quiet.nil (St.Le.mk' ⟨rfl, rfl, rfl, rfl, trivial⟩ trivial)
    refine Run.cond rfl (fun h => ?_) (fun h => ?_)
    · have h : a[j] ≠ b[j] := by simpa using h
      repeat (refine Run.go rfl ?_)
      refine Run.ret hg rfl ?_
      rw [decide_eq_false (p := a = b) fun e => h (by simp only [e])]
      rfl
    · have h : a[j] = b[j] := by simpa using h
      repeat (refine Run.go rfl ?_)
      refine Run.of (IH (j + 1) ⟨by omega, take_snoc_eq hlt hlb ht h⟩ (by omega)) ⟨rfl, rfl, ?_, trivial⟩ trivial
      show i64 _ = _
      rw [wrap_i64 (by omega) (by omega)]
      rfl
  · have hj' : j = a.length := by simp at h; omega
    subst hj'
    repeat (refine Run.go rfl ?_)
    refine Run.ret hg rfl ?_
    rw [List.take_length, hl, List.take_length] at ht
    rw [decide_eq_true ht]
    rfl

noncomputable def X24 : Fx := ⟨Tryz.prog, tys, 24, Tryz.f24, [0, 1]⟩
theorem X24_ok : X24.Ok := ⟨Tryz.func24, tys_ok⟩
theorem specOneSlip_ct (a b : List Bk) (e1 e2 : Bool) (R : (Int × Int) × Int) (hR : Slip a b R) (ha : a.length ≤ 1048576 ∧ ∀ x ∈ a, bkRng x) (hb : b.length ≤ 1048576 ∧ ∀ x ∈ b, bkRng x) : Ct Tryz.prog 24 [.ro 8 e1 (a.map bkA), .ro 8 e2 (b.map bkA)] (mvR R) [] := by
  refine Ct.intro X24 X24_ok rfl rfl rfl rfl fun g hg => ?_
  repeat (refine Run.go rfl ?_)
  refine Run.cs rfl (l07Same_ct a b e1 e2 ha hb) rfl rfl ?_
  repeat (refine Run.go rfl ?_)
  refine Run.cond rfl (fun h => ?_) (fun h => ?_)
  · have h : scode a b ≠ 0 := by simpa using h
    repeat (refine Run.go rfl ?_)
    refine Run.val rfl rfl rfl (ValOk.build rfl rfl rfl rfl rfl) rfl ?_
    repeat (refine Run.go rfl ?_)
    refine Run.ret hg rfl ?_
    rw [hR.h0 h]
    rfl
  have hsc : scode a b = 0 := by simpa using h
  obtain ⟨hal60, hbl60⟩ := scode_vB hsc
  repeat (refine Run.go rfl ?_)
  refine Run.loop (fun i : Nat => ⟨[(0, .ro 8 e1 (a.map bkA)), (1, .ro 8 e2 (b.map bkA)), (4, .bp (4, 0) 0), (7, i16 b.length), (8, i16 i)], [((4, 0), .box [i16 0, i16 0])]⟩)
    (fun i => i ≤ b.length ∧ (0 < i → a ≠ b) ∧ ∀ i' j', i' < i → j' < b.length → mvL b i' j' ≠ a) (fun i => b.length - i) 0 ⟨by omega, by omega, fun i' j' h => by omega⟩ ?_ ?_
  · refine St.Le.mk' ⟨rfl, rfl, rfl, ?_, rfl, trivial⟩ ⟨rfl, trivial⟩
    show i16 _ = _
    rw [List.length_map, wrap_i16 (by omega) (by omega)]
  rintro i ⟨hi, hne0, hno⟩ IH
  repeat (refine Run.go rfl ?_)
  refine Run.bool 24 rfl (fun h => ?_) (fun h => ?_)
  · have hlt : i < b.length := by simpa using h
    repeat (refine Run.go rfl ?_)
    refine Run.cs rfl (l01Same_ct a b e1 e2 ha hb) rfl rfl ?_
    repeat (refine Run.go rfl ?_)
    refine Run.cond rfl (fun h => ?_) (fun h => ?_)
    · have hne : a ≠ b := by simpa using h
      repeat (refine Run.go rfl ?_)
      refine Run.loop (fun j : Nat => ⟨[(0, .ro 8 e1 (a.map bkA)), (1, .ro 8 e2 (b.map bkA)), (4, .bp (4, 0) 0), (7, i16 b.length), (8, i16 i), (9, i16 j)], [((4, 0), .box [i16 0, i16 0])]⟩)
        (fun j => j ≤ b.length ∧ ∀ j', j' < j → mvL b i j' ≠ a) (fun j => b.length - j) 0 ⟨by omega, fun j' h => by omega⟩ ?_ ?_
      · exact St.Le.mk' ⟨rfl, rfl, rfl, rfl, rfl, rfl, trivial⟩ ⟨rfl, trivial⟩
      rintro j ⟨hj, hnoj⟩ IH2
      repeat (refine Run.go rfl ?_)
      refine Run.cond rfl (fun h => ?_) (fun h => ?_)
      · have hjl : j < b.length := by simpa using h
        repeat (refine Run.go rfl ?_)
        refine Run.val rfl rfl rfl (ValOk.build rfl rfl rfl rfl rfl) rfl ?_
        repeat (refine Run.go rfl ?_)
        refine Run.cs rfl (l03Moved_ct b e2 i j hlt hjl hbl60) rfl (rfB _) ?_
        repeat (refine Run.go rfl ?_)
        refine Run.cs rfl (l01Same_ct (mvL b i j) a false e1 ⟨by rw [mvL_len hlt hjl]; omega, fun x hx => hb.2 x (mvL_mem hx)⟩ ha) (by rw [frzB]; rfl) rfl ?_
        repeat (refine Run.go rfl ?_)
        refine Run.cond rfl (fun h => ?_) (fun h => ?_)
        · have h : mvL b i j = a := by simpa using h
          repeat (refine Run.go rfl ?_)
          refine Run.ret hg rfl ?_
          rw [hR.h2 hsc hne i j hlt hjl h fun i' j' hh hj' => by
            rcases hh with hh | ⟨rfl, hh⟩
            · exact hno i' j' hh hj'
            · exact hnoj j' hh]
          rfl
        · have h : mvL b i j ≠ a := by simpa using h
          repeat (refine Run.go rfl ?_)
          refine Run.of (IH2 (j + 1) ⟨by omega, fun j' hj' => ?_⟩ (by omega)) ⟨rfl, rfl, rfl, rfl, rfl, ?_, trivial⟩ ⟨rfl, trivial⟩
          · by_cases e : j' = j
            · subst e; exact h
            · exact hnoj j' (by omega)
          · show i16 _ = _
            rw [wrap_i16 (by omega) (by omega)]
            rfl
      · have hjl : j = b.length := by simp at h; omega
        subst hjl
        repeat (refine Run.go rfl ?_)
        refine Run.of (IH (i + 1) ⟨by omega, fun _ => hne, fun i' j' hi' hj' => ?_⟩ (by omega)) ⟨rfl, rfl, rfl, rfl, ?_, trivial⟩ ⟨rfl, trivial⟩
        · by_cases e : i' = i
          · subst e; exact hnoj j' hj'
          · exact hno i' j' (by omega) hj'
        · show i16 _ = _
          rw [wrap_i16 (by omega) (by omega)]
          rfl
    · have heq : a = b := by simpa using h
      repeat (refine Run.go rfl ?_)
      refine Run.val rfl rfl rfl (ValOk.build rfl rfl rfl rfl rfl) rfl ?_
      repeat (refine Run.go rfl ?_)
      refine Run.ret hg rfl ?_
      rw [hR.h1 hsc heq]
      rfl
  · have hlt : i = b.length := by simp at h; omega
    subst hlt
    repeat (refine Run.go rfl ?_)
    refine Run.cond rfl (fun h => by simp at h) (fun h => ?_)
    repeat (refine Run.go rfl ?_)
    refine Run.val rfl rfl rfl (ValOk.build rfl rfl rfl rfl rfl) rfl ?_
    repeat (refine Run.go rfl ?_)
    refine Run.ret hg rfl ?_
    have : R = ((0, 0), 6) := by
      by_cases he : a = b
      · exact hR.h1 hsc he
      · exact hR.h3 hsc he fun i j hi hj => hno i j hi hj
    rw [this]
    rfl
end Go.Proofs.YtenknlnnnicdeaaGreatDoor
