/- Parts of a proof, in one text: B10, B11, B12, B13, B14. -/
import Derived.Test.YtahdgoddpkmhbaaMC
import Derived.Test.YtahdgoddpkmhbaaMD
import Derived.Test.YtahdgoddpkmhbaaMB
set_option linter.unusedVariables false

/- Contracts of the program's functions, and what follows from them. -/
namespace Go.Proofs.Ytahdgoddpkmhbaa
open Go Go.Av

/-! A shelf without some books. -/

noncomputable def X17 : Fx := ⟨Try.prog, tys, 17, Try.f17, [0]⟩
theorem X17_ok : X17.Ok := ⟨Try.func17, tys_ok⟩
theorem toInt64S_ct (l : List Int) (ex : Bool) (hlen : l.length ≤ 1048576) : Ct Try.prog 17 [.ro 1 ex (l.map i64)] (.own 1 true (l.map i64)) [] := by
  refine Ct.intro X17 X17_ok rfl rfl rfl rfl fun g hg => ?_
  repeat (refine Run.go rfl ?_)
  refine Run.make rfl rfl rfl rfl rfl rfl rfl rfl rfl rfl (by simp; omega) (by show _ * 8 ≤ _; simp; omega) rfl ?_
  repeat (refine Run.go rfl ?_)
  refine Run.loop (fun j : Nat => ⟨[(0, .ro 1 ex (l.map i64)), (3, .own 1 true ((l.take j).map i64 ++ List.replicate (l.length - j) (i64 0))), (4, i64 j)], []⟩) (fun j => j ≤ l.length) (fun j => l.length - j) 0 (by omega) ?_ ?_
  · refine St.Le.mk' ⟨rfl, ?_, rfl, trivial⟩ trivial
    show AV.own 1 true (List.replicate (l.map i64).length (i64 0)) = _
    simp
  · intro j hj IH
    repeat (refine Run.go rfl ?_)
    refine Run.cond rfl (fun h => ?_) (fun h => ?_)
    · have hlt : j < l.length := by simpa using h
      repeat (refine Run.go rfl ?_)
      refine Run.val rfl rfl rfl (ValOk.idx (i64 l[j]) rfl rfl rfl rfl rfl (by omega) (by simp [hlt])) rfl ?_
      repeat (refine Run.go rfl ?_)
      refine Run.val rfl rfl rfl (ValOk.idxv rfl rfl rfl rfl rfl rfl (by omega) (by simp; omega)) rfl ?_
      refine Run.storee (i64 0) (i64 l[j]) rfl rfl rfl rfl rfl rfl rfl ?_ rfl rfl rfl ?_
      · simpa using fill_at hlt
      repeat (refine Run.go rfl ?_)
      refine Run.pack 3 rfl rfl (by simp) ?_
      refine Run.of (IH (j + 1) (by omega) (by omega)) ⟨rfl, ?_, ?_, trivial⟩ trivial
      · show AV.own _ _ _ = _
        congr 1
        simp only [Nat.zero_add, Int.toNat_natCast]
        exact fill_step hlt
      · show i64 _ = _
        rw [wrap_i64 (by omega) (by omega)]
        rfl
    · have hj' : j = l.length := by simp at h; omega
      subst hj'
      repeat (refine Run.go rfl ?_)
      refine Run.pack 2 rfl rfl rfl ?_
      refine Run.ret hg rfl ?_
      show AV.own _ _ _ = _
      simp

noncomputable def X73 : Fx := ⟨Try.prog, tys, 73, Try.f73, [0, 1]⟩
theorem X73_ok : X73.Ok := ⟨Try.func73, tys_ok⟩
theorem index64_ct (l : List Int) (ex : Bool) (n : Int) (hlen : l.length ≤ 1048576) : Ct Try.prog 73 [.ro 1 ex (l.map i64), i64 n] (i64 (fi (fun x => x == n) l)) [] := by
  refine Ct.intro X73 X73_ok rfl rfl rfl rfl fun g hg => ?_
  repeat (refine Run.go rfl ?_)
  refine Run.loop (fun j : Nat => ⟨[(0, .ro 1 ex (l.map i64)), (1, i64 n), (7, i64 l.length), (8, i64 j)], []⟩) (fun j => j ≤ l.length ∧ j ≤ l.findIdx (fun x => x == n)) (fun j => l.length - j) 0 ⟨by omega, by omega⟩ ?_ ?_
  · refine St.Le.mk' ⟨rfl, rfl, ?_, rfl, trivial⟩ trivial
    show i64 (l.map i64).length = _
    simp
  · rintro j ⟨hj1, hj2⟩ IH
    repeat (refine Run.go rfl ?_)
    refine Run.cond rfl (fun h => ?_) (fun h => ?_)
    · have hlt : j < l.length := by simpa using h
      repeat (refine Run.go rfl ?_)
      refine Run.val rfl rfl rfl (ValOk.idx (i64 l[j]) rfl rfl rfl rfl rfl (by omega) (by simp [hlt])) rfl ?_
      repeat (refine Run.go rfl ?_)
      refine Run.cond rfl (fun h => ?_) (fun h => ?_)
      · have h : (l[j] == n) = true := by simp at h; simp [h]
        repeat (refine Run.go rfl ?_)
        refine Run.ret hg rfl ?_
        show i64 _ = _
        rw [fi_at hlt h hj2]
      · have h : (l[j] == n) = false := by simp at h; simp; omega
        repeat (refine Run.go rfl ?_)
        refine Run.of (IH (j + 1) ⟨by omega, fi_next hlt h hj2⟩ (by omega)) ⟨rfl, rfl, rfl, ?_, trivial⟩ trivial
        show i64 _ = _
        rw [wrap_i64 (by omega) (by omega)]
        rfl
    · repeat (refine Run.go rfl ?_)
      have hj : j = l.length := by simp at h; omega
      refine Run.ret hg rfl ?_
      show i64 (-1) = _
      rw [fi_none (by omega)]

noncomputable def X48 : Fx := ⟨Try.prog, tys, 48, Try.f48, [0, 1]⟩
theorem X48_ok : X48.Ok := ⟨Try.func48, tys_ok⟩
theorem contains64_ct (l : List Int) (ex : Bool) (n : Int) (hlen : l.length ≤ 1048576) : Ct Try.prog 48 [.ro 1 ex (l.map i64), i64 n] (bo (l.any fun x => x == n)) [] := by
  refine Ct.intro X48 X48_ok rfl (by kernel_rfl) rfl rfl fun g hg => ?_
  repeat (refine Run.go rfl ?_)
  refine Run.cs rfl (index64_ct l ex n hlen) rfl rfl ?_
  repeat (refine Run.go rfl ?_)
  refine Run.ret hg rfl ?_
  show bo (decide (0 ≤ fi _ _)) = _
  rw [fi_nonneg]

noncomputable def X44 : Fx := ⟨Try.prog, tys, 44, Try.f44, [0, 1]⟩
theorem X44_ok : X44.Ok := ⟨Try.func44, tys_ok⟩
theorem l00Has_ct (l : List Int) (ex : Bool) (n : Int) (hlen : l.length ≤ 1048576) : Ct Try.prog 44 [.ro 1 ex (l.map i64), i64 n] (bo (l.any fun x => x == n)) [] := by
  refine Ct.intro X44 X44_ok rfl rfl rfl rfl fun g hg => ?_
  repeat (refine Run.go rfl ?_)
  refine Run.loop (fun j : Nat => ⟨[(0, .ro 1 ex (l.map i64)), (1, i64 n), (5, i64 j)], []⟩) (fun j => j ≤ l.length ∧ (l.take j).any (fun x => x == n) = false) (fun j => l.length - j) 0 ⟨by omega, rfl⟩ ?_ ?_
  · exact St.Le.mk' ⟨rfl, rfl, rfl, trivial⟩ trivial
  rintro j ⟨hj, hany⟩ IH
  repeat (refine Run.go rfl ?_)
  refine Run.cond rfl (fun h => ?_) (fun h => ?_)
  · have hlt : j < l.length := by simpa using h
    repeat (refine Run.go rfl ?_)
    refine Run.val rfl rfl rfl (ValOk.idx (i64 l[j]) rfl rfl rfl rfl rfl (by omega) (by simp [hlt])) rfl ?_
    repeat (refine Run.go rfl ?_)
    refine Run.cond rfl (fun h => ?_) (fun h => ?_)
    · have h : (l[j] == n) = true := h
      repeat (refine Run.go rfl ?_)
      refine Run.ret hg rfl ?_
      have : l.any (fun x => x == n) = true := List.any_eq_true.mpr ⟨l[j], by simp, h⟩
      rw [this]
      rfl
    · have h : (l[j] == n) = false := h
      repeat (refine Run.go rfl ?_)
      refine Run.of (IH (j + 1) ⟨by omega, ?_⟩ (by omega)) ⟨rfl, rfl, ?_, trivial⟩ trivial
      · rw [List.take_succ_eq_append_getElem hlt, List.any_append, hany]
        simp only [List.any_cons, List.any_nil, h, Bool.or_false]
      · show i64 _ = _
        rw [wrap_i64 (by omega) (by omega)]
        rfl
  · have hj' : j = l.length := by simp at h; omega
    subst hj'
    rw [List.take_length] at hany
    repeat (refine Run.go rfl ?_)
    refine Run.ret hg rfl ?_
    rw [hany]
    rfl

def rsP (l : List Int) (j : Nat) : Bool := decide (l.getD j 0 < l.getD (j + 1) 0)
def rs (l : List Int) : Bool := (List.range (l.length - 1)).all (rsP l)

noncomputable def X45 : Fx := ⟨Try.prog, tys, 45, Try.f45, [0]⟩
theorem X45_ok : X45.Ok := ⟨Try.func45, tys_ok⟩
theorem rises_ct (l : List Int) (ex : Bool) (hlen : l.length ≤ 1048576) : Ct Try.prog 45 [.ro 1 ex (l.map i64)] (bo (rs l)) [] := by
  refine Ct.intro X45 X45_ok rfl rfl rfl rfl fun g hg => ?_
  repeat (refine Run.go rfl ?_)
  refine Run.loop (fun j : Nat => ⟨[(0, .ro 1 ex (l.map i64)), (3, i64 ((j + 1 : Nat) : Int))], []⟩) (fun j => j ≤ l.length - 1 ∧ ∀ i, i < j → rsP l i = true) (fun j => l.length - 1 - j) 0 ⟨by omega, fun i h => by omega⟩ ?_ ?_
  · exact St.Le.mk' ⟨rfl, rfl, trivial⟩ trivial
  rintro j ⟨hj, hall⟩ IH
  repeat (refine Run.go rfl ?_)
  refine Run.cond rfl (fun h => ?_) (fun h => ?_)
  · have hlt : j + 1 < l.length := by simp at h; omega
    have hp : rsP l j = decide (l[j] < l[j + 1]) := by simp [rsP, hlt, Nat.lt_of_succ_lt hlt]
    repeat (refine Run.go rfl ?_)
    refine Run.draw (by kernel_rfl) (by decide +kernel) ?_
    repeat (refine Quiet.go rfl ?_)
    rw [show IntKind.i64.wrap (((j + 1 : Nat) : Int) - 1) = (j : Int) by rw [wrap_i64 (by omega) (by omega)]; omega]
    refine Quiet.val rfl rfl (ValOk.idx (i64 l[j]) rfl rfl rfl rfl rfl (by omega) (by simp only [Int.toNat_natCast, List.getElem?_map, List.getElem?_eq_getElem (Nat.lt_of_succ_lt hlt), Option.map_some])) rfl ?_
    repeat (refine Quiet.go rfl ?_)
    refine Quiet.val rfl rfl (ValOk.idx (i64 l[j + 1]) rfl rfl rfl rfl rfl (by omega) (by simp only [Int.toNat_natCast, List.getElem?_map, List.getElem?_eq_getElem hlt, Option.map_some])) rfl ?_
    repeat (refine Quiet.go rfl ?_)
    refine Quiet.nil ?_
    repeat (refine Run.go rfl ?_)
    refine Run.cond rfl (fun h => ?_) (fun h => ?_)
    · have h : l[j + 1] ≤ l[j] := of_decide_eq_true h
      repeat (refine Run.go rfl ?_)
      refine Run.ret hg rfl ?_
      have : rs l = false := by
        rw [rs, List.all_eq_false]
        exact ⟨j, List.mem_range.mpr (by omega), by rw [hp]; simp; omega⟩
      rw [this]
      rfl
    · have h : ¬ l[j + 1] ≤ l[j] := of_decide_eq_false h
      repeat (refine Run.go rfl ?_)
      refine Run.of (IH (j + 1) ⟨by omega, fun i hi => ?_⟩ (by omega)) ⟨rfl, ?_, trivial⟩ trivial
      · by_cases e : i = j
        · rw [e, hp]; exact decide_eq_true (by omega)
        · exact hall i (by omega)
      · show i64 _ = _
        rw [wrap_i64 (by omega) (by omega)]
        rfl
  · have hj' : l.length - 1 ≤ j := by simp at h; omega
    repeat (refine Run.go rfl ?_)
    refine Run.ret hg rfl ?_
    have : rs l = true := by
      rw [rs, List.all_eq_true]
      intro i hi
      exact hall i (by have := List.mem_range.mp hi; omega)
    rw [this]
    rfl

noncomputable def X47 : Fx := ⟨Try.prog, tys, 47, Try.f47, [0, 1]⟩
theorem X47_ok : X47.Ok := ⟨Try.func47, tys_ok⟩
theorem without1_ct (i : Int) (l : List Bk) (ex : Bool) (hlen : l.length ≤ 1048576) : Ct Try.prog 47 [i64 i, .rp [.ro 8 ex (l.map bkA)] 0] (bo (inr i 0 ((l.length : Int) - 1))) [] := by
  have ew : IntKind.i64.wrap (((l.map bkA).length : Int) - 1) = (l.length : Int) - 1 := by rw [List.length_map, wrap_i64 (by omega) (by omega)]
  refine Ct.intro X47 X47_ok rfl rfl rfl rfl fun g hg => ?_
  repeat (refine Run.go rfl ?_)
  rw [ew]
  refine Run.cs rfl (within64_ct i 0 ((l.length : Int) - 1)) rfl rfl ?_
  repeat (refine Run.go rfl ?_)
  exact Run.ret hg rfl rfl

def inAll (n : Nat) (out : List Int) : Bool := out.all fun x => inr x 0 ((n : Int) - 1)
def wo (l : List Bk) (out : List Int) : Nat → List Bk
  | 0 => []
  | i + 1 => wo l out i ++ (if out.any (fun x => x == (i : Int)) then [] else [l.getD i bk0])
theorem wo_len (l : List Bk) (out : List Int) (i : Nat) : (wo l out i).length ≤ i := by
  induction i with
  | zero => exact Nat.le_refl 0
  | succ i ih =>
    unfold wo
    rw [List.length_append]
    split <;> simp <;> omega
def woRes (l : List Bk) (out : List Int) : List Bk × Int := if vBs l then (if rs out && inAll l.length out then (wo l out l.length, 0) else ([], 2)) else ([], 1)
theorem woRes_len (l : List Bk) (out : List Int) : (woRes l out).1.length ≤ l.length := by
  unfold woRes
  split
  · split
    · exact wo_len _ _ _
    · simp
  · simp

noncomputable def X18 : Fx := ⟨Try.prog, tys, 18, Try.f18, [1]⟩
theorem X18_ok : X18.Ok := ⟨Try.func18, tys_ok⟩
theorem implWithoutBooks_ct (l : List Bk) (out : List Int) (e1 e2 : Bool) (hl : l.length ≤ 1048576 ∧ ∀ x ∈ l, bkRng x) (ho : out.length ≤ 1048576) : Ct Try.prog 18 [.ro 8 e1 (l.map bkA), .ro 1 e2 (out.map i64)] (bR (woRes l out)) [] := by
  obtain ⟨hlen, hr⟩ := hl
  refine Ct.intro X18 X18_ok rfl rfl rfl rfl fun g hg => ?_
  repeat (refine Run.go rfl ?_)
  refine Run.cs rfl (validBooks_ct l e1 hlen) rfl rfl ?_
  repeat (refine Run.go rfl ?_)
  refine Run.cond rfl (fun h => ?_) (fun h => ?_)
  · have h : vBs l = false := by simpa using h
    repeat (refine Run.go rfl ?_)
    refine Run.nilSlot 4 8 false rfl ?_
    refine Run.ret hg rfl ?_
    rw [woRes, h]
    rfl
  have hv : vBs l = true := by simpa using h
  repeat (refine Run.go rfl ?_)
  refine Run.cs rfl (rises_ct out e2 ho) rfl rfl ?_
  repeat (refine Run.go rfl ?_)
  refine Run.bool 17 rfl (fun h => ?_) (fun h => ?_)
  · have h : rs out = false := by simpa using h
    repeat (refine Run.go rfl ?_)
    refine Run.cond rfl (fun _ => ?_) (fun h => by simp at h)
    repeat (refine Run.go rfl ?_)
    refine Run.nilSlot 4 8 false rfl ?_
    refine Run.ret hg rfl ?_
    rw [woRes, hv, h]
    rfl
  have hrs : rs out = true := by simpa using h
  repeat (refine Run.go rfl ?_)
  refine Run.cs rfl (areAllW_ct out e2 _ [.ro 8 e1 (l.map bkA)] 0 (fun x => inr x 0 ((l.length : Int) - 1)) ho fun x _ => without1_ct x l e1 hlen) rfl rfl ?_
  repeat (refine Run.go rfl ?_)
  refine Run.cond rfl (fun h => ?_) (fun h => ?_)
  · have h : inAll l.length out = false := by
      have h : (!inAll l.length out) = true := h
      simpa using h
    repeat (refine Run.go rfl ?_)
    refine Run.nilSlot 4 8 false rfl ?_
    refine Run.ret hg rfl ?_
    rw [woRes, hv, hrs, h]
    rfl
  have hin : inAll l.length out = true := by
    have h : (!inAll l.length out) = false := h
    simpa using h
  repeat (refine Run.go rfl ?_)
  refine Run.nilSlot 6 8 false rfl ?_
  refine Run.loop (fun j : Nat => ⟨[(1, .ro 1 e2 (out.map i64)), (6, .own 8 false ((wo l out j).map bkA)), (23, .ro 8 e1 (l.map bkA)), (24, i64 l.length), (25, i64 j)], []⟩) (fun j => j ≤ l.length) (fun j => l.length - j) 0 (by omega) ?_ ?_
  · refine St.Le.mk' ⟨rfl, rfl, rfl, ?_, rfl, trivial⟩ trivial
    show i64 (l.map bkA).length = _
    simp
  intro j hj IH
  repeat (refine Run.go rfl ?_)
  refine Run.cond rfl (fun h => ?_) (fun h => ?_)
  · have hlt : j < l.length := by simpa using h
    have hm := wo_len l out j
    have hst : wo l out (j + 1) = wo l out j ++ (if out.any (fun x => x == (j : Int)) then [] else [l.getD j bk0]) := rfl
    rw [show l.getD j bk0 = l[j] by simp [hlt]] at hst
    repeat (refine Run.go rfl ?_)
    refine Run.val rfl rfl rfl (ValOk.idx (bkA l[j]) rfl rfl rfl rfl rfl (by omega) (by simp [hlt])) rfl ?_
    repeat (refine Run.go rfl ?_)
    refine Run.cs rfl (contains64_ct out e2 (j : Int) ho) rfl rfl ?_
    repeat (refine Run.go rfl ?_)
    refine Run.cond rfl (fun h => ?_) (fun h => ?_)
    · have h : out.any (fun x => x == (j : Int)) = false := by
        have h : (!out.any (fun x => x == (j : Int))) = true := h
        simpa only [Bool.not_eq_true'] using h
      rw [h] at hst
      repeat (refine Run.go rfl ?_)
      refine Run.buildSlice [bkA l[j]] rfl rfl rfl rfl rfl rfl rfl rfl rfl rfl rfl rfl rfl rfl ?_
      refine Run.appendo rfl rfl rfl rfl rfl rfl rfl rfl rfl rfl rfl rfl rfl rfl (by show (_ + 1) * 14 ≤ _; simp; omega) (by simp [capMax]; omega) (by decide) rfl ?_
      repeat (refine Run.go rfl ?_)
      refine Run.of (IH (j + 1) (by omega) (by omega)) ⟨rfl, ?_, rfl, rfl, ?_, trivial⟩ trivial
      · rw [hst]
        show AV.own _ _ _ = AV.own _ _ _
        simp
      · show i64 _ = _
        rw [wrap_i64 (by omega) (by omega)]
        rfl
    · have h : out.any (fun x => x == (j : Int)) = true := by
        have h : (!out.any (fun x => x == (j : Int))) = false := h
        simpa only [Bool.not_eq_false'] using h
      rw [h, if_pos rfl, List.append_nil] at hst
      repeat (refine Run.go rfl ?_)
      refine Run.of (IH (j + 1) (by omega) (by omega)) ⟨rfl, ?_, rfl, rfl, ?_, trivial⟩ trivial
      · rw [hst]
        rfl
      · show i64 _ = _
        rw [wrap_i64 (by omega) (by omega)]
        rfl
  · have hj' : j = l.length := by simp at h; omega
    subst hj'
    repeat (refine Run.go rfl ?_)
    refine Run.pack 4 rfl rfl rfl ?_
    refine Run.ret hg rfl ?_
    rw [woRes, hv, hrs, hin]
    rfl

def lastAt (out : List Int) (j : Nat) : Int := if j = 0 then -1 else out.getD (j - 1) 0
def okAt (n : Nat) (out : List Int) (j : Nat) : Bool := inr (out.getD j 0) (lastAt out j + 1) ((n : Int) - 1)

theorem okAt_all (n : Nat) (out : List Int) : (rs out && inAll n out) = (List.range out.length).all (okAt n out) := by
  rw [Bool.eq_iff_iff, Bool.and_eq_true]
  simp only [rs, inAll, List.all_eq_true, List.mem_range]
  constructor
  · rintro ⟨h1, h2⟩ j hj
    have h3 := h2 out[j] (by simp)
    have e : out.getD j 0 = out[j] := by simp [hj]
    unfold okAt lastAt inr
    unfold inr at h3
    rw [Bool.and_eq_true, decide_eq_true_eq, decide_eq_true_eq] at h3 ⊢
    rw [e]
    refine ⟨?_, h3.2⟩
    split
    · omega
    · have h4 := of_decide_eq_true (h1 (j - 1) (by omega))
      rw [show j - 1 + 1 = j by omega, e] at h4
      omega
  · intro h
    have hpos : ∀ j, j < out.length → 0 ≤ out.getD j 0 := by
      intro j
      induction j with
      | zero =>
        intro hj
        have := h 0 hj
        unfold okAt lastAt inr at this
        rw [Bool.and_eq_true, decide_eq_true_eq] at this
        simpa using this.1
      | succ j ih =>
        intro hj
        have h1 := ih (by omega)
        have := h (j + 1) hj
        unfold okAt lastAt inr at this
        rw [Bool.and_eq_true, decide_eq_true_eq, if_neg (by omega), show j + 1 - 1 = j by omega] at this
        omega
    constructor
    · intro j hj
      have := h (j + 1) (by omega)
      unfold okAt lastAt inr at this
      rw [Bool.and_eq_true, decide_eq_true_eq, if_neg (by omega), show j + 1 - 1 = j by omega] at this
      exact decide_eq_true (by omega)
    · intro x hx
      obtain ⟨j, hj, rfl⟩ := List.getElem_of_mem hx
      have h1 := hpos j hj
      have h2 := h j hj
      have e : out.getD j 0 = out[j] := by simp [hj]
      unfold okAt inr at h2
      rw [Bool.and_eq_true, decide_eq_true_eq, decide_eq_true_eq] at h2
      rw [e] at h1 h2
      unfold inr
      rw [Bool.and_eq_true, decide_eq_true_eq, decide_eq_true_eq]
      exact ⟨h1, h2.2⟩

noncomputable def X16 : Fx := ⟨Try.prog, tys, 16, Try.f16, [0, 1]⟩
theorem X16_ok : X16.Ok := ⟨Try.func16, tys_ok⟩
theorem specWithoutBooks_ct (l : List Bk) (out : List Int) (e1 e2 : Bool) (hl : l.length ≤ 1048576 ∧ ∀ x ∈ l, bkRng x) (ho : out.length ≤ 1048576) : Ct Try.prog 16 [.ro 8 e1 (l.map bkA), .ro 1 e2 (out.map i64)] (bR (woRes l out)) [] := by
  obtain ⟨hlen, hr⟩ := hl
  have ew : IntKind.i64.wrap (((l.map bkA).length : Int) - 1) = (l.length : Int) - 1 := by rw [List.length_map, wrap_i64 (by omega) (by omega)]
  refine Ct.intro X16 X16_ok rfl rfl rfl rfl fun g hg => ?_
  repeat (refine Run.go rfl ?_)
  refine Run.cs rfl (l01Ok_ct l e1 hlen hr) rfl rfl ?_
  repeat (refine Run.go rfl ?_)
  refine Run.cond rfl (fun h => ?_) (fun h => ?_)
  · have h : vBs l = false := by simpa using h
    repeat (refine Run.go rfl ?_)
    refine Run.buildSlice [] rfl rfl rfl rfl rfl rfl rfl rfl rfl rfl rfl rfl rfl rfl ?_
    repeat (refine Run.go rfl ?_)
    refine Run.loosen0 4 rfl ?_
    refine Run.ret hg rfl ?_
    rw [woRes, h]
    rfl
  have hv : vBs l = true := by simpa using h
  repeat (refine Run.go rfl ?_)
  refine Run.loop (fun j : Nat => ⟨[(0, .ro 8 e1 (l.map bkA)), (1, .ro 1 e2 (out.map i64)), (6, i64 (lastAt out j)), (7, i64 j)], []⟩) (fun j => j ≤ out.length ∧ (∀ i, i < j → okAt l.length out i = true) ∧ (0 < j → lastAt out j ≤ (l.length : Int) - 1 ∧ -1 ≤ lastAt out j)) (fun j => out.length - j) 0 ⟨by omega, fun i h => by omega, fun h => by omega⟩ ?_ ?_
  · exact St.Le.mk' ⟨rfl, rfl, rfl, rfl, trivial⟩ trivial
  rintro j ⟨hj, hall, hbd⟩ IH
  repeat (refine Run.go rfl ?_)
  refine Run.cond rfl (fun h => ?_) (fun h => ?_)
  · have hlt : j < out.length := by simpa using h
    have hla : -1 ≤ lastAt out j ∧ lastAt out j ≤ 1048576 := by
      by_cases h0 : 0 < j
      · have := hbd h0
        omega
      · have : j = 0 := by omega
        subst this
        simp [lastAt]
    have hok : okAt l.length out j = inr out[j] (lastAt out j + 1) ((l.length : Int) - 1) := by simp [okAt, hlt]
    repeat (refine Run.go rfl ?_)
    refine Run.val rfl rfl rfl (ValOk.idx (i64 out[j]) rfl rfl rfl rfl rfl (by omega) (by simp [hlt])) rfl ?_
    repeat (refine Run.go rfl ?_)
    rw [ew, wrap_i64 (n := lastAt out j + 1) (by omega) (by omega)]
    refine Run.cs rfl (l00In_ct out[j] (lastAt out j + 1) ((l.length : Int) - 1)) rfl rfl ?_
    rw [← hok]
    repeat (refine Run.go rfl ?_)
    refine Run.cond rfl (fun h => ?_) (fun h => ?_)
    · have h : okAt l.length out j = false := by simpa using h
      repeat (refine Run.go rfl ?_)
      refine Run.buildSlice [] rfl rfl rfl rfl rfl rfl rfl rfl rfl rfl rfl rfl rfl rfl ?_
      repeat (refine Run.go rfl ?_)
      refine Run.loosen0 4 rfl ?_
      refine Run.ret hg rfl ?_
      have : (List.range out.length).all (okAt l.length out) = false := by
        rw [List.all_eq_false]
        exact ⟨j, List.mem_range.mpr hlt, by simp [h]⟩
      rw [woRes, hv, okAt_all, this]
      rfl
    · have h : okAt l.length out j = true := by simpa using h
      have hl1 : lastAt out (j + 1) = out[j] := by simp [lastAt, hlt]
      have hbb : lastAt out j + 1 ≤ out[j] ∧ out[j] ≤ (l.length : Int) - 1 := by
        rw [hok] at h
        unfold inr at h
        rw [Bool.and_eq_true, decide_eq_true_eq, decide_eq_true_eq] at h
        exact h
      repeat (refine Run.go rfl ?_)
      refine Run.val rfl rfl rfl (ValOk.idx (i64 out[j]) rfl rfl rfl rfl rfl (by omega) (by simp [hlt])) rfl ?_
      repeat (refine Run.go rfl ?_)
      refine Run.of (IH (j + 1) ⟨by omega, fun i hi => ?_, fun _ => ?_⟩ (by omega)) ⟨rfl, rfl, ?_, ?_, trivial⟩ trivial
      · by_cases e : i = j
        · rw [e]; exact h
        · exact hall i (by omega)
      · rw [hl1]
        omega
      · rw [hl1]
        rfl
      · show i64 _ = _
        rw [wrap_i64 (by omega) (by omega)]
        rfl
  have hj' : j = out.length := by simp at h; omega
  subst hj'
  have hgood : (rs out && inAll l.length out) = true := by
    rw [okAt_all, List.all_eq_true]
    intro i hi
    exact hall i (List.mem_range.mp hi)
  clear IH
  repeat (refine Run.go rfl ?_)
  refine Run.buildSlice [] rfl rfl rfl rfl rfl rfl rfl rfl rfl rfl rfl rfl rfl rfl ?_
  repeat (refine Run.go rfl ?_)
  refine Run.loosen0 8 rfl ?_
  refine Run.loop (fun j : Nat => ⟨[(0, .ro 8 e1 (l.map bkA)), (1, .ro 1 e2 (out.map i64)), (8, .own 8 false ((wo l out j).map bkA)), (9, i64 j)], []⟩) (fun j => j ≤ l.length) (fun j => l.length - j) 0 (by omega) ?_ ?_
  · exact St.Le.mk' ⟨rfl, rfl, rfl, rfl, trivial⟩ trivial
  intro j hj IH
  repeat (refine Run.go rfl ?_)
  refine Run.cond rfl (fun h => ?_) (fun h => ?_)
  · have hlt : j < l.length := by simpa using h
    have hm := wo_len l out j
    have hst : wo l out (j + 1) = wo l out j ++ (if out.any (fun x => x == (j : Int)) then [] else [l.getD j bk0]) := rfl
    rw [show l.getD j bk0 = l[j] by simp [hlt]] at hst
    repeat (refine Run.go rfl ?_)
    refine Run.cs rfl (l00Has_ct out e2 (j : Int) ho) rfl rfl ?_
    repeat (refine Run.go rfl ?_)
    refine Run.cond rfl (fun h => ?_) (fun h => ?_)
    · have h : out.any (fun x => x == (j : Int)) = false := by
        have h : (!out.any (fun x => x == (j : Int))) = true := h
        simpa only [Bool.not_eq_true'] using h
      rw [h] at hst
      repeat (refine Run.go rfl ?_)
      refine Run.val rfl rfl rfl (ValOk.idx (bkA l[j]) rfl rfl rfl rfl rfl (by omega) (by simp [hlt])) rfl ?_
      repeat (refine Run.go rfl ?_)
      refine Run.buildSlice [bkA l[j]] rfl rfl rfl rfl rfl rfl rfl rfl rfl rfl rfl rfl rfl rfl ?_
      refine Run.appendo rfl rfl rfl rfl rfl rfl rfl rfl rfl rfl rfl rfl rfl rfl (by show (_ + 1) * 14 ≤ _; simp; omega) (by simp [capMax]; omega) (by decide) rfl ?_
      repeat (refine Run.go rfl ?_)
      refine Run.of (IH (j + 1) (by omega) (by omega)) ⟨rfl, rfl, ?_, ?_, trivial⟩ trivial
      · rw [hst]
        show AV.own _ _ _ = AV.own _ _ _
        simp
      · show i64 _ = _
        rw [wrap_i64 (by omega) (by omega)]
        rfl
    · have h : out.any (fun x => x == (j : Int)) = true := by
        have h : (!out.any (fun x => x == (j : Int))) = false := h
        simpa only [Bool.not_eq_false'] using h
      rw [h, if_pos rfl, List.append_nil] at hst
      repeat (refine Run.go rfl ?_)
      refine Run.of (IH (j + 1) (by omega) (by omega)) ⟨rfl, rfl, ?_, ?_, trivial⟩ trivial
      · rw [hst]
        rfl
      · show i64 _ = _
        rw [wrap_i64 (by omega) (by omega)]
        rfl
  · have hj' : j = l.length := by simp at h; omega
    subst hj'
    repeat (refine Run.go rfl ?_)
    refine Run.pack 4 rfl rfl rfl ?_
    refine Run.ret hg rfl ?_
    rw [woRes, hv, hgood]
    rfl
end Go.Proofs.Ytahdgoddpkmhbaa

/- Contracts of the program's functions, and what follows from them. -/
namespace Go.Proofs.Ytahdgoddpkmhbaa
open Go Go.Av

/-! For each wanted book the first one that is like it and not taken. -/

def fst (n : Nat) (q : Nat → Bool) : Nat := (List.range n).findIdx q
theorem fst_le (n : Nat) (q : Nat → Bool) : fst n q ≤ n := by
  have := List.findIdx_le_length (xs := List.range n) (p := q)
  rwa [List.length_range] at this
theorem fst_at {n : Nat} {q : Nat → Bool} (h : fst n q < n) : q (fst n q) = true := by
  have h' : (List.range n).findIdx q < (List.range n).length := by rw [List.length_range]; exact h
  have := List.findIdx_getElem (w := h')
  rwa [List.getElem_range] at this
theorem fst_eq {n j : Nat} {q : Nat → Bool} (hj : j < n) (hq : q j = true) (hn : ∀ i, i < j → q i = false) : fst n q = j := by
  unfold fst
  rw [List.findIdx_eq (by rw [List.length_range]; exact hj)]
  refine ⟨by rw [List.getElem_range]; exact hq, fun i hi => ?_⟩
  rw [List.getElem_range]
  exact hn i hi
theorem fst_none {n : Nat} {q : Nat → Bool} (hn : ∀ i, i < n → q i = false) : fst n q = n := by
  have h1 := fst_le n q
  apply Classical.byContradiction
  intro hne
  have h2 := fst_at (n := n) (q := q) (by omega)
  rw [hn _ (by omega)] at h2
  cases h2

theorem fi_nums (n : Nat) (p : Int → Bool) : (if 0 ≤ fi p (nums n) then fi p (nums n) else ((nums n).length : Int)) = (fst n (fun i => p (i : Int)) : Nat) := by
  have e : (nums n).findIdx p = fst n (fun i => p (i : Int)) := by
    unfold nums fst
    rw [List.findIdx_map]
    rfl
  have hl : (nums n).length = n := by simp [nums]
  have h1 := fst_le n (fun i => p (i : Int))
  unfold fi
  rw [e, hl]
  split <;> split <;> omega

noncomputable def X77 : Fx := ⟨Try.prog, tys, 77, Try.f77, [0, 1]⟩
theorem X77_ok : X77.Ok := ⟨Try.func77, tys_ok⟩
theorem firstOf_ct (L : List Int) (ex : Bool) (f : Nat) (caps : List AV) (p : Int → Bool) (hlen : L.length ≤ 1048576) (hc : AV.freeL caps = true) (hf : ∀ x ∈ L, Ct Try.prog f ([i64 x] ++ caps) (bo (p x)) []) :
    Ct Try.prog 77 [.ro 1 ex (L.map i64), .fn f caps] (i64 (if 0 ≤ fi p L then fi p L else (L.length : Int))) [] := by
  refine Ct.intro X77 X77_ok rfl (by kernel_rfl) rfl rfl fun g hg => ?_
  repeat (refine Run.go rfl ?_)
  refine Run.callp rfl rfl rfl rfl rfl rfl (by simp [AV.freeL, AV.free, hc]) rfl rfl (indexI_ct L ex f caps p hlen hc hf) (by decide) (by decide) ?_
  repeat (refine Run.go rfl ?_)
  refine Run.cond rfl (fun h => ?_) (fun h => ?_)
  · have h : 0 ≤ fi p L := of_decide_eq_true h
    repeat (refine Run.go rfl ?_)
    refine Run.ret hg rfl ?_
    rw [if_pos h]
    rfl
  · have h : ¬ 0 ≤ fi p L := of_decide_eq_false h
    repeat (refine Run.go rfl ?_)
    refine Run.ret hg rfl ?_
    rw [if_neg h]
    show i64 ((L.map i64).length : Int) = _
    rw [List.length_map]

def bof (b : Bool) : AV := bo b
def isIn (out : List Int) (i : Nat) : Bool := out.any fun x => x == (i : Int)
def flg (n : Nat) (out : List Int) : List Bool := (List.range n).map (isIn out)
theorem frzBo (l : List Bool) : AV.frzL (l.map bof) = l.map bof := frzL_map (fun _ => rfl) l

noncomputable def X79 : Fx := ⟨Try.prog, tys, 79, Try.f79, [0, 1, 2, 3, 4]⟩
theorem X79_ok : X79.Ok := ⟨Try.func79, tys_ok⟩
theorem matched1_ct (i : Nat) (fl : List Bool) (l : List Bk) (w : Bk) (e : Bool) (f : Nat) (like : Bk → Bk → Bool) (hi : i < l.length) (hfl : fl.length = l.length) (hw : bkRng w) (hr : ∀ x ∈ l, bkRng x)
    (hf : ∀ x y, bkRng x → bkRng y → Ct Try.prog f [bkA x, bkA y] (bo (like x y)) []) :
    Ct Try.prog 79 [i64 i, .rp [.ro 1 true (fl.map bof)] 0, .rp [.fn f []] 0, .rp [.ro 8 e (l.map bkA)] 0, .rp (bkA w).cells 0] (bo (!fl.getD i false && like (l.getD i bk0) w)) [] := by
  have hif : i < fl.length := by omega
  rw [show fl.getD i false = fl[i] by simp [hif], show l.getD i bk0 = l[i] by simp [hi]]
  refine Ct.intro X79 X79_ok rfl (by kernel_rfl) rfl rfl fun g hg => ?_
  repeat (refine Run.go rfl ?_)
  refine Run.drawS ⟨[(6, bo (!fl[i] && like l[i] w))], []⟩ (by kernel_rfl) (by decide +kernel) ?_ ?_
  · repeat (refine Quiet.go rfl ?_)
    refine Quiet.val rfl rfl (ValOk.idx (bof fl[i]) rfl rfl rfl rfl rfl (by omega) (by simp [hif])) rfl ?_
    repeat (refine Quiet.go rfl ?_)
    refine Quiet.bool 12 rfl (fun h => ?_) (fun h => ?_)
    · have h : (!fl[i]) = true := h
      repeat (refine Quiet.go rfl ?_)
      refine Quiet.val rfl rfl (ValOk.idx (bkA l[i]) rfl rfl rfl rfl rfl (by omega) (by simp [hi])) rfl ?_
      repeat (refine Quiet.go rfl ?_)
      refine Quiet.cs rfl rfl rfl rfl rfl (hf l[i] w (hr _ (by simp)) hw) rfl rfl ?_
      repeat (refine Quiet.go rfl ?_)
      refine Quiet.nil (St.Le.mk' ⟨?_, trivial⟩ trivial)
      show bo (like l[i] w) = bo _
      rw [h, Bool.true_and]
    · have h : (!fl[i]) = false := h
      repeat (refine Quiet.go rfl ?_)
      refine Quiet.nil (St.Le.mk' ⟨?_, trivial⟩ trivial)
      show bo false = bo _
      rw [h, Bool.false_and]
  · repeat (refine Run.go rfl ?_)
    exact Run.ret hg rfl rfl

/-- The first book that is like w and not yet in out. -/
def mfst (l : List Bk) (like : Bk → Bk → Bool) (out : List Int) (w : Bk) : Nat := fst l.length fun i => !isIn out i && like (l.getD i bk0) w
def ms (l ws : List Bk) (like : Bk → Bk → Bool) : Nat → List Int × Bool
  | 0 => ([], true)
  | j + 1 => if (ms l ws like j).2 then (if mfst l like (ms l ws like j).1 (ws.getD j bk0) < l.length then ((ms l ws like j).1 ++ [(mfst l like (ms l ws like j).1 (ws.getD j bk0) : Int)], true) else ((ms l ws like j).1, false)) else ms l ws like j
theorem ms_succ (l ws : List Bk) (like : Bk → Bk → Bool) (j : Nat) : ms l ws like (j + 1) = if (ms l ws like j).2 then (if mfst l like (ms l ws like j).1 (ws.getD j bk0) < l.length then ((ms l ws like j).1 ++ [(mfst l like (ms l ws like j).1 (ws.getD j bk0) : Int)], true) else ((ms l ws like j).1, false)) else ms l ws like j := rfl
theorem ms_len (l ws : List Bk) (like : Bk → Bk → Bool) (j : Nat) : (ms l ws like j).1.length ≤ j ∧ ((ms l ws like j).2 = true → (ms l ws like j).1.length = j) ∧ ((ms l ws like j).2 = false → (ms l ws like j).1.length < j) := by
  induction j with
  | zero => simp [ms]
  | succ j ih =>
    obtain ⟨h1, h2, h3⟩ := ih
    rw [ms_succ]
    by_cases ht : (ms l ws like j).2 = true
    · rw [if_pos ht]
      have := h2 ht
      split
      · simp; omega
      · simp; omega
    · rw [if_neg ht]
      have hf : (ms l ws like j).2 = false := by simpa using ht
      have := h3 hf
      exact ⟨by omega, fun h => absurd h (by rw [hf]; decide), fun _ => by omega⟩
theorem ms_stop (l ws : List Bk) (like : Bk → Bk → Bool) {j : Nat} (h : (ms l ws like j).2 = false) : ∀ k, j ≤ k → ms l ws like k = ms l ws like j := by
  intro k hk
  induction k with
  | zero =>
    have : j = 0 := by omega
    subst this
    rfl
  | succ k ih =>
    by_cases e : j = k + 1
    · rw [e]
    · have := ih (by omega)
      rw [ms_succ, this, h]
      rfl
theorem fst_congr {n : Nat} {q q' : Nat → Bool} (h : ∀ i, i < n → q i = q' i) : fst n q = fst n q' := by
  have h1 := fst_le n q'
  by_cases hl : fst n q' < n
  · have h2 := fst_at hl
    refine fst_eq hl (by rw [h _ hl]; exact h2) fun i hi => ?_
    rw [h i (by omega)]
    cases hq : q' i with
    | false => rfl
    | true =>
      exfalso
      have : fst n q' ≤ i := by
        unfold fst
        apply Classical.byContradiction
        intro hc
        have := List.not_of_lt_findIdx (xs := List.range n) (p := q') (i := i) (by omega)
        rw [List.getElem_range, hq] at this
        cases this
      omega
  · have e : fst n q' = n := by omega
    rw [e]
    refine fst_none fun i hi => ?_
    rw [h i hi]
    cases hq : q' i with
    | false => rfl
    | true =>
      exfalso
      have := List.not_of_lt_findIdx (xs := List.range n) (p := q') (i := i) (by show i < fst n q'; omega)
      rw [List.getElem_range, hq] at this
      cases this
theorem flg_get {n : Nat} {out : List Int} {i : Nat} (h : i < n) : (flg n out).getD i false = isIn out i := by simp [flg, h]
theorem flg_snoc {n : Nat} {out : List Int} {a : Nat} (ha : a < n) : (flg n out).set a true = flg n (out ++ [(a : Int)]) := by
  apply List.ext_getElem?
  intro k
  rw [List.getElem?_set]
  unfold flg
  simp only [List.length_map, List.length_range, List.getElem?_map]
  by_cases hk : k < n
  · rw [List.getElem?_range hk]
    by_cases e : a = k
    · subst e
      rw [if_pos rfl, if_pos hk]
      simp [isIn]
    · rw [if_neg e]
      simp [isIn]
      omega
  · rw [if_neg (by omega), List.getElem?_eq_none (by rw [List.length_range]; omega)]
    rfl

noncomputable def X54 : Fx := ⟨Try.prog, tys, 54, Try.f54, [1, 2]⟩
theorem X54_ok : X54.Ok := ⟨Try.func54, tys_ok⟩
theorem matched_ct (l ws : List Bk) (e1 e2 : Bool) (f : Nat) (like : Bk → Bk → Bool) (hl : l.length ≤ 1048576 ∧ ∀ x ∈ l, bkRng x) (hw : ws.length ≤ 1048576 ∧ ∀ x ∈ ws, bkRng x)
    (hf : ∀ x y, bkRng x → bkRng y → Ct Try.prog f [bkA x, bkA y] (bo (like x y)) []) :
    Ct Try.prog 54 [.ro 8 e1 (l.map bkA), .ro 8 e2 (ws.map bkA), .fn f []] (.own 1 false ((ms l ws like ws.length).1.map i64)) [] := by
  obtain ⟨hlen, hr⟩ := hl
  obtain ⟨hwlen, hwr⟩ := hw
  refine Ct.intro X54 X54_ok rfl (by kernel_rfl) rfl rfl fun g hg => ?_
  repeat (refine Run.go rfl ?_)
  refine Run.make rfl rfl rfl rfl rfl rfl rfl rfl rfl rfl (by simp; omega) (by show _ * 1 ≤ _; simp; omega) rfl ?_
  refine Run.unpack 14 rfl rfl ?_
  repeat (refine Run.go rfl ?_)
  refine Run.nilSlot 8 1 false rfl ?_
  refine Run.loop (fun j : Nat => ⟨[(3, .bp (3, 0) 0), (5, .bp (5, 0) 0), (7, .bp (7, 0) 0), (8, .own 1 false ((ms l ws like j).1.map i64)), (15, .ro 8 e2 (ws.map bkA)), (16, i64 ws.length), (17, i64 j)], [((3, 0), .box [.ro 8 e1 (l.map bkA)]), ((5, 0), .box [.fn f []]), ((7, 0), .box [.vec (14, 0) 0 l.length]), ((14, 0), .vec 1 true ((flg l.length (ms l ws like j).1).map bof))]⟩) (fun j => j ≤ ws.length ∧ (ms l ws like j).2 = true) (fun j => ws.length - j) 0 ⟨by omega, rfl⟩ ?_ ?_
  · refine St.Le.mk' ⟨rfl, rfl, rfl, rfl, rfl, ?_, rfl, trivial⟩ ⟨rfl, rfl, ?_, ?_, trivial⟩
    · show i64 (ws.map bkA).length = _
      simp
    · show Ob.box [.vec (14, 0) 0 (List.replicate (l.map bkA).length (bof false)).length] = _
      simp
    · show Ob.vec 1 true (List.replicate (l.map bkA).length (bof false)) = _
      congr 1
      rw [List.length_map]
      apply List.ext_getElem?
      intro k
      rw [List.getElem?_replicate, List.getElem?_map, flg, List.getElem?_map]
      by_cases hk : k < l.length
      · rw [if_pos hk, List.getElem?_range hk]
        rfl
      · rw [if_neg hk, List.getElem?_eq_none (by rw [List.length_range]; omega)]
        rfl
  rintro j ⟨hj, hgo⟩ IH
  repeat (refine Run.go rfl ?_)
  refine Run.cond rfl (fun h => ?_) (fun h => ?_)
  · have hlt : j < ws.length := by simpa using h
    have hml := ms_len l ws like j
    have hst : ms l ws like (j + 1) = if mfst l like (ms l ws like j).1 ws[j] < l.length then ((ms l ws like j).1 ++ [(mfst l like (ms l ws like j).1 ws[j] : Int)], true) else ((ms l ws like j).1, false) := by
      rw [ms_succ, if_pos hgo, show ws.getD j bk0 = ws[j] by simp [hlt]]
    have hstop : (ms l ws like (j + 1)).2 = false → (ms l ws like ws.length).1 = (ms l ws like (j + 1)).1 := by
      intro hr2
      rw [ms_stop l ws like (j := j + 1) hr2 ws.length (by omega)]
    obtain ⟨out, hout⟩ : ∃ out, out = (ms l ws like j).1 := ⟨_, rfl⟩
    rw [← hout] at hst hml
    rw [← hout]
    have hwj : bkRng ws[j] := hwr _ (by simp)
    obtain ⟨w, hww⟩ : ∃ w, w = ws[j] := ⟨_, rfl⟩
    rw [← hww] at hst hwj
    have hflen : (flg l.length out).length = l.length := by simp [flg]
    have hnx : fst l.length (fun i => !((flg l.length out).getD i false) && like (l.getD i bk0) w) = mfst l like out w := by
      unfold mfst
      exact fst_congr fun i hi => by rw [flg_get hi]
    have ha := fst_le l.length (fun i => !isIn out i && like (l.getD i bk0) w)
    have ha : mfst l like out w ≤ l.length := ha
    repeat (refine Run.go rfl ?_)
    refine Run.val rfl rfl rfl (ValOk.idx (bkA w) rfl rfl rfl rfl rfl (by omega) (by simp [hlt, hww])) rfl ?_
    repeat (refine Run.go rfl ?_)
    refine Run.cs rfl (upTo_ct l.length hlen) (by show [i64 ((l.map bkA).length : Int)] = _; rw [List.length_map]) (rf64 _) ?_
    repeat (refine Run.go rfl ?_)
    refine Run.cs rfl (firstOf_ct (nums l.length) false 79 [.rp [.ro 1 true ((flg l.length out).map bof)] 0, .rp [.fn f []] 0, .rp [.ro 8 e1 (l.map bkA)] 0, .rp (bkA w).cells 0] (fun x => !((flg l.length out).getD x.toNat false) && like (l.getD x.toNat bk0) w) (by simp [nums]; omega) rfl ?_) (by rw [frz64, frzBo, decide_eq_true (by simp [flg])]; rfl) rfl ?_
    · intro x hx
      obtain ⟨i, hi, rfl⟩ : ∃ i : Nat, i < l.length ∧ x = (i : Int) := by
        unfold nums at hx
        obtain ⟨i, hi, rfl⟩ := List.mem_map.mp hx
        exact ⟨i, List.mem_range.mp hi, rfl⟩
      exact matched1_ct i (flg l.length out) l w e1 f like hi hflen hwj hr hf
    rw [fi_nums]
    rw [show fst l.length (fun i => (fun x : Int => !((flg l.length out).getD x.toNat false) && like (l.getD x.toNat bk0) w) (i : Int)) = mfst l like out w from hnx]
    generalize mfst l like out w = at' at hst ha
    repeat (refine Run.go rfl ?_)
    refine Run.cond rfl (fun h => ?_) (fun h => ?_)
    · have h : ¬ at' < l.length := by simp at h; omega
      rw [if_neg h] at hst
      repeat (refine Run.go rfl ?_)
      refine Run.pack 6 rfl rfl rfl ?_
      refine Run.ret hg rfl ?_
      rw [hstop (by rw [hst]), hst]
      rfl
    · have h : at' < l.length := by simp at h; omega
      rw [if_pos h] at hst
      have hat : ((flg l.length out).map bof)[at']? = some (bof ((flg l.length out)[at']'(by rw [hflen]; exact h))) := by
        rw [List.getElem?_map, List.getElem?_eq_getElem (by rw [hflen]; exact h)]
        rfl
      repeat (refine Run.go rfl ?_)
      refine Run.val rfl rfl rfl (ValOk.idxv rfl rfl rfl rfl rfl rfl (by omega) (by omega)) rfl ?_
      rw [show 0 + ((at' : Int)).toNat = at' by simp]
      refine Run.storee _ (bof true) rfl rfl rfl rfl rfl rfl rfl hat rfl rfl rfl ?_
      repeat (refine Run.go rfl ?_)
      refine Run.buildSlice [i64 at'] rfl rfl rfl rfl rfl rfl rfl rfl rfl rfl rfl rfl rfl rfl ?_
      refine Run.appendo rfl rfl rfl rfl rfl rfl rfl rfl rfl rfl rfl rfl rfl rfl (by show (_ + 1) * 8 ≤ _; simp; omega) (by simp [capMax]; omega) (by decide) rfl ?_
      repeat (refine Run.go rfl ?_)
      refine Run.of (IH (j + 1) ⟨by omega, by rw [hst]⟩ (by omega)) ⟨rfl, rfl, rfl, ?_, rfl, rfl, ?_, trivial⟩ ⟨rfl, rfl, rfl, ?_, trivial⟩
      · rw [hst]
        show AV.own _ _ _ = AV.own _ _ _
        simp
      · show i64 _ = _
        rw [wrap_i64 (by omega) (by omega)]
        rfl
      · rw [hst]
        show Ob.vec 1 true (((flg l.length out).map bof).set at' (bof true)) = _
        rw [← flg_snoc h, List.map_set]
  · have hj' : j = ws.length := by simp at h; omega
    subst hj'
    repeat (refine Run.go rfl ?_)
    refine Run.pack 6 rfl rfl rfl ?_
    exact Run.ret hg rfl rfl
end Go.Proofs.Ytahdgoddpkmhbaa

/- Contracts of the program's functions, and what follows from them. -/
namespace Go.Proofs.Ytahdgoddpkmhbaa
open Go Go.Av

/-! Where wanted books stand. -/

def lkU (x y : Bk) : Bool := uc x y == 0
def wtRes (a b : List Bk) : List Int × Int := if vBs a && vBs b then (if (ms a b lkU b.length).2 then ((ms a b lkU b.length).1, 0) else ([], 6)) else ([], 1)
theorem wtRes_len (a b : List Bk) : (wtRes a b).1.length ≤ b.length := by
  unfold wtRes
  split
  · split
    · exact (ms_len a b lkU b.length).1
    · simp
  · simp

noncomputable def X55 : Fx := ⟨Try.prog, tys, 55, Try.f55, [0, 1]⟩
theorem X55_ok : X55.Ok := ⟨Try.func55, tys_ok⟩
theorem walkTo1_ct (x y : Bk) : Ct Try.prog 55 [bkA x, bkA y] (bo (lkU x y)) [] := by
  refine Ct.intro X55 X55_ok rfl rfl rfl rfl fun g hg => ?_
  repeat (refine Run.go rfl ?_)
  refine Run.cs rfl (compare_ct x y) rfl rfl ?_
  repeat (refine Run.go rfl ?_)
  exact Run.ret hg rfl rfl

noncomputable def X26 : Fx := ⟨Try.prog, tys, 26, Try.f26, [0, 1]⟩
theorem X26_ok : X26.Ok := ⟨Try.func26, tys_ok⟩
theorem implWalkTo_ct (a b : List Bk) (e1 e2 : Bool) (ha : a.length ≤ 1048576 ∧ ∀ x ∈ a, bkRng x) (hb : b.length ≤ 1048576 ∧ ∀ x ∈ b, bkRng x) : Ct Try.prog 26 [.ro 8 e1 (a.map bkA), .ro 8 e2 (b.map bkA)] (lsR (wtRes a b)) [] := by
  have hml := ms_len a b lkU b.length
  refine Ct.intro X26 X26_ok rfl rfl rfl rfl fun g hg => ?_
  repeat (refine Run.go rfl ?_)
  refine Run.cs rfl (validBooks_ct a e1 ha.1) rfl rfl ?_
  repeat (refine Run.go rfl ?_)
  refine Run.bool 10 rfl (fun h => ?_) (fun h1 => ?_)
  · have h : vBs a = false := by simpa using h
    repeat (refine Run.go rfl ?_)
    refine Run.cond rfl (fun _ => ?_) (fun h => by simp at h)
    repeat (refine Run.go rfl ?_)
    refine Run.nilSlot 4 1 false rfl ?_
    refine Run.ret hg rfl ?_
    rw [wtRes, h]
    rfl
  have h1 : vBs a = true := by simpa using h1
  repeat (refine Run.go rfl ?_)
  refine Run.cs rfl (validBooks_ct b e2 hb.1) rfl rfl ?_
  repeat (refine Run.go rfl ?_)
  refine Run.cond rfl (fun h => ?_) (fun h2 => ?_)
  · have h : vBs b = false := by simpa using h
    repeat (refine Run.go rfl ?_)
    refine Run.nilSlot 4 1 false rfl ?_
    refine Run.ret hg rfl ?_
    rw [wtRes, h1, h]
    rfl
  have h2 : vBs b = true := by simpa using h2
  repeat (refine Run.go rfl ?_)
  refine Run.cs rfl (matched_ct a b e1 e2 _ lkU ha hb fun x y _ _ => walkTo1_ct x y) rfl (rf64 _) ?_
  refine Run.unpack 17 rfl rfl ?_
  repeat (refine Run.go rfl ?_)
  refine Run.cond rfl (fun h => ?_) (fun h => ?_)
  · have h : (ms a b lkU b.length).2 = false := by
      cases hs : (ms a b lkU b.length).2 with
      | false => rfl
      | true =>
        have := hml.2.1 hs
        simp at h
        omega
    repeat (refine Run.go rfl ?_)
    refine Run.nilSlot 4 1 false rfl ?_
    refine Run.ret hg rfl ?_
    rw [wtRes, h1, h2, h]
    rfl
  · have h : (ms a b lkU b.length).2 = true := by
      cases hs : (ms a b lkU b.length).2 with
      | true => rfl
      | false =>
        have := hml.2.2 hs
        simp at h
        omega
    repeat (refine Run.go rfl ?_)
    refine Run.pack 4 rfl rfl rfl ?_
    refine Run.ret hg rfl ?_
    rw [wtRes, h1, h2, h]
    rfl

noncomputable def X25 : Fx := ⟨Try.prog, tys, 25, Try.f25, [0, 1]⟩
theorem X25_ok : X25.Ok := ⟨Try.func25, tys_ok⟩
theorem specWalkTo_ct (a b : List Bk) (e1 e2 : Bool) (ha : a.length ≤ 1048576 ∧ ∀ x ∈ a, bkRng x) (hb : b.length ≤ 1048576 ∧ ∀ x ∈ b, bkRng x) : Ct Try.prog 25 [.ro 8 e1 (a.map bkA), .ro 8 e2 (b.map bkA)] (lsR (wtRes a b)) [] := by
  obtain ⟨hal, har⟩ := ha
  obtain ⟨hbl, hbr⟩ := hb
  refine Ct.intro X25 X25_ok rfl rfl rfl rfl fun g hg => ?_
  repeat (refine Run.go rfl ?_)
  refine Run.cs rfl (l01Ok_ct a e1 hal har) rfl rfl ?_
  repeat (refine Run.go rfl ?_)
  refine Run.bool 12 rfl (fun h => ?_) (fun h1 => ?_)
  · have h : vBs a = false := by simpa using h
    repeat (refine Run.go rfl ?_)
    refine Run.cond rfl (fun _ => ?_) (fun h => by simp at h)
    repeat (refine Run.go rfl ?_)
    refine Run.buildSlice [] rfl rfl rfl rfl rfl rfl rfl rfl rfl rfl rfl rfl rfl rfl ?_
    repeat (refine Run.go rfl ?_)
    refine Run.loosen0 4 rfl ?_
    refine Run.ret hg rfl ?_
    rw [wtRes, h]
    rfl
  have h1 : vBs a = true := by simpa using h1
  repeat (refine Run.go rfl ?_)
  refine Run.cs rfl (l01Ok_ct b e2 hbl hbr) rfl rfl ?_
  repeat (refine Run.go rfl ?_)
  refine Run.cond rfl (fun h => ?_) (fun h2 => ?_)
  · have h : vBs b = false := by simpa using h
    repeat (refine Run.go rfl ?_)
    refine Run.buildSlice [] rfl rfl rfl rfl rfl rfl rfl rfl rfl rfl rfl rfl rfl rfl ?_
    repeat (refine Run.go rfl ?_)
    refine Run.loosen0 4 rfl ?_
    refine Run.ret hg rfl ?_
    rw [wtRes, h1, h]
    rfl
  have h2 : vBs b = true := by simpa using h2
  repeat (refine Run.go rfl ?_)
  refine Run.buildSlice [] rfl rfl rfl rfl rfl rfl rfl rfl rfl rfl rfl rfl rfl rfl ?_
  repeat (refine Run.go rfl ?_)
  refine Run.loosen0 6 rfl ?_
  refine Run.loop (fun j : Nat => ⟨[(0, .ro 8 e1 (a.map bkA)), (1, .ro 8 e2 (b.map bkA)), (6, .own 1 false ((ms a b lkU j).1.map i64)), (7, i64 j)], []⟩) (fun j => j ≤ b.length ∧ (ms a b lkU j).2 = true) (fun j => b.length - j) 0 ⟨by omega, rfl⟩ ?_ ?_
  · exact St.Le.mk' ⟨rfl, rfl, rfl, rfl, trivial⟩ trivial
  rintro j ⟨hj, hgo⟩ IH
  repeat (refine Run.go rfl ?_)
  refine Run.cond rfl (fun h => ?_) (fun h => ?_)
  · have hlt : j < b.length := by simpa using h
    have hml := ms_len a b lkU j
    have hst : ms a b lkU (j + 1) = if mfst a lkU (ms a b lkU j).1 b[j] < a.length then ((ms a b lkU j).1 ++ [(mfst a lkU (ms a b lkU j).1 b[j] : Int)], true) else ((ms a b lkU j).1, false) := by
      rw [ms_succ, if_pos hgo, show b.getD j bk0 = b[j] by simp [hlt]]
    have hstop : (ms a b lkU (j + 1)).2 = false → (ms a b lkU b.length).2 = false := by
      intro hr2
      rw [ms_stop a b lkU (j := j + 1) hr2 b.length (by omega), hr2]
    obtain ⟨out, hout⟩ : ∃ out, out = (ms a b lkU j).1 := ⟨_, rfl⟩
    rw [← hout] at hst hml
    rw [← hout]
    have hwj : bkRng b[j] := hbr _ (by simp)
    obtain ⟨w, hww⟩ : ∃ w, w = b[j] := ⟨_, rfl⟩
    rw [← hww] at hst hwj
    have hq : ∀ i, i < a.length → (!isIn out i && lkU (a.getD i bk0) w) = (!(decide (uc (a.getD i bk0) w ≠ 0) || isIn out i)) := by
      intro i hi
      unfold lkU
      generalize uc (a.getD i bk0) w = z
      by_cases e : z = 0 <;> cases isIn out i <;> simp [e]
    refine Run.unpack 6 rfl rfl ?_
    repeat (refine Run.go rfl ?_)
    refine Run.loop (fun k : Nat => ⟨[(0, .ro 8 e1 (a.map bkA)), (1, .ro 8 e2 (b.map bkA)), (6, .vec (6, 0) 0 (out.map i64).length), (7, i64 j), (8, i64 k)], [((6, 0), .vec 1 false (out.map i64))]⟩) (fun k => k ≤ a.length ∧ ∀ i, i < k → (!isIn out i && lkU (a.getD i bk0) w) = false) (fun k => a.length - k) 0 ⟨by omega, fun i h => by omega⟩ ?_ ?_
    · exact St.Le.mk' ⟨rfl, rfl, rfl, rfl, rfl, trivial⟩ ⟨rfl, trivial⟩
    rintro k ⟨hk, hno⟩ IH2
    repeat (refine Run.go rfl ?_)
    refine Run.drawS ⟨[(0, .ro 8 e1 (a.map bkA)), (1, .ro 8 e2 (b.map bkA)), (6, .vec (6, 0) 0 (out.map i64).length), (7, i64 j), (8, i64 k), (43, bo (decide (k < a.length) && (decide (uc (a.getD k bk0) w ≠ 0) || isIn out k)))], [((6, 0), .vec 1 false (out.map i64))]⟩ (by kernel_rfl) (by decide +kernel) ?_ ?_
    · repeat (refine Quiet.go rfl ?_)
      refine Quiet.bool 29 rfl (fun hA => ?_) (fun hA => ?_)
      · have hA : k < a.length := by simpa using hA
        have e : a.getD k bk0 = a[k] := by simp [hA]
        rw [e]
        repeat (refine Quiet.go rfl ?_)
        refine Quiet.val rfl rfl (ValOk.idx (bkA a[k]) rfl rfl rfl rfl rfl (by omega) (by simp [hA])) rfl ?_
        repeat (refine Quiet.go rfl ?_)
        refine Quiet.val rfl rfl (ValOk.idx (bkA w) rfl rfl rfl rfl rfl (by omega) (by simp [hlt, hww])) rfl ?_
        repeat (refine Quiet.go rfl ?_)
        refine Quiet.cs rfl rfl rfl rfl rfl (l01Usual_ct a[k] w (har _ (by simp)) hwj) rfl rfl ?_
        repeat (refine Quiet.go rfl ?_)
        refine Quiet.bool 38 rfl (fun hB => ?_) (fun hB => ?_)
        · have hB : uc a[k] w ≠ 0 := by simpa using hB
          repeat (refine Quiet.go rfl ?_)
          refine Quiet.nil (St.Le.mk' ⟨rfl, rfl, rfl, rfl, rfl, ?_, trivial⟩ ⟨rfl, trivial⟩)
          show bo true = bo _
          simp [hA, hB]
        · have hB : uc a[k] w = 0 := by simpa using hB
          repeat (refine Quiet.go rfl ?_)
          refine Quiet.cs rfl rfl rfl rfl rfl (l00Has_ct out false (k : Int) (by omega)) (by rw [frz64, decide_eq_true rfl]; rfl) rfl ?_
          repeat (refine Quiet.go rfl ?_)
          refine Quiet.nil (St.Le.mk' ⟨rfl, rfl, rfl, rfl, rfl, ?_, trivial⟩ ⟨rfl, trivial⟩)
          show bo (isIn out k) = bo _
          simp [hA, hB]
      · have hA : ¬ k < a.length := by simpa using hA
        repeat (refine Quiet.go rfl ?_)
        refine Quiet.nil (St.Le.mk' ⟨rfl, rfl, rfl, rfl, rfl, ?_, trivial⟩ ⟨rfl, trivial⟩)
        show bo false = bo _
        simp [hA]
    refine Run.cond rfl (fun h => ?_) (fun h => ?_)
    · have h : (decide (k < a.length) && (decide (uc (a.getD k bk0) w ≠ 0) || isIn out k)) = true := h
      rw [Bool.and_eq_true, decide_eq_true_eq] at h
      repeat (refine Run.go rfl ?_)
      refine Run.of (IH2 (k + 1) ⟨by omega, fun i hi => ?_⟩ (by omega)) ⟨rfl, rfl, rfl, rfl, ?_, trivial⟩ ⟨rfl, trivial⟩
      · by_cases e : i = k
        · rw [e, hq k h.1, h.2]
          rfl
        · exact hno i (by omega)
      · show i64 _ = _
        rw [wrap_i64 (by omega) (by omega)]
        rfl
    · have h : (decide (k < a.length) && (decide (uc (a.getD k bk0) w ≠ 0) || isIn out k)) = false := h
      repeat (refine Run.go rfl ?_)
      refine Run.cond rfl (fun hC => ?_) (fun hC => ?_)
      · have hC : k = a.length := by simp at hC; omega
        have hm : mfst a lkU out w = a.length := fst_none fun i hi => hno i (by omega)
        rw [hm, if_neg (by omega)] at hst
        repeat (refine Run.go rfl ?_)
        refine Run.buildSlice [] rfl rfl rfl rfl rfl rfl rfl rfl rfl rfl rfl rfl rfl rfl ?_
        repeat (refine Run.go rfl ?_)
        refine Run.loosen0 4 rfl ?_
        refine Run.ret hg rfl ?_
        rw [wtRes, h1, h2, hstop (by rw [hst])]
        rfl
      · have hC : k < a.length := by simp at hC; omega
        rw [decide_eq_true hC, Bool.true_and] at h
        have hm : mfst a lkU out w = k := fst_eq hC (by rw [hq k hC, h]; rfl) hno
        rw [hm, if_pos hC] at hst
        repeat (refine Run.go rfl ?_)
        refine Run.buildSlice [i64 k] rfl rfl rfl rfl rfl rfl rfl rfl rfl rfl rfl rfl rfl rfl ?_
        refine Run.appendo rfl rfl rfl rfl rfl rfl rfl rfl rfl rfl rfl rfl rfl rfl (by show (_ + 1) * 8 ≤ _; simp; omega) (by simp [capMax]; omega) (by decide) rfl ?_
        repeat (refine Run.go rfl ?_)
        refine Run.of (IH (j + 1) ⟨by omega, by rw [hst]⟩ (by omega)) ⟨rfl, rfl, ?_, ?_, trivial⟩ trivial
        · rw [hst]
          show AV.own _ _ _ = AV.own _ _ _
          simp
        · show i64 _ = _
          rw [wrap_i64 (by omega) (by omega)]
          rfl
  · have hj' : j = b.length := by simp at h; omega
    subst hj'
    repeat (refine Run.go rfl ?_)
    refine Run.pack 4 rfl rfl rfl ?_
    refine Run.ret hg rfl ?_
    rw [wtRes, h1, h2, hgo]
    rfl
end Go.Proofs.Ytahdgoddpkmhbaa

/- Contracts of the program's functions, and what follows from them. -/
namespace Go.Proofs.Ytahdgoddpkmhbaa
open Go Go.Av

/-! The places of a shelf's books in a catalogue of the same stock. -/

def lkE (x y : Bk) : Bool := decide (x = y)
def scode (a b : List Bk) : Int := if stCode a b = 0 then (if sameP a b then 0 else 8) else stCode a b

noncomputable def X59 : Fx := ⟨Try.prog, tys, 59, Try.f59, [0, 1]⟩
theorem X59_ok : X59.Ok := ⟨Try.func59, tys_ok⟩
theorem l07Same_ct (a b : List Bk) (e1 e2 : Bool) (ha : a.length ≤ 1048576 ∧ ∀ x ∈ a, bkRng x) (hb : b.length ≤ 1048576 ∧ ∀ x ∈ b, bkRng x) : Ct Try.prog 59 [.ro 8 e1 (a.map bkA), .ro 8 e2 (b.map bkA)] (i64 (scode a b)) [] := by
  refine Ct.intro X59 X59_ok rfl rfl rfl rfl fun g hg => ?_
  repeat (refine Run.go rfl ?_)
  refine Run.cs rfl (l07Both_ct a b e1 e2 ha hb) rfl rfl ?_
  repeat (refine Run.go rfl ?_)
  refine Run.bool 11 rfl (fun h => ?_) (fun h => ?_)
  · have h : stCode a b = 0 := by simpa using h
    repeat (refine Run.go rfl ?_)
    refine Run.cs rfl (l07Stock_ct a b e1 e2 ha hb) rfl rfl ?_
    repeat (refine Run.go rfl ?_)
    refine Run.cond rfl (fun h2 => ?_) (fun h2 => ?_)
    · have h2 : sameP a b = false := by simpa using h2
      repeat (refine Run.go rfl ?_)
      refine Run.ret hg rfl ?_
      rw [scode, if_pos h, h2]
      rfl
    · have h2 : sameP a b = true := by simpa using h2
      repeat (refine Run.go rfl ?_)
      refine Run.ret hg rfl ?_
      rw [scode, if_pos h, h2]
      show i64 (stCode a b) = _
      rw [h]
      rfl
  · have h : stCode a b ≠ 0 := by simpa using h
    repeat (refine Run.go rfl ?_)
    refine Run.cond rfl (fun h2 => by simp at h2) (fun h2 => ?_)
    repeat (refine Run.go rfl ?_)
    refine Run.ret hg rfl ?_
    rw [scode, if_neg h]
    rfl

noncomputable def X64 : Fx := ⟨Try.prog, tys, 64, Try.f64, [0, 1]⟩
theorem X64_ok : X64.Ok := ⟨Try.func64, tys_ok⟩
theorem sameCode_ct (a b : List Bk) (e1 e2 : Bool) (ha : a.length ≤ 1048576 ∧ ∀ x ∈ a, bkRng x) (hb : b.length ≤ 1048576 ∧ ∀ x ∈ b, bkRng x) : Ct Try.prog 64 [.ro 8 e1 (a.map bkA), .ro 8 e2 (b.map bkA)] (i64 (scode a b)) [] := by
  refine Ct.intro X64 X64_ok rfl rfl rfl rfl fun g hg => ?_
  repeat (refine Run.go rfl ?_)
  refine Run.cs rfl (stockCode_ct a b e1 e2 ha.1 hb.1) rfl rfl ?_
  repeat (refine Run.go rfl ?_)
  refine Run.bool 11 rfl (fun h => ?_) (fun h => ?_)
  · have h : stCode a b = 0 := by simpa using h
    repeat (refine Run.go rfl ?_)
    refine Run.cs rfl (isSameStock_ct a b e1 e2 ha hb) rfl rfl ?_
    repeat (refine Run.go rfl ?_)
    refine Run.cond rfl (fun h2 => ?_) (fun h2 => ?_)
    · have h2 : sameP a b = false := by simpa using h2
      repeat (refine Run.go rfl ?_)
      refine Run.ret hg rfl ?_
      rw [scode, if_pos h, h2]
      rfl
    · have h2 : sameP a b = true := by simpa using h2
      repeat (refine Run.go rfl ?_)
      refine Run.ret hg rfl ?_
      rw [scode, if_pos h, h2]
      show i64 (stCode a b) = _
      rw [h]
      rfl
  · have h : stCode a b ≠ 0 := by simpa using h
    repeat (refine Run.go rfl ?_)
    refine Run.cond rfl (fun h2 => by simp at h2) (fun h2 => ?_)
    repeat (refine Run.go rfl ?_)
    refine Run.ret hg rfl ?_
    rw [scode, if_neg h]
    rfl

theorem scode_0 {a b : List Bk} (h : scode a b = 0) : sameP a b = true := by
  unfold scode at h
  split at h
  · split at h
    · assumption
    · cases h
  · contradiction

/-! All are found. -/

theorem countP_add {p : Nat → Bool} {k : Nat} (hk : p k = false) (n : Nat) : (List.range n).countP (fun i => p i || i == k) = (List.range n).countP p + (if k < n then 1 else 0) := by
  induction n with
  | zero => simp
  | succ n ih =>
    rw [List.range_succ, List.countP_append, List.countP_append, ih, List.countP_singleton, List.countP_singleton]
    by_cases e : n = k
    · subst e
      simp [hk]
    · have e' : (n == k) = false := by simpa using e
      rw [e', Bool.or_false]
      generalize (if p n = true then 1 else 0) = z
      by_cases h1 : k < n
      · rw [if_pos h1, if_pos (show k < n + 1 by omega)]
        omega
      · rw [if_neg h1, if_neg (show ¬ k < n + 1 by omega)]
        omega

theorem count_range (l : List Bk) (w : Bk) : (List.range l.length).countP (fun i => decide (l.getD i bk0 = w)) = l.count w := by
  suffices h : ∀ k, k ≤ l.length → (List.range k).countP (fun i => decide (l.getD i bk0 = w)) = (l.take k).count w by
    have := h l.length (Nat.le_refl _)
    rwa [List.take_length] at this
  intro k
  induction k with
  | zero => intro _; simp
  | succ k ih =>
    intro hk
    have hlt : k < l.length := hk
    rw [List.range_succ, List.countP_append, ih (by omega), count_step hlt, List.countP_singleton]
    congr 1
    rw [show l.getD k bk0 = l[k] by simp [hlt]]
    by_cases e : l[k] = w <;> simp [e]

def rcnt (a : List Bk) (out : List Int) (w : Bk) : Nat := (List.range a.length).countP fun i => isIn out i && decide (a.getD i bk0 = w)
theorem isIn_snoc (out : List Int) (k i : Nat) : isIn (out ++ [(k : Int)]) i = (isIn out i || i == k) := by
  simp only [isIn, List.any_append, List.any_cons, List.any_nil, Bool.or_false]
  congr 1
  rw [Bool.eq_iff_iff]
  simp
  omega
theorem rcnt_snoc {a : List Bk} {out : List Int} {k : Nat} (hk : k < a.length) (hno : isIn out k = false) (w : Bk) : rcnt a (out ++ [(k : Int)]) w = rcnt a out w + (if a.getD k bk0 = w then 1 else 0) := by
  unfold rcnt
  by_cases hd : a.getD k bk0 = w
  · rw [if_pos hd]
    have := countP_add (p := fun i => isIn out i && decide (a.getD i bk0 = w)) (k := k) (by simp [hno]) a.length
    rw [if_pos hk] at this
    rw [← this]
    congr 1
    funext i
    rw [isIn_snoc]
    by_cases e : i = k
    · subst e
      rw [decide_eq_true hd]
      simp
    · have e' : (i == k) = false := by simpa using e
      rw [e', Bool.or_false, Bool.or_false]
  · rw [if_neg hd, Nat.add_zero]
    congr 1
    funext i
    rw [isIn_snoc]
    by_cases e : i = k
    · subst e
      have : decide (a.getD i bk0 = w) = false := decide_eq_false hd
      rw [this, Bool.and_false, Bool.and_false]
    · have e' : (i == k) = false := by simpa using e
      rw [e', Bool.or_false]

theorem ms_all {a b : List Bk} (h : sameP a b = true) : ∀ j, j ≤ b.length → (ms a b lkE j).2 = true ∧ ∀ w, rcnt a (ms a b lkE j).1 w = (b.take j).count w := by
  obtain ⟨m1, m2⟩ := (sameP_iff a b).mp h
  have c1 := more_counts.mp m1
  have c2 := more_counts.mp m2
  intro j
  induction j with
  | zero =>
    intro _
    refine ⟨rfl, fun w => ?_⟩
    simp [ms, rcnt, isIn]
  | succ j ih =>
    intro hj
    obtain ⟨h1, h2⟩ := ih (by omega)
    have hlt : j < b.length := hj
    have e : b.getD j bk0 = b[j] := by simp [hlt]
    have hex : mfst a lkE (ms a b lkE j).1 b[j] < a.length := by
      apply Classical.byContradiction
      intro hno
      have hle := fst_le a.length (fun i => !isIn (ms a b lkE j).1 i && lkE (a.getD i bk0) b[j])
      have hall : ∀ i, i < a.length → (!isIn (ms a b lkE j).1 i && lkE (a.getD i bk0) b[j]) = false := by
        intro i hi
        have := List.not_of_lt_findIdx (xs := List.range a.length) (p := fun i => !isIn (ms a b lkE j).1 i && lkE (a.getD i bk0) b[j]) (i := i) (by
          show i < mfst a lkE (ms a b lkE j).1 b[j]
          omega)
        rw [List.getElem_range] at this
        simpa using this
      have hr : rcnt a (ms a b lkE j).1 b[j] = a.count b[j] := by
        rw [← count_range]
        unfold rcnt
        apply List.countP_congr
        intro i hi
        have := hall i (List.mem_range.mp hi)
        rw [show lkE (a.getD i bk0) b[j] = decide (a.getD i bk0 = b[j]) from rfl] at this
        generalize decide (a.getD i bk0 = b[j]) = z at this
        generalize isIn (ms a b lkE j).1 i = y at this
        revert this
        cases y <;> cases z <;> decide
      have h3 := h2 b[j]
      have h4 := count_step hlt b[j]
      rw [if_pos rfl] at h4
      have h5 := count_take_le b b[j] (j + 1)
      have h6 := c2 b[j]
      omega
    have hat := fst_at hex
    rw [ms_succ, if_pos h1, e, if_pos hex]
    refine ⟨rfl, fun w => ?_⟩
    simp only [Bool.and_eq_true, Bool.not_eq_true'] at hat
    have hka : a.getD (mfst a lkE (ms a b lkE j).1 b[j]) bk0 = b[j] := of_decide_eq_true hat.2
    rw [rcnt_snoc hex hat.1, h2, count_step hlt, hka]

def rpRes (a b : List Bk) : List Int × Int := if scode a b = 0 then ((ms a b lkE b.length).1, 0) else ([], scode a b)
theorem rpRes_len (a b : List Bk) : (rpRes a b).1.length ≤ b.length := by
  unfold rpRes
  split
  · exact (ms_len a b lkE b.length).1
  · simp

noncomputable def X65 : Fx := ⟨Try.prog, tys, 65, Try.f65, [0, 1]⟩
theorem X65_ok : X65.Ok := ⟨Try.func65, tys_ok⟩
theorem rightPlaces1_ct (x y : Bk) (hx : bkRng x) (hy : bkRng y) : Ct Try.prog 65 [bkA x, bkA y] (bo (lkE x y)) [] := by
  refine Ct.intro X65 X65_ok rfl rfl rfl rfl fun g hg => ?_
  repeat (refine Run.go rfl ?_)
  refine Run.val rfl rfl rfl (ValOk.eqK x y rfl bkK rfl rfl hx hy) rfl ?_
  repeat (refine Run.go rfl ?_)
  exact Run.ret hg rfl rfl

noncomputable def X36 : Fx := ⟨Try.prog, tys, 36, Try.f36, [0, 1]⟩
theorem X36_ok : X36.Ok := ⟨Try.func36, tys_ok⟩
theorem implRightPlaces_ct (a b : List Bk) (e1 e2 : Bool) (ha : a.length ≤ 1048576 ∧ ∀ x ∈ a, bkRng x) (hb : b.length ≤ 1048576 ∧ ∀ x ∈ b, bkRng x) : Ct Try.prog 36 [.ro 8 e1 (a.map bkA), .ro 8 e2 (b.map bkA)] (lsR (rpRes a b)) [] := by
  refine Ct.intro X36 X36_ok rfl rfl rfl rfl fun g hg => ?_
  repeat (refine Run.go rfl ?_)
  refine Run.cs rfl (sameCode_ct a b e1 e2 ha hb) rfl rfl ?_
  repeat (refine Run.go rfl ?_)
  refine Run.cond rfl (fun h => ?_) (fun h => ?_)
  · have h : scode a b ≠ 0 := by simpa using h
    repeat (refine Run.go rfl ?_)
    refine Run.nilSlot 4 1 false rfl ?_
    refine Run.ret hg rfl ?_
    rw [rpRes, if_neg h]
    rfl
  · have h : scode a b = 0 := by simpa using h
    repeat (refine Run.go rfl ?_)
    refine Run.cs rfl (matched_ct a b e1 e2 _ lkE ha hb rightPlaces1_ct) rfl (rf64 _) ?_
    repeat (refine Run.go rfl ?_)
    refine Run.ret hg rfl ?_
    rw [rpRes, if_pos h]
    rfl

noncomputable def X35 : Fx := ⟨Try.prog, tys, 35, Try.f35, [0, 1]⟩
theorem X35_ok : X35.Ok := ⟨Try.func35, tys_ok⟩
theorem specRightPlaces_ct (a b : List Bk) (e1 e2 : Bool) (ha : a.length ≤ 1048576 ∧ ∀ x ∈ a, bkRng x) (hb : b.length ≤ 1048576 ∧ ∀ x ∈ b, bkRng x) : Ct Try.prog 35 [.ro 8 e1 (a.map bkA), .ro 8 e2 (b.map bkA)] (lsR (rpRes a b)) [] := by
  obtain ⟨hal, har⟩ := ha
  obtain ⟨hbl, hbr⟩ := hb
  refine Ct.intro X35 X35_ok rfl rfl rfl rfl fun g hg => ?_
  repeat (refine Run.go rfl ?_)
  refine Run.cs rfl (l07Same_ct a b e1 e2 ⟨hal, har⟩ ⟨hbl, hbr⟩) rfl rfl ?_
  repeat (refine Run.go rfl ?_)
  refine Run.cond rfl (fun h => ?_) (fun h => ?_)
  · have h : scode a b ≠ 0 := by simpa using h
    repeat (refine Run.go rfl ?_)
    refine Run.buildSlice [] rfl rfl rfl rfl rfl rfl rfl rfl rfl rfl rfl rfl rfl rfl ?_
    repeat (refine Run.go rfl ?_)
    refine Run.loosen0 4 rfl ?_
    refine Run.ret hg rfl ?_
    rw [rpRes, if_neg h]
    rfl
  have hsc : scode a b = 0 := by simpa using h
  have hsame := scode_0 hsc
  repeat (refine Run.go rfl ?_)
  refine Run.buildSlice [] rfl rfl rfl rfl rfl rfl rfl rfl rfl rfl rfl rfl rfl rfl ?_
  repeat (refine Run.go rfl ?_)
  refine Run.loosen0 7 rfl ?_
  refine Run.loop (fun j : Nat => ⟨[(0, .ro 8 e1 (a.map bkA)), (1, .ro 8 e2 (b.map bkA)), (7, .own 1 false ((ms a b lkE j).1.map i64)), (8, i64 j)], []⟩) (fun j => j ≤ b.length) (fun j => b.length - j) 0 (by omega) ?_ ?_
  · exact St.Le.mk' ⟨rfl, rfl, rfl, rfl, trivial⟩ trivial
  intro j hj IH
  repeat (refine Run.go rfl ?_)
  refine Run.cond rfl (fun h => ?_) (fun h => ?_)
  · have hlt : j < b.length := by simpa using h
    have hml := ms_len a b lkE j
    have hgo := (ms_all hsame j hj).1
    have hgo2 := (ms_all hsame (j + 1) hlt).1
    have hst : ms a b lkE (j + 1) = if mfst a lkE (ms a b lkE j).1 b[j] < a.length then ((ms a b lkE j).1 ++ [(mfst a lkE (ms a b lkE j).1 b[j] : Int)], true) else ((ms a b lkE j).1, false) := by
      rw [ms_succ, if_pos hgo, show b.getD j bk0 = b[j] by simp [hlt]]
    obtain ⟨out, hout⟩ : ∃ out, out = (ms a b lkE j).1 := ⟨_, rfl⟩
    rw [← hout] at hst hml
    rw [← hout]
    have hwj : bkRng b[j] := hbr _ (by simp)
    obtain ⟨w, hww⟩ : ∃ w, w = b[j] := ⟨_, rfl⟩
    rw [← hww] at hst hwj
    have hex : mfst a lkE out w < a.length := by
      apply Classical.byContradiction
      intro hno
      rw [if_neg hno] at hst
      rw [hst] at hgo2
      cases hgo2
    rw [if_pos hex] at hst
    have hat := fst_at hex
    have hbef : ∀ i, i < mfst a lkE out w → (!isIn out i && lkE (a.getD i bk0) w) = false := by
      intro i hi
      have := List.not_of_lt_findIdx (xs := List.range a.length) (p := fun i => !isIn out i && lkE (a.getD i bk0) w) (i := i) hi
      rw [List.getElem_range] at this
      simpa using this
    have hat : (!isIn out (mfst a lkE out w) && lkE (a.getD (mfst a lkE out w) bk0) w) = true := hat
    generalize mfst a lkE out w = at' at hst hex hat hbef
    refine Run.unpack 7 rfl rfl ?_
    repeat (refine Run.go rfl ?_)
    refine Run.loop (fun k : Nat => ⟨[(0, .ro 8 e1 (a.map bkA)), (1, .ro 8 e2 (b.map bkA)), (7, .vec (7, 0) 0 (out.map i64).length), (8, i64 j), (9, i64 k)], [((7, 0), .vec 1 false (out.map i64))]⟩) (fun k => k ≤ at') (fun k => at' - k) 0 (by omega) ?_ ?_
    · exact St.Le.mk' ⟨rfl, rfl, rfl, rfl, rfl, trivial⟩ ⟨rfl, trivial⟩
    intro k hk IH2
    have hA : k < a.length := by omega
    have e : a.getD k bk0 = a[k] := by simp [hA]
    repeat (refine Run.go rfl ?_)
    refine Run.drawS ⟨[(0, .ro 8 e1 (a.map bkA)), (1, .ro 8 e2 (b.map bkA)), (7, .vec (7, 0) 0 (out.map i64).length), (8, i64 j), (9, i64 k), (37, bo (!decide (a[k] = w) || isIn out k))], [((7, 0), .vec 1 false (out.map i64))]⟩ (by kernel_rfl) (by decide +kernel) ?_ ?_
    · repeat (refine Quiet.go rfl ?_)
      refine Quiet.val rfl rfl (ValOk.idx (bkA a[k]) rfl rfl rfl rfl rfl (by omega) (by simp [hA])) rfl ?_
      repeat (refine Quiet.go rfl ?_)
      refine Quiet.val rfl rfl (ValOk.idx (bkA w) rfl rfl rfl rfl rfl (by omega) (by simp [hlt, hww])) rfl ?_
      repeat (refine Quiet.go rfl ?_)
      refine Quiet.val rfl rfl (ValOk.neK a[k] w rfl bkK rfl rfl (har _ (by simp)) hwj) rfl ?_
      repeat (refine Quiet.go rfl ?_)
      refine Quiet.bool 33 rfl (fun hB => ?_) (fun hB => ?_)
      · have hB : (!decide (a[k] = w)) = true := hB
        repeat (refine Quiet.go rfl ?_)
        refine Quiet.nil (St.Le.mk' ⟨rfl, rfl, rfl, rfl, rfl, ?_, trivial⟩ ⟨rfl, trivial⟩)
        show bo true = bo _
        rw [hB, Bool.true_or]
      · have hB : (!decide (a[k] = w)) = false := hB
        repeat (refine Quiet.go rfl ?_)
        refine Quiet.cs rfl rfl rfl rfl rfl (l00Has_ct out false (k : Int) (by omega)) (by rw [frz64, decide_eq_true rfl]; rfl) rfl ?_
        repeat (refine Quiet.go rfl ?_)
        refine Quiet.nil (St.Le.mk' ⟨rfl, rfl, rfl, rfl, rfl, ?_, trivial⟩ ⟨rfl, trivial⟩)
        show bo (isIn out k) = bo _
        rw [hB, Bool.false_or]
    refine Run.cond rfl (fun h => ?_) (fun h => ?_)
    · have h : (!decide (a[k] = w) || isIn out k) = true := h
      have hne : k ≠ at' := by
        rintro rfl
        rw [e] at hat
        unfold lkE at hat
        rw [Bool.and_eq_true, Bool.not_eq_true'] at hat
        rw [hat.1, hat.2] at h
        cases h
      repeat (refine Run.go rfl ?_)
      refine Run.of (IH2 (k + 1) (by omega) (by omega)) ⟨rfl, rfl, rfl, rfl, ?_, trivial⟩ ⟨rfl, trivial⟩
      show i64 _ = _
      rw [wrap_i64 (by omega) (by omega)]
      rfl
    · have h : (!decide (a[k] = w) || isIn out k) = false := h
      have heq : k = at' := by
        apply Classical.byContradiction
        intro hne
        have := hbef k (by omega)
        rw [e] at this
        unfold lkE at this
        rw [Bool.or_eq_false_iff] at h
        rw [h.2, Bool.not_false, Bool.true_and] at this
        rw [this] at h
        exact absurd h.1 (by decide)
      subst heq
      repeat (refine Run.go rfl ?_)
      refine Run.buildSlice [i64 k] rfl rfl rfl rfl rfl rfl rfl rfl rfl rfl rfl rfl rfl rfl ?_
      refine Run.appendo rfl rfl rfl rfl rfl rfl rfl rfl rfl rfl rfl rfl rfl rfl (by show (_ + 1) * 8 ≤ _; simp; omega) (by simp [capMax]; omega) (by decide) rfl ?_
      repeat (refine Run.go rfl ?_)
      refine Run.of (IH (j + 1) (by omega) (by omega)) ⟨rfl, rfl, ?_, ?_, trivial⟩ trivial
      · rw [hst]
        show AV.own _ _ _ = AV.own _ _ _
        simp
      · show i64 _ = _
        rw [wrap_i64 (by omega) (by omega)]
        rfl
  · have hj' : j = b.length := by simp at h; omega
    subst hj'
    repeat (refine Run.go rfl ?_)
    refine Run.pack 4 rfl rfl rfl ?_
    refine Run.ret hg rfl ?_
    rw [rpRes, if_pos hsc]
    rfl
end Go.Proofs.Ytahdgoddpkmhbaa

/- Contracts of the program's functions, and what follows from them. -/
namespace Go.Proofs.Ytahdgoddpkmhbaa
open Go Go.Av

/-! One exchange that makes the shelf of a catalogue. -/

def mvA (f t : Int) : AV := .agg [i16 f, i16 t]
def mvR (r : (Int × Int) × Int) : AV := .tup [mvA r.1.1 r.1.2, i64 r.2]

theorem take_snoc_eq {a b : List Bk} {j : Nat} (ha : j < a.length) (hb : j < b.length) (h : a.take j = b.take j) (he : a[j] = b[j]) : a.take (j + 1) = b.take (j + 1) := by
  rw [List.take_succ_eq_append_getElem ha, List.take_succ_eq_append_getElem hb, h, he]

noncomputable def X98 : Fx := ⟨Try.prog, tys, 98, Try.f98, [0, 1]⟩
theorem X98_ok : X98.Ok := ⟨Try.func98, tys_ok⟩
theorem eqBk_ct (a b : List Bk) (e1 e2 : Bool) (ha : a.length ≤ 1048576 ∧ ∀ x ∈ a, bkRng x) (hb : b.length ≤ 1048576 ∧ ∀ x ∈ b, bkRng x) : Ct Try.prog 98 [.ro 8 e1 (a.map bkA), .ro 8 e2 (b.map bkA)] (bo (decide (a = b))) [] := by
  obtain ⟨hal, har⟩ := ha
  obtain ⟨hbl, hbr⟩ := hb
  refine Ct.intro X98 X98_ok rfl (by kernel_rfl) rfl rfl fun g hg => ?_
  repeat (refine Run.go rfl ?_)
  refine Run.cond rfl (fun h => ?_) (fun h => ?_)
  · have h : a.length ≠ b.length := by
      intro e
      simp [e] at h
    repeat (refine Run.go rfl ?_)
    refine Run.ret hg rfl ?_
    rw [decide_eq_false (p := a = b) fun e => h (by rw [e])]
    rfl
  have hl : a.length = b.length := by
    simp at h
    omega
  repeat (refine Run.go rfl ?_)
  refine Run.loop (fun j : Nat => ⟨[(0, .ro 8 e1 (a.map bkA)), (1, .ro 8 e2 (b.map bkA)), (12, i64 a.length), (13, i64 j)], []⟩) (fun j => j ≤ a.length ∧ a.take j = b.take j) (fun j => a.length - j) 0 ⟨by omega, rfl⟩ ?_ ?_
  · refine St.Le.mk' ⟨rfl, rfl, ?_, rfl, trivial⟩ trivial
    show i64 _ = _
    simp
  rintro j ⟨hj, ht⟩ IH
  repeat (refine Run.go rfl ?_)
  refine Run.cond rfl (fun h => ?_) (fun h => ?_)
  · have hlt : j < a.length := by simpa using h
    have hlb : j < b.length := by omega
    repeat (refine Run.go rfl ?_)
    refine Run.drawS ⟨[(0, .ro 8 e1 (a.map bkA)), (1, .ro 8 e2 (b.map bkA)), (12, i64 a.length), (13, i64 j), (24, bo (!decide (a[j] = b[j])))], []⟩ (by kernel_rfl) (by decide +kernel) ?_ ?_
    · repeat (refine Quiet.go rfl ?_)
      refine Quiet.val rfl rfl (ValOk.idx (bkA a[j]) rfl rfl rfl rfl rfl (by omega) (by simp [hlt])) rfl ?_
      repeat (refine Quiet.go rfl ?_)
      refine Quiet.val rfl rfl (ValOk.idx (bkA b[j]) rfl rfl rfl rfl rfl (by omega) (by simp [hlb])) rfl ?_
      repeat (refine Quiet.go rfl ?_)
      refine Quiet.val rfl rfl (ValOk.neK a[j] b[j] rfl bkK rfl rfl (har _ (by simp)) (hbr _ (by simp))) rfl ?_
      exact Quiet.nil (St.Le.mk' ⟨rfl, rfl, rfl, rfl, rfl, trivial⟩ trivial)
    refine Run.cond rfl (fun h => ?_) (fun h => ?_)
    · have h : a[j] ≠ b[j] := by simpa using h
      repeat (refine Run.go rfl ?_)
      refine Run.ret hg rfl ?_
      rw [decide_eq_false (p := a = b) fun e => h (by simp only [e])]
      rfl
    · have h : a[j] = b[j] := by simpa using h
      repeat (refine Run.go rfl ?_)
      refine Run.of (IH (j + 1) ⟨by omega, take_snoc_eq hlt hlb ht h⟩ (by omega)) ⟨rfl, rfl, rfl, ?_, trivial⟩ trivial
      show i64 _ = _
      rw [wrap_i64 (by omega) (by omega)]
      rfl
  · have hj' : j = a.length := by simp at h; omega
    subst hj'
    repeat (refine Run.go rfl ?_)
    refine Run.ret hg rfl ?_
    rw [List.take_length, hl, List.take_length] at ht
    rw [decide_eq_true ht]
    rfl

noncomputable def X83 : Fx := ⟨Try.prog, tys, 83, Try.f83, [0, 1]⟩
theorem X83_ok : X83.Ok := ⟨Try.func83, tys_ok⟩
theorem sameBooks_ct (a b : List Bk) (e1 e2 : Bool) (ha : a.length ≤ 1048576 ∧ ∀ x ∈ a, bkRng x) (hb : b.length ≤ 1048576 ∧ ∀ x ∈ b, bkRng x) : Ct Try.prog 83 [.ro 8 e1 (a.map bkA), .ro 8 e2 (b.map bkA)] (bo (decide (a = b))) [] := by
  refine Ct.intro X83 X83_ok rfl rfl rfl rfl fun g hg => ?_
  repeat (refine Run.go rfl ?_)
  refine Run.cs rfl (eqBk_ct a b e1 e2 ha hb) rfl rfl ?_
  repeat (refine Run.go rfl ?_)
  exact Run.ret hg rfl rfl

theorem oneC_bk (a : List Bk) : oneC (a.map bkA) = true := by
  simp only [oneC, List.all_map, List.all_eq_true]
  intro x _
  rfl

noncomputable def X63 : Fx := ⟨Try.prog, tys, 63, Try.f63, [0]⟩
theorem X63_ok : X63.Ok := ⟨Try.func63, tys_ok⟩
theorem cloneBk_ct (a : List Bk) (e1 : Bool) (ha : a.length ≤ 1048576) : Ct Try.prog 63 [.ro 8 e1 (a.map bkA)] (.own 8 false (a.map bkA)) [] := by
  refine Ct.intro X63 X63_ok rfl (by kernel_rfl) rfl rfl fun g hg => ?_
  repeat (refine Run.go rfl ?_)
  refine Run.roNil rfl rfl rfl rfl rfl rfl rfl rfl fun b hb => ?_
  repeat (refine Run.go rfl ?_)
  refine Run.cond rfl (fun h => ?_) (fun h => ?_)
  · have hn := hb h
    repeat (refine Run.go rfl ?_)
    refine Run.nilSlot 2 8 false rfl ?_
    refine Run.ret hg rfl ?_
    rw [hn]
    rfl
  · repeat (refine Run.go rfl ?_)
    refine Run.buildSlice [] rfl rfl rfl rfl rfl rfl rfl rfl rfl rfl rfl rfl rfl rfl ?_
    refine Run.unpack 5 rfl rfl ?_
    repeat (refine Run.go rfl ?_)
    refine Run.appendr rfl rfl rfl rfl rfl rfl rfl rfl rfl rfl rfl rfl rfl (oneC_bk a) (by show (_ + _) * 14 ≤ _; simp; omega) (by simp [capMax]; omega) rfl ?_
    repeat (refine Run.go rfl ?_)
    exact Run.ret hg rfl rfl

def sw (b : List Bk) (i j : Nat) : List Bk := (b.set i (b.getD j bk0)).set j (b.getD i bk0)

noncomputable def X62 : Fx := ⟨Try.prog, tys, 62, Try.f62, [0, 1]⟩
theorem X62_ok : X62.Ok := ⟨Try.func62, tys_ok⟩
theorem oneSwap2_ct (b : List Bk) (e2 : Bool) (hb : b.length ≤ 60) (i j : Nat) (hi : i < b.length) (hj : j < b.length) : Ct Try.prog 62 [mvA i j, .rp [.ro 8 e2 (b.map bkA)] 0] (.own 8 false ((sw b i j).map bkA)) [] := by
  refine Ct.intro X62 X62_ok rfl rfl rfl rfl fun g hg => ?_
  repeat (refine Run.go rfl ?_)
  refine Run.cs rfl (cloneBk_ct b e2 (by omega)) rfl (rfB _) ?_
  repeat (refine Run.go rfl ?_)
  refine Run.unpack 4 rfl rfl ?_
  have hyi : (b.map bkA)[0 + (i : Int).toNat]? = some (bkA (b.getD i bk0)) := by simp [hi]
  have hyj : (b.map bkA)[0 + (j : Int).toNat]? = some (bkA (b.getD j bk0)) := by simp [hj]
  have hyj2 : ((b.map bkA).set (0 + (i : Int).toNat) (bkA (b.getD j bk0)))[0 + (j : Int).toNat]? = some (bkA (b.getD j bk0)) := by
    rw [List.getElem?_set]
    split
    · rename_i e
      rw [if_pos (by simpa using hi)]
    · exact hyj
  refine Run.drawI (fun D => ⟨[(4, .vec (4, 0) 0 (b.map bkA).length), (2, .bp (2, 0) 0), (7, bif D 0 then .vec (4, 0) 0 (b.map bkA).length else .top), (8, bif D 1 then .bp (2, 0) 0 else .top), (9, bif D 2 then i16 i else .top), (10, bif D 3 then .vec (4, 0) 0 (b.map bkA).length else .top), (11, bif D 4 then .bp (2, 0) 1 else .top), (12, bif D 5 then i16 j else .top), (13, bif D 6 then .vec (4, 0) 0 (b.map bkA).length else .top), (14, bif D 7 then .bp (2, 0) 1 else .top), (15, bif D 8 then i16 j else .top), (16, bif D 9 then .ep (4, 0) (0 + (j : Int).toNat) 0 else .top), (17, bif D 10 then bkA (b.getD j bk0) else .top), (18, bif D 11 then .vec (4, 0) 0 (b.map bkA).length else .top), (19, bif D 12 then .bp (2, 0) 0 else .top), (20, bif D 13 then i16 i else .top), (21, bif D 14 then .ep (4, 0) (0 + (i : Int).toNat) 0 else .top), (22, bif D 15 then bkA (b.getD i bk0) else .top), (23, bif D 16 then .ep (4, 0) (0 + (i : Int).toNat) 0 else .top), (24, bif D 18 then .ep (4, 0) (0 + (j : Int).toNat) 0 else .top)], [((2, 0), Ob.box [i16 i, i16 j]), ((4, 0), (bif D 19 then Ob.vec 8 false (((b.map bkA).set (0 + (i : Int).toNat) (bkA (b.getD j bk0))).set (0 + (j : Int).toNat) (bkA (b.getD i bk0))) else (bif D 17 then Ob.vec 8 false ((b.map bkA).set (0 + (i : Int).toNat) (bkA (b.getD j bk0))) else Ob.vec 8 false (b.map bkA))))]⟩) (by decide +kernel) (by decide +kernel) ?_ ?_ fun k' => ⟨?_, ?_, ?_, ?_, ?_, ?_, ?_, ?_, ?_, ?_, ?_, ?_, ?_, ?_, ?_, ?_, ?_, ?_, ?_, ?_, trivial⟩
  · exact St.Le.mk' ⟨rfl, rfl, rfl, rfl, rfl, rfl, rfl, rfl, rfl, rfl, rfl, rfl, rfl, rfl, rfl, rfl, rfl, rfl, rfl, rfl, trivial⟩ ⟨rfl, rfl, trivial⟩
  rotate_left
  · intro D hid h0 hp hs rest hK
    obtain ⟨d16, d17, d18, d19, -⟩ : AllD D false [16, 17, 18, 19] := ideal_sub hs (by decide +kernel)
    simp only [d16, d17, d18, d19, h0, cond_true, cond_false]
    refine Run.go rfl ?_
    refine Run.le ?_ hK
    simp only [d16, d17, d18, d19, h0, Nat.reduceBEq, Bool.false_or, Bool.true_or, cond_true, cond_false]
    exact St.Le.mk' ⟨rfl, rfl, rfl, rfl, rfl, rfl, rfl, rfl, rfl, rfl, rfl, rfl, rfl, rfl, rfl, rfl, rfl, rfl, rfl, rfl, trivial⟩ ⟨rfl, rfl, trivial⟩
  · intro D hid h0 hp hs rest hK
    obtain ⟨d2, d16, d17, d18, d19, -⟩ : AllD D false [2, 16, 17, 18, 19] := ideal_sub hs (by decide +kernel)
    simp only [d2, d16, d17, d18, d19, h0, cond_true, cond_false]
    refine Run.go rfl ?_
    refine Run.le ?_ hK
    simp only [d2, d16, d17, d18, d19, h0, Nat.reduceBEq, Bool.false_or, Bool.true_or, cond_true, cond_false]
    exact St.Le.mk' ⟨rfl, rfl, rfl, rfl, rfl, rfl, rfl, rfl, rfl, rfl, rfl, rfl, rfl, rfl, rfl, rfl, rfl, rfl, rfl, rfl, trivial⟩ ⟨rfl, rfl, trivial⟩
  · intro D hid h0 hp hs rest hK
    obtain ⟨d1, -⟩ : AllD D true [1] := ideal_sub hp (by decide +kernel)
    obtain ⟨d16, d17, d18, d19, -⟩ : AllD D false [16, 17, 18, 19] := ideal_sub hs (by decide +kernel)
    simp only [d1, d16, d17, d18, d19, h0, cond_true, cond_false]
    refine Run.go rfl ?_
    refine Run.le ?_ hK
    simp only [d1, d16, d17, d18, d19, h0, Nat.reduceBEq, Bool.false_or, Bool.true_or, cond_true, cond_false]
    exact St.Le.mk' ⟨rfl, rfl, rfl, rfl, rfl, rfl, rfl, rfl, rfl, rfl, rfl, rfl, rfl, rfl, rfl, rfl, rfl, rfl, rfl, rfl, trivial⟩ ⟨rfl, rfl, trivial⟩
  · intro D hid h0 hp hs rest hK
    obtain ⟨d18, d19, -⟩ : AllD D false [18, 19] := ideal_sub hs (by decide +kernel)
    simp only [d18, d19, h0, cond_true, cond_false]
    refine Run.go rfl ?_
    refine Run.le ?_ hK
    simp only [d18, d19, h0, Nat.reduceBEq, Bool.false_or, Bool.true_or, cond_true, cond_false]
    exact St.Le.mk' ⟨rfl, rfl, rfl, rfl, rfl, rfl, rfl, rfl, rfl, rfl, rfl, rfl, rfl, rfl, rfl, rfl, rfl, rfl, rfl, rfl, trivial⟩ ⟨rfl, rfl, trivial⟩
  · intro D hid h0 hp hs rest hK
    obtain ⟨d5, d18, d19, -⟩ : AllD D false [5, 18, 19] := ideal_sub hs (by decide +kernel)
    simp only [d5, d18, d19, h0, cond_true, cond_false]
    refine Run.go rfl ?_
    refine Run.le ?_ hK
    simp only [d5, d18, d19, h0, Nat.reduceBEq, Bool.false_or, Bool.true_or, cond_true, cond_false]
    exact St.Le.mk' ⟨rfl, rfl, rfl, rfl, rfl, rfl, rfl, rfl, rfl, rfl, rfl, rfl, rfl, rfl, rfl, rfl, rfl, rfl, rfl, rfl, trivial⟩ ⟨rfl, rfl, trivial⟩
  · intro D hid h0 hp hs rest hK
    obtain ⟨d4, -⟩ : AllD D true [4] := ideal_sub hp (by decide +kernel)
    obtain ⟨d18, d19, -⟩ : AllD D false [18, 19] := ideal_sub hs (by decide +kernel)
    simp only [d4, d18, d19, h0, cond_true, cond_false]
    refine Run.go rfl ?_
    refine Run.le ?_ hK
    simp only [d4, d18, d19, h0, Nat.reduceBEq, Bool.false_or, Bool.true_or, cond_true, cond_false]
    exact St.Le.mk' ⟨rfl, rfl, rfl, rfl, rfl, rfl, rfl, rfl, rfl, rfl, rfl, rfl, rfl, rfl, rfl, rfl, rfl, rfl, rfl, rfl, trivial⟩ ⟨rfl, rfl, trivial⟩
  · intro D hid h0 hp hs rest hK
    obtain ⟨d9, d16, d17, d18, d19, -⟩ : AllD D false [9, 16, 17, 18, 19] := ideal_sub hs (by decide +kernel)
    simp only [d9, d16, d17, d18, d19, h0, cond_true, cond_false]
    refine Run.go rfl ?_
    refine Run.le ?_ hK
    simp only [d9, d16, d17, d18, d19, h0, Nat.reduceBEq, Bool.false_or, Bool.true_or, cond_true, cond_false]
    exact St.Le.mk' ⟨rfl, rfl, rfl, rfl, rfl, rfl, rfl, rfl, rfl, rfl, rfl, rfl, rfl, rfl, rfl, rfl, rfl, rfl, rfl, rfl, trivial⟩ ⟨rfl, rfl, trivial⟩
  · intro D hid h0 hp hs rest hK
    obtain ⟨d8, d16, d17, d18, d19, -⟩ : AllD D false [8, 16, 17, 18, 19] := ideal_sub hs (by decide +kernel)
    simp only [d8, d16, d17, d18, d19, h0, cond_true, cond_false]
    refine Run.go rfl ?_
    refine Run.le ?_ hK
    simp only [d8, d16, d17, d18, d19, h0, Nat.reduceBEq, Bool.false_or, Bool.true_or, cond_true, cond_false]
    exact St.Le.mk' ⟨rfl, rfl, rfl, rfl, rfl, rfl, rfl, rfl, rfl, rfl, rfl, rfl, rfl, rfl, rfl, rfl, rfl, rfl, rfl, rfl, trivial⟩ ⟨rfl, rfl, trivial⟩
  · intro D hid h0 hp hs rest hK
    obtain ⟨d7, -⟩ : AllD D true [7] := ideal_sub hp (by decide +kernel)
    obtain ⟨d9, d16, d17, d18, d19, -⟩ : AllD D false [9, 16, 17, 18, 19] := ideal_sub hs (by decide +kernel)
    simp only [d7, d9, d16, d17, d18, d19, h0, cond_true, cond_false]
    refine Run.go rfl ?_
    refine Run.le ?_ hK
    simp only [d7, d9, d16, d17, d18, d19, h0, Nat.reduceBEq, Bool.false_or, Bool.true_or, cond_true, cond_false]
    exact St.Le.mk' ⟨rfl, rfl, rfl, rfl, rfl, rfl, rfl, rfl, rfl, rfl, rfl, rfl, rfl, rfl, rfl, rfl, rfl, rfl, rfl, rfl, trivial⟩ ⟨rfl, rfl, trivial⟩
  · intro D hid h0 hp hs rest hK
    obtain ⟨d6, d8, -⟩ : AllD D true [6, 8] := ideal_sub hp (by decide +kernel)
    obtain ⟨d10, d16, d17, d18, d19, -⟩ : AllD D false [10, 16, 17, 18, 19] := ideal_sub hs (by decide +kernel)
    have d17 : D 17 = false := ideal_no (i := 17) (j := 10) hid (by decide +kernel) d10
    simp only [d6, d8, d10, d16, d17, d18, d19, d17, h0, cond_true, cond_false]
    refine Run.val rfl rfl rfl (ValOk.idxv rfl rfl rfl rfl rfl rfl (by omega) (by simp; omega)) rfl ?_
    refine Run.le ?_ hK
    simp only [d6, d8, d10, d16, d17, d18, d19, d17, h0, Nat.reduceBEq, Bool.false_or, Bool.true_or, cond_true, cond_false]
    exact St.Le.mk' ⟨rfl, rfl, rfl, rfl, rfl, rfl, rfl, rfl, rfl, rfl, rfl, rfl, rfl, rfl, rfl, rfl, rfl, rfl, rfl, rfl, trivial⟩ ⟨rfl, rfl, trivial⟩
  · intro D hid h0 hp hs rest hK
    obtain ⟨d9, -⟩ : AllD D true [9] := ideal_sub hp (by decide +kernel)
    obtain ⟨d16, d17, d18, d19, -⟩ : AllD D false [16, 17, 18, 19] := ideal_sub hs (by decide +kernel)
    simp only [d9, d16, d17, d18, d19, h0, cond_true, cond_false]
    refine Run.val rfl rfl rfl (ValOk.loadv (bkA (b.getD j bk0)) rfl rfl rfl rfl hyj rfl) rfl ?_
    refine Run.le ?_ hK
    simp only [d9, d16, d17, d18, d19, h0, Nat.reduceBEq, Bool.false_or, Bool.true_or, cond_true, cond_false]
    exact St.Le.mk' ⟨rfl, rfl, rfl, rfl, rfl, rfl, rfl, rfl, rfl, rfl, rfl, rfl, rfl, rfl, rfl, rfl, rfl, rfl, rfl, rfl, trivial⟩ ⟨rfl, rfl, trivial⟩
  · intro D hid h0 hp hs rest hK
    obtain ⟨d14, d18, d19, -⟩ : AllD D false [14, 18, 19] := ideal_sub hs (by decide +kernel)
    simp only [d14, d18, d19, h0, cond_true, cond_false]
    refine Run.go rfl ?_
    refine Run.le ?_ hK
    simp only [d14, d18, d19, h0, Nat.reduceBEq, Bool.false_or, Bool.true_or, cond_true, cond_false]
    exact St.Le.mk' ⟨rfl, rfl, rfl, rfl, rfl, rfl, rfl, rfl, rfl, rfl, rfl, rfl, rfl, rfl, rfl, rfl, rfl, rfl, rfl, rfl, trivial⟩ ⟨rfl, rfl, trivial⟩
  · intro D hid h0 hp hs rest hK
    obtain ⟨d13, d18, d19, -⟩ : AllD D false [13, 18, 19] := ideal_sub hs (by decide +kernel)
    simp only [d13, d18, d19, h0, cond_true, cond_false]
    refine Run.go rfl ?_
    refine Run.le ?_ hK
    simp only [d13, d18, d19, h0, Nat.reduceBEq, Bool.false_or, Bool.true_or, cond_true, cond_false]
    exact St.Le.mk' ⟨rfl, rfl, rfl, rfl, rfl, rfl, rfl, rfl, rfl, rfl, rfl, rfl, rfl, rfl, rfl, rfl, rfl, rfl, rfl, rfl, trivial⟩ ⟨rfl, rfl, trivial⟩
  · intro D hid h0 hp hs rest hK
    obtain ⟨d12, -⟩ : AllD D true [12] := ideal_sub hp (by decide +kernel)
    obtain ⟨d14, d18, d19, -⟩ : AllD D false [14, 18, 19] := ideal_sub hs (by decide +kernel)
    simp only [d12, d14, d18, d19, h0, cond_true, cond_false]
    refine Run.go rfl ?_
    refine Run.le ?_ hK
    simp only [d12, d14, d18, d19, h0, Nat.reduceBEq, Bool.false_or, Bool.true_or, cond_true, cond_false]
    exact St.Le.mk' ⟨rfl, rfl, rfl, rfl, rfl, rfl, rfl, rfl, rfl, rfl, rfl, rfl, rfl, rfl, rfl, rfl, rfl, rfl, rfl, rfl, trivial⟩ ⟨rfl, rfl, trivial⟩
  · intro D hid h0 hp hs rest hK
    obtain ⟨d11, d13, -⟩ : AllD D true [11, 13] := ideal_sub hp (by decide +kernel)
    obtain ⟨d15, d18, d19, -⟩ : AllD D false [15, 18, 19] := ideal_sub hs (by decide +kernel)
    have d17 : D 17 = false := ideal_no (i := 17) (j := 15) hid (by decide +kernel) d15
    simp only [d11, d13, d15, d18, d19, d17, h0, cond_true, cond_false]
    refine Run.val rfl rfl rfl (ValOk.idxv rfl rfl rfl rfl rfl rfl (by omega) (by simp; omega)) rfl ?_
    refine Run.le ?_ hK
    simp only [d11, d13, d15, d18, d19, d17, h0, Nat.reduceBEq, Bool.false_or, Bool.true_or, cond_true, cond_false]
    exact St.Le.mk' ⟨rfl, rfl, rfl, rfl, rfl, rfl, rfl, rfl, rfl, rfl, rfl, rfl, rfl, rfl, rfl, rfl, rfl, rfl, rfl, rfl, trivial⟩ ⟨rfl, rfl, trivial⟩
  · intro D hid h0 hp hs rest hK
    obtain ⟨d14, -⟩ : AllD D true [14] := ideal_sub hp (by decide +kernel)
    obtain ⟨d16, d17, d18, d19, -⟩ : AllD D false [16, 17, 18, 19] := ideal_sub hs (by decide +kernel)
    simp only [d14, d16, d17, d18, d19, h0, cond_true, cond_false]
    refine Run.val rfl rfl rfl (ValOk.loadv (bkA (b.getD i bk0)) rfl rfl rfl rfl hyi rfl) rfl ?_
    refine Run.le ?_ hK
    simp only [d14, d16, d17, d18, d19, h0, Nat.reduceBEq, Bool.false_or, Bool.true_or, cond_true, cond_false]
    exact St.Le.mk' ⟨rfl, rfl, rfl, rfl, rfl, rfl, rfl, rfl, rfl, rfl, rfl, rfl, rfl, rfl, rfl, rfl, rfl, rfl, rfl, rfl, trivial⟩ ⟨rfl, rfl, trivial⟩
  · intro D hid h0 hp hs rest hK
    obtain ⟨d0, d1, d2, d6, d7, d8, d9, d10, d15, -⟩ : AllD D true [0, 1, 2, 6, 7, 8, 9, 10, 15] := ideal_sub hp (by decide +kernel)
    obtain ⟨d17, d18, d19, -⟩ : AllD D false [17, 18, 19] := ideal_sub hs (by decide +kernel)
    simp only [d0, d1, d2, d6, d7, d8, d9, d10, d15, d17, d18, d19, h0, cond_true, cond_false]
    refine Run.val rfl rfl rfl (ValOk.idxv rfl rfl rfl rfl rfl rfl (by omega) (by simp; omega)) rfl ?_
    refine Run.le ?_ hK
    simp only [d0, d1, d2, d6, d7, d8, d9, d10, d15, d17, d18, d19, h0, Nat.reduceBEq, Bool.false_or, Bool.true_or, cond_true, cond_false]
    exact St.Le.mk' ⟨rfl, rfl, rfl, rfl, rfl, rfl, rfl, rfl, rfl, rfl, rfl, rfl, rfl, rfl, rfl, rfl, rfl, rfl, rfl, rfl, trivial⟩ ⟨rfl, rfl, trivial⟩
  · intro D hid h0 hp hs rest hK
    obtain ⟨d0, d1, d2, d6, d7, d8, d9, d10, d15, d16, -⟩ : AllD D true [0, 1, 2, 6, 7, 8, 9, 10, 15, 16] := ideal_sub hp (by decide +kernel)
    obtain ⟨d18, d19, -⟩ : AllD D false [18, 19] := ideal_sub hs (by decide +kernel)
    simp only [d0, d1, d2, d6, d7, d8, d9, d10, d15, d16, d18, d19, h0, cond_true, cond_false]
    refine Run.storee (bkA (b.getD i bk0)) (bkA (b.getD j bk0)) rfl rfl rfl rfl rfl rfl rfl hyi rfl rfl rfl ?_
    refine Run.le ?_ hK
    simp only [d0, d1, d2, d6, d7, d8, d9, d10, d15, d16, d18, d19, h0, Nat.reduceBEq, Bool.false_or, Bool.true_or, cond_true, cond_false]
    exact St.Le.mk' ⟨rfl, rfl, rfl, rfl, rfl, rfl, rfl, rfl, rfl, rfl, rfl, rfl, rfl, rfl, rfl, rfl, rfl, rfl, rfl, rfl, trivial⟩ ⟨rfl, rfl, trivial⟩
  · intro D hid h0 hp hs rest hK
    obtain ⟨d0, d1, d2, d3, d4, d5, d6, d7, d8, d9, d10, d11, d12, d13, d14, d15, d16, d17, -⟩ : AllD D true [0, 1, 2, 3, 4, 5, 6, 7, 8, 9, 10, 11, 12, 13, 14, 15, 16, 17] := ideal_sub hp (by decide +kernel)
    obtain ⟨d19, -⟩ : AllD D false [19] := ideal_sub hs (by decide +kernel)
    simp only [d0, d1, d2, d3, d4, d5, d6, d7, d8, d9, d10, d11, d12, d13, d14, d15, d16, d17, d19, h0, cond_true, cond_false]
    refine Run.val rfl rfl rfl (ValOk.idxv rfl rfl rfl rfl rfl rfl (by omega) (by simp; omega)) rfl ?_
    refine Run.le ?_ hK
    simp only [d0, d1, d2, d3, d4, d5, d6, d7, d8, d9, d10, d11, d12, d13, d14, d15, d16, d17, d19, h0, Nat.reduceBEq, Bool.false_or, Bool.true_or, cond_true, cond_false]
    exact St.Le.mk' ⟨rfl, rfl, rfl, rfl, rfl, rfl, rfl, rfl, rfl, rfl, rfl, rfl, rfl, rfl, rfl, rfl, rfl, rfl, rfl, rfl, trivial⟩ ⟨rfl, rfl, trivial⟩
  · intro D hid h0 hp hs rest hK
    obtain ⟨d0, d1, d2, d3, d4, d5, d6, d7, d8, d9, d10, d11, d12, d13, d14, d15, d16, d17, d18, -⟩ : AllD D true [0, 1, 2, 3, 4, 5, 6, 7, 8, 9, 10, 11, 12, 13, 14, 15, 16, 17, 18] := ideal_sub hp (by decide +kernel)
    simp only [d0, d1, d2, d3, d4, d5, d6, d7, d8, d9, d10, d11, d12, d13, d14, d15, d16, d17, d18, h0, cond_true, cond_false]
    refine Run.storee (bkA (b.getD j bk0)) (bkA (b.getD i bk0)) rfl rfl rfl rfl rfl rfl rfl hyj2 rfl rfl rfl ?_
    refine Run.le ?_ hK
    simp only [d0, d1, d2, d3, d4, d5, d6, d7, d8, d9, d10, d11, d12, d13, d14, d15, d16, d17, d18, h0, Nat.reduceBEq, Bool.false_or, Bool.true_or, cond_true, cond_false]
    exact St.Le.mk' ⟨rfl, rfl, rfl, rfl, rfl, rfl, rfl, rfl, rfl, rfl, rfl, rfl, rfl, rfl, rfl, rfl, rfl, rfl, rfl, rfl, trivial⟩ ⟨rfl, rfl, trivial⟩
  repeat (refine Run.go rfl ?_)
  refine Run.pack 3 rfl rfl (by simp) ?_
  refine Run.ret hg rfl ?_
  show AV.own _ _ _ = AV.own _ _ _
  simp [sw, List.map_set]

noncomputable def X61 : Fx := ⟨Try.prog, tys, 61, Try.f61, [0]⟩
theorem X61_ok : X61.Ok := ⟨Try.func61, tys_ok⟩
theorem oneSwap1_ct (i : Nat) (hi : i < 1048576) : Ct Try.prog 61 [i64 i] (i64 ((i + 1 : Nat) : Int)) [] := by
  refine Ct.intro X61 X61_ok rfl rfl rfl rfl fun g hg => ?_
  repeat (refine Run.go rfl ?_)
  refine Run.ret hg rfl ?_
  show i64 _ = _
  rw [wrap_i64 (by omega) (by omega)]
  rfl

theorem scode_vB {a b : List Bk} (h : scode a b = 0) : a.length ≤ 60 ∧ b.length ≤ 60 := by
  have h1 : stCode a b = 0 := by
    unfold scode at h
    split at h
    · assumption
    · exact h
  unfold stCode at h1
  split at h1
  · rename_i h2
    simp only [vBs, Bool.and_eq_true, decide_eq_true_eq] at h2
    exact ⟨h2.1.1, h2.2.1⟩
  · cases h1

noncomputable def X60 : Fx := ⟨Try.prog, tys, 60, Try.f60, [0, 1, 2, 3]⟩
theorem X60_ok : X60.Ok := ⟨Try.func60, tys_ok⟩
theorem firstMove_ct (a b : List Bk) (e1 e2 : Bool) (fl fm : Nat) (cs : List AV) (least : Nat → Nat) (made : Nat → Nat → List Bk) (R : (Int × Int) × Int) (ha : a.length ≤ 1048576 ∧ ∀ x ∈ a, bkRng x) (hb : b.length ≤ 1048576 ∧ ∀ x ∈ b, bkRng x)
    (hl : ∀ i, i < b.length → Ct Try.prog fl [i64 i] (i64 (least i)) []) (hm : scode a b = 0 → ∀ i j, i < b.length → j < b.length → Ct Try.prog fm [mvA i j, .rp cs 0] (.own 8 false ((made i j).map bkA)) [])
    (hmr : ∀ i j, i < b.length → j < b.length → (made i j).length ≤ 1048576 ∧ ∀ x ∈ made i j, bkRng x)
    (h0 : scode a b ≠ 0 → R = ((0, 0), scode a b)) (h1 : scode a b = 0 → a = b → R = ((0, 0), 6))
    (h2 : scode a b = 0 → a ≠ b → ∀ i j, i < b.length → least i ≤ j → j < b.length → made i j = a → (∀ i' j', (i' < i ∨ i' = i ∧ j' < j) → least i' ≤ j' → j' < b.length → made i' j' ≠ a) → R = (((i : Int), (j : Int)), 0))
    (h3 : scode a b = 0 → a ≠ b → (∀ i j, i < b.length → least i ≤ j → j < b.length → made i j ≠ a) → R = ((0, 0), 6)) :
    Ct Try.prog 60 [.ro 8 e1 (a.map bkA), .ro 8 e2 (b.map bkA), .fn fl [], .fn fm [.rp cs 0]] (mvR R) [] := by
  refine Ct.intro X60 X60_ok rfl (by kernel_rfl) rfl rfl fun g hg => ?_
  repeat (refine Run.go rfl ?_)
  refine Run.cs rfl (sameCode_ct a b e1 e2 ha hb) rfl rfl ?_
  repeat (refine Run.go rfl ?_)
  refine Run.cond rfl (fun h => ?_) (fun h => ?_)
  · have h : scode a b ≠ 0 := by simpa using h
    repeat (refine Run.go rfl ?_)
    refine Run.val rfl rfl rfl (ValOk.build rfl rfl rfl rfl rfl) rfl ?_
    repeat (refine Run.go rfl ?_)
    refine Run.ret hg rfl ?_
    rw [h0 h]
    rfl
  have hsc : scode a b = 0 := by simpa using h
  obtain ⟨hal60, hbl60⟩ := scode_vB hsc
  repeat (refine Run.go rfl ?_)
  refine Run.cs rfl (sameBooks_ct a b e1 e2 ha hb) rfl rfl ?_
  repeat (refine Run.go rfl ?_)
  refine Run.cond rfl (fun h => ?_) (fun h => ?_)
  · have h : a = b := by simpa using h
    repeat (refine Run.go rfl ?_)
    refine Run.val rfl rfl rfl (ValOk.build rfl rfl rfl rfl rfl) rfl ?_
    repeat (refine Run.go rfl ?_)
    refine Run.ret hg rfl ?_
    rw [h1 hsc h]
    rfl
  have hne : a ≠ b := by simpa using h
  repeat (refine Run.go rfl ?_)
  refine Run.loop (fun i : Nat => ⟨[(0, .ro 8 e1 (a.map bkA)), (1, .ro 8 e2 (b.map bkA)), (2, .fn fl []), (3, .fn fm [.rp cs 0]), (8, .bp (8, 0) 0), (26, i64 b.length), (27, i64 i)], [((8, 0), .box [i16 0, i16 0])]⟩)
    (fun i => i ≤ b.length ∧ ∀ i' j', i' < i → least i' ≤ j' → j' < b.length → made i' j' ≠ a) (fun i => b.length - i) 0 ⟨by omega, fun i' j' h => by omega⟩ ?_ ?_
  · refine St.Le.mk' ⟨rfl, rfl, rfl, rfl, rfl, ?_, rfl, trivial⟩ ⟨rfl, trivial⟩
    show i64 _ = _
    simp
  rintro i ⟨hi, hno⟩ IH
  repeat (refine Run.go rfl ?_)
  refine Run.cond rfl (fun h => ?_) (fun h => ?_)
  · have hlt : i < b.length := by simpa using h
    repeat (refine Run.go rfl ?_)
    refine Run.cs rfl (hl i hlt) rfl rfl ?_
    repeat (refine Run.go rfl ?_)
    refine Run.loop (fun j : Nat => ⟨[(0, .ro 8 e1 (a.map bkA)), (1, .ro 8 e2 (b.map bkA)), (2, .fn fl []), (3, .fn fm [.rp cs 0]), (8, .bp (8, 0) 0), (26, i64 b.length), (27, i64 i), (11, i64 i), (12, i64 j)], [((8, 0), .box [i16 0, i16 0])]⟩)
      (fun j => least i ≤ j ∧ ∀ j', least i ≤ j' → j' < j → j' < b.length → made i j' ≠ a) (fun j => b.length - j) (least i) ⟨by omega, fun j' h h' => by omega⟩ ?_ ?_
    · exact St.Le.mk' ⟨rfl, rfl, rfl, rfl, rfl, rfl, rfl, rfl, rfl, trivial⟩ ⟨rfl, trivial⟩
    rintro j ⟨hlj, hnoj⟩ IH2
    repeat (refine Run.go rfl ?_)
    refine Run.cond rfl (fun h => ?_) (fun h => ?_)
    · have hjl : j < b.length := by simpa using h
      repeat (refine Run.go rfl ?_)
      refine Run.val rfl rfl rfl (ValOk.build rfl rfl rfl rfl rfl) rfl ?_
      repeat (refine Run.go rfl ?_)
      refine Run.cs rfl (hm hsc i j hlt hjl) (by rw [wrap_i16 (by omega) (by omega), wrap_i16 (by omega) (by omega)]; rfl) (rfB _) ?_
      repeat (refine Run.go rfl ?_)
      refine Run.cs rfl (sameBooks_ct (made i j) a false e1 (hmr i j hlt hjl) ha) (by rw [frzB]; rfl) rfl ?_
      repeat (refine Run.go rfl ?_)
      refine Run.cond rfl (fun h => ?_) (fun h => ?_)
      · have h : made i j = a := by simpa using h
        repeat (refine Run.go rfl ?_)
        refine Run.ret hg rfl ?_
        rw [h2 hsc hne i j hlt hlj hjl h (fun i' j' hh h3 h4 => by
          rcases hh with hh | ⟨rfl, hh⟩
          · exact hno i' j' hh h3 h4
          · exact hnoj j' h3 hh h4)]
        show AV.tup [AV.agg [i16 _, i16 _], _] = _
        rw [wrap_i16 (by omega) (by omega), wrap_i16 (by omega) (by omega)]
        rfl
      · have h : made i j ≠ a := by simpa using h
        repeat (refine Run.go rfl ?_)
        refine Run.of (IH2 (j + 1) ⟨by omega, fun j' h1 h2 h3 => ?_⟩ (by omega)) ⟨rfl, rfl, rfl, rfl, rfl, rfl, rfl, rfl, ?_, trivial⟩ ⟨rfl, trivial⟩
        · by_cases e : j' = j
          · subst e; exact h
          · exact hnoj j' h1 (by omega) h3
        · show i64 _ = _
          rw [wrap_i64 (by omega) (by omega)]
          rfl
    · have hjl : b.length ≤ j := by simpa using h
      repeat (refine Run.go rfl ?_)
      refine Run.of (IH (i + 1) ⟨by omega, fun i' j' h1 h2 h3 => ?_⟩ (by omega)) ⟨rfl, rfl, rfl, rfl, rfl, rfl, ?_, trivial⟩ ⟨rfl, trivial⟩
      · by_cases e : i' = i
        · subst e; exact hnoj j' h2 (by omega) h3
        · exact hno i' j' (by omega) h2 h3
      · show i64 _ = _
        rw [wrap_i64 (by omega) (by omega)]
        rfl
  · have hin : i = b.length := by simp at h; omega
    repeat (refine Run.go rfl ?_)
    refine Run.val rfl rfl rfl (ValOk.build rfl rfl rfl rfl rfl) rfl ?_
    repeat (refine Run.go rfl ?_)
    refine Run.ret hg rfl ?_
    rw [h3 hsc hne fun i' j' q1 q2 q3 => hno i' j' (by omega) q2 q3]
    rfl

/-! Which places differ. -/

def dfs (a b : List Bk) (j : Nat) : List Nat := (List.range j).filter fun k => !decide (b.getD k bk0 = a.getD k bk0)
def osRes (a b : List Bk) : (Int × Int) × Int := if scode a b = 0 then (match dfs a b b.length with | [i, j] => (((i : Int), (j : Int)), 0) | _ => ((0, 0), 6)) else ((0, 0), scode a b)

theorem filter_two {i j : Nat} (hij : i < j) : ∀ n, (List.range n).filter (fun k => k == i || k == j) = (if i < n then [i] else []) ++ (if j < n then [j] else []) := by
  intro n
  induction n with
  | zero => simp
  | succ n ih =>
    rw [List.range_succ, List.filter_append, ih]
    by_cases e1 : n = i
    · subst e1
      rw [if_neg (show ¬ n < n by omega), if_neg (show ¬ j < n by omega), if_pos (show n < n + 1 by omega), if_neg (show ¬ j < n + 1 by omega)]
      simp
    · by_cases e2 : n = j
      · subst e2
        rw [if_neg (show ¬ n < n by omega), if_pos (show i < n by omega), if_pos (show n < n + 1 by omega), if_pos (show i < n + 1 by omega)]
        simp
      · have h1 : (n == i || n == j) = false := by simp [e1, e2]
        have h2 : (i < n + 1) = (i < n) := by
          apply propext; omega
        have h3 : (j < n + 1) = (j < n) := by
          apply propext; omega
        simp only [List.filter_cons, h1, h2, h3, List.filter_nil]
        simp

theorem sw_get {b : List Bk} {i j k : Nat} (hi : i < b.length) (hj : j < b.length) (hij : i < j) : (sw b i j).getD k bk0 = if k = j then b.getD i bk0 else if k = i then b.getD j bk0 else b.getD k bk0 := by
  unfold sw
  rw [List.getD_eq_getElem?_getD, List.getElem?_set]
  by_cases e : k = j
  · subst e
    simp [hj]
  · rw [if_neg (Ne.symm e), if_neg e, List.getElem?_set]
    by_cases e2 : k = i
    · subst e2
      simp [hi]
    · rw [if_neg (Ne.symm e2), if_neg e2, List.getD_eq_getElem?_getD]

theorem sw_len (b : List Bk) (i j : Nat) : (sw b i j).length = b.length := by simp [sw]

theorem dfs_sw {a b : List Bk} {i j : Nat} (hi : i < b.length) (hj : j < b.length) (hij : i < j) (h : sw b i j = a) (hne : a ≠ b) : dfs a b b.length = [i, j] := by
  have hd : b.getD i bk0 ≠ b.getD j bk0 := by
    intro e
    apply hne
    rw [← h]
    apply List.ext_getElem (sw_len b i j)
    intro k h1 h2
    have := sw_get (k := k) hi hj hij
    rw [show (sw b i j).getD k bk0 = (sw b i j)[k] by simp [h1]] at this
    rw [this]
    split
    · rename_i e'
      subst e'
      rw [e]
      simp [h2]
    · split
      · rename_i e'
        subst e'
        rw [← e]
        simp [h2]
      · simp [h2]
  have := filter_two hij b.length
  rw [if_pos hi, if_pos hj] at this
  unfold dfs
  rw [← h]
  refine Eq.trans (List.filter_congr fun k hk => ?_) this
  rw [sw_get hi hj hij]
  by_cases e : k = j
  · subst e
    simp only [if_pos]
    rw [decide_eq_false (Ne.symm hd)]
    simp
  · rw [if_neg e]
    by_cases e2 : k = i
    · subst e2
      simp only [if_pos]
      rw [decide_eq_false hd]
      simp
    · rw [if_neg e2]
      simp [e, e2]

theorem perm_of_same {a b : List Bk} (h : sameP a b = true) : a.Perm b := by
  obtain ⟨m1, m2⟩ := (sameP_iff a b).mp h
  exact List.perm_iff_count.2 fun x => Nat.le_antisymm (more_counts.mp m1 x) (more_counts.mp m2 x)

theorem sw_of_dfs {a b : List Bk} {i j : Nat} (hp : a.Perm b) (h : dfs a b b.length = [i, j]) : i < b.length ∧ j < b.length ∧ i < j ∧ sw b i j = a := by
  have hl := hp.length_eq
  have hm : ∀ k, k ∈ dfs a b b.length ↔ (k < b.length ∧ b.getD k bk0 ≠ a.getD k bk0) := by
    intro k
    simp [dfs]
  rw [h] at hm
  obtain ⟨hi, hdi⟩ := (hm i).1 (by simp)
  obtain ⟨hj, hdj⟩ := (hm j).1 (by simp)
  have hij : i < j := by
    have hs : (dfs a b b.length).Pairwise (· < ·) := List.Pairwise.filter _ List.pairwise_lt_range
    rw [h] at hs
    simpa using hs
  refine ⟨hi, hj, hij, ?_⟩
  have hoth : ∀ k, k < b.length → k ≠ i → k ≠ j → b.getD k bk0 = a.getD k bk0 := by
    intro k hk h1 h2
    apply Classical.byContradiction
    intro h3
    have := (hm k).2 ⟨hk, h3⟩
    simp [h1, h2] at this
  have hae : a = (b.set i (a.getD i bk0)).set j (a.getD j bk0) := by
    apply List.ext_getElem (by simpa using hl)
    intro k h1 h2
    rw [List.getElem_set, List.getElem_set]
    by_cases e : j = k
    · subst e
      rw [if_pos rfl]
      simp [h1]
    · rw [if_neg e]
      by_cases e2 : i = k
      · subst e2
        rw [if_pos rfl]
        simp [h1]
      · rw [if_neg e2]
        have := hoth k (by omega) (Ne.symm e2) (Ne.symm e)
        rw [show b.getD k bk0 = b[k]'(by omega) by simp [show k < b.length by omega], show a.getD k bk0 = a[k] by simp [h1]] at this
        exact this.symm
  have hc : ∀ w, a.count w = b.count w := fun w => hp.count_eq w
  have hcs : ∀ w, b.count w + (if a.getD i bk0 = w then 1 else 0) + (if a.getD j bk0 = w then 1 else 0) = a.count w + (if b.getD i bk0 = w then 1 else 0) + (if b.getD j bk0 = w then 1 else 0) := by
    intro w
    have e1 := List.count_set (b := w) (a := a.getD j bk0) (l := b.set i (a.getD i bk0)) (i := j) (by simpa using hj)
    have e2 := List.count_set (b := w) (a := a.getD i bk0) (l := b) (i := i) hi
    rw [← hae] at e1
    have e3 : (b.set i (a.getD i bk0))[j]'(by simpa using hj) = b.getD j bk0 := by
      rw [List.getElem_set, if_neg (by omega)]
      simp [hj]
    rw [e3] at e1
    have e4 : b[i] = b.getD i bk0 := by simp [hi]
    rw [e4] at e2
    simp only [beq_iff_eq] at e1 e2
    have p1 : (if b.getD i bk0 = w then 1 else 0) ≤ b.count w := by
      split
      · rename_i e
        rw [← e4] at e
        exact List.count_pos_iff.2 (e ▸ List.getElem_mem hi)
      · omega
    have p2 : (if b.getD j bk0 = w then 1 else 0) ≤ (b.set i (a.getD i bk0)).count w := by
      split
      · rename_i e
        rw [← e3] at e
        exact List.count_pos_iff.2 (e ▸ List.getElem_mem _)
      · omega
    omega
  have q1 : b.getD j bk0 = a.getD i bk0 := by
    have := hcs (a.getD i bk0)
    rw [hc, if_pos rfl, if_neg hdi] at this
    apply Classical.byContradiction
    intro hn
    rw [if_neg hn] at this
    omega
  have q2 : b.getD i bk0 = a.getD j bk0 := by
    have := hcs (a.getD j bk0)
    rw [hc, if_pos (rfl : a.getD j bk0 = a.getD j bk0), if_neg hdj] at this
    apply Classical.byContradiction
    intro hn
    rw [if_neg hn] at this
    omega
  rw [sw, q1, q2]
  exact hae.symm

noncomputable def X33 : Fx := ⟨Try.prog, tys, 33, Try.f33, [0, 1]⟩
theorem X33_ok : X33.Ok := ⟨Try.func33, tys_ok⟩
theorem implOneSwap_ct (a b : List Bk) (e1 e2 : Bool) (ha : a.length ≤ 1048576 ∧ ∀ x ∈ a, bkRng x) (hb : b.length ≤ 1048576 ∧ ∀ x ∈ b, bkRng x) : Ct Try.prog 33 [.ro 8 e1 (a.map bkA), .ro 8 e2 (b.map bkA)] (mvR (osRes a b)) [] := by
  refine Ct.intro X33 X33_ok rfl rfl rfl rfl fun g hg => ?_
  iterate 4 (refine Run.go rfl ?_)
  refine Run.freezeBox 3 (3, 0) [.ro 8 e2 (b.map bkA)] rfl rfl rfl rfl ?_
  repeat (refine Run.go rfl ?_)
  refine Run.cs rfl (firstMove_ct a b e1 e2 _ _ [.ro 8 e2 (b.map bkA)] (fun i => i + 1) (sw b) (osRes a b) ha hb (fun i hi => oneSwap1_ct i (by omega)) (fun hs i j hi hj => oneSwap2_ct b e2 (scode_vB hs).2 i j hi hj) ?_ ?_ ?_ ?_ ?_) rfl rfl ?_
  · intro i j hi hj
    refine ⟨by rw [sw_len]; exact hb.1, fun x hx => ?_⟩
    unfold sw at hx
    rcases List.mem_or_eq_of_mem_set hx with hx | rfl
    · rcases List.mem_or_eq_of_mem_set hx with hx | rfl
      · exact hb.2 x hx
      · exact hb.2 _ (by simp [hj])
    · exact hb.2 _ (by simp [hi])
  · intro h
    rw [osRes, if_neg h]
  · rintro h rfl
    rw [osRes, if_pos h]
    have : dfs a a a.length = [] := by simp [dfs]
    rw [this]
  · intro h hne i j hi hlj hj hs _
    rw [osRes, if_pos h, dfs_sw hi hj (by omega) hs hne]
  · intro h hne hno
    rw [osRes, if_pos h]
    split
    · rename_i i j hd
      obtain ⟨h1, h2, h3, h4⟩ := sw_of_dfs (perm_of_same (scode_0 h)) hd
      exact absurd h4 (hno i j h1 h3 h2)
    · rfl
  repeat (refine Run.go rfl ?_)
  exact Run.ret hg rfl rfl

noncomputable def X32 : Fx := ⟨Try.prog, tys, 32, Try.f32, [0, 1]⟩
theorem X32_ok : X32.Ok := ⟨Try.func32, tys_ok⟩
theorem specOneSwap_ct (a b : List Bk) (e1 e2 : Bool) (ha : a.length ≤ 1048576 ∧ ∀ x ∈ a, bkRng x) (hb : b.length ≤ 1048576 ∧ ∀ x ∈ b, bkRng x) : Ct Try.prog 32 [.ro 8 e1 (a.map bkA), .ro 8 e2 (b.map bkA)] (mvR (osRes a b)) [] := by
  refine Ct.intro X32 X32_ok rfl rfl rfl rfl fun g hg => ?_
  repeat (refine Run.go rfl ?_)
  refine Run.cs rfl (l07Same_ct a b e1 e2 ha hb) rfl rfl ?_
  repeat (refine Run.go rfl ?_)
  refine Run.cond rfl (fun h => ?_) (fun h => ?_)
  · have h : scode a b ≠ 0 := by simpa using h
    repeat (refine Run.go rfl ?_)
    refine Run.val rfl rfl rfl (ValOk.build rfl rfl rfl rfl rfl) rfl ?_
    repeat (refine Run.go rfl ?_)
    refine Run.ret hg rfl ?_
    rw [osRes, if_neg h]
    rfl
  have hsc : scode a b = 0 := by simpa using h
  have hll := (perm_of_same (scode_0 hsc)).length_eq
  have hb60 := (scode_vB hsc).2
  repeat (refine Run.go rfl ?_)
  refine Run.buildSlice [] rfl rfl rfl rfl rfl rfl rfl rfl rfl rfl rfl rfl rfl rfl ?_
  repeat (refine Run.go rfl ?_)
  refine Run.loosen0 7 rfl ?_
  refine Run.loop (fun j : Nat => ⟨[(0, .ro 8 e1 (a.map bkA)), (1, .ro 8 e2 (b.map bkA)), (4, .bp (4, 0) 0), (7, .own 1 false ((dfs a b j).map fun k : Nat => i64 k)), (8, i64 j)], [((4, 0), .box [i16 0, i16 0])]⟩) (fun j => j ≤ b.length) (fun j => b.length - j) 0 (by omega) ?_ ?_
  · exact St.Le.mk' ⟨rfl, rfl, rfl, rfl, rfl, trivial⟩ ⟨rfl, trivial⟩
  intro j hj IH
  repeat (refine Run.go rfl ?_)
  refine Run.cond rfl (fun h => ?_) (fun h => ?_)
  · have hlt : j < b.length := by simpa using h
    have hla : j < a.length := by omega
    have hstep : dfs a b (j + 1) = dfs a b j ++ (if b[j] = a[j] then [] else [j]) := by
      unfold dfs
      rw [List.range_succ, List.filter_append]
      congr 1
      rw [show List.filter (fun k => !decide (b.getD k bk0 = a.getD k bk0)) [j] = if (!decide (b.getD j bk0 = a.getD j bk0)) = true then [j] else [] from by simp only [List.filter_cons, List.filter_nil]]
      rw [show b.getD j bk0 = b[j] by simp [hlt], show a.getD j bk0 = a[j] by simp [hla]]
      by_cases e : b[j] = a[j] <;> simp [e]
    have hdl : (dfs a b j).length ≤ j := by
      unfold dfs
      refine Nat.le_trans (List.length_filter_le _ _) ?_
      simp
    generalize dfs a b j = D at hdl hstep
    repeat (refine Run.go rfl ?_)
    refine Run.drawS ⟨[(0, .ro 8 e1 (a.map bkA)), (1, .ro 8 e2 (b.map bkA)), (4, .bp (4, 0) 0), (7, .own 1 false (D.map fun k : Nat => i64 k)), (8, i64 j), (31, bo (!decide (b[j] = a[j])))], [((4, 0), .box [i16 0, i16 0])]⟩ (by kernel_rfl) (by decide +kernel) ?_ ?_
    · repeat (refine Quiet.go rfl ?_)
      refine Quiet.val rfl rfl (ValOk.idx (bkA b[j]) rfl rfl rfl rfl rfl (by omega) (by simp [hlt])) rfl ?_
      repeat (refine Quiet.go rfl ?_)
      refine Quiet.val rfl rfl (ValOk.idx (bkA a[j]) rfl rfl rfl rfl rfl (by omega) (by simp [hla])) rfl ?_
      repeat (refine Quiet.go rfl ?_)
      refine Quiet.val rfl rfl (ValOk.neK b[j] a[j] rfl bkK rfl rfl (hb.2 _ (by simp)) (ha.2 _ (by simp))) rfl ?_
      exact Quiet.nil (St.Le.mk' ⟨rfl, rfl, rfl, rfl, rfl, rfl, trivial⟩ ⟨rfl, trivial⟩)
    refine Run.cond rfl (fun h => ?_) (fun h => ?_)
    · have h : b[j] ≠ a[j] := by simpa using h
      rw [if_neg h] at hstep
      refine Run.unpack 7 rfl rfl ?_
      repeat (refine Run.go rfl ?_)
      refine Run.buildSlice [i64 j] rfl rfl rfl rfl rfl rfl rfl rfl rfl rfl rfl rfl rfl rfl ?_
      refine Run.appendo rfl rfl rfl rfl rfl rfl rfl rfl rfl rfl rfl rfl rfl rfl (by show (_ + 1) * 8 ≤ _; simp; omega) (by simp [capMax]; omega) (by decide) rfl ?_
      repeat (refine Run.go rfl ?_)
      refine Run.of (IH (j + 1) (by omega) (by omega)) ⟨rfl, rfl, rfl, ?_, ?_, trivial⟩ ⟨rfl, trivial⟩
      · rw [hstep]
        show AV.own _ _ _ = AV.own _ _ _
        simp
      · show i64 _ = _
        rw [wrap_i64 (by omega) (by omega)]
        rfl
    · have h : b[j] = a[j] := by simpa using h
      rw [if_pos h, List.append_nil] at hstep
      repeat (refine Run.go rfl ?_)
      refine Run.of (IH (j + 1) (by omega) (by omega)) ⟨rfl, rfl, rfl, ?_, ?_, trivial⟩ ⟨rfl, trivial⟩
      · rw [hstep]
        rfl
      · show i64 _ = _
        rw [wrap_i64 (by omega) (by omega)]
        rfl
  · have hj' : j = b.length := by simp at h; omega
    subst hj'
    have hR : osRes a b = (match dfs a b b.length with | [i, j] => (((i : Int), (j : Int)), 0) | _ => ((0, 0), 6)) := by rw [osRes, if_pos hsc]
    have hlim : ∀ k ∈ dfs a b b.length, k < b.length := fun k hk => by
      simp [dfs] at hk
      exact hk.1
    rw [hR] at hg
    generalize dfs a b b.length = D at hlim hg
    repeat (refine Run.go rfl ?_)
    refine Run.cond rfl (fun h => ?_) (fun h => ?_)
    · have h : D.length ≠ 2 := by
        intro e
        simp [e] at h
      repeat (refine Run.go rfl ?_)
      refine Run.val rfl rfl rfl (ValOk.build rfl rfl rfl rfl rfl) rfl ?_
      repeat (refine Run.go rfl ?_)
      refine Run.ret hg rfl ?_
      split
      · exact absurd rfl h
      · rfl
    have h : D.length = 2 := by
      simp at h
      omega
    obtain ⟨x, y, rfl⟩ : ∃ x y, D = [x, y] := by
      match D, h with
      | [x, y], _ => exact ⟨x, y, rfl⟩
    have hx := hlim x (by simp)
    have hy := hlim y (by simp)
    repeat (refine Run.go rfl ?_)
    obtain ⟨p, hp⟩ : ∃ p : Int, p = x := ⟨_, rfl⟩
    obtain ⟨q, hq⟩ : ∃ q : Int, q = y := ⟨_, rfl⟩
    simp only [List.map_cons, List.map_nil, ← hp, ← hq]
    refine Run.drawI (fun D => ⟨[(4, .bp (4, 0) 0), (7, .vec (7, 0) 0 2), (40, bif D 0 then .vec (7, 0) 0 2 else .top), (41, bif D 1 then .ep (7, 0) 0 0 else .top), (42, bif D 2 then i64 p else .top), (43, bif D 3 then i16 (IntKind.i16.wrap p) else .top), (44, bif D 4 then .vec (7, 0) 0 2 else .top), (45, bif D 5 then .ep (7, 0) 1 0 else .top), (46, bif D 6 then i64 q else .top), (47, bif D 7 then i16 (IntKind.i16.wrap q) else .top), (48, bif D 8 then mvA (IntKind.i16.wrap p) (IntKind.i16.wrap q) else .top), (5, bif D 10 then i64 0 else .top)], [((4, 0), (bif D 9 then Ob.box [i16 (IntKind.i16.wrap p), i16 (IntKind.i16.wrap q)] else Ob.box [i16 0, i16 0])), ((7, 0), Ob.vec 1 false [i64 p, i64 q])]⟩) (by decide +kernel) (by decide +kernel) ?_ ?_ fun k' => ⟨?_, ?_, ?_, ?_, ?_, ?_, ?_, ?_, ?_, ?_, ?_, trivial⟩
    · exact St.Le.mk' ⟨rfl, rfl, rfl, rfl, rfl, rfl, rfl, rfl, rfl, rfl, rfl, rfl, trivial⟩ ⟨rfl, rfl, trivial⟩
    rotate_left
    · intro D hid h0 hp hs rest hK
      obtain ⟨d1, d9, d10, -⟩ : AllD D false [1, 9, 10] := ideal_sub hs (by decide +kernel)
      simp only [d1, d9, d10, h0, cond_true, cond_false]
      refine Run.go rfl ?_
      refine Run.le ?_ hK
      simp only [d1, d9, d10, h0, Nat.reduceBEq, Bool.false_or, Bool.true_or, cond_true, cond_false]
      exact St.Le.mk' ⟨rfl, rfl, rfl, rfl, rfl, rfl, rfl, rfl, rfl, rfl, rfl, rfl, trivial⟩ ⟨rfl, rfl, trivial⟩
    · intro D hid h0 hp hs rest hK
      obtain ⟨d0, -⟩ : AllD D true [0] := ideal_sub hp (by decide +kernel)
      obtain ⟨d2, d9, d10, -⟩ : AllD D false [2, 9, 10] := ideal_sub hs (by decide +kernel)
      simp only [d0, d2, d9, d10, h0, cond_true, cond_false]
      refine Run.val rfl rfl rfl (ValOk.idxv rfl rfl rfl rfl rfl rfl (by omega) (by decide)) rfl ?_
      refine Run.le ?_ hK
      simp only [d0, d2, d9, d10, h0, Nat.reduceBEq, Bool.false_or, Bool.true_or, cond_true, cond_false]
      exact St.Le.mk' ⟨rfl, rfl, rfl, rfl, rfl, rfl, rfl, rfl, rfl, rfl, rfl, rfl, trivial⟩ ⟨rfl, rfl, trivial⟩
    · intro D hid h0 hp hs rest hK
      obtain ⟨d1, -⟩ : AllD D true [1] := ideal_sub hp (by decide +kernel)
      obtain ⟨d3, d9, d10, -⟩ : AllD D false [3, 9, 10] := ideal_sub hs (by decide +kernel)
      simp only [d1, d3, d9, d10, h0, cond_true, cond_false]
      refine Run.val rfl rfl rfl (ValOk.loadv (i64 p) rfl rfl rfl rfl rfl rfl) rfl ?_
      refine Run.le ?_ hK
      simp only [d1, d3, d9, d10, h0, Nat.reduceBEq, Bool.false_or, Bool.true_or, cond_true, cond_false]
      exact St.Le.mk' ⟨rfl, rfl, rfl, rfl, rfl, rfl, rfl, rfl, rfl, rfl, rfl, rfl, trivial⟩ ⟨rfl, rfl, trivial⟩
    · intro D hid h0 hp hs rest hK
      obtain ⟨d2, -⟩ : AllD D true [2] := ideal_sub hp (by decide +kernel)
      obtain ⟨d8, d9, d10, -⟩ : AllD D false [8, 9, 10] := ideal_sub hs (by decide +kernel)
      simp only [d2, d8, d9, d10, h0, cond_true, cond_false]
      refine Run.go rfl ?_
      refine Run.le ?_ hK
      simp only [d2, d8, d9, d10, h0, Nat.reduceBEq, Bool.false_or, Bool.true_or, cond_true, cond_false]
      exact St.Le.mk' ⟨rfl, rfl, rfl, rfl, rfl, rfl, rfl, rfl, rfl, rfl, rfl, rfl, trivial⟩ ⟨rfl, rfl, trivial⟩
    · intro D hid h0 hp hs rest hK
      obtain ⟨d5, d9, d10, -⟩ : AllD D false [5, 9, 10] := ideal_sub hs (by decide +kernel)
      simp only [d5, d9, d10, h0, cond_true, cond_false]
      refine Run.go rfl ?_
      refine Run.le ?_ hK
      simp only [d5, d9, d10, h0, Nat.reduceBEq, Bool.false_or, Bool.true_or, cond_true, cond_false]
      exact St.Le.mk' ⟨rfl, rfl, rfl, rfl, rfl, rfl, rfl, rfl, rfl, rfl, rfl, rfl, trivial⟩ ⟨rfl, rfl, trivial⟩
    · intro D hid h0 hp hs rest hK
      obtain ⟨d4, -⟩ : AllD D true [4] := ideal_sub hp (by decide +kernel)
      obtain ⟨d6, d9, d10, -⟩ : AllD D false [6, 9, 10] := ideal_sub hs (by decide +kernel)
      simp only [d4, d6, d9, d10, h0, cond_true, cond_false]
      refine Run.val rfl rfl rfl (ValOk.idxv rfl rfl rfl rfl rfl rfl (by omega) (by decide)) rfl ?_
      refine Run.le ?_ hK
      simp only [d4, d6, d9, d10, h0, Nat.reduceBEq, Bool.false_or, Bool.true_or, cond_true, cond_false]
      exact St.Le.mk' ⟨rfl, rfl, rfl, rfl, rfl, rfl, rfl, rfl, rfl, rfl, rfl, rfl, trivial⟩ ⟨rfl, rfl, trivial⟩
    · intro D hid h0 hp hs rest hK
      obtain ⟨d5, -⟩ : AllD D true [5] := ideal_sub hp (by decide +kernel)
      obtain ⟨d7, d9, d10, -⟩ : AllD D false [7, 9, 10] := ideal_sub hs (by decide +kernel)
      simp only [d5, d7, d9, d10, h0, cond_true, cond_false]
      refine Run.val rfl rfl rfl (ValOk.loadv (i64 q) rfl rfl rfl rfl rfl rfl) rfl ?_
      refine Run.le ?_ hK
      simp only [d5, d7, d9, d10, h0, Nat.reduceBEq, Bool.false_or, Bool.true_or, cond_true, cond_false]
      exact St.Le.mk' ⟨rfl, rfl, rfl, rfl, rfl, rfl, rfl, rfl, rfl, rfl, rfl, rfl, trivial⟩ ⟨rfl, rfl, trivial⟩
    · intro D hid h0 hp hs rest hK
      obtain ⟨d6, -⟩ : AllD D true [6] := ideal_sub hp (by decide +kernel)
      obtain ⟨d8, d9, d10, -⟩ : AllD D false [8, 9, 10] := ideal_sub hs (by decide +kernel)
      simp only [d6, d8, d9, d10, h0, cond_true, cond_false]
      refine Run.go rfl ?_
      refine Run.le ?_ hK
      simp only [d6, d8, d9, d10, h0, Nat.reduceBEq, Bool.false_or, Bool.true_or, cond_true, cond_false]
      exact St.Le.mk' ⟨rfl, rfl, rfl, rfl, rfl, rfl, rfl, rfl, rfl, rfl, rfl, rfl, trivial⟩ ⟨rfl, rfl, trivial⟩
    · intro D hid h0 hp hs rest hK
      obtain ⟨d3, d7, -⟩ : AllD D true [3, 7] := ideal_sub hp (by decide +kernel)
      obtain ⟨d9, d10, -⟩ : AllD D false [9, 10] := ideal_sub hs (by decide +kernel)
      simp only [d3, d7, d9, d10, h0, cond_true, cond_false]
      refine Run.val rfl rfl rfl (ValOk.build rfl rfl rfl rfl rfl) rfl ?_
      refine Run.le ?_ hK
      simp only [d3, d7, d9, d10, h0, Nat.reduceBEq, Bool.false_or, Bool.true_or, cond_true, cond_false]
      exact St.Le.mk' ⟨rfl, rfl, rfl, rfl, rfl, rfl, rfl, rfl, rfl, rfl, rfl, rfl, trivial⟩ ⟨rfl, rfl, trivial⟩
    · intro D hid h0 hp hs rest hK
      obtain ⟨d0, d1, d2, d3, d4, d5, d6, d7, d8, -⟩ : AllD D true [0, 1, 2, 3, 4, 5, 6, 7, 8] := ideal_sub hp (by decide +kernel)
      obtain ⟨d10, -⟩ : AllD D false [10] := ideal_sub hs (by decide +kernel)
      simp only [d0, d1, d2, d3, d4, d5, d6, d7, d8, d10, h0, cond_true, cond_false]
      refine Run.go rfl ?_
      refine Run.le ?_ hK
      simp only [d0, d1, d2, d3, d4, d5, d6, d7, d8, d10, h0, Nat.reduceBEq, Bool.false_or, Bool.true_or, cond_true, cond_false]
      exact St.Le.mk' ⟨rfl, rfl, rfl, rfl, rfl, rfl, rfl, rfl, rfl, rfl, rfl, rfl, trivial⟩ ⟨rfl, rfl, trivial⟩
    · intro D hid h0 hp hs rest hK
      obtain ⟨d0, d1, d2, d3, d4, d5, d6, d7, d8, d9, -⟩ : AllD D true [0, 1, 2, 3, 4, 5, 6, 7, 8, 9] := ideal_sub hp (by decide +kernel)
      simp only [d0, d1, d2, d3, d4, d5, d6, d7, d8, d9, h0, cond_true, cond_false]
      refine Run.go rfl ?_
      refine Run.le ?_ hK
      simp only [d0, d1, d2, d3, d4, d5, d6, d7, d8, d9, h0, Nat.reduceBEq, Bool.false_or, Bool.true_or, cond_true, cond_false]
      exact St.Le.mk' ⟨rfl, rfl, rfl, rfl, rfl, rfl, rfl, rfl, rfl, rfl, rfl, rfl, trivial⟩ ⟨rfl, rfl, trivial⟩
    repeat (refine Run.go rfl ?_)
    refine Run.ret hg rfl ?_
    show AV.tup [AV.agg [i16 _, i16 _], _] = _
    rw [wrap_i16 (by omega) (by omega), wrap_i16 (by omega) (by omega), hp, hq]
    rfl
end Go.Proofs.Ytahdgoddpkmhbaa
