/- Parts of a proof, in one text: D21, D22, D23, D24, D25, D26, D27, D28, D29, D30, D31, D32, D33, D34. -/
import Derived.Test.YtlccbfdeonmljaaMD
import Derived.Test.YtlccbfdeonmljaaMB
import Derived.Test.YtlccbfdeonmljaaMF
set_option linter.unusedVariables false

/- Contracts of the program's functions, and what follows from them. -/
set_option maxRecDepth 100000
namespace Go.Proofs.Ytlccbfdeonmljaa
open Go Go.Av

/-! Books that are overdue. -/

def overRes (d : Dk) : List Int × Int := if vD d then (idxs (over d.day) d.cs, 0) else ([], 1)
/-- Books whose copies are as a method value tells. -/
theorem whichm_ct (d d' : Dk) (e1 e2 e3 e4 : Bool) (f : Nat) (p : Cp → Bool) (hd : dkOk d) (hf : ∀ c ∈ d.cs, Ct Try.prog f [dkR e3 e4 d', cpR e2 c] (bo (p c)) []) :
    Ct Try.prog 45 [dkR e1 e2 d, .mv f [dkR e3 e4 d']] (.own 1 false ((idxs p d.cs).map i64)) [] := by
  obtain ⟨day, l⟩ := d
  obtain ⟨hb, hq⟩ := hd
  simp only at hb hq hf
  refine Ct.intro X45 X45_ok rfl rfl rfl rfl fun g hg => ?_
  repeat (refine Run.go rfl ?_)
  refine Run.nilSlot 5 1 false rfl ?_
  refine Run.loop (fun j : Nat => ⟨[(1, .mv f [dkR e3 e4 d']), (5, .own 1 false ((idxs p (l.take j)).map i64)), (9, .ro 5 e1 (l.map (cpR e2))), (10, i64 l.length), (11, i64 j)], []⟩) (fun j => j ≤ l.length) (fun j => l.length - j) 0 (by omega) ?_ ?_
  · refine St.Le.mk' ⟨rfl, rfl, rfl, ?_, rfl, trivial⟩ trivial
    show i64 _ = _
    simp
  · intro j hj IH
    repeat (refine Run.go rfl ?_)
    refine Run.cond rfl (fun h => ?_) (fun h => ?_)
    · have hlt : j < l.length := by simpa using h
      repeat (refine Run.go rfl ?_)
      refine Run.val rfl rfl rfl (ValOk.idx (cpR e2 l[j]) rfl rfl rfl rfl rfl (by omega) (by simp [hlt])) rfl ?_
      repeat (refine Run.go rfl ?_)
      refine Run.callm rfl rfl rfl rfl rfl rfl (hf l[j] (by simp)) rfl rfl rfl ?_
      repeat (refine Run.go rfl ?_)
      have hil := idxs_len p (l.take j)
      rw [List.length_take] at hil
      refine Run.cond rfl (fun h => ?_) (fun h => ?_)
      · repeat (refine Run.go rfl ?_)
        refine Run.buildSlice [i64 j] rfl rfl rfl rfl rfl rfl rfl rfl rfl rfl rfl rfl rfl rfl ?_
        refine Run.appendo rfl rfl rfl rfl rfl rfl rfl rfl rfl rfl rfl rfl rfl rfl (by show (_ + 1) * 8 ≤ _; simp; omega) (by simp [capMax]; omega) (by decide) rfl ?_
        repeat (refine Run.go rfl ?_)
        refine Run.of (IH (j + 1) (by omega) (by omega)) ⟨rfl, ?_, rfl, rfl, ?_, trivial⟩ trivial
        · rw [idxs_step hlt, if_pos h]
          show AV.own _ _ _ = AV.own _ _ _
          simp
        · show i64 _ = _
          rw [wrap_i64 (by omega) (by omega)]
          rfl
      · repeat (refine Run.go rfl ?_)
        refine Run.of (IH (j + 1) (by omega) (by omega)) ⟨rfl, ?_, rfl, rfl, ?_, trivial⟩ trivial
        · rw [idxs_step hlt, if_neg (by simp [h])]
          rfl
        · show i64 _ = _
          rw [wrap_i64 (by omega) (by omega)]
          rfl
    · have hj' : j = l.length := by simp at h; omega
      subst hj'
      rw [List.take_length]
      repeat (refine Run.go rfl ?_)
      refine Run.pack 4 rfl rfl rfl ?_
      exact Run.ret hg rfl rfl

noncomputable def X14 : Fx := ⟨Try.prog, tys, 14, Try.f14, [0]⟩
theorem X14_ok : X14.Ok := ⟨Try.func14, tys_ok⟩
theorem implOverdueBooks_ct (d : Dk) (e1 e2 : Bool) (hd : dkOk d) (hr : dkRng d) : Ct Try.prog 14 [dkR e1 e2 d] (lsR (overRes d)) [] := by
  refine Ct.intro X14 X14_ok rfl rfl rfl rfl fun g hg => ?_
  repeat (refine Run.go rfl ?_)
  refine Run.cs rfl (implValidDesk_ct d e1 e2 hd hr) rfl rfl ?_
  repeat (refine Run.go rfl ?_)
  refine Run.cond rfl (fun h => ?_) (fun h => ?_)
  · have h : vD d = false := by simpa using h
    repeat (refine Run.go rfl ?_)
    refine Run.nilSlot 2 1 false rfl ?_
    refine Run.ret hg rfl ?_
    rw [overRes, h]
    rfl
  have hv : vD d = true := by simpa using h
  repeat (refine Run.go rfl ?_)
  refine Run.cs rfl (whichm_ct d d e1 e2 e1 e2 _ (over d.day) hd fun c _ => isOverdue_ct d c e1 e2 e2) rfl (rf64 _) ?_
  repeat (refine Run.go rfl ?_)
  refine Run.ret hg rfl ?_
  rw [overRes, hv]
  rfl
end Go.Proofs.Ytlccbfdeonmljaa

/- Contracts of the program's functions, and what follows from them. -/
set_option maxRecDepth 100000
namespace Go.Proofs.Ytlccbfdeonmljaa
open Go Go.Av

/-! Books that a person waits for, or that are held for the person. -/

def askP (who : Int) (c : Cp) : Bool := (decide (c.st = 2) && decide (c.who = who)) || c.q.any (fun x => x == who)
def askRes (d : Dk) (who : Int) : List Int × Int := if vD d then (if inr who 0 49 then (idxs (askP who) d.cs, 0) else ([], 2)) else ([], 1)
noncomputable def X51 : Fx := ⟨Try.prog, tys, 51, Try.f51, [0, 1]⟩
theorem X51_ok : X51.Ok := ⟨Try.func51, tys_ok⟩
theorem contains8_ct (l : List Int) (ex : Bool) (n : Int) (hlen : l.length ≤ 1048576) : Ct Try.prog 51 [.ro 1 ex (l.map i8), i8 n] (bo (l.any fun x => x == n)) [] := by
  refine Ct.intro X51 X51_ok rfl (by kernel_rfl) rfl rfl fun g hg => ?_
  repeat (refine Run.go rfl ?_)
  refine Run.cs rfl (index8_ct l ex n hlen) rfl rfl ?_
  repeat (refine Run.go rfl ?_)
  refine Run.ret hg rfl ?_
  show bo (decide (0 ≤ fi _ _)) = _
  rw [fi_nonneg]

noncomputable def X49 : Fx := ⟨Try.prog, tys, 49, Try.f49, [0, 1]⟩
theorem X49_ok : X49.Ok := ⟨Try.func49, tys_ok⟩
theorem askedBy1_ct (c : Cp) (ex : Bool) (who : Int) (hw : inr who 0 49 = true) (hlen : c.q.length ≤ 1048576) : Ct Try.prog 49 [cpR ex c, .rp [i64 who] 0] (bo (askP who c)) [] := by
  have ew := inr_wrap hw
  refine Ct.intro X49 X49_ok rfl rfl rfl rfl fun g hg => ?_
  repeat (refine Run.go rfl ?_)
  rw [ew]
  refine Run.cs rfl (isHeld_ct c ex who) rfl rfl ?_
  repeat (refine Run.go rfl ?_)
  refine Run.bool 8 rfl (fun h => ?_) (fun h => ?_)
  · have h : (decide (c.st = 2) && decide (c.who = who)) = true := h
    repeat (refine Run.go rfl ?_)
    refine Run.ret hg rfl ?_
    rw [askP, h, Bool.true_or]
    rfl
  · have h : (decide (c.st = 2) && decide (c.who = who)) = false := h
    repeat (refine Run.go rfl ?_)
    rw [ew]
    refine Run.cs rfl (contains8_ct c.q ex who hlen) rfl rfl ?_
    repeat (refine Run.go rfl ?_)
    refine Run.ret hg rfl ?_
    rw [askP, h, Bool.false_or]
    rfl

noncomputable def X16 : Fx := ⟨Try.prog, tys, 16, Try.f16, [0, 1]⟩
theorem X16_ok : X16.Ok := ⟨Try.func16, tys_ok⟩
theorem implAskedBy_ct (d : Dk) (e1 e2 : Bool) (who : Int) (hd : dkOk d) (hr : dkRng d) : Ct Try.prog 16 [dkR e1 e2 d, i64 who] (lsR (askRes d who)) [] := by
  refine Ct.intro X16 X16_ok rfl rfl rfl rfl fun g hg => ?_
  repeat (refine Run.go rfl ?_)
  refine Run.cs rfl (personCode_ct d e1 e2 who hd hr) rfl rfl ?_
  repeat (refine Run.go rfl ?_)
  refine Run.cond rfl (fun h => ?_) (fun h => ?_)
  · repeat (refine Run.go rfl ?_)
    refine Run.nilSlot 4 1 false rfl ?_
    refine Run.ret hg rfl ?_
    have : askRes d who = ([], pCode d who) := by
      unfold pCode at h
      unfold askRes pCode
      split
      · rename_i hv
        split
        · rename_i hw
          simp [hv, hw] at h
        · rfl
      · rfl
    rw [this]
    rfl
  have h : pCode d who = 0 := by simpa using h
  obtain ⟨hv, hw⟩ : vD d = true ∧ inr who 0 49 = true := by
    unfold pCode at h
    split at h
    · rename_i hv
      split at h
      · rename_i hw
        exact ⟨hv, hw⟩
      · cases h
    · cases h
  repeat (refine Run.go rfl ?_)
  refine Run.cs rfl (which_ct d e1 e2 _ [i64 who] 0 (askP who) hd fun c hc => askedBy1_ct c e2 who hw (hd.2 c hc)) rfl (rf64 _) ?_
  repeat (refine Run.go rfl ?_)
  refine Run.ret hg rfl ?_
  rw [askRes, hv, hw]
  rfl

noncomputable def X17 : Fx := ⟨Try.prog, tys, 17, Try.f17, [0, 1]⟩
theorem X17_ok : X17.Ok := ⟨Try.func17, tys_ok⟩
theorem specAskedBy_ct (d : Dk) (e1 e2 : Bool) (who : Int) (hd : dkOk d) (hr : dkRng d) : Ct Try.prog 17 [dkR e1 e2 d, i64 who] (lsR (askRes d who)) [] := by
  refine Ct.intro X17 X17_ok rfl rfl rfl rfl fun g hg => ?_
  repeat (refine Run.go rfl ?_)
  refine Run.cs rfl (l06Ok_ct d e1 e2 hd hr) rfl rfl ?_
  repeat (refine Run.go rfl ?_)
  refine Run.cond rfl (fun h => ?_) (fun h => ?_)
  · have h : vD d = false := by simpa using h
    repeat (refine Run.go rfl ?_)
    refine Run.buildSlice [] rfl rfl rfl rfl rfl rfl rfl rfl rfl rfl rfl rfl rfl rfl ?_
    repeat (refine Run.go rfl ?_)
    refine Run.loosen0 4 rfl ?_
    refine Run.ret hg rfl ?_
    rw [askRes, h]
    rfl
  have hv : vD d = true := by simpa using h
  have hb := vD_len hv
  repeat (refine Run.go rfl ?_)
  refine Run.cs rfl (l06Person_ct who) rfl rfl ?_
  repeat (refine Run.go rfl ?_)
  refine Run.cond rfl (fun h => ?_) (fun h => ?_)
  · have h : inr who 0 49 = false := by simpa using h
    repeat (refine Run.go rfl ?_)
    refine Run.buildSlice [] rfl rfl rfl rfl rfl rfl rfl rfl rfl rfl rfl rfl rfl rfl ?_
    repeat (refine Run.go rfl ?_)
    refine Run.loosen0 4 rfl ?_
    refine Run.ret hg rfl ?_
    rw [askRes, hv, h]
    rfl
  have hw : inr who 0 49 = true := by simpa using h
  repeat (refine Run.go rfl ?_)
  refine Run.buildSlice [] rfl rfl rfl rfl rfl rfl rfl rfl rfl rfl rfl rfl rfl rfl ?_
  repeat (refine Run.go rfl ?_)
  refine Run.loosen0 6 rfl ?_
  refine Run.loop (fun j : Nat => ⟨[(1, i64 who), (2, .bp (2, 0) 0), (6, .own 1 false ((idxs (askP who) (d.cs.take j)).map i64)), (7, i64 j)], [((2, 0), .box (dkR e1 e2 d).cells)]⟩) (fun j => j ≤ d.cs.length) (fun j => d.cs.length - j) 0 (by omega) ?_ ?_
  · exact St.Le.mk' ⟨rfl, rfl, rfl, rfl, trivial⟩ ⟨rfl, trivial⟩
  intro j hj IH
  repeat (refine Run.go rfl ?_)
  refine Run.cond rfl (fun h => ?_) (fun h => ?_)
  · have hlt : j < d.cs.length := by simpa using h
    have hil := idxs_len (askP who) (d.cs.take j)
    rw [List.length_take] at hil
    have ew : IntKind.i64.wrap d.cs[j].who = d.cs[j].who := w64' (hr.2 d.cs[j] (by simp)).2.1
    repeat (refine Run.go rfl ?_)
    refine Run.val rfl rfl rfl (ValOk.idx (cpR e2 d.cs[j]) rfl rfl rfl rfl rfl (by omega) (by simp [hlt])) rfl ?_
    iterate 3 (refine Run.go rfl ?_)
    refine Run.region ⟨[(1, i64 who), (2, .bp (2, 0) 0), (6, .own 1 false ((idxs (askP who) (d.cs.take j)).map i64)), (7, i64 j), (50, bo (askP who d.cs[j]))], [((2, 0), .box (dkR e1 e2 d).cells)]⟩ ?_ fun _ hN => ?_
    rotate_left
    · repeat (refine Run.go rfl ?_)
      have fin : ∀ b : Bool, (decide (d.cs[j].st = 2) && decide (d.cs[j].who = who)) = b → True := fun _ _ => trivial
      refine Run.bool 33 rfl (fun hA => ?_) (fun hA => ?_)
      · have hA : d.cs[j].st = 2 := by simpa using hA
        repeat (refine Run.go rfl ?_)
        rw [ew]
        refine Run.bool 42 rfl (fun hB => ?_) (fun hB => ?_)
        · have hB : d.cs[j].who = who := by simpa using hB
          repeat (refine Run.go rfl ?_)
          refine Run.of hN ⟨rfl, rfl, rfl, rfl, ?_, trivial⟩ ⟨rfl, trivial⟩
          show bo true = bo _
          simp [askP, hA, hB]
        · have hB : d.cs[j].who ≠ who := by simpa using hB
          repeat (refine Run.go rfl ?_)
          refine Run.cs rfl (l06Place_ct d.cs[j].q e2 who (hd.2 _ (by simp)) (hr.2 d.cs[j] (by simp)).2.2.2.2) rfl rfl ?_
          repeat (refine Run.go rfl ?_)
          refine Run.of hN ⟨rfl, rfl, rfl, rfl, ?_, trivial⟩ ⟨rfl, trivial⟩
          show bo (decide (0 ≤ fi _ _)) = bo _
          rw [fi_nonneg]
          simp [askP, hB]
      · have hA : d.cs[j].st ≠ 2 := by simpa using hA
        repeat (refine Run.go rfl ?_)
        refine Run.bool 42 rfl (fun hB => by simp at hB) (fun hB => ?_)
        repeat (refine Run.go rfl ?_)
        refine Run.cs rfl (l06Place_ct d.cs[j].q e2 who (hd.2 _ (by simp)) (hr.2 d.cs[j] (by simp)).2.2.2.2) rfl rfl ?_
        repeat (refine Run.go rfl ?_)
        refine Run.of hN ⟨rfl, rfl, rfl, rfl, ?_, trivial⟩ ⟨rfl, trivial⟩
        show bo (decide (0 ≤ fi _ _)) = bo _
        rw [fi_nonneg]
        simp [askP, hA]
    refine Run.cond rfl (fun hA => ?_) (fun hA => ?_)
    · have hA : askP who d.cs[j] = true := hA
      repeat (refine Run.go rfl ?_)
      refine Run.buildSlice [i64 j] rfl rfl rfl rfl rfl rfl rfl rfl rfl rfl rfl rfl rfl rfl ?_
      refine Run.appendo rfl rfl rfl rfl rfl rfl rfl rfl rfl rfl rfl rfl rfl rfl (by show (_ + 1) * 8 ≤ _; simp; omega) (by simp [capMax]; omega) (by decide) rfl ?_
      repeat (refine Run.go rfl ?_)
      refine Run.of (IH (j + 1) (by omega) (by omega)) ⟨rfl, rfl, ?_, ?_, trivial⟩ ⟨rfl, trivial⟩
      · rw [idxs_step hlt, if_pos hA]
        show AV.own _ _ _ = AV.own _ _ _
        simp
      · show i64 _ = _
        rw [wrap_i64 (by omega) (by omega)]
        rfl
    · have hA : askP who d.cs[j] = false := hA
      repeat (refine Run.go rfl ?_)
      refine Run.of (IH (j + 1) (by omega) (by omega)) ⟨rfl, rfl, ?_, ?_, trivial⟩ ⟨rfl, trivial⟩
      · rw [idxs_step hlt, if_neg (by simp [hA])]
        rfl
      · show i64 _ = _
        rw [wrap_i64 (by omega) (by omega)]
        rfl
  · have hj' : j = d.cs.length := by simp at h; omega
    subst hj'
    rw [List.take_length]
    repeat (refine Run.go rfl ?_)
    refine Run.pack 4 rfl rfl rfl ?_
    refine Run.ret hg rfl ?_
    rw [askRes, hv, hw]
    rfl
end Go.Proofs.Ytlccbfdeonmljaa

/- Contracts of the program's functions, and what follows from them. -/
set_option maxRecDepth 100000
namespace Go.Proofs.Ytlccbfdeonmljaa
open Go Go.Av

/-! Desks that change: copies of desks, copies that get free. -/

def cpQ (e : Bool) (c : Cp) : AV := .agg [i8 c.st, i8 c.who, i16 c.due, i8 c.ren, .own 1 e (c.q.map i8)]
def dkQ (e1 e2 : Bool) (d : Dk) : AV := .agg [i16 d.day, .own 5 e1 (d.cs.map (cpQ e2))]
theorem cpQ_rf (e : Bool) (c : Cp) : (cpQ e c).rf = true := by simp only [cpQ, AV.rf, AV.rfL, rf8]; rfl
theorem cpQ_frz (e : Bool) (c : Cp) : (cpQ e c).frz = cpR e c := by simp only [cpQ, cpR, AV.frz, AV.frzL, frz8]
theorem frzCQ (e : Bool) (l : List Cp) : AV.frzL (l.map (cpQ e)) = l.map (cpR e) := frzL_map (cpQ_frz e) l
theorem rfCQ (e : Bool) (l : List Cp) : AV.rfL (l.map (cpQ e)) = true := rfL_map (cpQ_rf e) l
theorem dkQ_rf (e1 e2 : Bool) (d : Dk) : (dkQ e1 e2 d).rf = true := by simp only [dkQ, AV.rf, AV.rfL, rfCQ]; rfl
theorem one_i8 (a : List Int) : oneC (a.map i8) = true := by
  simp only [oneC, List.all_map, List.all_eq_true]
  intro x _
  rfl

noncomputable def X83 : Fx := ⟨Try.prog, tys, 83, Try.f83, [0]⟩
theorem X83_ok : X83.Ok := ⟨Try.func83, tys_ok⟩
theorem clone8_ct (a : List Int) (e1 : Bool) (ha : a.length ≤ 1048576) : Ct Try.prog 83 [.ro 1 e1 (a.map i8)] (.own 1 false (a.map i8)) [] := by
  refine Ct.intro X83 X83_ok rfl (by kernel_rfl) rfl rfl fun g hg => ?_
  repeat (refine Run.go rfl ?_)
  refine Run.roNil rfl rfl rfl rfl rfl rfl rfl rfl fun b hb => ?_
  repeat (refine Run.go rfl ?_)
  refine Run.cond rfl (fun h => ?_) (fun h => ?_)
  · have hn := hb h
    repeat (refine Run.go rfl ?_)
    refine Run.nilSlot 2 1 false rfl ?_
    refine Run.ret hg rfl ?_
    rw [hn]
    rfl
  · repeat (refine Run.go rfl ?_)
    refine Run.buildSlice [] rfl rfl rfl rfl rfl rfl rfl rfl rfl rfl rfl rfl rfl rfl ?_
    refine Run.unpack 5 rfl rfl ?_
    repeat (refine Run.go rfl ?_)
    refine Run.appendr rfl rfl rfl rfl rfl rfl rfl rfl rfl rfl rfl rfl rfl (one_i8 a) (by show (_ + _) * 1 ≤ _; simp; omega) (by simp [capMax]; omega) rfl ?_
    repeat (refine Run.go rfl ?_)
    exact Run.ret hg rfl rfl

noncomputable def X102 : Fx := ⟨Try.prog, tys, 102, Try.f102, [0]⟩
theorem X102_ok : X102.Ok := ⟨Try.func102, tys_ok⟩
theorem dkOwn1_ct (c : Cp) (ex : Bool) (hq : c.q.length ≤ 1048576) : Ct Try.prog 102 [cpR ex c] (cpQ false c) [] := by
  refine Ct.intro X102 X102_ok rfl (by kernel_rfl) rfl rfl fun g hg => ?_
  repeat (refine Run.go rfl ?_)
  refine Run.cs rfl (clone8_ct c.q ex hq) rfl (rf8 _) ?_
  repeat (refine Run.go rfl ?_)
  refine Run.unpack 5 rfl rfl ?_
  repeat (refine Run.go rfl ?_)
  refine Run.packBox (2, 0) 4 rfl rfl rfl rfl ?_
  exact Run.ret hg rfl rfl

noncomputable def X101 : Fx := ⟨Try.prog, tys, 101, Try.f101, [1]⟩
theorem X101_ok : X101.Ok := ⟨Try.func101, tys_ok⟩
theorem eachCC_ct (L : List Cp) (ex e2 : Bool) (f : Nat) (hlen : L.length ≤ 1048576) (hf : ∀ x ∈ L, Ct Try.prog f [cpR e2 x] (cpQ false x) []) : Ct Try.prog 101 [.ro 5 ex (L.map (cpR e2)), .fn f []] (.own 5 false (L.map (cpQ false))) [] := by
  refine Ct.intro X101 X101_ok rfl (by kernel_rfl) rfl rfl fun g hg => ?_
  repeat (refine Run.go rfl ?_)
  refine Run.nilSlot 5 5 false rfl ?_
  refine Run.loop (fun j : Nat => ⟨[(1, .fn f []), (5, .own 5 false ((L.take j).map (cpQ false))), (8, .ro 5 ex (L.map (cpR e2))), (9, i64 L.length), (10, i64 j)], []⟩) (fun j => j ≤ L.length) (fun j => L.length - j) 0 (by omega) ?_ ?_
  · refine St.Le.mk' ⟨rfl, rfl, rfl, ?_, rfl, trivial⟩ trivial
    show i64 (L.map (cpR e2)).length = _
    simp
  intro j hj IH
  repeat (refine Run.go rfl ?_)
  refine Run.cond rfl (fun h => ?_) (fun h => ?_)
  · have hlt : j < L.length := by simpa using h
    have hDl : ((L.take j).map (cpQ false)).length = j := by rw [List.length_map, List.length_take]; omega
    have hst : (L.take (j + 1)).map (cpQ false) = (L.take j).map (cpQ false) ++ [cpQ false L[j]] := by
      rw [List.take_succ_eq_append_getElem hlt, List.map_append]
      rfl
    generalize (L.take j).map (cpQ false) = D0 at hDl hst
    have hlast : ∀ y : AV, (D0 ++ [y])[j]? = some y := fun y => by rw [← hDl]; exact List.getElem?_concat_length
    have hset : ∀ y z : AV, (D0 ++ [y]).set j z = D0 ++ [z] := fun y z => by rw [← hDl, List.set_append_right _ _ (Nat.le_refl _), Nat.sub_self]; rfl
    have hcj := hf L[j] (by simp)
    repeat (refine Run.go rfl ?_)
    refine Run.val rfl rfl rfl (ValOk.idx (cpR e2 L[j]) rfl rfl rfl rfl rfl (by omega) (by simp [hlt])) rfl ?_
    repeat (refine Run.go rfl ?_)
    refine Run.cs rfl hcj rfl (cpQ_rf _ _) ?_
    refine Run.openAgg 17 4 (17, 4) (17, 5) rfl rfl rfl (by decide) rfl fun A n => ?_
    refine Run.buildSlice [.agg [i8 L[j].st, i8 L[j].who, i16 L[j].due, i8 L[j].ren, .lit (.slice A (L[j].q.map i8).length n)]] rfl rfl rfl rfl rfl rfl rfl rfl rfl rfl rfl rfl rfl rfl ?_
    refine Run.appendo rfl rfl rfl rfl rfl rfl rfl rfl rfl rfl rfl rfl rfl rfl (by rw [hDl]; show (_ + 1) * 32 ≤ _; omega) (by rw [hDl]; show _ + 1 ≤ 9223372036854775807; omega) (by decide) rfl ?_
    refine Run.unpack 19 rfl rfl ?_
    refine Run.recell (19, 0) (17, 4) (17, 5) j 4 (.agg [i8 L[j].st, i8 L[j].who, i16 L[j].due, i8 L[j].ren, .lit (.slice A (L[j].q.map i8).length n)]) rfl (hlast _) rfl rfl rfl (fun _ => rfl) (by decide) ?_
    rw [hset]
    repeat (refine Run.go rfl ?_)
    refine Run.pack 5 rfl rfl ?_ ?_
    · rw [List.length_append, List.length_append]; rfl
    refine Run.of (IH (j + 1) (by omega) (by omega)) ⟨rfl, ?_, rfl, rfl, ?_, trivial⟩ trivial
    · show AV.own 5 false _ = AV.own 5 false _
      rw [hst]
      rfl
    · show i64 _ = _
      rw [wrap_i64 (by omega) (by omega)]
      rfl
  · have hj' : j = L.length := by simp at h; omega
    subst hj'
    repeat (refine Run.go rfl ?_)
    refine Run.pack 4 rfl rfl rfl ?_
    refine Run.ret hg rfl ?_
    rw [List.take_length]
    rfl

noncomputable def X82 : Fx := ⟨Try.prog, tys, 82, Try.f82, [0]⟩
theorem X82_ok : X82.Ok := ⟨Try.func82, tys_ok⟩
theorem dkOwn_ct (d : Dk) (e1 e2 : Bool) (hd : dkOk d) : Ct Try.prog 82 [dkR e1 e2 d] (dkQ false false d) [] := by
  refine Ct.intro X82 X82_ok rfl (by kernel_rfl) rfl rfl fun g hg => ?_
  repeat (refine Run.go rfl ?_)
  refine Run.drawn [[0, 1, 2, 3, 4, 5, 6], [0, 2, 1, 3, 4, 5, 6], [0, 2, 3, 1, 4, 5, 6], [0, 2, 3, 4, 1, 5, 6], [2, 0, 1, 3, 4, 5, 6], [2, 0, 3, 1, 4, 5, 6], [2, 0, 3, 4, 1, 5, 6], [2, 3, 0, 1, 4, 5, 6], [2, 3, 0, 4, 1, 5, 6], [2, 3, 4, 0, 1, 5, 6]]
    ⟨[(2, .bp (2, 0) 0)], [((2, 0), .box [i16 d.day, .own 5 false (d.cs.map (cpQ false))])]⟩ (by decide +kernel) (by kernel_rfl) ?_ fun _ hN => ⟨?_, ?_, ?_, ?_, ?_, ?_, ?_, ?_, ?_, ?_, trivial⟩
  rotate_left
  iterate 10
    · repeat (refine Run.go rfl ?_)
      refine Run.cs rfl (eachCC_ct d.cs e1 e2 102 hd.1 fun x hx => dkOwn1_ct x e2 (hd.2 x hx)) rfl (rfCQ _ _) ?_
      refine Run.unpack 7 rfl rfl ?_
      repeat (refine Run.go rfl ?_)
      refine Run.val rfl rfl rfl (ValOk.build rfl rfl rfl rfl rfl) rfl ?_
      repeat (refine Run.go rfl ?_)
      refine Run.packBox (2, 0) 1 rfl rfl rfl rfl ?_
      exact Run.of hN ⟨rfl, trivial⟩ ⟨rfl, trivial⟩
  exact Run.ret hg rfl rfl

/-- A copy that gets free. -/
def freeC (c : Cp) (day : Int) : Cp := match c.q with | [] => cp0 | q0 :: qd => ⟨2, q0, day + 7, 0, qd⟩

noncomputable def X98 : Fx := ⟨Try.prog, tys, 98, Try.f98, [1]⟩
theorem X98_ok : X98.Ok := ⟨Try.func98, tys_ok⟩
theorem freed_ct (c : Cp) (ex : Bool) (day : Int) (hq : c.q.length ≤ 1048576) (hd : 0 ≤ day ∧ day ≤ 10001) : Ct Try.prog 98 [cpR ex c, i16 day] (cpQ false (freeC c day)) [] := by
  have hcl : (c.q.map i8).length = c.q.length := List.length_map ..
  have hw : IntKind.i16.wrap (day + 7) = day + 7 := wrap_i16 (by omega) (by omega)
  refine Ct.intro X98 X98_ok rfl (by kernel_rfl) rfl rfl fun g hg => ?_
  repeat (refine Run.go rfl ?_)
  refine Run.cond rfl (fun h => ?_) (fun h => ?_)
  · have h : c.q = [] := by simpa using h
    repeat (refine Run.go rfl ?_)
    refine Run.val rfl rfl rfl (ValOk.build rfl rfl rfl rfl rfl) rfl ?_
    repeat (refine Run.go rfl ?_)
    refine Run.nilBox (4, 0) 4 1 false rfl rfl ?_
    refine Run.ret hg rfl ?_
    rw [freeC, h]
    rfl
  have h : c.q ≠ [] := by simpa using h
  obtain ⟨q0, qd, he⟩ : ∃ q0 qd, c.q = q0 :: qd := by
    cases hh : c.q with
    | nil => exact absurd hh h
    | cons a b => exact ⟨a, b, rfl⟩
  have hq0 : (c.q.map i8)[(0 : Int).toNat]? = some (i8 q0) := by rw [he]; rfl
  have hqd : qd = c.q.drop 1 := by rw [he]; rfl
  have hdl : qd.length ≤ 1048576 := by rw [hqd, List.length_drop]; omega
  have hpos : 1 ≤ c.q.length := by rw [he]; simp
  have hfr : freeC c day = ⟨2, q0, day + 7, 0, qd⟩ := by rw [freeC, he]
  rw [hfr] at hg
  repeat (refine Run.go rfl ?_)
  refine Run.drawI (fun D => ⟨[(2, .bp (2, 0) 0), (4, .bp (4, 0) 0), (1, i16 day), (10, bif D 0 then .bp (2, 0) 4 else .top), (11, bif D 1 then .ro 1 ex (c.q.map i8) else .top), (12, bif D 2 then .rp (i8 q0).cells 0 else .top), (13, bif D 3 then i8 q0 else .top), (14, bif D 4 then i16 day else .top), (15, bif D 5 then i16 (day + 7) else .top), (16, bif D 6 then .bp (2, 0) 4 else .top), (17, bif D 7 then .ro 1 ex (c.q.map i8) else .top), (18, bif D 8 then .ro 1 false (qd.map i8) else .top), (19, bif D 10 then .top else bif D 9 then .own 1 false (qd.map i8) else .top), (20, bif D 10 then .agg [i8 2, i8 q0, i16 (day + 7), i8 0, .vec (19, 0) 0 (qd.map i8).length] else .top)], [((2, 0), Ob.box (cpR ex c).cells), ((4, 0), (bif D 11 then Ob.box [i8 2, i8 q0, i16 (day + 7), i8 0, .vec (19, 0) 0 (qd.map i8).length] else Ob.box [i8 0, i8 0, i16 0, i8 0, .lit (.slice none 0 0)])), ((19, 0), (bif D 10 then Ob.vec 1 false (qd.map i8) else Ob.gone))]⟩) (by decide +kernel) (by decide +kernel) ?_ ?_ fun k' => ⟨?_, ?_, ?_, ?_, ?_, ?_, ?_, ?_, ?_, ?_, ?_, ?_, trivial⟩
  · exact St.Le.mk' ⟨rfl, rfl, rfl, rfl, rfl, rfl, rfl, rfl, rfl, rfl, rfl, rfl, rfl, rfl, trivial⟩ ⟨rfl, rfl, rfl, trivial⟩
  rotate_left
  · intro D hid h0 hp hs rest hK
    obtain ⟨d1, -⟩ : AllD D false [1] := ideal_sub hs (by decide +kernel)
    simp only [d1, h0, cond_true, cond_false]
    refine Run.go rfl ?_
    refine Run.le ?_ hK
    simp only [d1, h0, Nat.reduceBEq, Bool.false_or, Bool.true_or, cond_true, cond_false]
    exact St.Le.mk' ⟨rfl, rfl, rfl, rfl, rfl, rfl, rfl, rfl, rfl, rfl, rfl, rfl, rfl, rfl, trivial⟩ ⟨rfl, rfl, rfl, trivial⟩
  · intro D hid h0 hp hs rest hK
    obtain ⟨d0, -⟩ : AllD D true [0] := ideal_sub hp (by decide +kernel)
    obtain ⟨d2, -⟩ : AllD D false [2] := ideal_sub hs (by decide +kernel)
    simp only [d0, d2, h0, cond_true, cond_false]
    refine Run.go rfl ?_
    refine Run.le ?_ hK
    simp only [d0, d2, h0, Nat.reduceBEq, Bool.false_or, Bool.true_or, cond_true, cond_false]
    exact St.Le.mk' ⟨rfl, rfl, rfl, rfl, rfl, rfl, rfl, rfl, rfl, rfl, rfl, rfl, rfl, rfl, trivial⟩ ⟨rfl, rfl, rfl, trivial⟩
  · intro D hid h0 hp hs rest hK
    obtain ⟨d1, -⟩ : AllD D true [1] := ideal_sub hp (by decide +kernel)
    obtain ⟨d3, -⟩ : AllD D false [3] := ideal_sub hs (by decide +kernel)
    simp only [d1, d3, h0, cond_true, cond_false]
    refine Run.val rfl rfl rfl (ValOk.idx (m := 0) (i8 q0) rfl rfl rfl rfl rfl (by omega) hq0) rfl ?_
    refine Run.le ?_ hK
    simp only [d1, d3, h0, Nat.reduceBEq, Bool.false_or, Bool.true_or, cond_true, cond_false]
    exact St.Le.mk' ⟨rfl, rfl, rfl, rfl, rfl, rfl, rfl, rfl, rfl, rfl, rfl, rfl, rfl, rfl, trivial⟩ ⟨rfl, rfl, rfl, trivial⟩
  · intro D hid h0 hp hs rest hK
    obtain ⟨d2, -⟩ : AllD D true [2] := ideal_sub hp (by decide +kernel)
    obtain ⟨d10, -⟩ : AllD D false [10] := ideal_sub hs (by decide +kernel)
    simp only [d2, d10, h0, cond_true, cond_false]
    refine Run.go rfl ?_
    refine Run.le ?_ hK
    simp only [d2, d10, h0, Nat.reduceBEq, Bool.false_or, Bool.true_or, cond_true, cond_false]
    exact St.Le.mk' ⟨rfl, rfl, rfl, rfl, rfl, rfl, rfl, rfl, rfl, rfl, rfl, rfl, rfl, rfl, trivial⟩ ⟨rfl, rfl, rfl, trivial⟩
  · intro D hid h0 hp hs rest hK
    obtain ⟨d5, -⟩ : AllD D false [5] := ideal_sub hs (by decide +kernel)
    simp only [d5, h0, cond_true, cond_false]
    refine Run.go rfl ?_
    refine Run.le ?_ hK
    simp only [d5, h0, Nat.reduceBEq, Bool.false_or, Bool.true_or, cond_true, cond_false]
    exact St.Le.mk' ⟨rfl, rfl, rfl, rfl, rfl, rfl, rfl, rfl, rfl, rfl, rfl, rfl, rfl, rfl, trivial⟩ ⟨rfl, rfl, rfl, trivial⟩
  · intro D hid h0 hp hs rest hK
    obtain ⟨d4, -⟩ : AllD D true [4] := ideal_sub hp (by decide +kernel)
    obtain ⟨d10, -⟩ : AllD D false [10] := ideal_sub hs (by decide +kernel)
    simp only [d4, d10, h0, cond_true, cond_false]
    refine Run.go rfl ?_
    rw [hw]
    refine Run.le ?_ hK
    simp only [d4, d10, h0, Nat.reduceBEq, Bool.false_or, Bool.true_or, cond_true, cond_false]
    exact St.Le.mk' ⟨rfl, rfl, rfl, rfl, rfl, rfl, rfl, rfl, rfl, rfl, rfl, rfl, rfl, rfl, trivial⟩ ⟨rfl, rfl, rfl, trivial⟩
  · intro D hid h0 hp hs rest hK
    obtain ⟨d7, -⟩ : AllD D false [7] := ideal_sub hs (by decide +kernel)
    simp only [d7, h0, cond_true, cond_false]
    refine Run.go rfl ?_
    refine Run.le ?_ hK
    simp only [d7, h0, Nat.reduceBEq, Bool.false_or, Bool.true_or, cond_true, cond_false]
    exact St.Le.mk' ⟨rfl, rfl, rfl, rfl, rfl, rfl, rfl, rfl, rfl, rfl, rfl, rfl, rfl, rfl, trivial⟩ ⟨rfl, rfl, rfl, trivial⟩
  · intro D hid h0 hp hs rest hK
    obtain ⟨d6, -⟩ : AllD D true [6] := ideal_sub hp (by decide +kernel)
    obtain ⟨d8, -⟩ : AllD D false [8] := ideal_sub hs (by decide +kernel)
    simp only [d6, d8, h0, cond_true, cond_false]
    refine Run.go rfl ?_
    refine Run.le ?_ hK
    simp only [d6, d8, h0, Nat.reduceBEq, Bool.false_or, Bool.true_or, cond_true, cond_false]
    exact St.Le.mk' ⟨rfl, rfl, rfl, rfl, rfl, rfl, rfl, rfl, rfl, rfl, rfl, rfl, rfl, rfl, trivial⟩ ⟨rfl, rfl, rfl, trivial⟩
  · intro D hid h0 hp hs rest hK
    obtain ⟨d7, -⟩ : AllD D true [7] := ideal_sub hp (by decide +kernel)
    obtain ⟨d9, -⟩ : AllD D false [9] := ideal_sub hs (by decide +kernel)
    simp only [d7, d9, h0, cond_true, cond_false]
    refine Run.val rfl rfl rfl (ValOk.cut (l := 1) (h := (c.q.map i8).length) (ys := qd.map i8) rfl rfl rfl rfl rfl rfl (by omega) (by rw [hcl]; omega) (by omega) (by rw [hqd, Int.toNat_natCast, List.take_length, List.map_drop]; rfl)) rfl ?_
    refine Run.le ?_ hK
    simp only [d7, d9, h0, Nat.reduceBEq, Bool.false_or, Bool.true_or, cond_true, cond_false]
    exact St.Le.mk' ⟨rfl, rfl, rfl, rfl, rfl, rfl, rfl, rfl, rfl, rfl, rfl, rfl, rfl, rfl, trivial⟩ ⟨rfl, rfl, rfl, trivial⟩
  · intro D hid h0 hp hs rest hK
    obtain ⟨d8, -⟩ : AllD D true [8] := ideal_sub hp (by decide +kernel)
    obtain ⟨d10, -⟩ : AllD D false [10] := ideal_sub hs (by decide +kernel)
    simp only [d8, d10, h0, cond_true, cond_false]
    refine Run.cs rfl (clone8_ct qd false hdl) rfl (rf8 _) ?_
    refine Run.le ?_ hK
    simp only [d8, d10, h0, Nat.reduceBEq, Bool.false_or, Bool.true_or, cond_true, cond_false]
    exact St.Le.mk' ⟨rfl, rfl, rfl, rfl, rfl, rfl, rfl, rfl, rfl, rfl, rfl, rfl, rfl, rfl, trivial⟩ ⟨rfl, rfl, rfl, trivial⟩
  · intro D hid h0 hp hs rest hK
    obtain ⟨d3, d5, d9, -⟩ : AllD D true [3, 5, 9] := ideal_sub hp (by decide +kernel)
    obtain ⟨d11, -⟩ : AllD D false [11] := ideal_sub hs (by decide +kernel)
    have d2 : D 2 = true := hid 3 2 (by decide +kernel) (by decide +kernel) d3
    have d1 : D 1 = true := hid 2 1 (by decide +kernel) (by decide +kernel) d2
    have d0 : D 0 = true := hid 1 0 (by decide +kernel) (by decide +kernel) d1
    have d4 : D 4 = true := hid 5 4 (by decide +kernel) (by decide +kernel) d5
    have d8 : D 8 = true := hid 9 8 (by decide +kernel) (by decide +kernel) d9
    have d7 : D 7 = true := hid 8 7 (by decide +kernel) (by decide +kernel) d8
    have d6 : D 6 = true := hid 7 6 (by decide +kernel) (by decide +kernel) d7
    simp only [d3, d5, d9, d11, d2, d1, d0, d4, d8, d7, d6, h0, cond_true, cond_false]
    refine Run.unpack 19 rfl rfl ?_
    refine Run.val rfl rfl rfl (ValOk.build rfl rfl rfl rfl rfl) rfl ?_
    refine Run.forget 19 ?_
    refine Run.le ?_ hK
    simp only [d3, d5, d9, d11, d2, d1, d0, d4, d8, d7, d6, h0, Nat.reduceBEq, Bool.false_or, Bool.true_or, cond_true, cond_false]
    exact St.Le.mk' ⟨rfl, rfl, rfl, rfl, rfl, rfl, rfl, rfl, rfl, rfl, rfl, rfl, rfl, rfl, trivial⟩ ⟨rfl, rfl, rfl, trivial⟩
  · intro D hid h0 hp hs rest hK
    obtain ⟨d10, -⟩ : AllD D true [10] := ideal_sub hp (by decide +kernel)
    simp only [d10, h0, cond_true, cond_false]
    refine Run.go rfl ?_
    refine Run.le ?_ hK
    simp only [d10, h0, Nat.reduceBEq, Bool.false_or, Bool.true_or, cond_true, cond_false]
    exact St.Le.mk' ⟨rfl, rfl, rfl, rfl, rfl, rfl, rfl, rfl, rfl, rfl, rfl, rfl, rfl, rfl, trivial⟩ ⟨rfl, rfl, rfl, trivial⟩
  repeat (refine Run.go rfl ?_)
  refine Run.packBox (4, 0) 4 rfl rfl rfl rfl ?_
  exact Run.ret hg rfl rfl
end Go.Proofs.Ytlccbfdeonmljaa

/- Contracts of the program's functions, and what follows from them. -/
set_option maxRecDepth 100000
namespace Go.Proofs.Ytlccbfdeonmljaa
open Go Go.Av

/-! Desks that change: the next day; a name that is struck out of a queue. -/

noncomputable def X103 : Fx := ⟨Try.prog, tys, 103, Try.f103, [0, 1]⟩
theorem X103_ok : X103.Ok := ⟨Try.func103, tys_ok⟩
theorem indexI8_ct (l : List Int) (ex : Bool) (f : Nat) (caps : List AV) (p : Int → Bool) (hlen : l.length ≤ 1048576) (hc : AV.freeL caps = true)
    (hf : ∀ x ∈ l, Ct Try.prog f ([i8 x] ++ caps) (bo (p x)) []) : Ct Try.prog 103 [.ro 1 ex (l.map i8), .fn f caps] (i64 (fi p l)) [] := by
  refine Ct.intro X103 X103_ok rfl (by kernel_rfl) rfl rfl fun g hg => ?_
  repeat (refine Run.step rfl ?_)
  refine Run.loop (fun j : Nat => ⟨[(0, .ro 1 ex (l.map i8)), (1, .fn f caps), (7, i64 l.length), (8, i64 j)], []⟩) (fun j => j ≤ l.length ∧ j ≤ l.findIdx p) (fun j => l.length - j) 0 ⟨by omega, by omega⟩ ?_ ?_
  · refine St.Le.mk' ⟨rfl, rfl, ?_, rfl, trivial⟩ trivial
    show i64 _ = _
    simp
  · rintro j ⟨hj1, hj2⟩ IH
    repeat (refine Run.step rfl ?_)
    refine Run.cond rfl (fun h => ?_) (fun h => ?_)
    · have hlt : j < l.length := by simpa using h
      repeat (refine Run.step rfl ?_)
      refine Run.val rfl rfl rfl (ValOk.idx (i8 l[j]) rfl rfl rfl rfl rfl (by omega) (by simp [hlt])) rfl ?_
      repeat (refine Run.step rfl ?_)
      refine Run.callp rfl rfl rfl rfl rfl rfl rfl hc rfl (hf l[j] (by simp)) (by decide) (by decide) ?_
      repeat (refine Run.step rfl ?_)
      refine Run.cond rfl (fun h => ?_) (fun h => ?_)
      · repeat (refine Run.step rfl ?_)
        refine Run.ret hg rfl ?_
        show i64 _ = _
        rw [fi_at hlt h hj2]
      · repeat (refine Run.step rfl ?_)
        refine Run.of (IH (j + 1) ⟨by omega, fi_next hlt h hj2⟩ (by omega)) ⟨rfl, rfl, rfl, ?_, trivial⟩ trivial
        show i64 _ = _
        rw [wrap_i64 (by omega) (by omega)]
        rfl
    · repeat (refine Run.step rfl ?_)
      have hj : j = l.length := by simp at h; omega
      refine Run.ret hg rfl ?_
      show i64 (-1) = _
      rw [fi_none (by omega)]

theorem lt_deleteI8_ct (L : List Int) : (flatc (L.map i8)).all isLT = true := by
  induction L with
  | nil => rfl
  | cons x r ih => rw [List.map_cons, show flatc (i8 x :: r.map i8) = (i8 x).cells ++ flatc (r.map i8) from rfl, List.all_append, ih]; rfl

noncomputable def X99 : Fx := ⟨Try.prog, tys, 99, Try.f99, []⟩
theorem X99_ok : X99.Ok := ⟨Try.func99, tys_ok⟩
theorem deleteI8_ct (L : List Int) (ex : Bool) (f : Nat) (cs : List AV) (p : Int → Bool) (hlen : L.length ≤ 1048576) (hf : ∀ x ∈ L, Ct Try.prog f [i8 x, .rp cs 0] (bo (p x)) []) :
    Ct Try.prog 99 [.own 1 ex (L.map i8), .fn f [.rp cs 0]] (.own 1 false ((L.filter fun x => !p x).map i8)) [] := by
  refine Ct.intro X99 X99_ok rfl (by kernel_rfl) rfl rfl fun g hg => ?_
  repeat (refine Run.go rfl ?_)
  refine Run.cs rfl (indexI8_ct L ex f [.rp cs 0] p hlen rfl hf) (by rw [frz8, decide_eq_true (by simp)]; rfl) rfl ?_
  repeat (refine Run.go rfl ?_)
  refine Run.cond rfl (fun h => ?_) (fun h => ?_)
  · have h : fi p L = -1 := by simpa using h
    have hnone : L.filter (fun x => !p x) = L := by
      rw [List.filter_eq_self]
      intro x hx
      have hany : L.any p = false := by
        rw [← fi_nonneg, h]
        rfl
      have := List.any_eq_false.1 hany x hx
      simpa using this
    repeat (refine Run.go rfl ?_)
    refine Run.packTake 4 rfl rfl (Nat.le_refl _) ?_
    refine Run.ret hg rfl ?_
    rw [hnone, List.take_length]
    rfl
  have h : fi p L ≠ -1 := by simpa using h
  have hi0 : L.findIdx p < L.length := by
    unfold fi at h
    split at h
    · assumption
    · exact absurd rfl h
  have hfi : fi p L = (L.findIdx p : Int) := by
    unfold fi
    rw [if_pos hi0]
  have hpi : p (L[L.findIdx p]) = true := List.findIdx_getElem
  have hfl0 : (L.take (L.findIdx p + 1)).filter (fun x => !p x) = L.take (L.findIdx p) := by
    rw [List.take_succ_eq_append_getElem hi0, List.filter_append, List.filter_cons, hpi]
    simp only [Bool.not_true, Bool.false_eq_true, if_false, List.filter_nil, List.append_nil]
    rw [List.filter_eq_self]
    intro x hx
    obtain ⟨q, hq, rfl⟩ := List.getElem_of_mem hx
    have hq2 : q < L.findIdx p := by simp at hq; omega
    have := List.not_of_lt_findIdx hq2
    simp only [List.getElem_take]
    simpa using this
  rw [hfi]
  generalize L.findIdx p = i0 at hi0 hfl0
  repeat (refine Run.go rfl ?_)
  refine Run.loop (fun j : Nat => ⟨[(0, .vec (0, 0) 0 L.length), (1, .fn f [.rp cs 0]), (5, i64 ((L.take j).filter (fun x => !p x)).length), (6, i64 j)], [((0, 0), .vec 1 ex (((L.take j).filter (fun x => !p x) ++ L.drop ((L.take j).filter (fun x => !p x)).length).map i8))]⟩)
    (fun j => j ≤ L.length ∧ ((L.take j).filter (fun x => !p x)).length < j) (fun j => L.length - j) (i0 + 1) ⟨by omega, by rw [hfl0]; simp; omega⟩ ?_ ?_
  · refine St.Le.mk' ⟨?_, rfl, ?_, ?_, trivial⟩ ⟨?_, trivial⟩
    · show AV.vec _ _ (L.map i8).length = _
      rw [List.length_map]
    · show i64 (i0 : Int) = i64 _
      rw [hfl0, List.length_take, Nat.min_eq_left (by omega)]
    · show i64 _ = _
      rw [wrap_i64 (by omega) (by omega)]
      rfl
    · show Ob.vec _ _ _ = Ob.vec _ _ _
      rw [hfl0, List.length_take, Nat.min_eq_left (by omega), List.take_append_drop]
  rintro j ⟨hj, hlt0⟩ IH
  obtain ⟨fl, hfl⟩ : ∃ fl, fl = (L.take j).filter (fun x => !p x) := ⟨_, rfl⟩
  rw [← hfl] at hlt0
  rw [← hfl]
  repeat (refine Run.go rfl ?_)
  refine Run.cond rfl (fun h => ?_) (fun h => ?_)
  · have hlt : j < L.length := by simpa using h
    have hat : ((fl ++ L.drop fl.length).map i8)[0 + (j : Int).toNat]? = some (i8 L[j]) := by
      rw [List.getElem?_map, Nat.zero_add, Int.toNat_natCast, List.getElem?_append_right (by omega), List.getElem?_drop, show fl.length + (j - fl.length) = j by omega, List.getElem?_eq_getElem hlt]
      rfl
    have hat2 : ((fl ++ L.drop fl.length).map i8)[0 + (fl.length : Int).toNat]? = some (i8 (L[fl.length]'(by omega))) := by
      rw [List.getElem?_map, Nat.zero_add, Int.toNat_natCast, List.getElem?_append_right (by omega), List.getElem?_drop, Nat.sub_self, Nat.add_zero, List.getElem?_eq_getElem (by omega)]
      rfl
    have hnext : (L.take (j + 1)).filter (fun x => !p x) = if p L[j] = true then fl else fl ++ [L[j]] := by
      rw [List.take_succ_eq_append_getElem hlt, List.filter_append, ← hfl, List.filter_cons]
      cases p L[j] <;> simp
    have hseta : ((fl ++ L.drop fl.length).map i8).set (0 + (fl.length : Int).toNat) (i8 L[j]) = (fl ++ [L[j]] ++ L.drop (fl.length + 1)).map i8 := by
      rw [← List.map_set, Nat.zero_add, Int.toNat_natCast, List.set_append, if_neg (by omega), Nat.sub_self, List.append_assoc]
      congr 2
      rw [List.drop_eq_getElem_cons (i := fl.length) (by omega)]
      rfl
    have hml : 0 + (j : Int) < (L.length : Int) := by omega
    have hcl : ((fl ++ L.drop fl.length).map i8).length = L.length := by simp; omega
    generalize hC : (fl ++ L.drop fl.length).map i8 = C at hat hat2 hseta hcl
    repeat (refine Run.go rfl ?_)
    refine Run.val rfl rfl rfl (ValOk.idxv rfl rfl rfl rfl rfl rfl (by omega) (by omega)) rfl ?_
    repeat (refine Run.go rfl ?_)
    refine Run.val rfl rfl rfl (ValOk.loadv (i8 L[j]) rfl rfl rfl rfl hat rfl) rfl ?_
    repeat (refine Run.go rfl ?_)
    refine Run.cs rfl (hf L[j] (by simp)) rfl rfl ?_
    repeat (refine Run.go rfl ?_)
    refine Run.cond rfl (fun h => ?_) (fun h => ?_)
    · have h : p L[j] = false := by simpa using h
      rw [if_neg (by rw [h]; decide)] at hnext
      repeat (refine Run.go rfl ?_)
      refine Run.val rfl rfl rfl (ValOk.idxv rfl rfl rfl rfl rfl rfl (by omega) (by omega)) rfl ?_
      refine Run.storee (i8 (L[fl.length]'(by omega))) (i8 L[j]) rfl rfl rfl rfl rfl rfl rfl hat2 rfl rfl rfl ?_
      repeat (refine Run.go rfl ?_)
      refine Run.of (IH (j + 1) ⟨by omega, by rw [hnext]; simp; omega⟩ (by omega)) ⟨rfl, rfl, ?_, ?_, trivial⟩ ⟨?_, trivial⟩
      · show i64 _ = i64 _
        rw [wrap_i64 (by omega) (by omega), hnext]
        congr 1
        simp
      · show i64 _ = _
        rw [wrap_i64 (by omega) (by omega)]
        rfl
      · show Ob.vec _ _ _ = Ob.vec _ _ _
        rw [hseta, hnext]
        congr 3
        simp
    · have h : p L[j] = true := by simpa using h
      rw [if_pos h] at hnext
      repeat (refine Run.go rfl ?_)
      refine Run.of (IH (j + 1) ⟨by omega, by rw [hnext]; omega⟩ (by omega)) ⟨rfl, rfl, ?_, ?_, trivial⟩ ⟨?_, trivial⟩
      · show i64 _ = i64 _
        rw [hnext]
      · show i64 _ = _
        rw [wrap_i64 (by omega) (by omega)]
        rfl
      · show Ob.vec _ _ _ = Ob.vec _ _ _
        rw [hnext, hC]
  · have hj' : j = L.length := by simp at h; omega
    subst hj'
    rw [List.take_length] at hfl
    have hcl : ((fl ++ L.drop fl.length).map i8).length = L.length := by simp; omega
    repeat (refine Run.go rfl ?_)
    refine Run.val rfl rfl rfl (ValOk.cutv rfl rfl rfl rfl rfl rfl rfl (by omega) (by omega) (by omega)) rfl ?_
    refine Run.clearv (i8 0) rfl rfl rfl rfl rfl rfl rfl rfl rfl rfl rfl rfl (lt_deleteI8_ct _) (by rw [hcl]; omega) ?_
    repeat (refine Run.go rfl ?_)
    refine Run.val rfl rfl rfl (ValOk.cutv rfl rfl rfl rfl rfl rfl rfl (by omega) (by omega) (by omega)) rfl ?_
    repeat (refine Run.go rfl ?_)
    refine Run.packTake 4 rfl rfl (by first | (simp; done) | (simp; omega)) ?_
    refine Run.ret hg rfl ?_
    rw [← hfl]
    show AV.own _ _ _ = AV.own _ _ _
    congr 1
    simp only [Int.toNat_natCast, Int.toNat_zero, Nat.sub_zero, Nat.zero_add]
    rw [List.append_assoc, List.take_append_of_le_length (by simp), List.take_take, Nat.min_self, List.map_append, List.take_append_of_le_length (by simp), List.take_of_length_le (by simp)]

def nxC (day : Int) (c : Cp) : Cp := if c.st = 2 ∧ c.due < day then freeC c day else c
def nxD (d : Dk) : Dk := ⟨d.day + 1, d.cs.map (nxC (d.day + 1))⟩
def dk0 : Dk := ⟨0, []⟩
def nxR (d : Dk) : AV := if d.day = 10000 then .tup [dkQ false false dk0, bo false] else .tup [dkQ false false (nxD d), bo true]

noncomputable def X79 : Fx := ⟨Try.prog, tys, 79, Try.f79, [0]⟩
theorem X79_ok : X79.Ok := ⟨Try.func79, tys_ok⟩
theorem nextDay_ct (d : Dk) (e1 e2 : Bool) (hd : dkOk d) (hday : 0 ≤ d.day ∧ d.day ≤ 10000) : Ct Try.prog 79 [dkR e1 e2 d] (nxR d) [] := by
  refine Ct.intro X79 X79_ok rfl (by kernel_rfl) rfl rfl fun g hg => ?_
  repeat (refine Run.go rfl ?_)
  refine Run.cond rfl (fun h => ?_) (fun h => ?_)
  · have h : d.day = 10000 := by simpa using h
    repeat (refine Run.go rfl ?_)
    refine Run.val rfl rfl rfl (ValOk.build rfl rfl rfl rfl rfl) rfl ?_
    repeat (refine Run.go rfl ?_)
    refine Run.nilBox (2, 0) 1 5 false rfl rfl ?_
    refine Run.ret hg rfl ?_
    rw [nxR, if_pos h]
    rfl
  have h : ¬ d.day = 10000 := by simpa using h
  have hw : IntKind.i16.wrap (d.day + 1) = d.day + 1 := wrap_i16 (by omega) (by omega)
  rw [nxR, if_neg h] at hg
  repeat (refine Run.go rfl ?_)
  refine Run.cs rfl (dkOwn_ct d e1 e2 hd) rfl (dkQ_rf _ _ _) ?_
  repeat (refine Run.go rfl ?_)
  refine Run.unagg 12 1 (12, 1) rfl rfl rfl ?_
  repeat (refine Run.go rfl ?_)
  obtain ⟨day, hdy⟩ : ∃ day, day = d.day + 1 := ⟨_, rfl⟩
  obtain ⟨N, hN⟩ : ∃ N, N = d.cs.length := ⟨_, rfl⟩
  have hday : 0 ≤ day ∧ day ≤ 10001 := by omega
  have hN1 : N ≤ 1048576 := by rw [hN]; exact hd.1
  refine Run.loop (fun j : Nat => ⟨[(2, .bp (2, 0) 0), (4, .bp (4, 0) 0), (18, .vec (12, 1) 0 N), (19, i64 (N : Nat)), (20, i64 (j : Nat))],
    [((2, 0), .box [i16 0, .lit (.slice none 0 0)]), ((4, 0), .box [i16 day, .vec (12, 1) 0 N]), ((12, 1), .vec 5 false (((d.cs.take j).map (nxC day)).map (cpQ false) ++ (d.cs.drop j).map (cpQ false)))]⟩) (fun j => j ≤ N) (fun j => N - j) 0 (by omega) ?_ ?_
  · refine St.Le.mk' ⟨rfl, rfl, ?_, ?_, rfl, trivial⟩ ⟨rfl, ?_, rfl, trivial⟩
    · show AV.vec _ _ (d.cs.map (cpQ false)).length = _
      rw [List.length_map, hN]
    · show i64 ((d.cs.map (cpQ false)).length : Nat) = _
      rw [List.length_map, hN]
    · show Ob.box [i16 (IntKind.i16.wrap (d.day + 1)), AV.vec _ _ (d.cs.map (cpQ false)).length] = _
      rw [hw, List.length_map, hN, hdy]
  intro j hj IH
  repeat (refine Run.go rfl ?_)
  refine Run.cond rfl (fun h => ?_) (fun h => ?_)
  · have h : j < N := by simpa using h
    have hlt : j < d.cs.length := by omega
    obtain ⟨XS, hXS⟩ : ∃ XS, XS = ((d.cs.take j).map (nxC day)).map (cpQ false) := ⟨_, rfl⟩
    obtain ⟨YS, hYS⟩ : ∃ YS, YS = (d.cs.drop (j + 1)).map (cpQ false) := ⟨_, rfl⟩
    have hXl : XS.length = j := by rw [hXS, List.length_map, List.length_map, List.length_take]; omega
    have hst : ((d.cs.take (j + 1)).map (nxC day)).map (cpQ false) ++ (d.cs.drop (j + 1)).map (cpQ false) = XS ++ cpQ false (nxC day d.cs[j]) :: YS := by
      rw [List.take_succ_eq_append_getElem hlt, List.map_append, List.map_append, ← hXS, ← hYS, List.append_assoc]
      rfl
    have hcq := hd.2 d.cs[j] (by simp)
    have hYl : YS.length + j + 1 = N := by rw [hYS, List.length_map, List.length_drop]; omega
    rw [List.drop_eq_getElem_cons hlt, List.map_cons, ← hXS, ← hYS]
    have IH' := IH (j + 1) (by omega) (by omega)
    rw [hst] at IH'
    clear hst IH hXS hYS
    generalize d.cs[j] = c at hcq IH'
    have hat : ∀ x : AV, (XS ++ x :: YS)[j]? = some x := fun x => by rw [← hXl]; simp
    have hset : ∀ x y : AV, (XS ++ x :: YS).set j y = XS ++ y :: YS := fun x y => by rw [← hXl, List.set_append_right _ _ (Nat.le_refl _), Nat.sub_self]; rfl
    have hlen : ∀ x : AV, (XS ++ x :: YS).length = N := fun x => by simp; omega
    have hm : 0 + ((j : Int)).toNat = j := by simp
    repeat (refine Run.go rfl ?_)
    refine Run.val rfl rfl rfl (ValOk.idxv (m := (j : Int)) rfl rfl rfl rfl rfl rfl (by omega) (by omega)) rfl ?_
    rw [hm]
    refine Run.uncell (12, 1) (24, 0) (24, 1) j 4 (cpQ false c) rfl (hat _) rfl (fun _ => rfl) rfl (by decide) (by decide) (by decide) rfl fun A n => ?_
    rw [hset]
    refine Run.val rfl rfl rfl (ValOk.loadv (.agg [i8 c.st, i8 c.who, i16 c.due, i8 c.ren, .lit (.slice A (c.q.map i8).length n)]) rfl rfl rfl rfl (hat _) rfl) rfl ?_
    refine Run.nameAgg 24 4 (24, 1) rfl rfl rfl rfl ?_
    repeat (refine Run.go rfl ?_)
    refine Run.bool 28 rfl (fun h2 => ?_) (fun h2 => ?_)
    · have h2 : c.st = 2 := by simpa using h2
      repeat (refine Run.go rfl ?_)
      refine Run.cond rfl (fun h3 => ?_) (fun h3 => ?_)
      · have h3 : c.due < day := by simpa using h3
        have he : nxC day c = freeC c day := by rw [nxC, if_pos ⟨h2, h3⟩]
        repeat (refine Run.go rfl ?_)
        refine Run.drawI (fun D => ⟨[(2, .bp (2, 0) 0), (4, .bp (4, 0) 0), (5, i64 (j : Nat)), (6, .bp (6, 0) 0), (18, .vec (12, 1) 0 N), (19, i64 (N : Nat)), (20, i64 (j : Nat)), (35, bif D 0 then .bp (4, 0) 1 else .top), (36, bif D 1 then .vec (12, 1) 0 N else .top), (37, bif D 2 then i64 (j : Nat) else .top), (38, bif D 3 then .agg [i8 c.st, i8 c.who, i16 c.due, i8 c.ren, .vec (24, 0) 0 (c.q.map i8).length] else .top), (39, bif D 4 then .bp (4, 0) 0 else .top), (40, bif D 5 then i16 day else .top), (41, bif D 8 then .top else bif D 6 then cpQ false (freeC c day) else .top), (42, bif D 7 then .ep (12, 1) j 0 else .top)], [((2, 0), Ob.box [i16 0, .lit (.slice none 0 0)]), ((4, 0), Ob.box [i16 day, .vec (12, 1) 0 N]), ((6, 0), Ob.box [i8 c.st, i8 c.who, i16 c.due, i8 c.ren, .vec (24, 0) 0 (c.q.map i8).length]), ((24, 0), Ob.vec 1 false (c.q.map i8)), ((12, 1), (bif D 8 then Ob.vec 5 false (XS ++ cpQ false (freeC c day) :: YS) else Ob.vec 5 false (XS ++ (AV.agg [i8 c.st, i8 c.who, i16 c.due, i8 c.ren, .lit (.slice A (c.q.map i8).length n)]) :: YS)))]⟩) (by decide +kernel) (by decide +kernel) ?_ ?_ fun k' => ⟨?_, ?_, ?_, ?_, ?_, ?_, ?_, ?_, ?_, trivial⟩
        · exact St.Le.mk' ⟨rfl, rfl, rfl, rfl, rfl, rfl, rfl, rfl, rfl, rfl, rfl, rfl, rfl, rfl, rfl, trivial⟩ ⟨rfl, rfl, rfl, rfl, rfl, trivial⟩
        rotate_left
        · intro D hid h0 hp hs rest hK
          obtain ⟨d1, -⟩ : AllD D false [1] := ideal_sub hs (by decide +kernel)
          simp only [d1, h0, cond_true, cond_false]
          refine Run.go rfl ?_
          refine Run.le ?_ hK
          simp only [d1, h0, Nat.reduceBEq, Bool.false_or, Bool.true_or, cond_true, cond_false]
          exact St.Le.mk' ⟨rfl, rfl, rfl, rfl, rfl, rfl, rfl, rfl, rfl, rfl, rfl, rfl, rfl, rfl, rfl, trivial⟩ ⟨rfl, rfl, rfl, rfl, rfl, trivial⟩
        · intro D hid h0 hp hs rest hK
          obtain ⟨d0, -⟩ : AllD D true [0] := ideal_sub hp (by decide +kernel)
          obtain ⟨d7, -⟩ : AllD D false [7] := ideal_sub hs (by decide +kernel)
          simp only [d0, d7, h0, cond_true, cond_false]
          refine Run.go rfl ?_
          refine Run.le ?_ hK
          simp only [d0, d7, h0, Nat.reduceBEq, Bool.false_or, Bool.true_or, cond_true, cond_false]
          exact St.Le.mk' ⟨rfl, rfl, rfl, rfl, rfl, rfl, rfl, rfl, rfl, rfl, rfl, rfl, rfl, rfl, rfl, trivial⟩ ⟨rfl, rfl, rfl, rfl, rfl, trivial⟩
        · intro D hid h0 hp hs rest hK
          obtain ⟨d7, -⟩ : AllD D false [7] := ideal_sub hs (by decide +kernel)
          simp only [d7, h0, cond_true, cond_false]
          refine Run.go rfl ?_
          refine Run.le ?_ hK
          simp only [d7, h0, Nat.reduceBEq, Bool.false_or, Bool.true_or, cond_true, cond_false]
          exact St.Le.mk' ⟨rfl, rfl, rfl, rfl, rfl, rfl, rfl, rfl, rfl, rfl, rfl, rfl, rfl, rfl, rfl, trivial⟩ ⟨rfl, rfl, rfl, rfl, rfl, trivial⟩
        · intro D hid h0 hp hs rest hK
          obtain ⟨d6, -⟩ : AllD D false [6] := ideal_sub hs (by decide +kernel)
          simp only [d6, h0, cond_true, cond_false]
          refine Run.go rfl ?_
          refine Run.le ?_ hK
          simp only [d6, h0, Nat.reduceBEq, Bool.false_or, Bool.true_or, cond_true, cond_false]
          exact St.Le.mk' ⟨rfl, rfl, rfl, rfl, rfl, rfl, rfl, rfl, rfl, rfl, rfl, rfl, rfl, rfl, rfl, trivial⟩ ⟨rfl, rfl, rfl, rfl, rfl, trivial⟩
        · intro D hid h0 hp hs rest hK
          obtain ⟨d5, -⟩ : AllD D false [5] := ideal_sub hs (by decide +kernel)
          simp only [d5, h0, cond_true, cond_false]
          refine Run.go rfl ?_
          refine Run.le ?_ hK
          simp only [d5, h0, Nat.reduceBEq, Bool.false_or, Bool.true_or, cond_true, cond_false]
          exact St.Le.mk' ⟨rfl, rfl, rfl, rfl, rfl, rfl, rfl, rfl, rfl, rfl, rfl, rfl, rfl, rfl, rfl, trivial⟩ ⟨rfl, rfl, rfl, rfl, rfl, trivial⟩
        · intro D hid h0 hp hs rest hK
          obtain ⟨d4, -⟩ : AllD D true [4] := ideal_sub hp (by decide +kernel)
          obtain ⟨d6, -⟩ : AllD D false [6] := ideal_sub hs (by decide +kernel)
          simp only [d4, d6, h0, cond_true, cond_false]
          refine Run.go rfl ?_
          refine Run.le ?_ hK
          simp only [d4, d6, h0, Nat.reduceBEq, Bool.false_or, Bool.true_or, cond_true, cond_false]
          exact St.Le.mk' ⟨rfl, rfl, rfl, rfl, rfl, rfl, rfl, rfl, rfl, rfl, rfl, rfl, rfl, rfl, rfl, trivial⟩ ⟨rfl, rfl, rfl, rfl, rfl, trivial⟩
        · intro D hid h0 hp hs rest hK
          obtain ⟨d3, d5, -⟩ : AllD D true [3, 5] := ideal_sub hp (by decide +kernel)
          obtain ⟨d8, -⟩ : AllD D false [8] := ideal_sub hs (by decide +kernel)
          simp only [d3, d5, d8, h0, cond_true, cond_false]
          refine Run.cs rfl (freed_ct c false day hcq hday) (by rw [frz8, decide_eq_true rfl]; rfl) (cpQ_rf _ _) ?_
          refine Run.le ?_ hK
          simp only [d3, d5, d8, h0, Nat.reduceBEq, Bool.false_or, Bool.true_or, cond_true, cond_false]
          exact St.Le.mk' ⟨rfl, rfl, rfl, rfl, rfl, rfl, rfl, rfl, rfl, rfl, rfl, rfl, rfl, rfl, rfl, trivial⟩ ⟨rfl, rfl, rfl, rfl, rfl, trivial⟩
        · intro D hid h0 hp hs rest hK
          obtain ⟨d1, d2, -⟩ : AllD D true [1, 2] := ideal_sub hp (by decide +kernel)
          obtain ⟨d8, -⟩ : AllD D false [8] := ideal_sub hs (by decide +kernel)
          simp only [d1, d2, d8, h0, cond_true, cond_false]
          refine Run.val rfl rfl rfl (ValOk.idxv (m := (j : Int)) rfl rfl rfl rfl rfl rfl (by omega) (by omega)) rfl ?_
          rw [hm]
          refine Run.le ?_ hK
          simp only [d1, d2, d8, h0, Nat.reduceBEq, Bool.false_or, Bool.true_or, cond_true, cond_false]
          exact St.Le.mk' ⟨rfl, rfl, rfl, rfl, rfl, rfl, rfl, rfl, rfl, rfl, rfl, rfl, rfl, rfl, rfl, trivial⟩ ⟨rfl, rfl, rfl, rfl, rfl, trivial⟩
        · intro D hid h0 hp hs rest hK
          obtain ⟨d6, d7, -⟩ : AllD D true [6, 7] := ideal_sub hp (by decide +kernel)
          have d3 : D 3 = true := hid 6 3 (by decide +kernel) (by decide +kernel) d6
          have d5 : D 5 = true := hid 6 5 (by decide +kernel) (by decide +kernel) d6
          have d4 : D 4 = true := hid 5 4 (by decide +kernel) (by decide +kernel) d5
          have d1 : D 1 = true := hid 7 1 (by decide +kernel) (by decide +kernel) d7
          have d2 : D 2 = true := hid 7 2 (by decide +kernel) (by decide +kernel) d7
          have d0 : D 0 = true := hid 1 0 (by decide +kernel) (by decide +kernel) d1
          simp only [d6, d7, d3, d5, d4, d1, d2, d0, h0, cond_true, cond_false]
          refine Run.openAgg 41 4 (41, 4) (41, 5) rfl rfl rfl (by decide) rfl fun A2 n2 => ?_
          refine Run.storee (AV.agg [i8 c.st, i8 c.who, i16 c.due, i8 c.ren, .lit (.slice A (c.q.map i8).length n)]) (.agg [i8 (freeC c day).st, i8 (freeC c day).who, i16 (freeC c day).due, i8 (freeC c day).ren, .lit (.slice A2 ((freeC c day).q.map i8).length n2)]) rfl rfl rfl rfl rfl rfl rfl (hat _) rfl rfl rfl ?_
          rw [hset]
          refine Run.recell (12, 1) (41, 4) (41, 5) j 4 _ rfl (hat _) rfl rfl rfl (fun _ => rfl) (by decide) ?_
          rw [hset]
          refine Run.forget 41 ?_
          refine Run.le ?_ hK
          simp only [d6, d7, d3, d5, d4, d1, d2, d0, h0, Nat.reduceBEq, Bool.false_or, Bool.true_or, cond_true, cond_false]
          exact St.Le.mk' ⟨rfl, rfl, rfl, rfl, rfl, rfl, rfl, rfl, rfl, rfl, rfl, rfl, rfl, rfl, rfl, trivial⟩ ⟨rfl, rfl, rfl, rfl, rfl, trivial⟩
        repeat (refine Run.go rfl ?_)
        refine Run.of IH' ⟨rfl, rfl, rfl, rfl, ?_, trivial⟩ ⟨rfl, rfl, ?_, trivial⟩
        · show i64 (IntKind.i64.wrap _) = i64 _
          rw [wrap_i64 (by omega) (by omega)]
          rfl
        · rw [he]
          rfl
      have h3 : ¬ c.due < day := by simpa using h3
      have he : nxC day c = c := by rw [nxC, if_neg (fun e => h3 e.2)]
      repeat (refine Run.go rfl ?_)
      refine Run.recell (12, 1) (24, 0) (24, 1) j 4 _ rfl (hat _) rfl rfl rfl (fun _ => rfl) (by decide) ?_
      rw [hset]
      refine Run.of IH' ⟨rfl, rfl, rfl, rfl, ?_, trivial⟩ ⟨rfl, rfl, ?_, trivial⟩
      · show i64 (IntKind.i64.wrap _) = i64 _
        rw [wrap_i64 (by omega) (by omega)]
        rfl
      · rw [he]
        rfl
    · have h2 : ¬ c.st = 2 := by simpa using h2
      have he : nxC day c = c := by rw [nxC, if_neg (fun e => h2 e.1)]
      repeat (refine Run.go rfl ?_)
      refine Run.cond rfl (fun h3 => by cases h3) (fun h3 => ?_)
      repeat (refine Run.go rfl ?_)
      refine Run.recell (12, 1) (24, 0) (24, 1) j 4 _ rfl (hat _) rfl rfl rfl (fun _ => rfl) (by decide) ?_
      rw [hset]
      refine Run.of IH' ⟨rfl, rfl, rfl, rfl, ?_, trivial⟩ ⟨rfl, rfl, ?_, trivial⟩
      · show i64 (IntKind.i64.wrap _) = i64 _
        rw [wrap_i64 (by omega) (by omega)]
        rfl
      · rw [he]
        rfl
  · have h : j = N := by simp at h; omega
    subst h
    rw [hN, List.take_length, List.drop_length, List.map_nil, List.append_nil]
    repeat (refine Run.go rfl ?_)
    refine Run.packBox (2, 0) 1 rfl rfl rfl (by simp) ?_
    refine Run.ret hg rfl ?_
    rw [hdy]
    rfl
end Go.Proofs.Ytlccbfdeonmljaa

/- Contracts of the program's functions, and what follows from them. -/
set_option maxRecDepth 100000
namespace Go.Proofs.Ytlccbfdeonmljaa
open Go Go.Av

/-! Desks that change: a copy behind an act. -/

/-- One text behind another; the ends of the first come together in state S. -/
theorem Run.seqJ {X : Fx} {g : Gx} {st : St} {k : List Item} {x y : Code} (S : St) (h : ∀ k', Nxt (X := X) (g := g) (K := k') S → Run X g (.code x :: k') st) (hk : Run X g (.code y :: k) S) :
    Run X g (.code (.seq x y) :: k) st := Run.ctl rfl (h _ hk)

def ask2 (who : Int) (c : Cp) : Bool := decide (c.st = 0) || decide (c.who = who) || (c.q.any fun x => x == who) || decide (c.q.length = 4)
def ren3 (d : Dk) (who : Int) (c : Cp) : Bool := !lentTo who c || over d.day c || decide (0 < c.q.length) || decide (c.ren = 2)
def chC (d : Dk) (c : Cp) (what who : Int) : Cp × Bool :=
  if what = 0 then (⟨1, who, d.day + 28, 0, c.q⟩, mayP d who c)
  else if what = 1 then (freeC c d.day, lentTo who c)
  else if what = 2 then (⟨c.st, c.who, c.due, c.ren, c.q ++ [who]⟩, !ask2 who c)
  else if what = 3 then (⟨c.st, c.who, d.day + 28, c.ren + 1, c.q⟩, !ren3 d who c)
  else if c.st = 2 ∧ c.who = who then (freeC c d.day, true)
  else (⟨c.st, c.who, c.due, c.ren, c.q.filter fun x => !(x == who)⟩, c.q.any fun x => x == who)
def chA (e : Bool) (what : Int) (c : Cp) : AV := if what = 0 ∨ what = 3 then cpR e c else cpQ false c

noncomputable def X100 : Fx := ⟨Try.prog, tys, 100, Try.f100, [0, 1]⟩
theorem X100_ok : X100.Ok := ⟨Try.func100, tys_ok⟩
theorem changed1_ct (x who : Int) : Ct Try.prog 100 [i8 x, .rp [i8 who] 0] (bo (x == who)) [] := by
  refine Ct.intro X100 X100_ok rfl (by kernel_rfl) rfl rfl fun g hg => ?_
  repeat (refine Run.go rfl ?_)
  exact Run.ret hg rfl rfl

noncomputable def X81 : Fx := ⟨Try.prog, tys, 81, Try.f81, [2]⟩
theorem X81_ok : X81.Ok := ⟨Try.func81, tys_ok⟩
theorem changed_ct (d : Dk) (c : Cp) (e1 e2 e3 : Bool) (what who : Int) (hd : dkOk d) (hq : c.q.length ≤ 1048576) (hday : 0 ≤ d.day ∧ d.day ≤ 10000) (hren : 0 ≤ c.ren ∧ c.ren ≤ 2) :
    Ct Try.prog 81 [dkR e1 e2 d, cpR e3 c, i8 what, i8 who] (.tup [chA e3 what (chC d c what who).1, bo (chC d c what who).2]) [] := by
  have hcl : (c.q.map i8).length = c.q.length := List.length_map ..
  have hw : IntKind.i16.wrap (d.day + 28) = d.day + 28 := wrap_i16 (by omega) (by omega)
  refine Ct.intro X81 X81_ok rfl (by kernel_rfl) rfl rfl fun g hg => ?_
  repeat (refine Run.go rfl ?_)
  refine Run.cs rfl (contains8_ct c.q e3 who hq) rfl rfl ?_
  repeat (refine Run.go rfl ?_)
  refine Run.cond rfl (fun h0 => ?_) (fun h0 => ?_)
  · have h0 : what = 0 := by simpa using h0
    have hA : ∀ x : Cp, chA e3 what x = cpR e3 x := fun x => by rw [chA, if_pos (.inl h0)]
    rw [hA, chC, if_pos h0] at hg
    repeat (refine Run.go rfl ?_)
    refine Run.drawI (fun D => ⟨[(4, .bp (4, 0) 0), (5, .bp (5, 0) 0), (7, .bp (7, 0) 0), (8, .bp (8, 0) 0), (10, bo (c.q.any fun x => x == who)), (20, bif D 0 then i8 who else .top), (21, bif D 1 then .bp (4, 0) 0 else .top), (22, bif D 2 then i16 d.day else .top), (23, bif D 3 then i16 (d.day + 28) else .top), (24, bif D 4 then .bp (5, 0) 4 else .top), (25, bif D 5 then .ro 1 e3 (c.q.map i8) else .top), (26, bif D 6 then .agg [i8 1, i8 who, i16 (d.day + 28), i8 0, .ro 1 e3 (c.q.map i8)] else .top), (27, bif D 7 then dkR e1 e2 d else .top), (28, bif D 8 then i8 who else .top), (29, bif D 9 then cpR e3 c else .top), (30, bif D 10 then bo (mayP d who c) else .top), (9, bif D 12 then bo (mayP d who c) else bo false)], [((4, 0), Ob.box (dkR e1 e2 d).cells), ((5, 0), Ob.box (cpR e3 c).cells), ((7, 0), Ob.box [i8 who]), ((8, 0), (bif D 11 then Ob.box [i8 1, i8 who, i16 (d.day + 28), i8 0, .ro 1 e3 (c.q.map i8)] else Ob.box [i8 0, i8 0, i16 0, i8 0, .lit (.slice none 0 0)]))]⟩) (by decide +kernel) (by decide +kernel) ?_ ?_ fun k' => ⟨?_, ?_, ?_, ?_, ?_, ?_, ?_, ?_, ?_, ?_, ?_, ?_, ?_, trivial⟩
    · exact St.Le.mk' ⟨rfl, rfl, rfl, rfl, rfl, rfl, rfl, rfl, rfl, rfl, rfl, rfl, rfl, rfl, rfl, rfl, rfl, trivial⟩ ⟨rfl, rfl, rfl, rfl, trivial⟩
    rotate_left
    · intro D hid h0 hp hs rest hK
      obtain ⟨d6, -⟩ : AllD D false [6] := ideal_sub hs (by decide +kernel)
      simp only [d6, h0, cond_true, cond_false]
      refine Run.go rfl ?_
      refine Run.le ?_ hK
      simp only [d6, h0, Nat.reduceBEq, Bool.false_or, Bool.true_or, cond_true, cond_false]
      exact St.Le.mk' ⟨rfl, rfl, rfl, rfl, rfl, rfl, rfl, rfl, rfl, rfl, rfl, rfl, rfl, rfl, rfl, rfl, rfl, trivial⟩ ⟨rfl, rfl, rfl, rfl, trivial⟩
    · intro D hid h0 hp hs rest hK
      obtain ⟨d2, -⟩ : AllD D false [2] := ideal_sub hs (by decide +kernel)
      simp only [d2, h0, cond_true, cond_false]
      refine Run.go rfl ?_
      refine Run.le ?_ hK
      simp only [d2, h0, Nat.reduceBEq, Bool.false_or, Bool.true_or, cond_true, cond_false]
      exact St.Le.mk' ⟨rfl, rfl, rfl, rfl, rfl, rfl, rfl, rfl, rfl, rfl, rfl, rfl, rfl, rfl, rfl, rfl, rfl, trivial⟩ ⟨rfl, rfl, rfl, rfl, trivial⟩
    · intro D hid h0 hp hs rest hK
      obtain ⟨d1, -⟩ : AllD D true [1] := ideal_sub hp (by decide +kernel)
      obtain ⟨d3, -⟩ : AllD D false [3] := ideal_sub hs (by decide +kernel)
      simp only [d1, d3, h0, cond_true, cond_false]
      refine Run.go rfl ?_
      refine Run.le ?_ hK
      simp only [d1, d3, h0, Nat.reduceBEq, Bool.false_or, Bool.true_or, cond_true, cond_false]
      exact St.Le.mk' ⟨rfl, rfl, rfl, rfl, rfl, rfl, rfl, rfl, rfl, rfl, rfl, rfl, rfl, rfl, rfl, rfl, rfl, trivial⟩ ⟨rfl, rfl, rfl, rfl, trivial⟩
    · intro D hid h0 hp hs rest hK
      obtain ⟨d2, -⟩ : AllD D true [2] := ideal_sub hp (by decide +kernel)
      obtain ⟨d6, -⟩ : AllD D false [6] := ideal_sub hs (by decide +kernel)
      simp only [d2, d6, h0, cond_true, cond_false]
      refine Run.go rfl ?_
      rw [hw]
      refine Run.le ?_ hK
      simp only [d2, d6, h0, Nat.reduceBEq, Bool.false_or, Bool.true_or, cond_true, cond_false]
      exact St.Le.mk' ⟨rfl, rfl, rfl, rfl, rfl, rfl, rfl, rfl, rfl, rfl, rfl, rfl, rfl, rfl, rfl, rfl, rfl, trivial⟩ ⟨rfl, rfl, rfl, rfl, trivial⟩
    · intro D hid h0 hp hs rest hK
      obtain ⟨d5, -⟩ : AllD D false [5] := ideal_sub hs (by decide +kernel)
      simp only [d5, h0, cond_true, cond_false]
      refine Run.go rfl ?_
      refine Run.le ?_ hK
      simp only [d5, h0, Nat.reduceBEq, Bool.false_or, Bool.true_or, cond_true, cond_false]
      exact St.Le.mk' ⟨rfl, rfl, rfl, rfl, rfl, rfl, rfl, rfl, rfl, rfl, rfl, rfl, rfl, rfl, rfl, rfl, rfl, trivial⟩ ⟨rfl, rfl, rfl, rfl, trivial⟩
    · intro D hid h0 hp hs rest hK
      obtain ⟨d4, -⟩ : AllD D true [4] := ideal_sub hp (by decide +kernel)
      obtain ⟨d6, -⟩ : AllD D false [6] := ideal_sub hs (by decide +kernel)
      simp only [d4, d6, h0, cond_true, cond_false]
      refine Run.go rfl ?_
      refine Run.le ?_ hK
      simp only [d4, d6, h0, Nat.reduceBEq, Bool.false_or, Bool.true_or, cond_true, cond_false]
      exact St.Le.mk' ⟨rfl, rfl, rfl, rfl, rfl, rfl, rfl, rfl, rfl, rfl, rfl, rfl, rfl, rfl, rfl, rfl, rfl, trivial⟩ ⟨rfl, rfl, rfl, rfl, trivial⟩
    · intro D hid h0 hp hs rest hK
      obtain ⟨d0, d3, d5, -⟩ : AllD D true [0, 3, 5] := ideal_sub hp (by decide +kernel)
      obtain ⟨d11, -⟩ : AllD D false [11] := ideal_sub hs (by decide +kernel)
      simp only [d0, d3, d5, d11, h0, cond_true, cond_false]
      refine Run.val rfl rfl rfl (ValOk.build rfl rfl rfl rfl rfl) rfl ?_
      refine Run.le ?_ hK
      simp only [d0, d3, d5, d11, h0, Nat.reduceBEq, Bool.false_or, Bool.true_or, cond_true, cond_false]
      exact St.Le.mk' ⟨rfl, rfl, rfl, rfl, rfl, rfl, rfl, rfl, rfl, rfl, rfl, rfl, rfl, rfl, rfl, rfl, rfl, trivial⟩ ⟨rfl, rfl, rfl, rfl, trivial⟩
    · intro D hid h0 hp hs rest hK
      obtain ⟨d10, -⟩ : AllD D false [10] := ideal_sub hs (by decide +kernel)
      simp only [d10, h0, cond_true, cond_false]
      refine Run.go rfl ?_
      refine Run.le ?_ hK
      simp only [d10, h0, Nat.reduceBEq, Bool.false_or, Bool.true_or, cond_true, cond_false]
      exact St.Le.mk' ⟨rfl, rfl, rfl, rfl, rfl, rfl, rfl, rfl, rfl, rfl, rfl, rfl, rfl, rfl, rfl, rfl, rfl, trivial⟩ ⟨rfl, rfl, rfl, rfl, trivial⟩
    · intro D hid h0 hp hs rest hK
      obtain ⟨d10, -⟩ : AllD D false [10] := ideal_sub hs (by decide +kernel)
      simp only [d10, h0, cond_true, cond_false]
      refine Run.go rfl ?_
      refine Run.le ?_ hK
      simp only [d10, h0, Nat.reduceBEq, Bool.false_or, Bool.true_or, cond_true, cond_false]
      exact St.Le.mk' ⟨rfl, rfl, rfl, rfl, rfl, rfl, rfl, rfl, rfl, rfl, rfl, rfl, rfl, rfl, rfl, rfl, rfl, trivial⟩ ⟨rfl, rfl, rfl, rfl, trivial⟩
    · intro D hid h0 hp hs rest hK
      obtain ⟨d10, -⟩ : AllD D false [10] := ideal_sub hs (by decide +kernel)
      simp only [d10, h0, cond_true, cond_false]
      refine Run.go rfl ?_
      refine Run.le ?_ hK
      simp only [d10, h0, Nat.reduceBEq, Bool.false_or, Bool.true_or, cond_true, cond_false]
      exact St.Le.mk' ⟨rfl, rfl, rfl, rfl, rfl, rfl, rfl, rfl, rfl, rfl, rfl, rfl, rfl, rfl, rfl, rfl, rfl, trivial⟩ ⟨rfl, rfl, rfl, rfl, trivial⟩
    · intro D hid h0 hp hs rest hK
      obtain ⟨d7, d8, d9, -⟩ : AllD D true [7, 8, 9] := ideal_sub hp (by decide +kernel)
      obtain ⟨d12, -⟩ : AllD D false [12] := ideal_sub hs (by decide +kernel)
      simp only [d7, d8, d9, d12, h0, cond_true, cond_false]
      refine Run.cs rfl (mayLend_ct d c e1 e2 e3 who hd) rfl rfl ?_
      refine Run.le ?_ hK
      simp only [d7, d8, d9, d12, h0, Nat.reduceBEq, Bool.false_or, Bool.true_or, cond_true, cond_false]
      exact St.Le.mk' ⟨rfl, rfl, rfl, rfl, rfl, rfl, rfl, rfl, rfl, rfl, rfl, rfl, rfl, rfl, rfl, rfl, rfl, trivial⟩ ⟨rfl, rfl, rfl, rfl, trivial⟩
    · intro D hid h0 hp hs rest hK
      obtain ⟨d6, -⟩ : AllD D true [6] := ideal_sub hp (by decide +kernel)
      obtain ⟨d12, -⟩ : AllD D false [12] := ideal_sub hs (by decide +kernel)
      simp only [d6, d12, h0, cond_true, cond_false]
      refine Run.go rfl ?_
      refine Run.le ?_ hK
      simp only [d6, d12, h0, Nat.reduceBEq, Bool.false_or, Bool.true_or, cond_true, cond_false]
      exact St.Le.mk' ⟨rfl, rfl, rfl, rfl, rfl, rfl, rfl, rfl, rfl, rfl, rfl, rfl, rfl, rfl, rfl, rfl, rfl, trivial⟩ ⟨rfl, rfl, rfl, rfl, trivial⟩
    · intro D hid h0 hp hs rest hK
      obtain ⟨d10, d11, -⟩ : AllD D true [10, 11] := ideal_sub hp (by decide +kernel)
      simp only [d10, d11, h0, cond_true, cond_false]
      refine Run.go rfl ?_
      refine Run.le ?_ hK
      simp only [d10, d11, h0, Nat.reduceBEq, Bool.false_or, Bool.true_or, cond_true, cond_false]
      exact St.Le.mk' ⟨rfl, rfl, rfl, rfl, rfl, rfl, rfl, rfl, rfl, rfl, rfl, rfl, rfl, rfl, rfl, rfl, rfl, trivial⟩ ⟨rfl, rfl, rfl, rfl, trivial⟩
    repeat (refine Run.go rfl ?_)
    exact Run.ret hg rfl rfl
  have h0 : ¬ what = 0 := by simpa using h0
  repeat (refine Run.go rfl ?_)
  refine Run.cond rfl (fun h1 => ?_) (fun h1 => ?_)
  · have h1 : what = 1 := by simpa using h1
    have hA : ∀ x : Cp, chA e3 what x = cpQ false x := fun x => by rw [chA, if_neg (by omega)]
    rw [hA, chC, if_neg h0, if_pos h1] at hg
    repeat (refine Run.go rfl ?_)
    refine Run.drawI (fun D => ⟨[(4, .bp (4, 0) 0), (5, .bp (5, 0) 0), (7, .bp (7, 0) 0), (8, .bp (8, 0) 0), (10, bo (c.q.any fun x => x == who)), (33, bif D 0 then cpR e3 c else .top), (34, bif D 1 then .bp (4, 0) 0 else .top), (35, bif D 2 then i16 d.day else .top), (36, bif D 7 then .top else bif D 3 then cpQ false (freeC c d.day) else .top), (37, bif D 4 then cpR e3 c else .top), (38, bif D 5 then i8 who else .top), (39, bif D 6 then bo (lentTo who c) else .top), (9, bif D 8 then bo (lentTo who c) else bo false)], [((4, 0), Ob.box (dkR e1 e2 d).cells), ((5, 0), Ob.box (cpR e3 c).cells), ((7, 0), Ob.box [i8 who]), ((8, 0), (bif D 7 then Ob.box [i8 (freeC c d.day).st, i8 (freeC c d.day).who, i16 (freeC c d.day).due, i8 (freeC c d.day).ren, .vec (36, 1) 0 ((freeC c d.day).q.map i8).length] else Ob.box [i8 0, i8 0, i16 0, i8 0, .lit (.slice none 0 0)])), ((36, 1), (bif D 7 then Ob.vec 1 false ((freeC c d.day).q.map i8) else Ob.gone))]⟩) (by decide +kernel) (by decide +kernel) ?_ ?_ fun k' => ⟨?_, ?_, ?_, ?_, ?_, ?_, ?_, ?_, ?_, trivial⟩
    · exact St.Le.mk' ⟨rfl, rfl, rfl, rfl, rfl, rfl, rfl, rfl, rfl, rfl, rfl, rfl, rfl, trivial⟩ ⟨rfl, rfl, rfl, rfl, rfl, trivial⟩
    rotate_left
    · intro D hid h0 hp hs rest hK
      obtain ⟨d3, d7, -⟩ : AllD D false [3, 7] := ideal_sub hs (by decide +kernel)
      simp only [d3, d7, h0, cond_true, cond_false]
      refine Run.go rfl ?_
      refine Run.le ?_ hK
      simp only [d3, d7, h0, Nat.reduceBEq, Bool.false_or, Bool.true_or, cond_true, cond_false]
      exact St.Le.mk' ⟨rfl, rfl, rfl, rfl, rfl, rfl, rfl, rfl, rfl, rfl, rfl, rfl, rfl, trivial⟩ ⟨rfl, rfl, rfl, rfl, rfl, trivial⟩
    · intro D hid h0 hp hs rest hK
      obtain ⟨d2, d7, -⟩ : AllD D false [2, 7] := ideal_sub hs (by decide +kernel)
      simp only [d2, d7, h0, cond_true, cond_false]
      refine Run.go rfl ?_
      refine Run.le ?_ hK
      simp only [d2, d7, h0, Nat.reduceBEq, Bool.false_or, Bool.true_or, cond_true, cond_false]
      exact St.Le.mk' ⟨rfl, rfl, rfl, rfl, rfl, rfl, rfl, rfl, rfl, rfl, rfl, rfl, rfl, trivial⟩ ⟨rfl, rfl, rfl, rfl, rfl, trivial⟩
    · intro D hid h0 hp hs rest hK
      obtain ⟨d1, -⟩ : AllD D true [1] := ideal_sub hp (by decide +kernel)
      obtain ⟨d3, d7, -⟩ : AllD D false [3, 7] := ideal_sub hs (by decide +kernel)
      simp only [d1, d3, d7, h0, cond_true, cond_false]
      refine Run.go rfl ?_
      refine Run.le ?_ hK
      simp only [d1, d3, d7, h0, Nat.reduceBEq, Bool.false_or, Bool.true_or, cond_true, cond_false]
      exact St.Le.mk' ⟨rfl, rfl, rfl, rfl, rfl, rfl, rfl, rfl, rfl, rfl, rfl, rfl, rfl, trivial⟩ ⟨rfl, rfl, rfl, rfl, rfl, trivial⟩
    · intro D hid h0 hp hs rest hK
      obtain ⟨d0, d2, -⟩ : AllD D true [0, 2] := ideal_sub hp (by decide +kernel)
      obtain ⟨d7, -⟩ : AllD D false [7] := ideal_sub hs (by decide +kernel)
      simp only [d0, d2, d7, h0, cond_true, cond_false]
      refine Run.cs rfl (freed_ct c e3 d.day hq (by omega)) rfl (cpQ_rf _ _) ?_
      refine Run.le ?_ hK
      simp only [d0, d2, d7, h0, Nat.reduceBEq, Bool.false_or, Bool.true_or, cond_true, cond_false]
      exact St.Le.mk' ⟨rfl, rfl, rfl, rfl, rfl, rfl, rfl, rfl, rfl, rfl, rfl, rfl, rfl, trivial⟩ ⟨rfl, rfl, rfl, rfl, rfl, trivial⟩
    · intro D hid h0 hp hs rest hK
      obtain ⟨d6, -⟩ : AllD D false [6] := ideal_sub hs (by decide +kernel)
      simp only [d6, h0, cond_true, cond_false]
      refine Run.go rfl ?_
      refine Run.le ?_ hK
      simp only [d6, h0, Nat.reduceBEq, Bool.false_or, Bool.true_or, cond_true, cond_false]
      exact St.Le.mk' ⟨rfl, rfl, rfl, rfl, rfl, rfl, rfl, rfl, rfl, rfl, rfl, rfl, rfl, trivial⟩ ⟨rfl, rfl, rfl, rfl, rfl, trivial⟩
    · intro D hid h0 hp hs rest hK
      obtain ⟨d6, -⟩ : AllD D false [6] := ideal_sub hs (by decide +kernel)
      simp only [d6, h0, cond_true, cond_false]
      refine Run.go rfl ?_
      refine Run.le ?_ hK
      simp only [d6, h0, Nat.reduceBEq, Bool.false_or, Bool.true_or, cond_true, cond_false]
      exact St.Le.mk' ⟨rfl, rfl, rfl, rfl, rfl, rfl, rfl, rfl, rfl, rfl, rfl, rfl, rfl, trivial⟩ ⟨rfl, rfl, rfl, rfl, rfl, trivial⟩
    · intro D hid h0 hp hs rest hK
      obtain ⟨d4, d5, -⟩ : AllD D true [4, 5] := ideal_sub hp (by decide +kernel)
      obtain ⟨d7, d8, -⟩ : AllD D false [7, 8] := ideal_sub hs (by decide +kernel)
      simp only [d4, d5, d7, d8, h0, cond_true, cond_false]
      refine Run.cs rfl (isLent_ct c e3 who) rfl rfl ?_
      refine Run.le ?_ hK
      simp only [d4, d5, d7, d8, h0, Nat.reduceBEq, Bool.false_or, Bool.true_or, cond_true, cond_false]
      exact St.Le.mk' ⟨rfl, rfl, rfl, rfl, rfl, rfl, rfl, rfl, rfl, rfl, rfl, rfl, rfl, trivial⟩ ⟨rfl, rfl, rfl, rfl, rfl, trivial⟩
    · intro D hid h0 hp hs rest hK
      obtain ⟨d0, d1, d2, d3, d6, -⟩ : AllD D true [0, 1, 2, 3, 6] := ideal_sub hp (by decide +kernel)
      obtain ⟨d8, -⟩ : AllD D false [8] := ideal_sub hs (by decide +kernel)
      have d4 : D 4 = true := hid 6 4 (by decide +kernel) (by decide +kernel) d6
      have d5 : D 5 = true := hid 6 5 (by decide +kernel) (by decide +kernel) d6
      simp only [d0, d1, d2, d3, d6, d8, d4, d5, h0, cond_true, cond_false]
      refine Run.unagg 36 4 (36, 1) rfl rfl (by cases D 8 <;> rfl) ?_
      refine Run.go rfl ?_
      refine Run.forget 36 ?_
      refine Run.le ?_ hK
      simp only [d0, d1, d2, d3, d6, d8, d4, d5, h0, Nat.reduceBEq, Bool.false_or, Bool.true_or, cond_true, cond_false]
      exact St.Le.mk' ⟨rfl, rfl, rfl, rfl, rfl, rfl, rfl, rfl, rfl, rfl, rfl, rfl, rfl, trivial⟩ ⟨rfl, rfl, rfl, rfl, rfl, trivial⟩
    · intro D hid h0 hp hs rest hK
      obtain ⟨d6, d7, -⟩ : AllD D true [6, 7] := ideal_sub hp (by decide +kernel)
      simp only [d6, d7, h0, cond_true, cond_false]
      refine Run.go rfl ?_
      refine Run.le ?_ hK
      simp only [d6, d7, h0, Nat.reduceBEq, Bool.false_or, Bool.true_or, cond_true, cond_false]
      exact St.Le.mk' ⟨rfl, rfl, rfl, rfl, rfl, rfl, rfl, rfl, rfl, rfl, rfl, rfl, rfl, trivial⟩ ⟨rfl, rfl, rfl, rfl, rfl, trivial⟩
    repeat (refine Run.go rfl ?_)
    refine Run.packBox (8, 0) 4 rfl rfl rfl rfl ?_
    exact Run.ret hg rfl rfl
  have h1 : ¬ what = 1 := by simpa using h1
  repeat (refine Run.go rfl ?_)
  refine Run.cond rfl (fun h2 => ?_) (fun h2 => ?_)
  · have h2 : what = 2 := by simpa using h2
    have hA : ∀ x : Cp, chA e3 what x = cpQ false x := fun x => by rw [chA, if_neg (by omega)]
    rw [hA, chC, if_neg h0, if_neg h1, if_pos h2] at hg
    refine Run.seqJ ⟨[(4, .bp (4, 0) 0), (5, .bp (5, 0) 0), (7, .bp (7, 0) 0), (8, .bp (8, 0) 0), (10, bo (c.q.any fun x => x == who)), (11, bo (ask2 who c))], [((4, 0), .box (dkR e1 e2 d).cells), ((5, 0), .box (cpR e3 c).cells), ((7, 0), .box [i8 who]), ((8, 0), .box [i8 0, i8 0, i16 0, i8 0, .lit (.slice none 0 0)])]⟩ (fun k' hN => ?_) ?_
    · repeat (refine Run.go rfl ?_)
      refine Run.bool 45 rfl (fun h => ?_) (fun h => ?_)
      · have h : c.st = 0 := by simpa using h
        repeat (refine Run.go rfl ?_)
        refine Run.bool 51 rfl (fun h' => ?_) (fun h' => by cases h')
        repeat (refine Run.go rfl ?_)
        refine Run.bool 54 rfl (fun h' => ?_) (fun h' => by cases h')
        repeat (refine Run.go rfl ?_)
        refine Run.of hN ⟨rfl, rfl, rfl, rfl, rfl, ?_, trivial⟩ ⟨rfl, rfl, rfl, rfl, trivial⟩
        show bo true = _
        rw [ask2, decide_eq_true h]
        rfl
      have h : ¬ c.st = 0 := by simpa using h
      repeat (refine Run.go rfl ?_)
      refine Run.bool 51 rfl (fun h' => ?_) (fun h' => ?_)
      · have h' : c.who = who := by simpa using h'
        repeat (refine Run.go rfl ?_)
        refine Run.bool 54 rfl (fun _ => ?_) (fun h' => by cases h')
        repeat (refine Run.go rfl ?_)
        refine Run.of hN ⟨rfl, rfl, rfl, rfl, rfl, ?_, trivial⟩ ⟨rfl, rfl, rfl, rfl, trivial⟩
        show bo true = _
        rw [ask2, decide_eq_true h', Bool.or_true, Bool.true_or, Bool.true_or]
      have h' : ¬ c.who = who := by simpa using h'
      repeat (refine Run.go rfl ?_)
      refine Run.bool 54 rfl (fun h2 => ?_) (fun h2 => ?_)
      · have h2 : (c.q.any fun x => x == who) = true := h2
        repeat (refine Run.go rfl ?_)
        refine Run.of hN ⟨rfl, rfl, rfl, rfl, rfl, ?_, trivial⟩ ⟨rfl, rfl, rfl, rfl, trivial⟩
        show bo true = _
        rw [ask2, h2, Bool.or_true, Bool.true_or]
      have h2 : (c.q.any fun x => x == who) = false := h2
      repeat (refine Run.go rfl ?_)
      refine Run.of hN ⟨rfl, rfl, rfl, rfl, rfl, ?_, trivial⟩ ⟨rfl, rfl, rfl, rfl, trivial⟩
      show bo (((c.q.map i8).length : Int) == 4) = _
      rw [ask2, h2, decide_eq_false h, decide_eq_false h', Bool.false_or, Bool.false_or, Bool.false_or, hcl]
      congr 1
      by_cases e : c.q.length = 4
      · rw [e]; rfl
      · rw [decide_eq_false e]
        simp
        omega
    obtain ⟨rf2, hrf⟩ : ∃ rf2, rf2 = ask2 who c := ⟨_, rfl⟩
    rw [← hrf] at hg ⊢
    repeat (refine Run.go rfl ?_)
    refine Run.drawI (fun D => ⟨[(4, .bp (4, 0) 0), (5, .bp (5, 0) 0), (7, .bp (7, 0) 0), (8, .bp (8, 0) 0), (10, bo (c.q.any fun x => x == who)), (11, bo rf2), (60, bif D 0 then .bp (5, 0) 4 else .top), (61, bif D 1 then .ro 1 e3 (c.q.map i8) else .top), (62, bif D 5 then .top else bif D 2 then .own 1 false (c.q.map i8) else .top), (63, bif D 3 then i8 who else .top), (64, bif D 5 then .top else bif D 4 then .own 1 true [i8 who] else .top), (65, bif D 7 then .top else bif D 5 then .own 1 false ((c.q.map i8) ++ [i8 who]) else .top), (66, bif D 6 then .bp (5, 0) 4 else .top)], [((4, 0), Ob.box (dkR e1 e2 d).cells), ((5, 0), (bif D 7 then Ob.box [i8 c.st, i8 c.who, i16 c.due, i8 c.ren, .vec (65, 0) 0 ((c.q.map i8) ++ [i8 who]).length] else Ob.box (cpR e3 c).cells)), ((7, 0), Ob.box [i8 who]), ((8, 0), Ob.box [i8 0, i8 0, i16 0, i8 0, .lit (.slice none 0 0)]), ((65, 0), (bif D 7 then Ob.vec 1 false ((c.q.map i8) ++ [i8 who]) else Ob.gone))]⟩) (by decide +kernel) (by decide +kernel) ?_ ?_ fun k' => ⟨?_, ?_, ?_, ?_, ?_, ?_, ?_, ?_, trivial⟩
    · exact St.Le.mk' ⟨rfl, rfl, rfl, rfl, rfl, rfl, rfl, rfl, rfl, rfl, rfl, rfl, rfl, trivial⟩ ⟨rfl, rfl, rfl, rfl, rfl, trivial⟩
    rotate_left
    · intro D hid h0 hp hs rest hK
      obtain ⟨d1, d7, -⟩ : AllD D false [1, 7] := ideal_sub hs (by decide +kernel)
      simp only [d1, d7, h0, cond_true, cond_false]
      refine Run.go rfl ?_
      refine Run.le ?_ hK
      simp only [d1, d7, h0, Nat.reduceBEq, Bool.false_or, Bool.true_or, cond_true, cond_false]
      exact St.Le.mk' ⟨rfl, rfl, rfl, rfl, rfl, rfl, rfl, rfl, rfl, rfl, rfl, rfl, rfl, trivial⟩ ⟨rfl, rfl, rfl, rfl, rfl, trivial⟩
    · intro D hid h0 hp hs rest hK
      obtain ⟨d0, -⟩ : AllD D true [0] := ideal_sub hp (by decide +kernel)
      obtain ⟨d2, d7, -⟩ : AllD D false [2, 7] := ideal_sub hs (by decide +kernel)
      have d5 : D 5 = false := ideal_no (i := 5) (j := 2) hid (by decide +kernel) d2
      have d7 : D 7 = false := ideal_no (i := 7) (j := 5) hid (by decide +kernel) d5
      simp only [d0, d2, d7, d5, d7, h0, cond_true, cond_false]
      refine Run.go rfl ?_
      refine Run.le ?_ hK
      simp only [d0, d2, d7, d5, d7, h0, Nat.reduceBEq, Bool.false_or, Bool.true_or, cond_true, cond_false]
      exact St.Le.mk' ⟨rfl, rfl, rfl, rfl, rfl, rfl, rfl, rfl, rfl, rfl, rfl, rfl, rfl, trivial⟩ ⟨rfl, rfl, rfl, rfl, rfl, trivial⟩
    · intro D hid h0 hp hs rest hK
      obtain ⟨d1, -⟩ : AllD D true [1] := ideal_sub hp (by decide +kernel)
      obtain ⟨d5, d7, -⟩ : AllD D false [5, 7] := ideal_sub hs (by decide +kernel)
      simp only [d1, d5, d7, h0, cond_true, cond_false]
      refine Run.cs rfl (clone8_ct c.q e3 hq) rfl (rf8 _) ?_
      refine Run.le ?_ hK
      simp only [d1, d5, d7, h0, Nat.reduceBEq, Bool.false_or, Bool.true_or, cond_true, cond_false]
      exact St.Le.mk' ⟨rfl, rfl, rfl, rfl, rfl, rfl, rfl, rfl, rfl, rfl, rfl, rfl, rfl, trivial⟩ ⟨rfl, rfl, rfl, rfl, rfl, trivial⟩
    · intro D hid h0 hp hs rest hK
      obtain ⟨d4, d7, -⟩ : AllD D false [4, 7] := ideal_sub hs (by decide +kernel)
      simp only [d4, d7, h0, cond_true, cond_false]
      refine Run.go rfl ?_
      refine Run.le ?_ hK
      simp only [d4, d7, h0, Nat.reduceBEq, Bool.false_or, Bool.true_or, cond_true, cond_false]
      exact St.Le.mk' ⟨rfl, rfl, rfl, rfl, rfl, rfl, rfl, rfl, rfl, rfl, rfl, rfl, rfl, trivial⟩ ⟨rfl, rfl, rfl, rfl, rfl, trivial⟩
    · intro D hid h0 hp hs rest hK
      obtain ⟨d3, -⟩ : AllD D true [3] := ideal_sub hp (by decide +kernel)
      obtain ⟨d5, d7, -⟩ : AllD D false [5, 7] := ideal_sub hs (by decide +kernel)
      simp only [d3, d5, d7, h0, cond_true, cond_false]
      refine Run.buildSlice [i8 who] rfl rfl rfl rfl rfl rfl rfl rfl rfl rfl rfl rfl rfl rfl ?_
      refine Run.le ?_ hK
      simp only [d3, d5, d7, h0, Nat.reduceBEq, Bool.false_or, Bool.true_or, cond_true, cond_false]
      exact St.Le.mk' ⟨rfl, rfl, rfl, rfl, rfl, rfl, rfl, rfl, rfl, rfl, rfl, rfl, rfl, trivial⟩ ⟨rfl, rfl, rfl, rfl, rfl, trivial⟩
    · intro D hid h0 hp hs rest hK
      obtain ⟨d2, d4, -⟩ : AllD D true [2, 4] := ideal_sub hp (by decide +kernel)
      obtain ⟨d7, -⟩ : AllD D false [7] := ideal_sub hs (by decide +kernel)
      have d1 : D 1 = true := hid 2 1 (by decide +kernel) (by decide +kernel) d2
      have d0 : D 0 = true := hid 1 0 (by decide +kernel) (by decide +kernel) d1
      have d3 : D 3 = true := hid 4 3 (by decide +kernel) (by decide +kernel) d4
      simp only [d2, d4, d7, d1, d0, d3, h0, cond_true, cond_false]
      refine Run.unpack 62 rfl (by cases D 6 <;> rfl) ?_
      refine Run.appendo (id := (62, 0)) rfl rfl rfl rfl rfl rfl rfl rfl rfl rfl rfl rfl rfl rfl (by show (_ + 1) * 1 ≤ _; rw [hcl]; omega) (by rw [hcl]; show _ + 1 ≤ 9223372036854775807; omega) (by decide) rfl ?_
      refine Run.forget 62 ?_
      refine Run.le ?_ hK
      simp only [d2, d4, d7, d1, d0, d3, h0, Nat.reduceBEq, Bool.false_or, Bool.true_or, cond_true, cond_false]
      exact St.Le.mk' ⟨rfl, rfl, rfl, rfl, rfl, rfl, rfl, rfl, rfl, rfl, rfl, rfl, rfl, trivial⟩ ⟨rfl, rfl, rfl, rfl, rfl, trivial⟩
    · intro D hid h0 hp hs rest hK
      obtain ⟨d7, -⟩ : AllD D false [7] := ideal_sub hs (by decide +kernel)
      simp only [d7, h0, cond_true, cond_false]
      refine Run.go rfl ?_
      refine Run.le ?_ hK
      simp only [d7, h0, Nat.reduceBEq, Bool.false_or, Bool.true_or, cond_true, cond_false]
      exact St.Le.mk' ⟨rfl, rfl, rfl, rfl, rfl, rfl, rfl, rfl, rfl, rfl, rfl, rfl, rfl, trivial⟩ ⟨rfl, rfl, rfl, rfl, rfl, trivial⟩
    · intro D hid h0 hp hs rest hK
      obtain ⟨d0, d1, d2, d3, d4, d5, d6, -⟩ : AllD D true [0, 1, 2, 3, 4, 5, 6] := ideal_sub hp (by decide +kernel)
      simp only [d0, d1, d2, d3, d4, d5, d6, h0, cond_true, cond_false]
      refine Run.unpack 65 rfl rfl ?_
      refine Run.go rfl ?_
      refine Run.forget 65 ?_
      refine Run.le ?_ hK
      simp only [d0, d1, d2, d3, d4, d5, d6, h0, Nat.reduceBEq, Bool.false_or, Bool.true_or, cond_true, cond_false]
      exact St.Le.mk' ⟨rfl, rfl, rfl, rfl, rfl, rfl, rfl, rfl, rfl, rfl, rfl, rfl, rfl, trivial⟩ ⟨rfl, rfl, rfl, rfl, rfl, trivial⟩
    repeat (refine Run.go rfl ?_)
    refine Run.packBox (8, 0) 4 rfl rfl rfl rfl ?_
    refine Run.ret hg rfl ?_
    show AV.tup [.agg [_, _, _, _, .own 1 false (c.q.map i8 ++ [i8 who])], _] = AV.tup [.agg [_, _, _, _, .own 1 false ((c.q ++ [who]).map i8)], _]
    rw [List.map_append]
    rfl
  have h2 : ¬ what = 2 := by simpa using h2
  repeat (refine Run.go rfl ?_)
  refine Run.cond rfl (fun h3 => ?_) (fun h3 => ?_)
  · have h3 : what = 3 := by simpa using h3
    have hA : ∀ x : Cp, chA e3 what x = cpR e3 x := fun x => by rw [chA, if_pos (.inr h3)]
    rw [hA, chC, if_neg h0, if_neg h1, if_neg h2, if_pos h3] at hg
    have hw8 : IntKind.i8.wrap (c.ren + 1) = c.ren + 1 := wrap_i8 (by omega) (by omega)
    refine Run.seqJ ⟨[(4, .bp (4, 0) 0), (5, .bp (5, 0) 0), (7, .bp (7, 0) 0), (8, .bp (8, 0) 0), (12, bo (ren3 d who c))], [((4, 0), .box (dkR e1 e2 d).cells), ((5, 0), .box (cpR e3 c).cells), ((7, 0), .box [i8 who]), ((8, 0), .box [i8 0, i8 0, i16 0, i8 0, .lit (.slice none 0 0)])]⟩ (fun k' hN => ?_) ?_
    · repeat (refine Run.go rfl ?_)
      refine Run.cs rfl (isLent_ct c e3 who) rfl rfl ?_
      repeat (refine Run.go rfl ?_)
      refine Run.bool 76 rfl (fun h => ?_) (fun h => ?_)
      · have h : (!lentTo who c) = true := h
        repeat (refine Run.go rfl ?_)
        refine Run.bool 81 rfl (fun h' => ?_) (fun h' => by cases h')
        repeat (refine Run.go rfl ?_)
        refine Run.bool 87 rfl (fun h' => ?_) (fun h' => by cases h')
        repeat (refine Run.go rfl ?_)
        refine Run.of hN ⟨rfl, rfl, rfl, rfl, ?_, trivial⟩ ⟨rfl, rfl, rfl, rfl, trivial⟩
        show bo true = _
        rw [ren3, h]
        rfl
      have h : (!lentTo who c) = false := h
      repeat (refine Run.go rfl ?_)
      refine Run.cs rfl (isOverdue_ct d c e1 e2 e3) rfl rfl ?_
      repeat (refine Run.go rfl ?_)
      refine Run.bool 81 rfl (fun h' => ?_) (fun h' => ?_)
      · have h' : over d.day c = true := h'
        repeat (refine Run.go rfl ?_)
        refine Run.bool 87 rfl (fun _ => ?_) (fun h' => by cases h')
        repeat (refine Run.go rfl ?_)
        refine Run.of hN ⟨rfl, rfl, rfl, rfl, ?_, trivial⟩ ⟨rfl, rfl, rfl, rfl, trivial⟩
        show bo true = _
        rw [ren3, h', Bool.or_true, Bool.true_or, Bool.true_or]
      have h' : over d.day c = false := h'
      repeat (refine Run.go rfl ?_)
      refine Run.bool 87 rfl (fun h2 => ?_) (fun h2 => ?_)
      · have h2 : 0 < c.q.length := by simpa using h2
        repeat (refine Run.go rfl ?_)
        refine Run.of hN ⟨rfl, rfl, rfl, rfl, ?_, trivial⟩ ⟨rfl, rfl, rfl, rfl, trivial⟩
        show bo true = _
        rw [ren3, decide_eq_true h2, Bool.or_true, Bool.true_or]
      have h2 : ¬ 0 < c.q.length := by simpa using h2
      repeat (refine Run.go rfl ?_)
      refine Run.of hN ⟨rfl, rfl, rfl, rfl, ?_, trivial⟩ ⟨rfl, rfl, rfl, rfl, trivial⟩
      show bo (c.ren == 2) = _
      rw [ren3, h, h', decide_eq_false h2, Bool.false_or, Bool.false_or, Bool.false_or]
      rfl
    repeat (refine Run.go rfl ?_)
    refine Run.ret hg rfl ?_
    show AV.tup [.agg [i8 c.st, i8 c.who, i16 (IntKind.i16.wrap (d.day + 28)), i8 (IntKind.i8.wrap (c.ren + 1)), _], _] = _
    rw [hw, hw8]
    rfl
  have h3 : ¬ what = 3 := by simpa using h3
  have hA : ∀ x : Cp, chA e3 what x = cpQ false x := fun x => by rw [chA, if_neg (by omega)]
  rw [hA, chC, if_neg h0, if_neg h1, if_neg h2, if_neg h3] at hg
  repeat (refine Run.go rfl ?_)
  refine Run.cs rfl (isHeld_ct c e3 who) rfl rfl ?_
  repeat (refine Run.go rfl ?_)
  refine Run.cond rfl (fun h => ?_) (fun h => ?_)
  · have h : c.st = 2 ∧ c.who = who := by
      have h : (decide (c.st = 2) && decide (c.who = who)) = true := h
      simpa using h
    rw [if_pos h] at hg
    repeat (refine Run.go rfl ?_)
    refine Run.cs rfl (freed_ct c e3 d.day hq (by omega)) rfl (cpQ_rf _ _) ?_
    refine Run.unagg 109 4 (109, 1) rfl rfl rfl ?_
    repeat (refine Run.go rfl ?_)
    refine Run.packBox (8, 0) 4 rfl rfl rfl rfl ?_
    exact Run.ret hg rfl rfl
  have h : ¬ (c.st = 2 ∧ c.who = who) := by
    have h : (decide (c.st = 2) && decide (c.who = who)) = false := h
    simpa using h
  rw [if_neg h] at hg
  repeat (refine Run.go rfl ?_)
  refine Run.cs rfl (clone8_ct c.q e3 hq) rfl (rf8 _) ?_
  refine Run.unpack 112 rfl rfl ?_
  refine Run.freezeBox 7 (7, 0) [i8 who] rfl rfl rfl rfl ?_
  repeat (refine Run.go rfl ?_)
  refine Run.callg (112, 0) rfl rfl rfl rfl rfl rfl rfl rfl rfl rfl rfl rfl (deleteI8_ct c.q false 100 [i8 who] (fun x => x == who) hq fun x _ => changed1_ct x who) rfl ?_
  refine Run.unpack 114 rfl rfl ?_
  repeat (refine Run.go rfl ?_)
  refine Run.packBox (8, 0) 4 rfl rfl rfl rfl ?_
  exact Run.ret hg rfl rfl
end Go.Proofs.Ytlccbfdeonmljaa

/- Contracts of the program's functions, and what follows from them. -/
set_option maxRecDepth 100000
namespace Go.Proofs.Ytlccbfdeonmljaa
open Go Go.Av

/-! Desks that change: an act. -/

structure Ac where
  what : Int
  who : Int
  book : Int
  deriving DecidableEq
def acA (a : Ac) : AV := .agg [i8 a.what, i8 a.who, i8 a.book]
def acRng (a : Ac) : Prop := i8r a.what ∧ i8r a.who ∧ i8r a.book

/-- What is known of a desk that takes acts. -/
structure WD (d : Dk) : Prop where
  day : 0 ≤ d.day ∧ d.day ≤ 10000
  len : d.cs.length ≤ 60
  cp : ∀ c ∈ d.cs, cpRng c ∧ (0 ≤ c.ren ∧ c.ren ≤ 2) ∧ (0 ≤ c.due ∧ c.due ≤ 10028) ∧ c.q.length ≤ 4
  st : ∀ c ∈ d.cs, (c.st = 0 ∨ c.st = 1 ∨ c.st = 2) ∧ c.q.Nodup
theorem WD.ok {d : Dk} (h : WD d) : dkOk d := ⟨by have := h.len; omega, fun c hc => by have := (h.cp c hc).2.2.2; omega⟩
theorem WD.rng {d : Dk} (h : WD d) : dkRng d := ⟨by have := h.day; unfold i16r; omega, fun c hc => (h.cp c hc).1⟩
theorem vC_wd {c : Cp} {day : Int} (h : vC c day = true) : (0 ≤ c.ren ∧ c.ren ≤ 2) ∧ c.q.length ≤ 4 := by
  unfold vC at h
  split at h
  · simp only [Bool.and_eq_true, decide_eq_true_eq] at h
    rw [h.1.2, h.2]
    exact ⟨by omega, by simp⟩
  · simp only [Bool.and_eq_true, decide_eq_true_eq, inr] at h
    refine ⟨?_, h.1.1.2⟩
    have h2 := h.2
    split at h2
    · simp only [Bool.and_eq_true, decide_eq_true_eq] at h2
      omega
    · simp only [Bool.and_eq_true, decide_eq_true_eq] at h2
      omega
theorem vC_nd {c : Cp} {day : Int} (h : vC c day = true) : (c.st = 0 ∨ c.st = 1 ∨ c.st = 2) ∧ c.q.Nodup := by
  unfold vC at h
  split at h
  · rename_i e
    simp only [Bool.and_eq_true, decide_eq_true_eq] at h
    rw [h.2]
    exact ⟨.inl e, List.nodup_nil⟩
  · simp only [Bool.and_eq_true, Bool.or_eq_true, decide_eq_true_eq, qOk] at h
    refine ⟨?_, (List.nodup_cons.1 h.1.2.2).2⟩
    rcases h.1.1.1.1.1 with e | e
    · exact .inr (.inl e)
    · exact .inr (.inr e)
theorem vD_wd {d : Dk} (h : vD d = true) (hr : dkRng d) : WD d :=
  ⟨vD_day h, vD_len h, fun c hc => ⟨hr.2 c hc, (vC_wd (vD_cp h c hc)).1, vC_due (vD_cp h c hc), (vC_wd (vD_cp h c hc)).2⟩, fun c hc => vC_nd (vD_cp h c hc)⟩

def apR (d : Dk) (a : Ac) : Dk × Int × Int :=
  if inr a.what 0 5 = false then (dk0, 0, 2)
  else if a.what = 5 then (if a.who ≠ 0 ∨ a.book ≠ 0 then (dk0, 0, 2) else if d.day = 10000 then (dk0, 0, 4) else (nxD d, 0, 0))
  else if (inr a.who 0 49 && inr a.book 0 (d.cs.length - 1)) = false then (dk0, 0, 2)
  else if (chC d (d.cs.getD a.book.toNat cp0) a.what a.who).2 = false then (dk0, 0, 4)
  else (⟨d.day, d.cs.set a.book.toNat (chC d (d.cs.getD a.book.toNat cp0) a.what a.who).1⟩, if a.what = 1 then fineP d.day (d.cs.getD a.book.toNat cp0) else 0, 0)
def apA (x : Dk × Int × Int) : AV := .tup [dkQ false false x.1, i64 x.2.1, i64 x.2.2]

theorem chC_len {d : Dk} {c : Cp} {what who : Int} (h : c.q.length ≤ 4) : (chC d c what who).1.q.length ≤ 5 := by
  have hf : (freeC c d.day).q.length ≤ 5 := by
    unfold freeC
    split
    · simp [cp0]
    · rename_i e; rw [e] at h; simp at h ⊢; omega
  unfold chC
  split
  · show c.q.length ≤ 5; omega
  · split
    · exact hf
    · split
      · show (c.q ++ [who]).length ≤ 5; simp; omega
      · split
        · show c.q.length ≤ 5; omega
        · split
          · exact hf
          · show (c.q.filter _).length ≤ 5
            have := List.length_filter_le (fun x => !(x == who)) c.q
            omega

noncomputable def X80 : Fx := ⟨Try.prog, tys, 80, Try.f80, [0, 1, 2]⟩
theorem X80_ok : X80.Ok := ⟨Try.func80, tys_ok⟩
theorem withinI_ct (a b c : Int) : Ct Try.prog 80 [i64 a, i64 b, i64 c] (bo (inr a b c)) [] := by
  refine Ct.intro X80 X80_ok rfl rfl rfl rfl fun g hg => ?_
  repeat (refine Run.go rfl ?_)
  refine Run.bool 10 rfl (fun h => ?_) (fun h => ?_)
  · repeat (refine Run.go rfl ?_)
    refine Run.ret hg rfl ?_
    have h : b ≤ a := by simpa using h
    show bo (decide (a ≤ c)) = bo (decide (b ≤ a) && decide (a ≤ c))
    rw [decide_eq_true h, Bool.true_and]
  · repeat (refine Run.go rfl ?_)
    refine Run.ret hg rfl ?_
    have h : ¬ b ≤ a := by simpa using h
    show bo false = bo (decide (b ≤ a) && decide (a ≤ c))
    rw [decide_eq_false h, Bool.false_and]

noncomputable def X39 : Fx := ⟨Try.prog, tys, 39, Try.f39, [0, 1]⟩
theorem X39_ok : X39.Ok := ⟨Try.func39, tys_ok⟩
theorem apply_ct (d : Dk) (e1 e2 : Bool) (a : Ac) (hW : WD d) (ha : acRng a) : Ct Try.prog 39 [dkR e1 e2 d, acA a] (apA (apR d a)) [] := by
  obtain ⟨what, who, book⟩ := a
  obtain ⟨ha1, ha2, ha3⟩ := ha
  simp only at ha1 ha2 ha3
  have hd := hW.ok
  have hday := hW.day
  refine Ct.intro X39 X39_ok rfl (by kernel_rfl) rfl rfl fun g hg => ?_
  repeat (refine Run.go rfl ?_)
  refine Run.cs rfl (within8_ct what 0 5) rfl rfl ?_
  repeat (refine Run.go rfl ?_)
  refine Run.cond rfl (fun h => ?_) (fun h => ?_)
  · have h : inr what 0 5 = false := by simpa using h
    rw [apR, if_pos h] at hg
    repeat (refine Run.go rfl ?_)
    refine Run.val rfl rfl rfl (ValOk.build rfl rfl rfl rfl rfl) rfl ?_
    repeat (refine Run.go rfl ?_)
    refine Run.nilBox (4, 0) 1 5 false rfl rfl ?_
    exact Run.ret hg rfl rfl
  have hin : inr what 0 5 = true := by simpa using h
  rw [apR, if_neg (by rw [hin]; decide)] at hg
  simp only at hg
  repeat (refine Run.go rfl ?_)
  refine Run.cond rfl (fun h5 => ?_) (fun h5 => ?_)
  · have h5 : what = 5 := by simpa using h5
    rw [if_pos h5] at hg
    repeat (refine Run.go rfl ?_)
    refine Run.bool 27 rfl (fun h => ?_) (fun h => ?_)
    · have h : ¬ who = 0 := by simpa using h
      rw [if_pos (.inl h)] at hg
      repeat (refine Run.go rfl ?_)
      refine Run.cond rfl (fun _ => ?_) (fun h => by cases h)
      repeat (refine Run.go rfl ?_)
      refine Run.val rfl rfl rfl (ValOk.build rfl rfl rfl rfl rfl) rfl ?_
      repeat (refine Run.go rfl ?_)
      refine Run.nilBox (4, 0) 1 5 false rfl rfl ?_
      exact Run.ret hg rfl rfl
    have hw0 : who = 0 := by simpa using h
    repeat (refine Run.go rfl ?_)
    refine Run.cond rfl (fun h => ?_) (fun h => ?_)
    · have h : ¬ book = 0 := by simpa using h
      rw [if_pos (.inr h)] at hg
      repeat (refine Run.go rfl ?_)
      refine Run.val rfl rfl rfl (ValOk.build rfl rfl rfl rfl rfl) rfl ?_
      repeat (refine Run.go rfl ?_)
      refine Run.nilBox (4, 0) 1 5 false rfl rfl ?_
      exact Run.ret hg rfl rfl
    have hb0 : book = 0 := by simpa using h
    rw [if_neg (by omega)] at hg
    have hnx := nextDay_ct d e1 e2 hd hday
    repeat (refine Run.go rfl ?_)
    by_cases hl : d.day = 10000
    · rw [nxR, if_pos hl] at hnx
      rw [if_pos hl] at hg
      refine Run.cs rfl hnx rfl (by simp only [AV.rf, AV.rfL, dkQ_rf]; rfl) ?_
      repeat (refine Run.go rfl ?_)
      refine Run.unagg 36 1 (36, 1) rfl rfl rfl ?_
      repeat (refine Run.go rfl ?_)
      refine Run.cond rfl (fun _ => ?_) (fun h => by cases h)
      repeat (refine Run.go rfl ?_)
      refine Run.val rfl rfl rfl (ValOk.build rfl rfl rfl rfl rfl) rfl ?_
      repeat (refine Run.go rfl ?_)
      refine Run.nilBox (4, 0) 1 5 false rfl rfl ?_
      exact Run.ret hg rfl rfl
    rw [nxR, if_neg hl] at hnx
    rw [if_neg hl] at hg
    refine Run.cs rfl hnx rfl (by simp only [AV.rf, AV.rfL, dkQ_rf]; rfl) ?_
    repeat (refine Run.go rfl ?_)
    refine Run.unagg 36 1 (36, 1) rfl rfl rfl ?_
    repeat (refine Run.go rfl ?_)
    refine Run.cond rfl (fun h => by cases h) (fun _ => ?_)
    repeat (refine Run.go rfl ?_)
    refine Run.packBox (4, 0) 1 rfl rfl rfl rfl ?_
    exact Run.ret hg rfl rfl
  have h5 : ¬ what = 5 := by simpa using h5
  rw [if_neg h5] at hg
  repeat (refine Run.go rfl ?_)
  refine Run.cs rfl (isPerson8_ct who ha2) rfl rfl ?_
  repeat (refine Run.go rfl ?_)
  refine Run.bool 47 rfl (fun h => ?_) (fun h => ?_)
  · have h : inr who 0 49 = false := by simpa using h
    rw [if_pos (by rw [h]; rfl)] at hg
    repeat (refine Run.go rfl ?_)
    refine Run.cond rfl (fun _ => ?_) (fun h => by cases h)
    repeat (refine Run.go rfl ?_)
    refine Run.val rfl rfl rfl (ValOk.build rfl rfl rfl rfl rfl) rfl ?_
    repeat (refine Run.go rfl ?_)
    refine Run.nilBox (4, 0) 1 5 false rfl rfl ?_
    exact Run.ret hg rfl rfl
  have hwho : inr who 0 49 = true := by simpa using h
  have hl60 := hW.len
  have hwb : IntKind.i64.wrap book = book := wrap_i64 (by have := ha3.1; omega) (by have := ha3.2; omega)
  repeat (refine Run.go rfl ?_)
  refine Run.cs rfl (withinI_ct book 0 (d.cs.length - 1)) (by show [i64 (IntKind.i64.wrap book), _, i64 (IntKind.i64.wrap (((d.cs.map (cpR e2)).length : Int) - 1))] = _; rw [hwb, List.length_map, wrap_i64 (by omega) (by omega)]; rfl) rfl ?_
  repeat (refine Run.go rfl ?_)
  refine Run.cond rfl (fun h => ?_) (fun h => ?_)
  · have h : inr book 0 (d.cs.length - 1) = false := by simpa using h
    rw [if_pos (by rw [h, Bool.and_false])] at hg
    repeat (refine Run.go rfl ?_)
    refine Run.val rfl rfl rfl (ValOk.build rfl rfl rfl rfl rfl) rfl ?_
    repeat (refine Run.go rfl ?_)
    refine Run.nilBox (4, 0) 1 5 false rfl rfl ?_
    exact Run.ret hg rfl rfl
  have hbk : inr book 0 (d.cs.length - 1) = true := by simpa using h
  rw [if_neg (by rw [hwho, hbk]; decide)] at hg
  obtain ⟨j, rfl⟩ : ∃ j : Nat, book = (j : Int) := ⟨book.toNat, by simp [inr] at hbk; omega⟩
  have hj : j < d.cs.length := by simp [inr] at hbk; omega
  rw [Int.toNat_natCast] at hg
  have hgc : d.cs.getD j cp0 = d.cs[j] := by simp [hj]
  rw [hgc] at hg
  have hcw := hW.cp d.cs[j] (by simp)
  have hat : (d.cs.map (cpR e2))[((j : Int)).toNat]? = some (cpR e2 d.cs[j]) := by rw [Int.toNat_natCast, List.getElem?_map, List.getElem?_eq_getElem hj]; rfl
  have hat2 : (d.cs.map (cpQ false))[j]? = some (cpQ false d.cs[j]) := by rw [List.getElem?_map, List.getElem?_eq_getElem hj]; rfl
  generalize d.cs[j] = c at hg hcw hat hat2
  obtain ⟨hc1, hc2, hc3, hc4⟩ := hcw
  have hcl := chC_len (d := d) (c := c) (what := what) (who := who) hc4
  have hch := changed_ct d c e1 e2 e2 what who hd (by omega) hday hc2
  obtain ⟨R, hR⟩ : ∃ R, R = chC d c what who := ⟨_, rfl⟩
  rw [← hR] at hg hcl hch
  obtain ⟨c', ok⟩ := R
  simp only at hg hcl hch
  obtain ⟨ef, hef⟩ : ∃ ef, (chA e2 what c').frz = cpR ef c' := by
    unfold chA
    split
    · exact ⟨e2, by simp only [cpR, AV.frz, AV.frzL]⟩
    · exact ⟨false, cpQ_frz _ _⟩
  repeat (refine Run.go rfl ?_)
  refine Run.val rfl rfl rfl (ValOk.idx (m := (j : Int)) (cpR e2 c) rfl rfl rfl rfl rfl (by omega) hat) rfl ?_
  repeat (refine Run.go rfl ?_)
  refine Run.callp rfl rfl rfl rfl rfl rfl rfl rfl rfl hch (by decide) (by decide) ?_
  refine Run.freeze (v' := .tup [cpR ef c', bo ok]) 72 rfl rfl (by show AV.tup [(chA e2 what c').frz, _] = _; rw [hef]; rfl) ?_
  refine Run.le (st' := ⟨[(2, .bp (2, 0) 0), (3, .bp (3, 0) 0), (4, .bp (4, 0) 0), (9, .bp (9, 0) 0), (72, .tup [cpR ef c', bo ok])], [((2, 0), .box (dkR e1 e2 d).cells), ((3, 0), .box [i8 what, i8 who, i8 j]), ((4, 0), .box [i16 0, .lit (.slice none 0 0)]), ((9, 0), .box (cpR e2 c).cells)]⟩) (St.Le.mk' ⟨rfl, rfl, rfl, rfl, rfl, trivial⟩ ⟨rfl, rfl, rfl, rfl, trivial⟩) ?_
  repeat (refine Run.go rfl ?_)
  refine Run.cond rfl (fun h => ?_) (fun h => ?_)
  · have h : ok = false := by simpa using h
    rw [if_pos h] at hg
    repeat (refine Run.go rfl ?_)
    refine Run.val rfl rfl rfl (ValOk.build rfl rfl rfl rfl rfl) rfl ?_
    repeat (refine Run.go rfl ?_)
    refine Run.nilBox (4, 0) 1 5 false rfl rfl ?_
    exact Run.ret hg rfl rfl
  have hok : ok = true := by simpa using h
  rw [if_neg (by rw [hok]; decide)] at hg
  repeat (refine Run.go rfl ?_)
  refine Run.cs rfl (dkOwn_ct d e1 e2 hd) rfl (dkQ_rf _ _ _) ?_
  repeat (refine Run.go rfl ?_)
  refine Run.unagg 79 1 (79, 1) rfl rfl rfl ?_
  repeat (refine Run.go rfl ?_)
  have hcq : c'.q.length ≤ 1048576 := by omega
  refine Run.condJ ⟨[(3, .bp (3, 0) 0), (4, .bp (4, 0) 0), (10, .bp (10, 0) 0), (12, .bp (12, 0) 0), (13, i64 (if what = 1 then fineP d.day c else 0))],
    [((3, 0), .box [i8 what, i8 who, i8 j]), ((4, 0), .box [i16 0, .lit (.slice none 0 0)]), ((10, 0), .box (cpR ef c').cells), ((12, 0), .box [i16 d.day, .vec (79, 1) 0 (d.cs.map (cpQ false)).length]), ((79, 1), .vec 5 false (d.cs.map (cpQ false)))]⟩ rfl (fun h1 k' hN => ?_) (fun h1 k' hN => ?_) ?_
  · have h1 : what = 1 := by simpa using h1
    rw [if_pos h1] at hN
    repeat (refine Run.go rfl ?_)
    refine Run.cs rfl (fine_ct d c e1 e2 e2 hday hc3) rfl rfl ?_
    repeat (refine Run.go rfl ?_)
    exact Run.of hN ⟨rfl, rfl, rfl, rfl, rfl, trivial⟩ ⟨rfl, rfl, rfl, rfl, rfl, trivial⟩
  · have h1 : ¬ what = 1 := by simpa using h1
    rw [if_neg h1] at hN
    repeat (refine Run.go rfl ?_)
    exact Run.of hN ⟨rfl, rfl, rfl, rfl, rfl, trivial⟩ ⟨rfl, rfl, rfl, rfl, rfl, trivial⟩
  repeat (refine Run.go rfl ?_)
  refine Run.cs rfl (clone8_ct c'.q ef hcq) rfl (rf8 _) ?_
  repeat (refine Run.go rfl ?_)
  refine Run.unpack 88 rfl rfl ?_
  repeat (refine Run.go rfl ?_)
  have hlm : (d.cs.map (cpQ false)).length = d.cs.length := List.length_map ..
  refine Run.val rfl rfl rfl (ValOk.idxv (m := (j : Int)) rfl rfl rfl rfl rfl rfl (by omega) (by omega)) rfl ?_
  rw [show 0 + ((j : Int)).toNat = j by simp]
  refine Run.packAgg 94 4 rfl rfl rfl rfl ?_
  refine Run.openAgg 94 4 (94, 4) (94, 5) rfl rfl rfl (by decide) rfl fun A n => ?_
  refine Run.storee (cpQ false c) (.agg [i8 c'.st, i8 c'.who, i16 c'.due, i8 c'.ren, .lit (.slice A (c'.q.map i8).length n)]) rfl rfl rfl rfl rfl rfl rfl hat2 rfl rfl rfl ?_
  refine Run.recell (79, 1) (94, 4) (94, 5) j 4 (.agg [i8 c'.st, i8 c'.who, i16 c'.due, i8 c'.ren, .lit (.slice A (c'.q.map i8).length n)]) rfl (List.getElem?_set_self (by omega)) rfl rfl rfl (fun _ => rfl) (by decide) ?_
  repeat (refine Run.go rfl ?_)
  refine Run.packBox (4, 0) 1 rfl rfl rfl (by rw [List.length_set, List.length_set]) ?_
  refine Run.ret hg rfl ?_
  show AV.tup [.agg [_, .own 5 false (((d.cs.map (cpQ false)).set j _).set j (cpQ false c'))], _, _] = AV.tup [.agg [_, .own 5 false ((d.cs.set j c').map (cpQ false))], _, _]
  rw [List.set_set, List.map_set]
  rfl
end Go.Proofs.Ytlccbfdeonmljaa

/- Contracts of the program's functions, and what follows from them. -/
set_option maxRecDepth 100000
namespace Go.Proofs.Ytlccbfdeonmljaa
open Go Go.Av

/-! Desks that change: acts, one behind another. -/

theorem freeC_wd {c : Cp} {day : Int} (h : cpRng c) (hq : c.q.length ≤ 4) (hd : 0 ≤ day ∧ day ≤ 10000) : cpRng (freeC c day) ∧ (0 ≤ (freeC c day).ren ∧ (freeC c day).ren ≤ 2) ∧ (0 ≤ (freeC c day).due ∧ (freeC c day).due ≤ 10028) ∧ (freeC c day).q.length ≤ 4 := by
  obtain ⟨h1, h2, h3, h4, h5⟩ := h
  unfold freeC
  split
  · refine ⟨⟨?_, ?_, ?_, ?_, ?_⟩, ?_, ?_, ?_⟩ <;> simp [cp0, i8r, i16r]
  · rename_i q0 qd e
    rw [e] at h5 hq
    refine ⟨⟨?_, h5 q0 (by simp), ?_, ?_, fun x hx => h5 x (by simp [hx])⟩, ?_, ?_, ?_⟩
    · simp [i8r]
    · unfold i16r; show -32768 ≤ day + 7 ∧ day + 7 ≤ 32767; omega
    · simp [i8r]
    · exact ⟨Int.le_refl 0, by show (0 : Int) ≤ 2; omega⟩
    · show 0 ≤ day + 7 ∧ day + 7 ≤ 10028; omega
    · show qd.length ≤ 4
      simp at hq
      omega
theorem chC_wd {d : Dk} {c : Cp} {what who : Int} (hd : 0 ≤ d.day ∧ d.day ≤ 10000) (hw : i8r who) (h : cpRng c ∧ (0 ≤ c.ren ∧ c.ren ≤ 2) ∧ (0 ≤ c.due ∧ c.due ≤ 10028) ∧ c.q.length ≤ 4) (hok : (chC d c what who).2 = true) :
    cpRng (chC d c what who).1 ∧ (0 ≤ (chC d c what who).1.ren ∧ (chC d c what who).1.ren ≤ 2) ∧ (0 ≤ (chC d c what who).1.due ∧ (chC d c what who).1.due ≤ 10028) ∧ (chC d c what who).1.q.length ≤ 4 := by
  obtain ⟨⟨h1, h2, h3, h4, h5⟩, hr, hdu, hq⟩ := h
  have hf := freeC_wd (day := d.day) ⟨h1, h2, h3, h4, h5⟩ hq hd
  unfold chC at hok ⊢
  split
  · refine ⟨⟨by simp [i8r], hw, ?_, by simp [i8r], h5⟩, ⟨Int.le_refl 0, by show (0 : Int) ≤ 2; omega⟩, ?_, hq⟩
    · unfold i16r; show -32768 ≤ d.day + 28 ∧ d.day + 28 ≤ 32767; omega
    · show 0 ≤ d.day + 28 ∧ d.day + 28 ≤ 10028; omega
  · rename_i n0
    rw [if_neg n0] at hok
    split
    · exact hf
    · rename_i n1
      rw [if_neg n1] at hok
      split
      · rename_i n2
        rw [if_pos n2] at hok
        refine ⟨⟨h1, h2, h3, h4, fun x hx => ?_⟩, hr, hdu, ?_⟩
        · rcases List.mem_append.1 hx with hx | hx
          · exact h5 x hx
          · simp at hx; subst hx; exact hw
        · have : ask2 who c = false := by simpa using hok
          unfold ask2 at this
          simp only [Bool.or_eq_false_iff, decide_eq_false_iff_not] at this
          show (c.q ++ [who]).length ≤ 4
          rw [List.length_append]
          simp
          omega
      · rename_i n2
        rw [if_neg n2] at hok
        split
        · rename_i n3
          rw [if_pos n3] at hok
          have : ren3 d who c = false := by simpa using hok
          unfold ren3 at this
          simp only [Bool.or_eq_false_iff, decide_eq_false_iff_not] at this
          refine ⟨⟨h1, h2, ?_, ?_, h5⟩, ?_, ?_, hq⟩
          · unfold i16r; show -32768 ≤ d.day + 28 ∧ d.day + 28 ≤ 32767; omega
          · unfold i8r; show -128 ≤ c.ren + 1 ∧ c.ren + 1 ≤ 127; omega
          · show 0 ≤ c.ren + 1 ∧ c.ren + 1 ≤ 2; omega
          · show 0 ≤ d.day + 28 ∧ d.day + 28 ≤ 10028; omega
        · rename_i n3
          split
          · exact hf
          · refine ⟨⟨h1, h2, h3, h4, fun x hx => h5 x (List.mem_filter.1 hx).1⟩, hr, hdu, ?_⟩
            show (c.q.filter _).length ≤ 4
            have := List.length_filter_le (fun x => !(x == who)) c.q
            omega
theorem freeC_nd {c : Cp} {day : Int} (h : c.q.Nodup) : ((freeC c day).st = 0 ∨ (freeC c day).st = 1 ∨ (freeC c day).st = 2) ∧ (freeC c day).q.Nodup := by
  unfold freeC
  split
  · exact ⟨.inl rfl, List.nodup_nil⟩
  · rename_i e
    rw [e] at h
    exact ⟨.inr (.inr rfl), (List.nodup_cons.1 h).2⟩
theorem chC_nd {d : Dk} {c : Cp} {what who : Int} (h : (c.st = 0 ∨ c.st = 1 ∨ c.st = 2) ∧ c.q.Nodup) (hok : (chC d c what who).2 = true) :
    ((chC d c what who).1.st = 0 ∨ (chC d c what who).1.st = 1 ∨ (chC d c what who).1.st = 2) ∧ (chC d c what who).1.q.Nodup := by
  have hf := freeC_nd (day := d.day) h.2
  unfold chC at hok ⊢
  split
  · exact ⟨.inr (.inl rfl), h.2⟩
  · rename_i n0
    rw [if_neg n0] at hok
    split
    · exact hf
    · rename_i n1
      rw [if_neg n1] at hok
      split
      · rename_i n2
        rw [if_pos n2] at hok
        refine ⟨h.1, ?_⟩
        have : ask2 who c = false := by simpa using hok
        unfold ask2 at this
        simp only [Bool.or_eq_false_iff, decide_eq_false_iff_not, List.any_eq_false] at this
        show (c.q ++ [who]).Nodup
        rw [List.nodup_append]
        refine ⟨h.2, by simp, fun a ha b hb => ?_⟩
        simp at hb
        subst hb
        have := this.1.2 a ha
        simpa using this
      · split
        · exact ⟨h.1, h.2⟩
        · split
          · exact hf
          · exact ⟨h.1, h.2.sublist List.filter_sublist⟩
theorem fineP_rng {day : Int} {c : Cp} (hd : 0 ≤ day ∧ day ≤ 10000) (hc : 0 ≤ c.due ∧ c.due ≤ 10028) : 0 ≤ fineP day c ∧ fineP day c ≤ 50000 := by
  unfold fineP
  split
  · rename_i h
    have : c.due < day := by
      unfold over at h
      simp only [Bool.and_eq_true, decide_eq_true_eq] at h
      exact h.2
    omega
  · omega
theorem WD.ap {d : Dk} {a : Ac} (h : WD d) (ha : acRng a) (hc : (apR d a).2.2 = 0) : WD (apR d a).1 ∧ 0 ≤ (apR d a).2.1 ∧ (apR d a).2.1 ≤ 50000 := by
  unfold apR at hc ⊢
  split
  · rename_i e; rw [if_pos e] at hc; simp at hc
  · rename_i e
    rw [if_neg e] at hc
    split
    · rename_i e5
      rw [if_pos e5] at hc
      split
      · rename_i e6; rw [if_pos e6] at hc; simp at hc
      · rename_i e6
        rw [if_neg e6] at hc
        split
        · rename_i e7; rw [if_pos e7] at hc; simp at hc
        · rename_i e7
          have hday := h.day
          refine ⟨⟨by show 0 ≤ d.day + 1 ∧ d.day + 1 ≤ 10000; omega, by show (d.cs.map _).length ≤ 60; rw [List.length_map]; exact h.len, fun c hc => ?_, fun c hc => ?_⟩, Int.le_refl 0, by show (0 : Int) ≤ 50000; omega⟩
          rotate_left
          · obtain ⟨x, hx, rfl⟩ := List.mem_map.1 hc
            unfold nxC
            split
            · exact freeC_nd (h.st x hx).2
            · exact h.st x hx
          obtain ⟨x, hx, rfl⟩ := List.mem_map.1 hc
          have hw := h.cp x hx
          unfold nxC
          split
          · exact freeC_wd hw.1 hw.2.2.2 (by omega)
          · exact hw
    · rename_i e5
      rw [if_neg e5] at hc
      split
      · rename_i e6; rw [if_pos e6] at hc; simp at hc
      · rename_i e6
        rw [if_neg e6] at hc
        have hb : 0 ≤ a.book ∧ a.book ≤ d.cs.length - 1 := by
          have : (inr a.who 0 49 && inr a.book 0 (d.cs.length - 1)) = true := by simpa using e6
          rw [Bool.and_eq_true] at this
          have := this.2
          simp only [inr, Bool.and_eq_true, decide_eq_true_eq] at this
          exact this
        obtain ⟨j, hj⟩ : ∃ j : Nat, a.book = (j : Int) := ⟨a.book.toNat, by omega⟩
        have hjl : j < d.cs.length := by omega
        have hgc : d.cs.getD a.book.toNat cp0 = d.cs[j] := by rw [hj, Int.toNat_natCast]; simp [hjl]
        rw [hgc] at hc ⊢
        have hw := h.cp d.cs[j] (by simp)
        split
        · rename_i e7; rw [if_pos e7] at hc; simp at hc
        · rename_i e7
          have hch := chC_wd (d := d) (what := a.what) h.day ha.2.1 hw (by simpa using e7)
          have hnd := chC_nd (d := d) (what := a.what) (who := a.who) (h.st d.cs[j] (by simp)) (by simpa using e7)
          refine ⟨⟨h.day, by show (d.cs.set _ _).length ≤ 60; rw [List.length_set]; exact h.len, fun c hc => ?_, fun c hc => ?_⟩, ?_⟩
          rotate_left
          · rcases List.mem_or_eq_of_mem_set hc with hc | hc
            · exact h.st c hc
            · subst hc; exact hnd
          rotate_left
          · rcases List.mem_or_eq_of_mem_set hc with hc | hc
            · exact h.cp c hc
            · subst hc; exact hch
          · show 0 ≤ (if a.what = 1 then fineP d.day d.cs[j] else 0) ∧ (if a.what = 1 then fineP d.day d.cs[j] else 0) ≤ 50000
            split
            · exact fineP_rng h.day hw.2.2.1
            · omega

theorem apA_rf (x : Dk × Int × Int) : (apA x).rf = true := by simp only [apA, AV.rf, AV.rfL, dkQ_rf]; rfl
def aaR (d : Dk) (a : Ac) : Dk × Int × Int := if vD d = true then apR d a else (dk0, 0, 1)
noncomputable def X8 : Fx := ⟨Try.prog, tys, 8, Try.f8, [0, 1]⟩
theorem X8_ok : X8.Ok := ⟨Try.func8, tys_ok⟩
theorem implApplyAct_ct (d : Dk) (e1 e2 : Bool) (a : Ac) (hd : dkOk d) (hr : dkRng d) (ha : acRng a) : Ct Try.prog 8 [dkR e1 e2 d, acA a] (apA (aaR d a)) [] := by
  refine Ct.intro X8 X8_ok rfl (by kernel_rfl) rfl rfl fun g hg => ?_
  repeat (refine Run.go rfl ?_)
  refine Run.cs rfl (implValidDesk_ct d e1 e2 hd hr) rfl rfl ?_
  repeat (refine Run.go rfl ?_)
  refine Run.cond rfl (fun h => ?_) (fun h => ?_)
  · have h : vD d = false := by simpa using h
    repeat (refine Run.go rfl ?_)
    refine Run.val rfl rfl rfl (ValOk.build rfl rfl rfl rfl rfl) rfl ?_
    repeat (refine Run.go rfl ?_)
    refine Run.nilBox (4, 0) 1 5 false rfl rfl ?_
    refine Run.ret hg rfl ?_
    rw [aaR, if_neg (by rw [h]; decide)]
    rfl
  have hv : vD d = true := by simpa using h
  rw [aaR, if_pos hv] at hg
  have hct := apply_ct d e1 e2 a (vD_wd hv hr) ha
  generalize apR d a = R at hg hct
  repeat (refine Run.go rfl ?_)
  refine Run.cs rfl hct rfl (apA_rf _) ?_
  repeat (refine Run.go rfl ?_)
  refine Run.unagg 14 1 (14, 1) rfl rfl rfl ?_
  repeat (refine Run.go rfl ?_)
  refine Run.packBox (4, 0) 1 rfl rfl rfl rfl ?_
  exact Run.ret hg rfl rfl

end Go.Proofs.Ytlccbfdeonmljaa

/- Contracts of the program's functions, and what follows from them. -/
set_option maxRecDepth 100000
namespace Go.Proofs.Ytlccbfdeonmljaa
open Go Go.Av

/-! Desks that change: the reference's copies of desks, and freed copies. -/

theorem nrf_bif {id : Av.Id} {b : Bool} {x y : AV} (hx : x.nrf id = true) (hy : y.nrf id = true) : (bif b then x else y).nrf id = true := by cases b <;> assumption
theorem nrfO_bif {id : Av.Id} {b : Bool} {x y : Ob} (hx : x.nrf id = true) (hy : y.nrf id = true) : (bif b then x else y).nrf id = true := by cases b <;> assumption
theorem one_cpR (e : Bool) (l : List Cp) : oneC (l.map (cpR e)) = true := by
  simp only [oneC, List.all_map, List.all_eq_true]
  intro x _
  rfl

noncomputable def X87 : Fx := ⟨Try.prog, tys, 87, Try.f87, [0]⟩
theorem X87_ok : X87.Ok := ⟨Try.func87, tys_ok⟩
theorem l06Own_ct (d : Dk) (e1 e2 : Bool) (hd : dkOk d) : Ct Try.prog 87 [.rp (dkR e1 e2 d).cells 0] (dkQ false false d) [] := by
  have hlen0 : (0 + (d.cs.map (cpR e2)).length) * 32 ≤ 140737488355328 := by have := hd.1; rw [List.length_map]; omega
  have hcap0 : 0 + (d.cs.map (cpR e2)).length ≤ capMax := by have := hd.1; rw [List.length_map]; simp only [capMax]; omega
  refine Ct.intro X87 X87_ok rfl (by kernel_rfl) rfl rfl fun g hg => ?_
  repeat (refine Run.go rfl ?_)
  refine Run.drawI (fun D => ⟨[(0, .rp (dkR e1 e2 d).cells 0), (2, .bp (2, 0) 0), (5, bif D 0 then .rp (dkR e1 e2 d).cells 0 else .top), (6, bif D 1 then .rp (dkR e1 e2 d).cells 0 else .top), (7, bif D 2 then .rp (dkR e1 e2 d).cells 0 else .top), (8, bif D 3 then i16 d.day else .top), (9, bif D 9 then .top else bif D 4 then .own 5 false [] else .top), (10, bif D 5 then .rp (dkR e1 e2 d).cells 0 else .top), (11, bif D 6 then .rp (dkR e1 e2 d).cells 0 else .top), (12, bif D 7 then .rp (dkR e1 e2 d).cells 1 else .top), (13, bif D 8 then .ro 5 e1 (d.cs.map (cpR e2)) else .top), (14, bif D 10 then .top else bif D 9 then .own 5 false (d.cs.map (cpR e2)) else .top), (15, bif D 10 then .agg [i16 d.day, .vec (14, 0) 0 (d.cs.map (cpR e2)).length] else .top), (3, bif D 11 then .bp (3, 0) 0 else .top)], [((2, 0), Ob.box [i16 0, .lit (.slice none 0 0)]), ((3, 0), (bif D 12 then Ob.box [i16 d.day, .vec (14, 0) 0 (d.cs.map (cpR e2)).length] else (bif D 11 then Ob.box [i16 0, .lit (.slice none 0 0)] else Ob.gone))), ((14, 0), (bif D 10 then Ob.vec 5 false (d.cs.map (cpR e2)) else Ob.gone))]⟩) (by decide +kernel) (by decide +kernel) ?_ ?_ fun k' => ⟨?_, ?_, ?_, ?_, ?_, ?_, ?_, ?_, ?_, ?_, ?_, ?_, ?_, trivial⟩
  · exact St.Le.mk' ⟨rfl, rfl, rfl, rfl, rfl, rfl, rfl, rfl, rfl, rfl, rfl, rfl, rfl, rfl, trivial⟩ ⟨rfl, rfl, rfl, trivial⟩
  rotate_left
  · intro D hid h0 hp hs rest hK
    obtain ⟨d1, -⟩ : AllD D false [1] := ideal_sub hs (by decide +kernel)
    simp only [d1, h0, cond_true, cond_false]
    refine Run.go rfl ?_
    refine Run.le ?_ hK
    simp only [d1, h0, Nat.reduceBEq, Bool.false_or, Bool.true_or, cond_true, cond_false]
    exact St.Le.mk' ⟨rfl, rfl, rfl, rfl, rfl, rfl, rfl, rfl, rfl, rfl, rfl, rfl, rfl, rfl, trivial⟩ ⟨rfl, rfl, rfl, trivial⟩
  · intro D hid h0 hp hs rest hK
    obtain ⟨d0, -⟩ : AllD D true [0] := ideal_sub hp (by decide +kernel)
    obtain ⟨d2, -⟩ : AllD D false [2] := ideal_sub hs (by decide +kernel)
    simp only [d0, d2, h0, cond_true, cond_false]
    refine Run.go rfl ?_
    refine Run.le ?_ hK
    simp only [d0, d2, h0, Nat.reduceBEq, Bool.false_or, Bool.true_or, cond_true, cond_false]
    exact St.Le.mk' ⟨rfl, rfl, rfl, rfl, rfl, rfl, rfl, rfl, rfl, rfl, rfl, rfl, rfl, rfl, trivial⟩ ⟨rfl, rfl, rfl, trivial⟩
  · intro D hid h0 hp hs rest hK
    obtain ⟨d1, -⟩ : AllD D true [1] := ideal_sub hp (by decide +kernel)
    obtain ⟨d3, -⟩ : AllD D false [3] := ideal_sub hs (by decide +kernel)
    simp only [d1, d3, h0, cond_true, cond_false]
    refine Run.go rfl ?_
    refine Run.le ?_ hK
    simp only [d1, d3, h0, Nat.reduceBEq, Bool.false_or, Bool.true_or, cond_true, cond_false]
    exact St.Le.mk' ⟨rfl, rfl, rfl, rfl, rfl, rfl, rfl, rfl, rfl, rfl, rfl, rfl, rfl, rfl, trivial⟩ ⟨rfl, rfl, rfl, trivial⟩
  · intro D hid h0 hp hs rest hK
    obtain ⟨d2, -⟩ : AllD D true [2] := ideal_sub hp (by decide +kernel)
    obtain ⟨d10, -⟩ : AllD D false [10] := ideal_sub hs (by decide +kernel)
    simp only [d2, d10, h0, cond_true, cond_false]
    refine Run.go rfl ?_
    refine Run.le ?_ hK
    simp only [d2, d10, h0, Nat.reduceBEq, Bool.false_or, Bool.true_or, cond_true, cond_false]
    exact St.Le.mk' ⟨rfl, rfl, rfl, rfl, rfl, rfl, rfl, rfl, rfl, rfl, rfl, rfl, rfl, rfl, trivial⟩ ⟨rfl, rfl, rfl, trivial⟩
  · intro D hid h0 hp hs rest hK
    obtain ⟨d9, -⟩ : AllD D false [9] := ideal_sub hs (by decide +kernel)
    simp only [d9, h0, cond_true, cond_false]
    refine Run.buildSlice [] rfl rfl rfl rfl rfl rfl rfl rfl rfl rfl rfl rfl rfl rfl ?_
    refine Run.loosen0 9 rfl ?_
    refine Run.le ?_ hK
    simp only [d9, h0, Nat.reduceBEq, Bool.false_or, Bool.true_or, cond_true, cond_false]
    exact St.Le.mk' ⟨rfl, rfl, rfl, rfl, rfl, rfl, rfl, rfl, rfl, rfl, rfl, rfl, rfl, rfl, trivial⟩ ⟨rfl, rfl, rfl, trivial⟩
  · intro D hid h0 hp hs rest hK
    obtain ⟨d6, -⟩ : AllD D false [6] := ideal_sub hs (by decide +kernel)
    simp only [d6, h0, cond_true, cond_false]
    refine Run.go rfl ?_
    refine Run.le ?_ hK
    simp only [d6, h0, Nat.reduceBEq, Bool.false_or, Bool.true_or, cond_true, cond_false]
    exact St.Le.mk' ⟨rfl, rfl, rfl, rfl, rfl, rfl, rfl, rfl, rfl, rfl, rfl, rfl, rfl, rfl, trivial⟩ ⟨rfl, rfl, rfl, trivial⟩
  · intro D hid h0 hp hs rest hK
    obtain ⟨d5, -⟩ : AllD D true [5] := ideal_sub hp (by decide +kernel)
    obtain ⟨d7, -⟩ : AllD D false [7] := ideal_sub hs (by decide +kernel)
    simp only [d5, d7, h0, cond_true, cond_false]
    refine Run.go rfl ?_
    refine Run.le ?_ hK
    simp only [d5, d7, h0, Nat.reduceBEq, Bool.false_or, Bool.true_or, cond_true, cond_false]
    exact St.Le.mk' ⟨rfl, rfl, rfl, rfl, rfl, rfl, rfl, rfl, rfl, rfl, rfl, rfl, rfl, rfl, trivial⟩ ⟨rfl, rfl, rfl, trivial⟩
  · intro D hid h0 hp hs rest hK
    obtain ⟨d6, -⟩ : AllD D true [6] := ideal_sub hp (by decide +kernel)
    obtain ⟨d8, -⟩ : AllD D false [8] := ideal_sub hs (by decide +kernel)
    simp only [d6, d8, h0, cond_true, cond_false]
    refine Run.go rfl ?_
    refine Run.le ?_ hK
    simp only [d6, d8, h0, Nat.reduceBEq, Bool.false_or, Bool.true_or, cond_true, cond_false]
    exact St.Le.mk' ⟨rfl, rfl, rfl, rfl, rfl, rfl, rfl, rfl, rfl, rfl, rfl, rfl, rfl, rfl, trivial⟩ ⟨rfl, rfl, rfl, trivial⟩
  · intro D hid h0 hp hs rest hK
    obtain ⟨d7, -⟩ : AllD D true [7] := ideal_sub hp (by decide +kernel)
    obtain ⟨d9, -⟩ : AllD D false [9] := ideal_sub hs (by decide +kernel)
    simp only [d7, d9, h0, cond_true, cond_false]
    refine Run.go rfl ?_
    refine Run.le ?_ hK
    simp only [d7, d9, h0, Nat.reduceBEq, Bool.false_or, Bool.true_or, cond_true, cond_false]
    exact St.Le.mk' ⟨rfl, rfl, rfl, rfl, rfl, rfl, rfl, rfl, rfl, rfl, rfl, rfl, rfl, rfl, trivial⟩ ⟨rfl, rfl, rfl, trivial⟩
  · intro D hid h0 hp hs rest hK
    obtain ⟨d4, d8, -⟩ : AllD D true [4, 8] := ideal_sub hp (by decide +kernel)
    obtain ⟨d10, -⟩ : AllD D false [10] := ideal_sub hs (by decide +kernel)
    have d12 : D 12 = false := ideal_no (i := 12) (j := 10) hid (by decide +kernel) d10
    have d7 : D 7 = true := hid 8 7 (by decide +kernel) (by decide +kernel) d8
    have d6 : D 6 = true := hid 7 6 (by decide +kernel) (by decide +kernel) d7
    have d5 : D 5 = true := hid 6 5 (by decide +kernel) (by decide +kernel) d6
    simp only [d4, d8, d10, d12, d7, d6, d5, h0, cond_true, cond_false]
    refine Run.unpack 9 rfl (by cases D 0 <;> cases D 1 <;> cases D 2 <;> cases D 3 <;> cases D 11 <;> rfl) ?_
    refine Run.appendr (ys := (d.cs.map (cpR e2))) rfl rfl rfl rfl rfl rfl rfl rfl rfl rfl rfl rfl rfl (one_cpR _ _) hlen0 hcap0 rfl ?_
    rw [List.nil_append]
    refine Run.forget 9 ?_
    refine Run.le ?_ hK
    simp only [d4, d8, d10, d12, d7, d6, d5, h0, Nat.reduceBEq, Bool.false_or, Bool.true_or, cond_true, cond_false]
    exact St.Le.mk' ⟨rfl, rfl, rfl, rfl, rfl, rfl, rfl, rfl, rfl, rfl, rfl, rfl, rfl, rfl, trivial⟩ ⟨rfl, rfl, rfl, trivial⟩
  · intro D hid h0 hp hs rest hK
    obtain ⟨d3, d9, -⟩ : AllD D true [3, 9] := ideal_sub hp (by decide +kernel)
    obtain ⟨d12, -⟩ : AllD D false [12] := ideal_sub hs (by decide +kernel)
    have d2 : D 2 = true := hid 3 2 (by decide +kernel) (by decide +kernel) d3
    have d1 : D 1 = true := hid 2 1 (by decide +kernel) (by decide +kernel) d2
    have d0 : D 0 = true := hid 1 0 (by decide +kernel) (by decide +kernel) d1
    have d4 : D 4 = true := hid 9 4 (by decide +kernel) (by decide +kernel) d9
    have d8 : D 8 = true := hid 9 8 (by decide +kernel) (by decide +kernel) d9
    have d7 : D 7 = true := hid 8 7 (by decide +kernel) (by decide +kernel) d8
    have d6 : D 6 = true := hid 7 6 (by decide +kernel) (by decide +kernel) d7
    have d5 : D 5 = true := hid 6 5 (by decide +kernel) (by decide +kernel) d6
    simp only [d3, d9, d12, d2, d1, d0, d4, d8, d7, d6, d5, h0, cond_true, cond_false]
    refine Run.unpack 14 rfl (by cases D 11 <;> rfl) ?_
    refine Run.val rfl rfl rfl (ValOk.build rfl rfl rfl rfl rfl) rfl ?_
    refine Run.forget 14 ?_
    refine Run.le ?_ hK
    simp only [d3, d9, d12, d2, d1, d0, d4, d8, d7, d6, d5, h0, Nat.reduceBEq, Bool.false_or, Bool.true_or, cond_true, cond_false]
    exact St.Le.mk' ⟨rfl, rfl, rfl, rfl, rfl, rfl, rfl, rfl, rfl, rfl, rfl, rfl, rfl, rfl, trivial⟩ ⟨rfl, rfl, rfl, trivial⟩
  · intro D hid h0 hp hs rest hK
    obtain ⟨d12, -⟩ : AllD D false [12] := ideal_sub hs (by decide +kernel)
    simp only [d12, h0, cond_true, cond_false]
    refine Run.alloc rfl rfl rfl rfl rfl rfl (by
      simp only [St.nrf, List.all_cons, List.all_nil, Bool.and_eq_true, Bool.and_true]
      repeat' apply And.intro
      all_goals (repeat' (first | rfl | refine nrf_bif ?_ ?_ | refine nrfO_bif ?_ ?_))) rfl ?_
    refine Run.le ?_ hK
    simp only [d12, h0, Nat.reduceBEq, Bool.false_or, Bool.true_or, cond_true, cond_false]
    exact St.Le.mk' ⟨rfl, rfl, rfl, rfl, rfl, rfl, rfl, rfl, rfl, rfl, rfl, rfl, rfl, rfl, trivial⟩ ⟨rfl, rfl, rfl, trivial⟩
  · intro D hid h0 hp hs rest hK
    obtain ⟨d10, d11, -⟩ : AllD D true [10, 11] := ideal_sub hp (by decide +kernel)
    simp only [d10, d11, h0, cond_true, cond_false]
    refine Run.go rfl ?_
    refine Run.le ?_ hK
    simp only [d10, d11, h0, Nat.reduceBEq, Bool.false_or, Bool.true_or, cond_true, cond_false]
    exact St.Le.mk' ⟨rfl, rfl, rfl, rfl, rfl, rfl, rfl, rfl, rfl, rfl, rfl, rfl, rfl, rfl, trivial⟩ ⟨rfl, rfl, rfl, trivial⟩
  repeat (refine Run.go rfl ?_)
  obtain ⟨N, hN⟩ : ∃ N, N = d.cs.length := ⟨_, rfl⟩
  have hN1 : N ≤ 1048576 := by rw [hN]; exact hd.1
  refine Run.loop (fun j : Nat => ⟨[(0, .rp (dkR e1 e2 d).cells 0), (2, .bp (2, 0) 0), (3, .bp (3, 0) 0), (4, i64 (j : Nat))],
    [((2, 0), .box [i16 0, .lit (.slice none 0 0)]), ((3, 0), .box [i16 d.day, .vec (14, 0) 0 N]), ((14, 0), .vec 5 false ((d.cs.take j).map (cpQ false) ++ (d.cs.drop j).map (cpR e2)))]⟩) (fun j => j ≤ N) (fun j => N - j) 0 (by omega) ?_ ?_
  · refine St.Le.mk' ⟨rfl, rfl, rfl, rfl, trivial⟩ ⟨rfl, ?_, rfl, trivial⟩
    show Ob.box [_, AV.vec _ _ (d.cs.map (cpR e2)).length] = _
    rw [List.length_map, hN]
  intro j hj IH
  repeat (refine Run.go rfl ?_)
  refine Run.cond rfl (fun h => ?_) (fun h => ?_)
  · have h : j < N := by simpa using h
    have hlt : j < d.cs.length := by omega
    obtain ⟨XS, hXS⟩ : ∃ XS, XS = (d.cs.take j).map (cpQ false) := ⟨_, rfl⟩
    obtain ⟨YS, hYS⟩ : ∃ YS, YS = (d.cs.drop (j + 1)).map (cpR e2) := ⟨_, rfl⟩
    have hXl : XS.length = j := by rw [hXS, List.length_map, List.length_take]; omega
    have hst : (d.cs.take (j + 1)).map (cpQ false) ++ (d.cs.drop (j + 1)).map (cpR e2) = XS ++ cpQ false d.cs[j] :: YS := by
      rw [List.take_succ_eq_append_getElem hlt, List.map_append, ← hXS, ← hYS, List.append_assoc]
      rfl
    have hcq := hd.2 d.cs[j] (by simp)
    have hYl : YS.length + j + 1 = N := by rw [hYS, List.length_map, List.length_drop]; omega
    rw [List.drop_eq_getElem_cons hlt, List.map_cons, ← hXS, ← hYS]
    have IH' := IH (j + 1) (by omega) (by omega)
    rw [hst] at IH'
    have hat0 : (d.cs.map (cpR e2))[((j : Int)).toNat]? = some (cpR e2 d.cs[j]) := by rw [Int.toNat_natCast, List.getElem?_map, List.getElem?_eq_getElem hlt]; rfl
    clear hst IH hXS hYS
    generalize d.cs[j] = c at hcq IH' hat0
    have hat : ∀ x : AV, (XS ++ x :: YS)[j]? = some x := fun x => by rw [← hXl]; simp
    have hset : ∀ x y : AV, (XS ++ x :: YS).set j y = XS ++ y :: YS := fun x y => by rw [← hXl, List.set_append_right _ _ (Nat.le_refl _), Nat.sub_self]; rfl
    have hlen : ∀ x : AV, (XS ++ x :: YS).length = N := fun x => by simp; omega
    have hlenq : (0 + (c.q.map i8).length) * 1 ≤ 140737488355328 := by rw [List.length_map]; omega
    have hcapq : 0 + (c.q.map i8).length ≤ capMax := by rw [List.length_map]; simp only [capMax]; omega
    repeat (refine Run.go rfl ?_)
    refine Run.drawI (fun D => ⟨[(0, .rp (dkR e1 e2 d).cells 0), (2, .bp (2, 0) 0), (3, .bp (3, 0) 0), (4, i64 (j : Nat)), (23, bif D 0 then .bp (3, 0) 1 else .top), (24, bif D 1 then .vec (14, 0) 0 N else .top), (25, bif D 2 then i64 (j : Nat) else .top), (26, bif D 12 then .top else bif D 3 then .own 1 false [] else .top), (27, bif D 4 then .rp (dkR e1 e2 d).cells 0 else .top), (28, bif D 5 then .rp (dkR e1 e2 d).cells 0 else .top), (29, bif D 6 then .rp (dkR e1 e2 d).cells 1 else .top), (30, bif D 7 then .ro 5 e1 (d.cs.map (cpR e2)) else .top), (31, bif D 8 then i64 (j : Nat) else .top), (32, bif D 9 then .rp (cpR e2 c).cells 0 else .top), (33, bif D 10 then .rp (cpR e2 c).cells 4 else .top), (34, bif D 11 then .ro 1 e2 (c.q.map i8) else .top), (35, bif D 15 then .top else bif D 12 then .own 1 false (c.q.map i8) else .top), (36, bif D 13 then .ep (14, 0) j 0 else .top), (37, bif D 14 then .ep (14, 0) j 4 else .top)], [((2, 0), Ob.box [i16 0, .lit (.slice none 0 0)]), ((3, 0), Ob.box [i16 d.day, .vec (14, 0) 0 N]), ((14, 0), (bif D 15 then Ob.vec 5 false (XS ++ cpQ false c :: YS) else Ob.vec 5 false (XS ++ (cpR e2 c) :: YS)))]⟩) (by decide +kernel) (by decide +kernel) ?_ ?_ fun k' => ⟨?_, ?_, ?_, ?_, ?_, ?_, ?_, ?_, ?_, ?_, ?_, ?_, ?_, ?_, ?_, ?_, trivial⟩
    · exact St.Le.mk' ⟨rfl, rfl, rfl, rfl, rfl, rfl, rfl, rfl, rfl, rfl, rfl, rfl, rfl, rfl, rfl, rfl, rfl, rfl, rfl, trivial⟩ ⟨rfl, rfl, rfl, trivial⟩
    rotate_left
    · intro D hid h0 hp hs rest hK
      obtain ⟨d1, -⟩ : AllD D false [1] := ideal_sub hs (by decide +kernel)
      simp only [d1, h0, cond_true, cond_false]
      refine Run.go rfl ?_
      refine Run.le ?_ hK
      simp only [d1, h0, Nat.reduceBEq, Bool.false_or, Bool.true_or, cond_true, cond_false]
      exact St.Le.mk' ⟨rfl, rfl, rfl, rfl, rfl, rfl, rfl, rfl, rfl, rfl, rfl, rfl, rfl, rfl, rfl, rfl, rfl, rfl, rfl, trivial⟩ ⟨rfl, rfl, rfl, trivial⟩
    · intro D hid h0 hp hs rest hK
      obtain ⟨d0, -⟩ : AllD D true [0] := ideal_sub hp (by decide +kernel)
      obtain ⟨d13, -⟩ : AllD D false [13] := ideal_sub hs (by decide +kernel)
      simp only [d0, d13, h0, cond_true, cond_false]
      refine Run.go rfl ?_
      refine Run.le ?_ hK
      simp only [d0, d13, h0, Nat.reduceBEq, Bool.false_or, Bool.true_or, cond_true, cond_false]
      exact St.Le.mk' ⟨rfl, rfl, rfl, rfl, rfl, rfl, rfl, rfl, rfl, rfl, rfl, rfl, rfl, rfl, rfl, rfl, rfl, rfl, rfl, trivial⟩ ⟨rfl, rfl, rfl, trivial⟩
    · intro D hid h0 hp hs rest hK
      obtain ⟨d13, -⟩ : AllD D false [13] := ideal_sub hs (by decide +kernel)
      simp only [d13, h0, cond_true, cond_false]
      refine Run.go rfl ?_
      refine Run.le ?_ hK
      simp only [d13, h0, Nat.reduceBEq, Bool.false_or, Bool.true_or, cond_true, cond_false]
      exact St.Le.mk' ⟨rfl, rfl, rfl, rfl, rfl, rfl, rfl, rfl, rfl, rfl, rfl, rfl, rfl, rfl, rfl, rfl, rfl, rfl, rfl, trivial⟩ ⟨rfl, rfl, rfl, trivial⟩
    · intro D hid h0 hp hs rest hK
      obtain ⟨d12, -⟩ : AllD D false [12] := ideal_sub hs (by decide +kernel)
      simp only [d12, h0, cond_true, cond_false]
      refine Run.buildSlice [] rfl rfl rfl rfl rfl rfl rfl rfl rfl rfl rfl rfl rfl rfl ?_
      refine Run.loosen0 26 rfl ?_
      refine Run.le ?_ hK
      simp only [d12, h0, Nat.reduceBEq, Bool.false_or, Bool.true_or, cond_true, cond_false]
      exact St.Le.mk' ⟨rfl, rfl, rfl, rfl, rfl, rfl, rfl, rfl, rfl, rfl, rfl, rfl, rfl, rfl, rfl, rfl, rfl, rfl, rfl, trivial⟩ ⟨rfl, rfl, rfl, trivial⟩
    · intro D hid h0 hp hs rest hK
      obtain ⟨d5, -⟩ : AllD D false [5] := ideal_sub hs (by decide +kernel)
      simp only [d5, h0, cond_true, cond_false]
      refine Run.go rfl ?_
      refine Run.le ?_ hK
      simp only [d5, h0, Nat.reduceBEq, Bool.false_or, Bool.true_or, cond_true, cond_false]
      exact St.Le.mk' ⟨rfl, rfl, rfl, rfl, rfl, rfl, rfl, rfl, rfl, rfl, rfl, rfl, rfl, rfl, rfl, rfl, rfl, rfl, rfl, trivial⟩ ⟨rfl, rfl, rfl, trivial⟩
    · intro D hid h0 hp hs rest hK
      obtain ⟨d4, -⟩ : AllD D true [4] := ideal_sub hp (by decide +kernel)
      obtain ⟨d6, -⟩ : AllD D false [6] := ideal_sub hs (by decide +kernel)
      simp only [d4, d6, h0, cond_true, cond_false]
      refine Run.go rfl ?_
      refine Run.le ?_ hK
      simp only [d4, d6, h0, Nat.reduceBEq, Bool.false_or, Bool.true_or, cond_true, cond_false]
      exact St.Le.mk' ⟨rfl, rfl, rfl, rfl, rfl, rfl, rfl, rfl, rfl, rfl, rfl, rfl, rfl, rfl, rfl, rfl, rfl, rfl, rfl, trivial⟩ ⟨rfl, rfl, rfl, trivial⟩
    · intro D hid h0 hp hs rest hK
      obtain ⟨d5, -⟩ : AllD D true [5] := ideal_sub hp (by decide +kernel)
      obtain ⟨d7, -⟩ : AllD D false [7] := ideal_sub hs (by decide +kernel)
      simp only [d5, d7, h0, cond_true, cond_false]
      refine Run.go rfl ?_
      refine Run.le ?_ hK
      simp only [d5, d7, h0, Nat.reduceBEq, Bool.false_or, Bool.true_or, cond_true, cond_false]
      exact St.Le.mk' ⟨rfl, rfl, rfl, rfl, rfl, rfl, rfl, rfl, rfl, rfl, rfl, rfl, rfl, rfl, rfl, rfl, rfl, rfl, rfl, trivial⟩ ⟨rfl, rfl, rfl, trivial⟩
    · intro D hid h0 hp hs rest hK
      obtain ⟨d6, -⟩ : AllD D true [6] := ideal_sub hp (by decide +kernel)
      obtain ⟨d9, -⟩ : AllD D false [9] := ideal_sub hs (by decide +kernel)
      simp only [d6, d9, h0, cond_true, cond_false]
      refine Run.go rfl ?_
      refine Run.le ?_ hK
      simp only [d6, d9, h0, Nat.reduceBEq, Bool.false_or, Bool.true_or, cond_true, cond_false]
      exact St.Le.mk' ⟨rfl, rfl, rfl, rfl, rfl, rfl, rfl, rfl, rfl, rfl, rfl, rfl, rfl, rfl, rfl, rfl, rfl, rfl, rfl, trivial⟩ ⟨rfl, rfl, rfl, trivial⟩
    · intro D hid h0 hp hs rest hK
      obtain ⟨d9, -⟩ : AllD D false [9] := ideal_sub hs (by decide +kernel)
      simp only [d9, h0, cond_true, cond_false]
      refine Run.go rfl ?_
      refine Run.le ?_ hK
      simp only [d9, h0, Nat.reduceBEq, Bool.false_or, Bool.true_or, cond_true, cond_false]
      exact St.Le.mk' ⟨rfl, rfl, rfl, rfl, rfl, rfl, rfl, rfl, rfl, rfl, rfl, rfl, rfl, rfl, rfl, rfl, rfl, rfl, rfl, trivial⟩ ⟨rfl, rfl, rfl, trivial⟩
    · intro D hid h0 hp hs rest hK
      obtain ⟨d7, d8, -⟩ : AllD D true [7, 8] := ideal_sub hp (by decide +kernel)
      obtain ⟨d10, -⟩ : AllD D false [10] := ideal_sub hs (by decide +kernel)
      simp only [d7, d8, d10, h0, cond_true, cond_false]
      refine Run.val rfl rfl rfl (ValOk.idx (m := (j : Int)) (cpR e2 c) rfl rfl rfl rfl rfl (by omega) hat0) rfl ?_
      refine Run.le ?_ hK
      simp only [d7, d8, d10, h0, Nat.reduceBEq, Bool.false_or, Bool.true_or, cond_true, cond_false]
      exact St.Le.mk' ⟨rfl, rfl, rfl, rfl, rfl, rfl, rfl, rfl, rfl, rfl, rfl, rfl, rfl, rfl, rfl, rfl, rfl, rfl, rfl, trivial⟩ ⟨rfl, rfl, rfl, trivial⟩
    · intro D hid h0 hp hs rest hK
      obtain ⟨d9, -⟩ : AllD D true [9] := ideal_sub hp (by decide +kernel)
      obtain ⟨d11, -⟩ : AllD D false [11] := ideal_sub hs (by decide +kernel)
      simp only [d9, d11, h0, cond_true, cond_false]
      refine Run.go rfl ?_
      refine Run.le ?_ hK
      simp only [d9, d11, h0, Nat.reduceBEq, Bool.false_or, Bool.true_or, cond_true, cond_false]
      exact St.Le.mk' ⟨rfl, rfl, rfl, rfl, rfl, rfl, rfl, rfl, rfl, rfl, rfl, rfl, rfl, rfl, rfl, rfl, rfl, rfl, rfl, trivial⟩ ⟨rfl, rfl, rfl, trivial⟩
    · intro D hid h0 hp hs rest hK
      obtain ⟨d10, -⟩ : AllD D true [10] := ideal_sub hp (by decide +kernel)
      obtain ⟨d12, -⟩ : AllD D false [12] := ideal_sub hs (by decide +kernel)
      simp only [d10, d12, h0, cond_true, cond_false]
      refine Run.go rfl ?_
      refine Run.le ?_ hK
      simp only [d10, d12, h0, Nat.reduceBEq, Bool.false_or, Bool.true_or, cond_true, cond_false]
      exact St.Le.mk' ⟨rfl, rfl, rfl, rfl, rfl, rfl, rfl, rfl, rfl, rfl, rfl, rfl, rfl, rfl, rfl, rfl, rfl, rfl, rfl, trivial⟩ ⟨rfl, rfl, rfl, trivial⟩
    · intro D hid h0 hp hs rest hK
      obtain ⟨d3, d11, -⟩ : AllD D true [3, 11] := ideal_sub hp (by decide +kernel)
      obtain ⟨d15, -⟩ : AllD D false [15] := ideal_sub hs (by decide +kernel)
      have d15 : D 15 = false := ideal_no (i := 15) (j := 12) hid (by decide +kernel) h0
      have d10 : D 10 = true := hid 11 10 (by decide +kernel) (by decide +kernel) d11
      have d9 : D 9 = true := hid 10 9 (by decide +kernel) (by decide +kernel) d10
      have d7 : D 7 = true := hid 9 7 (by decide +kernel) (by decide +kernel) d9
      have d8 : D 8 = true := hid 9 8 (by decide +kernel) (by decide +kernel) d9
      have d6 : D 6 = true := hid 7 6 (by decide +kernel) (by decide +kernel) d7
      have d5 : D 5 = true := hid 6 5 (by decide +kernel) (by decide +kernel) d6
      have d4 : D 4 = true := hid 5 4 (by decide +kernel) (by decide +kernel) d5
      simp only [d3, d11, d15, d15, d10, d9, d7, d8, d6, d5, d4, h0, cond_true, cond_false]
      refine Run.unpack 26 rfl (by cases D 0 <;> cases D 1 <;> cases D 2 <;> cases D 13 <;> cases D 14 <;> rfl) ?_
      refine Run.appendr (ys := c.q.map i8) rfl rfl rfl rfl rfl rfl rfl rfl rfl rfl rfl rfl rfl (one_i8 _) hlenq hcapq rfl ?_
      rw [List.nil_append]
      refine Run.forget 26 ?_
      refine Run.le ?_ hK
      simp only [d3, d11, d15, d15, d10, d9, d7, d8, d6, d5, d4, h0, Nat.reduceBEq, Bool.false_or, Bool.true_or, cond_true, cond_false]
      exact St.Le.mk' ⟨rfl, rfl, rfl, rfl, rfl, rfl, rfl, rfl, rfl, rfl, rfl, rfl, rfl, rfl, rfl, rfl, rfl, rfl, rfl, trivial⟩ ⟨rfl, rfl, rfl, trivial⟩
    · intro D hid h0 hp hs rest hK
      obtain ⟨d1, d2, -⟩ : AllD D true [1, 2] := ideal_sub hp (by decide +kernel)
      obtain ⟨d14, -⟩ : AllD D false [14] := ideal_sub hs (by decide +kernel)
      have d15 : D 15 = false := ideal_no (i := 15) (j := 14) hid (by decide +kernel) d14
      simp only [d1, d2, d14, d15, h0, cond_true, cond_false]
      refine Run.val rfl rfl rfl (ValOk.idxv (m := (j : Int)) rfl rfl rfl rfl rfl rfl (by omega) (by omega)) rfl ?_
      rw [show 0 + ((j : Int)).toNat = j by simp]
      refine Run.le ?_ hK
      simp only [d1, d2, d14, d15, h0, Nat.reduceBEq, Bool.false_or, Bool.true_or, cond_true, cond_false]
      exact St.Le.mk' ⟨rfl, rfl, rfl, rfl, rfl, rfl, rfl, rfl, rfl, rfl, rfl, rfl, rfl, rfl, rfl, rfl, rfl, rfl, rfl, trivial⟩ ⟨rfl, rfl, rfl, trivial⟩
    · intro D hid h0 hp hs rest hK
      obtain ⟨d13, -⟩ : AllD D true [13] := ideal_sub hp (by decide +kernel)
      obtain ⟨d15, -⟩ : AllD D false [15] := ideal_sub hs (by decide +kernel)
      simp only [d13, d15, h0, cond_true, cond_false]
      refine Run.go rfl ?_
      refine Run.le ?_ hK
      simp only [d13, d15, h0, Nat.reduceBEq, Bool.false_or, Bool.true_or, cond_true, cond_false]
      exact St.Le.mk' ⟨rfl, rfl, rfl, rfl, rfl, rfl, rfl, rfl, rfl, rfl, rfl, rfl, rfl, rfl, rfl, rfl, rfl, rfl, rfl, trivial⟩ ⟨rfl, rfl, rfl, trivial⟩
    · intro D hid h0 hp hs rest hK
      obtain ⟨d12, d14, -⟩ : AllD D true [12, 14] := ideal_sub hp (by decide +kernel)
      have d3 : D 3 = true := hid 12 3 (by decide +kernel) (by decide +kernel) d12
      have d11 : D 11 = true := hid 12 11 (by decide +kernel) (by decide +kernel) d12
      have d13 : D 13 = true := hid 14 13 (by decide +kernel) (by decide +kernel) d14
      have d1 : D 1 = true := hid 13 1 (by decide +kernel) (by decide +kernel) d13
      have d2 : D 2 = true := hid 13 2 (by decide +kernel) (by decide +kernel) d13
      have d0 : D 0 = true := hid 1 0 (by decide +kernel) (by decide +kernel) d1
      have d10 : D 10 = true := hid 11 10 (by decide +kernel) (by decide +kernel) d11
      have d9 : D 9 = true := hid 10 9 (by decide +kernel) (by decide +kernel) d10
      have d7 : D 7 = true := hid 9 7 (by decide +kernel) (by decide +kernel) d9
      have d8 : D 8 = true := hid 9 8 (by decide +kernel) (by decide +kernel) d9
      have d6 : D 6 = true := hid 7 6 (by decide +kernel) (by decide +kernel) d7
      have d5 : D 5 = true := hid 6 5 (by decide +kernel) (by decide +kernel) d6
      have d4 : D 4 = true := hid 5 4 (by decide +kernel) (by decide +kernel) d5
      simp only [d12, d14, d3, d11, d13, d1, d2, d0, d10, d9, d7, d8, d6, d5, d4, h0, cond_true, cond_false]
      refine Run.open1 35 (35, 4) (35, 5) rfl rfl (by decide) rfl fun A n => ?_
      refine Run.storee (cpR e2 c) (.agg [i8 c.st, i8 c.who, i16 c.due, i8 c.ren, .lit (.slice A (c.q.map i8).length n)]) rfl rfl rfl rfl rfl rfl rfl (hat _) rfl rfl rfl ?_
      rw [hset]
      refine Run.recell (14, 0) (35, 4) (35, 5) j 4 (.agg [i8 c.st, i8 c.who, i16 c.due, i8 c.ren, .lit (.slice A (c.q.map i8).length n)]) rfl (hat _) rfl rfl rfl (fun _ => rfl) (by decide) ?_
      rw [hset]
      refine Run.forget 35 ?_
      refine Run.le ?_ hK
      simp only [d12, d14, d3, d11, d13, d1, d2, d0, d10, d9, d7, d8, d6, d5, d4, h0, Nat.reduceBEq, Bool.false_or, Bool.true_or, cond_true, cond_false]
      exact St.Le.mk' ⟨rfl, rfl, rfl, rfl, rfl, rfl, rfl, rfl, rfl, rfl, rfl, rfl, rfl, rfl, rfl, rfl, rfl, rfl, rfl, trivial⟩ ⟨rfl, rfl, rfl, trivial⟩
    repeat (refine Run.go rfl ?_)
    refine Run.of IH' ⟨rfl, rfl, rfl, ?_, trivial⟩ ⟨rfl, rfl, rfl, trivial⟩
    show i64 (IntKind.i64.wrap _) = i64 _
    rw [wrap_i64 (by omega) (by omega)]
    rfl
  · have h : j = N := by simp at h; omega
    subst h
    rw [hN, List.take_length, List.drop_length, List.map_nil, List.append_nil]
    repeat (refine Run.go rfl ?_)
    refine Run.packBox (2, 0) 1 rfl rfl rfl (by simp) ?_
    exact Run.ret hg rfl rfl
end Go.Proofs.Ytlccbfdeonmljaa

/- Contracts of the program's functions, and what follows from them. -/
set_option maxRecDepth 100000
namespace Go.Proofs.Ytlccbfdeonmljaa
open Go Go.Av

/-! Desks that change: the reference frees a copy where it lies. -/

theorem lt_i8 (L : List Int) : (flatc (L.map i8)).all isLT = true := lt_deleteI8_ct L

noncomputable def X88 : Fx := ⟨Try.prog, tys, 88, Try.f88, [0, 1]⟩
theorem X88_ok : X88.Ok := ⟨Try.func88, tys_ok⟩
theorem l06Free_ct (XS YS : List AV) (c : Cp) (ex : Bool) (day : Int) (j : Nat) (hXl : XS.length = j) (hq : c.q.length ≤ 1048576) (hd : 0 ≤ day ∧ day ≤ 10001) :
    CtG Try.prog 88 [.ep lid j 0, i16 day] (.vec 5 ex (XS ++ cpQ false c :: YS)) (.tup []) (.vec 5 ex (XS ++ cpQ false (freeC c day) :: YS)) := by
  have hat : ∀ x : AV, (XS ++ x :: YS)[j]? = some x := fun x => by rw [← hXl]; simp
  have hset : ∀ x y : AV, (XS ++ x :: YS).set j y = XS ++ y :: YS := fun x y => by rw [← hXl, List.set_append_right _ _ (Nat.le_refl _), Nat.sub_self]; rfl
  have hcl : (c.q.map i8).length = c.q.length := List.length_map ..
  have hw : IntKind.i16.wrap (day + 7) = day + 7 := wrap_i16 (by omega) (by omega)
  refine CtG.intro X88 X88_ok rfl (by kernel_rfl) rfl rfl rfl rfl rfl fun g v0 hg => ?_
  repeat (refine Run.go rfl ?_)
  refine Run.uncell lid (7, 0) (7, 1) j 4 (cpQ false c) rfl (hat _) rfl (fun _ => rfl) rfl (by decide) (by decide) (by decide) rfl fun A n => ?_
  rw [hset]
  refine Run.val rfl rfl rfl (ValOk.loadv (.agg [i8 c.st, i8 c.who, i16 c.due, i8 c.ren, .lit (.slice A (c.q.map i8).length n)]) rfl rfl rfl rfl (hat _) rfl) rfl ?_
  refine Run.name 7 (7, 1) rfl rfl rfl ?_
  repeat (refine Run.go rfl ?_)
  refine Run.cond rfl (fun h => ?_) (fun h => ?_)
  · have h : c.q = [] := by simpa using h
    have hf : freeC c day = cp0 := by rw [freeC, h]
    rw [hf] at hg
    repeat (refine Run.go rfl ?_)
    refine Run.storee (.agg [i8 c.st, i8 c.who, i16 c.due, i8 c.ren, .lit (.slice A (c.q.map i8).length n)]) (.agg [i8 0, i8 c.who, i16 c.due, i8 c.ren, .lit (.slice A (c.q.map i8).length n)]) rfl rfl rfl rfl rfl rfl rfl (hat _) rfl rfl rfl ?_
    rw [hset]
    repeat (refine Run.go rfl ?_)
    refine Run.storee (.agg [i8 0, i8 c.who, i16 c.due, i8 c.ren, .lit (.slice A (c.q.map i8).length n)]) (.agg [i8 0, i8 0, i16 c.due, i8 c.ren, .lit (.slice A (c.q.map i8).length n)]) rfl rfl rfl rfl rfl rfl rfl (hat _) rfl rfl rfl ?_
    rw [hset]
    repeat (refine Run.go rfl ?_)
    refine Run.storee (.agg [i8 0, i8 0, i16 c.due, i8 c.ren, .lit (.slice A (c.q.map i8).length n)]) (.agg [i8 0, i8 0, i16 0, i8 c.ren, .lit (.slice A (c.q.map i8).length n)]) rfl rfl rfl rfl rfl rfl rfl (hat _) rfl rfl rfl ?_
    rw [hset]
    repeat (refine Run.go rfl ?_)
    refine Run.storee (.agg [i8 0, i8 0, i16 0, i8 c.ren, .lit (.slice A (c.q.map i8).length n)]) (.agg [i8 0, i8 0, i16 0, i8 0, .lit (.slice A (c.q.map i8).length n)]) rfl rfl rfl rfl rfl rfl rfl (hat _) rfl rfl rfl ?_
    rw [hset]
    repeat (refine Run.go rfl ?_)
    refine Run.recell lid (7, 0) (7, 1) j 4 (.agg [i8 0, i8 0, i16 0, i8 0, .lit (.slice A (c.q.map i8).length n)]) rfl (hat _) rfl rfl rfl (fun _ => rfl) (by decide) ?_
    rw [hset]
    refine Run.retG hg rfl rfl ?_ rfl rfl rfl
    rw [show cpQ false cp0 = .agg [i8 0, i8 0, i16 0, i8 0, .own 1 false (c.q.map i8)] by rw [h]; rfl]
    rfl
  have h : c.q ≠ [] := by simpa using h
  obtain ⟨q0, qd, he⟩ : ∃ q0 qd, c.q = q0 :: qd := by
    cases hh : c.q with
    | nil => exact absurd hh h
    | cons a b => exact ⟨a, b, rfl⟩
  have hq0 : (c.q.map i8)[0 + (0 : Int).toNat]? = some (i8 q0) := by rw [he]; rfl
  have hqd : qd.map i8 = ((c.q.map i8).drop 1).take ((c.q.map i8).length - 1) := by
    rw [he]
    simp only [List.map_cons, List.drop_succ_cons, List.drop_zero, List.length_cons, Nat.add_sub_cancel]
    rw [List.take_length]
  have hdl : (qd.map i8).length ≤ 1048576 := by rw [hqd, List.length_take, List.length_drop]; omega
  have hpos : 1 ≤ c.q.length := by rw [he]; simp
  have hfr : freeC c day = ⟨2, q0, day + 7, 0, qd⟩ := by rw [freeC, he]
  rw [hfr] at hg
  repeat (refine Run.go rfl ?_)
  refine Run.storee (.agg [i8 c.st, i8 c.who, i16 c.due, i8 c.ren, .lit (.slice A (c.q.map i8).length n)]) (.agg [i8 2, i8 c.who, i16 c.due, i8 c.ren, .lit (.slice A (c.q.map i8).length n)]) rfl rfl rfl rfl rfl rfl rfl (hat _) rfl rfl rfl ?_
  rw [hset]
  repeat (refine Run.go rfl ?_)
  refine Run.val rfl rfl rfl (ValOk.loadv (.agg [i8 2, i8 c.who, i16 c.due, i8 c.ren, .lit (.slice A (c.q.map i8).length n)]) rfl rfl rfl rfl (hat _) rfl) rfl ?_
  refine Run.name 29 (7, 1) rfl rfl rfl ?_
  refine Run.val rfl rfl rfl (ValOk.idxv (m := 0) rfl rfl rfl rfl rfl rfl (by omega) (by omega)) rfl ?_
  refine Run.val rfl rfl rfl (ValOk.loadv (i8 q0) rfl rfl rfl rfl hq0 rfl) rfl ?_
  repeat (refine Run.go rfl ?_)
  refine Run.storee (.agg [i8 2, i8 c.who, i16 c.due, i8 c.ren, .lit (.slice A (c.q.map i8).length n)]) (.agg [i8 2, i8 q0, i16 c.due, i8 c.ren, .lit (.slice A (c.q.map i8).length n)]) rfl rfl rfl rfl rfl rfl rfl (hat _) rfl rfl rfl ?_
  rw [hset]
  repeat (refine Run.go rfl ?_)
  refine Run.storee (.agg [i8 2, i8 q0, i16 c.due, i8 c.ren, .lit (.slice A (c.q.map i8).length n)]) (.agg [i8 2, i8 q0, i16 (day + 7), i8 c.ren, .lit (.slice A (c.q.map i8).length n)]) rfl rfl rfl rfl rfl rfl rfl (hat _) rfl rfl ?_ ?_
  · show AV.agg [_, _, i16 (IntKind.i16.wrap (day + 7)), _, _] = _
    rw [hw]
  rw [hset]
  repeat (refine Run.go rfl ?_)
  refine Run.storee (.agg [i8 2, i8 q0, i16 (day + 7), i8 c.ren, .lit (.slice A (c.q.map i8).length n)]) (.agg [i8 2, i8 q0, i16 (day + 7), i8 0, .lit (.slice A (c.q.map i8).length n)]) rfl rfl rfl rfl rfl rfl rfl (hat _) rfl rfl rfl ?_
  rw [hset]
  repeat (refine Run.go rfl ?_)
  refine Run.buildSlice [] rfl rfl rfl rfl rfl rfl rfl rfl rfl rfl rfl rfl rfl rfl ?_
  refine Run.loosen0 43 rfl ?_
  repeat (refine Run.go rfl ?_)
  refine Run.val rfl rfl rfl (ValOk.loadv (.agg [i8 2, i8 q0, i16 (day + 7), i8 0, .lit (.slice A (c.q.map i8).length n)]) rfl rfl rfl rfl (hat _) rfl) rfl ?_
  refine Run.name 47 (7, 1) rfl rfl rfl ?_
  refine Run.val rfl rfl rfl (ValOk.cutv (l := 1) (h := ((c.q.map i8).length : Nat)) rfl rfl rfl rfl rfl rfl rfl (by omega) (by omega) (by omega)) rfl ?_
  refine Run.unpack 43 rfl rfl ?_
  refine Run.appends (ys := qd.map i8) rfl rfl rfl rfl rfl rfl rfl rfl rfl ?_ (lt_i8 qd) rfl rfl rfl (one_i8 _) (by show (0 + _) * 1 ≤ _; omega) (by show 0 + _ ≤ 9223372036854775807; omega) rfl ?_
  · refine (srcOf_vec rfl rfl ?_).trans ?_
    · show 0 + (1 : Int).toNat + ((((c.q.map i8).length : Nat) : Int).toNat - (1 : Int).toNat) ≤ (c.q.map i8).length
      omega
    · show some (1, ((c.q.map i8).drop (0 + (1 : Int).toNat)).take ((((c.q.map i8).length : Nat) : Int).toNat - (1 : Int).toNat)) = some (1, qd.map i8)
      rw [hqd, Int.toNat_natCast]
      rfl
  rw [List.nil_append]
  repeat (refine Run.go rfl ?_)
  refine Run.open1 49 (49, 4) (49, 5) rfl rfl (by decide) rfl fun A2 n2 => ?_
  refine Run.storee (.agg [i8 2, i8 q0, i16 (day + 7), i8 0, .lit (.slice A (c.q.map i8).length n)]) (.agg [i8 2, i8 q0, i16 (day + 7), i8 0, .lit (.slice A2 (qd.map i8).length n2)]) rfl rfl rfl rfl rfl rfl rfl (hat _) rfl rfl rfl ?_
  rw [hset]
  refine Run.recell lid (49, 4) (49, 5) j 4 (.agg [i8 2, i8 q0, i16 (day + 7), i8 0, .lit (.slice A2 (qd.map i8).length n2)]) rfl (hat _) rfl rfl rfl (fun _ => rfl) (by decide) ?_
  rw [hset]
  repeat (refine Run.go rfl ?_)
  exact Run.finG hg rfl rfl rfl rfl rfl rfl
end Go.Proofs.Ytlccbfdeonmljaa

/- Contracts of the program's functions, and what follows from them. -/
set_option maxRecDepth 100000
namespace Go.Proofs.Ytlccbfdeonmljaa
open Go Go.Av

/-! Marks in desks whose slices may have room. -/

end Go.Proofs.Ytlccbfdeonmljaa

/- Contracts of the program's functions, and what follows from them. -/
set_option maxRecDepth 100000
namespace Go.Proofs.Ytlccbfdeonmljaa
open Go Go.Av

/-! Acts in the laws. -/

theorem ac_rf (a : Ac) : (acA a).rf = true := rfl
theorem ac_frz (a : Ac) : (acA a).frz = acA a := rfl
theorem frzA (l : List Ac) : AV.frzL (l.map acA) = l.map acA := frzL_map ac_frz l
theorem rfA (l : List Ac) : AV.rfL (l.map acA) = true := rfL_map ac_rf l

end Go.Proofs.Ytlccbfdeonmljaa

/- Contracts of the program's functions, and what follows from them. -/
set_option maxRecDepth 100000
namespace Go.Proofs.Ytlccbfdeonmljaa
open Go Go.Av

/-! Desks that change: an act, the reference. -/

theorem strike {who : Int} : ∀ {q : List Int}, q.Nodup → q.findIdx (fun x => x == who) < q.length → q.take (q.findIdx fun x => x == who) ++ q.drop (q.findIdx (fun x => x == who) + 1) = q.filter fun x => !(x == who)
  | [], _, h => by simp at h
  | x :: r, hn, h => by
    have hn2 := List.nodup_cons.1 hn
    by_cases e : x = who
    · subst e
      have hr : r.filter (fun y => !(y == x)) = r := by
        rw [List.filter_eq_self]
        intro y hy
        have : y ≠ x := fun e => hn2.1 (e ▸ hy)
        simpa using this
      simp [List.findIdx_cons, hr]
    · have hb : (x == who) = false := by simpa using e
      have hf : (x :: r).findIdx (fun y => y == who) = r.findIdx (fun y => y == who) + 1 := by simp [List.findIdx_cons, hb]
      rw [hf] at h ⊢
      have := strike hn2.2 (by simpa using h)
      simp [hb, this]

noncomputable def X41 : Fx := ⟨Try.prog, tys, 41, Try.f41, [0, 1]⟩
theorem X41_ok : X41.Ok := ⟨Try.func41, tys_ok⟩
set_option maxHeartbeats 1000000 in
theorem l06Apply_ct (d : Dk) (e1 e2 : Bool) (a : Ac) (hW : WD d) (ha : acRng a) : Ct Try.prog 41 [.rp (dkR e1 e2 d).cells 0, acA a] (apA (apR d a)) [] := by
  obtain ⟨what, who, book⟩ := a
  obtain ⟨ha1, ha2, ha3⟩ := ha
  simp only at ha1 ha2 ha3
  have hd := hW.ok
  have hday := hW.day
  have hww : IntKind.i64.wrap what = what := wrap_i64 (by have := ha1.1; omega) (by have := ha1.2; omega)
  have hwo : IntKind.i64.wrap who = who := wrap_i64 (by have := ha2.1; omega) (by have := ha2.2; omega)
  have hwb : IntKind.i64.wrap book = book := wrap_i64 (by have := ha3.1; omega) (by have := ha3.2; omega)
  refine Ct.intro X41 X41_ok rfl (by kernel_rfl) rfl rfl fun g hg => ?_
  repeat (refine Run.go rfl ?_)
  refine Run.cs rfl (l00In_ct what 0 5) (by show [i64 (IntKind.i64.wrap what), _, _] = _; rw [hww]; rfl) rfl ?_
  repeat (refine Run.go rfl ?_)
  refine Run.cond rfl (fun h => ?_) (fun h => ?_)
  · have h : inr what 0 5 = false := by simpa using h
    rw [apR, if_pos h] at hg
    repeat (refine Run.go rfl ?_)
    refine Run.val rfl rfl rfl (ValOk.build rfl rfl rfl rfl rfl) rfl ?_
    repeat (refine Run.go rfl ?_)
    refine Run.nilBox (4, 0) 1 5 false rfl rfl ?_
    exact Run.ret hg rfl rfl
  have hin : inr what 0 5 = true := by simpa using h
  rw [apR, if_neg (by rw [hin]; decide)] at hg
  simp only at hg
  repeat (refine Run.go rfl ?_)
  refine Run.cond rfl (fun h5 => ?_) (fun h5 => ?_)
  · have h5 : what = 5 := by simpa using h5
    rw [if_pos h5] at hg
    repeat (refine Run.go rfl ?_)
    refine Run.bool (b := decide (who ≠ 0)) 35 (by show bo (!(IntKind.i64.wrap who == 0)) = _; rw [hwo]; by_cases e : who = 0 <;> simp [e]) (fun h => ?_) (fun h => ?_)
    · have h : ¬ who = 0 := of_decide_eq_true h
      rw [if_pos (.inl h)] at hg
      repeat (refine Run.go rfl ?_)
      refine Run.cond rfl (fun _ => ?_) (fun h => by cases h)
      repeat (refine Run.go rfl ?_)
      refine Run.val rfl rfl rfl (ValOk.build rfl rfl rfl rfl rfl) rfl ?_
      repeat (refine Run.go rfl ?_)
      refine Run.nilBox (4, 0) 1 5 false rfl rfl ?_
      exact Run.ret hg rfl rfl
    have hw0 : who = 0 := by
      have h : ¬ ¬ who = 0 := of_decide_eq_false h
      omega
    repeat (refine Run.go rfl ?_)
    refine Run.cond (b := decide (book ≠ 0)) (by show bo (!(IntKind.i64.wrap book == 0)) = _; rw [hwb]; by_cases e : book = 0 <;> simp [e]) (fun h => ?_) (fun h => ?_)
    · have h : ¬ book = 0 := of_decide_eq_true h
      rw [if_pos (.inr h)] at hg
      repeat (refine Run.go rfl ?_)
      refine Run.val rfl rfl rfl (ValOk.build rfl rfl rfl rfl rfl) rfl ?_
      repeat (refine Run.go rfl ?_)
      refine Run.nilBox (4, 0) 1 5 false rfl rfl ?_
      exact Run.ret hg rfl rfl
    have hb0 : book = 0 := by
      have h : ¬ ¬ book = 0 := of_decide_eq_false h
      omega
    rw [if_neg (by omega)] at hg
    repeat (refine Run.go rfl ?_)
    refine Run.cond rfl (fun h => ?_) (fun h => ?_)
    · have h : d.day = 10000 := by simpa using h
      rw [if_pos h] at hg
      repeat (refine Run.go rfl ?_)
      refine Run.val rfl rfl rfl (ValOk.build rfl rfl rfl rfl rfl) rfl ?_
      repeat (refine Run.go rfl ?_)
      refine Run.nilBox (4, 0) 1 5 false rfl rfl ?_
      exact Run.ret hg rfl rfl
    have hl : ¬ d.day = 10000 := by simpa using h
    rw [if_neg hl] at hg
    have hw16 : IntKind.i16.wrap (d.day + 1) = d.day + 1 := wrap_i16 (by omega) (by omega)
    repeat (refine Run.go rfl ?_)
    refine Run.cs rfl (l06Own_ct d e1 e2 hd) rfl (dkQ_rf _ _ _) ?_
    repeat (refine Run.go rfl ?_)
    refine Run.unagg 47 1 (47, 1) rfl rfl rfl ?_
    repeat (refine Run.go rfl ?_)
    obtain ⟨day, hdy⟩ : ∃ day, day = d.day + 1 := ⟨_, rfl⟩
    obtain ⟨N, hN⟩ : ∃ N, N = d.cs.length := ⟨_, rfl⟩
    have hday1 : 0 ≤ day ∧ day ≤ 10001 := by omega
    have hN1 : N ≤ 1048576 := by rw [hN]; exact hd.1
    refine Run.loop (fun j : Nat => ⟨[(4, .bp (4, 0) 0), (9, .bp (9, 0) 0), (10, i64 (j : Nat))],
      [((4, 0), .box [i16 0, .lit (.slice none 0 0)]), ((9, 0), .box [i16 day, .vec (47, 1) 0 N]), ((47, 1), .vec 5 false (((d.cs.take j).map (nxC day)).map (cpQ false) ++ (d.cs.drop j).map (cpQ false)))]⟩) (fun j => j ≤ N) (fun j => N - j) 0 (by omega) ?_ ?_
    · refine St.Le.mk' ⟨rfl, rfl, rfl, trivial⟩ ⟨rfl, ?_, rfl, trivial⟩
      show Ob.box [i16 (IntKind.i16.wrap (d.day + 1)), AV.vec _ _ (d.cs.map (cpQ false)).length] = _
      rw [hw16, List.length_map, hN, hdy]
    intro j hj IH
    repeat (refine Run.go rfl ?_)
    refine Run.cond rfl (fun h => ?_) (fun h => ?_)
    · have h : j < N := by simpa using h
      have hlt : j < d.cs.length := by omega
      obtain ⟨XS, hXS⟩ : ∃ XS, XS = ((d.cs.take j).map (nxC day)).map (cpQ false) := ⟨_, rfl⟩
      obtain ⟨YS, hYS⟩ : ∃ YS, YS = (d.cs.drop (j + 1)).map (cpQ false) := ⟨_, rfl⟩
      have hXl : XS.length = j := by rw [hXS, List.length_map, List.length_map, List.length_take]; omega
      have hst : ((d.cs.take (j + 1)).map (nxC day)).map (cpQ false) ++ (d.cs.drop (j + 1)).map (cpQ false) = XS ++ cpQ false (nxC day d.cs[j]) :: YS := by
        rw [List.take_succ_eq_append_getElem hlt, List.map_append, List.map_append, ← hXS, ← hYS, List.append_assoc]
        rfl
      have hcq := hd.2 d.cs[j] (by simp)
      have hYl : YS.length + j + 1 = N := by rw [hYS, List.length_map, List.length_drop]; omega
      rw [List.drop_eq_getElem_cons hlt, List.map_cons, ← hXS, ← hYS]
      have IH' := IH (j + 1) (by omega) (by omega)
      rw [hst] at IH'
      clear hst IH hXS hYS
      generalize d.cs[j] = c at hcq IH'
      have hat : ∀ x : AV, (XS ++ x :: YS)[j]? = some x := fun x => by rw [← hXl]; simp
      have hlen : ∀ x : AV, (XS ++ x :: YS).length = N := fun x => by simp; omega
      have hm : 0 + ((j : Int)).toNat = j := by simp
      have hwj : IntKind.i64.wrap ((j : Int) + 1) = (j + 1 : Nat) := by rw [wrap_i64 (by omega) (by omega)]; rfl
      repeat (refine Run.go rfl ?_)
      refine Run.drawS ⟨[(4, .bp (4, 0) 0), (9, .bp (9, 0) 0), (10, i64 (j : Nat)), (76, bo (decide (c.st = 2 ∧ c.due < day)))],
        [((4, 0), .box [i16 0, .lit (.slice none 0 0)]), ((9, 0), .box [i16 day, .vec (47, 1) 0 N]), ((47, 1), .vec 5 false (XS ++ cpQ false c :: YS))]⟩ (by kernel_rfl) (by decide +kernel) ?_ ?_
      · repeat (refine Quiet.go rfl ?_)
        refine Quiet.val rfl rfl (ValOk.idxv (m := (j : Int)) rfl rfl rfl rfl rfl rfl (by omega) (by omega)) rfl ?_
        rw [hm]
        repeat (refine Quiet.go rfl ?_)
        refine Quiet.val rfl rfl (ValOk.loadv (cpQ false c) rfl rfl rfl rfl (hat _) rfl) rfl ?_
        repeat (refine Quiet.go rfl ?_)
        refine Quiet.bool 66 rfl (fun h2 => ?_) (fun h2 => ?_)
        · have h2 : c.st = 2 := by simpa using h2
          repeat (refine Quiet.go rfl ?_)
          refine Quiet.val rfl rfl (ValOk.idxv (m := (j : Int)) rfl rfl rfl rfl rfl rfl (by omega) (by omega)) rfl ?_
          rw [hm]
          repeat (refine Quiet.go rfl ?_)
          refine Quiet.val rfl rfl (ValOk.loadv (cpQ false c) rfl rfl rfl rfl (hat _) rfl) rfl ?_
          repeat (refine Quiet.go rfl ?_)
          refine Quiet.nil (St.Le.mk' ⟨rfl, rfl, rfl, ?_, trivial⟩ ⟨rfl, rfl, rfl, trivial⟩)
          show bo (decide (c.due < day)) = bo (decide (c.st = 2 ∧ c.due < day))
          congr 1
          by_cases e : c.due < day <;> simp [e, h2]
        · have h2 : ¬ c.st = 2 := by simpa using h2
          repeat (refine Quiet.go rfl ?_)
          refine Quiet.nil (St.Le.mk' ⟨rfl, rfl, rfl, ?_, trivial⟩ ⟨rfl, rfl, rfl, trivial⟩)
          show bo false = bo (decide (c.st = 2 ∧ c.due < day))
          rw [decide_eq_false (fun e => h2 e.1)]
      refine Run.cond rfl (fun h3 => ?_) (fun h3 => ?_)
      · have h3 : c.st = 2 ∧ c.due < day := of_decide_eq_true h3
        have he : nxC day c = freeC c day := by rw [nxC, if_pos h3]
        repeat (refine Run.go rfl ?_)
        refine Run.drawI (fun D => ⟨[(4, .bp (4, 0) 0), (9, .bp (9, 0) 0), (10, i64 (j : Nat)), (77, bif D 0 then .bp (9, 0) 1 else .top), (78, bif D 1 then .vec (47, 1) 0 N else .top), (79, bif D 2 then i64 (j : Nat) else .top), (80, bif D 3 then .ep (47, 1) j 0 else .top), (81, bif D 4 then .bp (9, 0) 0 else .top), (82, bif D 5 then i16 day else .top), (83, bif D 6 then .tup [] else .top)], [((4, 0), Ob.box [i16 0, .lit (.slice none 0 0)]), ((9, 0), Ob.box [i16 day, .vec (47, 1) 0 N]), ((47, 1), (bif D 6 then Ob.vec 5 false (XS ++ cpQ false (freeC c day) :: YS) else Ob.vec 5 false (XS ++ cpQ false c :: YS)))]⟩) (by decide +kernel) (by decide +kernel) ?_ ?_ fun k' => ⟨?_, ?_, ?_, ?_, ?_, ?_, ?_, trivial⟩
        · exact St.Le.mk' ⟨rfl, rfl, rfl, rfl, rfl, rfl, rfl, rfl, rfl, rfl, trivial⟩ ⟨rfl, rfl, rfl, trivial⟩
        rotate_left
        · intro D hid h0 hp hs rest hK
          obtain ⟨d1, -⟩ : AllD D false [1] := ideal_sub hs (by decide +kernel)
          simp only [d1, h0, cond_true, cond_false]
          refine Run.go rfl ?_
          refine Run.le ?_ hK
          simp only [d1, h0, Nat.reduceBEq, Bool.false_or, Bool.true_or, cond_true, cond_false]
          exact St.Le.mk' ⟨rfl, rfl, rfl, rfl, rfl, rfl, rfl, rfl, rfl, rfl, trivial⟩ ⟨rfl, rfl, rfl, trivial⟩
        · intro D hid h0 hp hs rest hK
          obtain ⟨d0, -⟩ : AllD D true [0] := ideal_sub hp (by decide +kernel)
          obtain ⟨d3, -⟩ : AllD D false [3] := ideal_sub hs (by decide +kernel)
          simp only [d0, d3, h0, cond_true, cond_false]
          refine Run.go rfl ?_
          refine Run.le ?_ hK
          simp only [d0, d3, h0, Nat.reduceBEq, Bool.false_or, Bool.true_or, cond_true, cond_false]
          exact St.Le.mk' ⟨rfl, rfl, rfl, rfl, rfl, rfl, rfl, rfl, rfl, rfl, trivial⟩ ⟨rfl, rfl, rfl, trivial⟩
        · intro D hid h0 hp hs rest hK
          obtain ⟨d3, -⟩ : AllD D false [3] := ideal_sub hs (by decide +kernel)
          simp only [d3, h0, cond_true, cond_false]
          refine Run.go rfl ?_
          refine Run.le ?_ hK
          simp only [d3, h0, Nat.reduceBEq, Bool.false_or, Bool.true_or, cond_true, cond_false]
          exact St.Le.mk' ⟨rfl, rfl, rfl, rfl, rfl, rfl, rfl, rfl, rfl, rfl, trivial⟩ ⟨rfl, rfl, rfl, trivial⟩
        · intro D hid h0 hp hs rest hK
          obtain ⟨d1, d2, -⟩ : AllD D true [1, 2] := ideal_sub hp (by decide +kernel)
          obtain ⟨d6, -⟩ : AllD D false [6] := ideal_sub hs (by decide +kernel)
          have d6 : D 6 = false := ideal_no (i := 6) (j := 3) hid (by decide +kernel) h0
          simp only [d1, d2, d6, d6, h0, cond_true, cond_false]
          refine Run.val rfl rfl rfl (ValOk.idxv (m := (j : Int)) rfl rfl rfl rfl rfl rfl (by omega) (by omega)) rfl ?_
          rw [hm]
          refine Run.le ?_ hK
          simp only [d1, d2, d6, d6, h0, Nat.reduceBEq, Bool.false_or, Bool.true_or, cond_true, cond_false]
          exact St.Le.mk' ⟨rfl, rfl, rfl, rfl, rfl, rfl, rfl, rfl, rfl, rfl, trivial⟩ ⟨rfl, rfl, rfl, trivial⟩
        · intro D hid h0 hp hs rest hK
          obtain ⟨d5, -⟩ : AllD D false [5] := ideal_sub hs (by decide +kernel)
          simp only [d5, h0, cond_true, cond_false]
          refine Run.go rfl ?_
          refine Run.le ?_ hK
          simp only [d5, h0, Nat.reduceBEq, Bool.false_or, Bool.true_or, cond_true, cond_false]
          exact St.Le.mk' ⟨rfl, rfl, rfl, rfl, rfl, rfl, rfl, rfl, rfl, rfl, trivial⟩ ⟨rfl, rfl, rfl, trivial⟩
        · intro D hid h0 hp hs rest hK
          obtain ⟨d4, -⟩ : AllD D true [4] := ideal_sub hp (by decide +kernel)
          obtain ⟨d6, -⟩ : AllD D false [6] := ideal_sub hs (by decide +kernel)
          simp only [d4, d6, h0, cond_true, cond_false]
          refine Run.go rfl ?_
          refine Run.le ?_ hK
          simp only [d4, d6, h0, Nat.reduceBEq, Bool.false_or, Bool.true_or, cond_true, cond_false]
          exact St.Le.mk' ⟨rfl, rfl, rfl, rfl, rfl, rfl, rfl, rfl, rfl, rfl, trivial⟩ ⟨rfl, rfl, rfl, trivial⟩
        · intro D hid h0 hp hs rest hK
          obtain ⟨d3, d5, -⟩ : AllD D true [3, 5] := ideal_sub hp (by decide +kernel)
          simp only [d3, d5, h0, cond_true, cond_false]
          refine Run.callG (47, 1) rfl rfl rfl rfl rfl rfl rfl rfl (l06Free_ct XS YS c false day j hXl hcq hday1) rfl rfl ?_
          refine Run.le ?_ hK
          simp only [d3, d5, h0, Nat.reduceBEq, Bool.false_or, Bool.true_or, cond_true, cond_false]
          exact St.Le.mk' ⟨rfl, rfl, rfl, rfl, rfl, rfl, rfl, rfl, rfl, rfl, trivial⟩ ⟨rfl, rfl, rfl, trivial⟩
        repeat (refine Run.go rfl ?_)
        refine Run.of IH' ⟨rfl, rfl, ?_, trivial⟩ ⟨rfl, rfl, ?_, trivial⟩
        · show i64 (IntKind.i64.wrap _) = i64 _
          rw [hwj]
        · rw [he]; rfl
      · have h3 : ¬ (c.st = 2 ∧ c.due < day) := of_decide_eq_false h3
        have he : nxC day c = c := by rw [nxC, if_neg h3]
        repeat (refine Run.go rfl ?_)
        refine Run.of IH' ⟨rfl, rfl, ?_, trivial⟩ ⟨rfl, rfl, ?_, trivial⟩
        · show i64 (IntKind.i64.wrap _) = i64 _
          rw [hwj]
        · rw [he]; rfl
    · have h : j = N := by simp at h; omega
      subst h
      rw [hN, List.take_length, List.drop_length, List.map_nil, List.append_nil]
      repeat (refine Run.go rfl ?_)
      refine Run.packBox (4, 0) 1 rfl rfl rfl (by simp) ?_
      refine Run.ret hg rfl ?_
      rw [hdy]
      rfl
  have h5 : ¬ what = 5 := by simpa using h5
  rw [if_neg h5] at hg
  have hl60 := hW.len
  repeat (refine Run.go rfl ?_)
  refine Run.cs rfl (l06Person_ct who) (by show [i64 (IntKind.i64.wrap who)] = _; rw [hwo]) rfl ?_
  repeat (refine Run.go rfl ?_)
  refine Run.bool 88 rfl (fun h => ?_) (fun h => ?_)
  · have h : inr who 0 49 = false := by simpa using h
    rw [if_pos (by rw [h]; rfl)] at hg
    repeat (refine Run.go rfl ?_)
    refine Run.cond rfl (fun _ => ?_) (fun h => by cases h)
    repeat (refine Run.go rfl ?_)
    refine Run.val rfl rfl rfl (ValOk.build rfl rfl rfl rfl rfl) rfl ?_
    repeat (refine Run.go rfl ?_)
    refine Run.nilBox (4, 0) 1 5 false rfl rfl ?_
    exact Run.ret hg rfl rfl
  have hwho : inr who 0 49 = true := by simpa using h
  repeat (refine Run.go rfl ?_)
  refine Run.cs rfl (l00In_ct book 0 (d.cs.length - 1)) (by show [i64 (IntKind.i64.wrap book), i64 0, i64 (IntKind.i64.wrap (((d.cs.map (cpR e2)).length : Int) - 1))] = _; rw [hwb, List.length_map, wrap_i64 (by omega) (by omega)]) rfl ?_
  repeat (refine Run.go rfl ?_)
  refine Run.cond rfl (fun h => ?_) (fun h => ?_)
  · have h : inr book 0 (d.cs.length - 1) = false := by simpa using h
    rw [if_pos (by rw [h, Bool.and_false])] at hg
    repeat (refine Run.go rfl ?_)
    refine Run.val rfl rfl rfl (ValOk.build rfl rfl rfl rfl rfl) rfl ?_
    repeat (refine Run.go rfl ?_)
    refine Run.nilBox (4, 0) 1 5 false rfl rfl ?_
    exact Run.ret hg rfl rfl
  have hbk : inr book 0 (d.cs.length - 1) = true := by simpa using h
  rw [if_neg (by rw [hwho, hbk]; decide)] at hg
  obtain ⟨j, rfl⟩ : ∃ j : Nat, book = (j : Int) := ⟨book.toNat, by simp [inr] at hbk; omega⟩
  have hj : j < d.cs.length := by simp [inr] at hbk; omega
  rw [Int.toNat_natCast] at hg
  have hgc : d.cs.getD j cp0 = d.cs[j] := by simp [hj]
  rw [hgc] at hg
  have hcw := hW.cp d.cs[j] (by simp)
  have hcs := hW.st d.cs[j] (by simp)
  have hlends := l06Lends_ct d e1 e2 who j hd hW.rng hj
  obtain ⟨XS, hXS⟩ : ∃ XS, XS = (d.cs.take j).map (cpQ false) := ⟨_, rfl⟩
  obtain ⟨YS, hYS⟩ : ∃ YS, YS = (d.cs.drop (j + 1)).map (cpQ false) := ⟨_, rfl⟩
  have hXl : XS.length = j := by rw [hXS, List.length_map, List.length_take]; omega
  have hL : d.cs.map (cpQ false) = XS ++ cpQ false d.cs[j] :: YS := by
    rw [hXS, hYS, ← List.map_cons, ← List.map_append, ← List.drop_eq_getElem_cons hj, List.take_append_drop]
  have hset : ∀ x y : AV, (XS ++ x :: YS).set j y = XS ++ y :: YS := fun x y => by rw [← hXl, List.set_append_right _ _ (Nat.le_refl _), Nat.sub_self]; rfl
  have hL2 : ∀ x : Cp, (d.cs.set j x).map (cpQ false) = XS ++ cpQ false x :: YS := fun x => by rw [List.map_set, hL, hset]
  obtain ⟨N, hN⟩ : ∃ N, N = d.cs.length := ⟨_, rfl⟩
  have hYl : XS.length + YS.length + 1 = N := by
    have := congrArg List.length hL
    simp at this
    omega
  generalize d.cs[j] = c at hg hcw hcs hlends hL
  obtain ⟨hc1, hc2, hc3, hc4⟩ := hcw
  have hat : ∀ x : AV, (XS ++ x :: YS)[j]? = some x := fun x => by rw [← hXl]; simp
  have hlen : ∀ x : AV, (XS ++ x :: YS).length = N := fun x => by simp; omega
  have hm : 0 + ((j : Int)).toNat = j := by simp
  repeat (refine Run.go rfl ?_)
  refine Run.cs rfl (l06Own_ct d e1 e2 hd) rfl (dkQ_rf _ _ _) ?_
  repeat (refine Run.go rfl ?_)
  refine Run.unagg 101 1 (101, 1) rfl rfl rfl ?_
  rw [hL]
  repeat (refine Run.go rfl ?_)
  refine Run.val rfl rfl rfl (ValOk.idxv (m := (j : Int)) rfl rfl rfl rfl rfl (by show i64 (IntKind.i64.wrap (j : Int)) = _; rw [hwb]) (by omega) (by rw [hlen]; omega)) rfl ?_
  rw [hm, hlen]
  refine Run.go rfl ?_
  refine Run.go rfl ?_
  have hwc : IntKind.i64.wrap c.who = c.who := wrap_i64 (by have := hc1.2.1.1; omega) (by have := hc1.2.1.2; omega)
  refine Run.seqJ ⟨[(0, .rp (dkR e1 e2 d).cells 0), (3, .bp (3, 0) 0), (4, .bp (4, 0) 0), (7, i64 who), (8, i64 (j : Nat)), (11, .bp (11, 0) 0), (12, .ep (101, 1) j 0), (13, bo (lentTo who c))], [((3, 0), .box [i8 what, i8 who, i8 j]), ((4, 0), .box [i16 0, .lit (.slice none 0 0)]), ((11, 0), .box [i16 d.day, .vec (101, 1) 0 N]), ((101, 1), .vec 5 false (XS ++ cpQ false c :: YS))]⟩ (fun k' hM => ?_) ?_
  · repeat (refine Run.go rfl ?_)
    refine Run.val rfl rfl rfl (ValOk.loadv (cpQ false c) rfl rfl rfl rfl (hat _) rfl) rfl ?_
    repeat (refine Run.go rfl ?_)
    refine Run.bool 111 rfl (fun h => ?_) (fun h => ?_)
    · have h : c.st = 1 := by simpa using h
      repeat (refine Run.go rfl ?_)
      refine Run.val rfl rfl rfl (ValOk.loadv (cpQ false c) rfl rfl rfl rfl (hat _) rfl) rfl ?_
      repeat (refine Run.go rfl ?_)
      refine Run.of hM ⟨rfl, rfl, rfl, ?_, ?_, rfl, rfl, ?_, trivial⟩ ⟨rfl, rfl, rfl, rfl, trivial⟩
      · show i64 (IntKind.i64.wrap who) = _
        rw [hwo]
      · show i64 (IntKind.i64.wrap (j : Int)) = _
        rw [hwb]
      · show bo (IntKind.i64.wrap c.who == IntKind.i64.wrap who) = bo (lentTo who c)
        rw [hwc, hwo, lentTo, decide_eq_true h, Bool.true_and]
        congr 1
    · have h : ¬ c.st = 1 := by simpa using h
      repeat (refine Run.go rfl ?_)
      refine Run.of hM ⟨rfl, rfl, rfl, ?_, ?_, rfl, rfl, ?_, trivial⟩ ⟨rfl, rfl, rfl, rfl, trivial⟩
      · show i64 (IntKind.i64.wrap who) = _
        rw [hwo]
      · show i64 (IntKind.i64.wrap (j : Int)) = _
        rw [hwb]
      · show bo false = bo (lentTo who c)
        rw [lentTo, decide_eq_false h, Bool.false_and]
  refine Run.seqJ ⟨[(0, .rp (dkR e1 e2 d).cells 0), (3, .bp (3, 0) 0), (4, .bp (4, 0) 0), (7, i64 who), (8, i64 (j : Nat)), (11, .bp (11, 0) 0), (12, .ep (101, 1) j 0), (13, bo (lentTo who c)), (14, bo (decide (c.st = 2) && decide (c.who = who)))], [((3, 0), .box [i8 what, i8 who, i8 j]), ((4, 0), .box [i16 0, .lit (.slice none 0 0)]), ((11, 0), .box [i16 d.day, .vec (101, 1) 0 N]), ((101, 1), .vec 5 false (XS ++ cpQ false c :: YS))]⟩ (fun k' hM => ?_) ?_
  · repeat (refine Run.go rfl ?_)
    refine Run.val rfl rfl rfl (ValOk.loadv (cpQ false c) rfl rfl rfl rfl (hat _) rfl) rfl ?_
    repeat (refine Run.go rfl ?_)
    refine Run.bool 125 rfl (fun h => ?_) (fun h => ?_)
    · have h : c.st = 2 := by simpa using h
      repeat (refine Run.go rfl ?_)
      refine Run.val rfl rfl rfl (ValOk.loadv (cpQ false c) rfl rfl rfl rfl (hat _) rfl) rfl ?_
      repeat (refine Run.go rfl ?_)
      refine Run.of hM ⟨rfl, rfl, rfl, rfl, rfl, rfl, rfl, rfl, ?_, trivial⟩ ⟨rfl, rfl, rfl, rfl, trivial⟩
      · show bo (IntKind.i64.wrap c.who == who) = bo (decide (c.st = 2) && decide (c.who = who))
        rw [hwc, decide_eq_true h, Bool.true_and]
        congr 1
    · have h : ¬ c.st = 2 := by simpa using h
      repeat (refine Run.go rfl ?_)
      refine Run.of hM ⟨rfl, rfl, rfl, rfl, rfl, rfl, rfl, rfl, ?_, trivial⟩ ⟨rfl, rfl, rfl, rfl, trivial⟩
      · show bo false = bo (decide (c.st = 2) && decide (c.who = who))
        rw [decide_eq_false h, Bool.false_and]
  refine Run.seqJ ⟨[(0, .rp (dkR e1 e2 d).cells 0), (3, .bp (3, 0) 0), (4, .bp (4, 0) 0), (7, i64 who), (8, i64 (j : Nat)), (11, .bp (11, 0) 0), (12, .ep (101, 1) j 0), (13, bo (lentTo who c)), (14, bo (decide (c.st = 2) && decide (c.who = who))), (15, i64 (fi (fun x => x == who) c.q))], [((3, 0), .box [i8 what, i8 who, i8 j]), ((4, 0), .box [i16 0, .lit (.slice none 0 0)]), ((11, 0), .box [i16 d.day, .vec (101, 1) 0 N]), ((101, 1), .vec 5 false (XS ++ cpQ false c :: YS))]⟩ (fun k' hM => ?_) ?_
  · repeat (refine Run.go rfl ?_)
    refine Run.uncell (101, 1) (137, 0) (137, 1) j 4 (cpQ false c) rfl (hat _) rfl (fun _ => rfl) rfl (by decide) (by decide) (by decide) rfl fun A n => ?_
    rw [hset]
    refine Run.val rfl rfl rfl (ValOk.loadv (.agg [i8 c.st, i8 c.who, i16 c.due, i8 c.ren, .lit (.slice A (c.q.map i8).length n)]) rfl rfl rfl rfl (hat _) rfl) rfl ?_
    refine Run.name 137 (137, 1) rfl rfl rfl ?_
    repeat (refine Run.go rfl ?_)
    refine Run.cs rfl (l06Place_ct c.q false who (by omega) hc1.2.2.2.2) (by rw [frz8, decide_eq_true rfl]; rfl) rfl ?_
    refine Run.recell (101, 1) (137, 0) (137, 1) j 4 (.agg [i8 c.st, i8 c.who, i16 c.due, i8 c.ren, .lit (.slice A (c.q.map i8).length n)]) rfl (hat _) rfl rfl rfl (fun _ => rfl) (by decide) ?_
    rw [hset]
    repeat (refine Run.go rfl ?_)
    exact Run.of hM ⟨rfl, rfl, rfl, rfl, rfl, rfl, rfl, rfl, rfl, rfl, trivial⟩ ⟨rfl, rfl, rfl, rfl, trivial⟩
  have hw28 : IntKind.i16.wrap (d.day + 28) = d.day + 28 := wrap_i16 (by omega) (by omega)
  refine Run.seqJ ⟨[(0, .rp (dkR e1 e2 d).cells 0), (3, .bp (3, 0) 0), (4, .bp (4, 0) 0), (7, i64 who), (8, i64 (j : Nat)), (11, .bp (11, 0) 0), (12, .ep (101, 1) j 0), (13, bo (lentTo who c)), (14, bo (decide (c.st = 2) && decide (c.who = who))), (15, i64 (fi (fun x => x == who) c.q)), (16, i64 0)], [((3, 0), .box [i8 what, i8 who, i8 j]), ((4, 0), .box [i16 0, .lit (.slice none 0 0)]), ((11, 0), .box [i16 d.day, .vec (101, 1) 0 N]), ((101, 1), .vec 5 false (XS ++ cpQ false c :: YS))]⟩ (fun k' hM => ?_) ?_
  · repeat (refine Run.go rfl ?_)
    exact Run.of hM ⟨rfl, rfl, rfl, rfl, rfl, rfl, rfl, rfl, rfl, rfl, rfl, trivial⟩ ⟨rfl, rfl, rfl, rfl, trivial⟩
  refine Run.seqJ ⟨[(0, .rp (dkR e1 e2 d).cells 0), (3, .bp (3, 0) 0), (4, .bp (4, 0) 0), (7, i64 who), (8, i64 (j : Nat)), (11, .bp (11, 0) 0), (12, .ep (101, 1) j 0), (13, bo (lentTo who c)), (14, bo (decide (c.st = 2) && decide (c.who = who))), (15, i64 (fi (fun x => x == who) c.q)), (16, i64 0), (17, bo false)], [((3, 0), .box [i8 what, i8 who, i8 j]), ((4, 0), .box [i16 0, .lit (.slice none 0 0)]), ((11, 0), .box [i16 d.day, .vec (101, 1) 0 N]), ((101, 1), .vec 5 false (XS ++ cpQ false c :: YS))]⟩ (fun k' hM => ?_) ?_
  · repeat (refine Run.go rfl ?_)
    exact Run.of hM ⟨rfl, rfl, rfl, rfl, rfl, rfl, rfl, rfl, rfl, rfl, rfl, rfl, trivial⟩ ⟨rfl, rfl, rfl, rfl, trivial⟩
  refine Run.seqJ ⟨[(4, .bp (4, 0) 0), (11, .bp (11, 0) 0), (16, i64 (if what = 1 then fineP d.day c else 0)), (17, bo (!(chC d c what who).2))], [((4, 0), .box [i16 0, .lit (.slice none 0 0)]), ((11, 0), .box [i16 d.day, .vec (101, 1) 0 N]), ((101, 1), .vec 5 false (XS ++ cpQ false (chC d c what who).1 :: YS))]⟩ (fun k' hM => ?_) ?_
  rotate_left
  · generalize chC d c what who = R at hg
    obtain ⟨c2, ok⟩ := R
    simp only at hg
    repeat (refine Run.go rfl ?_)
    refine Run.cond rfl (fun h => ?_) (fun h => ?_)
    · have h : ok = false := by simpa using h
      rw [if_pos h] at hg
      repeat (refine Run.go rfl ?_)
      refine Run.val rfl rfl rfl (ValOk.build rfl rfl rfl rfl rfl) rfl ?_
      repeat (refine Run.go rfl ?_)
      refine Run.nilBox (4, 0) 1 5 false rfl rfl ?_
      exact Run.ret hg rfl rfl
    have h : ok = true := by simpa using h
    rw [if_neg (by rw [h]; decide)] at hg
    repeat (refine Run.go rfl ?_)
    refine Run.packBox (4, 0) 1 rfl rfl rfl (by rw [hlen]) ?_
    refine Run.ret hg rfl ?_
    show AV.tup [.agg [_, .own 5 false (XS ++ cpQ false c2 :: YS)], _, _] = AV.tup [.agg [_, .own 5 false ((d.cs.set j c2).map (cpQ false))], _, _]
    rw [hL2]
    rfl
  repeat (refine Run.go rfl ?_)
  refine Run.cond rfl (fun h0 => ?_) (fun h0 => ?_)
  · have h0 : what = 0 := by simpa using h0
    rw [chC, if_pos h0, if_neg (by omega)] at hM
    repeat (refine Run.go rfl ?_)
    refine Run.cs rfl hlends rfl rfl ?_
    repeat (refine Run.go rfl ?_)
    refine Run.storee (.agg [i8 c.st, i8 c.who, i16 c.due, i8 c.ren, .own 1 false (c.q.map i8)]) (.agg [i8 1, i8 c.who, i16 c.due, i8 c.ren, .own 1 false (c.q.map i8)]) rfl rfl rfl rfl rfl rfl rfl (hat _) rfl rfl rfl ?_
    rw [hset]
    repeat (refine Run.go rfl ?_)
    refine Run.storee (.agg [i8 1, i8 c.who, i16 c.due, i8 c.ren, .own 1 false (c.q.map i8)]) (.agg [i8 1, i8 who, i16 c.due, i8 c.ren, .own 1 false (c.q.map i8)]) rfl rfl rfl rfl rfl rfl rfl (hat _) rfl rfl rfl ?_
    rw [hset]
    repeat (refine Run.go rfl ?_)
    refine Run.storee (.agg [i8 1, i8 who, i16 c.due, i8 c.ren, .own 1 false (c.q.map i8)]) (.agg [i8 1, i8 who, i16 (d.day + 28), i8 c.ren, .own 1 false (c.q.map i8)]) rfl rfl rfl rfl rfl rfl rfl (hat _) rfl rfl ?_ ?_
    · show AV.agg [_, _, i16 (IntKind.i16.wrap (d.day + 28)), _, _] = _
      rw [hw28]
    rw [hset]
    repeat (refine Run.go rfl ?_)
    refine Run.storee (.agg [i8 1, i8 who, i16 (d.day + 28), i8 c.ren, .own 1 false (c.q.map i8)]) (.agg [i8 1, i8 who, i16 (d.day + 28), i8 0, .own 1 false (c.q.map i8)]) rfl rfl rfl rfl rfl rfl rfl (hat _) rfl rfl rfl ?_
    rw [hset]
    repeat (refine Run.go rfl ?_)
    exact Run.of hM ⟨rfl, rfl, rfl, rfl, trivial⟩ ⟨rfl, rfl, rfl, trivial⟩
  have h0 : ¬ what = 0 := by simpa using h0
  repeat (refine Run.go rfl ?_)
  refine Run.cond rfl (fun h1 => ?_) (fun h1 => ?_)
  · have h1 : what = 1 := by simpa using h1
    rw [chC, if_neg h0, if_pos h1, if_pos h1] at hM
    repeat (refine Run.go rfl ?_)
    refine Run.csx rfl rfl rfl rfl rfl (St.expL_ep rfl (hat _) rfl) (l06Fine_ct c false d.day hc1 (by unfold i16r; omega)) (by rw [cpQ_frz]; rfl) rfl rfl ?_
    repeat (refine Run.go rfl ?_)
    refine Run.callG (101, 1) rfl rfl rfl rfl rfl rfl rfl rfl (l06Free_ct XS YS c false d.day j hXl (by omega) (by omega)) rfl rfl ?_
    repeat (refine Run.go rfl ?_)
    exact Run.of hM ⟨rfl, rfl, rfl, rfl, trivial⟩ ⟨rfl, rfl, rfl, trivial⟩
  have h1 : ¬ what = 1 := by simpa using h1
  repeat (refine Run.go rfl ?_)
  refine Run.cond rfl (fun h2 => ?_) (fun h2 => ?_)
  · have h2 : what = 2 := by simpa using h2
    rw [chC, if_neg h0, if_neg h1, if_pos h2, if_neg h1, Bool.not_not] at hM
    refine Run.seqJ ⟨[(0, .rp (dkR e1 e2 d).cells 0), (3, .bp (3, 0) 0), (4, .bp (4, 0) 0), (7, i64 who), (8, i64 (j : Nat)), (11, .bp (11, 0) 0), (12, .ep (101, 1) j 0), (13, bo (lentTo who c)), (14, bo (decide (c.st = 2) && decide (c.who = who))), (15, i64 (fi (fun x => x == who) c.q)), (16, i64 0), (17, bo (ask2 who c))], [((3, 0), .box [i8 what, i8 who, i8 j]), ((4, 0), .box [i16 0, .lit (.slice none 0 0)]), ((11, 0), .box [i16 d.day, .vec (101, 1) 0 N]), ((101, 1), .vec 5 false (XS ++ cpQ false c :: YS))]⟩ (fun k' hR => ?_) ?_
    · repeat (refine Run.go rfl ?_)
      refine Run.val rfl rfl rfl (ValOk.loadv (cpQ false c) rfl rfl rfl rfl (hat _) rfl) rfl ?_
      repeat (refine Run.go rfl ?_)
      refine Run.bool 191 rfl (fun h => ?_) (fun h => ?_)
      · have h : c.st = 0 := by simpa using h
        repeat (refine Run.go rfl ?_)
        refine Run.bool 194 rfl (fun _ => ?_) (fun h => by cases h)
        repeat (refine Run.go rfl ?_)
        refine Run.bool 197 rfl (fun _ => ?_) (fun h => by cases h)
        repeat (refine Run.go rfl ?_)
        refine Run.bool 201 rfl (fun _ => ?_) (fun h => by cases h)
        repeat (refine Run.go rfl ?_)
        refine Run.of hR ⟨rfl, rfl, rfl, rfl, rfl, rfl, rfl, rfl, rfl, rfl, rfl, ?_, trivial⟩ ⟨rfl, rfl, rfl, rfl, trivial⟩
        show bo true = bo (ask2 who c)
        rw [ask2, decide_eq_true h]
        rfl
      have h : ¬ c.st = 0 := by simpa using h
      repeat (refine Run.go rfl ?_)
      refine Run.bool 194 rfl (fun ha => ?_) (fun ha => ?_)
      · have ha : c.who = who := by
          have ha : (decide (c.st = 1) && decide (c.who = who)) = true := ha
          simp at ha
          exact ha.2
        repeat (refine Run.go rfl ?_)
        refine Run.bool 197 rfl (fun _ => ?_) (fun h => by cases h)
        repeat (refine Run.go rfl ?_)
        refine Run.bool 201 rfl (fun _ => ?_) (fun h => by cases h)
        repeat (refine Run.go rfl ?_)
        refine Run.of hR ⟨rfl, rfl, rfl, rfl, rfl, rfl, rfl, rfl, rfl, rfl, rfl, ?_, trivial⟩ ⟨rfl, rfl, rfl, rfl, trivial⟩
        show bo true = bo (ask2 who c)
        rw [ask2, decide_eq_true ha, Bool.or_true, Bool.true_or, Bool.true_or]
      have ha : (decide (c.st = 1) && decide (c.who = who)) = false := ha
      repeat (refine Run.go rfl ?_)
      refine Run.bool 197 rfl (fun hb => ?_) (fun hb => ?_)
      · have hb : c.who = who := by
          have hb : (decide (c.st = 2) && decide (c.who = who)) = true := hb
          simp at hb
          exact hb.2
        repeat (refine Run.go rfl ?_)
        refine Run.bool 201 rfl (fun _ => ?_) (fun h => by cases h)
        repeat (refine Run.go rfl ?_)
        refine Run.of hR ⟨rfl, rfl, rfl, rfl, rfl, rfl, rfl, rfl, rfl, rfl, rfl, ?_, trivial⟩ ⟨rfl, rfl, rfl, rfl, trivial⟩
        show bo true = bo (ask2 who c)
        rw [ask2, decide_eq_true hb, Bool.or_true, Bool.true_or, Bool.true_or]
      have hb : (decide (c.st = 2) && decide (c.who = who)) = false := hb
      have hwne : ¬ c.who = who := by
        intro e
        simp [e] at ha hb
        rcases hcs.1 with x | x | x
        · exact h x
        · exact ha x
        · exact hb x
      repeat (refine Run.go rfl ?_)
      refine Run.bool 201 rfl (fun hx => ?_) (fun hx => ?_)
      · have hx : (c.q.any fun x => x == who) = true := by
          rw [← fi_nonneg]
          exact hx
        repeat (refine Run.go rfl ?_)
        refine Run.of hR ⟨rfl, rfl, rfl, rfl, rfl, rfl, rfl, rfl, rfl, rfl, rfl, ?_, trivial⟩ ⟨rfl, rfl, rfl, rfl, trivial⟩
        show bo true = bo (ask2 who c)
        rw [ask2, hx, Bool.or_true, Bool.true_or]
      have hx : (c.q.any fun x => x == who) = false := by
        rw [← fi_nonneg]
        exact hx
      repeat (refine Run.go rfl ?_)
      refine Run.uncell (101, 1) (205, 0) (205, 1) j 4 (cpQ false c) rfl (hat _) rfl (fun _ => rfl) rfl (by decide) (by decide) (by decide) rfl fun A n => ?_
      rw [hset]
      refine Run.val rfl rfl rfl (ValOk.loadv (.agg [i8 c.st, i8 c.who, i16 c.due, i8 c.ren, .lit (.slice A (c.q.map i8).length n)]) rfl rfl rfl rfl (hat _) rfl) rfl ?_
      refine Run.name 205 (205, 1) rfl rfl rfl ?_
      repeat (refine Run.go rfl ?_)
      refine Run.recell (101, 1) (205, 0) (205, 1) j 4 (.agg [i8 c.st, i8 c.who, i16 c.due, i8 c.ren, .lit (.slice A (c.q.map i8).length n)]) rfl (hat _) rfl rfl rfl (fun _ => rfl) (by decide) ?_
      rw [hset]
      refine Run.of hR ⟨rfl, rfl, rfl, rfl, rfl, rfl, rfl, rfl, rfl, rfl, rfl, ?_, trivial⟩ ⟨rfl, rfl, rfl, rfl, trivial⟩
      show bo (((c.q.map i8).length : Int) == 4) = bo (ask2 who c)
      rw [ask2, hx, decide_eq_false h, decide_eq_false hwne, Bool.false_or, Bool.false_or, Bool.false_or, List.length_map]
      congr 1
      by_cases e : c.q.length = 4
      · rw [e]; rfl
      · rw [decide_eq_false e]
        simp
        omega
    have hql : (c.q.map i8).length = c.q.length := List.length_map ..
    refine Run.uncell (101, 1) (213, 0) (213, 1) j 4 (cpQ false c) rfl (hat _) rfl (fun _ => rfl) rfl (by decide) (by decide) (by decide) rfl fun A n => ?_
    rw [hset]
    refine Run.drawI (fun D => ⟨[(3, .bp (3, 0) 0), (4, .bp (4, 0) 0), (11, .bp (11, 0) 0), (12, .ep (101, 1) j 0), (16, i64 0), (17, bo (ask2 who c)), (209, bif D 0 then .ep (101, 1) j 0 else .top), (210, bif D 1 then .ep (101, 1) j 0 else .top), (211, bif D 2 then .ep (101, 1) j 0 else .top), (212, bif D 3 then .ep (101, 1) j 4 else .top), (213, bif D 4 then .vec (213, 0) 0 (c.q.map i8).length else .top), (214, bif D 5 then .bp (3, 0) 1 else .top), (215, bif D 6 then i8 who else .top), (216, bif D 8 then .top else bif D 7 then .own 1 true [i8 who] else .top), (217, bif D 11 then .top else bif D 8 then .own 1 false ((c.q.map i8) ++ [i8 who]) else .top), (218, bif D 9 then .ep (101, 1) j 0 else .top), (219, bif D 10 then .ep (101, 1) j 4 else .top)], [((3, 0), Ob.box [i8 what, i8 who, i8 j]), ((4, 0), Ob.box [i16 0, .lit (.slice none 0 0)]), ((11, 0), Ob.box [i16 d.day, .vec (101, 1) 0 N]), ((213, 1), Ob.tie (.slice A (c.q.map i8).length n) (213, 0)), ((213, 0), (bif D 8 then Ob.gone else Ob.vec 1 false (c.q.map i8))), ((101, 1), (bif D 11 then Ob.vec 5 false (XS ++ (.agg [i8 c.st, i8 c.who, i16 c.due, i8 c.ren, .own 1 false ((c.q.map i8) ++ [i8 who])]) :: YS) else Ob.vec 5 false (XS ++ (AV.agg [i8 c.st, i8 c.who, i16 c.due, i8 c.ren, .lit (.slice A (c.q.map i8).length n)]) :: YS)))]⟩) (by decide +kernel) (by decide +kernel) ?_ ?_ fun k' => ⟨?_, ?_, ?_, ?_, ?_, ?_, ?_, ?_, ?_, ?_, ?_, ?_, trivial⟩
    · exact St.Le.mk' ⟨rfl, rfl, rfl, rfl, rfl, rfl, rfl, rfl, rfl, rfl, rfl, rfl, rfl, rfl, rfl, rfl, rfl, trivial⟩ ⟨rfl, rfl, rfl, rfl, rfl, rfl, trivial⟩
    rotate_left
    · intro D hid h0 hp hs rest hK
      obtain ⟨d9, -⟩ : AllD D false [9] := ideal_sub hs (by decide +kernel)
      simp only [d9, h0, cond_true, cond_false]
      refine Run.go rfl ?_
      refine Run.le ?_ hK
      simp only [d9, h0, Nat.reduceBEq, Bool.false_or, Bool.true_or, cond_true, cond_false]
      exact St.Le.mk' ⟨rfl, rfl, rfl, rfl, rfl, rfl, rfl, rfl, rfl, rfl, rfl, rfl, rfl, rfl, rfl, rfl, rfl, trivial⟩ ⟨rfl, rfl, rfl, rfl, rfl, rfl, trivial⟩
    · intro D hid h0 hp hs rest hK
      obtain ⟨d2, -⟩ : AllD D false [2] := ideal_sub hs (by decide +kernel)
      simp only [d2, h0, cond_true, cond_false]
      refine Run.go rfl ?_
      refine Run.le ?_ hK
      simp only [d2, h0, Nat.reduceBEq, Bool.false_or, Bool.true_or, cond_true, cond_false]
      exact St.Le.mk' ⟨rfl, rfl, rfl, rfl, rfl, rfl, rfl, rfl, rfl, rfl, rfl, rfl, rfl, rfl, rfl, rfl, rfl, trivial⟩ ⟨rfl, rfl, rfl, rfl, rfl, rfl, trivial⟩
    · intro D hid h0 hp hs rest hK
      obtain ⟨d1, -⟩ : AllD D true [1] := ideal_sub hp (by decide +kernel)
      obtain ⟨d3, -⟩ : AllD D false [3] := ideal_sub hs (by decide +kernel)
      simp only [d1, d3, h0, cond_true, cond_false]
      refine Run.go rfl ?_
      refine Run.le ?_ hK
      simp only [d1, d3, h0, Nat.reduceBEq, Bool.false_or, Bool.true_or, cond_true, cond_false]
      exact St.Le.mk' ⟨rfl, rfl, rfl, rfl, rfl, rfl, rfl, rfl, rfl, rfl, rfl, rfl, rfl, rfl, rfl, rfl, rfl, trivial⟩ ⟨rfl, rfl, rfl, rfl, rfl, rfl, trivial⟩
    · intro D hid h0 hp hs rest hK
      obtain ⟨d2, -⟩ : AllD D true [2] := ideal_sub hp (by decide +kernel)
      obtain ⟨d4, -⟩ : AllD D false [4] := ideal_sub hs (by decide +kernel)
      simp only [d2, d4, h0, cond_true, cond_false]
      refine Run.go rfl ?_
      refine Run.le ?_ hK
      simp only [d2, d4, h0, Nat.reduceBEq, Bool.false_or, Bool.true_or, cond_true, cond_false]
      exact St.Le.mk' ⟨rfl, rfl, rfl, rfl, rfl, rfl, rfl, rfl, rfl, rfl, rfl, rfl, rfl, rfl, rfl, rfl, rfl, trivial⟩ ⟨rfl, rfl, rfl, rfl, rfl, rfl, trivial⟩
    · intro D hid h0 hp hs rest hK
      obtain ⟨d3, -⟩ : AllD D true [3] := ideal_sub hp (by decide +kernel)
      obtain ⟨d8, -⟩ : AllD D false [8] := ideal_sub hs (by decide +kernel)
      have d11 : D 11 = false := ideal_no (i := 11) (j := 8) hid (by decide +kernel) d8
      simp only [d3, d8, d11, h0, cond_true, cond_false]
      refine Run.val rfl rfl rfl (ValOk.loadv (AV.agg [i8 c.st, i8 c.who, i16 c.due, i8 c.ren, .lit (.slice A (c.q.map i8).length n)]) rfl rfl rfl rfl (hat _) rfl) rfl ?_
      refine Run.name 213 (213, 1) rfl rfl rfl ?_
      refine Run.le ?_ hK
      simp only [d3, d8, d11, h0, Nat.reduceBEq, Bool.false_or, Bool.true_or, cond_true, cond_false]
      exact St.Le.mk' ⟨rfl, rfl, rfl, rfl, rfl, rfl, rfl, rfl, rfl, rfl, rfl, rfl, rfl, rfl, rfl, rfl, rfl, trivial⟩ ⟨rfl, rfl, rfl, rfl, rfl, rfl, trivial⟩
    · intro D hid h0 hp hs rest hK
      obtain ⟨d6, -⟩ : AllD D false [6] := ideal_sub hs (by decide +kernel)
      simp only [d6, h0, cond_true, cond_false]
      refine Run.go rfl ?_
      refine Run.le ?_ hK
      simp only [d6, h0, Nat.reduceBEq, Bool.false_or, Bool.true_or, cond_true, cond_false]
      exact St.Le.mk' ⟨rfl, rfl, rfl, rfl, rfl, rfl, rfl, rfl, rfl, rfl, rfl, rfl, rfl, rfl, rfl, rfl, rfl, trivial⟩ ⟨rfl, rfl, rfl, rfl, rfl, rfl, trivial⟩
    · intro D hid h0 hp hs rest hK
      obtain ⟨d5, -⟩ : AllD D true [5] := ideal_sub hp (by decide +kernel)
      obtain ⟨d7, -⟩ : AllD D false [7] := ideal_sub hs (by decide +kernel)
      simp only [d5, d7, h0, cond_true, cond_false]
      refine Run.go rfl ?_
      refine Run.le ?_ hK
      simp only [d5, d7, h0, Nat.reduceBEq, Bool.false_or, Bool.true_or, cond_true, cond_false]
      exact St.Le.mk' ⟨rfl, rfl, rfl, rfl, rfl, rfl, rfl, rfl, rfl, rfl, rfl, rfl, rfl, rfl, rfl, rfl, rfl, trivial⟩ ⟨rfl, rfl, rfl, rfl, rfl, rfl, trivial⟩
    · intro D hid h0 hp hs rest hK
      obtain ⟨d6, -⟩ : AllD D true [6] := ideal_sub hp (by decide +kernel)
      obtain ⟨d8, -⟩ : AllD D false [8] := ideal_sub hs (by decide +kernel)
      simp only [d6, d8, h0, cond_true, cond_false]
      refine Run.buildSlice [i8 who] rfl rfl rfl rfl rfl rfl rfl rfl rfl rfl rfl rfl rfl rfl ?_
      refine Run.le ?_ hK
      simp only [d6, d8, h0, Nat.reduceBEq, Bool.false_or, Bool.true_or, cond_true, cond_false]
      exact St.Le.mk' ⟨rfl, rfl, rfl, rfl, rfl, rfl, rfl, rfl, rfl, rfl, rfl, rfl, rfl, rfl, rfl, rfl, rfl, trivial⟩ ⟨rfl, rfl, rfl, rfl, rfl, rfl, trivial⟩
    · intro D hid h0 hp hs rest hK
      obtain ⟨d4, d7, -⟩ : AllD D true [4, 7] := ideal_sub hp (by decide +kernel)
      obtain ⟨d11, -⟩ : AllD D false [11] := ideal_sub hs (by decide +kernel)
      simp only [d4, d7, d11, h0, cond_true, cond_false]
      refine Run.appendo (id := (213, 0)) rfl rfl rfl rfl rfl rfl rfl rfl rfl rfl rfl rfl rfl rfl (by show (_ + 1) * 1 ≤ _; rw [hql]; omega) (by rw [hql]; show _ + 1 ≤ 9223372036854775807; omega) (by decide) rfl ?_
      refine Run.le ?_ hK
      simp only [d4, d7, d11, h0, Nat.reduceBEq, Bool.false_or, Bool.true_or, cond_true, cond_false]
      exact St.Le.mk' ⟨rfl, rfl, rfl, rfl, rfl, rfl, rfl, rfl, rfl, rfl, rfl, rfl, rfl, rfl, rfl, rfl, rfl, trivial⟩ ⟨rfl, rfl, rfl, rfl, rfl, rfl, trivial⟩
    · intro D hid h0 hp hs rest hK
      obtain ⟨d0, -⟩ : AllD D true [0] := ideal_sub hp (by decide +kernel)
      obtain ⟨d10, -⟩ : AllD D false [10] := ideal_sub hs (by decide +kernel)
      simp only [d0, d10, h0, cond_true, cond_false]
      refine Run.go rfl ?_
      refine Run.le ?_ hK
      simp only [d0, d10, h0, Nat.reduceBEq, Bool.false_or, Bool.true_or, cond_true, cond_false]
      exact St.Le.mk' ⟨rfl, rfl, rfl, rfl, rfl, rfl, rfl, rfl, rfl, rfl, rfl, rfl, rfl, rfl, rfl, rfl, rfl, trivial⟩ ⟨rfl, rfl, rfl, rfl, rfl, rfl, trivial⟩
    · intro D hid h0 hp hs rest hK
      obtain ⟨d9, -⟩ : AllD D true [9] := ideal_sub hp (by decide +kernel)
      obtain ⟨d11, -⟩ : AllD D false [11] := ideal_sub hs (by decide +kernel)
      simp only [d9, d11, h0, cond_true, cond_false]
      refine Run.go rfl ?_
      refine Run.le ?_ hK
      simp only [d9, d11, h0, Nat.reduceBEq, Bool.false_or, Bool.true_or, cond_true, cond_false]
      exact St.Le.mk' ⟨rfl, rfl, rfl, rfl, rfl, rfl, rfl, rfl, rfl, rfl, rfl, rfl, rfl, rfl, rfl, rfl, rfl, trivial⟩ ⟨rfl, rfl, rfl, rfl, rfl, rfl, trivial⟩
    · intro D hid h0 hp hs rest hK
      obtain ⟨d8, d10, -⟩ : AllD D true [8, 10] := ideal_sub hp (by decide +kernel)
      have d4 : D 4 = true := hid 8 4 (by decide +kernel) (by decide +kernel) d8
      have d7 : D 7 = true := hid 8 7 (by decide +kernel) (by decide +kernel) d8
      have d6 : D 6 = true := hid 7 6 (by decide +kernel) (by decide +kernel) d7
      have d5 : D 5 = true := hid 6 5 (by decide +kernel) (by decide +kernel) d6
      have d3 : D 3 = true := hid 4 3 (by decide +kernel) (by decide +kernel) d4
      have d2 : D 2 = true := hid 3 2 (by decide +kernel) (by decide +kernel) d3
      have d1 : D 1 = true := hid 2 1 (by decide +kernel) (by decide +kernel) d2
      have d9 : D 9 = true := hid 10 9 (by decide +kernel) (by decide +kernel) d10
      have d0 : D 0 = true := hid 9 0 (by decide +kernel) (by decide +kernel) d9
      simp only [d8, d10, d4, d7, d6, d5, d3, d2, d1, d9, d0, h0, cond_true, cond_false]
      refine Run.open1 217 (217, 4) (217, 5) rfl rfl (by decide) rfl fun A2 n2 => ?_
      refine Run.storee (AV.agg [i8 c.st, i8 c.who, i16 c.due, i8 c.ren, .lit (.slice A (c.q.map i8).length n)]) (.agg [i8 c.st, i8 c.who, i16 c.due, i8 c.ren, .lit (.slice A2 ((c.q.map i8) ++ [i8 who]).length n2)]) rfl rfl rfl rfl rfl rfl rfl (hat _) rfl rfl rfl ?_
      rw [hset]
      refine Run.recell (101, 1) (217, 4) (217, 5) j 4 (.agg [i8 c.st, i8 c.who, i16 c.due, i8 c.ren, .lit (.slice A2 ((c.q.map i8) ++ [i8 who]).length n2)]) rfl (hat _) rfl rfl rfl (fun _ => rfl) (by decide) ?_
      rw [hset]
      refine Run.forget 217 ?_
      refine Run.le ?_ hK
      simp only [d8, d10, d4, d7, d6, d5, d3, d2, d1, d9, d0, h0, Nat.reduceBEq, Bool.false_or, Bool.true_or, cond_true, cond_false]
      exact St.Le.mk' ⟨rfl, rfl, rfl, rfl, rfl, rfl, rfl, rfl, rfl, rfl, rfl, rfl, rfl, rfl, rfl, rfl, rfl, trivial⟩ ⟨rfl, rfl, rfl, rfl, rfl, rfl, trivial⟩
    repeat (refine Run.go rfl ?_)
    refine Run.of hM ⟨rfl, rfl, rfl, rfl, trivial⟩ ⟨rfl, rfl, ?_, trivial⟩
    show Ob.vec 5 false (XS ++ .agg [_, _, _, _, .own 1 false (c.q.map i8 ++ [i8 who])] :: YS) = Ob.vec 5 false (XS ++ .agg [_, _, _, _, .own 1 false ((c.q ++ [who]).map i8)] :: YS)
    rw [List.map_append]
    rfl
  have h2 : ¬ what = 2 := by simpa using h2
  repeat (refine Run.go rfl ?_)
  refine Run.cond rfl (fun h3 => ?_) (fun h3 => ?_)
  · have h3 : what = 3 := by simpa using h3
    have hw8 : IntKind.i8.wrap (c.ren + 1) = c.ren + 1 := wrap_i8 (by omega) (by omega)
    rw [chC, if_neg h0, if_neg h1, if_neg h2, if_pos h3, if_neg h1, Bool.not_not] at hM
    refine Run.seqJ ⟨[(0, .rp (dkR e1 e2 d).cells 0), (3, .bp (3, 0) 0), (4, .bp (4, 0) 0), (7, i64 who), (8, i64 (j : Nat)), (11, .bp (11, 0) 0), (12, .ep (101, 1) j 0), (13, bo (lentTo who c)), (14, bo (decide (c.st = 2) && decide (c.who = who))), (15, i64 (fi (fun x => x == who) c.q)), (16, i64 0), (17, bo (ren3 d who c))], [((3, 0), .box [i8 what, i8 who, i8 j]), ((4, 0), .box [i16 0, .lit (.slice none 0 0)]), ((11, 0), .box [i16 d.day, .vec (101, 1) 0 N]), ((101, 1), .vec 5 false (XS ++ cpQ false c :: YS))]⟩ (fun k' hR => ?_) ?_
    · repeat (refine Run.go rfl ?_)
      refine Run.bool 224 rfl (fun h => ?_) (fun h => ?_)
      · have h : (!lentTo who c) = true := h
        repeat (refine Run.go rfl ?_)
        refine Run.bool 232 rfl (fun _ => ?_) (fun h => by cases h)
        repeat (refine Run.go rfl ?_)
        refine Run.bool 240 rfl (fun _ => ?_) (fun h => by cases h)
        repeat (refine Run.go rfl ?_)
        refine Run.of hR ⟨rfl, rfl, rfl, rfl, rfl, rfl, rfl, rfl, rfl, rfl, rfl, ?_, trivial⟩ ⟨rfl, rfl, rfl, rfl, trivial⟩
        show bo true = bo (ren3 d who c)
        rw [ren3, h]
        rfl
      have h : (!lentTo who c) = false := h
      repeat (refine Run.go rfl ?_)
      refine Run.csx rfl rfl rfl rfl rfl (St.expL_ep rfl (hat _) rfl) (l06Overdue_ct c false d.day) (by rw [cpQ_frz]; rfl) rfl rfl ?_
      repeat (refine Run.go rfl ?_)
      refine Run.bool 232 rfl (fun ha => ?_) (fun ha => ?_)
      · have ha : over d.day c = true := ha
        repeat (refine Run.go rfl ?_)
        refine Run.bool 240 rfl (fun _ => ?_) (fun h => by cases h)
        repeat (refine Run.go rfl ?_)
        refine Run.of hR ⟨rfl, rfl, rfl, rfl, rfl, rfl, rfl, rfl, rfl, rfl, rfl, ?_, trivial⟩ ⟨rfl, rfl, rfl, rfl, trivial⟩
        show bo true = bo (ren3 d who c)
        rw [ren3, ha, Bool.or_true, Bool.true_or, Bool.true_or]
      have ha : over d.day c = false := ha
      repeat (refine Run.go rfl ?_)
      refine Run.uncell (101, 1) (236, 0) (236, 1) j 4 (cpQ false c) rfl (hat _) rfl (fun _ => rfl) rfl (by decide) (by decide) (by decide) rfl fun A n => ?_
      rw [hset]
      refine Run.val rfl rfl rfl (ValOk.loadv (.agg [i8 c.st, i8 c.who, i16 c.due, i8 c.ren, .lit (.slice A (c.q.map i8).length n)]) rfl rfl rfl rfl (hat _) rfl) rfl ?_
      refine Run.name 236 (236, 1) rfl rfl rfl ?_
      repeat (refine Run.go rfl ?_)
      refine Run.recell (101, 1) (236, 0) (236, 1) j 4 (.agg [i8 c.st, i8 c.who, i16 c.due, i8 c.ren, .lit (.slice A (c.q.map i8).length n)]) rfl (hat _) rfl rfl rfl (fun _ => rfl) (by decide) ?_
      rw [hset]
      refine Run.bool 240 rfl (fun hx => ?_) (fun hx => ?_)
      · have hx : 0 < c.q.length := by simpa using hx
        repeat (refine Run.go rfl ?_)
        refine Run.of hR ⟨rfl, rfl, rfl, rfl, rfl, rfl, rfl, rfl, rfl, rfl, rfl, ?_, trivial⟩ ⟨rfl, rfl, rfl, rfl, trivial⟩
        show bo true = bo (ren3 d who c)
        rw [ren3, decide_eq_true hx, Bool.or_true, Bool.true_or]
      have hx : ¬ 0 < c.q.length := by simpa using hx
      repeat (refine Run.go rfl ?_)
      refine Run.val rfl rfl rfl (ValOk.loadv (cpQ false c) rfl rfl rfl rfl (hat _) rfl) rfl ?_
      repeat (refine Run.go rfl ?_)
      refine Run.of hR ⟨rfl, rfl, rfl, rfl, rfl, rfl, rfl, rfl, rfl, rfl, rfl, ?_, trivial⟩ ⟨rfl, rfl, rfl, rfl, trivial⟩
      show bo (c.ren == 2) = bo (ren3 d who c)
      rw [ren3, h, ha, decide_eq_false hx, Bool.false_or, Bool.false_or, Bool.false_or]
      rfl
    repeat (refine Run.go rfl ?_)
    refine Run.storee (cpQ false c) (.agg [i8 c.st, i8 c.who, i16 (d.day + 28), i8 c.ren, .own 1 false (c.q.map i8)]) rfl rfl rfl rfl rfl rfl rfl (hat _) rfl rfl ?_ ?_
    · show AV.agg [_, _, i16 (IntKind.i16.wrap (d.day + 28)), _, _] = _
      rw [hw28]
    rw [hset]
    repeat (refine Run.go rfl ?_)
    refine Run.val rfl rfl rfl (ValOk.loadv (.agg [i8 c.st, i8 c.who, i16 (d.day + 28), i8 c.ren, .own 1 false (c.q.map i8)]) rfl rfl rfl rfl (hat _) rfl) rfl ?_
    repeat (refine Run.go rfl ?_)
    refine Run.storee (.agg [i8 c.st, i8 c.who, i16 (d.day + 28), i8 c.ren, .own 1 false (c.q.map i8)]) (.agg [i8 c.st, i8 c.who, i16 (d.day + 28), i8 (c.ren + 1), .own 1 false (c.q.map i8)]) rfl rfl rfl rfl rfl rfl rfl (hat _) rfl rfl ?_ ?_
    · show AV.agg [_, _, _, i8 (IntKind.i8.wrap (c.ren + 1)), _] = _
      rw [hw8]
    rw [hset]
    repeat (refine Run.go rfl ?_)
    exact Run.of hM ⟨rfl, rfl, rfl, rfl, trivial⟩ ⟨rfl, rfl, rfl, trivial⟩
  have h3 : ¬ what = 3 := by simpa using h3
  have h4 : what = 4 := by simp [inr] at hin; omega
  repeat (refine Run.go rfl ?_)
  refine Run.cond rfl (fun _ => ?_) (fun h => by simp [h4] at h)
  refine Run.seqJ ⟨[(0, .rp (dkR e1 e2 d).cells 0), (3, .bp (3, 0) 0), (4, .bp (4, 0) 0), (7, i64 who), (8, i64 (j : Nat)), (11, .bp (11, 0) 0), (12, .ep (101, 1) j 0), (13, bo (lentTo who c)), (14, bo (decide (c.st = 2) && decide (c.who = who))), (15, i64 (fi (fun x => x == who) c.q)), (16, i64 0), (17, bo (decide (fi (fun x => x == who) c.q < 0) && !(decide (c.st = 2) && decide (c.who = who))))], [((3, 0), .box [i8 what, i8 who, i8 j]), ((4, 0), .box [i16 0, .lit (.slice none 0 0)]), ((11, 0), .box [i16 d.day, .vec (101, 1) 0 N]), ((101, 1), .vec 5 false (XS ++ cpQ false c :: YS))]⟩ (fun k' hR => ?_) ?_
  · repeat (refine Run.go rfl ?_)
    refine Run.bool 266 rfl (fun h => ?_) (fun h => ?_)
    · repeat (refine Run.go rfl ?_)
      refine Run.of hR ⟨rfl, rfl, rfl, rfl, rfl, rfl, rfl, rfl, rfl, rfl, rfl, ?_, trivial⟩ ⟨rfl, rfl, rfl, rfl, trivial⟩
      rw [h]
      rfl
    · repeat (refine Run.go rfl ?_)
      refine Run.of hR ⟨rfl, rfl, rfl, rfl, rfl, rfl, rfl, rfl, rfl, rfl, rfl, ?_, trivial⟩ ⟨rfl, rfl, rfl, rfl, trivial⟩
      rw [h]
      rfl
  rw [chC, if_neg h0, if_neg h1, if_neg h2, if_neg h3, if_neg h1] at hM
  repeat (refine Run.go rfl ?_)
  refine Run.cond rfl (fun h => ?_) (fun h => ?_)
  · have hh : c.st = 2 ∧ c.who = who := by
      have h : (decide (c.st = 2) && decide (c.who = who)) = true := h
      simpa using h
    rw [if_pos hh] at hM
    repeat (refine Run.go rfl ?_)
    refine Run.callG (101, 1) rfl rfl rfl rfl rfl rfl rfl rfl (l06Free_ct XS YS c false d.day j hXl (by omega) (by omega)) rfl rfl ?_
    repeat (refine Run.go rfl ?_)
    refine Run.of hM ⟨rfl, rfl, rfl, ?_, trivial⟩ ⟨rfl, rfl, rfl, trivial⟩
    show bo (decide (fi (fun x => x == who) c.q < 0) && !(decide (c.st = 2) && decide (c.who = who))) = bo (!true)
    rw [decide_eq_true hh.1, decide_eq_true hh.2, Bool.and_true, Bool.not_true, Bool.and_false]
  have hf : (decide (c.st = 2) && decide (c.who = who)) = false := h
  rw [if_neg (by simpa using hf)] at hM
  repeat (refine Run.go rfl ?_)
  refine Run.cond rfl (fun h => ?_) (fun h => ?_)
  · have hp : 0 ≤ fi (fun x => x == who) c.q := by
      have h : decide (fi (fun x => x == who) c.q ≥ 0) = true := h
      exact of_decide_eq_true h
    have hx : (c.q.any fun x => x == who) = true := by rw [← fi_nonneg]; exact decide_eq_true hp
    obtain ⟨p, hpe⟩ : ∃ p, p = c.q.findIdx fun x => x == who := ⟨_, rfl⟩
    have hpl : p < c.q.length ∧ fi (fun x => x == who) c.q = (p : Int) := by
      unfold fi at hp ⊢
      rw [hpe]
      split
      · exact ⟨by assumption, rfl⟩
      · rename_i hh
        rw [if_neg hh] at hp
        omega
    obtain ⟨hpl, hfp⟩ := hpl
    have hstr := strike hcs.2 (by rw [← hpe]; exact hpl)
    rw [← hpe] at hstr
    rw [hx] at hM
    have hql : (c.q.map i8).length = c.q.length := List.length_map ..
    obtain ⟨m, hm2⟩ : ∃ m, m = c.q.length - 1 := ⟨_, rfl⟩
    have hys : ((c.q.map i8).drop (p + 1)).length = c.q.length - (p + 1) := by rw [List.length_drop, hql]
    have hend : ((c.q.map i8).take p ++ (c.q.map i8).drop (p + 1) ++ (c.q.map i8).drop (p + ((c.q.map i8).drop (p + 1)).length)).take m = (c.q.filter fun x => !(x == who)).map i8 := by
      rw [← hstr, List.map_append, List.map_take, List.map_drop, List.take_append_of_le_length (by simp; omega), List.take_of_length_le (by simp; omega)]
    have hwp : IntKind.i64.wrap ((p : Int) + 1) = ((p + 1 : Nat) : Int) := by rw [wrap_i64 (by omega) (by omega)]; rfl
    obtain ⟨fq, hfq⟩ : ∃ fq, fq = c.q.filter fun x => !(x == who) := ⟨_, rfl⟩
    rw [← hfq] at hend hM
    rw [hfp]
    refine Run.uncell (101, 1) (283, 0) (283, 1) j 4 (cpQ false c) rfl (hat _) rfl (fun _ => rfl) rfl (by decide) (by decide) (by decide) rfl fun A n => ?_
    rw [hset]
    refine Run.drawI (fun D => ⟨[(4, .bp (4, 0) 0), (11, .bp (11, 0) 0), (12, .ep (101, 1) j 0), (15, i64 (p : Nat)), (16, i64 0), (17, bo (decide ((p : Int) < 0) && !(decide (c.st = 2) && decide (c.who = who)))), (279, bif D 0 then .ep (101, 1) j 0 else .top), (280, bif D 1 then .ep (101, 1) j 0 else .top), (281, bif D 2 then .ep (101, 1) j 0 else .top), (282, bif D 3 then .ep (101, 1) j 4 else .top), (283, bif D 4 then .vec (283, 0) 0 (c.q.map i8).length else .top), (284, bif D 5 then i64 (p : Nat) else .top), (285, bif D 6 then .vec (283, 0) 0 p else .top), (286, bif D 7 then .ep (101, 1) j 0 else .top), (287, bif D 8 then .ep (101, 1) j 0 else .top), (288, bif D 9 then .ep (101, 1) j 4 else .top), (289, bif D 10 then .vec (283, 0) 0 (c.q.map i8).length else .top), (290, bif D 11 then i64 (p : Nat) else .top), (291, bif D 12 then i64 ((p + 1 : Nat) : Int) else .top), (292, bif D 13 then .vec (283, 0) (p + 1) ((c.q.map i8).length - (p + 1)) else .top), (293, bif D 17 then .top else bif D 14 then .own 1 false (fq.map i8) else .top), (294, bif D 15 then .ep (101, 1) j 0 else .top), (295, bif D 16 then .ep (101, 1) j 4 else .top)], [((4, 0), Ob.box [i16 0, .lit (.slice none 0 0)]), ((11, 0), Ob.box [i16 d.day, .vec (101, 1) 0 N]), ((283, 1), Ob.tie (.slice A (c.q.map i8).length n) (283, 0)), ((283, 0), (bif D 14 then Ob.gone else Ob.vec 1 false (c.q.map i8))), ((101, 1), (bif D 17 then Ob.vec 5 false (XS ++ (.agg [i8 c.st, i8 c.who, i16 c.due, i8 c.ren, .own 1 false (fq.map i8)]) :: YS) else Ob.vec 5 false (XS ++ (AV.agg [i8 c.st, i8 c.who, i16 c.due, i8 c.ren, .lit (.slice A (c.q.map i8).length n)]) :: YS)))]⟩) (by decide +kernel) (by decide +kernel) ?_ ?_ fun k' => ⟨?_, ?_, ?_, ?_, ?_, ?_, ?_, ?_, ?_, ?_, ?_, ?_, ?_, ?_, ?_, ?_, ?_, ?_, trivial⟩
    · exact St.Le.mk' ⟨rfl, rfl, rfl, rfl, rfl, rfl, rfl, rfl, rfl, rfl, rfl, rfl, rfl, rfl, rfl, rfl, rfl, rfl, rfl, rfl, rfl, rfl, rfl, trivial⟩ ⟨rfl, rfl, rfl, rfl, rfl, trivial⟩
    rotate_left
    · intro D hid h0 hp hs rest hK
      obtain ⟨d15, -⟩ : AllD D false [15] := ideal_sub hs (by decide +kernel)
      simp only [d15, h0, cond_true, cond_false]
      refine Run.go rfl ?_
      refine Run.le ?_ hK
      simp only [d15, h0, Nat.reduceBEq, Bool.false_or, Bool.true_or, cond_true, cond_false]
      exact St.Le.mk' ⟨rfl, rfl, rfl, rfl, rfl, rfl, rfl, rfl, rfl, rfl, rfl, rfl, rfl, rfl, rfl, rfl, rfl, rfl, rfl, rfl, rfl, rfl, rfl, trivial⟩ ⟨rfl, rfl, rfl, rfl, rfl, trivial⟩
    · intro D hid h0 hp hs rest hK
      obtain ⟨d2, -⟩ : AllD D false [2] := ideal_sub hs (by decide +kernel)
      simp only [d2, h0, cond_true, cond_false]
      refine Run.go rfl ?_
      refine Run.le ?_ hK
      simp only [d2, h0, Nat.reduceBEq, Bool.false_or, Bool.true_or, cond_true, cond_false]
      exact St.Le.mk' ⟨rfl, rfl, rfl, rfl, rfl, rfl, rfl, rfl, rfl, rfl, rfl, rfl, rfl, rfl, rfl, rfl, rfl, rfl, rfl, rfl, rfl, rfl, rfl, trivial⟩ ⟨rfl, rfl, rfl, rfl, rfl, trivial⟩
    · intro D hid h0 hp hs rest hK
      obtain ⟨d1, -⟩ : AllD D true [1] := ideal_sub hp (by decide +kernel)
      obtain ⟨d3, -⟩ : AllD D false [3] := ideal_sub hs (by decide +kernel)
      simp only [d1, d3, h0, cond_true, cond_false]
      refine Run.go rfl ?_
      refine Run.le ?_ hK
      simp only [d1, d3, h0, Nat.reduceBEq, Bool.false_or, Bool.true_or, cond_true, cond_false]
      exact St.Le.mk' ⟨rfl, rfl, rfl, rfl, rfl, rfl, rfl, rfl, rfl, rfl, rfl, rfl, rfl, rfl, rfl, rfl, rfl, rfl, rfl, rfl, rfl, rfl, rfl, trivial⟩ ⟨rfl, rfl, rfl, rfl, rfl, trivial⟩
    · intro D hid h0 hp hs rest hK
      obtain ⟨d2, -⟩ : AllD D true [2] := ideal_sub hp (by decide +kernel)
      obtain ⟨d4, -⟩ : AllD D false [4] := ideal_sub hs (by decide +kernel)
      simp only [d2, d4, h0, cond_true, cond_false]
      refine Run.go rfl ?_
      refine Run.le ?_ hK
      simp only [d2, d4, h0, Nat.reduceBEq, Bool.false_or, Bool.true_or, cond_true, cond_false]
      exact St.Le.mk' ⟨rfl, rfl, rfl, rfl, rfl, rfl, rfl, rfl, rfl, rfl, rfl, rfl, rfl, rfl, rfl, rfl, rfl, rfl, rfl, rfl, rfl, rfl, rfl, trivial⟩ ⟨rfl, rfl, rfl, rfl, rfl, trivial⟩
    · intro D hid h0 hp hs rest hK
      obtain ⟨d3, -⟩ : AllD D true [3] := ideal_sub hp (by decide +kernel)
      obtain ⟨d6, -⟩ : AllD D false [6] := ideal_sub hs (by decide +kernel)
      have d14 : D 14 = false := ideal_no (i := 14) (j := 6) hid (by decide +kernel) d6
      have d17 : D 17 = false := ideal_no (i := 17) (j := 14) hid (by decide +kernel) d14
      simp only [d3, d6, d14, d17, h0, cond_true, cond_false]
      refine Run.val rfl rfl rfl (ValOk.loadv (AV.agg [i8 c.st, i8 c.who, i16 c.due, i8 c.ren, .lit (.slice A (c.q.map i8).length n)]) rfl rfl rfl rfl (hat _) rfl) rfl ?_
      refine Run.name 283 (283, 1) rfl rfl rfl ?_
      refine Run.le ?_ hK
      simp only [d3, d6, d14, d17, h0, Nat.reduceBEq, Bool.false_or, Bool.true_or, cond_true, cond_false]
      exact St.Le.mk' ⟨rfl, rfl, rfl, rfl, rfl, rfl, rfl, rfl, rfl, rfl, rfl, rfl, rfl, rfl, rfl, rfl, rfl, rfl, rfl, rfl, rfl, rfl, rfl, trivial⟩ ⟨rfl, rfl, rfl, rfl, rfl, trivial⟩
    · intro D hid h0 hp hs rest hK
      obtain ⟨d6, -⟩ : AllD D false [6] := ideal_sub hs (by decide +kernel)
      simp only [d6, h0, cond_true, cond_false]
      refine Run.go rfl ?_
      refine Run.le ?_ hK
      simp only [d6, h0, Nat.reduceBEq, Bool.false_or, Bool.true_or, cond_true, cond_false]
      exact St.Le.mk' ⟨rfl, rfl, rfl, rfl, rfl, rfl, rfl, rfl, rfl, rfl, rfl, rfl, rfl, rfl, rfl, rfl, rfl, rfl, rfl, rfl, rfl, rfl, rfl, trivial⟩ ⟨rfl, rfl, rfl, rfl, rfl, trivial⟩
    · intro D hid h0 hp hs rest hK
      obtain ⟨d4, d5, -⟩ : AllD D true [4, 5] := ideal_sub hp (by decide +kernel)
      obtain ⟨d14, -⟩ : AllD D false [14] := ideal_sub hs (by decide +kernel)
      simp only [d4, d5, d14, h0, cond_true, cond_false]
      refine Run.val rfl rfl rfl (ValOk.cutv (l := 0) (h := (p : Nat)) rfl rfl rfl rfl rfl rfl rfl (by omega) (by omega) (by omega)) rfl ?_
      refine Run.le ?_ hK
      simp only [d4, d5, d14, h0, Nat.reduceBEq, Bool.false_or, Bool.true_or, cond_true, cond_false]
      exact St.Le.mk' ⟨rfl, rfl, rfl, rfl, rfl, rfl, rfl, rfl, rfl, rfl, rfl, rfl, rfl, rfl, rfl, rfl, rfl, rfl, rfl, rfl, rfl, rfl, rfl, trivial⟩ ⟨rfl, rfl, rfl, rfl, rfl, trivial⟩
    · intro D hid h0 hp hs rest hK
      obtain ⟨d8, -⟩ : AllD D false [8] := ideal_sub hs (by decide +kernel)
      simp only [d8, h0, cond_true, cond_false]
      refine Run.go rfl ?_
      refine Run.le ?_ hK
      simp only [d8, h0, Nat.reduceBEq, Bool.false_or, Bool.true_or, cond_true, cond_false]
      exact St.Le.mk' ⟨rfl, rfl, rfl, rfl, rfl, rfl, rfl, rfl, rfl, rfl, rfl, rfl, rfl, rfl, rfl, rfl, rfl, rfl, rfl, rfl, rfl, rfl, rfl, trivial⟩ ⟨rfl, rfl, rfl, rfl, rfl, trivial⟩
    · intro D hid h0 hp hs rest hK
      obtain ⟨d7, -⟩ : AllD D true [7] := ideal_sub hp (by decide +kernel)
      obtain ⟨d9, -⟩ : AllD D false [9] := ideal_sub hs (by decide +kernel)
      simp only [d7, d9, h0, cond_true, cond_false]
      refine Run.go rfl ?_
      refine Run.le ?_ hK
      simp only [d7, d9, h0, Nat.reduceBEq, Bool.false_or, Bool.true_or, cond_true, cond_false]
      exact St.Le.mk' ⟨rfl, rfl, rfl, rfl, rfl, rfl, rfl, rfl, rfl, rfl, rfl, rfl, rfl, rfl, rfl, rfl, rfl, rfl, rfl, rfl, rfl, rfl, rfl, trivial⟩ ⟨rfl, rfl, rfl, rfl, rfl, trivial⟩
    · intro D hid h0 hp hs rest hK
      obtain ⟨d8, -⟩ : AllD D true [8] := ideal_sub hp (by decide +kernel)
      obtain ⟨d10, -⟩ : AllD D false [10] := ideal_sub hs (by decide +kernel)
      simp only [d8, d10, h0, cond_true, cond_false]
      refine Run.go rfl ?_
      refine Run.le ?_ hK
      simp only [d8, d10, h0, Nat.reduceBEq, Bool.false_or, Bool.true_or, cond_true, cond_false]
      exact St.Le.mk' ⟨rfl, rfl, rfl, rfl, rfl, rfl, rfl, rfl, rfl, rfl, rfl, rfl, rfl, rfl, rfl, rfl, rfl, rfl, rfl, rfl, rfl, rfl, rfl, trivial⟩ ⟨rfl, rfl, rfl, rfl, rfl, trivial⟩
    · intro D hid h0 hp hs rest hK
      obtain ⟨d9, -⟩ : AllD D true [9] := ideal_sub hp (by decide +kernel)
      obtain ⟨d13, -⟩ : AllD D false [13] := ideal_sub hs (by decide +kernel)
      have d14 : D 14 = false := ideal_no (i := 14) (j := 13) hid (by decide +kernel) d13
      have d17 : D 17 = false := ideal_no (i := 17) (j := 14) hid (by decide +kernel) d14
      simp only [d9, d13, d14, d17, h0, cond_true, cond_false]
      refine Run.val rfl rfl rfl (ValOk.loadv (AV.agg [i8 c.st, i8 c.who, i16 c.due, i8 c.ren, .lit (.slice A (c.q.map i8).length n)]) rfl rfl rfl rfl (hat _) rfl) rfl ?_
      refine Run.name 289 (283, 1) rfl rfl rfl ?_
      refine Run.le ?_ hK
      simp only [d9, d13, d14, d17, h0, Nat.reduceBEq, Bool.false_or, Bool.true_or, cond_true, cond_false]
      exact St.Le.mk' ⟨rfl, rfl, rfl, rfl, rfl, rfl, rfl, rfl, rfl, rfl, rfl, rfl, rfl, rfl, rfl, rfl, rfl, rfl, rfl, rfl, rfl, rfl, rfl, trivial⟩ ⟨rfl, rfl, rfl, rfl, rfl, trivial⟩
    · intro D hid h0 hp hs rest hK
      obtain ⟨d12, -⟩ : AllD D false [12] := ideal_sub hs (by decide +kernel)
      simp only [d12, h0, cond_true, cond_false]
      refine Run.go rfl ?_
      refine Run.le ?_ hK
      simp only [d12, h0, Nat.reduceBEq, Bool.false_or, Bool.true_or, cond_true, cond_false]
      exact St.Le.mk' ⟨rfl, rfl, rfl, rfl, rfl, rfl, rfl, rfl, rfl, rfl, rfl, rfl, rfl, rfl, rfl, rfl, rfl, rfl, rfl, rfl, rfl, rfl, rfl, trivial⟩ ⟨rfl, rfl, rfl, rfl, rfl, trivial⟩
    · intro D hid h0 hp hs rest hK
      obtain ⟨d11, -⟩ : AllD D true [11] := ideal_sub hp (by decide +kernel)
      obtain ⟨d13, -⟩ : AllD D false [13] := ideal_sub hs (by decide +kernel)
      simp only [d11, d13, h0, cond_true, cond_false]
      refine Run.go rfl ?_
      rw [hwp]
      refine Run.le ?_ hK
      simp only [d11, d13, h0, Nat.reduceBEq, Bool.false_or, Bool.true_or, cond_true, cond_false]
      exact St.Le.mk' ⟨rfl, rfl, rfl, rfl, rfl, rfl, rfl, rfl, rfl, rfl, rfl, rfl, rfl, rfl, rfl, rfl, rfl, rfl, rfl, rfl, rfl, rfl, rfl, trivial⟩ ⟨rfl, rfl, rfl, rfl, rfl, trivial⟩
    · intro D hid h0 hp hs rest hK
      obtain ⟨d10, d12, -⟩ : AllD D true [10, 12] := ideal_sub hp (by decide +kernel)
      obtain ⟨d14, -⟩ : AllD D false [14] := ideal_sub hs (by decide +kernel)
      simp only [d10, d12, d14, h0, cond_true, cond_false]
      refine Run.val rfl rfl rfl (v := .vec (283, 0) (0 + ((p + 1 : Nat) : Int).toNat) ((((c.q.map i8).length : Nat) : Int).toNat - ((p + 1 : Nat) : Int).toNat)) (ValOk.cutv (l := ((p + 1 : Nat) : Int)) (h := ((c.q.map i8).length : Nat)) rfl rfl rfl rfl rfl rfl rfl (by omega) (by omega) (by omega)) rfl ?_
      rw [Nat.zero_add, Int.toNat_natCast, Int.toNat_natCast]
      refine Run.le ?_ hK
      simp only [d10, d12, d14, h0, Nat.reduceBEq, Bool.false_or, Bool.true_or, cond_true, cond_false]
      exact St.Le.mk' ⟨rfl, rfl, rfl, rfl, rfl, rfl, rfl, rfl, rfl, rfl, rfl, rfl, rfl, rfl, rfl, rfl, rfl, rfl, rfl, rfl, rfl, rfl, rfl, trivial⟩ ⟨rfl, rfl, rfl, rfl, rfl, trivial⟩
    · intro D hid h0 hp hs rest hK
      obtain ⟨d6, d13, -⟩ : AllD D true [6, 13] := ideal_sub hp (by decide +kernel)
      obtain ⟨d17, -⟩ : AllD D false [17] := ideal_sub hs (by decide +kernel)
      simp only [d6, d13, d17, h0, cond_true, cond_false]
      refine Run.appendvv (id := (283, 0)) (ys := (c.q.map i8).drop (p + 1)) rfl rfl rfl rfl rfl rfl rfl rfl rfl ((srcOf_vec rfl rfl (by omega)).trans (by rw [List.take_of_length_le (by rw [hys, hql]; exact Nat.le_refl _)])) rfl (by omega) (by rw [hys]; omega) (lt_i8 _) (by rw [← List.map_drop]; exact lt_i8 _) (by rw [← List.map_drop]; exact one_i8 _) rfl ?_
      rw [show p + ((c.q.map i8).drop (p + 1)).length = m by rw [hys]; omega] at *
      refine Run.packTake 293 rfl rfl (by simp; omega) ?_
      rw [hend]
      refine Run.le ?_ hK
      simp only [d6, d13, d17, h0, Nat.reduceBEq, Bool.false_or, Bool.true_or, cond_true, cond_false]
      exact St.Le.mk' ⟨rfl, rfl, rfl, rfl, rfl, rfl, rfl, rfl, rfl, rfl, rfl, rfl, rfl, rfl, rfl, rfl, rfl, rfl, rfl, rfl, rfl, rfl, rfl, trivial⟩ ⟨rfl, rfl, rfl, rfl, rfl, trivial⟩
    · intro D hid h0 hp hs rest hK
      obtain ⟨d0, -⟩ : AllD D true [0] := ideal_sub hp (by decide +kernel)
      obtain ⟨d16, -⟩ : AllD D false [16] := ideal_sub hs (by decide +kernel)
      simp only [d0, d16, h0, cond_true, cond_false]
      refine Run.go rfl ?_
      refine Run.le ?_ hK
      simp only [d0, d16, h0, Nat.reduceBEq, Bool.false_or, Bool.true_or, cond_true, cond_false]
      exact St.Le.mk' ⟨rfl, rfl, rfl, rfl, rfl, rfl, rfl, rfl, rfl, rfl, rfl, rfl, rfl, rfl, rfl, rfl, rfl, rfl, rfl, rfl, rfl, rfl, rfl, trivial⟩ ⟨rfl, rfl, rfl, rfl, rfl, trivial⟩
    · intro D hid h0 hp hs rest hK
      obtain ⟨d15, -⟩ : AllD D true [15] := ideal_sub hp (by decide +kernel)
      obtain ⟨d17, -⟩ : AllD D false [17] := ideal_sub hs (by decide +kernel)
      simp only [d15, d17, h0, cond_true, cond_false]
      refine Run.go rfl ?_
      refine Run.le ?_ hK
      simp only [d15, d17, h0, Nat.reduceBEq, Bool.false_or, Bool.true_or, cond_true, cond_false]
      exact St.Le.mk' ⟨rfl, rfl, rfl, rfl, rfl, rfl, rfl, rfl, rfl, rfl, rfl, rfl, rfl, rfl, rfl, rfl, rfl, rfl, rfl, rfl, rfl, rfl, rfl, trivial⟩ ⟨rfl, rfl, rfl, rfl, rfl, trivial⟩
    · intro D hid h0 hp hs rest hK
      obtain ⟨d14, d16, -⟩ : AllD D true [14, 16] := ideal_sub hp (by decide +kernel)
      have d6 : D 6 = true := hid 14 6 (by decide +kernel) (by decide +kernel) d14
      have d13 : D 13 = true := hid 14 13 (by decide +kernel) (by decide +kernel) d14
      have d4 : D 4 = true := hid 6 4 (by decide +kernel) (by decide +kernel) d6
      have d5 : D 5 = true := hid 6 5 (by decide +kernel) (by decide +kernel) d6
      have d3 : D 3 = true := hid 4 3 (by decide +kernel) (by decide +kernel) d4
      have d2 : D 2 = true := hid 3 2 (by decide +kernel) (by decide +kernel) d3
      have d1 : D 1 = true := hid 2 1 (by decide +kernel) (by decide +kernel) d2
      have d10 : D 10 = true := hid 13 10 (by decide +kernel) (by decide +kernel) d13
      have d12 : D 12 = true := hid 13 12 (by decide +kernel) (by decide +kernel) d13
      have d11 : D 11 = true := hid 12 11 (by decide +kernel) (by decide +kernel) d12
      have d9 : D 9 = true := hid 10 9 (by decide +kernel) (by decide +kernel) d10
      have d8 : D 8 = true := hid 9 8 (by decide +kernel) (by decide +kernel) d9
      have d7 : D 7 = true := hid 8 7 (by decide +kernel) (by decide +kernel) d8
      have d15 : D 15 = true := hid 16 15 (by decide +kernel) (by decide +kernel) d16
      have d0 : D 0 = true := hid 15 0 (by decide +kernel) (by decide +kernel) d15
      simp only [d14, d16, d6, d13, d4, d5, d3, d2, d1, d10, d12, d11, d9, d8, d7, d15, d0, h0, cond_true, cond_false]
      refine Run.open1 293 (293, 4) (293, 5) rfl rfl (by decide) rfl fun A2 n2 => ?_
      refine Run.storee (AV.agg [i8 c.st, i8 c.who, i16 c.due, i8 c.ren, .lit (.slice A (c.q.map i8).length n)]) (.agg [i8 c.st, i8 c.who, i16 c.due, i8 c.ren, .lit (.slice A2 (fq.map i8).length n2)]) rfl rfl rfl rfl rfl rfl rfl (hat _) rfl rfl rfl ?_
      rw [hset]
      refine Run.recell (101, 1) (293, 4) (293, 5) j 4 (.agg [i8 c.st, i8 c.who, i16 c.due, i8 c.ren, .lit (.slice A2 (fq.map i8).length n2)]) rfl (hat _) rfl rfl rfl (fun _ => rfl) (by decide) ?_
      rw [hset]
      refine Run.forget 293 ?_
      refine Run.le ?_ hK
      simp only [d14, d16, d6, d13, d4, d5, d3, d2, d1, d10, d12, d11, d9, d8, d7, d15, d0, h0, Nat.reduceBEq, Bool.false_or, Bool.true_or, cond_true, cond_false]
      exact St.Le.mk' ⟨rfl, rfl, rfl, rfl, rfl, rfl, rfl, rfl, rfl, rfl, rfl, rfl, rfl, rfl, rfl, rfl, rfl, rfl, rfl, rfl, rfl, rfl, rfl, trivial⟩ ⟨rfl, rfl, rfl, rfl, rfl, trivial⟩
    repeat (refine Run.go rfl ?_)
    refine Run.of hM ⟨rfl, rfl, rfl, ?_, trivial⟩ ⟨rfl, rfl, rfl, trivial⟩
    show bo (decide ((p : Int) < 0) && !(decide (c.st = 2) && decide (c.who = who))) = bo (!true)
    rw [decide_eq_false (by omega)]
    rfl
  · have hp : ¬ 0 ≤ fi (fun x => x == who) c.q := by
      have h : decide (fi (fun x => x == who) c.q ≥ 0) = false := h
      exact of_decide_eq_false h
    have hx : (c.q.any fun x => x == who) = false := by rw [← fi_nonneg]; exact decide_eq_false hp
    have hflt : c.q.filter (fun x => !(x == who)) = c.q := by
      rw [List.filter_eq_self]
      intro x hxm
      have := List.any_eq_false.1 hx x hxm
      simpa using this
    rw [hx, hflt] at hM
    repeat (refine Run.go rfl ?_)
    refine Run.of hM ⟨rfl, rfl, rfl, ?_, trivial⟩ ⟨rfl, rfl, rfl, trivial⟩
    show bo (decide (fi (fun x => x == who) c.q < 0) && !(decide (c.st = 2) && decide (c.who = who))) = bo (!false)
    rw [hf, decide_eq_true (by omega)]
    rfl
end Go.Proofs.Ytlccbfdeonmljaa

/- Contracts of the program's functions, and what follows from them. -/
set_option maxRecDepth 100000
namespace Go.Proofs.Ytlccbfdeonmljaa
open Go Go.Av

/-! Desks that change: acts one behind another, the reference. -/

end Go.Proofs.Ytlccbfdeonmljaa

/- Contracts of the program's functions, and what follows from them. -/
set_option maxRecDepth 100000
namespace Go.Proofs.Ytlccbfdeonmljaa
open Go Go.Av

/-! Desks that change: the three askings, the reference. -/

noncomputable def X9 : Fx := ⟨Try.prog, tys, 9, Try.f9, [0, 1]⟩
theorem X9_ok : X9.Ok := ⟨Try.func9, tys_ok⟩
theorem specApplyAct_ct (d : Dk) (e1 e2 : Bool) (a : Ac) (hd : dkOk d) (hr : dkRng d) (ha : acRng a) : Ct Try.prog 9 [dkR e1 e2 d, acA a] (apA (aaR d a)) [] := by
  refine Ct.intro X9 X9_ok rfl (by kernel_rfl) rfl rfl fun g hg => ?_
  repeat (refine Run.go rfl ?_)
  refine Run.cs rfl (l06Ok_ct d e1 e2 hd hr) rfl rfl ?_
  repeat (refine Run.go rfl ?_)
  refine Run.cond rfl (fun h => ?_) (fun h => ?_)
  · have h : vD d = false := by simpa using h
    rw [aaR, if_neg (by rw [h]; decide)] at hg
    repeat (refine Run.go rfl ?_)
    refine Run.val rfl rfl rfl (ValOk.build rfl rfl rfl rfl rfl) rfl ?_
    repeat (refine Run.go rfl ?_)
    refine Run.nilBox (4, 0) 1 5 false rfl rfl ?_
    exact Run.ret hg rfl rfl
  have hv : vD d = true := by simpa using h
  rw [aaR, if_pos hv] at hg
  have hct := l06Apply_ct d e1 e2 a (vD_wd hv hr) ha
  generalize apR d a = R at hg hct
  repeat (refine Run.go rfl ?_)
  refine Run.cs rfl hct rfl (apA_rf _) ?_
  repeat (refine Run.go rfl ?_)
  refine Run.unagg 12 1 (12, 1) rfl rfl rfl ?_
  repeat (refine Run.go rfl ?_)
  refine Run.packBox (4, 0) 1 rfl rfl rfl rfl ?_
  exact Run.ret hg rfl rfl

end Go.Proofs.Ytlccbfdeonmljaa
