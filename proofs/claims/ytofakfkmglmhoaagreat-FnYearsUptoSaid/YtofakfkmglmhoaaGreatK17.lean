/- Contracts of the program's functions, and what follows from them. -/
import Derived.Test.YtofakfkmglmhoaaGreatK16
import Derived.Test.YtofakfkmglmhoaaGreatME
import Derived.Test.YtofakfkmglmhoaaGreatMF
set_option linter.unusedVariables false
set_option maxRecDepth 100000
set_option linter.unusedSimpArgs false
namespace Go.Proofs.YtofakfkmglmhoaaGreat
open Go Go.Av

/-! The reference's rows of places; lists and racks compared. -/

theorem putAt_set (D : List Bool) (j : Nat) (hj : j < D.length) : putAt (D.map bof) j [bo true] = (D.set j true).map bof := by
  have hl : j + ([bo true] : List AV).length ≤ (D.map bof).length := by rw [List.length_map]; exact hj
  refine List.ext_getElem? fun k => ?_
  rw [putAt_get _ _ _ hl, List.getElem?_map, List.getElem?_map, List.getElem?_set]
  by_cases e : j = k
  · subst e
    rw [if_pos ⟨Nat.le_refl _, Nat.lt_succ_self _⟩, if_pos rfl, if_pos hj, Nat.sub_self]
    rfl
  · rw [if_neg (by simp only [List.length_cons, List.length_nil]; omega), if_neg e]
theorem tk_nil (n : Nat) : (tk [] n).map bof = List.replicate n (bo false) := by
  refine List.ext_getElem? fun j => ?_
  by_cases h : j < n
  · rw [List.getElem?_map, tk_get h, List.getElem?_replicate, if_pos h]
    rfl
  · rw [List.getElem?_eq_none (by rw [List.length_map, tk_len]; omega), List.getElem?_eq_none (by rw [List.length_replicate]; omega)]

noncomputable def X87 : Fx := ⟨Tryz.prog, tys, 87, Tryz.f87, [0]⟩
theorem X87_ok : X87.Ok := ⟨Tryz.func87, tys_ok⟩
theorem l05Taken_ct (l : List Pl) (N : Nat) (ex : Bool) (h : VR (N : Nat) l) : Ct Tryz.prog 87 [.rp (rkR ex ⟨(N : Nat), l⟩).cells 0] (.agg ((tk l 60).map bof)) [] := by
  have hn := h.hn
  have hl := h.len
  refine Ct.intro X87 X87_ok rfl (by kernel_rfl) rfl rfl fun g hg => ?_
  repeat (refine Run.go rfl ?_)
  refine Run.val rfl rfl rfl (ValOk.buildArr (cs := List.replicate 60 (bo false)) rfl rfl rfl rfl rfl) rfl ?_
  repeat (refine Run.go rfl ?_)
  refine Run.loop (fun j : Nat => ⟨[(0, .rp (rkR ex ⟨(N : Nat), l⟩).cells 0), (2, .bp (2, 0) 0), (3, .bp (3, 0) 0), (4, i64 (j : Nat))], [((2, 0), .box (List.replicate 60 (bo false))), ((3, 0), .box ((tk (l.take j) 60).map bof))]⟩) (fun j => j ≤ l.length) (fun j => l.length - j) 0 (by omega) ?_ ?_
  · refine St.Le.mk' ⟨rfl, rfl, rfl, rfl, trivial⟩ ⟨rfl, ?_, trivial⟩
    show Ob.box _ = Ob.box ((tk [] 60).map bof)
    rw [tk_nil]
    rfl
  intro j hj IH
  repeat (refine Run.go rfl ?_)
  refine Run.cond rfl (fun h => ?_) (fun h => ?_)
  · have hlt : j < l.length := by simpa using h
    have hp := VR.pl ‹VR (N : Nat) l› (List.getElem_mem hlt)
    have hat : (l.map plA)[((j : Int)).toNat]? = some (plA l[j]) := by simp [hlt]
    have hts : (tk (l.take j) 60).set l[j].p.toNat true = tk (l.take (j + 1)) 60 := by
      rw [tk_step _ l[j] 60 _ (by omega) (by omega), List.take_succ_eq_append_getElem hlt]
    generalize l[j] = x at hp hat hts
    repeat (refine Run.go rfl ?_)
    refine Run.val rfl rfl rfl (ValOk.idx (plA x) rfl rfl rfl rfl rfl (by omega) hat) rfl ?_
    repeat (refine Run.go rfl ?_)
    refine Run.val rfl rfl rfl (ValOk.idxArr (m := x.p) rfl rfl rfl hp.1 (by show x.p < ((60 : Nat) : Int); omega) rfl) rfl ?_
    have hq : 0 + x.p.toNat * 1 = x.p.toNat := by omega
    refine Run.storeb rfl rfl (stStore_bp (q := 0 + x.p.toNat * 1) (cs := (tk (l.take j) 60).map bof) (v := bo true) rfl rfl rfl rfl rfl rfl rfl rfl rfl rfl (by rw [List.length_map, tk_len]; show 0 + x.p.toNat * 1 + 1 ≤ 60; omega)) ?_
    rw [hq, show AV.cells (bo true) = [bo true] from rfl, putAt_set _ _ (by rw [tk_len]; omega), hts]
    repeat (refine Run.go rfl ?_)
    refine Run.of (IH (j + 1) (by omega) (by omega)) ⟨rfl, rfl, rfl, ?_, trivial⟩ ⟨rfl, rfl, trivial⟩
    show i64 _ = _
    rw [wrap_i64 (by omega) (by omega)]
    rfl
  · have hj' : j = l.length := by simp at h; omega
    rw [hj', List.take_length]
    repeat (refine Run.go rfl ?_)
    refine Run.ret hg rfl ?_
    show AV.agg (List.take 60 (List.drop 0 (putAt (List.replicate 60 (bo false)) 0 (List.take 60 (List.drop 0 ((tk l 60).map bof)))))) = _
    have hM : ((tk l 60).map bof).length = 60 := by rw [List.length_map, tk_len]
    generalize (tk l 60).map bof = M at hM
    have e60 : List.take 60 M = M := List.take_of_length_le (by omega)
    have e : putAt (List.replicate 60 (bo false)) 0 M = M := by simp [putAt, hM]
    rw [List.drop_zero, List.drop_zero, e60, e, e60]

theorem nrfL_bo (id : Av.Id) (D : List Bool) : AV.nrfL id (D.map bof) = true := by
  induction D with
  | nil => rfl
  | cons x D ih => simp [AV.nrfL, ih, bof, AV.nrf]
theorem plL_bo (D : List Bool) : AV.plL (D.map bof) = true := by
  induction D with
  | nil => rfl
  | cons x D ih => simp [AV.plL, ih, bof, AV.pl]
theorem oneL_bo (D : List Bool) : oneL (D.map bof) = true := by
  induction D with
  | nil => rfl
  | cons x D ih => simp [oneL, ih, bof, AV.one]
theorem tk60 {l : List Pl} {N j : Nat} (hj : j < N) (hN : N ≤ 60) : (tk l 60)[j]'(by rw [tk_len]; omega) = (tk l N)[j]'(by rw [tk_len]; exact hj) := by
  simp [tk]

noncomputable def X55 : Fx := ⟨Tryz.prog, tys, 55, Tryz.f55, [0, 1]⟩
theorem X55_ok : X55.Ok := ⟨Tryz.func55, tys_ok⟩
theorem l05Row_ct (l : List Pl) (N : Nat) (ex t : Bool) (h : VR (N : Nat) l) : Ct Tryz.prog 55 [.rp (rkR ex ⟨(N : Nat), l⟩).cells 0, bo t] (.tup [i64 ((lg (tk l N) t N).1 : Nat), i64 ((lg (tk l N) t N).2.1 : Nat)]) [] := by
  have hn := h.hn
  have cT := l05Taken_ct l N ex h
  have hD : (tk l N).length = N := tk_len l N
  have hD60 : ((tk l 60).map bof).length = 60 := by rw [List.length_map, tk_len]
  have hget : ∀ j, j < N → ((tk l 60).map bof)[j]? = some (bof ((tk l N).getD j false)) := by
    intro j hj
    rw [List.getElem?_map, List.getElem?_eq_getElem (by rw [tk_len]; omega), tk60 hj (by omega), List.getD_eq_getElem?_getD, List.getElem?_eq_getElem (by omega)]
    rfl
  have hMn := nrfL_bo (6, 0) (tk l 60)
  have hMp := plL_bo (tk l 60)
  have hMo := oneL_bo (tk l 60)
  generalize (tk l 60).map bof = M at *
  generalize hDe : tk l N = D at *
  clear hDe
  have hwN : IntKind.i64.wrap (N : Nat) = (N : Nat) := wrap_i64 (by omega) (by omega)
  refine Ct.intro X55 X55_ok rfl (by kernel_rfl) rfl rfl fun g hg => ?_
  repeat (refine Run.go rfl ?_)
  refine Run.callp rfl rfl rfl rfl rfl rfl rfl rfl rfl cT (by decide) (by decide) ?_
  refine Run.of (st' := ⟨[(0, .rp (rkR ex ⟨(N : Nat), l⟩).cells 0), (1, bo t), (12, .agg M)], []⟩) ?_ ⟨rfl, rfl, rfl, trivial⟩ trivial
  unfold Nxt
  refine Run.alloc rfl rfl rfl rfl rfl rfl (by simp [St.nrf, AV.nrf, hMn]) rfl ?_
  refine Run.storeb rfl rfl (stStore_bp (q := 0) (cs := List.replicate 60 (bo false)) (v := .agg M) rfl rfl rfl rfl rfl rfl rfl hMo hMp hD60 (by rw [List.length_replicate]; exact Nat.le_refl _)) ?_
  have eM : putAt (List.replicate 60 (bo false)) 0 (AV.cells (.agg M)) = M := by show putAt _ 0 M = M; simp [putAt, hD60]
  rw [eM]
  repeat (refine Run.go rfl ?_)
  refine Run.loop (fun i : Nat => ⟨[(0, .rp (rkR ex ⟨(N : Nat), l⟩).cells 0), (1, bo t), (6, .bp (6, 0) 0), (7, i64 ((lg D t i).1 : Nat)), (8, i64 ((lg D t i).2.1 : Nat)), (9, i64 ((i - (lg D t i).2.2 : Nat) : Int)), (10, i64 (i : Nat))], [((6, 0), .box M)]⟩) (fun i => i ≤ N) (fun i => N - i) 0 (by omega) ?_ ?_
  · exact St.Le.mk' ⟨rfl, rfl, rfl, rfl, rfl, rfl, rfl, trivial⟩ ⟨rfl, trivial⟩
  intro i hi IH
  have hok := lg_ok D t i
  repeat (refine Run.go rfl ?_)
  refine Run.cond rfl (fun h => ?_) (fun h => ?_)
  · have hlt : i < N := by
      have h : decide (((i : Nat) : Int) < IntKind.i64.wrap (N : Nat)) = true := h
      rw [hwN] at h
      have := of_decide_eq_true h
      omega
    have hg1 := hget i hlt
    have hst : lg D t (i + 1) = if D.getD i false = t then
      (if (lg D t i).2.1 < (lg D t i).2.2 + 1 then (i - (lg D t i).2.2, (lg D t i).2.2 + 1, (lg D t i).2.2 + 1) else ((lg D t i).1, (lg D t i).2.1, (lg D t i).2.2 + 1)) else ((lg D t i).1, (lg D t i).2.1, 0) := by rw [lg]
    have hw := hok.wi
    have hfm := hok.fm
    have IH1 := IH (i + 1) (by omega) (by omega)
    generalize lg D t (i + 1) = Q2 at hst IH1
    generalize lg D t i = Q at *
    generalize D.getD i false = y at hg1 hst
    obtain ⟨f, m, w⟩ := Q
    simp only at *
    have e3 : IntKind.i64.wrap ((i : Nat) + 1) = ((i + 1 : Nat) : Int) := by rw [wrap_i64 (by omega) (by omega)]; rfl
    have e4 : IntKind.i64.wrap (((i : Nat) : Int) - ((i - w : Nat) : Int)) = (w : Nat) := by rw [wrap_i64 (by omega) (by omega)]; omega
    have e5 : IntKind.i64.wrap ((w : Nat) + 1) = ((w + 1 : Nat) : Int) := by rw [wrap_i64 (by omega) (by omega)]; rfl
    repeat (refine Run.go rfl ?_)
    refine Run.val rfl rfl rfl (ValOk.idxArr (m := (i : Nat)) rfl rfl rfl (by omega) (by show ((i : Nat) : Int) < ((60 : Nat) : Int); omega) rfl) rfl ?_
    refine Run.val rfl rfl rfl (ValOk.loadb (bof y) rfl rfl rfl rfl rfl (by show M[0 + ((i : Nat) : Int).toNat * 1]? = _; rw [show 0 + ((i : Nat) : Int).toNat * 1 = i by omega]; exact hg1) rfl) rfl ?_
    repeat (refine Run.go rfl ?_)
    refine Run.cond rfl (fun h => ?_) (fun h => ?_)
    · have h : y ≠ t := by simpa using h
      rw [if_neg h] at hst
      subst hst
      repeat (refine Run.go rfl ?_)
      refine Run.of IH1 ⟨rfl, rfl, rfl, rfl, rfl, ?_, ?_, trivial⟩ ⟨rfl, trivial⟩
      · show i64 (IntKind.i64.wrap ((i : Nat) + 1)) = i64 ((i + 1 - 0 : Nat) : Int)
        rw [e3]
        rfl
      · show i64 (IntKind.i64.wrap ((i : Nat) + 1)) = _
        rw [e3]
    · have h : y = t := by simpa using h
      rw [if_pos h] at hst
      repeat (refine Run.go rfl ?_)
      rw [e4, e5]
      refine Run.cond rfl (fun h2 => ?_) (fun h2 => ?_)
      · have h2 : m < w + 1 := by have := of_decide_eq_true h2; omega
        rw [if_pos h2] at hst
        subst hst
        repeat (refine Run.go rfl ?_)
        refine Run.of IH1 ⟨rfl, rfl, rfl, rfl, ?_, ?_, ?_, trivial⟩ ⟨rfl, trivial⟩
        · show i64 (IntKind.i64.wrap (IntKind.i64.wrap (((i : Nat) : Int) - ((i - w : Nat) : Int)) + 1)) = i64 ((w + 1 : Nat) : Int)
          rw [e4, e5]
        · show i64 ((i - w : Nat) : Int) = i64 ((i + 1 - (w + 1) : Nat) : Int)
          congr 2
          omega
        · show i64 (IntKind.i64.wrap ((i : Nat) + 1)) = _
          rw [e3]
      · have h2 : ¬ m < w + 1 := by have := of_decide_eq_false h2; omega
        rw [if_neg h2] at hst
        subst hst
        repeat (refine Run.go rfl ?_)
        refine Run.of IH1 ⟨rfl, rfl, rfl, rfl, rfl, ?_, ?_, trivial⟩ ⟨rfl, trivial⟩
        · show i64 ((i - w : Nat) : Int) = i64 ((i + 1 - (w + 1) : Nat) : Int)
          congr 2
          omega
        · show i64 (IntKind.i64.wrap ((i : Nat) + 1)) = _
          rw [e3]
  · have hi2 : i = N := by
      have h : decide (((i : Nat) : Int) < IntKind.i64.wrap (N : Nat)) = false := h
      rw [hwN] at h
      have := of_decide_eq_false h
      omega
    subst hi2
    repeat (refine Run.go rfl ?_)
    exact Run.ret hg rfl rfl

noncomputable def X18 : Fx := ⟨Tryz.prog, tys, 18, Tryz.f18, [0]⟩
theorem X18_ok : X18.Ok := ⟨Tryz.func18, tys_ok⟩
theorem specCrowdOf_ct (l : List Pl) (N : Nat) (ex : Bool) (h : VR (N : Nat) l) (hb : ∀ x ∈ l, bkRng x.b) : Ct Tryz.prog 18 [rkR ex ⟨(N : Nat), l⟩] (row3 (rowV l N true)) [] := by
  have cV := l05Ok_ct ⟨(N : Nat), l⟩ ex (h.ok hb).1
  rw [(h.ok hb).2] at cV
  have cL := l05Row_ct l N ex true h
  unfold rowV
  generalize lg (tk l N) true N = Q at cL
  obtain ⟨f, m, w⟩ := Q
  simp only at cL ⊢
  refine Ct.intro X18 X18_ok rfl (by kernel_rfl) rfl rfl fun g hg => ?_
  refine Run.go rfl ?_
  refine Run.go rfl ?_
  repeat (refine Run.go rfl ?_)
  refine Run.freezeBox 1 (1, 0) (rkR ex ⟨(N : Nat), l⟩).cells rfl rfl rfl rfl ?_
  refine Run.cs rfl cV rfl rfl ?_
  repeat (refine Run.go rfl ?_)
  refine Run.cond rfl (fun h => by simp at h) (fun _ => ?_)
  repeat (refine Run.go rfl ?_)
  refine Run.cs rfl cL rfl rfl ?_
  repeat (refine Run.go rfl ?_)
  refine Run.cond rfl (fun h => ?_) (fun h => ?_)
  · have h : m = 0 := by simpa using h
    rw [if_pos h] at hg
    repeat (refine Run.go rfl ?_)
    exact Run.ret hg rfl rfl
  · have h : m ≠ 0 := by simpa using h
    rw [if_neg h] at hg
    repeat (refine Run.go rfl ?_)
    exact Run.ret hg rfl rfl

noncomputable def X20 : Fx := ⟨Tryz.prog, tys, 20, Tryz.f20, [0]⟩
theorem X20_ok : X20.Ok := ⟨Tryz.func20, tys_ok⟩
theorem specWidestGap_ct (l : List Pl) (N : Nat) (ex : Bool) (h : VR (N : Nat) l) (hb : ∀ x ∈ l, bkRng x.b) : Ct Tryz.prog 20 [rkR ex ⟨(N : Nat), l⟩] (row3 (rowV l N false)) [] := by
  have cV := l05Ok_ct ⟨(N : Nat), l⟩ ex (h.ok hb).1
  rw [(h.ok hb).2] at cV
  have cL := l05Row_ct l N ex false h
  unfold rowV
  generalize lg (tk l N) false N = Q at cL
  obtain ⟨f, m, w⟩ := Q
  simp only at cL ⊢
  refine Ct.intro X20 X20_ok rfl (by kernel_rfl) rfl rfl fun g hg => ?_
  repeat (refine Run.go rfl ?_)
  refine Run.freezeBox 1 (1, 0) (rkR ex ⟨(N : Nat), l⟩).cells rfl rfl rfl rfl ?_
  refine Run.cs rfl cV rfl rfl ?_
  repeat (refine Run.go rfl ?_)
  refine Run.cond rfl (fun h => by simp at h) (fun _ => ?_)
  repeat (refine Run.go rfl ?_)
  refine Run.cs rfl cL rfl rfl ?_
  repeat (refine Run.go rfl ?_)
  refine Run.cond rfl (fun h => ?_) (fun h => ?_)
  · have h : m = 0 := by simpa using h
    rw [if_pos h] at hg
    repeat (refine Run.go rfl ?_)
    exact Run.ret hg rfl rfl
  · have h : m ≠ 0 := by simpa using h
    rw [if_neg h] at hg
    repeat (refine Run.go rfl ?_)
    exact Run.ret hg rfl rfl
end Go.Proofs.YtofakfkmglmhoaaGreat
