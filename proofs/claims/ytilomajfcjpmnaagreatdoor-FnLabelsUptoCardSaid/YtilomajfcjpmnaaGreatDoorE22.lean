/- Contracts of the program's functions, and what follows from them. -/
import Derived.Test.YtilomajfcjpmnaaGreatDoorE11
import Derived.Test.YtilomajfcjpmnaaGreatDoorE17
set_option linter.unusedVariables false
set_option maxRecDepth 100000
set_option linter.unusedSimpArgs false
namespace Go.Proofs.YtilomajfcjpmnaaGreatDoor
open Go Go.Av

/-! Lists of texts: found, struck. -/

theorem ltS (L : List (List UInt8)) : (flatc (L.map str)).all isLT = true := by
  unfold flatc
  induction L with
  | nil => rfl
  | cons x L ih => rw [List.map_cons, List.flatMap_cons, List.all_append, ih]; rfl

noncomputable def X153 : Fx := ⟨Tryz.prog, tys, 153, Tryz.f153, [0, 1]⟩
theorem X153_ok : X153.Ok := ⟨Tryz.func153, tys_ok⟩
theorem indexFS_ct (A : Amb) (l : List (List UInt8)) (ex : Bool) (f : Nat) (caps : List AV) (p : List UInt8 → Bool) (hlen : l.length ≤ 1048576) (hc : AV.freeL caps = true)
    (hf : ∀ x ∈ l, CtA A Tryz.prog f ([str x] ++ caps) (bo (p x)) []) : CtA A Tryz.prog 153 [.ro 1 ex (l.map str), .fn f caps] (i64 (fi p l)) [] := by
  refine CtA.intro A X153 X153_ok rfl (by kernel_rfl) rfl rfl fun g hA hg => ?_
  repeat (refine Run.step rfl ?_)
  refine Run.loop (fun j : Nat => ⟨[(0, .ro 1 ex (l.map str)), (1, .fn f caps), (7, i64 l.length), (8, i64 j)], []⟩) (fun j => j ≤ l.length ∧ j ≤ l.findIdx p) (fun j => l.length - j) 0 ⟨by omega, by omega⟩ ?_ ?_
  · refine St.Le.mk' ⟨rfl, rfl, ?_, rfl, trivial⟩ trivial
    show i64 _ = _
    simp
  · rintro j ⟨hj1, hj2⟩ IH
    repeat (refine Run.step rfl ?_)
    refine Run.cond rfl (fun h => ?_) (fun h => ?_)
    · have hlt : j < l.length := by simpa using h
      repeat (refine Run.step rfl ?_)
      refine Run.val rfl rfl rfl (ValOk.idx (str l[j]) rfl rfl rfl rfl rfl (by omega) (by simp [hlt])) rfl ?_
      repeat (refine Run.step rfl ?_)
      refine Run.callpA rfl rfl rfl rfl rfl rfl rfl hc rfl ((hf l[j] (by simp)).at hA) (by decide) (by decide) ?_
      repeat (refine Run.step rfl ?_)
      refine Run.cond rfl (fun h => ?_) (fun h => ?_)
      · repeat (refine Run.step rfl ?_)
        refine Run.ret hg rfl ?_
        show i64 _ = _
        rw [fi_at hlt h hj2]
      · repeat (refine Run.step rfl ?_)
        refine Run.of (IH (j + 1) ⟨by omega, fi_next hlt h hj2⟩ (by omega)) ⟨rfl, rfl, rfl, ?_, trivial⟩ trivial
        show i64 _ = _
        rw [wrap_i64 (by omega) (by omega)]
        rfl
    · repeat (refine Run.step rfl ?_)
      have hj : j = l.length := by simp at h; omega
      refine Run.ret hg rfl ?_
      show i64 (-1) = _
      rw [fi_none (by omega)]

noncomputable def X111 : Fx := ⟨Tryz.prog, tys, 111, Tryz.f111, []⟩
theorem X111_ok : X111.Ok := ⟨Tryz.func111, tys_ok⟩
theorem deleteS_ct (A : Amb) (L : List (List UInt8)) (ex : Bool) (f : Nat) (cs : List AV) (p : List UInt8 → Bool) (hlen : L.length ≤ 1048576) (hf : ∀ x ∈ L, CtA A Tryz.prog f [str x, .rp cs 0] (bo (p x)) []) :
    CtA A Tryz.prog 111 [.own 1 ex (L.map str), .fn f [.rp cs 0]] (.own 1 false ((L.filter fun x => !p x).map str)) [] := by
  refine CtA.intro A X111 X111_ok rfl (by kernel_rfl) rfl rfl fun g hA hg => ?_
  repeat (refine Run.go rfl ?_)
  refine Run.csA rfl ((indexFS_ct A L ex f [.rp cs 0] p hlen rfl hf).at hA) (by rw [frzS, decide_eq_true (by simp)]; rfl) rfl ?_
  repeat (refine Run.go rfl ?_)
  refine Run.cond rfl (fun h => ?_) (fun h => ?_)
  · have h : fi p L = -1 := by simpa using h
    have hnone : L.filter (fun x => !p x) = L := by
      rw [List.filter_eq_self]
      intro x hx
      have hany : L.any p = false := by
        rw [← fi_nonneg, h]
        rfl
      have := List.any_eq_false.1 hany x hx
      simpa using this
    repeat (refine Run.go rfl ?_)
    refine Run.packTake 4 rfl rfl (Nat.le_refl _) ?_
    refine Run.ret hg rfl ?_
    rw [hnone, List.take_length]
    rfl
  have h : fi p L ≠ -1 := by simpa using h
  have hi0 : L.findIdx p < L.length := by
    unfold fi at h
    split at h
    · assumption
    · exact absurd rfl h
  have hfi : fi p L = (L.findIdx p : Int) := by
    unfold fi
    rw [if_pos hi0]
  have hpi : p (L[L.findIdx p]) = true := List.findIdx_getElem
  have hfl0 : (L.take (L.findIdx p + 1)).filter (fun x => !p x) = L.take (L.findIdx p) := by
    rw [List.take_succ_eq_append_getElem hi0, List.filter_append, List.filter_cons, hpi]
    simp only [Bool.not_true, Bool.false_eq_true, if_false, List.filter_nil, List.append_nil]
    rw [List.filter_eq_self]
    intro x hx
    obtain ⟨q, hq, rfl⟩ := List.getElem_of_mem hx
    have hq2 : q < L.findIdx p := by simp at hq; omega
    have := List.not_of_lt_findIdx hq2
    simp only [List.getElem_take]
    simpa using this
  rw [hfi]
  generalize L.findIdx p = i0 at hi0 hfl0
  repeat (refine Run.go rfl ?_)
  refine Run.loop (fun j : Nat => ⟨[(0, .vec (0, 0) 0 L.length), (1, .fn f [.rp cs 0]), (5, i64 ((L.take j).filter (fun x => !p x)).length), (6, i64 j)], [((0, 0), .vec 1 ex (((L.take j).filter (fun x => !p x) ++ L.drop ((L.take j).filter (fun x => !p x)).length).map str))]⟩)
    (fun j => j ≤ L.length ∧ ((L.take j).filter (fun x => !p x)).length < j) (fun j => L.length - j) (i0 + 1) ⟨by omega, by rw [hfl0]; simp; omega⟩ ?_ ?_
  · refine St.Le.mk' ⟨?_, rfl, ?_, ?_, trivial⟩ ⟨?_, trivial⟩
    · show AV.vec _ _ (L.map str).length = _
      rw [List.length_map]
    · show i64 (i0 : Int) = i64 _
      rw [hfl0, List.length_take, Nat.min_eq_left (by omega)]
    · show i64 _ = _
      rw [wrap_i64 (by omega) (by omega)]
      rfl
    · show Ob.vec _ _ _ = Ob.vec _ _ _
      rw [hfl0, List.length_take, Nat.min_eq_left (by omega), List.take_append_drop]
  rintro j ⟨hj, hlt0⟩ IH
  obtain ⟨fl, hfl⟩ : ∃ fl, fl = (L.take j).filter (fun x => !p x) := ⟨_, rfl⟩
  rw [← hfl] at hlt0
  rw [← hfl]
  repeat (refine Run.go rfl ?_)
  refine Run.cond rfl (fun h => ?_) (fun h => ?_)
  · have hlt : j < L.length := by simpa using h
    have hat : ((fl ++ L.drop fl.length).map str)[0 + (j : Int).toNat]? = some (str L[j]) := by
      rw [List.getElem?_map, Nat.zero_add, Int.toNat_natCast, List.getElem?_append_right (by omega), List.getElem?_drop, show fl.length + (j - fl.length) = j by omega, List.getElem?_eq_getElem hlt]
      rfl
    have hat2 : ((fl ++ L.drop fl.length).map str)[0 + (fl.length : Int).toNat]? = some (str (L[fl.length]'(by omega))) := by
      rw [List.getElem?_map, Nat.zero_add, Int.toNat_natCast, List.getElem?_append_right (by omega), List.getElem?_drop, Nat.sub_self, Nat.add_zero, List.getElem?_eq_getElem (by omega)]
      rfl
    have hnext : (L.take (j + 1)).filter (fun x => !p x) = if p L[j] = true then fl else fl ++ [L[j]] := by
      rw [List.take_succ_eq_append_getElem hlt, List.filter_append, ← hfl, List.filter_cons]
      cases p L[j] <;> simp
    have hseta : ((fl ++ L.drop fl.length).map str).set (0 + (fl.length : Int).toNat) (str L[j]) = (fl ++ [L[j]] ++ L.drop (fl.length + 1)).map str := by
      rw [← List.map_set, Nat.zero_add, Int.toNat_natCast, List.set_append, if_neg (by omega), Nat.sub_self, List.append_assoc]
      congr 2
      rw [List.drop_eq_getElem_cons (i := fl.length) (by omega)]
      rfl
    have hml : 0 + (j : Int) < (L.length : Int) := by omega
    have hcl : ((fl ++ L.drop fl.length).map str).length = L.length := by simp; omega
    generalize hC : (fl ++ L.drop fl.length).map str = C at hat hat2 hseta hcl
    repeat (refine Run.go rfl ?_)
    refine Run.val rfl rfl rfl (ValOk.idxv rfl rfl rfl rfl rfl rfl (by omega) (by omega)) rfl ?_
    repeat (refine Run.go rfl ?_)
    refine Run.val rfl rfl rfl (ValOk.loadv (str L[j]) rfl rfl rfl rfl hat rfl) rfl ?_
    repeat (refine Run.go rfl ?_)
    refine Run.csA rfl ((hf L[j] (by simp)).at hA) rfl rfl ?_
    repeat (refine Run.go rfl ?_)
    refine Run.cond rfl (fun h => ?_) (fun h => ?_)
    · have h : p L[j] = false := by simpa using h
      rw [if_neg (by rw [h]; decide)] at hnext
      repeat (refine Run.go rfl ?_)
      refine Run.val rfl rfl rfl (ValOk.idxv rfl rfl rfl rfl rfl rfl (by omega) (by omega)) rfl ?_
      refine Run.storee (str (L[fl.length]'(by omega))) (str L[j]) rfl rfl rfl rfl rfl rfl rfl hat2 rfl rfl rfl ?_
      repeat (refine Run.go rfl ?_)
      refine Run.of (IH (j + 1) ⟨by omega, by rw [hnext]; simp; omega⟩ (by omega)) ⟨rfl, rfl, ?_, ?_, trivial⟩ ⟨?_, trivial⟩
      · show i64 _ = i64 _
        rw [wrap_i64 (by omega) (by omega), hnext]
        congr 1
        simp
      · show i64 _ = _
        rw [wrap_i64 (by omega) (by omega)]
        rfl
      · show Ob.vec _ _ _ = Ob.vec _ _ _
        rw [hseta, hnext]
        congr 3
        simp
    · have h : p L[j] = true := by simpa using h
      rw [if_pos h] at hnext
      repeat (refine Run.go rfl ?_)
      refine Run.of (IH (j + 1) ⟨by omega, by rw [hnext]; omega⟩ (by omega)) ⟨rfl, rfl, ?_, ?_, trivial⟩ ⟨?_, trivial⟩
      · show i64 _ = i64 _
        rw [hnext]
      · show i64 _ = _
        rw [wrap_i64 (by omega) (by omega)]
        rfl
      · show Ob.vec _ _ _ = Ob.vec _ _ _
        rw [hnext, hC]
  · have hj' : j = L.length := by simp at h; omega
    subst hj'
    rw [List.take_length] at hfl
    have hcl : ((fl ++ L.drop fl.length).map str).length = L.length := by simp; omega
    repeat (refine Run.go rfl ?_)
    refine Run.val rfl rfl rfl (ValOk.cutv rfl rfl rfl rfl rfl rfl rfl (by omega) (by omega) (by omega)) rfl ?_
    refine Run.clearv (str []) rfl rfl rfl rfl rfl rfl rfl rfl rfl rfl rfl rfl (ltS _) (by rw [hcl]; omega) ?_
    repeat (refine Run.go rfl ?_)
    refine Run.val rfl rfl rfl (ValOk.cutv rfl rfl rfl rfl rfl rfl rfl (by omega) (by omega) (by omega)) rfl ?_
    repeat (refine Run.go rfl ?_)
    refine Run.packTake 4 rfl rfl (by first | (simp; done) | (simp; omega)) ?_
    refine Run.ret hg rfl ?_
    rw [← hfl]
    show AV.own _ _ _ = AV.own _ _ _
    congr 1
    simp only [Int.toNat_natCast, Int.toNat_zero, Nat.sub_zero, Nat.zero_add]
    rw [List.append_assoc, List.take_append_of_le_length (by simp), List.take_take, Nat.min_self, List.map_append, List.take_append_of_le_length (by simp), List.take_of_length_le (by simp)]

end Go.Proofs.YtilomajfcjpmnaaGreatDoor
