/- Contracts of the program's functions, and what follows from them. -/
import Derived.Test.YtcfkdcjindhnjaaK32
import Derived.Test.YtcfkdcjindhnjaaMF
import Derived.Test.YtcfkdcjindhnjaaME
set_option linter.unusedVariables false
set_option maxRecDepth 100000
set_option linter.unusedSimpArgs false
namespace Go.Proofs.Ytcfkdcjindhnjaa
open Go Go.Av

/-! Short lists of numbers: turned round, sorted. -/

theorem one_i64 (a : List Int) : oneC (a.map i64) = true := by
  simp only [oneC, List.all_map, List.all_eq_true]
  intro x _
  rfl

noncomputable def X18 : Fx := ⟨Try.prog, tys, 18, Try.f18, [0]⟩
theorem X18_ok : X18.Ok := ⟨Try.func18, tys_ok⟩
theorem clone64_ct (a : List Int) (e1 : Bool) (ha : a.length ≤ 1048576) : Ct Try.prog 18 [.ro 1 e1 (a.map i64)] (.own 1 false (a.map i64)) [] := by
  refine Ct.intro X18 X18_ok rfl (by kernel_rfl) rfl rfl fun g hg => ?_
  repeat (refine Run.go rfl ?_)
  refine Run.roNil rfl rfl rfl rfl rfl rfl rfl rfl fun b hb => ?_
  repeat (refine Run.go rfl ?_)
  refine Run.cond rfl (fun h => ?_) (fun h => ?_)
  · have hn := hb h
    repeat (refine Run.go rfl ?_)
    refine Run.nilSlot 2 1 false rfl ?_
    refine Run.ret hg rfl ?_
    rw [hn]
    rfl
  · repeat (refine Run.go rfl ?_)
    refine Run.buildSlice [] rfl rfl rfl rfl rfl rfl rfl rfl rfl rfl rfl rfl rfl rfl ?_
    refine Run.unpack 5 rfl rfl ?_
    repeat (refine Run.go rfl ?_)
    refine Run.appendr rfl rfl rfl rfl rfl rfl rfl rfl rfl rfl rfl rfl rfl (one_i64 a) (by show (_ + _) * 8 ≤ _; simp; omega) (by simp [capMax]; omega) rfl ?_
    repeat (refine Run.go rfl ?_)
    exact Run.ret hg rfl rfl

/-- Turned round as far as i. -/
def rvI (l : List Int) (i : Nat) : List Int := (List.range l.length).map fun k => if k < i ∨ l.length ≤ k + i then l.getD (l.length - 1 - k) 0 else l.getD k 0
theorem rvI_len (l : List Int) (i : Nat) : (rvI l i).length = l.length := by simp [rvI]
theorem rvI_get {l : List Int} {i k : Nat} (h : k < l.length) : (rvI l i)[k]? = some (if k < i ∨ l.length ≤ k + i then l.getD (l.length - 1 - k) 0 else l.getD k 0) := by
  simp [rvI, h]
theorem getD_at {l : List Int} {k : Nat} (h : k < l.length) : l[k]? = some (l.getD k 0) := by
  rw [List.getD_eq_getElem?_getD, List.getElem?_eq_getElem h]; rfl
theorem rvI_0 (l : List Int) : rvI l 0 = l := by
  refine List.ext_getElem? fun k => ?_
  by_cases h : k < l.length
  · rw [rvI_get h, if_neg (by omega), getD_at h]
  · rw [List.getElem?_eq_none (by rw [rvI_len]; omega), List.getElem?_eq_none (by omega)]
theorem rvI_end {l : List Int} {i : Nat} (h : l.length ≤ 2 * i + 1) : rvI l i = l.reverse := by
  refine List.ext_getElem? fun k => ?_
  by_cases hk : k < l.length
  · rw [rvI_get hk, List.getElem?_reverse hk, getD_at (by omega)]
    by_cases h2 : k < i ∨ l.length ≤ k + i
    · rw [if_pos h2]
    · rw [if_neg h2, show l.length - 1 - k = k by omega]
  · rw [List.getElem?_eq_none (by rw [rvI_len]; omega), List.getElem?_eq_none (by simp; omega)]
theorem rvI_step {l : List Int} {i : Nat} (h : 2 * i + 1 < l.length) : ((rvI l i).set i (l.getD (l.length - 1 - i) 0)).set (l.length - 1 - i) (l.getD i 0) = rvI l (i + 1) := by
  refine List.ext_getElem? fun k => ?_
  by_cases hk : k < l.length
  · rw [rvI_get hk, List.getElem?_set, List.getElem?_set, rvI_get hk, List.length_set, rvI_len]
    by_cases e1 : l.length - 1 - i = k
    · rw [if_pos e1, if_pos (by omega), if_pos (by omega), show l.length - 1 - k = i by omega]
    · rw [if_neg e1]
      by_cases e2 : i = k
      · rw [if_pos e2, if_pos (by omega), if_pos (by omega), e2]
      · rw [if_neg e2]
        by_cases e3 : k < i ∨ l.length ≤ k + i
        · rw [if_pos e3, if_pos (by omega)]
        · rw [if_neg e3, if_neg (by omega)]
  · rw [List.getElem?_eq_none (by rw [List.length_set, List.length_set, rvI_len]; omega), List.getElem?_eq_none (by rw [rvI_len]; omega)]

noncomputable def X19 : Fx := ⟨Try.prog, tys, 19, Try.f19, [0]⟩
theorem X19_ok : X19.Ok := ⟨Try.func19, tys_ok⟩
set_option maxHeartbeats 1000000 in
theorem reverse64_ct (l : List Int) (e : Bool) (hl : l.length ≤ 1000) : CtG Try.prog 19 [.vec lid 0 (l.map i64).length] (.vec 1 e (l.map i64)) (.tup []) (.vec 1 e (l.reverse.map i64)) := by
  have hml : ((l.map i64).length : Nat) = l.length := List.length_map ..
  refine CtG.intro X19 X19_ok rfl (by kernel_rfl) rfl rfl rfl rfl rfl fun g v0 hg => ?_
  repeat (refine Run.go rfl ?_)
  refine Run.loop (fun i : Nat => ⟨[(0, .vec lid 0 l.length), (2, i64 (i : Nat)), (3, i64 ((l.length : Int) - 1 - (i : Nat)))], [(lid, .vec 1 e ((rvI l i).map i64)), (lidT, .tie v0 lid)]⟩) (fun i => 2 * i ≤ l.length + 1) (fun i => l.length - i) 0 (by omega) ?_ ?_
  · refine St.Le.mk' ⟨?_, rfl, ?_, trivial⟩ ⟨?_, rfl, trivial⟩
    · show AV.vec _ _ _ = _
      rw [hml]
    · show i64 _ = _
      rw [hml, wrap_i64 (by omega) (by omega)]
      congr 1
      omega
    · rw [rvI_0]; rfl
  intro i hi IH
  repeat (refine Run.go rfl ?_)
  refine Run.cond rfl (fun h => ?_) (fun h => ?_)
  · have hlt : 2 * i + 1 < l.length := by have := of_decide_eq_true h; omega
    obtain ⟨j, hj⟩ : ∃ j : Nat, j = l.length - 1 - i := ⟨_, rfl⟩
    have hji : (l.length : Int) - 1 - (i : Nat) = (j : Int) := by omega
    have hyi : ((rvI l i).map i64)[0 + ((i : Nat) : Int).toNat]? = some (i64 (l.getD i 0)) := by rw [Nat.zero_add, Int.toNat_natCast, List.getElem?_map, rvI_get (by omega), if_neg (by omega)]; rfl
    have hyj : ((rvI l i).map i64)[0 + ((j : Nat) : Int).toNat]? = some (i64 (l.getD j 0)) := by rw [Nat.zero_add, Int.toNat_natCast, List.getElem?_map, rvI_get (by omega), if_neg (by omega)]; rfl
    have hyj2 : (((rvI l i).map i64).set (0 + ((i : Nat) : Int).toNat) (i64 (l.getD j 0)))[0 + ((j : Nat) : Int).toNat]? = some (i64 (l.getD j 0)) := by
      rw [List.getElem?_set, if_neg (by omega)]
      exact hyj
    have hstep := rvI_step hlt
    rw [← hj] at hstep
    have IH1 := IH (i + 1) (by omega) (by omega)
    rw [← hstep] at IH1
    have hlen := rvI_len l i
    rw [hji]
    repeat (refine Run.go rfl ?_)
    refine Run.of (st' := ⟨[(0, .vec lid 0 l.length), (2, i64 (i : Nat)), (3, i64 (j : Nat))], [(lid, .vec 1 e ((rvI l i).map i64)), (lidT, .tie v0 lid)]⟩) ?_ ⟨rfl, rfl, rfl, trivial⟩ ⟨rfl, rfl, trivial⟩
    unfold Nxt
    refine Run.drawI (fun D => ⟨[(0, .vec lid 0 l.length), (2, i64 (i : Nat)), (3, i64 (j : Nat)), (14, bif D 0 then .vec lid 0 l.length else .top), (15, bif D 1 then i64 (i : Nat) else .top), (16, bif D 2 then .vec lid 0 l.length else .top), (17, bif D 3 then i64 (j : Nat) else .top), (18, bif D 4 then .vec lid 0 l.length else .top), (19, bif D 5 then i64 (j : Nat) else .top), (20, bif D 6 then .ep lid (0 + ((j : Nat) : Int).toNat) 0 else .top), (21, bif D 7 then i64 (l.getD j 0) else .top), (22, bif D 8 then .vec lid 0 l.length else .top), (23, bif D 9 then i64 (i : Nat) else .top), (24, bif D 10 then .ep lid (0 + ((i : Nat) : Int).toNat) 0 else .top), (25, bif D 11 then i64 (l.getD i 0) else .top), (26, bif D 12 then .ep lid (0 + ((i : Nat) : Int).toNat) 0 else .top), (27, bif D 14 then .ep lid (0 + ((j : Nat) : Int).toNat) 0 else .top)], [(lid, (bif D 15 then Ob.vec 1 e ((((rvI l i).map i64).set (0 + ((i : Nat) : Int).toNat) (i64 (l.getD j 0))).set (0 + ((j : Nat) : Int).toNat) (i64 (l.getD i 0))) else (bif D 13 then Ob.vec 1 e (((rvI l i).map i64).set (0 + ((i : Nat) : Int).toNat) (i64 (l.getD j 0))) else Ob.vec 1 e ((rvI l i).map i64)))), (lidT, Ob.tie v0 lid)]⟩) (by decide +kernel) (by decide +kernel) ?_ ?_ fun k' => ⟨?_, ?_, ?_, ?_, ?_, ?_, ?_, ?_, ?_, ?_, ?_, ?_, ?_, ?_, ?_, ?_, trivial⟩
    · exact St.Le.mk' ⟨rfl, rfl, rfl, rfl, rfl, rfl, rfl, rfl, rfl, rfl, rfl, rfl, rfl, rfl, rfl, rfl, rfl, trivial⟩ ⟨rfl, rfl, trivial⟩
    rotate_left
    · intro D hid h0 hp hs rest hK
      obtain ⟨d12, d13, d14, d15, -⟩ : AllD D false [12, 13, 14, 15] := ideal_sub hs (by decide +kernel)
      simp only [d12, d13, d14, d15, h0, cond_true, cond_false]
      refine Run.go rfl ?_
      refine Run.le ?_ hK
      simp only [d12, d13, d14, d15, h0, Nat.reduceBEq, Bool.false_or, Bool.true_or, cond_true, cond_false]
      exact St.Le.mk' ⟨rfl, rfl, rfl, rfl, rfl, rfl, rfl, rfl, rfl, rfl, rfl, rfl, rfl, rfl, rfl, rfl, rfl, trivial⟩ ⟨rfl, rfl, trivial⟩
    · intro D hid h0 hp hs rest hK
      obtain ⟨d12, d13, d14, d15, -⟩ : AllD D false [12, 13, 14, 15] := ideal_sub hs (by decide +kernel)
      simp only [d12, d13, d14, d15, h0, cond_true, cond_false]
      refine Run.go rfl ?_
      refine Run.le ?_ hK
      simp only [d12, d13, d14, d15, h0, Nat.reduceBEq, Bool.false_or, Bool.true_or, cond_true, cond_false]
      exact St.Le.mk' ⟨rfl, rfl, rfl, rfl, rfl, rfl, rfl, rfl, rfl, rfl, rfl, rfl, rfl, rfl, rfl, rfl, rfl, trivial⟩ ⟨rfl, rfl, trivial⟩
    · intro D hid h0 hp hs rest hK
      obtain ⟨d14, d15, -⟩ : AllD D false [14, 15] := ideal_sub hs (by decide +kernel)
      simp only [d14, d15, h0, cond_true, cond_false]
      refine Run.go rfl ?_
      refine Run.le ?_ hK
      simp only [d14, d15, h0, Nat.reduceBEq, Bool.false_or, Bool.true_or, cond_true, cond_false]
      exact St.Le.mk' ⟨rfl, rfl, rfl, rfl, rfl, rfl, rfl, rfl, rfl, rfl, rfl, rfl, rfl, rfl, rfl, rfl, rfl, trivial⟩ ⟨rfl, rfl, trivial⟩
    · intro D hid h0 hp hs rest hK
      obtain ⟨d14, d15, -⟩ : AllD D false [14, 15] := ideal_sub hs (by decide +kernel)
      simp only [d14, d15, h0, cond_true, cond_false]
      refine Run.go rfl ?_
      refine Run.le ?_ hK
      simp only [d14, d15, h0, Nat.reduceBEq, Bool.false_or, Bool.true_or, cond_true, cond_false]
      exact St.Le.mk' ⟨rfl, rfl, rfl, rfl, rfl, rfl, rfl, rfl, rfl, rfl, rfl, rfl, rfl, rfl, rfl, rfl, rfl, trivial⟩ ⟨rfl, rfl, trivial⟩
    · intro D hid h0 hp hs rest hK
      obtain ⟨d6, d12, d13, d14, d15, -⟩ : AllD D false [6, 12, 13, 14, 15] := ideal_sub hs (by decide +kernel)
      simp only [d6, d12, d13, d14, d15, h0, cond_true, cond_false]
      refine Run.go rfl ?_
      refine Run.le ?_ hK
      simp only [d6, d12, d13, d14, d15, h0, Nat.reduceBEq, Bool.false_or, Bool.true_or, cond_true, cond_false]
      exact St.Le.mk' ⟨rfl, rfl, rfl, rfl, rfl, rfl, rfl, rfl, rfl, rfl, rfl, rfl, rfl, rfl, rfl, rfl, rfl, trivial⟩ ⟨rfl, rfl, trivial⟩
    · intro D hid h0 hp hs rest hK
      obtain ⟨d6, d12, d13, d14, d15, -⟩ : AllD D false [6, 12, 13, 14, 15] := ideal_sub hs (by decide +kernel)
      simp only [d6, d12, d13, d14, d15, h0, cond_true, cond_false]
      refine Run.go rfl ?_
      refine Run.le ?_ hK
      simp only [d6, d12, d13, d14, d15, h0, Nat.reduceBEq, Bool.false_or, Bool.true_or, cond_true, cond_false]
      exact St.Le.mk' ⟨rfl, rfl, rfl, rfl, rfl, rfl, rfl, rfl, rfl, rfl, rfl, rfl, rfl, rfl, rfl, rfl, rfl, trivial⟩ ⟨rfl, rfl, trivial⟩
    · intro D hid h0 hp hs rest hK
      obtain ⟨d4, d5, -⟩ : AllD D true [4, 5] := ideal_sub hp (by decide +kernel)
      obtain ⟨d7, d12, d13, d14, d15, -⟩ : AllD D false [7, 12, 13, 14, 15] := ideal_sub hs (by decide +kernel)
      simp only [d4, d5, d7, d12, d13, d14, d15, h0, cond_true, cond_false]
      refine Run.val rfl rfl rfl (ValOk.idxv rfl rfl rfl rfl rfl rfl (by omega) (by omega)) rfl ?_
      refine Run.le ?_ hK
      simp only [d4, d5, d7, d12, d13, d14, d15, h0, Nat.reduceBEq, Bool.false_or, Bool.true_or, cond_true, cond_false]
      exact St.Le.mk' ⟨rfl, rfl, rfl, rfl, rfl, rfl, rfl, rfl, rfl, rfl, rfl, rfl, rfl, rfl, rfl, rfl, rfl, trivial⟩ ⟨rfl, rfl, trivial⟩
    · intro D hid h0 hp hs rest hK
      obtain ⟨d6, -⟩ : AllD D true [6] := ideal_sub hp (by decide +kernel)
      obtain ⟨d12, d13, d14, d15, -⟩ : AllD D false [12, 13, 14, 15] := ideal_sub hs (by decide +kernel)
      simp only [d6, d12, d13, d14, d15, h0, cond_true, cond_false]
      refine Run.val rfl rfl rfl (ValOk.loadv (i64 (l.getD j 0)) rfl rfl rfl rfl hyj rfl) rfl ?_
      refine Run.le ?_ hK
      simp only [d6, d12, d13, d14, d15, h0, Nat.reduceBEq, Bool.false_or, Bool.true_or, cond_true, cond_false]
      exact St.Le.mk' ⟨rfl, rfl, rfl, rfl, rfl, rfl, rfl, rfl, rfl, rfl, rfl, rfl, rfl, rfl, rfl, rfl, rfl, trivial⟩ ⟨rfl, rfl, trivial⟩
    · intro D hid h0 hp hs rest hK
      obtain ⟨d10, d14, d15, -⟩ : AllD D false [10, 14, 15] := ideal_sub hs (by decide +kernel)
      simp only [d10, d14, d15, h0, cond_true, cond_false]
      refine Run.go rfl ?_
      refine Run.le ?_ hK
      simp only [d10, d14, d15, h0, Nat.reduceBEq, Bool.false_or, Bool.true_or, cond_true, cond_false]
      exact St.Le.mk' ⟨rfl, rfl, rfl, rfl, rfl, rfl, rfl, rfl, rfl, rfl, rfl, rfl, rfl, rfl, rfl, rfl, rfl, trivial⟩ ⟨rfl, rfl, trivial⟩
    · intro D hid h0 hp hs rest hK
      obtain ⟨d10, d14, d15, -⟩ : AllD D false [10, 14, 15] := ideal_sub hs (by decide +kernel)
      simp only [d10, d14, d15, h0, cond_true, cond_false]
      refine Run.go rfl ?_
      refine Run.le ?_ hK
      simp only [d10, d14, d15, h0, Nat.reduceBEq, Bool.false_or, Bool.true_or, cond_true, cond_false]
      exact St.Le.mk' ⟨rfl, rfl, rfl, rfl, rfl, rfl, rfl, rfl, rfl, rfl, rfl, rfl, rfl, rfl, rfl, rfl, rfl, trivial⟩ ⟨rfl, rfl, trivial⟩
    · intro D hid h0 hp hs rest hK
      obtain ⟨d8, d9, -⟩ : AllD D true [8, 9] := ideal_sub hp (by decide +kernel)
      obtain ⟨d11, d14, d15, -⟩ : AllD D false [11, 14, 15] := ideal_sub hs (by decide +kernel)
      have d13 : D 13 = false := ideal_no (i := 13) (j := 11) hid (by decide +kernel) d11
      simp only [d8, d9, d11, d14, d15, d13, h0, cond_true, cond_false]
      refine Run.val rfl rfl rfl (ValOk.idxv rfl rfl rfl rfl rfl rfl (by omega) (by omega)) rfl ?_
      refine Run.le ?_ hK
      simp only [d8, d9, d11, d14, d15, d13, h0, Nat.reduceBEq, Bool.false_or, Bool.true_or, cond_true, cond_false]
      exact St.Le.mk' ⟨rfl, rfl, rfl, rfl, rfl, rfl, rfl, rfl, rfl, rfl, rfl, rfl, rfl, rfl, rfl, rfl, rfl, trivial⟩ ⟨rfl, rfl, trivial⟩
    · intro D hid h0 hp hs rest hK
      obtain ⟨d10, -⟩ : AllD D true [10] := ideal_sub hp (by decide +kernel)
      obtain ⟨d12, d13, d14, d15, -⟩ : AllD D false [12, 13, 14, 15] := ideal_sub hs (by decide +kernel)
      simp only [d10, d12, d13, d14, d15, h0, cond_true, cond_false]
      refine Run.val rfl rfl rfl (ValOk.loadv (i64 (l.getD i 0)) rfl rfl rfl rfl hyi rfl) rfl ?_
      refine Run.le ?_ hK
      simp only [d10, d12, d13, d14, d15, h0, Nat.reduceBEq, Bool.false_or, Bool.true_or, cond_true, cond_false]
      exact St.Le.mk' ⟨rfl, rfl, rfl, rfl, rfl, rfl, rfl, rfl, rfl, rfl, rfl, rfl, rfl, rfl, rfl, rfl, rfl, trivial⟩ ⟨rfl, rfl, trivial⟩
    · intro D hid h0 hp hs rest hK
      obtain ⟨d0, d1, d4, d5, d6, d7, d11, -⟩ : AllD D true [0, 1, 4, 5, 6, 7, 11] := ideal_sub hp (by decide +kernel)
      obtain ⟨d13, d14, d15, -⟩ : AllD D false [13, 14, 15] := ideal_sub hs (by decide +kernel)
      simp only [d0, d1, d4, d5, d6, d7, d11, d13, d14, d15, h0, cond_true, cond_false]
      refine Run.val rfl rfl rfl (ValOk.idxv rfl rfl rfl rfl rfl rfl (by omega) (by omega)) rfl ?_
      refine Run.le ?_ hK
      simp only [d0, d1, d4, d5, d6, d7, d11, d13, d14, d15, h0, Nat.reduceBEq, Bool.false_or, Bool.true_or, cond_true, cond_false]
      exact St.Le.mk' ⟨rfl, rfl, rfl, rfl, rfl, rfl, rfl, rfl, rfl, rfl, rfl, rfl, rfl, rfl, rfl, rfl, rfl, trivial⟩ ⟨rfl, rfl, trivial⟩
    · intro D hid h0 hp hs rest hK
      obtain ⟨d0, d1, d4, d5, d6, d7, d11, d12, -⟩ : AllD D true [0, 1, 4, 5, 6, 7, 11, 12] := ideal_sub hp (by decide +kernel)
      obtain ⟨d14, d15, -⟩ : AllD D false [14, 15] := ideal_sub hs (by decide +kernel)
      simp only [d0, d1, d4, d5, d6, d7, d11, d12, d14, d15, h0, cond_true, cond_false]
      refine Run.storee (i64 (l.getD i 0)) (i64 (l.getD j 0)) rfl rfl rfl rfl rfl rfl rfl hyi rfl rfl rfl ?_
      refine Run.le ?_ hK
      simp only [d0, d1, d4, d5, d6, d7, d11, d12, d14, d15, h0, Nat.reduceBEq, Bool.false_or, Bool.true_or, cond_true, cond_false]
      exact St.Le.mk' ⟨rfl, rfl, rfl, rfl, rfl, rfl, rfl, rfl, rfl, rfl, rfl, rfl, rfl, rfl, rfl, rfl, rfl, trivial⟩ ⟨rfl, rfl, trivial⟩
    · intro D hid h0 hp hs rest hK
      obtain ⟨d0, d1, d2, d3, d4, d5, d6, d7, d8, d9, d10, d11, d12, d13, -⟩ : AllD D true [0, 1, 2, 3, 4, 5, 6, 7, 8, 9, 10, 11, 12, 13] := ideal_sub hp (by decide +kernel)
      obtain ⟨d15, -⟩ : AllD D false [15] := ideal_sub hs (by decide +kernel)
      simp only [d0, d1, d2, d3, d4, d5, d6, d7, d8, d9, d10, d11, d12, d13, d15, h0, cond_true, cond_false]
      refine Run.val rfl rfl rfl (ValOk.idxv rfl rfl rfl rfl rfl rfl (by omega) (by omega)) rfl ?_
      refine Run.le ?_ hK
      simp only [d0, d1, d2, d3, d4, d5, d6, d7, d8, d9, d10, d11, d12, d13, d15, h0, Nat.reduceBEq, Bool.false_or, Bool.true_or, cond_true, cond_false]
      exact St.Le.mk' ⟨rfl, rfl, rfl, rfl, rfl, rfl, rfl, rfl, rfl, rfl, rfl, rfl, rfl, rfl, rfl, rfl, rfl, trivial⟩ ⟨rfl, rfl, trivial⟩
    · intro D hid h0 hp hs rest hK
      obtain ⟨d0, d1, d2, d3, d4, d5, d6, d7, d8, d9, d10, d11, d12, d13, d14, -⟩ : AllD D true [0, 1, 2, 3, 4, 5, 6, 7, 8, 9, 10, 11, 12, 13, 14] := ideal_sub hp (by decide +kernel)
      simp only [d0, d1, d2, d3, d4, d5, d6, d7, d8, d9, d10, d11, d12, d13, d14, h0, cond_true, cond_false]
      refine Run.storee (i64 (l.getD j 0)) (i64 (l.getD i 0)) rfl rfl rfl rfl rfl rfl rfl hyj2 rfl rfl rfl ?_
      refine Run.le ?_ hK
      simp only [d0, d1, d2, d3, d4, d5, d6, d7, d8, d9, d10, d11, d12, d13, d14, h0, Nat.reduceBEq, Bool.false_or, Bool.true_or, cond_true, cond_false]
      exact St.Le.mk' ⟨rfl, rfl, rfl, rfl, rfl, rfl, rfl, rfl, rfl, rfl, rfl, rfl, rfl, rfl, rfl, rfl, rfl, trivial⟩ ⟨rfl, rfl, trivial⟩
    repeat (refine Run.go rfl ?_)
    refine Run.of IH1 ⟨rfl, ?_, ?_, trivial⟩ ⟨?_, rfl, trivial⟩
    · show i64 _ = _
      rw [wrap_i64 (by omega) (by omega)]
      rfl
    · show i64 _ = _
      rw [wrap_i64 (by omega) (by omega)]
      congr 1
      omega
    · show Ob.vec _ _ _ = _
      rw [List.map_set, List.map_set, Nat.zero_add, Nat.zero_add, Int.toNat_natCast, Int.toNat_natCast]
  · have h2 : l.length ≤ 2 * i + 1 := by have := of_decide_eq_false h; omega
    rw [rvI_end h2]
    repeat (refine Run.go rfl ?_)
    exact Run.finG hg rfl rfl rfl rfl rfl rfl
end Go.Proofs.Ytcfkdcjindhnjaa
