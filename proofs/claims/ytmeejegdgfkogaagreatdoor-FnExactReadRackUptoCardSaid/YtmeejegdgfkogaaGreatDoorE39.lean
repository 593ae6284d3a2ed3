/- Contracts of the program's functions, and what follows from them. -/
import Derived.Test.YtmeejegdgfkogaaGreatDoorE38
set_option linter.unusedVariables false
set_option maxRecDepth 100000
set_option linter.unusedSimpArgs false
namespace Go.Proofs.YtmeejegdgfkogaaGreatDoor
open Go Go.Av

/-! Books out of their texts: the reference. -/

theorem l1n_nn (s : List UInt8) : 0 ≤ (l1n s).1 := by
  unfold l1n
  split
  · split
    · simp only; omega
    · exact Int.le_refl _
  · exact Int.le_refl _

noncomputable def X12 : Fx := ⟨Tryz.prog, tys, 12, Tryz.f12, [0]⟩
theorem X12_ok : X12.Ok := ⟨Tryz.func12, tys_ok⟩
theorem specReadBook_ct (s : List UInt8) (hlen : s.length ≤ 1048576) : Ct Tryz.prog 12 [str s] (.tup [bkA (rbS s).1, i64 (if (rbS s).2 then 0 else 5)]) [] := by
  have hsplit := l01Split_ct s 32 hlen
  have hwl := fun w (h : w ∈ spl 32 s) => spl_wlen h
  have hR : rbS s = rbS s := rfl
  conv at hR => rhs; unfold rbS
  simp only at hR
  generalize spl 32 s = W at hR hsplit hwl
  refine Ct.intro X12 X12_ok rfl (by kernel_rfl) rfl rfl fun g hg => ?_
  repeat (refine Run.go rfl ?_)
  refine Run.cs rfl hsplit rfl (rfS _) ?_
  iterate 2 (refine Run.go rfl ?_)
  refine Run.freeze 4 (v' := .ro 1 false (W.map str)) rfl rfl (by show AV.ro 1 false (AV.frzL _) = _; rw [frzS]) ?_
  iterate 2 (refine Run.go rfl ?_)
  refine Run.region ⟨[(2, .bp (2, 0) 0), (4, .ro 1 false (W.map str)), (24, bo (!(decide (W.length = 5 ∧ (W.getD 1 []).length = 3))))], [((2, 0), .box (bkA bk0).cells)]⟩ ?_ fun k' hN => ?_
  rotate_left
  · have fin : ∀ {v : Bool}, v = (!(decide (W.length = 5 ∧ (W.getD 1 []).length = 3))) → bo v = bo (!(decide (W.length = 5 ∧ (W.getD 1 []).length = 3))) := fun e => by rw [e]
    repeat (refine Run.go rfl ?_)
    refine Run.bool 18 rfl (fun h => ?_) (fun h => ?_)
    · have h5 : ¬ W.length = 5 := fun e => by
        have h : (!((((W.map str).length : Nat) : Int) == 5)) = true := h
        rw [List.length_map, e] at h
        cases h
      repeat (refine Run.go rfl ?_)
      exact Run.of hN ⟨rfl, rfl, fin (v := true) (by rw [decide_eq_false (fun h => h5 h.1)]; rfl), trivial⟩ ⟨rfl, trivial⟩
    · have h5 : W.length = 5 := by
        have h : (!((((W.map str).length : Nat) : Int) == 5)) = false := h
        rw [List.length_map] at h
        simp at h
        omega
      have hat : (W.map str)[((1 : Int)).toNat]? = some (str (W.getD 1 [])) := by rw [list5 h5]; rfl
      repeat (refine Run.go rfl ?_)
      refine Run.val rfl rfl rfl (ValOk.idx (str (W.getD 1 [])) rfl rfl rfl rfl rfl (by decide) hat) rfl ?_
      repeat (refine Run.go rfl ?_)
      refine Run.of hN ⟨rfl, rfl, fin (v := !((((⟨(W.getD 1 []).toArray⟩ : ByteArray).size : Nat) : Int) == 3)) ?_, trivial⟩ ⟨rfl, trivial⟩
      rw [bsz]
      congr 1
      rw [Bool.eq_iff_iff]
      simp only [beq_iff_eq, decide_eq_true_eq]
      omega
  refine Run.cond rfl (fun h => ?_) (fun h => ?_)
  · have h : ¬ (W.length = 5 ∧ (W.getD 1 []).length = 3) := by
      rw [Bool.not_eq_true'] at h
      exact of_decide_eq_false h
    rw [if_neg h] at hR
    rw [hR] at hg
    repeat (refine Run.go rfl ?_)
    refine Run.val rfl rfl rfl (ValOk.build rfl rfl rfl rfl rfl) rfl ?_
    repeat (refine Run.go rfl ?_)
    exact Run.ret (r := .tup [bkA bk0, i64 5]) hg (by kernel_rfl) rfl
  have h : W.length = 5 ∧ (W.getD 1 []).length = 3 := by
    rw [Bool.not_eq_false'] at h
    exact of_decide_eq_true h
  rw [if_pos h] at hR
  obtain ⟨w0, w1, w2, w3, w4, rfl⟩ : ∃ w0 w1 w2 w3 w4, W = [w0, w1, w2, w3, w4] := ⟨_, _, _, _, _, list5 h.1⟩
  simp only [List.getD_cons_succ, List.getD_cons_zero] at hR h
  obtain ⟨p, q, r, rfl⟩ : ∃ p q r, w1 = [p, q, r] := by
    match w1, h.2 with
    | [p, q, r], _ => exact ⟨p, q, r, rfl⟩
  have l0 := Nat.le_trans (hwl w0 (by simp)) hlen
  have l2 := Nat.le_trans (hwl w2 (by simp)) hlen
  have l3 := Nat.le_trans (hwl w3 (by simp)) hlen
  have l4 := Nat.le_trans (hwl w4 (by simp)) hlen
  have hsp2 := l01Split_ct w3 120 l3
  have hzl := fun w (h : w ∈ spl 120 w3) => spl_wlen h
  generalize spl 120 w3 = Z at hR hsp2 hzl
  repeat (refine Run.go rfl ?_)
  refine Run.val rfl rfl rfl (ValOk.idx (str w3) rfl rfl rfl rfl rfl (by decide) rfl) rfl ?_
  repeat (refine Run.go rfl ?_)
  refine Run.cs rfl hsp2 rfl (rfS _) ?_
  iterate 2 (refine Run.go rfl ?_)
  refine Run.freeze 5 (v' := .ro 1 false (Z.map str)) rfl rfl (by show AV.ro 1 false (AV.frzL _) = _; rw [frzS]) ?_
  repeat (refine Run.go rfl ?_)
  refine Run.cond rfl (fun h2 => ?_) (fun h2 => ?_)
  · have h2 : ¬ Z.length = 2 := fun e => by
      have h2 : (!((((Z.map str).length : Nat) : Int) == 2)) = true := h2
      rw [List.length_map, e] at h2
      cases h2
    rw [if_neg h2] at hR
    rw [hR] at hg
    repeat (refine Run.go rfl ?_)
    refine Run.val rfl rfl rfl (ValOk.build rfl rfl rfl rfl rfl) rfl ?_
    repeat (refine Run.go rfl ?_)
    exact Run.ret (r := .tup [bkA bk0, i64 5]) hg (by kernel_rfl) rfl
  have h2 : Z.length = 2 := by
    have h2 : (!((((Z.map str).length : Nat) : Int) == 2)) = false := h2
    rw [List.length_map] at h2
    simp at h2
    omega
  rw [if_pos h2] at hR
  obtain ⟨z0, z1, rfl⟩ : ∃ z0 z1, Z = [z0, z1] := ⟨_, _, list2 h2⟩
  simp only [List.getD_cons_succ, List.getD_cons_zero, List.all_cons, List.all_nil, Bool.and_true] at hR
  have lz0 := Nat.le_trans (hzl z0 (by simp)) l3
  have lz1 := Nat.le_trans (hzl z1 (by simp)) l3
  clear h h2 hwl hzl hsplit hsp2
  repeat (refine Run.go rfl ?_)
  refine Run.drawI (fun D => ⟨[(2, .bp (2, 0) 0), (4, .ro 1 false ([w0, [p, q, r], w2, w3, w4].map str)), (5, .ro 1 false ([z0, z1].map str)), (34, bif D 0 then .ro 1 false ([w0, [p, q, r], w2, w3, w4].map str) else .top), (35, bif D 1 then .rp (str w0).cells 0 else .top), (36, bif D 2 then str w0 else .top), (37, bif D 3 then .ro 1 false ([w0, [p, q, r], w2, w3, w4].map str) else .top), (38, bif D 4 then .rp (str w2).cells 0 else .top), (39, bif D 5 then str w2 else .top), (40, bif D 6 then .ro 1 false ([z0, z1].map str) else .top), (41, bif D 7 then .rp (str z0).cells 0 else .top), (42, bif D 8 then str z0 else .top), (43, bif D 9 then .ro 1 false ([z0, z1].map str) else .top), (44, bif D 10 then .rp (str z1).cells 0 else .top), (45, bif D 11 then str z1 else .top), (46, bif D 12 then .ro 1 false ([w0, [p, q, r], w2, w3, w4].map str) else .top), (47, bif D 13 then .rp (str w4).cells 0 else .top), (48, bif D 14 then str w4 else .top), (49, bif D 15 then .agg [str w0, str w2, str z0, str z1, str w4] else .top), (6, bif D 16 then .bp (6, 0) 0 else .top)], [((2, 0), .box (bkA bk0).cells), ((6, 0), (bif D 17 then .box [str w0, str w2, str z0, str z1, str w4] else (bif D 16 then .box [str [], str [], str [], str [], str []] else .gone)))]⟩) (by decide +kernel) (by decide +kernel) ?_ ?_ fun k' => ⟨?_, ?_, ?_, ?_, ?_, ?_, ?_, ?_, ?_, ?_, ?_, ?_, ?_, ?_, ?_, ?_, ?_, ?_, trivial⟩
  · exact St.Le.mk' ⟨rfl, rfl, rfl, rfl, rfl, rfl, rfl, rfl, rfl, rfl, rfl, rfl, rfl, rfl, rfl, rfl, rfl, rfl, rfl, rfl, trivial⟩ ⟨rfl, rfl, trivial⟩
  rotate_left
  · intro D hid h0 hp hs rest hK
    obtain ⟨d1, d17, -⟩ : AllD D false [1, 17] := ideal_sub hs (by decide +kernel)
    simp only [d1, d17, h0, cond_true, cond_false]
    refine Run.go rfl ?_
    refine Run.le ?_ hK
    simp only [d1, d17, h0, Nat.reduceBEq, Bool.false_or, Bool.true_or, cond_true, cond_false]
    exact St.Le.mk' ⟨rfl, rfl, rfl, rfl, rfl, rfl, rfl, rfl, rfl, rfl, rfl, rfl, rfl, rfl, rfl, rfl, rfl, rfl, rfl, rfl, trivial⟩ ⟨rfl, rfl, trivial⟩
  · intro D hid h0 hp hs rest hK
    obtain ⟨d0, -⟩ : AllD D true [0] := ideal_sub hp (by decide +kernel)
    obtain ⟨d2, d17, -⟩ : AllD D false [2, 17] := ideal_sub hs (by decide +kernel)
    simp only [d0, d2, d17, h0, cond_true, cond_false]
    refine Run.val rfl rfl rfl (ValOk.idx (str w0) rfl rfl rfl rfl rfl (by decide) rfl) rfl ?_
    refine Run.le ?_ hK
    simp only [d0, d2, d17, h0, Nat.reduceBEq, Bool.false_or, Bool.true_or, cond_true, cond_false]
    exact St.Le.mk' ⟨rfl, rfl, rfl, rfl, rfl, rfl, rfl, rfl, rfl, rfl, rfl, rfl, rfl, rfl, rfl, rfl, rfl, rfl, rfl, rfl, trivial⟩ ⟨rfl, rfl, trivial⟩
  · intro D hid h0 hp hs rest hK
    obtain ⟨d1, -⟩ : AllD D true [1] := ideal_sub hp (by decide +kernel)
    obtain ⟨d15, d17, -⟩ : AllD D false [15, 17] := ideal_sub hs (by decide +kernel)
    simp only [d1, d15, d17, h0, cond_true, cond_false]
    refine Run.go rfl ?_
    refine Run.le ?_ hK
    simp only [d1, d15, d17, h0, Nat.reduceBEq, Bool.false_or, Bool.true_or, cond_true, cond_false]
    exact St.Le.mk' ⟨rfl, rfl, rfl, rfl, rfl, rfl, rfl, rfl, rfl, rfl, rfl, rfl, rfl, rfl, rfl, rfl, rfl, rfl, rfl, rfl, trivial⟩ ⟨rfl, rfl, trivial⟩
  · intro D hid h0 hp hs rest hK
    obtain ⟨d4, d17, -⟩ : AllD D false [4, 17] := ideal_sub hs (by decide +kernel)
    simp only [d4, d17, h0, cond_true, cond_false]
    refine Run.go rfl ?_
    refine Run.le ?_ hK
    simp only [d4, d17, h0, Nat.reduceBEq, Bool.false_or, Bool.true_or, cond_true, cond_false]
    exact St.Le.mk' ⟨rfl, rfl, rfl, rfl, rfl, rfl, rfl, rfl, rfl, rfl, rfl, rfl, rfl, rfl, rfl, rfl, rfl, rfl, rfl, rfl, trivial⟩ ⟨rfl, rfl, trivial⟩
  · intro D hid h0 hp hs rest hK
    obtain ⟨d3, -⟩ : AllD D true [3] := ideal_sub hp (by decide +kernel)
    obtain ⟨d5, d17, -⟩ : AllD D false [5, 17] := ideal_sub hs (by decide +kernel)
    simp only [d3, d5, d17, h0, cond_true, cond_false]
    refine Run.val rfl rfl rfl (ValOk.idx (str w2) rfl rfl rfl rfl rfl (by decide) rfl) rfl ?_
    refine Run.le ?_ hK
    simp only [d3, d5, d17, h0, Nat.reduceBEq, Bool.false_or, Bool.true_or, cond_true, cond_false]
    exact St.Le.mk' ⟨rfl, rfl, rfl, rfl, rfl, rfl, rfl, rfl, rfl, rfl, rfl, rfl, rfl, rfl, rfl, rfl, rfl, rfl, rfl, rfl, trivial⟩ ⟨rfl, rfl, trivial⟩
  · intro D hid h0 hp hs rest hK
    obtain ⟨d4, -⟩ : AllD D true [4] := ideal_sub hp (by decide +kernel)
    obtain ⟨d15, d17, -⟩ : AllD D false [15, 17] := ideal_sub hs (by decide +kernel)
    simp only [d4, d15, d17, h0, cond_true, cond_false]
    refine Run.go rfl ?_
    refine Run.le ?_ hK
    simp only [d4, d15, d17, h0, Nat.reduceBEq, Bool.false_or, Bool.true_or, cond_true, cond_false]
    exact St.Le.mk' ⟨rfl, rfl, rfl, rfl, rfl, rfl, rfl, rfl, rfl, rfl, rfl, rfl, rfl, rfl, rfl, rfl, rfl, rfl, rfl, rfl, trivial⟩ ⟨rfl, rfl, trivial⟩
  · intro D hid h0 hp hs rest hK
    obtain ⟨d7, d17, -⟩ : AllD D false [7, 17] := ideal_sub hs (by decide +kernel)
    simp only [d7, d17, h0, cond_true, cond_false]
    refine Run.go rfl ?_
    refine Run.le ?_ hK
    simp only [d7, d17, h0, Nat.reduceBEq, Bool.false_or, Bool.true_or, cond_true, cond_false]
    exact St.Le.mk' ⟨rfl, rfl, rfl, rfl, rfl, rfl, rfl, rfl, rfl, rfl, rfl, rfl, rfl, rfl, rfl, rfl, rfl, rfl, rfl, rfl, trivial⟩ ⟨rfl, rfl, trivial⟩
  · intro D hid h0 hp hs rest hK
    obtain ⟨d6, -⟩ : AllD D true [6] := ideal_sub hp (by decide +kernel)
    obtain ⟨d8, d17, -⟩ : AllD D false [8, 17] := ideal_sub hs (by decide +kernel)
    simp only [d6, d8, d17, h0, cond_true, cond_false]
    refine Run.val rfl rfl rfl (ValOk.idx (str z0) rfl rfl rfl rfl rfl (by decide) rfl) rfl ?_
    refine Run.le ?_ hK
    simp only [d6, d8, d17, h0, Nat.reduceBEq, Bool.false_or, Bool.true_or, cond_true, cond_false]
    exact St.Le.mk' ⟨rfl, rfl, rfl, rfl, rfl, rfl, rfl, rfl, rfl, rfl, rfl, rfl, rfl, rfl, rfl, rfl, rfl, rfl, rfl, rfl, trivial⟩ ⟨rfl, rfl, trivial⟩
  · intro D hid h0 hp hs rest hK
    obtain ⟨d7, -⟩ : AllD D true [7] := ideal_sub hp (by decide +kernel)
    obtain ⟨d15, d17, -⟩ : AllD D false [15, 17] := ideal_sub hs (by decide +kernel)
    simp only [d7, d15, d17, h0, cond_true, cond_false]
    refine Run.go rfl ?_
    refine Run.le ?_ hK
    simp only [d7, d15, d17, h0, Nat.reduceBEq, Bool.false_or, Bool.true_or, cond_true, cond_false]
    exact St.Le.mk' ⟨rfl, rfl, rfl, rfl, rfl, rfl, rfl, rfl, rfl, rfl, rfl, rfl, rfl, rfl, rfl, rfl, rfl, rfl, rfl, rfl, trivial⟩ ⟨rfl, rfl, trivial⟩
  · intro D hid h0 hp hs rest hK
    obtain ⟨d10, d17, -⟩ : AllD D false [10, 17] := ideal_sub hs (by decide +kernel)
    simp only [d10, d17, h0, cond_true, cond_false]
    refine Run.go rfl ?_
    refine Run.le ?_ hK
    simp only [d10, d17, h0, Nat.reduceBEq, Bool.false_or, Bool.true_or, cond_true, cond_false]
    exact St.Le.mk' ⟨rfl, rfl, rfl, rfl, rfl, rfl, rfl, rfl, rfl, rfl, rfl, rfl, rfl, rfl, rfl, rfl, rfl, rfl, rfl, rfl, trivial⟩ ⟨rfl, rfl, trivial⟩
  · intro D hid h0 hp hs rest hK
    obtain ⟨d9, -⟩ : AllD D true [9] := ideal_sub hp (by decide +kernel)
    obtain ⟨d11, d17, -⟩ : AllD D false [11, 17] := ideal_sub hs (by decide +kernel)
    simp only [d9, d11, d17, h0, cond_true, cond_false]
    refine Run.val rfl rfl rfl (ValOk.idx (str z1) rfl rfl rfl rfl rfl (by decide) rfl) rfl ?_
    refine Run.le ?_ hK
    simp only [d9, d11, d17, h0, Nat.reduceBEq, Bool.false_or, Bool.true_or, cond_true, cond_false]
    exact St.Le.mk' ⟨rfl, rfl, rfl, rfl, rfl, rfl, rfl, rfl, rfl, rfl, rfl, rfl, rfl, rfl, rfl, rfl, rfl, rfl, rfl, rfl, trivial⟩ ⟨rfl, rfl, trivial⟩
  · intro D hid h0 hp hs rest hK
    obtain ⟨d10, -⟩ : AllD D true [10] := ideal_sub hp (by decide +kernel)
    obtain ⟨d15, d17, -⟩ : AllD D false [15, 17] := ideal_sub hs (by decide +kernel)
    simp only [d10, d15, d17, h0, cond_true, cond_false]
    refine Run.go rfl ?_
    refine Run.le ?_ hK
    simp only [d10, d15, d17, h0, Nat.reduceBEq, Bool.false_or, Bool.true_or, cond_true, cond_false]
    exact St.Le.mk' ⟨rfl, rfl, rfl, rfl, rfl, rfl, rfl, rfl, rfl, rfl, rfl, rfl, rfl, rfl, rfl, rfl, rfl, rfl, rfl, rfl, trivial⟩ ⟨rfl, rfl, trivial⟩
  · intro D hid h0 hp hs rest hK
    obtain ⟨d13, d17, -⟩ : AllD D false [13, 17] := ideal_sub hs (by decide +kernel)
    simp only [d13, d17, h0, cond_true, cond_false]
    refine Run.go rfl ?_
    refine Run.le ?_ hK
    simp only [d13, d17, h0, Nat.reduceBEq, Bool.false_or, Bool.true_or, cond_true, cond_false]
    exact St.Le.mk' ⟨rfl, rfl, rfl, rfl, rfl, rfl, rfl, rfl, rfl, rfl, rfl, rfl, rfl, rfl, rfl, rfl, rfl, rfl, rfl, rfl, trivial⟩ ⟨rfl, rfl, trivial⟩
  · intro D hid h0 hp hs rest hK
    obtain ⟨d12, -⟩ : AllD D true [12] := ideal_sub hp (by decide +kernel)
    obtain ⟨d14, d17, -⟩ : AllD D false [14, 17] := ideal_sub hs (by decide +kernel)
    simp only [d12, d14, d17, h0, cond_true, cond_false]
    refine Run.val rfl rfl rfl (ValOk.idx (str w4) rfl rfl rfl rfl rfl (by decide) rfl) rfl ?_
    refine Run.le ?_ hK
    simp only [d12, d14, d17, h0, Nat.reduceBEq, Bool.false_or, Bool.true_or, cond_true, cond_false]
    exact St.Le.mk' ⟨rfl, rfl, rfl, rfl, rfl, rfl, rfl, rfl, rfl, rfl, rfl, rfl, rfl, rfl, rfl, rfl, rfl, rfl, rfl, rfl, trivial⟩ ⟨rfl, rfl, trivial⟩
  · intro D hid h0 hp hs rest hK
    obtain ⟨d13, -⟩ : AllD D true [13] := ideal_sub hp (by decide +kernel)
    obtain ⟨d15, d17, -⟩ : AllD D false [15, 17] := ideal_sub hs (by decide +kernel)
    simp only [d13, d15, d17, h0, cond_true, cond_false]
    refine Run.go rfl ?_
    refine Run.le ?_ hK
    simp only [d13, d15, d17, h0, Nat.reduceBEq, Bool.false_or, Bool.true_or, cond_true, cond_false]
    exact St.Le.mk' ⟨rfl, rfl, rfl, rfl, rfl, rfl, rfl, rfl, rfl, rfl, rfl, rfl, rfl, rfl, rfl, rfl, rfl, rfl, rfl, rfl, trivial⟩ ⟨rfl, rfl, trivial⟩
  · intro D hid h0 hp hs rest hK
    obtain ⟨d2, d5, d8, d11, d14, -⟩ : AllD D true [2, 5, 8, 11, 14] := ideal_sub hp (by decide +kernel)
    obtain ⟨d17, -⟩ : AllD D false [17] := ideal_sub hs (by decide +kernel)
    simp only [d2, d5, d8, d11, d14, d17, h0, cond_true, cond_false]
    refine Run.val rfl rfl rfl (ValOk.buildArr (cs := [str w0, str w2, str z0, str z1, str w4]) rfl rfl rfl rfl (by kernel_rfl)) rfl ?_
    refine Run.le ?_ hK
    simp only [d2, d5, d8, d11, d14, d17, h0, Nat.reduceBEq, Bool.false_or, Bool.true_or, cond_true, cond_false]
    exact St.Le.mk' ⟨rfl, rfl, rfl, rfl, rfl, rfl, rfl, rfl, rfl, rfl, rfl, rfl, rfl, rfl, rfl, rfl, rfl, rfl, rfl, rfl, trivial⟩ ⟨rfl, rfl, trivial⟩
  · intro D hid h0 hp hs rest hK
    obtain ⟨d17, -⟩ : AllD D false [17] := ideal_sub hs (by decide +kernel)
    simp only [d17, h0, cond_true, cond_false]
    refine Run.alloc rfl rfl rfl rfl rfl rfl (by
        simp only [St.nrf, List.all_cons, List.all_nil, Bool.and_eq_true, Bool.and_true]
        repeat' apply And.intro
        all_goals (repeat' (first | rfl | refine nrf_bif ?_ ?_ | refine nrfO_bif ?_ ?_))) rfl ?_
    refine Run.le ?_ hK
    simp only [d17, h0, Nat.reduceBEq, Bool.false_or, Bool.true_or, cond_true, cond_false]
    exact St.Le.mk' ⟨rfl, rfl, rfl, rfl, rfl, rfl, rfl, rfl, rfl, rfl, rfl, rfl, rfl, rfl, rfl, rfl, rfl, rfl, rfl, rfl, trivial⟩ ⟨rfl, rfl, trivial⟩
  · intro D hid h0 hp hs rest hK
    obtain ⟨d0, d1, d2, d3, d4, d5, d6, d7, d8, d9, d10, d11, d12, d13, d14, d15, d16, -⟩ : AllD D true [0, 1, 2, 3, 4, 5, 6, 7, 8, 9, 10, 11, 12, 13, 14, 15, 16] := ideal_sub hp (by decide +kernel)
    simp only [d0, d1, d2, d3, d4, d5, d6, d7, d8, d9, d10, d11, d12, d13, d14, d15, d16, h0, cond_true, cond_false]
    refine Run.go rfl ?_
    refine Run.le ?_ hK
    simp only [d0, d1, d2, d3, d4, d5, d6, d7, d8, d9, d10, d11, d12, d13, d14, d15, d16, h0, Nat.reduceBEq, Bool.false_or, Bool.true_or, cond_true, cond_false]
    exact St.Le.mk' ⟨rfl, rfl, rfl, rfl, rfl, rfl, rfl, rfl, rfl, rfl, rfl, rfl, rfl, rfl, rfl, rfl, rfl, rfl, rfl, rfl, trivial⟩ ⟨rfl, rfl, trivial⟩
  repeat (refine Run.go rfl ?_)
  refine Run.val rfl rfl rfl (ValOk.buildArr (cs := [i64 0, i64 0, i64 0, i64 0, i64 0]) rfl rfl rfl rfl (by kernel_rfl)) rfl ?_
  repeat (refine Run.go rfl ?_)
  have c0 := l01Number_ct w0 l0
  have g0 := l1n_nn w0
  have e0 : okN w0 = ((l1n w0).2 && decide ((l1n w0).1 ≤ 9999)) := rfl
  generalize (l1n w0).2 = o0 at c0 e0
  generalize hn0 : (l1n w0).1 = n0 at c0 e0 g0
  have c1 := l01Number_ct w2 l2
  have g1 := l1n_nn w2
  have e1 : okN w2 = ((l1n w2).2 && decide ((l1n w2).1 ≤ 9999)) := rfl
  generalize (l1n w2).2 = o1 at c1 e1
  generalize hn1 : (l1n w2).1 = n1 at c1 e1 g1
  have c2 := l01Number_ct z0 lz0
  have g2 := l1n_nn z0
  have e2 : okN z0 = ((l1n z0).2 && decide ((l1n z0).1 ≤ 9999)) := rfl
  generalize (l1n z0).2 = o2 at c2 e2
  generalize hn2 : (l1n z0).1 = n2 at c2 e2 g2
  have c3 := l01Number_ct z1 lz1
  have g3 := l1n_nn z1
  have e3 : okN z1 = ((l1n z1).2 && decide ((l1n z1).1 ≤ 9999)) := rfl
  generalize (l1n z1).2 = o3 at c3 e3
  generalize hn3 : (l1n z1).1 = n3 at c3 e3 g3
  have c4 := l01Number_ct w4 l4
  have g4 := l1n_nn w4
  have e4 : okN w4 = ((l1n w4).2 && decide ((l1n w4).1 ≤ 9999)) := rfl
  generalize (l1n w4).2 = o4 at c4 e4
  generalize hn4 : (l1n w4).1 = n4 at c4 e4 g4
  refine Run.code_loop ?_
  refine Run.le (st' := ⟨[(2, .bp (2, 0) 0), (4, .ro 1 false ([w0, [p, q, r], w2, w3, w4].map str)), (6, .bp (6, 0) 0), (7, .bp (7, 0) 0), (8, i64 0)], [((2, 0), .box (bkA bk0).cells), ((6, 0), .box [str w0, str w2, str z0, str z1, str w4]), ((7, 0), .box [i64 0, i64 0, i64 0, i64 0, i64 0])]⟩) (St.Le.mk' ⟨rfl, rfl, rfl, rfl, rfl, trivial⟩ ⟨rfl, rfl, rfl, trivial⟩) ?_
  repeat (refine Run.go rfl ?_)
  refine Run.cond rfl (fun h => ?_) (fun h => by simp at h)
  clear h
  repeat (refine Run.go rfl ?_)
  refine Run.cs rfl c0 rfl rfl ?_
  repeat (refine Run.go rfl ?_)
  have bad : okN w0 = false → rbS s = (bk0, false) := fun h => by rw [hR, h]; simp
  cases o0 with
  | false =>
    rw [bad (by rw [e0]; rfl)] at hg
    repeat (refine Run.go rfl ?_)
    refine Run.cond rfl (fun h => ?_) (fun h => by cases h)
    repeat (refine Run.go rfl ?_)
    refine Run.val rfl rfl rfl (ValOk.build rfl rfl rfl rfl rfl) rfl ?_
    repeat (refine Run.go rfl ?_)
    exact Run.ret (r := .tup [bkA bk0, i64 5]) hg (by kernel_rfl) rfl
  | true =>
  repeat (refine Run.go rfl ?_)
  refine Run.cond rfl (fun h => ?_) (fun h => ?_)
  · have h : ¬ n0 ≤ 9999 := by simpa using h
    rw [bad (by rw [e0, decide_eq_false h]; rfl)] at hg
    repeat (refine Run.go rfl ?_)
    refine Run.val rfl rfl rfl (ValOk.build rfl rfl rfl rfl rfl) rfl ?_
    repeat (refine Run.go rfl ?_)
    exact Run.ret (r := .tup [bkA bk0, i64 5]) hg (by kernel_rfl) rfl
  have b0 : n0 ≤ 9999 := by simpa using h
  clear h bad
  rw [decide_eq_true b0] at e0
  repeat (refine Run.go rfl ?_)
  refine Run.inLoop ?_
  refine Run.le (st' := ⟨[(2, .bp (2, 0) 0), (4, .ro 1 false ([w0, [p, q, r], w2, w3, w4].map str)), (6, .bp (6, 0) 0), (7, .bp (7, 0) 0), (8, i64 1)], [((2, 0), .box (bkA bk0).cells), ((6, 0), .box [str w0, str w2, str z0, str z1, str w4]), ((7, 0), .box [i64 n0, i64 0, i64 0, i64 0, i64 0])]⟩) (St.Le.mk' ⟨rfl, rfl, rfl, rfl, rfl, trivial⟩ ⟨rfl, rfl, rfl, trivial⟩) ?_
  repeat (refine Run.go rfl ?_)
  refine Run.cond rfl (fun h => ?_) (fun h => by simp at h)
  clear h
  repeat (refine Run.go rfl ?_)
  refine Run.cs rfl c1 rfl rfl ?_
  repeat (refine Run.go rfl ?_)
  have bad : okN w2 = false → rbS s = (bk0, false) := fun h => by rw [hR, h]; simp
  cases o1 with
  | false =>
    rw [bad (by rw [e1]; rfl)] at hg
    repeat (refine Run.go rfl ?_)
    refine Run.cond rfl (fun h => ?_) (fun h => by cases h)
    repeat (refine Run.go rfl ?_)
    refine Run.val rfl rfl rfl (ValOk.build rfl rfl rfl rfl rfl) rfl ?_
    repeat (refine Run.go rfl ?_)
    exact Run.ret (r := .tup [bkA bk0, i64 5]) hg (by kernel_rfl) rfl
  | true =>
  repeat (refine Run.go rfl ?_)
  refine Run.cond rfl (fun h => ?_) (fun h => ?_)
  · have h : ¬ n1 ≤ 9999 := by simpa using h
    rw [bad (by rw [e1, decide_eq_false h]; rfl)] at hg
    repeat (refine Run.go rfl ?_)
    refine Run.val rfl rfl rfl (ValOk.build rfl rfl rfl rfl rfl) rfl ?_
    repeat (refine Run.go rfl ?_)
    exact Run.ret (r := .tup [bkA bk0, i64 5]) hg (by kernel_rfl) rfl
  have b1 : n1 ≤ 9999 := by simpa using h
  clear h bad
  rw [decide_eq_true b1] at e1
  repeat (refine Run.go rfl ?_)
  refine Run.inLoop ?_
  refine Run.le (st' := ⟨[(2, .bp (2, 0) 0), (4, .ro 1 false ([w0, [p, q, r], w2, w3, w4].map str)), (6, .bp (6, 0) 0), (7, .bp (7, 0) 0), (8, i64 2)], [((2, 0), .box (bkA bk0).cells), ((6, 0), .box [str w0, str w2, str z0, str z1, str w4]), ((7, 0), .box [i64 n0, i64 n1, i64 0, i64 0, i64 0])]⟩) (St.Le.mk' ⟨rfl, rfl, rfl, rfl, rfl, trivial⟩ ⟨rfl, rfl, rfl, trivial⟩) ?_
  repeat (refine Run.go rfl ?_)
  refine Run.cond rfl (fun h => ?_) (fun h => by simp at h)
  clear h
  repeat (refine Run.go rfl ?_)
  refine Run.cs rfl c2 rfl rfl ?_
  repeat (refine Run.go rfl ?_)
  have bad : okN z0 = false → rbS s = (bk0, false) := fun h => by rw [hR, h]; simp
  cases o2 with
  | false =>
    rw [bad (by rw [e2]; rfl)] at hg
    repeat (refine Run.go rfl ?_)
    refine Run.cond rfl (fun h => ?_) (fun h => by cases h)
    repeat (refine Run.go rfl ?_)
    refine Run.val rfl rfl rfl (ValOk.build rfl rfl rfl rfl rfl) rfl ?_
    repeat (refine Run.go rfl ?_)
    exact Run.ret (r := .tup [bkA bk0, i64 5]) hg (by kernel_rfl) rfl
  | true =>
  repeat (refine Run.go rfl ?_)
  refine Run.cond rfl (fun h => ?_) (fun h => ?_)
  · have h : ¬ n2 ≤ 9999 := by simpa using h
    rw [bad (by rw [e2, decide_eq_false h]; rfl)] at hg
    repeat (refine Run.go rfl ?_)
    refine Run.val rfl rfl rfl (ValOk.build rfl rfl rfl rfl rfl) rfl ?_
    repeat (refine Run.go rfl ?_)
    exact Run.ret (r := .tup [bkA bk0, i64 5]) hg (by kernel_rfl) rfl
  have b2 : n2 ≤ 9999 := by simpa using h
  clear h bad
  rw [decide_eq_true b2] at e2
  repeat (refine Run.go rfl ?_)
  refine Run.inLoop ?_
  refine Run.le (st' := ⟨[(2, .bp (2, 0) 0), (4, .ro 1 false ([w0, [p, q, r], w2, w3, w4].map str)), (6, .bp (6, 0) 0), (7, .bp (7, 0) 0), (8, i64 3)], [((2, 0), .box (bkA bk0).cells), ((6, 0), .box [str w0, str w2, str z0, str z1, str w4]), ((7, 0), .box [i64 n0, i64 n1, i64 n2, i64 0, i64 0])]⟩) (St.Le.mk' ⟨rfl, rfl, rfl, rfl, rfl, trivial⟩ ⟨rfl, rfl, rfl, trivial⟩) ?_
  repeat (refine Run.go rfl ?_)
  refine Run.cond rfl (fun h => ?_) (fun h => by simp at h)
  clear h
  repeat (refine Run.go rfl ?_)
  refine Run.cs rfl c3 rfl rfl ?_
  repeat (refine Run.go rfl ?_)
  have bad : okN z1 = false → rbS s = (bk0, false) := fun h => by rw [hR, h]; simp
  cases o3 with
  | false =>
    rw [bad (by rw [e3]; rfl)] at hg
    repeat (refine Run.go rfl ?_)
    refine Run.cond rfl (fun h => ?_) (fun h => by cases h)
    repeat (refine Run.go rfl ?_)
    refine Run.val rfl rfl rfl (ValOk.build rfl rfl rfl rfl rfl) rfl ?_
    repeat (refine Run.go rfl ?_)
    exact Run.ret (r := .tup [bkA bk0, i64 5]) hg (by kernel_rfl) rfl
  | true =>
  repeat (refine Run.go rfl ?_)
  refine Run.cond rfl (fun h => ?_) (fun h => ?_)
  · have h : ¬ n3 ≤ 9999 := by simpa using h
    rw [bad (by rw [e3, decide_eq_false h]; rfl)] at hg
    repeat (refine Run.go rfl ?_)
    refine Run.val rfl rfl rfl (ValOk.build rfl rfl rfl rfl rfl) rfl ?_
    repeat (refine Run.go rfl ?_)
    exact Run.ret (r := .tup [bkA bk0, i64 5]) hg (by kernel_rfl) rfl
  have b3 : n3 ≤ 9999 := by simpa using h
  clear h bad
  rw [decide_eq_true b3] at e3
  repeat (refine Run.go rfl ?_)
  refine Run.inLoop ?_
  refine Run.le (st' := ⟨[(2, .bp (2, 0) 0), (4, .ro 1 false ([w0, [p, q, r], w2, w3, w4].map str)), (6, .bp (6, 0) 0), (7, .bp (7, 0) 0), (8, i64 4)], [((2, 0), .box (bkA bk0).cells), ((6, 0), .box [str w0, str w2, str z0, str z1, str w4]), ((7, 0), .box [i64 n0, i64 n1, i64 n2, i64 n3, i64 0])]⟩) (St.Le.mk' ⟨rfl, rfl, rfl, rfl, rfl, trivial⟩ ⟨rfl, rfl, rfl, trivial⟩) ?_
  repeat (refine Run.go rfl ?_)
  refine Run.cond rfl (fun h => ?_) (fun h => by simp at h)
  clear h
  repeat (refine Run.go rfl ?_)
  refine Run.cs rfl c4 rfl rfl ?_
  repeat (refine Run.go rfl ?_)
  have bad : okN w4 = false → rbS s = (bk0, false) := fun h => by rw [hR, h]; simp
  cases o4 with
  | false =>
    rw [bad (by rw [e4]; rfl)] at hg
    repeat (refine Run.go rfl ?_)
    refine Run.cond rfl (fun h => ?_) (fun h => by cases h)
    repeat (refine Run.go rfl ?_)
    refine Run.val rfl rfl rfl (ValOk.build rfl rfl rfl rfl rfl) rfl ?_
    repeat (refine Run.go rfl ?_)
    exact Run.ret (r := .tup [bkA bk0, i64 5]) hg (by kernel_rfl) rfl
  | true =>
  repeat (refine Run.go rfl ?_)
  refine Run.cond rfl (fun h => ?_) (fun h => ?_)
  · have h : ¬ n4 ≤ 9999 := by simpa using h
    rw [bad (by rw [e4, decide_eq_false h]; rfl)] at hg
    repeat (refine Run.go rfl ?_)
    refine Run.val rfl rfl rfl (ValOk.build rfl rfl rfl rfl rfl) rfl ?_
    repeat (refine Run.go rfl ?_)
    exact Run.ret (r := .tup [bkA bk0, i64 5]) hg (by kernel_rfl) rfl
  have b4 : n4 ≤ 9999 := by simpa using h
  clear h bad
  rw [decide_eq_true b4] at e4
  repeat (refine Run.go rfl ?_)
  refine Run.inLoop ?_
  refine Run.le (st' := ⟨[(2, .bp (2, 0) 0), (4, .ro 1 false ([w0, [p, q, r], w2, w3, w4].map str)), (6, .bp (6, 0) 0), (7, .bp (7, 0) 0), (8, i64 5)], [((2, 0), .box (bkA bk0).cells), ((6, 0), .box [str w0, str w2, str z0, str z1, str w4]), ((7, 0), .box [i64 n0, i64 n1, i64 n2, i64 n3, i64 n4])]⟩) (St.Le.mk' ⟨rfl, rfl, rfl, rfl, rfl, trivial⟩ ⟨rfl, rfl, rfl, trivial⟩) ?_
  repeat (refine Run.go rfl ?_)
  refine Run.cond rfl (fun h => by simp at h) (fun h => ?_)
  clear h
  have x0 : IntKind.i16.wrap n0 = n0 := wrap_i16 (by omega) (by omega)
  have x1 : IntKind.i16.wrap n1 = n1 := wrap_i16 (by omega) (by omega)
  have x2 : IntKind.i16.wrap n2 = n2 := wrap_i16 (by omega) (by omega)
  have x3 : IntKind.i16.wrap n3 = n3 := wrap_i16 (by omega) (by omega)
  have x4 : IntKind.i16.wrap n4 = n4 := wrap_i16 (by omega) (by omega)
  repeat (refine Run.go rfl ?_)
  refine Run.val rfl rfl rfl (ValOk.build (cs := [i16 (IntKind.i16.wrap n0), u8 0, u8 0, u8 0, i16 (IntKind.i16.wrap n1), i16 (IntKind.i16.wrap n2), i16 (IntKind.i16.wrap n3), i16 (IntKind.i16.wrap n4)]) rfl rfl rfl rfl (by kernel_rfl)) rfl ?_
  rw [x0, x1, x2, x3, x4]
  repeat (refine Run.go rfl ?_)
  refine Run.code_loop ?_
  refine Run.le (st' := ⟨[(2, .bp (2, 0) 0), (4, .ro 1 false ([w0, [p, q, r], w2, w3, w4].map str)), (11, .bp (11, 0) 0), (12, i64 0)], [((2, 0), .box (bkA bk0).cells), ((11, 0), .box [i16 n0, u8 0, u8 0, u8 0, i16 n1, i16 n2, i16 n3, i16 n4])]⟩) (St.Le.mk' ⟨rfl, rfl, rfl, rfl, trivial⟩ ⟨rfl, rfl, trivial⟩) ?_
  repeat (refine Run.go rfl ?_)
  refine Run.cond rfl (fun h => ?_) (fun h => by simp at h)
  clear h
  repeat (refine Run.go rfl ?_)
  refine Run.val rfl rfl rfl (ValOk.idx (str [p, q, r]) rfl rfl rfl rfl rfl (by decide) rfl) rfl ?_
  repeat (refine Run.go rfl ?_)
  refine Run.val rfl rfl rfl (ValOk.sidx [p, q, r] p rfl rfl rfl rfl rfl (by decide) rfl) rfl ?_
  repeat (refine Run.go rfl ?_)
  refine Run.inLoop ?_
  refine Run.le (st' := ⟨[(2, .bp (2, 0) 0), (4, .ro 1 false ([w0, [p, q, r], w2, w3, w4].map str)), (11, .bp (11, 0) 0), (12, i64 1)], [((2, 0), .box (bkA bk0).cells), ((11, 0), .box [i16 n0, u8 (p.toNat : Int), u8 0, u8 0, i16 n1, i16 n2, i16 n3, i16 n4])]⟩) (St.Le.mk' ⟨rfl, rfl, rfl, rfl, trivial⟩ ⟨rfl, rfl, trivial⟩) ?_
  repeat (refine Run.go rfl ?_)
  refine Run.cond rfl (fun h => ?_) (fun h => by simp at h)
  clear h
  repeat (refine Run.go rfl ?_)
  refine Run.val rfl rfl rfl (ValOk.idx (str [p, q, r]) rfl rfl rfl rfl rfl (by decide) rfl) rfl ?_
  repeat (refine Run.go rfl ?_)
  refine Run.val rfl rfl rfl (ValOk.sidx [p, q, r] q rfl rfl rfl rfl rfl (by decide) rfl) rfl ?_
  repeat (refine Run.go rfl ?_)
  refine Run.inLoop ?_
  refine Run.le (st' := ⟨[(2, .bp (2, 0) 0), (4, .ro 1 false ([w0, [p, q, r], w2, w3, w4].map str)), (11, .bp (11, 0) 0), (12, i64 2)], [((2, 0), .box (bkA bk0).cells), ((11, 0), .box [i16 n0, u8 (p.toNat : Int), u8 (q.toNat : Int), u8 0, i16 n1, i16 n2, i16 n3, i16 n4])]⟩) (St.Le.mk' ⟨rfl, rfl, rfl, rfl, trivial⟩ ⟨rfl, rfl, trivial⟩) ?_
  repeat (refine Run.go rfl ?_)
  refine Run.cond rfl (fun h => ?_) (fun h => by simp at h)
  clear h
  repeat (refine Run.go rfl ?_)
  refine Run.val rfl rfl rfl (ValOk.idx (str [p, q, r]) rfl rfl rfl rfl rfl (by decide) rfl) rfl ?_
  repeat (refine Run.go rfl ?_)
  refine Run.val rfl rfl rfl (ValOk.sidx [p, q, r] r rfl rfl rfl rfl rfl (by decide) rfl) rfl ?_
  repeat (refine Run.go rfl ?_)
  refine Run.inLoop ?_
  refine Run.le (st' := ⟨[(2, .bp (2, 0) 0), (4, .ro 1 false ([w0, [p, q, r], w2, w3, w4].map str)), (11, .bp (11, 0) 0), (12, i64 3)], [((2, 0), .box (bkA bk0).cells), ((11, 0), .box [i16 n0, u8 (p.toNat : Int), u8 (q.toNat : Int), u8 (r.toNat : Int), i16 n1, i16 n2, i16 n3, i16 n4])]⟩) (St.Le.mk' ⟨rfl, rfl, rfl, rfl, trivial⟩ ⟨rfl, rfl, trivial⟩) ?_
  repeat (refine Run.go rfl ?_)
  refine Run.cond rfl (fun h => by simp at h) (fun h => ?_)
  clear h
  rw [e0, e1, e2, e3, e4] at hR
  simp only [Bool.and_self, if_true] at hR
  obtain ⟨B, hB⟩ : ∃ B, B = mkB3 (fun w => (l1n w).1) w0 [p, q, r] w2 z0 z1 w4 := ⟨_, rfl⟩
  rw [← hB] at hR
  have hbk : bkA B = .agg [i16 n0, u8 (p.toNat : Int), u8 (q.toNat : Int), u8 (r.toNat : Int), i16 n1, i16 n2, i16 n3, i16 n4] := by
    rw [hB, ← hn0, ← hn1, ← hn2, ← hn3, ← hn4]; rfl
  have hrng : bkRng B := by
    have hp := p.toNat_lt
    have hq := q.toNat_lt
    have hr := r.toNat_lt
    rw [hB]
    refine ⟨?_, ?_, ?_, ?_, ?_, ?_, ?_, ?_⟩
    · show i16r (l1n w0).1
      rw [hn0]; simp only [i16r]; omega
    · show u8r (p.toNat : Int)
      simp only [u8r]; omega
    · show u8r (q.toNat : Int)
      simp only [u8r]; omega
    · show u8r (r.toNat : Int)
      simp only [u8r]; omega
    · show i16r (l1n w2).1
      rw [hn1]; simp only [i16r]; omega
    · show i16r (l1n z0).1
      rw [hn2]; simp only [i16r]; omega
    · show i16r (l1n z1).1
      rw [hn3]; simp only [i16r]; omega
    · show i16r (l1n w4).1
      rw [hn4]; simp only [i16r]; omega
  have hok := l01Book_ct B hrng
  rw [hbk] at hok
  repeat (refine Run.go rfl ?_)
  refine Run.cs rfl hok rfl rfl ?_
  repeat (refine Run.go rfl ?_)
  refine Run.cond rfl (fun h => ?_) (fun h => ?_)
  · have h : ¬ vB B = true := by simpa using h
    rw [if_neg h] at hR
    rw [hR] at hg
    repeat (refine Run.go rfl ?_)
    refine Run.val rfl rfl rfl (ValOk.build rfl rfl rfl rfl rfl) rfl ?_
    repeat (refine Run.go rfl ?_)
    exact Run.ret (r := .tup [bkA bk0, i64 5]) hg (by kernel_rfl) rfl
  · have h : vB B = true := by simpa using h
    rw [if_pos h] at hR
    rw [hR] at hg
    repeat (refine Run.go rfl ?_)
    refine Run.ret (r := .tup [.agg [i16 n0, u8 (p.toNat : Int), u8 (q.toNat : Int), u8 (r.toNat : Int), i16 n1, i16 n2, i16 n3, i16 n4], i64 0]) hg (by kernel_rfl) ?_
    show _ = AV.tup [bkA B, i64 0]
    rw [hbk]
end Go.Proofs.YtmeejegdgfkogaaGreatDoor
