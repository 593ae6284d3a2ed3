/- Parts of a proof, in one text: E38, E39, E40, E41, E42, E44, E45, K14, K15, K16, K17, K18, K19, K20, K21, K11, K22, K42, K43. -/
import Derived.Test.YtbkelajnngdimaaGreatDoorMJ
import Derived.Test.YtbkelajnngdimaaGreatDoorMF
import Derived.Test.YtbkelajnngdimaaGreatDoorMH
import Derived.Test.YtbkelajnngdimaaGreatDoorMI
import Derived.Test.YtbkelajnngdimaaGreatDoorME
import Derived.Test.YtbkelajnngdimaaGreatDoorMC
import Derived.Test.YtbkelajnngdimaaGreatDoorMB
set_option linter.unusedVariables false

/- Contracts of the program's functions, and what follows from them. -/
set_option maxRecDepth 100000
namespace Go.Proofs.YtbkelajnngdimaaGreatDoor
open Go Go.Av
theorem Cut_ct (s : List UInt8) (c : UInt8) (hlen : s.length ≤ 1048576) : CtA ambA Tryz.prog 62 [str s, str [c]] (.tup [str (Lib.cut s [c]).1, str (Lib.cut s [c]).2.1, bo (Lib.cut s [c]).2.2]) [] := by
  refine CtA.ofCallsR ambA (vs := [.string ⟨s.toArray⟩, .string ⟨([c] : List UInt8).toArray⟩]) Tryz.func62 (by kernel_rfl) (by kernel_rfl) fun w hA => ?_
  obtain ⟨⟨m, hm⟩, _⟩ := (Amb.on_and.1 (Amb.on_and.1 hA).2).2
  refine (Tryz.strings_Cut ⟨s.toArray⟩ ⟨([c] : List UInt8).toArray⟩ m w (by rw [bsz]; omega) hm).mono ?_
  rintro e w' ⟨rfl, n, rfl⟩
  refine ⟨_, rfl, Kp.drewN [] w n, fun L hL => ?_⟩
  exact Rel.lit3 _ _ _
noncomputable def X156 : Fx := ⟨Tryz.prog, tys, 156, Tryz.f156, [0]⟩
theorem X156_ok : X156.Ok := ⟨Tryz.func156, tys_ok⟩
theorem readBook_ct (s : List UInt8) (hlen : s.length ≤ 1048576) : CtA ambA Tryz.prog 156 [str s] (.tup [bkA (rbP s).1, bo (rbP s).2]) [] := by
  have hsplit := Split_ct s 32 hlen
  have hwl := fun w (h : w ∈ spl 32 s) => spl_wlen h
  have hR : rbP s = if (spl 32 s).length = 5 ∧ ((spl 32 s).getD 1 []).length = 3 then
      (mkB3 shV ((spl 32 s).getD 0 []) ((spl 32 s).getD 1 []) ((spl 32 s).getD 2 []) (Lib.cut ((spl 32 s).getD 3 []) [120]).1 (Lib.cut ((spl 32 s).getD 3 []) [120]).2.1 ((spl 32 s).getD 4 []),
        vB (mkB3 shV ((spl 32 s).getD 0 []) ((spl 32 s).getD 1 []) ((spl 32 s).getD 2 []) (Lib.cut ((spl 32 s).getD 3 []) [120]).1 (Lib.cut ((spl 32 s).getD 3 []) [120]).2.1 ((spl 32 s).getD 4 [])) && decide (bookT (mkB3 shV ((spl 32 s).getD 0 []) ((spl 32 s).getD 1 []) ((spl 32 s).getD 2 []) (Lib.cut ((spl 32 s).getD 3 []) [120]).1 (Lib.cut ((spl 32 s).getD 3 []) [120]).2.1 ((spl 32 s).getD 4 [])) = s)) else (bk0, false) := rfl
  have hrng := rbP_rng s
  generalize spl 32 s = W at hR hsplit hwl
  refine CtA.intro ambA X156 X156_ok rfl (by kernel_rfl) rfl rfl fun g hA hg => ?_
  have hAT := ambA_T hA
  repeat (refine Run.go rfl ?_)
  refine Run.callpA rfl rfl rfl rfl rfl rfl rfl rfl rfl (hsplit.at hA) (by decide) (by decide) ?_
  iterate 4 (refine Run.go rfl ?_)
  refine Run.region ⟨[(0, str s), (2, .bp (2, 0) 0), (4, .ro 1 true (W.map str)), (20, bo (!(decide (W.length = 5 ∧ (W.getD 1 []).length = 3))))], [((2, 0), .box (bkA bk0).cells)]⟩ ?_ fun k' hN => ?_
  rotate_left
  · have fin : ∀ {v : Bool}, v = (!(decide (W.length = 5 ∧ (W.getD 1 []).length = 3))) → bo v = bo (!(decide (W.length = 5 ∧ (W.getD 1 []).length = 3))) := fun e => by rw [e]
    repeat (refine Run.go rfl ?_)
    refine Run.bool 14 rfl (fun h => ?_) (fun h => ?_)
    · have h5 : ¬ W.length = 5 := fun e => by
        have h : (!((((W.map str).length : Nat) : Int) == 5)) = true := h
        rw [List.length_map, e] at h
        cases h
      repeat (refine Run.go rfl ?_)
      exact Run.of hN ⟨rfl, rfl, rfl, fin (v := true) (by rw [decide_eq_false (fun h => h5 h.1)]; rfl), trivial⟩ ⟨rfl, trivial⟩
    · have h5 : W.length = 5 := by
        have h : (!((((W.map str).length : Nat) : Int) == 5)) = false := h
        rw [List.length_map] at h
        simp at h
        omega
      have hat : (W.map str)[((1 : Int)).toNat]? = some (str (W.getD 1 [])) := by rw [list5 h5]; rfl
      repeat (refine Run.go rfl ?_)
      refine Run.val rfl rfl rfl (ValOk.idx (str (W.getD 1 [])) rfl rfl rfl rfl rfl (by decide) hat) rfl ?_
      repeat (refine Run.go rfl ?_)
      refine Run.of hN ⟨rfl, rfl, rfl, fin (v := !((((⟨(W.getD 1 []).toArray⟩ : ByteArray).size : Nat) : Int) == 3)) ?_, trivial⟩ ⟨rfl, trivial⟩
      rw [bsz]
      congr 1
      rw [Bool.eq_iff_iff]
      simp only [beq_iff_eq, decide_eq_true_eq]
      omega
  refine Run.cond rfl (fun h => ?_) (fun h => ?_)
  · have h : ¬ (W.length = 5 ∧ (W.getD 1 []).length = 3) := by
      rw [Bool.not_eq_true'] at h
      exact of_decide_eq_false h
    rw [if_neg h] at hR
    rw [hR] at hg
    repeat (refine Run.go rfl ?_)
    refine Run.val rfl rfl rfl (ValOk.build rfl rfl rfl rfl rfl) rfl ?_
    repeat (refine Run.go rfl ?_)
    exact Run.ret (r := .tup [bkA bk0, bo false]) hg (by kernel_rfl) rfl
  have h : W.length = 5 ∧ (W.getD 1 []).length = 3 := by
    rw [Bool.not_eq_false'] at h
    exact of_decide_eq_true h
  rw [if_pos h] at hR
  obtain ⟨w0, w1, w2, w3, w4, rfl⟩ : ∃ w0 w1 w2 w3 w4, W = [w0, w1, w2, w3, w4] := ⟨_, _, _, _, _, list5 h.1⟩
  simp only [List.getD_cons_succ, List.getD_cons_zero] at hR h
  obtain ⟨p, q, r, rfl⟩ : ∃ p q r, w1 = [p, q, r] := by
    match w1, h.2 with
    | [p, q, r], _ => exact ⟨p, q, r, rfl⟩
  have l0 := Nat.le_trans (hwl w0 (by simp)) hlen
  have l2 := Nat.le_trans (hwl w2 (by simp)) hlen
  have l3 := Nat.le_trans (hwl w3 (by simp)) hlen
  have l4 := Nat.le_trans (hwl w4 (by simp)) hlen
  have hc := Cut_ct w3 120 l3
  obtain ⟨lz0, lz1⟩ := cut_len (c := 120) w3
  generalize (Lib.cut w3 [120]).1 = z0 at hR hc lz0
  generalize (Lib.cut w3 [120]).2.1 = z1 at hR hc lz1
  generalize (Lib.cut w3 [120]).2.2 = zz at hc
  have s0 := short_ct w0 l0
  have s2 := short_ct w2 l2
  have sz0 := short_ct z0 (by omega)
  have sz1 := short_ct z1 (by omega)
  have s4 := short_ct w4 l4
  generalize hB : mkB3 shV w0 [p, q, r] w2 z0 z1 w4 = B at hR
  have hbk : bkA B = .agg [i16 (shV w0), u8 (p.toNat : Int), u8 (q.toNat : Int), u8 (r.toNat : Int), i16 (shV w2), i16 (shV z0), i16 (shV z1), i16 (shV w4)] := by rw [← hB]; rfl
  clear hB h
  generalize shV w0 = n0 at s0 hbk
  generalize shV w2 = n2 at s2 hbk
  generalize shV z0 = nz0 at sz0 hbk
  generalize shV z1 = nz1 at sz1 hbk
  generalize shV w4 = n4 at s4 hbk
  rw [hR] at hrng hg
  simp only at hrng hg
  repeat (refine Run.go rfl ?_)
  refine Run.val rfl rfl rfl (ValOk.idx (str w3) rfl rfl rfl rfl rfl (by decide) rfl) rfl ?_
  repeat (refine Run.go rfl ?_)
  refine Run.csA rfl (hc.at hA) rfl rfl ?_
  repeat (refine Run.go rfl ?_)
  refine Run.drawI (fun D => ⟨[(0, str s), (2, .bp (2, 0) 0), (4, .ro 1 true ([w0, [p, q, r], w2, w3, w4].map str)), (5, str z0), (6, str z1), (30, bif D 0 then .ro 1 true ([w0, [p, q, r], w2, w3, w4].map str) else .top), (31, bif D 1 then .rp (str w0).cells 0 else .top), (32, bif D 2 then str w0 else .top), (33, bif D 3 then i16 n0 else .top), (34, bif D 4 then .ro 1 true ([w0, [p, q, r], w2, w3, w4].map str) else .top), (35, bif D 5 then .rp (str [p, q, r]).cells 0 else .top), (36, bif D 6 then str [p, q, r] else .top), (37, bif D 7 then .ro 1 false ([p, q, r].map fun b => u8 (b.toNat : Int)) else .top), (38, bif D 8 then .rp ([p, q, r].map fun b => u8 (b.toNat : Int)) 0 else .top), (39, bif D 9 then .agg [u8 (p.toNat : Int), u8 (q.toNat : Int), u8 (r.toNat : Int)] else .top), (40, bif D 10 then .ro 1 true ([w0, [p, q, r], w2, w3, w4].map str) else .top), (41, bif D 11 then .rp (str w2).cells 0 else .top), (42, bif D 12 then str w2 else .top), (43, bif D 13 then i16 n2 else .top), (44, bif D 14 then str z0 else .top), (45, bif D 15 then i16 nz0 else .top), (46, bif D 16 then str z1 else .top), (47, bif D 17 then i16 nz1 else .top), (48, bif D 18 then .ro 1 true ([w0, [p, q, r], w2, w3, w4].map str) else .top), (49, bif D 19 then .rp (str w4).cells 0 else .top), (50, bif D 20 then str w4 else .top), (51, bif D 21 then i16 n4 else .top), (52, bif D 22 then .agg [i16 n0, u8 (p.toNat : Int), u8 (q.toNat : Int), u8 (r.toNat : Int), i16 n2, i16 nz0, i16 nz1, i16 n4] else .top), (8, bif D 23 then .bp (8, 0) 0 else .top)], [((2, 0), .box (bkA bk0).cells), ((8, 0), (bif D 24 then .box (AV.cells (.agg [i16 n0, u8 (p.toNat : Int), u8 (q.toNat : Int), u8 (r.toNat : Int), i16 n2, i16 nz0, i16 nz1, i16 n4])) else (bif D 23 then .box (bkA bk0).cells else .gone)))]⟩) (by decide +kernel) (by decide +kernel) ?_ ?_ fun k' => ⟨?_, ?_, ?_, ?_, ?_, ?_, ?_, ?_, ?_, ?_, ?_, ?_, ?_, ?_, ?_, ?_, ?_, ?_, ?_, ?_, ?_, ?_, ?_, ?_, ?_, trivial⟩
  · exact St.Le.mk' ⟨rfl, rfl, rfl, rfl, rfl, rfl, rfl, rfl, rfl, rfl, rfl, rfl, rfl, rfl, rfl, rfl, rfl, rfl, rfl, rfl, rfl, rfl, rfl, rfl, rfl, rfl, rfl, rfl, rfl, trivial⟩ ⟨rfl, rfl, trivial⟩
  rotate_left
  · intro D hid h0 hp hs rest hK
    obtain ⟨d1, d24, -⟩ : AllD D false [1, 24] := ideal_sub hs (by decide +kernel)
    simp only [d1, d24, h0, cond_true, cond_false]
    refine Run.go rfl ?_
    refine Run.le ?_ hK
    simp only [d1, d24, h0, Nat.reduceBEq, Bool.false_or, Bool.true_or, cond_true, cond_false]
    exact St.Le.mk' ⟨rfl, rfl, rfl, rfl, rfl, rfl, rfl, rfl, rfl, rfl, rfl, rfl, rfl, rfl, rfl, rfl, rfl, rfl, rfl, rfl, rfl, rfl, rfl, rfl, rfl, rfl, rfl, rfl, rfl, trivial⟩ ⟨rfl, rfl, trivial⟩
  · intro D hid h0 hp hs rest hK
    obtain ⟨d0, -⟩ : AllD D true [0] := ideal_sub hp (by decide +kernel)
    obtain ⟨d2, d24, -⟩ : AllD D false [2, 24] := ideal_sub hs (by decide +kernel)
    simp only [d0, d2, d24, h0, cond_true, cond_false]
    refine Run.val rfl rfl rfl (ValOk.idx (str w0) rfl rfl rfl rfl rfl (by decide) rfl) rfl ?_
    refine Run.le ?_ hK
    simp only [d0, d2, d24, h0, Nat.reduceBEq, Bool.false_or, Bool.true_or, cond_true, cond_false]
    exact St.Le.mk' ⟨rfl, rfl, rfl, rfl, rfl, rfl, rfl, rfl, rfl, rfl, rfl, rfl, rfl, rfl, rfl, rfl, rfl, rfl, rfl, rfl, rfl, rfl, rfl, rfl, rfl, rfl, rfl, rfl, rfl, trivial⟩ ⟨rfl, rfl, trivial⟩
  · intro D hid h0 hp hs rest hK
    obtain ⟨d1, -⟩ : AllD D true [1] := ideal_sub hp (by decide +kernel)
    obtain ⟨d3, d24, -⟩ : AllD D false [3, 24] := ideal_sub hs (by decide +kernel)
    simp only [d1, d3, d24, h0, cond_true, cond_false]
    refine Run.go rfl ?_
    refine Run.le ?_ hK
    simp only [d1, d3, d24, h0, Nat.reduceBEq, Bool.false_or, Bool.true_or, cond_true, cond_false]
    exact St.Le.mk' ⟨rfl, rfl, rfl, rfl, rfl, rfl, rfl, rfl, rfl, rfl, rfl, rfl, rfl, rfl, rfl, rfl, rfl, rfl, rfl, rfl, rfl, rfl, rfl, rfl, rfl, rfl, rfl, rfl, rfl, trivial⟩ ⟨rfl, rfl, trivial⟩
  · intro D hid h0 hp hs rest hK
    obtain ⟨d2, -⟩ : AllD D true [2] := ideal_sub hp (by decide +kernel)
    obtain ⟨d13, d22, d24, -⟩ : AllD D false [13, 22, 24] := ideal_sub hs (by decide +kernel)
    simp only [d2, d13, d22, d24, h0, cond_true, cond_false]
    refine Run.csA rfl (s0.at hA) rfl rfl ?_
    refine Run.le ?_ hK
    simp only [d2, d13, d22, d24, h0, Nat.reduceBEq, Bool.false_or, Bool.true_or, cond_true, cond_false]
    exact St.Le.mk' ⟨rfl, rfl, rfl, rfl, rfl, rfl, rfl, rfl, rfl, rfl, rfl, rfl, rfl, rfl, rfl, rfl, rfl, rfl, rfl, rfl, rfl, rfl, rfl, rfl, rfl, rfl, rfl, rfl, rfl, trivial⟩ ⟨rfl, rfl, trivial⟩
  · intro D hid h0 hp hs rest hK
    obtain ⟨d5, d24, -⟩ : AllD D false [5, 24] := ideal_sub hs (by decide +kernel)
    simp only [d5, d24, h0, cond_true, cond_false]
    refine Run.go rfl ?_
    refine Run.le ?_ hK
    simp only [d5, d24, h0, Nat.reduceBEq, Bool.false_or, Bool.true_or, cond_true, cond_false]
    exact St.Le.mk' ⟨rfl, rfl, rfl, rfl, rfl, rfl, rfl, rfl, rfl, rfl, rfl, rfl, rfl, rfl, rfl, rfl, rfl, rfl, rfl, rfl, rfl, rfl, rfl, rfl, rfl, rfl, rfl, rfl, rfl, trivial⟩ ⟨rfl, rfl, trivial⟩
  · intro D hid h0 hp hs rest hK
    obtain ⟨d4, -⟩ : AllD D true [4] := ideal_sub hp (by decide +kernel)
    obtain ⟨d6, d24, -⟩ : AllD D false [6, 24] := ideal_sub hs (by decide +kernel)
    simp only [d4, d6, d24, h0, cond_true, cond_false]
    refine Run.val rfl rfl rfl (ValOk.idx (str [p, q, r]) rfl rfl rfl rfl rfl (by decide) rfl) rfl ?_
    refine Run.le ?_ hK
    simp only [d4, d6, d24, h0, Nat.reduceBEq, Bool.false_or, Bool.true_or, cond_true, cond_false]
    exact St.Le.mk' ⟨rfl, rfl, rfl, rfl, rfl, rfl, rfl, rfl, rfl, rfl, rfl, rfl, rfl, rfl, rfl, rfl, rfl, rfl, rfl, rfl, rfl, rfl, rfl, rfl, rfl, rfl, rfl, rfl, rfl, trivial⟩ ⟨rfl, rfl, trivial⟩
  · intro D hid h0 hp hs rest hK
    obtain ⟨d5, -⟩ : AllD D true [5] := ideal_sub hp (by decide +kernel)
    obtain ⟨d7, d24, -⟩ : AllD D false [7, 24] := ideal_sub hs (by decide +kernel)
    simp only [d5, d7, d24, h0, cond_true, cond_false]
    refine Run.go rfl ?_
    refine Run.le ?_ hK
    simp only [d5, d7, d24, h0, Nat.reduceBEq, Bool.false_or, Bool.true_or, cond_true, cond_false]
    exact St.Le.mk' ⟨rfl, rfl, rfl, rfl, rfl, rfl, rfl, rfl, rfl, rfl, rfl, rfl, rfl, rfl, rfl, rfl, rfl, rfl, rfl, rfl, rfl, rfl, rfl, rfl, rfl, rfl, rfl, rfl, rfl, trivial⟩ ⟨rfl, rfl, trivial⟩
  · intro D hid h0 hp hs rest hK
    obtain ⟨d6, -⟩ : AllD D true [6] := ideal_sub hp (by decide +kernel)
    obtain ⟨d8, d24, -⟩ : AllD D false [8, 24] := ideal_sub hs (by decide +kernel)
    simp only [d6, d8, d24, h0, cond_true, cond_false]
    refine Run.s2b [p, q, r] rfl rfl rfl rfl rfl rfl rfl rfl (by simp) rfl ?_
    refine Run.le ?_ hK
    simp only [d6, d8, d24, h0, Nat.reduceBEq, Bool.false_or, Bool.true_or, cond_true, cond_false]
    exact St.Le.mk' ⟨rfl, rfl, rfl, rfl, rfl, rfl, rfl, rfl, rfl, rfl, rfl, rfl, rfl, rfl, rfl, rfl, rfl, rfl, rfl, rfl, rfl, rfl, rfl, rfl, rfl, rfl, rfl, rfl, rfl, trivial⟩ ⟨rfl, rfl, trivial⟩
  · intro D hid h0 hp hs rest hK
    obtain ⟨d7, -⟩ : AllD D true [7] := ideal_sub hp (by decide +kernel)
    obtain ⟨d9, d24, -⟩ : AllD D false [9, 24] := ideal_sub hs (by decide +kernel)
    simp only [d7, d9, d24, h0, cond_true, cond_false]
    refine Run.val rfl rfl rfl (ValOk.s2ap rfl rfl rfl rfl rfl (by simp) (by simp)) rfl ?_
    refine Run.le ?_ hK
    simp only [d7, d9, d24, h0, Nat.reduceBEq, Bool.false_or, Bool.true_or, cond_true, cond_false]
    exact St.Le.mk' ⟨rfl, rfl, rfl, rfl, rfl, rfl, rfl, rfl, rfl, rfl, rfl, rfl, rfl, rfl, rfl, rfl, rfl, rfl, rfl, rfl, rfl, rfl, rfl, rfl, rfl, rfl, rfl, rfl, rfl, trivial⟩ ⟨rfl, rfl, trivial⟩
  · intro D hid h0 hp hs rest hK
    obtain ⟨d8, -⟩ : AllD D true [8] := ideal_sub hp (by decide +kernel)
    obtain ⟨d22, d24, -⟩ : AllD D false [22, 24] := ideal_sub hs (by decide +kernel)
    simp only [d8, d22, d24, h0, cond_true, cond_false]
    refine Run.go rfl ?_
    refine Run.le ?_ hK
    simp only [d8, d22, d24, h0, Nat.reduceBEq, Bool.false_or, Bool.true_or, cond_true, cond_false]
    exact St.Le.mk' ⟨rfl, rfl, rfl, rfl, rfl, rfl, rfl, rfl, rfl, rfl, rfl, rfl, rfl, rfl, rfl, rfl, rfl, rfl, rfl, rfl, rfl, rfl, rfl, rfl, rfl, rfl, rfl, rfl, rfl, trivial⟩ ⟨rfl, rfl, trivial⟩
  · intro D hid h0 hp hs rest hK
    obtain ⟨d11, d24, -⟩ : AllD D false [11, 24] := ideal_sub hs (by decide +kernel)
    simp only [d11, d24, h0, cond_true, cond_false]
    refine Run.go rfl ?_
    refine Run.le ?_ hK
    simp only [d11, d24, h0, Nat.reduceBEq, Bool.false_or, Bool.true_or, cond_true, cond_false]
    exact St.Le.mk' ⟨rfl, rfl, rfl, rfl, rfl, rfl, rfl, rfl, rfl, rfl, rfl, rfl, rfl, rfl, rfl, rfl, rfl, rfl, rfl, rfl, rfl, rfl, rfl, rfl, rfl, rfl, rfl, rfl, rfl, trivial⟩ ⟨rfl, rfl, trivial⟩
  · intro D hid h0 hp hs rest hK
    obtain ⟨d10, -⟩ : AllD D true [10] := ideal_sub hp (by decide +kernel)
    obtain ⟨d12, d24, -⟩ : AllD D false [12, 24] := ideal_sub hs (by decide +kernel)
    simp only [d10, d12, d24, h0, cond_true, cond_false]
    refine Run.val rfl rfl rfl (ValOk.idx (str w2) rfl rfl rfl rfl rfl (by decide) rfl) rfl ?_
    refine Run.le ?_ hK
    simp only [d10, d12, d24, h0, Nat.reduceBEq, Bool.false_or, Bool.true_or, cond_true, cond_false]
    exact St.Le.mk' ⟨rfl, rfl, rfl, rfl, rfl, rfl, rfl, rfl, rfl, rfl, rfl, rfl, rfl, rfl, rfl, rfl, rfl, rfl, rfl, rfl, rfl, rfl, rfl, rfl, rfl, rfl, rfl, rfl, rfl, trivial⟩ ⟨rfl, rfl, trivial⟩
  · intro D hid h0 hp hs rest hK
    obtain ⟨d11, -⟩ : AllD D true [11] := ideal_sub hp (by decide +kernel)
    obtain ⟨d13, d24, -⟩ : AllD D false [13, 24] := ideal_sub hs (by decide +kernel)
    simp only [d11, d13, d24, h0, cond_true, cond_false]
    refine Run.go rfl ?_
    refine Run.le ?_ hK
    simp only [d11, d13, d24, h0, Nat.reduceBEq, Bool.false_or, Bool.true_or, cond_true, cond_false]
    exact St.Le.mk' ⟨rfl, rfl, rfl, rfl, rfl, rfl, rfl, rfl, rfl, rfl, rfl, rfl, rfl, rfl, rfl, rfl, rfl, rfl, rfl, rfl, rfl, rfl, rfl, rfl, rfl, rfl, rfl, rfl, rfl, trivial⟩ ⟨rfl, rfl, trivial⟩
  · intro D hid h0 hp hs rest hK
    obtain ⟨d3, d12, -⟩ : AllD D true [3, 12] := ideal_sub hp (by decide +kernel)
    obtain ⟨d15, d22, d24, -⟩ : AllD D false [15, 22, 24] := ideal_sub hs (by decide +kernel)
    simp only [d3, d12, d15, d22, d24, h0, cond_true, cond_false]
    refine Run.csA rfl (s2.at hA) rfl rfl ?_
    refine Run.le ?_ hK
    simp only [d3, d12, d15, d22, d24, h0, Nat.reduceBEq, Bool.false_or, Bool.true_or, cond_true, cond_false]
    exact St.Le.mk' ⟨rfl, rfl, rfl, rfl, rfl, rfl, rfl, rfl, rfl, rfl, rfl, rfl, rfl, rfl, rfl, rfl, rfl, rfl, rfl, rfl, rfl, rfl, rfl, rfl, rfl, rfl, rfl, rfl, rfl, trivial⟩ ⟨rfl, rfl, trivial⟩
  · intro D hid h0 hp hs rest hK
    obtain ⟨d15, d24, -⟩ : AllD D false [15, 24] := ideal_sub hs (by decide +kernel)
    simp only [d15, d24, h0, cond_true, cond_false]
    refine Run.go rfl ?_
    refine Run.le ?_ hK
    simp only [d15, d24, h0, Nat.reduceBEq, Bool.false_or, Bool.true_or, cond_true, cond_false]
    exact St.Le.mk' ⟨rfl, rfl, rfl, rfl, rfl, rfl, rfl, rfl, rfl, rfl, rfl, rfl, rfl, rfl, rfl, rfl, rfl, rfl, rfl, rfl, rfl, rfl, rfl, rfl, rfl, rfl, rfl, rfl, rfl, trivial⟩ ⟨rfl, rfl, trivial⟩
  · intro D hid h0 hp hs rest hK
    obtain ⟨d13, d14, -⟩ : AllD D true [13, 14] := ideal_sub hp (by decide +kernel)
    obtain ⟨d17, d22, d24, -⟩ : AllD D false [17, 22, 24] := ideal_sub hs (by decide +kernel)
    simp only [d13, d14, d17, d22, d24, h0, cond_true, cond_false]
    refine Run.csA rfl (sz0.at hA) rfl rfl ?_
    refine Run.le ?_ hK
    simp only [d13, d14, d17, d22, d24, h0, Nat.reduceBEq, Bool.false_or, Bool.true_or, cond_true, cond_false]
    exact St.Le.mk' ⟨rfl, rfl, rfl, rfl, rfl, rfl, rfl, rfl, rfl, rfl, rfl, rfl, rfl, rfl, rfl, rfl, rfl, rfl, rfl, rfl, rfl, rfl, rfl, rfl, rfl, rfl, rfl, rfl, rfl, trivial⟩ ⟨rfl, rfl, trivial⟩
  · intro D hid h0 hp hs rest hK
    obtain ⟨d17, d24, -⟩ : AllD D false [17, 24] := ideal_sub hs (by decide +kernel)
    simp only [d17, d24, h0, cond_true, cond_false]
    refine Run.go rfl ?_
    refine Run.le ?_ hK
    simp only [d17, d24, h0, Nat.reduceBEq, Bool.false_or, Bool.true_or, cond_true, cond_false]
    exact St.Le.mk' ⟨rfl, rfl, rfl, rfl, rfl, rfl, rfl, rfl, rfl, rfl, rfl, rfl, rfl, rfl, rfl, rfl, rfl, rfl, rfl, rfl, rfl, rfl, rfl, rfl, rfl, rfl, rfl, rfl, rfl, trivial⟩ ⟨rfl, rfl, trivial⟩
  · intro D hid h0 hp hs rest hK
    obtain ⟨d15, d16, -⟩ : AllD D true [15, 16] := ideal_sub hp (by decide +kernel)
    obtain ⟨d21, d22, d24, -⟩ : AllD D false [21, 22, 24] := ideal_sub hs (by decide +kernel)
    simp only [d15, d16, d21, d22, d24, h0, cond_true, cond_false]
    refine Run.csA rfl (sz1.at hA) rfl rfl ?_
    refine Run.le ?_ hK
    simp only [d15, d16, d21, d22, d24, h0, Nat.reduceBEq, Bool.false_or, Bool.true_or, cond_true, cond_false]
    exact St.Le.mk' ⟨rfl, rfl, rfl, rfl, rfl, rfl, rfl, rfl, rfl, rfl, rfl, rfl, rfl, rfl, rfl, rfl, rfl, rfl, rfl, rfl, rfl, rfl, rfl, rfl, rfl, rfl, rfl, rfl, rfl, trivial⟩ ⟨rfl, rfl, trivial⟩
  · intro D hid h0 hp hs rest hK
    obtain ⟨d19, d24, -⟩ : AllD D false [19, 24] := ideal_sub hs (by decide +kernel)
    simp only [d19, d24, h0, cond_true, cond_false]
    refine Run.go rfl ?_
    refine Run.le ?_ hK
    simp only [d19, d24, h0, Nat.reduceBEq, Bool.false_or, Bool.true_or, cond_true, cond_false]
    exact St.Le.mk' ⟨rfl, rfl, rfl, rfl, rfl, rfl, rfl, rfl, rfl, rfl, rfl, rfl, rfl, rfl, rfl, rfl, rfl, rfl, rfl, rfl, rfl, rfl, rfl, rfl, rfl, rfl, rfl, rfl, rfl, trivial⟩ ⟨rfl, rfl, trivial⟩
  · intro D hid h0 hp hs rest hK
    obtain ⟨d18, -⟩ : AllD D true [18] := ideal_sub hp (by decide +kernel)
    obtain ⟨d20, d24, -⟩ : AllD D false [20, 24] := ideal_sub hs (by decide +kernel)
    simp only [d18, d20, d24, h0, cond_true, cond_false]
    refine Run.val rfl rfl rfl (ValOk.idx (str w4) rfl rfl rfl rfl rfl (by decide) rfl) rfl ?_
    refine Run.le ?_ hK
    simp only [d18, d20, d24, h0, Nat.reduceBEq, Bool.false_or, Bool.true_or, cond_true, cond_false]
    exact St.Le.mk' ⟨rfl, rfl, rfl, rfl, rfl, rfl, rfl, rfl, rfl, rfl, rfl, rfl, rfl, rfl, rfl, rfl, rfl, rfl, rfl, rfl, rfl, rfl, rfl, rfl, rfl, rfl, rfl, rfl, rfl, trivial⟩ ⟨rfl, rfl, trivial⟩
  · intro D hid h0 hp hs rest hK
    obtain ⟨d19, -⟩ : AllD D true [19] := ideal_sub hp (by decide +kernel)
    obtain ⟨d21, d24, -⟩ : AllD D false [21, 24] := ideal_sub hs (by decide +kernel)
    simp only [d19, d21, d24, h0, cond_true, cond_false]
    refine Run.go rfl ?_
    refine Run.le ?_ hK
    simp only [d19, d21, d24, h0, Nat.reduceBEq, Bool.false_or, Bool.true_or, cond_true, cond_false]
    exact St.Le.mk' ⟨rfl, rfl, rfl, rfl, rfl, rfl, rfl, rfl, rfl, rfl, rfl, rfl, rfl, rfl, rfl, rfl, rfl, rfl, rfl, rfl, rfl, rfl, rfl, rfl, rfl, rfl, rfl, rfl, rfl, trivial⟩ ⟨rfl, rfl, trivial⟩
  · intro D hid h0 hp hs rest hK
    obtain ⟨d17, d20, -⟩ : AllD D true [17, 20] := ideal_sub hp (by decide +kernel)
    obtain ⟨d22, d24, -⟩ : AllD D false [22, 24] := ideal_sub hs (by decide +kernel)
    simp only [d17, d20, d22, d24, h0, cond_true, cond_false]
    refine Run.csA rfl (s4.at hA) rfl rfl ?_
    refine Run.le ?_ hK
    simp only [d17, d20, d22, d24, h0, Nat.reduceBEq, Bool.false_or, Bool.true_or, cond_true, cond_false]
    exact St.Le.mk' ⟨rfl, rfl, rfl, rfl, rfl, rfl, rfl, rfl, rfl, rfl, rfl, rfl, rfl, rfl, rfl, rfl, rfl, rfl, rfl, rfl, rfl, rfl, rfl, rfl, rfl, rfl, rfl, rfl, rfl, trivial⟩ ⟨rfl, rfl, trivial⟩
  · intro D hid h0 hp hs rest hK
    obtain ⟨d3, d9, d13, d15, d17, d21, -⟩ : AllD D true [3, 9, 13, 15, 17, 21] := ideal_sub hp (by decide +kernel)
    obtain ⟨d24, -⟩ : AllD D false [24] := ideal_sub hs (by decide +kernel)
    simp only [d3, d9, d13, d15, d17, d21, d24, h0, cond_true, cond_false]
    refine Run.val rfl rfl rfl (ValOk.build (cs := [i16 n0, u8 (p.toNat : Int), u8 (q.toNat : Int), u8 (r.toNat : Int), i16 n2, i16 nz0, i16 nz1, i16 n4]) rfl rfl rfl rfl (by kernel_rfl)) rfl ?_
    refine Run.le ?_ hK
    simp only [d3, d9, d13, d15, d17, d21, d24, h0, Nat.reduceBEq, Bool.false_or, Bool.true_or, cond_true, cond_false]
    exact St.Le.mk' ⟨rfl, rfl, rfl, rfl, rfl, rfl, rfl, rfl, rfl, rfl, rfl, rfl, rfl, rfl, rfl, rfl, rfl, rfl, rfl, rfl, rfl, rfl, rfl, rfl, rfl, rfl, rfl, rfl, rfl, trivial⟩ ⟨rfl, rfl, trivial⟩
  · intro D hid h0 hp hs rest hK
    obtain ⟨d24, -⟩ : AllD D false [24] := ideal_sub hs (by decide +kernel)
    simp only [d24, h0, cond_true, cond_false]
    refine Run.alloc rfl rfl rfl rfl rfl rfl (by
        simp only [St.nrf, List.all_cons, List.all_nil, Bool.and_eq_true, Bool.and_true]
        repeat' apply And.intro
        all_goals (repeat' (first | rfl | refine nrf_bif ?_ ?_ | refine nrfO_bif ?_ ?_))) rfl ?_
    refine Run.le ?_ hK
    simp only [d24, h0, Nat.reduceBEq, Bool.false_or, Bool.true_or, cond_true, cond_false]
    exact St.Le.mk' ⟨rfl, rfl, rfl, rfl, rfl, rfl, rfl, rfl, rfl, rfl, rfl, rfl, rfl, rfl, rfl, rfl, rfl, rfl, rfl, rfl, rfl, rfl, rfl, rfl, rfl, rfl, rfl, rfl, rfl, trivial⟩ ⟨rfl, rfl, trivial⟩
  · intro D hid h0 hp hs rest hK
    obtain ⟨d0, d1, d2, d3, d4, d5, d6, d7, d8, d9, d10, d11, d12, d13, d14, d15, d16, d17, d18, d19, d20, d21, d22, d23, -⟩ : AllD D true [0, 1, 2, 3, 4, 5, 6, 7, 8, 9, 10, 11, 12, 13, 14, 15, 16, 17, 18, 19, 20, 21, 22, 23] := ideal_sub hp (by decide +kernel)
    simp only [d0, d1, d2, d3, d4, d5, d6, d7, d8, d9, d10, d11, d12, d13, d14, d15, d16, d17, d18, d19, d20, d21, d22, d23, h0, cond_true, cond_false]
    refine Run.go rfl ?_
    refine Run.le ?_ hK
    simp only [d0, d1, d2, d3, d4, d5, d6, d7, d8, d9, d10, d11, d12, d13, d14, d15, d16, d17, d18, d19, d20, d21, d22, d23, h0, Nat.reduceBEq, Bool.false_or, Bool.true_or, cond_true, cond_false]
    exact St.Le.mk' ⟨rfl, rfl, rfl, rfl, rfl, rfl, rfl, rfl, rfl, rfl, rfl, rfl, rfl, rfl, rfl, rfl, rfl, rfl, rfl, rfl, rfl, rfl, rfl, rfl, rfl, rfl, rfl, rfl, rfl, trivial⟩ ⟨rfl, rfl, trivial⟩
  repeat (refine Run.go rfl ?_)
  have hV := validBook_ct B
  rw [hbk] at hV
  cases hv : vB B with
  | false =>
    rw [hv] at hV hg
    refine Run.drawI (fun D => ⟨[(0, str s), (2, .bp (2, 0) 0), (8, .bp (8, 0) 0), (53, bif D 0 then .agg [i16 n0, u8 (p.toNat : Int), u8 (q.toNat : Int), u8 (r.toNat : Int), i16 n2, i16 nz0, i16 nz1, i16 n4] else .top), (54, bif D 1 then .agg [i16 n0, u8 (p.toNat : Int), u8 (q.toNat : Int), u8 (r.toNat : Int), i16 n2, i16 nz0, i16 nz1, i16 n4] else .top), (55, bif D 2 then bo false else .top), (56, bif D 3 then bo false else .top), (57, bif D 4 then .lit undef else .top), (58, bif D 5 then .lit undef else .top), (59, bif D 6 then .lit undef else .top), (60, bif D 7 then .lit undef else .top), (61, bif D 8 then bo false else .top), (3, bif D 10 then bo false else .top)], [((2, 0), (bif D 9 then .box (AV.cells (.agg [i16 n0, u8 (p.toNat : Int), u8 (q.toNat : Int), u8 (r.toNat : Int), i16 n2, i16 nz0, i16 nz1, i16 n4])) else .box (bkA bk0).cells)), ((8, 0), .box (AV.cells (.agg [i16 n0, u8 (p.toNat : Int), u8 (q.toNat : Int), u8 (r.toNat : Int), i16 n2, i16 nz0, i16 nz1, i16 n4])))]⟩) (by decide +kernel) (by decide +kernel) ?_ ?_ fun k' => ⟨?_, ?_, ?_, ?_, ?_, ?_, ?_, ?_, ?_, ?_, ?_, trivial⟩
    · exact St.Le.mk' ⟨rfl, rfl, rfl, rfl, rfl, rfl, rfl, rfl, rfl, rfl, rfl, rfl, rfl, trivial⟩ ⟨rfl, rfl, trivial⟩
    rotate_left
    · intro D hid h0 hp hs rest hK
      obtain ⟨d9, d10, -⟩ : AllD D false [9, 10] := ideal_sub hs (by decide +kernel)
      simp only [d9, d10, h0, cond_true, cond_false]
      refine Run.go rfl ?_
      refine Run.le ?_ hK
      simp only [d9, d10, h0, Nat.reduceBEq, Bool.false_or, Bool.true_or, cond_true, cond_false]
      exact St.Le.mk' ⟨rfl, rfl, rfl, rfl, rfl, rfl, rfl, rfl, rfl, rfl, rfl, rfl, rfl, trivial⟩ ⟨rfl, rfl, trivial⟩
    · intro D hid h0 hp hs rest hK
      obtain ⟨d2, d10, -⟩ : AllD D false [2, 10] := ideal_sub hs (by decide +kernel)
      simp only [d2, d10, h0, cond_true, cond_false]
      refine Run.go rfl ?_
      refine Run.le ?_ hK
      simp only [d2, d10, h0, Nat.reduceBEq, Bool.false_or, Bool.true_or, cond_true, cond_false]
      exact St.Le.mk' ⟨rfl, rfl, rfl, rfl, rfl, rfl, rfl, rfl, rfl, rfl, rfl, rfl, rfl, trivial⟩ ⟨rfl, rfl, trivial⟩
    · intro D hid h0 hp hs rest hK
      obtain ⟨d1, -⟩ : AllD D true [1] := ideal_sub hp (by decide +kernel)
      obtain ⟨d3, d10, -⟩ : AllD D false [3, 10] := ideal_sub hs (by decide +kernel)
      simp only [d1, d3, d10, h0, cond_true, cond_false]
      refine Run.cs rfl hV rfl rfl ?_
      refine Run.le ?_ hK
      simp only [d1, d3, d10, h0, Nat.reduceBEq, Bool.false_or, Bool.true_or, cond_true, cond_false]
      exact St.Le.mk' ⟨rfl, rfl, rfl, rfl, rfl, rfl, rfl, rfl, rfl, rfl, rfl, rfl, rfl, trivial⟩ ⟨rfl, rfl, trivial⟩
    · intro D hid h0 hp hs rest hK
      obtain ⟨d2, -⟩ : AllD D true [2] := ideal_sub hp (by decide +kernel)
      obtain ⟨d4, d5, d6, d7, d8, d10, -⟩ : AllD D false [4, 5, 6, 7, 8, 10] := ideal_sub hs (by decide +kernel)
      simp only [d2, d4, d5, d6, d7, d8, d10, h0, cond_true, cond_false]
      refine Run.go rfl ?_
      refine Run.le ?_ hK
      simp only [d2, d4, d5, d6, d7, d8, d10, h0, Nat.reduceBEq, Bool.false_or, Bool.true_or, cond_true, cond_false]
      exact St.Le.mk' ⟨rfl, rfl, rfl, rfl, rfl, rfl, rfl, rfl, rfl, rfl, rfl, rfl, rfl, trivial⟩ ⟨rfl, rfl, trivial⟩
    · intro D hid h0 hp hs rest hK
      obtain ⟨d3, -⟩ : AllD D true [3] := ideal_sub hp (by decide +kernel)
      obtain ⟨d5, d10, -⟩ : AllD D false [5, 10] := ideal_sub hs (by decide +kernel)
      simp only [d3, d5, d10, h0, cond_true, cond_false]
      refine Run.go rfl ?_
      refine Run.le ?_ hK
      simp only [d3, d5, d10, h0, Nat.reduceBEq, Bool.false_or, Bool.true_or, cond_true, cond_false]
      exact St.Le.mk' ⟨rfl, rfl, rfl, rfl, rfl, rfl, rfl, rfl, rfl, rfl, rfl, rfl, rfl, trivial⟩ ⟨rfl, rfl, trivial⟩
    · intro D hid h0 hp hs rest hK
      obtain ⟨d3, d4, -⟩ : AllD D true [3, 4] := ideal_sub hp (by decide +kernel)
      obtain ⟨d7, d9, d10, -⟩ : AllD D false [7, 9, 10] := ideal_sub hs (by decide +kernel)
      simp only [d3, d4, d7, d9, d10, h0, cond_true, cond_false]
      refine Run.go rfl ?_
      refine Run.le ?_ hK
      simp only [d3, d4, d7, d9, d10, h0, Nat.reduceBEq, Bool.false_or, Bool.true_or, cond_true, cond_false]
      exact St.Le.mk' ⟨rfl, rfl, rfl, rfl, rfl, rfl, rfl, rfl, rfl, rfl, rfl, rfl, rfl, trivial⟩ ⟨rfl, rfl, trivial⟩
    · intro D hid h0 hp hs rest hK
      obtain ⟨d3, -⟩ : AllD D true [3] := ideal_sub hp (by decide +kernel)
      obtain ⟨d7, d10, -⟩ : AllD D false [7, 10] := ideal_sub hs (by decide +kernel)
      simp only [d3, d7, d10, h0, cond_true, cond_false]
      refine Run.go rfl ?_
      refine Run.le ?_ hK
      simp only [d3, d7, d10, h0, Nat.reduceBEq, Bool.false_or, Bool.true_or, cond_true, cond_false]
      exact St.Le.mk' ⟨rfl, rfl, rfl, rfl, rfl, rfl, rfl, rfl, rfl, rfl, rfl, rfl, rfl, trivial⟩ ⟨rfl, rfl, trivial⟩
    · intro D hid h0 hp hs rest hK
      obtain ⟨d3, d5, d6, -⟩ : AllD D true [3, 5, 6] := ideal_sub hp (by decide +kernel)
      obtain ⟨d8, d10, -⟩ : AllD D false [8, 10] := ideal_sub hs (by decide +kernel)
      simp only [d3, d5, d6, d8, d10, h0, cond_true, cond_false]
      refine Run.go rfl ?_
      refine Run.le ?_ hK
      simp only [d3, d5, d6, d8, d10, h0, Nat.reduceBEq, Bool.false_or, Bool.true_or, cond_true, cond_false]
      exact St.Le.mk' ⟨rfl, rfl, rfl, rfl, rfl, rfl, rfl, rfl, rfl, rfl, rfl, rfl, rfl, trivial⟩ ⟨rfl, rfl, trivial⟩
    · intro D hid h0 hp hs rest hK
      obtain ⟨d3, d7, -⟩ : AllD D true [3, 7] := ideal_sub hp (by decide +kernel)
      obtain ⟨d10, -⟩ : AllD D false [10] := ideal_sub hs (by decide +kernel)
      simp only [d3, d7, d10, h0, cond_true, cond_false]
      refine Run.go rfl ?_
      refine Run.le ?_ hK
      simp only [d3, d7, d10, h0, Nat.reduceBEq, Bool.false_or, Bool.true_or, cond_true, cond_false]
      exact St.Le.mk' ⟨rfl, rfl, rfl, rfl, rfl, rfl, rfl, rfl, rfl, rfl, rfl, rfl, rfl, trivial⟩ ⟨rfl, rfl, trivial⟩
    · intro D hid h0 hp hs rest hK
      obtain ⟨d0, d5, -⟩ : AllD D true [0, 5] := ideal_sub hp (by decide +kernel)
      obtain ⟨d10, -⟩ : AllD D false [10] := ideal_sub hs (by decide +kernel)
      simp only [d0, d5, d10, h0, cond_true, cond_false]
      refine Run.go rfl ?_
      refine Run.le ?_ hK
      simp only [d0, d5, d10, h0, Nat.reduceBEq, Bool.false_or, Bool.true_or, cond_true, cond_false]
      exact St.Le.mk' ⟨rfl, rfl, rfl, rfl, rfl, rfl, rfl, rfl, rfl, rfl, rfl, rfl, rfl, trivial⟩ ⟨rfl, rfl, trivial⟩
    · intro D hid h0 hp hs rest hK
      obtain ⟨d0, d1, d2, d3, d4, d5, d6, d7, d8, d9, -⟩ : AllD D true [0, 1, 2, 3, 4, 5, 6, 7, 8, 9] := ideal_sub hp (by decide +kernel)
      simp only [d0, d1, d2, d3, d4, d5, d6, d7, d8, d9, h0, cond_true, cond_false]
      refine Run.go rfl ?_
      refine Run.le ?_ hK
      simp only [d0, d1, d2, d3, d4, d5, d6, d7, d8, d9, h0, Nat.reduceBEq, Bool.false_or, Bool.true_or, cond_true, cond_false]
      exact St.Le.mk' ⟨rfl, rfl, rfl, rfl, rfl, rfl, rfl, rfl, rfl, rfl, rfl, rfl, rfl, trivial⟩ ⟨rfl, rfl, trivial⟩
    repeat (refine Run.go rfl ?_)
    refine Run.ret (r := .tup [.agg [i16 n0, u8 (p.toNat : Int), u8 (q.toNat : Int), u8 (r.toNat : Int), i16 n2, i16 nz0, i16 nz1, i16 n4], bo false]) hg (by kernel_rfl) ?_
    rw [Bool.false_and, hbk]
  | true =>
    rw [hv] at hV hg
    have hT := bookText_ct B (vB_num hv)
    rw [hbk] at hT
    refine Run.drawI (fun D => ⟨[(0, str s), (2, .bp (2, 0) 0), (8, .bp (8, 0) 0), (53, bif D 0 then .agg [i16 n0, u8 (p.toNat : Int), u8 (q.toNat : Int), u8 (r.toNat : Int), i16 n2, i16 nz0, i16 nz1, i16 n4] else .top), (54, bif D 1 then .agg [i16 n0, u8 (p.toNat : Int), u8 (q.toNat : Int), u8 (r.toNat : Int), i16 n2, i16 nz0, i16 nz1, i16 n4] else .top), (55, bif D 2 then bo true else .top), (56, bif D 3 then bo true else .top), (57, bif D 4 then .agg [i16 n0, u8 (p.toNat : Int), u8 (q.toNat : Int), u8 (r.toNat : Int), i16 n2, i16 nz0, i16 nz1, i16 n4] else .top), (58, bif D 5 then str (bookT B) else .top), (59, bif D 6 then str s else .top), (60, bif D 7 then .lit (.bool ((⟨(bookT B).toArray⟩ : ByteArray).toList == (⟨s.toArray⟩ : ByteArray).toList)) else .top), (61, bif D 8 then .lit (.bool ((⟨(bookT B).toArray⟩ : ByteArray).toList == (⟨s.toArray⟩ : ByteArray).toList)) else .top), (3, bif D 10 then .lit (.bool ((⟨(bookT B).toArray⟩ : ByteArray).toList == (⟨s.toArray⟩ : ByteArray).toList)) else .top)], [((2, 0), (bif D 9 then .box (AV.cells (.agg [i16 n0, u8 (p.toNat : Int), u8 (q.toNat : Int), u8 (r.toNat : Int), i16 n2, i16 nz0, i16 nz1, i16 n4])) else .box (bkA bk0).cells)), ((8, 0), .box (AV.cells (.agg [i16 n0, u8 (p.toNat : Int), u8 (q.toNat : Int), u8 (r.toNat : Int), i16 n2, i16 nz0, i16 nz1, i16 n4])))]⟩) (by decide +kernel) (by decide +kernel) ?_ ?_ fun k' => ⟨?_, ?_, ?_, ?_, ?_, ?_, ?_, ?_, ?_, ?_, ?_, trivial⟩
    · exact St.Le.mk' ⟨rfl, rfl, rfl, rfl, rfl, rfl, rfl, rfl, rfl, rfl, rfl, rfl, rfl, trivial⟩ ⟨rfl, rfl, trivial⟩
    rotate_left
    · intro D hid h0 hp hs rest hK
      obtain ⟨d9, d10, -⟩ : AllD D false [9, 10] := ideal_sub hs (by decide +kernel)
      simp only [d9, d10, h0, cond_true, cond_false]
      refine Run.go rfl ?_
      refine Run.le ?_ hK
      simp only [d9, d10, h0, Nat.reduceBEq, Bool.false_or, Bool.true_or, cond_true, cond_false]
      exact St.Le.mk' ⟨rfl, rfl, rfl, rfl, rfl, rfl, rfl, rfl, rfl, rfl, rfl, rfl, rfl, trivial⟩ ⟨rfl, rfl, trivial⟩
    · intro D hid h0 hp hs rest hK
      obtain ⟨d2, d10, -⟩ : AllD D false [2, 10] := ideal_sub hs (by decide +kernel)
      simp only [d2, d10, h0, cond_true, cond_false]
      refine Run.go rfl ?_
      refine Run.le ?_ hK
      simp only [d2, d10, h0, Nat.reduceBEq, Bool.false_or, Bool.true_or, cond_true, cond_false]
      exact St.Le.mk' ⟨rfl, rfl, rfl, rfl, rfl, rfl, rfl, rfl, rfl, rfl, rfl, rfl, rfl, trivial⟩ ⟨rfl, rfl, trivial⟩
    · intro D hid h0 hp hs rest hK
      obtain ⟨d1, -⟩ : AllD D true [1] := ideal_sub hp (by decide +kernel)
      obtain ⟨d3, d10, -⟩ : AllD D false [3, 10] := ideal_sub hs (by decide +kernel)
      simp only [d1, d3, d10, h0, cond_true, cond_false]
      refine Run.cs rfl hV rfl rfl ?_
      refine Run.le ?_ hK
      simp only [d1, d3, d10, h0, Nat.reduceBEq, Bool.false_or, Bool.true_or, cond_true, cond_false]
      exact St.Le.mk' ⟨rfl, rfl, rfl, rfl, rfl, rfl, rfl, rfl, rfl, rfl, rfl, rfl, rfl, trivial⟩ ⟨rfl, rfl, trivial⟩
    · intro D hid h0 hp hs rest hK
      obtain ⟨d2, -⟩ : AllD D true [2] := ideal_sub hp (by decide +kernel)
      obtain ⟨d4, d5, d6, d7, d8, d10, -⟩ : AllD D false [4, 5, 6, 7, 8, 10] := ideal_sub hs (by decide +kernel)
      simp only [d2, d4, d5, d6, d7, d8, d10, h0, cond_true, cond_false]
      refine Run.go rfl ?_
      refine Run.le ?_ hK
      simp only [d2, d4, d5, d6, d7, d8, d10, h0, Nat.reduceBEq, Bool.false_or, Bool.true_or, cond_true, cond_false]
      exact St.Le.mk' ⟨rfl, rfl, rfl, rfl, rfl, rfl, rfl, rfl, rfl, rfl, rfl, rfl, rfl, trivial⟩ ⟨rfl, rfl, trivial⟩
    · intro D hid h0 hp hs rest hK
      obtain ⟨d3, -⟩ : AllD D true [3] := ideal_sub hp (by decide +kernel)
      obtain ⟨d5, d10, -⟩ : AllD D false [5, 10] := ideal_sub hs (by decide +kernel)
      simp only [d3, d5, d10, h0, cond_true, cond_false]
      refine Run.go rfl ?_
      refine Run.le ?_ hK
      simp only [d3, d5, d10, h0, Nat.reduceBEq, Bool.false_or, Bool.true_or, cond_true, cond_false]
      exact St.Le.mk' ⟨rfl, rfl, rfl, rfl, rfl, rfl, rfl, rfl, rfl, rfl, rfl, rfl, rfl, trivial⟩ ⟨rfl, rfl, trivial⟩
    · intro D hid h0 hp hs rest hK
      obtain ⟨d3, d4, -⟩ : AllD D true [3, 4] := ideal_sub hp (by decide +kernel)
      obtain ⟨d7, d9, d10, -⟩ : AllD D false [7, 9, 10] := ideal_sub hs (by decide +kernel)
      simp only [d3, d4, d7, d9, d10, h0, cond_true, cond_false]
      refine Run.csA rfl (hT.at hAT) rfl rfl ?_
      refine Run.le ?_ hK
      simp only [d3, d4, d7, d9, d10, h0, Nat.reduceBEq, Bool.false_or, Bool.true_or, cond_true, cond_false]
      exact St.Le.mk' ⟨rfl, rfl, rfl, rfl, rfl, rfl, rfl, rfl, rfl, rfl, rfl, rfl, rfl, trivial⟩ ⟨rfl, rfl, trivial⟩
    · intro D hid h0 hp hs rest hK
      obtain ⟨d3, -⟩ : AllD D true [3] := ideal_sub hp (by decide +kernel)
      obtain ⟨d7, d10, -⟩ : AllD D false [7, 10] := ideal_sub hs (by decide +kernel)
      simp only [d3, d7, d10, h0, cond_true, cond_false]
      refine Run.go rfl ?_
      refine Run.le ?_ hK
      simp only [d3, d7, d10, h0, Nat.reduceBEq, Bool.false_or, Bool.true_or, cond_true, cond_false]
      exact St.Le.mk' ⟨rfl, rfl, rfl, rfl, rfl, rfl, rfl, rfl, rfl, rfl, rfl, rfl, rfl, trivial⟩ ⟨rfl, rfl, trivial⟩
    · intro D hid h0 hp hs rest hK
      obtain ⟨d3, d5, d6, -⟩ : AllD D true [3, 5, 6] := ideal_sub hp (by decide +kernel)
      obtain ⟨d8, d10, -⟩ : AllD D false [8, 10] := ideal_sub hs (by decide +kernel)
      simp only [d3, d5, d6, d8, d10, h0, cond_true, cond_false]
      refine Run.go rfl ?_
      refine Run.le ?_ hK
      simp only [d3, d5, d6, d8, d10, h0, Nat.reduceBEq, Bool.false_or, Bool.true_or, cond_true, cond_false]
      exact St.Le.mk' ⟨rfl, rfl, rfl, rfl, rfl, rfl, rfl, rfl, rfl, rfl, rfl, rfl, rfl, trivial⟩ ⟨rfl, rfl, trivial⟩
    · intro D hid h0 hp hs rest hK
      obtain ⟨d3, d7, -⟩ : AllD D true [3, 7] := ideal_sub hp (by decide +kernel)
      obtain ⟨d10, -⟩ : AllD D false [10] := ideal_sub hs (by decide +kernel)
      simp only [d3, d7, d10, h0, cond_true, cond_false]
      refine Run.go rfl ?_
      refine Run.le ?_ hK
      simp only [d3, d7, d10, h0, Nat.reduceBEq, Bool.false_or, Bool.true_or, cond_true, cond_false]
      exact St.Le.mk' ⟨rfl, rfl, rfl, rfl, rfl, rfl, rfl, rfl, rfl, rfl, rfl, rfl, rfl, trivial⟩ ⟨rfl, rfl, trivial⟩
    · intro D hid h0 hp hs rest hK
      obtain ⟨d0, d5, -⟩ : AllD D true [0, 5] := ideal_sub hp (by decide +kernel)
      obtain ⟨d10, -⟩ : AllD D false [10] := ideal_sub hs (by decide +kernel)
      simp only [d0, d5, d10, h0, cond_true, cond_false]
      refine Run.go rfl ?_
      refine Run.le ?_ hK
      simp only [d0, d5, d10, h0, Nat.reduceBEq, Bool.false_or, Bool.true_or, cond_true, cond_false]
      exact St.Le.mk' ⟨rfl, rfl, rfl, rfl, rfl, rfl, rfl, rfl, rfl, rfl, rfl, rfl, rfl, trivial⟩ ⟨rfl, rfl, trivial⟩
    · intro D hid h0 hp hs rest hK
      obtain ⟨d0, d1, d2, d3, d4, d5, d6, d7, d8, d9, -⟩ : AllD D true [0, 1, 2, 3, 4, 5, 6, 7, 8, 9] := ideal_sub hp (by decide +kernel)
      simp only [d0, d1, d2, d3, d4, d5, d6, d7, d8, d9, h0, cond_true, cond_false]
      refine Run.go rfl ?_
      refine Run.le ?_ hK
      simp only [d0, d1, d2, d3, d4, d5, d6, d7, d8, d9, h0, Nat.reduceBEq, Bool.false_or, Bool.true_or, cond_true, cond_false]
      exact St.Le.mk' ⟨rfl, rfl, rfl, rfl, rfl, rfl, rfl, rfl, rfl, rfl, rfl, rfl, rfl, trivial⟩ ⟨rfl, rfl, trivial⟩
    repeat (refine Run.go rfl ?_)
    refine Run.ret (r := .tup [.agg [i16 n0, u8 (p.toNat : Int), u8 (q.toNat : Int), u8 (r.toNat : Int), i16 n2, i16 nz0, i16 nz1, i16 n4], .lit (.bool ((⟨(bookT B).toArray⟩ : ByteArray).toList == (⟨s.toArray⟩ : ByteArray).toList))]) hg (by kernel_rfl) ?_
    rw [str_eq, Bool.true_and, hbk]
end Go.Proofs.YtbkelajnngdimaaGreatDoor

/- Contracts of the program's functions, and what follows from them. -/
set_option maxRecDepth 100000
namespace Go.Proofs.YtbkelajnngdimaaGreatDoor
open Go Go.Av
end Go.Proofs.YtbkelajnngdimaaGreatDoor

/- Contracts of the program's functions, and what follows from them. -/
set_option maxRecDepth 100000
namespace Go.Proofs.YtbkelajnngdimaaGreatDoor
open Go Go.Av
noncomputable def X64 : Fx := ⟨Tryz.prog, tys, 64, Tryz.f64, [0]⟩
theorem X64_ok : X64.Ok := ⟨Tryz.func64, tys_ok⟩
theorem readPlaced_ct (s : List UInt8) (hlen : s.length ≤ 1048576) : CtA ambA Tryz.prog 64 [str s] (.tup [plA (rpP s).1, bo (rpP s).2]) [] := by
  have hc := Cut_ct s 32 hlen
  obtain ⟨l1, l2⟩ := cut_len (c := 32) s
  have hR : rpP s = (⟨shV (Lib.cut s [32]).1, (rbP (Lib.cut s [32]).2.1).1⟩, (rbP (Lib.cut s [32]).2.1).2) := rfl
  generalize (Lib.cut s [32]).1 = z0 at hR hc l1
  generalize (Lib.cut s [32]).2.1 = z1 at hR hc l2
  generalize (Lib.cut s [32]).2.2 = zz at hc
  have hsh := short_ct z0 (by omega)
  have hb := readBook_ct z1 (by omega)
  generalize shV z0 = n at hR hsh
  generalize (rbP z1).2 = ok at hR hb
  generalize (rbP z1).1 = b at hR hb
  rw [hR]
  obtain ⟨b1, b2, b3, b4, b5, b6, b7, b8⟩ := b
  refine CtA.intro ambA X64 X64_ok rfl (by kernel_rfl) rfl rfl fun g hA hg => ?_
  repeat (refine Run.go rfl ?_)
  refine Run.csA rfl (hc.at hA) rfl rfl ?_
  repeat (refine Run.go rfl ?_)
  refine Run.csA rfl (hb.at hA) rfl rfl ?_
  repeat (refine Run.go rfl ?_)
  refine Run.drawI (fun D => ⟨[(2, .bp (2, 0) 0), (4, str z0), (7, .bp (7, 0) 0), (8, bo ok), (20, bif D 0 then str z0 else .top), (21, bif D 1 then i16 n else .top), (22, bif D 2 then bkA ⟨b1, b2, b3, b4, b5, b6, b7, b8⟩ else .top), (23, bif D 3 then .agg [i16 n, i16 b1, u8 b2, u8 b3, u8 b4, i16 b5, i16 b6, i16 b7, i16 b8] else .top), (24, bif D 4 then bo ok else .top), (3, bif D 6 then bo ok else bo false)], [((2, 0), (bif D 5 then .box (AV.cells (.agg [i16 n, i16 b1, u8 b2, u8 b3, u8 b4, i16 b5, i16 b6, i16 b7, i16 b8])) else .box (plA pl0).cells)), ((7, 0), .box (bkA ⟨b1, b2, b3, b4, b5, b6, b7, b8⟩).cells)]⟩) (by decide +kernel) (by decide +kernel) ?_ ?_ fun k' => ⟨?_, ?_, ?_, ?_, ?_, ?_, ?_, trivial⟩
  · exact St.Le.mk' ⟨rfl, rfl, rfl, rfl, rfl, rfl, rfl, rfl, rfl, rfl, trivial⟩ ⟨rfl, rfl, trivial⟩
  rotate_left
  · intro D hid h0 hp hs rest hK
    obtain ⟨d1, d5, d6, -⟩ : AllD D false [1, 5, 6] := ideal_sub hs (by decide +kernel)
    simp only [d1, d5, d6, h0, cond_true, cond_false]
    refine Run.go rfl ?_
    refine Run.le ?_ hK
    simp only [d1, d5, d6, h0, Nat.reduceBEq, Bool.false_or, Bool.true_or, cond_true, cond_false]
    exact St.Le.mk' ⟨rfl, rfl, rfl, rfl, rfl, rfl, rfl, rfl, rfl, rfl, trivial⟩ ⟨rfl, rfl, trivial⟩
  · intro D hid h0 hp hs rest hK
    obtain ⟨d0, -⟩ : AllD D true [0] := ideal_sub hp (by decide +kernel)
    obtain ⟨d3, d5, d6, -⟩ : AllD D false [3, 5, 6] := ideal_sub hs (by decide +kernel)
    simp only [d0, d3, d5, d6, h0, cond_true, cond_false]
    refine Run.csA rfl (hsh.at hA) rfl rfl ?_
    refine Run.le ?_ hK
    simp only [d0, d3, d5, d6, h0, Nat.reduceBEq, Bool.false_or, Bool.true_or, cond_true, cond_false]
    exact St.Le.mk' ⟨rfl, rfl, rfl, rfl, rfl, rfl, rfl, rfl, rfl, rfl, trivial⟩ ⟨rfl, rfl, trivial⟩
  · intro D hid h0 hp hs rest hK
    obtain ⟨d3, d5, d6, -⟩ : AllD D false [3, 5, 6] := ideal_sub hs (by decide +kernel)
    simp only [d3, d5, d6, h0, cond_true, cond_false]
    refine Run.go rfl ?_
    refine Run.le ?_ hK
    simp only [d3, d5, d6, h0, Nat.reduceBEq, Bool.false_or, Bool.true_or, cond_true, cond_false]
    exact St.Le.mk' ⟨rfl, rfl, rfl, rfl, rfl, rfl, rfl, rfl, rfl, rfl, trivial⟩ ⟨rfl, rfl, trivial⟩
  · intro D hid h0 hp hs rest hK
    obtain ⟨d1, d2, -⟩ : AllD D true [1, 2] := ideal_sub hp (by decide +kernel)
    obtain ⟨d5, d6, -⟩ : AllD D false [5, 6] := ideal_sub hs (by decide +kernel)
    simp only [d1, d2, d5, d6, h0, cond_true, cond_false]
    refine Run.val rfl rfl rfl (ValOk.build (cs := [i16 n, i16 b1, u8 b2, u8 b3, u8 b4, i16 b5, i16 b6, i16 b7, i16 b8]) rfl rfl rfl rfl (by kernel_rfl)) rfl ?_
    refine Run.le ?_ hK
    simp only [d1, d2, d5, d6, h0, Nat.reduceBEq, Bool.false_or, Bool.true_or, cond_true, cond_false]
    exact St.Le.mk' ⟨rfl, rfl, rfl, rfl, rfl, rfl, rfl, rfl, rfl, rfl, trivial⟩ ⟨rfl, rfl, trivial⟩
  · intro D hid h0 hp hs rest hK
    obtain ⟨d6, -⟩ : AllD D false [6] := ideal_sub hs (by decide +kernel)
    simp only [d6, h0, cond_true, cond_false]
    refine Run.go rfl ?_
    refine Run.le ?_ hK
    simp only [d6, h0, Nat.reduceBEq, Bool.false_or, Bool.true_or, cond_true, cond_false]
    exact St.Le.mk' ⟨rfl, rfl, rfl, rfl, rfl, rfl, rfl, rfl, rfl, rfl, trivial⟩ ⟨rfl, rfl, trivial⟩
  · intro D hid h0 hp hs rest hK
    obtain ⟨d0, d1, d2, d3, -⟩ : AllD D true [0, 1, 2, 3] := ideal_sub hp (by decide +kernel)
    obtain ⟨d6, -⟩ : AllD D false [6] := ideal_sub hs (by decide +kernel)
    simp only [d0, d1, d2, d3, d6, h0, cond_true, cond_false]
    refine Run.go rfl ?_
    refine Run.le ?_ hK
    simp only [d0, d1, d2, d3, d6, h0, Nat.reduceBEq, Bool.false_or, Bool.true_or, cond_true, cond_false]
    exact St.Le.mk' ⟨rfl, rfl, rfl, rfl, rfl, rfl, rfl, rfl, rfl, rfl, trivial⟩ ⟨rfl, rfl, trivial⟩
  · intro D hid h0 hp hs rest hK
    obtain ⟨d0, d1, d2, d3, d4, d5, -⟩ : AllD D true [0, 1, 2, 3, 4, 5] := ideal_sub hp (by decide +kernel)
    simp only [d0, d1, d2, d3, d4, d5, h0, cond_true, cond_false]
    refine Run.go rfl ?_
    refine Run.le ?_ hK
    simp only [d0, d1, d2, d3, d4, d5, h0, Nat.reduceBEq, Bool.false_or, Bool.true_or, cond_true, cond_false]
    exact St.Le.mk' ⟨rfl, rfl, rfl, rfl, rfl, rfl, rfl, rfl, rfl, rfl, trivial⟩ ⟨rfl, rfl, trivial⟩
  repeat (refine Run.go rfl ?_)
  exact Run.ret (r := .tup [.agg [i16 n, i16 b1, u8 b2, u8 b3, u8 b4, i16 b5, i16 b6, i16 b7, i16 b8], bo ok]) hg (by kernel_rfl) rfl
def rpSt (s : List UInt8) (n : Nat) : St := ⟨[(5, .bp (5, 0) 0), (6, .bp (6, 0) 0), (7, .bp (7, 0) 0), (8, .bp (8, 0) 0)],
  [((5, 0), .box [.fn 64 []]), ((6, 0), .box [.lit (.slice none 0 0)]), ((7, 0), .box [bo false]), ((8, 0), .box [.own 9 false (((lines s).take n).map fun l => plA (rpP l).1)])]⟩
def rpSx (n : Nat) : St := ⟨[(6, .bp (6, 0) 0), (7, .bp (7, 0) 0)], [((6, 0), .box [.lit (.slice none 0 0)]), ((7, 0), .box [bo false])]⟩
noncomputable def X63 : Fx := ⟨Tryz.prog, tys, 63, Tryz.f63, []⟩
theorem X63_ok : X63.Ok := ⟨Tryz.func63, tys_ok⟩
theorem readLinesPlaced_ct (s : List UInt8) (hlen : s.length ≤ 1048576) : CtA ambA Tryz.prog 63 [str s, i64 60, .fn 64 []] (.tup [.own 9 false ((rdLP s).1.map plA), bo (rdLP s).2]) [] := by
  refine CtA.intro ambA X63 X63_ok rfl (by kernel_rfl) rfl rfl fun g hA hg => ?_
  have hen : (Tryz.prog.funcs[218]?).map (fun fn => (fn.body.isSome, fn.name == "runtime.NumGoroutine")) = some (true, false) := by kernel_rfl
  iterate 8 (refine Run.go rfl ?_)
  refine Run.region ⟨[(0, str s), (5, .bp (5, 0) 0), (6, .bp (6, 0) 0), (7, .bp (7, 0) 0), (24, bo (!(rdOk s 60)))], [((5, 0), .box [.fn 64 []]), ((6, 0), .box [.lit (.slice none 0 0)]), ((7, 0), .box [bo false])]⟩ ?_ fun k' hN => ?_
  rotate_left
  · have fin : ∀ {v : Bool} {st : St}, v = (!(rdOk s 60)) → st.get 24 = bo v → st.get 24 = bo (!(rdOk s 60)) := fun e h => by rw [← e]; exact h
    have hne : ∀ b, (!((⟨s.toArray⟩ : ByteArray).toList == (⟨([] : List UInt8).toArray⟩ : ByteArray).toList)) = b → decide (s = []) = !b := fun b hb => by
      rw [str_eq] at hb
      rw [← hb, Bool.not_not]
    repeat (refine Run.go rfl ?_)
    refine Run.bool 14 rfl (fun h => ?_) (fun h => ?_)
    · have hs0 := hne true h
      have hE : ended s = decide (s.getLast? = some 10) := by
        simp only [Bool.not_true, decide_eq_false_iff_not] at hs0
        simp [ended, hs0]
      repeat (refine Run.go rfl ?_)
      refine Run.cs rfl (HasSuffix_ct s hlen) rfl rfl ?_
      repeat (refine Run.go rfl ?_)
      refine Run.bool 19 rfl (fun h2 => ?_) (fun h2 => ?_)
      · repeat (refine Run.go rfl ?_)
        refine Run.of hN ⟨rfl, rfl, rfl, rfl, fin (v := true) ?_ rfl, trivial⟩ ⟨rfl, rfl, rfl, trivial⟩
        have h2 : (!(decide (s.getLast? = some 10))) = true := h2
        rw [← hE] at h2
        have h2 : ended s = false := by simpa using h2
        rw [rdOk, h2]; rfl
      · have h2 : (!(decide (s.getLast? = some 10))) = false := h2
        rw [← hE] at h2
        have h2 : ended s = true := by simpa using h2
        repeat (refine Run.go rfl ?_)
        refine Run.cs rfl (Count_ct s) rfl rfl ?_
        repeat (refine Run.go rfl ?_)
        refine Run.of hN ⟨rfl, rfl, rfl, rfl, fin (v := decide ((s.count 10 : Int) > 60)) ?_ rfl, trivial⟩ ⟨rfl, rfl, rfl, trivial⟩
        rw [rdOk, h2, Bool.true_and, ← decide_not]
        refine decide_eq_decide.2 ?_
        omega
    · have hs0 := hne false h
      have h2 : ended s = true := by
        simp only [Bool.not_false, decide_eq_true_eq] at hs0
        simp [ended, hs0]
      repeat (refine Run.go rfl ?_)
      refine Run.cs rfl (Count_ct s) rfl rfl ?_
      repeat (refine Run.go rfl ?_)
      refine Run.of hN ⟨rfl, rfl, rfl, rfl, fin (v := decide ((s.count 10 : Int) > 60)) ?_ rfl, trivial⟩ ⟨rfl, rfl, rfl, trivial⟩
      rw [rdOk, h2, Bool.true_and, ← decide_not]
      refine decide_eq_decide.2 ?_
      omega
  refine Run.cond rfl (fun h => ?_) (fun h => ?_)
  · have h : rdOk s 60 = false := by simpa using h
    have hR : rdLP s = ([], false) := by rw [rdLP, h]; rfl
    rw [hR] at hg
    repeat (refine Run.go rfl ?_)
    refine Run.nilBox (6, 0) 0 9 false rfl rfl ?_
    exact Run.ret hg rfl rfl
  have h : rdOk s 60 = true := by simpa using h
  have hE : ended s = true := by rw [rdOk, Bool.and_eq_true] at h; exact h.1
  obtain ⟨ls, hs1, hs2⟩ := spl_lnE _ s (Nat.le_refl _) hE
  have hls : lines s = ls := by rw [lines, hs1]; simp
  have hlw : ∀ w ∈ ls, w.length ≤ s.length := fun w hw => spl_wlen (c := 10) (by rw [hs1]; simp [hw])
  have hll : ls.length ≤ s.length := by
    have := spl_len 10 s
    rw [hs1] at this
    simp at this
    omega
  repeat (refine Run.go rfl ?_)
  refine Run.mem0 (26, 0) rfl ?_
  refine Run.callM (26, 0) (fun _ => True) lnFn (fun B => lnBox B s) rfl rfl rfl rfl rfl (vs := [.string ⟨s.toArray⟩]) rfl rfl (by kernel_rfl) (fun w _ => Lines_calls s w) rfl fun B _ => ?_
  refine Run.nilBox (8, 0) 0 9 false rfl rfl ?_
  repeat (refine Run.go rfl ?_)
  refine Run.rangeFunc (26, 0) (99, 9) [5, 6, 7, 8] (rpSt s) rpSx (fun n => ((lines s).take n).all (fun l => (rpP l).2) = true) (fun n => (lines s).all (fun l => (rpP l).2) = false) (by simp) hg (Lines1_seq s hlen B) hen rfl rfl ?_ (fun n => rfl) (fun n => rfl) (fun n => rfl) (fun n => rfl) rfl ?_ ?_ ?_
  · exact St.Le.mk' ⟨rfl, rfl, rfl, rfl, trivial⟩ ⟨rfl, rfl, rfl, rfl, trivial⟩
  · intro n x gr l r hIn hx hrs hAr hgr
    have hA1 := hAr ambA hA
    rw [hs2, List.map_map, List.getElem?_map] at hx
    obtain ⟨ln, hln, rfl⟩ := Option.map_eq_some_iff.1 hx
    clear hx
    have hlm : ln ∈ ls := List.mem_of_getElem? hln
    have hlen1 : ln.length ≤ 1048576 := Nat.le_trans (hlw ln hlm) hlen
    obtain ⟨t, ht⟩ : ∃ t, t = ln ++ [10] := ⟨_, rfl⟩
    have htr := TrimSuffix_ct ln t ht (by rw [ht]; simp; omega)
    have hra := readPlaced_ct ln hlen1
    have hnl : n < ls.length := (List.getElem?_eq_some_iff.1 hln).1
    have hnext : ((lines s).take (n + 1)).map (fun l => plA (rpP l).1) = ((lines s).take n).map (fun l => plA (rpP l).1) ++ [plA (rpP ln).1] := by
      rw [hls, List.take_add_one, hln]
      simp
    have hIn1 : ((lines s).take (n + 1)).all (fun l => (rpP l).2) = (rpP ln).2 := by
      rw [hls] at hIn ⊢
      rw [List.take_add_one, hln, List.all_append, hIn]
      simp
    have hIx1 : (rpP ln).2 = false → (lines s).all (fun l => (rpP l).2) = false := fun h => by
      rw [hls]
      exact List.all_eq_false.2 ⟨ln, hlm, by rw [h]; simp⟩
    have hlenY : (((lines s).take n).map (fun l => plA (rpP l).1)).length ≤ 1048576 := by
      rw [List.length_map, List.length_take, hls]; omega
    have hSn : rpSt s (n + 1) = ⟨[(5, .bp (5, 0) 0), (6, .bp (6, 0) 0), (7, .bp (7, 0) 0), (8, .bp (8, 0) 0)],
        [((5, 0), .box [.fn 64 []]), ((6, 0), .box [.lit (.slice none 0 0)]), ((7, 0), .box [bo false]), ((8, 0), .box [.own 9 false (((lines s).take n).map (fun l => plA (rpP l).1) ++ [plA (rpP ln).1])])]⟩ := by
      rw [← hnext]; rfl
    rw [hSn] at hgr
    show Run _ _ _ (St.put (St.setObj (rpSt s n) (99, 9) (.mem [(l, .loop r)])) 27 (.lit (.string ⟨(ln ++ [10]).toArray⟩)))
    rw [← ht]
    show Run _ _ _ (St.put (St.setObj ⟨[(5, .bp (5, 0) 0), (6, .bp (6, 0) 0), (7, .bp (7, 0) 0), (8, .bp (8, 0) 0)],
        [((5, 0), .box [.fn 64 []]), ((6, 0), .box [.lit (.slice none 0 0)]), ((7, 0), .box [bo false]), ((8, 0), .box [.own 9 false (((lines s).take n).map (fun l => plA (rpP l).1))])]⟩ (99, 9) (.mem [(l, .loop r)])) 27 (str t))
    generalize ((lines s).take n).map (fun l => plA (rpP l).1) = Ys at hgr hlenY
    generalize (rpP ln).2 = ok at hra hIn1 hIx1
    generalize (rpP ln).1 = A at hra hgr
    clear hnext hSn
    repeat (refine Run.go rfl ?_)
    refine Run.beginRound (99, 9) hgr rfl hrs ?_
    generalize hrb : ({ r with state := .busy } : Loop) = rb at hgr
    repeat (refine Run.go rfl ?_)
    refine Run.drawI (fun D => ⟨[(5, .bp (5, 0) 0), (6, .bp (6, 0) 0), (7, .bp (7, 0) 0), (8, .bp (8, 0) 0), (9, str t), (29, bif D 0 then .fn 64 [] else .top), (30, bif D 1 then str t else .top), (31, bif D 2 then str ln else .top), (32, bif D 4 then .top else bif D 3 then .tup [plA A, bo ok] else .top), (28, bif D 4 then .tup [plA A, bo ok] else .top), (33, bif D 5 then plA A else .top), (34, bif D 6 then bo ok else .top), (10, bif D 7 then .bp (10, 0) 0 else .top), (11, bif D 9 then bo ok else .top)], [((5, 0), .box [.fn 64 []]), ((6, 0), .box [.lit (.slice none 0 0)]), ((7, 0), .box [bo false]), ((8, 0), .box [.own 9 false Ys]), ((99, 9), .mem [(l, .loop rb)]), ((10, 0), (bif D 8 then .box (plA A).cells else (bif D 7 then .box (plA pl0).cells else .gone)))]⟩) (by decide +kernel) (by decide +kernel) ?_ ?_ fun k' => ⟨?_, ?_, ?_, ?_, ?_, ?_, ?_, ?_, ?_, ?_, trivial⟩
    · exact St.Le.mk' ⟨rfl, rfl, rfl, rfl, rfl, rfl, rfl, rfl, rfl, rfl, rfl, rfl, rfl, rfl, trivial⟩ ⟨rfl, rfl, rfl, rfl, rfl, rfl, trivial⟩
    rotate_left
    · intro D hid h0 hp hs rest hK
      obtain ⟨d3, d8, d9, -⟩ : AllD D false [3, 8, 9] := ideal_sub hs (by decide +kernel)
      simp only [d3, d8, d9, h0, cond_true, cond_false]
      refine Run.go rfl ?_
      refine Run.le ?_ hK
      simp only [d3, d8, d9, h0, Nat.reduceBEq, Bool.false_or, Bool.true_or, cond_true, cond_false]
      exact St.Le.mk' ⟨rfl, rfl, rfl, rfl, rfl, rfl, rfl, rfl, rfl, rfl, rfl, rfl, rfl, rfl, trivial⟩ ⟨rfl, rfl, rfl, rfl, rfl, rfl, trivial⟩
    · intro D hid h0 hp hs rest hK
      obtain ⟨d2, d8, d9, -⟩ : AllD D false [2, 8, 9] := ideal_sub hs (by decide +kernel)
      simp only [d2, d8, d9, h0, cond_true, cond_false]
      refine Run.go rfl ?_
      refine Run.le ?_ hK
      simp only [d2, d8, d9, h0, Nat.reduceBEq, Bool.false_or, Bool.true_or, cond_true, cond_false]
      exact St.Le.mk' ⟨rfl, rfl, rfl, rfl, rfl, rfl, rfl, rfl, rfl, rfl, rfl, rfl, rfl, rfl, trivial⟩ ⟨rfl, rfl, rfl, rfl, rfl, rfl, trivial⟩
    · intro D hid h0 hp hs rest hK
      obtain ⟨d1, -⟩ : AllD D true [1] := ideal_sub hp (by decide +kernel)
      obtain ⟨d3, d8, d9, -⟩ : AllD D false [3, 8, 9] := ideal_sub hs (by decide +kernel)
      simp only [d1, d3, d8, d9, h0, cond_true, cond_false]
      refine Run.cs rfl htr rfl rfl ?_
      refine Run.le ?_ hK
      simp only [d1, d3, d8, d9, h0, Nat.reduceBEq, Bool.false_or, Bool.true_or, cond_true, cond_false]
      exact St.Le.mk' ⟨rfl, rfl, rfl, rfl, rfl, rfl, rfl, rfl, rfl, rfl, rfl, rfl, rfl, rfl, trivial⟩ ⟨rfl, rfl, rfl, rfl, rfl, rfl, trivial⟩
    · intro D hid h0 hp hs rest hK
      obtain ⟨d0, d2, -⟩ : AllD D true [0, 2] := ideal_sub hp (by decide +kernel)
      obtain ⟨d4, d8, d9, -⟩ : AllD D false [4, 8, 9] := ideal_sub hs (by decide +kernel)
      simp only [d0, d2, d4, d8, d9, h0, cond_true, cond_false]
      refine Run.csA rfl (hra.at hA1) rfl rfl ?_
      refine Run.le ?_ hK
      simp only [d0, d2, d4, d8, d9, h0, Nat.reduceBEq, Bool.false_or, Bool.true_or, cond_true, cond_false]
      exact St.Le.mk' ⟨rfl, rfl, rfl, rfl, rfl, rfl, rfl, rfl, rfl, rfl, rfl, rfl, rfl, rfl, trivial⟩ ⟨rfl, rfl, rfl, rfl, rfl, rfl, trivial⟩
    · intro D hid h0 hp hs rest hK
      obtain ⟨d3, -⟩ : AllD D true [3] := ideal_sub hp (by decide +kernel)
      obtain ⟨d5, d6, d8, d9, -⟩ : AllD D false [5, 6, 8, 9] := ideal_sub hs (by decide +kernel)
      simp only [d3, d5, d6, d8, d9, h0, cond_true, cond_false]
      refine Run.go rfl ?_
      refine Run.le ?_ hK
      simp only [d3, d5, d6, d8, d9, h0, Nat.reduceBEq, Bool.false_or, Bool.true_or, cond_true, cond_false]
      exact St.Le.mk' ⟨rfl, rfl, rfl, rfl, rfl, rfl, rfl, rfl, rfl, rfl, rfl, rfl, rfl, rfl, trivial⟩ ⟨rfl, rfl, rfl, rfl, rfl, rfl, trivial⟩
    · intro D hid h0 hp hs rest hK
      obtain ⟨d4, -⟩ : AllD D true [4] := ideal_sub hp (by decide +kernel)
      obtain ⟨d8, d9, -⟩ : AllD D false [8, 9] := ideal_sub hs (by decide +kernel)
      simp only [d4, d8, d9, h0, cond_true, cond_false]
      refine Run.go rfl ?_
      refine Run.le ?_ hK
      simp only [d4, d8, d9, h0, Nat.reduceBEq, Bool.false_or, Bool.true_or, cond_true, cond_false]
      exact St.Le.mk' ⟨rfl, rfl, rfl, rfl, rfl, rfl, rfl, rfl, rfl, rfl, rfl, rfl, rfl, rfl, trivial⟩ ⟨rfl, rfl, rfl, rfl, rfl, rfl, trivial⟩
    · intro D hid h0 hp hs rest hK
      obtain ⟨d4, -⟩ : AllD D true [4] := ideal_sub hp (by decide +kernel)
      obtain ⟨d9, -⟩ : AllD D false [9] := ideal_sub hs (by decide +kernel)
      simp only [d4, d9, h0, cond_true, cond_false]
      refine Run.go rfl ?_
      refine Run.le ?_ hK
      simp only [d4, d9, h0, Nat.reduceBEq, Bool.false_or, Bool.true_or, cond_true, cond_false]
      exact St.Le.mk' ⟨rfl, rfl, rfl, rfl, rfl, rfl, rfl, rfl, rfl, rfl, rfl, rfl, rfl, rfl, trivial⟩ ⟨rfl, rfl, rfl, rfl, rfl, rfl, trivial⟩
    · intro D hid h0 hp hs rest hK
      obtain ⟨d8, d9, -⟩ : AllD D false [8, 9] := ideal_sub hs (by decide +kernel)
      simp only [d8, d9, h0, cond_true, cond_false]
      refine Run.alloc rfl rfl rfl rfl rfl rfl (by cases D 0 <;> cases D 1 <;> cases D 2 <;> cases D 3 <;> cases D 4 <;> cases D 5 <;> cases D 6 <;> rfl) rfl ?_
      refine Run.le ?_ hK
      simp only [d8, d9, h0, Nat.reduceBEq, Bool.false_or, Bool.true_or, cond_true, cond_false]
      exact St.Le.mk' ⟨rfl, rfl, rfl, rfl, rfl, rfl, rfl, rfl, rfl, rfl, rfl, rfl, rfl, rfl, trivial⟩ ⟨rfl, rfl, rfl, rfl, rfl, rfl, trivial⟩
    · intro D hid h0 hp hs rest hK
      obtain ⟨d0, d1, d2, d3, d4, d5, d7, -⟩ : AllD D true [0, 1, 2, 3, 4, 5, 7] := ideal_sub hp (by decide +kernel)
      obtain ⟨d9, -⟩ : AllD D false [9] := ideal_sub hs (by decide +kernel)
      simp only [d0, d1, d2, d3, d4, d5, d7, d9, h0, cond_true, cond_false]
      refine Run.go rfl ?_
      refine Run.le ?_ hK
      simp only [d0, d1, d2, d3, d4, d5, d7, d9, h0, Nat.reduceBEq, Bool.false_or, Bool.true_or, cond_true, cond_false]
      exact St.Le.mk' ⟨rfl, rfl, rfl, rfl, rfl, rfl, rfl, rfl, rfl, rfl, rfl, rfl, rfl, rfl, trivial⟩ ⟨rfl, rfl, rfl, rfl, rfl, rfl, trivial⟩
    · intro D hid h0 hp hs rest hK
      obtain ⟨d0, d1, d2, d3, d4, d5, d6, d7, d8, -⟩ : AllD D true [0, 1, 2, 3, 4, 5, 6, 7, 8] := ideal_sub hp (by decide +kernel)
      simp only [d0, d1, d2, d3, d4, d5, d6, d7, d8, h0, cond_true, cond_false]
      refine Run.go rfl ?_
      refine Run.le ?_ hK
      simp only [d0, d1, d2, d3, d4, d5, d6, d7, d8, h0, Nat.reduceBEq, Bool.false_or, Bool.true_or, cond_true, cond_false]
      exact St.Le.mk' ⟨rfl, rfl, rfl, rfl, rfl, rfl, rfl, rfl, rfl, rfl, rfl, rfl, rfl, rfl, trivial⟩ ⟨rfl, rfl, rfl, rfl, rfl, rfl, trivial⟩
    repeat (refine Run.go rfl ?_)
    refine Run.cond rfl (fun h => ?_) (fun h => ?_)
    · repeat (refine Run.go rfl ?_)
      exact Run.roundRet hgr (hIx1 (by simpa using h)) (St.Le.mk' ⟨rfl, rfl, trivial⟩ ⟨rfl, rfl, rfl, trivial⟩)
    · refine Run.unBox (8, 0) 0 (8, 1) rfl rfl rfl (by decide) ?_
      repeat (refine Run.go rfl ?_)
      refine Run.buildSlice [plA A] rfl rfl rfl rfl rfl rfl rfl rfl rfl rfl rfl rfl rfl rfl ?_
      refine Run.appendo rfl rfl rfl rfl rfl rfl rfl rfl rfl rfl rfl rfl rfl rfl (by show (Ys.length + 1) * 16 ≤ 140737488355328; omega) (by simp [capMax]; omega) (by decide) rfl ?_
      refine Run.unpack 40 rfl rfl ?_
      repeat (refine Run.go rfl ?_)
      refine Run.packBox (8, 0) 0 rfl rfl rfl rfl ?_
      repeat (refine Run.go rfl ?_)
      exact Run.roundEnd hgr (by rw [hIn1]; simpa using h) (St.Le.mk' ⟨rfl, rfl, rfl, rfl, trivial⟩ ⟨rfl, rfl, rfl, rfl, rfl, trivial⟩)
  · intro g2 D hA2 hg2 hD hall
    have hN : ((lnE s).map fun l => Value.string ⟨l.toArray⟩).length = ls.length := by rw [hs2]; simp
    rw [hN, hls, List.take_length] at hall
    have hR : rdLP s = (ls.map fun l => (rpP l).1, true) := by rw [rdLP, h, hls, hall]; rfl
    rw [hR] at hg2
    have hSn : rpSt s ls.length = ⟨[(5, .bp (5, 0) 0), (6, .bp (6, 0) 0), (7, .bp (7, 0) 0), (8, .bp (8, 0) 0)],
        [((5, 0), .box [.fn 64 []]), ((6, 0), .box [.lit (.slice none 0 0)]), ((7, 0), .box [bo false]), ((8, 0), .box [.own 9 false ((ls.map fun l => (rpP l).1).map plA)])]⟩ := by
      rw [rpSt, hls, List.take_length, List.map_map]; rfl
    rw [hN, hSn]
    generalize (ls.map fun l => (rpP l).1) = As at hg2
    refine Run.unBox (8, 0) 0 (8, 1) rfl rfl rfl (by decide) ?_
    repeat (refine Run.go rfl ?_)
    refine Run.packBox (6, 0) 0 rfl rfl rfl rfl ?_
    exact Run.retM hg2 hD rfl rfl
  · intro n g2 D hA2 hg2 hD hall
    have hR : rdLP s = ([], false) := by rw [rdLP, hall]; simp
    rw [hR] at hg2
    refine Run.nilBox (6, 0) 0 9 false rfl rfl ?_
    exact Run.retM hg2 hD rfl rfl
end Go.Proofs.YtbkelajnngdimaaGreatDoor

/- Contracts of the program's functions, and what follows from them. -/
set_option maxRecDepth 100000
namespace Go.Proofs.YtbkelajnngdimaaGreatDoor
open Go Go.Av
theorem rdLP_len (s : List UInt8) : (rdLP s).1.length ≤ 60 := by
  obtain ⟨w, h1, h2, h3⟩ := lines_facts s
  rw [rdLP]
  split
  · rename_i h
    rw [Bool.and_eq_true, rdOk, Bool.and_eq_true, decide_eq_true_eq] at h
    simp only [List.length_map]
    omega
  · simp
theorem rdLP_rng (s : List UInt8) : ∀ x ∈ (rdLP s).1, plRng x := by
  intro x hx
  rw [rdLP] at hx
  split at hx
  · obtain ⟨l, _, rfl⟩ := List.mem_map.1 hx
    refine ⟨?_, rbP_rng _⟩
    have := shV_ge (Lib.cut l [32]).1
    simp only [rpP, i16r]
    omega
  · simp at hx
theorem rkC_ok (s : List UInt8) : rkOk (rkC s) := by
  refine ⟨⟨?_, ?_⟩, rdLP_rng _⟩
  · have := shV_ge (Lib.cut s [10]).1
    simp only [rkC, i16r]
    omega
  · have := rdLP_len (Lib.cut s [10]).2.1
    simp only [rkC]
    omega
noncomputable def X9 : Fx := ⟨Tryz.prog, tys, 9, Tryz.f9, [0]⟩
theorem X9_ok : X9.Ok := ⟨Tryz.func9, tys_ok⟩
theorem implReadRack_ct (s : List UInt8) (hlen : s.length ≤ 1048576) : CtA ambA Tryz.prog 9 [str s] (rkRes (rkP s)) [] := by
  have hc := Cut_ct s 10 hlen
  obtain ⟨l1, l2⟩ := cut_len (c := 10) s
  have hok := rkC_ok s
  have hC : rkC s = ⟨shV (Lib.cut s [10]).1, (rdLP (Lib.cut s [10]).2.1).1⟩ := rfl
  have hR : rkP s = if ((Lib.cut s [10]).2.2 && (rdLP (Lib.cut s [10]).2.1).2 && vR (rkC s) && decide (rkT (rkC s) = s)) = true then (rkC s, 0) else (rk0, 5) := rfl
  generalize (Lib.cut s [10]).1 = z0 at hR hC hc l1
  generalize (Lib.cut s [10]).2.1 = z1 at hR hC hc l2
  generalize (Lib.cut s [10]).2.2 = zz at hR hc
  have hsh := short_ct z0 (by omega)
  have hrl := readLinesPlaced_ct z1 (by omega)
  generalize (rdLP z1).2 = fine at hR hrl
  generalize hl : (rdLP z1).1 = l at hC hrl
  generalize rkC s = r at hok hC hR
  obtain ⟨pl, bs⟩ := r
  simp only [Rk.mk.injEq] at hC
  obtain ⟨c1, c2⟩ := hC
  rw [← c1] at hsh
  rw [← c2] at hrl
  have hbl : bs.length ≤ 1048576 := hok.1.2
  obtain ⟨bad, hbad⟩ : ∃ bad, bad = !(zz && fine && vR ⟨pl, bs⟩ && decide (rkT ⟨pl, bs⟩ = s)) := ⟨_, rfl⟩
  refine CtA.intro ambA X9 X9_ok rfl (by kernel_rfl) rfl rfl fun g hA hg => ?_
  have hAT := ambA_T hA
  repeat (refine Run.go rfl ?_)
  refine Run.csA rfl (hc.at hA) rfl rfl ?_
  repeat (refine Run.go rfl ?_)
  refine Run.csA rfl (hrl.at hA) rfl (by simp only [AV.rf, AV.rfL, rfP]; rfl) ?_
  repeat (refine Run.go rfl ?_)
  refine Run.csA rfl (hsh.at hA) rfl rfl ?_
  repeat (refine Run.go rfl ?_)
  refine Run.val rfl rfl rfl (ValOk.build (cs := [i16 pl, .vec (7, 0) 0 (bs.map plA).length]) rfl rfl rfl rfl (by kernel_rfl)) rfl ?_
  iterate 5 (refine Run.go rfl ?_)
  refine Run.region ⟨[(2, .bp (2, 0) 0), (9, .bp (9, 0) 0), (41, bo bad)], [((2, 0), .box [i16 0, .lit (.slice none 0 0)]), ((7, 0), .vec 9 false (bs.map plA)), ((9, 0), .box [i16 pl, .vec (7, 0) 0 (bs.map plA).length])]⟩ ?_ fun k' hN => ?_
  rotate_left
  · have fin : ∀ {v : Bool}, v = bad → bo v = bo bad := fun e => by rw [e]
    have hV := implValidRack_ct ⟨pl, bs⟩ false hok
    cases zz with
    | false =>
      repeat (refine Run.go rfl ?_)
      exact Run.of hN ⟨rfl, rfl, fin (v := true) (by rw [hbad]; rfl), trivial⟩ ⟨rfl, rfl, rfl, trivial⟩
    | true =>
    cases fine with
    | false =>
      repeat (refine Run.go rfl ?_)
      exact Run.of hN ⟨rfl, rfl, fin (v := true) (by rw [hbad]; rfl), trivial⟩ ⟨rfl, rfl, rfl, trivial⟩
    | true =>
    cases hv : vR ⟨pl, bs⟩ with
    | false =>
      rw [hv] at hV hbad
      repeat (refine Run.go rfl ?_)
      refine Run.cs rfl hV (by rw [frzP, decide_eq_true rfl]; rfl) rfl ?_
      repeat (refine Run.go rfl ?_)
      exact Run.of hN ⟨rfl, rfl, fin (v := true) (by rw [hbad]; rfl), trivial⟩ ⟨rfl, rfl, rfl, trivial⟩
    | true =>
      have hT := rackText_ct ⟨pl, bs⟩ false hbl (vR_num hok hv)
      rw [hv] at hV hbad
      repeat (refine Run.go rfl ?_)
      refine Run.cs rfl hV (by rw [frzP, decide_eq_true rfl]; rfl) rfl ?_
      repeat (refine Run.go rfl ?_)
      refine Run.csA rfl (hT.at hAT) (by rw [frzP, decide_eq_true rfl]; rfl) rfl ?_
      repeat (refine Run.go rfl ?_)
      refine Run.of hN ⟨rfl, rfl, fin (v := !((⟨(rkT ⟨pl, bs⟩).toArray⟩ : ByteArray).toList == (⟨s.toArray⟩ : ByteArray).toList)) ?_, trivial⟩ ⟨rfl, rfl, rfl, trivial⟩
      rw [hbad, str_eq]
      rfl
  refine Run.cond rfl (fun h => ?_) (fun h => ?_)
  · rw [hbad, Bool.not_eq_true'] at h
    rw [h] at hR
    have hR : rkP s = (rk0, 5) := hR
    rw [hR] at hg
    repeat (refine Run.go rfl ?_)
    refine Run.val rfl rfl rfl (ValOk.build rfl rfl rfl rfl rfl) rfl ?_
    repeat (refine Run.go rfl ?_)
    refine Run.nilBox (2, 0) 1 9 false rfl rfl ?_
    exact Run.ret (r := .tup [.agg [i16 0, .own 9 false []], i64 5]) hg (by kernel_rfl) rfl
  · rw [hbad, Bool.not_eq_false'] at h
    rw [if_pos h] at hR
    rw [hR] at hg
    repeat (refine Run.go rfl ?_)
    refine Run.packBox (2, 0) 1 rfl rfl rfl rfl ?_
    exact Run.ret (r := .tup [.agg [i16 pl, .own 9 false (bs.map plA)], i64 0]) hg (by kernel_rfl) rfl
end Go.Proofs.YtbkelajnngdimaaGreatDoor

/- Contracts of the program's functions, and what follows from them. -/
set_option maxRecDepth 100000
namespace Go.Proofs.YtbkelajnngdimaaGreatDoor
open Go Go.Av
end Go.Proofs.YtbkelajnngdimaaGreatDoor

/- Contracts of the program's functions, and what follows from them. -/
set_option maxRecDepth 100000
namespace Go.Proofs.YtbkelajnngdimaaGreatDoor
open Go Go.Av
def srcL (ex : Bool) (C : List Int) (n s : Int) : List AV := [.ro 1 ex (C.map u8), i64 n, .lit (.int .u64 s)]
def nxS (s b : Int) : Int := IntKind.u64.wrap (IntKind.u64.wrap (IntKind.u64.wrap (s * 6364136223846793005) + IntKind.u64.wrap b) + 1442695040888963407)
def drR (s : Int) : Int := IntKind.i64.wrap (IntKind.u64.wrap (BitVec.ofInt 64 (s.fdiv (2 ^ min (40 : Int).toNat 64)) &&& BitVec.ofInt 64 255).toNat)
theorem drR_rng (s : Int) : 0 ≤ drR s ∧ drR s ≤ 255 := by
  have h : (BitVec.ofInt 64 (s.fdiv (2 ^ min (40 : Int).toNat 64)) &&& BitVec.ofInt 64 255).toNat ≤ 255 := by
    rw [BitVec.toNat_and]
    exact Nat.and_le_right
  have hu : ∀ n : Nat, n ≤ 255 → IntKind.u64.wrap (n : Int) = n := by
    intro n hn
    show _ = _
    simp [IntKind.wrap, IntKind.bits, IntKind.signed]
    omega
  unfold drR
  rw [hu _ h, wrap_i64 (by omega) (by omega)]
  omega
noncomputable def X182 : Fx := ⟨Tryz.prog, tys, 182, Tryz.f182, [0]⟩
theorem X182_ok : X182.Ok := ⟨Tryz.func182, tys_ok⟩
theorem next_ct (ex : Bool) (C : List Int) (hC : C.length ≤ 1048576) (hb : ∀ x ∈ C, 0 ≤ x ∧ x ≤ 255) (n s : Int) (hn : 0 ≤ n ∧ n ≤ 1000000000) :
    ∃ r s', (0 ≤ r ∧ r ≤ 255) ∧ CtG Tryz.prog 182 [.bp lid 0] (.box (srcL ex C n s)) (i64 r) (.box (srcL ex C (n + 1) s')) := by
  have hw : IntKind.i64.wrap (n + 1) = n + 1 := wrap_i64 (by omega) (by omega)
  have hl : ((C.map u8).length : Int) = C.length := by rw [List.length_map]
  by_cases h : n < C.length
  · have hlt : n.toNat < C.length := by omega
    refine ⟨C[n.toNat], nxS s C[n.toNat], hb _ (List.getElem_mem hlt), ?_⟩
    have hx := hb _ (List.getElem_mem hlt)
    refine CtG.intro X182 X182_ok rfl (by kernel_rfl) rfl rfl rfl rfl rfl fun g v0 hg => ?_
    unfold srcL
    repeat (refine Run.go rfl ?_)
    refine Run.draw (by kernel_rfl) (by decide +kernel) ?_
    repeat (refine Quiet.go rfl ?_)
    refine Quiet.nil ?_
    repeat (refine Run.go rfl ?_)
    refine Run.cond rfl (fun _ => ?_) (fun h' => absurd h (by simpa using h'))
    refine Run.draw (by kernel_rfl) (by decide +kernel) ?_
    repeat (refine Quiet.go rfl ?_)
    refine Quiet.val rfl rfl (ValOk.idx (u8 C[n.toNat]) rfl rfl rfl rfl rfl (by omega) (by rw [List.getElem?_map, List.getElem?_eq_getElem hlt]; rfl)) rfl ?_
    repeat (refine Quiet.go rfl ?_)
    refine Quiet.nil ?_
    repeat (refine Run.go rfl ?_)
    refine Run.draw (by kernel_rfl) (by decide +kernel) ?_
    repeat (refine Quiet.go rfl ?_)
    refine Quiet.nil ?_
    repeat (refine Run.go rfl ?_)
    refine Run.cond rfl (fun _ => ?_) (fun h' => absurd (show IntKind.i64.wrap (n + 1) ≤ ((C.map u8).length : Nat) by rw [hw]; omega) (by simpa using h'))
    repeat (refine Run.go rfl ?_)
    refine Run.retG hg rfl ?_ ?_ rfl rfl rfl
    · show i64 (IntKind.i64.wrap C[n.toNat]) = _
      rw [wrap_i64 (by omega) (by omega)]
    · show Ob.box [_, i64 (IntKind.i64.wrap (n + 1)), .lit (.int .u64 (nxS s (IntKind.i64.wrap C[n.toNat])))] = _
      rw [hw, wrap_i64 (by omega) (by omega)]
      rfl
  · refine ⟨drR (nxS s 0), nxS s 0, drR_rng _, ?_⟩
    refine CtG.intro X182 X182_ok rfl (by kernel_rfl) rfl rfl rfl rfl rfl fun g v0 hg => ?_
    unfold srcL
    repeat (refine Run.go rfl ?_)
    refine Run.draw (by kernel_rfl) (by decide +kernel) ?_
    repeat (refine Quiet.go rfl ?_)
    refine Quiet.nil ?_
    repeat (refine Run.go rfl ?_)
    refine Run.cond rfl (fun h' => absurd (show n < ((C.map u8).length : Nat) by simpa using h') (by omega)) (fun _ => ?_)
    repeat (refine Run.go rfl ?_)
    refine Run.draw (by kernel_rfl) (by decide +kernel) ?_
    repeat (refine Quiet.go rfl ?_)
    refine Quiet.nil ?_
    repeat (refine Run.go rfl ?_)
    refine Run.cond rfl (fun h' => absurd (show IntKind.i64.wrap (n + 1) ≤ ((C.map u8).length : Nat) by simpa using h') (by rw [hw]; omega)) (fun _ => ?_)
    repeat (refine Run.go rfl ?_)
    refine Run.val rfl rfl rfl (ValOk.shr rfl rfl rfl (by decide)) rfl ?_
    refine Run.val rfl rfl rfl (ValOk.land rfl rfl rfl) rfl ?_
    repeat (refine Run.go rfl ?_)
    refine Run.retG hg rfl ?_ ?_ rfl rfl rfl
    · rfl
    · show Ob.box [_, i64 (IntKind.i64.wrap (n + 1)), .lit (.int .u64 (nxS s 0))] = _
      rw [hw]
      rfl
noncomputable def X106 : Fx := ⟨Tryz.prog, tys, 106, Tryz.f106, [0, 1]⟩
theorem X106_ok : X106.Ok := ⟨Tryz.func106, tys_ok⟩
theorem pick_ct (ex : Bool) (C : List Int) (hC : C.length ≤ 1048576) (hb : ∀ x ∈ C, 0 ≤ x ∧ x ≤ 255) (n s m : Int) (hn : 0 ≤ n ∧ n ≤ 999999999) (hm : 0 < m ∧ m ≤ 1000000) :
    ∃ r n' s', (0 ≤ r ∧ r < m) ∧ (n ≤ n' ∧ n' ≤ n + 2) ∧ CtG Tryz.prog 106 [.bp lid 0, i64 m] (.box (srcL ex C n s)) (i64 r) (.box (srcL ex C n' s')) := by
  by_cases h1 : m ≤ 1
  · refine ⟨0, n, s, by omega, by omega, ?_⟩
    refine CtG.intro X106 X106_ok rfl (by kernel_rfl) rfl rfl rfl rfl rfl fun g v0 hg => ?_
    repeat (refine Run.go rfl ?_)
    refine Run.cond rfl (fun _ => ?_) (fun h' => absurd h1 (by simpa using h'))
    repeat (refine Run.go rfl ?_)
    exact Run.retG hg rfl rfl rfl rfl rfl rfl
  obtain ⟨r1, s1, hr1, c1⟩ := next_ct ex C hC hb n s (by omega)
  by_cases h2 : m > 200
  · obtain ⟨r2, s2, hr2, c2⟩ := next_ct ex C hC hb (n + 1) s1 (by omega)
    have hw : IntKind.i64.wrap (IntKind.i64.wrap (r1 * 256) + r2) = r1 * 256 + r2 := by
      rw [wrap_i64 (n := r1 * 256) (by omega) (by omega), wrap_i64 (by omega) (by omega)]
    refine ⟨(r1 * 256 + r2).tmod m, n + 1 + 1, s2, ?_, by omega, ?_⟩
    · rw [Int.tmod_eq_emod_of_nonneg (by omega)]
      exact ⟨Int.emod_nonneg _ (by omega), Int.emod_lt_of_pos _ hm.1⟩
    refine CtG.intro X106 X106_ok rfl (by kernel_rfl) rfl rfl rfl rfl rfl fun g v0 hg => ?_
    repeat (refine Run.go rfl ?_)
    refine Run.cond rfl (fun h' => absurd (show m ≤ 1 by simpa using h') h1) (fun _ => ?_)
    repeat (refine Run.go rfl ?_)
    refine Run.callG lid rfl rfl rfl rfl rfl rfl rfl rfl c1 rfl rfl ?_
    repeat (refine Run.go rfl ?_)
    refine Run.cond rfl (fun _ => ?_) (fun h' => absurd h2 (by simpa using h'))
    repeat (refine Run.go rfl ?_)
    refine Run.callG lid rfl rfl rfl rfl rfl rfl rfl rfl c2 rfl rfl ?_
    repeat (refine Run.go rfl ?_)
    refine Run.val rfl rfl rfl (ValOk.rem rfl rfl rfl (by omega)) rfl ?_
    repeat (refine Run.go rfl ?_)
    refine Run.retG hg rfl ?_ rfl rfl rfl rfl
    show i64 ((IntKind.i64.wrap (IntKind.i64.wrap (r1 * 256) + r2)).tmod m) = _
    rw [hw]
  · refine ⟨r1.tmod m, n + 1, s1, ?_, by omega, ?_⟩
    · rw [Int.tmod_eq_emod_of_nonneg (by omega)]
      exact ⟨Int.emod_nonneg _ (by omega), Int.emod_lt_of_pos _ hm.1⟩
    refine CtG.intro X106 X106_ok rfl (by kernel_rfl) rfl rfl rfl rfl rfl fun g v0 hg => ?_
    repeat (refine Run.go rfl ?_)
    refine Run.cond rfl (fun h' => absurd (show m ≤ 1 by simpa using h') h1) (fun _ => ?_)
    repeat (refine Run.go rfl ?_)
    refine Run.callG lid rfl rfl rfl rfl rfl rfl rfl rfl c1 rfl rfl ?_
    repeat (refine Run.go rfl ?_)
    refine Run.cond rfl (fun h' => absurd (show m > 200 by simpa using h') h2) (fun _ => ?_)
    repeat (refine Run.go rfl ?_)
    refine Run.val rfl rfl rfl (ValOk.rem rfl rfl rfl (by omega)) rfl ?_
    repeat (refine Run.go rfl ?_)
    exact Run.retG hg rfl rfl rfl rfl rfl rfl
noncomputable def X60 : Fx := ⟨Tryz.prog, tys, 60, Tryz.f60, []⟩
theorem X60_ok : X60.Ok := ⟨Tryz.func60, tys_ok⟩
theorem from_calls (w : World) (A : Option Addr) (n c : Nat) : Calls Tryz.prog 60 #[.slice A n c] w fun e w' => ∃ b T lo hi, e = .returned (.pointer (some ⟨b, 0, none⟩)) ∧ Kp [] w w' ∧ w.heap.size ≤ b ∧
    w'.heap[b]? = some (.cells (Value.slice A n c :: [.int .i64 0, .int .u64 0]).toArray T (lo, hi)) ∧ ∀ k, k ≤ (Value.slice A n c :: [.int .i64 0, .int .u64 0]).toArray.size → ¬ (lo ≤ k ∧ k < hi) := by
  refine (calls_plain X60 X60_ok rfl (vs := [.slice A n c]) rfl rfl (fun w v w' => ∃ b T lo hi, v = .pointer (some ⟨b, 0, none⟩) ∧ Kp [] w w' ∧ w.heap.size ≤ b ∧
    w'.heap[b]? = some (.cells (Value.slice A n c :: [.int .i64 0, .int .u64 0]).toArray T (lo, hi)) ∧ ∀ k, k ≤ (Value.slice A n c :: [.int .i64 0, .int .u64 0]).toArray.size → ¬ (lo ≤ k ∧ k < hi)) (fun g hF0 hp => ?_) w).mono ?_
  rotate_left
  · rintro e w' ⟨v, rfl, b, T, lo, hi, rfl, h⟩
    exact ⟨b, T, lo, hi, rfl, h⟩
  repeat (refine Run.go rfl ?_)
  refine Run.val rfl rfl rfl (ValOk.build (cs := [.lit (.slice A n c), i64 0, .lit (.int .u64 0)]) rfl rfl rfl rfl rfl) rfl ?_
  repeat (refine Run.go rfl ?_)
  refine Run.ret' hp fun hX a w ⟨β, F, hI⟩ => ?_
  have hs := hI.slotv (d := 2) (by intro h; cases h)
  obtain ⟨b, arr, T, lo, hi, Fs, e, hb, hfz, hsz, hr, hF⟩ := hI.obj (5, 0)
  have e2 : arr = (Value.slice A n c :: [.int .i64 0, .int .u64 0]).toArray := by
    have hsz : arr.size = 3 := hsz
    match arr, hsz with
    | ⟨[x0, x1, x2]⟩, _ =>
      have h0 := hr 0 (.lit (.slice A n c)) x0 rfl rfl
      have h1 := hr 1 (.lit (.int .i64 0)) x1 rfl rfl
      have h2 := hr 2 (.lit (.int .u64 0)) x2 rfl rfl
      generalize Fs 0 = G0 at h0
      generalize Fs 1 = G1 at h1
      generalize Fs 2 = G2 at h2
      cases h0; cases h1; cases h2
      rfl
  refine ⟨.pointer (some ⟨b, 0, none⟩), ?_, b, T, lo, hi, rfl, ?_, ?_, by rw [← e2]; exact hb, by rw [← e2]; exact hfz⟩
  · have h1 : a.tmps.getD 2 undef = .pointer (some ⟨b, 0, none⟩) := by
      have hs : Rel w (Lv g F) β (.bp (5, 0) 0) (a.tmps.getD 2 undef) (F (.s 2)) := hs
      generalize a.tmps.getD 2 undef = u at hs
      generalize F (.s 2) = G at hs
      cases hs with
      | bp _ _ _ b' h' => rw [e] at h'; cases h'; rfl
    have := results_run (fn := X60.fn) (tmps := a.tmps) (us := [.pointer (some ⟨b, 0, none⟩)]) (P := X60.P) (w := w) (by
      rw [← h1]; rfl)
    exact this
  · have := hI.kp
    rw [hF0] at this
    exact this
  · have hm : b ∈ F (.o (5, 0)) := by rw [hF]; simp
    rcases hI.range _ b hm with h | h
    · rw [hF0] at h; simp at h
    · exact h
end Go.Proofs.YtbkelajnngdimaaGreatDoor

/- Contracts of the program's functions, and what follows from them. -/
set_option maxRecDepth 100000
namespace Go.Proofs.YtbkelajnngdimaaGreatDoor
open Go Go.Av
def drB (p1 p2 p3 p4 p5 p6 p7 : Int) : Bk :=
  ⟨100 * p1, if p3 = 0 then 97 + p4 else 97, if p3 = 1 then 97 + p4 else 97, if p3 = 2 then 97 + p4 else 97, 1 + p2, 10 + 5 * p5, 180 + 10 * p6, 100 * (1 + p7)⟩
theorem wi16 {n : Int} (h1 : -32768 ≤ n) (h2 : n ≤ 32767) : IntKind.i16.wrap n = n := wrap_i16 h1 h2
theorem wu8d {n : Int} (h1 : 0 ≤ n) (h2 : n ≤ 255) : IntKind.u8.wrap n = n := by
  simp [IntKind.wrap, IntKind.bits, IntKind.signed]; omega
def m97 : Nat → AV × AV × AV
  | 0 => (u8 0, u8 0, u8 0)
  | 1 => (u8 97, u8 0, u8 0)
  | 2 => (u8 97, u8 97, u8 0)
  | _ => (u8 97, u8 97, u8 97)
noncomputable def X61 : Fx := ⟨Tryz.prog, tys, 61, Tryz.f61, [0]⟩
theorem X61_ok : X61.Ok := ⟨Tryz.func61, tys_ok⟩
set_option maxHeartbeats 4000000 in
theorem l01One_ct (ex : Bool) (C : List Int) (hC : C.length ≤ 1048576) (hb : ∀ x ∈ C, 0 ≤ x ∧ x ≤ 255) (n s : Int) (hn : 0 ≤ n ∧ n ≤ 999999000) :
    ∃ p1 p2 p3 p4 p5 p6 p7 n' s', (0 ≤ p1 ∧ p1 < 8) ∧ (0 ≤ p2 ∧ p2 < 3) ∧ (0 ≤ p3 ∧ p3 < 3) ∧ (0 ≤ p4 ∧ p4 < 3) ∧ (0 ≤ p5 ∧ p5 < 9) ∧ (0 ≤ p6 ∧ p6 < 12) ∧ (0 ≤ p7 ∧ p7 < 20) ∧ (n ≤ n' ∧ n' ≤ n + 14) ∧
      CtG Tryz.prog 61 [.bp lid 0] (.box (srcL ex C n s)) (bkA (drB p1 p2 p3 p4 p5 p6 p7)) (.box (srcL ex C n' s')) := by
  obtain ⟨p1, n1, s1, hp1, hn1, c1⟩ := pick_ct ex C hC hb n s 8 (by omega) (by omega)
  obtain ⟨p2, n2, s2, hp2, hn2, c2⟩ := pick_ct ex C hC hb n1 s1 3 (by omega) (by omega)
  obtain ⟨p3, n3, s3, hp3, hn3, c3⟩ := pick_ct ex C hC hb n2 s2 3 (by omega) (by omega)
  obtain ⟨p4, n4, s4, hp4, hn4, c4⟩ := pick_ct ex C hC hb n3 s3 3 (by omega) (by omega)
  obtain ⟨p5, n5, s5, hp5, hn5, c5⟩ := pick_ct ex C hC hb n4 s4 9 (by omega) (by omega)
  obtain ⟨p6, n6, s6, hp6, hn6, c6⟩ := pick_ct ex C hC hb n5 s5 12 (by omega) (by omega)
  obtain ⟨p7, n7, s7, hp7, hn7, c7⟩ := pick_ct ex C hC hb n6 s6 20 (by omega) (by omega)
  refine ⟨p1, p2, p3, p4, p5, p6, p7, n7, s7, hp1, hp2, hp3, hp4, hp5, hp6, hp7, by omega, ?_⟩
  have e1 : IntKind.i16.wrap (IntKind.i64.wrap (p1 * 100)) = 100 * p1 := by rw [wrap_i64 (by omega) (by omega), wi16 (by omega) (by omega)]; omega
  have e2 : IntKind.i16.wrap (IntKind.i64.wrap (1 + p2)) = 1 + p2 := by rw [wrap_i64 (by omega) (by omega), wi16 (by omega) (by omega)]
  have e4 : IntKind.u8.wrap (IntKind.i64.wrap (97 + p4)) = 97 + p4 := by rw [wrap_i64 (by omega) (by omega), wu8d (by omega) (by omega)]
  have e5 : IntKind.i16.wrap (IntKind.i64.wrap (10 + IntKind.i64.wrap (5 * p5))) = 10 + 5 * p5 := by rw [wrap_i64 (n := 5 * p5) (by omega) (by omega), wrap_i64 (by omega) (by omega), wi16 (by omega) (by omega)]
  have e6 : IntKind.i16.wrap (IntKind.i64.wrap (180 + IntKind.i64.wrap (10 * p6))) = 180 + 10 * p6 := by rw [wrap_i64 (n := 10 * p6) (by omega) (by omega), wrap_i64 (by omega) (by omega), wi16 (by omega) (by omega)]
  have e7 : IntKind.i16.wrap (IntKind.i64.wrap (100 * IntKind.i64.wrap (1 + p7))) = 100 * (1 + p7) := by rw [wrap_i64 (n := 1 + p7) (by omega) (by omega), wrap_i64 (by omega) (by omega), wi16 (by omega) (by omega)]
  refine CtG.intro X61 X61_ok rfl (by kernel_rfl) rfl rfl rfl rfl rfl fun g v0 hg => ?_
  repeat (refine Run.go rfl ?_)
  refine Run.callG lid rfl rfl rfl rfl rfl rfl rfl rfl c1 rfl rfl ?_
  repeat (refine Run.go rfl ?_)
  refine Run.callG lid rfl rfl rfl rfl rfl rfl rfl rfl c2 rfl rfl ?_
  repeat (refine Run.go rfl ?_)
  refine Run.val rfl rfl rfl (ValOk.build (cs := [i16 (IntKind.i16.wrap (IntKind.i64.wrap (p1 * 100))), u8 0, u8 0, u8 0, i16 (IntKind.i16.wrap (IntKind.i64.wrap (1 + p2))), i16 0, i16 0, i16 0]) rfl rfl rfl rfl rfl) rfl ?_
  repeat (refine Run.go rfl ?_)
  rw [e1, e2]
  refine Run.loop (fun j : Nat => ⟨[(0, .bp lid 0), (2, .bp (2, 0) 0), (3, .bp (3, 0) 0), (4, i64 j)], [(lid, .box (srcL ex C n2 s2)), (lidT, .tie v0 lid), ((2, 0), .box [i16 0, u8 0, u8 0, u8 0, i16 0, i16 0, i16 0, i16 0]),
    ((3, 0), .box [i16 (100 * p1), (m97 j).1, (m97 j).2.1, (m97 j).2.2, i16 (1 + p2), i16 0, i16 0, i16 0])]⟩) (fun j => j ≤ 3) (fun j => 3 - j) 0 (by omega) ?_ ?_
  · exact St.Le.mk' ⟨rfl, rfl, rfl, rfl, trivial⟩ ⟨rfl, rfl, rfl, rfl, trivial⟩
  intro j hj IH
  have hj4 : j = 0 ∨ j = 1 ∨ j = 2 ∨ j = 3 := by omega
  rcases hj4 with rfl | rfl | rfl | rfl
  · repeat (refine Run.go rfl ?_)
    refine Run.cond rfl (fun h => ?_) (fun h => by simp at h)
    repeat (refine Run.go rfl ?_)
    exact Run.of (IH 1 (by omega) (by omega)) ⟨rfl, rfl, rfl, rfl, trivial⟩ ⟨rfl, rfl, rfl, rfl, trivial⟩
  · repeat (refine Run.go rfl ?_)
    refine Run.cond rfl (fun h => ?_) (fun h => by simp at h)
    repeat (refine Run.go rfl ?_)
    exact Run.of (IH 2 (by omega) (by omega)) ⟨rfl, rfl, rfl, rfl, trivial⟩ ⟨rfl, rfl, rfl, rfl, trivial⟩
  · repeat (refine Run.go rfl ?_)
    refine Run.cond rfl (fun h => ?_) (fun h => by simp at h)
    repeat (refine Run.go rfl ?_)
    exact Run.of (IH 3 (by omega) (by omega)) ⟨rfl, rfl, rfl, rfl, trivial⟩ ⟨rfl, rfl, rfl, rfl, trivial⟩
  · repeat (refine Run.go rfl ?_)
    refine Run.cond rfl (fun h => by simp at h) (fun h => ?_)
    repeat (refine Run.go rfl ?_)
    refine Run.regTo ⟨[(0, .bp lid 0), (2, .bp (2, 0) 0), (3, .bp (3, 0) 0)], [(lid, .box (srcL ex C n4 s4)), (lidT, .tie v0 lid), ((2, 0), .box [i16 0, u8 0, u8 0, u8 0, i16 0, i16 0, i16 0, i16 0]),
      ((3, 0), .box [i16 (100 * p1), u8 (if p3 = 0 then 97 + p4 else 97), u8 (if p3 = 1 then 97 + p4 else 97), u8 (if p3 = 2 then 97 + p4 else 97), i16 (1 + p2), i16 0, i16 0, i16 0])]⟩ (fun k' hk' => ?_) ?_
    · refine Run.callG lid rfl rfl rfl rfl rfl rfl rfl rfl c3 rfl rfl ?_
      repeat (refine Run.go rfl ?_)
      refine Run.callG lid rfl rfl rfl rfl rfl rfl rfl rfl c4 rfl rfl ?_
      have h3 : p3 = 0 ∨ p3 = 1 ∨ p3 = 2 := by omega
      rcases h3 with rfl | rfl | rfl
      all_goals
        repeat (refine Run.go rfl ?_)
        rw [e4]
        exact Run.of hk' ⟨rfl, rfl, rfl, trivial⟩ ⟨rfl, rfl, rfl, rfl, trivial⟩
    repeat (refine Run.go rfl ?_)
    refine Run.callG lid rfl rfl rfl rfl rfl rfl rfl rfl c5 rfl rfl ?_
    repeat (refine Run.go rfl ?_)
    refine Run.callG lid rfl rfl rfl rfl rfl rfl rfl rfl c6 rfl rfl ?_
    repeat (refine Run.go rfl ?_)
    refine Run.callG lid rfl rfl rfl rfl rfl rfl rfl rfl c7 rfl rfl ?_
    repeat (refine Run.go rfl ?_)
    refine Run.retG hg rfl ?_ rfl rfl rfl rfl
    refine Eq.trans (b := AV.agg [_, _, _, _, _, _, _, _]) rfl ?_
    rw [e5, e6, e7]
    rfl
theorem drB_facts {p1 p2 p3 p4 p5 p6 p7 : Int} (h1 : 0 ≤ p1 ∧ p1 < 8) (h2 : 0 ≤ p2 ∧ p2 < 3) (h4 : 0 ≤ p4 ∧ p4 < 3) (h5 : 0 ≤ p5 ∧ p5 < 9) (h6 : 0 ≤ p6 ∧ p6 < 12) (h7 : 0 ≤ p7 ∧ p7 < 20) :
    vB (drB p1 p2 p3 p4 p5 p6 p7) = true ∧ bkRng (drB p1 p2 p3 p4 p5 p6 p7) := by
  have hi : ∀ c : Prop, [Decidable c] → 97 ≤ (if c then 97 + p4 else 97) ∧ (if c then 97 + p4 else 97) ≤ 99 := by
    intro c _
    split <;> omega
  have key : ∀ a b c : Int, (97 ≤ a ∧ a ≤ 99) → (97 ≤ b ∧ b ≤ 99) → (97 ≤ c ∧ c ≤ 99) →
      vB ⟨100 * p1, a, b, c, 1 + p2, 10 + 5 * p5, 180 + 10 * p6, 100 * (1 + p7)⟩ = true ∧ bkRng ⟨100 * p1, a, b, c, 1 + p2, 10 + 5 * p5, 180 + 10 * p6, 100 * (1 + p7)⟩ := by
    intro a b c ha hb hc
    refine ⟨?_, ?_⟩
    · simp only [vB, Bool.and_eq_true, inr, sm, decide_eq_true_eq]
      omega
    · simp only [bkRng, i16r, u8r]
      omega
  exact key _ _ _ (hi _) (hi _) (hi _)
noncomputable def X8 : Fx := ⟨Tryz.prog, tys, 8, Tryz.f8, [0]⟩
theorem X8_ok : X8.Ok := ⟨Tryz.func8, tys_ok⟩
theorem P6Book_ct (ex : Bool) (C : List Int) (hC : C.length ≤ 1048576) (hb : ∀ x ∈ C, 0 ≤ x ∧ x ≤ 255) :
    ∃ x : Bk, vB x = true ∧ bkRng x ∧ Ct Tryz.prog 8 [.ro 1 ex (C.map u8)] (bkA x) [] := by
  obtain ⟨p1, p2, p3, p4, p5, p6, p7, n', s', h1, h2, h3, h4, h5, h6, h7, hn, c1⟩ := l01One_ct ex C hC hb 0 0 (by omega)
  obtain ⟨q1, q2⟩ := drB_facts (p3 := p3) h1 h2 h4 h5 h6 h7
  refine ⟨_, q1, q2, ?_⟩
  generalize drB p1 p2 p3 p4 p5 p6 p7 = x at c1
  refine Ct.intro X8 X8_ok rfl (by kernel_rfl) rfl rfl fun g hg => ?_
  repeat (refine Run.go rfl ?_)
  refine Run.callN rfl rfl rfl rfl rfl rfl rfl from_calls rfl rfl ?_
  refine Run.callG (4, 0) rfl rfl rfl rfl rfl rfl rfl rfl c1 rfl rfl ?_
  repeat (refine Run.go rfl ?_)
  exact Run.ret hg rfl rfl
noncomputable def X28 : Fx := ⟨Tryz.prog, tys, 28, Tryz.f28, [0, 1]⟩
theorem X28_ok : X28.Ok := ⟨Tryz.func28, tys_ok⟩
theorem P6Pick_ct (ex : Bool) (C : List Int) (hC : C.length ≤ 1048576) (hb : ∀ x ∈ C, 0 ≤ x ∧ x ≤ 255) (m : Int) (hm : 0 < m ∧ m ≤ 1000000) :
    ∃ r, (0 ≤ r ∧ r < m) ∧ Ct Tryz.prog 28 [.ro 1 ex (C.map u8), i64 m] (i64 r) [] := by
  obtain ⟨r, n', s', h1, h2, c1⟩ := pick_ct ex C hC hb 0 0 m (by omega) hm
  refine ⟨r, h1, ?_⟩
  refine Ct.intro X28 X28_ok rfl (by kernel_rfl) rfl rfl fun g hg => ?_
  repeat (refine Run.go rfl ?_)
  refine Run.callN rfl rfl rfl rfl rfl rfl rfl from_calls rfl rfl ?_
  repeat (refine Run.go rfl ?_)
  refine Run.callG (6, 0) rfl rfl rfl rfl rfl rfl rfl rfl c1 rfl rfl ?_
  repeat (refine Run.go rfl ?_)
  exact Run.ret hg rfl rfl
noncomputable def X6 : Fx := ⟨Tryz.prog, tys, 6, Tryz.f6, [0]⟩
theorem X6_ok : X6.Ok := ⟨Tryz.func6, tys_ok⟩
theorem f6big_ct (ex : Bool) (ys : List AV) : Ct Tryz.prog 6 [.ro 1 ex ys] (bo (decide (4096 < ys.length))) [] := by
  refine Ct.intro X6 X6_ok rfl (by kernel_rfl) rfl rfl fun g hg => ?_
  repeat (refine Run.go rfl ?_)
  refine Run.ret hg rfl ?_
  show bo (decide ((ys.length : Int) > 4096)) = _
  congr 1
  exact decide_eq_decide.2 (by omega)
end Go.Proofs.YtbkelajnngdimaaGreatDoor

/- Contracts of the program's functions, and what follows from them. -/
set_option maxRecDepth 100000
namespace Go.Proofs.YtbkelajnngdimaaGreatDoor
open Go Go.Av
def insL (S : List Bk) (x : Bk) : List Bk := S.take (splB S x S.length) ++ [x] ++ S.drop (splB S x S.length)
def srtL (l : List Bk) : List Bk := l.foldl insL []
theorem srtL_step {l : List Bk} {i : Nat} (h : i < l.length) : srtL (l.take (i + 1)) = insL (srtL (l.take i)) l[i] := by
  rw [List.take_succ_eq_append_getElem h, srtL, List.foldl_append]
  rfl
theorem splB_le (S : List Bk) (x : Bk) : ∀ n, splB S x n ≤ n
  | 0 => Nat.le_refl 0
  | n + 1 => by
    rw [splB]
    have := splB_le S x n
    split <;> omega
theorem splB_hi (S : List Bk) (x : Bk) : ∀ n i, splB S x n ≤ i → i < n → uc x (S.getD i bk0) < 0
  | 0, i, _, h => absurd h (Nat.not_lt_zero _)
  | n + 1, i, h1, h2 => by
    rw [splB] at h1
    split at h1
    · rename_i h
      by_cases e : i = n
      · rw [e]; exact h
      · exact splB_hi S x n i h1 (by omega)
    · omega
theorem splB_lo (S : List Bk) (x : Bk) : ∀ n, 0 < splB S x n → ¬ uc x (S.getD (splB S x n - 1) bk0) < 0
  | 0, h => absurd h (Nat.lt_irrefl 0)
  | n + 1, h => by
    rw [splB] at h ⊢
    split
    · rename_i hc
      rw [if_pos hc] at h
      exact splB_lo S x n h
    · rename_i hc
      rw [Nat.add_sub_cancel]
      exact hc
def Srt (S : List Bk) : Prop := S.Pairwise fun a b => ky a ≤ ky b
theorem insL_len (S : List Bk) (x : Bk) : (insL S x).length = S.length + 1 := by
  have := splB_le S x S.length
  simp [insL]
  omega
theorem insL_mem {S : List Bk} {x y : Bk} (h : y ∈ insL S x) : y = x ∨ y ∈ S := by
  unfold insL at h
  rw [List.mem_append, List.mem_append] at h
  rcases h with (h | h) | h
  · exact .inr (List.mem_of_mem_take h)
  · exact .inl (by simpa using h)
  · exact .inr (List.mem_of_mem_drop h)
theorem insL_srt {S : List Bk} {x : Bk} (h : Srt S) (hS : ∀ y ∈ S, bkRng y) (hx : bkRng x) : Srt (insL S x) := by
  have hk := splB_le S x S.length
  have h1 := splB_hi S x S.length
  have h2 := splB_lo S x S.length
  unfold insL Srt
  generalize splB S x S.length = k at *
  have hlo : ∀ a ∈ S.take k, ky a ≤ ky x := by
    intro a ha
    obtain ⟨i, hi, rfl⟩ := List.getElem_of_mem ha
    rw [List.length_take] at hi
    rw [List.getElem_take]
    have e : ky (S[k - 1]'(by omega)) ≤ ky x := by
      have := h2 (by omega)
      rw [List.getD_eq_getElem?_getD, List.getElem?_eq_getElem (by omega)] at this
      have h3 := (uc_ky hx (hS (S[k - 1]'(by omega)) (List.getElem_mem _))).1
      have : ¬ uc x (S[k - 1]'(by omega)) < 0 := this
      rw [h3] at this
      omega
    by_cases ei : i = k - 1
    · subst ei; exact e
    · exact Int.le_trans (List.pairwise_iff_getElem.1 h i (k - 1) (by omega) (by omega) (by omega)) e
  have hhi : ∀ a ∈ S.drop k, ky x ≤ ky a := by
    intro a ha
    obtain ⟨i, hi, rfl⟩ := List.getElem_of_mem ha
    rw [List.length_drop] at hi
    rw [List.getElem_drop]
    have := h1 (k + i) (by omega) (by omega)
    rw [List.getD_eq_getElem?_getD, List.getElem?_eq_getElem (by omega)] at this
    have this : uc x (S[k + i]'(by omega)) < 0 := this
    rw [(uc_ky hx (hS (S[k + i]'(by omega)) (List.getElem_mem _))).1] at this
    omega
  have hsp : Srt (S.take k ++ S.drop k) := by rw [List.take_append_drop]; exact h
  obtain ⟨p1, p2, p3⟩ := List.pairwise_append.1 hsp
  rw [List.append_assoc, List.pairwise_append]
  refine ⟨p1, ?_, ?_⟩
  · rw [List.singleton_append, List.pairwise_cons]
    exact ⟨hhi, p2⟩
  · intro a ha b hb
    rcases List.mem_cons.1 (by simpa using hb : b ∈ x :: S.drop k) with rfl | hb
    · exact hlo a ha
    · exact p3 a ha b hb
theorem srtL_ok : ∀ (l : List Bk), (∀ x ∈ l, bkRng x) → ∀ S, Srt S → (∀ y ∈ S, bkRng y) → Srt (l.foldl insL S) ∧ (l.foldl insL S).length = S.length + l.length ∧ ∀ y ∈ l.foldl insL S, y ∈ l ∨ y ∈ S
  | [], _, S, h, _ => ⟨h, rfl, fun y hy => .inr hy⟩
  | x :: r, hl, S, h, hS => by
    have hx := hl x (by simp)
    obtain ⟨i1, i2, i3⟩ := srtL_ok r (fun y hy => hl y (List.mem_cons_of_mem _ hy)) (insL S x) (insL_srt h hS hx) (fun y hy => by
      rcases insL_mem hy with rfl | hy
      · exact hx
      · exact hS y hy)
    refine ⟨i1, by rw [List.foldl_cons, i2, insL_len, List.length_cons]; omega, fun y hy => ?_⟩
    rcases i3 y hy with hy | hy
    · exact .inl (List.mem_cons_of_mem _ hy)
    · rcases insL_mem hy with rfl | hy
      · exact .inl (by simp)
      · exact .inr hy
end Go.Proofs.YtbkelajnngdimaaGreatDoor

/- Contracts of the program's functions, and what follows from them. -/
set_option maxRecDepth 100000
namespace Go.Proofs.YtbkelajnngdimaaGreatDoor
open Go Go.Av
noncomputable def X150 : Fx := ⟨Tryz.prog, tys, 150, Tryz.f150, [0, 1]⟩
theorem X150_ok : X150.Ok := ⟨Tryz.func150, tys_ok⟩
theorem one_ct (ex : Bool) (C : List Int) (hC : C.length ≤ 1048576) (hb : ∀ x ∈ C, 0 ≤ x ∧ x ≤ 255) (n s m : Int) (hn : 0 ≤ n ∧ n ≤ 999999999) (hm : 0 < m ∧ m ≤ 1000000) :
    ∃ r n' s', (n ≤ n' ∧ n' ≤ n + 2) ∧ CtG Tryz.prog 150 [.bp lid 0, i64 m] (.box (srcL ex C n s)) (bo r) (.box (srcL ex C n' s')) := by
  obtain ⟨r, n', s', h1, h2, c1⟩ := pick_ct ex C hC hb n s m hn hm
  refine ⟨r == 0, n', s', h2, ?_⟩
  refine CtG.intro X150 X150_ok rfl (by kernel_rfl) rfl rfl rfl rfl rfl fun g v0 hg => ?_
  repeat (refine Run.go rfl ?_)
  refine Run.callG lid rfl rfl rfl rfl rfl rfl rfl rfl c1 rfl rfl ?_
  repeat (refine Run.go rfl ?_)
  exact Run.retG hg rfl rfl rfl rfl rfl rfl
theorem one_fn (ex : Bool) (C : List Int) (hC : C.length ≤ 1048576) (hb : ∀ x ∈ C, 0 ≤ x ∧ x ≤ 255) (m : Int) (hm : 0 < m ∧ m ≤ 1000000) :
    ∃ F : Int × Int → Bool × Int × Int, ∀ p : Int × Int, 0 ≤ p.1 ∧ p.1 ≤ 999999999 → (p.1 ≤ (F p).2.1 ∧ (F p).2.1 ≤ p.1 + 2) ∧
      CtG Tryz.prog 150 [.bp lid 0, i64 m] (.box (srcL ex C p.1 p.2)) (bo (F p).1) (.box (srcL ex C (F p).2.1 (F p).2.2)) := by
  have h : ∀ p : Int × Int, ∃ q : Bool × Int × Int, 0 ≤ p.1 ∧ p.1 ≤ 999999999 → (p.1 ≤ q.2.1 ∧ q.2.1 ≤ p.1 + 2) ∧
      CtG Tryz.prog 150 [.bp lid 0, i64 m] (.box (srcL ex C p.1 p.2)) (bo q.1) (.box (srcL ex C q.2.1 q.2.2)) := by
    intro p
    by_cases hp : 0 ≤ p.1 ∧ p.1 ≤ 999999999
    · obtain ⟨r, n', s', h1, c⟩ := one_ct ex C hC hb p.1 p.2 m hp hm
      exact ⟨(r, n', s'), fun _ => ⟨h1, c⟩⟩
    · exact ⟨(false, 0, 0), fun h => absurd h hp⟩
  exact ⟨fun p => Classical.choose (h p), fun p => Classical.choose_spec (h p)⟩
theorem books_all (ex : Bool) (C : List Int) (hC : C.length ≤ 1048576) (hb : ∀ x ∈ C, 0 ≤ x ∧ x ≤ 255) : ∀ (m : Nat) (n s : Int), 0 ≤ n → n + 14 * m ≤ 999999000 → ∃ (l : List Bk) (N S : Nat → Int), l.length = m ∧ (∀ x ∈ l, bOk x) ∧ N 0 = n ∧ S 0 = s ∧
      (n ≤ N m ∧ N m ≤ n + 14 * (m : Nat)) ∧ ∀ j (hj : j < l.length), CtG Tryz.prog 61 [.bp lid 0] (.box (srcL ex C (N j) (S j))) (bkA l[j]) (.box (srcL ex C (N (j + 1)) (S (j + 1)))) := by
  intro m
  induction m with
  | zero => intro n s h0 h1; exact ⟨[], fun _ => n, fun _ => s, rfl, by simp, rfl, rfl, by simp, by intro j hj; simp at hj⟩
  | succ m ih =>
    intro n s h0 h1
    obtain ⟨p1, p2, p3, p4, p5, p6, p7, n', s', h1', h2, h3, h4, h5, h6, h7, hn', c⟩ := l01One_ct ex C hC hb n s (by omega)
    obtain ⟨q1, q2⟩ := drB_facts (p3 := p3) h1' h2 h4 h5 h6 h7
    generalize drB p1 p2 p3 p4 p5 p6 p7 = a at c q1 q2
    obtain ⟨l, N, S, hl, hal, hN, hS, hNm, hc⟩ := ih n' s' (by omega) (by omega)
    refine ⟨a :: l, fun j => match j with | 0 => n | j + 1 => N j, fun j => match j with | 0 => s | j + 1 => S j, by simp [hl], ?_, rfl, rfl, ?_, ?_⟩
    · intro b hb'
      rcases List.mem_cons.1 hb' with rfl | hb'
      · exact ⟨q2, q1⟩
      · exact hal b hb'
    · show n ≤ N m ∧ N m ≤ n + 14 * ((m + 1 : Nat) : Int)
      omega
    · intro j hj
      cases j with
      | zero => show CtG _ _ _ (.box (srcL ex C n s)) (bkA a) (.box (srcL ex C (N 0) (S 0))); rw [hN, hS]; exact c
      | succ j => exact hc j (by simpa using hj)
def inn (F : Int × Int → Bool × Int × Int) : Nat → Int × Int → Nat × Int × Int
  | 0, p => (0, p)
  | f + 1, p => if (F p).1 = true then inn F f (F p).2 else (f + 1, (F p).2)
def drP (F : Int × Int → Bool × Int × Int) : List Bk → Nat → Nat → Int × Int → List Pl × Int × Int
  | [], _, _, p => ([], p)
  | b :: r, a, f, p => (⟨((a + (f - (inn F f p).1) : Nat) : Int), b⟩ :: (drP F r (a + (f - (inn F f p).1) + 1) (inn F f p).1 (inn F f p).2).1, (drP F r (a + (f - (inn F f p).1) + 1) (inn F f p).1 (inn F f p).2).2)
theorem inn_ok {F : Int × Int → Bool × Int × Int} (hF : ∀ p : Int × Int, 0 ≤ p.1 ∧ p.1 ≤ 999999999 → p.1 ≤ (F p).2.1 ∧ (F p).2.1 ≤ p.1 + 2) : ∀ (f : Nat) (p : Int × Int), 0 ≤ p.1 → p.1 + 2 * f ≤ 999999999 →
    (inn F f p).1 ≤ f ∧ p.1 ≤ (inn F f p).2.1 ∧ (inn F f p).2.1 ≤ p.1 + 2 * f + 2
  | 0, p, h0, h1 => ⟨Nat.le_refl 0, Int.le_refl _, by show p.1 ≤ _; omega⟩
  | f + 1, p, h0, h1 => by
    have h := hF p (by omega)
    rw [inn]
    split
    · have ih := inn_ok hF f (F p).2 (by omega) (by omega)
      omega
    · exact ⟨Nat.le_refl _, h.1, by show (F p).2.1 ≤ _; omega⟩
structure DrOk (l : List Bk) (a f : Nat) (p : Int × Int) (L : List Pl) (q : Int × Int) : Prop where
  b : pbs L = l
  lo : ∀ x ∈ L, (a : Int) ≤ x.p
  hi : ∀ x ∈ L, x.p < ((a + f + l.length : Nat) : Int)
  inc : L.Pairwise fun x y => x.p < y.p
  n : p.1 ≤ q.1 ∧ q.1 ≤ p.1 + 2 * ((f + l.length : Nat) : Int)
theorem inn_n {F : Int × Int → Bool × Int × Int} (hF : ∀ p : Int × Int, 0 ≤ p.1 ∧ p.1 ≤ 999999999 → p.1 ≤ (F p).2.1 ∧ (F p).2.1 ≤ p.1 + 2) : ∀ (f : Nat) (p : Int × Int), 0 ≤ p.1 → p.1 + 2 * f ≤ 999999999 →
    (inn F f p).2.1 + 2 * ((inn F f p).1 : Nat) ≤ p.1 + 2 * f + 2
  | 0, p, h0, h1 => by show p.1 + 2 * ((0 : Nat) : Int) ≤ _; omega
  | f + 1, p, h0, h1 => by
    have h := hF p (by omega)
    rw [inn]
    split
    · have ih := inn_n hF f (F p).2 (by omega) (by omega)
      omega
    · show (F p).2.1 + 2 * ((f + 1 : Nat) : Int) ≤ _
      omega
theorem drP_ok {F : Int × Int → Bool × Int × Int} (hF : ∀ p : Int × Int, 0 ≤ p.1 ∧ p.1 ≤ 999999999 → p.1 ≤ (F p).2.1 ∧ (F p).2.1 ≤ p.1 + 2) : ∀ (l : List Bk) (a f : Nat) (p : Int × Int), 0 ≤ p.1 → p.1 + 2 * ((f + l.length : Nat) : Int) ≤ 999999999 →
    DrOk l a f p (drP F l a f p).1 (drP F l a f p).2
  | [], a, f, p, h0, h1 => ⟨rfl, fun x hx => by simp [drP] at hx, fun x hx => by simp [drP] at hx, List.Pairwise.nil, ⟨Int.le_refl _, by show p.1 ≤ _; omega⟩⟩
  | b :: r, a, f, p, h0, h1 => by
    rw [List.length_cons] at h1
    obtain ⟨i1, i2, i3⟩ := inn_ok hF f p h0 (by omega)
    have i4 := inn_n hF f p h0 (by omega)
    rw [drP]
    generalize inn F f p = Q at *
    obtain ⟨f2, p2⟩ := Q
    simp only at i1 i2 i3 i4 ⊢
    obtain ⟨d1, d2, d3, d4, d5⟩ := drP_ok hF r (a + (f - f2) + 1) f2 p2 (by omega) (by omega)
    generalize drP F r (a + (f - f2) + 1) f2 p2 = R at *
    refine ⟨?_, ?_, ?_, ?_, ?_⟩
    · show b :: pbs R.1 = b :: r
      rw [d1]
    · intro x hx
      rcases List.mem_cons.1 hx with rfl | hx
      · show (a : Int) ≤ ((a + (f - f2) : Nat) : Int)
        omega
      · have := d2 x hx
        omega
    · intro x hx
      rw [List.length_cons]
      rcases List.mem_cons.1 hx with rfl | hx
      · show ((a + (f - f2) : Nat) : Int) < _
        omega
      · have := d3 x hx
        omega
    · rw [List.pairwise_cons]
      refine ⟨fun y hy => ?_, d4⟩
      have := d2 y hy
      show ((a + (f - f2) : Nat) : Int) < y.p
      omega
    · rw [List.length_cons]
      show p.1 ≤ R.2.1 ∧ R.2.1 ≤ _
      omega
theorem dr_VR {l : List Bk} {f : Nat} {p q : Int × Int} {L : List Pl} (h : DrOk l 0 f p L q) (hl : ∀ x ∈ l, bOk x) (hs : Srt l) (hn : 1 ≤ l.length + f ∧ l.length + f ≤ 60) : VR ((l.length + f : Nat) : Int) L ∧ (∀ x ∈ L, bkRng x.b) := by
  have hlen : L.length = l.length := by rw [← h.b, pbs_len]
  have hbk : ∀ x ∈ L, bOk x.b := fun x hx => hl _ (by rw [← h.b]; exact List.mem_map.2 ⟨x, hx, rfl⟩)
  refine ⟨⟨by omega, fun i j hij hj => ?_, fun i hi => ?_, fun x hx => (hbk x hx).2, fun i j hij hj => ?_⟩, fun x hx => (hbk x hx).1⟩
  · rw [pa_get (by omega), pa_get hj]
    exact List.pairwise_iff_getElem.1 h.inc i j (by omega) hj hij
  · rw [pa_get hi]
    have h1 := h.lo _ (List.getElem_mem hi)
    have h2 := h.hi _ (List.getElem_mem hi)
    omega
  · rw [ba_get (by omega), ba_get hj]
    have hp : ∀ k (hk : k < L.length), L[k].b = l[k]'(by omega) := by
      intro k hk
      have : (pbs L)[k]'(by rw [pbs_len]; exact hk) = l[k]'(by omega) := by simp only [h.b]
      rw [← this]
      simp [pbs]
    rw [hp i (by omega), hp j hj]
    exact List.pairwise_iff_getElem.1 hs i j (by omega) (by omega) hij
end Go.Proofs.YtbkelajnngdimaaGreatDoor

/- Contracts of the program's functions, and what follows from them. -/
set_option maxRecDepth 100000
namespace Go.Proofs.YtbkelajnngdimaaGreatDoor
open Go Go.Av
theorem VR.ok {n : Int} {l : List Pl} (h : VR n l) (hb : ∀ x ∈ l, bkRng x.b) : rkOk ⟨n, l⟩ ∧ vR ⟨n, l⟩ = true := by
  have hp : ∀ x ∈ l, plRng x := fun x hx => by
    obtain ⟨i, hi, rfl⟩ := List.getElem_of_mem hx
    exact ⟨(h.i16 hi).1, hb _ hx⟩
  have hn := h.hn
  have hl := h.len
  exact ⟨⟨⟨by show -32768 ≤ n ∧ n ≤ 32767; omega, by show l.length ≤ _; omega⟩, hp⟩, (vR_VR hp).2 h⟩
theorem VR.pl {n : Int} {l : List Pl} (h : VR n l) {x : Pl} (hx : x ∈ l) : 0 ≤ x.p ∧ x.p < n := by
  obtain ⟨i, hi, rfl⟩ := List.getElem_of_mem hx
  have := h.rng i hi
  rw [pa_get hi] at this
  exact this
noncomputable def X11 : Fx := ⟨Tryz.prog, tys, 11, Tryz.f11, [0]⟩
theorem X11_ok : X11.Ok := ⟨Tryz.func11, tys_ok⟩
theorem implBooksIn_ct (r : Rk) (ex : Bool) (h : VR r.pl r.bs) (hb : ∀ x ∈ r.bs, bkRng x.b) : Ct Tryz.prog 11 [rkR ex r] (.tup [.own 8 false ((pbs r.bs).map bkA), i64 0]) [] := by
  obtain ⟨n, l⟩ := r
  simp only at h hb
  have cV := implValidRack_ct ⟨n, l⟩ ex (h.ok hb).1
  rw [(h.ok hb).2] at cV
  have hl := h.len
  have hn := h.hn
  refine Ct.intro X11 X11_ok rfl (by kernel_rfl) rfl rfl fun g hg => ?_
  repeat (refine Run.go rfl ?_)
  refine Run.cs rfl cV rfl rfl ?_
  repeat (refine Run.go rfl ?_)
  refine Run.cond rfl (fun h => by simp at h) (fun _ => ?_)
  repeat (refine Run.go rfl ?_)
  refine Run.cs rfl (rkBooks_ct ⟨n, l⟩ ex (by show l.length ≤ _; omega)) rfl (rfB _) ?_
  repeat (refine Run.go rfl ?_)
  exact Run.ret hg rfl rfl
noncomputable def X12 : Fx := ⟨Tryz.prog, tys, 12, Tryz.f12, [0]⟩
theorem X12_ok : X12.Ok := ⟨Tryz.func12, tys_ok⟩
theorem implFreePlaces_ct (l : List Pl) (N : Nat) (ex : Bool) (h : VR (N : Nat) l) (hb : ∀ x ∈ l, bkRng x.b) : Ct Tryz.prog 12 [rkR ex ⟨(N : Nat), l⟩] (.tup [.own 1 false ((idxs (fun b => !b) (tk l N)).map i64), i64 0]) [] := by
  have hn := h.hn
  have hl := h.len
  have cV := implValidRack_ct ⟨(N : Nat), l⟩ ex (h.ok hb).1
  rw [(h.ok hb).2] at cV
  have hD : (tk l N).length = N := tk_len l N
  have cT := taken_ct ⟨(N : Nat), l⟩ ex N rfl (by omega) (by show l.length ≤ _; omega) fun x hx => h.pl hx
  generalize hDe : tk l N = D at *
  clear hDe
  have hml : (D.map bof).length = N := by rw [List.length_map, hD]
  refine Ct.intro X12 X12_ok rfl (by kernel_rfl) rfl rfl fun g hg => ?_
  repeat (refine Run.go rfl ?_)
  refine Run.cs rfl cV rfl rfl ?_
  repeat (refine Run.go rfl ?_)
  refine Run.cond rfl (fun h => by simp at h) (fun _ => ?_)
  repeat (refine Run.go rfl ?_)
  refine Run.cs rfl cT rfl (rfBo _) ?_
  refine Run.freeze (v' := .ro 1 true (D.map bof)) 11 rfl rfl (by show AV.ro 1 true (AV.frzL (D.map bof)) = _; rw [frzBo]) ?_
  repeat (refine Run.go rfl ?_)
  refine Run.nilSlot 4 1 false rfl ?_
  refine Run.loop (fun i : Nat => ⟨[(4, .own 1 false ((idxs (fun b => !b) (D.take i)).map i64)), (11, .ro 1 true (D.map bof)), (12, i64 (N : Nat)), (13, i64 (i : Nat))], []⟩) (fun i => i ≤ N) (fun i => N - i) 0 (by omega) ?_ ?_
  · refine St.Le.mk' ⟨rfl, rfl, ?_, rfl, trivial⟩ trivial
    show i64 ((D.map bof).length : Nat) = _
    rw [hml]
  intro i hi IH
  repeat (refine Run.go rfl ?_)
  refine Run.cond rfl (fun h => ?_) (fun h => ?_)
  · have hlt : i < N := by have := of_decide_eq_true h; omega
    have hDi : i < D.length := by omega
    have hst := idxs_step (p := fun b : Bool => !b) (l := D) hDi
    have hil := idxs_len (fun b : Bool => !b) (D.take i)
    rw [List.length_take] at hil
    repeat (refine Run.go rfl ?_)
    refine Run.val rfl rfl rfl (ValOk.idx (m := (i : Nat)) (bof D[i]) rfl rfl rfl rfl rfl (by omega) (by rw [Int.toNat_natCast, List.getElem?_map, List.getElem?_eq_getElem hDi]; rfl)) rfl ?_
    repeat (refine Run.go rfl ?_)
    refine Run.cond rfl (fun h => ?_) (fun h => ?_)
    · have h : (!D[i]) = true := h
      rw [if_pos h] at hst
      repeat (refine Run.go rfl ?_)
      refine Run.buildSlice [i64 (i : Nat)] rfl rfl rfl rfl rfl rfl rfl rfl rfl rfl rfl rfl rfl rfl ?_
      refine Run.appendo rfl rfl rfl rfl rfl rfl rfl rfl rfl rfl rfl rfl rfl rfl (by show (((idxs (fun b => !b) (D.take i)).map i64).length + 1) * 8 ≤ 140737488355328; rw [List.length_map]; omega) (by simp [capMax]; omega) (by decide) rfl ?_
      repeat (refine Run.go rfl ?_)
      refine Run.of (IH (i + 1) (by omega) (by omega)) ⟨?_, rfl, rfl, ?_, trivial⟩ trivial
      · show AV.own _ _ _ = AV.own _ _ _
        rw [hst, List.map_append]
        rfl
      · show i64 _ = _
        rw [wrap_i64 (by omega) (by omega)]
        rfl
    · have h : (!D[i]) = false := h
      rw [if_neg (by rw [h]; decide)] at hst
      repeat (refine Run.go rfl ?_)
      refine Run.of (IH (i + 1) (by omega) (by omega)) ⟨?_, rfl, rfl, ?_, trivial⟩ trivial
      · rw [hst]
        rfl
      · show i64 _ = _
        rw [wrap_i64 (by omega) (by omega)]
        rfl
  · have hi2 : i = D.length := by have := of_decide_eq_false h; omega
    rw [hi2, List.take_length]
    repeat (refine Run.go rfl ?_)
    refine Run.pack 2 rfl rfl (by simp) ?_
    exact Run.ret hg rfl rfl
end Go.Proofs.YtbkelajnngdimaaGreatDoor

/- Contracts of the program's functions, and what follows from them. -/
set_option maxRecDepth 100000
namespace Go.Proofs.YtbkelajnngdimaaGreatDoor
open Go Go.Av
end Go.Proofs.YtbkelajnngdimaaGreatDoor

/- Contracts of the program's functions, and what follows from them. -/
set_option maxRecDepth 100000
namespace Go.Proofs.YtbkelajnngdimaaGreatDoor
open Go Go.Av
noncomputable def X23 : Fx := ⟨Tryz.prog, tys, 23, Tryz.f23, [0, 1]⟩
theorem X23_ok : X23.Ok := ⟨Tryz.func23, tys_ok⟩
theorem specSameBooks_ct (a b : List Bk) (e1 e2 : Bool) (ha : a.length ≤ 1048576 ∧ ∀ x ∈ a, bkRng x) (hb : b.length ≤ 1048576 ∧ ∀ x ∈ b, bkRng x) : Ct Tryz.prog 23 [.ro 8 e1 (a.map bkA), .ro 8 e2 (b.map bkA)] (bo (decide (a = b))) [] := by
  refine Ct.intro X23 X23_ok rfl (by kernel_rfl) rfl rfl fun g hg => ?_
  repeat (refine Run.go rfl ?_)
  refine Run.cs rfl (l01Same_ct a b e1 e2 ha hb) rfl rfl ?_
  repeat (refine Run.go rfl ?_)
  exact Run.ret hg rfl rfl
def plV (x : Pl) : List Value := .int .i16 x.p :: bkV x.b
theorem pl_key (x : Pl) (hr : plRng x) : ∃ l, keyOf Tryz.prog 53 (.agg (plV x).toArray) = some l := by
  obtain ⟨rp, r0, r1, r2, r3, r4, r5, r6, r7⟩ := hr
  have ep := i16_wf rp
  have e0 := i16_wf r0
  have e1 := u8_wf r1
  have e2 := u8_wf r2
  have e3 := u8_wf r3
  have e4 := i16_wf r4
  have e5 := i16_wf r5
  have e6 := i16_wf r6
  have e7 := i16_wf r7
  have up := Tryz.underlying53
  have u0 := Tryz.underlying31
  have u1 := Tryz.underlying24
  have u2 := Tryz.underlying5
  have u3 := Tryz.underlying29
  have hk : Tryz.prog.keyType 53 = true := by kernel_rfl
  have hf : (Value.agg (plV x).toArray).formed Tryz.prog 53 = true := by kernel_rfl
  have cp : Tryz.prog.cellsOf 53 = 9 := by kernel_rfl
  have c0 : Tryz.prog.cellsOf 31 = 8 := by kernel_rfl
  have c1 : Tryz.prog.cellsOf 24 = 1 := by kernel_rfl
  have c2 : Tryz.prog.cellsOf 5 = 1 := by kernel_rfl
  have c3 : Tryz.prog.cellsOf 29 = 3 := by kernel_rfl
  obtain ⟨N, hN⟩ : ∃ N, Tryz.prog.types.size + 1 = N + 5 := ⟨Tryz.prog.types.size - 4, by kernel_rfl⟩
  refine ⟨.string (keyBytes [.int .i16 x.p, .int .i16 x.b.cl, .int .u8 x.b.a, .int .u8 x.b.b, .int .u8 x.b.c, .int .i16 x.b.vol, .int .i16 x.b.wd, .int .i16 x.b.hi, .int .i16 x.b.wt]), ?_⟩
  unfold keyOf
  rw [up]
  simp only [hk, hf, Bool.and_self, if_true, hN]
  simp [Program.keyLits, up, u0, u1, u2, u3, cp, c0, c1, c2, c3, plV, bkV, Value.cells, ep, e0, e1, e2, e3, e4, e5, e6, e7, List.range_succ]
  rw [if_pos (by decide)]
  rfl
theorem plK : KTy Tryz.prog 53 plV plRng := by
  refine KTy.of 5 5 (by decide) (by kernel_rfl) (by kernel_rfl) (by rw [Tryz.underlying53]) pl_key ?_ (by kernel_rfl)
  intro a b h
  obtain ⟨ap, ⟨a0, a1, a2, a3, a4, a5, a6, a7⟩⟩ := a
  obtain ⟨bp, ⟨b0, b1, b2, b3, b4, b5, b6, b7⟩⟩ := b
  simp [plV, bkV] at h
  obtain ⟨h0, h1, h2, h3, h4, h5, h6, h7, h8⟩ := h
  simp [h0, h1, h2, h3, h4, h5, h6, h7, h8]
noncomputable def X18 : Fx := ⟨Tryz.prog, tys, 18, Tryz.f18, [0, 1]⟩
theorem X18_ok : X18.Ok := ⟨Tryz.func18, tys_ok⟩
theorem specSameRack_ct (r : Rk) (e1 e2 : Bool) (hl : r.bs.length ≤ 1048576) (hr : ∀ x ∈ r.bs, plRng x) : Ct Tryz.prog 18 [rkR e1 r, rkR e2 r] (bo true) [] := by
  obtain ⟨n, l⟩ := r
  simp only at hl hr
  refine Ct.intro X18 X18_ok rfl (by kernel_rfl) rfl rfl fun g hg => ?_
  repeat (refine Run.go rfl ?_)
  refine Run.bool 11 rfl (fun h => by simp at h) (fun _ => ?_)
  repeat (refine Run.go rfl ?_)
  refine Run.cond rfl (fun h => by simp at h) (fun _ => ?_)
  repeat (refine Run.go rfl ?_)
  refine Run.freezeBox 2 (2, 0) (rkR e1 ⟨n, l⟩).cells rfl rfl rfl rfl ?_
  refine Run.freezeBox 3 (3, 0) (rkR e2 ⟨n, l⟩).cells rfl rfl rfl rfl ?_
  refine Run.loop (fun j : Nat => ⟨[(2, .rp (rkR e1 ⟨n, l⟩).cells 0), (3, .rp (rkR e2 ⟨n, l⟩).cells 0), (5, i64 (j : Nat))], []⟩) (fun j => j ≤ l.length) (fun j => l.length - j) 0 (by omega) ?_ ?_
  · exact St.Le.mk' ⟨rfl, rfl, rfl, trivial⟩ trivial
  intro j hj IH
  repeat (refine Run.go rfl ?_)
  refine Run.cond rfl (fun h => ?_) (fun h => ?_)
  · have hlt : j < l.length := by simpa using h
    have hat : (l.map plA)[((j : Int)).toNat]? = some (plA l[j]) := by simp [hlt]
    have hx := hr l[j] (by simp)
    repeat (refine Run.go rfl ?_)
    refine Run.draw (by kernel_rfl) (by decide +kernel) ?_
    repeat (refine Quiet.go rfl ?_)
    refine Quiet.val rfl rfl (ValOk.idx (plA l[j]) rfl rfl rfl rfl rfl (by omega) hat) rfl ?_
    repeat (refine Quiet.go rfl ?_)
    refine Quiet.val rfl rfl (ValOk.idx (plA l[j]) rfl rfl rfl rfl rfl (by omega) hat) rfl ?_
    repeat (refine Quiet.go rfl ?_)
    refine Quiet.val rfl rfl (ValOk.neK l[j] l[j] rfl plK rfl rfl hx hx) rfl ?_
    repeat (refine Quiet.go rfl ?_)
    refine Quiet.nil ?_
    repeat (refine Run.go rfl ?_)
    refine Run.cond rfl (fun h => by simp at h) (fun _ => ?_)
    repeat (refine Run.go rfl ?_)
    refine Run.of (IH (j + 1) (by omega) (by omega)) ⟨rfl, rfl, ?_, trivial⟩ trivial
    show i64 _ = _
    rw [wrap_i64 (by omega) (by omega)]
    rfl
  · repeat (refine Run.go rfl ?_)
    exact Run.ret hg rfl rfl
end Go.Proofs.YtbkelajnngdimaaGreatDoor

/- Contracts of the program's functions, and what follows from them. -/
set_option maxRecDepth 100000
namespace Go.Proofs.YtbkelajnngdimaaGreatDoor
open Go Go.Av
theorem St.expL_cons {st : St} {n : Nat} {x x' : AV} {r r' : List AV} (hx : St.exp st n x = some x') (hr : St.expL st n r = some r') : St.expL st (n + 1) (x :: r) = some (x' :: r') := by
  simp only [St.expL, hx, hr]
theorem mid_set {α : Type} (A B : List α) (y z : α) : (A ++ [y] ++ B).set A.length z = A ++ [z] ++ B := by
  rw [List.append_assoc, List.append_assoc, List.set_append_right A.length z (Nat.le_refl _), Nat.sub_self]
  rfl
theorem mid_at {α : Type} (A B : List α) (y : α) {k : Nat} (hk : k < A.length) : (A ++ [y] ++ B)[k]? = A[k]? := by
  rw [List.append_assoc, List.getElem?_append_left hk]
noncomputable def X149 : Fx := ⟨Tryz.prog, tys, 149, Tryz.f149, [0, 1]⟩
theorem X149_ok : X149.Ok := ⟨Tryz.func149, tys_ok⟩
set_option maxHeartbeats 1000000 in
theorem l01Sorted_ct (l : List Bk) (eo e2 : Bool) (hr : ∀ x ∈ l, bkRng x) (hlen : l.length ≤ 1000) : Ct Tryz.prog 149 [.ro 1 eo usl, .ro 8 e2 (l.map bkA)] (.own 8 false ((srtL l).map bkA)) [] := by
  refine Ct.intro X149 X149_ok rfl (by kernel_rfl) rfl rfl fun g hg => ?_
  repeat (refine Run.go rfl ?_)
  refine Run.buildSlice [] rfl rfl rfl rfl rfl rfl rfl rfl rfl rfl rfl rfl rfl rfl ?_
  iterate 2 (refine Run.go rfl ?_)
  refine Run.loosen0 5 rfl ?_
  repeat (refine Run.go rfl ?_)
  refine Run.loop (fun i : Nat => ⟨[(0, .ro 1 eo usl), (1, .ro 8 e2 (l.map bkA)), (5, .own 8 false ((srtL (l.take i)).map bkA)), (6, i64 (i : Nat))], []⟩) (fun i => i ≤ l.length) (fun i => l.length - i) 0 (by omega) ?_ ?_
  · exact St.Le.mk' ⟨rfl, rfl, rfl, rfl, trivial⟩ trivial
  intro i hi IH
  repeat (refine Run.go rfl ?_)
  refine Run.cond rfl (fun h => ?_) (fun h => ?_)
  · have hlt : i < l.length := by simpa using h
    have hat : (l.map bkA)[((i : Int)).toNat]? = some (bkA l[i]) := by simp [hlt]
    have hxr := hr l[i] (by simp)
    obtain ⟨s1, s2, s3⟩ := srtL_ok (l.take i) (fun x hx => hr x (List.mem_of_mem_take hx)) [] List.Pairwise.nil (by simp)
    have hst := srtL_step hlt
    have IH1 := IH (i + 1) (by omega) (by omega)
    rw [hst] at IH1
    have s3 : ∀ y ∈ srtL (l.take i), bkRng y := fun y hy => by
      rcases s3 y hy with hy | hy
      · exact hr y (List.mem_of_mem_take hy)
      · simp at hy
    have s2 : (srtL (l.take i)).length = i := by
      refine Eq.trans s2 ?_
      rw [List.length_take]
      simp
      omega
    clear s1
    generalize l[i] = x at *
    generalize srtL (l.take i) = S at *
    have hml : (S.map bkA).length = i := by rw [List.length_map, s2]
    repeat (refine Run.go rfl ?_)
    refine Run.val rfl rfl rfl (ValOk.idx (bkA x) rfl rfl rfl rfl rfl (by omega) hat) rfl ?_
    repeat (refine Run.go rfl ?_)
    refine Run.buildSlice [bkA x] rfl rfl rfl rfl rfl rfl rfl rfl rfl rfl rfl rfl rfl rfl ?_
    refine Run.appendo rfl rfl rfl rfl rfl rfl rfl rfl rfl rfl rfl rfl rfl rfl (by show ((S.map bkA).length + 1) * 14 ≤ 140737488355328; rw [hml]; omega) (by simp [capMax]; omega) (by decide) rfl ?_
    repeat (refine Run.go rfl ?_)
    refine Run.of (st' := ⟨[(0, .ro 1 eo usl), (1, .ro 8 e2 (l.map bkA)), (5, .own 8 false (S.map bkA ++ [bkA x])), (6, i64 (i : Nat)), (7, i64 ((S.map bkA).length : Nat))], []⟩) ?_ ⟨rfl, rfl, rfl, rfl, rfl, trivial⟩ trivial
    unfold Nxt
    refine Run.unpack 5 rfl rfl ?_
    refine Run.loop (fun q : Nat × Bk => ⟨[(0, .ro 1 eo usl), (1, .ro 8 e2 (l.map bkA)), (5, .vec (5, 0) 0 (i + 1)), (6, i64 (i : Nat)), (7, i64 (q.1 : Nat))], [((5, 0), .vec 8 false ((S.take q.1 ++ [q.2] ++ S.drop q.1).map bkA))]⟩)
      (fun q => q.1 ≤ i ∧ splB S x i = splB S x q.1) (fun q => q.1) (i, x) ⟨Nat.le_refl _, rfl⟩ ?_ ?_
    · refine St.Le.mk' ⟨rfl, rfl, ?_, rfl, ?_, trivial⟩ ⟨?_, trivial⟩
      · show AV.vec _ _ (S.map bkA ++ [bkA x]).length = AV.vec _ _ _
        rw [List.length_append, hml]
        rfl
      · show i64 ((S.map bkA).length : Nat) = _
        rw [hml]
      · show Ob.vec _ _ (S.map bkA ++ [bkA x]) = Ob.vec _ _ ((S.take i ++ [x] ++ S.drop i).map bkA)
        rw [List.take_of_length_le (by omega), List.drop_of_length_le (by omega), List.append_nil, List.map_append]
        rfl
    rintro ⟨k, y⟩ ⟨hk, hsp⟩ IH2
    simp only at hk hsp IH2
    have hTl : (S.take k).length = k := by rw [List.length_take]; omega
    repeat (refine Run.go rfl ?_)
    refine Run.drawS ⟨[(0, .ro 1 eo usl), (1, .ro 8 e2 (l.map bkA)), (5, .vec (5, 0) 0 (i + 1)), (6, i64 (i : Nat)), (7, i64 (k : Nat)), (37, bo (decide (0 < k) && decide (uc x (S.getD (k - 1) bk0) < 0)))], [((5, 0), .vec 8 false ((S.take k ++ [y] ++ S.drop k).map bkA))]⟩ (by kernel_rfl) (by decide +kernel) ?_ ?_
    · repeat (refine Quiet.go rfl ?_)
      refine Quiet.bool 26 rfl (fun hA => ?_) (fun hA => ?_)
      · have hA : 0 < k := by have := of_decide_eq_true hA; omega
        obtain ⟨j, rfl⟩ : ∃ j, k = j + 1 := ⟨k - 1, by omega⟩
        have hjS : j < S.length := by omega
        have hgd : S.getD (j + 1 - 1) bk0 = S[j] := by rw [Nat.add_sub_cancel, List.getD_eq_getElem?_getD, List.getElem?_eq_getElem hjS]; rfl
        have hw : IntKind.i64.wrap (((j + 1 : Nat) : Int) - 1) = (j : Nat) := by rw [wrap_i64 (by omega) (by omega)]; omega
        have hatj : ((S.take (j + 1) ++ [y] ++ S.drop (j + 1)).map bkA)[0 + ((j : Nat) : Int).toNat]? = some (bkA S[j]) := by
          rw [Nat.zero_add, Int.toNat_natCast, List.getElem?_map, mid_at _ _ _ (by omega), List.getElem?_take, if_pos (by omega), List.getElem?_eq_getElem hjS]
          rfl
        rw [hgd]
        repeat (refine Quiet.go rfl ?_)
        refine Quiet.val rfl rfl (ValOk.idx (bkA x) rfl rfl rfl rfl rfl (by omega) hat) rfl ?_
        repeat (refine Quiet.go rfl ?_)
        refine Quiet.val rfl rfl (ValOk.idxv (m := (j : Nat)) rfl rfl rfl rfl rfl (by show i64 (IntKind.i64.wrap (((j + 1 : Nat) : Int) - 1)) = _; rw [hw]) (by omega) (by omega)) rfl ?_
        refine Quiet.call rfl rfl rfl rfl (St.expL_cons rfl (St.expL_cons rfl (St.expL_ep rfl hatj rfl))) rfl (l01Compare_ct x S[j] eo hxr (s3 _ (List.getElem_mem hjS))) rfl ?_
        repeat (refine Quiet.go rfl ?_)
        refine Quiet.nil (St.Le.mk' ⟨rfl, rfl, rfl, rfl, rfl, ?_, trivial⟩ ⟨rfl, trivial⟩)
        show bo (decide (uc x S[j] < 0)) = bo _
        rw [decide_eq_true hA, Bool.true_and]
      · have hA : ¬ 0 < k := by have := of_decide_eq_false hA; omega
        repeat (refine Quiet.go rfl ?_)
        refine Quiet.nil (St.Le.mk' ⟨rfl, rfl, rfl, rfl, rfl, ?_, trivial⟩ ⟨rfl, trivial⟩)
        show bo false = bo _
        rw [decide_eq_false hA, Bool.false_and]
    repeat (refine Run.go rfl ?_)
    refine Run.cond rfl (fun h => ?_) (fun h => ?_)
    · have h : 0 < k ∧ uc x (S.getD (k - 1) bk0) < 0 := by simpa using h
      obtain ⟨j, rfl⟩ : ∃ j, k = j + 1 := ⟨k - 1, by omega⟩
      have hjS : j < S.length := by omega
      have hgd : S.getD j bk0 = S[j] := by rw [List.getD_eq_getElem?_getD, List.getElem?_eq_getElem hjS]; rfl
      have hw : IntKind.i64.wrap (((j + 1 : Nat) : Int) - 1) = (j : Nat) := by rw [wrap_i64 (by omega) (by omega)]; omega
      have hatj : ((S.take (j + 1) ++ [y] ++ S.drop (j + 1)).map bkA)[0 + ((j : Nat) : Int).toNat]? = some (bkA S[j]) := by
        rw [Nat.zero_add, Int.toNat_natCast, List.getElem?_map, mid_at _ _ _ (by omega), List.getElem?_take, if_pos (by omega), List.getElem?_eq_getElem hjS]
        rfl
      have hatk : ((S.take (j + 1) ++ [y] ++ S.drop (j + 1)).map bkA)[0 + ((j + 1 : Nat) : Int).toNat]? = some (bkA y) := by
        rw [Nat.zero_add, Int.toNat_natCast, List.getElem?_map, List.append_assoc, List.getElem?_append_right (by omega), hTl, Nat.sub_self]
        rfl
      have hset : ((S.take (j + 1) ++ [y] ++ S.drop (j + 1)).map bkA).set (0 + ((j + 1 : Nat) : Int).toNat) (bkA S[j]) = (S.take j ++ [S[j]] ++ S.drop j).map bkA := by
        rw [Nat.zero_add, Int.toNat_natCast, ← List.map_set]
        congr 1
        have e := mid_set (S.take (j + 1)) (S.drop (j + 1)) y S[j]
        rw [hTl] at e
        rw [e, List.take_succ_eq_append_getElem hjS, List.drop_eq_getElem_cons hjS]
        simp
      rw [splB, if_pos (show uc x (S.getD j bk0) < 0 from h.2)] at hsp
      repeat (refine Run.go rfl ?_)
      refine Run.val rfl rfl rfl (ValOk.idxv (m := (j : Nat)) rfl rfl rfl rfl rfl (by show i64 (IntKind.i64.wrap (((j + 1 : Nat) : Int) - 1)) = _; rw [hw]) (by omega) (by omega)) rfl ?_
      refine Run.val rfl rfl rfl (ValOk.loadv (bkA S[j]) rfl rfl rfl rfl hatj rfl) rfl ?_
      refine Run.val rfl rfl rfl (ValOk.idxv (m := ((j + 1 : Nat) : Int)) rfl rfl rfl rfl rfl rfl (by omega) (by omega)) rfl ?_
      refine Run.storee (bkA y) (bkA S[j]) rfl rfl rfl rfl rfl rfl rfl hatk rfl rfl rfl ?_
      rw [hset]
      repeat (refine Run.go rfl ?_)
      refine Run.of (IH2 (j, S[j]) ⟨by show j ≤ i; omega, hsp⟩ (by show j < j + 1; omega)) ⟨rfl, rfl, rfl, rfl, ?_, trivial⟩ ⟨rfl, trivial⟩
      show i64 (IntKind.i64.wrap (((j + 1 : Nat) : Int) - 1)) = _
      rw [hw]
    · have h : ¬ (0 < k ∧ uc x (S.getD (k - 1) bk0) < 0) := by simpa using h
      have hk2 : splB S x i = k := by
        rw [hsp]
        cases k with
        | zero => rfl
        | succ j =>
          rw [splB, if_neg]
          intro hc
          exact h ⟨by omega, hc⟩
      have hatk : ((S.take k ++ [y] ++ S.drop k).map bkA)[0 + ((k : Nat) : Int).toNat]? = some (bkA y) := by
        rw [Nat.zero_add, Int.toNat_natCast, List.getElem?_map, List.append_assoc, List.getElem?_append_right (by omega), hTl, Nat.sub_self]
        rfl
      have hset : ((S.take k ++ [y] ++ S.drop k).map bkA).set (0 + ((k : Nat) : Int).toNat) (bkA x) = (insL S x).map bkA := by
        rw [Nat.zero_add, Int.toNat_natCast, ← List.map_set, insL, s2, hk2]
        have e := mid_set (S.take k) (S.drop k) y x
        rw [hTl] at e
        rw [e]
      repeat (refine Run.go rfl ?_)
      refine Run.val rfl rfl rfl (ValOk.idx (bkA x) rfl rfl rfl rfl rfl (by omega) hat) rfl ?_
      repeat (refine Run.go rfl ?_)
      refine Run.val rfl rfl rfl (ValOk.idxv (m := (k : Nat)) rfl rfl rfl rfl rfl rfl (by omega) (by omega)) rfl ?_
      refine Run.storee (bkA y) (bkA x) rfl rfl rfl rfl rfl rfl rfl hatk rfl rfl rfl ?_
      rw [hset]
      repeat (refine Run.go rfl ?_)
      refine Run.pack 5 rfl rfl (by rw [List.length_map, insL_len, s2]) ?_
      refine Run.of IH1 ⟨rfl, rfl, rfl, ?_, trivial⟩ trivial
      show i64 _ = _
      rw [wrap_i64 (by omega) (by omega)]
      rfl
  · have hj' : i = l.length := by simp at h; omega
    subst hj'
    rw [List.take_length]
    repeat (refine Run.go rfl ?_)
    refine Run.pack 4 rfl rfl (by simp) ?_
    exact Run.ret hg rfl rfl
end Go.Proofs.YtbkelajnngdimaaGreatDoor

/- Contracts of the program's functions, and what follows from them. -/
set_option maxRecDepth 100000
namespace Go.Proofs.YtbkelajnngdimaaGreatDoor
open Go Go.Av
theorem hmb (l : List Bk) : (l.map bkA).length = l.length := List.length_map ..
theorem swp_mem {S : List Bk} {i j : Nat} {y : Bk} {a b : Bk} (ha : a ∈ S) (hb : b ∈ S) (h : y ∈ (S.set i a).set j b) : y ∈ S := by
  rcases List.mem_or_eq_of_mem_set h with h | rfl
  · rcases List.mem_or_eq_of_mem_set h with h | rfl
    · exact h
    · exact ha
  · exact hb
noncomputable def X109 : Fx := ⟨Tryz.prog, tys, 109, Tryz.f109, [0]⟩
theorem X109_ok : X109.Ok := ⟨Tryz.func109, tys_ok⟩
set_option maxHeartbeats 4000000 in
theorem l01Drawn_ct (ex : Bool) (C : List Int) (hC : C.length ≤ 1048576) (hb : ∀ x ∈ C, 0 ≤ x ∧ x ≤ 255) (n s : Int) (hn : 0 ≤ n ∧ n ≤ 999900000) :
    ∃ (L : List Bk) (n' s' : Int), L.length ≤ 11 ∧ (∀ x ∈ L, bOk x) ∧ (n ≤ n' ∧ n' ≤ n + 200) ∧ CtG Tryz.prog 109 [.bp lid 0] (.box (srcL ex C n s)) (.own 8 false (L.map bkA)) (.box (srcL ex C n' s')) := by
  obtain ⟨k, n1, s1, hk, hn1, c1⟩ := pick_ct ex C hC hb n s 12 (by omega) (by omega)
  obtain ⟨l, N, Q, hl, hal, hN, hQ, hNm, hc⟩ := books_all ex C hC hb k.toNat n1 s1 (by omega) (by omega)
  have hkl : k = (l.length : Int) := by omega
  subst hkl
  rw [Int.toNat_natCast] at hNm
  obtain ⟨b1, n3, s3, hn3, c3⟩ := one_ct ex C hC hb (N l.length) (Q l.length) 2 (by omega) (by omega)
  obtain ⟨b2, n4, s4, hn4, c4⟩ := one_ct ex C hC hb n3 s3 2 (by omega) (by omega)
  have hSl : (srtL l).length = l.length := by
    have := (srtL_ok l (fun x hx => (hal x hx).1) [] List.Pairwise.nil (by simp)).2.1
    simpa [srtL] using this
  have hSm : ∀ y ∈ srtL l, bOk y := fun y hy => by
    rcases (srtL_ok l (fun x hx => (hal x hx).1) [] List.Pairwise.nil (by simp)).2.2 y hy with h | h
    · exact hal y h
    · simp at h
  have cS := l01Sorted_ct l true false (fun x hx => (hal x hx).1) (by omega)
  generalize hSd : srtL l = S at hSl hSm cS
  have hml : ((S.map bkA).length : Nat) = S.length := hmb S
  obtain ⟨i, n5, s5, hi, hn5, c5⟩ := pick_ct ex C hC hb n4 s4 (if 1 < S.length then ((S.map bkA).length : Nat) else 1) (by omega) (by split <;> omega)
  obtain ⟨j, n6, s6, hj, hn6, c6⟩ := pick_ct ex C hC hb n5 s5 (if 1 < S.length then ((S.map bkA).length : Nat) else 1) (by omega) (by split <;> omega)
  refine ⟨if b1 = true then (if 1 < S.length ∧ b2 = true then (S.set i.toNat (S.getD j.toNat bk0)).set j.toNat (S.getD i.toNat bk0) else S) else l,
    if b1 = true then (if 1 < S.length then (if b2 = true then n6 else n4) else n3) else n3, if b1 = true then (if 1 < S.length then (if b2 = true then s6 else s4) else s3) else s3, ?_, ?_, ?_, ?_⟩
  · split
    · split
      · rw [List.length_set, List.length_set]; omega
      · omega
    · omega
  · intro x hx
    split at hx
    · split at hx
      · rename_i hc2
        rw [if_pos hc2.1] at hi hj
        have e : ∀ q : Int, 0 ≤ q → q < ((S.map bkA).length : Nat) → S.getD q.toNat bk0 ∈ S := by
          intro q h0 h1
          rw [List.getD_eq_getElem?_getD, List.getElem?_eq_getElem (by omega)]
          exact List.getElem_mem _
        exact hSm x (swp_mem (e j hj.1 hj.2) (e i hi.1 hi.2) hx)
      · exact hSm x hx
    · exact hal x hx
  · repeat' split
    all_goals omega
  refine CtG.intro X109 X109_ok rfl (by kernel_rfl) rfl rfl rfl rfl rfl fun g v0 hg => ?_
  repeat (refine Run.go rfl ?_)
  refine Run.buildSlice [] rfl rfl rfl rfl rfl rfl rfl rfl rfl rfl rfl rfl rfl rfl ?_
  iterate 2 (refine Run.go rfl ?_)
  refine Run.loosen0 3 rfl ?_
  repeat (refine Run.go rfl ?_)
  refine Run.callG lid rfl rfl rfl rfl rfl rfl rfl rfl c1 rfl rfl ?_
  repeat (refine Run.go rfl ?_)
  refine Run.loop (fun j : Nat => ⟨[(0, .bp lid 0), (3, .own 8 false ((l.take j).map bkA)), (4, i64 ((l.length - j : Nat) : Int))], [(lid, .box (srcL ex C (N j) (Q j))), (lidT, .tie v0 lid)]⟩) (fun j => j ≤ l.length) (fun j => l.length - j) 0 (by omega) ?_ ?_
  · rw [hN, hQ]
    exact St.Le.mk' ⟨rfl, rfl, rfl, trivial⟩ ⟨rfl, rfl, trivial⟩
  intro t ht IH
  repeat (refine Run.go rfl ?_)
  refine Run.cond rfl (fun h => ?_) (fun h => ?_)
  · have hlt : t < l.length := by
      have : (((l.length - t : Nat) : Int)) > 0 := of_decide_eq_true h
      omega
    repeat (refine Run.go rfl ?_)
    refine Run.callG lid rfl rfl rfl rfl rfl rfl rfl rfl (hc t hlt) rfl rfl ?_
    refine Run.buildSlice [bkA l[t]] rfl rfl rfl rfl rfl rfl rfl rfl rfl rfl rfl rfl rfl rfl ?_
    refine Run.appendo rfl rfl rfl rfl rfl rfl rfl rfl rfl rfl rfl rfl rfl rfl (by show (((l.take t).map bkA).length + 1) * 14 ≤ 140737488355328; rw [List.length_map, List.length_take]; omega) (by simp [capMax]; omega) (by decide) rfl ?_
    repeat (refine Run.go rfl ?_)
    refine Run.of (IH (t + 1) (by omega) (by omega)) ⟨rfl, ?_, ?_, trivial⟩ ⟨rfl, rfl, trivial⟩
    · show AV.own _ _ _ = AV.own _ _ _
      rw [List.take_succ_eq_append_getElem hlt, List.map_append]
      rfl
    · show i64 _ = i64 _
      rw [wrap_i64 (by omega) (by omega)]
      congr 1
      omega
  have ht' : t = l.length := by
    have : ¬ (((l.length - t : Nat) : Int)) > 0 := of_decide_eq_false h
    omega
  subst ht'
  rw [List.take_length]
  repeat (refine Run.go rfl ?_)
  refine Run.callG lid rfl rfl rfl rfl rfl rfl rfl rfl c3 rfl rfl ?_
  repeat (refine Run.go rfl ?_)
  refine Run.cond rfl (fun hb1 => ?_) (fun hb1 => ?_)
  rotate_left
  · have hb1 : ¬ b1 = true := by simpa using hb1
    rw [if_neg hb1, if_neg hb1, if_neg hb1] at hg
    repeat (refine Run.go rfl ?_)
    refine Run.pack 2 rfl rfl (by simp) ?_
    exact Run.retG hg rfl rfl rfl rfl rfl rfl
  rw [if_pos hb1, if_pos hb1, if_pos hb1] at hg
  refine Run.freeze (v' := .ro 8 false (l.map bkA)) 3 rfl rfl (by show AV.ro _ _ (AV.frzL _) = _; rw [frzB]) ?_
  repeat (refine Run.go rfl ?_)
  refine Run.buildSlice usl rfl rfl rfl rfl rfl rfl rfl rfl rfl rfl rfl rfl rfl rfl ?_
  refine Run.freeze (v' := .ro 1 true usl) 22 rfl rfl rfl ?_
  repeat (refine Run.go rfl ?_)
  refine Run.cs rfl cS rfl (rfB _) ?_
  repeat (refine Run.go rfl ?_)
  refine Run.bool 28 rfl (fun h1 => ?_) (fun h1 => ?_)
  rotate_left
  · have h1 : ¬ 1 < S.length := by have := of_decide_eq_false h1; omega
    rw [if_neg (fun h => h1 h.1), if_neg h1, if_neg h1] at hg
    repeat (refine Run.go rfl ?_)
    refine Run.cond rfl (fun h => by simp at h) (fun _ => ?_)
    repeat (refine Run.go rfl ?_)
    refine Run.pack 2 rfl rfl (by simp) ?_
    exact Run.retG hg rfl rfl rfl rfl rfl rfl
  have h1 : 1 < S.length := by have := of_decide_eq_true h1; omega
  rw [if_pos h1, if_pos h1] at hg
  repeat (refine Run.go rfl ?_)
  refine Run.callG lid rfl rfl rfl rfl rfl rfl rfl rfl c4 rfl rfl ?_
  repeat (refine Run.go rfl ?_)
  refine Run.cond rfl (fun hb2 => ?_) (fun hb2 => ?_)
  rotate_left
  · have hb2 : ¬ b2 = true := by
      have hb2 : b2 = false := hb2
      rw [hb2]; decide
    rw [if_neg (fun h => hb2 h.2), if_neg hb2, if_neg hb2] at hg
    repeat (refine Run.go rfl ?_)
    refine Run.pack 2 rfl rfl (by simp) ?_
    exact Run.retG hg rfl rfl rfl rfl rfl rfl
  have hb2 : b2 = true := hb2
  rw [if_pos ⟨h1, hb2⟩, if_pos hb2, if_pos hb2] at hg
  rw [if_pos h1] at c5 c6 hi hj
  have hiS : i.toNat < S.length := by omega
  have hjS : j.toNat < S.length := by omega
  have egi : S.getD i.toNat bk0 = S[i.toNat] := by rw [List.getD_eq_getElem?_getD, List.getElem?_eq_getElem hiS]; rfl
  have egj : S.getD j.toNat bk0 = S[j.toNat] := by rw [List.getD_eq_getElem?_getD, List.getElem?_eq_getElem hjS]; rfl
  rw [egi, egj, List.map_set, List.map_set] at hg
  have hati : (S.map bkA)[0 + i.toNat]? = some (bkA S[i.toNat]) := by rw [Nat.zero_add, List.getElem?_map, List.getElem?_eq_getElem hiS]; rfl
  have hatj : (S.map bkA)[0 + j.toNat]? = some (bkA S[j.toNat]) := by rw [Nat.zero_add, List.getElem?_map, List.getElem?_eq_getElem hjS]; rfl
  have hatj2 : ((S.map bkA).set (0 + i.toNat) (bkA S[j.toNat]))[0 + j.toNat]? = some (bkA S[j.toNat]) := by
    rw [List.getElem?_set]
    split
    · rw [if_pos (by omega)]
    · exact hatj
  repeat (refine Run.go rfl ?_)
  refine Run.callG lid rfl rfl rfl rfl rfl rfl rfl rfl c5 rfl rfl ?_
  repeat (refine Run.go rfl ?_)
  refine Run.callG lid rfl rfl rfl rfl rfl rfl rfl rfl c6 rfl rfl ?_
  repeat (refine Run.go rfl ?_)
  refine Run.val rfl rfl rfl (ValOk.idxv (m := i) rfl rfl rfl rfl rfl rfl hi.1 (by omega)) rfl ?_
  refine Run.val rfl rfl rfl (ValOk.loadv (bkA S[i.toNat]) rfl rfl rfl rfl hati rfl) rfl ?_
  repeat (refine Run.go rfl ?_)
  refine Run.val rfl rfl rfl (ValOk.idxv (m := j) rfl rfl rfl rfl rfl rfl hj.1 (by omega)) rfl ?_
  refine Run.val rfl rfl rfl (ValOk.loadv (bkA S[j.toNat]) rfl rfl rfl rfl hatj rfl) rfl ?_
  refine Run.val rfl rfl rfl (ValOk.idxv (m := i) rfl rfl rfl rfl rfl rfl hi.1 (by omega)) rfl ?_
  refine Run.storee (bkA S[i.toNat]) (bkA S[j.toNat]) rfl rfl rfl rfl rfl rfl rfl hati rfl rfl rfl ?_
  repeat (refine Run.go rfl ?_)
  refine Run.val rfl rfl rfl (ValOk.idxv (m := j) rfl rfl rfl rfl rfl rfl hj.1 (by omega)) rfl ?_
  refine Run.storee (bkA S[j.toNat]) (bkA S[i.toNat]) rfl rfl rfl rfl rfl rfl rfl hatj2 rfl rfl rfl ?_
  rw [Nat.zero_add, Nat.zero_add]
  repeat (refine Run.go rfl ?_)
  refine Run.pack 2 rfl rfl (by simp) ?_
  exact Run.retG hg rfl rfl rfl rfl rfl rfl
end Go.Proofs.YtbkelajnngdimaaGreatDoor

/- Contracts of the program's functions, and what follows from them. -/
set_option maxRecDepth 100000
namespace Go.Proofs.YtbkelajnngdimaaGreatDoor
open Go Go.Av
noncomputable def X59 : Fx := ⟨Tryz.prog, tys, 59, Tryz.f59, [0]⟩
theorem X59_ok : X59.Ok := ⟨Tryz.func59, tys_ok⟩
set_option maxHeartbeats 8000000 in
theorem l05Drawn_ct (ex : Bool) (C : List Int) (hC : C.length ≤ 1048576) (hb : ∀ x ∈ C, 0 ≤ x ∧ x ≤ 255) (n s : Int) (hn : 0 ≤ n ∧ n ≤ 999800000) :
    ∃ (r : Rk) (n' s' : Int), VR r.pl r.bs ∧ (∀ x ∈ r.bs, bkRng x.b) ∧ (n ≤ n' ∧ n' ≤ n + 1000) ∧ CtG Tryz.prog 59 [.bp lid 0] (.box (srcL ex C n s)) (rkO false r) (.box (srcL ex C n' s')) := by
  obtain ⟨L, n1, s1, hL, hLb, hn1, c1⟩ := l01Drawn_ct ex C hC hb n s (by omega)
  have cS := l01Sorted_ct L true false (fun x hx => (hLb x hx).1) (by omega)
  obtain ⟨hS1, hS2, hS3⟩ := srtL_ok L (fun x hx => (hLb x hx).1) [] List.Pairwise.nil (by simp)
  have hS : Srt (srtL L) := hS1
  have hSl : (srtL L).length = L.length := by simpa [srtL] using hS2
  have hSm : ∀ y ∈ srtL L, bOk y := fun y hy => by
    rcases hS3 y hy with h | h
    · exact hLb y h
    · simp at h
  clear hS1 hS2 hS3
  generalize srtL L = S at cS hS hSl hSm
  obtain ⟨p, n2, s2, hp, hn2, c2⟩ := pick_ct ex C hC hb n1 s1 5 (by omega) (by omega)
  obtain ⟨q, n3, s3, hq, hn3, c3⟩ := pick_ct ex C hC hb n2 s2 4 (by omega) (by omega)
  obtain ⟨P, hP⟩ : ∃ P : Nat, (P : Int) = if (S.length : Int) + p = 0 then 1 + q else (S.length : Int) + p := ⟨(if (S.length : Int) + p = 0 then 1 + q else (S.length : Int) + p).toNat, by split <;> omega⟩
  obtain ⟨n4, hn4e⟩ : ∃ n4 : Int, n4 = if (S.length : Int) + p = 0 then n3 else n2 := ⟨_, rfl⟩
  obtain ⟨s4, hs4e⟩ : ∃ s4 : Int, s4 = if (S.length : Int) + p = 0 then s3 else s2 := ⟨_, rfl⟩
  have hn4 : n ≤ n4 ∧ n4 ≤ n + 210 := by rw [hn4e]; split <;> omega
  have hPb : 1 ≤ P ∧ S.length ≤ P ∧ P ≤ 20 := by
    split at hP <;> omega
  obtain ⟨f0, hf0⟩ : ∃ f0 : Nat, P = S.length + f0 := ⟨P - S.length, by omega⟩
  obtain ⟨F, hF⟩ := one_fn ex C hC hb 4 (by omega)
  have hF1 : ∀ p : Int × Int, 0 ≤ p.1 ∧ p.1 ≤ 999999999 → p.1 ≤ (F p).2.1 ∧ (F p).2.1 ≤ p.1 + 2 := fun p h => (hF p h).1
  have hF2 := fun (p : Int × Int) (h : 0 ≤ p.1 ∧ p.1 ≤ 999999999) => (hF p h).2
  have hdr := drP_ok hF1 S 0 f0 (n4, s4) (by show 0 ≤ n4; omega) (by show n4 + _ ≤ _; omega)
  obtain ⟨hV, hBr⟩ := dr_VR hdr hSm hS (by omega)
  rw [← hf0] at hV
  have hnb := hdr.n
  generalize hout : drP F S 0 f0 (n4, s4) = out at hdr hV hBr hnb
  obtain ⟨bs, n', s'⟩ := out
  simp only at hV hBr hnb
  refine ⟨⟨(P : Nat), bs⟩, n', s', hV, hBr, by omega, ?_⟩
  refine CtG.intro X59 X59_ok rfl (by kernel_rfl) rfl rfl rfl rfl rfl fun g v0 hg => ?_
  repeat (refine Run.go rfl ?_)
  refine Run.callG lid rfl rfl rfl rfl rfl rfl rfl rfl c1 rfl rfl ?_
  refine Run.freeze (v' := .ro 8 false (L.map bkA)) 10 rfl rfl (by show AV.ro _ _ (AV.frzL _) = _; rw [frzB]) ?_
  repeat (refine Run.go rfl ?_)
  refine Run.buildSlice usl rfl rfl rfl rfl rfl rfl rfl rfl rfl rfl rfl rfl rfl rfl ?_
  refine Run.freeze (v' := .ro 1 true usl) 11 rfl rfl rfl ?_
  repeat (refine Run.go rfl ?_)
  refine Run.cs rfl cS rfl (rfB _) ?_
  refine Run.freeze (v' := .ro 8 false (S.map bkA)) 13 rfl rfl (by show AV.ro _ _ (AV.frzL _) = _; rw [frzB]) ?_
  repeat (refine Run.go rfl ?_)
  refine Run.callG lid rfl rfl rfl rfl rfl rfl rfl rfl c2 rfl rfl ?_
  repeat (refine Run.go rfl ?_)
  have hml : ((S.map bkA).length : Nat) = S.length := hmb S
  have e1 : IntKind.i64.wrap (((S.map bkA).length : Nat) + p) = (S.length : Int) + p := by rw [hml, wrap_i64 (by omega) (by omega)]
  rw [e1]
  refine Run.condJ ⟨[(0, .bp lid 0), (2, .bp (2, 0) 0), (3, .ro 8 false (S.map bkA)), (4, i64 (P : Nat))], [(lid, .box (srcL ex C n4 s4)), (lidT, .tie v0 lid), ((2, 0), .box [i16 0, .lit (.slice none 0 0)])]⟩ rfl (fun h k' hN => ?_) (fun h k' hN => ?_) ?_
  · have h : (S.length : Int) + p = 0 := by simpa using h
    rw [if_pos h] at hP hn4e hs4e
    subst hn4e; subst hs4e
    repeat (refine Run.go rfl ?_)
    refine Run.callG lid rfl rfl rfl rfl rfl rfl rfl rfl c3 rfl rfl ?_
    repeat (refine Run.go rfl ?_)
    refine Run.of hN ⟨rfl, rfl, rfl, ?_, trivial⟩ ⟨rfl, rfl, rfl, trivial⟩
    show i64 (IntKind.i64.wrap (1 + q)) = _
    rw [wrap_i64 (by omega) (by omega), hP]
  · have h : ¬ (S.length : Int) + p = 0 := by simpa using h
    rw [if_neg h] at hP hn4e hs4e
    subst hn4e; subst hs4e
    repeat (refine Run.go rfl ?_)
    refine Run.of hN ⟨rfl, rfl, rfl, ?_, trivial⟩ ⟨rfl, rfl, rfl, trivial⟩
    show i64 ((S.length : Int) + p) = _
    rw [hP]
  have e16 : IntKind.i16.wrap (P : Nat) = (P : Nat) := wrap_i16 (by omega) (by omega)
  have e2 : IntKind.i64.wrap ((P : Nat) - ((S.map bkA).length : Nat)) = (f0 : Nat) := by rw [hml, wrap_i64 (by omega) (by omega)]; omega
  repeat (refine Run.go rfl ?_)
  refine Run.val rfl rfl rfl (ValOk.build (cs := [i16 (IntKind.i16.wrap (P : Nat)), .lit (.slice none 0 0)]) rfl rfl rfl rfl rfl) rfl ?_
  repeat (refine Run.go rfl ?_)
  refine Run.nilBox (5, 0) 1 9 false rfl rfl ?_
  refine Run.loop (fun z : Nat × List Pl × Nat × Nat × Int × Int => ⟨[(0, .bp lid 0), (2, .bp (2, 0) 0), (3, .ro 8 false (S.map bkA)), (5, .bp (5, 0) 0), (6, i64 (z.2.2.2.1 : Nat)), (7, i64 (z.2.2.1 : Nat)), (8, i64 (z.1 : Nat))],
    [(lid, .box (srcL ex C z.2.2.2.2.1 z.2.2.2.2.2)), (lidT, .tie v0 lid), ((2, 0), .box [i16 0, .lit (.slice none 0 0)]), ((5, 0), .box [i16 (P : Nat), .own 9 false (z.2.1.map plA)])]⟩)
    (fun z => z.1 ≤ S.length ∧ (z.2.1 ++ (drP F (S.drop z.1) z.2.2.1 z.2.2.2.1 z.2.2.2.2).1, (drP F (S.drop z.1) z.2.2.1 z.2.2.2.1 z.2.2.2.2).2) = (bs, n', s') ∧ z.2.2.1 + z.2.2.2.1 + (S.length - z.1) = P ∧ (0 ≤ z.2.2.2.2.1 ∧ z.2.2.2.2.1 + 2 * ((z.2.2.2.1 + (S.length - z.1) : Nat) : Int) ≤ 999900000) ∧ z.2.1.length = z.1)
    (fun z => S.length - z.1) (0, [], 0, f0, n4, s4) ⟨Nat.zero_le _, ?_, by show 0 + f0 + (S.length - 0) = P; omega, by show 0 ≤ n4 ∧ n4 + 2 * ((f0 + (S.length - 0) : Nat) : Int) ≤ _; omega, rfl⟩ ?_ ?_
  · show ([] ++ (drP F S 0 f0 (n4, s4)).1, (drP F S 0 f0 (n4, s4)).2) = _
    rw [hout]
    rfl
  · refine St.Le.mk' ⟨rfl, rfl, rfl, rfl, ?_, rfl, rfl, trivial⟩ ⟨rfl, rfl, rfl, ?_, trivial⟩
    · show i64 (IntKind.i64.wrap ((P : Nat) - ((S.map bkA).length : Nat))) = _
      rw [e2]
    · show Ob.box [i16 (IntKind.i16.wrap (P : Nat)), .own 9 false []] = _
      rw [e16]
      rfl
  rintro ⟨i, B, a, f, p0⟩ ⟨hi, hd, haf, hp0, hBl⟩ IH
  simp only at hi hd haf hp0 hBl IH
  repeat (refine Run.go rfl ?_)
  refine Run.cond rfl (fun h => ?_) (fun h => ?_)
  · have hlt : i < S.length := by simpa using h
    have hat : (S.map bkA)[((i : Int)).toNat]? = some (bkA S[i]) := by simp [hlt]
    rw [List.drop_eq_getElem_cons hlt, drP] at hd
    obtain ⟨i1, i2, i3⟩ := inn_ok hF1 f p0 hp0.1 (by omega)
    have i4 := inn_n hF1 f p0 hp0.1 (by omega)
    obtain ⟨⟨f2, p2⟩, hQ⟩ : ∃ z, z = inn F f p0 := ⟨_, rfl⟩
    rw [← hQ] at hd i1 i2 i3 i4
    simp only at hd i1 i2 i3 i4
    repeat (refine Run.go rfl ?_)
    refine Run.loopJ ⟨[(0, .bp lid 0), (2, .bp (2, 0) 0), (3, .ro 8 false (S.map bkA)), (5, .bp (5, 0) 0), (6, i64 (f2 : Nat)), (7, i64 ((a + (f - f2) : Nat) : Int)), (8, i64 (i : Nat))],
      [(lid, .box (srcL ex C p2.1 p2.2)), (lidT, .tie v0 lid), ((2, 0), .box [i16 0, .lit (.slice none 0 0)]), ((5, 0), .box [i16 (P : Nat), .own 9 false (B.map plA)])]⟩ (fun k' hN => ?_) ?_
    · refine Run.loop (fun z : Nat × Nat × Int × Int => ⟨[(0, .bp lid 0), (2, .bp (2, 0) 0), (3, .ro 8 false (S.map bkA)), (5, .bp (5, 0) 0), (6, i64 (z.2.1 : Nat)), (7, i64 (z.1 : Nat)), (8, i64 (i : Nat))],
        [(lid, .box (srcL ex C z.2.2.1 z.2.2.2)), (lidT, .tie v0 lid), ((2, 0), .box [i16 0, .lit (.slice none 0 0)]), ((5, 0), .box [i16 (P : Nat), .own 9 false (B.map plA)])]⟩)
        (fun z => inn F z.2.1 z.2.2 = (f2, p2) ∧ z.1 + z.2.1 = a + f ∧ (0 ≤ z.2.2.1 ∧ z.2.2.1 + 2 * (z.2.1 : Nat) ≤ 999999990)) (fun z => z.2.1) (a, f, p0) ⟨hQ.symm, rfl, by show 0 ≤ p0.1 ∧ p0.1 + 2 * (f : Nat) ≤ _; omega⟩ ?_ ?_
      · exact St.Le.mk' ⟨rfl, rfl, rfl, rfl, rfl, rfl, rfl, trivial⟩ ⟨rfl, rfl, rfl, rfl, trivial⟩
      rintro ⟨a1, f1, p1⟩ ⟨hin, haf1, hp1⟩ IH2
      simp only at hin haf1 hp1 IH2
      repeat (refine Run.go rfl ?_)
      refine Run.bool 39 rfl (fun h => ?_) (fun h => ?_)
      · have h : decide (((f1 : Nat) : Int) > 0) = true := h
        have h : 0 < f1 := by have := of_decide_eq_true h; omega
        obtain ⟨f3, rfl⟩ : ∃ f3, f1 = f3 + 1 := ⟨f1 - 1, by omega⟩
        have hc1 := hF2 p1 (by omega)
        have hc2 := hF1 p1 (by omega)
        rw [inn] at hin
        repeat (refine Run.go rfl ?_)
        refine Run.callG lid rfl rfl rfl rfl rfl rfl rfl rfl hc1 rfl rfl ?_
        repeat (refine Run.go rfl ?_)
        refine Run.cond rfl (fun hbt => ?_) (fun hbt => ?_)
        · have hbt : (F p1).1 = true := hbt
          rw [if_pos hbt] at hin
          repeat (refine Run.go rfl ?_)
          refine Run.of (IH2 (a1 + 1, f3, (F p1).2) ⟨hin, by show a1 + 1 + f3 = a + f; omega, by show 0 ≤ (F p1).2.1 ∧ (F p1).2.1 + 2 * (f3 : Nat) ≤ _; omega⟩ (by show f3 < f3 + 1; omega)) ⟨rfl, rfl, rfl, rfl, ?_, ?_, rfl, trivial⟩ ⟨rfl, rfl, rfl, rfl, trivial⟩
          · show i64 (IntKind.i64.wrap (((f3 + 1 : Nat) : Int) - 1)) = i64 (f3 : Nat)
            rw [wrap_i64 (by omega) (by omega)]
            congr 1
            omega
          · show i64 (IntKind.i64.wrap ((a1 : Nat) + 1)) = i64 ((a1 + 1 : Nat) : Int)
            rw [wrap_i64 (by omega) (by omega)]
            rfl
        · have hbt : ¬ (F p1).1 = true := by
            have hbt : (F p1).1 = false := hbt
            rw [hbt]; decide
          rw [if_neg hbt] at hin
          obtain ⟨rfl, rfl⟩ := Prod.mk.inj hin
          repeat (refine Run.go rfl ?_)
          refine Run.of hN ⟨rfl, rfl, rfl, rfl, rfl, ?_, rfl, trivial⟩ ⟨rfl, rfl, rfl, rfl, trivial⟩
          show i64 (a1 : Nat) = i64 ((a + (f - (f3 + 1)) : Nat) : Int)
          congr 2
          omega
      · have h : decide (((f1 : Nat) : Int) > 0) = false := h
        have h : f1 = 0 := by have := of_decide_eq_false h; omega
        subst h
        rw [inn] at hin
        obtain ⟨rfl, rfl⟩ := Prod.mk.inj hin
        repeat (refine Run.go rfl ?_)
        refine Run.cond rfl (fun h => by simp at h) (fun _ => ?_)
        repeat (refine Run.go rfl ?_)
        refine Run.of hN ⟨rfl, rfl, rfl, rfl, rfl, ?_, rfl, trivial⟩ ⟨rfl, rfl, rfl, rfl, trivial⟩
        show i64 (a1 : Nat) = i64 ((a + (f - 0) : Nat) : Int)
        rw [show a1 = a + (f - 0) by omega]
    generalize hx : S[i] = x at hd hat
    generalize ha2 : a + (f - f2) = a2 at hd
    have ha16 : IntKind.i16.wrap (a2 : Nat) = (a2 : Nat) := wrap_i16 (by omega) (by omega)
    have hDm : (B.map plA).length = B.length := List.length_map ..
    repeat (refine Run.go rfl ?_)
    refine Run.unBox (5, 0) 1 (5, 1) rfl rfl rfl (by decide) ?_
    rw [hDm]
    refine Run.drawI (fun D => ⟨[(0, .bp lid 0), (2, .bp (2, 0) 0), (3, .ro 8 false (S.map bkA)), (5, .bp (5, 0) 0), (6, i64 (f2 : Nat)), (7, i64 (a2 : Nat)), (8, i64 (i : Nat)), (47, bif D 0 then .bp (5, 0) 1 else .top), (48, bif D 1 then .vec (5, 1) 0 B.length else .top), (49, bif D 2 then i64 (a2 : Nat) else .top), (50, bif D 3 then i16 (a2 : Nat) else .top), (51, bif D 4 then .ro 8 false (S.map bkA) else .top), (52, bif D 5 then i64 (i : Nat) else .top), (53, bif D 6 then .rp (bkA x).cells 0 else .top), (54, bif D 7 then bkA x else .top), (55, bif D 8 then plA ⟨(a2 : Nat), x⟩ else .top), (56, bif D 10 then .top else bif D 9 then .own 9 true [plA ⟨(a2 : Nat), x⟩] else .top), (57, bif D 12 then .top else bif D 10 then .own 9 false ((B.map plA) ++ [plA ⟨(a2 : Nat), x⟩]) else .top), (58, bif D 11 then .bp (5, 0) 1 else .top)], [(lid, Ob.box (srcL ex C p2.1 p2.2)), (lidT, Ob.tie v0 lid), ((2, 0), Ob.box [i16 0, .lit (.slice none 0 0)]), ((5, 0), (bif D 12 then Ob.box [i16 (P : Nat), .vec (57, 0) 0 ((B.map plA) ++ [plA ⟨(a2 : Nat), x⟩]).length] else Ob.box [i16 (P : Nat), .vec (5, 1) 0 B.length])), ((5, 1), (bif D 10 then Ob.gone else Ob.vec 9 false (B.map plA))), ((57, 0), (bif D 12 then Ob.vec 9 false ((B.map plA) ++ [plA ⟨(a2 : Nat), x⟩]) else Ob.gone))]⟩) (by decide +kernel) (by decide +kernel) ?_ ?_ fun k' => ⟨?_, ?_, ?_, ?_, ?_, ?_, ?_, ?_, ?_, ?_, ?_, ?_, ?_, trivial⟩
    · exact St.Le.mk' ⟨rfl, rfl, rfl, rfl, rfl, rfl, rfl, rfl, rfl, rfl, rfl, rfl, rfl, rfl, rfl, rfl, rfl, rfl, rfl, trivial⟩ ⟨rfl, rfl, rfl, rfl, rfl, rfl, trivial⟩
    rotate_left
    · intro D hid h0 hp hs rest hK
      obtain ⟨d1, d11, d12, -⟩ : AllD D false [1, 11, 12] := ideal_sub hs (by decide +kernel)
      simp only [d1, d11, d12, h0, cond_true, cond_false]
      refine Run.go rfl ?_
      refine Run.le ?_ hK
      simp only [d1, d11, d12, h0, Nat.reduceBEq, Bool.false_or, Bool.true_or, cond_true, cond_false]
      exact St.Le.mk' ⟨rfl, rfl, rfl, rfl, rfl, rfl, rfl, rfl, rfl, rfl, rfl, rfl, rfl, rfl, rfl, rfl, rfl, rfl, rfl, trivial⟩ ⟨rfl, rfl, rfl, rfl, rfl, rfl, trivial⟩
    · intro D hid h0 hp hs rest hK
      obtain ⟨d0, -⟩ : AllD D true [0] := ideal_sub hp (by decide +kernel)
      obtain ⟨d10, d11, d12, -⟩ : AllD D false [10, 11, 12] := ideal_sub hs (by decide +kernel)
      have d12 : D 12 = false := ideal_no (i := 12) (j := 1) hid (by decide +kernel) h0
      simp only [d0, d10, d11, d12, d12, h0, cond_true, cond_false]
      refine Run.go rfl ?_
      refine Run.le ?_ hK
      simp only [d0, d10, d11, d12, d12, h0, Nat.reduceBEq, Bool.false_or, Bool.true_or, cond_true, cond_false]
      exact St.Le.mk' ⟨rfl, rfl, rfl, rfl, rfl, rfl, rfl, rfl, rfl, rfl, rfl, rfl, rfl, rfl, rfl, rfl, rfl, rfl, rfl, trivial⟩ ⟨rfl, rfl, rfl, rfl, rfl, rfl, trivial⟩
    · intro D hid h0 hp hs rest hK
      obtain ⟨d3, d11, d12, -⟩ : AllD D false [3, 11, 12] := ideal_sub hs (by decide +kernel)
      simp only [d3, d11, d12, h0, cond_true, cond_false]
      refine Run.go rfl ?_
      refine Run.le ?_ hK
      simp only [d3, d11, d12, h0, Nat.reduceBEq, Bool.false_or, Bool.true_or, cond_true, cond_false]
      exact St.Le.mk' ⟨rfl, rfl, rfl, rfl, rfl, rfl, rfl, rfl, rfl, rfl, rfl, rfl, rfl, rfl, rfl, rfl, rfl, rfl, rfl, trivial⟩ ⟨rfl, rfl, rfl, rfl, rfl, rfl, trivial⟩
    · intro D hid h0 hp hs rest hK
      obtain ⟨d2, -⟩ : AllD D true [2] := ideal_sub hp (by decide +kernel)
      obtain ⟨d8, d11, d12, -⟩ : AllD D false [8, 11, 12] := ideal_sub hs (by decide +kernel)
      simp only [d2, d8, d11, d12, h0, cond_true, cond_false]
      refine Run.go rfl ?_
      rw [ha16]
      refine Run.le ?_ hK
      simp only [d2, d8, d11, d12, h0, Nat.reduceBEq, Bool.false_or, Bool.true_or, cond_true, cond_false]
      exact St.Le.mk' ⟨rfl, rfl, rfl, rfl, rfl, rfl, rfl, rfl, rfl, rfl, rfl, rfl, rfl, rfl, rfl, rfl, rfl, rfl, rfl, trivial⟩ ⟨rfl, rfl, rfl, rfl, rfl, rfl, trivial⟩
    · intro D hid h0 hp hs rest hK
      obtain ⟨d6, d11, d12, -⟩ : AllD D false [6, 11, 12] := ideal_sub hs (by decide +kernel)
      simp only [d6, d11, d12, h0, cond_true, cond_false]
      refine Run.go rfl ?_
      refine Run.le ?_ hK
      simp only [d6, d11, d12, h0, Nat.reduceBEq, Bool.false_or, Bool.true_or, cond_true, cond_false]
      exact St.Le.mk' ⟨rfl, rfl, rfl, rfl, rfl, rfl, rfl, rfl, rfl, rfl, rfl, rfl, rfl, rfl, rfl, rfl, rfl, rfl, rfl, trivial⟩ ⟨rfl, rfl, rfl, rfl, rfl, rfl, trivial⟩
    · intro D hid h0 hp hs rest hK
      obtain ⟨d6, d11, d12, -⟩ : AllD D false [6, 11, 12] := ideal_sub hs (by decide +kernel)
      simp only [d6, d11, d12, h0, cond_true, cond_false]
      refine Run.go rfl ?_
      refine Run.le ?_ hK
      simp only [d6, d11, d12, h0, Nat.reduceBEq, Bool.false_or, Bool.true_or, cond_true, cond_false]
      exact St.Le.mk' ⟨rfl, rfl, rfl, rfl, rfl, rfl, rfl, rfl, rfl, rfl, rfl, rfl, rfl, rfl, rfl, rfl, rfl, rfl, rfl, trivial⟩ ⟨rfl, rfl, rfl, rfl, rfl, rfl, trivial⟩
    · intro D hid h0 hp hs rest hK
      obtain ⟨d4, d5, -⟩ : AllD D true [4, 5] := ideal_sub hp (by decide +kernel)
      obtain ⟨d7, d11, d12, -⟩ : AllD D false [7, 11, 12] := ideal_sub hs (by decide +kernel)
      simp only [d4, d5, d7, d11, d12, h0, cond_true, cond_false]
      refine Run.val rfl rfl rfl (ValOk.idx (bkA x) rfl rfl rfl rfl rfl (by omega) hat) rfl ?_
      refine Run.le ?_ hK
      simp only [d4, d5, d7, d11, d12, h0, Nat.reduceBEq, Bool.false_or, Bool.true_or, cond_true, cond_false]
      exact St.Le.mk' ⟨rfl, rfl, rfl, rfl, rfl, rfl, rfl, rfl, rfl, rfl, rfl, rfl, rfl, rfl, rfl, rfl, rfl, rfl, rfl, trivial⟩ ⟨rfl, rfl, rfl, rfl, rfl, rfl, trivial⟩
    · intro D hid h0 hp hs rest hK
      obtain ⟨d6, -⟩ : AllD D true [6] := ideal_sub hp (by decide +kernel)
      obtain ⟨d8, d11, d12, -⟩ : AllD D false [8, 11, 12] := ideal_sub hs (by decide +kernel)
      simp only [d6, d8, d11, d12, h0, cond_true, cond_false]
      refine Run.go rfl ?_
      refine Run.le ?_ hK
      simp only [d6, d8, d11, d12, h0, Nat.reduceBEq, Bool.false_or, Bool.true_or, cond_true, cond_false]
      exact St.Le.mk' ⟨rfl, rfl, rfl, rfl, rfl, rfl, rfl, rfl, rfl, rfl, rfl, rfl, rfl, rfl, rfl, rfl, rfl, rfl, rfl, trivial⟩ ⟨rfl, rfl, rfl, rfl, rfl, rfl, trivial⟩
    · intro D hid h0 hp hs rest hK
      obtain ⟨d3, d7, -⟩ : AllD D true [3, 7] := ideal_sub hp (by decide +kernel)
      obtain ⟨d9, d11, d12, -⟩ : AllD D false [9, 11, 12] := ideal_sub hs (by decide +kernel)
      simp only [d3, d7, d9, d11, d12, h0, cond_true, cond_false]
      refine Run.val rfl rfl rfl (ValOk.build rfl rfl rfl rfl rfl) rfl ?_
      refine Run.le ?_ hK
      simp only [d3, d7, d9, d11, d12, h0, Nat.reduceBEq, Bool.false_or, Bool.true_or, cond_true, cond_false]
      exact St.Le.mk' ⟨rfl, rfl, rfl, rfl, rfl, rfl, rfl, rfl, rfl, rfl, rfl, rfl, rfl, rfl, rfl, rfl, rfl, rfl, rfl, trivial⟩ ⟨rfl, rfl, rfl, rfl, rfl, rfl, trivial⟩
    · intro D hid h0 hp hs rest hK
      obtain ⟨d8, -⟩ : AllD D true [8] := ideal_sub hp (by decide +kernel)
      obtain ⟨d10, d11, d12, -⟩ : AllD D false [10, 11, 12] := ideal_sub hs (by decide +kernel)
      simp only [d8, d10, d11, d12, h0, cond_true, cond_false]
      refine Run.buildSlice [plA ⟨(a2 : Nat), x⟩] rfl rfl rfl rfl rfl rfl rfl rfl rfl rfl rfl rfl rfl rfl ?_
      refine Run.le ?_ hK
      simp only [d8, d10, d11, d12, h0, Nat.reduceBEq, Bool.false_or, Bool.true_or, cond_true, cond_false]
      exact St.Le.mk' ⟨rfl, rfl, rfl, rfl, rfl, rfl, rfl, rfl, rfl, rfl, rfl, rfl, rfl, rfl, rfl, rfl, rfl, rfl, rfl, trivial⟩ ⟨rfl, rfl, rfl, rfl, rfl, rfl, trivial⟩
    · intro D hid h0 hp hs rest hK
      obtain ⟨d1, d9, -⟩ : AllD D true [1, 9] := ideal_sub hp (by decide +kernel)
      obtain ⟨d11, d12, -⟩ : AllD D false [11, 12] := ideal_sub hs (by decide +kernel)
      simp only [d1, d9, d11, d12, h0, cond_true, cond_false]
      refine Run.appendo (id := (5, 1)) rfl rfl rfl rfl rfl rfl rfl rfl rfl rfl rfl rfl hDm.symm rfl (by rw [hDm]; show (_ + 1) * 16 ≤ _; omega) (by rw [hDm]; show _ + 1 ≤ 9223372036854775807; omega) (by decide) rfl ?_
      refine Run.le ?_ hK
      simp only [d1, d9, d11, d12, h0, Nat.reduceBEq, Bool.false_or, Bool.true_or, cond_true, cond_false]
      exact St.Le.mk' ⟨rfl, rfl, rfl, rfl, rfl, rfl, rfl, rfl, rfl, rfl, rfl, rfl, rfl, rfl, rfl, rfl, rfl, rfl, rfl, trivial⟩ ⟨rfl, rfl, rfl, rfl, rfl, rfl, trivial⟩
    · intro D hid h0 hp hs rest hK
      obtain ⟨d0, d1, d2, d3, d4, d5, d6, d7, d8, d9, d10, -⟩ : AllD D true [0, 1, 2, 3, 4, 5, 6, 7, 8, 9, 10] := ideal_sub hp (by decide +kernel)
      obtain ⟨d12, -⟩ : AllD D false [12] := ideal_sub hs (by decide +kernel)
      simp only [d0, d1, d2, d3, d4, d5, d6, d7, d8, d9, d10, d12, h0, cond_true, cond_false]
      refine Run.go rfl ?_
      refine Run.le ?_ hK
      simp only [d0, d1, d2, d3, d4, d5, d6, d7, d8, d9, d10, d12, h0, Nat.reduceBEq, Bool.false_or, Bool.true_or, cond_true, cond_false]
      exact St.Le.mk' ⟨rfl, rfl, rfl, rfl, rfl, rfl, rfl, rfl, rfl, rfl, rfl, rfl, rfl, rfl, rfl, rfl, rfl, rfl, rfl, trivial⟩ ⟨rfl, rfl, rfl, rfl, rfl, rfl, trivial⟩
    · intro D hid h0 hp hs rest hK
      obtain ⟨d0, d1, d2, d3, d4, d5, d6, d7, d8, d9, d10, d11, -⟩ : AllD D true [0, 1, 2, 3, 4, 5, 6, 7, 8, 9, 10, 11] := ideal_sub hp (by decide +kernel)
      simp only [d0, d1, d2, d3, d4, d5, d6, d7, d8, d9, d10, d11, h0, cond_true, cond_false]
      refine Run.unpack 57 rfl rfl ?_
      refine Run.go rfl ?_
      refine Run.forget 57 ?_
      refine Run.le ?_ hK
      simp only [d0, d1, d2, d3, d4, d5, d6, d7, d8, d9, d10, d11, h0, Nat.reduceBEq, Bool.false_or, Bool.true_or, cond_true, cond_false]
      exact St.Le.mk' ⟨rfl, rfl, rfl, rfl, rfl, rfl, rfl, rfl, rfl, rfl, rfl, rfl, rfl, rfl, rfl, rfl, rfl, rfl, rfl, trivial⟩ ⟨rfl, rfl, rfl, rfl, rfl, rfl, trivial⟩
    refine Run.packBox (5, 0) 1 rfl rfl rfl rfl ?_
    repeat (refine Run.go rfl ?_)
    refine Run.of (IH (i + 1, B ++ [(⟨(a2 : Nat), x⟩ : Pl)], a2 + 1, f2, p2) ⟨by show i + 1 ≤ _; omega, ?_, ?_, ?_, ?_⟩ (by show _ - (i + 1) < _; omega)) ⟨rfl, rfl, rfl, rfl, rfl, ?_, ?_, trivial⟩ ⟨rfl, rfl, rfl, ?_, trivial⟩
    · show ((B ++ [(⟨(a2 : Nat), x⟩ : Pl)]) ++ _, _) = _
      rw [List.append_assoc]
      exact hd
    · show a2 + 1 + f2 + (S.length - (i + 1)) = P
      omega
    · show 0 ≤ p2.1 ∧ p2.1 + 2 * ((f2 + (S.length - (i + 1)) : Nat) : Int) ≤ 999900000
      omega
    · show (B ++ [_]).length = i + 1
      rw [List.length_append, hBl]
      rfl
    · show i64 (IntKind.i64.wrap ((a2 : Nat) + 1)) = i64 ((a2 + 1 : Nat) : Int)
      rw [wrap_i64 (by omega) (by omega)]
      rfl
    · show i64 (IntKind.i64.wrap ((i : Nat) + 1)) = i64 ((i + 1 : Nat) : Int)
      rw [wrap_i64 (by omega) (by omega)]
      rfl
    · show Ob.box [_, AV.own 9 false (B.map plA ++ [plA ⟨(a2 : Nat), x⟩])] = Ob.box [_, AV.own 9 false ((B ++ [(⟨(a2 : Nat), x⟩ : Pl)]).map plA)]
      rw [List.map_append]
      rfl
  · have hi' : i = S.length := by simp at h; omega
    subst hi'
    rw [List.drop_length] at hd
    have hd : (B ++ [], p0) = (bs, n', s') := hd
    rw [List.append_nil] at hd
    obtain ⟨rfl, rfl⟩ := Prod.mk.inj hd
    repeat (refine Run.go rfl ?_)
    refine Run.unBox (5, 0) 1 (5, 1) rfl rfl rfl (by decide) ?_
    repeat (refine Run.go rfl ?_)
    refine Run.packBox (2, 0) 1 rfl rfl rfl rfl ?_
    exact Run.retG hg rfl rfl rfl rfl rfl rfl
end Go.Proofs.YtbkelajnngdimaaGreatDoor

/- Contracts of the program's functions, and what follows from them. -/
set_option maxRecDepth 100000
namespace Go.Proofs.YtbkelajnngdimaaGreatDoor
open Go Go.Av
end Go.Proofs.YtbkelajnngdimaaGreatDoor

/- Contracts of the program's functions, and what follows from them. -/
set_option maxRecDepth 100000
namespace Go.Proofs.YtbkelajnngdimaaGreatDoor
open Go Go.Av
noncomputable def X7 : Fx := ⟨Tryz.prog, tys, 7, Tryz.f7, [0]⟩
theorem X7_ok : X7.Ok := ⟨Tryz.func7, tys_ok⟩
theorem P6Rack_ct (ex : Bool) (C : List Int) (hC : C.length ≤ 1048576) (hb : ∀ x ∈ C, 0 ≤ x ∧ x ≤ 255) :
    ∃ r : Rk, VR r.pl r.bs ∧ (∀ x ∈ r.bs, bkRng x.b) ∧ Ct Tryz.prog 7 [.ro 1 ex (C.map u8)] (rkO false r) [] := by
  obtain ⟨r, n', s', hV, hB, hn, c1⟩ := l05Drawn_ct ex C hC hb 0 0 (by omega)
  refine ⟨r, hV, hB, ?_⟩
  obtain ⟨n, l⟩ := r
  refine Ct.intro X7 X7_ok rfl (by kernel_rfl) rfl rfl fun g hg => ?_
  repeat (refine Run.go rfl ?_)
  refine Run.callN rfl rfl rfl rfl rfl rfl rfl from_calls rfl rfl ?_
  refine Run.callG (4, 0) rfl rfl rfl rfl rfl rfl rfl rfl c1 rfl rfl ?_
  refine Run.unagg 5 1 (5, 1) rfl rfl rfl ?_
  repeat (refine Run.go rfl ?_)
  refine Run.packBox (2, 0) 1 rfl rfl rfl rfl ?_
  exact Run.ret hg rfl rfl
end Go.Proofs.YtbkelajnngdimaaGreatDoor

/- Contracts of the program's functions, and what follows from them. -/
set_option maxRecDepth 100000
namespace Go.Proofs.YtbkelajnngdimaaGreatDoor
open Go Go.Av
theorem VR.iff {n : Int} {l : List Pl} : VR n l ↔ (1 ≤ n ∧ n ≤ 60) ∧ l.Pairwise (fun x y => x.p < y.p ∧ ky x.b ≤ ky y.b) ∧ ∀ x ∈ l, (0 ≤ x.p ∧ x.p < n) ∧ vB x.b = true := by
  constructor
  · intro h
    refine ⟨h.hn, List.pairwise_iff_getElem.2 fun i j hi hj hij => ?_, fun x hx => ⟨?_, h.vb x hx⟩⟩
    · have h1 := h.inc i j hij hj
      have h2 := h.so i j hij hj
      rw [pa_get hi, pa_get hj] at h1
      rw [ba_get hi, ba_get hj] at h2
      exact ⟨h1, h2⟩
    · obtain ⟨i, hi, rfl⟩ := List.getElem_of_mem hx
      have := h.rng i hi
      rw [pa_get hi] at this
      exact this
  · rintro ⟨h1, h2, h3⟩
    refine ⟨h1, fun i j hij hj => ?_, fun i hi => ?_, fun x hx => (h3 x hx).2, fun i j hij hj => ?_⟩
    · rw [pa_get (by omega), pa_get hj]
      exact (List.pairwise_iff_getElem.1 h2 i j (by omega) hj hij).1
    · rw [pa_get hi]
      exact (h3 _ (List.getElem_mem _)).1
    · rw [ba_get (by omega), ba_get hj]
      exact (List.pairwise_iff_getElem.1 h2 i j (by omega) hj hij).2
def apt (l m : List Pl) : Nat → Int
  | 0 => 0
  | j + 1 => apt l m j + max (pa l j - pa m j) (-(pa l j - pa m j))
theorem apt_shf {l : List Pl} {i c : Nat} {d : Int} (h : i + c ≤ l.length) (hd : d = 1 ∨ d = -1) : ∀ j, j ≤ l.length → apt l (shf l i c d) j = ((min j (i + c) - min j i : Nat) : Int)
  | 0, _ => by simp [apt]
  | j + 1, hj => by
    rw [apt, apt_shf h hd j (by omega), shf_pa h (by omega)]
    by_cases e : i ≤ j ∧ j < i + c
    · rw [if_pos e]
      have : min (j + 1) (i + c) - min (j + 1) i = min j (i + c) - min j i + 1 := by omega
      rw [this]
      rcases hd with rfl | rfl <;> omega
    · rw [if_neg e]
      have : min (j + 1) (i + c) - min (j + 1) i = min j (i + c) - min j i := by omega
      rw [this]
      omega
theorem apt_self (l : List Pl) : ∀ j, apt l l j = 0
  | 0 => rfl
  | j + 1 => by rw [apt, apt_self l j]; omega
structure AdOk (n : Int) (l : List Pl) (b : Bk) (k : Nat) (q : Int) (D S : List Pl) (m : Nat) : Prop where
  vD : VR n D
  vS : VR n S
  len : D.length = l.length + 1
  lenS : S.length = l.length
  at' : D[k]? = some ⟨q, b⟩
  out : D.filter (fun x => !(x.p == q)) = S
  rng : 0 ≤ q ∧ q < n
  has : (D.any fun x => x.p == q) = true
  pb : pbs S = pbs l
  zero : m = 0 → S = l
  room : m = 0 ↔ 0 < rm n l k
  le : m ≤ l.length
  apart : apt l S l.length = (m : Int)
  rD : ∀ x ∈ D, x.b = b ∨ ∃ y ∈ l, x.b = y.b
theorem ad_ok {n : Int} {l : List Pl} {b : Bk} (h : VR n l) (hf : (l.length : Int) < n) (hr : ∀ x ∈ l, bkRng x.b) (hb : bkRng b) (hv : vB b = true) :
    AdOk n l b (idx l b) (nat' n l (idx l b)) (adL n l b) (sh n l (idx l b)) (adM n l b) := by
  obtain ⟨a1, a2, a3, a4⟩ := h.added hf hr hb hv
  have hk := idx_le l b
  have hpb := pbs_sh n l (idx l b)
  unfold adL adM at *
  generalize idx l b = k at *
  have hS : VR n (sh n l k) ∧ (sh n l k).length = l.length ∧ ((psh n l k).1 = 0 → sh n l k = l) ∧ ((psh n l k).1 = 0 ↔ 0 < rm n l k) ∧ apt l (sh n l k) l.length = ((psh n l k).1 : Int) := by
    rcases psh_cases h hk hf with ⟨h0, hp⟩ | ⟨h0, c, hp, c1, c2, c3⟩ | ⟨h0, d, hp, d1, d2, d3⟩
    · rw [sh, if_pos h0, hp]
      exact ⟨h, rfl, fun _ => rfl, by simp [h0], apt_self l _⟩
    · rw [sh, if_neg (by omega), hp, if_pos rfl]
      refine ⟨h.left hk c1 c2 c3, shf_len (by omega), fun e => ?_, ?_, ?_⟩
      · simp only at e; omega
      · simp only; omega
      · rw [apt_shf (by omega) (.inr rfl) _ (Nat.le_refl _)]
        simp only
        omega
    · rw [sh, if_neg (by omega), hp, if_neg (by simp)]
      refine ⟨h.right d1 d2 d3, shf_len d2, fun e => ?_, ?_, ?_⟩
      · simp only at e; omega
      · simp only; omega
      · rw [apt_shf d2 (.inl rfl) _ (Nat.le_refl _)]
        simp only
        omega
  obtain ⟨s1, s2, s3, s4, s5⟩ := hS
  generalize sh n l k = S at *
  generalize nat' n l k = q at *
  have hkS : k ≤ S.length := by omega
  have hat : (ins S k q b)[k]? = some ⟨q, b⟩ := by
    rw [List.getElem?_eq_getElem (by rw [ins_len hkS]; omega), ins_get hkS (by omega), if_neg (by omega), if_pos rfl]
  have hpair := (VR.iff.1 a1).2.1
  have hmem : (⟨q, b⟩ : Pl) ∈ ins S k q b := List.mem_of_getElem? hat
  have hq := ((VR.iff.1 a1).2.2 _ hmem).1
  refine ⟨a1, s1, a2, s2, hat, ?_, hq, List.any_eq_true.2 ⟨_, hmem, by simp⟩, hpb, s3, s4, a3, s5, a4⟩
  unfold ins at hpair ⊢
  rw [List.append_assoc] at hpair
  obtain ⟨p1, p2, p3⟩ := List.pairwise_append.1 hpair
  obtain ⟨p4, p5, p6⟩ := List.pairwise_append.1 p2
  rw [List.filter_append, List.filter_append, (List.filter_eq_self (l := S.take k)).2, (List.filter_eq_self (l := S.drop k)).2]
  · simp
  · intro x hx
    have := (p6 ⟨q, b⟩ (by simp) x hx).1
    simp only at this
    simp only [Bool.not_eq_true', beq_eq_false_iff_ne]
    omega
  · intro x hx
    have := (p3 x hx ⟨q, b⟩ (by simp)).1
    simp only at this
    simp only [Bool.not_eq_true', beq_eq_false_iff_ne]
    omega
def spL (l : List Pl) (t : Int) : List Pl := l.filter fun x => decide (x.p < t)
def spR (l : List Pl) (t : Int) : List Pl := (l.filter fun x => !decide (x.p < t)).map (mvP (-t))
theorem sp_app {t : Int} : ∀ {l : List Pl}, l.Pairwise (fun x y => x.p < y.p ∧ ky x.b ≤ ky y.b) → (l.filter fun x => decide (x.p < t)) ++ (l.filter fun x => !decide (x.p < t)) = l
  | [], _ => rfl
  | x :: r, h => by
    obtain ⟨h1, h2⟩ := List.pairwise_cons.1 h
    have ih := sp_app (t := t) h2
    by_cases e : x.p < t
    · rw [List.filter_cons_of_pos (by simpa using e), List.filter_cons_of_neg (by simpa using e), List.cons_append, ih]
    · have hno : (r.filter fun y => decide (y.p < t)) = [] := by
        rw [List.filter_eq_nil_iff]
        intro y hy
        have := (h1 y hy).1
        simp only [decide_eq_true_eq]
        omega
      rw [List.filter_cons_of_neg (by simpa using e), List.filter_cons_of_pos (by simpa using e), hno, List.nil_append]
      rw [hno, List.nil_append] at ih
      rw [ih]
theorem spR_back (l : List Pl) (t : Int) : (spR l t).map (mvP t) = l.filter fun x => !decide (x.p < t) := by
  unfold spR
  rw [List.map_map]
  refine (List.map_congr_left (g := id) fun x _ => ?_).trans (List.map_id _)
  obtain ⟨p, b⟩ := x
  simp only [Function.comp, mvP, id, Pl.mk.injEq, and_true]
  omega
structure SplOk (n t : Int) (l : List Pl) : Prop where
  a : VR t (spL l t)
  c : VR (n - t) (spR l t)
  app : spL l t ++ (spR l t).map (mvP t) = l
theorem spl_ok {n t : Int} {l : List Pl} (h : VR n l) (h1 : 1 ≤ t) (h2 : t ≤ n - 1) : SplOk n t l := by
  obtain ⟨g1, g2, g3⟩ := VR.iff.1 h
  refine ⟨VR.iff.2 ⟨by omega, g2.filter _, fun x hx => ?_⟩, VR.iff.2 ⟨by omega, ?_, fun x hx => ?_⟩, ?_⟩
  · obtain ⟨m1, m2⟩ := List.mem_filter.1 hx
    have := g3 x m1
    simp only [decide_eq_true_eq] at m2
    exact ⟨⟨this.1.1, m2⟩, this.2⟩
  · refine List.pairwise_map.2 ((g2.filter _).imp fun {x y} hxy => ?_)
    exact ⟨by show x.p + -t < y.p + -t; omega, hxy.2⟩
  · obtain ⟨y, hy, rfl⟩ := List.mem_map.1 hx
    obtain ⟨m1, m2⟩ := List.mem_filter.1 hy
    have := g3 y m1
    simp only [Bool.not_eq_true', decide_eq_false_iff_not] at m2
    exact ⟨by show 0 ≤ y.p + -t ∧ y.p + -t < n - t; omega, this.2⟩
  · rw [spR_back]
    exact sp_app g2
theorem nd_leN : ∀ {l m : List Int}, l.Nodup → (∀ x ∈ l, x ∈ m) → l.length ≤ m.length
  | [], _, _, _ => Nat.zero_le _
  | x :: l, m, h, hs => by
    obtain ⟨h1, h2⟩ := List.nodup_cons.1 h
    have hm := hs x (by simp)
    have := nd_leN (l := l) (m := m.erase x) h2 fun y hy => (List.mem_erase_of_ne (fun e : y = x => h1 (e ▸ hy))).2 (hs y (by simp [hy]))
    rw [List.length_erase_of_mem hm] at this
    have : 0 < m.length := List.length_pos_of_mem hm
    rw [List.length_cons]
    omega
theorem idxs_cnt {α : Type} (p : α → Bool) (l : List α) : (idxs p l).length = l.countP p := by
  have : ∀ (l : List α) (k : Nat), ((l.zipIdx k).filter fun x => p x.1).length = l.countP p := by
    intro l
    induction l with
    | nil => intro k; rfl
    | cons x r ih =>
      intro k
      rw [List.zipIdx_cons, List.countP_cons]
      by_cases e : p x = true
      · rw [List.filter_cons_of_pos (by exact e), List.length_cons, ih, if_pos e]
      · rw [List.filter_cons_of_neg (by exact e), ih, if_neg e, Nat.add_zero]
  unfold idxs
  rw [List.length_map, this]
theorem cnt_not : ∀ D : List Bool, D.countP (fun b => !b) + D.countP (fun b => b) = D.length
  | [] => rfl
  | b :: r => by
    have := cnt_not r
    cases b <;> simp <;> omega
theorem free_cnt {N : Nat} {l : List Pl} (h : VR (N : Nat) l) : (idxs (fun b => !b) (tk l N)).length + l.length = N := by
  obtain ⟨g1, g2, g3⟩ := VR.iff.1 h
  have h1 : ((List.range N).map fun i : Nat => (i : Int)).countP (fun i => l.any fun x => x.p == i) = l.length := by
    rw [List.countP_eq_length_filter]
    have hnd1 : (((List.range N).map fun i : Nat => (i : Int)).filter fun i => l.any fun x => x.p == i).Nodup := by
      refine List.Pairwise.filter _ (List.Pairwise.map _ ?_ List.nodup_range)
      intro x y hxy e
      exact hxy (by exact_mod_cast e)
    have hnd2 : (l.map Pl.p).Nodup := List.pairwise_map.2 (g2.imp fun {x y} hxy => by omega)
    refine Nat.le_antisymm ?_ ?_
    · have := nd_leN (m := l.map Pl.p) hnd1 (fun i hi => by
        obtain ⟨_, m2⟩ := List.mem_filter.1 hi
        obtain ⟨x, hx, e⟩ := List.any_eq_true.1 m2
        exact List.mem_map.2 ⟨x, hx, beq_iff_eq.1 e⟩)
      rwa [List.length_map] at this
    · have := nd_leN (m := ((List.range N).map fun i : Nat => (i : Int)).filter fun i => l.any fun x => x.p == i) hnd2 (fun i hi => by
        obtain ⟨x, hx, rfl⟩ := List.mem_map.1 hi
        have := (g3 x hx).1
        refine List.mem_filter.2 ⟨List.mem_map.2 ⟨x.p.toNat, List.mem_range.2 (by omega), by omega⟩, List.any_eq_true.2 ⟨x, hx, by simp⟩⟩)
      rwa [List.length_map] at this
  have h2 := cnt_not (tk l N)
  rw [tk_len] at h2
  have h3 : (tk l N).countP (fun b => b) = l.length := by
    rw [← h1, tk, List.countP_map, List.countP_map]
    rfl
  rw [idxs_cnt]
  omega
end Go.Proofs.YtbkelajnngdimaaGreatDoor

/- Contracts of the program's functions, and what follows from them. -/
set_option maxRecDepth 100000
namespace Go.Proofs.YtbkelajnngdimaaGreatDoor
open Go Go.Av
noncomputable def X74 : Fx := ⟨Tryz.prog, tys, 74, Tryz.f74, [0]⟩
theorem X74_ok : X74.Ok := ⟨Tryz.func74, tys_ok⟩
theorem rackCode_ct (r : Rk) (ex : Bool) (b : Bk) (h : VR r.pl r.bs) (hr : ∀ x ∈ r.bs, bkRng x.b) (hb : bOk b) : Ct Tryz.prog 74 [rkR ex r, bkA b] (i64 0) [] := by
  obtain ⟨n, l⟩ := r
  simp only at h hr
  have cV := implValidRack_ct ⟨n, l⟩ ex (h.ok hr).1
  rw [(h.ok hr).2] at cV
  have cB := validBook_ct b
  rw [hb.2] at cB
  refine Ct.intro X74 X74_ok rfl (by kernel_rfl) rfl rfl fun g hg => ?_
  repeat (refine Run.go rfl ?_)
  refine Run.cs rfl cV rfl rfl ?_
  repeat (refine Run.go rfl ?_)
  refine Run.cs rfl cB rfl rfl ?_
  repeat (refine Run.go rfl ?_)
  refine Run.cond rfl (fun h => by simp at h) (fun _ => ?_)
  repeat (refine Run.go rfl ?_)
  exact Run.ret hg rfl rfl
noncomputable def X16 : Fx := ⟨Tryz.prog, tys, 16, Tryz.f16, [0]⟩
theorem X16_ok : X16.Ok := ⟨Tryz.func16, tys_ok⟩
theorem implRoomFor_ct (r : Rk) (ex : Bool) (b : Bk) (h : VR r.pl r.bs) (hr : ∀ x ∈ r.bs, bkRng x.b) (hb : bOk b) : Ct Tryz.prog 16 [rkR ex r, bkA b] (.tup [i64 (fr r.bs (idx r.bs b)), i64 (rm r.pl r.bs (idx r.bs b)), i64 0]) [] := by
  have hl := h.len
  have hn := h.hn
  refine Ct.intro X16 X16_ok rfl (by kernel_rfl) rfl rfl fun g hg => ?_
  repeat (refine Run.go rfl ?_)
  refine Run.cs rfl (rackCode_ct r ex b h hr hb) rfl rfl ?_
  repeat (refine Run.go rfl ?_)
  refine Run.cond rfl (fun h => by simp at h) (fun _ => ?_)
  repeat (refine Run.go rfl ?_)
  refine Run.drawI (fun D => ⟨[(2, .bp (2, 0) 0), (3, .bp (3, 0) 0), (17, bif D 0 then rkR ex r else .top), (18, bif D 1 then rkR ex r else .top), (19, bif D 2 then bkA b else .top), (20, bif D 3 then i64 (idx r.bs b : Nat) else .top), (21, bif D 5 then .top else bif D 4 then .tup [i64 (fr r.bs (idx r.bs b)), i64 (rm r.pl r.bs (idx r.bs b))] else .top), (16, bif D 5 then .tup [i64 (fr r.bs (idx r.bs b)), i64 (rm r.pl r.bs (idx r.bs b))] else .top), (22, bif D 6 then i64 (fr r.bs (idx r.bs b)) else .top), (23, bif D 7 then i64 (rm r.pl r.bs (idx r.bs b)) else .top), (8, bif D 8 then i64 (fr r.bs (idx r.bs b)) else .top), (9, bif D 9 then i64 (rm r.pl r.bs (idx r.bs b)) else .top)], [((2, 0), Ob.box (rkR ex r).cells), ((3, 0), Ob.box (bkA b).cells)]⟩) (by decide +kernel) (by decide +kernel) ?_ ?_ fun k' => ⟨?_, ?_, ?_, ?_, ?_, ?_, ?_, ?_, ?_, ?_, trivial⟩
  · exact St.Le.mk' ⟨rfl, rfl, rfl, rfl, rfl, rfl, rfl, rfl, rfl, rfl, rfl, rfl, trivial⟩ ⟨rfl, rfl, trivial⟩
  rotate_left
  · intro D hid h0 hp hs rest hK
    obtain ⟨d4, -⟩ : AllD D false [4] := ideal_sub hs (by decide +kernel)
    simp only [d4, h0, cond_true, cond_false]
    refine Run.go rfl ?_
    refine Run.le ?_ hK
    simp only [d4, h0, Nat.reduceBEq, Bool.false_or, Bool.true_or, cond_true, cond_false]
    exact St.Le.mk' ⟨rfl, rfl, rfl, rfl, rfl, rfl, rfl, rfl, rfl, rfl, rfl, rfl, trivial⟩ ⟨rfl, rfl, trivial⟩
  · intro D hid h0 hp hs rest hK
    obtain ⟨d3, -⟩ : AllD D false [3] := ideal_sub hs (by decide +kernel)
    simp only [d3, h0, cond_true, cond_false]
    refine Run.go rfl ?_
    refine Run.le ?_ hK
    simp only [d3, h0, Nat.reduceBEq, Bool.false_or, Bool.true_or, cond_true, cond_false]
    exact St.Le.mk' ⟨rfl, rfl, rfl, rfl, rfl, rfl, rfl, rfl, rfl, rfl, rfl, rfl, trivial⟩ ⟨rfl, rfl, trivial⟩
  · intro D hid h0 hp hs rest hK
    obtain ⟨d3, -⟩ : AllD D false [3] := ideal_sub hs (by decide +kernel)
    simp only [d3, h0, cond_true, cond_false]
    refine Run.go rfl ?_
    refine Run.le ?_ hK
    simp only [d3, h0, Nat.reduceBEq, Bool.false_or, Bool.true_or, cond_true, cond_false]
    exact St.Le.mk' ⟨rfl, rfl, rfl, rfl, rfl, rfl, rfl, rfl, rfl, rfl, rfl, rfl, trivial⟩ ⟨rfl, rfl, trivial⟩
  · intro D hid h0 hp hs rest hK
    obtain ⟨d1, d2, -⟩ : AllD D true [1, 2] := ideal_sub hp (by decide +kernel)
    obtain ⟨d4, -⟩ : AllD D false [4] := ideal_sub hs (by decide +kernel)
    simp only [d1, d2, d4, h0, cond_true, cond_false]
    refine Run.cs rfl (rkIndex_ct r b ex (by omega)) rfl rfl ?_
    refine Run.le ?_ hK
    simp only [d1, d2, d4, h0, Nat.reduceBEq, Bool.false_or, Bool.true_or, cond_true, cond_false]
    exact St.Le.mk' ⟨rfl, rfl, rfl, rfl, rfl, rfl, rfl, rfl, rfl, rfl, rfl, rfl, trivial⟩ ⟨rfl, rfl, trivial⟩
  · intro D hid h0 hp hs rest hK
    obtain ⟨d0, d3, -⟩ : AllD D true [0, 3] := ideal_sub hp (by decide +kernel)
    obtain ⟨d5, -⟩ : AllD D false [5] := ideal_sub hs (by decide +kernel)
    simp only [d0, d3, d5, h0, cond_true, cond_false]
    refine Run.cs rfl (room_ct r ex (idx r.bs b) h (idx_le _ _)) rfl rfl ?_
    refine Run.le ?_ hK
    simp only [d0, d3, d5, h0, Nat.reduceBEq, Bool.false_or, Bool.true_or, cond_true, cond_false]
    exact St.Le.mk' ⟨rfl, rfl, rfl, rfl, rfl, rfl, rfl, rfl, rfl, rfl, rfl, rfl, trivial⟩ ⟨rfl, rfl, trivial⟩
  · intro D hid h0 hp hs rest hK
    obtain ⟨d4, -⟩ : AllD D true [4] := ideal_sub hp (by decide +kernel)
    obtain ⟨d6, d7, -⟩ : AllD D false [6, 7] := ideal_sub hs (by decide +kernel)
    simp only [d4, d6, d7, h0, cond_true, cond_false]
    refine Run.go rfl ?_
    refine Run.le ?_ hK
    simp only [d4, d6, d7, h0, Nat.reduceBEq, Bool.false_or, Bool.true_or, cond_true, cond_false]
    exact St.Le.mk' ⟨rfl, rfl, rfl, rfl, rfl, rfl, rfl, rfl, rfl, rfl, rfl, rfl, trivial⟩ ⟨rfl, rfl, trivial⟩
  · intro D hid h0 hp hs rest hK
    obtain ⟨d5, -⟩ : AllD D true [5] := ideal_sub hp (by decide +kernel)
    obtain ⟨d8, -⟩ : AllD D false [8] := ideal_sub hs (by decide +kernel)
    simp only [d5, d8, h0, cond_true, cond_false]
    refine Run.go rfl ?_
    refine Run.le ?_ hK
    simp only [d5, d8, h0, Nat.reduceBEq, Bool.false_or, Bool.true_or, cond_true, cond_false]
    exact St.Le.mk' ⟨rfl, rfl, rfl, rfl, rfl, rfl, rfl, rfl, rfl, rfl, rfl, rfl, trivial⟩ ⟨rfl, rfl, trivial⟩
  · intro D hid h0 hp hs rest hK
    obtain ⟨d5, -⟩ : AllD D true [5] := ideal_sub hp (by decide +kernel)
    obtain ⟨d9, -⟩ : AllD D false [9] := ideal_sub hs (by decide +kernel)
    simp only [d5, d9, h0, cond_true, cond_false]
    refine Run.go rfl ?_
    refine Run.le ?_ hK
    simp only [d5, d9, h0, Nat.reduceBEq, Bool.false_or, Bool.true_or, cond_true, cond_false]
    exact St.Le.mk' ⟨rfl, rfl, rfl, rfl, rfl, rfl, rfl, rfl, rfl, rfl, rfl, rfl, trivial⟩ ⟨rfl, rfl, trivial⟩
  · intro D hid h0 hp hs rest hK
    obtain ⟨d6, -⟩ : AllD D true [6] := ideal_sub hp (by decide +kernel)
    simp only [d6, h0, cond_true, cond_false]
    refine Run.go rfl ?_
    refine Run.le ?_ hK
    simp only [d6, h0, Nat.reduceBEq, Bool.false_or, Bool.true_or, cond_true, cond_false]
    exact St.Le.mk' ⟨rfl, rfl, rfl, rfl, rfl, rfl, rfl, rfl, rfl, rfl, rfl, rfl, trivial⟩ ⟨rfl, rfl, trivial⟩
  · intro D hid h0 hp hs rest hK
    obtain ⟨d7, -⟩ : AllD D true [7] := ideal_sub hp (by decide +kernel)
    simp only [d7, h0, cond_true, cond_false]
    refine Run.go rfl ?_
    refine Run.le ?_ hK
    simp only [d7, h0, Nat.reduceBEq, Bool.false_or, Bool.true_or, cond_true, cond_false]
    exact St.Le.mk' ⟨rfl, rfl, rfl, rfl, rfl, rfl, rfl, rfl, rfl, rfl, rfl, rfl, trivial⟩ ⟨rfl, rfl, trivial⟩
  repeat (refine Run.go rfl ?_)
  exact Run.ret hg rfl rfl
noncomputable def X17 : Fx := ⟨Tryz.prog, tys, 17, Tryz.f17, [0]⟩
theorem X17_ok : X17.Ok := ⟨Tryz.func17, tys_ok⟩
theorem specRoomFor_ct (r : Rk) (ex : Bool) (b : Bk) (h : VR r.pl r.bs) (hr : ∀ x ∈ r.bs, bkRng x.b) (hb : bOk b) : Ct Tryz.prog 17 [rkR ex r, bkA b] (.tup [i64 (fr r.bs (idx r.bs b)), i64 (rm r.pl r.bs (idx r.bs b)), i64 0]) [] := by
  obtain ⟨n, l⟩ := r
  simp only at h hr ⊢
  have cV := l05Ok_ct ⟨n, l⟩ ex (h.ok hr).1
  rw [(h.ok hr).2] at cV
  have cB := l01Book_ct b hb.1
  rw [hb.2] at cB
  refine Ct.intro X17 X17_ok rfl (by kernel_rfl) rfl rfl fun g hg => ?_
  iterate 3 (refine Run.go rfl ?_)
  refine Run.freezeBox 2 (2, 0) (rkR ex ⟨n, l⟩).cells rfl rfl rfl rfl ?_
  iterate 1 (refine Run.go rfl ?_)
  refine Run.freezeBox 3 (3, 0) (bkA b).cells rfl rfl rfl rfl ?_
  repeat (refine Run.go rfl ?_)
  refine Run.cs rfl cV rfl rfl ?_
  repeat (refine Run.go rfl ?_)
  refine Run.cs rfl cB rfl rfl ?_
  repeat (refine Run.go rfl ?_)
  refine Run.cond rfl (fun h => by simp at h) (fun _ => ?_)
  repeat (refine Run.go rfl ?_)
  refine Run.cs rfl (l05Index_ct ⟨n, l⟩ ex b h hr hb.1) rfl rfl ?_
  repeat (refine Run.go rfl ?_)
  refine Run.cs rfl (l05Room_ct ⟨n, l⟩ ex (idx l b) h (idx_le _ _)) rfl rfl ?_
  repeat (refine Run.go rfl ?_)
  exact Run.ret hg rfl rfl
noncomputable def X15 : Fx := ⟨Tryz.prog, tys, 15, Tryz.f15, [0]⟩
theorem X15_ok : X15.Ok := ⟨Tryz.func15, tys_ok⟩
theorem NeedsMoved_ct (r : Rk) (ex : Bool) (b : Bk) (h : VR r.pl r.bs) (hr : ∀ x ∈ r.bs, bkRng x.b) (hb : bOk b) : Ct Tryz.prog 15 [rkR ex r, bkA b] (if (r.bs.length : Int) = r.pl then .tup [i64 0, i64 3] else .tup [i64 (adM r.pl r.bs b : Nat), i64 0]) [] := by
  have hl := h.len
  have hn := h.hn
  refine Ct.intro X15 X15_ok rfl (by kernel_rfl) rfl rfl fun g hg => ?_
  repeat (refine Run.go rfl ?_)
  refine Run.cs rfl (rackCode_ct r ex b h hr hb) rfl rfl ?_
  repeat (refine Run.go rfl ?_)
  refine Run.cond rfl (fun h => by simp at h) (fun _ => ?_)
  repeat (refine Run.go rfl ?_)
  refine Run.cs rfl (isFull_ct r ex (by unfold i16r; omega)) rfl rfl ?_
  repeat (refine Run.go rfl ?_)
  refine Run.cond rfl (fun hf => ?_) (fun hf => ?_)
  · have hf := of_decide_eq_true hf
    rw [if_pos hf] at hg
    repeat (refine Run.go rfl ?_)
    exact Run.ret hg rfl rfl
  have hf := of_decide_eq_false hf
  rw [if_neg hf] at hg
  repeat (refine Run.go rfl ?_)
  refine Run.drawI (fun D => ⟨[(2, .bp (2, 0) 0), (3, .bp (3, 0) 0), (18, bif D 0 then rkR ex r else .top), (19, bif D 1 then rkR ex r else .top), (20, bif D 2 then bkA b else .top), (21, bif D 3 then i64 (idx r.bs b : Nat) else .top), (22, bif D 5 then .top else bif D 4 then rowR (psh r.pl r.bs (idx r.bs b)) else .top), (17, bif D 5 then rowR (psh r.pl r.bs (idx r.bs b)) else .top), (23, bif D 6 then i64 (((psh r.pl r.bs (idx r.bs b)).1 : Nat) : Int) else .top), (24, bif D 7 then bo (psh r.pl r.bs (idx r.bs b)).2 else .top), (7, bif D 8 then i64 (((psh r.pl r.bs (idx r.bs b)).1 : Nat) : Int) else .top), (8, bif D 9 then bo (psh r.pl r.bs (idx r.bs b)).2 else .top)], [((2, 0), Ob.box (rkR ex r).cells), ((3, 0), Ob.box (bkA b).cells)]⟩) (by decide +kernel) (by decide +kernel) ?_ ?_ fun k' => ⟨?_, ?_, ?_, ?_, ?_, ?_, ?_, ?_, ?_, ?_, trivial⟩
  · exact St.Le.mk' ⟨rfl, rfl, rfl, rfl, rfl, rfl, rfl, rfl, rfl, rfl, rfl, rfl, trivial⟩ ⟨rfl, rfl, trivial⟩
  rotate_left
  · intro D hid h0 hp hs rest hK
    obtain ⟨d4, -⟩ : AllD D false [4] := ideal_sub hs (by decide +kernel)
    simp only [d4, h0, cond_true, cond_false]
    refine Run.go rfl ?_
    refine Run.le ?_ hK
    simp only [d4, h0, Nat.reduceBEq, Bool.false_or, Bool.true_or, cond_true, cond_false]
    exact St.Le.mk' ⟨rfl, rfl, rfl, rfl, rfl, rfl, rfl, rfl, rfl, rfl, rfl, rfl, trivial⟩ ⟨rfl, rfl, trivial⟩
  · intro D hid h0 hp hs rest hK
    obtain ⟨d3, -⟩ : AllD D false [3] := ideal_sub hs (by decide +kernel)
    simp only [d3, h0, cond_true, cond_false]
    refine Run.go rfl ?_
    refine Run.le ?_ hK
    simp only [d3, h0, Nat.reduceBEq, Bool.false_or, Bool.true_or, cond_true, cond_false]
    exact St.Le.mk' ⟨rfl, rfl, rfl, rfl, rfl, rfl, rfl, rfl, rfl, rfl, rfl, rfl, trivial⟩ ⟨rfl, rfl, trivial⟩
  · intro D hid h0 hp hs rest hK
    obtain ⟨d3, -⟩ : AllD D false [3] := ideal_sub hs (by decide +kernel)
    simp only [d3, h0, cond_true, cond_false]
    refine Run.go rfl ?_
    refine Run.le ?_ hK
    simp only [d3, h0, Nat.reduceBEq, Bool.false_or, Bool.true_or, cond_true, cond_false]
    exact St.Le.mk' ⟨rfl, rfl, rfl, rfl, rfl, rfl, rfl, rfl, rfl, rfl, rfl, rfl, trivial⟩ ⟨rfl, rfl, trivial⟩
  · intro D hid h0 hp hs rest hK
    obtain ⟨d1, d2, -⟩ : AllD D true [1, 2] := ideal_sub hp (by decide +kernel)
    obtain ⟨d4, -⟩ : AllD D false [4] := ideal_sub hs (by decide +kernel)
    simp only [d1, d2, d4, h0, cond_true, cond_false]
    refine Run.cs rfl (rkIndex_ct r b ex (by omega)) rfl rfl ?_
    refine Run.le ?_ hK
    simp only [d1, d2, d4, h0, Nat.reduceBEq, Bool.false_or, Bool.true_or, cond_true, cond_false]
    exact St.Le.mk' ⟨rfl, rfl, rfl, rfl, rfl, rfl, rfl, rfl, rfl, rfl, rfl, rfl, trivial⟩ ⟨rfl, rfl, trivial⟩
  · intro D hid h0 hp hs rest hK
    obtain ⟨d0, d3, -⟩ : AllD D true [0, 3] := ideal_sub hp (by decide +kernel)
    obtain ⟨d5, -⟩ : AllD D false [5] := ideal_sub hs (by decide +kernel)
    simp only [d0, d3, d5, h0, cond_true, cond_false]
    refine Run.cs rfl (pushed_ct r ex (idx r.bs b) h (idx_le _ _)) rfl rfl ?_
    refine Run.le ?_ hK
    simp only [d0, d3, d5, h0, Nat.reduceBEq, Bool.false_or, Bool.true_or, cond_true, cond_false]
    exact St.Le.mk' ⟨rfl, rfl, rfl, rfl, rfl, rfl, rfl, rfl, rfl, rfl, rfl, rfl, trivial⟩ ⟨rfl, rfl, trivial⟩
  · intro D hid h0 hp hs rest hK
    obtain ⟨d4, -⟩ : AllD D true [4] := ideal_sub hp (by decide +kernel)
    obtain ⟨d6, d7, -⟩ : AllD D false [6, 7] := ideal_sub hs (by decide +kernel)
    simp only [d4, d6, d7, h0, cond_true, cond_false]
    refine Run.go rfl ?_
    refine Run.le ?_ hK
    simp only [d4, d6, d7, h0, Nat.reduceBEq, Bool.false_or, Bool.true_or, cond_true, cond_false]
    exact St.Le.mk' ⟨rfl, rfl, rfl, rfl, rfl, rfl, rfl, rfl, rfl, rfl, rfl, rfl, trivial⟩ ⟨rfl, rfl, trivial⟩
  · intro D hid h0 hp hs rest hK
    obtain ⟨d5, -⟩ : AllD D true [5] := ideal_sub hp (by decide +kernel)
    obtain ⟨d8, -⟩ : AllD D false [8] := ideal_sub hs (by decide +kernel)
    simp only [d5, d8, h0, cond_true, cond_false]
    refine Run.go rfl ?_
    refine Run.le ?_ hK
    simp only [d5, d8, h0, Nat.reduceBEq, Bool.false_or, Bool.true_or, cond_true, cond_false]
    exact St.Le.mk' ⟨rfl, rfl, rfl, rfl, rfl, rfl, rfl, rfl, rfl, rfl, rfl, rfl, trivial⟩ ⟨rfl, rfl, trivial⟩
  · intro D hid h0 hp hs rest hK
    obtain ⟨d5, -⟩ : AllD D true [5] := ideal_sub hp (by decide +kernel)
    obtain ⟨d9, -⟩ : AllD D false [9] := ideal_sub hs (by decide +kernel)
    simp only [d5, d9, h0, cond_true, cond_false]
    refine Run.go rfl ?_
    refine Run.le ?_ hK
    simp only [d5, d9, h0, Nat.reduceBEq, Bool.false_or, Bool.true_or, cond_true, cond_false]
    exact St.Le.mk' ⟨rfl, rfl, rfl, rfl, rfl, rfl, rfl, rfl, rfl, rfl, rfl, rfl, trivial⟩ ⟨rfl, rfl, trivial⟩
  · intro D hid h0 hp hs rest hK
    obtain ⟨d6, -⟩ : AllD D true [6] := ideal_sub hp (by decide +kernel)
    simp only [d6, h0, cond_true, cond_false]
    refine Run.go rfl ?_
    refine Run.le ?_ hK
    simp only [d6, h0, Nat.reduceBEq, Bool.false_or, Bool.true_or, cond_true, cond_false]
    exact St.Le.mk' ⟨rfl, rfl, rfl, rfl, rfl, rfl, rfl, rfl, rfl, rfl, rfl, rfl, trivial⟩ ⟨rfl, rfl, trivial⟩
  · intro D hid h0 hp hs rest hK
    obtain ⟨d7, -⟩ : AllD D true [7] := ideal_sub hp (by decide +kernel)
    simp only [d7, h0, cond_true, cond_false]
    refine Run.go rfl ?_
    refine Run.le ?_ hK
    simp only [d7, h0, Nat.reduceBEq, Bool.false_or, Bool.true_or, cond_true, cond_false]
    exact St.Le.mk' ⟨rfl, rfl, rfl, rfl, rfl, rfl, rfl, rfl, rfl, rfl, rfl, rfl, trivial⟩ ⟨rfl, rfl, trivial⟩
  repeat (refine Run.go rfl ?_)
  exact Run.ret hg rfl rfl
noncomputable def X25 : Fx := ⟨Tryz.prog, tys, 25, Tryz.f25, [0]⟩
theorem X25_ok : X25.Ok := ⟨Tryz.func25, tys_ok⟩
theorem implSpreadRack_ct (r : Rk) (ex : Bool) (h : VR r.pl r.bs) (hr : ∀ x ∈ r.bs, bkRng x.b) : Ct Tryz.prog 25 [rkR ex r] (.tup [rkO false ⟨r.pl, sp r.pl (pbs r.bs)⟩, i64 (els r.bs (sp r.pl (pbs r.bs)) r.bs.length : Nat), i64 0]) [] := by
  obtain ⟨n, l⟩ := r
  simp only at h hr
  have cV := implValidRack_ct ⟨n, l⟩ ex (h.ok hr).1
  rw [(h.ok hr).2] at cV
  refine Ct.intro X25 X25_ok rfl (by kernel_rfl) rfl rfl fun g hg => ?_
  repeat (refine Run.go rfl ?_)
  refine Run.cs rfl cV rfl rfl ?_
  repeat (refine Run.go rfl ?_)
  refine Run.cond rfl (fun h => by simp at h) (fun _ => ?_)
  repeat (refine Run.go rfl ?_)
  refine Run.cs rfl (spreadOut_ct ⟨n, l⟩ ex h) rfl (by simp only [AV.rf, AV.rfL, rk_rf]; rfl) ?_
  simp only
  generalize sp n (pbs l) = m at *
  repeat (refine Run.go rfl ?_)
  refine Run.unagg 14 1 (14, 1) rfl rfl rfl ?_
  repeat (refine Run.go rfl ?_)
  refine Run.packBox (2, 0) 1 rfl rfl rfl rfl ?_
  exact Run.ret hg rfl rfl
noncomputable def X26 : Fx := ⟨Tryz.prog, tys, 26, Tryz.f26, [0]⟩
theorem X26_ok : X26.Ok := ⟨Tryz.func26, tys_ok⟩
set_option maxHeartbeats 1000000 in
theorem specSpreadRack_ct (r : Rk) (ex : Bool) (h : VR r.pl r.bs) (hr : ∀ x ∈ r.bs, bkRng x.b) : Ct Tryz.prog 26 [rkR ex r] (.tup [rkO false ⟨r.pl, sp r.pl (pbs r.bs)⟩, i64 (els r.bs (sp r.pl (pbs r.bs)) r.bs.length : Nat), i64 0]) [] := by
  obtain ⟨n, l⟩ := r
  simp only at h hr
  have cV := l05Ok_ct ⟨n, l⟩ ex (h.ok hr).1
  rw [(h.ok hr).2] at cV
  have hlen := h.len
  have hn := h.hn
  have hw : IntKind.i64.wrap n = n := wrap_i64 (by omega) (by omega)
  have hsl : (sp n (pbs l)).length = l.length := by rw [sp_len, pbs_len]
  have cS := l05Spread_ct n (pbs l) false hn (by rw [pbs_len]; omega)
  refine Ct.intro X26 X26_ok rfl (by kernel_rfl) rfl rfl fun g hg => ?_
  iterate 3 (refine Run.go rfl ?_)
  refine Run.freezeBox 1 (1, 0) (rkR ex ⟨n, l⟩).cells rfl rfl rfl rfl ?_
  repeat (refine Run.go rfl ?_)
  refine Run.cs rfl cV rfl rfl ?_
  repeat (refine Run.go rfl ?_)
  refine Run.cond rfl (fun h => by simp at h) (fun _ => ?_)
  repeat (refine Run.go rfl ?_)
  simp only at hg
  generalize hm : sp n (pbs l) = m at *
  have cE := l05Elsewhere_ct ⟨n, l⟩ ⟨n, m⟩ ex false (by show l.length ≤ _; omega) hsl
  refine Run.drawI (fun D => ⟨[(1, .rp (rkR ex ⟨n, l⟩).cells 0), (2, .bp (2, 0) 0), (9, bif D 0 then .rp (rkR ex ⟨n, l⟩).cells 0 else .top), (10, bif D 1 then i16 n else .top), (11, bif D 2 then i64 n else .top), (12, bif D 3 then .own 8 false ((pbs l).map bkA) else .top), (13, bif D 6 then .top else bif D 4 then rkO false ⟨n, m⟩ else .top), (5, bif D 5 then .bp (5, 0) 0 else .top)], [((2, 0), Ob.box [i16 0, .lit (.slice none 0 0)]), ((5, 0), (bif D 6 then Ob.box [i16 n, .vec (13, 1) 0 (m.map plA).length] else (bif D 5 then Ob.box [i16 0, .lit (.slice none 0 0)] else Ob.gone))), ((13, 1), (bif D 6 then Ob.vec 9 false (m.map plA) else Ob.gone))]⟩) (by decide +kernel) (by decide +kernel) ?_ ?_ fun k' => ⟨?_, ?_, ?_, ?_, ?_, ?_, ?_, trivial⟩
  · exact St.Le.mk' ⟨rfl, rfl, rfl, rfl, rfl, rfl, rfl, rfl, trivial⟩ ⟨rfl, rfl, rfl, trivial⟩
  rotate_left
  · intro D hid h0 hp hs rest hK
    obtain ⟨d1, -⟩ : AllD D false [1] := ideal_sub hs (by decide +kernel)
    simp only [d1, h0, cond_true, cond_false]
    refine Run.go rfl ?_
    refine Run.le ?_ hK
    simp only [d1, h0, Nat.reduceBEq, Bool.false_or, Bool.true_or, cond_true, cond_false]
    exact St.Le.mk' ⟨rfl, rfl, rfl, rfl, rfl, rfl, rfl, rfl, trivial⟩ ⟨rfl, rfl, rfl, trivial⟩
  · intro D hid h0 hp hs rest hK
    obtain ⟨d0, -⟩ : AllD D true [0] := ideal_sub hp (by decide +kernel)
    obtain ⟨d2, -⟩ : AllD D false [2] := ideal_sub hs (by decide +kernel)
    simp only [d0, d2, h0, cond_true, cond_false]
    refine Run.go rfl ?_
    refine Run.le ?_ hK
    simp only [d0, d2, h0, Nat.reduceBEq, Bool.false_or, Bool.true_or, cond_true, cond_false]
    exact St.Le.mk' ⟨rfl, rfl, rfl, rfl, rfl, rfl, rfl, rfl, trivial⟩ ⟨rfl, rfl, rfl, trivial⟩
  · intro D hid h0 hp hs rest hK
    obtain ⟨d1, -⟩ : AllD D true [1] := ideal_sub hp (by decide +kernel)
    obtain ⟨d4, -⟩ : AllD D false [4] := ideal_sub hs (by decide +kernel)
    simp only [d1, d4, h0, cond_true, cond_false]
    refine Run.go rfl ?_
    rw [hw]
    refine Run.le ?_ hK
    simp only [d1, d4, h0, Nat.reduceBEq, Bool.false_or, Bool.true_or, cond_true, cond_false]
    exact St.Le.mk' ⟨rfl, rfl, rfl, rfl, rfl, rfl, rfl, rfl, trivial⟩ ⟨rfl, rfl, rfl, trivial⟩
  · intro D hid h0 hp hs rest hK
    obtain ⟨d4, -⟩ : AllD D false [4] := ideal_sub hs (by decide +kernel)
    simp only [d4, h0, cond_true, cond_false]
    refine Run.cs rfl (l05Books_ct ⟨n, l⟩ ex (by show l.length ≤ _; omega)) rfl (rfB _) ?_
    refine Run.le ?_ hK
    simp only [d4, h0, Nat.reduceBEq, Bool.false_or, Bool.true_or, cond_true, cond_false]
    exact St.Le.mk' ⟨rfl, rfl, rfl, rfl, rfl, rfl, rfl, rfl, trivial⟩ ⟨rfl, rfl, rfl, trivial⟩
  · intro D hid h0 hp hs rest hK
    obtain ⟨d2, d3, -⟩ : AllD D true [2, 3] := ideal_sub hp (by decide +kernel)
    obtain ⟨d6, -⟩ : AllD D false [6] := ideal_sub hs (by decide +kernel)
    simp only [d2, d3, d6, h0, cond_true, cond_false]
    refine Run.cs rfl cS (by rw [frzB]; rfl) (rk_rf _ _) ?_
    refine Run.le ?_ hK
    simp only [d2, d3, d6, h0, Nat.reduceBEq, Bool.false_or, Bool.true_or, cond_true, cond_false]
    exact St.Le.mk' ⟨rfl, rfl, rfl, rfl, rfl, rfl, rfl, rfl, trivial⟩ ⟨rfl, rfl, rfl, trivial⟩
  · intro D hid h0 hp hs rest hK
    obtain ⟨d6, -⟩ : AllD D false [6] := ideal_sub hs (by decide +kernel)
    simp only [d6, h0, cond_true, cond_false]
    refine Run.alloc rfl rfl rfl rfl rfl rfl (by cases D 0 <;> cases D 1 <;> cases D 2 <;> cases D 3 <;> cases D 4 <;> rfl) rfl ?_
    refine Run.le ?_ hK
    simp only [d6, h0, Nat.reduceBEq, Bool.false_or, Bool.true_or, cond_true, cond_false]
    exact St.Le.mk' ⟨rfl, rfl, rfl, rfl, rfl, rfl, rfl, rfl, trivial⟩ ⟨rfl, rfl, rfl, trivial⟩
  · intro D hid h0 hp hs rest hK
    obtain ⟨d4, d5, -⟩ : AllD D true [4, 5] := ideal_sub hp (by decide +kernel)
    have d2 : D 2 = true := hid 4 2 (by decide +kernel) (by decide +kernel) d4
    have d3 : D 3 = true := hid 4 3 (by decide +kernel) (by decide +kernel) d4
    have d1 : D 1 = true := hid 2 1 (by decide +kernel) (by decide +kernel) d2
    have d0 : D 0 = true := hid 1 0 (by decide +kernel) (by decide +kernel) d1
    simp only [d4, d5, d2, d3, d1, d0, h0, cond_true, cond_false]
    refine Run.unagg 13 1 (13, 1) rfl rfl rfl ?_
    refine Run.go rfl ?_
    refine Run.forget 13 ?_
    refine Run.le ?_ hK
    simp only [d4, d5, d2, d3, d1, d0, h0, Nat.reduceBEq, Bool.false_or, Bool.true_or, cond_true, cond_false]
    exact St.Le.mk' ⟨rfl, rfl, rfl, rfl, rfl, rfl, rfl, rfl, trivial⟩ ⟨rfl, rfl, rfl, trivial⟩
  refine Run.go rfl ?_
  refine Run.drawn [[0, 1, 2, 3, 4], [1, 0, 2, 3, 4]] ⟨[(2, .bp (2, 0) 0), (3, i64 (els l m l.length : Nat)), (4, i64 0)], [((2, 0), .box [i16 n, .vec (13, 1) 0 (m.map plA).length]), ((13, 1), .vec 9 false (m.map plA))]⟩ (by decide +kernel) (by kernel_rfl) ?_ fun _ hN => ⟨?_, ?_, trivial⟩
  rotate_left
  iterate 2
    · repeat (refine Run.go rfl ?_)
      refine Run.cs rfl cE (by rw [frzP, decide_eq_true rfl]; rfl) rfl ?_
      repeat (refine Run.go rfl ?_)
      exact Run.of hN ⟨rfl, rfl, rfl, trivial⟩ ⟨rfl, rfl, trivial⟩
  refine Run.packBox (2, 0) 1 rfl rfl rfl rfl ?_
  exact Run.ret hg rfl rfl
theorem FillRack_ok {n : Int} {l : List Pl} (h : VR n l) (hr : ∀ x ∈ l, bkRng x.b) : vBs (pbs l) = true ∧ srt (pbs l) = true := by
  have hlen := h.len
  have hn := h.hn
  refine ⟨?_, ?_⟩
  · rw [vBs, Bool.and_eq_true]
    refine ⟨decide_eq_true (by rw [pbs_len]; omega), List.all_eq_true.2 fun x hx => ?_⟩
    obtain ⟨y, hy, rfl⟩ := List.mem_map.1 hx
    exact h.vb y hy
  · rw [srt, Bool.not_eq_true', List.any_eq_false]
    intro j hj
    rw [List.mem_range, pbs_len] at hj
    have hj1 : j + 1 < (pbs l).length := by rw [pbs_len]; omega
    rw [ooo_at hj1]
    simp only [decide_eq_true_eq]
    have e1 : (pbs l)[j + 1] = ba l (j + 1) := by rw [ba_get (by omega)]; simp [pbs]
    have e2 : (pbs l)[j]'(by omega) = ba l j := by rw [ba_get (by omega)]; simp [pbs]
    rw [e1, e2, (uc_ky (by rw [ba_get (by omega)]; exact hr _ (List.getElem_mem _)) (by rw [ba_get (by omega)]; exact hr _ (List.getElem_mem _))).1]
    have := h.so j (j + 1) (by omega) (by omega)
    omega
noncomputable def X104 : Fx := ⟨Tryz.prog, tys, 104, Tryz.f104, [0]⟩
theorem X104_ok : X104.Ok := ⟨Tryz.func104, tys_ok⟩
theorem isPlaces_ct (n : Int) : Ct Tryz.prog 104 [i64 n] (bo (inr n 1 60)) [] := by
  refine Ct.intro X104 X104_ok rfl (by kernel_rfl) rfl rfl fun g hg => ?_
  repeat (refine Run.go rfl ?_)
  refine Run.cs rfl (within64_ct n 1 60) rfl rfl ?_
  repeat (refine Run.go rfl ?_)
  exact Run.ret hg rfl rfl
def fkRes (P : Int) (L : List Bk) : Rk × Int := if vBs L = true then (if inr P 1 60 = true then (if srt L = true then (if (L.length : Int) > P then (rk0, 3) else (⟨P, sp P L⟩, 0)) else (rk0, 4)) else (rk0, 2)) else (rk0, 1)
noncomputable def X27 : Fx := ⟨Tryz.prog, tys, 27, Tryz.f27, [0, 1]⟩
theorem X27_ok : X27.Ok := ⟨Tryz.func27, tys_ok⟩
theorem implFillRack_ct (P : Int) (L : List Bk) (e : Bool) (hL : L.length ≤ 1048576) : Ct Tryz.prog 27 [i64 P, .ro 8 e (L.map bkA)] (rkRes (fkRes P L)) [] := by
  have hmL : ((L.map bkA).length : Nat) = L.length := List.length_map ..
  refine Ct.intro X27 X27_ok rfl (by kernel_rfl) rfl rfl fun g hg => ?_
  repeat (refine Run.go rfl ?_)
  refine Run.cs rfl (validBooks_ct L e hL) rfl rfl ?_
  repeat (refine Run.go rfl ?_)
  refine Run.cond rfl (fun h => ?_) (fun h => ?_)
  · have h : vBs L = false := by simpa using h
    repeat (refine Run.go rfl ?_)
    refine Run.val rfl rfl rfl (ValOk.build rfl rfl rfl rfl rfl) rfl ?_
    repeat (refine Run.go rfl ?_)
    refine Run.nilBox (4, 0) 1 9 false rfl rfl ?_
    refine Run.ret hg rfl ?_
    rw [fkRes, if_neg (by rw [h]; decide)]
    rfl
  have h1 : vBs L = true := by simpa using h
  repeat (refine Run.go rfl ?_)
  refine Run.cs rfl (isPlaces_ct P) rfl rfl ?_
  repeat (refine Run.go rfl ?_)
  refine Run.cond rfl (fun h => ?_) (fun h => ?_)
  · have h : inr P 1 60 = false := by simpa using h
    repeat (refine Run.go rfl ?_)
    refine Run.val rfl rfl rfl (ValOk.build rfl rfl rfl rfl rfl) rfl ?_
    repeat (refine Run.go rfl ?_)
    refine Run.nilBox (4, 0) 1 9 false rfl rfl ?_
    refine Run.ret hg rfl ?_
    rw [fkRes, if_pos h1, if_neg (by rw [h]; decide)]
    rfl
  have h2 : inr P 1 60 = true := by simpa using h
  repeat (refine Run.go rfl ?_)
  refine Run.cs rfl (isSorted_ct L e hL) rfl rfl ?_
  repeat (refine Run.go rfl ?_)
  refine Run.cond rfl (fun h => ?_) (fun h => ?_)
  · have h : srt L = false := by simpa using h
    repeat (refine Run.go rfl ?_)
    refine Run.val rfl rfl rfl (ValOk.build rfl rfl rfl rfl rfl) rfl ?_
    repeat (refine Run.go rfl ?_)
    refine Run.nilBox (4, 0) 1 9 false rfl rfl ?_
    refine Run.ret hg rfl ?_
    rw [fkRes, if_pos h1, if_pos h2, if_neg (by rw [h]; decide)]
    rfl
  have h3 : srt L = true := by simpa using h
  repeat (refine Run.go rfl ?_)
  refine Run.cond rfl (fun h => ?_) (fun h => ?_)
  · have h : (L.length : Int) > P := by have := of_decide_eq_true h; rw [hmL] at this; exact this
    repeat (refine Run.go rfl ?_)
    refine Run.val rfl rfl rfl (ValOk.build rfl rfl rfl rfl rfl) rfl ?_
    repeat (refine Run.go rfl ?_)
    refine Run.nilBox (4, 0) 1 9 false rfl rfl ?_
    refine Run.ret hg rfl ?_
    rw [fkRes, if_pos h1, if_pos h2, if_pos h3, if_pos h]
    rfl
  have h4 : ¬ (L.length : Int) > P := by have := of_decide_eq_false h; rw [hmL] at this; exact this
  have hP : 1 ≤ P ∧ P ≤ 60 := by simpa [inr] using h2
  rw [fkRes, if_pos h1, if_pos h2, if_pos h3, if_neg h4] at hg
  repeat (refine Run.go rfl ?_)
  refine Run.cs rfl (spread_ct P L e hP (by omega)) rfl (rk_rf _ _) ?_
  generalize sp P L = m at *
  refine Run.unagg 29 1 (29, 1) rfl rfl rfl ?_
  repeat (refine Run.go rfl ?_)
  refine Run.packBox (4, 0) 1 rfl rfl rfl rfl ?_
  exact Run.ret hg rfl rfl
end Go.Proofs.YtbkelajnngdimaaGreatDoor
