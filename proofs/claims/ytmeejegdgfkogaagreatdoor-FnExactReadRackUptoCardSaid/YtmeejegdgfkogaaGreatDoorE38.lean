/- Contracts of the program's functions, and what follows from them. -/
import Derived.Test.YtmeejegdgfkogaaGreatDoorE37
import Derived.Test.YtmeejegdgfkogaaGreatDoorEAo
set_option linter.unusedVariables false
set_option maxRecDepth 100000
set_option linter.unusedSimpArgs false
namespace Go.Proofs.YtmeejegdgfkogaaGreatDoor
open Go Go.Av

/-! Books out of their texts: the functions. -/

theorem Cut_ct (s : List UInt8) (c : UInt8) (hlen : s.length ≤ 1048576) : CtA ambA Tryz.prog 14 [str s, str [c]] (.tup [str (Lib.cut s [c]).1, str (Lib.cut s [c]).2.1, bo (Lib.cut s [c]).2.2]) [] := by
  refine CtA.ofCallsR ambA (vs := [.string ⟨s.toArray⟩, .string ⟨([c] : List UInt8).toArray⟩]) Tryz.func14 (by kernel_rfl) (by kernel_rfl) fun w hA => ?_
  obtain ⟨⟨m, hm⟩, _⟩ := (Amb.on_and.1 (Amb.on_and.1 hA).2).2
  refine (Tryz.strings_Cut ⟨s.toArray⟩ ⟨([c] : List UInt8).toArray⟩ m w (by rw [bsz]; omega) hm).mono ?_
  rintro e w' ⟨rfl, n, rfl⟩
  refine ⟨_, rfl, Kp.drewN [] w n, fun L hL => ?_⟩
  exact Rel.lit3 _ _ _

noncomputable def X31 : Fx := ⟨Tryz.prog, tys, 31, Tryz.f31, [0]⟩
theorem X31_ok : X31.Ok := ⟨Tryz.func31, tys_ok⟩
theorem readBook_ct (s : List UInt8) (hlen : s.length ≤ 1048576) : CtA ambA Tryz.prog 31 [str s] (.tup [bkA (rbP s).1, bo (rbP s).2]) [] := by
  have hsplit := Split_ct s 32 hlen
  have hwl := fun w (h : w ∈ spl 32 s) => spl_wlen h
  have hR : rbP s = if (spl 32 s).length = 5 ∧ ((spl 32 s).getD 1 []).length = 3 then
      (mkB3 shV ((spl 32 s).getD 0 []) ((spl 32 s).getD 1 []) ((spl 32 s).getD 2 []) (Lib.cut ((spl 32 s).getD 3 []) [120]).1 (Lib.cut ((spl 32 s).getD 3 []) [120]).2.1 ((spl 32 s).getD 4 []),
        vB (mkB3 shV ((spl 32 s).getD 0 []) ((spl 32 s).getD 1 []) ((spl 32 s).getD 2 []) (Lib.cut ((spl 32 s).getD 3 []) [120]).1 (Lib.cut ((spl 32 s).getD 3 []) [120]).2.1 ((spl 32 s).getD 4 [])) && decide (bookT (mkB3 shV ((spl 32 s).getD 0 []) ((spl 32 s).getD 1 []) ((spl 32 s).getD 2 []) (Lib.cut ((spl 32 s).getD 3 []) [120]).1 (Lib.cut ((spl 32 s).getD 3 []) [120]).2.1 ((spl 32 s).getD 4 [])) = s)) else (bk0, false) := rfl
  have hrng := rbP_rng s
  generalize spl 32 s = W at hR hsplit hwl
  refine CtA.intro ambA X31 X31_ok rfl (by kernel_rfl) rfl rfl fun g hA hg => ?_
  have hAT := ambA_T hA
  repeat (refine Run.go rfl ?_)
  refine Run.callpA rfl rfl rfl rfl rfl rfl rfl rfl rfl (hsplit.at hA) (by decide) (by decide) ?_
  iterate 4 (refine Run.go rfl ?_)
  refine Run.region ⟨[(0, str s), (2, .bp (2, 0) 0), (4, .ro 1 true (W.map str)), (20, bo (!(decide (W.length = 5 ∧ (W.getD 1 []).length = 3))))], [((2, 0), .box (bkA bk0).cells)]⟩ ?_ fun k' hN => ?_
  rotate_left
  · have fin : ∀ {v : Bool}, v = (!(decide (W.length = 5 ∧ (W.getD 1 []).length = 3))) → bo v = bo (!(decide (W.length = 5 ∧ (W.getD 1 []).length = 3))) := fun e => by rw [e]
    repeat (refine Run.go rfl ?_)
    refine Run.bool 14 rfl (fun h => ?_) (fun h => ?_)
    · have h5 : ¬ W.length = 5 := fun e => by
        have h : (!((((W.map str).length : Nat) : Int) == 5)) = true := h
        rw [List.length_map, e] at h
        cases h
      repeat (refine Run.go rfl ?_)
      exact Run.of hN ⟨rfl, rfl, rfl, fin (v := true) (by rw [decide_eq_false (fun h => h5 h.1)]; rfl), trivial⟩ ⟨rfl, trivial⟩
    · have h5 : W.length = 5 := by
        have h : (!((((W.map str).length : Nat) : Int) == 5)) = false := h
        rw [List.length_map] at h
        simp at h
        omega
      have hat : (W.map str)[((1 : Int)).toNat]? = some (str (W.getD 1 [])) := by rw [list5 h5]; rfl
      repeat (refine Run.go rfl ?_)
      refine Run.val rfl rfl rfl (ValOk.idx (str (W.getD 1 [])) rfl rfl rfl rfl rfl (by decide) hat) rfl ?_
      repeat (refine Run.go rfl ?_)
      refine Run.of hN ⟨rfl, rfl, rfl, fin (v := !((((⟨(W.getD 1 []).toArray⟩ : ByteArray).size : Nat) : Int) == 3)) ?_, trivial⟩ ⟨rfl, trivial⟩
      rw [bsz]
      congr 1
      rw [Bool.eq_iff_iff]
      simp only [beq_iff_eq, decide_eq_true_eq]
      omega
  refine Run.cond rfl (fun h => ?_) (fun h => ?_)
  · have h : ¬ (W.length = 5 ∧ (W.getD 1 []).length = 3) := by
      rw [Bool.not_eq_true'] at h
      exact of_decide_eq_false h
    rw [if_neg h] at hR
    rw [hR] at hg
    repeat (refine Run.go rfl ?_)
    refine Run.val rfl rfl rfl (ValOk.build rfl rfl rfl rfl rfl) rfl ?_
    repeat (refine Run.go rfl ?_)
    exact Run.ret (r := .tup [bkA bk0, bo false]) hg (by kernel_rfl) rfl
  have h : W.length = 5 ∧ (W.getD 1 []).length = 3 := by
    rw [Bool.not_eq_false'] at h
    exact of_decide_eq_true h
  rw [if_pos h] at hR
  obtain ⟨w0, w1, w2, w3, w4, rfl⟩ : ∃ w0 w1 w2 w3 w4, W = [w0, w1, w2, w3, w4] := ⟨_, _, _, _, _, list5 h.1⟩
  simp only [List.getD_cons_succ, List.getD_cons_zero] at hR h
  obtain ⟨p, q, r, rfl⟩ : ∃ p q r, w1 = [p, q, r] := by
    match w1, h.2 with
    | [p, q, r], _ => exact ⟨p, q, r, rfl⟩
  have l0 := Nat.le_trans (hwl w0 (by simp)) hlen
  have l2 := Nat.le_trans (hwl w2 (by simp)) hlen
  have l3 := Nat.le_trans (hwl w3 (by simp)) hlen
  have l4 := Nat.le_trans (hwl w4 (by simp)) hlen
  have hc := Cut_ct w3 120 l3
  obtain ⟨lz0, lz1⟩ := cut_len (c := 120) w3
  generalize (Lib.cut w3 [120]).1 = z0 at hR hc lz0
  generalize (Lib.cut w3 [120]).2.1 = z1 at hR hc lz1
  generalize (Lib.cut w3 [120]).2.2 = zz at hc
  have s0 := short_ct w0 l0
  have s2 := short_ct w2 l2
  have sz0 := short_ct z0 (by omega)
  have sz1 := short_ct z1 (by omega)
  have s4 := short_ct w4 l4
  generalize hB : mkB3 shV w0 [p, q, r] w2 z0 z1 w4 = B at hR
  have hbk : bkA B = .agg [i16 (shV w0), u8 (p.toNat : Int), u8 (q.toNat : Int), u8 (r.toNat : Int), i16 (shV w2), i16 (shV z0), i16 (shV z1), i16 (shV w4)] := by rw [← hB]; rfl
  clear hB h
  generalize shV w0 = n0 at s0 hbk
  generalize shV w2 = n2 at s2 hbk
  generalize shV z0 = nz0 at sz0 hbk
  generalize shV z1 = nz1 at sz1 hbk
  generalize shV w4 = n4 at s4 hbk
  rw [hR] at hrng hg
  simp only at hrng hg
  repeat (refine Run.go rfl ?_)
  refine Run.val rfl rfl rfl (ValOk.idx (str w3) rfl rfl rfl rfl rfl (by decide) rfl) rfl ?_
  repeat (refine Run.go rfl ?_)
  refine Run.csA rfl (hc.at hA) rfl rfl ?_
  repeat (refine Run.go rfl ?_)
  refine Run.drawI (fun D => ⟨[(0, str s), (2, .bp (2, 0) 0), (4, .ro 1 true ([w0, [p, q, r], w2, w3, w4].map str)), (5, str z0), (6, str z1), (30, bif D 0 then .ro 1 true ([w0, [p, q, r], w2, w3, w4].map str) else .top), (31, bif D 1 then .rp (str w0).cells 0 else .top), (32, bif D 2 then str w0 else .top), (33, bif D 3 then i16 n0 else .top), (34, bif D 4 then .ro 1 true ([w0, [p, q, r], w2, w3, w4].map str) else .top), (35, bif D 5 then .rp (str [p, q, r]).cells 0 else .top), (36, bif D 6 then str [p, q, r] else .top), (37, bif D 7 then .ro 1 false ([p, q, r].map fun b => u8 (b.toNat : Int)) else .top), (38, bif D 8 then .rp ([p, q, r].map fun b => u8 (b.toNat : Int)) 0 else .top), (39, bif D 9 then .agg [u8 (p.toNat : Int), u8 (q.toNat : Int), u8 (r.toNat : Int)] else .top), (40, bif D 10 then .ro 1 true ([w0, [p, q, r], w2, w3, w4].map str) else .top), (41, bif D 11 then .rp (str w2).cells 0 else .top), (42, bif D 12 then str w2 else .top), (43, bif D 13 then i16 n2 else .top), (44, bif D 14 then str z0 else .top), (45, bif D 15 then i16 nz0 else .top), (46, bif D 16 then str z1 else .top), (47, bif D 17 then i16 nz1 else .top), (48, bif D 18 then .ro 1 true ([w0, [p, q, r], w2, w3, w4].map str) else .top), (49, bif D 19 then .rp (str w4).cells 0 else .top), (50, bif D 20 then str w4 else .top), (51, bif D 21 then i16 n4 else .top), (52, bif D 22 then .agg [i16 n0, u8 (p.toNat : Int), u8 (q.toNat : Int), u8 (r.toNat : Int), i16 n2, i16 nz0, i16 nz1, i16 n4] else .top), (8, bif D 23 then .bp (8, 0) 0 else .top)], [((2, 0), .box (bkA bk0).cells), ((8, 0), (bif D 24 then .box (AV.cells (.agg [i16 n0, u8 (p.toNat : Int), u8 (q.toNat : Int), u8 (r.toNat : Int), i16 n2, i16 nz0, i16 nz1, i16 n4])) else (bif D 23 then .box (bkA bk0).cells else .gone)))]⟩) (by decide +kernel) (by decide +kernel) ?_ ?_ fun k' => ⟨?_, ?_, ?_, ?_, ?_, ?_, ?_, ?_, ?_, ?_, ?_, ?_, ?_, ?_, ?_, ?_, ?_, ?_, ?_, ?_, ?_, ?_, ?_, ?_, ?_, trivial⟩
  · exact St.Le.mk' ⟨rfl, rfl, rfl, rfl, rfl, rfl, rfl, rfl, rfl, rfl, rfl, rfl, rfl, rfl, rfl, rfl, rfl, rfl, rfl, rfl, rfl, rfl, rfl, rfl, rfl, rfl, rfl, rfl, rfl, trivial⟩ ⟨rfl, rfl, trivial⟩
  rotate_left
  · intro D hid h0 hp hs rest hK
    obtain ⟨d1, d24, -⟩ : AllD D false [1, 24] := ideal_sub hs (by decide +kernel)
    simp only [d1, d24, h0, cond_true, cond_false]
    refine Run.go rfl ?_
    refine Run.le ?_ hK
    simp only [d1, d24, h0, Nat.reduceBEq, Bool.false_or, Bool.true_or, cond_true, cond_false]
    exact St.Le.mk' ⟨rfl, rfl, rfl, rfl, rfl, rfl, rfl, rfl, rfl, rfl, rfl, rfl, rfl, rfl, rfl, rfl, rfl, rfl, rfl, rfl, rfl, rfl, rfl, rfl, rfl, rfl, rfl, rfl, rfl, trivial⟩ ⟨rfl, rfl, trivial⟩
  · intro D hid h0 hp hs rest hK
    obtain ⟨d0, -⟩ : AllD D true [0] := ideal_sub hp (by decide +kernel)
    obtain ⟨d2, d24, -⟩ : AllD D false [2, 24] := ideal_sub hs (by decide +kernel)
    simp only [d0, d2, d24, h0, cond_true, cond_false]
    refine Run.val rfl rfl rfl (ValOk.idx (str w0) rfl rfl rfl rfl rfl (by decide) rfl) rfl ?_
    refine Run.le ?_ hK
    simp only [d0, d2, d24, h0, Nat.reduceBEq, Bool.false_or, Bool.true_or, cond_true, cond_false]
    exact St.Le.mk' ⟨rfl, rfl, rfl, rfl, rfl, rfl, rfl, rfl, rfl, rfl, rfl, rfl, rfl, rfl, rfl, rfl, rfl, rfl, rfl, rfl, rfl, rfl, rfl, rfl, rfl, rfl, rfl, rfl, rfl, trivial⟩ ⟨rfl, rfl, trivial⟩
  · intro D hid h0 hp hs rest hK
    obtain ⟨d1, -⟩ : AllD D true [1] := ideal_sub hp (by decide +kernel)
    obtain ⟨d3, d24, -⟩ : AllD D false [3, 24] := ideal_sub hs (by decide +kernel)
    simp only [d1, d3, d24, h0, cond_true, cond_false]
    refine Run.go rfl ?_
    refine Run.le ?_ hK
    simp only [d1, d3, d24, h0, Nat.reduceBEq, Bool.false_or, Bool.true_or, cond_true, cond_false]
    exact St.Le.mk' ⟨rfl, rfl, rfl, rfl, rfl, rfl, rfl, rfl, rfl, rfl, rfl, rfl, rfl, rfl, rfl, rfl, rfl, rfl, rfl, rfl, rfl, rfl, rfl, rfl, rfl, rfl, rfl, rfl, rfl, trivial⟩ ⟨rfl, rfl, trivial⟩
  · intro D hid h0 hp hs rest hK
    obtain ⟨d2, -⟩ : AllD D true [2] := ideal_sub hp (by decide +kernel)
    obtain ⟨d13, d22, d24, -⟩ : AllD D false [13, 22, 24] := ideal_sub hs (by decide +kernel)
    simp only [d2, d13, d22, d24, h0, cond_true, cond_false]
    refine Run.csA rfl (s0.at hA) rfl rfl ?_
    refine Run.le ?_ hK
    simp only [d2, d13, d22, d24, h0, Nat.reduceBEq, Bool.false_or, Bool.true_or, cond_true, cond_false]
    exact St.Le.mk' ⟨rfl, rfl, rfl, rfl, rfl, rfl, rfl, rfl, rfl, rfl, rfl, rfl, rfl, rfl, rfl, rfl, rfl, rfl, rfl, rfl, rfl, rfl, rfl, rfl, rfl, rfl, rfl, rfl, rfl, trivial⟩ ⟨rfl, rfl, trivial⟩
  · intro D hid h0 hp hs rest hK
    obtain ⟨d5, d24, -⟩ : AllD D false [5, 24] := ideal_sub hs (by decide +kernel)
    simp only [d5, d24, h0, cond_true, cond_false]
    refine Run.go rfl ?_
    refine Run.le ?_ hK
    simp only [d5, d24, h0, Nat.reduceBEq, Bool.false_or, Bool.true_or, cond_true, cond_false]
    exact St.Le.mk' ⟨rfl, rfl, rfl, rfl, rfl, rfl, rfl, rfl, rfl, rfl, rfl, rfl, rfl, rfl, rfl, rfl, rfl, rfl, rfl, rfl, rfl, rfl, rfl, rfl, rfl, rfl, rfl, rfl, rfl, trivial⟩ ⟨rfl, rfl, trivial⟩
  · intro D hid h0 hp hs rest hK
    obtain ⟨d4, -⟩ : AllD D true [4] := ideal_sub hp (by decide +kernel)
    obtain ⟨d6, d24, -⟩ : AllD D false [6, 24] := ideal_sub hs (by decide +kernel)
    simp only [d4, d6, d24, h0, cond_true, cond_false]
    refine Run.val rfl rfl rfl (ValOk.idx (str [p, q, r]) rfl rfl rfl rfl rfl (by decide) rfl) rfl ?_
    refine Run.le ?_ hK
    simp only [d4, d6, d24, h0, Nat.reduceBEq, Bool.false_or, Bool.true_or, cond_true, cond_false]
    exact St.Le.mk' ⟨rfl, rfl, rfl, rfl, rfl, rfl, rfl, rfl, rfl, rfl, rfl, rfl, rfl, rfl, rfl, rfl, rfl, rfl, rfl, rfl, rfl, rfl, rfl, rfl, rfl, rfl, rfl, rfl, rfl, trivial⟩ ⟨rfl, rfl, trivial⟩
  · intro D hid h0 hp hs rest hK
    obtain ⟨d5, -⟩ : AllD D true [5] := ideal_sub hp (by decide +kernel)
    obtain ⟨d7, d24, -⟩ : AllD D false [7, 24] := ideal_sub hs (by decide +kernel)
    simp only [d5, d7, d24, h0, cond_true, cond_false]
    refine Run.go rfl ?_
    refine Run.le ?_ hK
    simp only [d5, d7, d24, h0, Nat.reduceBEq, Bool.false_or, Bool.true_or, cond_true, cond_false]
    exact St.Le.mk' ⟨rfl, rfl, rfl, rfl, rfl, rfl, rfl, rfl, rfl, rfl, rfl, rfl, rfl, rfl, rfl, rfl, rfl, rfl, rfl, rfl, rfl, rfl, rfl, rfl, rfl, rfl, rfl, rfl, rfl, trivial⟩ ⟨rfl, rfl, trivial⟩
  · intro D hid h0 hp hs rest hK
    obtain ⟨d6, -⟩ : AllD D true [6] := ideal_sub hp (by decide +kernel)
    obtain ⟨d8, d24, -⟩ : AllD D false [8, 24] := ideal_sub hs (by decide +kernel)
    simp only [d6, d8, d24, h0, cond_true, cond_false]
    refine Run.s2b [p, q, r] rfl rfl rfl rfl rfl rfl rfl rfl (by simp) rfl ?_
    refine Run.le ?_ hK
    simp only [d6, d8, d24, h0, Nat.reduceBEq, Bool.false_or, Bool.true_or, cond_true, cond_false]
    exact St.Le.mk' ⟨rfl, rfl, rfl, rfl, rfl, rfl, rfl, rfl, rfl, rfl, rfl, rfl, rfl, rfl, rfl, rfl, rfl, rfl, rfl, rfl, rfl, rfl, rfl, rfl, rfl, rfl, rfl, rfl, rfl, trivial⟩ ⟨rfl, rfl, trivial⟩
  · intro D hid h0 hp hs rest hK
    obtain ⟨d7, -⟩ : AllD D true [7] := ideal_sub hp (by decide +kernel)
    obtain ⟨d9, d24, -⟩ : AllD D false [9, 24] := ideal_sub hs (by decide +kernel)
    simp only [d7, d9, d24, h0, cond_true, cond_false]
    refine Run.val rfl rfl rfl (ValOk.s2ap rfl rfl rfl rfl rfl (by simp) (by simp)) rfl ?_
    refine Run.le ?_ hK
    simp only [d7, d9, d24, h0, Nat.reduceBEq, Bool.false_or, Bool.true_or, cond_true, cond_false]
    exact St.Le.mk' ⟨rfl, rfl, rfl, rfl, rfl, rfl, rfl, rfl, rfl, rfl, rfl, rfl, rfl, rfl, rfl, rfl, rfl, rfl, rfl, rfl, rfl, rfl, rfl, rfl, rfl, rfl, rfl, rfl, rfl, trivial⟩ ⟨rfl, rfl, trivial⟩
  · intro D hid h0 hp hs rest hK
    obtain ⟨d8, -⟩ : AllD D true [8] := ideal_sub hp (by decide +kernel)
    obtain ⟨d22, d24, -⟩ : AllD D false [22, 24] := ideal_sub hs (by decide +kernel)
    simp only [d8, d22, d24, h0, cond_true, cond_false]
    refine Run.go rfl ?_
    refine Run.le ?_ hK
    simp only [d8, d22, d24, h0, Nat.reduceBEq, Bool.false_or, Bool.true_or, cond_true, cond_false]
    exact St.Le.mk' ⟨rfl, rfl, rfl, rfl, rfl, rfl, rfl, rfl, rfl, rfl, rfl, rfl, rfl, rfl, rfl, rfl, rfl, rfl, rfl, rfl, rfl, rfl, rfl, rfl, rfl, rfl, rfl, rfl, rfl, trivial⟩ ⟨rfl, rfl, trivial⟩
  · intro D hid h0 hp hs rest hK
    obtain ⟨d11, d24, -⟩ : AllD D false [11, 24] := ideal_sub hs (by decide +kernel)
    simp only [d11, d24, h0, cond_true, cond_false]
    refine Run.go rfl ?_
    refine Run.le ?_ hK
    simp only [d11, d24, h0, Nat.reduceBEq, Bool.false_or, Bool.true_or, cond_true, cond_false]
    exact St.Le.mk' ⟨rfl, rfl, rfl, rfl, rfl, rfl, rfl, rfl, rfl, rfl, rfl, rfl, rfl, rfl, rfl, rfl, rfl, rfl, rfl, rfl, rfl, rfl, rfl, rfl, rfl, rfl, rfl, rfl, rfl, trivial⟩ ⟨rfl, rfl, trivial⟩
  · intro D hid h0 hp hs rest hK
    obtain ⟨d10, -⟩ : AllD D true [10] := ideal_sub hp (by decide +kernel)
    obtain ⟨d12, d24, -⟩ : AllD D false [12, 24] := ideal_sub hs (by decide +kernel)
    simp only [d10, d12, d24, h0, cond_true, cond_false]
    refine Run.val rfl rfl rfl (ValOk.idx (str w2) rfl rfl rfl rfl rfl (by decide) rfl) rfl ?_
    refine Run.le ?_ hK
    simp only [d10, d12, d24, h0, Nat.reduceBEq, Bool.false_or, Bool.true_or, cond_true, cond_false]
    exact St.Le.mk' ⟨rfl, rfl, rfl, rfl, rfl, rfl, rfl, rfl, rfl, rfl, rfl, rfl, rfl, rfl, rfl, rfl, rfl, rfl, rfl, rfl, rfl, rfl, rfl, rfl, rfl, rfl, rfl, rfl, rfl, trivial⟩ ⟨rfl, rfl, trivial⟩
  · intro D hid h0 hp hs rest hK
    obtain ⟨d11, -⟩ : AllD D true [11] := ideal_sub hp (by decide +kernel)
    obtain ⟨d13, d24, -⟩ : AllD D false [13, 24] := ideal_sub hs (by decide +kernel)
    simp only [d11, d13, d24, h0, cond_true, cond_false]
    refine Run.go rfl ?_
    refine Run.le ?_ hK
    simp only [d11, d13, d24, h0, Nat.reduceBEq, Bool.false_or, Bool.true_or, cond_true, cond_false]
    exact St.Le.mk' ⟨rfl, rfl, rfl, rfl, rfl, rfl, rfl, rfl, rfl, rfl, rfl, rfl, rfl, rfl, rfl, rfl, rfl, rfl, rfl, rfl, rfl, rfl, rfl, rfl, rfl, rfl, rfl, rfl, rfl, trivial⟩ ⟨rfl, rfl, trivial⟩
  · intro D hid h0 hp hs rest hK
    obtain ⟨d3, d12, -⟩ : AllD D true [3, 12] := ideal_sub hp (by decide +kernel)
    obtain ⟨d15, d22, d24, -⟩ : AllD D false [15, 22, 24] := ideal_sub hs (by decide +kernel)
    simp only [d3, d12, d15, d22, d24, h0, cond_true, cond_false]
    refine Run.csA rfl (s2.at hA) rfl rfl ?_
    refine Run.le ?_ hK
    simp only [d3, d12, d15, d22, d24, h0, Nat.reduceBEq, Bool.false_or, Bool.true_or, cond_true, cond_false]
    exact St.Le.mk' ⟨rfl, rfl, rfl, rfl, rfl, rfl, rfl, rfl, rfl, rfl, rfl, rfl, rfl, rfl, rfl, rfl, rfl, rfl, rfl, rfl, rfl, rfl, rfl, rfl, rfl, rfl, rfl, rfl, rfl, trivial⟩ ⟨rfl, rfl, trivial⟩
  · intro D hid h0 hp hs rest hK
    obtain ⟨d15, d24, -⟩ : AllD D false [15, 24] := ideal_sub hs (by decide +kernel)
    simp only [d15, d24, h0, cond_true, cond_false]
    refine Run.go rfl ?_
    refine Run.le ?_ hK
    simp only [d15, d24, h0, Nat.reduceBEq, Bool.false_or, Bool.true_or, cond_true, cond_false]
    exact St.Le.mk' ⟨rfl, rfl, rfl, rfl, rfl, rfl, rfl, rfl, rfl, rfl, rfl, rfl, rfl, rfl, rfl, rfl, rfl, rfl, rfl, rfl, rfl, rfl, rfl, rfl, rfl, rfl, rfl, rfl, rfl, trivial⟩ ⟨rfl, rfl, trivial⟩
  · intro D hid h0 hp hs rest hK
    obtain ⟨d13, d14, -⟩ : AllD D true [13, 14] := ideal_sub hp (by decide +kernel)
    obtain ⟨d17, d22, d24, -⟩ : AllD D false [17, 22, 24] := ideal_sub hs (by decide +kernel)
    simp only [d13, d14, d17, d22, d24, h0, cond_true, cond_false]
    refine Run.csA rfl (sz0.at hA) rfl rfl ?_
    refine Run.le ?_ hK
    simp only [d13, d14, d17, d22, d24, h0, Nat.reduceBEq, Bool.false_or, Bool.true_or, cond_true, cond_false]
    exact St.Le.mk' ⟨rfl, rfl, rfl, rfl, rfl, rfl, rfl, rfl, rfl, rfl, rfl, rfl, rfl, rfl, rfl, rfl, rfl, rfl, rfl, rfl, rfl, rfl, rfl, rfl, rfl, rfl, rfl, rfl, rfl, trivial⟩ ⟨rfl, rfl, trivial⟩
  · intro D hid h0 hp hs rest hK
    obtain ⟨d17, d24, -⟩ : AllD D false [17, 24] := ideal_sub hs (by decide +kernel)
    simp only [d17, d24, h0, cond_true, cond_false]
    refine Run.go rfl ?_
    refine Run.le ?_ hK
    simp only [d17, d24, h0, Nat.reduceBEq, Bool.false_or, Bool.true_or, cond_true, cond_false]
    exact St.Le.mk' ⟨rfl, rfl, rfl, rfl, rfl, rfl, rfl, rfl, rfl, rfl, rfl, rfl, rfl, rfl, rfl, rfl, rfl, rfl, rfl, rfl, rfl, rfl, rfl, rfl, rfl, rfl, rfl, rfl, rfl, trivial⟩ ⟨rfl, rfl, trivial⟩
  · intro D hid h0 hp hs rest hK
    obtain ⟨d15, d16, -⟩ : AllD D true [15, 16] := ideal_sub hp (by decide +kernel)
    obtain ⟨d21, d22, d24, -⟩ : AllD D false [21, 22, 24] := ideal_sub hs (by decide +kernel)
    simp only [d15, d16, d21, d22, d24, h0, cond_true, cond_false]
    refine Run.csA rfl (sz1.at hA) rfl rfl ?_
    refine Run.le ?_ hK
    simp only [d15, d16, d21, d22, d24, h0, Nat.reduceBEq, Bool.false_or, Bool.true_or, cond_true, cond_false]
    exact St.Le.mk' ⟨rfl, rfl, rfl, rfl, rfl, rfl, rfl, rfl, rfl, rfl, rfl, rfl, rfl, rfl, rfl, rfl, rfl, rfl, rfl, rfl, rfl, rfl, rfl, rfl, rfl, rfl, rfl, rfl, rfl, trivial⟩ ⟨rfl, rfl, trivial⟩
  · intro D hid h0 hp hs rest hK
    obtain ⟨d19, d24, -⟩ : AllD D false [19, 24] := ideal_sub hs (by decide +kernel)
    simp only [d19, d24, h0, cond_true, cond_false]
    refine Run.go rfl ?_
    refine Run.le ?_ hK
    simp only [d19, d24, h0, Nat.reduceBEq, Bool.false_or, Bool.true_or, cond_true, cond_false]
    exact St.Le.mk' ⟨rfl, rfl, rfl, rfl, rfl, rfl, rfl, rfl, rfl, rfl, rfl, rfl, rfl, rfl, rfl, rfl, rfl, rfl, rfl, rfl, rfl, rfl, rfl, rfl, rfl, rfl, rfl, rfl, rfl, trivial⟩ ⟨rfl, rfl, trivial⟩
  · intro D hid h0 hp hs rest hK
    obtain ⟨d18, -⟩ : AllD D true [18] := ideal_sub hp (by decide +kernel)
    obtain ⟨d20, d24, -⟩ : AllD D false [20, 24] := ideal_sub hs (by decide +kernel)
    simp only [d18, d20, d24, h0, cond_true, cond_false]
    refine Run.val rfl rfl rfl (ValOk.idx (str w4) rfl rfl rfl rfl rfl (by decide) rfl) rfl ?_
    refine Run.le ?_ hK
    simp only [d18, d20, d24, h0, Nat.reduceBEq, Bool.false_or, Bool.true_or, cond_true, cond_false]
    exact St.Le.mk' ⟨rfl, rfl, rfl, rfl, rfl, rfl, rfl, rfl, rfl, rfl, rfl, rfl, rfl, rfl, rfl, rfl, rfl, rfl, rfl, rfl, rfl, rfl, rfl, rfl, rfl, rfl, rfl, rfl, rfl, trivial⟩ ⟨rfl, rfl, trivial⟩
  · intro D hid h0 hp hs rest hK
    obtain ⟨d19, -⟩ : AllD D true [19] := ideal_sub hp (by decide +kernel)
    obtain ⟨d21, d24, -⟩ : AllD D false [21, 24] := ideal_sub hs (by decide +kernel)
    simp only [d19, d21, d24, h0, cond_true, cond_false]
    refine Run.go rfl ?_
    refine Run.le ?_ hK
    simp only [d19, d21, d24, h0, Nat.reduceBEq, Bool.false_or, Bool.true_or, cond_true, cond_false]
    exact St.Le.mk' ⟨rfl, rfl, rfl, rfl, rfl, rfl, rfl, rfl, rfl, rfl, rfl, rfl, rfl, rfl, rfl, rfl, rfl, rfl, rfl, rfl, rfl, rfl, rfl, rfl, rfl, rfl, rfl, rfl, rfl, trivial⟩ ⟨rfl, rfl, trivial⟩
  · intro D hid h0 hp hs rest hK
    obtain ⟨d17, d20, -⟩ : AllD D true [17, 20] := ideal_sub hp (by decide +kernel)
    obtain ⟨d22, d24, -⟩ : AllD D false [22, 24] := ideal_sub hs (by decide +kernel)
    simp only [d17, d20, d22, d24, h0, cond_true, cond_false]
    refine Run.csA rfl (s4.at hA) rfl rfl ?_
    refine Run.le ?_ hK
    simp only [d17, d20, d22, d24, h0, Nat.reduceBEq, Bool.false_or, Bool.true_or, cond_true, cond_false]
    exact St.Le.mk' ⟨rfl, rfl, rfl, rfl, rfl, rfl, rfl, rfl, rfl, rfl, rfl, rfl, rfl, rfl, rfl, rfl, rfl, rfl, rfl, rfl, rfl, rfl, rfl, rfl, rfl, rfl, rfl, rfl, rfl, trivial⟩ ⟨rfl, rfl, trivial⟩
  · intro D hid h0 hp hs rest hK
    obtain ⟨d3, d9, d13, d15, d17, d21, -⟩ : AllD D true [3, 9, 13, 15, 17, 21] := ideal_sub hp (by decide +kernel)
    obtain ⟨d24, -⟩ : AllD D false [24] := ideal_sub hs (by decide +kernel)
    simp only [d3, d9, d13, d15, d17, d21, d24, h0, cond_true, cond_false]
    refine Run.val rfl rfl rfl (ValOk.build (cs := [i16 n0, u8 (p.toNat : Int), u8 (q.toNat : Int), u8 (r.toNat : Int), i16 n2, i16 nz0, i16 nz1, i16 n4]) rfl rfl rfl rfl (by kernel_rfl)) rfl ?_
    refine Run.le ?_ hK
    simp only [d3, d9, d13, d15, d17, d21, d24, h0, Nat.reduceBEq, Bool.false_or, Bool.true_or, cond_true, cond_false]
    exact St.Le.mk' ⟨rfl, rfl, rfl, rfl, rfl, rfl, rfl, rfl, rfl, rfl, rfl, rfl, rfl, rfl, rfl, rfl, rfl, rfl, rfl, rfl, rfl, rfl, rfl, rfl, rfl, rfl, rfl, rfl, rfl, trivial⟩ ⟨rfl, rfl, trivial⟩
  · intro D hid h0 hp hs rest hK
    obtain ⟨d24, -⟩ : AllD D false [24] := ideal_sub hs (by decide +kernel)
    simp only [d24, h0, cond_true, cond_false]
    refine Run.alloc rfl rfl rfl rfl rfl rfl (by
        simp only [St.nrf, List.all_cons, List.all_nil, Bool.and_eq_true, Bool.and_true]
        repeat' apply And.intro
        all_goals (repeat' (first | rfl | refine nrf_bif ?_ ?_ | refine nrfO_bif ?_ ?_))) rfl ?_
    refine Run.le ?_ hK
    simp only [d24, h0, Nat.reduceBEq, Bool.false_or, Bool.true_or, cond_true, cond_false]
    exact St.Le.mk' ⟨rfl, rfl, rfl, rfl, rfl, rfl, rfl, rfl, rfl, rfl, rfl, rfl, rfl, rfl, rfl, rfl, rfl, rfl, rfl, rfl, rfl, rfl, rfl, rfl, rfl, rfl, rfl, rfl, rfl, trivial⟩ ⟨rfl, rfl, trivial⟩
  · intro D hid h0 hp hs rest hK
    obtain ⟨d0, d1, d2, d3, d4, d5, d6, d7, d8, d9, d10, d11, d12, d13, d14, d15, d16, d17, d18, d19, d20, d21, d22, d23, -⟩ : AllD D true [0, 1, 2, 3, 4, 5, 6, 7, 8, 9, 10, 11, 12, 13, 14, 15, 16, 17, 18, 19, 20, 21, 22, 23] := ideal_sub hp (by decide +kernel)
    simp only [d0, d1, d2, d3, d4, d5, d6, d7, d8, d9, d10, d11, d12, d13, d14, d15, d16, d17, d18, d19, d20, d21, d22, d23, h0, cond_true, cond_false]
    refine Run.go rfl ?_
    refine Run.le ?_ hK
    simp only [d0, d1, d2, d3, d4, d5, d6, d7, d8, d9, d10, d11, d12, d13, d14, d15, d16, d17, d18, d19, d20, d21, d22, d23, h0, Nat.reduceBEq, Bool.false_or, Bool.true_or, cond_true, cond_false]
    exact St.Le.mk' ⟨rfl, rfl, rfl, rfl, rfl, rfl, rfl, rfl, rfl, rfl, rfl, rfl, rfl, rfl, rfl, rfl, rfl, rfl, rfl, rfl, rfl, rfl, rfl, rfl, rfl, rfl, rfl, rfl, rfl, trivial⟩ ⟨rfl, rfl, trivial⟩
  repeat (refine Run.go rfl ?_)
  have hV := validBook_ct B
  rw [hbk] at hV
  cases hv : vB B with
  | false =>
    rw [hv] at hV hg
    refine Run.drawI (fun D => ⟨[(0, str s), (2, .bp (2, 0) 0), (8, .bp (8, 0) 0), (53, bif D 0 then .agg [i16 n0, u8 (p.toNat : Int), u8 (q.toNat : Int), u8 (r.toNat : Int), i16 n2, i16 nz0, i16 nz1, i16 n4] else .top), (54, bif D 1 then .agg [i16 n0, u8 (p.toNat : Int), u8 (q.toNat : Int), u8 (r.toNat : Int), i16 n2, i16 nz0, i16 nz1, i16 n4] else .top), (55, bif D 2 then bo false else .top), (56, bif D 3 then bo false else .top), (57, bif D 4 then .lit undef else .top), (58, bif D 5 then .lit undef else .top), (59, bif D 6 then .lit undef else .top), (60, bif D 7 then .lit undef else .top), (61, bif D 8 then bo false else .top), (3, bif D 10 then bo false else .top)], [((2, 0), (bif D 9 then .box (AV.cells (.agg [i16 n0, u8 (p.toNat : Int), u8 (q.toNat : Int), u8 (r.toNat : Int), i16 n2, i16 nz0, i16 nz1, i16 n4])) else .box (bkA bk0).cells)), ((8, 0), .box (AV.cells (.agg [i16 n0, u8 (p.toNat : Int), u8 (q.toNat : Int), u8 (r.toNat : Int), i16 n2, i16 nz0, i16 nz1, i16 n4])))]⟩) (by decide +kernel) (by decide +kernel) ?_ ?_ fun k' => ⟨?_, ?_, ?_, ?_, ?_, ?_, ?_, ?_, ?_, ?_, ?_, trivial⟩
    · exact St.Le.mk' ⟨rfl, rfl, rfl, rfl, rfl, rfl, rfl, rfl, rfl, rfl, rfl, rfl, rfl, trivial⟩ ⟨rfl, rfl, trivial⟩
    rotate_left
    · intro D hid h0 hp hs rest hK
      obtain ⟨d9, d10, -⟩ : AllD D false [9, 10] := ideal_sub hs (by decide +kernel)
      simp only [d9, d10, h0, cond_true, cond_false]
      refine Run.go rfl ?_
      refine Run.le ?_ hK
      simp only [d9, d10, h0, Nat.reduceBEq, Bool.false_or, Bool.true_or, cond_true, cond_false]
      exact St.Le.mk' ⟨rfl, rfl, rfl, rfl, rfl, rfl, rfl, rfl, rfl, rfl, rfl, rfl, rfl, trivial⟩ ⟨rfl, rfl, trivial⟩
    · intro D hid h0 hp hs rest hK
      obtain ⟨d2, d10, -⟩ : AllD D false [2, 10] := ideal_sub hs (by decide +kernel)
      simp only [d2, d10, h0, cond_true, cond_false]
      refine Run.go rfl ?_
      refine Run.le ?_ hK
      simp only [d2, d10, h0, Nat.reduceBEq, Bool.false_or, Bool.true_or, cond_true, cond_false]
      exact St.Le.mk' ⟨rfl, rfl, rfl, rfl, rfl, rfl, rfl, rfl, rfl, rfl, rfl, rfl, rfl, trivial⟩ ⟨rfl, rfl, trivial⟩
    · intro D hid h0 hp hs rest hK
      obtain ⟨d1, -⟩ : AllD D true [1] := ideal_sub hp (by decide +kernel)
      obtain ⟨d3, d10, -⟩ : AllD D false [3, 10] := ideal_sub hs (by decide +kernel)
      simp only [d1, d3, d10, h0, cond_true, cond_false]
      refine Run.cs rfl hV rfl rfl ?_
      refine Run.le ?_ hK
      simp only [d1, d3, d10, h0, Nat.reduceBEq, Bool.false_or, Bool.true_or, cond_true, cond_false]
      exact St.Le.mk' ⟨rfl, rfl, rfl, rfl, rfl, rfl, rfl, rfl, rfl, rfl, rfl, rfl, rfl, trivial⟩ ⟨rfl, rfl, trivial⟩
    · intro D hid h0 hp hs rest hK
      obtain ⟨d2, -⟩ : AllD D true [2] := ideal_sub hp (by decide +kernel)
      obtain ⟨d4, d5, d6, d7, d8, d10, -⟩ : AllD D false [4, 5, 6, 7, 8, 10] := ideal_sub hs (by decide +kernel)
      simp only [d2, d4, d5, d6, d7, d8, d10, h0, cond_true, cond_false]
      refine Run.go rfl ?_
      refine Run.le ?_ hK
      simp only [d2, d4, d5, d6, d7, d8, d10, h0, Nat.reduceBEq, Bool.false_or, Bool.true_or, cond_true, cond_false]
      exact St.Le.mk' ⟨rfl, rfl, rfl, rfl, rfl, rfl, rfl, rfl, rfl, rfl, rfl, rfl, rfl, trivial⟩ ⟨rfl, rfl, trivial⟩
    · intro D hid h0 hp hs rest hK
      obtain ⟨d3, -⟩ : AllD D true [3] := ideal_sub hp (by decide +kernel)
      obtain ⟨d5, d10, -⟩ : AllD D false [5, 10] := ideal_sub hs (by decide +kernel)
      simp only [d3, d5, d10, h0, cond_true, cond_false]
      refine Run.go rfl ?_
      refine Run.le ?_ hK
      simp only [d3, d5, d10, h0, Nat.reduceBEq, Bool.false_or, Bool.true_or, cond_true, cond_false]
      exact St.Le.mk' ⟨rfl, rfl, rfl, rfl, rfl, rfl, rfl, rfl, rfl, rfl, rfl, rfl, rfl, trivial⟩ ⟨rfl, rfl, trivial⟩
    · intro D hid h0 hp hs rest hK
      obtain ⟨d3, d4, -⟩ : AllD D true [3, 4] := ideal_sub hp (by decide +kernel)
      obtain ⟨d7, d9, d10, -⟩ : AllD D false [7, 9, 10] := ideal_sub hs (by decide +kernel)
      simp only [d3, d4, d7, d9, d10, h0, cond_true, cond_false]
      refine Run.go rfl ?_
      refine Run.le ?_ hK
      simp only [d3, d4, d7, d9, d10, h0, Nat.reduceBEq, Bool.false_or, Bool.true_or, cond_true, cond_false]
      exact St.Le.mk' ⟨rfl, rfl, rfl, rfl, rfl, rfl, rfl, rfl, rfl, rfl, rfl, rfl, rfl, trivial⟩ ⟨rfl, rfl, trivial⟩
    · intro D hid h0 hp hs rest hK
      obtain ⟨d3, -⟩ : AllD D true [3] := ideal_sub hp (by decide +kernel)
      obtain ⟨d7, d10, -⟩ : AllD D false [7, 10] := ideal_sub hs (by decide +kernel)
      simp only [d3, d7, d10, h0, cond_true, cond_false]
      refine Run.go rfl ?_
      refine Run.le ?_ hK
      simp only [d3, d7, d10, h0, Nat.reduceBEq, Bool.false_or, Bool.true_or, cond_true, cond_false]
      exact St.Le.mk' ⟨rfl, rfl, rfl, rfl, rfl, rfl, rfl, rfl, rfl, rfl, rfl, rfl, rfl, trivial⟩ ⟨rfl, rfl, trivial⟩
    · intro D hid h0 hp hs rest hK
      obtain ⟨d3, d5, d6, -⟩ : AllD D true [3, 5, 6] := ideal_sub hp (by decide +kernel)
      obtain ⟨d8, d10, -⟩ : AllD D false [8, 10] := ideal_sub hs (by decide +kernel)
      simp only [d3, d5, d6, d8, d10, h0, cond_true, cond_false]
      refine Run.go rfl ?_
      refine Run.le ?_ hK
      simp only [d3, d5, d6, d8, d10, h0, Nat.reduceBEq, Bool.false_or, Bool.true_or, cond_true, cond_false]
      exact St.Le.mk' ⟨rfl, rfl, rfl, rfl, rfl, rfl, rfl, rfl, rfl, rfl, rfl, rfl, rfl, trivial⟩ ⟨rfl, rfl, trivial⟩
    · intro D hid h0 hp hs rest hK
      obtain ⟨d3, d7, -⟩ : AllD D true [3, 7] := ideal_sub hp (by decide +kernel)
      obtain ⟨d10, -⟩ : AllD D false [10] := ideal_sub hs (by decide +kernel)
      simp only [d3, d7, d10, h0, cond_true, cond_false]
      refine Run.go rfl ?_
      refine Run.le ?_ hK
      simp only [d3, d7, d10, h0, Nat.reduceBEq, Bool.false_or, Bool.true_or, cond_true, cond_false]
      exact St.Le.mk' ⟨rfl, rfl, rfl, rfl, rfl, rfl, rfl, rfl, rfl, rfl, rfl, rfl, rfl, trivial⟩ ⟨rfl, rfl, trivial⟩
    · intro D hid h0 hp hs rest hK
      obtain ⟨d0, d5, -⟩ : AllD D true [0, 5] := ideal_sub hp (by decide +kernel)
      obtain ⟨d10, -⟩ : AllD D false [10] := ideal_sub hs (by decide +kernel)
      simp only [d0, d5, d10, h0, cond_true, cond_false]
      refine Run.go rfl ?_
      refine Run.le ?_ hK
      simp only [d0, d5, d10, h0, Nat.reduceBEq, Bool.false_or, Bool.true_or, cond_true, cond_false]
      exact St.Le.mk' ⟨rfl, rfl, rfl, rfl, rfl, rfl, rfl, rfl, rfl, rfl, rfl, rfl, rfl, trivial⟩ ⟨rfl, rfl, trivial⟩
    · intro D hid h0 hp hs rest hK
      obtain ⟨d0, d1, d2, d3, d4, d5, d6, d7, d8, d9, -⟩ : AllD D true [0, 1, 2, 3, 4, 5, 6, 7, 8, 9] := ideal_sub hp (by decide +kernel)
      simp only [d0, d1, d2, d3, d4, d5, d6, d7, d8, d9, h0, cond_true, cond_false]
      refine Run.go rfl ?_
      refine Run.le ?_ hK
      simp only [d0, d1, d2, d3, d4, d5, d6, d7, d8, d9, h0, Nat.reduceBEq, Bool.false_or, Bool.true_or, cond_true, cond_false]
      exact St.Le.mk' ⟨rfl, rfl, rfl, rfl, rfl, rfl, rfl, rfl, rfl, rfl, rfl, rfl, rfl, trivial⟩ ⟨rfl, rfl, trivial⟩
    repeat (refine Run.go rfl ?_)
    refine Run.ret (r := .tup [.agg [i16 n0, u8 (p.toNat : Int), u8 (q.toNat : Int), u8 (r.toNat : Int), i16 n2, i16 nz0, i16 nz1, i16 n4], bo false]) hg (by kernel_rfl) ?_
    rw [Bool.false_and, hbk]
  | true =>
    rw [hv] at hV hg
    have hT := bookText_ct B (vB_num hv)
    rw [hbk] at hT
    refine Run.drawI (fun D => ⟨[(0, str s), (2, .bp (2, 0) 0), (8, .bp (8, 0) 0), (53, bif D 0 then .agg [i16 n0, u8 (p.toNat : Int), u8 (q.toNat : Int), u8 (r.toNat : Int), i16 n2, i16 nz0, i16 nz1, i16 n4] else .top), (54, bif D 1 then .agg [i16 n0, u8 (p.toNat : Int), u8 (q.toNat : Int), u8 (r.toNat : Int), i16 n2, i16 nz0, i16 nz1, i16 n4] else .top), (55, bif D 2 then bo true else .top), (56, bif D 3 then bo true else .top), (57, bif D 4 then .agg [i16 n0, u8 (p.toNat : Int), u8 (q.toNat : Int), u8 (r.toNat : Int), i16 n2, i16 nz0, i16 nz1, i16 n4] else .top), (58, bif D 5 then str (bookT B) else .top), (59, bif D 6 then str s else .top), (60, bif D 7 then .lit (.bool ((⟨(bookT B).toArray⟩ : ByteArray).toList == (⟨s.toArray⟩ : ByteArray).toList)) else .top), (61, bif D 8 then .lit (.bool ((⟨(bookT B).toArray⟩ : ByteArray).toList == (⟨s.toArray⟩ : ByteArray).toList)) else .top), (3, bif D 10 then .lit (.bool ((⟨(bookT B).toArray⟩ : ByteArray).toList == (⟨s.toArray⟩ : ByteArray).toList)) else .top)], [((2, 0), (bif D 9 then .box (AV.cells (.agg [i16 n0, u8 (p.toNat : Int), u8 (q.toNat : Int), u8 (r.toNat : Int), i16 n2, i16 nz0, i16 nz1, i16 n4])) else .box (bkA bk0).cells)), ((8, 0), .box (AV.cells (.agg [i16 n0, u8 (p.toNat : Int), u8 (q.toNat : Int), u8 (r.toNat : Int), i16 n2, i16 nz0, i16 nz1, i16 n4])))]⟩) (by decide +kernel) (by decide +kernel) ?_ ?_ fun k' => ⟨?_, ?_, ?_, ?_, ?_, ?_, ?_, ?_, ?_, ?_, ?_, trivial⟩
    · exact St.Le.mk' ⟨rfl, rfl, rfl, rfl, rfl, rfl, rfl, rfl, rfl, rfl, rfl, rfl, rfl, trivial⟩ ⟨rfl, rfl, trivial⟩
    rotate_left
    · intro D hid h0 hp hs rest hK
      obtain ⟨d9, d10, -⟩ : AllD D false [9, 10] := ideal_sub hs (by decide +kernel)
      simp only [d9, d10, h0, cond_true, cond_false]
      refine Run.go rfl ?_
      refine Run.le ?_ hK
      simp only [d9, d10, h0, Nat.reduceBEq, Bool.false_or, Bool.true_or, cond_true, cond_false]
      exact St.Le.mk' ⟨rfl, rfl, rfl, rfl, rfl, rfl, rfl, rfl, rfl, rfl, rfl, rfl, rfl, trivial⟩ ⟨rfl, rfl, trivial⟩
    · intro D hid h0 hp hs rest hK
      obtain ⟨d2, d10, -⟩ : AllD D false [2, 10] := ideal_sub hs (by decide +kernel)
      simp only [d2, d10, h0, cond_true, cond_false]
      refine Run.go rfl ?_
      refine Run.le ?_ hK
      simp only [d2, d10, h0, Nat.reduceBEq, Bool.false_or, Bool.true_or, cond_true, cond_false]
      exact St.Le.mk' ⟨rfl, rfl, rfl, rfl, rfl, rfl, rfl, rfl, rfl, rfl, rfl, rfl, rfl, trivial⟩ ⟨rfl, rfl, trivial⟩
    · intro D hid h0 hp hs rest hK
      obtain ⟨d1, -⟩ : AllD D true [1] := ideal_sub hp (by decide +kernel)
      obtain ⟨d3, d10, -⟩ : AllD D false [3, 10] := ideal_sub hs (by decide +kernel)
      simp only [d1, d3, d10, h0, cond_true, cond_false]
      refine Run.cs rfl hV rfl rfl ?_
      refine Run.le ?_ hK
      simp only [d1, d3, d10, h0, Nat.reduceBEq, Bool.false_or, Bool.true_or, cond_true, cond_false]
      exact St.Le.mk' ⟨rfl, rfl, rfl, rfl, rfl, rfl, rfl, rfl, rfl, rfl, rfl, rfl, rfl, trivial⟩ ⟨rfl, rfl, trivial⟩
    · intro D hid h0 hp hs rest hK
      obtain ⟨d2, -⟩ : AllD D true [2] := ideal_sub hp (by decide +kernel)
      obtain ⟨d4, d5, d6, d7, d8, d10, -⟩ : AllD D false [4, 5, 6, 7, 8, 10] := ideal_sub hs (by decide +kernel)
      simp only [d2, d4, d5, d6, d7, d8, d10, h0, cond_true, cond_false]
      refine Run.go rfl ?_
      refine Run.le ?_ hK
      simp only [d2, d4, d5, d6, d7, d8, d10, h0, Nat.reduceBEq, Bool.false_or, Bool.true_or, cond_true, cond_false]
      exact St.Le.mk' ⟨rfl, rfl, rfl, rfl, rfl, rfl, rfl, rfl, rfl, rfl, rfl, rfl, rfl, trivial⟩ ⟨rfl, rfl, trivial⟩
    · intro D hid h0 hp hs rest hK
      obtain ⟨d3, -⟩ : AllD D true [3] := ideal_sub hp (by decide +kernel)
      obtain ⟨d5, d10, -⟩ : AllD D false [5, 10] := ideal_sub hs (by decide +kernel)
      simp only [d3, d5, d10, h0, cond_true, cond_false]
      refine Run.go rfl ?_
      refine Run.le ?_ hK
      simp only [d3, d5, d10, h0, Nat.reduceBEq, Bool.false_or, Bool.true_or, cond_true, cond_false]
      exact St.Le.mk' ⟨rfl, rfl, rfl, rfl, rfl, rfl, rfl, rfl, rfl, rfl, rfl, rfl, rfl, trivial⟩ ⟨rfl, rfl, trivial⟩
    · intro D hid h0 hp hs rest hK
      obtain ⟨d3, d4, -⟩ : AllD D true [3, 4] := ideal_sub hp (by decide +kernel)
      obtain ⟨d7, d9, d10, -⟩ : AllD D false [7, 9, 10] := ideal_sub hs (by decide +kernel)
      simp only [d3, d4, d7, d9, d10, h0, cond_true, cond_false]
      refine Run.csA rfl (hT.at hAT) rfl rfl ?_
      refine Run.le ?_ hK
      simp only [d3, d4, d7, d9, d10, h0, Nat.reduceBEq, Bool.false_or, Bool.true_or, cond_true, cond_false]
      exact St.Le.mk' ⟨rfl, rfl, rfl, rfl, rfl, rfl, rfl, rfl, rfl, rfl, rfl, rfl, rfl, trivial⟩ ⟨rfl, rfl, trivial⟩
    · intro D hid h0 hp hs rest hK
      obtain ⟨d3, -⟩ : AllD D true [3] := ideal_sub hp (by decide +kernel)
      obtain ⟨d7, d10, -⟩ : AllD D false [7, 10] := ideal_sub hs (by decide +kernel)
      simp only [d3, d7, d10, h0, cond_true, cond_false]
      refine Run.go rfl ?_
      refine Run.le ?_ hK
      simp only [d3, d7, d10, h0, Nat.reduceBEq, Bool.false_or, Bool.true_or, cond_true, cond_false]
      exact St.Le.mk' ⟨rfl, rfl, rfl, rfl, rfl, rfl, rfl, rfl, rfl, rfl, rfl, rfl, rfl, trivial⟩ ⟨rfl, rfl, trivial⟩
    · intro D hid h0 hp hs rest hK
      obtain ⟨d3, d5, d6, -⟩ : AllD D true [3, 5, 6] := ideal_sub hp (by decide +kernel)
      obtain ⟨d8, d10, -⟩ : AllD D false [8, 10] := ideal_sub hs (by decide +kernel)
      simp only [d3, d5, d6, d8, d10, h0, cond_true, cond_false]
      refine Run.go rfl ?_
      refine Run.le ?_ hK
      simp only [d3, d5, d6, d8, d10, h0, Nat.reduceBEq, Bool.false_or, Bool.true_or, cond_true, cond_false]
      exact St.Le.mk' ⟨rfl, rfl, rfl, rfl, rfl, rfl, rfl, rfl, rfl, rfl, rfl, rfl, rfl, trivial⟩ ⟨rfl, rfl, trivial⟩
    · intro D hid h0 hp hs rest hK
      obtain ⟨d3, d7, -⟩ : AllD D true [3, 7] := ideal_sub hp (by decide +kernel)
      obtain ⟨d10, -⟩ : AllD D false [10] := ideal_sub hs (by decide +kernel)
      simp only [d3, d7, d10, h0, cond_true, cond_false]
      refine Run.go rfl ?_
      refine Run.le ?_ hK
      simp only [d3, d7, d10, h0, Nat.reduceBEq, Bool.false_or, Bool.true_or, cond_true, cond_false]
      exact St.Le.mk' ⟨rfl, rfl, rfl, rfl, rfl, rfl, rfl, rfl, rfl, rfl, rfl, rfl, rfl, trivial⟩ ⟨rfl, rfl, trivial⟩
    · intro D hid h0 hp hs rest hK
      obtain ⟨d0, d5, -⟩ : AllD D true [0, 5] := ideal_sub hp (by decide +kernel)
      obtain ⟨d10, -⟩ : AllD D false [10] := ideal_sub hs (by decide +kernel)
      simp only [d0, d5, d10, h0, cond_true, cond_false]
      refine Run.go rfl ?_
      refine Run.le ?_ hK
      simp only [d0, d5, d10, h0, Nat.reduceBEq, Bool.false_or, Bool.true_or, cond_true, cond_false]
      exact St.Le.mk' ⟨rfl, rfl, rfl, rfl, rfl, rfl, rfl, rfl, rfl, rfl, rfl, rfl, rfl, trivial⟩ ⟨rfl, rfl, trivial⟩
    · intro D hid h0 hp hs rest hK
      obtain ⟨d0, d1, d2, d3, d4, d5, d6, d7, d8, d9, -⟩ : AllD D true [0, 1, 2, 3, 4, 5, 6, 7, 8, 9] := ideal_sub hp (by decide +kernel)
      simp only [d0, d1, d2, d3, d4, d5, d6, d7, d8, d9, h0, cond_true, cond_false]
      refine Run.go rfl ?_
      refine Run.le ?_ hK
      simp only [d0, d1, d2, d3, d4, d5, d6, d7, d8, d9, h0, Nat.reduceBEq, Bool.false_or, Bool.true_or, cond_true, cond_false]
      exact St.Le.mk' ⟨rfl, rfl, rfl, rfl, rfl, rfl, rfl, rfl, rfl, rfl, rfl, rfl, rfl, trivial⟩ ⟨rfl, rfl, trivial⟩
    repeat (refine Run.go rfl ?_)
    refine Run.ret (r := .tup [.agg [i16 n0, u8 (p.toNat : Int), u8 (q.toNat : Int), u8 (r.toNat : Int), i16 n2, i16 nz0, i16 nz1, i16 n4], .lit (.bool ((⟨(bookT B).toArray⟩ : ByteArray).toList == (⟨s.toArray⟩ : ByteArray).toList))]) hg (by kernel_rfl) ?_
    rw [str_eq, Bool.true_and, hbk]
end Go.Proofs.YtmeejegdgfkogaaGreatDoor
