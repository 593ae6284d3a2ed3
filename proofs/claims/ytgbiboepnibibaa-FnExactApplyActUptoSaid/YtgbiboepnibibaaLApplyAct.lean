/- Contracts of the program's functions, and what follows from them. -/
import Derived.Test.YtgbiboepnibibaaLApplyActs
set_option linter.unusedVariables false
set_option maxRecDepth 100000
set_option linter.unusedSimpArgs false
namespace Go.Proofs.Ytgbiboepnibibaa
open Go Go.Av


noncomputable def X4 : Fx := ⟨Try.prog, tys, 4, Try.f4, [0, 1]⟩
theorem X4_ok : X4.Ok := ⟨Try.func4, tys_ok⟩
theorem lawApplyAct_ct (r : Dk) (b : Ac) (hc : dkOk r) (hr : dkRng r) (hb : acRng b) : Ct Try.prog 4 [dkR false false r, acA b] (bo true) [] := by
  have hS := specApplyAct_ct r true true b hc hr hb
  have hI := implApplyAct_ct r true true b hc hr hb
  have hL : QD (aaR r b).1 := aaR_qd hr hb
  generalize aaR r b = R at hS hI hL
  obtain ⟨Q, m, c⟩ := R
  simp only at hL
  obtain ⟨hQ, hQc⟩ := hL
  refine Ct.intro X4 X4_ok rfl (by kernel_rfl) rfl rfl fun g hg => ?_
  repeat (refine Run.go rfl ?_)
  refine Run.cs rfl (szDesk_ct r false false 1048576 (by omega) (by omega) hc.1 hc.2) rfl rfl ?_
  repeat (refine Run.go rfl ?_)
  refine Run.cond rfl (fun h => ?_) (fun hsz => ?_)
  · repeat (refine Run.go rfl ?_)
    exact Run.ret hg rfl rfl
  have hcnt : (cnt r.cs : Nat) ≤ 4 * (1048576 : Int) := szD_cnt r 1048576 (by omega) (by simpa using hsz)
  repeat (refine Run.go rfl ?_)
  refine Run.drawI (fun D => ⟨[(2, .bp (2, 0) 0), (3, .bp (3, 0) 0), (25, bif D 0 then dkR false false r else .top), (26, bif D 1 then dkO r else .top), (27, bif D 2 then acA b else .top), (28, bif D 3 then acA b else .top), (29, bif D 5 then .top else bif D 4 then .tup [dkQ false false Q, i64 m, i64 c] else .top), (24, bif D 5 then .tup [bif D 6 then .top else dkQ false false Q, i64 m, i64 c] else .top), (30, bif D 6 then dkR false false Q else .top), (31, bif D 7 then i64 m else .top), (32, bif D 8 then i64 c else .top), (6, bif D 9 then .bp (6, 0) 0 else .top), (7, bif D 11 then i64 m else .top), (8, bif D 12 then i64 c else .top)], [((2, 0), Ob.box (dkR false false r).cells), ((3, 0), Ob.box (acA b).cells), ((6, 0), (bif D 10 then Ob.box (dkR false false Q).cells else (bif D 9 then Ob.box [i16 0, .lit (.slice none 0 0)] else Ob.gone)))]⟩) (by decide +kernel) (by decide +kernel) ?_ ?_ fun k' => ⟨?_, ?_, ?_, ?_, ?_, ?_, ?_, ?_, ?_, ?_, ?_, ?_, ?_, trivial⟩
  · exact St.Le.mk' ⟨rfl, rfl, rfl, rfl, rfl, rfl, rfl, rfl, rfl, rfl, rfl, rfl, rfl, rfl, trivial⟩ ⟨rfl, rfl, rfl, trivial⟩
  rotate_left
  · intro D hid h0 hp hs rest hK
    obtain ⟨d1, -⟩ : AllD D false [1] := ideal_sub hs (by decide +kernel)
    simp only [d1, h0, cond_true, cond_false]
    refine Run.go rfl ?_
    refine Run.le ?_ hK
    simp only [d1, h0, Nat.reduceBEq, Bool.false_or, Bool.true_or, cond_true, cond_false]
    exact St.Le.mk' ⟨rfl, rfl, rfl, rfl, rfl, rfl, rfl, rfl, rfl, rfl, rfl, rfl, rfl, rfl, trivial⟩ ⟨rfl, rfl, rfl, trivial⟩
  · intro D hid h0 hp hs rest hK
    obtain ⟨d0, -⟩ : AllD D true [0] := ideal_sub hp (by decide +kernel)
    obtain ⟨d3, d4, -⟩ : AllD D false [3, 4] := ideal_sub hs (by decide +kernel)
    simp only [d0, d3, d4, h0, cond_true, cond_false]
    refine Run.cs rfl (toDesk_ct r false false hc.1 hc.2) rfl (dkO_rf _) ?_
    refine Run.le ?_ hK
    simp only [d0, d3, d4, h0, Nat.reduceBEq, Bool.false_or, Bool.true_or, cond_true, cond_false]
    exact St.Le.mk' ⟨rfl, rfl, rfl, rfl, rfl, rfl, rfl, rfl, rfl, rfl, rfl, rfl, rfl, rfl, trivial⟩ ⟨rfl, rfl, rfl, trivial⟩
  · intro D hid h0 hp hs rest hK
    obtain ⟨d3, -⟩ : AllD D false [3] := ideal_sub hs (by decide +kernel)
    simp only [d3, h0, cond_true, cond_false]
    refine Run.go rfl ?_
    refine Run.le ?_ hK
    simp only [d3, h0, Nat.reduceBEq, Bool.false_or, Bool.true_or, cond_true, cond_false]
    exact St.Le.mk' ⟨rfl, rfl, rfl, rfl, rfl, rfl, rfl, rfl, rfl, rfl, rfl, rfl, rfl, rfl, trivial⟩ ⟨rfl, rfl, rfl, trivial⟩
  · intro D hid h0 hp hs rest hK
    obtain ⟨d1, d2, -⟩ : AllD D true [1, 2] := ideal_sub hp (by decide +kernel)
    obtain ⟨d4, -⟩ : AllD D false [4] := ideal_sub hs (by decide +kernel)
    simp only [d1, d2, d4, h0, cond_true, cond_false]
    refine Run.cs rfl (toAct_ct b) rfl rfl ?_
    refine Run.le ?_ hK
    simp only [d1, d2, d4, h0, Nat.reduceBEq, Bool.false_or, Bool.true_or, cond_true, cond_false]
    exact St.Le.mk' ⟨rfl, rfl, rfl, rfl, rfl, rfl, rfl, rfl, rfl, rfl, rfl, rfl, rfl, rfl, trivial⟩ ⟨rfl, rfl, rfl, trivial⟩
  · intro D hid h0 hp hs rest hK
    obtain ⟨d1, d3, -⟩ : AllD D true [1, 3] := ideal_sub hp (by decide +kernel)
    obtain ⟨d5, -⟩ : AllD D false [5] := ideal_sub hs (by decide +kernel)
    simp only [d1, d3, d5, h0, cond_true, cond_false]
    refine Run.cs rfl hS (by rw [frzL_map cpO_frz]; rfl) (apA_rf _) ?_
    refine Run.le ?_ hK
    simp only [d1, d3, d5, h0, Nat.reduceBEq, Bool.false_or, Bool.true_or, cond_true, cond_false]
    exact St.Le.mk' ⟨rfl, rfl, rfl, rfl, rfl, rfl, rfl, rfl, rfl, rfl, rfl, rfl, rfl, rfl, trivial⟩ ⟨rfl, rfl, rfl, trivial⟩
  · intro D hid h0 hp hs rest hK
    obtain ⟨d4, -⟩ : AllD D true [4] := ideal_sub hp (by decide +kernel)
    obtain ⟨d6, d7, d8, -⟩ : AllD D false [6, 7, 8] := ideal_sub hs (by decide +kernel)
    simp only [d4, d6, d7, d8, h0, cond_true, cond_false]
    refine Run.go rfl ?_
    refine Run.le ?_ hK
    simp only [d4, d6, d7, d8, h0, Nat.reduceBEq, Bool.false_or, Bool.true_or, cond_true, cond_false]
    exact St.Le.mk' ⟨rfl, rfl, rfl, rfl, rfl, rfl, rfl, rfl, rfl, rfl, rfl, rfl, rfl, rfl, trivial⟩ ⟨rfl, rfl, rfl, trivial⟩
  · intro D hid h0 hp hs rest hK
    obtain ⟨d5, -⟩ : AllD D true [5] := ideal_sub hp (by decide +kernel)
    obtain ⟨d10, -⟩ : AllD D false [10] := ideal_sub hs (by decide +kernel)
    simp only [d5, d10, h0, cond_true, cond_false]
    refine Run.go rfl ?_
    refine Run.freeze (v' := dkR false false Q) 30 rfl rfl (dkQ_frz _ _ _) ?_
    refine Run.le ?_ hK
    simp only [d5, d10, h0, Nat.reduceBEq, Bool.false_or, Bool.true_or, cond_true, cond_false]
    exact St.Le.mk' ⟨rfl, rfl, rfl, rfl, rfl, rfl, rfl, rfl, rfl, rfl, rfl, rfl, rfl, rfl, trivial⟩ ⟨rfl, rfl, rfl, trivial⟩
  · intro D hid h0 hp hs rest hK
    obtain ⟨d5, -⟩ : AllD D true [5] := ideal_sub hp (by decide +kernel)
    obtain ⟨d11, -⟩ : AllD D false [11] := ideal_sub hs (by decide +kernel)
    simp only [d5, d11, h0, cond_true, cond_false]
    refine Run.go rfl ?_
    refine Run.le ?_ hK
    simp only [d5, d11, h0, Nat.reduceBEq, Bool.false_or, Bool.true_or, cond_true, cond_false]
    exact St.Le.mk' ⟨rfl, rfl, rfl, rfl, rfl, rfl, rfl, rfl, rfl, rfl, rfl, rfl, rfl, rfl, trivial⟩ ⟨rfl, rfl, rfl, trivial⟩
  · intro D hid h0 hp hs rest hK
    obtain ⟨d5, -⟩ : AllD D true [5] := ideal_sub hp (by decide +kernel)
    obtain ⟨d12, -⟩ : AllD D false [12] := ideal_sub hs (by decide +kernel)
    simp only [d5, d12, h0, cond_true, cond_false]
    refine Run.go rfl ?_
    refine Run.le ?_ hK
    simp only [d5, d12, h0, Nat.reduceBEq, Bool.false_or, Bool.true_or, cond_true, cond_false]
    exact St.Le.mk' ⟨rfl, rfl, rfl, rfl, rfl, rfl, rfl, rfl, rfl, rfl, rfl, rfl, rfl, rfl, trivial⟩ ⟨rfl, rfl, rfl, trivial⟩
  · intro D hid h0 hp hs rest hK
    obtain ⟨d10, -⟩ : AllD D false [10] := ideal_sub hs (by decide +kernel)
    have d11 : D 11 = false := ideal_no (i := 11) (j := 10) hid (by decide +kernel) d10
    have d12 : D 12 = false := ideal_no (i := 12) (j := 11) hid (by decide +kernel) d11
    simp only [d10, d11, d12, h0, cond_true, cond_false]
    refine Run.alloc rfl rfl rfl rfl rfl rfl (by
      simp only [St.nrf, List.all_cons, List.all_nil, Bool.and_eq_true, Bool.and_true]
      repeat' apply And.intro
      all_goals (repeat' (first | rfl | refine nrf_bif ?_ ?_ | refine nrfO_bif ?_ ?_ | (cases D 6 <;> rfl)))) rfl ?_
    refine Run.le ?_ hK
    simp only [d10, d11, d12, h0, Nat.reduceBEq, Bool.false_or, Bool.true_or, cond_true, cond_false]
    exact St.Le.mk' ⟨rfl, rfl, rfl, rfl, rfl, rfl, rfl, rfl, rfl, rfl, rfl, rfl, rfl, rfl, trivial⟩ ⟨rfl, rfl, rfl, trivial⟩
  · intro D hid h0 hp hs rest hK
    obtain ⟨d6, d9, -⟩ : AllD D true [6, 9] := ideal_sub hp (by decide +kernel)
    obtain ⟨d11, -⟩ : AllD D false [11] := ideal_sub hs (by decide +kernel)
    simp only [d6, d9, d11, h0, cond_true, cond_false]
    refine Run.go rfl ?_
    refine Run.le ?_ hK
    simp only [d6, d9, d11, h0, Nat.reduceBEq, Bool.false_or, Bool.true_or, cond_true, cond_false]
    exact St.Le.mk' ⟨rfl, rfl, rfl, rfl, rfl, rfl, rfl, rfl, rfl, rfl, rfl, rfl, rfl, rfl, trivial⟩ ⟨rfl, rfl, rfl, trivial⟩
  · intro D hid h0 hp hs rest hK
    obtain ⟨d7, d10, -⟩ : AllD D true [7, 10] := ideal_sub hp (by decide +kernel)
    obtain ⟨d12, -⟩ : AllD D false [12] := ideal_sub hs (by decide +kernel)
    simp only [d7, d10, d12, h0, cond_true, cond_false]
    refine Run.go rfl ?_
    refine Run.le ?_ hK
    simp only [d7, d10, d12, h0, Nat.reduceBEq, Bool.false_or, Bool.true_or, cond_true, cond_false]
    exact St.Le.mk' ⟨rfl, rfl, rfl, rfl, rfl, rfl, rfl, rfl, rfl, rfl, rfl, rfl, rfl, rfl, trivial⟩ ⟨rfl, rfl, rfl, trivial⟩
  · intro D hid h0 hp hs rest hK
    obtain ⟨d8, d11, -⟩ : AllD D true [8, 11] := ideal_sub hp (by decide +kernel)
    simp only [d8, d11, h0, cond_true, cond_false]
    refine Run.go rfl ?_
    refine Run.le ?_ hK
    simp only [d8, d11, h0, Nat.reduceBEq, Bool.false_or, Bool.true_or, cond_true, cond_false]
    exact St.Le.mk' ⟨rfl, rfl, rfl, rfl, rfl, rfl, rfl, rfl, rfl, rfl, rfl, rfl, rfl, rfl, trivial⟩ ⟨rfl, rfl, rfl, trivial⟩
  repeat (refine Run.go rfl ?_)
  refine Run.cs rfl (toDesk_ct r false false hc.1 hc.2) rfl (dkO_rf _) ?_
  refine Run.unagg 34 1 (34, 1) rfl rfl rfl ?_
  repeat (refine Run.go rfl ?_)
  refine Run.drawI (fun D => ⟨[(2, .bp (2, 0) 0), (3, .bp (3, 0) 0), (6, .bp (6, 0) 0), (7, i64 m), (8, i64 c), (9, .bp (9, 0) 0), (36, bif D 0 then .agg [i16 r.day, .vec (34, 1) 0 (r.cs.map cpO).length] else .top), (37, bif D 1 then acA b else .top), (38, bif D 2 then acA b else .top), (39, bif D 4 then .top else bif D 3 then .tup [dkQ false false Q, i64 m, i64 c] else .top), (35, bif D 4 then .tup [bif D 5 then .top else dkQ false false Q, i64 m, i64 c] else .top), (40, bif D 5 then .agg [i16 Q.day, .vec (40, 1) 0 (Q.cs.map (cpQ false)).length] else .top), (41, bif D 6 then i64 m else .top), (42, bif D 7 then i64 c else .top), (10, bif D 8 then .bp (10, 0) 0 else .top), (11, bif D 10 then i64 m else .top), (12, bif D 11 then i64 c else .top)], [((2, 0), Ob.box (dkR false false r).cells), ((3, 0), Ob.box (acA b).cells), ((6, 0), Ob.box (dkR false false Q).cells), ((9, 0), Ob.box [i16 r.day, .vec (34, 1) 0 (r.cs.map cpO).length]), ((34, 1), Ob.vec 5 true (r.cs.map cpO)), ((10, 0), (bif D 9 then Ob.box [i16 Q.day, .vec (40, 1) 0 (Q.cs.map (cpQ false)).length] else (bif D 8 then Ob.box [i16 0, .lit (.slice none 0 0)] else Ob.gone))), ((40, 1), (bif D 5 then Ob.vec 5 false (Q.cs.map (cpQ false)) else Ob.gone))]⟩) (by decide +kernel) (by decide +kernel) ?_ ?_ fun k' => ⟨?_, ?_, ?_, ?_, ?_, ?_, ?_, ?_, ?_, ?_, ?_, ?_, trivial⟩
  · exact St.Le.mk' ⟨rfl, rfl, rfl, rfl, rfl, rfl, rfl, rfl, rfl, rfl, rfl, rfl, rfl, rfl, rfl, rfl, rfl, trivial⟩ ⟨rfl, rfl, rfl, rfl, rfl, rfl, rfl, trivial⟩
  rotate_left
  · intro D hid h0 hp hs rest hK
    obtain ⟨d3, -⟩ : AllD D false [3] := ideal_sub hs (by decide +kernel)
    simp only [d3, h0, cond_true, cond_false]
    refine Run.go rfl ?_
    refine Run.le ?_ hK
    simp only [d3, h0, Nat.reduceBEq, Bool.false_or, Bool.true_or, cond_true, cond_false]
    exact St.Le.mk' ⟨rfl, rfl, rfl, rfl, rfl, rfl, rfl, rfl, rfl, rfl, rfl, rfl, rfl, rfl, rfl, rfl, rfl, trivial⟩ ⟨rfl, rfl, rfl, rfl, rfl, rfl, rfl, trivial⟩
  · intro D hid h0 hp hs rest hK
    obtain ⟨d2, -⟩ : AllD D false [2] := ideal_sub hs (by decide +kernel)
    simp only [d2, h0, cond_true, cond_false]
    refine Run.go rfl ?_
    refine Run.le ?_ hK
    simp only [d2, h0, Nat.reduceBEq, Bool.false_or, Bool.true_or, cond_true, cond_false]
    exact St.Le.mk' ⟨rfl, rfl, rfl, rfl, rfl, rfl, rfl, rfl, rfl, rfl, rfl, rfl, rfl, rfl, rfl, rfl, rfl, trivial⟩ ⟨rfl, rfl, rfl, rfl, rfl, rfl, rfl, trivial⟩
  · intro D hid h0 hp hs rest hK
    obtain ⟨d1, -⟩ : AllD D true [1] := ideal_sub hp (by decide +kernel)
    obtain ⟨d3, -⟩ : AllD D false [3] := ideal_sub hs (by decide +kernel)
    simp only [d1, d3, h0, cond_true, cond_false]
    refine Run.cs rfl (toAct_ct b) rfl rfl ?_
    refine Run.le ?_ hK
    simp only [d1, d3, h0, Nat.reduceBEq, Bool.false_or, Bool.true_or, cond_true, cond_false]
    exact St.Le.mk' ⟨rfl, rfl, rfl, rfl, rfl, rfl, rfl, rfl, rfl, rfl, rfl, rfl, rfl, rfl, rfl, rfl, rfl, trivial⟩ ⟨rfl, rfl, rfl, rfl, rfl, rfl, rfl, trivial⟩
  · intro D hid h0 hp hs rest hK
    obtain ⟨d0, d2, -⟩ : AllD D true [0, 2] := ideal_sub hp (by decide +kernel)
    obtain ⟨d4, -⟩ : AllD D false [4] := ideal_sub hs (by decide +kernel)
    simp only [d0, d2, d4, h0, cond_true, cond_false]
    refine Run.cs rfl hI (by rw [frzL_map cpO_frz, decide_eq_true rfl]; rfl) (apA_rf _) ?_
    refine Run.le ?_ hK
    simp only [d0, d2, d4, h0, Nat.reduceBEq, Bool.false_or, Bool.true_or, cond_true, cond_false]
    exact St.Le.mk' ⟨rfl, rfl, rfl, rfl, rfl, rfl, rfl, rfl, rfl, rfl, rfl, rfl, rfl, rfl, rfl, rfl, rfl, trivial⟩ ⟨rfl, rfl, rfl, rfl, rfl, rfl, rfl, trivial⟩
  · intro D hid h0 hp hs rest hK
    obtain ⟨d3, -⟩ : AllD D true [3] := ideal_sub hp (by decide +kernel)
    obtain ⟨d5, d6, d7, -⟩ : AllD D false [5, 6, 7] := ideal_sub hs (by decide +kernel)
    simp only [d3, d5, d6, d7, h0, cond_true, cond_false]
    refine Run.go rfl ?_
    refine Run.le ?_ hK
    simp only [d3, d5, d6, d7, h0, Nat.reduceBEq, Bool.false_or, Bool.true_or, cond_true, cond_false]
    exact St.Le.mk' ⟨rfl, rfl, rfl, rfl, rfl, rfl, rfl, rfl, rfl, rfl, rfl, rfl, rfl, rfl, rfl, rfl, rfl, trivial⟩ ⟨rfl, rfl, rfl, rfl, rfl, rfl, rfl, trivial⟩
  · intro D hid h0 hp hs rest hK
    obtain ⟨d4, -⟩ : AllD D true [4] := ideal_sub hp (by decide +kernel)
    obtain ⟨d9, -⟩ : AllD D false [9] := ideal_sub hs (by decide +kernel)
    have d10 : D 10 = false := ideal_no (i := 10) (j := 9) hid (by decide +kernel) d9
    have d11 : D 11 = false := ideal_no (i := 11) (j := 10) hid (by decide +kernel) d10
    have d3 : D 3 = true := hid 4 3 (by decide +kernel) (by decide +kernel) d4
    have d0 : D 0 = true := hid 3 0 (by decide +kernel) (by decide +kernel) d3
    have d2 : D 2 = true := hid 3 2 (by decide +kernel) (by decide +kernel) d3
    have d1 : D 1 = true := hid 2 1 (by decide +kernel) (by decide +kernel) d2
    simp only [d4, d9, d10, d11, d3, d0, d2, d1, h0, cond_true, cond_false]
    refine Run.go rfl ?_
    refine Run.unagg 40 1 (40, 1) rfl rfl (by cases D 6 <;> cases D 7 <;> cases D 8 <;> rfl) ?_
    refine Run.le ?_ hK
    simp only [d4, d9, d10, d11, d3, d0, d2, d1, h0, Nat.reduceBEq, Bool.false_or, Bool.true_or, cond_true, cond_false]
    exact St.Le.mk' ⟨rfl, rfl, rfl, rfl, rfl, rfl, rfl, rfl, rfl, rfl, rfl, rfl, rfl, rfl, rfl, rfl, rfl, trivial⟩ ⟨rfl, rfl, rfl, rfl, rfl, rfl, rfl, trivial⟩
  · intro D hid h0 hp hs rest hK
    obtain ⟨d4, -⟩ : AllD D true [4] := ideal_sub hp (by decide +kernel)
    obtain ⟨d10, -⟩ : AllD D false [10] := ideal_sub hs (by decide +kernel)
    simp only [d4, d10, h0, cond_true, cond_false]
    refine Run.go rfl ?_
    refine Run.le ?_ hK
    simp only [d4, d10, h0, Nat.reduceBEq, Bool.false_or, Bool.true_or, cond_true, cond_false]
    exact St.Le.mk' ⟨rfl, rfl, rfl, rfl, rfl, rfl, rfl, rfl, rfl, rfl, rfl, rfl, rfl, rfl, rfl, rfl, rfl, trivial⟩ ⟨rfl, rfl, rfl, rfl, rfl, rfl, rfl, trivial⟩
  · intro D hid h0 hp hs rest hK
    obtain ⟨d4, -⟩ : AllD D true [4] := ideal_sub hp (by decide +kernel)
    obtain ⟨d11, -⟩ : AllD D false [11] := ideal_sub hs (by decide +kernel)
    simp only [d4, d11, h0, cond_true, cond_false]
    refine Run.go rfl ?_
    refine Run.le ?_ hK
    simp only [d4, d11, h0, Nat.reduceBEq, Bool.false_or, Bool.true_or, cond_true, cond_false]
    exact St.Le.mk' ⟨rfl, rfl, rfl, rfl, rfl, rfl, rfl, rfl, rfl, rfl, rfl, rfl, rfl, rfl, rfl, rfl, rfl, trivial⟩ ⟨rfl, rfl, rfl, rfl, rfl, rfl, rfl, trivial⟩
  · intro D hid h0 hp hs rest hK
    obtain ⟨d9, -⟩ : AllD D false [9] := ideal_sub hs (by decide +kernel)
    have d10 : D 10 = false := ideal_no (i := 10) (j := 9) hid (by decide +kernel) d9
    have d11 : D 11 = false := ideal_no (i := 11) (j := 10) hid (by decide +kernel) d10
    simp only [d9, d10, d11, h0, cond_true, cond_false]
    refine Run.alloc rfl rfl rfl rfl rfl rfl (by
      simp only [St.nrf, List.all_cons, List.all_nil, Bool.and_eq_true, Bool.and_true]
      repeat' apply And.intro
      all_goals (repeat' (first | rfl | refine nrf_bif ?_ ?_ | refine nrfO_bif ?_ ?_ | (cases D 5 <;> rfl)))) rfl ?_
    refine Run.le ?_ hK
    simp only [d9, d10, d11, h0, Nat.reduceBEq, Bool.false_or, Bool.true_or, cond_true, cond_false]
    exact St.Le.mk' ⟨rfl, rfl, rfl, rfl, rfl, rfl, rfl, rfl, rfl, rfl, rfl, rfl, rfl, rfl, rfl, rfl, rfl, trivial⟩ ⟨rfl, rfl, rfl, rfl, rfl, rfl, rfl, trivial⟩
  · intro D hid h0 hp hs rest hK
    obtain ⟨d5, d8, -⟩ : AllD D true [5, 8] := ideal_sub hp (by decide +kernel)
    obtain ⟨d10, -⟩ : AllD D false [10] := ideal_sub hs (by decide +kernel)
    simp only [d5, d8, d10, h0, cond_true, cond_false]
    refine Run.go rfl ?_
    refine Run.le ?_ hK
    simp only [d5, d8, d10, h0, Nat.reduceBEq, Bool.false_or, Bool.true_or, cond_true, cond_false]
    exact St.Le.mk' ⟨rfl, rfl, rfl, rfl, rfl, rfl, rfl, rfl, rfl, rfl, rfl, rfl, rfl, rfl, rfl, rfl, rfl, trivial⟩ ⟨rfl, rfl, rfl, rfl, rfl, rfl, rfl, trivial⟩
  · intro D hid h0 hp hs rest hK
    obtain ⟨d6, d9, -⟩ : AllD D true [6, 9] := ideal_sub hp (by decide +kernel)
    obtain ⟨d11, -⟩ : AllD D false [11] := ideal_sub hs (by decide +kernel)
    simp only [d6, d9, d11, h0, cond_true, cond_false]
    refine Run.go rfl ?_
    refine Run.le ?_ hK
    simp only [d6, d9, d11, h0, Nat.reduceBEq, Bool.false_or, Bool.true_or, cond_true, cond_false]
    exact St.Le.mk' ⟨rfl, rfl, rfl, rfl, rfl, rfl, rfl, rfl, rfl, rfl, rfl, rfl, rfl, rfl, rfl, rfl, rfl, trivial⟩ ⟨rfl, rfl, rfl, rfl, rfl, rfl, rfl, trivial⟩
  · intro D hid h0 hp hs rest hK
    obtain ⟨d7, d10, -⟩ : AllD D true [7, 10] := ideal_sub hp (by decide +kernel)
    simp only [d7, d10, h0, cond_true, cond_false]
    refine Run.go rfl ?_
    refine Run.le ?_ hK
    simp only [d7, d10, h0, Nat.reduceBEq, Bool.false_or, Bool.true_or, cond_true, cond_false]
    exact St.Le.mk' ⟨rfl, rfl, rfl, rfl, rfl, rfl, rfl, rfl, rfl, rfl, rfl, rfl, rfl, rfl, rfl, rfl, rfl, trivial⟩ ⟨rfl, rfl, rfl, rfl, rfl, rfl, rfl, trivial⟩
  repeat (refine Run.go rfl ?_)
  refine Run.cs rfl (eqDesk_ct Q Q false false false false hQ.1 hQ.2) (by rw [frzCQ, decide_eq_true rfl]; rfl) rfl ?_
  repeat (refine Run.go rfl ?_)
  refine Run.bool 47 rfl (fun h => by simp at h) (fun h => ?_)
  repeat (refine Run.go rfl ?_)
  refine Run.bool 52 rfl (fun h => by simp at h) (fun h => ?_)
  repeat (refine Run.go rfl ?_)
  refine Run.cond rfl (fun h => by simp at h) (fun h => ?_)
  repeat (refine Run.go rfl ?_)
  refine Run.drawn [[0, 1, 2, 3, 4], [1, 0, 2, 3, 4], [1, 2, 0, 3, 4]] ⟨[(2, .bp (2, 0) 0), (3, .bp (3, 0) 0), (6, .bp (6, 0) 0), (7, i64 m), (8, i64 c), (9, .bp (9, 0) 0), (10, .bp (10, 0) 0), (11, i64 m), (12, i64 c), (61, bo (!decide (r = r)))],
    [((2, 0), .box (dkR false false r).cells), ((3, 0), .box (acA b).cells), ((6, 0), .box (dkR false false Q).cells), ((9, 0), .box [i16 r.day, .vec (34, 1) 0 (r.cs.map cpO).length]), ((34, 1), .vec 5 true (r.cs.map cpO)), ((10, 0), .box [i16 Q.day, .vec (40, 1) 0 (Q.cs.map (cpQ false)).length]), ((40, 1), .vec 5 false (Q.cs.map (cpQ false)))]⟩ (by decide +kernel) (by kernel_rfl) ?_ fun _ hN => ⟨?_, ?_, ?_, trivial⟩
  rotate_left
  iterate 3
    · repeat (refine Run.go rfl ?_)
      refine Run.cs rfl (toDesk_ct r false false hc.1 hc.2) rfl (dkO_rf _) ?_
      repeat (refine Run.go rfl ?_)
      refine Run.cs rfl (eqDesk_ct r r true true true true hc.1 hc.2) (by rw [frzL_map cpO_frz, decide_eq_true rfl]; rfl) rfl ?_
      repeat (refine Run.go rfl ?_)
      exact Run.of hN ⟨rfl, rfl, rfl, rfl, rfl, rfl, rfl, rfl, rfl, rfl, trivial⟩ ⟨rfl, rfl, rfl, rfl, rfl, rfl, rfl, trivial⟩
  refine Run.cond rfl (fun h => by simp at h) (fun h => ?_)
  repeat (refine Run.go rfl ?_)
  refine Run.callo (34, 1) (some 1) rfl rfl rfl rfl rfl rfl rfl rfl rfl rfl (markDesk_ct r 1 hc.1 hc.2 (by omega) (by omega)) rfl (rfL_map cpO_rf _) rfl ?_
  repeat (refine Run.go rfl ?_)
  refine Run.bool 67 rfl (fun h => by simp at h; omega) (fun h => ?_)
  repeat (refine Run.go rfl ?_)
  refine Run.cs rfl (eqDesk_ct Q Q false false false false hQ.1 hQ.2) (by rw [frzCQ, decide_eq_true rfl]; rfl) rfl ?_
  repeat (refine Run.go rfl ?_)
  refine Run.bool 73 rfl (fun h => by simp at h) (fun h => ?_)
  repeat (refine Run.go rfl ?_)
  refine Run.bool 78 rfl (fun h => by simp at h) (fun h => ?_)
  repeat (refine Run.go rfl ?_)
  refine Run.cond rfl (fun h => by simp at h) (fun h => ?_)
  repeat (refine Run.go rfl ?_)
  refine Run.callo (40, 1) (some 1) rfl rfl rfl rfl rfl rfl rfl rfl rfl rfl (markDeskF_ct false false Q 1 hQ.1 hQ.2 (by omega) (by omega)) rfl (rfCQ _ _) rfl ?_
  repeat (refine Run.go rfl ?_)
  refine Run.cs rfl (heldDesk_ct Q 1 false false hQ.1 hQ.2 (by omega) (by omega)) (by rw [frzCQ, decide_eq_true (by simp [mkD, mkCs_len])]; rfl) rfl ?_
  repeat (refine Run.go rfl ?_)
  refine Run.cond rfl (fun h => by simp at h; omega) (fun h => ?_)
  repeat (refine Run.go rfl ?_)
  refine Run.cond rfl (fun h => by simp at h) (fun h => ?_)
  repeat (refine Run.go rfl ?_)
  refine Run.drawI (fun D => ⟨[(2, .bp (2, 0) 0), (3, .bp (3, 0) 0), (6, .bp (6, 0) 0), (7, i64 m), (8, i64 c), (10, .bp (10, 0) 0), (14, i64 (1 + ((cnt Q.cs : Nat) : Int))), (95, bif D 0 then dkR false false r else .top), (96, bif D 1 then dkO r else .top), (97, bif D 2 then acA b else .top), (98, bif D 3 then acA b else .top), (99, bif D 5 then .top else bif D 4 then .tup [dkQ false false Q, i64 m, i64 c] else .top), (94, bif D 5 then .tup [bif D 6 then .top else dkQ false false Q, i64 m, i64 c] else .top), (100, bif D 6 then dkR false false Q else .top), (101, bif D 7 then i64 m else .top), (102, bif D 8 then i64 c else .top), (16, bif D 9 then .bp (16, 0) 0 else .top), (17, bif D 11 then i64 m else .top), (18, bif D 12 then i64 c else .top)], [((2, 0), Ob.box (dkR false false r).cells), ((3, 0), Ob.box (acA b).cells), ((6, 0), Ob.box (dkR false false Q).cells), ((10, 0), Ob.box [i16 Q.day, .vec (40, 1) 0 (Q.cs.map (cpQ false)).length]), ((40, 1), Ob.vec 5 false ((mkCs Q.cs 1).map (cpQ false))), ((16, 0), (bif D 10 then Ob.box (dkR false false Q).cells else (bif D 9 then Ob.box [i16 0, .lit (.slice none 0 0)] else Ob.gone)))]⟩) (by decide +kernel) (by decide +kernel) ?_ ?_ fun k' => ⟨?_, ?_, ?_, ?_, ?_, ?_, ?_, ?_, ?_, ?_, ?_, ?_, ?_, trivial⟩
  · exact St.Le.mk' ⟨rfl, rfl, rfl, rfl, rfl, rfl, rfl, rfl, rfl, rfl, rfl, rfl, rfl, rfl, rfl, rfl, rfl, rfl, rfl, trivial⟩ ⟨rfl, rfl, rfl, rfl, rfl, rfl, trivial⟩
  rotate_left
  · intro D hid h0 hp hs rest hK
    obtain ⟨d1, -⟩ : AllD D false [1] := ideal_sub hs (by decide +kernel)
    simp only [d1, h0, cond_true, cond_false]
    refine Run.go rfl ?_
    refine Run.le ?_ hK
    simp only [d1, h0, Nat.reduceBEq, Bool.false_or, Bool.true_or, cond_true, cond_false]
    exact St.Le.mk' ⟨rfl, rfl, rfl, rfl, rfl, rfl, rfl, rfl, rfl, rfl, rfl, rfl, rfl, rfl, rfl, rfl, rfl, rfl, rfl, trivial⟩ ⟨rfl, rfl, rfl, rfl, rfl, rfl, trivial⟩
  · intro D hid h0 hp hs rest hK
    obtain ⟨d0, -⟩ : AllD D true [0] := ideal_sub hp (by decide +kernel)
    obtain ⟨d3, d4, -⟩ : AllD D false [3, 4] := ideal_sub hs (by decide +kernel)
    simp only [d0, d3, d4, h0, cond_true, cond_false]
    refine Run.cs rfl (toDesk_ct r false false hc.1 hc.2) rfl (dkO_rf _) ?_
    refine Run.le ?_ hK
    simp only [d0, d3, d4, h0, Nat.reduceBEq, Bool.false_or, Bool.true_or, cond_true, cond_false]
    exact St.Le.mk' ⟨rfl, rfl, rfl, rfl, rfl, rfl, rfl, rfl, rfl, rfl, rfl, rfl, rfl, rfl, rfl, rfl, rfl, rfl, rfl, trivial⟩ ⟨rfl, rfl, rfl, rfl, rfl, rfl, trivial⟩
  · intro D hid h0 hp hs rest hK
    obtain ⟨d3, -⟩ : AllD D false [3] := ideal_sub hs (by decide +kernel)
    simp only [d3, h0, cond_true, cond_false]
    refine Run.go rfl ?_
    refine Run.le ?_ hK
    simp only [d3, h0, Nat.reduceBEq, Bool.false_or, Bool.true_or, cond_true, cond_false]
    exact St.Le.mk' ⟨rfl, rfl, rfl, rfl, rfl, rfl, rfl, rfl, rfl, rfl, rfl, rfl, rfl, rfl, rfl, rfl, rfl, rfl, rfl, trivial⟩ ⟨rfl, rfl, rfl, rfl, rfl, rfl, trivial⟩
  · intro D hid h0 hp hs rest hK
    obtain ⟨d1, d2, -⟩ : AllD D true [1, 2] := ideal_sub hp (by decide +kernel)
    obtain ⟨d4, -⟩ : AllD D false [4] := ideal_sub hs (by decide +kernel)
    simp only [d1, d2, d4, h0, cond_true, cond_false]
    refine Run.cs rfl (toAct_ct b) rfl rfl ?_
    refine Run.le ?_ hK
    simp only [d1, d2, d4, h0, Nat.reduceBEq, Bool.false_or, Bool.true_or, cond_true, cond_false]
    exact St.Le.mk' ⟨rfl, rfl, rfl, rfl, rfl, rfl, rfl, rfl, rfl, rfl, rfl, rfl, rfl, rfl, rfl, rfl, rfl, rfl, rfl, trivial⟩ ⟨rfl, rfl, rfl, rfl, rfl, rfl, trivial⟩
  · intro D hid h0 hp hs rest hK
    obtain ⟨d1, d3, -⟩ : AllD D true [1, 3] := ideal_sub hp (by decide +kernel)
    obtain ⟨d5, -⟩ : AllD D false [5] := ideal_sub hs (by decide +kernel)
    simp only [d1, d3, d5, h0, cond_true, cond_false]
    refine Run.cs rfl hI (by rw [frzL_map cpO_frz]; rfl) (apA_rf _) ?_
    refine Run.le ?_ hK
    simp only [d1, d3, d5, h0, Nat.reduceBEq, Bool.false_or, Bool.true_or, cond_true, cond_false]
    exact St.Le.mk' ⟨rfl, rfl, rfl, rfl, rfl, rfl, rfl, rfl, rfl, rfl, rfl, rfl, rfl, rfl, rfl, rfl, rfl, rfl, rfl, trivial⟩ ⟨rfl, rfl, rfl, rfl, rfl, rfl, trivial⟩
  · intro D hid h0 hp hs rest hK
    obtain ⟨d4, -⟩ : AllD D true [4] := ideal_sub hp (by decide +kernel)
    obtain ⟨d6, d7, d8, -⟩ : AllD D false [6, 7, 8] := ideal_sub hs (by decide +kernel)
    simp only [d4, d6, d7, d8, h0, cond_true, cond_false]
    refine Run.go rfl ?_
    refine Run.le ?_ hK
    simp only [d4, d6, d7, d8, h0, Nat.reduceBEq, Bool.false_or, Bool.true_or, cond_true, cond_false]
    exact St.Le.mk' ⟨rfl, rfl, rfl, rfl, rfl, rfl, rfl, rfl, rfl, rfl, rfl, rfl, rfl, rfl, rfl, rfl, rfl, rfl, rfl, trivial⟩ ⟨rfl, rfl, rfl, rfl, rfl, rfl, trivial⟩
  · intro D hid h0 hp hs rest hK
    obtain ⟨d5, -⟩ : AllD D true [5] := ideal_sub hp (by decide +kernel)
    obtain ⟨d10, -⟩ : AllD D false [10] := ideal_sub hs (by decide +kernel)
    simp only [d5, d10, h0, cond_true, cond_false]
    refine Run.go rfl ?_
    refine Run.freeze (v' := dkR false false Q) 100 rfl rfl (dkQ_frz _ _ _) ?_
    refine Run.le ?_ hK
    simp only [d5, d10, h0, Nat.reduceBEq, Bool.false_or, Bool.true_or, cond_true, cond_false]
    exact St.Le.mk' ⟨rfl, rfl, rfl, rfl, rfl, rfl, rfl, rfl, rfl, rfl, rfl, rfl, rfl, rfl, rfl, rfl, rfl, rfl, rfl, trivial⟩ ⟨rfl, rfl, rfl, rfl, rfl, rfl, trivial⟩
  · intro D hid h0 hp hs rest hK
    obtain ⟨d5, -⟩ : AllD D true [5] := ideal_sub hp (by decide +kernel)
    obtain ⟨d11, -⟩ : AllD D false [11] := ideal_sub hs (by decide +kernel)
    simp only [d5, d11, h0, cond_true, cond_false]
    refine Run.go rfl ?_
    refine Run.le ?_ hK
    simp only [d5, d11, h0, Nat.reduceBEq, Bool.false_or, Bool.true_or, cond_true, cond_false]
    exact St.Le.mk' ⟨rfl, rfl, rfl, rfl, rfl, rfl, rfl, rfl, rfl, rfl, rfl, rfl, rfl, rfl, rfl, rfl, rfl, rfl, rfl, trivial⟩ ⟨rfl, rfl, rfl, rfl, rfl, rfl, trivial⟩
  · intro D hid h0 hp hs rest hK
    obtain ⟨d5, -⟩ : AllD D true [5] := ideal_sub hp (by decide +kernel)
    obtain ⟨d12, -⟩ : AllD D false [12] := ideal_sub hs (by decide +kernel)
    simp only [d5, d12, h0, cond_true, cond_false]
    refine Run.go rfl ?_
    refine Run.le ?_ hK
    simp only [d5, d12, h0, Nat.reduceBEq, Bool.false_or, Bool.true_or, cond_true, cond_false]
    exact St.Le.mk' ⟨rfl, rfl, rfl, rfl, rfl, rfl, rfl, rfl, rfl, rfl, rfl, rfl, rfl, rfl, rfl, rfl, rfl, rfl, rfl, trivial⟩ ⟨rfl, rfl, rfl, rfl, rfl, rfl, trivial⟩
  · intro D hid h0 hp hs rest hK
    obtain ⟨d10, -⟩ : AllD D false [10] := ideal_sub hs (by decide +kernel)
    have d11 : D 11 = false := ideal_no (i := 11) (j := 10) hid (by decide +kernel) d10
    have d12 : D 12 = false := ideal_no (i := 12) (j := 11) hid (by decide +kernel) d11
    simp only [d10, d11, d12, h0, cond_true, cond_false]
    refine Run.alloc rfl rfl rfl rfl rfl rfl (by
      simp only [St.nrf, List.all_cons, List.all_nil, Bool.and_eq_true, Bool.and_true]
      repeat' apply And.intro
      all_goals (repeat' (first | rfl | refine nrf_bif ?_ ?_ | refine nrfO_bif ?_ ?_ | (cases D 6 <;> rfl)))) rfl ?_
    refine Run.le ?_ hK
    simp only [d10, d11, d12, h0, Nat.reduceBEq, Bool.false_or, Bool.true_or, cond_true, cond_false]
    exact St.Le.mk' ⟨rfl, rfl, rfl, rfl, rfl, rfl, rfl, rfl, rfl, rfl, rfl, rfl, rfl, rfl, rfl, rfl, rfl, rfl, rfl, trivial⟩ ⟨rfl, rfl, rfl, rfl, rfl, rfl, trivial⟩
  · intro D hid h0 hp hs rest hK
    obtain ⟨d6, d9, -⟩ : AllD D true [6, 9] := ideal_sub hp (by decide +kernel)
    obtain ⟨d11, -⟩ : AllD D false [11] := ideal_sub hs (by decide +kernel)
    simp only [d6, d9, d11, h0, cond_true, cond_false]
    refine Run.go rfl ?_
    refine Run.le ?_ hK
    simp only [d6, d9, d11, h0, Nat.reduceBEq, Bool.false_or, Bool.true_or, cond_true, cond_false]
    exact St.Le.mk' ⟨rfl, rfl, rfl, rfl, rfl, rfl, rfl, rfl, rfl, rfl, rfl, rfl, rfl, rfl, rfl, rfl, rfl, rfl, rfl, trivial⟩ ⟨rfl, rfl, rfl, rfl, rfl, rfl, trivial⟩
  · intro D hid h0 hp hs rest hK
    obtain ⟨d7, d10, -⟩ : AllD D true [7, 10] := ideal_sub hp (by decide +kernel)
    obtain ⟨d12, -⟩ : AllD D false [12] := ideal_sub hs (by decide +kernel)
    simp only [d7, d10, d12, h0, cond_true, cond_false]
    refine Run.go rfl ?_
    refine Run.le ?_ hK
    simp only [d7, d10, d12, h0, Nat.reduceBEq, Bool.false_or, Bool.true_or, cond_true, cond_false]
    exact St.Le.mk' ⟨rfl, rfl, rfl, rfl, rfl, rfl, rfl, rfl, rfl, rfl, rfl, rfl, rfl, rfl, rfl, rfl, rfl, rfl, rfl, trivial⟩ ⟨rfl, rfl, rfl, rfl, rfl, rfl, trivial⟩
  · intro D hid h0 hp hs rest hK
    obtain ⟨d8, d11, -⟩ : AllD D true [8, 11] := ideal_sub hp (by decide +kernel)
    simp only [d8, d11, h0, cond_true, cond_false]
    refine Run.go rfl ?_
    refine Run.le ?_ hK
    simp only [d8, d11, h0, Nat.reduceBEq, Bool.false_or, Bool.true_or, cond_true, cond_false]
    exact St.Le.mk' ⟨rfl, rfl, rfl, rfl, rfl, rfl, rfl, rfl, rfl, rfl, rfl, rfl, rfl, rfl, rfl, rfl, rfl, rfl, rfl, trivial⟩ ⟨rfl, rfl, rfl, rfl, rfl, rfl, trivial⟩
  repeat (refine Run.go rfl ?_)
  refine Run.cs rfl (eqDesk_ct Q Q false false false false hQ.1 hQ.2) rfl rfl ?_
  repeat (refine Run.go rfl ?_)
  refine Run.bool 107 rfl (fun h => by simp at h) (fun h => ?_)
  repeat (refine Run.go rfl ?_)
  refine Run.bool 112 rfl (fun h => by simp at h) (fun h => ?_)
  repeat (refine Run.go rfl ?_)
  refine Run.cond rfl (fun h => by simp at h) (fun h => ?_)
  repeat (refine Run.go rfl ?_)
  refine Run.cs rfl (heldDesk_ct Q 1 false false hQ.1 hQ.2 (by omega) (by omega)) (by rw [frzCQ, decide_eq_true (by simp [mkD, mkCs_len])]; rfl) rfl ?_
  repeat (refine Run.go rfl ?_)
  refine Run.cond rfl (fun h => by simp at h; omega) (fun h => ?_)
  repeat (refine Run.go rfl ?_)
  refine Run.cond rfl (fun h => by simp at h) (fun h => ?_)
  repeat (refine Run.go rfl ?_)
  exact Run.ret hg rfl rfl
end Go.Proofs.Ytgbiboepnibibaa
