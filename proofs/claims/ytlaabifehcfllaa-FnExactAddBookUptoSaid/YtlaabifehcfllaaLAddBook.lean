/- Contracts of the program's functions, and what follows from them. -/
import Derived.Test.YtlaabifehcfllaaLAddAll
set_option linter.unusedVariables false
set_option maxRecDepth 100000
set_option linter.unusedSimpArgs false
namespace Go.Proofs.Ytlaabifehcfllaa
open Go Go.Av

theorem nrf_bif {id : Av.Id} {b : Bool} {x y : AV} (hx : x.nrf id = true) (hy : y.nrf id = true) : (bif b then x else y).nrf id = true := by cases b <;> assumption
theorem nrfO_bif {id : Av.Id} {b : Bool} {x y : Ob} (hx : x.nrf id = true) (hy : y.nrf id = true) : (bif b then x else y).nrf id = true := by cases b <;> assumption

noncomputable def X7 : Fx := ⟨Try.prog, tys, 7, Try.f7, [0, 1]⟩
theorem X7_ok : X7.Ok := ⟨Try.func7, tys_ok⟩
theorem lawAddBook_ct (r : Rk) (b : Bk) (hr : rkOk r) (hb : bkRng b) : Ct Try.prog 7 [rkR false r, bkA b] (bo true) [] := by
  have hS := specAddBook_ct r true b hr hb
  have hI := implAddBook_ct r true b hr hb
  have hl := hr.1.2
  have hL : (if vB b = true then aaRes r [b] else (rk0, 0, 1)).1.bs.length ≤ 1048576 := by
    split
    · exact Nat.le_trans (aaRes_len r [b] hr) (by omega)
    · simp [rk0]
  generalize (if vB b = true then aaRes r [b] else (rk0, 0, 1)) = R at hS hI hL
  obtain ⟨Q, m, c⟩ := R
  simp only at hL
  refine Ct.intro X7 X7_ok rfl (by kernel_rfl) rfl rfl fun g hg => ?_
  repeat (refine Run.go rfl ?_)
  refine Run.cs rfl (szRack_ct r false 1048576 (by omega) (by omega) hl) rfl rfl ?_
  repeat (refine Run.go rfl ?_)
  refine Run.cond rfl (fun h => ?_) (fun hsz => ?_)
  · repeat (refine Run.go rfl ?_)
    exact Run.ret hg rfl rfl
  repeat (refine Run.go rfl ?_)
  refine Run.drawI (fun D => ⟨[(2, .bp (2, 0) 0), (3, .bp (3, 0) 0), (25, bif D 0 then rkR false r else .top), (26, bif D 1 then rkO true r else .top), (27, bif D 2 then bkA b else .top), (28, bif D 3 then bkA b else .top), (29, bif D 5 then .top else bif D 4 then .tup [rkO false Q, i64 (m : Nat), i64 c] else .top), (24, bif D 5 then .tup [bif D 6 then .top else rkO false Q, i64 (m : Nat), i64 c] else .top), (30, bif D 6 then rkR false Q else .top), (31, bif D 7 then i64 (m : Nat) else .top), (32, bif D 8 then i64 c else .top), (6, bif D 9 then .bp (6, 0) 0 else .top), (7, bif D 11 then i64 (m : Nat) else .top), (8, bif D 12 then i64 c else .top)], [((2, 0), Ob.box (rkR false r).cells), ((3, 0), Ob.box (bkA b).cells), ((6, 0), (bif D 10 then Ob.box (rkR false Q).cells else (bif D 9 then Ob.box [i16 0, .lit (.slice none 0 0)] else Ob.gone)))]⟩) (by decide +kernel) (by decide +kernel) ?_ ?_ fun k' => ⟨?_, ?_, ?_, ?_, ?_, ?_, ?_, ?_, ?_, ?_, ?_, ?_, ?_, trivial⟩
  · exact St.Le.mk' ⟨rfl, rfl, rfl, rfl, rfl, rfl, rfl, rfl, rfl, rfl, rfl, rfl, rfl, rfl, trivial⟩ ⟨rfl, rfl, rfl, trivial⟩
  rotate_left
  · intro D hid h0 hp hs rest hK
    obtain ⟨d1, -⟩ : AllD D false [1] := ideal_sub hs (by decide +kernel)
    simp only [d1, h0, cond_true, cond_false]
    refine Run.go rfl ?_
    refine Run.le ?_ hK
    simp only [d1, h0, Nat.reduceBEq, Bool.false_or, Bool.true_or, cond_true, cond_false]
    exact St.Le.mk' ⟨rfl, rfl, rfl, rfl, rfl, rfl, rfl, rfl, rfl, rfl, rfl, rfl, rfl, rfl, trivial⟩ ⟨rfl, rfl, rfl, trivial⟩
  · intro D hid h0 hp hs rest hK
    obtain ⟨d0, -⟩ : AllD D true [0] := ideal_sub hp (by decide +kernel)
    obtain ⟨d3, d4, -⟩ : AllD D false [3, 4] := ideal_sub hs (by decide +kernel)
    simp only [d0, d3, d4, h0, cond_true, cond_false]
    refine Run.cs rfl (toRack_ct r false hl) rfl (rk_rf _ _) ?_
    refine Run.le ?_ hK
    simp only [d0, d3, d4, h0, Nat.reduceBEq, Bool.false_or, Bool.true_or, cond_true, cond_false]
    exact St.Le.mk' ⟨rfl, rfl, rfl, rfl, rfl, rfl, rfl, rfl, rfl, rfl, rfl, rfl, rfl, rfl, trivial⟩ ⟨rfl, rfl, rfl, trivial⟩
  · intro D hid h0 hp hs rest hK
    obtain ⟨d3, -⟩ : AllD D false [3] := ideal_sub hs (by decide +kernel)
    simp only [d3, h0, cond_true, cond_false]
    refine Run.go rfl ?_
    refine Run.le ?_ hK
    simp only [d3, h0, Nat.reduceBEq, Bool.false_or, Bool.true_or, cond_true, cond_false]
    exact St.Le.mk' ⟨rfl, rfl, rfl, rfl, rfl, rfl, rfl, rfl, rfl, rfl, rfl, rfl, rfl, rfl, trivial⟩ ⟨rfl, rfl, rfl, trivial⟩
  · intro D hid h0 hp hs rest hK
    obtain ⟨d1, d2, -⟩ : AllD D true [1, 2] := ideal_sub hp (by decide +kernel)
    obtain ⟨d4, -⟩ : AllD D false [4] := ideal_sub hs (by decide +kernel)
    simp only [d1, d2, d4, h0, cond_true, cond_false]
    refine Run.cs rfl (toBook_ct b) rfl rfl ?_
    refine Run.le ?_ hK
    simp only [d1, d2, d4, h0, Nat.reduceBEq, Bool.false_or, Bool.true_or, cond_true, cond_false]
    exact St.Le.mk' ⟨rfl, rfl, rfl, rfl, rfl, rfl, rfl, rfl, rfl, rfl, rfl, rfl, rfl, rfl, trivial⟩ ⟨rfl, rfl, rfl, trivial⟩
  · intro D hid h0 hp hs rest hK
    obtain ⟨d1, d3, -⟩ : AllD D true [1, 3] := ideal_sub hp (by decide +kernel)
    obtain ⟨d5, -⟩ : AllD D false [5] := ideal_sub hs (by decide +kernel)
    simp only [d1, d3, d5, h0, cond_true, cond_false]
    refine Run.cs rfl hS (by rw [frzP]; rfl) (aaA_rf _) ?_
    refine Run.le ?_ hK
    simp only [d1, d3, d5, h0, Nat.reduceBEq, Bool.false_or, Bool.true_or, cond_true, cond_false]
    exact St.Le.mk' ⟨rfl, rfl, rfl, rfl, rfl, rfl, rfl, rfl, rfl, rfl, rfl, rfl, rfl, rfl, trivial⟩ ⟨rfl, rfl, rfl, trivial⟩
  · intro D hid h0 hp hs rest hK
    obtain ⟨d4, -⟩ : AllD D true [4] := ideal_sub hp (by decide +kernel)
    obtain ⟨d6, d7, d8, -⟩ : AllD D false [6, 7, 8] := ideal_sub hs (by decide +kernel)
    simp only [d4, d6, d7, d8, h0, cond_true, cond_false]
    refine Run.go rfl ?_
    refine Run.le ?_ hK
    simp only [d4, d6, d7, d8, h0, Nat.reduceBEq, Bool.false_or, Bool.true_or, cond_true, cond_false]
    exact St.Le.mk' ⟨rfl, rfl, rfl, rfl, rfl, rfl, rfl, rfl, rfl, rfl, rfl, rfl, rfl, rfl, trivial⟩ ⟨rfl, rfl, rfl, trivial⟩
  · intro D hid h0 hp hs rest hK
    obtain ⟨d5, -⟩ : AllD D true [5] := ideal_sub hp (by decide +kernel)
    obtain ⟨d10, -⟩ : AllD D false [10] := ideal_sub hs (by decide +kernel)
    simp only [d5, d10, h0, cond_true, cond_false]
    refine Run.go rfl ?_
    refine Run.freeze (v' := rkR false Q) 30 rfl rfl (rk_frz _ _) ?_
    refine Run.le ?_ hK
    simp only [d5, d10, h0, Nat.reduceBEq, Bool.false_or, Bool.true_or, cond_true, cond_false]
    exact St.Le.mk' ⟨rfl, rfl, rfl, rfl, rfl, rfl, rfl, rfl, rfl, rfl, rfl, rfl, rfl, rfl, trivial⟩ ⟨rfl, rfl, rfl, trivial⟩
  · intro D hid h0 hp hs rest hK
    obtain ⟨d5, -⟩ : AllD D true [5] := ideal_sub hp (by decide +kernel)
    obtain ⟨d11, -⟩ : AllD D false [11] := ideal_sub hs (by decide +kernel)
    simp only [d5, d11, h0, cond_true, cond_false]
    refine Run.go rfl ?_
    refine Run.le ?_ hK
    simp only [d5, d11, h0, Nat.reduceBEq, Bool.false_or, Bool.true_or, cond_true, cond_false]
    exact St.Le.mk' ⟨rfl, rfl, rfl, rfl, rfl, rfl, rfl, rfl, rfl, rfl, rfl, rfl, rfl, rfl, trivial⟩ ⟨rfl, rfl, rfl, trivial⟩
  · intro D hid h0 hp hs rest hK
    obtain ⟨d5, -⟩ : AllD D true [5] := ideal_sub hp (by decide +kernel)
    obtain ⟨d12, -⟩ : AllD D false [12] := ideal_sub hs (by decide +kernel)
    simp only [d5, d12, h0, cond_true, cond_false]
    refine Run.go rfl ?_
    refine Run.le ?_ hK
    simp only [d5, d12, h0, Nat.reduceBEq, Bool.false_or, Bool.true_or, cond_true, cond_false]
    exact St.Le.mk' ⟨rfl, rfl, rfl, rfl, rfl, rfl, rfl, rfl, rfl, rfl, rfl, rfl, rfl, rfl, trivial⟩ ⟨rfl, rfl, rfl, trivial⟩
  · intro D hid h0 hp hs rest hK
    obtain ⟨d10, -⟩ : AllD D false [10] := ideal_sub hs (by decide +kernel)
    have d11 : D 11 = false := ideal_no (i := 11) (j := 10) hid (by decide +kernel) d10
    have d12 : D 12 = false := ideal_no (i := 12) (j := 11) hid (by decide +kernel) d11
    simp only [d10, d11, d12, h0, cond_true, cond_false]
    refine Run.alloc rfl rfl rfl rfl rfl rfl (by
      simp only [St.nrf, List.all_cons, List.all_nil, Bool.and_eq_true, Bool.and_true]
      repeat' apply And.intro
      all_goals (repeat' (first | rfl | refine nrf_bif ?_ ?_ | refine nrfO_bif ?_ ?_ | (cases D 6 <;> rfl)))) rfl ?_
    refine Run.le ?_ hK
    simp only [d10, d11, d12, h0, Nat.reduceBEq, Bool.false_or, Bool.true_or, cond_true, cond_false]
    exact St.Le.mk' ⟨rfl, rfl, rfl, rfl, rfl, rfl, rfl, rfl, rfl, rfl, rfl, rfl, rfl, rfl, trivial⟩ ⟨rfl, rfl, rfl, trivial⟩
  · intro D hid h0 hp hs rest hK
    obtain ⟨d6, d9, -⟩ : AllD D true [6, 9] := ideal_sub hp (by decide +kernel)
    obtain ⟨d11, -⟩ : AllD D false [11] := ideal_sub hs (by decide +kernel)
    simp only [d6, d9, d11, h0, cond_true, cond_false]
    refine Run.go rfl ?_
    refine Run.le ?_ hK
    simp only [d6, d9, d11, h0, Nat.reduceBEq, Bool.false_or, Bool.true_or, cond_true, cond_false]
    exact St.Le.mk' ⟨rfl, rfl, rfl, rfl, rfl, rfl, rfl, rfl, rfl, rfl, rfl, rfl, rfl, rfl, trivial⟩ ⟨rfl, rfl, rfl, trivial⟩
  · intro D hid h0 hp hs rest hK
    obtain ⟨d7, d10, -⟩ : AllD D true [7, 10] := ideal_sub hp (by decide +kernel)
    obtain ⟨d12, -⟩ : AllD D false [12] := ideal_sub hs (by decide +kernel)
    simp only [d7, d10, d12, h0, cond_true, cond_false]
    refine Run.go rfl ?_
    refine Run.le ?_ hK
    simp only [d7, d10, d12, h0, Nat.reduceBEq, Bool.false_or, Bool.true_or, cond_true, cond_false]
    exact St.Le.mk' ⟨rfl, rfl, rfl, rfl, rfl, rfl, rfl, rfl, rfl, rfl, rfl, rfl, rfl, rfl, trivial⟩ ⟨rfl, rfl, rfl, trivial⟩
  · intro D hid h0 hp hs rest hK
    obtain ⟨d8, d11, -⟩ : AllD D true [8, 11] := ideal_sub hp (by decide +kernel)
    simp only [d8, d11, h0, cond_true, cond_false]
    refine Run.go rfl ?_
    refine Run.le ?_ hK
    simp only [d8, d11, h0, Nat.reduceBEq, Bool.false_or, Bool.true_or, cond_true, cond_false]
    exact St.Le.mk' ⟨rfl, rfl, rfl, rfl, rfl, rfl, rfl, rfl, rfl, rfl, rfl, rfl, rfl, rfl, trivial⟩ ⟨rfl, rfl, rfl, trivial⟩
  repeat (refine Run.go rfl ?_)
  refine Run.cs rfl (toRack_ct r false hl) rfl (rk_rf _ _) ?_
  refine Run.unagg 34 1 (34, 1) rfl rfl rfl ?_
  repeat (refine Run.go rfl ?_)
  refine Run.drawI (fun D => ⟨[(2, .bp (2, 0) 0), (3, .bp (3, 0) 0), (6, .bp (6, 0) 0), (7, i64 (m : Nat)), (8, i64 c), (9, .bp (9, 0) 0), (36, bif D 0 then .agg [i16 r.pl, .vec (34, 1) 0 (r.bs.map plA).length] else .top), (37, bif D 1 then bkA b else .top), (38, bif D 2 then bkA b else .top), (39, bif D 4 then .top else bif D 3 then .tup [rkO false Q, i64 (m : Nat), i64 c] else .top), (35, bif D 4 then .tup [bif D 5 then .top else rkO false Q, i64 (m : Nat), i64 c] else .top), (40, bif D 5 then .agg [i16 Q.pl, .vec (40, 1) 0 (Q.bs.map plA).length] else .top), (41, bif D 6 then i64 (m : Nat) else .top), (42, bif D 7 then i64 c else .top), (10, bif D 8 then .bp (10, 0) 0 else .top), (11, bif D 10 then i64 (m : Nat) else .top), (12, bif D 11 then i64 c else .top)], [((2, 0), Ob.box (rkR false r).cells), ((3, 0), Ob.box (bkA b).cells), ((6, 0), Ob.box (rkR false Q).cells), ((9, 0), Ob.box [i16 r.pl, .vec (34, 1) 0 (r.bs.map plA).length]), ((34, 1), Ob.vec 9 true (r.bs.map plA)), ((10, 0), (bif D 9 then Ob.box [i16 Q.pl, .vec (40, 1) 0 (Q.bs.map plA).length] else (bif D 8 then Ob.box [i16 0, .lit (.slice none 0 0)] else Ob.gone))), ((40, 1), (bif D 5 then Ob.vec 9 false (Q.bs.map plA) else Ob.gone))]⟩) (by decide +kernel) (by decide +kernel) ?_ ?_ fun k' => ⟨?_, ?_, ?_, ?_, ?_, ?_, ?_, ?_, ?_, ?_, ?_, ?_, trivial⟩
  · exact St.Le.mk' ⟨rfl, rfl, rfl, rfl, rfl, rfl, rfl, rfl, rfl, rfl, rfl, rfl, rfl, rfl, rfl, rfl, rfl, trivial⟩ ⟨rfl, rfl, rfl, rfl, rfl, rfl, rfl, trivial⟩
  rotate_left
  · intro D hid h0 hp hs rest hK
    obtain ⟨d3, -⟩ : AllD D false [3] := ideal_sub hs (by decide +kernel)
    simp only [d3, h0, cond_true, cond_false]
    refine Run.go rfl ?_
    refine Run.le ?_ hK
    simp only [d3, h0, Nat.reduceBEq, Bool.false_or, Bool.true_or, cond_true, cond_false]
    exact St.Le.mk' ⟨rfl, rfl, rfl, rfl, rfl, rfl, rfl, rfl, rfl, rfl, rfl, rfl, rfl, rfl, rfl, rfl, rfl, trivial⟩ ⟨rfl, rfl, rfl, rfl, rfl, rfl, rfl, trivial⟩
  · intro D hid h0 hp hs rest hK
    obtain ⟨d2, -⟩ : AllD D false [2] := ideal_sub hs (by decide +kernel)
    simp only [d2, h0, cond_true, cond_false]
    refine Run.go rfl ?_
    refine Run.le ?_ hK
    simp only [d2, h0, Nat.reduceBEq, Bool.false_or, Bool.true_or, cond_true, cond_false]
    exact St.Le.mk' ⟨rfl, rfl, rfl, rfl, rfl, rfl, rfl, rfl, rfl, rfl, rfl, rfl, rfl, rfl, rfl, rfl, rfl, trivial⟩ ⟨rfl, rfl, rfl, rfl, rfl, rfl, rfl, trivial⟩
  · intro D hid h0 hp hs rest hK
    obtain ⟨d1, -⟩ : AllD D true [1] := ideal_sub hp (by decide +kernel)
    obtain ⟨d3, -⟩ : AllD D false [3] := ideal_sub hs (by decide +kernel)
    simp only [d1, d3, h0, cond_true, cond_false]
    refine Run.cs rfl (toBook_ct b) rfl rfl ?_
    refine Run.le ?_ hK
    simp only [d1, d3, h0, Nat.reduceBEq, Bool.false_or, Bool.true_or, cond_true, cond_false]
    exact St.Le.mk' ⟨rfl, rfl, rfl, rfl, rfl, rfl, rfl, rfl, rfl, rfl, rfl, rfl, rfl, rfl, rfl, rfl, rfl, trivial⟩ ⟨rfl, rfl, rfl, rfl, rfl, rfl, rfl, trivial⟩
  · intro D hid h0 hp hs rest hK
    obtain ⟨d0, d2, -⟩ : AllD D true [0, 2] := ideal_sub hp (by decide +kernel)
    obtain ⟨d4, -⟩ : AllD D false [4] := ideal_sub hs (by decide +kernel)
    simp only [d0, d2, d4, h0, cond_true, cond_false]
    refine Run.cs rfl hI (by rw [frzP, decide_eq_true rfl]; rfl) (aaA_rf _) ?_
    refine Run.le ?_ hK
    simp only [d0, d2, d4, h0, Nat.reduceBEq, Bool.false_or, Bool.true_or, cond_true, cond_false]
    exact St.Le.mk' ⟨rfl, rfl, rfl, rfl, rfl, rfl, rfl, rfl, rfl, rfl, rfl, rfl, rfl, rfl, rfl, rfl, rfl, trivial⟩ ⟨rfl, rfl, rfl, rfl, rfl, rfl, rfl, trivial⟩
  · intro D hid h0 hp hs rest hK
    obtain ⟨d3, -⟩ : AllD D true [3] := ideal_sub hp (by decide +kernel)
    obtain ⟨d5, d6, d7, -⟩ : AllD D false [5, 6, 7] := ideal_sub hs (by decide +kernel)
    simp only [d3, d5, d6, d7, h0, cond_true, cond_false]
    refine Run.go rfl ?_
    refine Run.le ?_ hK
    simp only [d3, d5, d6, d7, h0, Nat.reduceBEq, Bool.false_or, Bool.true_or, cond_true, cond_false]
    exact St.Le.mk' ⟨rfl, rfl, rfl, rfl, rfl, rfl, rfl, rfl, rfl, rfl, rfl, rfl, rfl, rfl, rfl, rfl, rfl, trivial⟩ ⟨rfl, rfl, rfl, rfl, rfl, rfl, rfl, trivial⟩
  · intro D hid h0 hp hs rest hK
    obtain ⟨d4, -⟩ : AllD D true [4] := ideal_sub hp (by decide +kernel)
    obtain ⟨d9, -⟩ : AllD D false [9] := ideal_sub hs (by decide +kernel)
    have d10 : D 10 = false := ideal_no (i := 10) (j := 9) hid (by decide +kernel) d9
    have d11 : D 11 = false := ideal_no (i := 11) (j := 10) hid (by decide +kernel) d10
    have d3 : D 3 = true := hid 4 3 (by decide +kernel) (by decide +kernel) d4
    have d0 : D 0 = true := hid 3 0 (by decide +kernel) (by decide +kernel) d3
    have d2 : D 2 = true := hid 3 2 (by decide +kernel) (by decide +kernel) d3
    have d1 : D 1 = true := hid 2 1 (by decide +kernel) (by decide +kernel) d2
    simp only [d4, d9, d10, d11, d3, d0, d2, d1, h0, cond_true, cond_false]
    refine Run.go rfl ?_
    refine Run.unagg 40 1 (40, 1) rfl rfl (by cases D 6 <;> cases D 7 <;> cases D 8 <;> rfl) ?_
    refine Run.le ?_ hK
    simp only [d4, d9, d10, d11, d3, d0, d2, d1, h0, Nat.reduceBEq, Bool.false_or, Bool.true_or, cond_true, cond_false]
    exact St.Le.mk' ⟨rfl, rfl, rfl, rfl, rfl, rfl, rfl, rfl, rfl, rfl, rfl, rfl, rfl, rfl, rfl, rfl, rfl, trivial⟩ ⟨rfl, rfl, rfl, rfl, rfl, rfl, rfl, trivial⟩
  · intro D hid h0 hp hs rest hK
    obtain ⟨d4, -⟩ : AllD D true [4] := ideal_sub hp (by decide +kernel)
    obtain ⟨d10, -⟩ : AllD D false [10] := ideal_sub hs (by decide +kernel)
    simp only [d4, d10, h0, cond_true, cond_false]
    refine Run.go rfl ?_
    refine Run.le ?_ hK
    simp only [d4, d10, h0, Nat.reduceBEq, Bool.false_or, Bool.true_or, cond_true, cond_false]
    exact St.Le.mk' ⟨rfl, rfl, rfl, rfl, rfl, rfl, rfl, rfl, rfl, rfl, rfl, rfl, rfl, rfl, rfl, rfl, rfl, trivial⟩ ⟨rfl, rfl, rfl, rfl, rfl, rfl, rfl, trivial⟩
  · intro D hid h0 hp hs rest hK
    obtain ⟨d4, -⟩ : AllD D true [4] := ideal_sub hp (by decide +kernel)
    obtain ⟨d11, -⟩ : AllD D false [11] := ideal_sub hs (by decide +kernel)
    simp only [d4, d11, h0, cond_true, cond_false]
    refine Run.go rfl ?_
    refine Run.le ?_ hK
    simp only [d4, d11, h0, Nat.reduceBEq, Bool.false_or, Bool.true_or, cond_true, cond_false]
    exact St.Le.mk' ⟨rfl, rfl, rfl, rfl, rfl, rfl, rfl, rfl, rfl, rfl, rfl, rfl, rfl, rfl, rfl, rfl, rfl, trivial⟩ ⟨rfl, rfl, rfl, rfl, rfl, rfl, rfl, trivial⟩
  · intro D hid h0 hp hs rest hK
    obtain ⟨d9, -⟩ : AllD D false [9] := ideal_sub hs (by decide +kernel)
    have d10 : D 10 = false := ideal_no (i := 10) (j := 9) hid (by decide +kernel) d9
    have d11 : D 11 = false := ideal_no (i := 11) (j := 10) hid (by decide +kernel) d10
    simp only [d9, d10, d11, h0, cond_true, cond_false]
    refine Run.alloc rfl rfl rfl rfl rfl rfl (by
      simp only [St.nrf, List.all_cons, List.all_nil, Bool.and_eq_true, Bool.and_true]
      repeat' apply And.intro
      all_goals (repeat' (first | rfl | refine nrf_bif ?_ ?_ | refine nrfO_bif ?_ ?_ | (cases D 5 <;> rfl)))) rfl ?_
    refine Run.le ?_ hK
    simp only [d9, d10, d11, h0, Nat.reduceBEq, Bool.false_or, Bool.true_or, cond_true, cond_false]
    exact St.Le.mk' ⟨rfl, rfl, rfl, rfl, rfl, rfl, rfl, rfl, rfl, rfl, rfl, rfl, rfl, rfl, rfl, rfl, rfl, trivial⟩ ⟨rfl, rfl, rfl, rfl, rfl, rfl, rfl, trivial⟩
  · intro D hid h0 hp hs rest hK
    obtain ⟨d5, d8, -⟩ : AllD D true [5, 8] := ideal_sub hp (by decide +kernel)
    obtain ⟨d10, -⟩ : AllD D false [10] := ideal_sub hs (by decide +kernel)
    simp only [d5, d8, d10, h0, cond_true, cond_false]
    refine Run.go rfl ?_
    refine Run.le ?_ hK
    simp only [d5, d8, d10, h0, Nat.reduceBEq, Bool.false_or, Bool.true_or, cond_true, cond_false]
    exact St.Le.mk' ⟨rfl, rfl, rfl, rfl, rfl, rfl, rfl, rfl, rfl, rfl, rfl, rfl, rfl, rfl, rfl, rfl, rfl, trivial⟩ ⟨rfl, rfl, rfl, rfl, rfl, rfl, rfl, trivial⟩
  · intro D hid h0 hp hs rest hK
    obtain ⟨d6, d9, -⟩ : AllD D true [6, 9] := ideal_sub hp (by decide +kernel)
    obtain ⟨d11, -⟩ : AllD D false [11] := ideal_sub hs (by decide +kernel)
    simp only [d6, d9, d11, h0, cond_true, cond_false]
    refine Run.go rfl ?_
    refine Run.le ?_ hK
    simp only [d6, d9, d11, h0, Nat.reduceBEq, Bool.false_or, Bool.true_or, cond_true, cond_false]
    exact St.Le.mk' ⟨rfl, rfl, rfl, rfl, rfl, rfl, rfl, rfl, rfl, rfl, rfl, rfl, rfl, rfl, rfl, rfl, rfl, trivial⟩ ⟨rfl, rfl, rfl, rfl, rfl, rfl, rfl, trivial⟩
  · intro D hid h0 hp hs rest hK
    obtain ⟨d7, d10, -⟩ : AllD D true [7, 10] := ideal_sub hp (by decide +kernel)
    simp only [d7, d10, h0, cond_true, cond_false]
    refine Run.go rfl ?_
    refine Run.le ?_ hK
    simp only [d7, d10, h0, Nat.reduceBEq, Bool.false_or, Bool.true_or, cond_true, cond_false]
    exact St.Le.mk' ⟨rfl, rfl, rfl, rfl, rfl, rfl, rfl, rfl, rfl, rfl, rfl, rfl, rfl, rfl, rfl, rfl, rfl, trivial⟩ ⟨rfl, rfl, rfl, rfl, rfl, rfl, rfl, trivial⟩
  repeat (refine Run.go rfl ?_)
  refine Run.cs rfl (eqRack_ct Q Q false false hL) (by rw [frzP, decide_eq_true rfl]; rfl) rfl ?_
  repeat (refine Run.go rfl ?_)
  refine Run.bool 47 rfl (fun h => by simp at h) (fun h => ?_)
  repeat (refine Run.go rfl ?_)
  refine Run.bool 52 rfl (fun h => by simp at h) (fun h => ?_)
  repeat (refine Run.go rfl ?_)
  refine Run.cond rfl (fun h => by simp at h) (fun h => ?_)
  repeat (refine Run.go rfl ?_)
  refine Run.drawn [[0, 1, 2, 3, 4], [1, 0, 2, 3, 4], [1, 2, 0, 3, 4]] ⟨[(2, .bp (2, 0) 0), (3, .bp (3, 0) 0), (6, .bp (6, 0) 0), (7, i64 (m : Nat)), (8, i64 c), (9, .bp (9, 0) 0), (10, .bp (10, 0) 0), (11, i64 (m : Nat)), (12, i64 c), (61, bo (!decide (r = r)))],
    [((2, 0), .box (rkR false r).cells), ((3, 0), .box (bkA b).cells), ((6, 0), .box (rkR false Q).cells), ((9, 0), .box [i16 r.pl, .vec (34, 1) 0 (r.bs.map plA).length]), ((34, 1), .vec 9 true (r.bs.map plA)), ((10, 0), .box [i16 Q.pl, .vec (40, 1) 0 (Q.bs.map plA).length]), ((40, 1), .vec 9 false (Q.bs.map plA))]⟩ (by decide +kernel) (by kernel_rfl) ?_ fun _ hN => ⟨?_, ?_, ?_, trivial⟩
  rotate_left
  iterate 3
    · repeat (refine Run.go rfl ?_)
      refine Run.cs rfl (toRack_ct r false hl) rfl (rk_rf _ _) ?_
      repeat (refine Run.go rfl ?_)
      refine Run.cs rfl (eqRack_ct r r true true hl) (by rw [frzP, decide_eq_true rfl]; rfl) rfl ?_
      repeat (refine Run.go rfl ?_)
      exact Run.of hN ⟨rfl, rfl, rfl, rfl, rfl, rfl, rfl, rfl, rfl, rfl, trivial⟩ ⟨rfl, rfl, rfl, rfl, rfl, rfl, rfl, trivial⟩
  refine Run.cond rfl (fun h => by simp at h) (fun h => ?_)
  repeat (refine Run.go rfl ?_)
  refine Run.callo (34, 1) (some 1) rfl rfl rfl rfl rfl rfl rfl rfl rfl rfl (markRack_ct r 1 true hl (by omega)) rfl (rfP _) rfl ?_
  repeat (refine Run.go rfl ?_)
  refine Run.bool 67 rfl (fun h => by simp at h; omega) (fun h => ?_)
  repeat (refine Run.go rfl ?_)
  refine Run.cs rfl (eqRack_ct Q Q false false hL) (by rw [frzP, decide_eq_true rfl]; rfl) rfl ?_
  repeat (refine Run.go rfl ?_)
  refine Run.bool 73 rfl (fun h => by simp at h) (fun h => ?_)
  repeat (refine Run.go rfl ?_)
  refine Run.bool 78 rfl (fun h => by simp at h) (fun h => ?_)
  repeat (refine Run.go rfl ?_)
  refine Run.cond rfl (fun h => by simp at h) (fun h => ?_)
  repeat (refine Run.go rfl ?_)
  refine Run.callo (40, 1) (some 1) rfl rfl rfl rfl rfl rfl rfl rfl rfl rfl (markRack_ct Q 1 false hL (by omega)) rfl (rfP _) rfl ?_
  repeat (refine Run.go rfl ?_)
  refine Run.cs rfl (heldRack_ct Q 1 false hL (by omega)) (by rw [frzP, decide_eq_true (by simp [mkR, mkPs])]; rfl) rfl ?_
  repeat (refine Run.go rfl ?_)
  refine Run.cond rfl (fun h => by simp at h; omega) (fun h => ?_)
  repeat (refine Run.go rfl ?_)
  refine Run.cond rfl (fun h => by simp at h) (fun h => ?_)
  repeat (refine Run.go rfl ?_)
  refine Run.drawI (fun D => ⟨[(2, .bp (2, 0) 0), (3, .bp (3, 0) 0), (6, .bp (6, 0) 0), (7, i64 (m : Nat)), (8, i64 c), (10, .bp (10, 0) 0), (14, i64 (1 + 9 * ((Q.bs.length : Nat) : Int))), (95, bif D 0 then rkR false r else .top), (96, bif D 1 then rkO true r else .top), (97, bif D 2 then bkA b else .top), (98, bif D 3 then bkA b else .top), (99, bif D 5 then .top else bif D 4 then .tup [rkO false Q, i64 (m : Nat), i64 c] else .top), (94, bif D 5 then .tup [bif D 6 then .top else rkO false Q, i64 (m : Nat), i64 c] else .top), (100, bif D 6 then rkR false Q else .top), (101, bif D 7 then i64 (m : Nat) else .top), (102, bif D 8 then i64 c else .top), (16, bif D 9 then .bp (16, 0) 0 else .top), (17, bif D 11 then i64 (m : Nat) else .top), (18, bif D 12 then i64 c else .top)], [((2, 0), Ob.box (rkR false r).cells), ((3, 0), Ob.box (bkA b).cells), ((6, 0), Ob.box (rkR false Q).cells), ((10, 0), Ob.box [i16 Q.pl, .vec (40, 1) 0 (Q.bs.map plA).length]), ((40, 1), Ob.vec 9 false ((mkPs Q.bs.length 1).map plA)), ((16, 0), (bif D 10 then Ob.box (rkR false Q).cells else (bif D 9 then Ob.box [i16 0, .lit (.slice none 0 0)] else Ob.gone)))]⟩) (by decide +kernel) (by decide +kernel) ?_ ?_ fun k' => ⟨?_, ?_, ?_, ?_, ?_, ?_, ?_, ?_, ?_, ?_, ?_, ?_, ?_, trivial⟩
  · exact St.Le.mk' ⟨rfl, rfl, rfl, rfl, rfl, rfl, rfl, rfl, rfl, rfl, rfl, rfl, rfl, rfl, rfl, rfl, rfl, rfl, rfl, trivial⟩ ⟨rfl, rfl, rfl, rfl, rfl, rfl, trivial⟩
  rotate_left
  · intro D hid h0 hp hs rest hK
    obtain ⟨d1, -⟩ : AllD D false [1] := ideal_sub hs (by decide +kernel)
    simp only [d1, h0, cond_true, cond_false]
    refine Run.go rfl ?_
    refine Run.le ?_ hK
    simp only [d1, h0, Nat.reduceBEq, Bool.false_or, Bool.true_or, cond_true, cond_false]
    exact St.Le.mk' ⟨rfl, rfl, rfl, rfl, rfl, rfl, rfl, rfl, rfl, rfl, rfl, rfl, rfl, rfl, rfl, rfl, rfl, rfl, rfl, trivial⟩ ⟨rfl, rfl, rfl, rfl, rfl, rfl, trivial⟩
  · intro D hid h0 hp hs rest hK
    obtain ⟨d0, -⟩ : AllD D true [0] := ideal_sub hp (by decide +kernel)
    obtain ⟨d3, d4, -⟩ : AllD D false [3, 4] := ideal_sub hs (by decide +kernel)
    simp only [d0, d3, d4, h0, cond_true, cond_false]
    refine Run.cs rfl (toRack_ct r false hl) rfl (rk_rf _ _) ?_
    refine Run.le ?_ hK
    simp only [d0, d3, d4, h0, Nat.reduceBEq, Bool.false_or, Bool.true_or, cond_true, cond_false]
    exact St.Le.mk' ⟨rfl, rfl, rfl, rfl, rfl, rfl, rfl, rfl, rfl, rfl, rfl, rfl, rfl, rfl, rfl, rfl, rfl, rfl, rfl, trivial⟩ ⟨rfl, rfl, rfl, rfl, rfl, rfl, trivial⟩
  · intro D hid h0 hp hs rest hK
    obtain ⟨d3, -⟩ : AllD D false [3] := ideal_sub hs (by decide +kernel)
    simp only [d3, h0, cond_true, cond_false]
    refine Run.go rfl ?_
    refine Run.le ?_ hK
    simp only [d3, h0, Nat.reduceBEq, Bool.false_or, Bool.true_or, cond_true, cond_false]
    exact St.Le.mk' ⟨rfl, rfl, rfl, rfl, rfl, rfl, rfl, rfl, rfl, rfl, rfl, rfl, rfl, rfl, rfl, rfl, rfl, rfl, rfl, trivial⟩ ⟨rfl, rfl, rfl, rfl, rfl, rfl, trivial⟩
  · intro D hid h0 hp hs rest hK
    obtain ⟨d1, d2, -⟩ : AllD D true [1, 2] := ideal_sub hp (by decide +kernel)
    obtain ⟨d4, -⟩ : AllD D false [4] := ideal_sub hs (by decide +kernel)
    simp only [d1, d2, d4, h0, cond_true, cond_false]
    refine Run.cs rfl (toBook_ct b) rfl rfl ?_
    refine Run.le ?_ hK
    simp only [d1, d2, d4, h0, Nat.reduceBEq, Bool.false_or, Bool.true_or, cond_true, cond_false]
    exact St.Le.mk' ⟨rfl, rfl, rfl, rfl, rfl, rfl, rfl, rfl, rfl, rfl, rfl, rfl, rfl, rfl, rfl, rfl, rfl, rfl, rfl, trivial⟩ ⟨rfl, rfl, rfl, rfl, rfl, rfl, trivial⟩
  · intro D hid h0 hp hs rest hK
    obtain ⟨d1, d3, -⟩ : AllD D true [1, 3] := ideal_sub hp (by decide +kernel)
    obtain ⟨d5, -⟩ : AllD D false [5] := ideal_sub hs (by decide +kernel)
    simp only [d1, d3, d5, h0, cond_true, cond_false]
    refine Run.cs rfl hI (by rw [frzP]; rfl) (aaA_rf _) ?_
    refine Run.le ?_ hK
    simp only [d1, d3, d5, h0, Nat.reduceBEq, Bool.false_or, Bool.true_or, cond_true, cond_false]
    exact St.Le.mk' ⟨rfl, rfl, rfl, rfl, rfl, rfl, rfl, rfl, rfl, rfl, rfl, rfl, rfl, rfl, rfl, rfl, rfl, rfl, rfl, trivial⟩ ⟨rfl, rfl, rfl, rfl, rfl, rfl, trivial⟩
  · intro D hid h0 hp hs rest hK
    obtain ⟨d4, -⟩ : AllD D true [4] := ideal_sub hp (by decide +kernel)
    obtain ⟨d6, d7, d8, -⟩ : AllD D false [6, 7, 8] := ideal_sub hs (by decide +kernel)
    simp only [d4, d6, d7, d8, h0, cond_true, cond_false]
    refine Run.go rfl ?_
    refine Run.le ?_ hK
    simp only [d4, d6, d7, d8, h0, Nat.reduceBEq, Bool.false_or, Bool.true_or, cond_true, cond_false]
    exact St.Le.mk' ⟨rfl, rfl, rfl, rfl, rfl, rfl, rfl, rfl, rfl, rfl, rfl, rfl, rfl, rfl, rfl, rfl, rfl, rfl, rfl, trivial⟩ ⟨rfl, rfl, rfl, rfl, rfl, rfl, trivial⟩
  · intro D hid h0 hp hs rest hK
    obtain ⟨d5, -⟩ : AllD D true [5] := ideal_sub hp (by decide +kernel)
    obtain ⟨d10, -⟩ : AllD D false [10] := ideal_sub hs (by decide +kernel)
    simp only [d5, d10, h0, cond_true, cond_false]
    refine Run.go rfl ?_
    refine Run.freeze (v' := rkR false Q) 100 rfl rfl (rk_frz _ _) ?_
    refine Run.le ?_ hK
    simp only [d5, d10, h0, Nat.reduceBEq, Bool.false_or, Bool.true_or, cond_true, cond_false]
    exact St.Le.mk' ⟨rfl, rfl, rfl, rfl, rfl, rfl, rfl, rfl, rfl, rfl, rfl, rfl, rfl, rfl, rfl, rfl, rfl, rfl, rfl, trivial⟩ ⟨rfl, rfl, rfl, rfl, rfl, rfl, trivial⟩
  · intro D hid h0 hp hs rest hK
    obtain ⟨d5, -⟩ : AllD D true [5] := ideal_sub hp (by decide +kernel)
    obtain ⟨d11, -⟩ : AllD D false [11] := ideal_sub hs (by decide +kernel)
    simp only [d5, d11, h0, cond_true, cond_false]
    refine Run.go rfl ?_
    refine Run.le ?_ hK
    simp only [d5, d11, h0, Nat.reduceBEq, Bool.false_or, Bool.true_or, cond_true, cond_false]
    exact St.Le.mk' ⟨rfl, rfl, rfl, rfl, rfl, rfl, rfl, rfl, rfl, rfl, rfl, rfl, rfl, rfl, rfl, rfl, rfl, rfl, rfl, trivial⟩ ⟨rfl, rfl, rfl, rfl, rfl, rfl, trivial⟩
  · intro D hid h0 hp hs rest hK
    obtain ⟨d5, -⟩ : AllD D true [5] := ideal_sub hp (by decide +kernel)
    obtain ⟨d12, -⟩ : AllD D false [12] := ideal_sub hs (by decide +kernel)
    simp only [d5, d12, h0, cond_true, cond_false]
    refine Run.go rfl ?_
    refine Run.le ?_ hK
    simp only [d5, d12, h0, Nat.reduceBEq, Bool.false_or, Bool.true_or, cond_true, cond_false]
    exact St.Le.mk' ⟨rfl, rfl, rfl, rfl, rfl, rfl, rfl, rfl, rfl, rfl, rfl, rfl, rfl, rfl, rfl, rfl, rfl, rfl, rfl, trivial⟩ ⟨rfl, rfl, rfl, rfl, rfl, rfl, trivial⟩
  · intro D hid h0 hp hs rest hK
    obtain ⟨d10, -⟩ : AllD D false [10] := ideal_sub hs (by decide +kernel)
    have d11 : D 11 = false := ideal_no (i := 11) (j := 10) hid (by decide +kernel) d10
    have d12 : D 12 = false := ideal_no (i := 12) (j := 11) hid (by decide +kernel) d11
    simp only [d10, d11, d12, h0, cond_true, cond_false]
    refine Run.alloc rfl rfl rfl rfl rfl rfl (by
      simp only [St.nrf, List.all_cons, List.all_nil, Bool.and_eq_true, Bool.and_true]
      repeat' apply And.intro
      all_goals (repeat' (first | rfl | refine nrf_bif ?_ ?_ | refine nrfO_bif ?_ ?_ | (cases D 6 <;> rfl)))) rfl ?_
    refine Run.le ?_ hK
    simp only [d10, d11, d12, h0, Nat.reduceBEq, Bool.false_or, Bool.true_or, cond_true, cond_false]
    exact St.Le.mk' ⟨rfl, rfl, rfl, rfl, rfl, rfl, rfl, rfl, rfl, rfl, rfl, rfl, rfl, rfl, rfl, rfl, rfl, rfl, rfl, trivial⟩ ⟨rfl, rfl, rfl, rfl, rfl, rfl, trivial⟩
  · intro D hid h0 hp hs rest hK
    obtain ⟨d6, d9, -⟩ : AllD D true [6, 9] := ideal_sub hp (by decide +kernel)
    obtain ⟨d11, -⟩ : AllD D false [11] := ideal_sub hs (by decide +kernel)
    simp only [d6, d9, d11, h0, cond_true, cond_false]
    refine Run.go rfl ?_
    refine Run.le ?_ hK
    simp only [d6, d9, d11, h0, Nat.reduceBEq, Bool.false_or, Bool.true_or, cond_true, cond_false]
    exact St.Le.mk' ⟨rfl, rfl, rfl, rfl, rfl, rfl, rfl, rfl, rfl, rfl, rfl, rfl, rfl, rfl, rfl, rfl, rfl, rfl, rfl, trivial⟩ ⟨rfl, rfl, rfl, rfl, rfl, rfl, trivial⟩
  · intro D hid h0 hp hs rest hK
    obtain ⟨d7, d10, -⟩ : AllD D true [7, 10] := ideal_sub hp (by decide +kernel)
    obtain ⟨d12, -⟩ : AllD D false [12] := ideal_sub hs (by decide +kernel)
    simp only [d7, d10, d12, h0, cond_true, cond_false]
    refine Run.go rfl ?_
    refine Run.le ?_ hK
    simp only [d7, d10, d12, h0, Nat.reduceBEq, Bool.false_or, Bool.true_or, cond_true, cond_false]
    exact St.Le.mk' ⟨rfl, rfl, rfl, rfl, rfl, rfl, rfl, rfl, rfl, rfl, rfl, rfl, rfl, rfl, rfl, rfl, rfl, rfl, rfl, trivial⟩ ⟨rfl, rfl, rfl, rfl, rfl, rfl, trivial⟩
  · intro D hid h0 hp hs rest hK
    obtain ⟨d8, d11, -⟩ : AllD D true [8, 11] := ideal_sub hp (by decide +kernel)
    simp only [d8, d11, h0, cond_true, cond_false]
    refine Run.go rfl ?_
    refine Run.le ?_ hK
    simp only [d8, d11, h0, Nat.reduceBEq, Bool.false_or, Bool.true_or, cond_true, cond_false]
    exact St.Le.mk' ⟨rfl, rfl, rfl, rfl, rfl, rfl, rfl, rfl, rfl, rfl, rfl, rfl, rfl, rfl, rfl, rfl, rfl, rfl, rfl, trivial⟩ ⟨rfl, rfl, rfl, rfl, rfl, rfl, trivial⟩
  repeat (refine Run.go rfl ?_)
  refine Run.cs rfl (eqRack_ct Q Q false false hL) rfl rfl ?_
  repeat (refine Run.go rfl ?_)
  refine Run.bool 107 rfl (fun h => by simp at h) (fun h => ?_)
  repeat (refine Run.go rfl ?_)
  refine Run.bool 112 rfl (fun h => by simp at h) (fun h => ?_)
  repeat (refine Run.go rfl ?_)
  refine Run.cond rfl (fun h => by simp at h) (fun h => ?_)
  repeat (refine Run.go rfl ?_)
  refine Run.cs rfl (heldRack_ct Q 1 false hL (by omega)) (by rw [frzP, decide_eq_true (by simp [mkR, mkPs])]; rfl) rfl ?_
  repeat (refine Run.go rfl ?_)
  refine Run.cond rfl (fun h => by simp at h; omega) (fun h => ?_)
  repeat (refine Run.go rfl ?_)
  refine Run.cond rfl (fun h => by simp at h) (fun h => ?_)
  repeat (refine Run.go rfl ?_)
  exact Run.ret hg rfl rfl
end Go.Proofs.Ytlaabifehcfllaa
