/- Contracts of the program's functions, and what follows from them. -/
import Derived.Test.YtilomajfcjpmnaaGreatDoorE27
set_option linter.unusedVariables false
set_option maxRecDepth 100000
set_option linter.unusedSimpArgs false
namespace Go.Proofs.YtilomajfcjpmnaaGreatDoor
open Go Go.Av

/-! Labels with two neighbours exchanged: the program, and the law. -/

def nsOf (t : List UInt8) : List Int := t.map fun b => (b.toNat : Int)
theorem nsOf_map (t : List UInt8) : (t.map fun b => u8 (b.toNat : Int)) = (nsOf t).map u8 := by
  unfold nsOf
  rw [List.map_map]
  rfl
theorem ofI (c : UInt8) : UInt8.ofNat ((c.toNat : Int)).toNat = c := by
  rw [Int.toNat_natCast]
  exact UInt8.ofNat_toNat
theorem swp_eq {t : List UInt8} (h9 : t.length = 9) {j : Nat} (hj : j < 8) (cx cy : Int) (hx : (nsOf t)[j]? = some cx) (hy : (nsOf t)[j + 1]? = some cy) : bys (((nsOf t).set j cy).set (j + 1) cx) = swp t j := by
  match t, h9 with
  | [c0, c1, c2, c3, c4, c5, c6, c7, c8], _ =>
  have hj : j = 0 ∨ j = 1 ∨ j = 2 ∨ j = 3 ∨ j = 4 ∨ j = 5 ∨ j = 6 ∨ j = 7 := by omega
  rcases hj with rfl | rfl | rfl | rfl | rfl | rfl | rfl | rfl <;>
    (simp [nsOf] at hx hy; subst hx; subst hy; simp [nsOf, bys, swp])
theorem swps_succ (t : List UInt8) (j : Nat) : swps t (j + 1) = swps t j ++ [swp t j] := by
  unfold swps
  rw [List.range_succ, List.map_append]
  rfl
theorem swps_len (t : List UInt8) (j : Nat) : (swps t j).length = j := by simp [swps]
theorem frzU8 (l : List Int) : AV.frzL (l.map u8) = l.map u8 := frzL_map (fun _ => rfl) l

noncomputable def X31 : Fx := ⟨Tryz.prog, tys, 31, Tryz.f31, [0]⟩
theorem X31_ok : X31.Ok := ⟨Tryz.func31, tys_ok⟩
theorem implSwapped_ct (t : List UInt8) (hlen : t.length ≤ 1048576) : CtA ambS Tryz.prog 31 [str t] (.tup [.own 1 false ((swRes t).1.map str), i64 (swRes t).2]) [] := by
  refine CtA.intro ambS X31 X31_ok rfl (by kernel_rfl) rfl rfl fun g hA hg => ?_
  repeat (refine Run.go rfl ?_)
  refine Run.cond rfl (fun h => ?_) (fun h => ?_)
  · have h9 : t.length ≠ 9 := by
      have h2 : ((((⟨t.toArray⟩ : ByteArray).size : Nat) : Int) != 9) = true := h
      rw [bsz] at h2
      intro e
      rw [e] at h2
      simp at h2
    have hr : swRes t = ([], 5) := by rw [swRes, if_neg h9]
    rw [hr] at hg
    repeat (refine Run.go rfl ?_)
    refine Run.nilSlot 2 1 false rfl ?_
    exact Run.ret hg rfl rfl
  have h9 : t.length = 9 := by
    have h2 : ((((⟨t.toArray⟩ : ByteArray).size : Nat) : Int) != 9) = false := h
    rw [bsz] at h2
    simp at h2
    omega
  have hr : swRes t = (lbsOf t (swps t 8), 0) := by rw [swRes, if_pos h9]
  rw [hr] at hg
  have hns : (nsOf t).length = 9 := by unfold nsOf; rw [List.length_map]; exact h9
  repeat (refine Run.go rfl ?_)
  refine Run.nilSlot 4 1 false rfl ?_
  refine Run.loop (fun j : Nat => ⟨[(0, str t), (4, .own 1 false ((swps t j).map str)), (10, i64 j)], []⟩) (fun j => j ≤ 8) (fun j => 8 - j) 0 (by omega) ?_ ?_
  · exact St.Le.mk' ⟨rfl, rfl, rfl, trivial⟩ trivial
  intro j hj IH
  repeat (refine Run.go rfl ?_)
  refine Run.cond rfl (fun h => ?_) (fun h => ?_)
  · have hlt : j < 8 := by
      have := of_decide_eq_true h
      omega
    have w1 : IntKind.i64.wrap ((j : Int) + 1) = ((j + 1 : Nat) : Int) := by rw [wrap_i64 (by omega) (by omega)]; omega
    have e1 : 0 + ((j + 1 : Nat) : Int).toNat = j + 1 := by omega
    have e0 : 0 + ((j : Nat) : Int).toNat = j := by omega
    have hsl := swps_len t j
    obtain ⟨cx, hx⟩ : ∃ cx, (nsOf t)[j]? = some cx := ⟨_, List.getElem?_eq_getElem (by omega)⟩
    obtain ⟨cy, hy⟩ : ∃ cy, (nsOf t)[j + 1]? = some cy := ⟨_, List.getElem?_eq_getElem (by omega)⟩
    have hsw := swp_eq h9 hlt cx cy hx hy
    have hnm := nsOf_map t
    generalize nsOf t = ns at hns hx hy hsw hnm
    have hx1 : (ns.map u8)[j]? = some (u8 cx) := by rw [List.getElem?_map, hx]; rfl
    have hy1 : (ns.map u8)[j + 1]? = some (u8 cy) := by rw [List.getElem?_map, hy]; rfl
    have hy2 : ((ns.set j cy).map u8)[j + 1]? = some (u8 cy) := by rw [List.getElem?_map, List.getElem?_set_ne (by omega), hy]; rfl
    have s1 : (ns.map u8).set j (u8 cy) = (ns.set j cy).map u8 := (List.map_set ..).symm
    have s2 : ((ns.set j cy).map u8).set (j + 1) (u8 cx) = ((ns.set j cy).set (j + 1) cx).map u8 := (List.map_set ..).symm
    have hml : (ns.map u8).length = 9 := by rw [List.length_map, hns]
    repeat (refine Run.go rfl ?_)
    refine Run.s2bo t rfl rfl rfl rfl rfl rfl rfl rfl (by omega) rfl ?_
    rw [hnm]
    repeat (refine Run.go rfl ?_)
    refine Run.unpack 6 rfl rfl ?_
    refine Run.drawI (fun D => ⟨[(0, str t), (4, .own 1 false ((swps t j).map str)), (5, i64 j), (6, .vec (6, 0) 0 (ns.map u8).length), (10, i64 j), (15, bif D 0 then .vec (6, 0) 0 (ns.map u8).length else .top), (16, bif D 1 then i64 j else .top), (17, bif D 2 then .vec (6, 0) 0 (ns.map u8).length else .top), (18, bif D 3 then i64 j else .top), (19, bif D 4 then i64 ((j + 1 : Nat) : Int) else .top), (20, bif D 5 then .vec (6, 0) 0 (ns.map u8).length else .top), (21, bif D 6 then i64 j else .top), (22, bif D 7 then i64 ((j + 1 : Nat) : Int) else .top), (23, bif D 8 then .ep (6, 0) (j + 1) 0 else .top), (24, bif D 9 then u8 cy else .top), (25, bif D 10 then .vec (6, 0) 0 (ns.map u8).length else .top), (26, bif D 11 then i64 j else .top), (27, bif D 12 then .ep (6, 0) j 0 else .top), (28, bif D 13 then u8 cx else .top), (29, bif D 14 then .ep (6, 0) j 0 else .top), (30, bif D 16 then .ep (6, 0) (j + 1) 0 else .top)], [((6, 0), (bif D 17 then .vec 1 false (((ns.set j cy).set (j + 1) cx).map u8) else (bif D 15 then .vec 1 false ((ns.set j cy).map u8) else .vec 1 false (ns.map u8))))]⟩) (by decide +kernel) (by decide +kernel) ?_ ?_ fun k' => ⟨?_, ?_, ?_, ?_, ?_, ?_, ?_, ?_, ?_, ?_, ?_, ?_, ?_, ?_, ?_, ?_, ?_, ?_, trivial⟩
    · exact St.Le.mk' ⟨rfl, rfl, rfl, rfl, rfl, rfl, rfl, rfl, rfl, rfl, rfl, rfl, rfl, rfl, rfl, rfl, rfl, rfl, rfl, rfl, rfl, trivial⟩ ⟨rfl, trivial⟩
    rotate_left
    · intro D hid h0 hp hs rest hK
      obtain ⟨d14, d15, d16, d17, -⟩ : AllD D false [14, 15, 16, 17] := ideal_sub hs (by decide +kernel)
      simp only [d14, d15, d16, d17, h0, cond_true, cond_false]
      refine Run.go rfl ?_
      refine Run.le ?_ hK
      simp only [d14, d15, d16, d17, h0, Nat.reduceBEq, Bool.false_or, Bool.true_or, cond_true, cond_false]
      exact St.Le.mk' ⟨rfl, rfl, rfl, rfl, rfl, rfl, rfl, rfl, rfl, rfl, rfl, rfl, rfl, rfl, rfl, rfl, rfl, rfl, rfl, rfl, rfl, trivial⟩ ⟨rfl, trivial⟩
    · intro D hid h0 hp hs rest hK
      obtain ⟨d14, d15, d16, d17, -⟩ : AllD D false [14, 15, 16, 17] := ideal_sub hs (by decide +kernel)
      simp only [d14, d15, d16, d17, h0, cond_true, cond_false]
      refine Run.go rfl ?_
      refine Run.le ?_ hK
      simp only [d14, d15, d16, d17, h0, Nat.reduceBEq, Bool.false_or, Bool.true_or, cond_true, cond_false]
      exact St.Le.mk' ⟨rfl, rfl, rfl, rfl, rfl, rfl, rfl, rfl, rfl, rfl, rfl, rfl, rfl, rfl, rfl, rfl, rfl, rfl, rfl, rfl, rfl, trivial⟩ ⟨rfl, trivial⟩
    · intro D hid h0 hp hs rest hK
      obtain ⟨d16, d17, -⟩ : AllD D false [16, 17] := ideal_sub hs (by decide +kernel)
      simp only [d16, d17, h0, cond_true, cond_false]
      refine Run.go rfl ?_
      refine Run.le ?_ hK
      simp only [d16, d17, h0, Nat.reduceBEq, Bool.false_or, Bool.true_or, cond_true, cond_false]
      exact St.Le.mk' ⟨rfl, rfl, rfl, rfl, rfl, rfl, rfl, rfl, rfl, rfl, rfl, rfl, rfl, rfl, rfl, rfl, rfl, rfl, rfl, rfl, rfl, trivial⟩ ⟨rfl, trivial⟩
    · intro D hid h0 hp hs rest hK
      obtain ⟨d4, d16, d17, -⟩ : AllD D false [4, 16, 17] := ideal_sub hs (by decide +kernel)
      simp only [d4, d16, d17, h0, cond_true, cond_false]
      refine Run.go rfl ?_
      refine Run.le ?_ hK
      simp only [d4, d16, d17, h0, Nat.reduceBEq, Bool.false_or, Bool.true_or, cond_true, cond_false]
      exact St.Le.mk' ⟨rfl, rfl, rfl, rfl, rfl, rfl, rfl, rfl, rfl, rfl, rfl, rfl, rfl, rfl, rfl, rfl, rfl, rfl, rfl, rfl, rfl, trivial⟩ ⟨rfl, trivial⟩
    · intro D hid h0 hp hs rest hK
      obtain ⟨d3, -⟩ : AllD D true [3] := ideal_sub hp (by decide +kernel)
      obtain ⟨d16, d17, -⟩ : AllD D false [16, 17] := ideal_sub hs (by decide +kernel)
      simp only [d3, d16, d17, h0, cond_true, cond_false]
      refine Run.go rfl ?_
      rw [w1]
      refine Run.le ?_ hK
      simp only [d3, d16, d17, h0, Nat.reduceBEq, Bool.false_or, Bool.true_or, cond_true, cond_false]
      exact St.Le.mk' ⟨rfl, rfl, rfl, rfl, rfl, rfl, rfl, rfl, rfl, rfl, rfl, rfl, rfl, rfl, rfl, rfl, rfl, rfl, rfl, rfl, rfl, trivial⟩ ⟨rfl, trivial⟩
    · intro D hid h0 hp hs rest hK
      obtain ⟨d8, d14, d15, d16, d17, -⟩ : AllD D false [8, 14, 15, 16, 17] := ideal_sub hs (by decide +kernel)
      simp only [d8, d14, d15, d16, d17, h0, cond_true, cond_false]
      refine Run.go rfl ?_
      refine Run.le ?_ hK
      simp only [d8, d14, d15, d16, d17, h0, Nat.reduceBEq, Bool.false_or, Bool.true_or, cond_true, cond_false]
      exact St.Le.mk' ⟨rfl, rfl, rfl, rfl, rfl, rfl, rfl, rfl, rfl, rfl, rfl, rfl, rfl, rfl, rfl, rfl, rfl, rfl, rfl, rfl, rfl, trivial⟩ ⟨rfl, trivial⟩
    · intro D hid h0 hp hs rest hK
      obtain ⟨d7, d14, d15, d16, d17, -⟩ : AllD D false [7, 14, 15, 16, 17] := ideal_sub hs (by decide +kernel)
      simp only [d7, d14, d15, d16, d17, h0, cond_true, cond_false]
      refine Run.go rfl ?_
      refine Run.le ?_ hK
      simp only [d7, d14, d15, d16, d17, h0, Nat.reduceBEq, Bool.false_or, Bool.true_or, cond_true, cond_false]
      exact St.Le.mk' ⟨rfl, rfl, rfl, rfl, rfl, rfl, rfl, rfl, rfl, rfl, rfl, rfl, rfl, rfl, rfl, rfl, rfl, rfl, rfl, rfl, rfl, trivial⟩ ⟨rfl, trivial⟩
    · intro D hid h0 hp hs rest hK
      obtain ⟨d6, -⟩ : AllD D true [6] := ideal_sub hp (by decide +kernel)
      obtain ⟨d8, d14, d15, d16, d17, -⟩ : AllD D false [8, 14, 15, 16, 17] := ideal_sub hs (by decide +kernel)
      simp only [d6, d8, d14, d15, d16, d17, h0, cond_true, cond_false]
      refine Run.go rfl ?_
      rw [w1]
      refine Run.le ?_ hK
      simp only [d6, d8, d14, d15, d16, d17, h0, Nat.reduceBEq, Bool.false_or, Bool.true_or, cond_true, cond_false]
      exact St.Le.mk' ⟨rfl, rfl, rfl, rfl, rfl, rfl, rfl, rfl, rfl, rfl, rfl, rfl, rfl, rfl, rfl, rfl, rfl, rfl, rfl, rfl, rfl, trivial⟩ ⟨rfl, trivial⟩
    · intro D hid h0 hp hs rest hK
      obtain ⟨d5, d7, -⟩ : AllD D true [5, 7] := ideal_sub hp (by decide +kernel)
      obtain ⟨d9, d14, d15, d16, d17, -⟩ : AllD D false [9, 14, 15, 16, 17] := ideal_sub hs (by decide +kernel)
      simp only [d5, d7, d9, d14, d15, d16, d17, h0, cond_true, cond_false]
      refine Run.val rfl rfl rfl (ValOk.idxv rfl rfl rfl rfl rfl rfl (by omega) (by omega)) rfl ?_
      rw [e1]
      refine Run.le ?_ hK
      simp only [d5, d7, d9, d14, d15, d16, d17, h0, Nat.reduceBEq, Bool.false_or, Bool.true_or, cond_true, cond_false]
      exact St.Le.mk' ⟨rfl, rfl, rfl, rfl, rfl, rfl, rfl, rfl, rfl, rfl, rfl, rfl, rfl, rfl, rfl, rfl, rfl, rfl, rfl, rfl, rfl, trivial⟩ ⟨rfl, trivial⟩
    · intro D hid h0 hp hs rest hK
      obtain ⟨d8, -⟩ : AllD D true [8] := ideal_sub hp (by decide +kernel)
      obtain ⟨d14, d15, d16, d17, -⟩ : AllD D false [14, 15, 16, 17] := ideal_sub hs (by decide +kernel)
      simp only [d8, d14, d15, d16, d17, h0, cond_true, cond_false]
      refine Run.val rfl rfl rfl (ValOk.loadv (u8 cy) rfl rfl rfl rfl hy1 rfl) rfl ?_
      refine Run.le ?_ hK
      simp only [d8, d14, d15, d16, d17, h0, Nat.reduceBEq, Bool.false_or, Bool.true_or, cond_true, cond_false]
      exact St.Le.mk' ⟨rfl, rfl, rfl, rfl, rfl, rfl, rfl, rfl, rfl, rfl, rfl, rfl, rfl, rfl, rfl, rfl, rfl, rfl, rfl, rfl, rfl, trivial⟩ ⟨rfl, trivial⟩
    · intro D hid h0 hp hs rest hK
      obtain ⟨d12, d16, d17, -⟩ : AllD D false [12, 16, 17] := ideal_sub hs (by decide +kernel)
      simp only [d12, d16, d17, h0, cond_true, cond_false]
      refine Run.go rfl ?_
      refine Run.le ?_ hK
      simp only [d12, d16, d17, h0, Nat.reduceBEq, Bool.false_or, Bool.true_or, cond_true, cond_false]
      exact St.Le.mk' ⟨rfl, rfl, rfl, rfl, rfl, rfl, rfl, rfl, rfl, rfl, rfl, rfl, rfl, rfl, rfl, rfl, rfl, rfl, rfl, rfl, rfl, trivial⟩ ⟨rfl, trivial⟩
    · intro D hid h0 hp hs rest hK
      obtain ⟨d12, d16, d17, -⟩ : AllD D false [12, 16, 17] := ideal_sub hs (by decide +kernel)
      simp only [d12, d16, d17, h0, cond_true, cond_false]
      refine Run.go rfl ?_
      refine Run.le ?_ hK
      simp only [d12, d16, d17, h0, Nat.reduceBEq, Bool.false_or, Bool.true_or, cond_true, cond_false]
      exact St.Le.mk' ⟨rfl, rfl, rfl, rfl, rfl, rfl, rfl, rfl, rfl, rfl, rfl, rfl, rfl, rfl, rfl, rfl, rfl, rfl, rfl, rfl, rfl, trivial⟩ ⟨rfl, trivial⟩
    · intro D hid h0 hp hs rest hK
      obtain ⟨d10, d11, -⟩ : AllD D true [10, 11] := ideal_sub hp (by decide +kernel)
      obtain ⟨d13, d16, d17, -⟩ : AllD D false [13, 16, 17] := ideal_sub hs (by decide +kernel)
      have d15 : D 15 = false := ideal_no (i := 15) (j := 13) hid (by decide +kernel) d13
      simp only [d10, d11, d13, d16, d17, d15, h0, cond_true, cond_false]
      refine Run.val rfl rfl rfl (ValOk.idxv rfl rfl rfl rfl rfl rfl (by omega) (by omega)) rfl ?_
      rw [e0]
      refine Run.le ?_ hK
      simp only [d10, d11, d13, d16, d17, d15, h0, Nat.reduceBEq, Bool.false_or, Bool.true_or, cond_true, cond_false]
      exact St.Le.mk' ⟨rfl, rfl, rfl, rfl, rfl, rfl, rfl, rfl, rfl, rfl, rfl, rfl, rfl, rfl, rfl, rfl, rfl, rfl, rfl, rfl, rfl, trivial⟩ ⟨rfl, trivial⟩
    · intro D hid h0 hp hs rest hK
      obtain ⟨d12, -⟩ : AllD D true [12] := ideal_sub hp (by decide +kernel)
      obtain ⟨d14, d15, d16, d17, -⟩ : AllD D false [14, 15, 16, 17] := ideal_sub hs (by decide +kernel)
      simp only [d12, d14, d15, d16, d17, h0, cond_true, cond_false]
      refine Run.val rfl rfl rfl (ValOk.loadv (u8 cx) rfl rfl rfl rfl hx1 rfl) rfl ?_
      refine Run.le ?_ hK
      simp only [d12, d14, d15, d16, d17, h0, Nat.reduceBEq, Bool.false_or, Bool.true_or, cond_true, cond_false]
      exact St.Le.mk' ⟨rfl, rfl, rfl, rfl, rfl, rfl, rfl, rfl, rfl, rfl, rfl, rfl, rfl, rfl, rfl, rfl, rfl, rfl, rfl, rfl, rfl, trivial⟩ ⟨rfl, trivial⟩
    · intro D hid h0 hp hs rest hK
      obtain ⟨d0, d1, d5, d6, d7, d8, d9, d13, -⟩ : AllD D true [0, 1, 5, 6, 7, 8, 9, 13] := ideal_sub hp (by decide +kernel)
      obtain ⟨d15, d16, d17, -⟩ : AllD D false [15, 16, 17] := ideal_sub hs (by decide +kernel)
      simp only [d0, d1, d5, d6, d7, d8, d9, d13, d15, d16, d17, h0, cond_true, cond_false]
      refine Run.val rfl rfl rfl (ValOk.idxv rfl rfl rfl rfl rfl rfl (by omega) (by omega)) rfl ?_
      rw [e0]
      refine Run.le ?_ hK
      simp only [d0, d1, d5, d6, d7, d8, d9, d13, d15, d16, d17, h0, Nat.reduceBEq, Bool.false_or, Bool.true_or, cond_true, cond_false]
      exact St.Le.mk' ⟨rfl, rfl, rfl, rfl, rfl, rfl, rfl, rfl, rfl, rfl, rfl, rfl, rfl, rfl, rfl, rfl, rfl, rfl, rfl, rfl, rfl, trivial⟩ ⟨rfl, trivial⟩
    · intro D hid h0 hp hs rest hK
      obtain ⟨d0, d1, d5, d6, d7, d8, d9, d13, d14, -⟩ : AllD D true [0, 1, 5, 6, 7, 8, 9, 13, 14] := ideal_sub hp (by decide +kernel)
      obtain ⟨d16, d17, -⟩ : AllD D false [16, 17] := ideal_sub hs (by decide +kernel)
      simp only [d0, d1, d5, d6, d7, d8, d9, d13, d14, d16, d17, h0, cond_true, cond_false]
      refine Run.storee (u8 cx) (u8 cy) rfl rfl rfl rfl rfl rfl rfl hx1 rfl rfl rfl ?_
      rw [s1]
      refine Run.le ?_ hK
      simp only [d0, d1, d5, d6, d7, d8, d9, d13, d14, d16, d17, h0, Nat.reduceBEq, Bool.false_or, Bool.true_or, cond_true, cond_false]
      exact St.Le.mk' ⟨rfl, rfl, rfl, rfl, rfl, rfl, rfl, rfl, rfl, rfl, rfl, rfl, rfl, rfl, rfl, rfl, rfl, rfl, rfl, rfl, rfl, trivial⟩ ⟨rfl, trivial⟩
    · intro D hid h0 hp hs rest hK
      obtain ⟨d0, d1, d2, d3, d4, d5, d6, d7, d8, d9, d10, d11, d12, d13, d14, d15, -⟩ : AllD D true [0, 1, 2, 3, 4, 5, 6, 7, 8, 9, 10, 11, 12, 13, 14, 15] := ideal_sub hp (by decide +kernel)
      obtain ⟨d17, -⟩ : AllD D false [17] := ideal_sub hs (by decide +kernel)
      simp only [d0, d1, d2, d3, d4, d5, d6, d7, d8, d9, d10, d11, d12, d13, d14, d15, d17, h0, cond_true, cond_false]
      refine Run.val rfl rfl rfl (ValOk.idxv rfl rfl rfl rfl rfl rfl (by omega) (by omega)) rfl ?_
      rw [e1]
      refine Run.le ?_ hK
      simp only [d0, d1, d2, d3, d4, d5, d6, d7, d8, d9, d10, d11, d12, d13, d14, d15, d17, h0, Nat.reduceBEq, Bool.false_or, Bool.true_or, cond_true, cond_false]
      exact St.Le.mk' ⟨rfl, rfl, rfl, rfl, rfl, rfl, rfl, rfl, rfl, rfl, rfl, rfl, rfl, rfl, rfl, rfl, rfl, rfl, rfl, rfl, rfl, trivial⟩ ⟨rfl, trivial⟩
    · intro D hid h0 hp hs rest hK
      obtain ⟨d0, d1, d2, d3, d4, d5, d6, d7, d8, d9, d10, d11, d12, d13, d14, d15, d16, -⟩ : AllD D true [0, 1, 2, 3, 4, 5, 6, 7, 8, 9, 10, 11, 12, 13, 14, 15, 16] := ideal_sub hp (by decide +kernel)
      simp only [d0, d1, d2, d3, d4, d5, d6, d7, d8, d9, d10, d11, d12, d13, d14, d15, d16, h0, cond_true, cond_false]
      refine Run.storee (u8 cy) (u8 cx) rfl rfl rfl rfl rfl rfl rfl hy2 rfl rfl rfl ?_
      rw [s2]
      refine Run.le ?_ hK
      simp only [d0, d1, d2, d3, d4, d5, d6, d7, d8, d9, d10, d11, d12, d13, d14, d15, d16, h0, Nat.reduceBEq, Bool.false_or, Bool.true_or, cond_true, cond_false]
      exact St.Le.mk' ⟨rfl, rfl, rfl, rfl, rfl, rfl, rfl, rfl, rfl, rfl, rfl, rfl, rfl, rfl, rfl, rfl, rfl, rfl, rfl, rfl, rfl, trivial⟩ ⟨rfl, trivial⟩
    refine Run.pack 6 rfl rfl (by simp) ?_
    refine Run.freeze 6 (v' := .ro 1 false (((ns.set j cy).set (j + 1) cx).map u8)) rfl rfl (by show AV.ro 1 false (AV.frzL _) = _; rw [frzU8]) ?_
    repeat (refine Run.go rfl ?_)
    refine Run.val rfl rfl rfl (ValOk.b2s (ex := false) ((ns.set j cy).set (j + 1) cx) rfl rfl rfl rfl rfl (.inr rfl)) rfl ?_
    rw [hsw]
    refine Run.buildSlice [str (swp t j)] rfl rfl rfl rfl rfl rfl rfl rfl rfl rfl rfl rfl rfl rfl ?_
    refine Run.appendo rfl rfl rfl rfl rfl rfl rfl rfl rfl rfl rfl rfl rfl rfl (by show (((swps t j).map str).length + 1) * 16 ≤ _; rw [List.length_map]; omega) (by simp [capMax]; omega) (by decide) rfl ?_
    repeat (refine Run.go rfl ?_)
    refine Run.of (IH (j + 1) (by omega) (by omega)) ⟨rfl, ?_, ?_, trivial⟩ trivial
    · show AV.own _ _ _ = AV.own _ _ _
      rw [swps_succ, List.map_append]
      rfl
    · show i64 _ = i64 _
      rw [w1]
  · have hj8 : j = 8 := by
      have := of_decide_eq_false h
      omega
    subst hj8
    have hsl := swps_len t 8
    have hlb := labelsOf_all_ct t (swps t 8) false (by omega)
    repeat (refine Run.go rfl ?_)
    refine Run.callgA (4, 0) rfl rfl rfl rfl rfl rfl rfl rfl rfl rfl rfl rfl (hlb.at hA) rfl ?_
    repeat (refine Run.go rfl ?_)
    exact Run.ret hg rfl rfl

end Go.Proofs.YtilomajfcjpmnaaGreatDoor
