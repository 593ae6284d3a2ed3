/- Contracts of the program's functions, and what follows from them. -/
import Derived.Test.YtofakfkmglmhoaaGreatK7
set_option linter.unusedVariables false
set_option maxRecDepth 100000
set_option linter.unusedSimpArgs false
namespace Go.Proofs.YtofakfkmglmhoaaGreat
open Go Go.Av

/-! Racks that are spread: the program and the reference. -/

theorem mulP_le {P : Int} {m : Int} (hP : 0 ≤ P ∧ P ≤ 60) (hm : 0 ≤ m ∧ m ≤ 200) : 0 ≤ m * P ∧ m * P ≤ 12000 := by
  constructor
  · exact Int.mul_nonneg hm.1 hP.1
  · have h1 : m * P ≤ 200 * P := Int.mul_le_mul_of_nonneg_right hm.2 hP.1
    omega
theorem sp_take {P : Int} {L : List Bk} {j : Nat} (h : j < L.length) : (sp P L).take (j + 1) = (sp P L).take j ++ [⟨spA P L.length j, L[j]⟩] := by
  rw [List.take_succ_eq_append_getElem (by rw [sp_len]; exact h), sp_get h]

noncomputable def X71 : Fx := ⟨Tryz.prog, tys, 71, Tryz.f71, [0, 1]⟩
theorem X71_ok : X71.Ok := ⟨Tryz.func71, tys_ok⟩
theorem spread_ct (P : Int) (L : List Bk) (e : Bool) (hP : 1 ≤ P ∧ P ≤ 60) (hL : L.length ≤ 60) : Ct Tryz.prog 71 [i64 P, .ro 8 e (L.map bkA)] (rkO false ⟨P, sp P L⟩) [] := by
  have hP16 : IntKind.i16.wrap P = P := wrap_i16 (by omega) (by omega)
  refine Ct.intro X71 X71_ok rfl (by kernel_rfl) rfl rfl fun g hg => ?_
  repeat (refine Run.go rfl ?_)
  refine Run.val rfl rfl rfl (ValOk.build rfl rfl rfl rfl rfl) rfl ?_
  repeat (refine Run.go rfl ?_)
  refine Run.nilBox (5, 0) 1 9 false rfl rfl ?_
  obtain ⟨n, hn⟩ : ∃ n, n = L.length := ⟨_, rfl⟩
  refine Run.loop (fun j : Nat => ⟨[(0, i64 P), (4, .bp (4, 0) 0), (5, .bp (5, 0) 0), (6, i64 (n : Nat)), (14, .ro 8 e (L.map bkA)), (15, i64 (n : Nat)), (16, i64 (j : Nat))],
    [((4, 0), .box [i16 0, .lit (.slice none 0 0)]), ((5, 0), .box [i16 P, .own 9 false (((sp P L).take j).map plA)])]⟩) (fun j => j ≤ n) (fun j => n - j) 0 (by omega) ?_ ?_
  · refine St.Le.mk' ⟨rfl, rfl, rfl, ?_, rfl, ?_, rfl, trivial⟩ ⟨rfl, ?_, trivial⟩
    · show i64 ((L.map bkA).length : Nat) = _
      rw [List.length_map, hn]
    · show i64 ((L.map bkA).length : Nat) = _
      rw [List.length_map, hn]
    · show Ob.box [i16 (IntKind.i16.wrap P), _] = _
      rw [hP16]
      rfl
  intro j hj IH
  repeat (refine Run.go rfl ?_)
  refine Run.cond rfl (fun h => ?_) (fun h => ?_)
  · have hlt : j < L.length := by simp at h; omega
    have hst := sp_take (P := P) hlt
    rw [← hn] at hst
    have hDl : ((sp P L).take j).length = j := by rw [List.length_take, sp_len]; omega
    have hrg := spA_rng (P := P) (n := (n : Int)) (i := j) (by omega) (by omega)
    have hm := mulP_le (P := P) (m := 2 * (j : Int) + 1) (by omega) (by omega)
    have hwA : IntKind.i64.wrap (2 * (j : Int)) = 2 * j := wrap_i64 (by omega) (by omega)
    have hwB : IntKind.i64.wrap (2 * (j : Int) + 1) = 2 * j + 1 := wrap_i64 (by omega) (by omega)
    have hwC : IntKind.i64.wrap ((2 * (j : Int) + 1) * P) = (2 * (j : Int) + 1) * P := wrap_i64 (by omega) (by omega)
    have hwD : IntKind.i64.wrap (2 * (n : Int)) = 2 * n := wrap_i64 (by omega) (by omega)
    have hwE : IntKind.i64.wrap (((2 * (j : Int) + 1) * P).tdiv (2 * (n : Int))) = spA P n j := wrap_i64 (n := spA P n j) (by omega) (by omega)
    have hwF : IntKind.i16.wrap (spA P n j) = spA P n j := wrap_i16 (by omega) (by omega)
    generalize (sp P L).take j = D0 at hst hDl
    have hDm : (D0.map plA).length = D0.length := List.length_map ..
    repeat (refine Run.go rfl ?_)
    refine Run.val rfl rfl rfl (ValOk.idx (bkA L[j]) rfl rfl rfl rfl rfl (by omega) (by simp [hlt])) rfl ?_
    repeat (refine Run.go rfl ?_)
    refine Run.unBox (5, 0) 1 (5, 1) rfl rfl rfl (by decide) ?_
    rw [hDm]
    refine Run.drawI (fun D => ⟨[(0, i64 P), (4, .bp (4, 0) 0), (5, .bp (5, 0) 0), (6, i64 (n : Nat)), (7, i64 (j : Nat)), (8, .bp (8, 0) 0), (14, .ro 8 e (L.map bkA)), (15, i64 (n : Nat)), (16, i64 (j : Nat)), (21, bif D 0 then .bp (5, 0) 1 else .top), (22, bif D 1 then .vec (5, 1) 0 D0.length else .top), (23, bif D 2 then i64 (j : Nat) else .top), (24, bif D 3 then i64 (2 * (j : Int)) else .top), (25, bif D 4 then i64 (2 * (j : Int) + 1) else .top), (26, bif D 5 then i64 P else .top), (27, bif D 6 then i64 ((2 * (j : Int) + 1) * P) else .top), (28, bif D 7 then i64 (n : Nat) else .top), (29, bif D 8 then i64 (2 * (n : Int)) else .top), (30, bif D 9 then i64 (spA P n j) else .top), (31, bif D 10 then i16 (spA P n j) else .top), (32, bif D 11 then bkA L[j] else .top), (33, bif D 12 then plA ⟨spA P n j, L[j]⟩ else .top), (34, bif D 14 then .top else bif D 13 then .own 9 true [plA ⟨spA P n j, L[j]⟩] else .top), (35, bif D 16 then .top else bif D 14 then .own 9 false ((D0.map plA) ++ [plA ⟨spA P n j, L[j]⟩]) else .top), (36, bif D 15 then .bp (5, 0) 1 else .top)], [((4, 0), Ob.box [i16 0, .lit (.slice none 0 0)]), ((8, 0), Ob.box (bkA L[j]).cells), ((5, 0), (bif D 16 then Ob.box [i16 P, .vec (35, 0) 0 ((D0.map plA) ++ [plA ⟨spA P n j, L[j]⟩]).length] else Ob.box [i16 P, .vec (5, 1) 0 D0.length])), ((5, 1), (bif D 14 then Ob.gone else Ob.vec 9 false (D0.map plA))), ((35, 0), (bif D 16 then Ob.vec 9 false ((D0.map plA) ++ [plA ⟨spA P n j, L[j]⟩]) else Ob.gone))]⟩) (by decide +kernel) (by decide +kernel) ?_ ?_ fun k' => ⟨?_, ?_, ?_, ?_, ?_, ?_, ?_, ?_, ?_, ?_, ?_, ?_, ?_, ?_, ?_, ?_, ?_, trivial⟩
    · exact St.Le.mk' ⟨rfl, rfl, rfl, rfl, rfl, rfl, rfl, rfl, rfl, rfl, rfl, rfl, rfl, rfl, rfl, rfl, rfl, rfl, rfl, rfl, rfl, rfl, rfl, rfl, rfl, trivial⟩ ⟨rfl, rfl, rfl, rfl, rfl, trivial⟩
    rotate_left
    · intro D hid h0 hp hs rest hK
      obtain ⟨d1, -⟩ : AllD D false [1] := ideal_sub hs (by decide +kernel)
      simp only [d1, h0, cond_true, cond_false]
      refine Run.go rfl ?_
      refine Run.le ?_ hK
      simp only [d1, h0, Nat.reduceBEq, Bool.false_or, Bool.true_or, cond_true, cond_false]
      exact St.Le.mk' ⟨rfl, rfl, rfl, rfl, rfl, rfl, rfl, rfl, rfl, rfl, rfl, rfl, rfl, rfl, rfl, rfl, rfl, rfl, rfl, rfl, rfl, rfl, rfl, rfl, rfl, trivial⟩ ⟨rfl, rfl, rfl, rfl, rfl, trivial⟩
    · intro D hid h0 hp hs rest hK
      obtain ⟨d0, -⟩ : AllD D true [0] := ideal_sub hp (by decide +kernel)
      obtain ⟨d14, -⟩ : AllD D false [14] := ideal_sub hs (by decide +kernel)
      have d16 : D 16 = false := ideal_no (i := 16) (j := 1) hid (by decide +kernel) h0
      simp only [d0, d14, d16, h0, cond_true, cond_false]
      refine Run.go rfl ?_
      refine Run.le ?_ hK
      simp only [d0, d14, d16, h0, Nat.reduceBEq, Bool.false_or, Bool.true_or, cond_true, cond_false]
      exact St.Le.mk' ⟨rfl, rfl, rfl, rfl, rfl, rfl, rfl, rfl, rfl, rfl, rfl, rfl, rfl, rfl, rfl, rfl, rfl, rfl, rfl, rfl, rfl, rfl, rfl, rfl, rfl, trivial⟩ ⟨rfl, rfl, rfl, rfl, rfl, trivial⟩
    · intro D hid h0 hp hs rest hK
      obtain ⟨d3, -⟩ : AllD D false [3] := ideal_sub hs (by decide +kernel)
      simp only [d3, h0, cond_true, cond_false]
      refine Run.go rfl ?_
      refine Run.le ?_ hK
      simp only [d3, h0, Nat.reduceBEq, Bool.false_or, Bool.true_or, cond_true, cond_false]
      exact St.Le.mk' ⟨rfl, rfl, rfl, rfl, rfl, rfl, rfl, rfl, rfl, rfl, rfl, rfl, rfl, rfl, rfl, rfl, rfl, rfl, rfl, rfl, rfl, rfl, rfl, rfl, rfl, trivial⟩ ⟨rfl, rfl, rfl, rfl, rfl, trivial⟩
    · intro D hid h0 hp hs rest hK
      obtain ⟨d2, -⟩ : AllD D true [2] := ideal_sub hp (by decide +kernel)
      obtain ⟨d4, -⟩ : AllD D false [4] := ideal_sub hs (by decide +kernel)
      simp only [d2, d4, h0, cond_true, cond_false]
      refine Run.go rfl ?_
      rw [hwA]
      refine Run.le ?_ hK
      simp only [d2, d4, h0, Nat.reduceBEq, Bool.false_or, Bool.true_or, cond_true, cond_false]
      exact St.Le.mk' ⟨rfl, rfl, rfl, rfl, rfl, rfl, rfl, rfl, rfl, rfl, rfl, rfl, rfl, rfl, rfl, rfl, rfl, rfl, rfl, rfl, rfl, rfl, rfl, rfl, rfl, trivial⟩ ⟨rfl, rfl, rfl, rfl, rfl, trivial⟩
    · intro D hid h0 hp hs rest hK
      obtain ⟨d3, -⟩ : AllD D true [3] := ideal_sub hp (by decide +kernel)
      obtain ⟨d6, -⟩ : AllD D false [6] := ideal_sub hs (by decide +kernel)
      simp only [d3, d6, h0, cond_true, cond_false]
      refine Run.go rfl ?_
      rw [hwB]
      refine Run.le ?_ hK
      simp only [d3, d6, h0, Nat.reduceBEq, Bool.false_or, Bool.true_or, cond_true, cond_false]
      exact St.Le.mk' ⟨rfl, rfl, rfl, rfl, rfl, rfl, rfl, rfl, rfl, rfl, rfl, rfl, rfl, rfl, rfl, rfl, rfl, rfl, rfl, rfl, rfl, rfl, rfl, rfl, rfl, trivial⟩ ⟨rfl, rfl, rfl, rfl, rfl, trivial⟩
    · intro D hid h0 hp hs rest hK
      obtain ⟨d6, -⟩ : AllD D false [6] := ideal_sub hs (by decide +kernel)
      simp only [d6, h0, cond_true, cond_false]
      refine Run.go rfl ?_
      refine Run.le ?_ hK
      simp only [d6, h0, Nat.reduceBEq, Bool.false_or, Bool.true_or, cond_true, cond_false]
      exact St.Le.mk' ⟨rfl, rfl, rfl, rfl, rfl, rfl, rfl, rfl, rfl, rfl, rfl, rfl, rfl, rfl, rfl, rfl, rfl, rfl, rfl, rfl, rfl, rfl, rfl, rfl, rfl, trivial⟩ ⟨rfl, rfl, rfl, rfl, rfl, trivial⟩
    · intro D hid h0 hp hs rest hK
      obtain ⟨d4, d5, -⟩ : AllD D true [4, 5] := ideal_sub hp (by decide +kernel)
      obtain ⟨d9, -⟩ : AllD D false [9] := ideal_sub hs (by decide +kernel)
      simp only [d4, d5, d9, h0, cond_true, cond_false]
      refine Run.go rfl ?_
      rw [hwC]
      refine Run.le ?_ hK
      simp only [d4, d5, d9, h0, Nat.reduceBEq, Bool.false_or, Bool.true_or, cond_true, cond_false]
      exact St.Le.mk' ⟨rfl, rfl, rfl, rfl, rfl, rfl, rfl, rfl, rfl, rfl, rfl, rfl, rfl, rfl, rfl, rfl, rfl, rfl, rfl, rfl, rfl, rfl, rfl, rfl, rfl, trivial⟩ ⟨rfl, rfl, rfl, rfl, rfl, trivial⟩
    · intro D hid h0 hp hs rest hK
      obtain ⟨d8, -⟩ : AllD D false [8] := ideal_sub hs (by decide +kernel)
      simp only [d8, h0, cond_true, cond_false]
      refine Run.go rfl ?_
      refine Run.le ?_ hK
      simp only [d8, h0, Nat.reduceBEq, Bool.false_or, Bool.true_or, cond_true, cond_false]
      exact St.Le.mk' ⟨rfl, rfl, rfl, rfl, rfl, rfl, rfl, rfl, rfl, rfl, rfl, rfl, rfl, rfl, rfl, rfl, rfl, rfl, rfl, rfl, rfl, rfl, rfl, rfl, rfl, trivial⟩ ⟨rfl, rfl, rfl, rfl, rfl, trivial⟩
    · intro D hid h0 hp hs rest hK
      obtain ⟨d7, -⟩ : AllD D true [7] := ideal_sub hp (by decide +kernel)
      obtain ⟨d9, -⟩ : AllD D false [9] := ideal_sub hs (by decide +kernel)
      simp only [d7, d9, h0, cond_true, cond_false]
      refine Run.go rfl ?_
      rw [hwD]
      refine Run.le ?_ hK
      simp only [d7, d9, h0, Nat.reduceBEq, Bool.false_or, Bool.true_or, cond_true, cond_false]
      exact St.Le.mk' ⟨rfl, rfl, rfl, rfl, rfl, rfl, rfl, rfl, rfl, rfl, rfl, rfl, rfl, rfl, rfl, rfl, rfl, rfl, rfl, rfl, rfl, rfl, rfl, rfl, rfl, trivial⟩ ⟨rfl, rfl, rfl, rfl, rfl, trivial⟩
    · intro D hid h0 hp hs rest hK
      obtain ⟨d6, d8, -⟩ : AllD D true [6, 8] := ideal_sub hp (by decide +kernel)
      obtain ⟨d10, -⟩ : AllD D false [10] := ideal_sub hs (by decide +kernel)
      simp only [d6, d8, d10, h0, cond_true, cond_false]
      refine Run.val rfl rfl rfl (ValOk.of_aop (v := i64 (spA P n j)) (by show (bif decide ((2 * (n : Int)) = 0) then none else some (Value.int .i64 (IntKind.i64.wrap (((2 * (j : Int) + 1) * P).tdiv (2 * (n : Int)))))).map AV.lit = _; rw [decide_eq_false (by omega), hwE]; rfl)) rfl ?_
      refine Run.le ?_ hK
      simp only [d6, d8, d10, h0, Nat.reduceBEq, Bool.false_or, Bool.true_or, cond_true, cond_false]
      exact St.Le.mk' ⟨rfl, rfl, rfl, rfl, rfl, rfl, rfl, rfl, rfl, rfl, rfl, rfl, rfl, rfl, rfl, rfl, rfl, rfl, rfl, rfl, rfl, rfl, rfl, rfl, rfl, trivial⟩ ⟨rfl, rfl, rfl, rfl, rfl, trivial⟩
    · intro D hid h0 hp hs rest hK
      obtain ⟨d9, -⟩ : AllD D true [9] := ideal_sub hp (by decide +kernel)
      obtain ⟨d12, -⟩ : AllD D false [12] := ideal_sub hs (by decide +kernel)
      simp only [d9, d12, h0, cond_true, cond_false]
      refine Run.go rfl ?_
      rw [hwF]
      refine Run.le ?_ hK
      simp only [d9, d12, h0, Nat.reduceBEq, Bool.false_or, Bool.true_or, cond_true, cond_false]
      exact St.Le.mk' ⟨rfl, rfl, rfl, rfl, rfl, rfl, rfl, rfl, rfl, rfl, rfl, rfl, rfl, rfl, rfl, rfl, rfl, rfl, rfl, rfl, rfl, rfl, rfl, rfl, rfl, trivial⟩ ⟨rfl, rfl, rfl, rfl, rfl, trivial⟩
    · intro D hid h0 hp hs rest hK
      obtain ⟨d12, -⟩ : AllD D false [12] := ideal_sub hs (by decide +kernel)
      simp only [d12, h0, cond_true, cond_false]
      refine Run.go rfl ?_
      refine Run.le ?_ hK
      simp only [d12, h0, Nat.reduceBEq, Bool.false_or, Bool.true_or, cond_true, cond_false]
      exact St.Le.mk' ⟨rfl, rfl, rfl, rfl, rfl, rfl, rfl, rfl, rfl, rfl, rfl, rfl, rfl, rfl, rfl, rfl, rfl, rfl, rfl, rfl, rfl, rfl, rfl, rfl, rfl, trivial⟩ ⟨rfl, rfl, rfl, rfl, rfl, trivial⟩
    · intro D hid h0 hp hs rest hK
      obtain ⟨d10, d11, -⟩ : AllD D true [10, 11] := ideal_sub hp (by decide +kernel)
      obtain ⟨d13, -⟩ : AllD D false [13] := ideal_sub hs (by decide +kernel)
      simp only [d10, d11, d13, h0, cond_true, cond_false]
      refine Run.val rfl rfl rfl (ValOk.build rfl rfl rfl rfl rfl) rfl ?_
      refine Run.le ?_ hK
      simp only [d10, d11, d13, h0, Nat.reduceBEq, Bool.false_or, Bool.true_or, cond_true, cond_false]
      exact St.Le.mk' ⟨rfl, rfl, rfl, rfl, rfl, rfl, rfl, rfl, rfl, rfl, rfl, rfl, rfl, rfl, rfl, rfl, rfl, rfl, rfl, rfl, rfl, rfl, rfl, rfl, rfl, trivial⟩ ⟨rfl, rfl, rfl, rfl, rfl, trivial⟩
    · intro D hid h0 hp hs rest hK
      obtain ⟨d12, -⟩ : AllD D true [12] := ideal_sub hp (by decide +kernel)
      obtain ⟨d14, -⟩ : AllD D false [14] := ideal_sub hs (by decide +kernel)
      simp only [d12, d14, h0, cond_true, cond_false]
      refine Run.buildSlice [plA ⟨spA P n j, L[j]⟩] rfl rfl rfl rfl rfl rfl rfl rfl rfl rfl rfl rfl rfl rfl ?_
      refine Run.le ?_ hK
      simp only [d12, d14, h0, Nat.reduceBEq, Bool.false_or, Bool.true_or, cond_true, cond_false]
      exact St.Le.mk' ⟨rfl, rfl, rfl, rfl, rfl, rfl, rfl, rfl, rfl, rfl, rfl, rfl, rfl, rfl, rfl, rfl, rfl, rfl, rfl, rfl, rfl, rfl, rfl, rfl, rfl, trivial⟩ ⟨rfl, rfl, rfl, rfl, rfl, trivial⟩
    · intro D hid h0 hp hs rest hK
      obtain ⟨d1, d13, -⟩ : AllD D true [1, 13] := ideal_sub hp (by decide +kernel)
      obtain ⟨d16, -⟩ : AllD D false [16] := ideal_sub hs (by decide +kernel)
      simp only [d1, d13, d16, h0, cond_true, cond_false]
      refine Run.appendo (id := (5, 1)) rfl rfl rfl rfl rfl rfl rfl rfl rfl rfl rfl rfl hDm.symm rfl (by rw [hDm]; show (_ + 1) * 16 ≤ _; omega) (by rw [hDm]; show _ + 1 ≤ 9223372036854775807; omega) (by decide) rfl ?_
      refine Run.le ?_ hK
      simp only [d1, d13, d16, h0, Nat.reduceBEq, Bool.false_or, Bool.true_or, cond_true, cond_false]
      exact St.Le.mk' ⟨rfl, rfl, rfl, rfl, rfl, rfl, rfl, rfl, rfl, rfl, rfl, rfl, rfl, rfl, rfl, rfl, rfl, rfl, rfl, rfl, rfl, rfl, rfl, rfl, rfl, trivial⟩ ⟨rfl, rfl, rfl, rfl, rfl, trivial⟩
    · intro D hid h0 hp hs rest hK
      obtain ⟨d16, -⟩ : AllD D false [16] := ideal_sub hs (by decide +kernel)
      simp only [d16, h0, cond_true, cond_false]
      refine Run.go rfl ?_
      refine Run.le ?_ hK
      simp only [d16, h0, Nat.reduceBEq, Bool.false_or, Bool.true_or, cond_true, cond_false]
      exact St.Le.mk' ⟨rfl, rfl, rfl, rfl, rfl, rfl, rfl, rfl, rfl, rfl, rfl, rfl, rfl, rfl, rfl, rfl, rfl, rfl, rfl, rfl, rfl, rfl, rfl, rfl, rfl, trivial⟩ ⟨rfl, rfl, rfl, rfl, rfl, trivial⟩
    · intro D hid h0 hp hs rest hK
      obtain ⟨d14, d15, -⟩ : AllD D true [14, 15] := ideal_sub hp (by decide +kernel)
      have d1 : D 1 = true := hid 14 1 (by decide +kernel) (by decide +kernel) d14
      have d13 : D 13 = true := hid 14 13 (by decide +kernel) (by decide +kernel) d14
      have d12 : D 12 = true := hid 13 12 (by decide +kernel) (by decide +kernel) d13
      have d10 : D 10 = true := hid 12 10 (by decide +kernel) (by decide +kernel) d12
      have d11 : D 11 = true := hid 12 11 (by decide +kernel) (by decide +kernel) d12
      have d9 : D 9 = true := hid 10 9 (by decide +kernel) (by decide +kernel) d10
      have d6 : D 6 = true := hid 9 6 (by decide +kernel) (by decide +kernel) d9
      have d8 : D 8 = true := hid 9 8 (by decide +kernel) (by decide +kernel) d9
      have d7 : D 7 = true := hid 8 7 (by decide +kernel) (by decide +kernel) d8
      have d4 : D 4 = true := hid 6 4 (by decide +kernel) (by decide +kernel) d6
      have d5 : D 5 = true := hid 6 5 (by decide +kernel) (by decide +kernel) d6
      have d3 : D 3 = true := hid 4 3 (by decide +kernel) (by decide +kernel) d4
      have d2 : D 2 = true := hid 3 2 (by decide +kernel) (by decide +kernel) d3
      have d0 : D 0 = true := hid 1 0 (by decide +kernel) (by decide +kernel) d1
      simp only [d14, d15, d1, d13, d12, d10, d11, d9, d6, d8, d7, d4, d5, d3, d2, d0, h0, cond_true, cond_false]
      refine Run.unpack 35 rfl rfl ?_
      refine Run.go rfl ?_
      refine Run.forget 35 ?_
      refine Run.le ?_ hK
      simp only [d14, d15, d1, d13, d12, d10, d11, d9, d6, d8, d7, d4, d5, d3, d2, d0, h0, Nat.reduceBEq, Bool.false_or, Bool.true_or, cond_true, cond_false]
      exact St.Le.mk' ⟨rfl, rfl, rfl, rfl, rfl, rfl, rfl, rfl, rfl, rfl, rfl, rfl, rfl, rfl, rfl, rfl, rfl, rfl, rfl, rfl, rfl, rfl, rfl, rfl, rfl, trivial⟩ ⟨rfl, rfl, rfl, rfl, rfl, trivial⟩
    refine Run.packBox (5, 0) 1 rfl rfl rfl rfl ?_
    repeat (refine Run.go rfl ?_)
    refine Run.of (IH (j + 1) (by omega) (by omega)) ⟨rfl, rfl, rfl, rfl, rfl, rfl, ?_, trivial⟩ ⟨rfl, ?_, trivial⟩
    · show i64 (IntKind.i64.wrap _) = i64 _
      rw [wrap_i64 (by omega) (by omega)]
      rfl
    · show Ob.box [_, AV.own 9 false (D0.map plA ++ [plA ⟨spA P n j, L[j]⟩])] = _
      rw [hst, List.map_append]
      rfl
  · have hjn : j = n := by simp at h; omega
    subst hjn
    rw [hn, List.take_of_length_le (by rw [sp_len]; exact Nat.le_refl _)]
    repeat (refine Run.go rfl ?_)
    refine Run.unBox (5, 0) 1 (5, 1) rfl rfl rfl (by decide) ?_
    repeat (refine Run.go rfl ?_)
    refine Run.packBox (4, 0) 1 rfl rfl rfl rfl ?_
    exact Run.ret hg rfl rfl

noncomputable def X40 : Fx := ⟨Tryz.prog, tys, 40, Tryz.f40, [0, 1]⟩
theorem X40_ok : X40.Ok := ⟨Tryz.func40, tys_ok⟩
theorem l05Spread_ct (P : Int) (L : List Bk) (e : Bool) (hP : 1 ≤ P ∧ P ≤ 60) (hL : L.length ≤ 60) : Ct Tryz.prog 40 [i64 P, .ro 8 e (L.map bkA)] (rkO false ⟨P, sp P L⟩) [] := by
  have hP16 : IntKind.i16.wrap P = P := wrap_i16 (by omega) (by omega)
  refine Ct.intro X40 X40_ok rfl (by kernel_rfl) rfl rfl fun g hg => ?_
  repeat (refine Run.go rfl ?_)
  refine Run.val rfl rfl rfl (ValOk.build rfl rfl rfl rfl rfl) rfl ?_
  repeat (refine Run.go rfl ?_)
  refine Run.nilBox (5, 0) 1 9 false rfl rfl ?_
  obtain ⟨n, hn⟩ : ∃ n, n = L.length := ⟨_, rfl⟩
  refine Run.loop (fun j : Nat => ⟨[(0, i64 P), (4, .bp (4, 0) 0), (5, .bp (5, 0) 0), (6, i64 (n : Nat)), (1, .ro 8 e (L.map bkA)), (7, i64 (j : Nat))],
    [((4, 0), .box [i16 0, .lit (.slice none 0 0)]), ((5, 0), .box [i16 P, .own 9 false (((sp P L).take j).map plA)])]⟩) (fun j => j ≤ n) (fun j => n - j) 0 (by omega) ?_ ?_
  · refine St.Le.mk' ⟨rfl, rfl, rfl, ?_, rfl, rfl, trivial⟩ ⟨rfl, ?_, trivial⟩
    · show i64 ((L.map bkA).length : Nat) = _
      rw [List.length_map, hn]
    · show Ob.box [i16 (IntKind.i16.wrap P), _] = _
      rw [hP16]
      rfl
  intro j hj IH
  repeat (refine Run.go rfl ?_)
  refine Run.cond rfl (fun h => ?_) (fun h => ?_)
  · have hlt : j < L.length := by simp at h; omega
    have hst := sp_take (P := P) hlt
    rw [← hn] at hst
    have hDl : ((sp P L).take j).length = j := by rw [List.length_take, sp_len]; omega
    have hrg := spA_rng (P := P) (n := (n : Int)) (i := j) (by omega) (by omega)
    have hm := mulP_le (P := P) (m := 2 * (j : Int) + 1) (by omega) (by omega)
    have hwA : IntKind.i64.wrap (2 * (j : Int)) = 2 * j := wrap_i64 (by omega) (by omega)
    have hwB : IntKind.i64.wrap (2 * (j : Int) + 1) = 2 * j + 1 := wrap_i64 (by omega) (by omega)
    have hwC : IntKind.i64.wrap ((2 * (j : Int) + 1) * P) = (2 * (j : Int) + 1) * P := wrap_i64 (by omega) (by omega)
    have hwD : IntKind.i64.wrap (2 * (n : Int)) = 2 * n := wrap_i64 (by omega) (by omega)
    have hwE : IntKind.i64.wrap (((2 * (j : Int) + 1) * P).tdiv (2 * (n : Int))) = spA P n j := wrap_i64 (n := spA P n j) (by omega) (by omega)
    have hwF : IntKind.i16.wrap (spA P n j) = spA P n j := wrap_i16 (by omega) (by omega)
    generalize (sp P L).take j = D0 at hst hDl
    have hDm : (D0.map plA).length = D0.length := List.length_map ..
    repeat (refine Run.go rfl ?_)
    refine Run.unBox (5, 0) 1 (5, 1) rfl rfl rfl (by decide) ?_
    rw [hDm]
    refine Run.drawI (fun D => ⟨[(0, i64 P), (4, .bp (4, 0) 0), (5, .bp (5, 0) 0), (6, i64 (n : Nat)), (1, .ro 8 e (L.map bkA)), (7, i64 (j : Nat)), (18, bif D 0 then .bp (5, 0) 1 else .top), (19, bif D 1 then .vec (5, 1) 0 D0.length else .top), (20, bif D 2 then i64 (j : Nat) else .top), (21, bif D 3 then i64 (2 * (j : Int)) else .top), (22, bif D 4 then i64 (2 * (j : Int) + 1) else .top), (23, bif D 5 then i64 P else .top), (24, bif D 6 then i64 ((2 * (j : Int) + 1) * P) else .top), (25, bif D 7 then i64 (n : Nat) else .top), (26, bif D 8 then i64 (2 * (n : Int)) else .top), (27, bif D 9 then i64 (spA P n j) else .top), (28, bif D 10 then i16 (spA P n j) else .top), (29, bif D 11 then .ro 8 e (L.map bkA) else .top), (30, bif D 12 then i64 (j : Nat) else .top), (31, bif D 13 then .rp (bkA L[j]).cells 0 else .top), (32, bif D 14 then bkA L[j] else .top), (33, bif D 15 then plA ⟨spA P n j, L[j]⟩ else .top), (34, bif D 17 then .top else bif D 16 then .own 9 true [plA ⟨spA P n j, L[j]⟩] else .top), (35, bif D 19 then .top else bif D 17 then .own 9 false ((D0.map plA) ++ [plA ⟨spA P n j, L[j]⟩]) else .top), (36, bif D 18 then .bp (5, 0) 1 else .top)], [((4, 0), Ob.box [i16 0, .lit (.slice none 0 0)]), ((5, 0), (bif D 19 then Ob.box [i16 P, .vec (35, 0) 0 ((D0.map plA) ++ [plA ⟨spA P n j, L[j]⟩]).length] else Ob.box [i16 P, .vec (5, 1) 0 D0.length])), ((5, 1), (bif D 17 then Ob.gone else Ob.vec 9 false (D0.map plA))), ((35, 0), (bif D 19 then Ob.vec 9 false ((D0.map plA) ++ [plA ⟨spA P n j, L[j]⟩]) else Ob.gone))]⟩) (by decide +kernel) (by decide +kernel) ?_ ?_ fun k' => ⟨?_, ?_, ?_, ?_, ?_, ?_, ?_, ?_, ?_, ?_, ?_, ?_, ?_, ?_, ?_, ?_, ?_, ?_, ?_, ?_, trivial⟩
    · exact St.Le.mk' ⟨rfl, rfl, rfl, rfl, rfl, rfl, rfl, rfl, rfl, rfl, rfl, rfl, rfl, rfl, rfl, rfl, rfl, rfl, rfl, rfl, rfl, rfl, rfl, rfl, rfl, trivial⟩ ⟨rfl, rfl, rfl, rfl, trivial⟩
    rotate_left
    · intro D hid h0 hp hs rest hK
      obtain ⟨d1, -⟩ : AllD D false [1] := ideal_sub hs (by decide +kernel)
      simp only [d1, h0, cond_true, cond_false]
      refine Run.go rfl ?_
      refine Run.le ?_ hK
      simp only [d1, h0, Nat.reduceBEq, Bool.false_or, Bool.true_or, cond_true, cond_false]
      exact St.Le.mk' ⟨rfl, rfl, rfl, rfl, rfl, rfl, rfl, rfl, rfl, rfl, rfl, rfl, rfl, rfl, rfl, rfl, rfl, rfl, rfl, rfl, rfl, rfl, rfl, rfl, rfl, trivial⟩ ⟨rfl, rfl, rfl, rfl, trivial⟩
    · intro D hid h0 hp hs rest hK
      obtain ⟨d0, -⟩ : AllD D true [0] := ideal_sub hp (by decide +kernel)
      obtain ⟨d17, -⟩ : AllD D false [17] := ideal_sub hs (by decide +kernel)
      have d19 : D 19 = false := ideal_no (i := 19) (j := 1) hid (by decide +kernel) h0
      simp only [d0, d17, d19, h0, cond_true, cond_false]
      refine Run.go rfl ?_
      refine Run.le ?_ hK
      simp only [d0, d17, d19, h0, Nat.reduceBEq, Bool.false_or, Bool.true_or, cond_true, cond_false]
      exact St.Le.mk' ⟨rfl, rfl, rfl, rfl, rfl, rfl, rfl, rfl, rfl, rfl, rfl, rfl, rfl, rfl, rfl, rfl, rfl, rfl, rfl, rfl, rfl, rfl, rfl, rfl, rfl, trivial⟩ ⟨rfl, rfl, rfl, rfl, trivial⟩
    · intro D hid h0 hp hs rest hK
      obtain ⟨d3, -⟩ : AllD D false [3] := ideal_sub hs (by decide +kernel)
      simp only [d3, h0, cond_true, cond_false]
      refine Run.go rfl ?_
      refine Run.le ?_ hK
      simp only [d3, h0, Nat.reduceBEq, Bool.false_or, Bool.true_or, cond_true, cond_false]
      exact St.Le.mk' ⟨rfl, rfl, rfl, rfl, rfl, rfl, rfl, rfl, rfl, rfl, rfl, rfl, rfl, rfl, rfl, rfl, rfl, rfl, rfl, rfl, rfl, rfl, rfl, rfl, rfl, trivial⟩ ⟨rfl, rfl, rfl, rfl, trivial⟩
    · intro D hid h0 hp hs rest hK
      obtain ⟨d2, -⟩ : AllD D true [2] := ideal_sub hp (by decide +kernel)
      obtain ⟨d4, -⟩ : AllD D false [4] := ideal_sub hs (by decide +kernel)
      simp only [d2, d4, h0, cond_true, cond_false]
      refine Run.go rfl ?_
      rw [hwA]
      refine Run.le ?_ hK
      simp only [d2, d4, h0, Nat.reduceBEq, Bool.false_or, Bool.true_or, cond_true, cond_false]
      exact St.Le.mk' ⟨rfl, rfl, rfl, rfl, rfl, rfl, rfl, rfl, rfl, rfl, rfl, rfl, rfl, rfl, rfl, rfl, rfl, rfl, rfl, rfl, rfl, rfl, rfl, rfl, rfl, trivial⟩ ⟨rfl, rfl, rfl, rfl, trivial⟩
    · intro D hid h0 hp hs rest hK
      obtain ⟨d3, -⟩ : AllD D true [3] := ideal_sub hp (by decide +kernel)
      obtain ⟨d6, -⟩ : AllD D false [6] := ideal_sub hs (by decide +kernel)
      simp only [d3, d6, h0, cond_true, cond_false]
      refine Run.go rfl ?_
      rw [hwB]
      refine Run.le ?_ hK
      simp only [d3, d6, h0, Nat.reduceBEq, Bool.false_or, Bool.true_or, cond_true, cond_false]
      exact St.Le.mk' ⟨rfl, rfl, rfl, rfl, rfl, rfl, rfl, rfl, rfl, rfl, rfl, rfl, rfl, rfl, rfl, rfl, rfl, rfl, rfl, rfl, rfl, rfl, rfl, rfl, rfl, trivial⟩ ⟨rfl, rfl, rfl, rfl, trivial⟩
    · intro D hid h0 hp hs rest hK
      obtain ⟨d6, -⟩ : AllD D false [6] := ideal_sub hs (by decide +kernel)
      simp only [d6, h0, cond_true, cond_false]
      refine Run.go rfl ?_
      refine Run.le ?_ hK
      simp only [d6, h0, Nat.reduceBEq, Bool.false_or, Bool.true_or, cond_true, cond_false]
      exact St.Le.mk' ⟨rfl, rfl, rfl, rfl, rfl, rfl, rfl, rfl, rfl, rfl, rfl, rfl, rfl, rfl, rfl, rfl, rfl, rfl, rfl, rfl, rfl, rfl, rfl, rfl, rfl, trivial⟩ ⟨rfl, rfl, rfl, rfl, trivial⟩
    · intro D hid h0 hp hs rest hK
      obtain ⟨d4, d5, -⟩ : AllD D true [4, 5] := ideal_sub hp (by decide +kernel)
      obtain ⟨d9, -⟩ : AllD D false [9] := ideal_sub hs (by decide +kernel)
      simp only [d4, d5, d9, h0, cond_true, cond_false]
      refine Run.go rfl ?_
      rw [hwC]
      refine Run.le ?_ hK
      simp only [d4, d5, d9, h0, Nat.reduceBEq, Bool.false_or, Bool.true_or, cond_true, cond_false]
      exact St.Le.mk' ⟨rfl, rfl, rfl, rfl, rfl, rfl, rfl, rfl, rfl, rfl, rfl, rfl, rfl, rfl, rfl, rfl, rfl, rfl, rfl, rfl, rfl, rfl, rfl, rfl, rfl, trivial⟩ ⟨rfl, rfl, rfl, rfl, trivial⟩
    · intro D hid h0 hp hs rest hK
      obtain ⟨d8, -⟩ : AllD D false [8] := ideal_sub hs (by decide +kernel)
      simp only [d8, h0, cond_true, cond_false]
      refine Run.go rfl ?_
      refine Run.le ?_ hK
      simp only [d8, h0, Nat.reduceBEq, Bool.false_or, Bool.true_or, cond_true, cond_false]
      exact St.Le.mk' ⟨rfl, rfl, rfl, rfl, rfl, rfl, rfl, rfl, rfl, rfl, rfl, rfl, rfl, rfl, rfl, rfl, rfl, rfl, rfl, rfl, rfl, rfl, rfl, rfl, rfl, trivial⟩ ⟨rfl, rfl, rfl, rfl, trivial⟩
    · intro D hid h0 hp hs rest hK
      obtain ⟨d7, -⟩ : AllD D true [7] := ideal_sub hp (by decide +kernel)
      obtain ⟨d9, -⟩ : AllD D false [9] := ideal_sub hs (by decide +kernel)
      simp only [d7, d9, h0, cond_true, cond_false]
      refine Run.go rfl ?_
      rw [hwD]
      refine Run.le ?_ hK
      simp only [d7, d9, h0, Nat.reduceBEq, Bool.false_or, Bool.true_or, cond_true, cond_false]
      exact St.Le.mk' ⟨rfl, rfl, rfl, rfl, rfl, rfl, rfl, rfl, rfl, rfl, rfl, rfl, rfl, rfl, rfl, rfl, rfl, rfl, rfl, rfl, rfl, rfl, rfl, rfl, rfl, trivial⟩ ⟨rfl, rfl, rfl, rfl, trivial⟩
    · intro D hid h0 hp hs rest hK
      obtain ⟨d6, d8, -⟩ : AllD D true [6, 8] := ideal_sub hp (by decide +kernel)
      obtain ⟨d10, -⟩ : AllD D false [10] := ideal_sub hs (by decide +kernel)
      simp only [d6, d8, d10, h0, cond_true, cond_false]
      refine Run.val rfl rfl rfl (ValOk.of_aop (v := i64 (spA P n j)) (by show (bif decide ((2 * (n : Int)) = 0) then none else some (Value.int .i64 (IntKind.i64.wrap (((2 * (j : Int) + 1) * P).tdiv (2 * (n : Int)))))).map AV.lit = _; rw [decide_eq_false (by omega), hwE]; rfl)) rfl ?_
      refine Run.le ?_ hK
      simp only [d6, d8, d10, h0, Nat.reduceBEq, Bool.false_or, Bool.true_or, cond_true, cond_false]
      exact St.Le.mk' ⟨rfl, rfl, rfl, rfl, rfl, rfl, rfl, rfl, rfl, rfl, rfl, rfl, rfl, rfl, rfl, rfl, rfl, rfl, rfl, rfl, rfl, rfl, rfl, rfl, rfl, trivial⟩ ⟨rfl, rfl, rfl, rfl, trivial⟩
    · intro D hid h0 hp hs rest hK
      obtain ⟨d9, -⟩ : AllD D true [9] := ideal_sub hp (by decide +kernel)
      obtain ⟨d15, -⟩ : AllD D false [15] := ideal_sub hs (by decide +kernel)
      simp only [d9, d15, h0, cond_true, cond_false]
      refine Run.go rfl ?_
      rw [hwF]
      refine Run.le ?_ hK
      simp only [d9, d15, h0, Nat.reduceBEq, Bool.false_or, Bool.true_or, cond_true, cond_false]
      exact St.Le.mk' ⟨rfl, rfl, rfl, rfl, rfl, rfl, rfl, rfl, rfl, rfl, rfl, rfl, rfl, rfl, rfl, rfl, rfl, rfl, rfl, rfl, rfl, rfl, rfl, rfl, rfl, trivial⟩ ⟨rfl, rfl, rfl, rfl, trivial⟩
    · intro D hid h0 hp hs rest hK
      obtain ⟨d13, -⟩ : AllD D false [13] := ideal_sub hs (by decide +kernel)
      simp only [d13, h0, cond_true, cond_false]
      refine Run.go rfl ?_
      refine Run.le ?_ hK
      simp only [d13, h0, Nat.reduceBEq, Bool.false_or, Bool.true_or, cond_true, cond_false]
      exact St.Le.mk' ⟨rfl, rfl, rfl, rfl, rfl, rfl, rfl, rfl, rfl, rfl, rfl, rfl, rfl, rfl, rfl, rfl, rfl, rfl, rfl, rfl, rfl, rfl, rfl, rfl, rfl, trivial⟩ ⟨rfl, rfl, rfl, rfl, trivial⟩
    · intro D hid h0 hp hs rest hK
      obtain ⟨d13, -⟩ : AllD D false [13] := ideal_sub hs (by decide +kernel)
      simp only [d13, h0, cond_true, cond_false]
      refine Run.go rfl ?_
      refine Run.le ?_ hK
      simp only [d13, h0, Nat.reduceBEq, Bool.false_or, Bool.true_or, cond_true, cond_false]
      exact St.Le.mk' ⟨rfl, rfl, rfl, rfl, rfl, rfl, rfl, rfl, rfl, rfl, rfl, rfl, rfl, rfl, rfl, rfl, rfl, rfl, rfl, rfl, rfl, rfl, rfl, rfl, rfl, trivial⟩ ⟨rfl, rfl, rfl, rfl, trivial⟩
    · intro D hid h0 hp hs rest hK
      obtain ⟨d11, d12, -⟩ : AllD D true [11, 12] := ideal_sub hp (by decide +kernel)
      obtain ⟨d14, -⟩ : AllD D false [14] := ideal_sub hs (by decide +kernel)
      simp only [d11, d12, d14, h0, cond_true, cond_false]
      refine Run.val rfl rfl rfl (ValOk.idx (bkA L[j]) rfl rfl rfl rfl rfl (by omega) (by simp [hlt])) rfl ?_
      refine Run.le ?_ hK
      simp only [d11, d12, d14, h0, Nat.reduceBEq, Bool.false_or, Bool.true_or, cond_true, cond_false]
      exact St.Le.mk' ⟨rfl, rfl, rfl, rfl, rfl, rfl, rfl, rfl, rfl, rfl, rfl, rfl, rfl, rfl, rfl, rfl, rfl, rfl, rfl, rfl, rfl, rfl, rfl, rfl, rfl, trivial⟩ ⟨rfl, rfl, rfl, rfl, trivial⟩
    · intro D hid h0 hp hs rest hK
      obtain ⟨d13, -⟩ : AllD D true [13] := ideal_sub hp (by decide +kernel)
      obtain ⟨d15, -⟩ : AllD D false [15] := ideal_sub hs (by decide +kernel)
      simp only [d13, d15, h0, cond_true, cond_false]
      refine Run.go rfl ?_
      refine Run.le ?_ hK
      simp only [d13, d15, h0, Nat.reduceBEq, Bool.false_or, Bool.true_or, cond_true, cond_false]
      exact St.Le.mk' ⟨rfl, rfl, rfl, rfl, rfl, rfl, rfl, rfl, rfl, rfl, rfl, rfl, rfl, rfl, rfl, rfl, rfl, rfl, rfl, rfl, rfl, rfl, rfl, rfl, rfl, trivial⟩ ⟨rfl, rfl, rfl, rfl, trivial⟩
    · intro D hid h0 hp hs rest hK
      obtain ⟨d10, d14, -⟩ : AllD D true [10, 14] := ideal_sub hp (by decide +kernel)
      obtain ⟨d16, -⟩ : AllD D false [16] := ideal_sub hs (by decide +kernel)
      simp only [d10, d14, d16, h0, cond_true, cond_false]
      refine Run.val rfl rfl rfl (ValOk.build rfl rfl rfl rfl rfl) rfl ?_
      refine Run.le ?_ hK
      simp only [d10, d14, d16, h0, Nat.reduceBEq, Bool.false_or, Bool.true_or, cond_true, cond_false]
      exact St.Le.mk' ⟨rfl, rfl, rfl, rfl, rfl, rfl, rfl, rfl, rfl, rfl, rfl, rfl, rfl, rfl, rfl, rfl, rfl, rfl, rfl, rfl, rfl, rfl, rfl, rfl, rfl, trivial⟩ ⟨rfl, rfl, rfl, rfl, trivial⟩
    · intro D hid h0 hp hs rest hK
      obtain ⟨d15, -⟩ : AllD D true [15] := ideal_sub hp (by decide +kernel)
      obtain ⟨d17, -⟩ : AllD D false [17] := ideal_sub hs (by decide +kernel)
      simp only [d15, d17, h0, cond_true, cond_false]
      refine Run.buildSlice [plA ⟨spA P n j, L[j]⟩] rfl rfl rfl rfl rfl rfl rfl rfl rfl rfl rfl rfl rfl rfl ?_
      refine Run.le ?_ hK
      simp only [d15, d17, h0, Nat.reduceBEq, Bool.false_or, Bool.true_or, cond_true, cond_false]
      exact St.Le.mk' ⟨rfl, rfl, rfl, rfl, rfl, rfl, rfl, rfl, rfl, rfl, rfl, rfl, rfl, rfl, rfl, rfl, rfl, rfl, rfl, rfl, rfl, rfl, rfl, rfl, rfl, trivial⟩ ⟨rfl, rfl, rfl, rfl, trivial⟩
    · intro D hid h0 hp hs rest hK
      obtain ⟨d1, d16, -⟩ : AllD D true [1, 16] := ideal_sub hp (by decide +kernel)
      obtain ⟨d19, -⟩ : AllD D false [19] := ideal_sub hs (by decide +kernel)
      simp only [d1, d16, d19, h0, cond_true, cond_false]
      refine Run.appendo (id := (5, 1)) rfl rfl rfl rfl rfl rfl rfl rfl rfl rfl rfl rfl hDm.symm rfl (by rw [hDm]; show (_ + 1) * 16 ≤ _; omega) (by rw [hDm]; show _ + 1 ≤ 9223372036854775807; omega) (by decide) rfl ?_
      refine Run.le ?_ hK
      simp only [d1, d16, d19, h0, Nat.reduceBEq, Bool.false_or, Bool.true_or, cond_true, cond_false]
      exact St.Le.mk' ⟨rfl, rfl, rfl, rfl, rfl, rfl, rfl, rfl, rfl, rfl, rfl, rfl, rfl, rfl, rfl, rfl, rfl, rfl, rfl, rfl, rfl, rfl, rfl, rfl, rfl, trivial⟩ ⟨rfl, rfl, rfl, rfl, trivial⟩
    · intro D hid h0 hp hs rest hK
      obtain ⟨d19, -⟩ : AllD D false [19] := ideal_sub hs (by decide +kernel)
      simp only [d19, h0, cond_true, cond_false]
      refine Run.go rfl ?_
      refine Run.le ?_ hK
      simp only [d19, h0, Nat.reduceBEq, Bool.false_or, Bool.true_or, cond_true, cond_false]
      exact St.Le.mk' ⟨rfl, rfl, rfl, rfl, rfl, rfl, rfl, rfl, rfl, rfl, rfl, rfl, rfl, rfl, rfl, rfl, rfl, rfl, rfl, rfl, rfl, rfl, rfl, rfl, rfl, trivial⟩ ⟨rfl, rfl, rfl, rfl, trivial⟩
    · intro D hid h0 hp hs rest hK
      obtain ⟨d17, d18, -⟩ : AllD D true [17, 18] := ideal_sub hp (by decide +kernel)
      have d1 : D 1 = true := hid 17 1 (by decide +kernel) (by decide +kernel) d17
      have d16 : D 16 = true := hid 17 16 (by decide +kernel) (by decide +kernel) d17
      have d15 : D 15 = true := hid 16 15 (by decide +kernel) (by decide +kernel) d16
      have d10 : D 10 = true := hid 15 10 (by decide +kernel) (by decide +kernel) d15
      have d14 : D 14 = true := hid 15 14 (by decide +kernel) (by decide +kernel) d15
      have d9 : D 9 = true := hid 10 9 (by decide +kernel) (by decide +kernel) d10
      have d6 : D 6 = true := hid 9 6 (by decide +kernel) (by decide +kernel) d9
      have d8 : D 8 = true := hid 9 8 (by decide +kernel) (by decide +kernel) d9
      have d7 : D 7 = true := hid 8 7 (by decide +kernel) (by decide +kernel) d8
      have d4 : D 4 = true := hid 6 4 (by decide +kernel) (by decide +kernel) d6
      have d5 : D 5 = true := hid 6 5 (by decide +kernel) (by decide +kernel) d6
      have d3 : D 3 = true := hid 4 3 (by decide +kernel) (by decide +kernel) d4
      have d2 : D 2 = true := hid 3 2 (by decide +kernel) (by decide +kernel) d3
      have d0 : D 0 = true := hid 1 0 (by decide +kernel) (by decide +kernel) d1
      have d13 : D 13 = true := hid 14 13 (by decide +kernel) (by decide +kernel) d14
      have d11 : D 11 = true := hid 13 11 (by decide +kernel) (by decide +kernel) d13
      have d12 : D 12 = true := hid 13 12 (by decide +kernel) (by decide +kernel) d13
      simp only [d17, d18, d1, d16, d15, d10, d14, d9, d6, d8, d7, d4, d5, d3, d2, d0, d13, d11, d12, h0, cond_true, cond_false]
      refine Run.unpack 35 rfl rfl ?_
      refine Run.go rfl ?_
      refine Run.forget 35 ?_
      refine Run.le ?_ hK
      simp only [d17, d18, d1, d16, d15, d10, d14, d9, d6, d8, d7, d4, d5, d3, d2, d0, d13, d11, d12, h0, Nat.reduceBEq, Bool.false_or, Bool.true_or, cond_true, cond_false]
      exact St.Le.mk' ⟨rfl, rfl, rfl, rfl, rfl, rfl, rfl, rfl, rfl, rfl, rfl, rfl, rfl, rfl, rfl, rfl, rfl, rfl, rfl, rfl, rfl, rfl, rfl, rfl, rfl, trivial⟩ ⟨rfl, rfl, rfl, rfl, trivial⟩
    refine Run.packBox (5, 0) 1 rfl rfl rfl rfl ?_
    repeat (refine Run.go rfl ?_)
    refine Run.of (IH (j + 1) (by omega) (by omega)) ⟨rfl, rfl, rfl, rfl, rfl, ?_, trivial⟩ ⟨rfl, ?_, trivial⟩
    · show i64 (IntKind.i64.wrap _) = i64 _
      rw [wrap_i64 (by omega) (by omega)]
      rfl
    · show Ob.box [_, AV.own 9 false (D0.map plA ++ [plA ⟨spA P n j, L[j]⟩])] = _
      rw [hst, List.map_append]
      rfl
  · have hjn : j = n := by simp at h; omega
    subst hjn
    rw [hn, List.take_of_length_le (by rw [sp_len]; exact Nat.le_refl _)]
    repeat (refine Run.go rfl ?_)
    refine Run.unBox (5, 0) 1 (5, 1) rfl rfl rfl (by decide) ?_
    repeat (refine Run.go rfl ?_)
    refine Run.packBox (4, 0) 1 rfl rfl rfl rfl ?_
    exact Run.ret hg rfl rfl
end Go.Proofs.YtofakfkmglmhoaaGreat
