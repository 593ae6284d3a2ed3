/- Parts of a proof, in one text: K8, K9, K10, K12, K13, SA, SB, SC, SP, E1, E2, E3, E4, E6, EAm, E7, E12, E13, E8, EAn, E16, E17, E18, E19, EAo, E32, E33, E36, E37. -/
import Derived.Test.YtbkelajnngdimaaGreatDoorMI
import Derived.Shelf.Strings.Builder1
import Derived.Shelf.Strings.Builder2
import Derived.Shelf.Strings.OnBuilder
import Derived.Shelf.Small.Strs
import Derived.Shelf.Strings.BuilderF
import Derived.Shelf.Strings.BuilderK
import Derived.Shelf.Utf8.RuneCount
import Derived.Shelf.Strings.Builder2Cap
import Derived.Shelf.Strconv.Atoi
import Derived.Shelf.Strconv.Itoa0
import Derived.Shelf.Strconv.Itoa1
import Derived.Shelf.LaysM
import Derived.Shelf.Strconv.Itoa2
import Derived.Shelf.Strconv.Itoa3
import Derived.Shelf.Strconv.Itoa4
import Derived.Shelf.Strconv.AtoiErrFast
import Derived.Shelf.Strconv.ParseIntEmpty
import Derived.Shelf.Strconv.AtoiFail
import Derived.Shelf.Strconv.Clone
import Derived.Shelf.Strconv.SyntaxError
import Derived.Shelf.LaysC
import Derived.Shelf.Strconv.ToError
import Derived.Shelf.Strconv.Lower
import Derived.Shelf.Strconv.ParseUint10
import Derived.Shelf.Strconv.ParseUint10Empty
import Derived.Shelf.Strconv.ParseUint10Any
import Derived.Shelf.Strconv.ParseInt10
import Derived.Shelf.Strconv.AtoiLong
import Derived.Shelf.Strconv.AtoiInnerAll
import Derived.Shelf.Strconv.RangeError
import Derived.Shelf.Strconv.ToErrorRange
import Derived.Shelf.Strconv.AtoiAll
import Derived.Shelf.Strconv.ErrVarAll
import Derived.Shelf.Strconv.ParseUintEmpty
import Derived.Shelf.Strconv.ParseUint10b64
import Derived.Shelf.Strconv.ParseUint10b32
import Derived.Shelf.Strconv.ParseUint10b16
import Derived.Shelf.Strconv.ParseUint10b8
import Derived.Shelf.Strconv.ParseUint10At
import Derived.Shelf.Strconv.ParseInt10At64
import Derived.Shelf.Strconv.ParseInt10At32
import Derived.Shelf.Strconv.ParseInt10At16
import Derived.Shelf.Strconv.ParseInt10At8
import Derived.Shelf.Strconv.ParseInt10All
import Derived.Shelf.Strconv.ParseIntPublic10
import Derived.Shelf.Strconv.ErrVarParseInt
import Derived.Shelf.Strings.Search1
import Derived.Shelf.Strings.Search2
import Derived.Shelf.Strings.Search3
import Derived.Shelf.Strings.Cut
import Derived.Shelf.Strings.Count
import Derived.Shelf.Strings.Shaped
import Derived.Shelf.Strings.Prefix
import Derived.Shelf.Strings.Split
import Derived.Shelf.Strings.SplitShaped
import Derived.Shelf.Unicode.Decode
import Derived.Shelf.Strings.RuneCount
import Derived.Shelf.Strings.Explode
import Derived.Shelf.Bits.Mul64
import Derived.Shelf.Strings.Repeat
import Derived.Shelf.Unicode.DecodeSlow
import Derived.Shelf.Unicode.DecodeAny
import Derived.Shelf.Slices.Turned
import Derived.Shelf.Slices.Reverse
import Derived.Ground.Names2Prog
import Derived.Shelf.Slices.Delete
import Derived.Shelf.Slices.Cells
import Derived.Shelf.Slices.Empties
import Derived.Test.YtbkelajnngdimaaGreatDoorProg
import Derived.Test.YtbkelajnngdimaaGreatDoorMD
import Derived.Test.YtbkelajnngdimaaGreatDoorMH
import Derived.Test.YtbkelajnngdimaaGreatDoorMF
import Derived.Lib.ItoaLen
import Derived.WalkKit
import Derived.BigCall
import Derived.BigGuard
import Derived.Lib.Builder
import Derived.Lib.Walk
import Derived.Test.YtbkelajnngdimaaGreatDoorMC
import Derived.Lib.Bytealg
import Derived.Test.YtbkelajnngdimaaGreatDoorRows
import Derived.Stop.LaidErr
import Derived.Lib.Join
import Derived.Lib.AtoiTie
import Derived.Lib.SplitLaws
import Derived.Lib.IndexLaws
import Derived.Lib.IndexBytes
import Derived.Lib.ParseIntBCases
import Derived.Shelf.Vars
set_option linter.unusedVariables false

/- Contracts of the program's functions, and what follows from them. -/
set_option maxRecDepth 100000
namespace Go.Proofs.YtbkelajnngdimaaGreatDoor
open Go Go.Av
theorem mulP_le {P : Int} {m : Int} (hP : 0 ≤ P ∧ P ≤ 60) (hm : 0 ≤ m ∧ m ≤ 200) : 0 ≤ m * P ∧ m * P ≤ 12000 := by
  constructor
  · exact Int.mul_nonneg hm.1 hP.1
  · have h1 : m * P ≤ 200 * P := Int.mul_le_mul_of_nonneg_right hm.2 hP.1
    omega
theorem sp_take {P : Int} {L : List Bk} {j : Nat} (h : j < L.length) : (sp P L).take (j + 1) = (sp P L).take j ++ [⟨spA P L.length j, L[j]⟩] := by
  rw [List.take_succ_eq_append_getElem (by rw [sp_len]; exact h), sp_get h]
noncomputable def X105 : Fx := ⟨Tryz.prog, tys, 105, Tryz.f105, [0, 1]⟩
theorem X105_ok : X105.Ok := ⟨Tryz.func105, tys_ok⟩
theorem spread_ct (P : Int) (L : List Bk) (e : Bool) (hP : 1 ≤ P ∧ P ≤ 60) (hL : L.length ≤ 60) : Ct Tryz.prog 105 [i64 P, .ro 8 e (L.map bkA)] (rkO false ⟨P, sp P L⟩) [] := by
  have hP16 : IntKind.i16.wrap P = P := wrap_i16 (by omega) (by omega)
  refine Ct.intro X105 X105_ok rfl (by kernel_rfl) rfl rfl fun g hg => ?_
  repeat (refine Run.go rfl ?_)
  refine Run.val rfl rfl rfl (ValOk.build rfl rfl rfl rfl rfl) rfl ?_
  repeat (refine Run.go rfl ?_)
  refine Run.nilBox (5, 0) 1 9 false rfl rfl ?_
  obtain ⟨n, hn⟩ : ∃ n, n = L.length := ⟨_, rfl⟩
  refine Run.loop (fun j : Nat => ⟨[(0, i64 P), (4, .bp (4, 0) 0), (5, .bp (5, 0) 0), (6, i64 (n : Nat)), (14, .ro 8 e (L.map bkA)), (15, i64 (n : Nat)), (16, i64 (j : Nat))],
    [((4, 0), .box [i16 0, .lit (.slice none 0 0)]), ((5, 0), .box [i16 P, .own 9 false (((sp P L).take j).map plA)])]⟩) (fun j => j ≤ n) (fun j => n - j) 0 (by omega) ?_ ?_
  · refine St.Le.mk' ⟨rfl, rfl, rfl, ?_, rfl, ?_, rfl, trivial⟩ ⟨rfl, ?_, trivial⟩
    · show i64 ((L.map bkA).length : Nat) = _
      rw [List.length_map, hn]
    · show i64 ((L.map bkA).length : Nat) = _
      rw [List.length_map, hn]
    · show Ob.box [i16 (IntKind.i16.wrap P), _] = _
      rw [hP16]
      rfl
  intro j hj IH
  repeat (refine Run.go rfl ?_)
  refine Run.cond rfl (fun h => ?_) (fun h => ?_)
  · have hlt : j < L.length := by simp at h; omega
    have hst := sp_take (P := P) hlt
    rw [← hn] at hst
    have hDl : ((sp P L).take j).length = j := by rw [List.length_take, sp_len]; omega
    have hrg := spA_rng (P := P) (n := (n : Int)) (i := j) (by omega) (by omega)
    have hm := mulP_le (P := P) (m := 2 * (j : Int) + 1) (by omega) (by omega)
    have hwA : IntKind.i64.wrap (2 * (j : Int)) = 2 * j := wrap_i64 (by omega) (by omega)
    have hwB : IntKind.i64.wrap (2 * (j : Int) + 1) = 2 * j + 1 := wrap_i64 (by omega) (by omega)
    have hwC : IntKind.i64.wrap ((2 * (j : Int) + 1) * P) = (2 * (j : Int) + 1) * P := wrap_i64 (by omega) (by omega)
    have hwD : IntKind.i64.wrap (2 * (n : Int)) = 2 * n := wrap_i64 (by omega) (by omega)
    have hwE : IntKind.i64.wrap (((2 * (j : Int) + 1) * P).tdiv (2 * (n : Int))) = spA P n j := wrap_i64 (n := spA P n j) (by omega) (by omega)
    have hwF : IntKind.i16.wrap (spA P n j) = spA P n j := wrap_i16 (by omega) (by omega)
    generalize (sp P L).take j = D0 at hst hDl
    have hDm : (D0.map plA).length = D0.length := List.length_map ..
    repeat (refine Run.go rfl ?_)
    refine Run.val rfl rfl rfl (ValOk.idx (bkA L[j]) rfl rfl rfl rfl rfl (by omega) (by simp [hlt])) rfl ?_
    repeat (refine Run.go rfl ?_)
    refine Run.unBox (5, 0) 1 (5, 1) rfl rfl rfl (by decide) ?_
    rw [hDm]
    refine Run.drawI (fun D => ⟨[(0, i64 P), (4, .bp (4, 0) 0), (5, .bp (5, 0) 0), (6, i64 (n : Nat)), (7, i64 (j : Nat)), (8, .bp (8, 0) 0), (14, .ro 8 e (L.map bkA)), (15, i64 (n : Nat)), (16, i64 (j : Nat)), (21, bif D 0 then .bp (5, 0) 1 else .top), (22, bif D 1 then .vec (5, 1) 0 D0.length else .top), (23, bif D 2 then i64 (j : Nat) else .top), (24, bif D 3 then i64 (2 * (j : Int)) else .top), (25, bif D 4 then i64 (2 * (j : Int) + 1) else .top), (26, bif D 5 then i64 P else .top), (27, bif D 6 then i64 ((2 * (j : Int) + 1) * P) else .top), (28, bif D 7 then i64 (n : Nat) else .top), (29, bif D 8 then i64 (2 * (n : Int)) else .top), (30, bif D 9 then i64 (spA P n j) else .top), (31, bif D 10 then i16 (spA P n j) else .top), (32, bif D 11 then bkA L[j] else .top), (33, bif D 12 then plA ⟨spA P n j, L[j]⟩ else .top), (34, bif D 14 then .top else bif D 13 then .own 9 true [plA ⟨spA P n j, L[j]⟩] else .top), (35, bif D 16 then .top else bif D 14 then .own 9 false ((D0.map plA) ++ [plA ⟨spA P n j, L[j]⟩]) else .top), (36, bif D 15 then .bp (5, 0) 1 else .top)], [((4, 0), Ob.box [i16 0, .lit (.slice none 0 0)]), ((8, 0), Ob.box (bkA L[j]).cells), ((5, 0), (bif D 16 then Ob.box [i16 P, .vec (35, 0) 0 ((D0.map plA) ++ [plA ⟨spA P n j, L[j]⟩]).length] else Ob.box [i16 P, .vec (5, 1) 0 D0.length])), ((5, 1), (bif D 14 then Ob.gone else Ob.vec 9 false (D0.map plA))), ((35, 0), (bif D 16 then Ob.vec 9 false ((D0.map plA) ++ [plA ⟨spA P n j, L[j]⟩]) else Ob.gone))]⟩) (by decide +kernel) (by decide +kernel) ?_ ?_ fun k' => ⟨?_, ?_, ?_, ?_, ?_, ?_, ?_, ?_, ?_, ?_, ?_, ?_, ?_, ?_, ?_, ?_, ?_, trivial⟩
    · exact St.Le.mk' ⟨rfl, rfl, rfl, rfl, rfl, rfl, rfl, rfl, rfl, rfl, rfl, rfl, rfl, rfl, rfl, rfl, rfl, rfl, rfl, rfl, rfl, rfl, rfl, rfl, rfl, trivial⟩ ⟨rfl, rfl, rfl, rfl, rfl, trivial⟩
    rotate_left
    · intro D hid h0 hp hs rest hK
      obtain ⟨d1, -⟩ : AllD D false [1] := ideal_sub hs (by decide +kernel)
      simp only [d1, h0, cond_true, cond_false]
      refine Run.go rfl ?_
      refine Run.le ?_ hK
      simp only [d1, h0, Nat.reduceBEq, Bool.false_or, Bool.true_or, cond_true, cond_false]
      exact St.Le.mk' ⟨rfl, rfl, rfl, rfl, rfl, rfl, rfl, rfl, rfl, rfl, rfl, rfl, rfl, rfl, rfl, rfl, rfl, rfl, rfl, rfl, rfl, rfl, rfl, rfl, rfl, trivial⟩ ⟨rfl, rfl, rfl, rfl, rfl, trivial⟩
    · intro D hid h0 hp hs rest hK
      obtain ⟨d0, -⟩ : AllD D true [0] := ideal_sub hp (by decide +kernel)
      obtain ⟨d14, -⟩ : AllD D false [14] := ideal_sub hs (by decide +kernel)
      have d16 : D 16 = false := ideal_no (i := 16) (j := 1) hid (by decide +kernel) h0
      simp only [d0, d14, d16, h0, cond_true, cond_false]
      refine Run.go rfl ?_
      refine Run.le ?_ hK
      simp only [d0, d14, d16, h0, Nat.reduceBEq, Bool.false_or, Bool.true_or, cond_true, cond_false]
      exact St.Le.mk' ⟨rfl, rfl, rfl, rfl, rfl, rfl, rfl, rfl, rfl, rfl, rfl, rfl, rfl, rfl, rfl, rfl, rfl, rfl, rfl, rfl, rfl, rfl, rfl, rfl, rfl, trivial⟩ ⟨rfl, rfl, rfl, rfl, rfl, trivial⟩
    · intro D hid h0 hp hs rest hK
      obtain ⟨d3, -⟩ : AllD D false [3] := ideal_sub hs (by decide +kernel)
      simp only [d3, h0, cond_true, cond_false]
      refine Run.go rfl ?_
      refine Run.le ?_ hK
      simp only [d3, h0, Nat.reduceBEq, Bool.false_or, Bool.true_or, cond_true, cond_false]
      exact St.Le.mk' ⟨rfl, rfl, rfl, rfl, rfl, rfl, rfl, rfl, rfl, rfl, rfl, rfl, rfl, rfl, rfl, rfl, rfl, rfl, rfl, rfl, rfl, rfl, rfl, rfl, rfl, trivial⟩ ⟨rfl, rfl, rfl, rfl, rfl, trivial⟩
    · intro D hid h0 hp hs rest hK
      obtain ⟨d2, -⟩ : AllD D true [2] := ideal_sub hp (by decide +kernel)
      obtain ⟨d4, -⟩ : AllD D false [4] := ideal_sub hs (by decide +kernel)
      simp only [d2, d4, h0, cond_true, cond_false]
      refine Run.go rfl ?_
      rw [hwA]
      refine Run.le ?_ hK
      simp only [d2, d4, h0, Nat.reduceBEq, Bool.false_or, Bool.true_or, cond_true, cond_false]
      exact St.Le.mk' ⟨rfl, rfl, rfl, rfl, rfl, rfl, rfl, rfl, rfl, rfl, rfl, rfl, rfl, rfl, rfl, rfl, rfl, rfl, rfl, rfl, rfl, rfl, rfl, rfl, rfl, trivial⟩ ⟨rfl, rfl, rfl, rfl, rfl, trivial⟩
    · intro D hid h0 hp hs rest hK
      obtain ⟨d3, -⟩ : AllD D true [3] := ideal_sub hp (by decide +kernel)
      obtain ⟨d6, -⟩ : AllD D false [6] := ideal_sub hs (by decide +kernel)
      simp only [d3, d6, h0, cond_true, cond_false]
      refine Run.go rfl ?_
      rw [hwB]
      refine Run.le ?_ hK
      simp only [d3, d6, h0, Nat.reduceBEq, Bool.false_or, Bool.true_or, cond_true, cond_false]
      exact St.Le.mk' ⟨rfl, rfl, rfl, rfl, rfl, rfl, rfl, rfl, rfl, rfl, rfl, rfl, rfl, rfl, rfl, rfl, rfl, rfl, rfl, rfl, rfl, rfl, rfl, rfl, rfl, trivial⟩ ⟨rfl, rfl, rfl, rfl, rfl, trivial⟩
    · intro D hid h0 hp hs rest hK
      obtain ⟨d6, -⟩ : AllD D false [6] := ideal_sub hs (by decide +kernel)
      simp only [d6, h0, cond_true, cond_false]
      refine Run.go rfl ?_
      refine Run.le ?_ hK
      simp only [d6, h0, Nat.reduceBEq, Bool.false_or, Bool.true_or, cond_true, cond_false]
      exact St.Le.mk' ⟨rfl, rfl, rfl, rfl, rfl, rfl, rfl, rfl, rfl, rfl, rfl, rfl, rfl, rfl, rfl, rfl, rfl, rfl, rfl, rfl, rfl, rfl, rfl, rfl, rfl, trivial⟩ ⟨rfl, rfl, rfl, rfl, rfl, trivial⟩
    · intro D hid h0 hp hs rest hK
      obtain ⟨d4, d5, -⟩ : AllD D true [4, 5] := ideal_sub hp (by decide +kernel)
      obtain ⟨d9, -⟩ : AllD D false [9] := ideal_sub hs (by decide +kernel)
      simp only [d4, d5, d9, h0, cond_true, cond_false]
      refine Run.go rfl ?_
      rw [hwC]
      refine Run.le ?_ hK
      simp only [d4, d5, d9, h0, Nat.reduceBEq, Bool.false_or, Bool.true_or, cond_true, cond_false]
      exact St.Le.mk' ⟨rfl, rfl, rfl, rfl, rfl, rfl, rfl, rfl, rfl, rfl, rfl, rfl, rfl, rfl, rfl, rfl, rfl, rfl, rfl, rfl, rfl, rfl, rfl, rfl, rfl, trivial⟩ ⟨rfl, rfl, rfl, rfl, rfl, trivial⟩
    · intro D hid h0 hp hs rest hK
      obtain ⟨d8, -⟩ : AllD D false [8] := ideal_sub hs (by decide +kernel)
      simp only [d8, h0, cond_true, cond_false]
      refine Run.go rfl ?_
      refine Run.le ?_ hK
      simp only [d8, h0, Nat.reduceBEq, Bool.false_or, Bool.true_or, cond_true, cond_false]
      exact St.Le.mk' ⟨rfl, rfl, rfl, rfl, rfl, rfl, rfl, rfl, rfl, rfl, rfl, rfl, rfl, rfl, rfl, rfl, rfl, rfl, rfl, rfl, rfl, rfl, rfl, rfl, rfl, trivial⟩ ⟨rfl, rfl, rfl, rfl, rfl, trivial⟩
    · intro D hid h0 hp hs rest hK
      obtain ⟨d7, -⟩ : AllD D true [7] := ideal_sub hp (by decide +kernel)
      obtain ⟨d9, -⟩ : AllD D false [9] := ideal_sub hs (by decide +kernel)
      simp only [d7, d9, h0, cond_true, cond_false]
      refine Run.go rfl ?_
      rw [hwD]
      refine Run.le ?_ hK
      simp only [d7, d9, h0, Nat.reduceBEq, Bool.false_or, Bool.true_or, cond_true, cond_false]
      exact St.Le.mk' ⟨rfl, rfl, rfl, rfl, rfl, rfl, rfl, rfl, rfl, rfl, rfl, rfl, rfl, rfl, rfl, rfl, rfl, rfl, rfl, rfl, rfl, rfl, rfl, rfl, rfl, trivial⟩ ⟨rfl, rfl, rfl, rfl, rfl, trivial⟩
    · intro D hid h0 hp hs rest hK
      obtain ⟨d6, d8, -⟩ : AllD D true [6, 8] := ideal_sub hp (by decide +kernel)
      obtain ⟨d10, -⟩ : AllD D false [10] := ideal_sub hs (by decide +kernel)
      simp only [d6, d8, d10, h0, cond_true, cond_false]
      refine Run.val rfl rfl rfl (ValOk.of_aop (v := i64 (spA P n j)) (by show (bif decide ((2 * (n : Int)) = 0) then none else some (Value.int .i64 (IntKind.i64.wrap (((2 * (j : Int) + 1) * P).tdiv (2 * (n : Int)))))).map AV.lit = _; rw [decide_eq_false (by omega), hwE]; rfl)) rfl ?_
      refine Run.le ?_ hK
      simp only [d6, d8, d10, h0, Nat.reduceBEq, Bool.false_or, Bool.true_or, cond_true, cond_false]
      exact St.Le.mk' ⟨rfl, rfl, rfl, rfl, rfl, rfl, rfl, rfl, rfl, rfl, rfl, rfl, rfl, rfl, rfl, rfl, rfl, rfl, rfl, rfl, rfl, rfl, rfl, rfl, rfl, trivial⟩ ⟨rfl, rfl, rfl, rfl, rfl, trivial⟩
    · intro D hid h0 hp hs rest hK
      obtain ⟨d9, -⟩ : AllD D true [9] := ideal_sub hp (by decide +kernel)
      obtain ⟨d12, -⟩ : AllD D false [12] := ideal_sub hs (by decide +kernel)
      simp only [d9, d12, h0, cond_true, cond_false]
      refine Run.go rfl ?_
      rw [hwF]
      refine Run.le ?_ hK
      simp only [d9, d12, h0, Nat.reduceBEq, Bool.false_or, Bool.true_or, cond_true, cond_false]
      exact St.Le.mk' ⟨rfl, rfl, rfl, rfl, rfl, rfl, rfl, rfl, rfl, rfl, rfl, rfl, rfl, rfl, rfl, rfl, rfl, rfl, rfl, rfl, rfl, rfl, rfl, rfl, rfl, trivial⟩ ⟨rfl, rfl, rfl, rfl, rfl, trivial⟩
    · intro D hid h0 hp hs rest hK
      obtain ⟨d12, -⟩ : AllD D false [12] := ideal_sub hs (by decide +kernel)
      simp only [d12, h0, cond_true, cond_false]
      refine Run.go rfl ?_
      refine Run.le ?_ hK
      simp only [d12, h0, Nat.reduceBEq, Bool.false_or, Bool.true_or, cond_true, cond_false]
      exact St.Le.mk' ⟨rfl, rfl, rfl, rfl, rfl, rfl, rfl, rfl, rfl, rfl, rfl, rfl, rfl, rfl, rfl, rfl, rfl, rfl, rfl, rfl, rfl, rfl, rfl, rfl, rfl, trivial⟩ ⟨rfl, rfl, rfl, rfl, rfl, trivial⟩
    · intro D hid h0 hp hs rest hK
      obtain ⟨d10, d11, -⟩ : AllD D true [10, 11] := ideal_sub hp (by decide +kernel)
      obtain ⟨d13, -⟩ : AllD D false [13] := ideal_sub hs (by decide +kernel)
      simp only [d10, d11, d13, h0, cond_true, cond_false]
      refine Run.val rfl rfl rfl (ValOk.build rfl rfl rfl rfl rfl) rfl ?_
      refine Run.le ?_ hK
      simp only [d10, d11, d13, h0, Nat.reduceBEq, Bool.false_or, Bool.true_or, cond_true, cond_false]
      exact St.Le.mk' ⟨rfl, rfl, rfl, rfl, rfl, rfl, rfl, rfl, rfl, rfl, rfl, rfl, rfl, rfl, rfl, rfl, rfl, rfl, rfl, rfl, rfl, rfl, rfl, rfl, rfl, trivial⟩ ⟨rfl, rfl, rfl, rfl, rfl, trivial⟩
    · intro D hid h0 hp hs rest hK
      obtain ⟨d12, -⟩ : AllD D true [12] := ideal_sub hp (by decide +kernel)
      obtain ⟨d14, -⟩ : AllD D false [14] := ideal_sub hs (by decide +kernel)
      simp only [d12, d14, h0, cond_true, cond_false]
      refine Run.buildSlice [plA ⟨spA P n j, L[j]⟩] rfl rfl rfl rfl rfl rfl rfl rfl rfl rfl rfl rfl rfl rfl ?_
      refine Run.le ?_ hK
      simp only [d12, d14, h0, Nat.reduceBEq, Bool.false_or, Bool.true_or, cond_true, cond_false]
      exact St.Le.mk' ⟨rfl, rfl, rfl, rfl, rfl, rfl, rfl, rfl, rfl, rfl, rfl, rfl, rfl, rfl, rfl, rfl, rfl, rfl, rfl, rfl, rfl, rfl, rfl, rfl, rfl, trivial⟩ ⟨rfl, rfl, rfl, rfl, rfl, trivial⟩
    · intro D hid h0 hp hs rest hK
      obtain ⟨d1, d13, -⟩ : AllD D true [1, 13] := ideal_sub hp (by decide +kernel)
      obtain ⟨d16, -⟩ : AllD D false [16] := ideal_sub hs (by decide +kernel)
      simp only [d1, d13, d16, h0, cond_true, cond_false]
      refine Run.appendo (id := (5, 1)) rfl rfl rfl rfl rfl rfl rfl rfl rfl rfl rfl rfl hDm.symm rfl (by rw [hDm]; show (_ + 1) * 16 ≤ _; omega) (by rw [hDm]; show _ + 1 ≤ 9223372036854775807; omega) (by decide) rfl ?_
      refine Run.le ?_ hK
      simp only [d1, d13, d16, h0, Nat.reduceBEq, Bool.false_or, Bool.true_or, cond_true, cond_false]
      exact St.Le.mk' ⟨rfl, rfl, rfl, rfl, rfl, rfl, rfl, rfl, rfl, rfl, rfl, rfl, rfl, rfl, rfl, rfl, rfl, rfl, rfl, rfl, rfl, rfl, rfl, rfl, rfl, trivial⟩ ⟨rfl, rfl, rfl, rfl, rfl, trivial⟩
    · intro D hid h0 hp hs rest hK
      obtain ⟨d16, -⟩ : AllD D false [16] := ideal_sub hs (by decide +kernel)
      simp only [d16, h0, cond_true, cond_false]
      refine Run.go rfl ?_
      refine Run.le ?_ hK
      simp only [d16, h0, Nat.reduceBEq, Bool.false_or, Bool.true_or, cond_true, cond_false]
      exact St.Le.mk' ⟨rfl, rfl, rfl, rfl, rfl, rfl, rfl, rfl, rfl, rfl, rfl, rfl, rfl, rfl, rfl, rfl, rfl, rfl, rfl, rfl, rfl, rfl, rfl, rfl, rfl, trivial⟩ ⟨rfl, rfl, rfl, rfl, rfl, trivial⟩
    · intro D hid h0 hp hs rest hK
      obtain ⟨d14, d15, -⟩ : AllD D true [14, 15] := ideal_sub hp (by decide +kernel)
      have d1 : D 1 = true := hid 14 1 (by decide +kernel) (by decide +kernel) d14
      have d13 : D 13 = true := hid 14 13 (by decide +kernel) (by decide +kernel) d14
      have d12 : D 12 = true := hid 13 12 (by decide +kernel) (by decide +kernel) d13
      have d10 : D 10 = true := hid 12 10 (by decide +kernel) (by decide +kernel) d12
      have d11 : D 11 = true := hid 12 11 (by decide +kernel) (by decide +kernel) d12
      have d9 : D 9 = true := hid 10 9 (by decide +kernel) (by decide +kernel) d10
      have d6 : D 6 = true := hid 9 6 (by decide +kernel) (by decide +kernel) d9
      have d8 : D 8 = true := hid 9 8 (by decide +kernel) (by decide +kernel) d9
      have d7 : D 7 = true := hid 8 7 (by decide +kernel) (by decide +kernel) d8
      have d4 : D 4 = true := hid 6 4 (by decide +kernel) (by decide +kernel) d6
      have d5 : D 5 = true := hid 6 5 (by decide +kernel) (by decide +kernel) d6
      have d3 : D 3 = true := hid 4 3 (by decide +kernel) (by decide +kernel) d4
      have d2 : D 2 = true := hid 3 2 (by decide +kernel) (by decide +kernel) d3
      have d0 : D 0 = true := hid 1 0 (by decide +kernel) (by decide +kernel) d1
      simp only [d14, d15, d1, d13, d12, d10, d11, d9, d6, d8, d7, d4, d5, d3, d2, d0, h0, cond_true, cond_false]
      refine Run.unpack 35 rfl rfl ?_
      refine Run.go rfl ?_
      refine Run.forget 35 ?_
      refine Run.le ?_ hK
      simp only [d14, d15, d1, d13, d12, d10, d11, d9, d6, d8, d7, d4, d5, d3, d2, d0, h0, Nat.reduceBEq, Bool.false_or, Bool.true_or, cond_true, cond_false]
      exact St.Le.mk' ⟨rfl, rfl, rfl, rfl, rfl, rfl, rfl, rfl, rfl, rfl, rfl, rfl, rfl, rfl, rfl, rfl, rfl, rfl, rfl, rfl, rfl, rfl, rfl, rfl, rfl, trivial⟩ ⟨rfl, rfl, rfl, rfl, rfl, trivial⟩
    refine Run.packBox (5, 0) 1 rfl rfl rfl rfl ?_
    repeat (refine Run.go rfl ?_)
    refine Run.of (IH (j + 1) (by omega) (by omega)) ⟨rfl, rfl, rfl, rfl, rfl, rfl, ?_, trivial⟩ ⟨rfl, ?_, trivial⟩
    · show i64 (IntKind.i64.wrap _) = i64 _
      rw [wrap_i64 (by omega) (by omega)]
      rfl
    · show Ob.box [_, AV.own 9 false (D0.map plA ++ [plA ⟨spA P n j, L[j]⟩])] = _
      rw [hst, List.map_append]
      rfl
  · have hjn : j = n := by simp at h; omega
    subst hjn
    rw [hn, List.take_of_length_le (by rw [sp_len]; exact Nat.le_refl _)]
    repeat (refine Run.go rfl ?_)
    refine Run.unBox (5, 0) 1 (5, 1) rfl rfl rfl (by decide) ?_
    repeat (refine Run.go rfl ?_)
    refine Run.packBox (4, 0) 1 rfl rfl rfl rfl ?_
    exact Run.ret hg rfl rfl
noncomputable def X100 : Fx := ⟨Tryz.prog, tys, 100, Tryz.f100, [0, 1]⟩
theorem X100_ok : X100.Ok := ⟨Tryz.func100, tys_ok⟩
theorem l05Spread_ct (P : Int) (L : List Bk) (e : Bool) (hP : 1 ≤ P ∧ P ≤ 60) (hL : L.length ≤ 60) : Ct Tryz.prog 100 [i64 P, .ro 8 e (L.map bkA)] (rkO false ⟨P, sp P L⟩) [] := by
  have hP16 : IntKind.i16.wrap P = P := wrap_i16 (by omega) (by omega)
  refine Ct.intro X100 X100_ok rfl (by kernel_rfl) rfl rfl fun g hg => ?_
  repeat (refine Run.go rfl ?_)
  refine Run.val rfl rfl rfl (ValOk.build rfl rfl rfl rfl rfl) rfl ?_
  repeat (refine Run.go rfl ?_)
  refine Run.nilBox (5, 0) 1 9 false rfl rfl ?_
  obtain ⟨n, hn⟩ : ∃ n, n = L.length := ⟨_, rfl⟩
  refine Run.loop (fun j : Nat => ⟨[(0, i64 P), (4, .bp (4, 0) 0), (5, .bp (5, 0) 0), (6, i64 (n : Nat)), (1, .ro 8 e (L.map bkA)), (7, i64 (j : Nat))],
    [((4, 0), .box [i16 0, .lit (.slice none 0 0)]), ((5, 0), .box [i16 P, .own 9 false (((sp P L).take j).map plA)])]⟩) (fun j => j ≤ n) (fun j => n - j) 0 (by omega) ?_ ?_
  · refine St.Le.mk' ⟨rfl, rfl, rfl, ?_, rfl, rfl, trivial⟩ ⟨rfl, ?_, trivial⟩
    · show i64 ((L.map bkA).length : Nat) = _
      rw [List.length_map, hn]
    · show Ob.box [i16 (IntKind.i16.wrap P), _] = _
      rw [hP16]
      rfl
  intro j hj IH
  repeat (refine Run.go rfl ?_)
  refine Run.cond rfl (fun h => ?_) (fun h => ?_)
  · have hlt : j < L.length := by simp at h; omega
    have hst := sp_take (P := P) hlt
    rw [← hn] at hst
    have hDl : ((sp P L).take j).length = j := by rw [List.length_take, sp_len]; omega
    have hrg := spA_rng (P := P) (n := (n : Int)) (i := j) (by omega) (by omega)
    have hm := mulP_le (P := P) (m := 2 * (j : Int) + 1) (by omega) (by omega)
    have hwA : IntKind.i64.wrap (2 * (j : Int)) = 2 * j := wrap_i64 (by omega) (by omega)
    have hwB : IntKind.i64.wrap (2 * (j : Int) + 1) = 2 * j + 1 := wrap_i64 (by omega) (by omega)
    have hwC : IntKind.i64.wrap ((2 * (j : Int) + 1) * P) = (2 * (j : Int) + 1) * P := wrap_i64 (by omega) (by omega)
    have hwD : IntKind.i64.wrap (2 * (n : Int)) = 2 * n := wrap_i64 (by omega) (by omega)
    have hwE : IntKind.i64.wrap (((2 * (j : Int) + 1) * P).tdiv (2 * (n : Int))) = spA P n j := wrap_i64 (n := spA P n j) (by omega) (by omega)
    have hwF : IntKind.i16.wrap (spA P n j) = spA P n j := wrap_i16 (by omega) (by omega)
    generalize (sp P L).take j = D0 at hst hDl
    have hDm : (D0.map plA).length = D0.length := List.length_map ..
    repeat (refine Run.go rfl ?_)
    refine Run.unBox (5, 0) 1 (5, 1) rfl rfl rfl (by decide) ?_
    rw [hDm]
    refine Run.drawI (fun D => ⟨[(0, i64 P), (4, .bp (4, 0) 0), (5, .bp (5, 0) 0), (6, i64 (n : Nat)), (1, .ro 8 e (L.map bkA)), (7, i64 (j : Nat)), (18, bif D 0 then .bp (5, 0) 1 else .top), (19, bif D 1 then .vec (5, 1) 0 D0.length else .top), (20, bif D 2 then i64 (j : Nat) else .top), (21, bif D 3 then i64 (2 * (j : Int)) else .top), (22, bif D 4 then i64 (2 * (j : Int) + 1) else .top), (23, bif D 5 then i64 P else .top), (24, bif D 6 then i64 ((2 * (j : Int) + 1) * P) else .top), (25, bif D 7 then i64 (n : Nat) else .top), (26, bif D 8 then i64 (2 * (n : Int)) else .top), (27, bif D 9 then i64 (spA P n j) else .top), (28, bif D 10 then i16 (spA P n j) else .top), (29, bif D 11 then .ro 8 e (L.map bkA) else .top), (30, bif D 12 then i64 (j : Nat) else .top), (31, bif D 13 then .rp (bkA L[j]).cells 0 else .top), (32, bif D 14 then bkA L[j] else .top), (33, bif D 15 then plA ⟨spA P n j, L[j]⟩ else .top), (34, bif D 17 then .top else bif D 16 then .own 9 true [plA ⟨spA P n j, L[j]⟩] else .top), (35, bif D 19 then .top else bif D 17 then .own 9 false ((D0.map plA) ++ [plA ⟨spA P n j, L[j]⟩]) else .top), (36, bif D 18 then .bp (5, 0) 1 else .top)], [((4, 0), Ob.box [i16 0, .lit (.slice none 0 0)]), ((5, 0), (bif D 19 then Ob.box [i16 P, .vec (35, 0) 0 ((D0.map plA) ++ [plA ⟨spA P n j, L[j]⟩]).length] else Ob.box [i16 P, .vec (5, 1) 0 D0.length])), ((5, 1), (bif D 17 then Ob.gone else Ob.vec 9 false (D0.map plA))), ((35, 0), (bif D 19 then Ob.vec 9 false ((D0.map plA) ++ [plA ⟨spA P n j, L[j]⟩]) else Ob.gone))]⟩) (by decide +kernel) (by decide +kernel) ?_ ?_ fun k' => ⟨?_, ?_, ?_, ?_, ?_, ?_, ?_, ?_, ?_, ?_, ?_, ?_, ?_, ?_, ?_, ?_, ?_, ?_, ?_, ?_, trivial⟩
    · exact St.Le.mk' ⟨rfl, rfl, rfl, rfl, rfl, rfl, rfl, rfl, rfl, rfl, rfl, rfl, rfl, rfl, rfl, rfl, rfl, rfl, rfl, rfl, rfl, rfl, rfl, rfl, rfl, trivial⟩ ⟨rfl, rfl, rfl, rfl, trivial⟩
    rotate_left
    · intro D hid h0 hp hs rest hK
      obtain ⟨d1, -⟩ : AllD D false [1] := ideal_sub hs (by decide +kernel)
      simp only [d1, h0, cond_true, cond_false]
      refine Run.go rfl ?_
      refine Run.le ?_ hK
      simp only [d1, h0, Nat.reduceBEq, Bool.false_or, Bool.true_or, cond_true, cond_false]
      exact St.Le.mk' ⟨rfl, rfl, rfl, rfl, rfl, rfl, rfl, rfl, rfl, rfl, rfl, rfl, rfl, rfl, rfl, rfl, rfl, rfl, rfl, rfl, rfl, rfl, rfl, rfl, rfl, trivial⟩ ⟨rfl, rfl, rfl, rfl, trivial⟩
    · intro D hid h0 hp hs rest hK
      obtain ⟨d0, -⟩ : AllD D true [0] := ideal_sub hp (by decide +kernel)
      obtain ⟨d17, -⟩ : AllD D false [17] := ideal_sub hs (by decide +kernel)
      have d19 : D 19 = false := ideal_no (i := 19) (j := 1) hid (by decide +kernel) h0
      simp only [d0, d17, d19, h0, cond_true, cond_false]
      refine Run.go rfl ?_
      refine Run.le ?_ hK
      simp only [d0, d17, d19, h0, Nat.reduceBEq, Bool.false_or, Bool.true_or, cond_true, cond_false]
      exact St.Le.mk' ⟨rfl, rfl, rfl, rfl, rfl, rfl, rfl, rfl, rfl, rfl, rfl, rfl, rfl, rfl, rfl, rfl, rfl, rfl, rfl, rfl, rfl, rfl, rfl, rfl, rfl, trivial⟩ ⟨rfl, rfl, rfl, rfl, trivial⟩
    · intro D hid h0 hp hs rest hK
      obtain ⟨d3, -⟩ : AllD D false [3] := ideal_sub hs (by decide +kernel)
      simp only [d3, h0, cond_true, cond_false]
      refine Run.go rfl ?_
      refine Run.le ?_ hK
      simp only [d3, h0, Nat.reduceBEq, Bool.false_or, Bool.true_or, cond_true, cond_false]
      exact St.Le.mk' ⟨rfl, rfl, rfl, rfl, rfl, rfl, rfl, rfl, rfl, rfl, rfl, rfl, rfl, rfl, rfl, rfl, rfl, rfl, rfl, rfl, rfl, rfl, rfl, rfl, rfl, trivial⟩ ⟨rfl, rfl, rfl, rfl, trivial⟩
    · intro D hid h0 hp hs rest hK
      obtain ⟨d2, -⟩ : AllD D true [2] := ideal_sub hp (by decide +kernel)
      obtain ⟨d4, -⟩ : AllD D false [4] := ideal_sub hs (by decide +kernel)
      simp only [d2, d4, h0, cond_true, cond_false]
      refine Run.go rfl ?_
      rw [hwA]
      refine Run.le ?_ hK
      simp only [d2, d4, h0, Nat.reduceBEq, Bool.false_or, Bool.true_or, cond_true, cond_false]
      exact St.Le.mk' ⟨rfl, rfl, rfl, rfl, rfl, rfl, rfl, rfl, rfl, rfl, rfl, rfl, rfl, rfl, rfl, rfl, rfl, rfl, rfl, rfl, rfl, rfl, rfl, rfl, rfl, trivial⟩ ⟨rfl, rfl, rfl, rfl, trivial⟩
    · intro D hid h0 hp hs rest hK
      obtain ⟨d3, -⟩ : AllD D true [3] := ideal_sub hp (by decide +kernel)
      obtain ⟨d6, -⟩ : AllD D false [6] := ideal_sub hs (by decide +kernel)
      simp only [d3, d6, h0, cond_true, cond_false]
      refine Run.go rfl ?_
      rw [hwB]
      refine Run.le ?_ hK
      simp only [d3, d6, h0, Nat.reduceBEq, Bool.false_or, Bool.true_or, cond_true, cond_false]
      exact St.Le.mk' ⟨rfl, rfl, rfl, rfl, rfl, rfl, rfl, rfl, rfl, rfl, rfl, rfl, rfl, rfl, rfl, rfl, rfl, rfl, rfl, rfl, rfl, rfl, rfl, rfl, rfl, trivial⟩ ⟨rfl, rfl, rfl, rfl, trivial⟩
    · intro D hid h0 hp hs rest hK
      obtain ⟨d6, -⟩ : AllD D false [6] := ideal_sub hs (by decide +kernel)
      simp only [d6, h0, cond_true, cond_false]
      refine Run.go rfl ?_
      refine Run.le ?_ hK
      simp only [d6, h0, Nat.reduceBEq, Bool.false_or, Bool.true_or, cond_true, cond_false]
      exact St.Le.mk' ⟨rfl, rfl, rfl, rfl, rfl, rfl, rfl, rfl, rfl, rfl, rfl, rfl, rfl, rfl, rfl, rfl, rfl, rfl, rfl, rfl, rfl, rfl, rfl, rfl, rfl, trivial⟩ ⟨rfl, rfl, rfl, rfl, trivial⟩
    · intro D hid h0 hp hs rest hK
      obtain ⟨d4, d5, -⟩ : AllD D true [4, 5] := ideal_sub hp (by decide +kernel)
      obtain ⟨d9, -⟩ : AllD D false [9] := ideal_sub hs (by decide +kernel)
      simp only [d4, d5, d9, h0, cond_true, cond_false]
      refine Run.go rfl ?_
      rw [hwC]
      refine Run.le ?_ hK
      simp only [d4, d5, d9, h0, Nat.reduceBEq, Bool.false_or, Bool.true_or, cond_true, cond_false]
      exact St.Le.mk' ⟨rfl, rfl, rfl, rfl, rfl, rfl, rfl, rfl, rfl, rfl, rfl, rfl, rfl, rfl, rfl, rfl, rfl, rfl, rfl, rfl, rfl, rfl, rfl, rfl, rfl, trivial⟩ ⟨rfl, rfl, rfl, rfl, trivial⟩
    · intro D hid h0 hp hs rest hK
      obtain ⟨d8, -⟩ : AllD D false [8] := ideal_sub hs (by decide +kernel)
      simp only [d8, h0, cond_true, cond_false]
      refine Run.go rfl ?_
      refine Run.le ?_ hK
      simp only [d8, h0, Nat.reduceBEq, Bool.false_or, Bool.true_or, cond_true, cond_false]
      exact St.Le.mk' ⟨rfl, rfl, rfl, rfl, rfl, rfl, rfl, rfl, rfl, rfl, rfl, rfl, rfl, rfl, rfl, rfl, rfl, rfl, rfl, rfl, rfl, rfl, rfl, rfl, rfl, trivial⟩ ⟨rfl, rfl, rfl, rfl, trivial⟩
    · intro D hid h0 hp hs rest hK
      obtain ⟨d7, -⟩ : AllD D true [7] := ideal_sub hp (by decide +kernel)
      obtain ⟨d9, -⟩ : AllD D false [9] := ideal_sub hs (by decide +kernel)
      simp only [d7, d9, h0, cond_true, cond_false]
      refine Run.go rfl ?_
      rw [hwD]
      refine Run.le ?_ hK
      simp only [d7, d9, h0, Nat.reduceBEq, Bool.false_or, Bool.true_or, cond_true, cond_false]
      exact St.Le.mk' ⟨rfl, rfl, rfl, rfl, rfl, rfl, rfl, rfl, rfl, rfl, rfl, rfl, rfl, rfl, rfl, rfl, rfl, rfl, rfl, rfl, rfl, rfl, rfl, rfl, rfl, trivial⟩ ⟨rfl, rfl, rfl, rfl, trivial⟩
    · intro D hid h0 hp hs rest hK
      obtain ⟨d6, d8, -⟩ : AllD D true [6, 8] := ideal_sub hp (by decide +kernel)
      obtain ⟨d10, -⟩ : AllD D false [10] := ideal_sub hs (by decide +kernel)
      simp only [d6, d8, d10, h0, cond_true, cond_false]
      refine Run.val rfl rfl rfl (ValOk.of_aop (v := i64 (spA P n j)) (by show (bif decide ((2 * (n : Int)) = 0) then none else some (Value.int .i64 (IntKind.i64.wrap (((2 * (j : Int) + 1) * P).tdiv (2 * (n : Int)))))).map AV.lit = _; rw [decide_eq_false (by omega), hwE]; rfl)) rfl ?_
      refine Run.le ?_ hK
      simp only [d6, d8, d10, h0, Nat.reduceBEq, Bool.false_or, Bool.true_or, cond_true, cond_false]
      exact St.Le.mk' ⟨rfl, rfl, rfl, rfl, rfl, rfl, rfl, rfl, rfl, rfl, rfl, rfl, rfl, rfl, rfl, rfl, rfl, rfl, rfl, rfl, rfl, rfl, rfl, rfl, rfl, trivial⟩ ⟨rfl, rfl, rfl, rfl, trivial⟩
    · intro D hid h0 hp hs rest hK
      obtain ⟨d9, -⟩ : AllD D true [9] := ideal_sub hp (by decide +kernel)
      obtain ⟨d15, -⟩ : AllD D false [15] := ideal_sub hs (by decide +kernel)
      simp only [d9, d15, h0, cond_true, cond_false]
      refine Run.go rfl ?_
      rw [hwF]
      refine Run.le ?_ hK
      simp only [d9, d15, h0, Nat.reduceBEq, Bool.false_or, Bool.true_or, cond_true, cond_false]
      exact St.Le.mk' ⟨rfl, rfl, rfl, rfl, rfl, rfl, rfl, rfl, rfl, rfl, rfl, rfl, rfl, rfl, rfl, rfl, rfl, rfl, rfl, rfl, rfl, rfl, rfl, rfl, rfl, trivial⟩ ⟨rfl, rfl, rfl, rfl, trivial⟩
    · intro D hid h0 hp hs rest hK
      obtain ⟨d13, -⟩ : AllD D false [13] := ideal_sub hs (by decide +kernel)
      simp only [d13, h0, cond_true, cond_false]
      refine Run.go rfl ?_
      refine Run.le ?_ hK
      simp only [d13, h0, Nat.reduceBEq, Bool.false_or, Bool.true_or, cond_true, cond_false]
      exact St.Le.mk' ⟨rfl, rfl, rfl, rfl, rfl, rfl, rfl, rfl, rfl, rfl, rfl, rfl, rfl, rfl, rfl, rfl, rfl, rfl, rfl, rfl, rfl, rfl, rfl, rfl, rfl, trivial⟩ ⟨rfl, rfl, rfl, rfl, trivial⟩
    · intro D hid h0 hp hs rest hK
      obtain ⟨d13, -⟩ : AllD D false [13] := ideal_sub hs (by decide +kernel)
      simp only [d13, h0, cond_true, cond_false]
      refine Run.go rfl ?_
      refine Run.le ?_ hK
      simp only [d13, h0, Nat.reduceBEq, Bool.false_or, Bool.true_or, cond_true, cond_false]
      exact St.Le.mk' ⟨rfl, rfl, rfl, rfl, rfl, rfl, rfl, rfl, rfl, rfl, rfl, rfl, rfl, rfl, rfl, rfl, rfl, rfl, rfl, rfl, rfl, rfl, rfl, rfl, rfl, trivial⟩ ⟨rfl, rfl, rfl, rfl, trivial⟩
    · intro D hid h0 hp hs rest hK
      obtain ⟨d11, d12, -⟩ : AllD D true [11, 12] := ideal_sub hp (by decide +kernel)
      obtain ⟨d14, -⟩ : AllD D false [14] := ideal_sub hs (by decide +kernel)
      simp only [d11, d12, d14, h0, cond_true, cond_false]
      refine Run.val rfl rfl rfl (ValOk.idx (bkA L[j]) rfl rfl rfl rfl rfl (by omega) (by simp [hlt])) rfl ?_
      refine Run.le ?_ hK
      simp only [d11, d12, d14, h0, Nat.reduceBEq, Bool.false_or, Bool.true_or, cond_true, cond_false]
      exact St.Le.mk' ⟨rfl, rfl, rfl, rfl, rfl, rfl, rfl, rfl, rfl, rfl, rfl, rfl, rfl, rfl, rfl, rfl, rfl, rfl, rfl, rfl, rfl, rfl, rfl, rfl, rfl, trivial⟩ ⟨rfl, rfl, rfl, rfl, trivial⟩
    · intro D hid h0 hp hs rest hK
      obtain ⟨d13, -⟩ : AllD D true [13] := ideal_sub hp (by decide +kernel)
      obtain ⟨d15, -⟩ : AllD D false [15] := ideal_sub hs (by decide +kernel)
      simp only [d13, d15, h0, cond_true, cond_false]
      refine Run.go rfl ?_
      refine Run.le ?_ hK
      simp only [d13, d15, h0, Nat.reduceBEq, Bool.false_or, Bool.true_or, cond_true, cond_false]
      exact St.Le.mk' ⟨rfl, rfl, rfl, rfl, rfl, rfl, rfl, rfl, rfl, rfl, rfl, rfl, rfl, rfl, rfl, rfl, rfl, rfl, rfl, rfl, rfl, rfl, rfl, rfl, rfl, trivial⟩ ⟨rfl, rfl, rfl, rfl, trivial⟩
    · intro D hid h0 hp hs rest hK
      obtain ⟨d10, d14, -⟩ : AllD D true [10, 14] := ideal_sub hp (by decide +kernel)
      obtain ⟨d16, -⟩ : AllD D false [16] := ideal_sub hs (by decide +kernel)
      simp only [d10, d14, d16, h0, cond_true, cond_false]
      refine Run.val rfl rfl rfl (ValOk.build rfl rfl rfl rfl rfl) rfl ?_
      refine Run.le ?_ hK
      simp only [d10, d14, d16, h0, Nat.reduceBEq, Bool.false_or, Bool.true_or, cond_true, cond_false]
      exact St.Le.mk' ⟨rfl, rfl, rfl, rfl, rfl, rfl, rfl, rfl, rfl, rfl, rfl, rfl, rfl, rfl, rfl, rfl, rfl, rfl, rfl, rfl, rfl, rfl, rfl, rfl, rfl, trivial⟩ ⟨rfl, rfl, rfl, rfl, trivial⟩
    · intro D hid h0 hp hs rest hK
      obtain ⟨d15, -⟩ : AllD D true [15] := ideal_sub hp (by decide +kernel)
      obtain ⟨d17, -⟩ : AllD D false [17] := ideal_sub hs (by decide +kernel)
      simp only [d15, d17, h0, cond_true, cond_false]
      refine Run.buildSlice [plA ⟨spA P n j, L[j]⟩] rfl rfl rfl rfl rfl rfl rfl rfl rfl rfl rfl rfl rfl rfl ?_
      refine Run.le ?_ hK
      simp only [d15, d17, h0, Nat.reduceBEq, Bool.false_or, Bool.true_or, cond_true, cond_false]
      exact St.Le.mk' ⟨rfl, rfl, rfl, rfl, rfl, rfl, rfl, rfl, rfl, rfl, rfl, rfl, rfl, rfl, rfl, rfl, rfl, rfl, rfl, rfl, rfl, rfl, rfl, rfl, rfl, trivial⟩ ⟨rfl, rfl, rfl, rfl, trivial⟩
    · intro D hid h0 hp hs rest hK
      obtain ⟨d1, d16, -⟩ : AllD D true [1, 16] := ideal_sub hp (by decide +kernel)
      obtain ⟨d19, -⟩ : AllD D false [19] := ideal_sub hs (by decide +kernel)
      simp only [d1, d16, d19, h0, cond_true, cond_false]
      refine Run.appendo (id := (5, 1)) rfl rfl rfl rfl rfl rfl rfl rfl rfl rfl rfl rfl hDm.symm rfl (by rw [hDm]; show (_ + 1) * 16 ≤ _; omega) (by rw [hDm]; show _ + 1 ≤ 9223372036854775807; omega) (by decide) rfl ?_
      refine Run.le ?_ hK
      simp only [d1, d16, d19, h0, Nat.reduceBEq, Bool.false_or, Bool.true_or, cond_true, cond_false]
      exact St.Le.mk' ⟨rfl, rfl, rfl, rfl, rfl, rfl, rfl, rfl, rfl, rfl, rfl, rfl, rfl, rfl, rfl, rfl, rfl, rfl, rfl, rfl, rfl, rfl, rfl, rfl, rfl, trivial⟩ ⟨rfl, rfl, rfl, rfl, trivial⟩
    · intro D hid h0 hp hs rest hK
      obtain ⟨d19, -⟩ : AllD D false [19] := ideal_sub hs (by decide +kernel)
      simp only [d19, h0, cond_true, cond_false]
      refine Run.go rfl ?_
      refine Run.le ?_ hK
      simp only [d19, h0, Nat.reduceBEq, Bool.false_or, Bool.true_or, cond_true, cond_false]
      exact St.Le.mk' ⟨rfl, rfl, rfl, rfl, rfl, rfl, rfl, rfl, rfl, rfl, rfl, rfl, rfl, rfl, rfl, rfl, rfl, rfl, rfl, rfl, rfl, rfl, rfl, rfl, rfl, trivial⟩ ⟨rfl, rfl, rfl, rfl, trivial⟩
    · intro D hid h0 hp hs rest hK
      obtain ⟨d17, d18, -⟩ : AllD D true [17, 18] := ideal_sub hp (by decide +kernel)
      have d1 : D 1 = true := hid 17 1 (by decide +kernel) (by decide +kernel) d17
      have d16 : D 16 = true := hid 17 16 (by decide +kernel) (by decide +kernel) d17
      have d15 : D 15 = true := hid 16 15 (by decide +kernel) (by decide +kernel) d16
      have d10 : D 10 = true := hid 15 10 (by decide +kernel) (by decide +kernel) d15
      have d14 : D 14 = true := hid 15 14 (by decide +kernel) (by decide +kernel) d15
      have d9 : D 9 = true := hid 10 9 (by decide +kernel) (by decide +kernel) d10
      have d6 : D 6 = true := hid 9 6 (by decide +kernel) (by decide +kernel) d9
      have d8 : D 8 = true := hid 9 8 (by decide +kernel) (by decide +kernel) d9
      have d7 : D 7 = true := hid 8 7 (by decide +kernel) (by decide +kernel) d8
      have d4 : D 4 = true := hid 6 4 (by decide +kernel) (by decide +kernel) d6
      have d5 : D 5 = true := hid 6 5 (by decide +kernel) (by decide +kernel) d6
      have d3 : D 3 = true := hid 4 3 (by decide +kernel) (by decide +kernel) d4
      have d2 : D 2 = true := hid 3 2 (by decide +kernel) (by decide +kernel) d3
      have d0 : D 0 = true := hid 1 0 (by decide +kernel) (by decide +kernel) d1
      have d13 : D 13 = true := hid 14 13 (by decide +kernel) (by decide +kernel) d14
      have d11 : D 11 = true := hid 13 11 (by decide +kernel) (by decide +kernel) d13
      have d12 : D 12 = true := hid 13 12 (by decide +kernel) (by decide +kernel) d13
      simp only [d17, d18, d1, d16, d15, d10, d14, d9, d6, d8, d7, d4, d5, d3, d2, d0, d13, d11, d12, h0, cond_true, cond_false]
      refine Run.unpack 35 rfl rfl ?_
      refine Run.go rfl ?_
      refine Run.forget 35 ?_
      refine Run.le ?_ hK
      simp only [d17, d18, d1, d16, d15, d10, d14, d9, d6, d8, d7, d4, d5, d3, d2, d0, d13, d11, d12, h0, Nat.reduceBEq, Bool.false_or, Bool.true_or, cond_true, cond_false]
      exact St.Le.mk' ⟨rfl, rfl, rfl, rfl, rfl, rfl, rfl, rfl, rfl, rfl, rfl, rfl, rfl, rfl, rfl, rfl, rfl, rfl, rfl, rfl, rfl, rfl, rfl, rfl, rfl, trivial⟩ ⟨rfl, rfl, rfl, rfl, trivial⟩
    refine Run.packBox (5, 0) 1 rfl rfl rfl rfl ?_
    repeat (refine Run.go rfl ?_)
    refine Run.of (IH (j + 1) (by omega) (by omega)) ⟨rfl, rfl, rfl, rfl, rfl, ?_, trivial⟩ ⟨rfl, ?_, trivial⟩
    · show i64 (IntKind.i64.wrap _) = i64 _
      rw [wrap_i64 (by omega) (by omega)]
      rfl
    · show Ob.box [_, AV.own 9 false (D0.map plA ++ [plA ⟨spA P n j, L[j]⟩])] = _
      rw [hst, List.map_append]
      rfl
  · have hjn : j = n := by simp at h; omega
    subst hjn
    rw [hn, List.take_of_length_le (by rw [sp_len]; exact Nat.le_refl _)]
    repeat (refine Run.go rfl ?_)
    refine Run.unBox (5, 0) 1 (5, 1) rfl rfl rfl (by decide) ?_
    repeat (refine Run.go rfl ?_)
    refine Run.packBox (4, 0) 1 rfl rfl rfl rfl ?_
    exact Run.ret hg rfl rfl
end Go.Proofs.YtbkelajnngdimaaGreatDoor

/- Contracts of the program's functions, and what follows from them. -/
set_option maxRecDepth 100000
namespace Go.Proofs.YtbkelajnngdimaaGreatDoor
open Go Go.Av
def blA (e : Bool) (l : List Bk) : AV := .ro 8 e (l.map bkA)
noncomputable def X267 : Fx := ⟨Tryz.prog, tys, 267, Tryz.f267, [0, 1]⟩
theorem X267_ok : X267.Ok := ⟨Tryz.func267, tys_ok⟩
theorem indexBL_ct (l : List (List Bk)) (ex eb : Bool) (f : Nat) (caps : List AV) (p : (List Bk) → Bool) (hlen : l.length ≤ 1048576) (hc : AV.freeL caps = true)
    (hf : ∀ x ∈ l, Ct Tryz.prog f ([blA eb x] ++ caps) (bo (p x)) []) : Ct Tryz.prog 267 [.ro 1 ex (l.map (blA eb)), .fn f caps] (i64 (fi p l)) [] := by
  refine Ct.intro X267 X267_ok rfl (by kernel_rfl) rfl rfl fun g hg => ?_
  repeat (refine Run.step rfl ?_)
  refine Run.loop (fun j : Nat => ⟨[(0, .ro 1 ex (l.map (blA eb))), (1, .fn f caps), (7, i64 l.length), (8, i64 j)], []⟩) (fun j => j ≤ l.length ∧ j ≤ l.findIdx p) (fun j => l.length - j) 0 ⟨by omega, by omega⟩ ?_ ?_
  · refine St.Le.mk' ⟨rfl, rfl, ?_, rfl, trivial⟩ trivial
    show i64 _ = _
    simp
  · rintro j ⟨hj1, hj2⟩ IH
    repeat (refine Run.step rfl ?_)
    refine Run.cond rfl (fun h => ?_) (fun h => ?_)
    · have hlt : j < l.length := by simpa using h
      repeat (refine Run.step rfl ?_)
      refine Run.val rfl rfl rfl (ValOk.idx (blA eb l[j]) rfl rfl rfl rfl rfl (by omega) (by simp [hlt])) rfl ?_
      repeat (refine Run.step rfl ?_)
      refine Run.callp rfl rfl rfl rfl rfl rfl rfl hc rfl (hf l[j] (by simp)) (by decide) (by decide) ?_
      repeat (refine Run.step rfl ?_)
      refine Run.cond rfl (fun h => ?_) (fun h => ?_)
      · repeat (refine Run.step rfl ?_)
        refine Run.ret hg rfl ?_
        show i64 _ = _
        rw [fi_at hlt h hj2]
      · repeat (refine Run.step rfl ?_)
        refine Run.of (IH (j + 1) ⟨by omega, fi_next hlt h hj2⟩ (by omega)) ⟨rfl, rfl, rfl, ?_, trivial⟩ trivial
        show i64 _ = _
        rw [wrap_i64 (by omega) (by omega)]
        rfl
    · repeat (refine Run.step rfl ?_)
      have hj : j = l.length := by simp at h; omega
      refine Run.ret hg rfl ?_
      show i64 (-1) = _
      rw [fi_none (by omega)]
noncomputable def X231 : Fx := ⟨Tryz.prog, tys, 231, Tryz.f231, [0, 1]⟩
theorem X231_ok : X231.Ok := ⟨Tryz.func231, tys_ok⟩
theorem containsBL_ct (l : List (List Bk)) (ex eb : Bool) (f : Nat) (caps : List AV) (p : (List Bk) → Bool) (hlen : l.length ≤ 1048576) (hc : AV.freeL caps = true)
    (hf : ∀ x ∈ l, Ct Tryz.prog f ([blA eb x] ++ caps) (bo (p x)) []) : Ct Tryz.prog 231 [.ro 1 ex (l.map (blA eb)), .fn f caps] (bo (l.any p)) [] := by
  refine Ct.intro X231 X231_ok rfl (by kernel_rfl) rfl rfl fun g hg => ?_
  repeat (refine Run.go rfl ?_)
  refine Run.callp rfl rfl rfl rfl rfl rfl (by simp [AV.freeL, AV.free, hc]) rfl rfl (indexBL_ct l ex eb f caps p hlen hc hf) (by decide) (by decide) ?_
  repeat (refine Run.go rfl ?_)
  refine Run.ret hg rfl ?_
  show bo _ = _
  rw [← fi_nonneg]
noncomputable def X232 : Fx := ⟨Tryz.prog, tys, 232, Tryz.f232, [0, 1]⟩
theorem X232_ok : X232.Ok := ⟨Tryz.func232, tys_ok⟩
theorem areAllBL10_ct (c : List Bk) (eb : Bool) (f : Nat) (p : Bool) (hf : Ct Tryz.prog f [blA eb c] (bo p) []) : Ct Tryz.prog 232 [blA eb c, .rp [.fn f []] 0] (bo (!p)) [] := by
  refine Ct.intro X232 X232_ok rfl (by kernel_rfl) rfl rfl fun g hg => ?_
  repeat (refine Run.go rfl ?_)
  refine Run.cs rfl hf rfl rfl ?_
  repeat (refine Run.go rfl ?_)
  exact Run.ret hg rfl rfl
noncomputable def X176 : Fx := ⟨Tryz.prog, tys, 176, Tryz.f176, [0, 1]⟩
theorem X176_ok : X176.Ok := ⟨Tryz.func176, tys_ok⟩
theorem areAllBL0_ct (l : List (List Bk)) (ex eb : Bool) (f : Nat) (p : (List Bk) → Bool) (hlen : l.length ≤ 1048576) (hf : ∀ x ∈ l, Ct Tryz.prog f [blA eb x] (bo (p x)) []) :
    Ct Tryz.prog 176 [.ro 1 ex (l.map (blA eb)), .fn f []] (bo (l.all p)) [] := by
  refine Ct.intro X176 X176_ok rfl (by kernel_rfl) rfl rfl fun g hg => ?_
  repeat (refine Run.go rfl ?_)
  refine Run.cs rfl (containsBL_ct l ex eb 232 [.rp [.fn f []] 0] (fun x => !p x) hlen rfl (fun x hx => areAllBL10_ct x eb f (p x) (hf x hx))) rfl rfl ?_
  repeat (refine Run.go rfl ?_)
  refine Run.ret hg rfl ?_
  show bo (!l.any fun x => !p x) = _
  congr 2
  simp [List.all_eq_not_any_not]
noncomputable def X99 : Fx := ⟨Tryz.prog, tys, 99, Tryz.f99, [0]⟩
theorem X99_ok : X99.Ok := ⟨Tryz.func99, tys_ok⟩
theorem spreadOut_ct (r : Rk) (ex : Bool) (h : VR r.pl r.bs) : Ct Tryz.prog 99 [rkR ex r] (.tup [rkO false ⟨r.pl, sp r.pl (pbs r.bs)⟩, i64 (els r.bs (sp r.pl (pbs r.bs)) r.bs.length : Nat)]) [] := by
  obtain ⟨n, l⟩ := r
  simp only at h
  have hlen := h.len
  have hn := h.hn
  have hlen1 : l.length ≤ 1048576 := by omega
  have hw : IntKind.i64.wrap n = n := wrap_i64 (by omega) (by omega)
  have hsl : (sp n (pbs l)).length = l.length := by rw [sp_len, pbs_len]
  have hS := h.spread
  refine Ct.intro X99 X99_ok rfl (by kernel_rfl) rfl rfl fun g hg => ?_
  repeat (refine Run.go rfl ?_)
  refine Run.drawI (fun D => ⟨[(1, .bp (1, 0) 0), (2, .bp (2, 0) 0), (8, bif D 0 then .bp (1, 0) 0 else .top), (9, bif D 1 then i16 n else .top), (10, bif D 2 then i64 n else .top), (11, bif D 3 then rkR ex ⟨n, l⟩ else .top), (12, bif D 4 then .own 8 false ((pbs l).map bkA) else .top), (13, bif D 7 then .top else bif D 5 then rkO false ⟨n, (sp n (pbs l))⟩ else .top), (4, bif D 6 then .bp (4, 0) 0 else .top), (5, bif D 8 then i64 ((0 : Nat) : Int) else .top)], [((1, 0), Ob.box (rkR ex ⟨n, l⟩).cells), ((2, 0), Ob.box [i16 0, .lit (.slice none 0 0)]), ((4, 0), (bif D 7 then Ob.box [i16 n, .vec (13, 1) 0 ((sp n (pbs l)).map plA).length] else (bif D 6 then Ob.box [i16 0, .lit (.slice none 0 0)] else Ob.gone))), ((13, 1), (bif D 7 then Ob.vec 9 false ((sp n (pbs l)).map plA) else Ob.gone))]⟩) (by decide +kernel) (by decide +kernel) ?_ ?_ fun k' => ⟨?_, ?_, ?_, ?_, ?_, ?_, ?_, ?_, ?_, trivial⟩
  · exact St.Le.mk' ⟨rfl, rfl, rfl, rfl, rfl, rfl, rfl, rfl, rfl, rfl, trivial⟩ ⟨rfl, rfl, rfl, rfl, trivial⟩
  rotate_left
  · intro D hid h0 hp hs rest hK
    obtain ⟨d1, -⟩ : AllD D false [1] := ideal_sub hs (by decide +kernel)
    simp only [d1, h0, cond_true, cond_false]
    refine Run.go rfl ?_
    refine Run.le ?_ hK
    simp only [d1, h0, Nat.reduceBEq, Bool.false_or, Bool.true_or, cond_true, cond_false]
    exact St.Le.mk' ⟨rfl, rfl, rfl, rfl, rfl, rfl, rfl, rfl, rfl, rfl, trivial⟩ ⟨rfl, rfl, rfl, rfl, trivial⟩
  · intro D hid h0 hp hs rest hK
    obtain ⟨d0, -⟩ : AllD D true [0] := ideal_sub hp (by decide +kernel)
    obtain ⟨d2, -⟩ : AllD D false [2] := ideal_sub hs (by decide +kernel)
    simp only [d0, d2, h0, cond_true, cond_false]
    refine Run.go rfl ?_
    refine Run.le ?_ hK
    simp only [d0, d2, h0, Nat.reduceBEq, Bool.false_or, Bool.true_or, cond_true, cond_false]
    exact St.Le.mk' ⟨rfl, rfl, rfl, rfl, rfl, rfl, rfl, rfl, rfl, rfl, trivial⟩ ⟨rfl, rfl, rfl, rfl, trivial⟩
  · intro D hid h0 hp hs rest hK
    obtain ⟨d1, -⟩ : AllD D true [1] := ideal_sub hp (by decide +kernel)
    obtain ⟨d5, -⟩ : AllD D false [5] := ideal_sub hs (by decide +kernel)
    simp only [d1, d5, h0, cond_true, cond_false]
    refine Run.go rfl ?_
    rw [hw]
    refine Run.le ?_ hK
    simp only [d1, d5, h0, Nat.reduceBEq, Bool.false_or, Bool.true_or, cond_true, cond_false]
    exact St.Le.mk' ⟨rfl, rfl, rfl, rfl, rfl, rfl, rfl, rfl, rfl, rfl, trivial⟩ ⟨rfl, rfl, rfl, rfl, trivial⟩
  · intro D hid h0 hp hs rest hK
    obtain ⟨d4, -⟩ : AllD D false [4] := ideal_sub hs (by decide +kernel)
    simp only [d4, h0, cond_true, cond_false]
    refine Run.go rfl ?_
    refine Run.le ?_ hK
    simp only [d4, h0, Nat.reduceBEq, Bool.false_or, Bool.true_or, cond_true, cond_false]
    exact St.Le.mk' ⟨rfl, rfl, rfl, rfl, rfl, rfl, rfl, rfl, rfl, rfl, trivial⟩ ⟨rfl, rfl, rfl, rfl, trivial⟩
  · intro D hid h0 hp hs rest hK
    obtain ⟨d3, -⟩ : AllD D true [3] := ideal_sub hp (by decide +kernel)
    obtain ⟨d5, -⟩ : AllD D false [5] := ideal_sub hs (by decide +kernel)
    simp only [d3, d5, h0, cond_true, cond_false]
    refine Run.cs rfl (rkBooks_ct ⟨n, l⟩ ex hlen1) rfl (rfB _) ?_
    refine Run.le ?_ hK
    simp only [d3, d5, h0, Nat.reduceBEq, Bool.false_or, Bool.true_or, cond_true, cond_false]
    exact St.Le.mk' ⟨rfl, rfl, rfl, rfl, rfl, rfl, rfl, rfl, rfl, rfl, trivial⟩ ⟨rfl, rfl, rfl, rfl, trivial⟩
  · intro D hid h0 hp hs rest hK
    obtain ⟨d2, d4, -⟩ : AllD D true [2, 4] := ideal_sub hp (by decide +kernel)
    obtain ⟨d7, -⟩ : AllD D false [7] := ideal_sub hs (by decide +kernel)
    simp only [d2, d4, d7, h0, cond_true, cond_false]
    refine Run.cs rfl (spread_ct n (pbs l) false hn (by rw [pbs_len]; omega)) (by rw [frzB]; rfl) (rk_rf _ _) ?_
    refine Run.le ?_ hK
    simp only [d2, d4, d7, h0, Nat.reduceBEq, Bool.false_or, Bool.true_or, cond_true, cond_false]
    exact St.Le.mk' ⟨rfl, rfl, rfl, rfl, rfl, rfl, rfl, rfl, rfl, rfl, trivial⟩ ⟨rfl, rfl, rfl, rfl, trivial⟩
  · intro D hid h0 hp hs rest hK
    obtain ⟨d7, -⟩ : AllD D false [7] := ideal_sub hs (by decide +kernel)
    simp only [d7, h0, cond_true, cond_false]
    refine Run.alloc rfl rfl rfl rfl rfl rfl (by cases D 0 <;> cases D 1 <;> cases D 2 <;> cases D 3 <;> cases D 4 <;> cases D 5 <;> cases D 8 <;> rfl) rfl ?_
    refine Run.le ?_ hK
    simp only [d7, h0, Nat.reduceBEq, Bool.false_or, Bool.true_or, cond_true, cond_false]
    exact St.Le.mk' ⟨rfl, rfl, rfl, rfl, rfl, rfl, rfl, rfl, rfl, rfl, trivial⟩ ⟨rfl, rfl, rfl, rfl, trivial⟩
  · intro D hid h0 hp hs rest hK
    obtain ⟨d5, d6, -⟩ : AllD D true [5, 6] := ideal_sub hp (by decide +kernel)
    obtain ⟨d8, -⟩ : AllD D false [8] := ideal_sub hs (by decide +kernel)
    have d2 : D 2 = true := hid 5 2 (by decide +kernel) (by decide +kernel) d5
    have d4 : D 4 = true := hid 5 4 (by decide +kernel) (by decide +kernel) d5
    have d1 : D 1 = true := hid 2 1 (by decide +kernel) (by decide +kernel) d2
    have d0 : D 0 = true := hid 1 0 (by decide +kernel) (by decide +kernel) d1
    have d3 : D 3 = true := hid 4 3 (by decide +kernel) (by decide +kernel) d4
    simp only [d5, d6, d8, d2, d4, d1, d0, d3, h0, cond_true, cond_false]
    refine Run.unagg 13 1 (13, 1) rfl rfl rfl ?_
    refine Run.go rfl ?_
    refine Run.forget 13 ?_
    refine Run.le ?_ hK
    simp only [d5, d6, d8, d2, d4, d1, d0, d3, h0, Nat.reduceBEq, Bool.false_or, Bool.true_or, cond_true, cond_false]
    exact St.Le.mk' ⟨rfl, rfl, rfl, rfl, rfl, rfl, rfl, rfl, rfl, rfl, trivial⟩ ⟨rfl, rfl, rfl, rfl, trivial⟩
  · intro D hid h0 hp hs rest hK
    obtain ⟨d7, -⟩ : AllD D true [7] := ideal_sub hp (by decide +kernel)
    simp only [d7, h0, cond_true, cond_false]
    refine Run.go rfl ?_
    refine Run.le ?_ hK
    simp only [d7, h0, Nat.reduceBEq, Bool.false_or, Bool.true_or, cond_true, cond_false]
    exact St.Le.mk' ⟨rfl, rfl, rfl, rfl, rfl, rfl, rfl, rfl, rfl, rfl, trivial⟩ ⟨rfl, rfl, rfl, rfl, trivial⟩
  generalize sp n (pbs l) = m at *
  repeat (refine Run.go rfl ?_)
  refine Run.loop (fun j : Nat => ⟨[(1, .bp (1, 0) 0), (2, .bp (2, 0) 0), (4, .bp (4, 0) 0), (5, i64 (els l m j : Nat)), (15, .vec (13, 1) 0 (m.map plA).length), (16, i64 l.length), (17, i64 (j : Nat))],
    [((1, 0), .box (rkR ex ⟨n, l⟩).cells), ((2, 0), .box [i16 0, .lit (.slice none 0 0)]), ((4, 0), .box [i16 n, .vec (13, 1) 0 (m.map plA).length]), ((13, 1), .vec 9 false (m.map plA))]⟩) (fun j => j ≤ l.length) (fun j => l.length - j) 0 (by omega) ?_ ?_
  · refine St.Le.mk' ⟨rfl, rfl, rfl, rfl, rfl, ?_, rfl, trivial⟩ ⟨rfl, rfl, rfl, rfl, trivial⟩
    show i64 ((m.map plA).length : Nat) = _
    rw [List.length_map, hsl]
  intro j hj IH
  repeat (refine Run.go rfl ?_)
  refine Run.cond rfl (fun h0 => ?_) (fun h0 => ?_)
  · have hlt : j < l.length := by simpa using h0
    have hlm : j < m.length := by omega
    have hml : (m.map plA).length = m.length := List.length_map ..
    have hel : els l m (j + 1) = els l m j + if l[j].p = m[j].p then 0 else 1 := by rw [els, pa_get hlt, pa_get hlm]
    have hee := els_le l m j
    have hat : (m.map plA)[0 + (j : Int).toNat]? = some (plA m[j]) := by rw [Nat.zero_add, Int.toNat_natCast, List.getElem?_map, List.getElem?_eq_getElem hlm]; rfl
    repeat (refine Run.go rfl ?_)
    refine Run.val rfl rfl rfl (ValOk.idxv (m := (j : Int)) rfl rfl rfl rfl rfl rfl (by omega) (by omega)) rfl ?_
    refine Run.val rfl rfl rfl (ValOk.loadv (plA m[j]) rfl rfl rfl rfl hat rfl) rfl ?_
    repeat (refine Run.go rfl ?_)
    refine Run.draw (by kernel_rfl) (by decide +kernel) ?_
    repeat (refine Quiet.go rfl ?_)
    refine Quiet.val rfl rfl (ValOk.idx (plA l[j]) rfl rfl rfl rfl rfl (by omega) (by simp [hlt])) rfl ?_
    repeat (refine Quiet.go rfl ?_)
    refine Quiet.nil ?_
    refine Run.condJ ⟨[(1, .bp (1, 0) 0), (2, .bp (2, 0) 0), (4, .bp (4, 0) 0), (5, i64 (els l m (j + 1) : Nat)), (15, .vec (13, 1) 0 (m.map plA).length), (16, i64 l.length), (17, i64 (j : Nat))],
      [((1, 0), .box (rkR ex ⟨n, l⟩).cells), ((2, 0), .box [i16 0, .lit (.slice none 0 0)]), ((4, 0), .box [i16 n, .vec (13, 1) 0 (m.map plA).length]), ((13, 1), .vec 9 false (m.map plA))]⟩ rfl (fun h1 k' hN => ?_) (fun h1 k' hN => ?_) ?_
    · have h1 : ¬ l[j].p = m[j].p := fun e => by simp [e] at h1
      rw [hel, if_neg h1] at hN
      repeat (refine Run.go rfl ?_)
      refine Run.of hN ⟨rfl, rfl, rfl, ?_, rfl, rfl, rfl, trivial⟩ ⟨rfl, rfl, rfl, rfl, trivial⟩
      show i64 (IntKind.i64.wrap ((els l m j : Nat) + 1)) = i64 _
      rw [wrap_i64 (by omega) (by omega)]
      rfl
    · have h1 : l[j].p = m[j].p := by simp at h1; omega
      rw [hel, if_pos h1, Nat.add_zero] at hN
      repeat (refine Run.go rfl ?_)
      exact Run.of hN ⟨rfl, rfl, rfl, rfl, rfl, rfl, rfl, trivial⟩ ⟨rfl, rfl, rfl, rfl, trivial⟩
    repeat (refine Run.go rfl ?_)
    refine Run.of (IH (j + 1) (by omega) (by omega)) ⟨rfl, rfl, rfl, rfl, rfl, rfl, ?_, trivial⟩ ⟨rfl, rfl, rfl, rfl, trivial⟩
    show i64 (IntKind.i64.wrap _) = i64 _
    rw [wrap_i64 (by omega) (by omega)]
    rfl
  · have hjl : j = l.length := by simp at h0; omega
    subst hjl
    repeat (refine Run.go rfl ?_)
    refine Run.packBox (2, 0) 1 rfl rfl rfl rfl ?_
    exact Run.ret hg rfl rfl
end Go.Proofs.YtbkelajnngdimaaGreatDoor

/- Contracts of the program's functions, and what follows from them. -/
set_option maxRecDepth 100000
namespace Go.Proofs.YtbkelajnngdimaaGreatDoor
open Go Go.Av
noncomputable def X102 : Fx := ⟨Tryz.prog, tys, 102, Tryz.f102, [0, 1]⟩
theorem X102_ok : X102.Ok := ⟨Tryz.func102, tys_ok⟩
theorem l05Elsewhere_ct (r q : Rk) (e1 e2 : Bool) (hl : r.bs.length ≤ 1048576) (hq : q.bs.length = r.bs.length) : Ct Tryz.prog 102 [.rp (rkR e1 r).cells 0, .rp (rkR e2 q).cells 0] (i64 (els r.bs q.bs r.bs.length : Nat)) [] := by
  obtain ⟨n, l⟩ := r
  obtain ⟨n2, m⟩ := q
  simp only at hl hq
  refine Ct.intro X102 X102_ok rfl (by kernel_rfl) rfl rfl fun g hg => ?_
  repeat (refine Run.go rfl ?_)
  refine Run.loop (fun j : Nat => ⟨[(0, .rp (rkR e1 ⟨n, l⟩).cells 0), (1, .rp (rkR e2 ⟨n2, m⟩).cells 0), (5, i64 (els l m j : Nat)), (6, i64 (j : Nat))], []⟩) (fun j => j ≤ l.length) (fun j => l.length - j) 0 (by omega) ?_ ?_
  · exact St.Le.mk' ⟨rfl, rfl, rfl, rfl, trivial⟩ trivial
  intro j hj IH
  repeat (refine Run.go rfl ?_)
  refine Run.cond rfl (fun h0 => ?_) (fun h0 => ?_)
  · have hlt : j < l.length := by simpa using h0
    have hlm : j < m.length := by omega
    have hel : els l m (j + 1) = els l m j + if l[j].p = m[j].p then 0 else 1 := by rw [els, pa_get hlt, pa_get hlm]
    have hee := els_le l m j
    repeat (refine Run.go rfl ?_)
    refine Run.draw (by kernel_rfl) (by decide +kernel) ?_
    repeat (refine Quiet.go rfl ?_)
    refine Quiet.val rfl rfl (ValOk.idx (plA l[j]) rfl rfl rfl rfl rfl (by omega) (by simp [hlt])) rfl ?_
    repeat (refine Quiet.go rfl ?_)
    refine Quiet.val rfl rfl (ValOk.idx (plA m[j]) rfl rfl rfl rfl rfl (by omega) (by simp [hlm])) rfl ?_
    repeat (refine Quiet.go rfl ?_)
    refine Quiet.nil ?_
    refine Run.condJ ⟨[(0, .rp (rkR e1 ⟨n, l⟩).cells 0), (1, .rp (rkR e2 ⟨n2, m⟩).cells 0), (5, i64 (els l m (j + 1) : Nat)), (6, i64 (j : Nat))], []⟩ rfl (fun h1 k' hN => ?_) (fun h1 k' hN => ?_) ?_
    · have h1 : ¬ l[j].p = m[j].p := fun e => by simp [e] at h1
      rw [hel, if_neg h1] at hN
      repeat (refine Run.go rfl ?_)
      refine Run.of hN ⟨rfl, rfl, ?_, rfl, trivial⟩ trivial
      show i64 (IntKind.i64.wrap ((els l m j : Nat) + 1)) = i64 _
      rw [wrap_i64 (by omega) (by omega)]
      rfl
    · have h1 : l[j].p = m[j].p := by simp at h1; omega
      rw [hel, if_pos h1, Nat.add_zero] at hN
      repeat (refine Run.go rfl ?_)
      exact Run.of hN ⟨rfl, rfl, rfl, rfl, trivial⟩ trivial
    repeat (refine Run.go rfl ?_)
    refine Run.of (IH (j + 1) (by omega) (by omega)) ⟨rfl, rfl, rfl, ?_, trivial⟩ trivial
    show i64 (IntKind.i64.wrap _) = i64 _
    rw [wrap_i64 (by omega) (by omega)]
    rfl
  · have hjl : j = l.length := by simp at h0; omega
    subst hjl
    repeat (refine Run.go rfl ?_)
    exact Run.ret hg rfl rfl
end Go.Proofs.YtbkelajnngdimaaGreatDoor

/- Contracts of the program's functions, and what follows from them. -/
set_option maxRecDepth 100000
namespace Go.Proofs.YtbkelajnngdimaaGreatDoor
open Go Go.Av
theorem pbs_shf (l : List Pl) (i c : Nat) (d : Int) : pbs (shf l i c d) = pbs l := by
  unfold shf pbs
  rw [List.map_append, List.map_append, List.map_map]
  have e : ((fun x : Pl => x.b) ∘ mvP d) = fun x => x.b := rfl
  rw [e, ← List.map_append, ← List.map_append, ← List.drop_drop, List.append_assoc, List.take_append_drop, List.take_append_drop]
theorem pbs_sh (n : Int) (l : List Pl) (k : Nat) : pbs (sh n l k) = pbs l := by
  unfold sh
  split
  · rfl
  split
  · exact pbs_shf _ _ _ _
  · exact pbs_shf _ _ _ _
theorem idx_pbs (l : List Pl) (b : Bk) : idx l b = (pbs l).findIdx fun x => decide (0 < uc x b) := by
  unfold idx pbs
  rw [List.findIdx_map]
  rfl
structure RkK (n : Int) (l : List Pl) (L : List Bk) : Prop where
  v : VR n l
  r : ∀ x ∈ l, bkRng x.b
  e : pbs l = L
theorem RkK.len {n : Int} {l : List Pl} {L : List Bk} (h : RkK n l L) : l.length = L.length := by rw [← h.e, pbs_len]
def bOk (b : Bk) : Prop := bkRng b ∧ vB b = true
end Go.Proofs.YtbkelajnngdimaaGreatDoor

/- Contracts of the program's functions, and what follows from them. -/
set_option maxRecDepth 100000
namespace Go.Proofs.YtbkelajnngdimaaGreatDoor
open Go Go.Av
structure LgOk (D : List Bool) (t : Bool) (i f m w : Nat) : Prop where
  wi : w ≤ i
  fm : f + m ≤ i
  row : ∀ j, f ≤ j → j < f + m → D.getD j false = t
  now : ∀ j, i - w ≤ j → j < i → D.getD j false = t
  ex : 0 < m ↔ ∃ j, j < i ∧ D.getD j false = t
  wm : w ≤ m
end Go.Proofs.YtbkelajnngdimaaGreatDoor

/- Contracts of library functions at this seat: written by the kit's tools lay-shelf.mjs and lay-plain.mjs; a part of what they wrote. -/
namespace Go.Proofs
open Go.Shelf
def Tryz.lays169_ren : Go.Shelf.Ren := ⟨fun | 169 => 227 | n => n, fun | 70 => 253 | 9 => 9 | 0 => 0 | 72 => 255 | 37 => 22 | 127 => 276 | 3 => 3 | 5 => 5 | n => n, fun | n => n⟩
theorem Tryz.lays169 : Go.Proofs.Lays.n169 Tryz.prog Tryz.lays169_ren := {
  mixed := by kernel_rfl
  f169 := Tryz.func227.trans (congrArg some (by kernel_rfl))
  t0 := Tryz.underlying0
  a0 := Tryz.isAgg0
  z0 := Tryz.sizeOf0
  v0 := Tryz.zeroValue0
  t3 := Tryz.underlying3
  a3 := Tryz.isAgg3
  z3 := Tryz.sizeOf3
  v3 := Tryz.zeroValue3
  t9 := Tryz.underlying9
  a9 := Tryz.isAgg9
  z9 := Tryz.sizeOf9
  v9 := Tryz.zeroValue9
  t37 := Tryz.underlying22
  a37 := Tryz.isAgg22
  z37 := Tryz.sizeOf22
  v37 := Tryz.zeroValue22
  t70 := Tryz.underlying253
  a70 := Tryz.isAgg253
  z70 := Tryz.sizeOf253
  v70 := Tryz.zeroValue253
  t72 := Tryz.underlying255
  a72 := Tryz.isAgg255
  z72 := Tryz.sizeOf255
  v72 := Tryz.zeroValue255
  t127 := Tryz.underlying276
  a127 := Tryz.isAgg276
  z127 := Tryz.sizeOf276
  v127 := Tryz.zeroValue276 }
theorem Tryz.Builder_Extra_169 : Builder.Extra Tryz.prog Tryz.lays169_ren := {
  sizeBuilder := by kernel_rfl
  liesBuilder := by kernel_rfl
  t5 := Tryz.underlying5
  a5 := Tryz.isAgg5
  z5 := Tryz.sizeOf5
  v5 := Tryz.zeroValue5
  infoByte := by kernel_rfl
  cellsByte := by kernel_rfl
  sizeByte := by kernel_rfl
  neB5 := by decide }
def Tryz.lays137_ren : Go.Shelf.Ren := ⟨fun | 137 => 219 | 217 => 255 | 266 => 284 | n => n, fun | 9 => 9 | 5 => 5 | 3 => 3 | n => n, fun | n => n⟩
theorem Tryz.lays137 : Go.Proofs.Lays.n137 Tryz.prog Tryz.lays137_ren := {
  mixed := by kernel_rfl
  f137 := Tryz.func219.trans (congrArg some (by kernel_rfl))
  f217 := Tryz.func255.trans (congrArg some (by kernel_rfl))
  f266 := Tryz.func284.trans (congrArg some (by kernel_rfl))
  t3 := Tryz.underlying3
  a3 := Tryz.isAgg3
  z3 := Tryz.sizeOf3
  v3 := Tryz.zeroValue3
  t5 := Tryz.underlying5
  a5 := Tryz.isAgg5
  z5 := Tryz.sizeOf5
  v5 := Tryz.zeroValue5
  t9 := Tryz.underlying9
  a9 := Tryz.isAgg9
  z9 := Tryz.sizeOf9
  v9 := Tryz.zeroValue9 }
open Go.RowKit in
theorem Tryz.strings_IndexByte (s : ByteArray) (c : Int) (w : World) :
    Calls Tryz.prog 219 #[.string s, .int .u8 c] w fun e w' => e = .returned (.int .i64 (Lib.indexByte s.data.toList c.toNat.toUInt8)) ∧ w' = w := Any.strings_IndexByte Tryz.lays137 s c w
open Go.RowKit in
theorem Tryz.Builder_String_any_k (B b : Nat) (l : List UInt8) (w : World) (h : Lib.IsBuilderF 255 5 B b (Lib.byteCells l) w) (hBw : B ≤ w.heap.size) :
    Calls Tryz.prog 227 #[.pointer (some ⟨b, 0, none⟩)] w fun e w' => e = .returned (.string ⟨l.toArray⟩) ∧ (Lib.IsBuilderF 255 5 B b (Lib.byteCells l) w' ∧ Below B w w' ∧ Lib.OthersKept 5 (some b) w w') := Any.Builder_String_any_k Tryz.lays169 Tryz.Builder_Extra_169 B b l w h hBw
def Tryz.laysM173_ren : Go.Shelf.Ren := ⟨fun | 173 => 225 | 246 => 262 | 283 => 288 | 284 => 289 | 285 => 290 | 286 => 291 | 129 => 309 | 317 => 308 | 318 => 310 | 319 => 311 | 320 => 312 | 337 => 320 | 338 => 321 | n => n, fun | 2 => 2 | 3 => 3 | 9 => 9 | 4 => 4 | 171 => 301 | 0 => 0 | 53 => 182 | 37 => 22 | 5 => 5 | 173 => 304 | 212 => 319 | 51 => 295 | 20 => 20 | 213 => 320 | 46 => 260 | 232 => 334 | 233 => 335 | n => n, fun | 17 => 3 | 18 => 6 | 19 => 7 | n => n⟩
theorem Tryz.laysM173 : Go.Proofs.LaysM.n173 Tryz.prog Tryz.laysM173_ren := {
  mixed := by kernel_rfl
  f129 := Tryz.func309.trans (congrArg some (by kernel_rfl))
  f173 := Tryz.func225.trans (congrArg some (by kernel_rfl))
  f246 := Tryz.func262.trans (congrArg some (by kernel_rfl))
  f283 := Tryz.func288.trans (congrArg some (by kernel_rfl))
  f284 := Tryz.func289.trans (congrArg some (by kernel_rfl))
  f285 := Tryz.func290.trans (congrArg some (by kernel_rfl))
  f286 := Tryz.func291.trans (congrArg some (by kernel_rfl))
  f317 := Tryz.func308.trans (congrArg some (by kernel_rfl))
  f318 := Tryz.func310.trans (congrArg some (by kernel_rfl))
  f319 := Tryz.func311.trans (congrArg some (by kernel_rfl))
  f320 := Tryz.func312.trans (congrArg some (by kernel_rfl))
  f337 := Tryz.func320.trans (congrArg some (by kernel_rfl))
  f338 := Tryz.func321.trans (congrArg some (by kernel_rfl))
  t0 := Tryz.underlying0
  a0 := Tryz.isAgg0
  z0 := Tryz.sizeOf0
  v0 := Tryz.zeroValue0
  t2 := Tryz.underlying2
  a2 := Tryz.isAgg2
  z2 := Tryz.sizeOf2
  v2 := Tryz.zeroValue2
  t3 := Tryz.underlying3
  a3 := Tryz.isAgg3
  z3 := Tryz.sizeOf3
  v3 := Tryz.zeroValue3
  t4 := Tryz.underlying4
  a4 := Tryz.isAgg4
  z4 := Tryz.sizeOf4
  v4 := Tryz.zeroValue4
  t5 := Tryz.underlying5
  a5 := Tryz.isAgg5
  z5 := Tryz.sizeOf5
  v5 := Tryz.zeroValue5
  t9 := Tryz.underlying9
  a9 := Tryz.isAgg9
  z9 := Tryz.sizeOf9
  v9 := Tryz.zeroValue9
  t20 := Tryz.underlying20
  a20 := Tryz.isAgg20
  z20 := Tryz.sizeOf20
  v20 := Tryz.zeroValue20
  t37 := Tryz.underlying22
  a37 := Tryz.isAgg22
  z37 := Tryz.sizeOf22
  v37 := Tryz.zeroValue22
  t46 := Tryz.underlying260
  a46 := Tryz.isAgg260
  z46 := Tryz.sizeOf260
  v46 := Tryz.zeroValue260
  t51 := Tryz.underlying295
  a51 := Tryz.isAgg295
  z51 := Tryz.sizeOf295
  v51 := Tryz.zeroValue295
  t53 := Tryz.underlying182
  a53 := Tryz.isAgg182
  z53 := Tryz.sizeOf182
  v53 := Tryz.zeroValue182
  t171 := Tryz.underlying301
  a171 := Tryz.isAgg301
  z171 := Tryz.sizeOf301
  v171 := Tryz.zeroValue301
  t173 := Tryz.underlying304
  a173 := Tryz.isAgg304
  z173 := Tryz.sizeOf304
  v173 := Tryz.zeroValue304
  t212 := Tryz.underlying319
  a212 := Tryz.isAgg319
  z212 := Tryz.sizeOf319
  v212 := Tryz.zeroValue319
  t213 := Tryz.underlying320
  a213 := Tryz.isAgg320
  z213 := Tryz.sizeOf320
  t232 := Tryz.underlying334
  a232 := Tryz.isAgg334
  z232 := Tryz.sizeOf334
  v232 := Tryz.zeroValue334
  t233 := Tryz.underlying335
  a233 := Tryz.isAgg335
  z233 := Tryz.sizeOf335
  v233 := Tryz.zeroValue335
  g17 := by kernel_rfl
  g18 := by kernel_rfl
  g19 := by kernel_rfl
  i0 := by kernel_rfl
  i2 := by kernel_rfl
  i3 := by kernel_rfl
  i4 := by kernel_rfl
  i5 := by kernel_rfl
  i9 := by kernel_rfl
  i20 := by kernel_rfl
  i37 := by kernel_rfl
  i46 := by kernel_rfl
  i51 := by kernel_rfl
  i53 := by kernel_rfl
  i171 := by kernel_rfl
  i173 := by kernel_rfl
  i212 := by kernel_rfl
  i232 := by kernel_rfl
  i233 := by kernel_rfl
  m17 := by kernel_rfl
  m18 := by kernel_rfl
  m19 := by kernel_rfl }
open Go.RowKit Go.Sort Go.Lib in
theorem Tryz.strconv_FormatInt_10 (n : Int) (h0 : -9223372036854775808 ≤ n) (h1 : n ≤ 9223372036854775807) (w : World) (htab : Lib.TabIs Tryz.prog w "internal/strconv.uint64pow10" .u64 Lib.pow10Tab) :
    Calls Tryz.prog 225 #[.int .i64 n, .int .i64 10] w fun e w' => e = .returned (.string ⟨(Lib.itoa n).toArray⟩) ∧ ∃ k os, w' = grow (w.drewN k) os := Any.strconv_FormatInt_10 Tryz.laysM173 n h0 h1 w htab
end Go.Proofs

/- Contracts of library functions at this seat: written by the kit's tools lay-shelf.mjs and lay-plain.mjs; a part of what they wrote. -/
namespace Go.Proofs
open Go.Shelf
end Go.Proofs

/- Contracts of library functions at this seat: written by the kit's tools lay-shelf.mjs and lay-plain.mjs; a part of what they wrote. -/
namespace Go.Proofs
open Go.Shelf
def Tryz.lays156_ren : Go.Shelf.Ren := ⟨fun | 156 => 260 | 165 => 282 | 166 => 226 | 169 => 227 | 240 => 263 | 241 => 304 | 276 => 292 | 277 => 318 | n => n, fun | 31 => 247 | 9 => 9 | 3 => 3 | 4 => 4 | 0 => 0 | 20 => 20 | 72 => 255 | 76 => 240 | 70 => 253 | 37 => 22 | 75 => 239 | 127 => 276 | 164 => 306 | 5 => 5 | 80 => 256 | n => n, fun | n => n⟩
theorem Tryz.lays156 : Go.Proofs.Lays.n156 Tryz.prog Tryz.lays156_ren := {
  mixed := by kernel_rfl
  f156 := Tryz.func260.trans (congrArg some (by kernel_rfl))
  f165 := Tryz.func282.trans (congrArg some (by kernel_rfl))
  f166 := Tryz.func226.trans (congrArg some (by kernel_rfl))
  f169 := Tryz.func227.trans (congrArg some (by kernel_rfl))
  f240 := Tryz.func263.trans (congrArg some (by kernel_rfl))
  f241 := Tryz.func304.trans (congrArg some (by kernel_rfl))
  f276 := Tryz.func292.trans (congrArg some (by kernel_rfl))
  f277 := Tryz.func318.trans (congrArg some (by kernel_rfl))
  t0 := Tryz.underlying0
  a0 := Tryz.isAgg0
  z0 := Tryz.sizeOf0
  v0 := Tryz.zeroValue0
  t3 := Tryz.underlying3
  a3 := Tryz.isAgg3
  z3 := Tryz.sizeOf3
  v3 := Tryz.zeroValue3
  t4 := Tryz.underlying4
  a4 := Tryz.isAgg4
  z4 := Tryz.sizeOf4
  v4 := Tryz.zeroValue4
  t9 := Tryz.underlying9
  a9 := Tryz.isAgg9
  z9 := Tryz.sizeOf9
  v9 := Tryz.zeroValue9
  t20 := Tryz.underlying20
  a20 := Tryz.isAgg20
  z20 := Tryz.sizeOf20
  v20 := Tryz.zeroValue20
  t31 := Tryz.underlying247
  a31 := Tryz.isAgg247
  z31 := Tryz.sizeOf247
  v31 := Tryz.zeroValue247
  t37 := Tryz.underlying22
  a37 := Tryz.isAgg22
  z37 := Tryz.sizeOf22
  v37 := Tryz.zeroValue22
  t70 := Tryz.underlying253
  a70 := Tryz.isAgg253
  z70 := Tryz.sizeOf253
  v70 := Tryz.zeroValue253
  t72 := Tryz.underlying255
  a72 := Tryz.isAgg255
  z72 := Tryz.sizeOf255
  v72 := Tryz.zeroValue255
  t75 := Tryz.underlying239
  a75 := Tryz.isAgg239
  z75 := Tryz.sizeOf239
  v75 := Tryz.zeroValue239
  t76 := Tryz.underlying240
  a76 := Tryz.isAgg240
  z76 := Tryz.sizeOf240
  v76 := Tryz.zeroValue240
  t127 := Tryz.underlying276
  a127 := Tryz.isAgg276
  z127 := Tryz.sizeOf276
  v127 := Tryz.zeroValue276
  t164 := Tryz.underlying306
  a164 := Tryz.isAgg306
  z164 := Tryz.sizeOf306
  v164 := Tryz.zeroValue306 }
theorem Tryz.Builder_Extra_156 : Builder.Extra Tryz.prog Tryz.lays156_ren := {
  sizeBuilder := by kernel_rfl
  liesBuilder := by kernel_rfl
  t5 := Tryz.underlying5
  a5 := Tryz.isAgg5
  z5 := Tryz.sizeOf5
  v5 := Tryz.zeroValue5
  infoByte := by kernel_rfl
  cellsByte := by kernel_rfl
  sizeByte := by kernel_rfl
  neB5 := by decide }
open Go.RowKit in
theorem Tryz.strings_Join (bk o c : Nat) (xs : List ByteArray) (sep : ByteArray) (w : World) (hcells : ∀ (j : Nat) x, xs[j]? = some x → w.cell? ⟨bk, o + j, none⟩ = some (.string x)) (hbk : bk < w.heap.size) (hN : xs.length ≤ 140737488355328) (hcap : xs.length ≤ c) (hlen : (Lib.join (xs.map (·.data.toList)) sep.data.toList).length ≤ 140737488355328) :
    Calls Tryz.prog 260 #[.slice (some ⟨bk, o, none⟩) xs.length c, .string sep] w fun e w' => e = .returned (.string ⟨(Lib.join (xs.map (·.data.toList)) sep.data.toList).toArray⟩) ∧ Below w.heap.size w w' := Any.strings_Join Tryz.lays156 Tryz.Builder_Extra_156 bk o c xs sep w hcells hbk hN hcap hlen
end Go.Proofs

/- Contracts of library functions at this seat: written by the kit's tools lay-shelf.mjs and lay-plain.mjs; a part of what they wrote. -/
namespace Go.Proofs
open Go.Shelf
def Tryz.laysC174_ren : Go.Shelf.Ren := ⟨fun | 174 => 223 | 247 => 261 | 245 => 250 | 287 => 287 | 279 => 277 | 280 => 278 | 281 => 279 | 282 => 280 | 321 => 306 | 322 => 307 | 316 => 300 | 171 => 302 | 205 => 301 | 243 => 317 | 246 => 262 | 283 => 288 | 284 => 289 | 285 => 290 | 286 => 291 | 129 => 309 | 317 => 308 | 318 => 310 | 319 => 311 | 320 => 312 | 337 => 320 | 338 => 321 | n => n, fun | 9 => 9 | 3 => 3 | 2 => 2 | 75 => 239 | 85 => 249 | 4 => 4 | 167 => 289 | 5 => 5 | 53 => 182 | 175 => 299 | 46 => 260 | 168 => 290 | 37 => 22 | 0 => 0 | 210 => 313 | 21 => 21 | 127 => 276 | 145 => 327 | 143 => 325 | 171 => 301 | 173 => 304 | 212 => 319 | 51 => 295 | 20 => 20 | 213 => 320 | 232 => 334 | 233 => 335 | 80 => 256 | n => n, fun | 15 => 1 | 16 => 2 | 17 => 3 | 18 => 6 | 19 => 7 | n => n⟩
theorem Tryz.laysC174 : Go.Proofs.LaysC.n174 Tryz.prog Tryz.laysC174_ren := {
  mixed := by kernel_rfl
  f129 := Tryz.func309.trans (congrArg some (by kernel_rfl))
  f171 := Tryz.func302.trans (congrArg some (by kernel_rfl))
  f174 := Tryz.func223.trans (congrArg some (by kernel_rfl))
  f205 := Tryz.func301.trans (congrArg some (by kernel_rfl))
  f243 := Tryz.func317.trans (congrArg some (by kernel_rfl))
  f245 := Tryz.func250.trans (congrArg some (by kernel_rfl))
  f246 := Tryz.func262.trans (congrArg some (by kernel_rfl))
  f247 := Tryz.func261.trans (congrArg some (by kernel_rfl))
  f279 := Tryz.func277.trans (congrArg some (by kernel_rfl))
  f280 := Tryz.func278.trans (congrArg some (by kernel_rfl))
  f281 := Tryz.func279.trans (congrArg some (by kernel_rfl))
  f282 := Tryz.func280.trans (congrArg some (by kernel_rfl))
  f283 := Tryz.func288.trans (congrArg some (by kernel_rfl))
  f284 := Tryz.func289.trans (congrArg some (by kernel_rfl))
  f285 := Tryz.func290.trans (congrArg some (by kernel_rfl))
  f286 := Tryz.func291.trans (congrArg some (by kernel_rfl))
  f287 := Tryz.func287.trans (congrArg some (by kernel_rfl))
  f316 := Tryz.func300.trans (congrArg some (by kernel_rfl))
  f317 := Tryz.func308.trans (congrArg some (by kernel_rfl))
  f318 := Tryz.func310.trans (congrArg some (by kernel_rfl))
  f319 := Tryz.func311.trans (congrArg some (by kernel_rfl))
  f320 := Tryz.func312.trans (congrArg some (by kernel_rfl))
  f321 := Tryz.func306.trans (congrArg some (by kernel_rfl))
  f322 := Tryz.func307.trans (congrArg some (by kernel_rfl))
  f337 := Tryz.func320.trans (congrArg some (by kernel_rfl))
  f338 := Tryz.func321.trans (congrArg some (by kernel_rfl))
  t0 := Tryz.underlying0
  a0 := Tryz.isAgg0
  z0 := Tryz.sizeOf0
  v0 := Tryz.zeroValue0
  t2 := Tryz.underlying2
  a2 := Tryz.isAgg2
  z2 := Tryz.sizeOf2
  v2 := Tryz.zeroValue2
  t3 := Tryz.underlying3
  a3 := Tryz.isAgg3
  z3 := Tryz.sizeOf3
  v3 := Tryz.zeroValue3
  t4 := Tryz.underlying4
  a4 := Tryz.isAgg4
  z4 := Tryz.sizeOf4
  v4 := Tryz.zeroValue4
  t5 := Tryz.underlying5
  a5 := Tryz.isAgg5
  z5 := Tryz.sizeOf5
  v5 := Tryz.zeroValue5
  t9 := Tryz.underlying9
  a9 := Tryz.isAgg9
  z9 := Tryz.sizeOf9
  v9 := Tryz.zeroValue9
  t20 := Tryz.underlying20
  a20 := Tryz.isAgg20
  z20 := Tryz.sizeOf20
  v20 := Tryz.zeroValue20
  t21 := Tryz.underlying21
  a21 := Tryz.isAgg21
  z21 := Tryz.sizeOf21
  v21 := Tryz.zeroValue21
  t37 := Tryz.underlying22
  a37 := Tryz.isAgg22
  z37 := Tryz.sizeOf22
  v37 := Tryz.zeroValue22
  t46 := Tryz.underlying260
  a46 := Tryz.isAgg260
  z46 := Tryz.sizeOf260
  v46 := Tryz.zeroValue260
  t51 := Tryz.underlying295
  a51 := Tryz.isAgg295
  z51 := Tryz.sizeOf295
  v51 := Tryz.zeroValue295
  t53 := Tryz.underlying182
  a53 := Tryz.isAgg182
  z53 := Tryz.sizeOf182
  v53 := Tryz.zeroValue182
  t75 := Tryz.underlying239
  a75 := Tryz.isAgg239
  z75 := Tryz.sizeOf239
  v75 := Tryz.zeroValue239
  t85 := Tryz.underlying249
  a85 := Tryz.isAgg249
  z85 := Tryz.sizeOf249
  v85 := Tryz.zeroValue249
  t127 := Tryz.underlying276
  a127 := Tryz.isAgg276
  z127 := Tryz.sizeOf276
  v127 := Tryz.zeroValue276
  t143 := Tryz.underlying325
  a143 := Tryz.isAgg325
  z143 := Tryz.sizeOf325
  v143 := Tryz.zeroValue325
  t145 := Tryz.underlying327
  a145 := Tryz.isAgg327
  z145 := Tryz.sizeOf327
  v145 := Tryz.zeroValue327
  t167 := Tryz.underlying289
  a167 := Tryz.isAgg289
  z167 := Tryz.sizeOf289
  v167 := Tryz.zeroValue289
  t168 := Tryz.underlying290
  a168 := Tryz.isAgg290
  z168 := Tryz.sizeOf290
  v168 := Tryz.zeroValue290
  t171 := Tryz.underlying301
  a171 := Tryz.isAgg301
  z171 := Tryz.sizeOf301
  v171 := Tryz.zeroValue301
  t173 := Tryz.underlying304
  a173 := Tryz.isAgg304
  z173 := Tryz.sizeOf304
  v173 := Tryz.zeroValue304
  t175 := Tryz.underlying299
  a175 := Tryz.isAgg299
  z175 := Tryz.sizeOf299
  v175 := Tryz.zeroValue299
  t210 := Tryz.underlying313
  a210 := Tryz.isAgg313
  z210 := Tryz.sizeOf313
  v210 := Tryz.zeroValue313
  t212 := Tryz.underlying319
  a212 := Tryz.isAgg319
  z212 := Tryz.sizeOf319
  v212 := Tryz.zeroValue319
  t213 := Tryz.underlying320
  a213 := Tryz.isAgg320
  z213 := Tryz.sizeOf320
  t232 := Tryz.underlying334
  a232 := Tryz.isAgg334
  z232 := Tryz.sizeOf334
  v232 := Tryz.zeroValue334
  t233 := Tryz.underlying335
  a233 := Tryz.isAgg335
  z233 := Tryz.sizeOf335
  v233 := Tryz.zeroValue335
  g15 := by kernel_rfl
  g16 := by kernel_rfl
  g17 := by kernel_rfl
  g18 := by kernel_rfl
  g19 := by kernel_rfl
  t80 := Tryz.underlying256
  a80 := Tryz.isAgg256
  z80 := Tryz.sizeOf256
  v80 := Tryz.zeroValue256
  i0 := by kernel_rfl
  i2 := by kernel_rfl
  i3 := by kernel_rfl
  i4 := by kernel_rfl
  i5 := by kernel_rfl
  i9 := by kernel_rfl
  i20 := by kernel_rfl
  i21 := by kernel_rfl
  i37 := by kernel_rfl
  i46 := by kernel_rfl
  i51 := by kernel_rfl
  i53 := by kernel_rfl
  i75 := by kernel_rfl
  i80 := by kernel_rfl
  i85 := by kernel_rfl
  i127 := by kernel_rfl
  i143 := by kernel_rfl
  i145 := by kernel_rfl
  i167 := by kernel_rfl
  i168 := by kernel_rfl
  i171 := by kernel_rfl
  i173 := by kernel_rfl
  i175 := by kernel_rfl
  i210 := by kernel_rfl
  i212 := by kernel_rfl
  i232 := by kernel_rfl
  i233 := by kernel_rfl
  m15 := by kernel_rfl
  m16 := by kernel_rfl
  m17 := by kernel_rfl
  m18 := by kernel_rfl
  m19 := by kernel_rfl
  c0 := by kernel_rfl
  c2 := by kernel_rfl
  c3 := by kernel_rfl
  c4 := by kernel_rfl
  c5 := by kernel_rfl
  c9 := by kernel_rfl
  c20 := by kernel_rfl
  c21 := by kernel_rfl
  c37 := by kernel_rfl
  c46 := by kernel_rfl
  c51 := by kernel_rfl
  c53 := by kernel_rfl
  c75 := by kernel_rfl
  c80 := by kernel_rfl
  c85 := by kernel_rfl
  c127 := by kernel_rfl
  c143 := by kernel_rfl
  c145 := by kernel_rfl
  c167 := by kernel_rfl
  c168 := by kernel_rfl
  c171 := by kernel_rfl
  c173 := by kernel_rfl
  c175 := by kernel_rfl
  c210 := by kernel_rfl
  c212 := by kernel_rfl
  c213 := by kernel_rfl
  c232 := by kernel_rfl
  c233 := by kernel_rfl }
open Go.RowKit in
theorem Tryz.strconv_ParseInt_10_at64_ok (s : ByteArray) (hmax : s.size ≤ 9223372036854775806) (v : Int) (h : Lib.parseIntB 64 s.data.toList = .ok v) (w : World) :
    Calls Tryz.prog 223 #[.string s, .int .i64 10, .int .i64 64] w fun e w' => e = .returned (.tuple #[.int .i64 v, .nilIface]) ∧ (w' = w ∨ ∃ t, w' = Lib.bytesWorld w 5 t) := Any.strconv_ParseInt_10_at64_ok Tryz.laysC174 s hmax v h w
open Go.RowKit in
theorem Tryz.strconv_ParseInt_10_at64_syntax_var (s : ByteArray) (hlim : s.size ≤ 281474976710656) (h : Lib.parseIntB 64 s.data.toList = .«syntax») (tp : TypeId) (p : Value) (w : World) (hvar : w.var? Tryz.prog "strconv.ErrSyntax" = some #[.iface tp p]) :
    Calls Tryz.prog 223 #[.string s, .int .i64 10, .int .i64 64] w fun e w' => ∃ N, e = .returned (.tuple #[.int .i64 (0), .iface 290 (.pointer (some ⟨N, 0, none⟩))]) ∧ w.heap.size ≤ N ∧ w'.heap[N]? = some (.cells #[.string ⟨#[80, 97, 114, 115, 101, 73, 110, 116]⟩, .string s, .iface tp p] 313 (0, 0)) ∧ Below w.heap.size w w' := Any.strconv_ParseInt_10_at64_syntax_var Tryz.laysC174 s hlim h tp p w hvar
open Go.RowKit in
theorem Tryz.strconv_ParseInt_10_at64_range_var (s : ByteArray) (hlim : s.size ≤ 281474976710656) (h : Lib.parseIntB 64 s.data.toList = .range) (tp : TypeId) (p : Value) (w : World) (hvar : w.var? Tryz.prog "strconv.ErrRange" = some #[.iface tp p]) :
    Calls Tryz.prog 223 #[.string s, .int .i64 10, .int .i64 64] w fun e w' => ∃ N, e = .returned (.tuple #[.int .i64 (Lib.intSat 64 s.data.toList), .iface 290 (.pointer (some ⟨N, 0, none⟩))]) ∧ w.heap.size ≤ N ∧ w'.heap[N]? = some (.cells #[.string ⟨#[80, 97, 114, 115, 101, 73, 110, 116]⟩, .string s, .iface tp p] 313 (0, 0)) ∧ Below w.heap.size w w' := Any.strconv_ParseInt_10_at64_range_var Tryz.laysC174 s hlim h tp p w hvar
def Tryz.lays145_ren : Go.Shelf.Ren := ⟨fun | 145 => 62 | 220 => 151 | 219 => 213 | 217 => 255 | 225 => 256 | 224 => 257 | 267 => 258 | 266 => 284 | 314 => 285 | n => n, fun | 9 => 9 | 4 => 4 | 59 => 96 | 3 => 3 | 5 => 5 | 46 => 260 | 146 => 296 | 51 => 295 | n => n, fun | 1 => 0 | n => n⟩
theorem Tryz.lays145 : Go.Proofs.Lays.n145 Tryz.prog Tryz.lays145_ren := {
  mixed := by kernel_rfl
  f145 := Tryz.func62.trans (congrArg some (by kernel_rfl))
  f217 := Tryz.func255.trans (congrArg some (by kernel_rfl))
  f219 := Tryz.func213.trans (congrArg some (by kernel_rfl))
  f220 := Tryz.func151.trans (congrArg some (by kernel_rfl))
  f224 := Tryz.func257.trans (congrArg some (by kernel_rfl))
  f225 := Tryz.func256.trans (congrArg some (by kernel_rfl))
  f266 := Tryz.func284.trans (congrArg some (by kernel_rfl))
  f267 := Tryz.func258.trans (congrArg some (by kernel_rfl))
  f314 := Tryz.func285.trans (congrArg some (by kernel_rfl))
  t3 := Tryz.underlying3
  a3 := Tryz.isAgg3
  z3 := Tryz.sizeOf3
  v3 := Tryz.zeroValue3
  t4 := Tryz.underlying4
  a4 := Tryz.isAgg4
  z4 := Tryz.sizeOf4
  v4 := Tryz.zeroValue4
  t5 := Tryz.underlying5
  a5 := Tryz.isAgg5
  z5 := Tryz.sizeOf5
  v5 := Tryz.zeroValue5
  t9 := Tryz.underlying9
  a9 := Tryz.isAgg9
  z9 := Tryz.sizeOf9
  v9 := Tryz.zeroValue9
  t46 := Tryz.underlying260
  a46 := Tryz.isAgg260
  z46 := Tryz.sizeOf260
  v46 := Tryz.zeroValue260
  t51 := Tryz.underlying295
  a51 := Tryz.isAgg295
  z51 := Tryz.sizeOf295
  v51 := Tryz.zeroValue295
  t59 := Tryz.underlying96
  a59 := Tryz.isAgg96
  z59 := Tryz.sizeOf96
  v59 := Tryz.zeroValue96
  t146 := Tryz.underlying296
  a146 := Tryz.isAgg296
  z146 := Tryz.sizeOf296
  v146 := Tryz.zeroValue296
  g1 := by kernel_rfl }
open Go.RowKit Go.Lib in
theorem Tryz.strings_Cut (s sep : ByteArray) (m : Int) (w : World) (hs : s.size < 4294967281) (hm : w.cell? ⟨0, 0, none⟩ = some (.int .i64 m)) :
    Calls Tryz.prog 62 #[.string s, .string sep] w fun e w' => e = .returned (.tuple #[.string ⟨(Lib.cut s.data.toList sep.data.toList).1.toArray⟩, .string ⟨(Lib.cut s.data.toList sep.data.toList).2.1.toArray⟩, .bool (Lib.cut s.data.toList sep.data.toList).2.2]) ∧ ∃ n, w' = w.drewN n := Any.strings_Cut Tryz.lays145 s sep m w hs hm
def Tryz.lays138_ren : Go.Shelf.Ren := ⟨fun | 138 => 153 | 195 => 215 | 218 => 216 | 143 => 217 | 219 => 213 | 217 => 255 | 225 => 256 | 224 => 257 | 267 => 258 | 266 => 284 | 314 => 285 | n => n, fun | 9 => 9 | 3 => 3 | 4 => 4 | 5 => 5 | 0 => 0 | 46 => 260 | 146 => 296 | 51 => 295 | n => n, fun | 1 => 0 | n => n⟩
theorem Tryz.lays138 : Go.Proofs.Lays.n138 Tryz.prog Tryz.lays138_ren := {
  mixed := by kernel_rfl
  f138 := Tryz.func153.trans (congrArg some (by kernel_rfl))
  f143 := Tryz.func217.trans (congrArg some (by kernel_rfl))
  f195 := Tryz.func215.trans (congrArg some (by kernel_rfl))
  f217 := Tryz.func255.trans (congrArg some (by kernel_rfl))
  f218 := Tryz.func216.trans (congrArg some (by kernel_rfl))
  f219 := Tryz.func213.trans (congrArg some (by kernel_rfl))
  f224 := Tryz.func257.trans (congrArg some (by kernel_rfl))
  f225 := Tryz.func256.trans (congrArg some (by kernel_rfl))
  f266 := Tryz.func284.trans (congrArg some (by kernel_rfl))
  f267 := Tryz.func258.trans (congrArg some (by kernel_rfl))
  f314 := Tryz.func285.trans (congrArg some (by kernel_rfl))
  t0 := Tryz.underlying0
  a0 := Tryz.isAgg0
  z0 := Tryz.sizeOf0
  v0 := Tryz.zeroValue0
  t3 := Tryz.underlying3
  a3 := Tryz.isAgg3
  z3 := Tryz.sizeOf3
  v3 := Tryz.zeroValue3
  t4 := Tryz.underlying4
  a4 := Tryz.isAgg4
  z4 := Tryz.sizeOf4
  v4 := Tryz.zeroValue4
  t5 := Tryz.underlying5
  a5 := Tryz.isAgg5
  z5 := Tryz.sizeOf5
  v5 := Tryz.zeroValue5
  t9 := Tryz.underlying9
  a9 := Tryz.isAgg9
  z9 := Tryz.sizeOf9
  v9 := Tryz.zeroValue9
  t46 := Tryz.underlying260
  a46 := Tryz.isAgg260
  z46 := Tryz.sizeOf260
  v46 := Tryz.zeroValue260
  t51 := Tryz.underlying295
  a51 := Tryz.isAgg295
  z51 := Tryz.sizeOf295
  v51 := Tryz.zeroValue295
  t146 := Tryz.underlying296
  a146 := Tryz.isAgg296
  z146 := Tryz.sizeOf296
  v146 := Tryz.zeroValue296
  g1 := by kernel_rfl }
open Go.RowKit Go.Lib in
theorem Tryz.strings_Count_one (s : ByteArray) (c : UInt8) (w : World) :
    Calls Tryz.prog 153 #[.string s, .string ⟨#[c]⟩] w fun e w' => e = .returned (.int .i64 (Lib.countByte s.data.toList c)) ∧ w' = w := Any.strings_Count_one Tryz.lays138 s c w
def Tryz.lays100_ren : Go.Shelf.Ren := ⟨fun | 100 => 152 | 207 => 214 | n => n, fun | 9 => 9 | 4 => 4 | 3 => 3 | n => n, fun | n => n⟩
theorem Tryz.lays100 : Go.Proofs.Lays.n100 Tryz.prog Tryz.lays100_ren := {
  mixed := by kernel_rfl
  f100 := Tryz.func152.trans (congrArg some (by kernel_rfl))
  f207 := Tryz.func214.trans (congrArg some (by kernel_rfl))
  t3 := Tryz.underlying3
  a3 := Tryz.isAgg3
  z3 := Tryz.sizeOf3
  v3 := Tryz.zeroValue3
  t4 := Tryz.underlying4
  a4 := Tryz.isAgg4
  z4 := Tryz.sizeOf4
  v4 := Tryz.zeroValue4
  t9 := Tryz.underlying9
  a9 := Tryz.isAgg9
  z9 := Tryz.sizeOf9
  v9 := Tryz.zeroValue9 }
open Go.RowKit Go.Lib in
theorem Tryz.strings_HasSuffix (s p : ByteArray) (w : World) (hs : s.size ≤ 9223372036854775807) :
    Calls Tryz.prog 152 #[.string s, .string p] w fun e w' => e = .returned (.bool (Lib.hasSuffix s.data.toList p.data.toList)) ∧ w' = w := Any.strings_HasSuffix Tryz.lays100 s p w hs
def Tryz.lays102_ren : Go.Shelf.Ren := ⟨fun | 102 => 155 | 209 => 220 | 207 => 214 | n => n, fun | 9 => 9 | 4 => 4 | 3 => 3 | n => n, fun | n => n⟩
theorem Tryz.lays102 : Go.Proofs.Lays.n102 Tryz.prog Tryz.lays102_ren := {
  mixed := by kernel_rfl
  f102 := Tryz.func155.trans (congrArg some (by kernel_rfl))
  f207 := Tryz.func214.trans (congrArg some (by kernel_rfl))
  f209 := Tryz.func220.trans (congrArg some (by kernel_rfl))
  t3 := Tryz.underlying3
  a3 := Tryz.isAgg3
  z3 := Tryz.sizeOf3
  v3 := Tryz.zeroValue3
  t4 := Tryz.underlying4
  a4 := Tryz.isAgg4
  z4 := Tryz.sizeOf4
  v4 := Tryz.zeroValue4
  t9 := Tryz.underlying9
  a9 := Tryz.isAgg9
  z9 := Tryz.sizeOf9
  v9 := Tryz.zeroValue9 }
open Go.RowKit Go.Lib in
theorem Tryz.strings_TrimSuffix (s p : ByteArray) (w : World) (hs : s.size ≤ 9223372036854775807) :
    Calls Tryz.prog 155 #[.string s, .string p] w fun e w' => e = .returned (.string ⟨(Lib.trimSuffix s.data.toList p.data.toList).toArray⟩) ∧ w' = w := Any.strings_TrimSuffix Tryz.lays102 s p w hs
def Tryz.lays146_ren : Go.Shelf.Ren := ⟨fun | 146 => 221 | 221 => 259 | 268 => 286 | 138 => 153 | 143 => 217 | 195 => 215 | 197 => 305 | 218 => 216 | 219 => 213 | 260 => 319 | 217 => 255 | 225 => 256 | 224 => 257 | 267 => 258 | 266 => 284 | 314 => 285 | n => n, fun | 9 => 9 | 31 => 247 | 3 => 3 | 4 => 4 | 0 => 0 | 105 => 315 | 21 => 21 | 5 => 5 | 46 => 260 | 119 => 330 | 139 => 333 | 138 => 332 | 146 => 296 | 51 => 295 | n => n, fun | 1 => 0 | 3 => 4 | 4 => 5 | n => n⟩
theorem Tryz.lays146 : Go.Proofs.Lays.n146 Tryz.prog Tryz.lays146_ren := {
  mixed := by kernel_rfl
  f138 := Tryz.func153.trans (congrArg some (by kernel_rfl))
  f143 := Tryz.func217.trans (congrArg some (by kernel_rfl))
  f146 := Tryz.func221.trans (congrArg some (by kernel_rfl))
  f195 := Tryz.func215.trans (congrArg some (by kernel_rfl))
  f197 := Tryz.func305.trans (congrArg some (by kernel_rfl))
  f217 := Tryz.func255.trans (congrArg some (by kernel_rfl))
  f218 := Tryz.func216.trans (congrArg some (by kernel_rfl))
  f219 := Tryz.func213.trans (congrArg some (by kernel_rfl))
  f221 := Tryz.func259.trans (congrArg some (by kernel_rfl))
  f224 := Tryz.func257.trans (congrArg some (by kernel_rfl))
  f225 := Tryz.func256.trans (congrArg some (by kernel_rfl))
  f260 := Tryz.func319.trans (congrArg some (by kernel_rfl))
  f266 := Tryz.func284.trans (congrArg some (by kernel_rfl))
  f267 := Tryz.func258.trans (congrArg some (by kernel_rfl))
  f268 := Tryz.func286.trans (congrArg some (by kernel_rfl))
  f314 := Tryz.func285.trans (congrArg some (by kernel_rfl))
  t0 := Tryz.underlying0
  a0 := Tryz.isAgg0
  z0 := Tryz.sizeOf0
  v0 := Tryz.zeroValue0
  t3 := Tryz.underlying3
  a3 := Tryz.isAgg3
  z3 := Tryz.sizeOf3
  v3 := Tryz.zeroValue3
  t4 := Tryz.underlying4
  a4 := Tryz.isAgg4
  z4 := Tryz.sizeOf4
  v4 := Tryz.zeroValue4
  t5 := Tryz.underlying5
  a5 := Tryz.isAgg5
  z5 := Tryz.sizeOf5
  v5 := Tryz.zeroValue5
  t9 := Tryz.underlying9
  a9 := Tryz.isAgg9
  z9 := Tryz.sizeOf9
  v9 := Tryz.zeroValue9
  t21 := Tryz.underlying21
  a21 := Tryz.isAgg21
  z21 := Tryz.sizeOf21
  v21 := Tryz.zeroValue21
  t31 := Tryz.underlying247
  a31 := Tryz.isAgg247
  z31 := Tryz.sizeOf247
  v31 := Tryz.zeroValue247
  t46 := Tryz.underlying260
  a46 := Tryz.isAgg260
  z46 := Tryz.sizeOf260
  v46 := Tryz.zeroValue260
  t51 := Tryz.underlying295
  a51 := Tryz.isAgg295
  z51 := Tryz.sizeOf295
  v51 := Tryz.zeroValue295
  t105 := Tryz.underlying315
  a105 := Tryz.isAgg315
  z105 := Tryz.sizeOf315
  v105 := Tryz.zeroValue315
  t119 := Tryz.underlying330
  a119 := Tryz.isAgg330
  z119 := Tryz.sizeOf330
  t138 := Tryz.underlying332
  a138 := Tryz.isAgg332
  z138 := Tryz.sizeOf332
  v138 := Tryz.zeroValue332
  t139 := Tryz.underlying333
  a139 := Tryz.isAgg333
  z139 := Tryz.sizeOf333
  v139 := Tryz.zeroValue333
  t146 := Tryz.underlying296
  a146 := Tryz.isAgg296
  z146 := Tryz.sizeOf296
  v146 := Tryz.zeroValue296
  g1 := by kernel_rfl
  g3 := by kernel_rfl
  g4 := by kernel_rfl }
open Go.RowKit Go.Lib in
theorem Tryz.strings_Split (s sep : ByteArray) (m : Int) (w : World) (hs : s.size < 4294967281) (hm : w.cell? ⟨0, 0, none⟩ = some (.int .i64 m)) (h1 : 1 ≤ sep.size) :
    Calls Tryz.prog 221 #[.string s, .string sep] w fun e w' =>
      e = .returned (.slice (some ⟨w.heap.size, 0, none⟩) (Lib.countB s sep + 1) (Lib.countB s sep + 1)) ∧ w' = w.alloc (.cells ((Lib.splitB sep 0 (Lib.countB s sep) s).map Value.string).toArray 9) := Any.strings_Split Tryz.lays146 (by kernel_rfl) s sep m w hs hm h1
end Go.Proofs

/- Contracts of the program's functions, and what follows from them. -/
set_option maxRecDepth 100000
namespace Go.Proofs.YtbkelajnngdimaaGreatDoor
open Go Go.Av
theorem dl_len (m : Nat) (h : m ≤ 9223372036854775807) : (Lib.decDigits m).length ≤ 21 := by
  have := Lib.itoa_length_le (m : Int) (by omega) (by omega)
  rwa [Lib.itoa_nonneg] at this
end Go.Proofs.YtbkelajnngdimaaGreatDoor

/- Contracts of the program's functions, and what follows from them. -/
set_option maxRecDepth 100000
namespace Go.Proofs.YtbkelajnngdimaaGreatDoor
open Go Go.Av
structure Ac where
  what : Int
  who : Int
  book : Int
  deriving DecidableEq
end Go.Proofs.YtbkelajnngdimaaGreatDoor

/- Contracts of the program's functions, and what follows from them. -/
set_option maxRecDepth 100000
namespace Go.Proofs.YtbkelajnngdimaaGreatDoor
open Go Go.Av Go.RowKit
set_option maxHeartbeats 1000000 in
theorem copyCheck_used (b : Nat) (w : World) (h0 : w.cell? ⟨b, 0, none⟩ = some (.pointer (some ⟨b, 0, none⟩))) :
    Calls Tryz.prog 263 #[.pointer (some ⟨b, 0, none⟩)] w fun e w' => e = .returned (.tuple #[]) ∧ w' = w := by
  obtain ⟨j, hj, _⟩ := Option.map_eq_some_iff.1 Tryz.Builder_Extra_169.toX72.sizeBuilder
  go_enter Tryz.func263, Tryz.ntmps263
  go_wp2
  rw [Lib.run_neq_ptr_same w _ Tryz.underlying253 hj]
  go_wp2
  go_end0
  exact ⟨rfl, rfl⟩
set_option maxHeartbeats 1000000 in
theorem copyCheck_fresh (b : Nat) (w : World) (h0 : w.cell? ⟨b, 0, none⟩ = some (.pointer none)) (hsh : w.shape? b = some (255, 2)) (hfz : w.frozen? ⟨b, 0, none⟩ = false) :
    Calls Tryz.prog 263 #[.pointer (some ⟨b, 0, none⟩)] w fun e w' => e = .returned (.tuple #[]) ∧ w' = w.setCell ⟨b, 0, none⟩ (.pointer (some ⟨b, 0, none⟩)) := by
  obtain ⟨j, hj, hjs⟩ := Option.map_eq_some_iff.1 Tryz.Builder_Extra_169.toX72.sizeBuilder
  go_enter Tryz.func263, Tryz.ntmps263
  go_wp2
  rw [Lib.run_to_unsafe w ⟨b, 0, none⟩ Tryz.underlying253 Tryz.underlying306 hj (by rw [hjs]; decide) hsh (Nat.zero_lt_succ 1)]
  simp only [Result.andThen]
  rw [Oper.upon_value]
  go_wp2
  rw [run_callFunc_extern Tryz.func292 (by kernel_rfl) (by kernel_rfl) (by kernel_rfl) (e := Extern.AbiNoEscape.same) (by kernel_rfl)]
  rw [Lib.run_noEscape]
  simp only [Result.andThen]
  rw [Oper.upon_value]
  go_wp2
  rw [Lib.run_from_unsafe w ⟨b, 0, none⟩ Tryz.underlying306 Tryz.underlying253 hj hsh Tryz.Builder_Extra_169.toX72.liesBuilder]
  simp only [Result.andThen]
  rw [Oper.upon_value]
  go_wp2
  go_end0
  exact ⟨rfl, rfl⟩
end Go.Proofs.YtbkelajnngdimaaGreatDoor

/- Contracts of the program's functions, and what follows from them. -/
set_option maxRecDepth 100000
namespace Go.Proofs.YtbkelajnngdimaaGreatDoor
open Go Go.Av Go.RowKit
theorem copyCheck_any (b : Nat) (p v : Value) (w : World) (hp : p = .pointer none ∨ p = .pointer (some ⟨b, 0, none⟩)) (hbk : w.heap[b]? = some (.cells #[p, v] 255 (0, 0))) :
    Calls Tryz.prog 263 #[.pointer (some ⟨b, 0, none⟩)] w fun e w' => e = .returned (.tuple #[]) ∧ w'.heap[b]? = some (.cells #[.pointer (some ⟨b, 0, none⟩), v] 255 (0, 0)) ∧
      Kp [b] w w' ∧ w'.heap.size = w.heap.size := by
  have c0 : w.cell? ⟨b, 0, none⟩ = some p := by rw [Lib.cell_of_heap hbk]; rfl
  rcases hp with rfl | rfl
  · refine (copyCheck_fresh b w c0 (by simp [World.shape?, hbk]) (Lib.frozen_of_heap hbk 0)).mono ?_
    rintro e w' ⟨rfl, rfl⟩
    refine ⟨rfl, ?_, ⟨rfl, rfl, rfl, by simp [World.setCell], fun k hk hn => heap_setCell_other w _ k _ (by simpa using hn)⟩, by simp [World.setCell]⟩
    rw [heap_setCell_same w b 0 _ _ _ hbk]
    rfl
  · refine (copyCheck_used b w c0).mono ?_
    rintro e w' ⟨rfl, rfl⟩
    exact ⟨rfl, hbk, Kp.refl _ _, rfl⟩
set_option maxHeartbeats 1000000 in
theorem writeString_raw (b : Nat) (l s : List UInt8) (ms : List (Nat × Obj)) (w : World) (hB : IsB 255 5 b l ms) (hm : held w ms) (hlen : l.length + s.length ≤ 140737488355328) :
    Calls Tryz.prog 226 #[.pointer (some ⟨b, 0, none⟩), .string ⟨s.toArray⟩] w fun e w' => ∃ ms', IsB 255 5 b (l ++ s) ms' ∧ e = .returned (.tuple #[.int .i64 s.length, .nilIface]) ∧ held w' ms' ∧
      Kp (ms.map Prod.fst) w w' ∧ (ms'.map Prod.fst).Nodup ∧ ∀ x ∈ ms'.map Prod.fst, x ∈ ms.map Prod.fst ∨ w.heap.size ≤ x := by
  obtain ⟨i0, hi, hz0, hz1, hz2⟩ := info_parts Tryz.Builder_Extra_169.infoByte
  obtain ⟨p, v, rs, hp, hrow, hnb, rfl⟩ := hB
  have hbk : w.heap[b]? = some (.cells #[p, v] 255 (0, 0)) := hm (b, _) (by simp)
  have hrs : held w rs := fun e he => hm e (by simp [he])
  go_enter Tryz.func226, Tryz.ntmps226
  go_wp2_with (go_at_call 263; refine (copyCheck_any b p v w hp hbk).mono ?_)
  rintro e w1 ⟨rfl, hb1, hk1, hsz1⟩
  have hrs1 : held w1 rs := fun e he => by
    have h0 := hrs e he
    rw [hk1.block e.1 (Array.getElem?_eq_some_iff.1 h0).1 (by
      intro hx
      rw [List.mem_singleton] at hx
      exact hnb (hx ▸ List.mem_map_of_mem he))]
    exact h0
  have c0 : w1.cell? ⟨b, 0, none⟩ = some (.pointer (some ⟨b, 0, none⟩)) := by rw [Lib.cell_of_heap hb1]; rfl
  have c1 : w1.cell? ⟨b, 1, none⟩ = some v := by rw [Lib.cell_of_heap hb1]; rfl
  go_wp2_with (at_builtin; refine wpList_app rfl _ _ 22 9 rfl 5 i0 Tryz.underlying22 Tryz.underlying9 hi hz0 hz1 hz2 l s v rs rfl hrow hrs1 rfl hlen ?_)
  intro v' w2 rs' hrow' hh' hk2 hnew
  have hb2 : w2.heap[b]? = some (.cells #[.pointer (some ⟨b, 0, none⟩), v] 255 (0, 0)) := by
    rw [hk2.block b (Array.getElem?_eq_some_iff.1 hb1).1 hnb]
    exact hb1
  have d0 : w2.cell? ⟨b, 0, none⟩ = some (.pointer (some ⟨b, 0, none⟩)) := by rw [Lib.cell_of_heap hb2]; rfl
  have d1 : w2.cell? ⟨b, 1, none⟩ = some v := by rw [Lib.cell_of_heap hb2]; rfl
  have f1 : w2.frozen? ⟨b, 1, none⟩ = false := Lib.frozen_of_heap hb2 1
  obtain ⟨ao, n', cap, rfl⟩ : ∃ ao n' cap, v' = .slice ao n' cap := by
    rcases hrow' with ⟨hv, _⟩ | ⟨g, cap, cur, fz, hv, _⟩
    · exact ⟨_, _, _, hv⟩
    · exact ⟨_, _, _, hv⟩
  have hnb' : b ∉ rs'.map Prod.fst := by
    intro hx
    rcases hnew b hx with h | h
    · exact hnb h
    · have := (Array.getElem?_eq_some_iff.1 hb1).1; omega
  have hnew' : RsIn w.heap.size rs rs' := fun x hx => (hnew x hx).imp id fun h => by omega
  clear hnew
  go_wp2
  go_ret2
  refine ⟨(b, .cells #[.pointer (some ⟨b, 0, none⟩), .slice ao n' cap] 255 (0, 0)) :: rs', ⟨_, _, rs', .inr rfl, hrow', hnb', rfl⟩, rfl, ?_, ?_, ?_, ?_⟩
  · intro e he
    rcases List.mem_cons.1 he with rfl | he
    · simp only
      rw [heap_setCell_same w2 b 1 _ _ _ hb2]
      rfl
    · rw [heap_setCell_other w2 ⟨b, 1, none⟩ e.1 _ (fun h => hnb' (by have h : e.1 = b := h; rw [← h]; exact List.mem_map_of_mem he))]
      exact hh' e he
  · refine ⟨?_, ?_, ?_, ?_, fun k hk hn => ?_⟩
    · exact hk2.os.trans hk1.os
    · exact hk2.tape.trans hk1.tape
    · exact hk2.output.trans hk1.output
    · have h1 := hk2.size
      have h2 := hk1.size
      simp [World.setCell]
      omega
    · simp only [List.map_cons, List.mem_cons, not_or] at hn
      rw [heap_setCell_other w2 _ k _ hn.1, hk2.block k (by omega) hn.2, hk1.block k hk (by simpa using hn.1)]
  · simp only [List.map_cons, List.nodup_cons]
    refine ⟨hnb', ?_⟩
    rcases hrow' with ⟨_, _, rfl⟩ | ⟨_, _, _, _, _, _, _, _, _, _, rfl⟩ <;> simp
  · intro x hx
    simp only [List.map_cons, List.mem_cons] at hx ⊢
    rcases hx with rfl | hx
    · exact .inl (.inl rfl)
    · rcases hnew' x hx with h | h
      · exact .inl (.inr h)
      · exact .inr h
theorem string_raw (b : Nat) (l : List UInt8) (ms : List (Nat × Obj)) (w : World) (B : Nat) (hB : IsB 255 5 b l ms) (hm : held w ms) (hBw : B ≤ w.heap.size) (hBm : ∀ x ∈ ms.map Prod.fst, B ≤ x) :
    Calls Tryz.prog 227 #[.pointer (some ⟨b, 0, none⟩)] w fun e w' => e = .returned (.string ⟨l.toArray⟩) ∧ Below B w w' := by
  refine (Tryz.Builder_String_any_k B b l w (hB.builder hm B hBm) hBw).mono ?_
  rintro e w' ⟨rfl, _, hb, _⟩
  exact ⟨rfl, hb⟩
end Go.Proofs.YtbkelajnngdimaaGreatDoor

/- Contracts of the program's functions, and what follows from them. -/
set_option maxRecDepth 100000
namespace Go.Proofs.YtbkelajnngdimaaGreatDoor
open Go Go.Av
noncomputable def ambT : Amb := Amb.var Tryz.prog "internal/strconv.uint64pow10" 3 (fun cs => cs = (Lib.pow10Tab.map fun z => Value.int .u64 z).toArray)
theorem ambT_tab {w : World} {F : List Nat} (h : ambT.on w F) : Lib.TabIs Tryz.prog w "internal/strconv.uint64pow10" .u64 Lib.pow10Tab := by
  obtain ⟨⟨_, cs, hv, rfl⟩, _⟩ := h
  exact hv
theorem FormatInt_ctA (m : Nat) (h : m ≤ 9223372036854775807) : CtA ambT Tryz.prog 225 [i64 m, i64 10] (str (Lib.decDigits m)) [] := by
  refine CtA.ofCalls ambT (vs := [.int .i64 m, .int .i64 10]) Tryz.func225 (by kernel_rfl) (by kernel_rfl) fun w hA => ?_
  refine (Tryz.strconv_FormatInt_10 m (by omega) (by omega) w (ambT_tab hA)).mono ?_
  rintro e w' ⟨rfl, k, os, rfl⟩
  refine ⟨_, rfl, (Kp.drewN [] w k).trans (Kp.grow [] _ os) (by simp), fun L => ?_⟩
  rw [Lib.itoa_nonneg]
  exact .lit _ _
noncomputable def X158 : Fx := ⟨Tryz.prog, tys, 158, Tryz.f158, [0]⟩
theorem X158_ok : X158.Ok := ⟨Tryz.func158, tys_ok⟩
theorem dec16_ct (n : Int) (h0 : 0 ≤ n) (h1 : n ≤ 32767) : CtA ambT Tryz.prog 158 [i16 n] (str (Lib.decDigits n.toNat)) [] := by
  obtain ⟨m, rfl⟩ := Int.eq_ofNat_of_zero_le h0
  refine CtA.intro ambT X158 X158_ok rfl rfl rfl rfl fun g hA hg => ?_
  repeat (refine Run.go rfl ?_)
  have e : IntKind.i64.wrap ((m : Nat) : Int) = m := wrap_i64 (by omega) (by omega)
  rw [e]
  refine Run.csA rfl ((FormatInt_ctA m (by omega)).at hA) rfl rfl ?_
  repeat (refine Run.go rfl ?_)
  exact Run.ret hg rfl rfl
theorem IndexByte_ct (s : List UInt8) (c : Int) : Ct Tryz.prog 219 [str s, u8 c] (i64 (Lib.indexByte s c.toNat.toUInt8)) [] := by
  refine Ct.ofCalls (vs := [.string ⟨s.toArray⟩, .int .u8 c]) Tryz.func219 (by kernel_rfl) (by kernel_rfl) fun w => ?_
  refine (Tryz.strings_IndexByte ⟨s.toArray⟩ c w).mono ?_
  rintro e w' ⟨rfl, rfl⟩
  exact ⟨_, rfl, Kp.refl _ _, fun L => .lit _ _⟩
theorem getD_some (t : List UInt8) (i : Nat) (h : i < t.length) : t[i]? = some (t.getD i 0) := by
  rw [List.getD_eq_getElem?_getD, List.getElem?_eq_getElem h]; rfl
end Go.Proofs.YtbkelajnngdimaaGreatDoor

/- Contracts of the program's functions, and what follows from them. -/
set_option maxRecDepth 100000
namespace Go.Proofs.YtbkelajnngdimaaGreatDoor
open Go Go.Av Go.RowKit
theorem ambT_laid {W : World} (rest : List (String × DataW Unit)) (h : laidMet Tryz.prog (("math/bits.deBruijn32tab", Rows.laid_math_bits_deBruijn32tab) :: ("math/bits.deBruijn64tab", Rows.laid_math_bits_deBruijn64tab) ::
    ("internal/strconv.uint64pow10", Rows.laid_internal_strconv_uint64pow10) :: rest) W) : ambT.on W [] := by
  have h2 := laidMet.tail (laidMet.tail h)
  have ht : Lib.TabIs Tryz.prog W "internal/strconv.uint64pow10" .u64 Lib.pow10Tab :=
    Lib.tabIs_of_head (rest := rest) (g := 3) (by kernel_rfl) (by kernel_rfl) Tryz.underlying319 Tryz.underlying182 (by kernel_rfl) (by kernel_rfl) h2
  exact Amb.var_on (by kernel_rfl) ht rfl
end Go.Proofs.YtbkelajnngdimaaGreatDoor

/- Contracts of the program's functions, and what follows from them. -/
set_option maxRecDepth 100000
namespace Go.Proofs.YtbkelajnngdimaaGreatDoor
open Go Go.Av
theorem dd_dig (n : Nat) : ∀ b ∈ Lib.decDigits n, 48 ≤ b.toNat ∧ b.toNat ≤ 57 := by
  induction n using Nat.strongRecOn with
  | _ n IH =>
  have one : ∀ k, k < 10 → (UInt8.ofNat (48 + k)).toNat = 48 + k := fun k hk => by
    simp only [UInt8.toNat_ofNat']; omega
  intro b hb
  rw [Lib.decDigits] at hb
  split at hb
  · rename_i h
    rw [List.mem_singleton] at hb
    rw [hb, one n h]; omega
  · rename_i h
    rcases List.mem_append.1 hb with hb | hb
    · exact IH (n / 10) (by omega) b hb
    · rw [List.mem_singleton] at hb
      rw [hb, one _ (by omega)]; omega
theorem dd_len2 {n : Nat} (h : n < 100) : (Lib.decDigits n).length ≤ 2 := by
  by_cases h1 : n < 10
  · rw [Lib.decDigits_one h1]; simp
  · rw [Lib.decDigits_two h1 h]; simp
theorem dd_len3 {n : Nat} (h : n < 1000) : (Lib.decDigits n).length ≤ 3 := by
  by_cases h1 : n < 10
  · rw [Lib.decDigits_one h1]; simp
  · rw [Lib.decDigits, dif_neg h1, List.length_append]
    have := dd_len2 (n := n / 10) (by omega)
    simp only [List.length_cons, List.length_nil]
    omega
theorem sm_toNat {n : Int} (h : sm n = true) : ((UInt8.ofNat n.toNat).toNat : Int) = n ∧ 97 ≤ n ∧ n ≤ 122 := by
  simp only [sm, Bool.and_eq_true, decide_eq_true_eq] at h
  refine ⟨?_, h⟩
  simp only [UInt8.toNat_ofNat']
  omega
end Go.Proofs.YtbkelajnngdimaaGreatDoor

/- Contracts of the program's functions, and what follows from them. -/
set_option maxRecDepth 100000
namespace Go.Proofs.YtbkelajnngdimaaGreatDoor
open Go Go.Av Go.RowKit
theorem Join_ct (ls : List (List UInt8)) (sep : List UInt8) (ex : Bool) (h0 : ls ≠ []) (hN : ls.length ≤ 1000) (hlen : (Lib.join ls sep).length ≤ 1099511627776) :
    Ct Tryz.prog 260 [.ro 1 ex (ls.map str), str sep] (str (Lib.join ls sep)) [] := by
  refine ⟨by rw [Tryz.func260]; kernel_rfl, fun w L vs F hL hF hr => ?_⟩
  obtain rfl := tup_pl hr rfl
  have hfl : flatc (ls.map str) = ls.map str := by
    unfold flatc
    clear h0 hN hlen hr
    induction ls with
    | nil => rfl
    | cons x r ih => simp only [List.map_cons, List.flatMap_cons, ih]; rfl
  obtain ⟨b, o, c, hvs, hlt, hcap, hcells⟩ : ∃ b o c, vs = #[.slice (some ⟨b, o, none⟩) ls.length c, .string ⟨sep.toArray⟩] ∧ b < w.heap.size ∧ ls.length ≤ c ∧ ∀ (j : Nat) x, ls[j]? = some x → w.cell? ⟨b, o + j, none⟩ = some (.string ⟨x.toArray⟩) := by
    generalize hy : Value.tuple vs = y at hr
    generalize hG0 : ([] : List Nat) = G0 at hr
    cases hr with
    | tup _ cs vals Fs hl hr =>
      cases hy
      have hsz : vs.size = 2 := hl.symm
      have e0 := Array.getElem?_eq_getElem (show 0 < vs.size by omega)
      have e1 := Array.getElem?_eq_getElem (show 1 < vs.size by omega)
      have r0 := hr 0 _ _ rfl e0
      have r1 := hr 1 _ _ rfl e1
      have hv : vs = #[vs[0], vs[1]] := by
        apply Array.ext
        · simp [hsz]
        · intro i h1 h2
          have : i = 0 ∨ i = 1 := by omega
          rcases this with rfl | rfl <;> rfl
      generalize vs[0] = v0 at r0 hv
      generalize vs[1] = v1 at r1 hv
      generalize Fs 0 = G0 at r0
      generalize Fs 1 = G1 at r1
      unfold str at r1
      cases r1
      generalize hys : ls.map str = ys at r0
      cases r0 with
      | roNil => exact absurd (List.map_eq_nil_iff.1 hys) h0
      | ro _ _ _ _ b o c vals hL' hz hl' hrow hr' hc hm he =>
        subst hys
        have hne : vals ≠ [] := by
          rintro rfl
          rw [hfl] at hl'
          simp at hl'
          exact h0 hl'
        refine ⟨b, o, c, by rw [hv]; simp, hrow.lt hne, by simpa using hc, fun j x hx => ?_⟩
        have hjl : j < ls.length := (List.getElem?_eq_some_iff.1 hx).1
        rw [hfl] at hl' hr'
        have hjv : j < vals.length := by rw [← hl']; simpa using hjl
        have := hr' j (str x) vals[j] (by rw [List.getElem?_map, hx]; rfl) (List.getElem?_eq_getElem hjv)
        generalize hu : vals[j] = u at this
        unfold str at this
        cases this
        exact hrow j _ (by rw [List.getElem?_eq_getElem hjv, hu])
  subst hvs
  have hj : (ls.map fun l => (⟨l.toArray⟩ : ByteArray)).map (·.data.toList) = ls := by
    rw [List.map_map]
    conv => rhs; rw [← List.map_id ls]
    exact List.map_congr_left fun l _ => by simp
  have hs : (⟨sep.toArray⟩ : ByteArray).data.toList = sep := by simp
  have := Tryz.strings_Join b o c (ls.map fun l => ⟨l.toArray⟩) ⟨sep.toArray⟩ w (fun j x hx => by
    rw [List.getElem?_map] at hx
    obtain ⟨l, hl, rfl⟩ := Option.map_eq_some_iff.1 hx
    exact hcells j l hl) hlt (by rw [List.length_map]; omega) (by rw [List.length_map]; exact hcap) (by rw [hj, hs]; omega)
  rw [hj, hs, List.length_map] at this
  refine this.mono ?_
  rintro e w' ⟨rfl, hb⟩
  refine ⟨_, [], rfl, Kp.of_below hb, by simp, by simp, ?_⟩
  have := Rel.tup (w := w') (L := fun b => L b ∨ b ∈ ([] : List Nat)) noEnv [str (Lib.join ls sep)] #[.string ⟨(Lib.join ls sep).toArray⟩] (fun _ => []) (by simp) (by
    intro k x u hx hu
    cases k with
    | zero =>
      simp at hx hu
      subst hx; subst hu
      exact .lit _ _
    | succ k => simp at hx)
  rw [foots_nil (fun _ _ => rfl)] at this
  simpa using this
def dcN (n : Int) : List UInt8 := Lib.decDigits n.toNat
def bookT (x : Bk) : List UInt8 := dcN x.cl ++ [32] ++ bys [x.a, x.b, x.c] ++ [32] ++ dcN x.vol ++ [32] ++ dcN x.wd ++ [120] ++ dcN x.hi ++ [32] ++ dcN x.wt
theorem dcN_len {n : Int} (h : n ≤ 32767) : (dcN n).length ≤ 21 := dl_len _ (by omega)
def bkNum (x : Bk) : Prop := (0 ≤ x.cl ∧ x.cl ≤ 32767) ∧ (0 ≤ x.vol ∧ x.vol ≤ 32767) ∧ (0 ≤ x.wd ∧ x.wd ≤ 32767) ∧ (0 ≤ x.hi ∧ x.hi ≤ 32767) ∧ (0 ≤ x.wt ∧ x.wt ≤ 32767)
theorem vB_num {x : Bk} (h : vB x = true) : bkNum x := by
  simp only [vB, Bool.and_eq_true, inr, decide_eq_true_eq] at h
  unfold bkNum
  omega
theorem bookT_len {x : Bk} (h : bkNum x) : (bookT x).length ≤ 113 := by
  obtain ⟨h1, h2, h3, h4, h5⟩ := h
  have l1 := dcN_len h1.2
  have l2 := dcN_len h2.2
  have l3 := dcN_len h3.2
  have l4 := dcN_len h4.2
  have l5 := dcN_len h5.2
  simp only [bookT, bys, List.length_append, List.length_cons, List.length_nil, List.map_cons, List.map_nil]
  omega
noncomputable def X222 : Fx := ⟨Tryz.prog, tys, 222, Tryz.f222, [0]⟩
theorem X222_ok : X222.Ok := ⟨Tryz.func222, tys_ok⟩
theorem bookText_ct (x : Bk) (h : bkNum x) : CtA ambT Tryz.prog 222 [bkA x] (str (bookT x)) [] := by
  have hbl := bookT_len h
  obtain ⟨h1, h2, h3, h4, h5⟩ := h
  have l3 := dcN_len h3.2
  have l4 := dcN_len h4.2
  have ej : Lib.join [dcN x.cl, bys [x.a, x.b, x.c], dcN x.vol, dcN x.wd ++ [120] ++ dcN x.hi, dcN x.wt] [32] = bookT x := by
    simp [Lib.join, List.intercalate, bookT]
  refine CtA.intro ambT X222 X222_ok rfl (by kernel_rfl) rfl rfl fun g hA hg => ?_
  iterate 3 (refine Run.go rfl ?_)
  refine Run.freezeBox 1 (1, 0) (bkA x).cells rfl rfl rfl rfl ?_
  repeat (refine Run.go rfl ?_)
  refine Run.drawQ1 20 [20, 21, 22] (by kernel_rfl) (by decide +kernel) (by decide +kernel) rfl (by decide +kernel) ?_
  repeat (refine Quiet.go rfl ?_)
  refine Quiet.csA rfl rfl rfl rfl rfl ((dec16_ct x.cl h1.1 h1.2).at hA) rfl rfl ?_
  repeat (refine Quiet.go rfl ?_)
  refine Quiet.val rfl rfl (ValOk.cutArr (ys := [x.a, x.b, x.c].map u8) rfl rfl rfl rfl rfl rfl rfl rfl rfl (by decide)) rfl ?_
  refine Quiet.val rfl rfl (ValOk.b2s (ex := true) [x.a, x.b, x.c] rfl rfl rfl rfl rfl (.inr rfl)) rfl ?_
  repeat (refine Quiet.go rfl ?_)
  refine Quiet.csA rfl rfl rfl rfl rfl ((dec16_ct x.vol h2.1 h2.2).at hA) rfl rfl ?_
  repeat (refine Quiet.go rfl ?_)
  refine Quiet.csA rfl rfl rfl rfl rfl ((dec16_ct x.wd h3.1 h3.2).at hA) rfl rfl ?_
  refine Quiet.val rfl rfl (ValOk.scat (dcN x.wd) [120] rfl rfl rfl (by simp only [List.length_cons, List.length_nil]; omega)) rfl ?_
  repeat (refine Quiet.go rfl ?_)
  refine Quiet.csA rfl rfl rfl rfl rfl ((dec16_ct x.hi h4.1 h4.2).at hA) rfl rfl ?_
  refine Quiet.val rfl rfl (ValOk.scat (dcN x.wd ++ [120]) (dcN x.hi) rfl rfl rfl (by simp only [List.length_append, List.length_cons, List.length_nil]; omega)) rfl ?_
  repeat (refine Quiet.go rfl ?_)
  refine Quiet.csA rfl rfl rfl rfl rfl ((dec16_ct x.wt h5.1 h5.2).at hA) rfl rfl ?_
  refine Quiet.nil ?_
  refine Run.buildSlice [str (dcN x.cl), str (bys [x.a, x.b, x.c]), str (dcN x.vol), str (dcN x.wd ++ [120] ++ dcN x.hi), str (dcN x.wt)] rfl rfl rfl rfl rfl rfl rfl rfl rfl rfl rfl rfl rfl rfl ?_
  refine Run.cs rfl (Join_ct [dcN x.cl, bys [x.a, x.b, x.c], dcN x.vol, dcN x.wd ++ [120] ++ dcN x.hi, dcN x.wt] [32] true (by simp) (by simp) (by rw [ej]; omega)) rfl rfl ?_
  rw [ej]
  repeat (refine Run.go rfl ?_)
  exact Run.ret hg rfl rfl
def plT (y : Pl) : List UInt8 := dcN y.p ++ [32] ++ bookT y.b
theorem plT_len {y : Pl} (h : bkNum y.b) (hp : y.p ≤ 32767) : (plT y).length ≤ 1000 := by
  have := bookT_len h
  have := dcN_len hp
  simp only [plT, List.length_append, List.length_cons, List.length_nil]
  omega
noncomputable def X160 : Fx := ⟨Tryz.prog, tys, 160, Tryz.f160, [0]⟩
theorem X160_ok : X160.Ok := ⟨Tryz.func160, tys_ok⟩
theorem placedText_ct (y : Pl) (h : bkNum y.b) (h0 : 0 ≤ y.p) (hp : y.p ≤ 32767) : CtA ambT Tryz.prog 160 [plA y] (str (plT y)) [] := by
  have lb := bookT_len h
  have lp := dcN_len hp
  refine CtA.intro ambT X160 X160_ok rfl (by kernel_rfl) rfl rfl fun g hA hg => ?_
  repeat (refine Run.go rfl ?_)
  refine Run.draw (by kernel_rfl) (by decide +kernel) ?_
  repeat (refine Quiet.go rfl ?_)
  refine Quiet.csA rfl rfl rfl rfl rfl ((dec16_ct y.p h0 hp).at hA) rfl rfl ?_
  refine Quiet.val rfl rfl (ValOk.scat (dcN y.p) [32] rfl rfl rfl (by simp only [List.length_cons, List.length_nil]; omega)) rfl ?_
  repeat (refine Quiet.go rfl ?_)
  refine Quiet.csA rfl rfl rfl rfl rfl ((bookText_ct y.b h).at hA) rfl rfl ?_
  refine Quiet.val rfl rfl (ValOk.scat (dcN y.p ++ [32]) (bookT y.b) rfl rfl rfl (by simp only [List.length_append, List.length_cons, List.length_nil]; omega)) rfl ?_
  repeat (refine Quiet.go rfl ?_)
  refine Quiet.nil ?_
  repeat (refine Run.go rfl ?_)
  exact Run.ret hg rfl rfl
end Go.Proofs.YtbkelajnngdimaaGreatDoor

/- Contracts of the program's functions, and what follows from them. -/
set_option maxRecDepth 100000
namespace Go.Proofs.YtbkelajnngdimaaGreatDoor
open Go Go.Av
def lns {α : Type} (tx : α → List UInt8) (l : List α) : List UInt8 := l.flatMap fun x => tx x ++ [10]
theorem lns_step {α : Type} {tx : α → List UInt8} {l : List α} {j : Nat} (h : j < l.length) : lns tx (l.take (j + 1)) = lns tx (l.take j) ++ (tx l[j] ++ [10]) := by
  unfold lns
  rw [List.take_succ_eq_append_getElem h, List.flatMap_append]
  simp only [List.flatMap_cons, List.flatMap_nil, List.append_nil]
theorem lns_len {α : Type} {tx : α → List UInt8} {l : List α} {n : Nat} (h : ∀ x ∈ l, (tx x).length ≤ n) : (lns tx l).length ≤ l.length * (n + 1) := by
  induction l with
  | nil => simp [lns]
  | cons x l ih =>
    have h1 := h x (by simp)
    have h2 := ih fun y hy => h y (by simp [hy])
    simp only [lns, List.flatMap_cons, List.length_append, List.length_cons, List.length_nil, Nat.succ_mul] at h2 ⊢
    omega
noncomputable def X159 : Fx := ⟨Tryz.prog, tys, 159, Tryz.f159, [0, 1]⟩
theorem X159_ok : X159.Ok := ⟨Tryz.func159, tys_ok⟩
theorem linesP_ct (A : Amb) (l : List Pl) (ex : Bool) (f : Nat) (tx : Pl → List UInt8) (hlen : l.length ≤ 1048576) (ht : ∀ x ∈ l, (tx x).length ≤ 1000) (hf : ∀ x ∈ l, CtA A Tryz.prog f [plA x] (str (tx x)) []) :
    CtA A Tryz.prog 159 [.ro 9 ex (l.map plA), .fn f []] (str (lns tx l)) [] := by
  refine CtA.intro0 A X159 X159_ok rfl (by kernel_rfl) rfl rfl rfl fun g hF0 hA hg => ?_
  iterate 6 (refine Run.go rfl ?_)
  refine Run.allocM rfl rfl rfl rfl rfl rfl rfl fun b => ?_
  repeat (refine Run.go rfl ?_)
  refine Run.loop (fun jm : Nat × List (Nat × Obj) => ⟨[(0, .ro 9 ex (l.map plA)), (1, .fn f []), (5, .lit (.pointer (some ⟨b, 0, none⟩))), (8, .ro 9 ex (l.map plA)), (9, i64 (l.map plA).length), (10, i64 jm.1)], [((5, 0), .mem jm.2)]⟩)
    (fun jm => jm.1 ≤ l.length ∧ IsB 255 5 b (lns tx (l.take jm.1)) jm.2) (fun jm => l.length - jm.1) (0, [(b, .cells #[.pointer none, .slice none 0 0] 255 (0, 0))])
    ⟨by omega, ⟨_, _, [], .inl rfl, .inl ⟨rfl, rfl, rfl⟩, by simp, rfl⟩⟩ ?_ ?_
  · exact St.Le.mk' ⟨rfl, rfl, rfl, rfl, rfl, rfl, trivial⟩ ⟨rfl, trivial⟩
  · rintro ⟨j, ms⟩ ⟨hj, hB⟩ IH
    simp only at hj hB IH
    repeat (refine Run.go rfl ?_)
    refine Run.cond rfl (fun h => ?_) (fun h => ?_)
    · have hlt : j < l.length := by simpa using h
      have hx : l[j] ∈ l := List.getElem_mem hlt
      have hxl := ht _ hx
      have hll := lns_len (l := l.take j) (tx := tx) (n := 1000) fun x hx => ht x (List.mem_of_mem_take hx)
      rw [List.length_take] at hll
      repeat (refine Run.go rfl ?_)
      refine Run.val rfl rfl rfl (ValOk.idx (plA l[j]) rfl rfl rfl rfl rfl (by omega) (by simp [hlt])) rfl ?_
      repeat (refine Run.go rfl ?_)
      refine Run.csA rfl ((hf _ hx).at hA) rfl rfl ?_
      refine Run.val rfl rfl rfl (ValOk.scat (tx l[j]) [10] rfl rfl rfl (by simp only [List.length_cons, List.length_nil]; omega)) rfl ?_
      have hmin : Nat.min j l.length * 1001 ≤ 1048576 * 1001 := Nat.mul_le_mul_right _ (by simp only [Nat.min_def]; split <;> omega)
      have hws : ∀ w, held w ms → Calls Tryz.prog 226 #[.pointer (some ⟨b, 0, none⟩), .string ⟨(tx l[j] ++ [10]).toArray⟩] w fun e w' => ∃ ms', IsB 255 5 b (lns tx (l.take j) ++ (tx l[j] ++ [10])) ms' ∧
          e = .returned (.tuple #[.int .i64 (tx l[j] ++ [10]).length, .nilIface]) ∧ held w' ms' ∧ Kp (ms.map Prod.fst) w w' ∧ (ms'.map Prod.fst).Nodup ∧ ∀ x ∈ ms'.map Prod.fst, x ∈ ms.map Prod.fst ∨ w.heap.size ≤ x :=
        fun w hm => writeString_raw b (lns tx (l.take j)) (tx l[j] ++ [10]) ms w hB hm (by simp only [List.length_append, List.length_cons, List.length_nil]; omega)
      generalize hs10 : tx l[j] ++ [10] = s10 at hws
      refine Run.callM (5, 0) (fun ms' => IsB 255 5 b (lns tx (l.take j) ++ s10) ms') (fun _ => .tuple #[.int .i64 s10.length, .nilIface]) (fun ms' => ms') (vs := [.pointer (some ⟨b, 0, none⟩), .string ⟨s10.toArray⟩])
        rfl rfl rfl rfl rfl rfl rfl (by kernel_rfl) hws rfl fun ms' hB' => ?_
      subst hs10
      repeat (refine Run.go rfl ?_)
      refine Run.of (IH (j + 1, ms') ⟨by simp only; omega, by simp only; rw [lns_step hlt]; exact hB'⟩ (by simp only; omega)) ⟨rfl, rfl, rfl, rfl, rfl, ?_, trivial⟩ ⟨rfl, trivial⟩
      show i64 _ = i64 _
      rw [wrap_i64 (by omega) (by omega)]
      rfl
    · have hj' : j = l.length := by simp at h; omega
      subst hj'
      rw [List.take_length] at hB
      repeat (refine Run.go rfl ?_)
      refine Run.callL (5, 0) hF0 (vs := [.pointer (some ⟨b, 0, none⟩)]) (v := .string ⟨(lns tx l).toArray⟩) rfl rfl rfl rfl rfl rfl rfl (by kernel_rfl)
        (fun w B hBw hBm hm => string_raw b (lns tx l) ms w B hB hm hBw hBm) rfl ?_
      repeat (refine Run.go rfl ?_)
      exact Run.ret hg rfl rfl
def rkT (r : Rk) : List UInt8 := dcN r.pl ++ [10] ++ lns plT r.bs
def rkNum (r : Rk) : Prop := (0 ≤ r.pl ∧ r.pl ≤ 60) ∧ ∀ y ∈ r.bs, (0 ≤ y.p ∧ y.p ≤ 32767) ∧ bkNum y.b
theorem vR_num {r : Rk} (hr : rkOk r) (h : vR r = true) : rkNum r := by
  simp only [vR, Bool.and_eq_true] at h
  obtain ⟨⟨⟨h1, _⟩, h3⟩, _⟩ := h
  simp only [inr, Bool.and_eq_true, decide_eq_true_eq] at h1
  refine ⟨by omega, fun y hy => ?_⟩
  have := List.all_eq_true.1 h3 y hy
  simp only [vPl, inr, Bool.and_eq_true, decide_eq_true_eq] at this
  exact ⟨by omega, vB_num this.2⟩
noncomputable def X66 : Fx := ⟨Tryz.prog, tys, 66, Tryz.f66, [0]⟩
theorem X66_ok : X66.Ok := ⟨Tryz.func66, tys_ok⟩
theorem rackText_ct (r : Rk) (ex : Bool) (hlen : r.bs.length ≤ 1048576) (hn : rkNum r) : CtA ambT Tryz.prog 66 [rkR ex r] (str (rkT r)) [] := by
  obtain ⟨pl, l⟩ := r
  obtain ⟨h1, h2⟩ := hn
  simp only at h1 h2 hlen
  have lp := dcN_len (n := pl) (by omega)
  have hll := lns_len (l := l) (tx := plT) (n := 1000) fun x hx => plT_len (h2 x hx).2 (h2 x hx).1.2
  have hmul : l.length * (1000 + 1) ≤ 1048576 * 1001 := Nat.mul_le_mul_right _ hlen
  refine CtA.intro ambT X66 X66_ok rfl (by kernel_rfl) rfl rfl fun g hA hg => ?_
  repeat (refine Run.go rfl ?_)
  refine Run.draw (by kernel_rfl) (by decide +kernel) ?_
  repeat (refine Quiet.go rfl ?_)
  refine Quiet.csA rfl rfl rfl rfl rfl ((dec16_ct pl h1.1 (by omega)).at hA) rfl rfl ?_
  refine Quiet.val rfl rfl (ValOk.scat (dcN pl) [10] rfl rfl rfl (by simp only [List.length_cons, List.length_nil]; omega)) rfl ?_
  repeat (refine Quiet.go rfl ?_)
  refine Quiet.csA rfl rfl rfl rfl rfl ((linesP_ct ambT l ex 160 plT hlen (fun x hx => plT_len (h2 x hx).2 (h2 x hx).1.2) (fun x hx => placedText_ct x (h2 x hx).2 (h2 x hx).1.1 (h2 x hx).1.2)).at hA) rfl rfl ?_
  refine Quiet.val rfl rfl (ValOk.scat (dcN pl ++ [10]) (lns plT l) rfl rfl rfl (by simp only [List.length_append, List.length_cons, List.length_nil]; omega)) rfl ?_
  repeat (refine Quiet.go rfl ?_)
  refine Quiet.nil ?_
  repeat (refine Run.go rfl ?_)
  exact Run.ret hg rfl rfl
def rtRes (r : Rk) : List UInt8 := if vR r then rkT r else []
noncomputable def X10 : Fx := ⟨Tryz.prog, tys, 10, Tryz.f10, [0]⟩
theorem X10_ok : X10.Ok := ⟨Tryz.func10, tys_ok⟩
theorem implRackText_ct (r : Rk) (ex : Bool) (hr : rkOk r) : CtA ambT Tryz.prog 10 [rkR ex r] (str (rtRes r)) [] := by
  refine CtA.intro ambT X10 X10_ok rfl (by kernel_rfl) rfl rfl fun g hA hg => ?_
  repeat (refine Run.go rfl ?_)
  refine Run.cs rfl (implValidRack_ct r ex hr) rfl rfl ?_
  repeat (refine Run.go rfl ?_)
  refine Run.cond rfl (fun h => ?_) (fun h => ?_)
  · repeat (refine Run.go rfl ?_)
    refine Run.ret hg rfl ?_
    have h : vR r = false := by simpa using h
    show str [] = str _
    simp [rtRes, h]
  · have h : vR r = true := by simpa using h
    repeat (refine Run.go rfl ?_)
    refine Run.csA rfl ((rackText_ct r ex hr.1.2 (vR_num hr h)).at hA) rfl rfl ?_
    repeat (refine Run.go rfl ?_)
    refine Run.ret hg rfl ?_
    show str _ = str _
    simp [rtRes, h]
end Go.Proofs.YtbkelajnngdimaaGreatDoor

/- Contracts of the program's functions, and what follows from them. -/
set_option maxRecDepth 100000
namespace Go.Proofs.YtbkelajnngdimaaGreatDoor
open Go Go.Av
noncomputable def ambE : Amb := Amb.var Tryz.prog "strconv.ErrSyntax" 1 (fun cs => ∃ tp p, cs = #[.iface tp p])
noncomputable def ambS : Amb := Amb.and ambT ambE
theorem ambS_T {w : World} {F : List Nat} (h : ambS.on w F) : ambT.on w F := (Amb.on_and.1 h).1
end Go.Proofs.YtbkelajnngdimaaGreatDoor

/- Contracts of the program's functions, and what follows from them. -/
set_option maxRecDepth 100000
namespace Go.Proofs.YtbkelajnngdimaaGreatDoor
open Go Go.Av Go.RowKit
theorem rowErr : ∀ u, Tryz.prog.typeName? 3 u = some "*errors.errorString" → u = 325 := by
  intro u hu
  have star : "*errors.errorString" = "*" ++ "errors.errorString" := by decide
  rw [star] at hu
  exact typeName_ptr_named (nm := "errors.errorString") (by kernel_rfl) (by kernel_rfl) (by decide) u hu
theorem ambE_laid {W : World} (rest : List (String × DataW Unit)) (h : laidMet Tryz.prog (("strconv.ErrSyntax", Rows.laid_strconv_ErrSyntax) :: rest) W) : ambE.on W [] := by
  obtain ⟨a0, s0, hv0, -, -, -⟩ := laid_sentinel (g := 1) h (by kernel_rfl) (by kernel_rfl) Tryz.underlying239 rowErr Tryz.underlying325 Tryz.underlying327 rfl rfl Tryz.underlying9 (by kernel_rfl) (by kernel_rfl)
  exact Amb.var_on (by kernel_rfl) hv0 ⟨_, _, rfl⟩
end Go.Proofs.YtbkelajnngdimaaGreatDoor

/- Contracts of the program's functions, and what follows from them. -/
set_option maxRecDepth 100000
namespace Go.Proofs.YtbkelajnngdimaaGreatDoor
open Go Go.Av
def spl (c : UInt8) : List UInt8 → List (List UInt8)
  | [] => [[]]
  | b :: r => if b = c then [] :: spl c r else match spl c r with
    | [] => [[b]]
    | w :: ws => (b :: w) :: ws
theorem spl_miss {c : UInt8} {u : List UInt8} (h : c ∉ u) : spl c u = [u] := by
  induction u with
  | nil => rfl
  | cons b r ih =>
    simp only [List.mem_cons, not_or] at h
    unfold spl
    rw [if_neg (fun e => h.1 e.symm), ih h.2]
theorem spl_hit {c : UInt8} {u r : List UInt8} (h : c ∉ u) : spl c (u ++ c :: r) = u :: spl c r := by
  induction u with
  | nil =>
    show spl c (c :: r) = _
    rw [spl, if_pos rfl]
  | cons b s ih =>
    simp only [List.mem_cons, not_or] at h
    rw [List.cons_append, spl, if_neg (fun e => h.1 e.symm), ih h.2]
theorem spl_ne (c : UInt8) (l : List UInt8) : spl c l ≠ [] := by
  cases l with
  | nil => simp [spl]
  | cons b r =>
    unfold spl
    split
    · simp
    · split <;> simp
def jn (c : UInt8) : List (List UInt8) → List UInt8
  | [] => []
  | [w] => w
  | w :: v :: ws => w ++ c :: jn c (v :: ws)
theorem jn_cons (c b : UInt8) (w : List UInt8) (ws : List (List UInt8)) : jn c ((b :: w) :: ws) = b :: jn c (w :: ws) := by
  cases ws <;> rfl
theorem jn_spl (c : UInt8) (l : List UInt8) : jn c (spl c l) = l := by
  induction l with
  | nil => rfl
  | cons b r ih =>
    unfold spl
    have hn := spl_ne c r
    split
    · rename_i hb
      cases hr : spl c r with
      | nil => exact absurd hr hn
      | cons v ws => rw [jn, ← hr, ih, hb]; rfl
    · cases hr : spl c r with
      | nil => exact absurd hr hn
      | cons v ws =>
        show jn c ((b :: v) :: ws) = _
        rw [jn_cons, ← hr, ih]
theorem splitK_spl (c : UInt8) : ∀ (k : Nat) (s : List UInt8), s.count c ≤ k → Lib.splitK [c] 0 k s = spl c s
  | 0, s, h => by
    rw [Lib.splitK, spl_miss (List.count_eq_zero.1 (by omega))]
  | k + 1, s, h => by
    rw [Lib.splitK, Lib.index_one]
    have hge := Lib.indexByte_ge s c
    by_cases hm : Lib.indexByte s c = -1
    · rw [if_pos (by rw [hm]; rfl), spl_miss]
      intro hc
      obtain ⟨j, hj⟩ := List.getElem?_of_mem hc
      exact Lib.indexByte_none hm j hj
    · obtain ⟨o, ho⟩ : ∃ o : Nat, Lib.indexByte s c = o := ⟨(Lib.indexByte s c).toNat, by omega⟩
      obtain ⟨h1, h2⟩ := Lib.indexByte_some ho
      obtain ⟨hlt, h1'⟩ := List.getElem?_eq_some_iff.1 h1
      have hs : s = s.take o ++ c :: s.drop (o + 1) := by
        rw [← h1', ← List.drop_eq_getElem_cons hlt, List.take_append_drop]
      have hno : c ∉ s.take o := by
        intro hc
        obtain ⟨j, hj⟩ := List.getElem?_of_mem hc
        rw [List.getElem?_take] at hj
        split at hj
        · rename_i hjo; exact h2 j hjo hj
        · cases hj
      rw [if_neg (by rw [ho]; simp only [beq_iff_eq]; omega), ho]
      have hcnt : (s.drop (o + 1)).count c ≤ k := by
        rw [hs, List.count_append, List.count_cons_self] at h
        omega
      have e1 : ((o : Int)).toNat = o := by omega
      rw [e1, Nat.add_zero]
      show s.take o :: Lib.splitK [c] 0 k (s.drop (o + 1)) = _
      rw [splitK_spl c k _ hcnt]
      conv => rhs; rw [hs]
      rw [spl_hit hno]
theorem decFrom_app (l m : List UInt8) : ∀ acc, Lib.decFrom acc (l ++ m) = (Lib.decFrom acc l).bind fun n => Lib.decFrom n m := by
  induction l with
  | nil => intro acc; simp [Lib.decFrom]
  | cons b r ih =>
    intro acc
    rw [List.cons_append, Lib.decFrom, Lib.decFrom]
    cases Lib.digitVal b with
    | none => rfl
    | some d => exact ih _
theorem dv_some {b : UInt8} {d : Nat} (h : Lib.digitVal b = some d) : d ≤ 9 ∧ b = UInt8.ofNat (48 + d) ∧ b.toNat = 48 + d := by
  unfold Lib.digitVal at h
  split at h
  · obtain rfl := Option.some.inj h
    have e : b.toNat = 48 + (b.toNat - 48) := by omega
    refine ⟨by omega, ?_, e⟩
    rw [← e]
    exact (UInt8.ofNat_toNat).symm
  · cases h
theorem dv_dgc {d : Nat} (h : d ≤ 9) : Lib.digitVal (UInt8.ofNat (48 + d)) = some d := by
  have e : (UInt8.ofNat (48 + d)).toNat = 48 + d := by simp only [UInt8.toNat_ofNat']; omega
  unfold Lib.digitVal
  rw [e, if_pos (by omega)]
  congr 1
  omega
theorem dec_dd (n : Nat) : Lib.decFrom 0 (Lib.decDigits n) = some n := by
  induction n using Nat.strongRecOn with
  | _ n IH =>
    by_cases h : n < 10
    · rw [Lib.decDigits_one h, Lib.decFrom, dv_dgc (by omega)]
      simp [Lib.decFrom]
    · rw [Lib.decDigits, dif_neg h, decFrom_app, IH (n / 10) (by omega)]
      show Lib.decFrom (n / 10) [UInt8.ofNat (48 + n % 10)] = _
      rw [Lib.decFrom, dv_dgc (by omega)]
      simp only [Lib.decFrom]
      congr 1
      omega
theorem dd_ne (n : Nat) : Lib.decDigits n ≠ [] := by
  rw [Lib.decDigits]
  split <;> simp
def cn (s : List UInt8) : Option Nat := match Lib.decNat s with
  | some n => if Lib.decDigits n = s then some n else none
  | none => none
theorem cn_dd (n : Nat) : cn (Lib.decDigits n) = some n := by
  have h : Lib.decNat (Lib.decDigits n) = some n := by
    unfold Lib.decNat
    rw [if_neg (by simp [dd_ne]), dec_dd]
  unfold cn
  rw [h]
  simp
theorem cn_some {s : List UInt8} {n : Nat} (h : cn s = some n) : s = Lib.decDigits n := by
  unfold cn at h
  split at h
  · split at h
    · rename_i e
      obtain rfl := Option.some.inj h
      exact e.symm
    · cases h
  · cases h
def l1n (s : List UInt8) : Int × Bool := match cn s with
  | some n => if s.length ≤ 9 then (n, true) else (0, false)
  | none => (0, false)
def shV (s : List UInt8) : Int := match cn s with
  | some n => if n ≤ 32767 then n else -1
  | none => -1
theorem shV_ge (s : List UInt8) : -1 ≤ shV s ∧ shV s ≤ 32767 := by
  unfold shV
  split
  · split <;> omega
  · omega
theorem shV_nonneg {s : List UInt8} (h : 0 ≤ shV s) : cn s = some (shV s).toNat := by
  unfold shV at h ⊢
  split at h
  · rename_i n hn
    split at h
    · rename_i hle
      rw [hn]
      simp [hle]
    · omega
  · omega
theorem parseM_dec (l : List UInt8) : ∀ acc u, Lib.decFrom acc l = some u → u ≤ 32767 → acc ≤ u ∧ Lib.parseUintM 18446744073709551615 acc l = .ok u := by
  induction l with
  | nil => intro acc u h _; simp only [Lib.decFrom, Option.some.injEq] at h; subst h; exact ⟨Nat.le_refl _, rfl⟩
  | cons b r ih =>
    intro acc u h hu
    rw [Lib.decFrom] at h
    cases hb : Lib.digitVal b with
    | none => rw [hb] at h; cases h
    | some d =>
      rw [hb] at h
      obtain ⟨hd9, _, ht⟩ := dv_some hb
      obtain ⟨h1, h2⟩ := ih _ u h hu
      have h1 : acc * 10 + d ≤ u := by
        first | exact h1 | (rw [Nat.mul_comm] at h1; exact h1)
      refine ⟨by omega, ?_⟩
      rw [Lib.parseUintM, if_pos (by omega), if_neg (by omega), if_neg (by omega)]
      rw [show b.toNat - 48 = d by omega]
      first | exact h2 | (rw [Nat.mul_comm]; exact h2)
theorem parse_dd {n : Nat} (h : n ≤ 32767) : Lib.parseIntB 64 (Lib.decDigits n) = .ok (n : Int) := by
  have hd := dec_dd n
  have hdig := dd_dig n
  cases hl : Lib.decDigits n with
  | nil => exact absurd hl (dd_ne n)
  | cons c r =>
    rw [hl] at hd hdig
    have hc := hdig c (by simp)
    have hp := (parseM_dec (c :: r) 0 n hd h).2
    rw [Lib.parseIntB]
    have hn1 : ¬ (c.toNat = 43 ∨ c.toNat = 45) := by omega
    have hn2 : ¬ c.toNat = 45 := by omega
    simp only [if_neg hn1]
    rw [show Lib.parseUintB 64 (c :: r) = .ok n by rw [Lib.parseUintB, if_neg (by simp)]; exact hp]
    simp only [hn2]
    rw [if_neg (by simp only [not_false_eq_true, true_and]; omega)]
    simp
end Go.Proofs.YtbkelajnngdimaaGreatDoor

/- Contracts of the program's functions, and what follows from them. -/
set_option maxRecDepth 100000
namespace Go.Proofs.YtbkelajnngdimaaGreatDoor
open Go Go.Av
theorem str_eq (l m : List UInt8) : ((⟨l.toArray⟩ : ByteArray).toList == (⟨m.toArray⟩ : ByteArray).toList) = decide (l = m) := by
  rw [ByteArray.toList_mk, ByteArray.toList_mk]
  by_cases h : l = m
  · subst h; simp
  · simp [h]
end Go.Proofs.YtbkelajnngdimaaGreatDoor

/- Contracts of the program's functions, and what follows from them. -/
set_option maxRecDepth 100000
namespace Go.Proofs.YtbkelajnngdimaaGreatDoor
open Go Go.Av
theorem spl_len (c : UInt8) (s : List UInt8) : (spl c s).length ≤ s.length + 1 := by
  induction s with
  | nil => simp [spl]
  | cons b r ih =>
    unfold spl
    split
    · simp only [List.length_cons]; omega
    · split
      · simp
      · rename_i h
        rw [h] at ih
        simp only [List.length_cons] at ih ⊢
        omega
theorem jn_len {c : UInt8} : ∀ {ws : List (List UInt8)} {w : List UInt8}, w ∈ ws → w.length ≤ (jn c ws).length
  | [v], w, h => by rw [List.mem_singleton] at h; subst h; exact Nat.le_refl _
  | v :: u :: r, w, h => by
    rw [jn, List.length_append, List.length_cons]
    rcases List.mem_cons.1 h with h | h
    · subst h; omega
    · have := jn_len (c := c) h
      omega
theorem spl_wlen {c : UInt8} {s w : List UInt8} (h : w ∈ spl c s) : w.length ≤ s.length := by
  have := jn_len (c := c) h
  rwa [jn_spl] at this
end Go.Proofs.YtbkelajnngdimaaGreatDoor

/- Contracts of the program's functions, and what follows from them. -/
set_option maxRecDepth 100000
namespace Go.Proofs.YtbkelajnngdimaaGreatDoor
open Go Go.Av
noncomputable def ambR : Amb := Amb.var Tryz.prog "strconv.ErrRange" 2 (fun cs => ∃ tp p, cs = #[.iface tp p])
noncomputable def ambM : Amb where
  n := 0 + 1
  holds w := ∃ m, w.cell? ⟨0, 0, none⟩ = some (.int .i64 m)
  stable := by
    rintro w w' h ⟨m, hm⟩
    refine ⟨m, ?_⟩
    rw [← hm]
    exact World.cell?_of_block (w := w) (a := ⟨0, 0, none⟩) (h _ (Nat.lt_succ_self _))
noncomputable def ambA : Amb := Amb.and ambS (Amb.and ambR ambM)
theorem ambA_S {w : World} {F : List Nat} (h : ambA.on w F) : ambS.on w F := (Amb.on_and.1 h).1
theorem ambA_T {w : World} {F : List Nat} (h : ambA.on w F) : ambT.on w F := ambS_T (ambA_S h)
theorem dec64A_ct (n : Int) (h0 : -9223372036854775808 ≤ n) (h1 : n ≤ 9223372036854775807) : CtA ambT Tryz.prog 225 [i64 n, i64 10] (str (Lib.itoa n)) [] := by
  refine CtA.ofCalls ambT (vs := [.int .i64 n, .int .i64 10]) Tryz.func225 (by kernel_rfl) (by kernel_rfl) fun w hA => ?_
  refine (Tryz.strconv_FormatInt_10 n h0 h1 w (ambT_tab hA)).mono ?_
  rintro e w' ⟨rfl, k, os, rfl⟩
  exact ⟨_, rfl, (Kp.drewN [] w k).trans (Kp.grow [] _ os) (by simp), fun L => .lit _ _⟩
noncomputable def X224 : Fx := ⟨Tryz.prog, tys, 224, Tryz.f224, [0]⟩
theorem X224_ok : X224.Ok := ⟨Tryz.func224, tys_ok⟩
theorem decA_ct (n : Int) (h0 : -9223372036854775808 ≤ n) (h1 : n ≤ 9223372036854775807) : CtA ambT Tryz.prog 224 [i64 n] (str (Lib.itoa n)) [] := by
  refine CtA.intro ambT X224 X224_ok rfl rfl rfl rfl fun g hA hg => ?_
  repeat (refine Run.go rfl ?_)
  try rw [show IntKind.i64.wrap n = n from wrap_i64 h0 h1]
  refine Run.csA rfl ((dec64A_ct n h0 h1).at hA) rfl rfl ?_
  repeat (refine Run.go rfl ?_)
  exact Run.ret hg rfl rfl
def rdRes (s : List UInt8) : Int × Bool := match Lib.parseIntB 64 s with
  | .ok v => (v, decide (Lib.itoa v = s))
  | .«syntax» => (0, false)
  | .range => (Lib.intSat 64 s, false)
theorem parse_rng {s : List UInt8} {v : Int} (h : Lib.parseIntB 64 s = .ok v) : -9223372036854775808 ≤ v ∧ v ≤ 9223372036854775807 := by
  unfold Lib.parseIntB at h
  split at h
  · cases h
  · simp only at h
    split at h
    · cases h
    · cases h
    · split at h
      · cases h
      · split at h
        · cases h
        · rename_i h1 h2
          have h3 : (2 : Nat) ^ (64 - 1) = 9223372036854775808 := by decide
          rw [h3] at h1 h2
          simp only [Lib.NumEnd.ok.injEq] at h
          subst h
          split <;> rename_i hn
          · have : ¬ 9223372036854775808 < _ := fun e => h2 ⟨hn, e⟩
            omega
          · have : ¬ 9223372036854775808 ≤ _ := fun e => h1 ⟨hn, e⟩
            omega
theorem itoa_dd {n : Nat} : Lib.itoa (n : Int) = Lib.decDigits n := Lib.itoa_nonneg n
theorem shV_eq (s : List UInt8) : shV s = if (rdRes s).2 = true ∧ 0 ≤ (rdRes s).1 ∧ (rdRes s).1 ≤ 32767 then (rdRes s).1 else -1 := by
  by_cases h : 0 ≤ shV s
  · have hc := shV_nonneg h
    have hle := (shV_ge s).2
    have e := cn_some hc
    generalize hn : (shV s).toNat = n at e hc
    have hv : shV s = n := by omega
    have hp := parse_dd (n := n) (by omega)
    rw [← e] at hp
    have hr : rdRes s = ((n : Int), true) := by
      unfold rdRes
      rw [hp]
      show ((n : Int), decide (Lib.itoa (n : Int) = s)) = _
      rw [itoa_dd, ← e, decide_eq_true rfl]
    rw [hr, if_pos ⟨rfl, by omega, by omega⟩, hv]
  · have hm : shV s = -1 := by have := (shV_ge s).1; omega
    rw [hm, if_neg]
    rintro ⟨h1, h2, h3⟩
    unfold rdRes at h1 h2 h3
    cases hp : Lib.parseIntB 64 s with
    | «syntax» => rw [hp] at h1; cases h1
    | range => rw [hp] at h1; cases h1
    | ok v =>
      rw [hp] at h1 h2 h3
      simp only [decide_eq_true_eq] at h1 h2 h3
      obtain ⟨n, rfl⟩ := Int.eq_ofNat_of_zero_le h2
      rw [itoa_dd] at h1
      apply h
      unfold shV
      rw [← h1, cn_dd]
      show 0 ≤ if n ≤ 32767 then (n : Int) else -1
      rw [if_pos (by omega)]
      omega
noncomputable def X157 : Fx := ⟨Tryz.prog, tys, 157, Tryz.f157, [0]⟩
theorem X157_ok : X157.Ok := ⟨Tryz.func157, tys_ok⟩
theorem readDec_ct (s : List UInt8) (hlen : s.length ≤ 1048576) : CtA ambA Tryz.prog 157 [str s] (.tup [i64 (rdRes s).1, bo (rdRes s).2]) [] := by
  have hd : (⟨s.toArray⟩ : ByteArray).data.toList = s := by simp
  refine CtA.intro ambA X157 X157_ok rfl (by kernel_rfl) rfl rfl fun g hA hg => ?_
  repeat (refine Run.go rfl ?_)
  refine Run.callU ambA hA (vs := [.string ⟨s.toArray⟩, .int .i64 10, .int .i64 64]) (fun p : Int × Value => (∃ v, Lib.parseIntB 64 s = .ok v ∧ p = (v, .nilIface)) ∨ ((rdRes s).2 = false ∧ ∃ tp q, p = ((rdRes s).1, .iface tp q)))
    (fun p => .tup [i64 p.1, .lit p.2]) rfl rfl rfl rfl rfl rfl (by kernel_rfl) (fun w hW => ?_) rfl ?_
  · have hres : ∀ (w : World) (n : Int) (v : Value) (L : Nat → Prop), Rel w L noEnv (.tup [i64 n, .lit v]) (.tuple #[.int .i64 n, v]) [] := by
      intro w n v L
      have := Rel.tup (w := w) (L := L) noEnv [i64 n, .lit v] #[.int .i64 n, v] (fun _ => []) rfl (by
        intro k x u hx hu
        match k with
        | 0 => simp at hx hu; subst hx; subst hu; exact .lit _ _
        | 1 => simp at hx hu; subst hx; subst hu; exact .lit _ _
        | k + 2 => simp at hx)
      rwa [foots_nil (fun _ _ => rfl)] at this
    cases hp : Lib.parseIntB 64 s with
    | ok v =>
      refine (Tryz.strconv_ParseInt_10_at64_ok ⟨s.toArray⟩ (by rw [bsz]; omega) v (by rw [hd]; exact hp) w).mono ?_
      rintro e w' ⟨rfl, hw'⟩
      refine ⟨(v, .nilIface), _, .inl ⟨v, rfl, rfl⟩, rfl, ?_, fun L => hres _ _ _ _⟩
      rcases hw' with rfl | ⟨t, rfl⟩
      · exact Kp.refl _ _
      · refine ⟨?_, ?_, ?_, by rw [Lib.bytesWorld_size]; omega, fun b hb _ => Lib.bytesWorld_at_old w 5 _ b hb⟩
        all_goals (unfold Lib.bytesWorld World.freeze; split <;> rfl)
    | «syntax» =>
      obtain ⟨⟨_, cs, hv, tp, p, rfl⟩, _⟩ := (Amb.on_and.1 (ambA_S hW)).2
      refine (Tryz.strconv_ParseInt_10_at64_syntax_var ⟨s.toArray⟩ (by rw [bsz]; omega) (by rw [hd]; exact hp) tp p w hv).mono ?_
      rintro e w' ⟨N, rfl, hN⟩
      have hr : rdRes s = (0, false) := by unfold rdRes; rw [hp]
      refine ⟨((rdRes s).1, _), _, .inr ⟨by rw [hr], _, _, rfl⟩, rfl, ?_, fun L => by rw [hr]; exact hres _ _ _ _⟩
      exact Kp.of_below hN.2.2
    | range =>
      obtain ⟨⟨_, cs, hv, tp, p, rfl⟩, _⟩ := (Amb.on_and.1 (Amb.on_and.1 hW).2).1
      refine (Tryz.strconv_ParseInt_10_at64_range_var ⟨s.toArray⟩ (by rw [bsz]; omega) (by rw [hd]; exact hp) tp p w hv).mono ?_
      rintro e w' ⟨N, rfl, hN⟩
      have hr : rdRes s = (Lib.intSat 64 s, false) := by unfold rdRes; rw [hp]
      rw [hd]
      refine ⟨((rdRes s).1, _), _, .inr ⟨by rw [hr], _, _, rfl⟩, rfl, ?_, fun L => by rw [hr]; exact hres _ _ _ _⟩
      exact Kp.of_below hN.2.2
  · rintro ⟨n, e⟩ hC
    rcases hC with ⟨v, hp, hpe⟩ | ⟨hf, tp, q, hpe⟩
    · simp only [Prod.mk.injEq] at hpe
      obtain ⟨rfl, rfl⟩ := hpe
      have hrg := parse_rng hp
      have hr : rdRes s = (n, decide (Lib.itoa n = s)) := by unfold rdRes; rw [hp]
      repeat (refine Run.go rfl ?_)
      refine Run.val rfl rfl rfl (ValOk.ifnil0 rfl Tryz.underlying239 rfl) rfl ?_
      repeat (refine Run.go rfl ?_)
      refine Run.csA rfl ((decA_ct n hrg.1 hrg.2).at (ambA_T hA)) rfl rfl ?_
      repeat (refine Run.go rfl ?_)
      refine Run.ret hg rfl ?_
      rw [hr]
      show AV.tup [i64 n, bo ((⟨(Lib.itoa n).toArray⟩ : ByteArray).toList == (⟨s.toArray⟩ : ByteArray).toList)] = AV.tup [i64 n, bo (decide (Lib.itoa n = s))]
      rw [str_eq]
    · simp only [Prod.mk.injEq] at hpe
      obtain ⟨rfl, rfl⟩ := hpe
      repeat (refine Run.go rfl ?_)
      refine Run.val rfl rfl rfl (ValOk.ifnil rfl Tryz.underlying239 rfl) rfl ?_
      repeat (refine Run.go rfl ?_)
      refine Run.ret hg rfl ?_
      rw [hf]
      rfl
noncomputable def X65 : Fx := ⟨Tryz.prog, tys, 65, Tryz.f65, [0]⟩
theorem X65_ok : X65.Ok := ⟨Tryz.func65, tys_ok⟩
theorem short_ct (s : List UInt8) (hlen : s.length ≤ 1048576) : CtA ambA Tryz.prog 65 [str s] (i16 (shV s)) [] := by
  have hrd := readDec_ct s hlen
  have he := shV_eq s
  generalize rdRes s = R at hrd he
  obtain ⟨n, ok⟩ := R
  simp only at hrd he
  refine CtA.intro ambA X65 X65_ok rfl rfl rfl rfl fun g hA hg => ?_
  repeat (refine Run.go rfl ?_)
  refine Run.csA rfl (hrd.at hA) rfl rfl ?_
  cases ok with
  | false =>
    rw [if_neg (by simp)] at he
    repeat (refine Run.go rfl ?_)
    refine Run.cond rfl (fun _ => ?_) (fun h => by cases h)
    repeat (refine Run.go rfl ?_)
    refine Run.ret hg rfl ?_
    rw [he]
    rfl
  | true =>
  repeat (refine Run.go rfl ?_)
  refine Run.cs rfl (within64_ct n 0 32767) rfl rfl ?_
  repeat (refine Run.go rfl ?_)
  refine Run.cond rfl (fun h => ?_) (fun h => ?_)
  · have h : inr n 0 32767 = false := by simpa using h
    simp [inr] at h
    rw [if_neg (by omega)] at he
    repeat (refine Run.go rfl ?_)
    refine Run.ret hg rfl ?_
    rw [he]
    rfl
  · have h : inr n 0 32767 = true := by simpa using h
    simp [inr] at h
    rw [if_pos ⟨rfl, by omega, by omega⟩] at he
    repeat (refine Run.go rfl ?_)
    refine Run.ret hg rfl ?_
    show i16 _ = _
    rw [he, wrap_i16 (by omega) (by omega)]
theorem map_strs (c : UInt8) (s : List UInt8) : ((Lib.splitB ⟨#[c]⟩ 0 (Lib.countB ⟨s.toArray⟩ ⟨#[c]⟩) ⟨s.toArray⟩).map Value.string) = (spl c s).map fun l => Value.string ⟨l.toArray⟩ := by
  have h1 := Lib.splitB_data ⟨#[c]⟩ 0 (Lib.countB ⟨s.toArray⟩ ⟨#[c]⟩) ⟨s.toArray⟩
  have h2 : Lib.countB ⟨s.toArray⟩ ⟨#[c]⟩ = s.count c := by
    show Lib.count _ _ = _
    exact Lib.count_one c s
  have h3 : Lib.splitK [c] 0 (Lib.countB ⟨s.toArray⟩ ⟨#[c]⟩) s = spl c s := splitK_spl c _ s (by rw [h2]; exact Nat.le_refl _)
  have h1 : (Lib.splitB ⟨#[c]⟩ 0 (Lib.countB ⟨s.toArray⟩ ⟨#[c]⟩) ⟨s.toArray⟩).map (·.data.toList) = spl c s := by
    rw [h1]
    exact h3
  rw [← h1, List.map_map]
  apply List.map_congr_left
  intro x _
  rfl
theorem Split_ct (s : List UInt8) (c : UInt8) (hlen : s.length ≤ 1048576) : CtA ambA Tryz.prog 221 [str s, str [c]] (.ro 1 true ((spl c s).map str)) [] := by
  refine CtA.ofCallsR ambA (vs := [.string ⟨s.toArray⟩, .string ⟨([c] : List UInt8).toArray⟩]) Tryz.func221 (by kernel_rfl) (by kernel_rfl) fun w hA => ?_
  obtain ⟨⟨m, hm⟩, _⟩ := (Amb.on_and.1 (Amb.on_and.1 hA).2).2
  refine (Tryz.strings_Split ⟨s.toArray⟩ ⟨([c] : List UInt8).toArray⟩ m w (by rw [bsz]; omega) hm (by rw [bsz]; exact Nat.le_refl 1)).mono ?_
  rintro e w' ⟨rfl, rfl⟩
  have hms := map_strs c s
  have hcn : Lib.countB ⟨s.toArray⟩ ⟨([c] : List UInt8).toArray⟩ + 1 = (spl c s).length := by
    have h := Lib.splitB_all ⟨#[c]⟩ (by show 1 ≤ 1; exact Nat.le_refl 1) 0 _ ⟨s.toArray⟩ rfl
    have h2 := congrArg List.length hms
    rw [List.length_map, List.length_map] at h2
    rw [← h2]
    exact h.symm
  rw [hcn]
  refine ⟨_, rfl, ?_, fun L hL => ?_⟩
  · exact Kp.alloc [] w _
  · refine Rel.strs (T := 9) (fz := (0, 0)) _ (fun h => absurd (hL _ h) (Nat.lt_irrefl _)) ?_ (by have := spl_len c s; simp only [capMax]; omega)
    rw [← hms]
    exact alloc_new w _
end Go.Proofs.YtbkelajnngdimaaGreatDoor

/- Contracts of the program's functions, and what follows from them. -/
set_option maxRecDepth 100000
namespace Go.Proofs.YtbkelajnngdimaaGreatDoor
open Go Go.Av Go.RowKit
theorem ambR_laid {W : World} (rest : List (String × DataW Unit)) (h : laidMet Tryz.prog (("strconv.ErrRange", Rows.laid_strconv_ErrRange) :: rest) W) : ambR.on W [] := by
  obtain ⟨a0, s0, hv0, -, -, -⟩ := laid_sentinel (g := 2) h (by kernel_rfl) (by kernel_rfl) Tryz.underlying239 rowErr Tryz.underlying325 Tryz.underlying327 rfl rfl Tryz.underlying9 (by kernel_rfl) (by kernel_rfl)
  exact Amb.var_on (by kernel_rfl) hv0 ⟨_, _, rfl⟩
theorem ambM_shaped {W : World} (h : W.ShapedOpen Tryz.prog) : ambM.on W [] := by
  obtain ⟨m, hm⟩ := cell_of_shapedOpen_int (g := 0) (t := 3) (zero := #[.int .i64 0]) h (by decide +kernel) (by kernel_rfl) rfl (by kernel_rfl) (by kernel_rfl) Tryz.underlying3
  exact ⟨⟨m, hm⟩, World.block_lt_of_cell? W _ hm, by simp⟩
theorem ambA_laid {W : World} (rest : List (String × DataW Unit)) (h : laidMet Tryz.prog (("math/bits.deBruijn32tab", Rows.laid_math_bits_deBruijn32tab) :: ("math/bits.deBruijn64tab", Rows.laid_math_bits_deBruijn64tab) ::
    ("internal/strconv.uint64pow10", Rows.laid_internal_strconv_uint64pow10) :: ("unicode/utf8.acceptRanges", Rows.laid_unicode_utf8_acceptRanges) :: ("strconv.ErrRange", Rows.laid_strconv_ErrRange) :: ("strconv.ErrSyntax", Rows.laid_strconv_ErrSyntax) :: rest) W)
    (hS : W.ShapedOpen Tryz.prog) : ambA.on W [] := by
  have h4 := laidMet.tail (laidMet.tail (laidMet.tail (laidMet.tail h)))
  exact Amb.on_and.2 ⟨Amb.on_and.2 ⟨ambT_laid _ h, ambE_laid rest (laidMet.tail h4)⟩, Amb.on_and.2 ⟨ambR_laid _ h4, ambM_shaped hS⟩⟩
end Go.Proofs.YtbkelajnngdimaaGreatDoor

/- Contracts of the program's functions, and what follows from them. -/
set_option maxRecDepth 100000
namespace Go.Proofs.YtbkelajnngdimaaGreatDoor
open Go Go.Av
def lnE : List UInt8 → List (List UInt8)
  | [] => []
  | b :: r => if b = 10 then [10] :: lnE r else match lnE r with
    | [] => [[b]]
    | w :: ws => (b :: w) :: ws
theorem lnE_hit {u r : List UInt8} (h : (10 : UInt8) ∉ u) : lnE (u ++ 10 :: r) = (u ++ [10]) :: lnE r := by
  induction u with
  | nil => simp [lnE]
  | cons b u ih =>
    have hb : b ≠ 10 := fun e => h (by simp [e])
    rw [List.cons_append, lnE, if_neg hb, ih (fun h' => h (List.mem_cons_of_mem _ h'))]
    rfl
theorem lnE_miss {u : List UInt8} (h : (10 : UInt8) ∉ u) (h0 : u ≠ []) : lnE u = [u] := by
  induction u with
  | nil => exact absurd rfl h0
  | cons b u ih =>
    have hb : b ≠ 10 := fun e => h (by simp [e])
    rw [lnE, if_neg hb]
    cases u with
    | nil => rfl
    | cons c u => rw [ih (fun h' => h (List.mem_cons_of_mem _ h')) (by simp)]
theorem first_at {c : UInt8} : ∀ {s : List UInt8}, c ∈ s → ∃ u r, s = u ++ c :: r ∧ c ∉ u
  | b :: s, h => by
    by_cases hb : b = c
    · exact ⟨[], s, by rw [hb]; rfl, by simp⟩
    · obtain ⟨u, r, e, hu⟩ := first_at ((List.mem_cons.1 h).resolve_left fun e => hb e.symm)
      exact ⟨b :: u, r, by rw [e]; rfl, by simp only [List.mem_cons, not_or]; exact ⟨fun e => hb e.symm, hu⟩⟩
def ended (s : List UInt8) : Bool := decide (s = [] ∨ s.getLast? = some 10)
theorem last_app {α : Type} (u : List α) (c : α) (r : List α) : (u ++ c :: r).getLast? = if r = [] then some c else r.getLast? := by
  rw [List.getLast?_append]
  cases r with
  | nil => simp
  | cons d r =>
    rw [List.getLast?_cons_cons, if_neg (by simp)]
    cases h : (d :: r).getLast? with
    | none => simp at h
    | some x => rfl
theorem spl_lnE : ∀ (k : Nat) (s : List UInt8), s.length ≤ k → ended s = true → ∃ ls, spl 10 s = ls ++ [[]] ∧ lnE s = ls.map (· ++ [10])
  | k, [], _, _ => ⟨[], rfl, rfl⟩
  | 0, b :: s, hk, _ => by simp at hk
  | k + 1, b :: s, hk, he => by
    simp only [ended, decide_eq_true_eq] at he
    have hl := he.resolve_left (by simp)
    obtain ⟨u, r, e, hu⟩ := first_at (List.mem_of_getLast? hl)
    rw [e] at hl hk ⊢
    rw [last_app] at hl
    obtain ⟨ls, h1, h2⟩ := spl_lnE k r (by simp at hk; omega) (by
      simp only [ended, decide_eq_true_eq]
      by_cases hr : r = []
      · exact .inl hr
      · rw [if_neg hr] at hl; exact .inr hl)
    exact ⟨u :: ls, by rw [spl_hit hu, h1]; rfl, by rw [lnE_hit hu, h2]; rfl⟩
theorem spl_last : ∀ (k : Nat) (s : List UInt8), s.length ≤ k → ended s = false → ∃ ls w, spl 10 s = ls ++ [w] ∧ w ≠ []
  | k, [], _, he => by simp [ended] at he
  | 0, b :: s, hk, _ => by simp at hk
  | k + 1, b :: s, hk, he => by
    simp only [ended, decide_eq_false_iff_not, not_or] at he
    by_cases hm : (10 : UInt8) ∈ b :: s
    · obtain ⟨u, r, e, hu⟩ := first_at hm
      have hl := he.2
      rw [e] at hl hk ⊢
      rw [last_app] at hl
      have hr : r ≠ [] := fun h => by rw [if_pos h] at hl; exact hl rfl
      rw [if_neg hr] at hl
      obtain ⟨ls, w, h1, h2⟩ := spl_last k r (by simp at hk; omega) (by
        simp only [ended, decide_eq_false_iff_not, not_or]
        exact ⟨hr, hl⟩)
      exact ⟨u :: ls, w, by rw [spl_hit hu, h1]; rfl, h2⟩
    · exact ⟨[], b :: s, by rw [spl_miss hm]; rfl, by simp⟩
theorem count_spl (s : List UInt8) : ∀ (k : Nat), s.length ≤ k → s.count 10 + 1 = (spl 10 s).length := by
  intro k
  induction k generalizing s with
  | zero => intro h; obtain rfl : s = [] := List.eq_nil_of_length_eq_zero (by omega); rfl
  | succ k ih =>
    intro h
    by_cases hm : (10 : UInt8) ∈ s
    · obtain ⟨u, r, e, hu⟩ := first_at hm
      rw [e] at h ⊢
      rw [spl_hit hu, List.length_cons, ← ih r (by simp at h; omega), List.count_append, List.count_cons, List.count_eq_zero.2 hu]
      simp
    · rw [spl_miss hm, List.count_eq_zero.2 hm]; rfl
theorem suff_last (s : List UInt8) : decide ([10] <:+ s) = decide (s.getLast? = some 10) := by
  refine decide_eq_decide.2 ⟨?_, fun h => ?_⟩
  · rintro ⟨t, rfl⟩; simp
  · obtain ⟨t, rfl⟩ := List.getLast?_eq_some_iff.1 h
    exact ⟨t, rfl⟩
end Go.Proofs.YtbkelajnngdimaaGreatDoor

/- Contracts of the program's functions, and what follows from them. -/
set_option maxRecDepth 100000
namespace Go.Proofs.YtbkelajnngdimaaGreatDoor
open Go Go.Av
theorem ix_hit {u r : List UInt8} {c : UInt8} (h : c ∉ u) : Lib.indexByte (u ++ c :: r) c = u.length := by
  induction u with
  | nil => simp [Lib.indexByte]
  | cons b u ih =>
    have hb : (b == c) = false := by simp only [beq_eq_false_iff_ne]; intro e; exact h (by simp [e])
    rw [List.cons_append, Lib.indexByte, hb, ih (fun h' => h (List.mem_cons_of_mem _ h'))]
    simp only [Bool.false_eq_true, if_false, List.length_cons]
    rw [if_neg (by simp only [beq_iff_eq]; omega)]
    omega
theorem ix_miss {u : List UInt8} {c : UInt8} (h : c ∉ u) : Lib.indexByte u c = -1 := by
  induction u with
  | nil => rfl
  | cons b u ih =>
    have hb : (b == c) = false := by simp only [beq_eq_false_iff_ne]; intro e; exact h (by simp [e])
    rw [Lib.indexByte, hb, ih (fun h' => h (List.mem_cons_of_mem _ h'))]
    rfl
def lnBox (B : Nat) (s : List UInt8) : List (Nat × Obj) := [(B, .cells #[.string ⟨s.toArray⟩] 9 (0, 0))]
def lnFn (B : Nat) : Value := .func (.func 218) #[] #[.pointer (some ⟨B, 0, none⟩)]
noncomputable def X154 : Fx := ⟨Tryz.prog, tys, 154, Tryz.f154, []⟩
theorem X154_ok : X154.Ok := ⟨Tryz.func154, tys_ok⟩
theorem Lines_calls (s : List UInt8) (w : World) : Calls Tryz.prog 154 [.string ⟨s.toArray⟩].toArray w fun e w' => ∃ B, True ∧ e = .returned (lnFn B) ∧ held w' (lnBox B s) ∧ Kp (([] : List (Nat × Obj)).map Prod.fst) w w' ∧ ((lnBox B s).map Prod.fst).Nodup ∧
    ∀ x ∈ (lnBox B s).map Prod.fst, x ∈ ([] : List (Nat × Obj)).map Prod.fst ∨ w.heap.size ≤ x := by
  refine (calls_plain X154 X154_ok rfl (vs := [.string ⟨s.toArray⟩]) rfl rfl (fun w v w' => ∃ B, v = lnFn B ∧ held w' (lnBox B s) ∧ Kp [] w w' ∧ w.heap.size ≤ B) (fun g hF0 hp => ?_) w).mono ?_
  rotate_left
  · rintro e w' ⟨v, rfl, B, rfl, h1, h2, h3⟩
    exact ⟨B, trivial, rfl, h1, h2, by simp [lnBox], by simp [lnBox, h3]⟩
  refine Run.go rfl ?_
  refine Run.go rfl ?_
  refine Run.boxM rfl rfl rfl rfl rfl rfl rfl rfl fun B => ?_
  repeat (refine Run.go rfl ?_)
  refine Run.ret' hp fun hX a w ⟨β, F, hI⟩ => ?_
  obtain ⟨v, hv, F', hk, _, _, hR⟩ := ret_post0 (r := .fn 218 [.lit (.pointer (some ⟨B, 0, none⟩))]) hX ⟨β, F, hI⟩ rfl
  have hob := hI.obj (1, 0)
  refine ⟨v, hv, B, ?_, hob.2, by rw [hF0] at hk; exact hk, ?_⟩
  · cases hR with
    | tup _ _ _ Fs hl hr' =>
      have := hr' 0 _ v rfl (by simp)
      generalize Fs 0 = G0 at this
      cases this with
      | fn _ _ _ vals hl2 hr2 =>
        have hv0 : ∃ u, vals = #[u] := by
          have : vals.size = 1 := hl2.symm
          match vals, this with
          | ⟨[u]⟩, _ => exact ⟨u, rfl⟩
        obtain ⟨u, rfl⟩ := hv0
        have := hr2 0 _ u rfl (by simp)
        cases this
        rfl
  · have hm : B ∈ F (.o (1, 0)) := by rw [hob.1]; simp
    rcases hI.range _ B hm with h | h
    · rw [hF0] at h; simp at h
    · exact h
noncomputable def X218 : Fx := ⟨Tryz.prog, tys, 218, Tryz.f218, [1]⟩
theorem X218_ok : X218.Ok := ⟨Tryz.func218, tys_ok⟩
theorem Lines1_seq (s : List UInt8) (hlen : s.length ≤ 1048576) (B : Nat) : SeqOk Tryz.prog 218 #[.pointer (some ⟨B, 0, none⟩)] ((lnBox B s).map Prod.fst) (fun w => held w (lnBox B s)) ((lnE s).map fun l => .string ⟨l.toArray⟩) := by
  refine SeqOk.intro X218 X218_ok rfl (lb := [.pointer (some ⟨B, 0, none⟩)]) (im := lnBox B s) rfl rfl (by simp [lnBox]) fun g l J Jx ms hx hall hcov hp => ?_
  repeat (refine Run.go rfl ?_)
  refine Run.loop (fun q : List UInt8 × Nat × List (Nat × Obj) => ⟨[(0, .lit (.func (.yield l) #[] #[])), (1, .lit (.pointer (some ⟨B, 0, none⟩)))], [((0, 0), .mem [(B, .cells #[.string ⟨q.1.toArray⟩] 9 (0, 0))]), ((0, 1), .mem q.2.2)]⟩)
    (fun q => q.1.length ≤ s.length ∧ (lnE s).drop q.2.1 = lnE q.1 ∧ q.2.1 ≤ (lnE s).length ∧ Cov g ((lnBox B s).map Prod.fst) (J q.2.1) q.2.2) (fun q => q.1.length) (s, 0, ms) ⟨Nat.le_refl _, rfl, Nat.zero_le _, hcov⟩ ?_ ?_
  · exact St.Le.mk' ⟨rfl, rfl, trivial⟩ ⟨rfl, rfl, trivial⟩
  rintro ⟨r, n, ms⟩ ⟨hr, hd, hn, hcov⟩ IH
  simp only at hr hd hn hcov IH
  repeat (refine Run.go rfl ?_)
  refine Run.val rfl rfl rfl (ValOk.loadM (0, 0) rfl rfl rfl rfl rfl) rfl ?_
  repeat (refine Run.go rfl ?_)
  refine Run.cond rfl (fun h => ?_) (fun h => ?_)
  · have hr0 : r ≠ [] := by
      have h : decide ((0 : Int) < ((⟨r.toArray⟩ : ByteArray).size : Nat)) = true := h
      rw [bsz] at h
      rintro rfl
      simp at h
    clear h
    obtain ⟨w, r', hl, hlt, hc⟩ : ∃ w r', lnE r = w :: lnE r' ∧ r'.length < r.length ∧ ((∃ u, r = u ++ 10 :: r' ∧ w = u ++ [10] ∧ Lib.indexByte r 10 = (u.length : Int)) ∨ (w = r ∧ r' = [] ∧ Lib.indexByte r 10 = -1)) := by
      by_cases hm : (10 : UInt8) ∈ r
      · obtain ⟨u, r', e, hu⟩ := first_at hm
        exact ⟨u ++ [10], r', by rw [e, lnE_hit hu], by rw [e]; simp; omega, .inl ⟨u, e, rfl, by rw [e, ix_hit hu]⟩⟩
      · exact ⟨r, [], by rw [lnE_miss hm hr0]; rfl, by cases r with | nil => exact absurd rfl hr0 | cons b r => simp, .inr ⟨rfl, rfl, ix_miss hm⟩⟩
    have hni : n < (lnE s).length := by
      apply Classical.byContradiction
      intro h
      rw [List.drop_eq_nil_of_le (by omega), hl] at hd
      cases hd
    have hx1 : (lnE s)[n]? = some w := by
      have : ((lnE s).drop n)[0]? = some w := by rw [hd, hl]; rfl
      rwa [List.getElem?_drop] at this
    have hd' : (lnE s).drop (n + 1) = lnE r' := by
      have := congrArg (List.drop 1) hd
      rw [List.drop_drop, hl] at this
      exact this
    have hxv : ((lnE s).map fun l => Value.string ⟨l.toArray⟩)[n]? = some (.string ⟨w.toArray⟩) := by rw [List.getElem?_map, hx1]; rfl
    repeat (refine Run.go rfl ?_)
    refine Run.val rfl rfl rfl (ValOk.loadM (0, 0) rfl rfl rfl rfl rfl) rfl ?_
    repeat (refine Run.go rfl ?_)
    refine Run.cs rfl (IndexByte_ct r 10) rfl rfl ?_
    have hixe : Lib.indexByte r (10 : Int).toNat.toUInt8 = Lib.indexByte r 10 := rfl
    rw [hixe]
    generalize Lib.indexByte r 10 = ix at hc
    repeat (refine Run.go rfl ?_)
    refine Run.condJ ⟨[(0, .lit (.func (.yield l) #[] #[])), (1, .lit (.pointer (some ⟨B, 0, none⟩))), (3, str w)], [((0, 0), .mem [(B, .cells #[.string ⟨r'.toArray⟩] 9 (0, 0))]), ((0, 1), .mem ms)]⟩ rfl (fun h k' hN => ?_) (fun h k' hN => ?_) ?_
    · have h : 0 ≤ ix := by simpa using h
      obtain ⟨u, rfl, rfl, rfl⟩ : ∃ u, r = u ++ 10 :: r' ∧ w = u ++ [10] ∧ ix = (u.length : Int) := hc.resolve_right fun h' => by omega
      clear hc
      have hul : u.length + 1 ≤ 1048576 := by simp at hr; omega
      have ht1 : (u ++ 10 :: r').take (u.length + 1) = u ++ [10] := by
        rw [show u ++ 10 :: r' = (u ++ [10]) ++ r' by simp, List.take_left' (by simp)]
      have ht2 : ((u ++ 10 :: r').take (u ++ 10 :: r').length).drop (u.length + 1) = r' := by
        rw [List.take_length, show u ++ 10 :: r' = (u ++ [10]) ++ r' by simp, List.drop_left' (by simp)]
      have hw1 : IntKind.i64.wrap ((u.length : Int) + 1) = ((u.length + 1 : Nat) : Int) := by rw [wrap_i64 (by omega) (by omega)]; rfl
      refine Run.drawI (fun D => ⟨[(0, .lit (.func (.yield l) #[] #[])), (1, .lit (.pointer (some ⟨B, 0, none⟩))), (4, i64 (u.length : Int)), (12, bif D 0 then str (u ++ 10 :: r') else .top), (13, bif D 1 then i64 (u.length : Int) else .top), (14, bif D 2 then i64 (IntKind.i64.wrap ((u.length : Int) + 1)) else .top), (15, bif D 3 then str (u ++ [10]) else .top), (16, bif D 4 then str (u ++ 10 :: r') else .top), (17, bif D 5 then i64 (u.length : Int) else .top), (18, bif D 6 then i64 (IntKind.i64.wrap ((u.length : Int) + 1)) else .top), (19, bif D 7 then str r' else .top), (3, bif D 8 then str (u ++ [10]) else str [])], [((0, 0), (bif D 9 then .mem [(B, .cells #[.string ⟨r'.toArray⟩] 9 (0, 0))] else .mem [(B, .cells #[.string ⟨(u ++ 10 :: r').toArray⟩] 9 (0, 0))])), ((0, 1), .mem ms)]⟩) (by decide +kernel) (by decide +kernel) ?_ ?_ fun k' => ⟨?_, ?_, ?_, ?_, ?_, ?_, ?_, ?_, ?_, ?_, trivial⟩
      · exact St.Le.mk' ⟨rfl, rfl, rfl, rfl, rfl, rfl, rfl, rfl, rfl, rfl, rfl, rfl, trivial⟩ ⟨rfl, rfl, trivial⟩
      rotate_left
      · intro D hid h0 hp hs rest hK
        obtain ⟨d3, d8, d9, -⟩ : AllD D false [3, 8, 9] := ideal_sub hs (by decide +kernel)
        simp only [d3, d8, d9, h0, cond_true, cond_false]
        refine Run.val rfl rfl rfl (ValOk.loadM (0, 0) rfl rfl rfl rfl rfl) rfl ?_
        refine Run.le ?_ hK
        simp only [d3, d8, d9, h0, Nat.reduceBEq, Bool.false_or, Bool.true_or, cond_true, cond_false]
        exact St.Le.mk' ⟨rfl, rfl, rfl, rfl, rfl, rfl, rfl, rfl, rfl, rfl, rfl, rfl, trivial⟩ ⟨rfl, rfl, trivial⟩
      · intro D hid h0 hp hs rest hK
        obtain ⟨d2, d8, d9, -⟩ : AllD D false [2, 8, 9] := ideal_sub hs (by decide +kernel)
        simp only [d2, d8, d9, h0, cond_true, cond_false]
        refine Run.go rfl ?_
        refine Run.le ?_ hK
        simp only [d2, d8, d9, h0, Nat.reduceBEq, Bool.false_or, Bool.true_or, cond_true, cond_false]
        exact St.Le.mk' ⟨rfl, rfl, rfl, rfl, rfl, rfl, rfl, rfl, rfl, rfl, rfl, rfl, trivial⟩ ⟨rfl, rfl, trivial⟩
      · intro D hid h0 hp hs rest hK
        obtain ⟨d1, -⟩ : AllD D true [1] := ideal_sub hp (by decide +kernel)
        obtain ⟨d3, d8, d9, -⟩ : AllD D false [3, 8, 9] := ideal_sub hs (by decide +kernel)
        simp only [d1, d3, d8, d9, h0, cond_true, cond_false]
        refine Run.go rfl ?_
        refine Run.le ?_ hK
        simp only [d1, d3, d8, d9, h0, Nat.reduceBEq, Bool.false_or, Bool.true_or, cond_true, cond_false]
        exact St.Le.mk' ⟨rfl, rfl, rfl, rfl, rfl, rfl, rfl, rfl, rfl, rfl, rfl, rfl, trivial⟩ ⟨rfl, rfl, trivial⟩
      · intro D hid h0 hp hs rest hK
        obtain ⟨d0, d2, -⟩ : AllD D true [0, 2] := ideal_sub hp (by decide +kernel)
        obtain ⟨d8, d9, -⟩ : AllD D false [8, 9] := ideal_sub hs (by decide +kernel)
        simp only [d0, d2, d8, d9, h0, cond_true, cond_false]
        refine Run.val rfl rfl rfl (ValOk.scut (s := 0) (h := IntKind.i64.wrap ((u.length : Int) + 1)) (u ++ 10 :: r') (u ++ [10]) rfl rfl rfl rfl rfl rfl (by omega) (by rw [hw1]; omega) (by rw [hw1, List.length_append, List.length_cons]; omega) (by rw [hw1]; exact ht1)) rfl ?_
        refine Run.le ?_ hK
        simp only [d0, d2, d8, d9, h0, Nat.reduceBEq, Bool.false_or, Bool.true_or, cond_true, cond_false]
        exact St.Le.mk' ⟨rfl, rfl, rfl, rfl, rfl, rfl, rfl, rfl, rfl, rfl, rfl, rfl, trivial⟩ ⟨rfl, rfl, trivial⟩
      · intro D hid h0 hp hs rest hK
        obtain ⟨d7, d9, -⟩ : AllD D false [7, 9] := ideal_sub hs (by decide +kernel)
        simp only [d7, d9, h0, cond_true, cond_false]
        refine Run.val rfl rfl rfl (ValOk.loadM (0, 0) rfl rfl rfl rfl rfl) rfl ?_
        refine Run.le ?_ hK
        simp only [d7, d9, h0, Nat.reduceBEq, Bool.false_or, Bool.true_or, cond_true, cond_false]
        exact St.Le.mk' ⟨rfl, rfl, rfl, rfl, rfl, rfl, rfl, rfl, rfl, rfl, rfl, rfl, trivial⟩ ⟨rfl, rfl, trivial⟩
      · intro D hid h0 hp hs rest hK
        obtain ⟨d6, d9, -⟩ : AllD D false [6, 9] := ideal_sub hs (by decide +kernel)
        simp only [d6, d9, h0, cond_true, cond_false]
        refine Run.go rfl ?_
        refine Run.le ?_ hK
        simp only [d6, d9, h0, Nat.reduceBEq, Bool.false_or, Bool.true_or, cond_true, cond_false]
        exact St.Le.mk' ⟨rfl, rfl, rfl, rfl, rfl, rfl, rfl, rfl, rfl, rfl, rfl, rfl, trivial⟩ ⟨rfl, rfl, trivial⟩
      · intro D hid h0 hp hs rest hK
        obtain ⟨d5, -⟩ : AllD D true [5] := ideal_sub hp (by decide +kernel)
        obtain ⟨d7, d9, -⟩ : AllD D false [7, 9] := ideal_sub hs (by decide +kernel)
        simp only [d5, d7, d9, h0, cond_true, cond_false]
        refine Run.go rfl ?_
        refine Run.le ?_ hK
        simp only [d5, d7, d9, h0, Nat.reduceBEq, Bool.false_or, Bool.true_or, cond_true, cond_false]
        exact St.Le.mk' ⟨rfl, rfl, rfl, rfl, rfl, rfl, rfl, rfl, rfl, rfl, rfl, rfl, trivial⟩ ⟨rfl, rfl, trivial⟩
      · intro D hid h0 hp hs rest hK
        obtain ⟨d4, d6, -⟩ : AllD D true [4, 6] := ideal_sub hp (by decide +kernel)
        obtain ⟨d9, -⟩ : AllD D false [9] := ideal_sub hs (by decide +kernel)
        simp only [d4, d6, d9, h0, cond_true, cond_false]
        refine Run.val rfl rfl rfl (ValOk.scut (s := IntKind.i64.wrap ((u.length : Int) + 1)) (h := ((u ++ 10 :: r').length : Int)) (u ++ 10 :: r') r' rfl rfl rfl rfl rfl rfl (by rw [hw1]; omega) (by rw [hw1, List.length_append, List.length_cons]; omega) (by omega) (by rw [hw1]; exact ht2)) rfl ?_
        refine Run.le ?_ hK
        simp only [d4, d6, d9, h0, Nat.reduceBEq, Bool.false_or, Bool.true_or, cond_true, cond_false]
        exact St.Le.mk' ⟨rfl, rfl, rfl, rfl, rfl, rfl, rfl, rfl, rfl, rfl, rfl, rfl, trivial⟩ ⟨rfl, rfl, trivial⟩
      · intro D hid h0 hp hs rest hK
        obtain ⟨d0, d1, d2, d3, -⟩ : AllD D true [0, 1, 2, 3] := ideal_sub hp (by decide +kernel)
        obtain ⟨d9, -⟩ : AllD D false [9] := ideal_sub hs (by decide +kernel)
        simp only [d0, d1, d2, d3, d9, h0, cond_true, cond_false]
        refine Run.go rfl ?_
        refine Run.le ?_ hK
        simp only [d0, d1, d2, d3, d9, h0, Nat.reduceBEq, Bool.false_or, Bool.true_or, cond_true, cond_false]
        exact St.Le.mk' ⟨rfl, rfl, rfl, rfl, rfl, rfl, rfl, rfl, rfl, rfl, rfl, rfl, trivial⟩ ⟨rfl, rfl, trivial⟩
      · intro D hid h0 hp hs rest hK
        obtain ⟨d0, d1, d2, d3, d4, d5, d6, d7, d8, -⟩ : AllD D true [0, 1, 2, 3, 4, 5, 6, 7, 8] := ideal_sub hp (by decide +kernel)
        simp only [d0, d1, d2, d3, d4, d5, d6, d7, d8, h0, cond_true, cond_false]
        refine Run.storeM (0, 0) rfl rfl rfl rfl rfl rfl rfl rfl rfl rfl rfl rfl ?_
        refine Run.le ?_ hK
        simp only [d0, d1, d2, d3, d4, d5, d6, d7, d8, h0, Nat.reduceBEq, Bool.false_or, Bool.true_or, cond_true, cond_false]
        exact St.Le.mk' ⟨rfl, rfl, rfl, rfl, rfl, rfl, rfl, rfl, rfl, rfl, rfl, rfl, trivial⟩ ⟨rfl, rfl, trivial⟩
      exact Run.of hN ⟨rfl, rfl, rfl, trivial⟩ ⟨rfl, rfl, trivial⟩
    · have h : ¬ 0 ≤ ix := by simpa using h
      obtain ⟨rfl, rfl, rfl⟩ : w = r ∧ r' = [] ∧ ix = -1 := hc.resolve_left fun ⟨u, _, _, h'⟩ => by omega
      repeat (refine Run.go rfl ?_)
      refine Run.val rfl rfl rfl (ValOk.loadM (0, 0) rfl rfl rfl rfl rfl) rfl ?_
      repeat (refine Run.go rfl ?_)
      refine Run.storeM (0, 0) rfl rfl rfl rfl rfl rfl rfl rfl rfl rfl rfl rfl ?_
      repeat (refine Run.go rfl ?_)
      exact Run.of hN ⟨rfl, rfl, rfl, trivial⟩ ⟨rfl, rfl, trivial⟩
    clear hc
    repeat (refine Run.go rfl ?_)
    refine Run.yield (0, 0) (0, 1) hx hall rfl rfl rfl rfl rfl rfl hxv rfl rfl rfl (by decide) hcov ⟨rfl, rfl⟩ rfl (fun ms' hc => ?_) (fun ms' hc => ?_)
    · repeat (refine Run.go rfl ?_)
      refine Run.cond rfl (fun h => by cases h) (fun h => ?_)
      repeat (refine Run.go rfl ?_)
      exact Run.of (IH (r', n + 1, ms') ⟨by simp only; omega, hd', by simp only; omega, hc⟩ hlt) ⟨rfl, rfl, trivial⟩ ⟨rfl, rfl, trivial⟩
    · repeat (refine Run.go rfl ?_)
      refine Run.cond rfl (fun h => ?_) (fun h => by cases h)
      exact Run.retI (0, 0) (0, 1) hp rfl hx rfl rfl rfl (.inr hc)
  · have hr0 : r = [] := by
      have h : decide ((0 : Int) < ((⟨r.toArray⟩ : ByteArray).size : Nat)) = false := h
      rw [bsz] at h
      cases r with
      | nil => rfl
      | cons b r => simp at h
    subst hr0
    have hne : n = ((lnE s).map fun l => Value.string ⟨l.toArray⟩).length := by
      rw [List.length_map]
      have : ((lnE s).drop n).length = 0 := by rw [hd]; rfl
      rw [List.length_drop] at this
      omega
    repeat (refine Run.go rfl ?_)
    exact Run.endI (0, 0) (0, 1) hp rfl hx rfl rfl rfl (.inl (hne ▸ hcov))
theorem HasSuffix_ct (s : List UInt8) (hlen : s.length ≤ 1048576) : Ct Tryz.prog 152 [str s, str [10]] (bo (decide (s.getLast? = some 10))) [] := by
  refine Ct.ofCalls (vs := [.string ⟨s.toArray⟩, .string ⟨([10] : List UInt8).toArray⟩]) Tryz.func152 (by kernel_rfl) (by kernel_rfl) fun w => ?_
  refine (Tryz.strings_HasSuffix ⟨s.toArray⟩ ⟨([10] : List UInt8).toArray⟩ w (by rw [bsz]; omega)).mono ?_
  rintro e w' ⟨rfl, rfl⟩
  refine ⟨_, rfl, Kp.refl _ _, fun L => ?_⟩
  have : Lib.hasSuffix s [10] = decide (s.getLast? = some 10) := by
    rw [← suff_last]
    refine Bool.eq_iff_iff.2 ?_
    rw [Lib.hasSuffix, List.isSuffixOf_iff_suffix, decide_eq_true_eq]
  rw [← this]
  exact .lit _ _
theorem TrimSuffix_ct (l t : List UInt8) (ht : t = l ++ [10]) (hlen : t.length ≤ 1048577) : Ct Tryz.prog 155 [str t, str [10]] (str l) [] := by
  refine Ct.ofCalls (vs := [.string ⟨t.toArray⟩, .string ⟨([10] : List UInt8).toArray⟩]) Tryz.func155 (by kernel_rfl) (by kernel_rfl) fun w => ?_
  refine (Tryz.strings_TrimSuffix ⟨t.toArray⟩ ⟨([10] : List UInt8).toArray⟩ w (by rw [bsz]; omega)).mono ?_
  rintro e w' ⟨rfl, rfl⟩
  refine ⟨_, rfl, Kp.refl _ _, fun L => ?_⟩
  have : Lib.trimSuffix t [10] = l := by
    have hs : Lib.hasSuffix (l ++ [10]) [10] = true := by rw [Lib.hasSuffix, List.isSuffixOf_iff_suffix]; exact ⟨l, rfl⟩
    rw [ht, Lib.trimSuffix, if_pos hs]
    simp
  show Rel _ _ _ (str l) (.string ⟨(Lib.trimSuffix t [10]).toArray⟩) _
  rw [this]
  exact .lit _ _
theorem Count_ct (s : List UInt8) : Ct Tryz.prog 153 [str s, str [10]] (i64 (s.count 10 : Int)) [] := by
  refine Ct.ofCalls (vs := [.string ⟨s.toArray⟩, .string ⟨([10] : List UInt8).toArray⟩]) Tryz.func153 (by kernel_rfl) (by kernel_rfl) fun w => ?_
  refine (Tryz.strings_Count_one ⟨s.toArray⟩ 10 w).mono ?_
  rintro e w' ⟨rfl, rfl⟩
  exact ⟨_, rfl, Kp.refl _ _, fun L => .lit _ _⟩
def lines (s : List UInt8) : List (List UInt8) := (spl 10 s).dropLast
def rdOk (s : List UInt8) (m : Nat) : Bool := ended s && decide (s.count 10 ≤ m)
theorem lines_facts (s : List UInt8) : ∃ w, spl 10 s = lines s ++ [w] ∧ decide (w = []) = ended s ∧ s.count 10 = (lines s).length := by
  have hc := count_spl s _ (Nat.le_refl _)
  cases he : ended s with
  | true =>
    obtain ⟨ls, h1, h2⟩ := spl_lnE _ s (Nat.le_refl _) he
    have hl : lines s = ls := by rw [lines, h1]; simp
    refine ⟨[], by rw [hl, h1], rfl, ?_⟩
    rw [h1, List.length_append, List.length_singleton] at hc
    rw [hl]; omega
  | false =>
    obtain ⟨ls, w, h1, h2⟩ := spl_last _ s (Nat.le_refl _) he
    have hl : lines s = ls := by rw [lines, h1]; simp
    refine ⟨w, by rw [hl, h1], decide_eq_false h2, ?_⟩
    rw [h1, List.length_append, List.length_singleton] at hc
    rw [hl]; omega
end Go.Proofs.YtbkelajnngdimaaGreatDoor

/- Contracts of the program's functions, and what follows from them. -/
set_option maxRecDepth 100000
namespace Go.Proofs.YtbkelajnngdimaaGreatDoor
open Go Go.Av
theorem cut_hit {c : UInt8} {u r : List UInt8} (h : c ∉ u) : Lib.cut (u ++ c :: r) [c] = (u, r, true) := by
  rw [Lib.cut, Lib.index_one, ix_hit h, if_pos (by omega)]
  simp only [Int.toNat_natCast, List.length_singleton, Prod.mk.injEq, and_true]
  refine ⟨List.take_left' rfl, ?_⟩
  rw [show u ++ c :: r = (u ++ [c]) ++ r by simp, List.drop_left' (by simp)]
theorem cut_miss {c : UInt8} {s : List UInt8} (h : c ∉ s) : Lib.cut s [c] = (s, [], false) := by
  rw [Lib.cut, Lib.index_one, ix_miss h, if_neg (by omega)]
theorem cut_len {c : UInt8} (s : List UInt8) : (Lib.cut s [c]).1.length ≤ s.length ∧ (Lib.cut s [c]).2.1.length ≤ s.length := by
  by_cases h : c ∈ s
  · obtain ⟨u, r, rfl, hu⟩ := first_at h
    rw [cut_hit hu]
    simp only [List.length_append, List.length_cons]
    omega
  · rw [cut_miss h]; simp
theorem dd_no {n : Nat} {c : UInt8} (h : c.toNat < 48 ∨ 57 < c.toNat) : c ∉ Lib.decDigits n := fun hm => by
  have := dd_dig n c hm
  omega
theorem dd_len4 {n : Nat} (h : n ≤ 99999) : (Lib.decDigits n).length ≤ 9 := by
  rw [Lib.decDigits]
  split
  · simp
  · have h2 : n / 10 < 10000 := by omega
    rw [List.length_append, Lib.decDigits]
    split
    · simp
    · have := dd_len3 (n := n / 10 / 10) (by omega)
      rw [List.length_append]
      simp only [List.length_singleton]
      omega
theorem l1n_can {s : List UInt8} (h : (l1n s).2 = true) : ∃ n : Nat, s = Lib.decDigits n ∧ (l1n s).1 = n := by
  unfold l1n at h ⊢
  cases hc : cn s with
  | none => rw [hc] at h; simp at h
  | some n =>
    rw [hc] at h
    simp only at h ⊢
    split at h
    · rename_i hl
      exact ⟨n, cn_some hc, by rw [if_pos hl]⟩
    · simp at h
theorem l1n_small {n : Nat} (h : n ≤ 99999) : l1n (Lib.decDigits n) = ((n : Int), true) := by
  unfold l1n
  rw [cn_dd]
  simp only
  rw [if_pos (dd_len4 h)]
theorem shV_small {n : Nat} (h : n ≤ 32767) : shV (Lib.decDigits n) = n := by
  unfold shV
  rw [cn_dd]
  simp only
  rw [if_pos h]
def mkB3 (f : List UInt8 → Int) (w0 w1 w2 z0 z1 w4 : List UInt8) : Bk := ⟨f w0, ((w1.getD 0 0).toNat : Int), ((w1.getD 1 0).toNat : Int), ((w1.getD 2 0).toNat : Int), f w2, f z0, f z1, f w4⟩
def rbP (s : List UInt8) : Bk × Bool :=
  let W := spl 32 s
  if W.length = 5 ∧ (W.getD 1 []).length = 3 then
    let b := mkB3 shV (W.getD 0 []) (W.getD 1 []) (W.getD 2 []) (Lib.cut (W.getD 3 []) [120]).1 (Lib.cut (W.getD 3 []) [120]).2.1 (W.getD 4 [])
    (b, vB b && decide (bookT b = s))
  else (bk0, false)
def okN (w : List UInt8) : Bool := (l1n w).2 && decide ((l1n w).1 ≤ 9999)
def rbS (s : List UInt8) : Bk × Bool :=
  let W := spl 32 s
  if W.length = 5 ∧ (W.getD 1 []).length = 3 then
    let Z := spl 120 (W.getD 3 [])
    if Z.length = 2 then
      if ([W.getD 0 [], W.getD 2 [], Z.getD 0 [], Z.getD 1 [], W.getD 4 []].all okN) = true then
        let b := mkB3 (fun w => (l1n w).1) (W.getD 0 []) (W.getD 1 []) (W.getD 2 []) (Z.getD 0 []) (Z.getD 1 []) (W.getD 4 [])
        if vB b = true then (b, true) else (bk0, false)
      else (bk0, false)
    else (bk0, false)
  else (bk0, false)
theorem okN_can {w : List UInt8} (h : okN w = true) : ∃ n : Nat, n ≤ 9999 ∧ w = Lib.decDigits n ∧ (l1n w).1 = n ∧ shV w = n := by
  rw [okN, Bool.and_eq_true, decide_eq_true_eq] at h
  obtain ⟨n, h1, h2⟩ := l1n_can h.1
  have hn : n ≤ 9999 := by have := h.2; omega
  exact ⟨n, hn, h1, h2, by rw [h1]; exact shV_small (by omega)⟩
theorem okN_dd {n : Nat} (h : n ≤ 9999) : okN (Lib.decDigits n) = true := by
  rw [okN, l1n_small (by omega)]
  simp; omega
theorem bookT_eq (x : Bk) : bookT x = dcN x.cl ++ 32 :: (bys [x.a, x.b, x.c] ++ 32 :: (dcN x.vol ++ 32 :: ((dcN x.wd ++ 120 :: dcN x.hi) ++ 32 :: dcN x.wt))) := by simp [bookT]
theorem vB_parts {x : Bk} (h : vB x = true) : (0 ≤ x.cl ∧ x.cl ≤ 999) ∧ (sm x.a = true ∧ sm x.b = true ∧ sm x.c = true) ∧ (1 ≤ x.vol ∧ x.vol ≤ 99) ∧ (1 ≤ x.wd ∧ x.wd ≤ 100) ∧ (50 ≤ x.hi ∧ x.hi ≤ 400) ∧ (1 ≤ x.wt ∧ x.wt ≤ 9999) := by
  simp only [vB, Bool.and_eq_true, inr, decide_eq_true_eq] at h
  obtain ⟨⟨⟨⟨⟨h1, h2, h3, h4⟩, h5⟩, h6⟩, h7⟩, h8⟩ := h
  exact ⟨h1, ⟨h2, h3, h4⟩, h5, h6, h7, h8⟩
theorem bys_no {a b c : Int} {d : UInt8} (ha : sm a = true) (hb : sm b = true) (hc : sm c = true) (hd : d.toNat < 97) : d ∉ bys [a, b, c] := by
  have key : ∀ n : Int, sm n = true → d ≠ UInt8.ofNat n.toNat := fun n hn e => by
    obtain ⟨e1, h1, _⟩ := sm_toNat hn
    rw [← e] at e1
    omega
  simp only [bys, List.map_cons, List.map_nil, List.mem_cons, List.not_mem_nil, or_false, not_or]
  exact ⟨key a ha, key b hb, key c hc⟩
theorem spl_bookT {x : Bk} (h : vB x = true) : spl 32 (bookT x) = [dcN x.cl, bys [x.a, x.b, x.c], dcN x.vol, dcN x.wd ++ 120 :: dcN x.hi, dcN x.wt] := by
  obtain ⟨_, ⟨ha, hb, hc⟩, _⟩ := vB_parts h
  have hn : ∀ n : Int, (32 : UInt8) ∉ dcN n := fun n => dd_no (.inl (by decide))
  rw [bookT_eq, spl_hit (hn _), spl_hit (bys_no ha hb hc (by decide)), spl_hit (hn _), spl_hit (u := dcN x.wd ++ 120 :: dcN x.hi), spl_miss (hn _)]
  simp only [List.mem_append, List.mem_cons, not_or]
  exact ⟨hn _, by decide, hn _⟩
theorem mark_back {x : Bk} (ha : sm x.a = true) (hb : sm x.b = true) (hc : sm x.c = true) :
    (((bys [x.a, x.b, x.c]).getD 0 0).toNat : Int) = x.a ∧ (((bys [x.a, x.b, x.c]).getD 1 0).toNat : Int) = x.b ∧ (((bys [x.a, x.b, x.c]).getD 2 0).toNat : Int) = x.c :=
  ⟨(sm_toNat ha).1, (sm_toNat hb).1, (sm_toNat hc).1⟩
theorem rbS_bookT {x : Bk} (h : vB x = true) : rbS (bookT x) = (x, true) := by
  obtain ⟨h1, ⟨ha, hb, hc⟩, h2, h3, h4, h5⟩ := vB_parts h
  obtain ⟨m1, m2, m3⟩ := mark_back ha hb hc
  have hz : spl 120 (dcN x.wd ++ 120 :: dcN x.hi) = [dcN x.wd, dcN x.hi] := by
    have hn : ∀ n : Int, (120 : UInt8) ∉ dcN n := fun n => dd_no (.inr (by decide))
    rw [spl_hit (hn _), spl_miss (hn _)]
  have hv : ∀ n : Int, 0 ≤ n → n ≤ 9999 → okN (dcN n) = true ∧ (l1n (dcN n)).1 = n := fun n a b => by
    refine ⟨okN_dd (by omega), ?_⟩
    rw [dcN, l1n_small (by omega)]
    simp only
    omega
  have v1 := hv x.cl (by omega) (by omega)
  have v2 := hv x.vol (by omega) (by omega)
  have v3 := hv x.wd (by omega) (by omega)
  have v4 := hv x.hi (by omega) (by omega)
  have v5 := hv x.wt (by omega) (by omega)
  unfold rbS
  rw [spl_bookT h]
  simp only [List.getD_cons_succ, List.getD_cons_zero, hz]
  have hb3 : mkB3 (fun w => (l1n w).1) (dcN x.cl) (bys [x.a, x.b, x.c]) (dcN x.vol) (dcN x.wd) (dcN x.hi) (dcN x.wt) = x := by
    rw [mkB3, v1.2, v2.2, v3.2, v4.2, v5.2, m1, m2, m3]
  rw [if_pos ⟨rfl, rfl⟩, if_pos (show [dcN x.wd, dcN x.hi].length = 2 from rfl), if_pos (by simp only [List.all_cons, List.all_nil, v1.1, v2.1, v3.1, v4.1, v5.1, Bool.and_self]), hb3, if_pos h]
theorem list5 {l : List (List UInt8)} (h : l.length = 5) : l = [l.getD 0 [], l.getD 1 [], l.getD 2 [], l.getD 3 [], l.getD 4 []] := by
  match l, h with
  | [a, b, c, d, e], _ => rfl
theorem list2 {l : List (List UInt8)} (h : l.length = 2) : l = [l.getD 0 [], l.getD 1 []] := by
  match l, h with
  | [a, b], _ => rfl
theorem list3 {l : List UInt8} (h : l.length = 3) : bys [((l.getD 0 0).toNat : Int), ((l.getD 1 0).toNat : Int), ((l.getD 2 0).toNat : Int)] = l := by
  match l, h with
  | [a, b, c], _ => simp [bys]
theorem rbS_ok {s : List UInt8} (h : (rbS s).2 = true) : vB (rbS s).1 = true ∧ bookT (rbS s).1 = s ∧ rbP s = ((rbS s).1, true) := by
  have hs := jn_spl 32 s
  unfold rbS at h ⊢
  unfold rbP
  generalize spl 32 s = W at h hs ⊢
  simp only at h ⊢
  by_cases hW : W.length = 5 ∧ (W.getD 1 []).length = 3
  · rw [if_pos hW] at h ⊢
    rw [if_pos hW]
    have hz := jn_spl 120 (W.getD 3 [])
    generalize spl 120 (W.getD 3 []) = Z at h hz ⊢
    by_cases hZ : Z.length = 2
    · rw [if_pos hZ] at h ⊢
      have e5 := list5 hW.1
      have e2 := list2 hZ
      generalize W.getD 0 [] = w0 at e5 h ⊢
      generalize hw1 : W.getD 1 [] = w1 at e5 h hW ⊢
      generalize W.getD 2 [] = w2 at e5 h ⊢
      generalize W.getD 3 [] = w3 at e5 h hz ⊢
      generalize W.getD 4 [] = w4 at e5 h ⊢
      generalize Z.getD 0 [] = z0 at e2 h ⊢
      generalize Z.getD 1 [] = z1 at e2 h ⊢
      by_cases hall : ([w0, w2, z0, z1, w4].all okN) = true
      · rw [if_pos hall] at h ⊢
        simp only [List.all_cons, List.all_nil, Bool.and_true, Bool.and_eq_true] at hall
        obtain ⟨o0, o2, oz0, oz1, o4⟩ := hall
        obtain ⟨n0, b0, c0, l0, s0⟩ := okN_can o0
        obtain ⟨n2, b2, c2, l2, s2⟩ := okN_can o2
        obtain ⟨m0, bz0, cz0, lz0, sz0⟩ := okN_can oz0
        obtain ⟨m1, bz1, cz1, lz1, sz1⟩ := okN_can oz1
        obtain ⟨n4, b4, c4, l4, s4⟩ := okN_can o4
        rw [e2] at hz
        have hz : z0 ++ 120 :: z1 = w3 := hz
        rw [e5] at hs
        have hs : w0 ++ 32 :: (w1 ++ 32 :: (w2 ++ 32 :: (w3 ++ 32 :: w4))) = s := hs
        have hcut : Lib.cut w3 [120] = (z0, z1, true) := by
          rw [← hz]
          exact cut_hit (by rw [cz0]; exact dd_no (.inr (by decide)))
        have hbk : mkB3 shV w0 w1 w2 (Lib.cut w3 [120]).1 (Lib.cut w3 [120]).2.1 w4 = mkB3 (fun w => (l1n w).1) w0 w1 w2 z0 z1 w4 := by
          rw [hcut]
          simp only [mkB3, l0, l2, lz0, lz1, l4, s0, s2, sz0, sz1, s4]
        rw [hbk]
        have hT : bookT (mkB3 (fun w => (l1n w).1) w0 w1 w2 z0 z1 w4) = s := by
          rw [bookT_eq]
          simp only [mkB3, l0, l2, lz0, lz1, l4, list3 hW.2, dcN, Int.toNat_natCast]
          rw [← c0, ← c2, ← cz0, ← cz1, ← c4, hz, hs]
        generalize mkB3 (fun w => (l1n w).1) w0 w1 w2 z0 z1 w4 = b at h hT ⊢
        by_cases hv : vB b = true
        · rw [if_pos hv]
          exact ⟨hv, hT, by rw [hv, decide_eq_true hT]; rfl⟩
        · rw [if_neg hv] at h
          cases h
      · rw [if_neg hall] at h; cases h
    · rw [if_neg hZ] at h; cases h
  · rw [if_neg hW] at h; cases h
theorem rbP_rng (s : List UInt8) : bkRng (rbP s).1 := by
  have hu : ∀ b : UInt8, (0 : Int) ≤ (b.toNat : Int) ∧ (b.toNat : Int) ≤ 255 := fun b => by have := b.toNat_lt; omega
  have hs : ∀ w, i16r (shV w) := fun w => by have := shV_ge w; simp only [i16r]; omega
  unfold rbP
  simp only
  split
  · exact ⟨hs _, hu _, hu _, hu _, hs _, hs _, hs _, hs _⟩
  · simp only [bkRng, i16r, u8r, bk0]; omega
end Go.Proofs.YtbkelajnngdimaaGreatDoor

/- Contracts of the program's functions, and what follows from them. -/
set_option maxRecDepth 100000
namespace Go.Proofs.YtbkelajnngdimaaGreatDoor
open Go Go.Av
def rpP (s : List UInt8) : Pl × Bool := (⟨shV (Lib.cut s [32]).1, (rbP (Lib.cut s [32]).2.1).1⟩, (rbP (Lib.cut s [32]).2.1).2)
def rdLP (s : List UInt8) : List Pl × Bool := if (rdOk s 60 && (lines s).all fun l => (rpP l).2) = true then ((lines s).map fun l => (rpP l).1, true) else ([], false)
def rkC (s : List UInt8) : Rk := ⟨shV (Lib.cut s [10]).1, (rdLP (Lib.cut s [10]).2.1).1⟩
def rkP (s : List UInt8) : Rk × Int := if ((Lib.cut s [10]).2.2 && (rdLP (Lib.cut s [10]).2.1).2 && vR (rkC s) && decide (rkT (rkC s) = s)) = true then (rkC s, 0) else (rk0, 5)
def fw (s : List UInt8) : List UInt8 := s.takeWhile fun b => decide (b ≠ 32)
def lnS (n : Int) (s : List UInt8) : Bool := (l1n (fw s)).2 && decide ((l1n (fw s)).1 < n) && decide ((fw s).length ≠ s.length) && (rbS (s.drop ((fw s).length + 1))).2
def lnV (s : List UInt8) : Pl := ⟨(l1n (fw s)).1, (rbS (s.drop ((fw s).length + 1))).1⟩
def rkS (s : List UInt8) : Rk × Int := match lines s with
  | [] => (rk0, 5)
  | w :: ls => if (ended s && (l1n w).2 && inr (l1n w).1 1 60 && ls.all (lnS (l1n w).1)) = true then (if vR ⟨(l1n w).1, ls.map lnV⟩ = true then (⟨(l1n w).1, ls.map lnV⟩, 0) else (rk0, 5)) else (rk0, 5)
theorem fw_hit {u r : List UInt8} (h : (32 : UInt8) ∉ u) : fw (u ++ 32 :: r) = u := by
  induction u with
  | nil => simp [fw]
  | cons b u ih =>
    have hb : b ≠ 32 := fun e => h (by simp [e])
    have := ih (fun h' => h (List.mem_cons_of_mem _ h'))
    rw [fw] at this ⊢
    rw [List.cons_append, List.takeWhile_cons, decide_eq_true hb, this]
    rfl
theorem fw_split {s : List UInt8} (h : (fw s).length ≠ s.length) : s = fw s ++ 32 :: s.drop ((fw s).length + 1) ∧ (32 : UInt8) ∉ fw s := by
  by_cases hm : (32 : UInt8) ∈ s
  · obtain ⟨u, r, e, hu⟩ := first_at hm
    have : fw s = u := by rw [e, fw_hit hu]
    rw [this]
    refine ⟨?_, hu⟩
    rw [e, show u ++ 32 :: r = (u ++ [32]) ++ r by simp, List.drop_left' (by simp)]
    simp
  · exfalso
    apply h
    have : fw s = s := by
      rw [fw]
      have : ∀ l : List UInt8, (32 : UInt8) ∉ l → l.takeWhile (fun b => decide (b ≠ 32)) = l := by
        intro l
        induction l with
        | nil => intro _; rfl
        | cons b l ih =>
          intro h
          have hb : b ≠ 32 := fun e => h (by simp [e])
          rw [List.takeWhile_cons, decide_eq_true hb, ih (fun h' => h (List.mem_cons_of_mem _ h'))]
          rfl
      exact this s hm
    rw [this]
theorem jn_end (c : UInt8) : ∀ ls : List (List UInt8), jn c (ls ++ [[]]) = ls.flatMap fun l => l ++ [c]
  | [] => rfl
  | [w] => by simp [jn]
  | w :: v :: ls => by
    have := jn_end c (v :: ls)
    rw [List.cons_append, List.cons_append, jn, ← List.cons_append, this]
    simp
theorem ended_eq {s : List UInt8} (h : ended s = true) : s = (lines s).flatMap fun l => l ++ [10] := by
  obtain ⟨w, h1, h2, _⟩ := lines_facts s
  rw [h, decide_eq_true_eq] at h2
  have := jn_spl 10 s
  rw [h1, h2, jn_end] at this
  exact this.symm
theorem lines_of {s : List UInt8} {ls : List (List UInt8)} (h : spl 10 s = ls ++ [[]]) : lines s = ls ∧ ended s = true := by
  obtain ⟨w, h1, h2, _⟩ := lines_facts s
  have hl : lines s = ls := by rw [lines, h]; simp
  refine ⟨hl, ?_⟩
  rw [h, hl] at h1
  have := List.append_cancel_left h1
  rw [← h2]
  simp at this
  simp [this]
theorem vB_rng {x : Bk} (h : vB x = true) : bkRng x := by
  obtain ⟨h1, ⟨ha, hb, hc⟩, h2, h3, h4, h5⟩ := vB_parts h
  have sr : ∀ n, sm n = true → u8r n := fun n hn => by
    obtain ⟨_, a, b⟩ := sm_toNat hn
    simp only [u8r]; omega
  refine ⟨?_, sr _ ha, sr _ hb, sr _ hc, ?_, ?_, ?_, ?_⟩ <;> simp only [i16r] <;> omega
theorem bookT_no {x : Bk} (h : vB x = true) : (10 : UInt8) ∉ bookT x := by
  obtain ⟨_, ⟨ha, hb, hc⟩, _⟩ := vB_parts h
  have hn : ∀ n : Int, (10 : UInt8) ∉ dcN n := fun n => dd_no (.inl (by decide))
  rw [bookT_eq]
  simp only [List.mem_append, List.mem_cons, not_or]
  exact ⟨hn _, by decide, bys_no ha hb hc (by decide), by decide, hn _, by decide, ⟨hn _, by decide, hn _⟩, by decide, hn _⟩
theorem plT_no {y : Pl} (h : vB y.b = true) : (10 : UInt8) ∉ plT y := by
  rw [plT]
  simp only [List.mem_append, List.mem_singleton, not_or]
  exact ⟨⟨dd_no (.inl (by decide)), by decide⟩, bookT_no h⟩
theorem spl_lnT : ∀ {l : List Pl}, (∀ y ∈ l, vB y.b = true) → spl 10 (lns plT l) = l.map plT ++ [[]]
  | [], _ => rfl
  | y :: l, h => by
    have e : lns plT (y :: l) = plT y ++ 10 :: lns plT l := by simp [lns]
    rw [e, spl_hit (plT_no (h y (by simp))), spl_lnT (fun z hz => h z (by simp [hz]))]
    rfl
theorem plT_line {y : Pl} {n : Int} (hb : vB y.b = true) (h0 : 0 ≤ y.p) (h1 : y.p < n) (hn : n ≤ 60) : lnS n (plT y) = true ∧ lnV (plT y) = y := by
  have e : plT y = dcN y.p ++ 32 :: bookT y.b := by simp [plT]
  have h32 : (32 : UInt8) ∉ dcN y.p := dd_no (.inl (by decide))
  have hf : fw (plT y) = dcN y.p := by rw [e, fw_hit h32]
  have hd : (plT y).drop ((dcN y.p).length + 1) = bookT y.b := by
    rw [e, show dcN y.p ++ 32 :: bookT y.b = (dcN y.p ++ [32]) ++ bookT y.b by simp, List.drop_left' (by simp)]
  have hl : l1n (dcN y.p) = (y.p, true) := by
    rw [dcN, l1n_small (by omega)]
    simp only [Prod.mk.injEq, and_true]
    omega
  refine ⟨?_, ?_⟩
  · rw [lnS, hf, hl, hd, rbS_bookT hb]
    have : (dcN y.p).length ≠ (plT y).length := by rw [e, List.length_append, List.length_cons]; omega
    simp [h1, this]
  · rw [lnV, hf, hl, hd, rbS_bookT hb]
theorem rkS_rkT {r : Rk} (h : vR r = true) : rkS (rkT r) = (r, 0) := by
  obtain ⟨hp, hx⟩ := vR_pl h
  have hvb : ∀ y ∈ r.bs, vB y.b = true := fun y hy => (hx y hy).2
  have e : rkT r = dcN r.pl ++ 10 :: lns plT r.bs := by simp [rkT]
  have hspl : spl 10 (rkT r) = (dcN r.pl :: r.bs.map plT) ++ [[]] := by
    have h10 : (10 : UInt8) ∉ dcN r.pl := dd_no (.inl (by decide))
    rw [e, spl_hit h10, spl_lnT hvb]; rfl
  obtain ⟨hl, he⟩ := lines_of hspl
  have hn : l1n (dcN r.pl) = (r.pl, true) := by
    rw [dcN, l1n_small (by omega)]
    simp only [Prod.mk.injEq, and_true]
    omega
  have hline := fun y (hy : y ∈ r.bs) => plT_line (n := r.pl) (hvb y hy) (hx y hy).1.1 (hx y hy).1.2 hp.2
  have hall : ((r.bs.map plT).all (lnS r.pl)) = true := by
    rw [List.all_eq_true]
    intro l hl
    obtain ⟨y, hy, rfl⟩ := List.mem_map.1 hl
    exact (hline y hy).1
  have hmap : (r.bs.map plT).map lnV = r.bs := by
    rw [List.map_map]
    conv => rhs; rw [← List.map_id r.bs]
    exact List.map_congr_left fun y hy => (hline y hy).2
  have hin : inr r.pl 1 60 = true := by simp only [inr, Bool.and_eq_true, decide_eq_true_eq]; exact hp
  rw [rkS, hl]
  simp only [hn, hall, hmap, he, hin, Bool.and_self, if_true, h]
theorem rkS_bad {s : List UInt8} (h : (rkS s).2 ≠ 0) : rkS s = (rk0, 5) := by
  unfold rkS at h ⊢
  split
  · rfl
  · rename_i w ls hl
    rw [hl] at h
    simp only at h
    split
    · rename_i h1
      rw [if_pos h1] at h
      split
      · rename_i h2
        rw [if_pos h2] at h
        exact absurd rfl h
      · rfl
    · rfl
theorem rkS_ok {s : List UInt8} (h : (rkS s).2 = 0) : rkP s = rkS s := by
  have hf := lines_facts s
  have hR : rkS s = rkS s := rfl
  conv at hR => rhs; unfold rkS
  have hen := ended_eq (s := s)
  obtain ⟨w0, hspl, hw0, _⟩ := hf
  generalize lines s = W at hR hen hspl
  cases W with
  | nil => rw [hR] at h; cases h
  | cons w ls =>
    simp only at hR
    by_cases hc : (ended s && (l1n w).2 && inr (l1n w).1 1 60 && ls.all (lnS (l1n w).1)) = true
    · rw [if_pos hc] at hR
      by_cases hv : vR ⟨(l1n w).1, ls.map lnV⟩ = true
      · rw [if_pos hv] at hR
        rw [Bool.and_eq_true, Bool.and_eq_true, Bool.and_eq_true] at hc
        obtain ⟨⟨⟨he, hn⟩, hin⟩, hall⟩ := hc
        have hse := hen he
        rw [he, decide_eq_true_eq] at hw0
        rw [hw0] at hspl
        obtain ⟨n, hwn, hn1⟩ := l1n_can hn
        rw [List.all_eq_true] at hall
        have hpos : 1 ≤ (n : Int) ∧ (n : Int) ≤ 60 := by
          rw [hn1] at hin
          simpa only [inr, Bool.and_eq_true, decide_eq_true_eq] using hin
        have hline : ∀ l ∈ ls, plT (lnV l) = l ∧ rpP l = (lnV l, true) := by
          intro l hl
          have := hall l hl
          rw [lnS, Bool.and_eq_true, Bool.and_eq_true, Bool.and_eq_true, decide_eq_true_eq, decide_eq_true_eq] at this
          obtain ⟨⟨⟨h1, h2⟩, h3⟩, h4⟩ := this
          obtain ⟨e, h32⟩ := fw_split h3
          obtain ⟨m, hm1, hm2⟩ := l1n_can h1
          obtain ⟨b1, b2, b3⟩ := rbS_ok h4
          have hm : m ≤ 60 := by rw [hn1] at h2; omega
          constructor
          · rw [plT, lnV, b2, hm2, dcN, Int.toNat_natCast, ← hm1]
            rw [List.append_assoc]
            exact e.symm
          · have hcut : Lib.cut l [32] = (fw l, l.drop ((fw l).length + 1), true) := by
              conv => lhs; rw [e]
              exact cut_hit h32
            have hsv : shV (fw l) = m := by rw [hm1]; exact shV_small (by omega)
            rw [rpP, hcut]
            simp only
            rw [b3, lnV, hm2, hsv]
        have hrest : s = w ++ 10 :: ls.flatMap fun l => l ++ [10] := by
          rw [hse]; simp
        have h10 : (10 : UInt8) ∉ w := by rw [hwn]; exact dd_no (.inl (by decide))
        have hcut : Lib.cut s [10] = (w, ls.flatMap (fun l => l ++ [10]), true) := by
          conv => lhs; rw [hrest]
          exact cut_hit h10
        have hsplr : spl 10 (ls.flatMap fun l => l ++ [10]) = ls ++ [[]] := by
          have := hspl
          rw [hrest, spl_hit h10, List.cons_append] at this
          exact (List.cons.inj this).2
        obtain ⟨hl2, he2⟩ := lines_of hsplr
        have hrng : ∀ x ∈ (⟨(l1n w).1, ls.map lnV⟩ : Rk).bs, plRng x := by
          intro x hx
          obtain ⟨hpl, hxx⟩ := vR_pl hv
          obtain ⟨⟨a1, a2⟩, a3⟩ := hxx x hx
          refine ⟨?_, vB_rng a3⟩
          simp only [i16r]
          have := hpl.2
          omega
        have hlen : ls.length ≤ 60 := by
          have : (((ls.map lnV).length : Nat) : Int) ≤ (l1n w).1 := VR.len ((vR_VR hrng).1 hv)
          rw [hn1, List.length_map] at this
          omega
        obtain ⟨_, hspl3, _, hcount⟩ := lines_facts (ls.flatMap fun l => l ++ [10])
        rw [hl2] at hcount
        have hL : rdLP (ls.flatMap fun l => l ++ [10]) = (ls.map lnV, true) := by
          have h1 : rdOk (ls.flatMap fun l => l ++ [10]) 60 = true := by
            rw [rdOk, he2, hcount]; simp [hlen]
          have h2 : (ls.all fun l => (rpP l).2) = true := by
            rw [List.all_eq_true]
            intro l hl
            rw [(hline l hl).2]
          rw [rdLP, hl2, h1, h2]
          simp only [Bool.and_self, if_true, Prod.mk.injEq, and_true]
          exact List.map_congr_left fun l hl => by rw [(hline l hl).2]
        have hr : rkC s = ⟨(l1n w).1, ls.map lnV⟩ := by
          rw [rkC, hcut]
          simp only
          rw [hL, hn1, hwn, shV_small (by omega)]
        have hT : rkT (rkC s) = s := by
          rw [hr, rkT, hn1]
          simp only
          rw [dcN, Int.toNat_natCast, ← hwn]
          conv => rhs; rw [hrest]
          rw [List.append_assoc]
          have : lns plT (ls.map lnV) = ls.flatMap fun l => l ++ [10] := by
            rw [lns, List.flatMap_map]
            rw [List.flatMap_def, List.flatMap_def]
            congr 1
            exact List.map_congr_left fun l hl => by rw [(hline l hl).1]
          rw [this]
          rfl
        rw [hR, rkP, hT, hr, hcut]
        simp only
        rw [hL, hv]
        simp
      · rw [if_neg hv] at hR; rw [hR] at h; cases h
    · rw [if_neg hc] at hR; rw [hR] at h; cases h
theorem rk_eq (s : List UInt8) : rkP s = rkS s := by
  by_cases h : (rkS s).2 = 0
  · exact rkS_ok h
  · rw [rkS_bad h]
    unfold rkP
    split
    · rename_i hc
      rw [Bool.and_eq_true, Bool.and_eq_true, decide_eq_true_eq] at hc
      have := rkS_rkT hc.1.2
      rw [hc.2] at this
      rw [this] at h
      exact absurd rfl h
    · rfl
end Go.Proofs.YtbkelajnngdimaaGreatDoor
