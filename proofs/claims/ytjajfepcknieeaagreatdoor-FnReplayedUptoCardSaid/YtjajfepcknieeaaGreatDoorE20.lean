/- Contracts of the program's functions, and what follows from them. -/
import Derived.Test.YtjajfepcknieeaaGreatDoorE19
import Derived.Test.YtjajfepcknieeaaGreatDoorE5
set_option linter.unusedVariables false
set_option maxRecDepth 100000
set_option linter.unusedSimpArgs false
namespace Go.Proofs.YtjajfepcknieeaaGreatDoor
open Go Go.Av

/-! Acts out of a text: the program, and the law. -/

/-- The act that the program reads. -/
def raA (s : List UInt8) : Ac :=
  let W := spl 32 s
  if W.length = 3 then ⟨lastW (W.getD 0 []) 6, min (shV (W.getD 1 [])) 50, min (shV (W.getD 2 [])) 60⟩ else ⟨lastW (W.getD 0 []) 6, 0, 0⟩

theorem raA_rng (s : List UInt8) : (-1 ≤ (raA s).what ∧ (raA s).what ≤ 5) ∧ (-1 ≤ (raA s).who ∧ (raA s).who ≤ 50) ∧ (-1 ≤ (raA s).book ∧ (raA s).book ≤ 60) := by
  have h1 := lastW_rng ((spl 32 s).getD 0 []) 6
  have h2 := shV_ge ((spl 32 s).getD 1 [])
  have h3 := shV_ge ((spl 32 s).getD 2 [])
  unfold raA
  simp only
  split
  · exact ⟨by simp only; omega, by simp only; omega, by simp only; omega⟩
  · exact ⟨by simp only; omega, by simp only; omega, by simp only; omega⟩
theorem raA_rg (s : List UInt8) : acRng (raA s) := by
  have := raA_rng s
  simp only [acRng, i8r]
  omega

noncomputable def X39 : Fx := ⟨Tryz.prog, tys, 39, Tryz.f39, [0]⟩
theorem X39_ok : X39.Ok := ⟨Tryz.func39, tys_ok⟩
theorem readAct_ct (s : List UInt8) (hlen : s.length ≤ 1048576) : CtA ambA Tryz.prog 39 [str s] (.tup [acA (raA s), bo (aOk (raA s) && decide (aText (raA s) = s))]) [] := by
  have hsplit := Split_ct s 32 hlen
  have hwl := fun w (h : w ∈ spl 32 s) => spl_wlen h
  have hpos := spl_pos 32 s
  have hWlen := spl_len 32 s
  have hrg := raA_rg s
  have hra : raA s = raA s := rfl
  conv at hra => rhs; unfold raA
  simp only at hra
  generalize spl 32 s = W at hra hsplit hwl hpos hWlen
  have hw0 : (W.map str)[0]? = some (str (W.getD 0 [])) := by
    cases W with
    | nil => simp at hpos
    | cons w ws => rfl
  have hidx := indexS_ct wordsL true (W.getD 0 []) (by decide)
  rw [fi_last] at hidx
  have hk := lastW_rng (W.getD 0 []) 6
  generalize lastW (W.getD 0 []) 6 = k at hra hidx hk
  have c1 : IntKind.i8.wrap k = k := wrap_i8 (by omega) (by omega)
  generalize hA0 : raA s = A at hra hrg
  refine CtA.intro ambA X39 X39_ok rfl (by kernel_rfl) rfl rfl fun g hA hg => ?_
  repeat (refine Run.go rfl ?_)
  refine Run.callpA rfl rfl rfl rfl rfl rfl rfl rfl rfl (hsplit.at hA) (by decide) (by decide) ?_
  repeat (refine Run.go rfl ?_)
  refine Run.drawI (fun D => ⟨[(0, str s), (2, .bp (2, 0) 0), (4, .ro 1 true (W.map str)), (8, bif D 0 then .own 1 true (wordsL.map str) else .top), (9, bif D 1 then .ro 1 true (W.map str) else .top), (10, bif D 2 then .rp (str (W.getD 0 [])).cells 0 else .top), (11, bif D 3 then str (W.getD 0 []) else .top), (12, bif D 4 then i64 k else .top), (13, bif D 5 then i8 k else .top), (14, bif D 6 then acA ⟨k, 0, 0⟩ else .top), (5, bif D 7 then .bp (5, 0) 0 else .top)], [((2, 0), .box (acA ac0).cells), ((5, 0), (bif D 8 then .box (acA ⟨k, 0, 0⟩).cells else (bif D 7 then .box (acA ac0).cells else .gone)))]⟩) (by decide +kernel) (by decide +kernel) ?_ ?_ fun k' => ⟨?_, ?_, ?_, ?_, ?_, ?_, ?_, ?_, ?_, trivial⟩
  · exact St.Le.mk' ⟨rfl, rfl, rfl, rfl, rfl, rfl, rfl, rfl, rfl, rfl, rfl, trivial⟩ ⟨rfl, rfl, trivial⟩
  rotate_left
  · intro D hid h0 hp hs rest hK
    obtain ⟨d4, d8, -⟩ : AllD D false [4, 8] := ideal_sub hs (by decide +kernel)
    simp only [d4, d8, h0, cond_true, cond_false]
    refine Run.cs rfl actWords_ct rfl (rfS _) ?_
    refine Run.le ?_ hK
    simp only [d4, d8, h0, Nat.reduceBEq, Bool.false_or, Bool.true_or, cond_true, cond_false]
    exact St.Le.mk' ⟨rfl, rfl, rfl, rfl, rfl, rfl, rfl, rfl, rfl, rfl, rfl, trivial⟩ ⟨rfl, rfl, trivial⟩
  · intro D hid h0 hp hs rest hK
    obtain ⟨d2, d8, -⟩ : AllD D false [2, 8] := ideal_sub hs (by decide +kernel)
    simp only [d2, d8, h0, cond_true, cond_false]
    refine Run.go rfl ?_
    refine Run.le ?_ hK
    simp only [d2, d8, h0, Nat.reduceBEq, Bool.false_or, Bool.true_or, cond_true, cond_false]
    exact St.Le.mk' ⟨rfl, rfl, rfl, rfl, rfl, rfl, rfl, rfl, rfl, rfl, rfl, trivial⟩ ⟨rfl, rfl, trivial⟩
  · intro D hid h0 hp hs rest hK
    obtain ⟨d1, -⟩ : AllD D true [1] := ideal_sub hp (by decide +kernel)
    obtain ⟨d3, d8, -⟩ : AllD D false [3, 8] := ideal_sub hs (by decide +kernel)
    simp only [d1, d3, d8, h0, cond_true, cond_false]
    refine Run.val rfl rfl rfl (ValOk.idx (str (W.getD 0 [])) rfl rfl rfl rfl rfl (by omega) hw0) rfl ?_
    refine Run.le ?_ hK
    simp only [d1, d3, d8, h0, Nat.reduceBEq, Bool.false_or, Bool.true_or, cond_true, cond_false]
    exact St.Le.mk' ⟨rfl, rfl, rfl, rfl, rfl, rfl, rfl, rfl, rfl, rfl, rfl, trivial⟩ ⟨rfl, rfl, trivial⟩
  · intro D hid h0 hp hs rest hK
    obtain ⟨d2, -⟩ : AllD D true [2] := ideal_sub hp (by decide +kernel)
    obtain ⟨d4, d8, -⟩ : AllD D false [4, 8] := ideal_sub hs (by decide +kernel)
    simp only [d2, d4, d8, h0, cond_true, cond_false]
    refine Run.go rfl ?_
    refine Run.le ?_ hK
    simp only [d2, d4, d8, h0, Nat.reduceBEq, Bool.false_or, Bool.true_or, cond_true, cond_false]
    exact St.Le.mk' ⟨rfl, rfl, rfl, rfl, rfl, rfl, rfl, rfl, rfl, rfl, rfl, trivial⟩ ⟨rfl, rfl, trivial⟩
  · intro D hid h0 hp hs rest hK
    obtain ⟨d0, d3, -⟩ : AllD D true [0, 3] := ideal_sub hp (by decide +kernel)
    obtain ⟨d5, d8, -⟩ : AllD D false [5, 8] := ideal_sub hs (by decide +kernel)
    simp only [d0, d3, d5, d8, h0, cond_true, cond_false]
    refine Run.cs rfl hidx (by rw [frzS]; rfl) rfl ?_
    refine Run.le ?_ hK
    simp only [d0, d3, d5, d8, h0, Nat.reduceBEq, Bool.false_or, Bool.true_or, cond_true, cond_false]
    exact St.Le.mk' ⟨rfl, rfl, rfl, rfl, rfl, rfl, rfl, rfl, rfl, rfl, rfl, trivial⟩ ⟨rfl, rfl, trivial⟩
  · intro D hid h0 hp hs rest hK
    obtain ⟨d4, -⟩ : AllD D true [4] := ideal_sub hp (by decide +kernel)
    obtain ⟨d6, d8, -⟩ : AllD D false [6, 8] := ideal_sub hs (by decide +kernel)
    simp only [d4, d6, d8, h0, cond_true, cond_false]
    refine Run.go rfl ?_
    rw [c1]
    refine Run.le ?_ hK
    simp only [d4, d6, d8, h0, Nat.reduceBEq, Bool.false_or, Bool.true_or, cond_true, cond_false]
    exact St.Le.mk' ⟨rfl, rfl, rfl, rfl, rfl, rfl, rfl, rfl, rfl, rfl, rfl, trivial⟩ ⟨rfl, rfl, trivial⟩
  · intro D hid h0 hp hs rest hK
    obtain ⟨d5, -⟩ : AllD D true [5] := ideal_sub hp (by decide +kernel)
    obtain ⟨d8, -⟩ : AllD D false [8] := ideal_sub hs (by decide +kernel)
    simp only [d5, d8, h0, cond_true, cond_false]
    refine Run.val rfl rfl rfl (ValOk.build rfl rfl rfl rfl rfl) rfl ?_
    refine Run.le ?_ hK
    simp only [d5, d8, h0, Nat.reduceBEq, Bool.false_or, Bool.true_or, cond_true, cond_false]
    exact St.Le.mk' ⟨rfl, rfl, rfl, rfl, rfl, rfl, rfl, rfl, rfl, rfl, rfl, trivial⟩ ⟨rfl, rfl, trivial⟩
  · intro D hid h0 hp hs rest hK
    obtain ⟨d8, -⟩ : AllD D false [8] := ideal_sub hs (by decide +kernel)
    simp only [d8, h0, cond_true, cond_false]
    refine Run.alloc rfl rfl rfl rfl rfl rfl (by cases D 0 <;> cases D 1 <;> cases D 2 <;> cases D 3 <;> cases D 4 <;> cases D 5 <;> cases D 6 <;> rfl) rfl ?_
    refine Run.le ?_ hK
    simp only [d8, h0, Nat.reduceBEq, Bool.false_or, Bool.true_or, cond_true, cond_false]
    exact St.Le.mk' ⟨rfl, rfl, rfl, rfl, rfl, rfl, rfl, rfl, rfl, rfl, rfl, trivial⟩ ⟨rfl, rfl, trivial⟩
  · intro D hid h0 hp hs rest hK
    obtain ⟨d0, d1, d2, d3, d4, d5, d6, d7, -⟩ : AllD D true [0, 1, 2, 3, 4, 5, 6, 7] := ideal_sub hp (by decide +kernel)
    simp only [d0, d1, d2, d3, d4, d5, d6, d7, h0, cond_true, cond_false]
    refine Run.go rfl ?_
    refine Run.le ?_ hK
    simp only [d0, d1, d2, d3, d4, d5, d6, d7, h0, Nat.reduceBEq, Bool.false_or, Bool.true_or, cond_true, cond_false]
    exact St.Le.mk' ⟨rfl, rfl, rfl, rfl, rfl, rfl, rfl, rfl, rfl, rfl, rfl, trivial⟩ ⟨rfl, rfl, trivial⟩
  repeat (refine Run.go rfl ?_)
  refine Run.condJ ⟨[(0, str s), (2, .bp (2, 0) 0), (5, .bp (5, 0) 0)], [((2, 0), .box (acA ac0).cells), ((5, 0), .box (acA A).cells)]⟩ rfl (fun h k' hN => ?_) (fun h k' hN => ?_) ?_
  · have h3 : W.length = 3 := by
      have h2 : ((((W.map str).length : Nat) : Int) == 3) = true := h
      rw [List.length_map] at h2
      simp at h2
      omega
    clear h
    rw [if_pos h3] at hra
    obtain ⟨w0, w1, w2, rfl⟩ : ∃ w0 w1 w2, W = [w0, w1, w2] := by
      match W, h3 with
      | [w0, w1, w2], _ => exact ⟨_, _, _, rfl⟩
    have hs1 := short_ct w1 (Nat.le_trans (hwl w1 (by simp)) hlen)
    have hs2 := short_ct w2 (Nat.le_trans (hwl w2 (by simp)) hlen)
    have g1 := shV_ge w1
    have g2 := shV_ge w2
    simp only [List.getD_cons_succ, List.getD_cons_zero] at hra
    generalize shV w1 = n1 at hs1 g1 hra
    generalize shV w2 = n2 at hs2 g2 hra
    obtain ⟨p, hp⟩ : ∃ p, p = min n1 50 := ⟨_, rfl⟩
    obtain ⟨q, hq⟩ : ∃ q, q = min n2 60 := ⟨_, rfl⟩
    have m1 : (if (50 : Int) < n1 then 50 else n1) = p := by rw [hp]; split <;> omega
    have m2 : (if (60 : Int) < n2 then 60 else n2) = q := by rw [hq]; split <;> omega
    have c2 : IntKind.i8.wrap p = p := wrap_i8 (by omega) (by omega)
    have c3 : IntKind.i8.wrap q = q := wrap_i8 (by omega) (by omega)
    rw [← hp, ← hq] at hra
    subst hra
    clear hp hq
    refine Run.drawI (fun D => ⟨[(0, str s), (2, .bp (2, 0) 0), (4, .ro 1 true ([w0, w1, w2].map str)), (5, .bp (5, 0) 0), (18, bif D 0 then .ro 1 true ([w0, w1, w2].map str) else .top), (19, bif D 1 then .rp (str w1).cells 0 else .top), (20, bif D 2 then str w1 else .top), (21, bif D 3 then i16 n1 else .top), (22, bif D 4 then i16 p else .top), (23, bif D 5 then i8 p else .top), (24, bif D 6 then .ro 1 true ([w0, w1, w2].map str) else .top), (25, bif D 7 then .rp (str w2).cells 0 else .top), (26, bif D 8 then str w2 else .top), (27, bif D 9 then i16 n2 else .top), (28, bif D 10 then i16 q else .top), (29, bif D 11 then i8 q else .top), (30, bif D 12 then .bp (5, 0) 1 else .top), (31, bif D 14 then .bp (5, 0) 2 else .top)], [((2, 0), .box (acA ac0).cells), ((5, 0), (bif D 15 then .box (acA ⟨k, p, q⟩).cells else (bif D 13 then .box (acA ⟨k, p, 0⟩).cells else .box (acA ⟨k, 0, 0⟩).cells)))]⟩) (by decide +kernel) (by decide +kernel) ?_ ?_ fun k' => ⟨?_, ?_, ?_, ?_, ?_, ?_, ?_, ?_, ?_, ?_, ?_, ?_, ?_, ?_, ?_, ?_, trivial⟩
    · exact St.Le.mk' ⟨rfl, rfl, rfl, rfl, rfl, rfl, rfl, rfl, rfl, rfl, rfl, rfl, rfl, rfl, rfl, rfl, rfl, rfl, trivial⟩ ⟨rfl, rfl, trivial⟩
    rotate_left
    · intro D hid h0 hp hs rest hK
      obtain ⟨d1, d12, d13, d14, d15, -⟩ : AllD D false [1, 12, 13, 14, 15] := ideal_sub hs (by decide +kernel)
      simp only [d1, d12, d13, d14, d15, h0, cond_true, cond_false]
      refine Run.go rfl ?_
      refine Run.le ?_ hK
      simp only [d1, d12, d13, d14, d15, h0, Nat.reduceBEq, Bool.false_or, Bool.true_or, cond_true, cond_false]
      exact St.Le.mk' ⟨rfl, rfl, rfl, rfl, rfl, rfl, rfl, rfl, rfl, rfl, rfl, rfl, rfl, rfl, rfl, rfl, rfl, rfl, trivial⟩ ⟨rfl, rfl, trivial⟩
    · intro D hid h0 hp hs rest hK
      obtain ⟨d0, -⟩ : AllD D true [0] := ideal_sub hp (by decide +kernel)
      obtain ⟨d2, d12, d13, d14, d15, -⟩ : AllD D false [2, 12, 13, 14, 15] := ideal_sub hs (by decide +kernel)
      simp only [d0, d2, d12, d13, d14, d15, h0, cond_true, cond_false]
      refine Run.val rfl rfl rfl (ValOk.idx (str w1) rfl rfl rfl rfl rfl (by omega) rfl) rfl ?_
      refine Run.le ?_ hK
      simp only [d0, d2, d12, d13, d14, d15, h0, Nat.reduceBEq, Bool.false_or, Bool.true_or, cond_true, cond_false]
      exact St.Le.mk' ⟨rfl, rfl, rfl, rfl, rfl, rfl, rfl, rfl, rfl, rfl, rfl, rfl, rfl, rfl, rfl, rfl, rfl, rfl, trivial⟩ ⟨rfl, rfl, trivial⟩
    · intro D hid h0 hp hs rest hK
      obtain ⟨d1, -⟩ : AllD D true [1] := ideal_sub hp (by decide +kernel)
      obtain ⟨d3, d12, d13, d14, d15, -⟩ : AllD D false [3, 12, 13, 14, 15] := ideal_sub hs (by decide +kernel)
      simp only [d1, d3, d12, d13, d14, d15, h0, cond_true, cond_false]
      refine Run.go rfl ?_
      refine Run.le ?_ hK
      simp only [d1, d3, d12, d13, d14, d15, h0, Nat.reduceBEq, Bool.false_or, Bool.true_or, cond_true, cond_false]
      exact St.Le.mk' ⟨rfl, rfl, rfl, rfl, rfl, rfl, rfl, rfl, rfl, rfl, rfl, rfl, rfl, rfl, rfl, rfl, rfl, rfl, trivial⟩ ⟨rfl, rfl, trivial⟩
    · intro D hid h0 hp hs rest hK
      obtain ⟨d2, -⟩ : AllD D true [2] := ideal_sub hp (by decide +kernel)
      obtain ⟨d4, d9, d12, d13, d14, d15, -⟩ : AllD D false [4, 9, 12, 13, 14, 15] := ideal_sub hs (by decide +kernel)
      simp only [d2, d4, d9, d12, d13, d14, d15, h0, cond_true, cond_false]
      refine Run.csA rfl (hs1.at hA) rfl rfl ?_
      refine Run.le ?_ hK
      simp only [d2, d4, d9, d12, d13, d14, d15, h0, Nat.reduceBEq, Bool.false_or, Bool.true_or, cond_true, cond_false]
      exact St.Le.mk' ⟨rfl, rfl, rfl, rfl, rfl, rfl, rfl, rfl, rfl, rfl, rfl, rfl, rfl, rfl, rfl, rfl, rfl, rfl, trivial⟩ ⟨rfl, rfl, trivial⟩
    · intro D hid h0 hp hs rest hK
      obtain ⟨d3, -⟩ : AllD D true [3] := ideal_sub hp (by decide +kernel)
      obtain ⟨d5, d12, d13, d14, d15, -⟩ : AllD D false [5, 12, 13, 14, 15] := ideal_sub hs (by decide +kernel)
      simp only [d3, d5, d12, d13, d14, d15, h0, cond_true, cond_false]
      refine Run.go rfl ?_
      rw [m1]
      refine Run.le ?_ hK
      simp only [d3, d5, d12, d13, d14, d15, h0, Nat.reduceBEq, Bool.false_or, Bool.true_or, cond_true, cond_false]
      exact St.Le.mk' ⟨rfl, rfl, rfl, rfl, rfl, rfl, rfl, rfl, rfl, rfl, rfl, rfl, rfl, rfl, rfl, rfl, rfl, rfl, trivial⟩ ⟨rfl, rfl, trivial⟩
    · intro D hid h0 hp hs rest hK
      obtain ⟨d4, -⟩ : AllD D true [4] := ideal_sub hp (by decide +kernel)
      obtain ⟨d12, d13, d14, d15, -⟩ : AllD D false [12, 13, 14, 15] := ideal_sub hs (by decide +kernel)
      simp only [d4, d12, d13, d14, d15, h0, cond_true, cond_false]
      refine Run.go rfl ?_
      rw [c2]
      refine Run.le ?_ hK
      simp only [d4, d12, d13, d14, d15, h0, Nat.reduceBEq, Bool.false_or, Bool.true_or, cond_true, cond_false]
      exact St.Le.mk' ⟨rfl, rfl, rfl, rfl, rfl, rfl, rfl, rfl, rfl, rfl, rfl, rfl, rfl, rfl, rfl, rfl, rfl, rfl, trivial⟩ ⟨rfl, rfl, trivial⟩
    · intro D hid h0 hp hs rest hK
      obtain ⟨d7, d14, d15, -⟩ : AllD D false [7, 14, 15] := ideal_sub hs (by decide +kernel)
      simp only [d7, d14, d15, h0, cond_true, cond_false]
      refine Run.go rfl ?_
      refine Run.le ?_ hK
      simp only [d7, d14, d15, h0, Nat.reduceBEq, Bool.false_or, Bool.true_or, cond_true, cond_false]
      exact St.Le.mk' ⟨rfl, rfl, rfl, rfl, rfl, rfl, rfl, rfl, rfl, rfl, rfl, rfl, rfl, rfl, rfl, rfl, rfl, rfl, trivial⟩ ⟨rfl, rfl, trivial⟩
    · intro D hid h0 hp hs rest hK
      obtain ⟨d6, -⟩ : AllD D true [6] := ideal_sub hp (by decide +kernel)
      obtain ⟨d8, d14, d15, -⟩ : AllD D false [8, 14, 15] := ideal_sub hs (by decide +kernel)
      simp only [d6, d8, d14, d15, h0, cond_true, cond_false]
      refine Run.val rfl rfl rfl (ValOk.idx (str w2) rfl rfl rfl rfl rfl (by omega) rfl) rfl ?_
      refine Run.le ?_ hK
      simp only [d6, d8, d14, d15, h0, Nat.reduceBEq, Bool.false_or, Bool.true_or, cond_true, cond_false]
      exact St.Le.mk' ⟨rfl, rfl, rfl, rfl, rfl, rfl, rfl, rfl, rfl, rfl, rfl, rfl, rfl, rfl, rfl, rfl, rfl, rfl, trivial⟩ ⟨rfl, rfl, trivial⟩
    · intro D hid h0 hp hs rest hK
      obtain ⟨d7, -⟩ : AllD D true [7] := ideal_sub hp (by decide +kernel)
      obtain ⟨d9, d14, d15, -⟩ : AllD D false [9, 14, 15] := ideal_sub hs (by decide +kernel)
      simp only [d7, d9, d14, d15, h0, cond_true, cond_false]
      refine Run.go rfl ?_
      refine Run.le ?_ hK
      simp only [d7, d9, d14, d15, h0, Nat.reduceBEq, Bool.false_or, Bool.true_or, cond_true, cond_false]
      exact St.Le.mk' ⟨rfl, rfl, rfl, rfl, rfl, rfl, rfl, rfl, rfl, rfl, rfl, rfl, rfl, rfl, rfl, rfl, rfl, rfl, trivial⟩ ⟨rfl, rfl, trivial⟩
    · intro D hid h0 hp hs rest hK
      obtain ⟨d3, d8, -⟩ : AllD D true [3, 8] := ideal_sub hp (by decide +kernel)
      obtain ⟨d10, d13, d14, d15, -⟩ : AllD D false [10, 13, 14, 15] := ideal_sub hs (by decide +kernel)
      simp only [d3, d8, d10, d13, d14, d15, h0, cond_true, cond_false]
      refine Run.csA rfl (hs2.at hA) rfl rfl ?_
      refine Run.le ?_ hK
      simp only [d3, d8, d10, d13, d14, d15, h0, Nat.reduceBEq, Bool.false_or, Bool.true_or, cond_true, cond_false]
      exact St.Le.mk' ⟨rfl, rfl, rfl, rfl, rfl, rfl, rfl, rfl, rfl, rfl, rfl, rfl, rfl, rfl, rfl, rfl, rfl, rfl, trivial⟩ ⟨rfl, rfl, trivial⟩
    · intro D hid h0 hp hs rest hK
      obtain ⟨d9, -⟩ : AllD D true [9] := ideal_sub hp (by decide +kernel)
      obtain ⟨d11, d14, d15, -⟩ : AllD D false [11, 14, 15] := ideal_sub hs (by decide +kernel)
      simp only [d9, d11, d14, d15, h0, cond_true, cond_false]
      refine Run.go rfl ?_
      rw [m2]
      refine Run.le ?_ hK
      simp only [d9, d11, d14, d15, h0, Nat.reduceBEq, Bool.false_or, Bool.true_or, cond_true, cond_false]
      exact St.Le.mk' ⟨rfl, rfl, rfl, rfl, rfl, rfl, rfl, rfl, rfl, rfl, rfl, rfl, rfl, rfl, rfl, rfl, rfl, rfl, trivial⟩ ⟨rfl, rfl, trivial⟩
    · intro D hid h0 hp hs rest hK
      obtain ⟨d10, -⟩ : AllD D true [10] := ideal_sub hp (by decide +kernel)
      obtain ⟨d14, d15, -⟩ : AllD D false [14, 15] := ideal_sub hs (by decide +kernel)
      simp only [d10, d14, d15, h0, cond_true, cond_false]
      refine Run.go rfl ?_
      rw [c3]
      refine Run.le ?_ hK
      simp only [d10, d14, d15, h0, Nat.reduceBEq, Bool.false_or, Bool.true_or, cond_true, cond_false]
      exact St.Le.mk' ⟨rfl, rfl, rfl, rfl, rfl, rfl, rfl, rfl, rfl, rfl, rfl, rfl, rfl, rfl, rfl, rfl, rfl, rfl, trivial⟩ ⟨rfl, rfl, trivial⟩
    · intro D hid h0 hp hs rest hK
      obtain ⟨d0, d1, d2, d3, d4, d5, -⟩ : AllD D true [0, 1, 2, 3, 4, 5] := ideal_sub hp (by decide +kernel)
      obtain ⟨d13, d14, d15, -⟩ : AllD D false [13, 14, 15] := ideal_sub hs (by decide +kernel)
      simp only [d0, d1, d2, d3, d4, d5, d13, d14, d15, h0, cond_true, cond_false]
      refine Run.go rfl ?_
      refine Run.le ?_ hK
      simp only [d0, d1, d2, d3, d4, d5, d13, d14, d15, h0, Nat.reduceBEq, Bool.false_or, Bool.true_or, cond_true, cond_false]
      exact St.Le.mk' ⟨rfl, rfl, rfl, rfl, rfl, rfl, rfl, rfl, rfl, rfl, rfl, rfl, rfl, rfl, rfl, rfl, rfl, rfl, trivial⟩ ⟨rfl, rfl, trivial⟩
    · intro D hid h0 hp hs rest hK
      obtain ⟨d0, d1, d2, d3, d4, d5, d9, d12, -⟩ : AllD D true [0, 1, 2, 3, 4, 5, 9, 12] := ideal_sub hp (by decide +kernel)
      obtain ⟨d14, d15, -⟩ : AllD D false [14, 15] := ideal_sub hs (by decide +kernel)
      simp only [d0, d1, d2, d3, d4, d5, d9, d12, d14, d15, h0, cond_true, cond_false]
      refine Run.go rfl ?_
      refine Run.le ?_ hK
      simp only [d0, d1, d2, d3, d4, d5, d9, d12, d14, d15, h0, Nat.reduceBEq, Bool.false_or, Bool.true_or, cond_true, cond_false]
      exact St.Le.mk' ⟨rfl, rfl, rfl, rfl, rfl, rfl, rfl, rfl, rfl, rfl, rfl, rfl, rfl, rfl, rfl, rfl, rfl, rfl, trivial⟩ ⟨rfl, rfl, trivial⟩
    · intro D hid h0 hp hs rest hK
      obtain ⟨d0, d1, d2, d3, d4, d5, d6, d7, d8, d9, d10, d11, d12, d13, -⟩ : AllD D true [0, 1, 2, 3, 4, 5, 6, 7, 8, 9, 10, 11, 12, 13] := ideal_sub hp (by decide +kernel)
      obtain ⟨d15, -⟩ : AllD D false [15] := ideal_sub hs (by decide +kernel)
      simp only [d0, d1, d2, d3, d4, d5, d6, d7, d8, d9, d10, d11, d12, d13, d15, h0, cond_true, cond_false]
      refine Run.go rfl ?_
      refine Run.le ?_ hK
      simp only [d0, d1, d2, d3, d4, d5, d6, d7, d8, d9, d10, d11, d12, d13, d15, h0, Nat.reduceBEq, Bool.false_or, Bool.true_or, cond_true, cond_false]
      exact St.Le.mk' ⟨rfl, rfl, rfl, rfl, rfl, rfl, rfl, rfl, rfl, rfl, rfl, rfl, rfl, rfl, rfl, rfl, rfl, rfl, trivial⟩ ⟨rfl, rfl, trivial⟩
    · intro D hid h0 hp hs rest hK
      obtain ⟨d0, d1, d2, d3, d4, d5, d6, d7, d8, d9, d10, d11, d12, d13, d14, -⟩ : AllD D true [0, 1, 2, 3, 4, 5, 6, 7, 8, 9, 10, 11, 12, 13, 14] := ideal_sub hp (by decide +kernel)
      simp only [d0, d1, d2, d3, d4, d5, d6, d7, d8, d9, d10, d11, d12, d13, d14, h0, cond_true, cond_false]
      refine Run.go rfl ?_
      refine Run.le ?_ hK
      simp only [d0, d1, d2, d3, d4, d5, d6, d7, d8, d9, d10, d11, d12, d13, d14, h0, Nat.reduceBEq, Bool.false_or, Bool.true_or, cond_true, cond_false]
      exact St.Le.mk' ⟨rfl, rfl, rfl, rfl, rfl, rfl, rfl, rfl, rfl, rfl, rfl, rfl, rfl, rfl, rfl, rfl, rfl, rfl, trivial⟩ ⟨rfl, rfl, trivial⟩
    repeat (refine Run.go rfl ?_)
    exact Run.of hN ⟨rfl, rfl, rfl, trivial⟩ ⟨rfl, rfl, trivial⟩
  · have h3 : W.length ≠ 3 := by
      have h2 : ((((W.map str).length : Nat) : Int) == 3) = false := h
      rw [List.length_map] at h2
      intro e
      rw [e] at h2
      simp at h2
    rw [if_neg h3] at hra
    subst hra
    repeat (refine Run.go rfl ?_)
    exact Run.of hN ⟨rfl, rfl, rfl, trivial⟩ ⟨rfl, rfl, trivial⟩
  clear hra hidx
  have his := isAct_ct A hrg
  cases hok : aOk A with
  | true =>
    have htx := actText_ct A hrg hok
    rw [hok] at his
    repeat (refine Run.go rfl ?_)
    refine Run.drawI (fun D => ⟨[(0, str s), (2, .bp (2, 0) 0), (5, .bp (5, 0) 0), (32, bif D 0 then acA A else .top), (33, bif D 1 then acA A else .top), (34, bif D 2 then bo true else .top), (35, bif D 3 then bo true else .top), (36, bif D 4 then acA A else .top), (37, bif D 5 then str (aText A) else .top), (38, bif D 6 then str s else .top), (39, bif D 7 then bo ((⟨(aText A).toArray⟩ : ByteArray).toList == (⟨s.toArray⟩ : ByteArray).toList) else .top), (40, bif D 8 then bo ((⟨(aText A).toArray⟩ : ByteArray).toList == (⟨s.toArray⟩ : ByteArray).toList) else .top), (3, bif D 10 then bo ((⟨(aText A).toArray⟩ : ByteArray).toList == (⟨s.toArray⟩ : ByteArray).toList) else .top)], [((2, 0), (bif D 9 then .box (acA A).cells else .box (acA ac0).cells)), ((5, 0), .box (acA A).cells)]⟩) (by decide +kernel) (by decide +kernel) ?_ ?_ fun k' => ⟨?_, ?_, ?_, ?_, ?_, ?_, ?_, ?_, ?_, ?_, ?_, trivial⟩
    · exact St.Le.mk' ⟨rfl, rfl, rfl, rfl, rfl, rfl, rfl, rfl, rfl, rfl, rfl, rfl, rfl, trivial⟩ ⟨rfl, rfl, trivial⟩
    rotate_left
    · intro D hid h0 hp hs rest hK
      obtain ⟨d9, d10, -⟩ : AllD D false [9, 10] := ideal_sub hs (by decide +kernel)
      simp only [d9, d10, h0, cond_true, cond_false]
      refine Run.go rfl ?_
      refine Run.le ?_ hK
      simp only [d9, d10, h0, Nat.reduceBEq, Bool.false_or, Bool.true_or, cond_true, cond_false]
      exact St.Le.mk' ⟨rfl, rfl, rfl, rfl, rfl, rfl, rfl, rfl, rfl, rfl, rfl, rfl, rfl, trivial⟩ ⟨rfl, rfl, trivial⟩
    · intro D hid h0 hp hs rest hK
      obtain ⟨d2, d10, -⟩ : AllD D false [2, 10] := ideal_sub hs (by decide +kernel)
      simp only [d2, d10, h0, cond_true, cond_false]
      refine Run.go rfl ?_
      refine Run.le ?_ hK
      simp only [d2, d10, h0, Nat.reduceBEq, Bool.false_or, Bool.true_or, cond_true, cond_false]
      exact St.Le.mk' ⟨rfl, rfl, rfl, rfl, rfl, rfl, rfl, rfl, rfl, rfl, rfl, rfl, rfl, trivial⟩ ⟨rfl, rfl, trivial⟩
    · intro D hid h0 hp hs rest hK
      obtain ⟨d1, -⟩ : AllD D true [1] := ideal_sub hp (by decide +kernel)
      obtain ⟨d3, d10, -⟩ : AllD D false [3, 10] := ideal_sub hs (by decide +kernel)
      simp only [d1, d3, d10, h0, cond_true, cond_false]
      refine Run.cs rfl his rfl rfl ?_
      refine Run.le ?_ hK
      simp only [d1, d3, d10, h0, Nat.reduceBEq, Bool.false_or, Bool.true_or, cond_true, cond_false]
      exact St.Le.mk' ⟨rfl, rfl, rfl, rfl, rfl, rfl, rfl, rfl, rfl, rfl, rfl, rfl, rfl, trivial⟩ ⟨rfl, rfl, trivial⟩
    · intro D hid h0 hp hs rest hK
      obtain ⟨d2, -⟩ : AllD D true [2] := ideal_sub hp (by decide +kernel)
      obtain ⟨d4, d5, d6, d7, d8, d10, -⟩ : AllD D false [4, 5, 6, 7, 8, 10] := ideal_sub hs (by decide +kernel)
      simp only [d2, d4, d5, d6, d7, d8, d10, h0, cond_true, cond_false]
      refine Run.go rfl ?_
      refine Run.le ?_ hK
      simp only [d2, d4, d5, d6, d7, d8, d10, h0, Nat.reduceBEq, Bool.false_or, Bool.true_or, cond_true, cond_false]
      exact St.Le.mk' ⟨rfl, rfl, rfl, rfl, rfl, rfl, rfl, rfl, rfl, rfl, rfl, rfl, rfl, trivial⟩ ⟨rfl, rfl, trivial⟩
    · intro D hid h0 hp hs rest hK
      obtain ⟨d3, -⟩ : AllD D true [3] := ideal_sub hp (by decide +kernel)
      obtain ⟨d5, d10, -⟩ : AllD D false [5, 10] := ideal_sub hs (by decide +kernel)
      simp only [d3, d5, d10, h0, cond_true, cond_false]
      refine Run.go rfl ?_
      refine Run.le ?_ hK
      simp only [d3, d5, d10, h0, Nat.reduceBEq, Bool.false_or, Bool.true_or, cond_true, cond_false]
      exact St.Le.mk' ⟨rfl, rfl, rfl, rfl, rfl, rfl, rfl, rfl, rfl, rfl, rfl, rfl, rfl, trivial⟩ ⟨rfl, rfl, trivial⟩
    · intro D hid h0 hp hs rest hK
      obtain ⟨d3, d4, -⟩ : AllD D true [3, 4] := ideal_sub hp (by decide +kernel)
      obtain ⟨d7, d9, d10, -⟩ : AllD D false [7, 9, 10] := ideal_sub hs (by decide +kernel)
      simp only [d3, d4, d7, d9, d10, h0, cond_true, cond_false]
      refine Run.cs rfl htx rfl rfl ?_
      refine Run.le ?_ hK
      simp only [d3, d4, d7, d9, d10, h0, Nat.reduceBEq, Bool.false_or, Bool.true_or, cond_true, cond_false]
      exact St.Le.mk' ⟨rfl, rfl, rfl, rfl, rfl, rfl, rfl, rfl, rfl, rfl, rfl, rfl, rfl, trivial⟩ ⟨rfl, rfl, trivial⟩
    · intro D hid h0 hp hs rest hK
      obtain ⟨d3, -⟩ : AllD D true [3] := ideal_sub hp (by decide +kernel)
      obtain ⟨d7, d10, -⟩ : AllD D false [7, 10] := ideal_sub hs (by decide +kernel)
      simp only [d3, d7, d10, h0, cond_true, cond_false]
      refine Run.go rfl ?_
      refine Run.le ?_ hK
      simp only [d3, d7, d10, h0, Nat.reduceBEq, Bool.false_or, Bool.true_or, cond_true, cond_false]
      exact St.Le.mk' ⟨rfl, rfl, rfl, rfl, rfl, rfl, rfl, rfl, rfl, rfl, rfl, rfl, rfl, trivial⟩ ⟨rfl, rfl, trivial⟩
    · intro D hid h0 hp hs rest hK
      obtain ⟨d3, d5, d6, -⟩ : AllD D true [3, 5, 6] := ideal_sub hp (by decide +kernel)
      obtain ⟨d8, d10, -⟩ : AllD D false [8, 10] := ideal_sub hs (by decide +kernel)
      simp only [d3, d5, d6, d8, d10, h0, cond_true, cond_false]
      refine Run.go rfl ?_
      refine Run.le ?_ hK
      simp only [d3, d5, d6, d8, d10, h0, Nat.reduceBEq, Bool.false_or, Bool.true_or, cond_true, cond_false]
      exact St.Le.mk' ⟨rfl, rfl, rfl, rfl, rfl, rfl, rfl, rfl, rfl, rfl, rfl, rfl, rfl, trivial⟩ ⟨rfl, rfl, trivial⟩
    · intro D hid h0 hp hs rest hK
      obtain ⟨d3, d7, -⟩ : AllD D true [3, 7] := ideal_sub hp (by decide +kernel)
      obtain ⟨d10, -⟩ : AllD D false [10] := ideal_sub hs (by decide +kernel)
      simp only [d3, d7, d10, h0, cond_true, cond_false]
      refine Run.go rfl ?_
      refine Run.le ?_ hK
      simp only [d3, d7, d10, h0, Nat.reduceBEq, Bool.false_or, Bool.true_or, cond_true, cond_false]
      exact St.Le.mk' ⟨rfl, rfl, rfl, rfl, rfl, rfl, rfl, rfl, rfl, rfl, rfl, rfl, rfl, trivial⟩ ⟨rfl, rfl, trivial⟩
    · intro D hid h0 hp hs rest hK
      obtain ⟨d0, d5, -⟩ : AllD D true [0, 5] := ideal_sub hp (by decide +kernel)
      obtain ⟨d10, -⟩ : AllD D false [10] := ideal_sub hs (by decide +kernel)
      simp only [d0, d5, d10, h0, cond_true, cond_false]
      refine Run.go rfl ?_
      refine Run.le ?_ hK
      simp only [d0, d5, d10, h0, Nat.reduceBEq, Bool.false_or, Bool.true_or, cond_true, cond_false]
      exact St.Le.mk' ⟨rfl, rfl, rfl, rfl, rfl, rfl, rfl, rfl, rfl, rfl, rfl, rfl, rfl, trivial⟩ ⟨rfl, rfl, trivial⟩
    · intro D hid h0 hp hs rest hK
      obtain ⟨d0, d1, d2, d3, d4, d5, d6, d7, d8, d9, -⟩ : AllD D true [0, 1, 2, 3, 4, 5, 6, 7, 8, 9] := ideal_sub hp (by decide +kernel)
      simp only [d0, d1, d2, d3, d4, d5, d6, d7, d8, d9, h0, cond_true, cond_false]
      refine Run.go rfl ?_
      refine Run.le ?_ hK
      simp only [d0, d1, d2, d3, d4, d5, d6, d7, d8, d9, h0, Nat.reduceBEq, Bool.false_or, Bool.true_or, cond_true, cond_false]
      exact St.Le.mk' ⟨rfl, rfl, rfl, rfl, rfl, rfl, rfl, rfl, rfl, rfl, rfl, rfl, rfl, trivial⟩ ⟨rfl, rfl, trivial⟩
    repeat (refine Run.go rfl ?_)
    refine Run.ret (r := .tup [acA A, bo ((⟨(aText A).toArray⟩ : ByteArray).toList == (⟨s.toArray⟩ : ByteArray).toList)]) hg (by kernel_rfl) ?_
    rw [str_eq, hok]
    rfl
  | false =>
    rw [hok] at his
    repeat (refine Run.go rfl ?_)
    refine Run.drawI (fun D => ⟨[(0, str s), (2, .bp (2, 0) 0), (5, .bp (5, 0) 0), (32, bif D 0 then acA A else .top), (33, bif D 1 then acA A else .top), (34, bif D 2 then bo false else .top), (35, bif D 3 then bo false else .top), (36, bif D 4 then .lit undef else .top), (37, bif D 5 then .lit undef else .top), (38, bif D 6 then .lit undef else .top), (39, bif D 7 then .lit undef else .top), (40, bif D 8 then bo false else .top), (3, bif D 10 then bo false else .top)], [((2, 0), (bif D 9 then .box (acA A).cells else .box (acA ac0).cells)), ((5, 0), .box (acA A).cells)]⟩) (by decide +kernel) (by decide +kernel) ?_ ?_ fun k' => ⟨?_, ?_, ?_, ?_, ?_, ?_, ?_, ?_, ?_, ?_, ?_, trivial⟩
    · exact St.Le.mk' ⟨rfl, rfl, rfl, rfl, rfl, rfl, rfl, rfl, rfl, rfl, rfl, rfl, rfl, trivial⟩ ⟨rfl, rfl, trivial⟩
    rotate_left
    · intro D hid h0 hp hs rest hK
      obtain ⟨d9, d10, -⟩ : AllD D false [9, 10] := ideal_sub hs (by decide +kernel)
      simp only [d9, d10, h0, cond_true, cond_false]
      refine Run.go rfl ?_
      refine Run.le ?_ hK
      simp only [d9, d10, h0, Nat.reduceBEq, Bool.false_or, Bool.true_or, cond_true, cond_false]
      exact St.Le.mk' ⟨rfl, rfl, rfl, rfl, rfl, rfl, rfl, rfl, rfl, rfl, rfl, rfl, rfl, trivial⟩ ⟨rfl, rfl, trivial⟩
    · intro D hid h0 hp hs rest hK
      obtain ⟨d2, d10, -⟩ : AllD D false [2, 10] := ideal_sub hs (by decide +kernel)
      simp only [d2, d10, h0, cond_true, cond_false]
      refine Run.go rfl ?_
      refine Run.le ?_ hK
      simp only [d2, d10, h0, Nat.reduceBEq, Bool.false_or, Bool.true_or, cond_true, cond_false]
      exact St.Le.mk' ⟨rfl, rfl, rfl, rfl, rfl, rfl, rfl, rfl, rfl, rfl, rfl, rfl, rfl, trivial⟩ ⟨rfl, rfl, trivial⟩
    · intro D hid h0 hp hs rest hK
      obtain ⟨d1, -⟩ : AllD D true [1] := ideal_sub hp (by decide +kernel)
      obtain ⟨d3, d10, -⟩ : AllD D false [3, 10] := ideal_sub hs (by decide +kernel)
      simp only [d1, d3, d10, h0, cond_true, cond_false]
      refine Run.cs rfl his rfl rfl ?_
      refine Run.le ?_ hK
      simp only [d1, d3, d10, h0, Nat.reduceBEq, Bool.false_or, Bool.true_or, cond_true, cond_false]
      exact St.Le.mk' ⟨rfl, rfl, rfl, rfl, rfl, rfl, rfl, rfl, rfl, rfl, rfl, rfl, rfl, trivial⟩ ⟨rfl, rfl, trivial⟩
    · intro D hid h0 hp hs rest hK
      obtain ⟨d2, -⟩ : AllD D true [2] := ideal_sub hp (by decide +kernel)
      obtain ⟨d4, d5, d6, d7, d8, d10, -⟩ : AllD D false [4, 5, 6, 7, 8, 10] := ideal_sub hs (by decide +kernel)
      simp only [d2, d4, d5, d6, d7, d8, d10, h0, cond_true, cond_false]
      refine Run.go rfl ?_
      refine Run.le ?_ hK
      simp only [d2, d4, d5, d6, d7, d8, d10, h0, Nat.reduceBEq, Bool.false_or, Bool.true_or, cond_true, cond_false]
      exact St.Le.mk' ⟨rfl, rfl, rfl, rfl, rfl, rfl, rfl, rfl, rfl, rfl, rfl, rfl, rfl, trivial⟩ ⟨rfl, rfl, trivial⟩
    · intro D hid h0 hp hs rest hK
      obtain ⟨d3, -⟩ : AllD D true [3] := ideal_sub hp (by decide +kernel)
      obtain ⟨d5, d10, -⟩ : AllD D false [5, 10] := ideal_sub hs (by decide +kernel)
      simp only [d3, d5, d10, h0, cond_true, cond_false]
      refine Run.go rfl ?_
      refine Run.le ?_ hK
      simp only [d3, d5, d10, h0, Nat.reduceBEq, Bool.false_or, Bool.true_or, cond_true, cond_false]
      exact St.Le.mk' ⟨rfl, rfl, rfl, rfl, rfl, rfl, rfl, rfl, rfl, rfl, rfl, rfl, rfl, trivial⟩ ⟨rfl, rfl, trivial⟩
    · intro D hid h0 hp hs rest hK
      obtain ⟨d3, d4, -⟩ : AllD D true [3, 4] := ideal_sub hp (by decide +kernel)
      obtain ⟨d7, d9, d10, -⟩ : AllD D false [7, 9, 10] := ideal_sub hs (by decide +kernel)
      simp only [d3, d4, d7, d9, d10, h0, cond_true, cond_false]
      refine Run.go rfl ?_
      refine Run.le ?_ hK
      simp only [d3, d4, d7, d9, d10, h0, Nat.reduceBEq, Bool.false_or, Bool.true_or, cond_true, cond_false]
      exact St.Le.mk' ⟨rfl, rfl, rfl, rfl, rfl, rfl, rfl, rfl, rfl, rfl, rfl, rfl, rfl, trivial⟩ ⟨rfl, rfl, trivial⟩
    · intro D hid h0 hp hs rest hK
      obtain ⟨d3, -⟩ : AllD D true [3] := ideal_sub hp (by decide +kernel)
      obtain ⟨d7, d10, -⟩ : AllD D false [7, 10] := ideal_sub hs (by decide +kernel)
      simp only [d3, d7, d10, h0, cond_true, cond_false]
      refine Run.go rfl ?_
      refine Run.le ?_ hK
      simp only [d3, d7, d10, h0, Nat.reduceBEq, Bool.false_or, Bool.true_or, cond_true, cond_false]
      exact St.Le.mk' ⟨rfl, rfl, rfl, rfl, rfl, rfl, rfl, rfl, rfl, rfl, rfl, rfl, rfl, trivial⟩ ⟨rfl, rfl, trivial⟩
    · intro D hid h0 hp hs rest hK
      obtain ⟨d3, d5, d6, -⟩ : AllD D true [3, 5, 6] := ideal_sub hp (by decide +kernel)
      obtain ⟨d8, d10, -⟩ : AllD D false [8, 10] := ideal_sub hs (by decide +kernel)
      simp only [d3, d5, d6, d8, d10, h0, cond_true, cond_false]
      refine Run.go rfl ?_
      refine Run.le ?_ hK
      simp only [d3, d5, d6, d8, d10, h0, Nat.reduceBEq, Bool.false_or, Bool.true_or, cond_true, cond_false]
      exact St.Le.mk' ⟨rfl, rfl, rfl, rfl, rfl, rfl, rfl, rfl, rfl, rfl, rfl, rfl, rfl, trivial⟩ ⟨rfl, rfl, trivial⟩
    · intro D hid h0 hp hs rest hK
      obtain ⟨d3, d7, -⟩ : AllD D true [3, 7] := ideal_sub hp (by decide +kernel)
      obtain ⟨d10, -⟩ : AllD D false [10] := ideal_sub hs (by decide +kernel)
      simp only [d3, d7, d10, h0, cond_true, cond_false]
      refine Run.go rfl ?_
      refine Run.le ?_ hK
      simp only [d3, d7, d10, h0, Nat.reduceBEq, Bool.false_or, Bool.true_or, cond_true, cond_false]
      exact St.Le.mk' ⟨rfl, rfl, rfl, rfl, rfl, rfl, rfl, rfl, rfl, rfl, rfl, rfl, rfl, trivial⟩ ⟨rfl, rfl, trivial⟩
    · intro D hid h0 hp hs rest hK
      obtain ⟨d0, d5, -⟩ : AllD D true [0, 5] := ideal_sub hp (by decide +kernel)
      obtain ⟨d10, -⟩ : AllD D false [10] := ideal_sub hs (by decide +kernel)
      simp only [d0, d5, d10, h0, cond_true, cond_false]
      refine Run.go rfl ?_
      refine Run.le ?_ hK
      simp only [d0, d5, d10, h0, Nat.reduceBEq, Bool.false_or, Bool.true_or, cond_true, cond_false]
      exact St.Le.mk' ⟨rfl, rfl, rfl, rfl, rfl, rfl, rfl, rfl, rfl, rfl, rfl, rfl, rfl, trivial⟩ ⟨rfl, rfl, trivial⟩
    · intro D hid h0 hp hs rest hK
      obtain ⟨d0, d1, d2, d3, d4, d5, d6, d7, d8, d9, -⟩ : AllD D true [0, 1, 2, 3, 4, 5, 6, 7, 8, 9] := ideal_sub hp (by decide +kernel)
      simp only [d0, d1, d2, d3, d4, d5, d6, d7, d8, d9, h0, cond_true, cond_false]
      refine Run.go rfl ?_
      refine Run.le ?_ hK
      simp only [d0, d1, d2, d3, d4, d5, d6, d7, d8, d9, h0, Nat.reduceBEq, Bool.false_or, Bool.true_or, cond_true, cond_false]
      exact St.Le.mk' ⟨rfl, rfl, rfl, rfl, rfl, rfl, rfl, rfl, rfl, rfl, rfl, rfl, rfl, trivial⟩ ⟨rfl, rfl, trivial⟩
    repeat (refine Run.go rfl ?_)
    refine Run.ret (r := .tup [acA A, bo false]) hg (by kernel_rfl) ?_
    rw [hok]
    rfl

/-! The two answers are alike. -/

theorem spl3 {s w0 w1 w2 : List UInt8} (h : spl 32 s = [w0, w1, w2]) : s = w0 ++ 32 :: (w1 ++ 32 :: w2) := by
  rw [← jn_spl 32 s, h]
  rfl
theorem l1n_true {s : List UInt8} (h : (l1n s).2 = true) : ∃ n : Nat, s = Lib.decDigits n ∧ (l1n s).1 = n := by
  unfold l1n at h ⊢
  split at h
  · rename_i n hn
    split at h
    · rename_i hl
      refine ⟨n, cn_some hn, ?_⟩
      rw [if_pos hl]
    · cases h
  · cases h
theorem shV_dd {n : Nat} (h : n ≤ 32767) : shV (Lib.decDigits n) = n := by
  unfold shV
  rw [cn_dd]
  show (if n ≤ 32767 then (n : Int) else -1) = n
  rw [if_pos h]
theorem l1n_dd {n : Nat} (h : n ≤ 99) : l1n (Lib.decDigits n) = ((n : Int), true) := by
  unfold l1n
  rw [cn_dd]
  show (if (Lib.decDigits n).length ≤ 9 then ((n : Int), true) else (0, false)) = _
  rw [if_pos (by have := dd_len2 (n := n) (by omega); omega)]

theorem raS_raA (s : List UInt8) : (aOk (raA s) && decide (aText (raA s) = s)) = (raS s).2 ∧ ((raS s).2 = true → raA s = (raS s).1) := by
  have hpos := spl_pos 32 s
  have hjn := jn_spl 32 s
  have hrg := raA_rng s
  have hA : raA s = raA s := rfl
  conv at hA => rhs; unfold raA
  have hS : raS s = raS s := rfl
  conv at hS => rhs; unfold raS
  simp only at hA hS
  have hW : spl 32 s = spl 32 s := rfl
  generalize hWW : spl 32 s = W at hpos hjn hA hS
  clear hW
  have hwg := fun h => lastW_get (w := W.getD 0 []) (j := 6) h
  have hkr := lastW_rng (W.getD 0 []) 6
  generalize lastW (W.getD 0 []) 6 = k at hA hS hwg hkr
  by_cases h3 : W.length = 3
  · rw [if_pos h3] at hA
    obtain ⟨w0, w1, w2, rfl⟩ : ∃ w0 w1 w2, W = [w0, w1, w2] := by
      match W, h3 with
      | [w0, w1, w2], _ => exact ⟨_, _, _, rfl⟩
    have hs := spl3 hWW
    simp only [List.getD_cons_succ, List.getD_cons_zero] at hA hS hwg
    by_cases hk0 : k < 0
    · rw [if_pos hk0] at hS
      have e : aOk (raA s) = false := by
        rw [hA]
        simp only [aOk, inr]
        rw [if_neg (by omega), decide_eq_false (by omega : ¬ 0 ≤ k)]
        rfl
      rw [e, hS]
      exact ⟨rfl, fun h => by cases h⟩
    rw [if_neg hk0] at hS
    by_cases hk5 : k = 5
    · rw [if_pos hk5] at hS
      have e : (aOk (raA s) && decide (aText (raA s) = s)) = false := by
        rw [Bool.and_eq_false_iff]
        right
        refine decide_eq_false fun ht => ?_
        rw [hA, hk5] at ht
        have ht : ([100, 97, 121] : List UInt8) = s := ht
        rw [← ht] at hWW
        have : spl 32 [100, 97, 121] = [[100, 97, 121]] := by decide
        rw [this] at hWW
        cases hWW
      rw [e, hS]
      exact ⟨by simp, fun h => by simp at h⟩
    rw [if_neg hk5, if_neg (by simp)] at hS
    by_cases hok : (l1n w1).2 = true ∧ (l1n w2).2 = true ∧ (l1n w1).1 ≤ 49 ∧ (l1n w2).1 < 60
    · rw [if_pos hok] at hS
      obtain ⟨o1, o2, o3, o4⟩ := hok
      obtain ⟨p, hp, ep⟩ := l1n_true o1
      obtain ⟨q, hq, eq⟩ := l1n_true o2
      rw [ep] at o3 hS
      rw [eq] at o4 hS
      have v1 : shV w1 = p := by rw [hp]; exact shV_dd (by omega)
      have v2 : shV w2 = q := by rw [hq]; exact shV_dd (by omega)
      rw [v1, v2, show min (p : Int) 50 = p by omega, show min (q : Int) 60 = q by omega] at hA
      have e1 : aOk (raA s) = true := by
        rw [hA]
        simp only [aOk, inr]
        rw [if_neg hk5]
        simp only [Bool.and_eq_true, decide_eq_true_eq]
        omega
      have e2 : aText (raA s) = s := by
        rw [hA]
        simp only [aText]
        rw [if_neg hk5, hwg (by omega), Int.toNat_natCast, Int.toNat_natCast, ← hp, ← hq, hs]
        simp
      rw [e1, decide_eq_true e2, hS, hA]
      exact ⟨rfl, fun _ => rfl⟩
    · rw [if_neg hok] at hS
      have e : aOk (raA s) = false := by
        cases hc : aOk (raA s) with
        | false => rfl
        | true =>
          exfalso
          apply hok
          have hn := (aOk_num hc (by rw [hA]; exact hk5))
          rw [hA] at hn
          simp only at hn
          have h1 : 0 ≤ shV w1 := by omega
          have h2 : 0 ≤ shV w2 := by omega
          have c1 := cn_some (shV_nonneg h1)
          have c2 := cn_some (shV_nonneg h2)
          have d1 := l1n_dd (n := (shV w1).toNat) (by omega)
          have d2 := l1n_dd (n := (shV w2).toNat) (by omega)
          rw [← c1] at d1
          rw [← c2] at d2
          rw [d1, d2]
          refine ⟨rfl, rfl, ?_, ?_⟩
          · show ((shV w1).toNat : Int) ≤ 49
            omega
          · show ((shV w2).toNat : Int) < 60
            omega
      rw [e, hS]
      exact ⟨rfl, fun h => by cases h⟩
  · rw [if_neg h3] at hA
    by_cases hk0 : k < 0
    · rw [if_pos hk0] at hS
      have e : aOk (raA s) = false := by
        rw [hA]
        simp only [aOk, inr]
        rw [if_neg (by omega), decide_eq_false (by omega : ¬ 0 ≤ k)]
        rfl
      rw [e, hS]
      exact ⟨rfl, fun h => by cases h⟩
    rw [if_neg hk0] at hS
    by_cases hk5 : k = 5
    · rw [if_pos hk5] at hS
      subst hk5
      have e1 : aOk (raA s) = true := by rw [hA]; rfl
      have ht : aText (raA s) = [100, 97, 121] := by rw [hA]; rfl
      have hw : W.getD 0 [] = [100, 97, 121] := (hwg (by omega)).symm
      have hl : decide (([100, 97, 121] : List UInt8) = s) = decide (W.length = 1) := by
        by_cases h1 : W.length = 1
        · rw [decide_eq_true h1, decide_eq_true]
          match W, h1 with
          | [w], _ =>
            rw [← hjn]
            exact hw.symm
        · rw [decide_eq_false h1, decide_eq_false]
          intro e
          rw [← e] at hWW
          have : spl 32 [100, 97, 121] = [[100, 97, 121]] := by decide
          rw [this] at hWW
          rw [← hWW] at h1
          exact h1 rfl
      rw [e1, ht, hS, hA]
      exact ⟨by rw [Bool.true_and]; exact hl, fun _ => rfl⟩
    rw [if_neg hk5, if_pos h3] at hS
    have e : (aOk (raA s) && decide (aText (raA s) = s)) = false := by
      rw [Bool.and_eq_false_iff]
      right
      refine decide_eq_false fun ht => h3 ?_
      rw [hA] at ht
      have hk : k = 0 ∨ k = 1 ∨ k = 2 ∨ k = 3 ∨ k = 4 := by omega
      rw [← hWW, ← ht]
      rcases hk with rfl | rfl | rfl | rfl | rfl <;> decide +kernel
    rw [e, hS]
    exact ⟨rfl, fun h => by cases h⟩
end Go.Proofs.YtjajfepcknieeaaGreatDoor
