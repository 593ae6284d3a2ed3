/- Contracts of the program's functions, and what follows from them. -/
import Derived.Test.YtenknlnnnicdeaaGreatDoorMD
import Derived.Test.YtenknlnnnicdeaaGreatDoorMH
import Derived.Test.YtenknlnnnicdeaaGreatDoorMF
import Derived.Test.YtenknlnnnicdeaaGreatDoorSA
import Derived.Lib.ItoaLen
set_option linter.unusedVariables false
set_option maxRecDepth 100000
set_option linter.unusedSimpArgs false
namespace Go.Proofs.YtenknlnnnicdeaaGreatDoor
open Go Go.Av

/-! Texts of acts: numbers below 100. -/

theorem dl_len (m : Nat) (h : m ≤ 9223372036854775807) : (Lib.decDigits m).length ≤ 21 := by
  have := Lib.itoa_length_le (m : Int) (by omega) (by omega)
  rwa [Lib.itoa_nonneg] at this

theorem wrap_u8 {n : Int} (h1 : 0 ≤ n) (h2 : n ≤ 255) : IntKind.u8.wrap n = n := by
  have e : IntKind.u8.wrap n = n % 256 := by simp [IntKind.wrap, IntKind.bits, IntKind.signed]
  rw [e]; omega

theorem dig_eq (m : Nat) : bys [IntKind.u8.wrap (IntKind.i64.wrap (48 + (m : Int).tmod 10))] = [UInt8.ofNat (48 + m % 10)] := by
  have e : ((m : Int).tmod 10) = ((m % 10 : Nat) : Int) := by rw [Int.tmod_eq_emod_of_nonneg (by omega)]; omega
  rw [e, wrap_i64 (by omega) (by omega), wrap_u8 (by omega) (by omega)]
  unfold bys
  simp only [List.map_cons, List.map_nil]
  congr 2

noncomputable def X63 : Fx := ⟨Tryz.prog, tys, 63, Tryz.f63, [0]⟩
theorem X63_ok : X63.Ok := ⟨Tryz.func63, tys_ok⟩
theorem Decimal_ct (m : Nat) (hm : m ≤ 9223372036854775807) : Ct Tryz.prog 63 [i64 m] (str (Lib.decDigits m)) [] := by
  induction m using Nat.strongRecOn with
  | _ m IH =>
  refine Ct.intro X63 X63_ok rfl rfl rfl rfl fun g hg => ?_
  repeat (refine Run.go rfl ?_)
  refine Run.cond rfl (fun h => ?_) (fun h => ?_)
  · have hlt : m < 10 := by simp at h; omega
    repeat (refine Run.go rfl ?_)
    refine Run.buildSlice [u8 (IntKind.u8.wrap (IntKind.i64.wrap (48 + (m : Int).tmod 10)))] rfl rfl rfl rfl rfl rfl rfl rfl rfl rfl rfl rfl rfl rfl ?_
    refine Run.val rfl rfl rfl (ValOk.b2s (ex := true) [IntKind.u8.wrap (IntKind.i64.wrap (48 + (m : Int).tmod 10))] rfl rfl rfl rfl rfl (.inl rfl)) rfl ?_
    rw [dig_eq]
    repeat (refine Run.go rfl ?_)
    refine Run.ret hg rfl ?_
    rw [Lib.decDigits, dif_pos hlt, Nat.mod_eq_of_lt hlt]
    rfl
  · have hge : 10 ≤ m := by simp at h; omega
    have e1 : IntKind.i64.wrap ((m : Int).tdiv 10) = ((m / 10 : Nat) : Int) := by
      rw [Int.tdiv_eq_ediv_of_nonneg (by omega), wrap_i64 (by omega) (by omega)]; omega
    have IH' := IH (m / 10) (by omega) (by omega)
    rw [← e1] at IH'
    have hl := dl_len (m / 10) (by omega)
    repeat (refine Run.go rfl ?_)
    refine Run.drawI (fun D => ⟨[(0, i64 m), (11, bif D 0 then i64 m else .top), (12, bif D 1 then i64 (IntKind.i64.wrap ((m : Int).tdiv 10)) else .top), (13, bif D 2 then str (Lib.decDigits (m / 10)) else .top), (14, bif D 3 then i64 m else .top), (15, bif D 4 then i64 ((m : Int).tmod 10) else .top), (16, bif D 5 then i64 (IntKind.i64.wrap (48 + (m : Int).tmod 10)) else .top), (17, bif D 6 then u8 (IntKind.u8.wrap (IntKind.i64.wrap (48 + (m : Int).tmod 10))) else .top), (18, bif D 7 then AV.own 1 true [u8 (IntKind.u8.wrap (IntKind.i64.wrap (48 + (m : Int).tmod 10)))] else .top), (19, bif D 8 then str (bys [IntKind.u8.wrap (IntKind.i64.wrap (48 + (m : Int).tmod 10))]) else .top), (20, bif D 9 then str (Lib.decDigits (m / 10) ++ bys [IntKind.u8.wrap (IntKind.i64.wrap (48 + (m : Int).tmod 10))]) else .top), (2, bif D 10 then str (Lib.decDigits (m / 10) ++ bys [IntKind.u8.wrap (IntKind.i64.wrap (48 + (m : Int).tmod 10))]) else str [])], []⟩) (by decide +kernel) (by decide +kernel) ?_ ?_ fun k' => ⟨?_, ?_, ?_, ?_, ?_, ?_, ?_, ?_, ?_, ?_, ?_, trivial⟩
    · exact St.Le.mk' ⟨rfl, rfl, rfl, rfl, rfl, rfl, rfl, rfl, rfl, rfl, rfl, rfl, trivial⟩ trivial
    rotate_left
    · intro D hid h0 hp hs rest hK
      obtain ⟨d1, d10, -⟩ : AllD D false [1, 10] := ideal_sub hs (by decide +kernel)
      simp only [d1, d10, h0, cond_true, cond_false]
      refine Run.go rfl ?_
      refine Run.le ?_ hK
      simp only [d1, d10, h0, Nat.reduceBEq, Bool.false_or, Bool.true_or, cond_true, cond_false]
      exact St.Le.mk' ⟨rfl, rfl, rfl, rfl, rfl, rfl, rfl, rfl, rfl, rfl, rfl, rfl, trivial⟩ trivial
    · intro D hid h0 hp hs rest hK
      obtain ⟨d0, -⟩ : AllD D true [0] := ideal_sub hp (by decide +kernel)
      obtain ⟨d2, d10, -⟩ : AllD D false [2, 10] := ideal_sub hs (by decide +kernel)
      simp only [d0, d2, d10, h0, cond_true, cond_false]
      refine Run.go rfl ?_
      refine Run.le ?_ hK
      simp only [d0, d2, d10, h0, Nat.reduceBEq, Bool.false_or, Bool.true_or, cond_true, cond_false]
      exact St.Le.mk' ⟨rfl, rfl, rfl, rfl, rfl, rfl, rfl, rfl, rfl, rfl, rfl, rfl, trivial⟩ trivial
    · intro D hid h0 hp hs rest hK
      obtain ⟨d1, -⟩ : AllD D true [1] := ideal_sub hp (by decide +kernel)
      obtain ⟨d9, d10, -⟩ : AllD D false [9, 10] := ideal_sub hs (by decide +kernel)
      simp only [d1, d9, d10, h0, cond_true, cond_false]
      refine Run.cs rfl IH' rfl rfl ?_
      refine Run.le ?_ hK
      simp only [d1, d9, d10, h0, Nat.reduceBEq, Bool.false_or, Bool.true_or, cond_true, cond_false]
      exact St.Le.mk' ⟨rfl, rfl, rfl, rfl, rfl, rfl, rfl, rfl, rfl, rfl, rfl, rfl, trivial⟩ trivial
    · intro D hid h0 hp hs rest hK
      obtain ⟨d4, d10, -⟩ : AllD D false [4, 10] := ideal_sub hs (by decide +kernel)
      simp only [d4, d10, h0, cond_true, cond_false]
      refine Run.go rfl ?_
      refine Run.le ?_ hK
      simp only [d4, d10, h0, Nat.reduceBEq, Bool.false_or, Bool.true_or, cond_true, cond_false]
      exact St.Le.mk' ⟨rfl, rfl, rfl, rfl, rfl, rfl, rfl, rfl, rfl, rfl, rfl, rfl, trivial⟩ trivial
    · intro D hid h0 hp hs rest hK
      obtain ⟨d3, -⟩ : AllD D true [3] := ideal_sub hp (by decide +kernel)
      obtain ⟨d5, d10, -⟩ : AllD D false [5, 10] := ideal_sub hs (by decide +kernel)
      simp only [d3, d5, d10, h0, cond_true, cond_false]
      refine Run.go rfl ?_
      refine Run.le ?_ hK
      simp only [d3, d5, d10, h0, Nat.reduceBEq, Bool.false_or, Bool.true_or, cond_true, cond_false]
      exact St.Le.mk' ⟨rfl, rfl, rfl, rfl, rfl, rfl, rfl, rfl, rfl, rfl, rfl, rfl, trivial⟩ trivial
    · intro D hid h0 hp hs rest hK
      obtain ⟨d4, -⟩ : AllD D true [4] := ideal_sub hp (by decide +kernel)
      obtain ⟨d6, d10, -⟩ : AllD D false [6, 10] := ideal_sub hs (by decide +kernel)
      simp only [d4, d6, d10, h0, cond_true, cond_false]
      refine Run.go rfl ?_
      refine Run.le ?_ hK
      simp only [d4, d6, d10, h0, Nat.reduceBEq, Bool.false_or, Bool.true_or, cond_true, cond_false]
      exact St.Le.mk' ⟨rfl, rfl, rfl, rfl, rfl, rfl, rfl, rfl, rfl, rfl, rfl, rfl, trivial⟩ trivial
    · intro D hid h0 hp hs rest hK
      obtain ⟨d5, -⟩ : AllD D true [5] := ideal_sub hp (by decide +kernel)
      obtain ⟨d7, d10, -⟩ : AllD D false [7, 10] := ideal_sub hs (by decide +kernel)
      simp only [d5, d7, d10, h0, cond_true, cond_false]
      refine Run.go rfl ?_
      refine Run.le ?_ hK
      simp only [d5, d7, d10, h0, Nat.reduceBEq, Bool.false_or, Bool.true_or, cond_true, cond_false]
      exact St.Le.mk' ⟨rfl, rfl, rfl, rfl, rfl, rfl, rfl, rfl, rfl, rfl, rfl, rfl, trivial⟩ trivial
    · intro D hid h0 hp hs rest hK
      obtain ⟨d6, -⟩ : AllD D true [6] := ideal_sub hp (by decide +kernel)
      obtain ⟨d8, d10, -⟩ : AllD D false [8, 10] := ideal_sub hs (by decide +kernel)
      simp only [d6, d8, d10, h0, cond_true, cond_false]
      refine Run.buildSlice [u8 (IntKind.u8.wrap (IntKind.i64.wrap (48 + (m : Int).tmod 10)))] rfl rfl rfl rfl rfl rfl rfl rfl rfl rfl rfl rfl rfl rfl ?_
      refine Run.le ?_ hK
      simp only [d6, d8, d10, h0, Nat.reduceBEq, Bool.false_or, Bool.true_or, cond_true, cond_false]
      exact St.Le.mk' ⟨rfl, rfl, rfl, rfl, rfl, rfl, rfl, rfl, rfl, rfl, rfl, rfl, trivial⟩ trivial
    · intro D hid h0 hp hs rest hK
      obtain ⟨d7, -⟩ : AllD D true [7] := ideal_sub hp (by decide +kernel)
      obtain ⟨d9, d10, -⟩ : AllD D false [9, 10] := ideal_sub hs (by decide +kernel)
      simp only [d7, d9, d10, h0, cond_true, cond_false]
      refine Run.val rfl rfl rfl (ValOk.b2s (ex := true) [IntKind.u8.wrap (IntKind.i64.wrap (48 + (m : Int).tmod 10))] rfl rfl rfl rfl rfl (.inl rfl)) rfl ?_
      refine Run.le ?_ hK
      simp only [d7, d9, d10, h0, Nat.reduceBEq, Bool.false_or, Bool.true_or, cond_true, cond_false]
      exact St.Le.mk' ⟨rfl, rfl, rfl, rfl, rfl, rfl, rfl, rfl, rfl, rfl, rfl, rfl, trivial⟩ trivial
    · intro D hid h0 hp hs rest hK
      obtain ⟨d2, d8, -⟩ : AllD D true [2, 8] := ideal_sub hp (by decide +kernel)
      obtain ⟨d10, -⟩ : AllD D false [10] := ideal_sub hs (by decide +kernel)
      simp only [d2, d8, d10, h0, cond_true, cond_false]
      refine Run.val rfl rfl rfl (ValOk.scat (Lib.decDigits (m / 10)) (bys [IntKind.u8.wrap (IntKind.i64.wrap (48 + (m : Int).tmod 10))]) rfl rfl rfl (by simp [bys]; omega)) rfl ?_
      refine Run.le ?_ hK
      simp only [d2, d8, d10, h0, Nat.reduceBEq, Bool.false_or, Bool.true_or, cond_true, cond_false]
      exact St.Le.mk' ⟨rfl, rfl, rfl, rfl, rfl, rfl, rfl, rfl, rfl, rfl, rfl, rfl, trivial⟩ trivial
    · intro D hid h0 hp hs rest hK
      obtain ⟨d0, d1, d2, d3, d4, d5, d6, d7, d8, d9, -⟩ : AllD D true [0, 1, 2, 3, 4, 5, 6, 7, 8, 9] := ideal_sub hp (by decide +kernel)
      simp only [d0, d1, d2, d3, d4, d5, d6, d7, d8, d9, h0, cond_true, cond_false]
      refine Run.go rfl ?_
      refine Run.le ?_ hK
      simp only [d0, d1, d2, d3, d4, d5, d6, d7, d8, d9, h0, Nat.reduceBEq, Bool.false_or, Bool.true_or, cond_true, cond_false]
      exact St.Le.mk' ⟨rfl, rfl, rfl, rfl, rfl, rfl, rfl, rfl, rfl, rfl, rfl, rfl, trivial⟩ trivial
    repeat (refine Run.go rfl ?_)
    refine Run.ret hg rfl ?_
    show str _ = str _
    rw [dig_eq]
    conv => rhs; rw [Lib.decDigits, dif_neg (by omega)]

theorem FormatInt_small_ct (i : Nat) (h : i < 100) : Ct Tryz.prog 106 [i64 i, i64 10] (str (Lib.decDigits i)) [] := by
  refine Ct.ofCalls (vs := [.int .i64 i, .int .i64 10]) Tryz.func106 (by kernel_rfl) (by kernel_rfl) fun w => ?_
  refine (Tryz.strconv_FormatInt_10_small i h w).mono ?_
  rintro e w' ⟨rfl, rfl⟩
  exact ⟨_, rfl, Kp.refl _ _, fun L => .lit _ _⟩

end Go.Proofs.YtenknlnnnicdeaaGreatDoor
