/- Contracts of the program's functions, and what follows from them. -/
import Derived.Test.YtcfkdcjindhnjaaK37
set_option linter.unusedVariables false
set_option maxRecDepth 100000
set_option linter.unusedSimpArgs false
namespace Go.Proofs.Ytcfkdcjindhnjaa
open Go Go.Av

/-! The shortest walk of the reference. -/

theorem bst_ex {l : List Int} (s : Int) (hne : l ≠ []) : ∃ b : Nat, bst l s l.length = b ∧ b < l.length := by
  have hE := ext_ex hne
  generalize lmin l = lo at hE
  generalize lmax l = hi at hE
  have hle := (hE.le _ hE.mh).1
  have key : ∃ i, i < l.length ∧ opt l s i = true := by
    by_cases hA : ap s lo ≤ ap s hi
    · obtain ⟨i, h1, h2⟩ := mem_idx hE.ml
      refine ⟨i, h1, ?_⟩
      rw [opt, decide_eq_true_eq, lst_eq hE, h2]
      rcases er hE h1 with ⟨e1, e2, e3⟩ | ⟨a, c, e1, e2, e3, e4, e5, e6⟩
      · rw [e1, lst_nil]; unfold ap at *; omega
      · rw [lst_eq e1]; rw [h2] at e5 e6; unfold ap at *; omega
    · obtain ⟨i, h1, h2⟩ := mem_idx hE.mh
      refine ⟨i, h1, ?_⟩
      rw [opt, decide_eq_true_eq, lst_eq hE, h2]
      rcases er hE h1 with ⟨e1, e2, e3⟩ | ⟨a, c, e1, e2, e3, e4, e5, e6⟩
      · rw [e1, lst_nil]; unfold ap at *; omega
      · rw [lst_eq e1]; rw [h2] at e5 e6; unfold ap at *; omega
  obtain ⟨i, h1, h2⟩ := key
  rcases bst_ok l s l.length with ⟨_, h⟩ | ⟨b, k1, k2, _, _⟩
  · have := h i h1
    rw [h2] at this
    cases this
  · exact ⟨b, k1, k2⟩

theorem StO.erase {l : List Int} {s : Int} (h : StO l s) (j : Nat) (hj : j < l.length) : StO (l.eraseIdx j) (l.getD j 0) := by
  refine ⟨by rw [List.length_eraseIdx_of_lt hj]; have := h.len; omega, fun x hx => h.r x (List.mem_of_mem_eraseIdx hx), h.r _ (idx_mem hj)⟩

noncomputable def X4 : Fx := ⟨Try.prog, tys, 4, Try.f4, [0]⟩
theorem X4_ok : X4.Ok := ⟨Try.func4, tys_ok⟩
set_option maxHeartbeats 2000000 in
theorem swS_ct (l : List Int) (ex : Bool) (s : Int) (hl : l.length ≤ 1048576) : Ct Try.prog 4 [.ro 1 ex (l.map i64), i64 s] (.tup [.own 1 false ((swL l s).map i64), i64 (swD l s), i64 (wcode l s)]) [] := by
  refine Ct.intro X4 X4_ok rfl (by kernel_rfl) rfl rfl fun g hg => ?_
  repeat (refine Run.go rfl ?_)
  refine Run.cs rfl (l07Walk_ct l ex s hl) rfl rfl ?_
  repeat (refine Run.go rfl ?_)
  refine Run.cond rfl (fun h => ?_) (fun h => ?_)
  · have h : wcode l s ≠ 0 := by simpa using h
    repeat (refine Run.go rfl ?_)
    refine Run.buildSlice [] rfl rfl rfl rfl rfl rfl rfl rfl rfl rfl rfl rfl rfl rfl ?_
    refine Run.loosen0 20 rfl ?_
    repeat (refine Run.go rfl ?_)
    refine Run.ret hg rfl ?_
    rw [swL, swD, if_neg h, if_neg h]
    rfl
  have h : wcode l s = 0 := by simpa using h
  have hO := wcode_ok h
  rw [swL, swD, if_pos h, if_pos h, h] at hg
  have hlen := hO.len
  repeat (refine Run.go rfl ?_)
  refine Run.cs rfl (l07Least_ct l ex s hO) rfl rfl ?_
  repeat (refine Run.go rfl ?_)
  refine Run.buildSlice [] rfl rfl rfl rfl rfl rfl rfl rfl rfl rfl rfl rfl rfl rfl ?_
  refine Run.unpack 25 rfl rfl ?_
  repeat (refine Run.go rfl ?_)
  refine Run.appendr rfl rfl rfl rfl rfl rfl rfl rfl rfl rfl rfl rfl rfl (one_i64 l) (by show (_ + _) * 8 ≤ _; simp; omega) (by simp [capMax]; omega) rfl ?_
  repeat (refine Run.go rfl ?_)
  refine Run.freeze 9 rfl rfl (show _ = AV.ro 1 false (l.map i64) by show AV.ro 1 false (AV.frzL ([] ++ l.map i64)) = _; rw [List.nil_append, frz64]) ?_
  refine Run.buildSlice [] rfl rfl rfl rfl rfl rfl rfl rfl rfl rfl rfl rfl rfl rfl ?_
  refine Run.loosen0 28 rfl ?_
  repeat (refine Run.go rfl ?_)
  refine Run.loop (fun z : List Int × Int × List Int => ⟨[(1, i64 z.2.1), (8, i64 (lst l s)), (9, .ro 1 false (z.1.map i64)), (10, .own 1 false (z.2.2.map i64))], []⟩) (fun z => z.2.2 ++ grd z.1.length z.1 z.2.1 = grd l.length l s ∧ StO z.1 z.2.1 ∧ z.2.2.length + z.1.length = l.length) (fun z => z.1.length) (l, s, []) ⟨rfl, hO, by simp⟩ ?_ ?_
  · exact St.Le.mk' ⟨rfl, rfl, rfl, rfl, trivial⟩ trivial
  rintro ⟨L, s', out⟩ ⟨hI1, hI2, hI3⟩ IH
  dsimp only at hI1 hI2 hI3 ⊢
  have hmL : (L.map i64).length = L.length := List.length_map ..
  have hLl : L.length ≤ 60 := hI2.len
  repeat (refine Run.go rfl ?_)
  refine Run.cond rfl (fun h => ?_) (fun h => ?_)
  rotate_left
  · have h0 : L = [] := by
      have := of_decide_eq_false h
      rw [hmL] at this
      exact List.length_eq_zero_iff.1 (by omega)
    subst h0
    rw [show grd ([] : List Int).length [] s' = [] from rfl, List.append_nil] at hI1
    subst hI1
    repeat (refine Run.go rfl ?_)
    first | exact Run.ret hg rfl rfl | (refine Run.pack 4 rfl rfl rfl ?_; exact Run.ret hg rfl rfl)
  have h0 : 0 < L.length := by
    have := of_decide_eq_true h
    rw [hmL] at this
    omega
  repeat (refine Run.go rfl ?_)
  refine Run.cs rfl (l07Least_ct L false s' hI2) rfl rfl ?_
  repeat (refine Run.go rfl ?_)
  refine Run.loopTo ⟨[(1, i64 s'), (8, i64 (lst l s)), (9, .ro 1 false (L.map i64)), (10, .own 1 false (out.map i64)), (11, i64 (bst L s' L.length))], []⟩ (fun k' hN => ?_) ?_
  · refine Run.loop (fun j : Nat => ⟨[(1, i64 s'), (8, i64 (lst l s)), (9, .ro 1 false (L.map i64)), (10, .own 1 false (out.map i64)), (11, i64 (bst L s' j)), (12, i64 (lst L s')), (13, i64 (j : Nat))], []⟩) (fun j => j ≤ L.length) (fun j => L.length - j) 0 (Nat.zero_le _) ?_ ?_
    · exact St.Le.mk' ⟨rfl, rfl, rfl, rfl, rfl, rfl, rfl, trivial⟩ trivial
    intro j hj IH2
    repeat (refine Run.go rfl ?_)
    refine Run.cond rfl (fun h => ?_) (fun h => ?_)
    rotate_left
    · have hj' : j = L.length := by
        have := of_decide_eq_false h
        rw [hmL] at this
        omega
      subst hj'
      repeat (refine Run.go rfl ?_)
      exact Run.of hN ⟨rfl, rfl, rfl, rfl, rfl, trivial⟩ trivial
    have hlt : j < L.length := by
      have := of_decide_eq_true h
      rw [hmL] at this
      omega
    have hw : IntKind.i64.wrap ((j : Nat) + 1 : Int) = ((j + 1 : Nat) : Int) := by rw [wrap_i64 (by omega) (by omega)]; rfl
    have hE : (L.map i64).take j ++ (L.map i64).drop (j + 1) = (L.eraseIdx j).map i64 := by rw [List.eraseIdx_eq_take_drop_succ, List.map_append, List.map_take, List.map_drop]
    have hat : (L.map i64)[((j : Nat) : Int).toNat]? = some (i64 (L.getD j 0)) := by rw [Int.toNat_natCast, List.getElem?_map, getD_at hlt]; rfl
    have hEO := hI2.erase j hlt
    have hyb := hEO.s
    have hsb := hI2.s
    have hb1 : 0 ≤ ap s' (L.getD j 0) ∧ ap s' (L.getD j 0) ≤ 999 := by unfold ap; omega
    have hb2 := lst_bd hEO.r hEO.s
    repeat (refine Run.go rfl ?_)
    have h1n : ∀ (A : List Int), oneC ((A.map i64).take j) = true ∧ oneC ((A.map i64).drop (j + 1)) = true := fun A => by rw [← List.map_take, ← List.map_drop]; exact ⟨one_i64 _, one_i64 _⟩
    have hfz : AV.frzL ((L.eraseIdx j).map i64) = (L.eraseIdx j).map i64 := frz64 _
    have hIH := IH2 (j + 1) (by omega) (by omega)
    refine Run.drawI (fun D => ⟨[(1, i64 s'), (8, i64 (lst l s)), (9, .ro 1 false (L.map i64)), (10, .own 1 false (out.map i64)), (11, i64 (bst L s' j)), (12, i64 (lst L s')), (13, i64 (j : Nat)), (41, bif D 4 then .top else bif D 0 then .own 1 true [] else .top), (42, bif D 1 then .ro 1 false (L.map i64) else .top), (43, bif D 2 then i64 (j : Nat) else .top), (44, bif D 3 then .ro 1 false ((L.map i64).take j) else .top), (45, bif D 9 then .top else bif D 4 then .own 1 false ((L.map i64).take j) else .top), (46, bif D 5 then .ro 1 false (L.map i64) else .top), (47, bif D 6 then i64 (j : Nat) else .top), (48, bif D 7 then i64 (j + 1 : Nat) else .top), (49, bif D 8 then .ro 1 false ((L.map i64).drop (j + 1)) else .top), (50, bif D 10 then .top else bif D 9 then .own 1 false ((L.eraseIdx j).map i64) else .top), (14, bif D 10 then .own 1 false ((L.eraseIdx j).map i64) else .top)], []⟩) (by decide +kernel) (by decide +kernel) ?_ ?_ fun k' => ⟨?_, ?_, ?_, ?_, ?_, ?_, ?_, ?_, ?_, ?_, ?_, trivial⟩
    · exact St.Le.mk' ⟨rfl, rfl, rfl, rfl, rfl, rfl, rfl, rfl, rfl, rfl, rfl, rfl, rfl, rfl, rfl, rfl, rfl, rfl, trivial⟩ trivial
    rotate_left
    · intro D hid h0 hp hs rest hK
      obtain ⟨d4, d10, -⟩ : AllD D false [4, 10] := ideal_sub hs (by decide +kernel)
      simp only [d4, d10, h0, cond_true, cond_false]
      refine Run.buildSlice [] rfl rfl rfl rfl rfl rfl rfl rfl rfl rfl rfl rfl rfl rfl ?_
      refine Run.le ?_ hK
      simp only [d4, d10, h0, Nat.reduceBEq, Bool.false_or, Bool.true_or, cond_true, cond_false]
      exact St.Le.mk' ⟨rfl, rfl, rfl, rfl, rfl, rfl, rfl, rfl, rfl, rfl, rfl, rfl, rfl, rfl, rfl, rfl, rfl, rfl, trivial⟩ trivial
    · intro D hid h0 hp hs rest hK
      obtain ⟨d3, d10, -⟩ : AllD D false [3, 10] := ideal_sub hs (by decide +kernel)
      simp only [d3, d10, h0, cond_true, cond_false]
      refine Run.go rfl ?_
      refine Run.le ?_ hK
      simp only [d3, d10, h0, Nat.reduceBEq, Bool.false_or, Bool.true_or, cond_true, cond_false]
      exact St.Le.mk' ⟨rfl, rfl, rfl, rfl, rfl, rfl, rfl, rfl, rfl, rfl, rfl, rfl, rfl, rfl, rfl, rfl, rfl, rfl, trivial⟩ trivial
    · intro D hid h0 hp hs rest hK
      obtain ⟨d3, d10, -⟩ : AllD D false [3, 10] := ideal_sub hs (by decide +kernel)
      simp only [d3, d10, h0, cond_true, cond_false]
      refine Run.go rfl ?_
      refine Run.le ?_ hK
      simp only [d3, d10, h0, Nat.reduceBEq, Bool.false_or, Bool.true_or, cond_true, cond_false]
      exact St.Le.mk' ⟨rfl, rfl, rfl, rfl, rfl, rfl, rfl, rfl, rfl, rfl, rfl, rfl, rfl, rfl, rfl, rfl, rfl, rfl, trivial⟩ trivial
    · intro D hid h0 hp hs rest hK
      obtain ⟨d1, d2, -⟩ : AllD D true [1, 2] := ideal_sub hp (by decide +kernel)
      obtain ⟨d4, d10, -⟩ : AllD D false [4, 10] := ideal_sub hs (by decide +kernel)
      simp only [d1, d2, d4, d10, h0, cond_true, cond_false]
      refine Run.val rfl rfl rfl (ValOk.cut (l := 0) (h := j) rfl rfl rfl rfl rfl rfl (by omega) (by omega) (by omega) rfl) rfl ?_
      refine Run.le ?_ hK
      simp only [d1, d2, d4, d10, h0, Nat.reduceBEq, Bool.false_or, Bool.true_or, cond_true, cond_false]
      exact St.Le.mk' ⟨rfl, rfl, rfl, rfl, rfl, rfl, rfl, rfl, rfl, rfl, rfl, rfl, rfl, rfl, rfl, rfl, rfl, rfl, trivial⟩ trivial
    · intro D hid h0 hp hs rest hK
      obtain ⟨d0, d3, -⟩ : AllD D true [0, 3] := ideal_sub hp (by decide +kernel)
      obtain ⟨d9, d10, -⟩ : AllD D false [9, 10] := ideal_sub hs (by decide +kernel)
      have d1 : D 1 = true := hid 3 1 (by decide +kernel) (by decide +kernel) d3
      have d2 : D 2 = true := hid 3 2 (by decide +kernel) (by decide +kernel) d3
      simp only [d0, d3, d9, d10, d1, d2, h0, cond_true, cond_false]
      refine Run.unpack 41 rfl (by cases D 5 <;> cases D 6 <;> cases D 7 <;> cases D 8 <;> rfl) ?_
      refine Run.appendr rfl rfl rfl rfl rfl rfl rfl rfl rfl rfl rfl rfl rfl (h1n L).1 (by show (0 + List.length _) * 8 ≤ _; rw [List.length_take]; omega) (by show 0 + List.length _ ≤ 9223372036854775807; rw [List.length_take]; omega) rfl ?_
      refine Run.forget 41 ?_
      refine Run.le ?_ hK
      simp only [d0, d3, d9, d10, d1, d2, h0, Nat.reduceBEq, Bool.false_or, Bool.true_or, cond_true, cond_false]
      exact St.Le.mk' ⟨rfl, rfl, rfl, rfl, rfl, rfl, rfl, rfl, rfl, rfl, rfl, rfl, rfl, rfl, rfl, rfl, rfl, rfl, trivial⟩ trivial
    · intro D hid h0 hp hs rest hK
      obtain ⟨d8, d10, -⟩ : AllD D false [8, 10] := ideal_sub hs (by decide +kernel)
      simp only [d8, d10, h0, cond_true, cond_false]
      refine Run.go rfl ?_
      refine Run.le ?_ hK
      simp only [d8, d10, h0, Nat.reduceBEq, Bool.false_or, Bool.true_or, cond_true, cond_false]
      exact St.Le.mk' ⟨rfl, rfl, rfl, rfl, rfl, rfl, rfl, rfl, rfl, rfl, rfl, rfl, rfl, rfl, rfl, rfl, rfl, rfl, trivial⟩ trivial
    · intro D hid h0 hp hs rest hK
      obtain ⟨d7, d10, -⟩ : AllD D false [7, 10] := ideal_sub hs (by decide +kernel)
      simp only [d7, d10, h0, cond_true, cond_false]
      refine Run.go rfl ?_
      refine Run.le ?_ hK
      simp only [d7, d10, h0, Nat.reduceBEq, Bool.false_or, Bool.true_or, cond_true, cond_false]
      exact St.Le.mk' ⟨rfl, rfl, rfl, rfl, rfl, rfl, rfl, rfl, rfl, rfl, rfl, rfl, rfl, rfl, rfl, rfl, rfl, rfl, trivial⟩ trivial
    · intro D hid h0 hp hs rest hK
      obtain ⟨d6, -⟩ : AllD D true [6] := ideal_sub hp (by decide +kernel)
      obtain ⟨d8, d10, -⟩ : AllD D false [8, 10] := ideal_sub hs (by decide +kernel)
      simp only [d6, d8, d10, h0, cond_true, cond_false]
      refine Run.go rfl ?_
      rw [hw]
      refine Run.le ?_ hK
      simp only [d6, d8, d10, h0, Nat.reduceBEq, Bool.false_or, Bool.true_or, cond_true, cond_false]
      exact St.Le.mk' ⟨rfl, rfl, rfl, rfl, rfl, rfl, rfl, rfl, rfl, rfl, rfl, rfl, rfl, rfl, rfl, rfl, rfl, rfl, trivial⟩ trivial
    · intro D hid h0 hp hs rest hK
      obtain ⟨d5, d7, -⟩ : AllD D true [5, 7] := ideal_sub hp (by decide +kernel)
      obtain ⟨d9, d10, -⟩ : AllD D false [9, 10] := ideal_sub hs (by decide +kernel)
      simp only [d5, d7, d9, d10, h0, cond_true, cond_false]
      refine Run.val rfl rfl rfl (ValOk.cut (l := (j + 1 : Nat)) (h := (L.map i64).length) rfl rfl rfl rfl rfl rfl (by omega) (by omega) (by omega) (by rw [Int.toNat_natCast, Int.toNat_natCast, List.take_length])) rfl ?_
      refine Run.le ?_ hK
      simp only [d5, d7, d9, d10, h0, Nat.reduceBEq, Bool.false_or, Bool.true_or, cond_true, cond_false]
      exact St.Le.mk' ⟨rfl, rfl, rfl, rfl, rfl, rfl, rfl, rfl, rfl, rfl, rfl, rfl, rfl, rfl, rfl, rfl, rfl, rfl, trivial⟩ trivial
    · intro D hid h0 hp hs rest hK
      obtain ⟨d4, d8, -⟩ : AllD D true [4, 8] := ideal_sub hp (by decide +kernel)
      obtain ⟨d10, -⟩ : AllD D false [10] := ideal_sub hs (by decide +kernel)
      have d0 : D 0 = true := hid 4 0 (by decide +kernel) (by decide +kernel) d4
      have d3 : D 3 = true := hid 4 3 (by decide +kernel) (by decide +kernel) d4
      have d1 : D 1 = true := hid 3 1 (by decide +kernel) (by decide +kernel) d3
      have d2 : D 2 = true := hid 3 2 (by decide +kernel) (by decide +kernel) d3
      have d5 : D 5 = true := hid 8 5 (by decide +kernel) (by decide +kernel) d8
      have d7 : D 7 = true := hid 8 7 (by decide +kernel) (by decide +kernel) d8
      have d6 : D 6 = true := hid 7 6 (by decide +kernel) (by decide +kernel) d7
      simp only [d4, d8, d10, d0, d3, d1, d2, d5, d7, d6, h0, cond_true, cond_false]
      refine Run.unpack 45 rfl rfl ?_
      refine Run.appendr rfl rfl rfl rfl rfl rfl rfl rfl rfl rfl rfl rfl rfl (h1n L).2 (by show (List.length _ + List.length _) * 8 ≤ _; rw [List.length_take, List.length_drop]; omega) (by show List.length _ + List.length _ ≤ 9223372036854775807; rw [List.length_take, List.length_drop]; omega) rfl ?_
      rw [hE]
      refine Run.forget 45 ?_
      refine Run.le ?_ hK
      simp only [d4, d8, d10, d0, d3, d1, d2, d5, d7, d6, h0, Nat.reduceBEq, Bool.false_or, Bool.true_or, cond_true, cond_false]
      exact St.Le.mk' ⟨rfl, rfl, rfl, rfl, rfl, rfl, rfl, rfl, rfl, rfl, rfl, rfl, rfl, rfl, rfl, rfl, rfl, rfl, trivial⟩ trivial
    · intro D hid h0 hp hs rest hK
      obtain ⟨d0, d1, d2, d3, d4, d5, d6, d7, d8, d9, -⟩ : AllD D true [0, 1, 2, 3, 4, 5, 6, 7, 8, 9] := ideal_sub hp (by decide +kernel)
      simp only [d0, d1, d2, d3, d4, d5, d6, d7, d8, d9, h0, cond_true, cond_false]
      refine Run.go rfl ?_
      refine Run.le ?_ hK
      simp only [d0, d1, d2, d3, d4, d5, d6, d7, d8, d9, h0, Nat.reduceBEq, Bool.false_or, Bool.true_or, cond_true, cond_false]
      exact St.Le.mk' ⟨rfl, rfl, rfl, rfl, rfl, rfl, rfl, rfl, rfl, rfl, rfl, rfl, rfl, rfl, rfl, rfl, rfl, rfl, trivial⟩ trivial
    refine Run.freeze 14 rfl rfl (show _ = AV.ro 1 false ((L.eraseIdx j).map i64) by show AV.ro 1 false (AV.frzL _) = _; rw [hfz]) ?_
    repeat (refine Run.go rfl ?_)
    refine Run.drawS ⟨[(1, i64 s'), (8, i64 (lst l s)), (9, .ro 1 false (L.map i64)), (10, .own 1 false (out.map i64)), (11, i64 (bst L s' j)), (12, i64 (lst L s')), (13, i64 (j : Nat)), (80, bo (opt L s' j && (decide (bst L s' j < 0) || decide (L.getD j 0 < L.getD (bst L s' j).toNat 0))))], []⟩ rfl (by kernel_rfl) ?_ ?_
    · repeat (refine Quiet.go rfl ?_)
      refine Quiet.val rfl rfl (ValOk.idx (i64 (L.getD j 0)) rfl rfl rfl rfl rfl (by omega) hat) rfl ?_
      repeat (refine Quiet.go rfl ?_)
      refine Quiet.cs rfl rfl rfl rfl rfl (l07Apart_ct s' (L.getD j 0) (by omega) (by omega)) rfl rfl ?_
      repeat (refine Quiet.go rfl ?_)
      refine Quiet.val rfl rfl (ValOk.idx (i64 (L.getD j 0)) rfl rfl rfl rfl rfl (by omega) hat) rfl ?_
      repeat (refine Quiet.go rfl ?_)
      refine Quiet.cs rfl rfl rfl rfl rfl (l07Least_ct (L.eraseIdx j) false (L.getD j 0) hEO) rfl rfl ?_
      repeat (refine Quiet.go rfl ?_)
      have hopt : (IntKind.i64.wrap (ap s' (L.getD j 0) + lst (L.eraseIdx j) (L.getD j 0)) == lst L s') = opt L s' j := by
        rw [wrap_i64 (by omega) (by omega), opt]
        exact Bool.eq_iff_iff.2 (by rw [beq_iff_eq, decide_eq_true_eq])
      refine Quiet.bool (b := opt L s' j) 66 (by show bo _ = _; rw [hopt]) (fun h1 => ?_) (fun h1 => ?_)
      · rw [h1]
        repeat (refine Quiet.go rfl ?_)
        refine Quiet.bool 69 rfl (fun h2 => ?_) (fun h2 => ?_)
        · repeat (refine Quiet.go rfl ?_)
          refine Quiet.nil (St.Le.mk' ⟨rfl, rfl, rfl, rfl, rfl, rfl, rfl, ?_, trivial⟩ trivial)
          rw [h2]
          rfl
        · have h2' := of_decide_eq_false h2
          rcases bst_ok L s' j with ⟨k1, _⟩ | ⟨b, k1, k2, _, _⟩
          · omega
          have hatb : (L.map i64)[((b : Nat) : Int).toNat]? = some (i64 (L.getD b 0)) := by rw [Int.toNat_natCast, List.getElem?_map, getD_at (by omega)]; rfl
          rw [h2, k1]
          repeat (refine Quiet.go rfl ?_)
          refine Quiet.val rfl rfl (ValOk.idx (i64 (L.getD j 0)) rfl rfl rfl rfl rfl (by omega) hat) rfl ?_
          repeat (refine Quiet.go rfl ?_)
          refine Quiet.val rfl rfl (ValOk.idx (i64 (L.getD b 0)) rfl rfl rfl rfl rfl (by omega) hatb) rfl ?_
          repeat (refine Quiet.go rfl ?_)
          exact Quiet.nil (St.Le.mk' ⟨rfl, rfl, rfl, rfl, rfl, rfl, rfl, rfl, trivial⟩ trivial)
      · rw [h1]
        repeat (refine Quiet.go rfl ?_)
        exact Quiet.nil (St.Le.mk' ⟨rfl, rfl, rfl, rfl, rfl, rfl, rfl, rfl, trivial⟩ trivial)
    refine Run.cond rfl (fun h => ?_) (fun h => ?_)
    · have hb : bst L s' (j + 1) = (j : Int) := by rw [bst, if_pos h]
      repeat (refine Run.go rfl ?_)
      refine Run.of hIH ⟨rfl, rfl, rfl, rfl, ?_, rfl, ?_, trivial⟩ trivial
      · rw [hb]; rfl
      · show i64 _ = _
        rw [hw]
    · have hb : bst L s' (j + 1) = bst L s' j := by rw [bst, if_neg (by rw [h]; decide)]
      repeat (refine Run.go rfl ?_)
      refine Run.of hIH ⟨rfl, rfl, rfl, rfl, ?_, rfl, ?_, trivial⟩ trivial
      · rw [hb]; rfl
      · show i64 _ = _
        rw [hw]
  obtain ⟨b, hb1, hb2⟩ := bst_ex (l := L) s' (by intro e; rw [e] at h0; simp at h0)
  obtain ⟨m, hm⟩ : ∃ m, L.length = m + 1 := ⟨L.length - 1, by omega⟩
  have hgr : grd (m + 1) L s' = L.getD b 0 :: grd m (L.eraseIdx b) (L.getD b 0) := grd_step hb1 rfl
  have hel : (L.eraseIdx b).length = m := by rw [List.length_eraseIdx_of_lt hb2]; omega
  have hIH := IH (L.eraseIdx b, L.getD b 0, out ++ [L.getD b 0]) ⟨by
    rw [hm, hgr] at hI1
    simp only
    rw [hel, ← hI1, List.append_assoc]
    rfl, hI2.erase b hb2, by simp only [List.length_append, List.length_cons, List.length_nil]; omega⟩ (by show (L.eraseIdx b).length < L.length; omega)
  simp only at hIH
  rw [hb1]
  have hw : IntKind.i64.wrap ((b : Nat) + 1 : Int) = ((b + 1 : Nat) : Int) := by rw [wrap_i64 (by omega) (by omega)]; rfl
  have hE : (L.map i64).take b ++ (L.map i64).drop (b + 1) = (L.eraseIdx b).map i64 := by rw [List.eraseIdx_eq_take_drop_succ, List.map_append, List.map_take, List.map_drop]
  have hat : (L.map i64)[((b : Nat) : Int).toNat]? = some (i64 (L.getD b 0)) := by rw [Int.toNat_natCast, List.getElem?_map, getD_at hb2]; rfl
  have h1n : ∀ (A : List Int), oneC ((A.map i64).take b) = true ∧ oneC ((A.map i64).drop (b + 1)) = true := fun A => by rw [← List.map_take, ← List.map_drop]; exact ⟨one_i64 _, one_i64 _⟩
  have hfz : AV.frzL ((L.eraseIdx b).map i64) = (L.eraseIdx b).map i64 := frz64 _
  repeat (refine Run.go rfl ?_)
  refine Run.val rfl rfl rfl (ValOk.idx (i64 (L.getD b 0)) rfl rfl rfl rfl rfl (by omega) hat) rfl ?_
  repeat (refine Run.go rfl ?_)
  refine Run.buildSlice [i64 (L.getD b 0)] rfl rfl rfl rfl rfl rfl rfl rfl rfl rfl rfl rfl rfl rfl ?_
  refine Run.appendo rfl rfl rfl rfl rfl rfl rfl rfl rfl rfl rfl rfl rfl rfl (by show (_ + 1) * 8 ≤ 140737488355328; simp; omega) (by simp [capMax]; omega) (by decide) rfl ?_
  repeat (refine Run.go rfl ?_)
  refine Run.le (st' := ⟨[(1, i64 (L.getD b 0)), (8, i64 (lst l s)), (9, .ro 1 false (L.map i64)), (10, .own 1 false ((out ++ [L.getD b 0]).map i64)), (11, i64 (b : Nat))], []⟩) (St.Le.mk' ⟨rfl, rfl, rfl, ?_, rfl, trivial⟩ trivial) ?_
  · rw [List.map_append]; rfl
  refine Run.drawI (fun D => ⟨[(1, i64 (L.getD b 0)), (8, i64 (lst l s)), (9, (bif D 10 then .own 1 false ((L.eraseIdx b).map i64) else .ro 1 false (L.map i64))), (10, .own 1 false ((out ++ [L.getD b 0]).map i64)), (11, i64 (b : Nat)), (90, bif D 4 then .top else bif D 0 then .own 1 true [] else .top), (91, bif D 1 then .ro 1 false (L.map i64) else .top), (92, bif D 2 then i64 (b : Nat) else .top), (93, bif D 3 then .ro 1 false ((L.map i64).take b) else .top), (94, bif D 9 then .top else bif D 4 then .own 1 false ((L.map i64).take b) else .top), (95, bif D 5 then .ro 1 false (L.map i64) else .top), (96, bif D 6 then i64 (b : Nat) else .top), (97, bif D 7 then i64 (b + 1 : Nat) else .top), (98, bif D 8 then .ro 1 false ((L.map i64).drop (b + 1)) else .top), (99, bif D 10 then .top else bif D 9 then .own 1 false ((L.eraseIdx b).map i64) else .top)], []⟩) (by decide +kernel) (by decide +kernel) ?_ ?_ fun k' => ⟨?_, ?_, ?_, ?_, ?_, ?_, ?_, ?_, ?_, ?_, ?_, trivial⟩
  · exact St.Le.mk' ⟨rfl, rfl, rfl, rfl, rfl, rfl, rfl, rfl, rfl, rfl, rfl, rfl, rfl, rfl, rfl, trivial⟩ trivial
  rotate_left
  · intro D hid h0 hp hs rest hK
    obtain ⟨d4, d10, -⟩ : AllD D false [4, 10] := ideal_sub hs (by decide +kernel)
    simp only [d4, d10, h0, cond_true, cond_false]
    refine Run.buildSlice [] rfl rfl rfl rfl rfl rfl rfl rfl rfl rfl rfl rfl rfl rfl ?_
    refine Run.le ?_ hK
    simp only [d4, d10, h0, Nat.reduceBEq, Bool.false_or, Bool.true_or, cond_true, cond_false]
    exact St.Le.mk' ⟨rfl, rfl, rfl, rfl, rfl, rfl, rfl, rfl, rfl, rfl, rfl, rfl, rfl, rfl, rfl, trivial⟩ trivial
  · intro D hid h0 hp hs rest hK
    obtain ⟨d3, d10, -⟩ : AllD D false [3, 10] := ideal_sub hs (by decide +kernel)
    simp only [d3, d10, h0, cond_true, cond_false]
    refine Run.go rfl ?_
    refine Run.le ?_ hK
    simp only [d3, d10, h0, Nat.reduceBEq, Bool.false_or, Bool.true_or, cond_true, cond_false]
    exact St.Le.mk' ⟨rfl, rfl, rfl, rfl, rfl, rfl, rfl, rfl, rfl, rfl, rfl, rfl, rfl, rfl, rfl, trivial⟩ trivial
  · intro D hid h0 hp hs rest hK
    obtain ⟨d3, d10, -⟩ : AllD D false [3, 10] := ideal_sub hs (by decide +kernel)
    simp only [d3, d10, h0, cond_true, cond_false]
    refine Run.go rfl ?_
    refine Run.le ?_ hK
    simp only [d3, d10, h0, Nat.reduceBEq, Bool.false_or, Bool.true_or, cond_true, cond_false]
    exact St.Le.mk' ⟨rfl, rfl, rfl, rfl, rfl, rfl, rfl, rfl, rfl, rfl, rfl, rfl, rfl, rfl, rfl, trivial⟩ trivial
  · intro D hid h0 hp hs rest hK
    obtain ⟨d1, d2, -⟩ : AllD D true [1, 2] := ideal_sub hp (by decide +kernel)
    obtain ⟨d4, d10, -⟩ : AllD D false [4, 10] := ideal_sub hs (by decide +kernel)
    simp only [d1, d2, d4, d10, h0, cond_true, cond_false]
    refine Run.val rfl rfl rfl (ValOk.cut (l := 0) (h := b) rfl rfl rfl rfl rfl rfl (by omega) (by omega) (by omega) rfl) rfl ?_
    refine Run.le ?_ hK
    simp only [d1, d2, d4, d10, h0, Nat.reduceBEq, Bool.false_or, Bool.true_or, cond_true, cond_false]
    exact St.Le.mk' ⟨rfl, rfl, rfl, rfl, rfl, rfl, rfl, rfl, rfl, rfl, rfl, rfl, rfl, rfl, rfl, trivial⟩ trivial
  · intro D hid h0 hp hs rest hK
    obtain ⟨d0, d3, -⟩ : AllD D true [0, 3] := ideal_sub hp (by decide +kernel)
    obtain ⟨d9, d10, -⟩ : AllD D false [9, 10] := ideal_sub hs (by decide +kernel)
    have d1 : D 1 = true := hid 3 1 (by decide +kernel) (by decide +kernel) d3
    have d2 : D 2 = true := hid 3 2 (by decide +kernel) (by decide +kernel) d3
    simp only [d0, d3, d9, d10, d1, d2, h0, cond_true, cond_false]
    refine Run.unpack 90 rfl (by cases D 5 <;> cases D 6 <;> cases D 7 <;> cases D 8 <;> rfl) ?_
    refine Run.appendr rfl rfl rfl rfl rfl rfl rfl rfl rfl rfl rfl rfl rfl (h1n L).1 (by show (0 + List.length _) * 8 ≤ _; rw [List.length_take]; omega) (by show 0 + List.length _ ≤ 9223372036854775807; rw [List.length_take]; omega) rfl ?_
    refine Run.forget 90 ?_
    refine Run.le ?_ hK
    simp only [d0, d3, d9, d10, d1, d2, h0, Nat.reduceBEq, Bool.false_or, Bool.true_or, cond_true, cond_false]
    exact St.Le.mk' ⟨rfl, rfl, rfl, rfl, rfl, rfl, rfl, rfl, rfl, rfl, rfl, rfl, rfl, rfl, rfl, trivial⟩ trivial
  · intro D hid h0 hp hs rest hK
    obtain ⟨d8, d10, -⟩ : AllD D false [8, 10] := ideal_sub hs (by decide +kernel)
    simp only [d8, d10, h0, cond_true, cond_false]
    refine Run.go rfl ?_
    refine Run.le ?_ hK
    simp only [d8, d10, h0, Nat.reduceBEq, Bool.false_or, Bool.true_or, cond_true, cond_false]
    exact St.Le.mk' ⟨rfl, rfl, rfl, rfl, rfl, rfl, rfl, rfl, rfl, rfl, rfl, rfl, rfl, rfl, rfl, trivial⟩ trivial
  · intro D hid h0 hp hs rest hK
    obtain ⟨d7, d10, -⟩ : AllD D false [7, 10] := ideal_sub hs (by decide +kernel)
    simp only [d7, d10, h0, cond_true, cond_false]
    refine Run.go rfl ?_
    refine Run.le ?_ hK
    simp only [d7, d10, h0, Nat.reduceBEq, Bool.false_or, Bool.true_or, cond_true, cond_false]
    exact St.Le.mk' ⟨rfl, rfl, rfl, rfl, rfl, rfl, rfl, rfl, rfl, rfl, rfl, rfl, rfl, rfl, rfl, trivial⟩ trivial
  · intro D hid h0 hp hs rest hK
    obtain ⟨d6, -⟩ : AllD D true [6] := ideal_sub hp (by decide +kernel)
    obtain ⟨d8, d10, -⟩ : AllD D false [8, 10] := ideal_sub hs (by decide +kernel)
    simp only [d6, d8, d10, h0, cond_true, cond_false]
    refine Run.go rfl ?_
    rw [hw]
    refine Run.le ?_ hK
    simp only [d6, d8, d10, h0, Nat.reduceBEq, Bool.false_or, Bool.true_or, cond_true, cond_false]
    exact St.Le.mk' ⟨rfl, rfl, rfl, rfl, rfl, rfl, rfl, rfl, rfl, rfl, rfl, rfl, rfl, rfl, rfl, trivial⟩ trivial
  · intro D hid h0 hp hs rest hK
    obtain ⟨d5, d7, -⟩ : AllD D true [5, 7] := ideal_sub hp (by decide +kernel)
    obtain ⟨d9, d10, -⟩ : AllD D false [9, 10] := ideal_sub hs (by decide +kernel)
    simp only [d5, d7, d9, d10, h0, cond_true, cond_false]
    refine Run.val rfl rfl rfl (ValOk.cut (l := (b + 1 : Nat)) (h := (L.map i64).length) rfl rfl rfl rfl rfl rfl (by omega) (by omega) (by omega) (by rw [Int.toNat_natCast, Int.toNat_natCast, List.take_length])) rfl ?_
    refine Run.le ?_ hK
    simp only [d5, d7, d9, d10, h0, Nat.reduceBEq, Bool.false_or, Bool.true_or, cond_true, cond_false]
    exact St.Le.mk' ⟨rfl, rfl, rfl, rfl, rfl, rfl, rfl, rfl, rfl, rfl, rfl, rfl, rfl, rfl, rfl, trivial⟩ trivial
  · intro D hid h0 hp hs rest hK
    obtain ⟨d4, d8, -⟩ : AllD D true [4, 8] := ideal_sub hp (by decide +kernel)
    obtain ⟨d10, -⟩ : AllD D false [10] := ideal_sub hs (by decide +kernel)
    have d0 : D 0 = true := hid 4 0 (by decide +kernel) (by decide +kernel) d4
    have d3 : D 3 = true := hid 4 3 (by decide +kernel) (by decide +kernel) d4
    have d1 : D 1 = true := hid 3 1 (by decide +kernel) (by decide +kernel) d3
    have d2 : D 2 = true := hid 3 2 (by decide +kernel) (by decide +kernel) d3
    have d5 : D 5 = true := hid 8 5 (by decide +kernel) (by decide +kernel) d8
    have d7 : D 7 = true := hid 8 7 (by decide +kernel) (by decide +kernel) d8
    have d6 : D 6 = true := hid 7 6 (by decide +kernel) (by decide +kernel) d7
    simp only [d4, d8, d10, d0, d3, d1, d2, d5, d7, d6, h0, cond_true, cond_false]
    refine Run.unpack 94 rfl rfl ?_
    refine Run.appendr rfl rfl rfl rfl rfl rfl rfl rfl rfl rfl rfl rfl rfl (h1n L).2 (by show (List.length _ + List.length _) * 8 ≤ _; rw [List.length_take, List.length_drop]; omega) (by show List.length _ + List.length _ ≤ 9223372036854775807; rw [List.length_take, List.length_drop]; omega) rfl ?_
    rw [hE]
    refine Run.forget 94 ?_
    refine Run.le ?_ hK
    simp only [d4, d8, d10, d0, d3, d1, d2, d5, d7, d6, h0, Nat.reduceBEq, Bool.false_or, Bool.true_or, cond_true, cond_false]
    exact St.Le.mk' ⟨rfl, rfl, rfl, rfl, rfl, rfl, rfl, rfl, rfl, rfl, rfl, rfl, rfl, rfl, rfl, trivial⟩ trivial
  · intro D hid h0 hp hs rest hK
    obtain ⟨d0, d1, d2, d3, d4, d5, d6, d7, d8, d9, -⟩ : AllD D true [0, 1, 2, 3, 4, 5, 6, 7, 8, 9] := ideal_sub hp (by decide +kernel)
    simp only [d0, d1, d2, d3, d4, d5, d6, d7, d8, d9, h0, cond_true, cond_false]
    refine Run.go rfl ?_
    refine Run.le ?_ hK
    simp only [d0, d1, d2, d3, d4, d5, d6, d7, d8, d9, h0, Nat.reduceBEq, Bool.false_or, Bool.true_or, cond_true, cond_false]
    exact St.Le.mk' ⟨rfl, rfl, rfl, rfl, rfl, rfl, rfl, rfl, rfl, rfl, rfl, rfl, rfl, rfl, rfl, trivial⟩ trivial
  refine Run.freeze 9 rfl rfl (show _ = AV.ro 1 false ((L.eraseIdx b).map i64) by show AV.ro 1 false (AV.frzL _) = _; rw [hfz]) ?_
  repeat (refine Run.go rfl ?_)
  exact Run.of hIH ⟨rfl, rfl, rfl, rfl, trivial⟩ trivial
end Go.Proofs.Ytcfkdcjindhnjaa
