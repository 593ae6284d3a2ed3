/- Contracts of the program's functions, and what follows from them. -/
import Derived.Test.YtofakfkmglmhoaaGreatK20
set_option linter.unusedVariables false
set_option maxRecDepth 100000
set_option linter.unusedSimpArgs false
namespace Go.Proofs.YtofakfkmglmhoaaGreat
open Go Go.Av

/-! A drawn rack; drawn years. -/

noncomputable def X23 : Fx := ⟨Tryz.prog, tys, 23, Tryz.f23, [0]⟩
theorem X23_ok : X23.Ok := ⟨Tryz.func23, tys_ok⟩
set_option maxHeartbeats 8000000 in
theorem l05Drawn_ct (ex : Bool) (C : List Int) (hC : C.length ≤ 1048576) (hb : ∀ x ∈ C, 0 ≤ x ∧ x ≤ 255) (n s : Int) (hn : 0 ≤ n ∧ n ≤ 999800000) :
    ∃ (r : Rk) (n' s' : Int), VR r.pl r.bs ∧ (∀ x ∈ r.bs, bkRng x.b) ∧ (n ≤ n' ∧ n' ≤ n + 1000) ∧ CtG Tryz.prog 23 [.bp lid 0] (.box (srcL ex C n s)) (rkO false r) (.box (srcL ex C n' s')) := by
  obtain ⟨L, n1, s1, hL, hLb, hn1, c1⟩ := l01Drawn_ct ex C hC hb n s (by omega)
  have cS := l01Sorted_ct L true false (fun x hx => (hLb x hx).1) (by omega)
  obtain ⟨hS1, hS2, hS3⟩ := srtL_ok L (fun x hx => (hLb x hx).1) [] List.Pairwise.nil (by simp)
  have hS : Srt (srtL L) := hS1
  have hSl : (srtL L).length = L.length := by simpa [srtL] using hS2
  have hSm : ∀ y ∈ srtL L, bOk y := fun y hy => by
    rcases hS3 y hy with h | h
    · exact hLb y h
    · simp at h
  clear hS1 hS2 hS3
  generalize srtL L = S at cS hS hSl hSm
  obtain ⟨p, n2, s2, hp, hn2, c2⟩ := pick_ct ex C hC hb n1 s1 5 (by omega) (by omega)
  obtain ⟨q, n3, s3, hq, hn3, c3⟩ := pick_ct ex C hC hb n2 s2 4 (by omega) (by omega)
  obtain ⟨P, hP⟩ : ∃ P : Nat, (P : Int) = if (S.length : Int) + p = 0 then 1 + q else (S.length : Int) + p := ⟨(if (S.length : Int) + p = 0 then 1 + q else (S.length : Int) + p).toNat, by split <;> omega⟩
  obtain ⟨n4, hn4e⟩ : ∃ n4 : Int, n4 = if (S.length : Int) + p = 0 then n3 else n2 := ⟨_, rfl⟩
  obtain ⟨s4, hs4e⟩ : ∃ s4 : Int, s4 = if (S.length : Int) + p = 0 then s3 else s2 := ⟨_, rfl⟩
  have hn4 : n ≤ n4 ∧ n4 ≤ n + 210 := by rw [hn4e]; split <;> omega
  have hPb : 1 ≤ P ∧ S.length ≤ P ∧ P ≤ 20 := by
    split at hP <;> omega
  obtain ⟨f0, hf0⟩ : ∃ f0 : Nat, P = S.length + f0 := ⟨P - S.length, by omega⟩
  obtain ⟨F, hF⟩ := one_fn ex C hC hb 4 (by omega)
  have hF1 : ∀ p : Int × Int, 0 ≤ p.1 ∧ p.1 ≤ 999999999 → p.1 ≤ (F p).2.1 ∧ (F p).2.1 ≤ p.1 + 2 := fun p h => (hF p h).1
  have hF2 := fun (p : Int × Int) (h : 0 ≤ p.1 ∧ p.1 ≤ 999999999) => (hF p h).2
  have hdr := drP_ok hF1 S 0 f0 (n4, s4) (by show 0 ≤ n4; omega) (by show n4 + _ ≤ _; omega)
  obtain ⟨hV, hBr⟩ := dr_VR hdr hSm hS (by omega)
  rw [← hf0] at hV
  have hnb := hdr.n
  generalize hout : drP F S 0 f0 (n4, s4) = out at hdr hV hBr hnb
  obtain ⟨bs, n', s'⟩ := out
  simp only at hV hBr hnb
  refine ⟨⟨(P : Nat), bs⟩, n', s', hV, hBr, by omega, ?_⟩
  refine CtG.intro X23 X23_ok rfl (by kernel_rfl) rfl rfl rfl rfl rfl fun g v0 hg => ?_
  repeat (refine Run.go rfl ?_)
  refine Run.callG lid rfl rfl rfl rfl rfl rfl rfl rfl c1 rfl rfl ?_
  refine Run.freeze (v' := .ro 8 false (L.map bkA)) 10 rfl rfl (by show AV.ro _ _ (AV.frzL _) = _; rw [frzB]) ?_
  repeat (refine Run.go rfl ?_)
  refine Run.buildSlice usl rfl rfl rfl rfl rfl rfl rfl rfl rfl rfl rfl rfl rfl rfl ?_
  refine Run.freeze (v' := .ro 1 true usl) 11 rfl rfl rfl ?_
  repeat (refine Run.go rfl ?_)
  refine Run.cs rfl cS rfl (rfB _) ?_
  refine Run.freeze (v' := .ro 8 false (S.map bkA)) 13 rfl rfl (by show AV.ro _ _ (AV.frzL _) = _; rw [frzB]) ?_
  repeat (refine Run.go rfl ?_)
  refine Run.callG lid rfl rfl rfl rfl rfl rfl rfl rfl c2 rfl rfl ?_
  repeat (refine Run.go rfl ?_)
  have hml : ((S.map bkA).length : Nat) = S.length := hmb S
  have e1 : IntKind.i64.wrap (((S.map bkA).length : Nat) + p) = (S.length : Int) + p := by rw [hml, wrap_i64 (by omega) (by omega)]
  rw [e1]
  refine Run.condJ ⟨[(0, .bp lid 0), (2, .bp (2, 0) 0), (3, .ro 8 false (S.map bkA)), (4, i64 (P : Nat))], [(lid, .box (srcL ex C n4 s4)), (lidT, .tie v0 lid), ((2, 0), .box [i16 0, .lit (.slice none 0 0)])]⟩ rfl (fun h k' hN => ?_) (fun h k' hN => ?_) ?_
  · have h : (S.length : Int) + p = 0 := by simpa using h
    rw [if_pos h] at hP hn4e hs4e
    subst hn4e; subst hs4e
    repeat (refine Run.go rfl ?_)
    refine Run.callG lid rfl rfl rfl rfl rfl rfl rfl rfl c3 rfl rfl ?_
    repeat (refine Run.go rfl ?_)
    refine Run.of hN ⟨rfl, rfl, rfl, ?_, trivial⟩ ⟨rfl, rfl, rfl, trivial⟩
    show i64 (IntKind.i64.wrap (1 + q)) = _
    rw [wrap_i64 (by omega) (by omega), hP]
  · have h : ¬ (S.length : Int) + p = 0 := by simpa using h
    rw [if_neg h] at hP hn4e hs4e
    subst hn4e; subst hs4e
    repeat (refine Run.go rfl ?_)
    refine Run.of hN ⟨rfl, rfl, rfl, ?_, trivial⟩ ⟨rfl, rfl, rfl, trivial⟩
    show i64 ((S.length : Int) + p) = _
    rw [hP]
  have e16 : IntKind.i16.wrap (P : Nat) = (P : Nat) := wrap_i16 (by omega) (by omega)
  have e2 : IntKind.i64.wrap ((P : Nat) - ((S.map bkA).length : Nat)) = (f0 : Nat) := by rw [hml, wrap_i64 (by omega) (by omega)]; omega
  repeat (refine Run.go rfl ?_)
  refine Run.val rfl rfl rfl (ValOk.build (cs := [i16 (IntKind.i16.wrap (P : Nat)), .lit (.slice none 0 0)]) rfl rfl rfl rfl rfl) rfl ?_
  repeat (refine Run.go rfl ?_)
  refine Run.nilBox (5, 0) 1 9 false rfl rfl ?_
  refine Run.loop (fun z : Nat × List Pl × Nat × Nat × Int × Int => ⟨[(0, .bp lid 0), (2, .bp (2, 0) 0), (3, .ro 8 false (S.map bkA)), (5, .bp (5, 0) 0), (6, i64 (z.2.2.2.1 : Nat)), (7, i64 (z.2.2.1 : Nat)), (8, i64 (z.1 : Nat))],
    [(lid, .box (srcL ex C z.2.2.2.2.1 z.2.2.2.2.2)), (lidT, .tie v0 lid), ((2, 0), .box [i16 0, .lit (.slice none 0 0)]), ((5, 0), .box [i16 (P : Nat), .own 9 false (z.2.1.map plA)])]⟩)
    (fun z => z.1 ≤ S.length ∧ (z.2.1 ++ (drP F (S.drop z.1) z.2.2.1 z.2.2.2.1 z.2.2.2.2).1, (drP F (S.drop z.1) z.2.2.1 z.2.2.2.1 z.2.2.2.2).2) = (bs, n', s') ∧ z.2.2.1 + z.2.2.2.1 + (S.length - z.1) = P ∧ (0 ≤ z.2.2.2.2.1 ∧ z.2.2.2.2.1 + 2 * ((z.2.2.2.1 + (S.length - z.1) : Nat) : Int) ≤ 999900000) ∧ z.2.1.length = z.1)
    (fun z => S.length - z.1) (0, [], 0, f0, n4, s4) ⟨Nat.zero_le _, ?_, by show 0 + f0 + (S.length - 0) = P; omega, by show 0 ≤ n4 ∧ n4 + 2 * ((f0 + (S.length - 0) : Nat) : Int) ≤ _; omega, rfl⟩ ?_ ?_
  · show ([] ++ (drP F S 0 f0 (n4, s4)).1, (drP F S 0 f0 (n4, s4)).2) = _
    rw [hout]
    rfl
  · refine St.Le.mk' ⟨rfl, rfl, rfl, rfl, ?_, rfl, rfl, trivial⟩ ⟨rfl, rfl, rfl, ?_, trivial⟩
    · show i64 (IntKind.i64.wrap ((P : Nat) - ((S.map bkA).length : Nat))) = _
      rw [e2]
    · show Ob.box [i16 (IntKind.i16.wrap (P : Nat)), .own 9 false []] = _
      rw [e16]
      rfl
  rintro ⟨i, B, a, f, p0⟩ ⟨hi, hd, haf, hp0, hBl⟩ IH
  simp only at hi hd haf hp0 hBl IH
  repeat (refine Run.go rfl ?_)
  refine Run.cond rfl (fun h => ?_) (fun h => ?_)
  · have hlt : i < S.length := by simpa using h
    have hat : (S.map bkA)[((i : Int)).toNat]? = some (bkA S[i]) := by simp [hlt]
    rw [List.drop_eq_getElem_cons hlt, drP] at hd
    obtain ⟨i1, i2, i3⟩ := inn_ok hF1 f p0 hp0.1 (by omega)
    have i4 := inn_n hF1 f p0 hp0.1 (by omega)
    obtain ⟨⟨f2, p2⟩, hQ⟩ : ∃ z, z = inn F f p0 := ⟨_, rfl⟩
    rw [← hQ] at hd i1 i2 i3 i4
    simp only at hd i1 i2 i3 i4
    repeat (refine Run.go rfl ?_)
    refine Run.loopJ ⟨[(0, .bp lid 0), (2, .bp (2, 0) 0), (3, .ro 8 false (S.map bkA)), (5, .bp (5, 0) 0), (6, i64 (f2 : Nat)), (7, i64 ((a + (f - f2) : Nat) : Int)), (8, i64 (i : Nat))],
      [(lid, .box (srcL ex C p2.1 p2.2)), (lidT, .tie v0 lid), ((2, 0), .box [i16 0, .lit (.slice none 0 0)]), ((5, 0), .box [i16 (P : Nat), .own 9 false (B.map plA)])]⟩ (fun k' hN => ?_) ?_
    · refine Run.loop (fun z : Nat × Nat × Int × Int => ⟨[(0, .bp lid 0), (2, .bp (2, 0) 0), (3, .ro 8 false (S.map bkA)), (5, .bp (5, 0) 0), (6, i64 (z.2.1 : Nat)), (7, i64 (z.1 : Nat)), (8, i64 (i : Nat))],
        [(lid, .box (srcL ex C z.2.2.1 z.2.2.2)), (lidT, .tie v0 lid), ((2, 0), .box [i16 0, .lit (.slice none 0 0)]), ((5, 0), .box [i16 (P : Nat), .own 9 false (B.map plA)])]⟩)
        (fun z => inn F z.2.1 z.2.2 = (f2, p2) ∧ z.1 + z.2.1 = a + f ∧ (0 ≤ z.2.2.1 ∧ z.2.2.1 + 2 * (z.2.1 : Nat) ≤ 999999990)) (fun z => z.2.1) (a, f, p0) ⟨hQ.symm, rfl, by show 0 ≤ p0.1 ∧ p0.1 + 2 * (f : Nat) ≤ _; omega⟩ ?_ ?_
      · exact St.Le.mk' ⟨rfl, rfl, rfl, rfl, rfl, rfl, rfl, trivial⟩ ⟨rfl, rfl, rfl, rfl, trivial⟩
      rintro ⟨a1, f1, p1⟩ ⟨hin, haf1, hp1⟩ IH2
      simp only at hin haf1 hp1 IH2
      repeat (refine Run.go rfl ?_)
      refine Run.bool 39 rfl (fun h => ?_) (fun h => ?_)
      · have h : decide (((f1 : Nat) : Int) > 0) = true := h
        have h : 0 < f1 := by have := of_decide_eq_true h; omega
        obtain ⟨f3, rfl⟩ : ∃ f3, f1 = f3 + 1 := ⟨f1 - 1, by omega⟩
        have hc1 := hF2 p1 (by omega)
        have hc2 := hF1 p1 (by omega)
        rw [inn] at hin
        repeat (refine Run.go rfl ?_)
        refine Run.callG lid rfl rfl rfl rfl rfl rfl rfl rfl hc1 rfl rfl ?_
        repeat (refine Run.go rfl ?_)
        refine Run.cond rfl (fun hbt => ?_) (fun hbt => ?_)
        · have hbt : (F p1).1 = true := hbt
          rw [if_pos hbt] at hin
          repeat (refine Run.go rfl ?_)
          refine Run.of (IH2 (a1 + 1, f3, (F p1).2) ⟨hin, by show a1 + 1 + f3 = a + f; omega, by show 0 ≤ (F p1).2.1 ∧ (F p1).2.1 + 2 * (f3 : Nat) ≤ _; omega⟩ (by show f3 < f3 + 1; omega)) ⟨rfl, rfl, rfl, rfl, ?_, ?_, rfl, trivial⟩ ⟨rfl, rfl, rfl, rfl, trivial⟩
          · show i64 (IntKind.i64.wrap (((f3 + 1 : Nat) : Int) - 1)) = i64 (f3 : Nat)
            rw [wrap_i64 (by omega) (by omega)]
            congr 1
            omega
          · show i64 (IntKind.i64.wrap ((a1 : Nat) + 1)) = i64 ((a1 + 1 : Nat) : Int)
            rw [wrap_i64 (by omega) (by omega)]
            rfl
        · have hbt : ¬ (F p1).1 = true := by
            have hbt : (F p1).1 = false := hbt
            rw [hbt]; decide
          rw [if_neg hbt] at hin
          obtain ⟨rfl, rfl⟩ := Prod.mk.inj hin
          repeat (refine Run.go rfl ?_)
          refine Run.of hN ⟨rfl, rfl, rfl, rfl, rfl, ?_, rfl, trivial⟩ ⟨rfl, rfl, rfl, rfl, trivial⟩
          show i64 (a1 : Nat) = i64 ((a + (f - (f3 + 1)) : Nat) : Int)
          congr 2
          omega
      · have h : decide (((f1 : Nat) : Int) > 0) = false := h
        have h : f1 = 0 := by have := of_decide_eq_false h; omega
        subst h
        rw [inn] at hin
        obtain ⟨rfl, rfl⟩ := Prod.mk.inj hin
        repeat (refine Run.go rfl ?_)
        refine Run.cond rfl (fun h => by simp at h) (fun _ => ?_)
        repeat (refine Run.go rfl ?_)
        refine Run.of hN ⟨rfl, rfl, rfl, rfl, rfl, ?_, rfl, trivial⟩ ⟨rfl, rfl, rfl, rfl, trivial⟩
        show i64 (a1 : Nat) = i64 ((a + (f - 0) : Nat) : Int)
        rw [show a1 = a + (f - 0) by omega]
    generalize hx : S[i] = x at hd hat
    generalize ha2 : a + (f - f2) = a2 at hd
    have ha16 : IntKind.i16.wrap (a2 : Nat) = (a2 : Nat) := wrap_i16 (by omega) (by omega)
    have hDm : (B.map plA).length = B.length := List.length_map ..
    repeat (refine Run.go rfl ?_)
    refine Run.unBox (5, 0) 1 (5, 1) rfl rfl rfl (by decide) ?_
    rw [hDm]
    refine Run.drawI (fun D => ⟨[(0, .bp lid 0), (2, .bp (2, 0) 0), (3, .ro 8 false (S.map bkA)), (5, .bp (5, 0) 0), (6, i64 (f2 : Nat)), (7, i64 (a2 : Nat)), (8, i64 (i : Nat)), (47, bif D 0 then .bp (5, 0) 1 else .top), (48, bif D 1 then .vec (5, 1) 0 B.length else .top), (49, bif D 2 then i64 (a2 : Nat) else .top), (50, bif D 3 then i16 (a2 : Nat) else .top), (51, bif D 4 then .ro 8 false (S.map bkA) else .top), (52, bif D 5 then i64 (i : Nat) else .top), (53, bif D 6 then .rp (bkA x).cells 0 else .top), (54, bif D 7 then bkA x else .top), (55, bif D 8 then plA ⟨(a2 : Nat), x⟩ else .top), (56, bif D 10 then .top else bif D 9 then .own 9 true [plA ⟨(a2 : Nat), x⟩] else .top), (57, bif D 12 then .top else bif D 10 then .own 9 false ((B.map plA) ++ [plA ⟨(a2 : Nat), x⟩]) else .top), (58, bif D 11 then .bp (5, 0) 1 else .top)], [(lid, Ob.box (srcL ex C p2.1 p2.2)), (lidT, Ob.tie v0 lid), ((2, 0), Ob.box [i16 0, .lit (.slice none 0 0)]), ((5, 0), (bif D 12 then Ob.box [i16 (P : Nat), .vec (57, 0) 0 ((B.map plA) ++ [plA ⟨(a2 : Nat), x⟩]).length] else Ob.box [i16 (P : Nat), .vec (5, 1) 0 B.length])), ((5, 1), (bif D 10 then Ob.gone else Ob.vec 9 false (B.map plA))), ((57, 0), (bif D 12 then Ob.vec 9 false ((B.map plA) ++ [plA ⟨(a2 : Nat), x⟩]) else Ob.gone))]⟩) (by decide +kernel) (by decide +kernel) ?_ ?_ fun k' => ⟨?_, ?_, ?_, ?_, ?_, ?_, ?_, ?_, ?_, ?_, ?_, ?_, ?_, trivial⟩
    · exact St.Le.mk' ⟨rfl, rfl, rfl, rfl, rfl, rfl, rfl, rfl, rfl, rfl, rfl, rfl, rfl, rfl, rfl, rfl, rfl, rfl, rfl, trivial⟩ ⟨rfl, rfl, rfl, rfl, rfl, rfl, trivial⟩
    rotate_left
    · intro D hid h0 hp hs rest hK
      obtain ⟨d1, d11, d12, -⟩ : AllD D false [1, 11, 12] := ideal_sub hs (by decide +kernel)
      simp only [d1, d11, d12, h0, cond_true, cond_false]
      refine Run.go rfl ?_
      refine Run.le ?_ hK
      simp only [d1, d11, d12, h0, Nat.reduceBEq, Bool.false_or, Bool.true_or, cond_true, cond_false]
      exact St.Le.mk' ⟨rfl, rfl, rfl, rfl, rfl, rfl, rfl, rfl, rfl, rfl, rfl, rfl, rfl, rfl, rfl, rfl, rfl, rfl, rfl, trivial⟩ ⟨rfl, rfl, rfl, rfl, rfl, rfl, trivial⟩
    · intro D hid h0 hp hs rest hK
      obtain ⟨d0, -⟩ : AllD D true [0] := ideal_sub hp (by decide +kernel)
      obtain ⟨d10, d11, d12, -⟩ : AllD D false [10, 11, 12] := ideal_sub hs (by decide +kernel)
      have d12 : D 12 = false := ideal_no (i := 12) (j := 1) hid (by decide +kernel) h0
      simp only [d0, d10, d11, d12, d12, h0, cond_true, cond_false]
      refine Run.go rfl ?_
      refine Run.le ?_ hK
      simp only [d0, d10, d11, d12, d12, h0, Nat.reduceBEq, Bool.false_or, Bool.true_or, cond_true, cond_false]
      exact St.Le.mk' ⟨rfl, rfl, rfl, rfl, rfl, rfl, rfl, rfl, rfl, rfl, rfl, rfl, rfl, rfl, rfl, rfl, rfl, rfl, rfl, trivial⟩ ⟨rfl, rfl, rfl, rfl, rfl, rfl, trivial⟩
    · intro D hid h0 hp hs rest hK
      obtain ⟨d3, d11, d12, -⟩ : AllD D false [3, 11, 12] := ideal_sub hs (by decide +kernel)
      simp only [d3, d11, d12, h0, cond_true, cond_false]
      refine Run.go rfl ?_
      refine Run.le ?_ hK
      simp only [d3, d11, d12, h0, Nat.reduceBEq, Bool.false_or, Bool.true_or, cond_true, cond_false]
      exact St.Le.mk' ⟨rfl, rfl, rfl, rfl, rfl, rfl, rfl, rfl, rfl, rfl, rfl, rfl, rfl, rfl, rfl, rfl, rfl, rfl, rfl, trivial⟩ ⟨rfl, rfl, rfl, rfl, rfl, rfl, trivial⟩
    · intro D hid h0 hp hs rest hK
      obtain ⟨d2, -⟩ : AllD D true [2] := ideal_sub hp (by decide +kernel)
      obtain ⟨d8, d11, d12, -⟩ : AllD D false [8, 11, 12] := ideal_sub hs (by decide +kernel)
      simp only [d2, d8, d11, d12, h0, cond_true, cond_false]
      refine Run.go rfl ?_
      rw [ha16]
      refine Run.le ?_ hK
      simp only [d2, d8, d11, d12, h0, Nat.reduceBEq, Bool.false_or, Bool.true_or, cond_true, cond_false]
      exact St.Le.mk' ⟨rfl, rfl, rfl, rfl, rfl, rfl, rfl, rfl, rfl, rfl, rfl, rfl, rfl, rfl, rfl, rfl, rfl, rfl, rfl, trivial⟩ ⟨rfl, rfl, rfl, rfl, rfl, rfl, trivial⟩
    · intro D hid h0 hp hs rest hK
      obtain ⟨d6, d11, d12, -⟩ : AllD D false [6, 11, 12] := ideal_sub hs (by decide +kernel)
      simp only [d6, d11, d12, h0, cond_true, cond_false]
      refine Run.go rfl ?_
      refine Run.le ?_ hK
      simp only [d6, d11, d12, h0, Nat.reduceBEq, Bool.false_or, Bool.true_or, cond_true, cond_false]
      exact St.Le.mk' ⟨rfl, rfl, rfl, rfl, rfl, rfl, rfl, rfl, rfl, rfl, rfl, rfl, rfl, rfl, rfl, rfl, rfl, rfl, rfl, trivial⟩ ⟨rfl, rfl, rfl, rfl, rfl, rfl, trivial⟩
    · intro D hid h0 hp hs rest hK
      obtain ⟨d6, d11, d12, -⟩ : AllD D false [6, 11, 12] := ideal_sub hs (by decide +kernel)
      simp only [d6, d11, d12, h0, cond_true, cond_false]
      refine Run.go rfl ?_
      refine Run.le ?_ hK
      simp only [d6, d11, d12, h0, Nat.reduceBEq, Bool.false_or, Bool.true_or, cond_true, cond_false]
      exact St.Le.mk' ⟨rfl, rfl, rfl, rfl, rfl, rfl, rfl, rfl, rfl, rfl, rfl, rfl, rfl, rfl, rfl, rfl, rfl, rfl, rfl, trivial⟩ ⟨rfl, rfl, rfl, rfl, rfl, rfl, trivial⟩
    · intro D hid h0 hp hs rest hK
      obtain ⟨d4, d5, -⟩ : AllD D true [4, 5] := ideal_sub hp (by decide +kernel)
      obtain ⟨d7, d11, d12, -⟩ : AllD D false [7, 11, 12] := ideal_sub hs (by decide +kernel)
      simp only [d4, d5, d7, d11, d12, h0, cond_true, cond_false]
      refine Run.val rfl rfl rfl (ValOk.idx (bkA x) rfl rfl rfl rfl rfl (by omega) hat) rfl ?_
      refine Run.le ?_ hK
      simp only [d4, d5, d7, d11, d12, h0, Nat.reduceBEq, Bool.false_or, Bool.true_or, cond_true, cond_false]
      exact St.Le.mk' ⟨rfl, rfl, rfl, rfl, rfl, rfl, rfl, rfl, rfl, rfl, rfl, rfl, rfl, rfl, rfl, rfl, rfl, rfl, rfl, trivial⟩ ⟨rfl, rfl, rfl, rfl, rfl, rfl, trivial⟩
    · intro D hid h0 hp hs rest hK
      obtain ⟨d6, -⟩ : AllD D true [6] := ideal_sub hp (by decide +kernel)
      obtain ⟨d8, d11, d12, -⟩ : AllD D false [8, 11, 12] := ideal_sub hs (by decide +kernel)
      simp only [d6, d8, d11, d12, h0, cond_true, cond_false]
      refine Run.go rfl ?_
      refine Run.le ?_ hK
      simp only [d6, d8, d11, d12, h0, Nat.reduceBEq, Bool.false_or, Bool.true_or, cond_true, cond_false]
      exact St.Le.mk' ⟨rfl, rfl, rfl, rfl, rfl, rfl, rfl, rfl, rfl, rfl, rfl, rfl, rfl, rfl, rfl, rfl, rfl, rfl, rfl, trivial⟩ ⟨rfl, rfl, rfl, rfl, rfl, rfl, trivial⟩
    · intro D hid h0 hp hs rest hK
      obtain ⟨d3, d7, -⟩ : AllD D true [3, 7] := ideal_sub hp (by decide +kernel)
      obtain ⟨d9, d11, d12, -⟩ : AllD D false [9, 11, 12] := ideal_sub hs (by decide +kernel)
      simp only [d3, d7, d9, d11, d12, h0, cond_true, cond_false]
      refine Run.val rfl rfl rfl (ValOk.build rfl rfl rfl rfl rfl) rfl ?_
      refine Run.le ?_ hK
      simp only [d3, d7, d9, d11, d12, h0, Nat.reduceBEq, Bool.false_or, Bool.true_or, cond_true, cond_false]
      exact St.Le.mk' ⟨rfl, rfl, rfl, rfl, rfl, rfl, rfl, rfl, rfl, rfl, rfl, rfl, rfl, rfl, rfl, rfl, rfl, rfl, rfl, trivial⟩ ⟨rfl, rfl, rfl, rfl, rfl, rfl, trivial⟩
    · intro D hid h0 hp hs rest hK
      obtain ⟨d8, -⟩ : AllD D true [8] := ideal_sub hp (by decide +kernel)
      obtain ⟨d10, d11, d12, -⟩ : AllD D false [10, 11, 12] := ideal_sub hs (by decide +kernel)
      simp only [d8, d10, d11, d12, h0, cond_true, cond_false]
      refine Run.buildSlice [plA ⟨(a2 : Nat), x⟩] rfl rfl rfl rfl rfl rfl rfl rfl rfl rfl rfl rfl rfl rfl ?_
      refine Run.le ?_ hK
      simp only [d8, d10, d11, d12, h0, Nat.reduceBEq, Bool.false_or, Bool.true_or, cond_true, cond_false]
      exact St.Le.mk' ⟨rfl, rfl, rfl, rfl, rfl, rfl, rfl, rfl, rfl, rfl, rfl, rfl, rfl, rfl, rfl, rfl, rfl, rfl, rfl, trivial⟩ ⟨rfl, rfl, rfl, rfl, rfl, rfl, trivial⟩
    · intro D hid h0 hp hs rest hK
      obtain ⟨d1, d9, -⟩ : AllD D true [1, 9] := ideal_sub hp (by decide +kernel)
      obtain ⟨d11, d12, -⟩ : AllD D false [11, 12] := ideal_sub hs (by decide +kernel)
      simp only [d1, d9, d11, d12, h0, cond_true, cond_false]
      refine Run.appendo (id := (5, 1)) rfl rfl rfl rfl rfl rfl rfl rfl rfl rfl rfl rfl hDm.symm rfl (by rw [hDm]; show (_ + 1) * 16 ≤ _; omega) (by rw [hDm]; show _ + 1 ≤ 9223372036854775807; omega) (by decide) rfl ?_
      refine Run.le ?_ hK
      simp only [d1, d9, d11, d12, h0, Nat.reduceBEq, Bool.false_or, Bool.true_or, cond_true, cond_false]
      exact St.Le.mk' ⟨rfl, rfl, rfl, rfl, rfl, rfl, rfl, rfl, rfl, rfl, rfl, rfl, rfl, rfl, rfl, rfl, rfl, rfl, rfl, trivial⟩ ⟨rfl, rfl, rfl, rfl, rfl, rfl, trivial⟩
    · intro D hid h0 hp hs rest hK
      obtain ⟨d0, d1, d2, d3, d4, d5, d6, d7, d8, d9, d10, -⟩ : AllD D true [0, 1, 2, 3, 4, 5, 6, 7, 8, 9, 10] := ideal_sub hp (by decide +kernel)
      obtain ⟨d12, -⟩ : AllD D false [12] := ideal_sub hs (by decide +kernel)
      simp only [d0, d1, d2, d3, d4, d5, d6, d7, d8, d9, d10, d12, h0, cond_true, cond_false]
      refine Run.go rfl ?_
      refine Run.le ?_ hK
      simp only [d0, d1, d2, d3, d4, d5, d6, d7, d8, d9, d10, d12, h0, Nat.reduceBEq, Bool.false_or, Bool.true_or, cond_true, cond_false]
      exact St.Le.mk' ⟨rfl, rfl, rfl, rfl, rfl, rfl, rfl, rfl, rfl, rfl, rfl, rfl, rfl, rfl, rfl, rfl, rfl, rfl, rfl, trivial⟩ ⟨rfl, rfl, rfl, rfl, rfl, rfl, trivial⟩
    · intro D hid h0 hp hs rest hK
      obtain ⟨d0, d1, d2, d3, d4, d5, d6, d7, d8, d9, d10, d11, -⟩ : AllD D true [0, 1, 2, 3, 4, 5, 6, 7, 8, 9, 10, 11] := ideal_sub hp (by decide +kernel)
      simp only [d0, d1, d2, d3, d4, d5, d6, d7, d8, d9, d10, d11, h0, cond_true, cond_false]
      refine Run.unpack 57 rfl rfl ?_
      refine Run.go rfl ?_
      refine Run.forget 57 ?_
      refine Run.le ?_ hK
      simp only [d0, d1, d2, d3, d4, d5, d6, d7, d8, d9, d10, d11, h0, Nat.reduceBEq, Bool.false_or, Bool.true_or, cond_true, cond_false]
      exact St.Le.mk' ⟨rfl, rfl, rfl, rfl, rfl, rfl, rfl, rfl, rfl, rfl, rfl, rfl, rfl, rfl, rfl, rfl, rfl, rfl, rfl, trivial⟩ ⟨rfl, rfl, rfl, rfl, rfl, rfl, trivial⟩
    refine Run.packBox (5, 0) 1 rfl rfl rfl rfl ?_
    repeat (refine Run.go rfl ?_)
    refine Run.of (IH (i + 1, B ++ [(⟨(a2 : Nat), x⟩ : Pl)], a2 + 1, f2, p2) ⟨by show i + 1 ≤ _; omega, ?_, ?_, ?_, ?_⟩ (by show _ - (i + 1) < _; omega)) ⟨rfl, rfl, rfl, rfl, rfl, ?_, ?_, trivial⟩ ⟨rfl, rfl, rfl, ?_, trivial⟩
    · show ((B ++ [(⟨(a2 : Nat), x⟩ : Pl)]) ++ _, _) = _
      rw [List.append_assoc]
      exact hd
    · show a2 + 1 + f2 + (S.length - (i + 1)) = P
      omega
    · show 0 ≤ p2.1 ∧ p2.1 + 2 * ((f2 + (S.length - (i + 1)) : Nat) : Int) ≤ 999900000
      omega
    · show (B ++ [_]).length = i + 1
      rw [List.length_append, hBl]
      rfl
    · show i64 (IntKind.i64.wrap ((a2 : Nat) + 1)) = i64 ((a2 + 1 : Nat) : Int)
      rw [wrap_i64 (by omega) (by omega)]
      rfl
    · show i64 (IntKind.i64.wrap ((i : Nat) + 1)) = i64 ((i + 1 : Nat) : Int)
      rw [wrap_i64 (by omega) (by omega)]
      rfl
    · show Ob.box [_, AV.own 9 false (B.map plA ++ [plA ⟨(a2 : Nat), x⟩])] = Ob.box [_, AV.own 9 false ((B ++ [(⟨(a2 : Nat), x⟩ : Pl)]).map plA)]
      rw [List.map_append]
      rfl
  · have hi' : i = S.length := by simp at h; omega
    subst hi'
    rw [List.drop_length] at hd
    have hd : (B ++ [], p0) = (bs, n', s') := hd
    rw [List.append_nil] at hd
    obtain ⟨rfl, rfl⟩ := Prod.mk.inj hd
    repeat (refine Run.go rfl ?_)
    refine Run.unBox (5, 0) 1 (5, 1) rfl rfl rfl (by decide) ?_
    repeat (refine Run.go rfl ?_)
    refine Run.packBox (2, 0) 1 rfl rfl rfl rfl ?_
    exact Run.retG hg rfl rfl rfl rfl rfl rfl
end Go.Proofs.YtofakfkmglmhoaaGreat
