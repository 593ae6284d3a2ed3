/- Contracts of the program's functions, and what follows from them. -/
import Derived.Test.YtofakfkmglmhoaaGreatK9
set_option linter.unusedVariables false
set_option maxRecDepth 100000
set_option linter.unusedSimpArgs false
namespace Go.Proofs.YtofakfkmglmhoaaGreat
open Go Go.Av

/-! Years of books: the reference. -/

noncomputable def X42 : Fx := ⟨Tryz.prog, tys, 42, Tryz.f42, [0, 1]⟩
theorem X42_ok : X42.Ok := ⟨Tryz.func42, tys_ok⟩
theorem l05Elsewhere_ct (r q : Rk) (e1 e2 : Bool) (hl : r.bs.length ≤ 1048576) (hq : q.bs.length = r.bs.length) : Ct Tryz.prog 42 [.rp (rkR e1 r).cells 0, .rp (rkR e2 q).cells 0] (i64 (els r.bs q.bs r.bs.length : Nat)) [] := by
  obtain ⟨n, l⟩ := r
  obtain ⟨n2, m⟩ := q
  simp only at hl hq
  refine Ct.intro X42 X42_ok rfl (by kernel_rfl) rfl rfl fun g hg => ?_
  repeat (refine Run.go rfl ?_)
  refine Run.loop (fun j : Nat => ⟨[(0, .rp (rkR e1 ⟨n, l⟩).cells 0), (1, .rp (rkR e2 ⟨n2, m⟩).cells 0), (5, i64 (els l m j : Nat)), (6, i64 (j : Nat))], []⟩) (fun j => j ≤ l.length) (fun j => l.length - j) 0 (by omega) ?_ ?_
  · exact St.Le.mk' ⟨rfl, rfl, rfl, rfl, trivial⟩ trivial
  intro j hj IH
  repeat (refine Run.go rfl ?_)
  refine Run.cond rfl (fun h0 => ?_) (fun h0 => ?_)
  · have hlt : j < l.length := by simpa using h0
    have hlm : j < m.length := by omega
    have hel : els l m (j + 1) = els l m j + if l[j].p = m[j].p then 0 else 1 := by rw [els, pa_get hlt, pa_get hlm]
    have hee := els_le l m j
    repeat (refine Run.go rfl ?_)
    refine Run.draw (by kernel_rfl) (by decide +kernel) ?_
    repeat (refine Quiet.go rfl ?_)
    refine Quiet.val rfl rfl (ValOk.idx (plA l[j]) rfl rfl rfl rfl rfl (by omega) (by simp [hlt])) rfl ?_
    repeat (refine Quiet.go rfl ?_)
    refine Quiet.val rfl rfl (ValOk.idx (plA m[j]) rfl rfl rfl rfl rfl (by omega) (by simp [hlm])) rfl ?_
    repeat (refine Quiet.go rfl ?_)
    refine Quiet.nil ?_
    refine Run.condJ ⟨[(0, .rp (rkR e1 ⟨n, l⟩).cells 0), (1, .rp (rkR e2 ⟨n2, m⟩).cells 0), (5, i64 (els l m (j + 1) : Nat)), (6, i64 (j : Nat))], []⟩ rfl (fun h1 k' hN => ?_) (fun h1 k' hN => ?_) ?_
    · have h1 : ¬ l[j].p = m[j].p := fun e => by simp [e] at h1
      rw [hel, if_neg h1] at hN
      repeat (refine Run.go rfl ?_)
      refine Run.of hN ⟨rfl, rfl, ?_, rfl, trivial⟩ trivial
      show i64 (IntKind.i64.wrap ((els l m j : Nat) + 1)) = i64 _
      rw [wrap_i64 (by omega) (by omega)]
      rfl
    · have h1 : l[j].p = m[j].p := by simp at h1; omega
      rw [hel, if_pos h1, Nat.add_zero] at hN
      repeat (refine Run.go rfl ?_)
      exact Run.of hN ⟨rfl, rfl, rfl, rfl, trivial⟩ trivial
    repeat (refine Run.go rfl ?_)
    refine Run.of (IH (j + 1) (by omega) (by omega)) ⟨rfl, rfl, rfl, ?_, trivial⟩ trivial
    show i64 (IntKind.i64.wrap _) = i64 _
    rw [wrap_i64 (by omega) (by omega)]
    rfl
  · have hjl : j = l.length := by simp at h0; omega
    subst hjl
    repeat (refine Run.go rfl ?_)
    exact Run.ret hg rfl rfl

noncomputable def X9 : Fx := ⟨Tryz.prog, tys, 9, Tryz.f9, [1, 2]⟩
theorem X9_ok : X9.Ok := ⟨Tryz.func9, tys_ok⟩
theorem specGrowYears_ct (r : Rk) (ex e2 eb : Bool) (ys : List (List Bk)) (most : Int) (hr : rkOk r) (hy : ys.length ≤ 1048576) (hyl : ∀ y ∈ ys, y.length ≤ 1048576 ∧ ∀ x ∈ y, bkRng x) :
    Ct Tryz.prog 9 [rkR ex r, .ro 1 e2 (ys.map (blA eb)), i64 most] (gyA' (gyRes r ys most)) [] := by
  have hlen := hr.1.2
  refine Ct.intro X9 X9_ok rfl (by kernel_rfl) rfl rfl fun g hg => ?_
  repeat (refine Run.go rfl ?_)
  refine Run.cs rfl (l05Ok_ct r ex hr) rfl rfl ?_
  repeat (refine Run.go rfl ?_)
  refine Run.loopJ ⟨[(1, .ro 1 e2 (ys.map (blA eb))), (2, i64 most), (3, .bp (3, 0) 0), (6, .bp (6, 0) 0), (9, bo (vR r && ys.all vBs))], [((3, 0), .box (rkR ex r).cells), ((6, 0), .box [i16 0, .lit (.slice none 0 0)])]⟩ (fun k' hN => ?_) ?_
  · refine Run.loop (fun j : Nat => ⟨[(1, .ro 1 e2 (ys.map (blA eb))), (2, i64 most), (3, .bp (3, 0) 0), (6, .bp (6, 0) 0), (9, bo (vR r && (ys.take j).all vBs)), (10, i64 (j : Nat))], [((3, 0), .box (rkR ex r).cells), ((6, 0), .box [i16 0, .lit (.slice none 0 0)])]⟩)
      (fun j => j ≤ ys.length) (fun j => ys.length - j) 0 (by omega) ?_ ?_
    · refine St.Le.mk' ⟨rfl, rfl, rfl, rfl, ?_, rfl, trivial⟩ ⟨rfl, rfl, trivial⟩
      show bo (vR r) = bo (vR r && true)
      rw [Bool.and_true]
    intro j hj IH
    repeat (refine Run.go rfl ?_)
    refine Run.bool 28 rfl (fun h => ?_) (fun h => ?_)
    · have hlt : j < ys.length := by simpa using h
      have hst : (ys.take (j + 1)).all vBs = ((ys.take j).all vBs && vBs ys[j]) := by
        rw [List.take_succ_eq_append_getElem hlt, List.all_append, List.all_cons, List.all_nil, Bool.and_true]
      repeat (refine Run.go rfl ?_)
      refine Run.cond rfl (fun h => ?_) (fun h => ?_)
      · have h : (vR r && (ys.take j).all vBs) = true := h
        have hyy := hyl ys[j] (by simp)
        have hat : (ys.map (blA eb))[(j : Int).toNat]? = some (blA eb ys[j]) := by rw [Int.toNat_natCast, List.getElem?_map, List.getElem?_eq_getElem hlt]; rfl
        repeat (refine Run.go rfl ?_)
        refine Run.val rfl rfl rfl (ValOk.idx (blA eb ys[j]) rfl rfl rfl rfl rfl (by omega) hat) rfl ?_
        repeat (refine Run.go rfl ?_)
        refine Run.cs rfl (l01Ok_ct ys[j] eb hyy.1 hyy.2) rfl rfl ?_
        repeat (refine Run.go rfl ?_)
        refine Run.of (IH (j + 1) (by omega) (by omega)) ⟨rfl, rfl, rfl, rfl, ?_, ?_, trivial⟩ ⟨rfl, rfl, trivial⟩
        · show bo (vBs ys[j]) = bo (vR r && (ys.take (j + 1)).all vBs)
          rw [hst, ← Bool.and_assoc, h, Bool.true_and]
        · show i64 (IntKind.i64.wrap _) = i64 _
          rw [wrap_i64 (by omega) (by omega)]
          rfl
      · have h : (vR r && (ys.take j).all vBs) = false := h
        repeat (refine Run.go rfl ?_)
        refine Run.of hN ⟨rfl, rfl, rfl, rfl, ?_, trivial⟩ ⟨rfl, rfl, trivial⟩
        show bo (vR r && (ys.take j).all vBs) = bo (vR r && ys.all vBs)
        rw [h]
        have : ys.all vBs = ((ys.take j).all vBs && (ys.drop j).all vBs) := by rw [← List.all_append, List.take_append_drop]
        rw [this, ← Bool.and_assoc, h, Bool.false_and]
    · have hjl : j = ys.length := by simp at h; omega
      subst hjl
      rw [List.take_length] at *
      repeat (refine Run.go rfl ?_)
      refine Run.cond rfl (fun h => by cases h) (fun h => ?_)
      repeat (refine Run.go rfl ?_)
      exact Run.of hN ⟨rfl, rfl, rfl, rfl, rfl, trivial⟩ ⟨rfl, rfl, trivial⟩
  repeat (refine Run.go rfl ?_)
  refine Run.cond rfl (fun h => ?_) (fun h => ?_)
  · have h : (vR r && ys.all vBs) = false := by
      have h : (!(vR r && ys.all vBs)) = true := h
      rw [Bool.not_eq_true'] at h
      exact h
    repeat (refine Run.go rfl ?_)
    refine Run.val rfl rfl rfl (ValOk.build rfl rfl rfl rfl rfl) rfl ?_
    refine Run.buildSlice [] rfl rfl rfl rfl rfl rfl rfl rfl rfl rfl rfl rfl rfl rfl ?_
    refine Run.loosen0 41 rfl ?_
    repeat (refine Run.go rfl ?_)
    refine Run.nilBox (6, 0) 1 9 false rfl rfl ?_
    refine Run.ret hg rfl ?_
    rw [gyRes, if_neg (by rw [← Bool.and_eq_true, h]; decide)]
    rfl
  have hva' : (vR r && ys.all vBs) = true := by
    have h : (!(vR r && ys.all vBs)) = false := h
    rw [Bool.not_eq_false'] at h
    exact h
  rw [Bool.and_eq_true] at hva'
  obtain ⟨hv, hva⟩ := hva'
  have hV := (vR_VR hr.2).1 hv
  repeat (refine Run.go rfl ?_)
  refine Run.bool 45 rfl (fun h => ?_) (fun h => ?_)
  · have h : 20 < ys.length := by simp at h; omega
    repeat (refine Run.go rfl ?_)
    refine Run.cond rfl (fun _ => ?_) (fun h => by simp at h)
    repeat (refine Run.go rfl ?_)
    refine Run.val rfl rfl rfl (ValOk.build rfl rfl rfl rfl rfl) rfl ?_
    refine Run.buildSlice [] rfl rfl rfl rfl rfl rfl rfl rfl rfl rfl rfl rfl rfl rfl ?_
    refine Run.loosen0 51 rfl ?_
    repeat (refine Run.go rfl ?_)
    refine Run.nilBox (6, 0) 1 9 false rfl rfl ?_
    refine Run.ret hg rfl ?_
    rw [gyRes, if_pos ⟨hv, hva⟩, if_neg (by omega)]
    rfl
  have hy20 : ys.length ≤ 20 := by simp at h; omega
  repeat (refine Run.go rfl ?_)
  refine Run.cs rfl (l00In_ct most 0 60) rfl rfl ?_
  repeat (refine Run.go rfl ?_)
  refine Run.cond rfl (fun h => ?_) (fun h => ?_)
  · have h : inr most 0 60 = false := by simpa using h
    repeat (refine Run.go rfl ?_)
    refine Run.val rfl rfl rfl (ValOk.build rfl rfl rfl rfl rfl) rfl ?_
    refine Run.buildSlice [] rfl rfl rfl rfl rfl rfl rfl rfl rfl rfl rfl rfl rfl rfl ?_
    refine Run.loosen0 51 rfl ?_
    repeat (refine Run.go rfl ?_)
    refine Run.nilBox (6, 0) 1 9 false rfl rfl ?_
    refine Run.ret hg rfl ?_
    rw [gyRes, if_pos ⟨hv, hva⟩, if_neg (by rw [h]; simp)]
    rfl
  have hin : inr most 0 60 = true := by simpa using h
  have hbr : ∀ x ∈ r.bs, bkRng x.b := fun x hx => (hr.2 x hx).2
  rw [gyRes, if_pos ⟨hv, hva⟩, if_pos ⟨hy20, hin⟩] at hg
  obtain ⟨n, l0⟩ := r
  simp only at hV hbr hg
  have hn := hV.hn
  have hl0 := hV.len
  have hwn : IntKind.i64.wrap n = n := wrap_i64 (by omega) (by omega)
  have hlen0 : (0 + (l0.map plA).length) * 16 ≤ 140737488355328 := by rw [List.length_map]; omega
  have hcap0 : 0 + (l0.map plA).length ≤ capMax := by rw [List.length_map]; simp only [capMax]; omega
  repeat (refine Run.go rfl ?_)
  refine Run.drawI (fun D => ⟨[(1, .ro 1 e2 (ys.map (blA eb))), (2, i64 most), (3, .bp (3, 0) 0), (6, .bp (6, 0) 0), (52, bif D 0 then .bp (3, 0) 0 else .top), (53, bif D 1 then i16 n else .top), (54, bif D 5 then .top else bif D 2 then .own 9 false [] else .top), (55, bif D 3 then .bp (3, 0) 1 else .top), (56, bif D 4 then .ro 9 ex (l0.map plA) else .top), (57, bif D 6 then .top else bif D 5 then .own 9 false (l0.map plA) else .top), (58, bif D 6 then .agg [i16 n, .vec (57, 0) 0 (l0.map plA).length] else .top), (11, bif D 7 then .bp (11, 0) 0 else .top)], [((3, 0), Ob.box (rkR ex ⟨n, l0⟩).cells), ((6, 0), Ob.box [i16 0, .lit (.slice none 0 0)]), ((11, 0), (bif D 8 then Ob.box [i16 n, .vec (57, 0) 0 (l0.map plA).length] else (bif D 7 then Ob.box [i16 0, .lit (.slice none 0 0)] else Ob.gone))), ((57, 0), (bif D 6 then Ob.vec 9 false (l0.map plA) else Ob.gone))]⟩) (by decide +kernel) (by decide +kernel) ?_ ?_ fun k' => ⟨?_, ?_, ?_, ?_, ?_, ?_, ?_, ?_, ?_, trivial⟩
  · exact St.Le.mk' ⟨rfl, rfl, rfl, rfl, rfl, rfl, rfl, rfl, rfl, rfl, rfl, rfl, trivial⟩ ⟨rfl, rfl, rfl, rfl, trivial⟩
  rotate_left
  · intro D hid h0 hp hs rest hK
    obtain ⟨d1, -⟩ : AllD D false [1] := ideal_sub hs (by decide +kernel)
    simp only [d1, h0, cond_true, cond_false]
    refine Run.go rfl ?_
    refine Run.le ?_ hK
    simp only [d1, h0, Nat.reduceBEq, Bool.false_or, Bool.true_or, cond_true, cond_false]
    exact St.Le.mk' ⟨rfl, rfl, rfl, rfl, rfl, rfl, rfl, rfl, rfl, rfl, rfl, rfl, trivial⟩ ⟨rfl, rfl, rfl, rfl, trivial⟩
  · intro D hid h0 hp hs rest hK
    obtain ⟨d0, -⟩ : AllD D true [0] := ideal_sub hp (by decide +kernel)
    obtain ⟨d6, -⟩ : AllD D false [6] := ideal_sub hs (by decide +kernel)
    simp only [d0, d6, h0, cond_true, cond_false]
    refine Run.go rfl ?_
    refine Run.le ?_ hK
    simp only [d0, d6, h0, Nat.reduceBEq, Bool.false_or, Bool.true_or, cond_true, cond_false]
    exact St.Le.mk' ⟨rfl, rfl, rfl, rfl, rfl, rfl, rfl, rfl, rfl, rfl, rfl, rfl, trivial⟩ ⟨rfl, rfl, rfl, rfl, trivial⟩
  · intro D hid h0 hp hs rest hK
    obtain ⟨d5, -⟩ : AllD D false [5] := ideal_sub hs (by decide +kernel)
    simp only [d5, h0, cond_true, cond_false]
    refine Run.buildSlice [] rfl rfl rfl rfl rfl rfl rfl rfl rfl rfl rfl rfl rfl rfl ?_
    refine Run.loosen0 54 rfl ?_
    refine Run.le ?_ hK
    simp only [d5, h0, Nat.reduceBEq, Bool.false_or, Bool.true_or, cond_true, cond_false]
    exact St.Le.mk' ⟨rfl, rfl, rfl, rfl, rfl, rfl, rfl, rfl, rfl, rfl, rfl, rfl, trivial⟩ ⟨rfl, rfl, rfl, rfl, trivial⟩
  · intro D hid h0 hp hs rest hK
    obtain ⟨d4, -⟩ : AllD D false [4] := ideal_sub hs (by decide +kernel)
    simp only [d4, h0, cond_true, cond_false]
    refine Run.go rfl ?_
    refine Run.le ?_ hK
    simp only [d4, h0, Nat.reduceBEq, Bool.false_or, Bool.true_or, cond_true, cond_false]
    exact St.Le.mk' ⟨rfl, rfl, rfl, rfl, rfl, rfl, rfl, rfl, rfl, rfl, rfl, rfl, trivial⟩ ⟨rfl, rfl, rfl, rfl, trivial⟩
  · intro D hid h0 hp hs rest hK
    obtain ⟨d3, -⟩ : AllD D true [3] := ideal_sub hp (by decide +kernel)
    obtain ⟨d5, -⟩ : AllD D false [5] := ideal_sub hs (by decide +kernel)
    simp only [d3, d5, h0, cond_true, cond_false]
    refine Run.go rfl ?_
    refine Run.le ?_ hK
    simp only [d3, d5, h0, Nat.reduceBEq, Bool.false_or, Bool.true_or, cond_true, cond_false]
    exact St.Le.mk' ⟨rfl, rfl, rfl, rfl, rfl, rfl, rfl, rfl, rfl, rfl, rfl, rfl, trivial⟩ ⟨rfl, rfl, rfl, rfl, trivial⟩
  · intro D hid h0 hp hs rest hK
    obtain ⟨d2, d4, -⟩ : AllD D true [2, 4] := ideal_sub hp (by decide +kernel)
    obtain ⟨d6, -⟩ : AllD D false [6] := ideal_sub hs (by decide +kernel)
    simp only [d2, d4, d6, h0, cond_true, cond_false]
    refine Run.unpack 54 rfl (by cases D 0 <;> cases D 1 <;> cases D 3 <;> cases D 7 <;> cases D 8 <;> rfl) ?_
    refine Run.appendr (ys := (l0.map plA)) rfl rfl rfl rfl rfl rfl rfl rfl rfl rfl rfl rfl rfl (one_pl _) hlen0 hcap0 rfl ?_
    rw [List.nil_append]
    refine Run.forget 54 ?_
    refine Run.le ?_ hK
    simp only [d2, d4, d6, h0, Nat.reduceBEq, Bool.false_or, Bool.true_or, cond_true, cond_false]
    exact St.Le.mk' ⟨rfl, rfl, rfl, rfl, rfl, rfl, rfl, rfl, rfl, rfl, rfl, rfl, trivial⟩ ⟨rfl, rfl, rfl, rfl, trivial⟩
  · intro D hid h0 hp hs rest hK
    obtain ⟨d1, d5, -⟩ : AllD D true [1, 5] := ideal_sub hp (by decide +kernel)
    obtain ⟨d8, -⟩ : AllD D false [8] := ideal_sub hs (by decide +kernel)
    simp only [d1, d5, d8, h0, cond_true, cond_false]
    refine Run.unpack 57 rfl (by cases D 0 <;> cases D 2 <;> cases D 3 <;> cases D 4 <;> cases D 7 <;> rfl) ?_
    refine Run.val rfl rfl rfl (ValOk.build rfl rfl rfl rfl rfl) rfl ?_
    refine Run.forget 57 ?_
    refine Run.le ?_ hK
    simp only [d1, d5, d8, h0, Nat.reduceBEq, Bool.false_or, Bool.true_or, cond_true, cond_false]
    exact St.Le.mk' ⟨rfl, rfl, rfl, rfl, rfl, rfl, rfl, rfl, rfl, rfl, rfl, rfl, trivial⟩ ⟨rfl, rfl, rfl, rfl, trivial⟩
  · intro D hid h0 hp hs rest hK
    obtain ⟨d8, -⟩ : AllD D false [8] := ideal_sub hs (by decide +kernel)
    simp only [d8, h0, cond_true, cond_false]
    refine Run.alloc rfl rfl rfl rfl rfl rfl (by cases D 0 <;> cases D 1 <;> cases D 2 <;> cases D 3 <;> cases D 4 <;> cases D 5 <;> cases D 6 <;> rfl) rfl ?_
    refine Run.le ?_ hK
    simp only [d8, h0, Nat.reduceBEq, Bool.false_or, Bool.true_or, cond_true, cond_false]
    exact St.Le.mk' ⟨rfl, rfl, rfl, rfl, rfl, rfl, rfl, rfl, rfl, rfl, rfl, rfl, trivial⟩ ⟨rfl, rfl, rfl, rfl, trivial⟩
  · intro D hid h0 hp hs rest hK
    obtain ⟨d6, d7, -⟩ : AllD D true [6, 7] := ideal_sub hp (by decide +kernel)
    simp only [d6, d7, h0, cond_true, cond_false]
    refine Run.go rfl ?_
    refine Run.le ?_ hK
    simp only [d6, d7, h0, Nat.reduceBEq, Bool.false_or, Bool.true_or, cond_true, cond_false]
    exact St.Le.mk' ⟨rfl, rfl, rfl, rfl, rfl, rfl, rfl, rfl, rfl, rfl, rfl, rfl, trivial⟩ ⟨rfl, rfl, rfl, rfl, trivial⟩
  repeat (refine Run.go rfl ?_)
  refine Run.packBox (11, 0) 1 rfl rfl rfl rfl ?_
  refine Run.buildSlice [] rfl rfl rfl rfl rfl rfl rfl rfl rfl rfl rfl rfl rfl rfl ?_
  refine Run.loosen0 59 rfl ?_
  repeat (refine Run.go rfl ?_)
  refine Run.loop (fun q : Nat × List Pl × List Int => ⟨[(1, .ro 1 e2 (ys.map (blA eb))), (2, i64 most), (6, .bp (6, 0) 0), (11, .bp (11, 0) 0), (12, .own 1 false (q.2.2.map i64)), (13, i64 (q.1 : Nat))],
    [((6, 0), .box [i16 0, .lit (.slice none 0 0)]), ((11, 0), .box [i16 n, .own 9 false (q.2.1.map plA)])]⟩)
    (fun q => q.1 ≤ ys.length ∧ VR n q.2.1 ∧ (∀ x ∈ q.2.1, bkRng x.b) ∧ q.2.2.length = q.1 ∧ gyA n most ys l0 [] = gyA n most (ys.drop q.1) q.2.1 q.2.2) (fun q => ys.length - q.1) (0, l0, []) ⟨by simp, hV, hbr, rfl, rfl⟩ ?_ ?_
  · exact St.Le.mk' ⟨rfl, rfl, rfl, rfl, rfl, rfl, trivial⟩ ⟨rfl, rfl, trivial⟩
  rintro ⟨j, l, ms⟩ ⟨hj, hVl, hbl, hms, had⟩ IH
  simp only at hj hVl hbl hms had IH
  repeat (refine Run.go rfl ?_)
  refine Run.cond rfl (fun h => ?_) (fun h => ?_)
  · have hlt : j < ys.length := by simpa using h
    rw [List.drop_eq_getElem_cons hlt, gyA] at had
    obtain ⟨y, hyj⟩ : ∃ y, y = ys[j] := ⟨_, rfl⟩
    have hyy := hyl y (by rw [hyj]; simp)
    have hyv : vBs y = true := by
      have := List.all_eq_true.1 hva y (by rw [hyj]; simp)
      exact this
    have hyv1 : y.length ≤ 60 ∧ ∀ x ∈ y, vB x = true := by simpa [vBs] using hyv
    have hat : (ys.map (blA eb))[(j : Int).toNat]? = some (blA eb y) := by rw [Int.toNat_natCast, List.getElem?_map, List.getElem?_eq_getElem hlt, hyj]; rfl
    rw [← hyj] at had
    repeat (refine Run.go rfl ?_)
    refine Run.loop (fun q : Nat × List Pl × Nat => ⟨[(1, .ro 1 e2 (ys.map (blA eb))), (2, i64 most), (6, .bp (6, 0) 0), (11, .bp (11, 0) 0), (12, .own 1 false (ms.map i64)), (13, i64 (j : Nat)), (14, i64 (q.2.2 : Nat)), (15, i64 (q.1 : Nat))],
      [((6, 0), .box [i16 0, .lit (.slice none 0 0)]), ((11, 0), .box [i16 n, .own 9 false (q.2.1.map plA)])]⟩)
      (fun q => q.1 ≤ y.length ∧ VR n q.2.1 ∧ (∀ x ∈ q.2.1, bkRng x.b) ∧ q.2.2 ≤ q.1 * 120 ∧ gy1 n most y l 0 = gy1 n most (y.drop q.1) q.2.1 q.2.2) (fun q => y.length - q.1) (0, l, 0) ⟨by simp, hVl, hbl, by simp, rfl⟩ ?_ ?_
    · exact St.Le.mk' ⟨rfl, rfl, rfl, rfl, rfl, rfl, rfl, rfl, trivial⟩ ⟨rfl, rfl, trivial⟩
    rintro ⟨i, l, s⟩ ⟨hi, hVl, hbl, hs, hgy⟩ IH2
    simp only at hi hVl hbl hs hgy IH2
    have hlen := hVl.len
    repeat (refine Run.go rfl ?_)
    refine Run.val rfl rfl rfl (ValOk.idx (blA eb y) rfl rfl rfl rfl rfl (by omega) hat) rfl ?_
    repeat (refine Run.go rfl ?_)
    refine Run.cond rfl (fun h => ?_) (fun h => ?_)
    · have hil : i < y.length := by simpa using h
      rw [List.drop_eq_getElem_cons hil, gy1] at hgy
      have hbj := hyy.2 y[i] (by simp)
      have hvj := hyv1.2 y[i] (by simp)
      have hat2 : (y.map bkA)[(i : Int).toNat]? = some (bkA y[i]) := by rw [Int.toNat_natCast, List.getElem?_map, List.getElem?_eq_getElem hil]; rfl
      generalize y[i] = b at hgy hbj hvj hat2
      have hf1 : ∀ m : List Pl, (rkR false ⟨n, m⟩).cells = [i16 n, .ro 9 false (m.map plA)] := fun _ => rfl
      have hax : ∀ m : List Pl, axA n m b = if (m.length : Int) = n then .tup [rkO false rk0, i64 ((0 : Nat) : Int), bo false] else .tup [rkO false ⟨n, adL n m b⟩, i64 (adM n m b : Nat), bo true] := fun _ => rfl
      have hct := l05Added_ct ⟨n, l⟩ false b hVl hbl hbj
      rw [show axA (Rk.mk n l).pl (Rk.mk n l).bs b = axA n l b from rfl, hax] at hct
      repeat (refine Run.go rfl ?_)
      refine Run.val rfl rfl rfl (ValOk.idx (blA eb y) rfl rfl rfl rfl rfl (by omega) hat) rfl ?_
      repeat (refine Run.go rfl ?_)
      refine Run.val rfl rfl rfl (ValOk.idx (bkA b) rfl rfl rfl rfl rfl (by omega) hat2) rfl ?_
      by_cases h : (l.length : Int) = n
      · rw [if_pos h] at hgy hct
        rw [hgy] at had
        refine Run.cs rfl hct (by rw [hf1, frzP]; rfl) (by simp only [AV.rf, AV.rfL, rk_rf]; rfl) ?_
        repeat (refine Run.go rfl ?_)
        refine Run.unagg 83 1 (83, 1) rfl rfl rfl ?_
        repeat (refine Run.go rfl ?_)
        refine Run.cond rfl (fun _ => ?_) (fun h => by cases h)
        repeat (refine Run.go rfl ?_)
        refine Run.val rfl rfl rfl (ValOk.build rfl rfl rfl rfl rfl) rfl ?_
        refine Run.buildSlice [] rfl rfl rfl rfl rfl rfl rfl rfl rfl rfl rfl rfl rfl rfl ?_
        refine Run.loosen0 89 rfl ?_
        repeat (refine Run.go rfl ?_)
        refine Run.nilBox (6, 0) 1 9 false rfl rfl ?_
        refine Run.ret hg rfl ?_
        rw [had]
        rfl
      rw [if_neg h] at hgy hct
      obtain ⟨q1, q2, q3⟩ := hVl.gstep most h hbl hbj hvj
      obtain ⟨g1, g2, g3⟩ := hVl.glo most b
      have hgr : ∀ x ∈ gl n most l b, bkRng x.b := fun x hx => by
        obtain ⟨z, hz, e⟩ := g3 x hx
        rw [e]; exact hbl z hz
      have hct2 := l05Added_ct ⟨n, gl n most l b⟩ false b g1 hgr hbj
      rw [show axA (Rk.mk n (gl n most l b)).pl (Rk.mk n (gl n most l b)).bs b = axA n (gl n most l b) b from rfl, hax, if_neg (by rw [g2]; exact h)] at hct2
      refine Run.cs rfl hct (by rw [hf1, frzP]; rfl) (by simp only [AV.rf, AV.rfL, rk_rf]; rfl) ?_
      repeat (refine Run.go rfl ?_)
      refine Run.unagg 83 1 (83, 1) rfl rfl rfl ?_
      repeat (refine Run.go rfl ?_)
      refine Run.cond rfl (fun h => by cases h) (fun _ => ?_)
      repeat (refine Run.go rfl ?_)
      refine Run.condJ ⟨[(1, .ro 1 e2 (ys.map (blA eb))), (2, i64 most), (6, .bp (6, 0) 0), (11, .bp (11, 0) 0), (12, .own 1 false (ms.map i64)), (13, i64 (j : Nat)), (14, i64 ((s + gm n most l b : Nat) : Int)), (15, i64 (i : Nat))],
        [((6, 0), .box [i16 0, .lit (.slice none 0 0)]), ((11, 0), .box [i16 n, .own 9 false ((gl n most l b).map plA)])]⟩ rfl (fun h1 k' hN => ?_) (fun h1 k' hN => ?_) ?_
      · have h1 : most < adM n l b := by
          have : decide ((adM n l b : Int) > most) = true := h1
          exact of_decide_eq_true this
        have e1 : gl n most l b = sp n (pbs l) := by rw [gl, if_pos h1]
        have e2' : gm n most l b = els l (sp n (pbs l)) l.length := by rw [gm, if_pos h1]
        rw [e1, e2'] at hN
        have := els_le l (sp n (pbs l)) l.length
        have hsl : (sp n (pbs l)).length = l.length := by rw [sp_len, pbs_len]
        repeat (refine Run.go rfl ?_)
        refine Run.le (st' := ⟨[(1, .ro 1 e2 (ys.map (blA eb))), (2, i64 most), (6, .bp (6, 0) 0), (11, .bp (11, 0) 0), (12, .own 1 false (ms.map i64)), (13, i64 (j : Nat)), (14, i64 (s : Nat)), (15, i64 (i : Nat))], [((6, 0), .box [i16 0, .lit (.slice none 0 0)]), ((11, 0), .box [i16 n, .own 9 false (l.map plA)])]⟩) (St.Le.mk' ⟨rfl, rfl, rfl, rfl, rfl, rfl, rfl, rfl, trivial⟩ ⟨rfl, rfl, trivial⟩) ?_
        refine Run.drawI (fun D => ⟨[(1, .ro 1 e2 (ys.map (blA eb))), (2, i64 most), (6, .bp (6, 0) 0), (11, .bp (11, 0) 0), (12, .own 1 false (ms.map i64)), (13, i64 (j : Nat)), (14, i64 (s : Nat)), (15, i64 (i : Nat)), (93, bif D 0 then .bp (11, 0) 0 else .top), (94, bif D 1 then i16 n else .top), (95, bif D 2 then i64 n else .top), (96, bif D 3 then .own 8 false ((pbs l).map bkA) else .top), (97, bif D 6 then .top else bif D 4 then rkO false ⟨n, (sp n (pbs l))⟩ else .top), (19, bif D 5 then .bp (19, 0) 0 else .top)], [((6, 0), Ob.box [i16 0, .lit (.slice none 0 0)]), ((11, 0), Ob.box [i16 n, .own 9 false (l.map plA)]), ((19, 0), (bif D 6 then Ob.box [i16 n, .vec (97, 1) 0 ((sp n (pbs l)).map plA).length] else (bif D 5 then Ob.box [i16 0, .lit (.slice none 0 0)] else Ob.gone))), ((97, 1), (bif D 6 then Ob.vec 9 false ((sp n (pbs l)).map plA) else Ob.gone))]⟩) (by decide +kernel) (by decide +kernel) ?_ ?_ fun k' => ⟨?_, ?_, ?_, ?_, ?_, ?_, ?_, trivial⟩
        · exact St.Le.mk' ⟨rfl, rfl, rfl, rfl, rfl, rfl, rfl, rfl, rfl, rfl, rfl, rfl, rfl, rfl, trivial⟩ ⟨rfl, rfl, rfl, rfl, trivial⟩
        rotate_left
        · intro D hid h0 hp hs rest hK
          obtain ⟨d1, -⟩ : AllD D false [1] := ideal_sub hs (by decide +kernel)
          simp only [d1, h0, cond_true, cond_false]
          refine Run.go rfl ?_
          refine Run.le ?_ hK
          simp only [d1, h0, Nat.reduceBEq, Bool.false_or, Bool.true_or, cond_true, cond_false]
          exact St.Le.mk' ⟨rfl, rfl, rfl, rfl, rfl, rfl, rfl, rfl, rfl, rfl, rfl, rfl, rfl, rfl, trivial⟩ ⟨rfl, rfl, rfl, rfl, trivial⟩
        · intro D hid h0 hp hs rest hK
          obtain ⟨d0, -⟩ : AllD D true [0] := ideal_sub hp (by decide +kernel)
          obtain ⟨d2, -⟩ : AllD D false [2] := ideal_sub hs (by decide +kernel)
          simp only [d0, d2, h0, cond_true, cond_false]
          refine Run.go rfl ?_
          refine Run.le ?_ hK
          simp only [d0, d2, h0, Nat.reduceBEq, Bool.false_or, Bool.true_or, cond_true, cond_false]
          exact St.Le.mk' ⟨rfl, rfl, rfl, rfl, rfl, rfl, rfl, rfl, rfl, rfl, rfl, rfl, rfl, rfl, trivial⟩ ⟨rfl, rfl, rfl, rfl, trivial⟩
        · intro D hid h0 hp hs rest hK
          obtain ⟨d1, -⟩ : AllD D true [1] := ideal_sub hp (by decide +kernel)
          obtain ⟨d4, -⟩ : AllD D false [4] := ideal_sub hs (by decide +kernel)
          simp only [d1, d4, h0, cond_true, cond_false]
          refine Run.go rfl ?_
          rw [hwn]
          refine Run.le ?_ hK
          simp only [d1, d4, h0, Nat.reduceBEq, Bool.false_or, Bool.true_or, cond_true, cond_false]
          exact St.Le.mk' ⟨rfl, rfl, rfl, rfl, rfl, rfl, rfl, rfl, rfl, rfl, rfl, rfl, rfl, rfl, trivial⟩ ⟨rfl, rfl, rfl, rfl, trivial⟩
        · intro D hid h0 hp hs rest hK
          obtain ⟨d4, -⟩ : AllD D false [4] := ideal_sub hs (by decide +kernel)
          simp only [d4, h0, cond_true, cond_false]
          refine Run.cs rfl (l05Books_ct ⟨n, l⟩ false (by show l.length ≤ _; omega)) (by rw [hf1, frzP]) (rfB _) ?_
          refine Run.le ?_ hK
          simp only [d4, h0, Nat.reduceBEq, Bool.false_or, Bool.true_or, cond_true, cond_false]
          exact St.Le.mk' ⟨rfl, rfl, rfl, rfl, rfl, rfl, rfl, rfl, rfl, rfl, rfl, rfl, rfl, rfl, trivial⟩ ⟨rfl, rfl, rfl, rfl, trivial⟩
        · intro D hid h0 hp hs rest hK
          obtain ⟨d2, d3, -⟩ : AllD D true [2, 3] := ideal_sub hp (by decide +kernel)
          obtain ⟨d6, -⟩ : AllD D false [6] := ideal_sub hs (by decide +kernel)
          simp only [d2, d3, d6, h0, cond_true, cond_false]
          refine Run.cs rfl (l05Spread_ct n (pbs l) false hn (by rw [pbs_len]; omega)) (by rw [frzB]; rfl) (rk_rf _ _) ?_
          refine Run.le ?_ hK
          simp only [d2, d3, d6, h0, Nat.reduceBEq, Bool.false_or, Bool.true_or, cond_true, cond_false]
          exact St.Le.mk' ⟨rfl, rfl, rfl, rfl, rfl, rfl, rfl, rfl, rfl, rfl, rfl, rfl, rfl, rfl, trivial⟩ ⟨rfl, rfl, rfl, rfl, trivial⟩
        · intro D hid h0 hp hs rest hK
          obtain ⟨d6, -⟩ : AllD D false [6] := ideal_sub hs (by decide +kernel)
          simp only [d6, h0, cond_true, cond_false]
          refine Run.alloc rfl rfl rfl rfl rfl rfl (by cases D 0 <;> cases D 1 <;> cases D 2 <;> cases D 3 <;> cases D 4 <;> rfl) rfl ?_
          refine Run.le ?_ hK
          simp only [d6, h0, Nat.reduceBEq, Bool.false_or, Bool.true_or, cond_true, cond_false]
          exact St.Le.mk' ⟨rfl, rfl, rfl, rfl, rfl, rfl, rfl, rfl, rfl, rfl, rfl, rfl, rfl, rfl, trivial⟩ ⟨rfl, rfl, rfl, rfl, trivial⟩
        · intro D hid h0 hp hs rest hK
          obtain ⟨d4, d5, -⟩ : AllD D true [4, 5] := ideal_sub hp (by decide +kernel)
          have d2 : D 2 = true := hid 4 2 (by decide +kernel) (by decide +kernel) d4
          have d3 : D 3 = true := hid 4 3 (by decide +kernel) (by decide +kernel) d4
          have d1 : D 1 = true := hid 2 1 (by decide +kernel) (by decide +kernel) d2
          have d0 : D 0 = true := hid 1 0 (by decide +kernel) (by decide +kernel) d1
          simp only [d4, d5, d2, d3, d1, d0, h0, cond_true, cond_false]
          refine Run.unagg 97 1 (97, 1) rfl rfl rfl ?_
          refine Run.go rfl ?_
          refine Run.forget 97 ?_
          refine Run.le ?_ hK
          simp only [d4, d5, d2, d3, d1, d0, h0, Nat.reduceBEq, Bool.false_or, Bool.true_or, cond_true, cond_false]
          exact St.Le.mk' ⟨rfl, rfl, rfl, rfl, rfl, rfl, rfl, rfl, rfl, rfl, rfl, rfl, rfl, rfl, trivial⟩ ⟨rfl, rfl, rfl, rfl, trivial⟩
        repeat (refine Run.go rfl ?_)
        refine Run.cs rfl (l05Elsewhere_ct ⟨n, l⟩ ⟨n, sp n (pbs l)⟩ false false (by show l.length ≤ _; omega) hsl) (by rw [hf1, hf1, frzP, frzP, decide_eq_true rfl]; rfl) rfl ?_
        repeat (refine Run.go rfl ?_)
        refine Run.packBox (11, 0) 1 rfl rfl rfl rfl ?_
        refine Run.of hN ⟨rfl, rfl, rfl, rfl, rfl, rfl, ?_, rfl, trivial⟩ ⟨rfl, rfl, trivial⟩
        show i64 (IntKind.i64.wrap ((s : Int) + (els l (sp n (pbs l)) l.length : Nat))) = i64 _
        rw [wrap_i64 (by omega) (by omega)]
        rfl
      · have h1 : ¬ most < adM n l b := by
          have : decide ((adM n l b : Int) > most) = false := h1
          exact of_decide_eq_false this
        have e1 : gl n most l b = l := by rw [gl, if_neg h1]
        have e2' : gm n most l b = 0 := by rw [gm, if_neg h1]
        rw [e1, e2', Nat.add_zero] at hN
        repeat (refine Run.go rfl ?_)
        exact Run.of hN ⟨rfl, rfl, rfl, rfl, rfl, rfl, rfl, rfl, trivial⟩ ⟨rfl, rfl, trivial⟩
      generalize gl n most l b = l1 at *
      generalize gm n most l b = m1 at *
      repeat (refine Run.go rfl ?_)
      refine Run.val rfl rfl rfl (ValOk.idx (blA eb y) rfl rfl rfl rfl rfl (by omega) hat) rfl ?_
      repeat (refine Run.go rfl ?_)
      refine Run.val rfl rfl rfl (ValOk.idx (bkA b) rfl rfl rfl rfl rfl (by omega) hat2) rfl ?_
      refine Run.cs rfl hct2 (by rw [hf1, frzP]; rfl) (by simp only [AV.rf, AV.rfL, rk_rf]; rfl) ?_
      repeat (refine Run.go rfl ?_)
      refine Run.unagg 110 1 (110, 1) rfl rfl rfl ?_
      repeat (refine Run.go rfl ?_)
      refine Run.packBox (11, 0) 1 rfl rfl rfl rfl ?_
      refine Run.of (IH2 (i + 1, adL n l1 b, s + m1 + adM n l1 b) ⟨hil, q1, q2, by show s + m1 + adM n l1 b ≤ (i + 1) * 120; omega, hgy⟩ (by show y.length - (i + 1) < y.length - i; omega)) ⟨rfl, rfl, rfl, rfl, rfl, rfl, ?_, ?_, trivial⟩ ⟨rfl, rfl, trivial⟩
      · show i64 (IntKind.i64.wrap (((s + m1 : Nat) : Int) + adM n l1 b)) = i64 _
        rw [wrap_i64 (by omega) (by omega)]
        rfl
      · show i64 (IntKind.i64.wrap _) = i64 _
        rw [wrap_i64 (by omega) (by omega)]
        rfl
    · have hil : i = y.length := by simp at h; omega
      rw [hil, List.drop_length, gy1] at hgy
      rw [hgy] at had
      simp only at had
      have hml : (ms.map i64).length = j := by rw [List.length_map, hms]
      repeat (refine Run.go rfl ?_)
      refine Run.buildSlice [i64 (s : Nat)] rfl rfl rfl rfl rfl rfl rfl rfl rfl rfl rfl rfl rfl rfl ?_
      refine Run.appendo rfl rfl rfl rfl rfl rfl rfl rfl rfl rfl rfl rfl rfl rfl (by rw [hml]; show (_ + 1) * 8 ≤ _; omega) (by rw [hml]; show _ + 1 ≤ 9223372036854775807; omega) (by decide) rfl ?_
      repeat (refine Run.go rfl ?_)
      refine Run.of (IH (j + 1, l, ms ++ [(s : Int)]) ⟨hlt, hVl, hbl, by show (ms ++ [(s : Int)]).length = j + 1; simp [hms], had⟩ (by show ys.length - (j + 1) < ys.length - j; omega)) ⟨rfl, rfl, rfl, rfl, ?_, ?_, trivial⟩ ⟨rfl, rfl, trivial⟩
      · show AV.own 1 false (ms.map i64 ++ [i64 (s : Nat)]) = AV.own 1 false ((ms ++ [(s : Int)]).map i64)
        rw [List.map_append]
        rfl
      · show i64 (IntKind.i64.wrap _) = i64 _
        rw [wrap_i64 (by omega) (by omega)]
        rfl
  · have hjl : j = ys.length := by simp at h; omega
    subst hjl
    rw [List.drop_length, gyA] at had
    repeat (refine Run.go rfl ?_)
    refine Run.unBox (11, 0) 1 (11, 1) rfl rfl rfl (by decide) ?_
    repeat (refine Run.go rfl ?_)
    refine Run.packBox (6, 0) 1 rfl rfl rfl rfl ?_
    refine Run.pack 7 rfl rfl rfl ?_
    refine Run.ret hg rfl ?_
    rw [had]
    rfl
end Go.Proofs.YtofakfkmglmhoaaGreat
