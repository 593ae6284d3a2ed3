/- Contracts of the program's functions, and what follows from them. -/
import Derived.Test.YtofakfkmglmhoaaGreatK8
set_option linter.unusedVariables false
set_option maxRecDepth 100000
set_option linter.unusedSimpArgs false
namespace Go.Proofs.YtofakfkmglmhoaaGreat
open Go Go.Av

/-! Racks that are spread out; years of books: the program. -/

def blA (e : Bool) (l : List Bk) : AV := .ro 8 e (l.map bkA)

noncomputable def X89 : Fx := ⟨Tryz.prog, tys, 89, Tryz.f89, [0, 1]⟩
theorem X89_ok : X89.Ok := ⟨Tryz.func89, tys_ok⟩
theorem indexBL_ct (l : List (List Bk)) (ex eb : Bool) (f : Nat) (caps : List AV) (p : (List Bk) → Bool) (hlen : l.length ≤ 1048576) (hc : AV.freeL caps = true)
    (hf : ∀ x ∈ l, Ct Tryz.prog f ([blA eb x] ++ caps) (bo (p x)) []) : Ct Tryz.prog 89 [.ro 1 ex (l.map (blA eb)), .fn f caps] (i64 (fi p l)) [] := by
  refine Ct.intro X89 X89_ok rfl (by kernel_rfl) rfl rfl fun g hg => ?_
  repeat (refine Run.step rfl ?_)
  refine Run.loop (fun j : Nat => ⟨[(0, .ro 1 ex (l.map (blA eb))), (1, .fn f caps), (7, i64 l.length), (8, i64 j)], []⟩) (fun j => j ≤ l.length ∧ j ≤ l.findIdx p) (fun j => l.length - j) 0 ⟨by omega, by omega⟩ ?_ ?_
  · refine St.Le.mk' ⟨rfl, rfl, ?_, rfl, trivial⟩ trivial
    show i64 _ = _
    simp
  · rintro j ⟨hj1, hj2⟩ IH
    repeat (refine Run.step rfl ?_)
    refine Run.cond rfl (fun h => ?_) (fun h => ?_)
    · have hlt : j < l.length := by simpa using h
      repeat (refine Run.step rfl ?_)
      refine Run.val rfl rfl rfl (ValOk.idx (blA eb l[j]) rfl rfl rfl rfl rfl (by omega) (by simp [hlt])) rfl ?_
      repeat (refine Run.step rfl ?_)
      refine Run.callp rfl rfl rfl rfl rfl rfl rfl hc rfl (hf l[j] (by simp)) (by decide) (by decide) ?_
      repeat (refine Run.step rfl ?_)
      refine Run.cond rfl (fun h => ?_) (fun h => ?_)
      · repeat (refine Run.step rfl ?_)
        refine Run.ret hg rfl ?_
        show i64 _ = _
        rw [fi_at hlt h hj2]
      · repeat (refine Run.step rfl ?_)
        refine Run.of (IH (j + 1) ⟨by omega, fi_next hlt h hj2⟩ (by omega)) ⟨rfl, rfl, rfl, ?_, trivial⟩ trivial
        show i64 _ = _
        rw [wrap_i64 (by omega) (by omega)]
        rfl
    · repeat (refine Run.step rfl ?_)
      have hj : j = l.length := by simp at h; omega
      refine Run.ret hg rfl ?_
      show i64 (-1) = _
      rw [fi_none (by omega)]

noncomputable def X62 : Fx := ⟨Tryz.prog, tys, 62, Tryz.f62, [0, 1]⟩
theorem X62_ok : X62.Ok := ⟨Tryz.func62, tys_ok⟩
theorem containsBL_ct (l : List (List Bk)) (ex eb : Bool) (f : Nat) (caps : List AV) (p : (List Bk) → Bool) (hlen : l.length ≤ 1048576) (hc : AV.freeL caps = true)
    (hf : ∀ x ∈ l, Ct Tryz.prog f ([blA eb x] ++ caps) (bo (p x)) []) : Ct Tryz.prog 62 [.ro 1 ex (l.map (blA eb)), .fn f caps] (bo (l.any p)) [] := by
  refine Ct.intro X62 X62_ok rfl (by kernel_rfl) rfl rfl fun g hg => ?_
  repeat (refine Run.go rfl ?_)
  refine Run.callp rfl rfl rfl rfl rfl rfl (by simp [AV.freeL, AV.free, hc]) rfl rfl (indexBL_ct l ex eb f caps p hlen hc hf) (by decide) (by decide) ?_
  repeat (refine Run.go rfl ?_)
  refine Run.ret hg rfl ?_
  show bo _ = _
  rw [← fi_nonneg]

noncomputable def X63 : Fx := ⟨Tryz.prog, tys, 63, Tryz.f63, [0, 1]⟩
theorem X63_ok : X63.Ok := ⟨Tryz.func63, tys_ok⟩
theorem areAllBL10_ct (c : List Bk) (eb : Bool) (f : Nat) (p : Bool) (hf : Ct Tryz.prog f [blA eb c] (bo p) []) : Ct Tryz.prog 63 [blA eb c, .rp [.fn f []] 0] (bo (!p)) [] := by
  refine Ct.intro X63 X63_ok rfl (by kernel_rfl) rfl rfl fun g hg => ?_
  repeat (refine Run.go rfl ?_)
  refine Run.cs rfl hf rfl rfl ?_
  repeat (refine Run.go rfl ?_)
  exact Run.ret hg rfl rfl

noncomputable def X27 : Fx := ⟨Tryz.prog, tys, 27, Tryz.f27, [0, 1]⟩
theorem X27_ok : X27.Ok := ⟨Tryz.func27, tys_ok⟩
theorem areAllBL0_ct (l : List (List Bk)) (ex eb : Bool) (f : Nat) (p : (List Bk) → Bool) (hlen : l.length ≤ 1048576) (hf : ∀ x ∈ l, Ct Tryz.prog f [blA eb x] (bo (p x)) []) :
    Ct Tryz.prog 27 [.ro 1 ex (l.map (blA eb)), .fn f []] (bo (l.all p)) [] := by
  refine Ct.intro X27 X27_ok rfl (by kernel_rfl) rfl rfl fun g hg => ?_
  repeat (refine Run.go rfl ?_)
  refine Run.cs rfl (containsBL_ct l ex eb 63 [.rp [.fn f []] 0] (fun x => !p x) hlen rfl (fun x hx => areAllBL10_ct x eb f (p x) (hf x hx))) rfl rfl ?_
  repeat (refine Run.go rfl ?_)
  refine Run.ret hg rfl ?_
  show bo (!l.any fun x => !p x) = _
  congr 2
  simp [List.all_eq_not_any_not]

noncomputable def X34 : Fx := ⟨Tryz.prog, tys, 34, Tryz.f34, [0]⟩
theorem X34_ok : X34.Ok := ⟨Tryz.func34, tys_ok⟩
theorem spreadOut_ct (r : Rk) (ex : Bool) (h : VR r.pl r.bs) : Ct Tryz.prog 34 [rkR ex r] (.tup [rkO false ⟨r.pl, sp r.pl (pbs r.bs)⟩, i64 (els r.bs (sp r.pl (pbs r.bs)) r.bs.length : Nat)]) [] := by
  obtain ⟨n, l⟩ := r
  simp only at h
  have hlen := h.len
  have hn := h.hn
  have hlen1 : l.length ≤ 1048576 := by omega
  have hw : IntKind.i64.wrap n = n := wrap_i64 (by omega) (by omega)
  have hsl : (sp n (pbs l)).length = l.length := by rw [sp_len, pbs_len]
  have hS := h.spread
  refine Ct.intro X34 X34_ok rfl (by kernel_rfl) rfl rfl fun g hg => ?_
  repeat (refine Run.go rfl ?_)
  refine Run.drawI (fun D => ⟨[(1, .bp (1, 0) 0), (2, .bp (2, 0) 0), (8, bif D 0 then .bp (1, 0) 0 else .top), (9, bif D 1 then i16 n else .top), (10, bif D 2 then i64 n else .top), (11, bif D 3 then rkR ex ⟨n, l⟩ else .top), (12, bif D 4 then .own 8 false ((pbs l).map bkA) else .top), (13, bif D 7 then .top else bif D 5 then rkO false ⟨n, (sp n (pbs l))⟩ else .top), (4, bif D 6 then .bp (4, 0) 0 else .top), (5, bif D 8 then i64 ((0 : Nat) : Int) else .top)], [((1, 0), Ob.box (rkR ex ⟨n, l⟩).cells), ((2, 0), Ob.box [i16 0, .lit (.slice none 0 0)]), ((4, 0), (bif D 7 then Ob.box [i16 n, .vec (13, 1) 0 ((sp n (pbs l)).map plA).length] else (bif D 6 then Ob.box [i16 0, .lit (.slice none 0 0)] else Ob.gone))), ((13, 1), (bif D 7 then Ob.vec 9 false ((sp n (pbs l)).map plA) else Ob.gone))]⟩) (by decide +kernel) (by decide +kernel) ?_ ?_ fun k' => ⟨?_, ?_, ?_, ?_, ?_, ?_, ?_, ?_, ?_, trivial⟩
  · exact St.Le.mk' ⟨rfl, rfl, rfl, rfl, rfl, rfl, rfl, rfl, rfl, rfl, trivial⟩ ⟨rfl, rfl, rfl, rfl, trivial⟩
  rotate_left
  · intro D hid h0 hp hs rest hK
    obtain ⟨d1, -⟩ : AllD D false [1] := ideal_sub hs (by decide +kernel)
    simp only [d1, h0, cond_true, cond_false]
    refine Run.go rfl ?_
    refine Run.le ?_ hK
    simp only [d1, h0, Nat.reduceBEq, Bool.false_or, Bool.true_or, cond_true, cond_false]
    exact St.Le.mk' ⟨rfl, rfl, rfl, rfl, rfl, rfl, rfl, rfl, rfl, rfl, trivial⟩ ⟨rfl, rfl, rfl, rfl, trivial⟩
  · intro D hid h0 hp hs rest hK
    obtain ⟨d0, -⟩ : AllD D true [0] := ideal_sub hp (by decide +kernel)
    obtain ⟨d2, -⟩ : AllD D false [2] := ideal_sub hs (by decide +kernel)
    simp only [d0, d2, h0, cond_true, cond_false]
    refine Run.go rfl ?_
    refine Run.le ?_ hK
    simp only [d0, d2, h0, Nat.reduceBEq, Bool.false_or, Bool.true_or, cond_true, cond_false]
    exact St.Le.mk' ⟨rfl, rfl, rfl, rfl, rfl, rfl, rfl, rfl, rfl, rfl, trivial⟩ ⟨rfl, rfl, rfl, rfl, trivial⟩
  · intro D hid h0 hp hs rest hK
    obtain ⟨d1, -⟩ : AllD D true [1] := ideal_sub hp (by decide +kernel)
    obtain ⟨d5, -⟩ : AllD D false [5] := ideal_sub hs (by decide +kernel)
    simp only [d1, d5, h0, cond_true, cond_false]
    refine Run.go rfl ?_
    rw [hw]
    refine Run.le ?_ hK
    simp only [d1, d5, h0, Nat.reduceBEq, Bool.false_or, Bool.true_or, cond_true, cond_false]
    exact St.Le.mk' ⟨rfl, rfl, rfl, rfl, rfl, rfl, rfl, rfl, rfl, rfl, trivial⟩ ⟨rfl, rfl, rfl, rfl, trivial⟩
  · intro D hid h0 hp hs rest hK
    obtain ⟨d4, -⟩ : AllD D false [4] := ideal_sub hs (by decide +kernel)
    simp only [d4, h0, cond_true, cond_false]
    refine Run.go rfl ?_
    refine Run.le ?_ hK
    simp only [d4, h0, Nat.reduceBEq, Bool.false_or, Bool.true_or, cond_true, cond_false]
    exact St.Le.mk' ⟨rfl, rfl, rfl, rfl, rfl, rfl, rfl, rfl, rfl, rfl, trivial⟩ ⟨rfl, rfl, rfl, rfl, trivial⟩
  · intro D hid h0 hp hs rest hK
    obtain ⟨d3, -⟩ : AllD D true [3] := ideal_sub hp (by decide +kernel)
    obtain ⟨d5, -⟩ : AllD D false [5] := ideal_sub hs (by decide +kernel)
    simp only [d3, d5, h0, cond_true, cond_false]
    refine Run.cs rfl (rkBooks_ct ⟨n, l⟩ ex hlen1) rfl (rfB _) ?_
    refine Run.le ?_ hK
    simp only [d3, d5, h0, Nat.reduceBEq, Bool.false_or, Bool.true_or, cond_true, cond_false]
    exact St.Le.mk' ⟨rfl, rfl, rfl, rfl, rfl, rfl, rfl, rfl, rfl, rfl, trivial⟩ ⟨rfl, rfl, rfl, rfl, trivial⟩
  · intro D hid h0 hp hs rest hK
    obtain ⟨d2, d4, -⟩ : AllD D true [2, 4] := ideal_sub hp (by decide +kernel)
    obtain ⟨d7, -⟩ : AllD D false [7] := ideal_sub hs (by decide +kernel)
    simp only [d2, d4, d7, h0, cond_true, cond_false]
    refine Run.cs rfl (spread_ct n (pbs l) false hn (by rw [pbs_len]; omega)) (by rw [frzB]; rfl) (rk_rf _ _) ?_
    refine Run.le ?_ hK
    simp only [d2, d4, d7, h0, Nat.reduceBEq, Bool.false_or, Bool.true_or, cond_true, cond_false]
    exact St.Le.mk' ⟨rfl, rfl, rfl, rfl, rfl, rfl, rfl, rfl, rfl, rfl, trivial⟩ ⟨rfl, rfl, rfl, rfl, trivial⟩
  · intro D hid h0 hp hs rest hK
    obtain ⟨d7, -⟩ : AllD D false [7] := ideal_sub hs (by decide +kernel)
    simp only [d7, h0, cond_true, cond_false]
    refine Run.alloc rfl rfl rfl rfl rfl rfl (by cases D 0 <;> cases D 1 <;> cases D 2 <;> cases D 3 <;> cases D 4 <;> cases D 5 <;> cases D 8 <;> rfl) rfl ?_
    refine Run.le ?_ hK
    simp only [d7, h0, Nat.reduceBEq, Bool.false_or, Bool.true_or, cond_true, cond_false]
    exact St.Le.mk' ⟨rfl, rfl, rfl, rfl, rfl, rfl, rfl, rfl, rfl, rfl, trivial⟩ ⟨rfl, rfl, rfl, rfl, trivial⟩
  · intro D hid h0 hp hs rest hK
    obtain ⟨d5, d6, -⟩ : AllD D true [5, 6] := ideal_sub hp (by decide +kernel)
    obtain ⟨d8, -⟩ : AllD D false [8] := ideal_sub hs (by decide +kernel)
    have d2 : D 2 = true := hid 5 2 (by decide +kernel) (by decide +kernel) d5
    have d4 : D 4 = true := hid 5 4 (by decide +kernel) (by decide +kernel) d5
    have d1 : D 1 = true := hid 2 1 (by decide +kernel) (by decide +kernel) d2
    have d0 : D 0 = true := hid 1 0 (by decide +kernel) (by decide +kernel) d1
    have d3 : D 3 = true := hid 4 3 (by decide +kernel) (by decide +kernel) d4
    simp only [d5, d6, d8, d2, d4, d1, d0, d3, h0, cond_true, cond_false]
    refine Run.unagg 13 1 (13, 1) rfl rfl rfl ?_
    refine Run.go rfl ?_
    refine Run.forget 13 ?_
    refine Run.le ?_ hK
    simp only [d5, d6, d8, d2, d4, d1, d0, d3, h0, Nat.reduceBEq, Bool.false_or, Bool.true_or, cond_true, cond_false]
    exact St.Le.mk' ⟨rfl, rfl, rfl, rfl, rfl, rfl, rfl, rfl, rfl, rfl, trivial⟩ ⟨rfl, rfl, rfl, rfl, trivial⟩
  · intro D hid h0 hp hs rest hK
    obtain ⟨d7, -⟩ : AllD D true [7] := ideal_sub hp (by decide +kernel)
    simp only [d7, h0, cond_true, cond_false]
    refine Run.go rfl ?_
    refine Run.le ?_ hK
    simp only [d7, h0, Nat.reduceBEq, Bool.false_or, Bool.true_or, cond_true, cond_false]
    exact St.Le.mk' ⟨rfl, rfl, rfl, rfl, rfl, rfl, rfl, rfl, rfl, rfl, trivial⟩ ⟨rfl, rfl, rfl, rfl, trivial⟩
  generalize sp n (pbs l) = m at *
  repeat (refine Run.go rfl ?_)
  refine Run.loop (fun j : Nat => ⟨[(1, .bp (1, 0) 0), (2, .bp (2, 0) 0), (4, .bp (4, 0) 0), (5, i64 (els l m j : Nat)), (15, .vec (13, 1) 0 (m.map plA).length), (16, i64 l.length), (17, i64 (j : Nat))],
    [((1, 0), .box (rkR ex ⟨n, l⟩).cells), ((2, 0), .box [i16 0, .lit (.slice none 0 0)]), ((4, 0), .box [i16 n, .vec (13, 1) 0 (m.map plA).length]), ((13, 1), .vec 9 false (m.map plA))]⟩) (fun j => j ≤ l.length) (fun j => l.length - j) 0 (by omega) ?_ ?_
  · refine St.Le.mk' ⟨rfl, rfl, rfl, rfl, rfl, ?_, rfl, trivial⟩ ⟨rfl, rfl, rfl, rfl, trivial⟩
    show i64 ((m.map plA).length : Nat) = _
    rw [List.length_map, hsl]
  intro j hj IH
  repeat (refine Run.go rfl ?_)
  refine Run.cond rfl (fun h0 => ?_) (fun h0 => ?_)
  · have hlt : j < l.length := by simpa using h0
    have hlm : j < m.length := by omega
    have hml : (m.map plA).length = m.length := List.length_map ..
    have hel : els l m (j + 1) = els l m j + if l[j].p = m[j].p then 0 else 1 := by rw [els, pa_get hlt, pa_get hlm]
    have hee := els_le l m j
    have hat : (m.map plA)[0 + (j : Int).toNat]? = some (plA m[j]) := by rw [Nat.zero_add, Int.toNat_natCast, List.getElem?_map, List.getElem?_eq_getElem hlm]; rfl
    repeat (refine Run.go rfl ?_)
    refine Run.val rfl rfl rfl (ValOk.idxv (m := (j : Int)) rfl rfl rfl rfl rfl rfl (by omega) (by omega)) rfl ?_
    refine Run.val rfl rfl rfl (ValOk.loadv (plA m[j]) rfl rfl rfl rfl hat rfl) rfl ?_
    repeat (refine Run.go rfl ?_)
    refine Run.draw (by kernel_rfl) (by decide +kernel) ?_
    repeat (refine Quiet.go rfl ?_)
    refine Quiet.val rfl rfl (ValOk.idx (plA l[j]) rfl rfl rfl rfl rfl (by omega) (by simp [hlt])) rfl ?_
    repeat (refine Quiet.go rfl ?_)
    refine Quiet.nil ?_
    refine Run.condJ ⟨[(1, .bp (1, 0) 0), (2, .bp (2, 0) 0), (4, .bp (4, 0) 0), (5, i64 (els l m (j + 1) : Nat)), (15, .vec (13, 1) 0 (m.map plA).length), (16, i64 l.length), (17, i64 (j : Nat))],
      [((1, 0), .box (rkR ex ⟨n, l⟩).cells), ((2, 0), .box [i16 0, .lit (.slice none 0 0)]), ((4, 0), .box [i16 n, .vec (13, 1) 0 (m.map plA).length]), ((13, 1), .vec 9 false (m.map plA))]⟩ rfl (fun h1 k' hN => ?_) (fun h1 k' hN => ?_) ?_
    · have h1 : ¬ l[j].p = m[j].p := fun e => by simp [e] at h1
      rw [hel, if_neg h1] at hN
      repeat (refine Run.go rfl ?_)
      refine Run.of hN ⟨rfl, rfl, rfl, ?_, rfl, rfl, rfl, trivial⟩ ⟨rfl, rfl, rfl, rfl, trivial⟩
      show i64 (IntKind.i64.wrap ((els l m j : Nat) + 1)) = i64 _
      rw [wrap_i64 (by omega) (by omega)]
      rfl
    · have h1 : l[j].p = m[j].p := by simp at h1; omega
      rw [hel, if_pos h1, Nat.add_zero] at hN
      repeat (refine Run.go rfl ?_)
      exact Run.of hN ⟨rfl, rfl, rfl, rfl, rfl, rfl, rfl, trivial⟩ ⟨rfl, rfl, rfl, rfl, trivial⟩
    repeat (refine Run.go rfl ?_)
    refine Run.of (IH (j + 1) (by omega) (by omega)) ⟨rfl, rfl, rfl, rfl, rfl, rfl, ?_, trivial⟩ ⟨rfl, rfl, rfl, rfl, trivial⟩
    show i64 (IntKind.i64.wrap _) = i64 _
    rw [wrap_i64 (by omega) (by omega)]
    rfl
  · have hjl : j = l.length := by simp at h0; omega
    subst hjl
    repeat (refine Run.go rfl ?_)
    refine Run.packBox (2, 0) 1 rfl rfl rfl rfl ?_
    exact Run.ret hg rfl rfl

def gyA' (x : Rk × List Int × Int) : AV := .tup [rkO false x.1, .own 1 false (x.2.1.map i64), i64 x.2.2]

noncomputable def X8 : Fx := ⟨Tryz.prog, tys, 8, Tryz.f8, [1, 2]⟩
theorem X8_ok : X8.Ok := ⟨Tryz.func8, tys_ok⟩
theorem implGrowYears_ct (r : Rk) (ex e2 eb : Bool) (ys : List (List Bk)) (most : Int) (hr : rkOk r) (hy : ys.length ≤ 1048576) (hyl : ∀ y ∈ ys, y.length ≤ 1048576 ∧ ∀ x ∈ y, bkRng x) :
    Ct Tryz.prog 8 [rkR ex r, .ro 1 e2 (ys.map (blA eb)), i64 most] (gyA' (gyRes r ys most)) [] := by
  have hlen := hr.1.2
  refine Ct.intro X8 X8_ok rfl (by kernel_rfl) rfl rfl fun g hg => ?_
  repeat (refine Run.go rfl ?_)
  refine Run.cs rfl (implValidRack_ct r ex hr) rfl rfl ?_
  repeat (refine Run.go rfl ?_)
  refine Run.bool 26 rfl (fun h => ?_) (fun h => ?_)
  · have h : vR r = false := by simpa using h
    repeat (refine Run.go rfl ?_)
    refine Run.cond rfl (fun _ => ?_) (fun h => by simp at h)
    repeat (refine Run.go rfl ?_)
    refine Run.val rfl rfl rfl (ValOk.build rfl rfl rfl rfl rfl) rfl ?_
    repeat (refine Run.go rfl ?_)
    refine Run.nilBox (6, 0) 1 9 false rfl rfl ?_
    refine Run.nilSlot 7 1 false rfl ?_
    refine Run.ret hg rfl ?_
    rw [gyRes, if_neg (by rw [h]; simp)]
    rfl
  have hv : vR r = true := by simpa using h
  have hV := (vR_VR hr.2).1 hv
  repeat (refine Run.go rfl ?_)
  refine Run.cs rfl (areAllBL0_ct ys e2 eb 28 vBs hy fun x hx => validBooks_ct x eb (hyl x hx).1) rfl rfl ?_
  repeat (refine Run.go rfl ?_)
  refine Run.cond rfl (fun h => ?_) (fun h => ?_)
  · have h : ys.all vBs = false := by
      have h : (!ys.all vBs) = true := h
      rw [Bool.not_eq_true'] at h
      exact h
    repeat (refine Run.go rfl ?_)
    refine Run.val rfl rfl rfl (ValOk.build rfl rfl rfl rfl rfl) rfl ?_
    repeat (refine Run.go rfl ?_)
    refine Run.nilBox (6, 0) 1 9 false rfl rfl ?_
    refine Run.nilSlot 7 1 false rfl ?_
    refine Run.ret hg rfl ?_
    rw [gyRes, if_neg (by rw [h]; simp)]
    rfl
  have hva : ys.all vBs = true := by
    have h : (!ys.all vBs) = false := h
    rw [Bool.not_eq_false'] at h
    exact h
  repeat (refine Run.go rfl ?_)
  refine Run.bool 36 rfl (fun h => ?_) (fun h => ?_)
  · have h : 20 < ys.length := by simp at h; omega
    repeat (refine Run.go rfl ?_)
    refine Run.cond rfl (fun _ => ?_) (fun h => by simp at h)
    repeat (refine Run.go rfl ?_)
    refine Run.val rfl rfl rfl (ValOk.build rfl rfl rfl rfl rfl) rfl ?_
    repeat (refine Run.go rfl ?_)
    refine Run.nilBox (6, 0) 1 9 false rfl rfl ?_
    refine Run.nilSlot 7 1 false rfl ?_
    refine Run.ret hg rfl ?_
    rw [gyRes, if_pos ⟨hv, hva⟩, if_neg (by omega)]
    rfl
  have hy20 : ys.length ≤ 20 := by simp at h; omega
  repeat (refine Run.go rfl ?_)
  refine Run.cs rfl (within64_ct most 0 60) rfl rfl ?_
  repeat (refine Run.go rfl ?_)
  refine Run.cond rfl (fun h => ?_) (fun h => ?_)
  · have h : inr most 0 60 = false := by simpa using h
    repeat (refine Run.go rfl ?_)
    refine Run.val rfl rfl rfl (ValOk.build rfl rfl rfl rfl rfl) rfl ?_
    repeat (refine Run.go rfl ?_)
    refine Run.nilBox (6, 0) 1 9 false rfl rfl ?_
    refine Run.nilSlot 7 1 false rfl ?_
    refine Run.ret hg rfl ?_
    rw [gyRes, if_pos ⟨hv, hva⟩, if_neg (by rw [h]; simp)]
    rfl
  have hin : inr most 0 60 = true := by simpa using h
  have hbr : ∀ x ∈ r.bs, bkRng x.b := fun x hx => (hr.2 x hx).2
  rw [gyRes, if_pos ⟨hv, hva⟩, if_pos ⟨hy20, hin⟩] at hg
  obtain ⟨n, l0⟩ := r
  simp only at hV hbr hg
  have hn := hV.hn
  repeat (refine Run.go rfl ?_)
  refine Run.cs rfl (rkOwn_ct ⟨n, l0⟩ ex hlen) rfl (rk_rf _ _) ?_
  repeat (refine Run.go rfl ?_)
  refine Run.unagg 43 1 (43, 1) rfl rfl rfl ?_
  repeat (refine Run.go rfl ?_)
  refine Run.packBox (9, 0) 1 rfl rfl rfl rfl ?_
  repeat (refine Run.go rfl ?_)
  refine Run.nilSlot 10 1 false rfl ?_
  refine Run.loop (fun q : Nat × List Pl × List Int => ⟨[(2, i64 most), (6, .bp (6, 0) 0), (9, .bp (9, 0) 0), (10, .own 1 false (q.2.2.map i64)), (44, .ro 1 e2 (ys.map (blA eb))), (45, i64 ys.length), (46, i64 (q.1 : Nat))],
    [((6, 0), .box [i16 0, .lit (.slice none 0 0)]), ((9, 0), .box [i16 n, .own 9 false (q.2.1.map plA)])]⟩)
    (fun q => q.1 ≤ ys.length ∧ VR n q.2.1 ∧ (∀ x ∈ q.2.1, bkRng x.b) ∧ q.2.2.length = q.1 ∧ gyA n most ys l0 [] = gyA n most (ys.drop q.1) q.2.1 q.2.2) (fun q => ys.length - q.1) (0, l0, []) ⟨by simp, hV, hbr, rfl, rfl⟩ ?_ ?_
  · refine St.Le.mk' ⟨rfl, rfl, rfl, rfl, rfl, ?_, rfl, trivial⟩ ⟨rfl, rfl, trivial⟩
    show i64 ((ys.map (blA eb)).length : Nat) = _
    rw [List.length_map]
  rintro ⟨j, l, ms⟩ ⟨hj, hVl, hbl, hms, had⟩ IH
  simp only at hj hVl hbl hms had IH
  repeat (refine Run.go rfl ?_)
  refine Run.cond rfl (fun h => ?_) (fun h => ?_)
  · have hlt : j < ys.length := by simpa using h
    rw [List.drop_eq_getElem_cons hlt, gyA] at had
    obtain ⟨y, hyj⟩ : ∃ y, y = ys[j] := ⟨_, rfl⟩
    have hyy := hyl y (by rw [hyj]; simp)
    have hyv : vBs y = true := by
      have := List.all_eq_true.1 hva y (by rw [hyj]; simp)
      exact this
    have hyv1 : y.length ≤ 60 ∧ ∀ x ∈ y, vB x = true := by simpa [vBs] using hyv
    have hat : (ys.map (blA eb))[(j : Int).toNat]? = some (blA eb y) := by rw [Int.toNat_natCast, List.getElem?_map, List.getElem?_eq_getElem hlt, hyj]; rfl
    rw [← hyj] at had
    repeat (refine Run.go rfl ?_)
    refine Run.val rfl rfl rfl (ValOk.idx (blA eb y) rfl rfl rfl rfl rfl (by omega) hat) rfl ?_
    repeat (refine Run.go rfl ?_)
    refine Run.loop (fun q : Nat × List Pl × Nat => ⟨[(2, i64 most), (6, .bp (6, 0) 0), (9, .bp (9, 0) 0), (10, .own 1 false (ms.map i64)), (13, i64 (q.2.2 : Nat)), (44, .ro 1 e2 (ys.map (blA eb))), (45, i64 ys.length), (46, i64 (j : Nat)), (50, .ro 8 eb (y.map bkA)), (51, i64 y.length), (52, i64 (q.1 : Nat))],
      [((6, 0), .box [i16 0, .lit (.slice none 0 0)]), ((9, 0), .box [i16 n, .own 9 false (q.2.1.map plA)])]⟩)
      (fun q => q.1 ≤ y.length ∧ VR n q.2.1 ∧ (∀ x ∈ q.2.1, bkRng x.b) ∧ q.2.2 ≤ q.1 * 120 ∧ gy1 n most y l 0 = gy1 n most (y.drop q.1) q.2.1 q.2.2) (fun q => y.length - q.1) (0, l, 0) ⟨by simp, hVl, hbl, by simp, rfl⟩ ?_ ?_
    · refine St.Le.mk' ⟨rfl, rfl, rfl, rfl, rfl, rfl, rfl, rfl, rfl, ?_, rfl, trivial⟩ ⟨rfl, rfl, trivial⟩
      show i64 ((y.map bkA).length : Nat) = _
      rw [List.length_map]
    rintro ⟨i, l, s⟩ ⟨hi, hVl, hbl, hs, hgy⟩ IH2
    simp only at hi hVl hbl hs hgy IH2
    have hlen := hVl.len
    repeat (refine Run.go rfl ?_)
    refine Run.cond rfl (fun h => ?_) (fun h => ?_)
    · have hil : i < y.length := by simpa using h
      rw [List.drop_eq_getElem_cons hil, gy1] at hgy
      have hbj := hyy.2 y[i] (by simp)
      have hvj := hyv1.2 y[i] (by simp)
      have hat2 : (y.map bkA)[(i : Int).toNat]? = some (bkA y[i]) := by rw [Int.toNat_natCast, List.getElem?_map, List.getElem?_eq_getElem hil]; rfl
      generalize y[i] = b at hgy hbj hvj hat2
      have hf1 : ∀ m : List Pl, rkR false ⟨n, m⟩ = .agg [i16 n, .ro 9 false (m.map plA)] := fun _ => rfl
      repeat (refine Run.go rfl ?_)
      refine Run.val rfl rfl rfl (ValOk.idx (bkA b) rfl rfl rfl rfl rfl (by omega) hat2) rfl ?_
      repeat (refine Run.go rfl ?_)
      refine Run.unBox (9, 0) 1 (9, 1) rfl rfl rfl (by decide) ?_
      repeat (refine Run.go rfl ?_)
      refine Run.cs rfl (isFull_ct ⟨n, l⟩ false (by show -32768 ≤ n ∧ n ≤ 32767; omega)) (by rw [hf1, frzP, decide_eq_true rfl]; rfl) rfl ?_
      repeat (refine Run.go rfl ?_)
      refine Run.cond rfl (fun h => ?_) (fun h => ?_)
      · have h : (l.length : Int) = n := by simpa using h
        rw [if_pos h] at hgy
        rw [hgy] at had
        repeat (refine Run.go rfl ?_)
        refine Run.val rfl rfl rfl (ValOk.build rfl rfl rfl rfl rfl) rfl ?_
        repeat (refine Run.go rfl ?_)
        refine Run.nilBox (6, 0) 1 9 false rfl rfl ?_
        refine Run.nilSlot 7 1 false rfl ?_
        refine Run.ret hg rfl ?_
        rw [had]
        rfl
      have h : ¬ (l.length : Int) = n := by simpa using h
      rw [if_neg h] at hgy
      obtain ⟨q1, q2, q3⟩ := hVl.gstep most h hbl hbj hvj
      obtain ⟨g1, g2, g3⟩ := hVl.glo most b
      have hgr : ∀ x ∈ gl n most l b, bkRng x.b := fun x hx => by
        obtain ⟨z, hz, e⟩ := g3 x hx
        rw [e]; exact hbl z hz
      repeat (refine Run.go rfl ?_)
      refine Run.drawI (fun D => ⟨[(2, i64 most), (6, .bp (6, 0) 0), (9, .bp (9, 0) 0), (10, .own 1 false (ms.map i64)), (13, i64 (s : Nat)), (15, .bp (15, 0) 0), (44, .ro 1 e2 (ys.map (blA eb))), (45, i64 ys.length), (46, i64 (j : Nat)), (50, .ro 8 eb (y.map bkA)), (51, i64 y.length), (52, i64 (i : Nat)), (60, bif D 0 then .agg [i16 n, .vec (9, 1) 0 (l.map plA).length] else .top), (61, bif D 1 then .agg [i16 n, .vec (9, 1) 0 (l.map plA).length] else .top), (62, bif D 2 then bkA b else .top), (63, bif D 3 then i64 (idx l b : Nat) else .top), (64, bif D 5 then .top else bif D 4 then rowR (psh n l (idx l b)) else .top), (59, bif D 5 then rowR (psh n l (idx l b)) else .top), (65, bif D 6 then i64 ((psh n l (idx l b)).1 : Nat) else .top), (66, bif D 7 then bo (psh n l (idx l b)).2 else .top), (16, bif D 8 then i64 ((psh n l (idx l b)).1 : Nat) else .top), (17, bif D 9 then bo (psh n l (idx l b)).2 else .top)], [((6, 0), Ob.box [i16 0, .lit (.slice none 0 0)]), ((9, 0), Ob.box [i16 n, .vec (9, 1) 0 (l.map plA).length]), ((9, 1), Ob.vec 9 false (l.map plA)), ((15, 0), Ob.box (bkA b).cells)]⟩) (by decide +kernel) (by decide +kernel) ?_ ?_ fun k' => ⟨?_, ?_, ?_, ?_, ?_, ?_, ?_, ?_, ?_, ?_, trivial⟩
      · exact St.Le.mk' ⟨rfl, rfl, rfl, rfl, rfl, rfl, rfl, rfl, rfl, rfl, rfl, rfl, rfl, rfl, rfl, rfl, rfl, rfl, rfl, rfl, rfl, rfl, trivial⟩ ⟨rfl, rfl, rfl, rfl, trivial⟩
      rotate_left
      · intro D hid h0 hp hs rest hK
        obtain ⟨d4, -⟩ : AllD D false [4] := ideal_sub hs (by decide +kernel)
        simp only [d4, h0, cond_true, cond_false]
        refine Run.go rfl ?_
        refine Run.le ?_ hK
        simp only [d4, h0, Nat.reduceBEq, Bool.false_or, Bool.true_or, cond_true, cond_false]
        exact St.Le.mk' ⟨rfl, rfl, rfl, rfl, rfl, rfl, rfl, rfl, rfl, rfl, rfl, rfl, rfl, rfl, rfl, rfl, rfl, rfl, rfl, rfl, rfl, rfl, trivial⟩ ⟨rfl, rfl, rfl, rfl, trivial⟩
      · intro D hid h0 hp hs rest hK
        obtain ⟨d3, -⟩ : AllD D false [3] := ideal_sub hs (by decide +kernel)
        simp only [d3, h0, cond_true, cond_false]
        refine Run.go rfl ?_
        refine Run.le ?_ hK
        simp only [d3, h0, Nat.reduceBEq, Bool.false_or, Bool.true_or, cond_true, cond_false]
        exact St.Le.mk' ⟨rfl, rfl, rfl, rfl, rfl, rfl, rfl, rfl, rfl, rfl, rfl, rfl, rfl, rfl, rfl, rfl, rfl, rfl, rfl, rfl, rfl, rfl, trivial⟩ ⟨rfl, rfl, rfl, rfl, trivial⟩
      · intro D hid h0 hp hs rest hK
        obtain ⟨d3, -⟩ : AllD D false [3] := ideal_sub hs (by decide +kernel)
        simp only [d3, h0, cond_true, cond_false]
        refine Run.go rfl ?_
        refine Run.le ?_ hK
        simp only [d3, h0, Nat.reduceBEq, Bool.false_or, Bool.true_or, cond_true, cond_false]
        exact St.Le.mk' ⟨rfl, rfl, rfl, rfl, rfl, rfl, rfl, rfl, rfl, rfl, rfl, rfl, rfl, rfl, rfl, rfl, rfl, rfl, rfl, rfl, rfl, rfl, trivial⟩ ⟨rfl, rfl, rfl, rfl, trivial⟩
      · intro D hid h0 hp hs rest hK
        obtain ⟨d1, d2, -⟩ : AllD D true [1, 2] := ideal_sub hp (by decide +kernel)
        obtain ⟨d4, -⟩ : AllD D false [4] := ideal_sub hs (by decide +kernel)
        simp only [d1, d2, d4, h0, cond_true, cond_false]
        refine Run.cs rfl (rkIndex_ct ⟨n, l⟩ b false (by show l.length ≤ _; omega)) (by rw [hf1, frzP, decide_eq_true rfl]; rfl) rfl ?_
        refine Run.le ?_ hK
        simp only [d1, d2, d4, h0, Nat.reduceBEq, Bool.false_or, Bool.true_or, cond_true, cond_false]
        exact St.Le.mk' ⟨rfl, rfl, rfl, rfl, rfl, rfl, rfl, rfl, rfl, rfl, rfl, rfl, rfl, rfl, rfl, rfl, rfl, rfl, rfl, rfl, rfl, rfl, trivial⟩ ⟨rfl, rfl, rfl, rfl, trivial⟩
      · intro D hid h0 hp hs rest hK
        obtain ⟨d0, d3, -⟩ : AllD D true [0, 3] := ideal_sub hp (by decide +kernel)
        obtain ⟨d5, -⟩ : AllD D false [5] := ideal_sub hs (by decide +kernel)
        simp only [d0, d3, d5, h0, cond_true, cond_false]
        refine Run.cs rfl (pushed_ct ⟨n, l⟩ false (idx l b) hVl (idx_le l b)) (by rw [hf1, frzP, decide_eq_true rfl]; rfl) rfl ?_
        refine Run.le ?_ hK
        simp only [d0, d3, d5, h0, Nat.reduceBEq, Bool.false_or, Bool.true_or, cond_true, cond_false]
        exact St.Le.mk' ⟨rfl, rfl, rfl, rfl, rfl, rfl, rfl, rfl, rfl, rfl, rfl, rfl, rfl, rfl, rfl, rfl, rfl, rfl, rfl, rfl, rfl, rfl, trivial⟩ ⟨rfl, rfl, rfl, rfl, trivial⟩
      · intro D hid h0 hp hs rest hK
        obtain ⟨d4, -⟩ : AllD D true [4] := ideal_sub hp (by decide +kernel)
        obtain ⟨d6, d7, -⟩ : AllD D false [6, 7] := ideal_sub hs (by decide +kernel)
        simp only [d4, d6, d7, h0, cond_true, cond_false]
        refine Run.go rfl ?_
        refine Run.le ?_ hK
        simp only [d4, d6, d7, h0, Nat.reduceBEq, Bool.false_or, Bool.true_or, cond_true, cond_false]
        exact St.Le.mk' ⟨rfl, rfl, rfl, rfl, rfl, rfl, rfl, rfl, rfl, rfl, rfl, rfl, rfl, rfl, rfl, rfl, rfl, rfl, rfl, rfl, rfl, rfl, trivial⟩ ⟨rfl, rfl, rfl, rfl, trivial⟩
      · intro D hid h0 hp hs rest hK
        obtain ⟨d5, -⟩ : AllD D true [5] := ideal_sub hp (by decide +kernel)
        obtain ⟨d8, -⟩ : AllD D false [8] := ideal_sub hs (by decide +kernel)
        simp only [d5, d8, h0, cond_true, cond_false]
        refine Run.go rfl ?_
        refine Run.le ?_ hK
        simp only [d5, d8, h0, Nat.reduceBEq, Bool.false_or, Bool.true_or, cond_true, cond_false]
        exact St.Le.mk' ⟨rfl, rfl, rfl, rfl, rfl, rfl, rfl, rfl, rfl, rfl, rfl, rfl, rfl, rfl, rfl, rfl, rfl, rfl, rfl, rfl, rfl, rfl, trivial⟩ ⟨rfl, rfl, rfl, rfl, trivial⟩
      · intro D hid h0 hp hs rest hK
        obtain ⟨d5, -⟩ : AllD D true [5] := ideal_sub hp (by decide +kernel)
        obtain ⟨d9, -⟩ : AllD D false [9] := ideal_sub hs (by decide +kernel)
        simp only [d5, d9, h0, cond_true, cond_false]
        refine Run.go rfl ?_
        refine Run.le ?_ hK
        simp only [d5, d9, h0, Nat.reduceBEq, Bool.false_or, Bool.true_or, cond_true, cond_false]
        exact St.Le.mk' ⟨rfl, rfl, rfl, rfl, rfl, rfl, rfl, rfl, rfl, rfl, rfl, rfl, rfl, rfl, rfl, rfl, rfl, rfl, rfl, rfl, rfl, rfl, trivial⟩ ⟨rfl, rfl, rfl, rfl, trivial⟩
      · intro D hid h0 hp hs rest hK
        obtain ⟨d6, -⟩ : AllD D true [6] := ideal_sub hp (by decide +kernel)
        simp only [d6, h0, cond_true, cond_false]
        refine Run.go rfl ?_
        refine Run.le ?_ hK
        simp only [d6, h0, Nat.reduceBEq, Bool.false_or, Bool.true_or, cond_true, cond_false]
        exact St.Le.mk' ⟨rfl, rfl, rfl, rfl, rfl, rfl, rfl, rfl, rfl, rfl, rfl, rfl, rfl, rfl, rfl, rfl, rfl, rfl, rfl, rfl, rfl, rfl, trivial⟩ ⟨rfl, rfl, rfl, rfl, trivial⟩
      · intro D hid h0 hp hs rest hK
        obtain ⟨d7, -⟩ : AllD D true [7] := ideal_sub hp (by decide +kernel)
        simp only [d7, h0, cond_true, cond_false]
        refine Run.go rfl ?_
        refine Run.le ?_ hK
        simp only [d7, h0, Nat.reduceBEq, Bool.false_or, Bool.true_or, cond_true, cond_false]
        exact St.Le.mk' ⟨rfl, rfl, rfl, rfl, rfl, rfl, rfl, rfl, rfl, rfl, rfl, rfl, rfl, rfl, rfl, rfl, rfl, rfl, rfl, rfl, rfl, rfl, trivial⟩ ⟨rfl, rfl, rfl, rfl, trivial⟩
      repeat (refine Run.go rfl ?_)
      refine Run.condJ ⟨[(2, i64 most), (6, .bp (6, 0) 0), (9, .bp (9, 0) 0), (10, .own 1 false (ms.map i64)), (13, i64 ((s + gm n most l b : Nat) : Int)), (15, .bp (15, 0) 0), (44, .ro 1 e2 (ys.map (blA eb))), (45, i64 ys.length), (46, i64 (j : Nat)), (50, .ro 8 eb (y.map bkA)), (51, i64 y.length), (52, i64 (i : Nat))],
        [((6, 0), .box [i16 0, .lit (.slice none 0 0)]), ((9, 0), .box [i16 n, .own 9 false ((gl n most l b).map plA)]), ((15, 0), .box (bkA b).cells)]⟩ rfl (fun h1 k' hN => ?_) (fun h1 k' hN => ?_) ?_
      · have h1 : most < adM n l b := by
          have : decide (((psh n l (idx l b)).1 : Int) > most) = true := h1
          exact of_decide_eq_true this
        have e1 : gl n most l b = sp n (pbs l) := by rw [gl, if_pos h1]
        have e2' : gm n most l b = els l (sp n (pbs l)) l.length := by rw [gm, if_pos h1]
        rw [e1, e2'] at hN
        have := els_le l (sp n (pbs l)) l.length
        repeat (refine Run.go rfl ?_)
        refine Run.cs rfl (spreadOut_ct ⟨n, l⟩ false hVl) (by rw [hf1, frzP, decide_eq_true rfl]; rfl) (by simp only [AV.rf, AV.rfL, rk_rf]; rfl) ?_
        repeat (refine Run.go rfl ?_)
        refine Run.unagg 73 1 (73, 1) rfl rfl rfl ?_
        repeat (refine Run.go rfl ?_)
        refine Run.packBox (9, 0) 1 rfl rfl rfl rfl ?_
        refine Run.of hN ⟨rfl, rfl, rfl, rfl, ?_, rfl, rfl, rfl, rfl, rfl, rfl, rfl, trivial⟩ ⟨rfl, rfl, rfl, trivial⟩
        show i64 (IntKind.i64.wrap ((s : Int) + (els l (sp n (pbs l)) l.length : Nat))) = i64 _
        rw [wrap_i64 (by omega) (by omega)]
        rfl
      · have h1 : ¬ most < adM n l b := by
          have : decide (((psh n l (idx l b)).1 : Int) > most) = false := h1
          exact of_decide_eq_false this
        have e1 : gl n most l b = l := by rw [gl, if_neg h1]
        have e2' : gm n most l b = 0 := by rw [gm, if_neg h1]
        rw [e1, e2', Nat.add_zero] at hN
        repeat (refine Run.go rfl ?_)
        refine Run.packBox (9, 0) 1 rfl rfl rfl rfl ?_
        exact Run.of hN ⟨rfl, rfl, rfl, rfl, rfl, rfl, rfl, rfl, rfl, rfl, rfl, rfl, trivial⟩ ⟨rfl, rfl, rfl, trivial⟩
      generalize gl n most l b = l1 at *
      generalize gm n most l b = m1 at *
      repeat (refine Run.go rfl ?_)
      refine Run.unBox (9, 0) 1 (9, 1) rfl rfl rfl (by decide) ?_
      repeat (refine Run.go rfl ?_)
      refine Run.cs rfl (added_ct ⟨n, l1⟩ false b g1 (by show (l1.length : Int) < n; omega) hgr hbj hvj) (by rw [hf1, frzP, decide_eq_true rfl]; rfl) (by simp only [AV.rf, AV.rfL, rk_rf]; rfl) ?_
      repeat (refine Run.go rfl ?_)
      refine Run.unagg 83 1 (83, 1) rfl rfl rfl ?_
      repeat (refine Run.go rfl ?_)
      refine Run.packBox (9, 0) 1 rfl rfl rfl rfl ?_
      refine Run.of (IH2 (i + 1, adL n l1 b, s + m1 + adM n l1 b) ⟨hil, q1, q2, by show s + m1 + adM n l1 b ≤ (i + 1) * 120; omega, hgy⟩ (by show y.length - (i + 1) < y.length - i; omega)) ⟨rfl, rfl, rfl, rfl, ?_, rfl, rfl, rfl, rfl, rfl, ?_, trivial⟩ ⟨rfl, rfl, trivial⟩
      · show i64 (IntKind.i64.wrap (((s + m1 : Nat) : Int) + adM n l1 b)) = i64 _
        rw [wrap_i64 (by omega) (by omega)]
        rfl
      · show i64 (IntKind.i64.wrap _) = i64 _
        rw [wrap_i64 (by omega) (by omega)]
        rfl
    · have hil : i = y.length := by simp at h; omega
      rw [hil, List.drop_length, gy1] at hgy
      rw [hgy] at had
      simp only at had
      have hml : (ms.map i64).length = j := by rw [List.length_map, hms]
      repeat (refine Run.go rfl ?_)
      refine Run.buildSlice [i64 (s : Nat)] rfl rfl rfl rfl rfl rfl rfl rfl rfl rfl rfl rfl rfl rfl ?_
      refine Run.appendo rfl rfl rfl rfl rfl rfl rfl rfl rfl rfl rfl rfl rfl rfl (by rw [hml]; show (_ + 1) * 8 ≤ _; omega) (by rw [hml]; show _ + 1 ≤ 9223372036854775807; omega) (by decide) rfl ?_
      repeat (refine Run.go rfl ?_)
      refine Run.of (IH (j + 1, l, ms ++ [(s : Int)]) ⟨hlt, hVl, hbl, by show (ms ++ [(s : Int)]).length = j + 1; simp [hms], had⟩ (by show ys.length - (j + 1) < ys.length - j; omega)) ⟨rfl, rfl, rfl, ?_, rfl, rfl, ?_, trivial⟩ ⟨rfl, rfl, trivial⟩
      · show AV.own 1 false (ms.map i64 ++ [i64 (s : Nat)]) = AV.own 1 false ((ms ++ [(s : Int)]).map i64)
        rw [List.map_append]
        rfl
      · show i64 (IntKind.i64.wrap _) = i64 _
        rw [wrap_i64 (by omega) (by omega)]
        rfl
  · have hjl : j = ys.length := by simp at h; omega
    subst hjl
    rw [List.drop_length, gyA] at had
    repeat (refine Run.go rfl ?_)
    refine Run.unBox (9, 0) 1 (9, 1) rfl rfl rfl (by decide) ?_
    repeat (refine Run.go rfl ?_)
    refine Run.packBox (6, 0) 1 rfl rfl rfl rfl ?_
    refine Run.pack 7 rfl rfl rfl ?_
    refine Run.ret hg rfl ?_
    rw [had]
    rfl
end Go.Proofs.YtofakfkmglmhoaaGreat
