/- Contracts of the program's functions, and what follows from them. -/
import Derived.Test.YtenknlnnnicdeaaGreatDoorK25
import Derived.Test.YtenknlnnnicdeaaGreatDoorME
import Derived.Test.YtenknlnnnicdeaaGreatDoorMD
import Derived.Test.YtenknlnnnicdeaaGreatDoorMF
set_option linter.unusedVariables false
set_option maxRecDepth 100000
set_option linter.unusedSimpArgs false
namespace Go.Proofs.YtenknlnnnicdeaaGreatDoor
open Go Go.Av

/-! Swaps that are made; a drawn shelf. -/

def mvQ (x : Int × Int) : AV := mvA x.1 x.2

noncomputable def X145 : Fx := ⟨Tryz.prog, tys, 145, Tryz.f145, [0, 1]⟩
theorem X145_ok : X145.Ok := ⟨Tryz.func145, tys_ok⟩
theorem indexM_ct (l : List (Int × Int)) (ex : Bool) (f : Nat) (caps : List AV) (p : Int × Int → Bool) (hlen : l.length ≤ 1048576) (hc : AV.freeL caps = true)
    (hf : ∀ x ∈ l, Ct Tryz.prog f ([mvQ x] ++ caps) (bo (p x)) []) : Ct Tryz.prog 145 [.ro 2 ex (l.map mvQ), .fn f caps] (i64 (fi p l)) [] := by
  refine Ct.intro X145 X145_ok rfl (by kernel_rfl) rfl rfl fun g hg => ?_
  repeat (refine Run.step rfl ?_)
  refine Run.loop (fun j : Nat => ⟨[(0, .ro 2 ex (l.map mvQ)), (1, .fn f caps), (7, i64 l.length), (8, i64 j)], []⟩) (fun j => j ≤ l.length ∧ j ≤ l.findIdx p) (fun j => l.length - j) 0 ⟨by omega, by omega⟩ ?_ ?_
  · refine St.Le.mk' ⟨rfl, rfl, ?_, rfl, trivial⟩ trivial
    show i64 _ = _
    simp
  · rintro j ⟨hj1, hj2⟩ IH
    repeat (refine Run.step rfl ?_)
    refine Run.cond rfl (fun h => ?_) (fun h => ?_)
    · have hlt : j < l.length := by simpa using h
      repeat (refine Run.step rfl ?_)
      refine Run.val rfl rfl rfl (ValOk.idx (mvQ l[j]) rfl rfl rfl rfl rfl (by omega) (by simp [hlt])) rfl ?_
      repeat (refine Run.step rfl ?_)
      refine Run.callp rfl rfl rfl rfl rfl rfl rfl hc rfl (hf l[j] (by simp)) (by decide) (by decide) ?_
      repeat (refine Run.step rfl ?_)
      refine Run.cond rfl (fun h => ?_) (fun h => ?_)
      · repeat (refine Run.step rfl ?_)
        refine Run.ret hg rfl ?_
        show i64 _ = _
        rw [fi_at hlt h hj2]
      · repeat (refine Run.step rfl ?_)
        refine Run.of (IH (j + 1) ⟨by omega, fi_next hlt h hj2⟩ (by omega)) ⟨rfl, rfl, rfl, ?_, trivial⟩ trivial
        show i64 _ = _
        rw [wrap_i64 (by omega) (by omega)]
        rfl
    · repeat (refine Run.step rfl ?_)
      have hj : j = l.length := by simp at h; omega
      refine Run.ret hg rfl ?_
      show i64 (-1) = _
      rw [fi_none (by omega)]

noncomputable def X114 : Fx := ⟨Tryz.prog, tys, 114, Tryz.f114, [0, 1]⟩
theorem X114_ok : X114.Ok := ⟨Tryz.func114, tys_ok⟩
theorem containsM_ct (l : List (Int × Int)) (ex : Bool) (f : Nat) (caps : List AV) (p : Int × Int → Bool) (hlen : l.length ≤ 1048576) (hc : AV.freeL caps = true)
    (hf : ∀ x ∈ l, Ct Tryz.prog f ([mvQ x] ++ caps) (bo (p x)) []) : Ct Tryz.prog 114 [.ro 2 ex (l.map mvQ), .fn f caps] (bo (l.any p)) [] := by
  refine Ct.intro X114 X114_ok rfl (by kernel_rfl) rfl rfl fun g hg => ?_
  repeat (refine Run.go rfl ?_)
  refine Run.callp rfl rfl rfl rfl rfl rfl (by simp [AV.freeL, AV.free, hc]) rfl rfl (indexM_ct l ex f caps p hlen hc hf) (by decide) (by decide) ?_
  repeat (refine Run.go rfl ?_)
  refine Run.ret hg rfl ?_
  show bo _ = _
  rw [← fi_nonneg]

noncomputable def X115 : Fx := ⟨Tryz.prog, tys, 115, Tryz.f115, [0, 1]⟩
theorem X115_ok : X115.Ok := ⟨Tryz.func115, tys_ok⟩
theorem areAllM1_ct (a : Int × Int) (f : Nat) (cs : List AV) (jj : Nat) (p : Bool) (hf : Ct Tryz.prog f [mvQ a, .rp cs jj] (bo p) []) : Ct Tryz.prog 115 [mvQ a, .rp [.fn f [.rp cs jj]] 0] (bo (!p)) [] := by
  refine Ct.intro X115 X115_ok rfl (by kernel_rfl) rfl rfl fun g hg => ?_
  repeat (refine Run.go rfl ?_)
  refine Run.cs rfl hf rfl rfl ?_
  repeat (refine Run.go rfl ?_)
  exact Run.ret hg rfl rfl

noncomputable def X79 : Fx := ⟨Tryz.prog, tys, 79, Tryz.f79, [0, 1]⟩
theorem X79_ok : X79.Ok := ⟨Tryz.func79, tys_ok⟩
theorem areAllM_ct (l : List (Int × Int)) (ex : Bool) (f : Nat) (cs : List AV) (jj : Nat) (p : Int × Int → Bool) (hlen : l.length ≤ 1048576) (hf : ∀ x ∈ l, Ct Tryz.prog f [mvQ x, .rp cs jj] (bo (p x)) []) :
    Ct Tryz.prog 79 [.ro 2 ex (l.map mvQ), .fn f [.rp cs jj]] (bo (l.all p)) [] := by
  refine Ct.intro X79 X79_ok rfl (by kernel_rfl) rfl rfl fun g hg => ?_
  repeat (refine Run.go rfl ?_)
  refine Run.cs rfl (containsM_ct l ex 115 [.rp [.fn f [.rp cs jj]] 0] (fun x => !p x) hlen rfl (fun x hx => areAllM1_ct x f cs jj (p x) (hf x hx))) rfl rfl ?_
  repeat (refine Run.go rfl ?_)
  refine Run.ret hg rfl ?_
  show bo (!l.any fun x => !p x) = _
  congr 2
  simp [List.all_eq_not_any_not]


noncomputable def X80 : Fx := ⟨Tryz.prog, tys, 80, Tryz.f80, [0, 1]⟩
theorem X80_ok : X80.Ok := ⟨Tryz.func80, tys_ok⟩
theorem swapAll1_ct (x : Int × Int) (n : Int) : Ct Tryz.prog 80 [mvQ x, .rp [i16 n] 0] (bo (inr x.1 0 n && inr x.2 0 n)) [] := by
  obtain ⟨f, t⟩ := x
  refine Ct.intro X80 X80_ok rfl (by kernel_rfl) rfl rfl fun g hg => ?_
  unfold mvQ
  repeat (refine Run.go rfl ?_)
  refine Run.cs rfl (within16_ct f 0 n) rfl rfl ?_
  repeat (refine Run.go rfl ?_)
  refine Run.bool 8 rfl (fun h => ?_) (fun h => ?_)
  · repeat (refine Run.go rfl ?_)
    refine Run.cs rfl (within16_ct t 0 n) rfl rfl ?_
    repeat (refine Run.go rfl ?_)
    refine Run.ret hg rfl ?_
    show bo (inr t 0 n) = bo (inr f 0 n && inr t 0 n)
    rw [show inr f 0 n = true from h, Bool.true_and]
  · repeat (refine Run.go rfl ?_)
    refine Run.ret hg rfl ?_
    show bo false = bo (inr f 0 n && inr t 0 n)
    rw [show inr f 0 n = false from h, Bool.false_and]

noncomputable def X31 : Fx := ⟨Tryz.prog, tys, 31, Tryz.f31, [0, 1]⟩
theorem X31_ok : X31.Ok := ⟨Tryz.func31, tys_ok⟩
set_option maxHeartbeats 1000000 in
theorem implSwapAll_ct (b : List Bk) (e e2 : Bool) (hb : b.length ≤ 60) (hv : vBs b = true) (i j : Nat) (hi : i < b.length) (hj : j < b.length) :
    Ct Tryz.prog 31 [.ro 8 e (b.map bkA), .ro 2 e2 ([((i : Int), (j : Int))].map mvQ)] (.tup [.own 8 false ((sw b i j).map bkA), i64 0]) [] := by
  have cV := validBooks_ct b e (by omega)
  rw [hv] at cV
  have hbl : ((b.map bkA).length : Nat) = b.length := List.length_map ..
  have w1 : IntKind.i16.wrap (IntKind.i64.wrap (((b.map bkA).length : Nat) - 1)) = (b.length : Int) - 1 := by
    rw [hbl, wrap_i64 (by omega) (by omega), wrap_i16 (by omega) (by omega)]
  have cA := areAllM_ct [((i : Int), (j : Int))] e2 80 [i16 ((b.length : Int) - 1)] 0 (fun x => inr x.1 0 ((b.length : Int) - 1) && inr x.2 0 ((b.length : Int) - 1)) (by show 1 ≤ _; omega) (fun x _ => swapAll1_ct x _)
  have ht : ([((i : Int), (j : Int))].all fun x => inr x.1 0 ((b.length : Int) - 1) && inr x.2 0 ((b.length : Int) - 1)) = true := by
    simp [inr]
    omega
  rw [ht] at cA
  have hyi : (b.map bkA)[0 + (i : Int).toNat]? = some (bkA (b.getD i bk0)) := by simp [hi]
  have hyj : (b.map bkA)[0 + (j : Int).toNat]? = some (bkA (b.getD j bk0)) := by simp [hj]
  have hyj2 : ((b.map bkA).set (0 + (i : Int).toNat) (bkA (b.getD j bk0)))[0 + (j : Int).toNat]? = some (bkA (b.getD j bk0)) := by
    rw [List.getElem?_set]
    split
    · rename_i e
      rw [if_pos (by simpa using hi)]
    · exact hyj
  refine Ct.intro X31 X31_ok rfl (by kernel_rfl) rfl rfl fun g hg => ?_
  repeat (refine Run.go rfl ?_)
  refine Run.cs rfl cV rfl rfl ?_
  repeat (refine Run.go rfl ?_)
  refine Run.cond rfl (fun h => by simp at h) (fun _ => ?_)
  repeat (refine Run.go rfl ?_)
  refine Run.cond rfl (fun h => by simp at h) (fun _ => ?_)
  repeat (refine Run.go rfl ?_)
  rw [w1]
  refine Run.cs rfl cA rfl rfl ?_
  repeat (refine Run.go rfl ?_)
  refine Run.cond rfl (fun h => by simp at h) (fun _ => ?_)
  repeat (refine Run.go rfl ?_)
  refine Run.cs rfl (cloneBk_ct b e (by omega)) rfl (rfB _) ?_
  repeat (refine Run.go rfl ?_)
  refine Run.loop (fun z : Nat => ⟨[(7, .own 8 false ((if z = 0 then b else sw b i j).map bkA)), (28, .ro 2 e2 ([((i : Int), (j : Int))].map mvQ)), (29, i64 1), (30, i64 (z : Nat))], []⟩) (fun z => z ≤ 1) (fun z => 1 - z) 0 (by omega) ?_ ?_
  · exact St.Le.mk' ⟨rfl, rfl, rfl, rfl, trivial⟩ trivial
  intro z hz IH
  repeat (refine Run.go rfl ?_)
  refine Run.cond rfl (fun h => ?_) (fun h => ?_)
  · have hz0 : z = 0 := by have := of_decide_eq_true h; omega
    subst hz0
    repeat (refine Run.go rfl ?_)
    refine Run.val rfl rfl rfl (ValOk.idx (mvA i j) rfl rfl rfl rfl rfl (by decide) rfl) rfl ?_
    repeat (refine Run.go rfl ?_)
    refine Run.of (st' := ⟨[(7, .own 8 false (b.map bkA)), (28, .ro 2 e2 ([((i : Int), (j : Int))].map mvQ)), (29, i64 1), (30, i64 ((0 : Nat) : Int)), (9, .bp (9, 0) 0)], [((9, 0), .box [i16 i, i16 j])]⟩) ?_ ⟨rfl, rfl, rfl, rfl, rfl, trivial⟩ ⟨rfl, trivial⟩
    unfold Nxt
    refine Run.unpack 7 rfl rfl ?_
    refine Run.drawI (fun D => ⟨[(7, .vec (7, 0) 0 (b.map bkA).length), (28, .ro 2 e2 ([((i : Int), (j : Int))].map mvQ)), (29, i64 1), (30, i64 ((0 : Nat) : Int)), (9, .bp (9, 0) 0), (34, bif D 0 then .vec (7, 0) 0 (b.map bkA).length else .top), (35, bif D 1 then .bp (9, 0) 0 else .top), (36, bif D 2 then i16 i else .top), (37, bif D 3 then .vec (7, 0) 0 (b.map bkA).length else .top), (38, bif D 4 then .bp (9, 0) 1 else .top), (39, bif D 5 then i16 j else .top), (40, bif D 6 then .vec (7, 0) 0 (b.map bkA).length else .top), (41, bif D 7 then .bp (9, 0) 1 else .top), (42, bif D 8 then i16 j else .top), (43, bif D 9 then .ep (7, 0) (0 + (j : Int).toNat) 0 else .top), (44, bif D 10 then bkA (b.getD j bk0) else .top), (45, bif D 11 then .vec (7, 0) 0 (b.map bkA).length else .top), (46, bif D 12 then .bp (9, 0) 0 else .top), (47, bif D 13 then i16 i else .top), (48, bif D 14 then .ep (7, 0) (0 + (i : Int).toNat) 0 else .top), (49, bif D 15 then bkA (b.getD i bk0) else .top), (50, bif D 16 then .ep (7, 0) (0 + (i : Int).toNat) 0 else .top), (51, bif D 18 then .ep (7, 0) (0 + (j : Int).toNat) 0 else .top)], [((9, 0), Ob.box [i16 i, i16 j]), ((7, 0), (bif D 19 then Ob.vec 8 false (((b.map bkA).set (0 + (i : Int).toNat) (bkA (b.getD j bk0))).set (0 + (j : Int).toNat) (bkA (b.getD i bk0))) else (bif D 17 then Ob.vec 8 false ((b.map bkA).set (0 + (i : Int).toNat) (bkA (b.getD j bk0))) else Ob.vec 8 false (b.map bkA))))]⟩) (by decide +kernel) (by decide +kernel) ?_ ?_ fun k' => ⟨?_, ?_, ?_, ?_, ?_, ?_, ?_, ?_, ?_, ?_, ?_, ?_, ?_, ?_, ?_, ?_, ?_, ?_, ?_, ?_, trivial⟩
    · exact St.Le.mk' ⟨rfl, rfl, rfl, rfl, rfl, rfl, rfl, rfl, rfl, rfl, rfl, rfl, rfl, rfl, rfl, rfl, rfl, rfl, rfl, rfl, rfl, rfl, rfl, trivial⟩ ⟨rfl, rfl, trivial⟩
    rotate_left
    · intro D hid h0 hp hs rest hK
      obtain ⟨d16, d17, d18, d19, -⟩ : AllD D false [16, 17, 18, 19] := ideal_sub hs (by decide +kernel)
      simp only [d16, d17, d18, d19, h0, cond_true, cond_false]
      refine Run.go rfl ?_
      refine Run.le ?_ hK
      simp only [d16, d17, d18, d19, h0, Nat.reduceBEq, Bool.false_or, Bool.true_or, cond_true, cond_false]
      exact St.Le.mk' ⟨rfl, rfl, rfl, rfl, rfl, rfl, rfl, rfl, rfl, rfl, rfl, rfl, rfl, rfl, rfl, rfl, rfl, rfl, rfl, rfl, rfl, rfl, rfl, trivial⟩ ⟨rfl, rfl, trivial⟩
    · intro D hid h0 hp hs rest hK
      obtain ⟨d2, d16, d17, d18, d19, -⟩ : AllD D false [2, 16, 17, 18, 19] := ideal_sub hs (by decide +kernel)
      simp only [d2, d16, d17, d18, d19, h0, cond_true, cond_false]
      refine Run.go rfl ?_
      refine Run.le ?_ hK
      simp only [d2, d16, d17, d18, d19, h0, Nat.reduceBEq, Bool.false_or, Bool.true_or, cond_true, cond_false]
      exact St.Le.mk' ⟨rfl, rfl, rfl, rfl, rfl, rfl, rfl, rfl, rfl, rfl, rfl, rfl, rfl, rfl, rfl, rfl, rfl, rfl, rfl, rfl, rfl, rfl, rfl, trivial⟩ ⟨rfl, rfl, trivial⟩
    · intro D hid h0 hp hs rest hK
      obtain ⟨d1, -⟩ : AllD D true [1] := ideal_sub hp (by decide +kernel)
      obtain ⟨d16, d17, d18, d19, -⟩ : AllD D false [16, 17, 18, 19] := ideal_sub hs (by decide +kernel)
      simp only [d1, d16, d17, d18, d19, h0, cond_true, cond_false]
      refine Run.go rfl ?_
      refine Run.le ?_ hK
      simp only [d1, d16, d17, d18, d19, h0, Nat.reduceBEq, Bool.false_or, Bool.true_or, cond_true, cond_false]
      exact St.Le.mk' ⟨rfl, rfl, rfl, rfl, rfl, rfl, rfl, rfl, rfl, rfl, rfl, rfl, rfl, rfl, rfl, rfl, rfl, rfl, rfl, rfl, rfl, rfl, rfl, trivial⟩ ⟨rfl, rfl, trivial⟩
    · intro D hid h0 hp hs rest hK
      obtain ⟨d18, d19, -⟩ : AllD D false [18, 19] := ideal_sub hs (by decide +kernel)
      simp only [d18, d19, h0, cond_true, cond_false]
      refine Run.go rfl ?_
      refine Run.le ?_ hK
      simp only [d18, d19, h0, Nat.reduceBEq, Bool.false_or, Bool.true_or, cond_true, cond_false]
      exact St.Le.mk' ⟨rfl, rfl, rfl, rfl, rfl, rfl, rfl, rfl, rfl, rfl, rfl, rfl, rfl, rfl, rfl, rfl, rfl, rfl, rfl, rfl, rfl, rfl, rfl, trivial⟩ ⟨rfl, rfl, trivial⟩
    · intro D hid h0 hp hs rest hK
      obtain ⟨d5, d18, d19, -⟩ : AllD D false [5, 18, 19] := ideal_sub hs (by decide +kernel)
      simp only [d5, d18, d19, h0, cond_true, cond_false]
      refine Run.go rfl ?_
      refine Run.le ?_ hK
      simp only [d5, d18, d19, h0, Nat.reduceBEq, Bool.false_or, Bool.true_or, cond_true, cond_false]
      exact St.Le.mk' ⟨rfl, rfl, rfl, rfl, rfl, rfl, rfl, rfl, rfl, rfl, rfl, rfl, rfl, rfl, rfl, rfl, rfl, rfl, rfl, rfl, rfl, rfl, rfl, trivial⟩ ⟨rfl, rfl, trivial⟩
    · intro D hid h0 hp hs rest hK
      obtain ⟨d4, -⟩ : AllD D true [4] := ideal_sub hp (by decide +kernel)
      obtain ⟨d18, d19, -⟩ : AllD D false [18, 19] := ideal_sub hs (by decide +kernel)
      simp only [d4, d18, d19, h0, cond_true, cond_false]
      refine Run.go rfl ?_
      refine Run.le ?_ hK
      simp only [d4, d18, d19, h0, Nat.reduceBEq, Bool.false_or, Bool.true_or, cond_true, cond_false]
      exact St.Le.mk' ⟨rfl, rfl, rfl, rfl, rfl, rfl, rfl, rfl, rfl, rfl, rfl, rfl, rfl, rfl, rfl, rfl, rfl, rfl, rfl, rfl, rfl, rfl, rfl, trivial⟩ ⟨rfl, rfl, trivial⟩
    · intro D hid h0 hp hs rest hK
      obtain ⟨d9, d16, d17, d18, d19, -⟩ : AllD D false [9, 16, 17, 18, 19] := ideal_sub hs (by decide +kernel)
      simp only [d9, d16, d17, d18, d19, h0, cond_true, cond_false]
      refine Run.go rfl ?_
      refine Run.le ?_ hK
      simp only [d9, d16, d17, d18, d19, h0, Nat.reduceBEq, Bool.false_or, Bool.true_or, cond_true, cond_false]
      exact St.Le.mk' ⟨rfl, rfl, rfl, rfl, rfl, rfl, rfl, rfl, rfl, rfl, rfl, rfl, rfl, rfl, rfl, rfl, rfl, rfl, rfl, rfl, rfl, rfl, rfl, trivial⟩ ⟨rfl, rfl, trivial⟩
    · intro D hid h0 hp hs rest hK
      obtain ⟨d8, d16, d17, d18, d19, -⟩ : AllD D false [8, 16, 17, 18, 19] := ideal_sub hs (by decide +kernel)
      simp only [d8, d16, d17, d18, d19, h0, cond_true, cond_false]
      refine Run.go rfl ?_
      refine Run.le ?_ hK
      simp only [d8, d16, d17, d18, d19, h0, Nat.reduceBEq, Bool.false_or, Bool.true_or, cond_true, cond_false]
      exact St.Le.mk' ⟨rfl, rfl, rfl, rfl, rfl, rfl, rfl, rfl, rfl, rfl, rfl, rfl, rfl, rfl, rfl, rfl, rfl, rfl, rfl, rfl, rfl, rfl, rfl, trivial⟩ ⟨rfl, rfl, trivial⟩
    · intro D hid h0 hp hs rest hK
      obtain ⟨d7, -⟩ : AllD D true [7] := ideal_sub hp (by decide +kernel)
      obtain ⟨d9, d16, d17, d18, d19, -⟩ : AllD D false [9, 16, 17, 18, 19] := ideal_sub hs (by decide +kernel)
      simp only [d7, d9, d16, d17, d18, d19, h0, cond_true, cond_false]
      refine Run.go rfl ?_
      refine Run.le ?_ hK
      simp only [d7, d9, d16, d17, d18, d19, h0, Nat.reduceBEq, Bool.false_or, Bool.true_or, cond_true, cond_false]
      exact St.Le.mk' ⟨rfl, rfl, rfl, rfl, rfl, rfl, rfl, rfl, rfl, rfl, rfl, rfl, rfl, rfl, rfl, rfl, rfl, rfl, rfl, rfl, rfl, rfl, rfl, trivial⟩ ⟨rfl, rfl, trivial⟩
    · intro D hid h0 hp hs rest hK
      obtain ⟨d6, d8, -⟩ : AllD D true [6, 8] := ideal_sub hp (by decide +kernel)
      obtain ⟨d10, d16, d17, d18, d19, -⟩ : AllD D false [10, 16, 17, 18, 19] := ideal_sub hs (by decide +kernel)
      have d17 : D 17 = false := ideal_no (i := 17) (j := 10) hid (by decide +kernel) d10
      simp only [d6, d8, d10, d16, d17, d18, d19, d17, h0, cond_true, cond_false]
      refine Run.val rfl rfl rfl (ValOk.idxv rfl rfl rfl rfl rfl rfl (by omega) (by simp; omega)) rfl ?_
      refine Run.le ?_ hK
      simp only [d6, d8, d10, d16, d17, d18, d19, d17, h0, Nat.reduceBEq, Bool.false_or, Bool.true_or, cond_true, cond_false]
      exact St.Le.mk' ⟨rfl, rfl, rfl, rfl, rfl, rfl, rfl, rfl, rfl, rfl, rfl, rfl, rfl, rfl, rfl, rfl, rfl, rfl, rfl, rfl, rfl, rfl, rfl, trivial⟩ ⟨rfl, rfl, trivial⟩
    · intro D hid h0 hp hs rest hK
      obtain ⟨d9, -⟩ : AllD D true [9] := ideal_sub hp (by decide +kernel)
      obtain ⟨d16, d17, d18, d19, -⟩ : AllD D false [16, 17, 18, 19] := ideal_sub hs (by decide +kernel)
      simp only [d9, d16, d17, d18, d19, h0, cond_true, cond_false]
      refine Run.val rfl rfl rfl (ValOk.loadv (bkA (b.getD j bk0)) rfl rfl rfl rfl hyj rfl) rfl ?_
      refine Run.le ?_ hK
      simp only [d9, d16, d17, d18, d19, h0, Nat.reduceBEq, Bool.false_or, Bool.true_or, cond_true, cond_false]
      exact St.Le.mk' ⟨rfl, rfl, rfl, rfl, rfl, rfl, rfl, rfl, rfl, rfl, rfl, rfl, rfl, rfl, rfl, rfl, rfl, rfl, rfl, rfl, rfl, rfl, rfl, trivial⟩ ⟨rfl, rfl, trivial⟩
    · intro D hid h0 hp hs rest hK
      obtain ⟨d14, d18, d19, -⟩ : AllD D false [14, 18, 19] := ideal_sub hs (by decide +kernel)
      simp only [d14, d18, d19, h0, cond_true, cond_false]
      refine Run.go rfl ?_
      refine Run.le ?_ hK
      simp only [d14, d18, d19, h0, Nat.reduceBEq, Bool.false_or, Bool.true_or, cond_true, cond_false]
      exact St.Le.mk' ⟨rfl, rfl, rfl, rfl, rfl, rfl, rfl, rfl, rfl, rfl, rfl, rfl, rfl, rfl, rfl, rfl, rfl, rfl, rfl, rfl, rfl, rfl, rfl, trivial⟩ ⟨rfl, rfl, trivial⟩
    · intro D hid h0 hp hs rest hK
      obtain ⟨d13, d18, d19, -⟩ : AllD D false [13, 18, 19] := ideal_sub hs (by decide +kernel)
      simp only [d13, d18, d19, h0, cond_true, cond_false]
      refine Run.go rfl ?_
      refine Run.le ?_ hK
      simp only [d13, d18, d19, h0, Nat.reduceBEq, Bool.false_or, Bool.true_or, cond_true, cond_false]
      exact St.Le.mk' ⟨rfl, rfl, rfl, rfl, rfl, rfl, rfl, rfl, rfl, rfl, rfl, rfl, rfl, rfl, rfl, rfl, rfl, rfl, rfl, rfl, rfl, rfl, rfl, trivial⟩ ⟨rfl, rfl, trivial⟩
    · intro D hid h0 hp hs rest hK
      obtain ⟨d12, -⟩ : AllD D true [12] := ideal_sub hp (by decide +kernel)
      obtain ⟨d14, d18, d19, -⟩ : AllD D false [14, 18, 19] := ideal_sub hs (by decide +kernel)
      simp only [d12, d14, d18, d19, h0, cond_true, cond_false]
      refine Run.go rfl ?_
      refine Run.le ?_ hK
      simp only [d12, d14, d18, d19, h0, Nat.reduceBEq, Bool.false_or, Bool.true_or, cond_true, cond_false]
      exact St.Le.mk' ⟨rfl, rfl, rfl, rfl, rfl, rfl, rfl, rfl, rfl, rfl, rfl, rfl, rfl, rfl, rfl, rfl, rfl, rfl, rfl, rfl, rfl, rfl, rfl, trivial⟩ ⟨rfl, rfl, trivial⟩
    · intro D hid h0 hp hs rest hK
      obtain ⟨d11, d13, -⟩ : AllD D true [11, 13] := ideal_sub hp (by decide +kernel)
      obtain ⟨d15, d18, d19, -⟩ : AllD D false [15, 18, 19] := ideal_sub hs (by decide +kernel)
      have d17 : D 17 = false := ideal_no (i := 17) (j := 15) hid (by decide +kernel) d15
      simp only [d11, d13, d15, d18, d19, d17, h0, cond_true, cond_false]
      refine Run.val rfl rfl rfl (ValOk.idxv rfl rfl rfl rfl rfl rfl (by omega) (by simp; omega)) rfl ?_
      refine Run.le ?_ hK
      simp only [d11, d13, d15, d18, d19, d17, h0, Nat.reduceBEq, Bool.false_or, Bool.true_or, cond_true, cond_false]
      exact St.Le.mk' ⟨rfl, rfl, rfl, rfl, rfl, rfl, rfl, rfl, rfl, rfl, rfl, rfl, rfl, rfl, rfl, rfl, rfl, rfl, rfl, rfl, rfl, rfl, rfl, trivial⟩ ⟨rfl, rfl, trivial⟩
    · intro D hid h0 hp hs rest hK
      obtain ⟨d14, -⟩ : AllD D true [14] := ideal_sub hp (by decide +kernel)
      obtain ⟨d16, d17, d18, d19, -⟩ : AllD D false [16, 17, 18, 19] := ideal_sub hs (by decide +kernel)
      simp only [d14, d16, d17, d18, d19, h0, cond_true, cond_false]
      refine Run.val rfl rfl rfl (ValOk.loadv (bkA (b.getD i bk0)) rfl rfl rfl rfl hyi rfl) rfl ?_
      refine Run.le ?_ hK
      simp only [d14, d16, d17, d18, d19, h0, Nat.reduceBEq, Bool.false_or, Bool.true_or, cond_true, cond_false]
      exact St.Le.mk' ⟨rfl, rfl, rfl, rfl, rfl, rfl, rfl, rfl, rfl, rfl, rfl, rfl, rfl, rfl, rfl, rfl, rfl, rfl, rfl, rfl, rfl, rfl, rfl, trivial⟩ ⟨rfl, rfl, trivial⟩
    · intro D hid h0 hp hs rest hK
      obtain ⟨d0, d1, d2, d6, d7, d8, d9, d10, d15, -⟩ : AllD D true [0, 1, 2, 6, 7, 8, 9, 10, 15] := ideal_sub hp (by decide +kernel)
      obtain ⟨d17, d18, d19, -⟩ : AllD D false [17, 18, 19] := ideal_sub hs (by decide +kernel)
      simp only [d0, d1, d2, d6, d7, d8, d9, d10, d15, d17, d18, d19, h0, cond_true, cond_false]
      refine Run.val rfl rfl rfl (ValOk.idxv rfl rfl rfl rfl rfl rfl (by omega) (by simp; omega)) rfl ?_
      refine Run.le ?_ hK
      simp only [d0, d1, d2, d6, d7, d8, d9, d10, d15, d17, d18, d19, h0, Nat.reduceBEq, Bool.false_or, Bool.true_or, cond_true, cond_false]
      exact St.Le.mk' ⟨rfl, rfl, rfl, rfl, rfl, rfl, rfl, rfl, rfl, rfl, rfl, rfl, rfl, rfl, rfl, rfl, rfl, rfl, rfl, rfl, rfl, rfl, rfl, trivial⟩ ⟨rfl, rfl, trivial⟩
    · intro D hid h0 hp hs rest hK
      obtain ⟨d0, d1, d2, d6, d7, d8, d9, d10, d15, d16, -⟩ : AllD D true [0, 1, 2, 6, 7, 8, 9, 10, 15, 16] := ideal_sub hp (by decide +kernel)
      obtain ⟨d18, d19, -⟩ : AllD D false [18, 19] := ideal_sub hs (by decide +kernel)
      simp only [d0, d1, d2, d6, d7, d8, d9, d10, d15, d16, d18, d19, h0, cond_true, cond_false]
      refine Run.storee (bkA (b.getD i bk0)) (bkA (b.getD j bk0)) rfl rfl rfl rfl rfl rfl rfl hyi rfl rfl rfl ?_
      refine Run.le ?_ hK
      simp only [d0, d1, d2, d6, d7, d8, d9, d10, d15, d16, d18, d19, h0, Nat.reduceBEq, Bool.false_or, Bool.true_or, cond_true, cond_false]
      exact St.Le.mk' ⟨rfl, rfl, rfl, rfl, rfl, rfl, rfl, rfl, rfl, rfl, rfl, rfl, rfl, rfl, rfl, rfl, rfl, rfl, rfl, rfl, rfl, rfl, rfl, trivial⟩ ⟨rfl, rfl, trivial⟩
    · intro D hid h0 hp hs rest hK
      obtain ⟨d0, d1, d2, d3, d4, d5, d6, d7, d8, d9, d10, d11, d12, d13, d14, d15, d16, d17, -⟩ : AllD D true [0, 1, 2, 3, 4, 5, 6, 7, 8, 9, 10, 11, 12, 13, 14, 15, 16, 17] := ideal_sub hp (by decide +kernel)
      obtain ⟨d19, -⟩ : AllD D false [19] := ideal_sub hs (by decide +kernel)
      simp only [d0, d1, d2, d3, d4, d5, d6, d7, d8, d9, d10, d11, d12, d13, d14, d15, d16, d17, d19, h0, cond_true, cond_false]
      refine Run.val rfl rfl rfl (ValOk.idxv rfl rfl rfl rfl rfl rfl (by omega) (by simp; omega)) rfl ?_
      refine Run.le ?_ hK
      simp only [d0, d1, d2, d3, d4, d5, d6, d7, d8, d9, d10, d11, d12, d13, d14, d15, d16, d17, d19, h0, Nat.reduceBEq, Bool.false_or, Bool.true_or, cond_true, cond_false]
      exact St.Le.mk' ⟨rfl, rfl, rfl, rfl, rfl, rfl, rfl, rfl, rfl, rfl, rfl, rfl, rfl, rfl, rfl, rfl, rfl, rfl, rfl, rfl, rfl, rfl, rfl, trivial⟩ ⟨rfl, rfl, trivial⟩
    · intro D hid h0 hp hs rest hK
      obtain ⟨d0, d1, d2, d3, d4, d5, d6, d7, d8, d9, d10, d11, d12, d13, d14, d15, d16, d17, d18, -⟩ : AllD D true [0, 1, 2, 3, 4, 5, 6, 7, 8, 9, 10, 11, 12, 13, 14, 15, 16, 17, 18] := ideal_sub hp (by decide +kernel)
      simp only [d0, d1, d2, d3, d4, d5, d6, d7, d8, d9, d10, d11, d12, d13, d14, d15, d16, d17, d18, h0, cond_true, cond_false]
      refine Run.storee (bkA (b.getD j bk0)) (bkA (b.getD i bk0)) rfl rfl rfl rfl rfl rfl rfl hyj2 rfl rfl rfl ?_
      refine Run.le ?_ hK
      simp only [d0, d1, d2, d3, d4, d5, d6, d7, d8, d9, d10, d11, d12, d13, d14, d15, d16, d17, d18, h0, Nat.reduceBEq, Bool.false_or, Bool.true_or, cond_true, cond_false]
      exact St.Le.mk' ⟨rfl, rfl, rfl, rfl, rfl, rfl, rfl, rfl, rfl, rfl, rfl, rfl, rfl, rfl, rfl, rfl, rfl, rfl, rfl, rfl, rfl, rfl, rfl, trivial⟩ ⟨rfl, rfl, trivial⟩
    refine Run.pack 7 rfl rfl (by simp) ?_
    repeat (refine Run.go rfl ?_)
    refine Run.of (IH 1 (by omega) (by omega)) ⟨?_, rfl, rfl, rfl, trivial⟩ trivial
    show AV.own 8 false _ = AV.own 8 false ((sw b i j).map bkA)
    rw [sw, List.map_set, List.map_set]
    simp
  · have hz1 : z = 1 := by have := of_decide_eq_false h; omega
    subst hz1
    repeat (refine Run.go rfl ?_)
    first | exact Run.ret hg rfl rfl | (refine Run.pack 4 rfl rfl (by simp) ?_; exact Run.ret hg rfl rfl)

noncomputable def X7 : Fx := ⟨Tryz.prog, tys, 7, Tryz.f7, [1]⟩
theorem X7_ok : X7.Ok := ⟨Tryz.func7, tys_ok⟩
set_option maxHeartbeats 2000000 in
theorem P6Shelf_ct (ex e : Bool) (C : List Int) (hC : C.length ≤ 1048576) (hb : ∀ x ∈ C, 0 ≤ x ∧ x ≤ 255) (a : List Bk) (ha : a.length ≤ 11) (hal : ∀ x ∈ a, bOk x) :
    ∃ L : List Bk, L.length = a.length ∧ (∀ x ∈ L, bOk x) ∧ Ct Tryz.prog 7 [.ro 1 ex (C.map u8), .ro 8 e (a.map bkA)] (.own 8 false (L.map bkA)) [] := by
  obtain ⟨k, n1, s1, hk, hn1, c1⟩ := pick_ct ex C hC hb 0 0 3 (by omega) (by omega)
  have hml : ((a.map bkA).length : Nat) = a.length := List.length_map ..
  obtain ⟨m, hm⟩ : ∃ m : Nat, (m : Int) = if a.length = 0 then 1 else ((a.map bkA).length : Nat) := ⟨if a.length = 0 then 1 else a.length, by split <;> simp⟩
  have hm1 : 0 < (m : Int) ∧ (m : Int) ≤ 1000000 := by rw [hm]; split <;> omega
  obtain ⟨F, hF⟩ := pick_fn ex C hC hb m hm1
  have hF1 : ∀ p : Int × Int, 0 ≤ p.1 ∧ p.1 ≤ 999999999 → (0 ≤ (F p).1 ∧ (F p).1 < (m : Nat)) ∧ (p.1 ≤ (F p).2.1 ∧ (F p).2.1 ≤ p.1 + 2) := fun p h => ⟨(hF p h).1, (hF p h).2.1⟩
  by_cases h0 : a.length = 0
  · have ha0 : a = [] := List.length_eq_zero_iff.1 h0
    subst ha0
    refine ⟨[], rfl, by simp, ?_⟩
    refine Ct.intro X7 X7_ok rfl (by kernel_rfl) rfl rfl fun g hg => ?_
    repeat (refine Run.go rfl ?_)
    refine Run.callN rfl rfl rfl rfl rfl rfl rfl from_calls rfl rfl ?_
    repeat (refine Run.go rfl ?_)
    refine Run.buildSlice [] rfl rfl rfl rfl rfl rfl rfl rfl rfl rfl rfl rfl rfl rfl ?_
    refine Run.unpack 14 rfl rfl ?_
    repeat (refine Run.go rfl ?_)
    refine Run.appendr rfl rfl rfl rfl rfl rfl rfl rfl rfl rfl rfl rfl rfl (oneC_bk []) (by show (_ + _) * 14 ≤ _; simp) (by simp [capMax]) rfl ?_
    repeat (refine Run.go rfl ?_)
    refine Run.callG (13, 0) rfl rfl rfl rfl rfl rfl rfl rfl c1 rfl rfl ?_
    repeat (refine Run.go rfl ?_)
    refine Run.pack 6 rfl rfl (by simp) ?_
    refine Run.loop (fun _ : Nat => ⟨[(5, .bp (13, 0) 0), (6, .own 8 false (([] : List Bk).map bkA)), (7, i64 0), (8, i64 k)], [((13, 0), .box (srcL ex C n1 s1))]⟩) (fun _ => True) (fun _ => 0) 0 trivial ?_ ?_
    · exact St.Le.mk' ⟨rfl, rfl, rfl, rfl, trivial⟩ ⟨rfl, trivial⟩
    intro z _ IH
    repeat (refine Run.go rfl ?_)
    have fin : ∀ st : St, True → True := fun _ _ => trivial
    refine Run.bool 23 rfl (fun h => ?_) (fun h => ?_)
    all_goals
      repeat (refine Run.go rfl ?_)
      refine Run.cond rfl (fun h => by simp at h) (fun _ => ?_)
      repeat (refine Run.go rfl ?_)
      refine Run.bool 45 rfl (fun h => by simp at h) (fun _ => ?_)
      repeat (refine Run.go rfl ?_)
      refine Run.cond rfl (fun h => by simp at h) (fun _ => ?_)
      repeat (refine Run.go rfl ?_)
      first | exact Run.ret hg rfl rfl | (refine Run.pack 4 rfl rfl (by simp) ?_; exact Run.ret hg rfl rfl)
  · obtain ⟨hm2, hma⟩ : (m : Int) = ((a.map bkA).length : Nat) ∧ m = a.length := by rw [if_neg h0] at hm; omega
    have hc := fun p h => (hF p h).2.2
    obtain ⟨r1, r2, r3⟩ := mvs_ok hF1 k.toNat a (n1, s1) hma.symm (by show 0 ≤ n1; omega) (by show n1 + 4 * (k.toNat : Int) ≤ _; omega)
    have r3' : n1 ≤ (mvs F k.toNat a (n1, s1)).2.1 ∧ (mvs F k.toNat a (n1, s1)).2.1 ≤ n1 + 4 * (k.toNat : Int) := r3
    clear r3
    generalize hM : mvs F k.toNat a (n1, s1) = M at r1 r2 r3'
    obtain ⟨M1, M2, M3⟩ := M
    dsimp only at r1 r2 r3'
    obtain ⟨b1, n3, s3, hn3, c3⟩ := one_ct ex C hC hb M2 M3 4 (by omega) (by omega)
    obtain ⟨i, n4, s4, hi, hn4, c4⟩ := pick_ct ex C hC hb n3 s3 m (by omega) hm1
    obtain ⟨p1, p2, p3, p4, p5, p6, p7, n5, s5, hp1, hp2, hp3, hp4, hp5, hp6, hp7, hn5, c5⟩ := l01One_ct ex C hC hb n4 s4 (by omega)
    have hBk : bOk (drB p1 p2 p3 p4 p5 p6 p7) := (drB_facts (p3 := p3) hp1 hp2 hp4 hp5 hp6 hp7).symm
    generalize drB p1 p2 p3 p4 p5 p6 p7 = B at c5 hBk
    rw [hm2] at c4
    refine ⟨if b1 = true then M1.set i.toNat B else M1, ?_, ?_, ?_⟩
    · split
      · rw [List.length_set]; omega
      · omega
    · intro x hx
      split at hx
      · rcases List.mem_or_eq_of_mem_set hx with h | h
        · exact hal x (r2 x h)
        · exact h ▸ hBk
      · exact hal x (r2 x hx)
    refine Ct.intro X7 X7_ok rfl (by kernel_rfl) rfl rfl fun g hg => ?_
    repeat (refine Run.go rfl ?_)
    refine Run.callN rfl rfl rfl rfl rfl rfl rfl from_calls rfl rfl ?_
    repeat (refine Run.go rfl ?_)
    refine Run.buildSlice [] rfl rfl rfl rfl rfl rfl rfl rfl rfl rfl rfl rfl rfl rfl ?_
    refine Run.unpack 14 rfl rfl ?_
    repeat (refine Run.go rfl ?_)
    refine Run.appendr rfl rfl rfl rfl rfl rfl rfl rfl rfl rfl rfl rfl rfl (oneC_bk a) (by show (_ + _) * 14 ≤ _; simp; omega) (by simp [capMax]; omega) rfl ?_
    repeat (refine Run.go rfl ?_)
    refine Run.callG (13, 0) rfl rfl rfl rfl rfl rfl rfl rfl c1 rfl rfl ?_
    repeat (refine Run.go rfl ?_)
    refine Run.pack 6 rfl rfl (by simp) ?_
    rw [hm2] at hc
    refine Run.loop (fun z : Nat × List Bk × Int × Int => ⟨[(5, .bp (13, 0) 0), (6, .own 8 false (z.2.1.map bkA)), (7, i64 ((a.map bkA).length : Nat)), (8, i64 ((z.1 : Nat) : Int))], [((13, 0), .box (srcL ex C z.2.2.1 z.2.2.2))]⟩)
      (fun z => z.2.1.length = m ∧ 0 ≤ z.2.2.1 ∧ z.2.2.1 + 4 * z.1 ≤ 1000 ∧ mvs F z.1 z.2.1 z.2.2 = mvs F k.toNat a (n1, s1)) (fun z => z.1) (k.toNat, a, n1, s1) ⟨hma.symm, by show 0 ≤ n1; omega, by show n1 + 4 * (k.toNat : Int) ≤ 1000; omega, rfl⟩ ?_ ?_
    · refine St.Le.mk' ⟨rfl, rfl, rfl, ?_, trivial⟩ ⟨rfl, trivial⟩
      show i64 k = i64 _
      congr 1
      omega
    rintro ⟨kk, L, p1', p2'⟩ ⟨hz1, hz2, hz3, hz4⟩ IH
    dsimp only at hz1 hz2 hz3 hz4 ⊢
    repeat (refine Run.go rfl ?_)
    refine Run.bool 23 rfl (fun h => ?_) (fun h => ?_)
    · have hk0 : 0 < kk := by have := of_decide_eq_true h; omega
      obtain ⟨kk, rfl⟩ : ∃ q, kk = q + 1 := ⟨kk - 1, by omega⟩
      obtain ⟨f1, f2⟩ := hF1 (p1', p2') (by show 0 ≤ p1' ∧ p1' ≤ _; omega)
      obtain ⟨f3, f4⟩ := hF1 (F (p1', p2')).2 (by have : p1' ≤ _ ∧ _ ≤ p1' + 2 := f2; omega)
      have f5 := hc (p1', p2') (by show 0 ≤ p1' ∧ p1' ≤ _; omega)
      have f6 := hc (F (p1', p2')).2 (by have : p1' ≤ _ ∧ _ ≤ p1' + 2 := f2; omega)
      repeat (refine Run.go rfl ?_)
      refine Run.cond rfl (fun _ => ?_) (fun h => by have := of_decide_eq_false h; omega)
      repeat (refine Run.go rfl ?_)
      refine Run.callG (13, 0) rfl rfl rfl rfl rfl rfl rfl rfl f5 rfl rfl ?_
      repeat (refine Run.go rfl ?_)
      refine Run.freeze (v' := .ro 8 false (L.map bkA)) 6 rfl rfl (by show AV.ro _ _ (AV.frzL _) = _; rw [frzB]) ?_
      refine Run.val rfl rfl rfl (ValOk.build rfl rfl rfl rfl rfl) rfl ?_
      repeat (refine Run.go rfl ?_)
      refine Run.callG (13, 0) rfl rfl rfl rfl rfl rfl rfl rfl f6 rfl rfl ?_
      repeat (refine Run.go rfl ?_)
      have hw1 : IntKind.i16.wrap (F (p1', p2')).1 = (((F (p1', p2')).1.toNat : Nat) : Int) := by rw [wrap_i16 (by omega) (by omega)]; omega
      have hw2 : IntKind.i16.wrap (F (F (p1', p2')).2).1 = (((F (F (p1', p2')).2).1.toNat : Nat) : Int) := by rw [wrap_i16 (by omega) (by omega)]; omega
      repeat (refine Run.go rfl ?_)
      rw [hw1, hw2]
      refine Run.cs rfl (l03Moved_ct L false (F (p1', p2')).1.toNat (F (F (p1', p2')).2).1.toNat (by omega) (by omega) (by omega)) rfl (rfB _) ?_
      repeat (refine Run.go rfl ?_)
      refine Run.of (IH (kk, mvL L (F (p1', p2')).1.toNat (F (F (p1', p2')).2).1.toNat, (F (F (p1', p2')).2).2.1, (F (F (p1', p2')).2).2.2) ⟨?_, ?_, ?_, hz4⟩ (by show kk < kk + 1; omega)) ⟨rfl, rfl, rfl, ?_, trivial⟩ ⟨rfl, trivial⟩
      · show (mvL _ _ _).length = m
        rw [mvL_len (by omega) (by omega)]
        exact hz1
      · show 0 ≤ (F (F (p1', p2')).2).2.1
        have : p1' ≤ _ ∧ _ ≤ p1' + 2 := f2
        omega
      · show (F (F (p1', p2')).2).2.1 + 4 * (kk : Int) ≤ 1000
        have : p1' ≤ _ ∧ _ ≤ p1' + 2 := f2
        omega
      · show i64 _ = i64 _
        rw [wrap_i64 (by omega) (by omega)]
        congr 1
        omega
    · have hk0 : kk = 0 := by have := of_decide_eq_false h; omega
      subst hk0
      rw [hM] at hz4
      obtain ⟨rfl, rfl, rfl⟩ : L = M1 ∧ p1' = M2 ∧ p2' = M3 := by have := hz4; simp only [mvs, Prod.mk.injEq] at this; exact this
      repeat (refine Run.go rfl ?_)
      refine Run.cond rfl (fun h => by simp at h) (fun _ => ?_)
      repeat (refine Run.go rfl ?_)
      refine Run.bool 45 rfl (fun _ => ?_) (fun h => by have := of_decide_eq_false h; omega)
      repeat (refine Run.go rfl ?_)
      refine Run.callG (13, 0) rfl rfl rfl rfl rfl rfl rfl rfl c3 rfl rfl ?_
      repeat (refine Run.go rfl ?_)
      refine Run.cond rfl (fun h => ?_) (fun h => ?_)
      · subst h
        repeat (refine Run.go rfl ?_)
        refine Run.callG (13, 0) rfl rfl rfl rfl rfl rfl rfl rfl c4 rfl rfl ?_
        repeat (refine Run.go rfl ?_)
        refine Run.callG (13, 0) rfl rfl rfl rfl rfl rfl rfl rfl c5 rfl rfl ?_
        repeat (refine Run.go rfl ?_)
        have hyi : (L.map bkA)[0 + i.toNat]? = some (bkA (L.getD i.toNat bk0)) := by simp [show i.toNat < L.length by omega]
        refine Run.val rfl rfl rfl (ValOk.idxv rfl rfl rfl rfl rfl rfl (by omega) (by rw [List.length_map]; omega)) rfl ?_
        repeat (refine Run.go rfl ?_)
        refine Run.storee (bkA (L.getD i.toNat bk0)) (bkA B) rfl rfl rfl rfl rfl rfl rfl hyi rfl rfl rfl ?_
        repeat (refine Run.go rfl ?_)
        refine Run.pack 4 rfl rfl (by simp) ?_
        refine Run.ret hg rfl ?_
        show AV.own 8 false _ = AV.own 8 false (((if true = true then L.set i.toNat B else L)).map bkA)
        rw [if_pos rfl, List.map_set]
        simp
      · subst h
        repeat (refine Run.go rfl ?_)
        first | exact Run.ret hg rfl rfl | (refine Run.pack 4 rfl rfl (by simp) ?_; exact Run.ret hg rfl rfl)
end Go.Proofs.YtenknlnnnicdeaaGreatDoor
