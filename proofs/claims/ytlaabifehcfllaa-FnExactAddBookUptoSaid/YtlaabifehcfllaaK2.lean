/- Contracts of the program's functions, and what follows from them. -/
import Derived.Test.YtlaabifehcfllaaK1
import Derived.Test.YtlaabifehcfllaaME
set_option linter.unusedVariables false
set_option maxRecDepth 100000
set_option linter.unusedSimpArgs false
namespace Go.Proofs.Ytlaabifehcfllaa
open Go Go.Av

/-! Racks: valid ones; a book is taken out. -/

def plRng (x : Pl) : Prop := i16r x.p ∧ bkRng x.b
def rkOk (r : Rk) : Prop := (i16r r.pl ∧ r.bs.length ≤ 1048576) ∧ ∀ x ∈ r.bs, plRng x
def pps (l : List Pl) : List Int := l.map (·.p)
def pbs (l : List Pl) : List Bk := l.map (·.b)
def vPl (n : Int) (x : Pl) : Bool := inr x.p 0 (n - 1) && vB x.b
def vR (r : Rk) : Bool := inr r.pl 1 60 && rs (pps r.bs) && r.bs.all (vPl r.pl) && srt (pbs r.bs)
def rk0 : Rk := ⟨0, []⟩
theorem pps_map (l : List Pl) : pps l = l.map (·.p) := rfl
theorem pbs_len (l : List Pl) : (pbs l).length = l.length := List.length_map ..
theorem pps_len (l : List Pl) : (pps l).length = l.length := List.length_map ..

noncomputable def X63 : Fx := ⟨Try.prog, tys, 63, Try.f63, [0]⟩
theorem X63_ok : X63.Ok := ⟨Try.func63, tys_ok⟩
theorem place_ct (x : Pl) (h : i16r x.p) : Ct Try.prog 63 [plA x] (i64 x.p) [] := by
  have hw : IntKind.i64.wrap x.p = x.p := wrap_i64 (by unfold i16r at h; omega) (by unfold i16r at h; omega)
  refine Ct.intro X63 X63_ok rfl rfl rfl rfl fun g hg => ?_
  repeat (refine Run.go rfl ?_)
  refine Run.ret hg rfl ?_
  show i64 _ = _
  rw [hw]

noncomputable def X157 : Fx := ⟨Try.prog, tys, 157, Try.f157, [0]⟩
theorem X157_ok : X157.Ok := ⟨Try.func157, tys_ok⟩
theorem bookOf_ct (x : Pl) : Ct Try.prog 157 [plA x] (bkA x.b) [] := by
  refine Ct.intro X157 X157_ok rfl rfl rfl rfl fun g hg => ?_
  repeat (refine Run.go rfl ?_)
  exact Run.ret hg rfl rfl

noncomputable def X109 : Fx := ⟨Try.prog, tys, 109, Try.f109, [1]⟩
theorem X109_ok : X109.Ok := ⟨Try.func109, tys_ok⟩
theorem eachPI_ct (L : List Pl) (ex : Bool) (f : Nat) (F : Pl → Int) (hlen : L.length ≤ 1048576) (hf : ∀ x ∈ L, Ct Try.prog f [plA x] (i64 (F x)) []) : Ct Try.prog 109 [.ro 9 ex (L.map plA), .fn f []] (.own 1 false ((L.map F).map i64)) [] := by
  refine Ct.intro X109 X109_ok rfl (by kernel_rfl) rfl rfl fun g hg => ?_
  repeat (refine Run.go rfl ?_)
  refine Run.nilSlot 5 1 false rfl ?_
  refine Run.loop (fun j : Nat => ⟨[(1, .fn f []), (5, .own 1 false (((L.take j).map F).map i64)), (8, .ro 9 ex (L.map plA)), (9, i64 L.length), (10, i64 j)], []⟩) (fun j => j ≤ L.length) (fun j => L.length - j) 0 (by omega) ?_ ?_
  · refine St.Le.mk' ⟨rfl, rfl, rfl, ?_, rfl, trivial⟩ trivial
    show i64 _ = _
    simp
  intro j hj IH
  repeat (refine Run.go rfl ?_)
  refine Run.cond rfl (fun h => ?_) (fun h => ?_)
  · have hlt : j < L.length := by simpa using h
    repeat (refine Run.go rfl ?_)
    refine Run.val rfl rfl rfl (ValOk.idx (plA L[j]) rfl rfl rfl rfl rfl (by omega) (by simp [hlt])) rfl ?_
    repeat (refine Run.go rfl ?_)
    refine Run.cs rfl (hf L[j] (by simp)) rfl rfl ?_
    refine Run.buildSlice [i64 (F L[j])] rfl rfl rfl rfl rfl rfl rfl rfl rfl rfl rfl rfl rfl rfl ?_
    refine Run.appendo rfl rfl rfl rfl rfl rfl rfl rfl rfl rfl rfl rfl rfl rfl (by show (_ + 1) * 8 ≤ _; simp; omega) (by simp [capMax]; omega) (by decide) rfl ?_
    repeat (refine Run.go rfl ?_)
    refine Run.of (IH (j + 1) (by omega) (by omega)) ⟨rfl, ?_, rfl, rfl, ?_, trivial⟩ trivial
    · rw [List.take_succ_eq_append_getElem hlt, List.map_append, List.map_append]
      rfl
    · show i64 _ = _
      rw [wrap_i64 (by omega) (by omega)]
      rfl
  · have hj' : j = L.length := by simp at h; omega
    subst hj'
    repeat (refine Run.go rfl ?_)
    refine Run.pack 4 rfl rfl rfl ?_
    refine Run.ret hg rfl ?_
    rw [List.take_length]
    rfl

noncomputable def X156 : Fx := ⟨Try.prog, tys, 156, Try.f156, [1]⟩
theorem X156_ok : X156.Ok := ⟨Try.func156, tys_ok⟩
theorem eachPB_ct (L : List Pl) (ex : Bool) (f : Nat) (hlen : L.length ≤ 1048576) (hf : ∀ x ∈ L, Ct Try.prog f [plA x] (bkA x.b) []) : Ct Try.prog 156 [.ro 9 ex (L.map plA), .fn f []] (.own 8 false ((pbs L).map bkA)) [] := by
  refine Ct.intro X156 X156_ok rfl (by kernel_rfl) rfl rfl fun g hg => ?_
  repeat (refine Run.go rfl ?_)
  refine Run.nilSlot 5 8 false rfl ?_
  refine Run.loop (fun j : Nat => ⟨[(1, .fn f []), (5, .own 8 false ((pbs (L.take j)).map bkA)), (8, .ro 9 ex (L.map plA)), (9, i64 L.length), (10, i64 j)], []⟩) (fun j => j ≤ L.length) (fun j => L.length - j) 0 (by omega) ?_ ?_
  · refine St.Le.mk' ⟨rfl, rfl, rfl, ?_, rfl, trivial⟩ trivial
    show i64 _ = _
    simp
  intro j hj IH
  repeat (refine Run.go rfl ?_)
  refine Run.cond rfl (fun h => ?_) (fun h => ?_)
  · have hlt : j < L.length := by simpa using h
    have hpl : (pbs (L.take j)).length ≤ j := by rw [pbs_len]; simp; omega
    have hst : pbs (L.take (j + 1)) = pbs (L.take j) ++ [L[j].b] := by
      rw [pbs, List.take_succ_eq_append_getElem hlt, List.map_append]
      rfl
    generalize pbs (L.take j) = D at hpl hst
    repeat (refine Run.go rfl ?_)
    refine Run.val rfl rfl rfl (ValOk.idx (plA L[j]) rfl rfl rfl rfl rfl (by omega) (by simp [hlt])) rfl ?_
    repeat (refine Run.go rfl ?_)
    refine Run.cs rfl (hf L[j] (by simp)) rfl rfl ?_
    refine Run.buildSlice [bkA L[j].b] rfl rfl rfl rfl rfl rfl rfl rfl rfl rfl rfl rfl rfl rfl ?_
    refine Run.appendo rfl rfl rfl rfl rfl rfl rfl rfl rfl rfl rfl rfl rfl rfl (by show (_ + 1) * 14 ≤ _; simp; omega) (by simp [capMax]; omega) (by decide) rfl ?_
    repeat (refine Run.go rfl ?_)
    refine Run.of (IH (j + 1) (by omega) (by omega)) ⟨rfl, ?_, rfl, rfl, ?_, trivial⟩ trivial
    · rw [hst, List.map_append]
      rfl
    · show i64 _ = _
      rw [wrap_i64 (by omega) (by omega)]
      rfl
  · have hj' : j = L.length := by simp at h; omega
    subst hj'
    repeat (refine Run.go rfl ?_)
    refine Run.pack 4 rfl rfl rfl ?_
    refine Run.ret hg rfl ?_
    rw [List.take_length]
    rfl

noncomputable def X113 : Fx := ⟨Try.prog, tys, 113, Try.f113, [0]⟩
theorem X113_ok : X113.Ok := ⟨Try.func113, tys_ok⟩
theorem rkBooks_ct (r : Rk) (ex : Bool) (hlen : r.bs.length ≤ 1048576) : Ct Try.prog 113 [rkR ex r] (.own 8 false ((pbs r.bs).map bkA)) [] := by
  refine Ct.intro X113 X113_ok rfl rfl rfl rfl fun g hg => ?_
  repeat (refine Run.go rfl ?_)
  refine Run.cs rfl (eachPB_ct r.bs ex _ hlen fun x _ => bookOf_ct x) rfl (rfB _) ?_
  repeat (refine Run.go rfl ?_)
  exact Run.ret hg rfl rfl

noncomputable def X115 : Fx := ⟨Try.prog, tys, 115, Try.f115, [0, 1]⟩
theorem X115_ok : X115.Ok := ⟨Try.func115, tys_ok⟩
theorem indexP_ct (l : List Pl) (ex : Bool) (f : Nat) (caps : List AV) (p : Pl → Bool) (hlen : l.length ≤ 1048576) (hc : AV.freeL caps = true)
    (hf : ∀ x ∈ l, Ct Try.prog f ([plA x] ++ caps) (bo (p x)) []) : Ct Try.prog 115 [.ro 9 ex (l.map plA), .fn f caps] (i64 (fi p l)) [] := by
  refine Ct.intro X115 X115_ok rfl (by kernel_rfl) rfl rfl fun g hg => ?_
  repeat (refine Run.step rfl ?_)
  refine Run.loop (fun j : Nat => ⟨[(0, .ro 9 ex (l.map plA)), (1, .fn f caps), (7, i64 l.length), (8, i64 j)], []⟩) (fun j => j ≤ l.length ∧ j ≤ l.findIdx p) (fun j => l.length - j) 0 ⟨by omega, by omega⟩ ?_ ?_
  · refine St.Le.mk' ⟨rfl, rfl, ?_, rfl, trivial⟩ trivial
    show i64 _ = _
    simp
  · rintro j ⟨hj1, hj2⟩ IH
    repeat (refine Run.step rfl ?_)
    refine Run.cond rfl (fun h => ?_) (fun h => ?_)
    · have hlt : j < l.length := by simpa using h
      repeat (refine Run.step rfl ?_)
      refine Run.val rfl rfl rfl (ValOk.idx (plA l[j]) rfl rfl rfl rfl rfl (by omega) (by simp [hlt])) rfl ?_
      repeat (refine Run.step rfl ?_)
      refine Run.callp rfl rfl rfl rfl rfl rfl rfl hc rfl (hf l[j] (by simp)) (by decide) (by decide) ?_
      repeat (refine Run.step rfl ?_)
      refine Run.cond rfl (fun h => ?_) (fun h => ?_)
      · repeat (refine Run.step rfl ?_)
        refine Run.ret hg rfl ?_
        show i64 _ = _
        rw [fi_at hlt h hj2]
      · repeat (refine Run.step rfl ?_)
        refine Run.of (IH (j + 1) ⟨by omega, fi_next hlt h hj2⟩ (by omega)) ⟨rfl, rfl, rfl, ?_, trivial⟩ trivial
        show i64 _ = _
        rw [wrap_i64 (by omega) (by omega)]
        rfl
    · repeat (refine Run.step rfl ?_)
      have hj : j = l.length := by simp at h; omega
      refine Run.ret hg rfl ?_
      show i64 (-1) = _
      rw [fi_none (by omega)]

noncomputable def X153 : Fx := ⟨Try.prog, tys, 153, Try.f153, [0, 1]⟩
theorem X153_ok : X153.Ok := ⟨Try.func153, tys_ok⟩
theorem containsP_ct (l : List Pl) (ex : Bool) (f : Nat) (caps : List AV) (p : Pl → Bool) (hlen : l.length ≤ 1048576) (hc : AV.freeL caps = true)
    (hf : ∀ x ∈ l, Ct Try.prog f ([plA x] ++ caps) (bo (p x)) []) : Ct Try.prog 153 [.ro 9 ex (l.map plA), .fn f caps] (bo (l.any p)) [] := by
  refine Ct.intro X153 X153_ok rfl (by kernel_rfl) rfl rfl fun g hg => ?_
  repeat (refine Run.go rfl ?_)
  refine Run.callp rfl rfl rfl rfl rfl rfl (by simp [AV.freeL, AV.free, hc]) rfl rfl (indexP_ct l ex f caps p hlen hc hf) (by decide) (by decide) ?_
  repeat (refine Run.go rfl ?_)
  refine Run.ret hg rfl ?_
  show bo _ = _
  rw [← fi_nonneg]

noncomputable def X154 : Fx := ⟨Try.prog, tys, 154, Try.f154, [0, 1]⟩
theorem X154_ok : X154.Ok := ⟨Try.func154, tys_ok⟩
theorem areAllP1_ct (c : Pl) (f : Nat) (cs : List AV) (jj : Nat) (p : Bool) (hf : Ct Try.prog f [plA c, .rp cs jj] (bo p) []) : Ct Try.prog 154 [plA c, .rp [.fn f [.rp cs jj]] 0] (bo (!p)) [] := by
  refine Ct.intro X154 X154_ok rfl (by kernel_rfl) rfl rfl fun g hg => ?_
  repeat (refine Run.go rfl ?_)
  refine Run.cs rfl hf rfl rfl ?_
  repeat (refine Run.go rfl ?_)
  exact Run.ret hg rfl rfl

noncomputable def X110 : Fx := ⟨Try.prog, tys, 110, Try.f110, [0, 1]⟩
theorem X110_ok : X110.Ok := ⟨Try.func110, tys_ok⟩
theorem areAllP_ct (l : List Pl) (ex : Bool) (f : Nat) (cs : List AV) (jj : Nat) (p : Pl → Bool) (hlen : l.length ≤ 1048576) (hf : ∀ x ∈ l, Ct Try.prog f [plA x, .rp cs jj] (bo (p x)) []) :
    Ct Try.prog 110 [.ro 9 ex (l.map plA), .fn f [.rp cs jj]] (bo (l.all p)) [] := by
  refine Ct.intro X110 X110_ok rfl (by kernel_rfl) rfl rfl fun g hg => ?_
  repeat (refine Run.go rfl ?_)
  refine Run.cs rfl (containsP_ct l ex 154 [.rp [.fn f [.rp cs jj]] 0] (fun x => !p x) hlen rfl (fun x hx => areAllP1_ct x f cs jj (p x) (hf x hx))) rfl rfl ?_
  repeat (refine Run.go rfl ?_)
  refine Run.ret hg rfl ?_
  show bo (!l.any fun x => !p x) = _
  congr 2
  simp [List.all_eq_not_any_not]

noncomputable def X162 : Fx := ⟨Try.prog, tys, 162, Try.f162, [0, 1]⟩
theorem X162_ok : X162.Ok := ⟨Try.func162, tys_ok⟩
theorem firstOfP_ct (L : List Pl) (ex : Bool) (f : Nat) (caps : List AV) (p : Pl → Bool) (hlen : L.length ≤ 1048576) (hc : AV.freeL caps = true) (hf : ∀ x ∈ L, Ct Try.prog f ([plA x] ++ caps) (bo (p x)) []) :
    Ct Try.prog 162 [.ro 9 ex (L.map plA), .fn f caps] (i64 (if 0 ≤ fi p L then fi p L else (L.length : Int))) [] := by
  refine Ct.intro X162 X162_ok rfl (by kernel_rfl) rfl rfl fun g hg => ?_
  repeat (refine Run.go rfl ?_)
  refine Run.callp rfl rfl rfl rfl rfl rfl (by simp [AV.freeL, AV.free, hc]) rfl rfl (indexP_ct L ex f caps p hlen hc hf) (by decide) (by decide) ?_
  repeat (refine Run.go rfl ?_)
  refine Run.cond rfl (fun h => ?_) (fun h => ?_)
  · have h : 0 ≤ fi p L := of_decide_eq_true h
    repeat (refine Run.go rfl ?_)
    refine Run.ret hg rfl ?_
    rw [if_pos h]
    rfl
  · have h : ¬ 0 ≤ fi p L := of_decide_eq_false h
    repeat (refine Run.go rfl ?_)
    refine Run.ret hg rfl ?_
    rw [if_neg h]
    show i64 ((L.map plA).length : Int) = _
    rw [List.length_map]

noncomputable def X111 : Fx := ⟨Try.prog, tys, 111, Try.f111, [0, 1]⟩
theorem X111_ok : X111.Ok := ⟨Try.func111, tys_ok⟩
theorem validRack1_ct (x : Pl) (r : Rk) (ex : Bool) (hn : 1 ≤ r.pl ∧ r.pl ≤ 60) : Ct Try.prog 111 [plA x, .rp (rkR ex r).cells 0] (bo (vPl r.pl x)) [] := by
  have hw : IntKind.i16.wrap (r.pl - 1) = r.pl - 1 := wrap_i16 (by omega) (by omega)
  refine Ct.intro X111 X111_ok rfl (by kernel_rfl) rfl rfl fun g hg => ?_
  repeat (refine Run.go rfl ?_)
  refine Run.cs rfl (within16_ct x.p 0 (r.pl - 1)) (by show [i16 _, i16 _, i16 _] = _; rw [hw]) rfl ?_
  repeat (refine Run.go rfl ?_)
  refine Run.bool 10 rfl (fun h => ?_) (fun h => ?_)
  · repeat (refine Run.go rfl ?_)
    refine Run.cs rfl (validBook_ct x.b) rfl rfl ?_
    repeat (refine Run.go rfl ?_)
    refine Run.ret hg rfl ?_
    show bo _ = bo _
    rw [vPl, h, Bool.true_and]
  · repeat (refine Run.go rfl ?_)
    refine Run.ret hg rfl ?_
    show bo _ = bo _
    rw [vPl, h, Bool.false_and]

noncomputable def X57 : Fx := ⟨Try.prog, tys, 57, Try.f57, [0]⟩
theorem X57_ok : X57.Ok := ⟨Try.func57, tys_ok⟩
theorem implValidRack_ct (r : Rk) (ex : Bool) (hr : rkOk r) : Ct Try.prog 57 [rkR ex r] (bo (vR r)) [] := by
  have hlen := hr.1.2
  refine Ct.intro X57 X57_ok rfl (by kernel_rfl) rfl rfl fun g hg => ?_
  repeat (refine Run.go rfl ?_)
  refine Run.cs rfl (within16_ct r.pl 1 60) rfl rfl ?_
  repeat (refine Run.go rfl ?_)
  refine Run.bool 6 rfl (fun h1 => ?_) (fun h1 => ?_)
  · have hn : 1 ≤ r.pl ∧ r.pl ≤ 60 := by simpa [inr] using h1
    repeat (refine Run.go rfl ?_)
    refine Run.cs rfl (eachPI_ct r.bs ex _ (·.p) hlen fun x hx => place_ct x (hr.2 x hx).1) rfl (rf64 _) ?_
    repeat (refine Run.go rfl ?_)
    refine Run.cs rfl (rises_ct (pps r.bs) false (by rw [pps_len]; exact hlen)) (by rw [frz64]; rfl) rfl ?_
    repeat (refine Run.go rfl ?_)
    refine Run.bool 12 rfl (fun h2 => ?_) (fun h2 => ?_)
    · repeat (refine Run.go rfl ?_)
      refine Run.cs rfl (areAllP_ct r.bs ex _ (rkR ex r).cells 0 (vPl r.pl) hlen fun x _ => validRack1_ct x r ex hn) rfl rfl ?_
      repeat (refine Run.go rfl ?_)
      refine Run.bool 18 rfl (fun h3 => ?_) (fun h3 => ?_)
      · repeat (refine Run.go rfl ?_)
        refine Run.cs rfl (rkBooks_ct r ex hlen) rfl (rfB _) ?_
        repeat (refine Run.go rfl ?_)
        refine Run.cs rfl (isSorted_ct (pbs r.bs) false (by rw [pbs_len]; exact hlen)) (by rw [frzB]) rfl ?_
        repeat (refine Run.go rfl ?_)
        refine Run.ret hg rfl ?_
        show bo _ = bo _
        rw [vR, h1, h2, h3]
        rfl
      · repeat (refine Run.go rfl ?_)
        refine Run.ret hg rfl ?_
        show bo _ = bo _
        rw [vR, h3, Bool.and_false, Bool.false_and]
    · repeat (refine Run.go rfl ?_)
      refine Run.ret hg rfl ?_
      show bo _ = bo _
      rw [vR, h2, Bool.and_false, Bool.false_and, Bool.false_and]
  · repeat (refine Run.go rfl ?_)
    refine Run.ret hg rfl ?_
    show bo _ = bo _
    rw [vR, h1, Bool.false_and, Bool.false_and, Bool.false_and]

noncomputable def X114 : Fx := ⟨Try.prog, tys, 114, Try.f114, [0]⟩
theorem X114_ok : X114.Ok := ⟨Try.func114, tys_ok⟩
theorem clonePl_ct (a : List Pl) (e1 : Bool) (ha : a.length ≤ 1048576) : Ct Try.prog 114 [.ro 9 e1 (a.map plA)] (.own 9 false (a.map plA)) [] := by
  refine Ct.intro X114 X114_ok rfl (by kernel_rfl) rfl rfl fun g hg => ?_
  repeat (refine Run.go rfl ?_)
  refine Run.roNil rfl rfl rfl rfl rfl rfl rfl rfl fun b hb => ?_
  repeat (refine Run.go rfl ?_)
  refine Run.cond rfl (fun h => ?_) (fun h => ?_)
  · have hn := hb h
    repeat (refine Run.go rfl ?_)
    refine Run.nilSlot 2 9 false rfl ?_
    refine Run.ret hg rfl ?_
    rw [hn]
    rfl
  · repeat (refine Run.go rfl ?_)
    refine Run.buildSlice [] rfl rfl rfl rfl rfl rfl rfl rfl rfl rfl rfl rfl rfl rfl ?_
    refine Run.unpack 5 rfl rfl ?_
    repeat (refine Run.go rfl ?_)
    refine Run.appendr rfl rfl rfl rfl rfl rfl rfl rfl rfl rfl rfl rfl rfl (one_pl a) (by show (_ + _) * 16 ≤ _; simp; omega) (by simp [capMax]; omega) rfl ?_
    repeat (refine Run.go rfl ?_)
    exact Run.ret hg rfl rfl

noncomputable def X60 : Fx := ⟨Try.prog, tys, 60, Try.f60, [0]⟩
theorem X60_ok : X60.Ok := ⟨Try.func60, tys_ok⟩
theorem rkOwn_ct (r : Rk) (ex : Bool) (hlen : r.bs.length ≤ 1048576) : Ct Try.prog 60 [rkR ex r] (rkO false r) [] := by
  refine Ct.intro X60 X60_ok rfl (by kernel_rfl) rfl rfl fun g hg => ?_
  repeat (refine Run.go rfl ?_)
  refine Run.drawn [[0, 1, 2, 3, 4, 5, 6], [0, 2, 1, 3, 4, 5, 6], [0, 2, 3, 1, 4, 5, 6], [0, 2, 3, 4, 1, 5, 6], [2, 0, 1, 3, 4, 5, 6], [2, 0, 3, 1, 4, 5, 6], [2, 0, 3, 4, 1, 5, 6], [2, 3, 0, 1, 4, 5, 6], [2, 3, 0, 4, 1, 5, 6], [2, 3, 4, 0, 1, 5, 6]]
    ⟨[(2, .bp (2, 0) 0)], [((2, 0), .box [i16 r.pl, .own 9 false (r.bs.map plA)])]⟩ (by decide +kernel) (by kernel_rfl) ?_ fun _ hN => ⟨?_, ?_, ?_, ?_, ?_, ?_, ?_, ?_, ?_, ?_, trivial⟩
  rotate_left
  iterate 10
    · repeat (refine Run.go rfl ?_)
      refine Run.cs rfl (clonePl_ct r.bs ex hlen) rfl (rfP _) ?_
      refine Run.unpack 7 rfl rfl ?_
      repeat (refine Run.go rfl ?_)
      refine Run.val rfl rfl rfl (ValOk.build rfl rfl rfl rfl rfl) rfl ?_
      repeat (refine Run.go rfl ?_)
      refine Run.packBox (2, 0) 1 rfl rfl rfl rfl ?_
      exact Run.of hN ⟨rfl, trivial⟩ ⟨rfl, trivial⟩
  exact Run.ret hg rfl rfl

/-! Which places are taken. -/

theorem rfBo (l : List Bool) : AV.rfL (l.map bof) = true := rfL_map (fun _ => rfl) l

def tk (l : List Pl) (n : Nat) : List Bool := (List.range n).map fun i : Nat => l.any fun x => x.p == (i : Int)
theorem tk_len (l : List Pl) (n : Nat) : (tk l n).length = n := by simp [tk]
theorem tk_get {l : List Pl} {n i : Nat} (h : i < n) : (tk l n)[i]? = some (l.any fun x => x.p == (i : Int)) := by simp [tk, h]
theorem tk_step (l : List Pl) (x : Pl) (n i : Nat) (hi : i < n) (hx : x.p = (i : Int)) : (tk l n).set i true = tk (l ++ [x]) n := by
  refine List.ext_getElem? fun j => ?_
  rw [List.getElem?_set]
  by_cases hj : j < n
  · rw [tk_get hj, tk_get hj, List.any_append]
    by_cases e : i = j
    · subst e
      simp [tk_len, hi, hx]
    · rw [if_neg e]
      have : (x.p == (j : Int)) = false := by simp [hx]; omega
      simp [this]
  · rw [if_neg (by omega), List.getElem?_eq_none (by rw [tk_len]; omega), List.getElem?_eq_none (by rw [tk_len]; omega)]

noncomputable def X59 : Fx := ⟨Try.prog, tys, 59, Try.f59, [0]⟩
theorem X59_ok : X59.Ok := ⟨Try.func59, tys_ok⟩
theorem taken_ct (r : Rk) (ex : Bool) (n : Nat) (hn : r.pl = (n : Int)) (hn1 : n ≤ 60) (hlen : r.bs.length ≤ 1048576) (hb : ∀ x ∈ r.bs, 0 ≤ x.p ∧ x.p < n) : Ct Try.prog 59 [rkR ex r] (.own 1 true ((tk r.bs n).map bof)) [] := by
  obtain ⟨pl, l⟩ := r
  simp only at hn hlen hb
  subst hn
  refine Ct.intro X59 X59_ok rfl (by kernel_rfl) rfl rfl fun g hg => ?_
  repeat (refine Run.go rfl ?_)
  refine Run.make rfl rfl rfl rfl rfl rfl rfl rfl rfl rfl (by omega) (by show _ * 1 ≤ _; omega) rfl ?_
  repeat (refine Run.go rfl ?_)
  refine Run.loop (fun j : Nat => ⟨[(3, .own 1 true ((tk (l.take j) n).map bof)), (10, .ro 9 ex (l.map plA)), (11, i64 l.length), (12, i64 j)], []⟩) (fun j => j ≤ l.length) (fun j => l.length - j) 0 (by omega) ?_ ?_
  · refine St.Le.mk' ⟨?_, rfl, ?_, rfl, trivial⟩ trivial
    · show AV.own 1 true (List.replicate n (bo false)) = _
      congr 1
      refine List.ext_getElem? fun j => ?_
      by_cases hj : j < n
      · rw [List.getElem?_map, List.take_zero, tk_get hj]
        simp [hj]
        rfl
      · rw [List.getElem?_eq_none (by simp; omega), List.getElem?_eq_none (by rw [List.length_map, tk_len]; omega)]
    · show i64 _ = _
      simp
  intro j hj IH
  repeat (refine Run.go rfl ?_)
  refine Run.cond rfl (fun h => ?_) (fun h => ?_)
  · have hlt : j < l.length := by simpa using h
    obtain ⟨hx0, hx1⟩ := hb l[j] (by simp)
    obtain ⟨i, hi⟩ : ∃ i : Nat, l[j].p = (i : Int) := ⟨l[j].p.toNat, by omega⟩
    have hin : i < n := by omega
    have hst : tk (l.take (j + 1)) n = (tk (l.take j) n).set i true := by
      rw [List.take_succ_eq_append_getElem hlt, tk_step _ _ _ _ hin hi]
    have htl := tk_len (l.take j) n
    obtain ⟨ob, hob⟩ : ∃ ob : Bool, (tk (l.take j) n)[i]? = some ob := ⟨_, tk_get hin⟩
    generalize tk (l.take j) n = D at hst htl hob
    repeat (refine Run.go rfl ?_)
    refine Run.val rfl rfl rfl (ValOk.idx (plA l[j]) rfl rfl rfl rfl rfl (by omega) (by simp [hlt])) rfl ?_
    repeat (refine Run.go rfl ?_)
    refine Run.val rfl rfl rfl (ValOk.idxv (m := (i : Int)) rfl rfl rfl rfl rfl (by show AV.lit (.int .i16 l[j].p) = _; rw [hi]) (by omega) (by rw [List.length_map, htl]; omega)) rfl ?_
    refine Run.storee (bof ob) (bof true) rfl rfl rfl rfl rfl rfl rfl (by rw [List.getElem?_map, Nat.zero_add, Int.toNat_natCast, hob]; rfl) rfl rfl rfl ?_
    repeat (refine Run.go rfl ?_)
    refine Run.pack 3 rfl rfl (by simp) ?_
    refine Run.of (IH (j + 1) (by omega) (by omega)) ⟨?_, rfl, rfl, ?_, trivial⟩ trivial
    · show AV.own _ _ _ = AV.own _ _ _
      rw [hst, List.map_set, Nat.zero_add, Int.toNat_natCast]
    · show i64 _ = _
      rw [wrap_i64 (by omega) (by omega)]
      rfl
  · have hj' : j = l.length := by simp at h; omega
    subst hj'
    repeat (refine Run.go rfl ?_)
    refine Run.pack 2 rfl rfl rfl ?_
    refine Run.ret hg rfl ?_
    rw [List.take_length]
    rfl

theorem vR_pl {r : Rk} (h : vR r = true) : (1 ≤ r.pl ∧ r.pl ≤ 60) ∧ ∀ x ∈ r.bs, (0 ≤ x.p ∧ x.p < r.pl) ∧ vB x.b = true := by
  simp only [vR, Bool.and_eq_true, List.all_eq_true, vPl, inr, decide_eq_true_eq] at h
  refine ⟨h.1.1.1, fun x hx => ?_⟩
  have := h.1.2 x hx
  exact ⟨⟨this.1.1, by omega⟩, this.2⟩

def tkRes (r : Rk) (at' : Int) : Rk × Int := if vR r = true then (if inr at' 0 (r.pl - 1) = true then (if (r.bs.any fun x => x.p == at') = true then (⟨r.pl, r.bs.filter fun x => !(x.p == at')⟩, 0) else (rk0, 6)) else (rk0, 2)) else (rk0, 1)
def rkRes (r : Rk × Int) : AV := .tup [rkO false r.1, i64 r.2]

theorem lt_pl (L : List Pl) : (flatc (L.map plA)).all isLT = true := by
  induction L with
  | nil => rfl
  | cons x r ih =>
    rw [List.map_cons, show flatc (plA x :: r.map plA) = (plA x).cells ++ flatc (r.map plA) from rfl, List.all_append, ih]
    rfl

noncomputable def X61 : Fx := ⟨Try.prog, tys, 61, Try.f61, []⟩
theorem X61_ok : X61.Ok := ⟨Try.func61, tys_ok⟩
theorem deleteP_ct (L : List Pl) (ex : Bool) (f : Nat) (cs : List AV) (p : Pl → Bool) (hlen : L.length ≤ 1048576) (hf : ∀ x ∈ L, Ct Try.prog f [plA x, .rp cs 0] (bo (p x)) []) :
    Ct Try.prog 61 [.own 9 ex (L.map plA), .fn f [.rp cs 0]] (.own 9 false ((L.filter fun x => !p x).map plA)) [] := by
  refine Ct.intro X61 X61_ok rfl (by kernel_rfl) rfl rfl fun g hg => ?_
  repeat (refine Run.go rfl ?_)
  refine Run.cs rfl (indexP_ct L ex f [.rp cs 0] p hlen rfl hf) (by rw [frzP, decide_eq_true (by simp)]; rfl) rfl ?_
  repeat (refine Run.go rfl ?_)
  refine Run.cond rfl (fun h => ?_) (fun h => ?_)
  · have h : fi p L = -1 := by simpa using h
    have hnone : L.filter (fun x => !p x) = L := by
      rw [List.filter_eq_self]
      intro x hx
      have hany : L.any p = false := by
        rw [← fi_nonneg, h]
        rfl
      have := List.any_eq_false.1 hany x hx
      simpa using this
    repeat (refine Run.go rfl ?_)
    refine Run.packTake 4 rfl rfl (Nat.le_refl _) ?_
    refine Run.ret hg rfl ?_
    rw [hnone, List.take_length]
    rfl
  have h : fi p L ≠ -1 := by simpa using h
  have hi0 : L.findIdx p < L.length := by
    unfold fi at h
    split at h
    · assumption
    · exact absurd rfl h
  have hfi : fi p L = (L.findIdx p : Int) := by
    unfold fi
    rw [if_pos hi0]
  have hpi : p (L[L.findIdx p]) = true := List.findIdx_getElem
  have hfl0 : (L.take (L.findIdx p + 1)).filter (fun x => !p x) = L.take (L.findIdx p) := by
    rw [List.take_succ_eq_append_getElem hi0, List.filter_append, List.filter_cons, hpi]
    simp only [Bool.not_true, Bool.false_eq_true, if_false, List.filter_nil, List.append_nil]
    rw [List.filter_eq_self]
    intro x hx
    obtain ⟨q, hq, rfl⟩ := List.getElem_of_mem hx
    have hq2 : q < L.findIdx p := by simp at hq; omega
    have := List.not_of_lt_findIdx hq2
    simp only [List.getElem_take]
    simpa using this
  rw [hfi]
  generalize L.findIdx p = i0 at hi0 hfl0
  repeat (refine Run.go rfl ?_)
  refine Run.loop (fun j : Nat => ⟨[(0, .vec (0, 0) 0 L.length), (1, .fn f [.rp cs 0]), (5, i64 ((L.take j).filter (fun x => !p x)).length), (6, i64 j)], [((0, 0), .vec 9 ex (((L.take j).filter (fun x => !p x) ++ L.drop ((L.take j).filter (fun x => !p x)).length).map plA))]⟩)
    (fun j => j ≤ L.length ∧ ((L.take j).filter (fun x => !p x)).length < j) (fun j => L.length - j) (i0 + 1) ⟨by omega, by rw [hfl0]; simp; omega⟩ ?_ ?_
  · refine St.Le.mk' ⟨?_, rfl, ?_, ?_, trivial⟩ ⟨?_, trivial⟩
    · show AV.vec _ _ (L.map plA).length = _
      rw [List.length_map]
    · show i64 (i0 : Int) = i64 _
      rw [hfl0, List.length_take, Nat.min_eq_left (by omega)]
    · show i64 _ = _
      rw [wrap_i64 (by omega) (by omega)]
      rfl
    · show Ob.vec _ _ _ = Ob.vec _ _ _
      rw [hfl0, List.length_take, Nat.min_eq_left (by omega), List.take_append_drop]
  rintro j ⟨hj, hlt0⟩ IH
  obtain ⟨fl, hfl⟩ : ∃ fl, fl = (L.take j).filter (fun x => !p x) := ⟨_, rfl⟩
  rw [← hfl] at hlt0
  rw [← hfl]
  repeat (refine Run.go rfl ?_)
  refine Run.cond rfl (fun h => ?_) (fun h => ?_)
  · have hlt : j < L.length := by simpa using h
    have hat : ((fl ++ L.drop fl.length).map plA)[0 + (j : Int).toNat]? = some (plA L[j]) := by
      rw [List.getElem?_map, Nat.zero_add, Int.toNat_natCast, List.getElem?_append_right (by omega), List.getElem?_drop, show fl.length + (j - fl.length) = j by omega, List.getElem?_eq_getElem hlt]
      rfl
    have hat2 : ((fl ++ L.drop fl.length).map plA)[0 + (fl.length : Int).toNat]? = some (plA (L[fl.length]'(by omega))) := by
      rw [List.getElem?_map, Nat.zero_add, Int.toNat_natCast, List.getElem?_append_right (by omega), List.getElem?_drop, Nat.sub_self, Nat.add_zero, List.getElem?_eq_getElem (by omega)]
      rfl
    have hnext : (L.take (j + 1)).filter (fun x => !p x) = if p L[j] = true then fl else fl ++ [L[j]] := by
      rw [List.take_succ_eq_append_getElem hlt, List.filter_append, ← hfl, List.filter_cons]
      cases p L[j] <;> simp
    have hseta : ((fl ++ L.drop fl.length).map plA).set (0 + (fl.length : Int).toNat) (plA L[j]) = (fl ++ [L[j]] ++ L.drop (fl.length + 1)).map plA := by
      rw [← List.map_set, Nat.zero_add, Int.toNat_natCast, List.set_append, if_neg (by omega), Nat.sub_self, List.append_assoc]
      congr 2
      rw [List.drop_eq_getElem_cons (i := fl.length) (by omega)]
      rfl
    have hml : 0 + (j : Int) < (L.length : Int) := by omega
    have hcl : ((fl ++ L.drop fl.length).map plA).length = L.length := by simp; omega
    generalize hC : (fl ++ L.drop fl.length).map plA = C at hat hat2 hseta hcl
    repeat (refine Run.go rfl ?_)
    refine Run.val rfl rfl rfl (ValOk.idxv rfl rfl rfl rfl rfl rfl (by omega) (by omega)) rfl ?_
    repeat (refine Run.go rfl ?_)
    refine Run.val rfl rfl rfl (ValOk.loadv (plA L[j]) rfl rfl rfl rfl hat rfl) rfl ?_
    repeat (refine Run.go rfl ?_)
    refine Run.cs rfl (hf L[j] (by simp)) rfl rfl ?_
    repeat (refine Run.go rfl ?_)
    refine Run.cond rfl (fun h => ?_) (fun h => ?_)
    · have h : p L[j] = false := by simpa using h
      rw [if_neg (by rw [h]; decide)] at hnext
      repeat (refine Run.go rfl ?_)
      refine Run.val rfl rfl rfl (ValOk.idxv rfl rfl rfl rfl rfl rfl (by omega) (by omega)) rfl ?_
      refine Run.storee (plA (L[fl.length]'(by omega))) (plA L[j]) rfl rfl rfl rfl rfl rfl rfl hat2 rfl rfl rfl ?_
      repeat (refine Run.go rfl ?_)
      refine Run.of (IH (j + 1) ⟨by omega, by rw [hnext]; simp; omega⟩ (by omega)) ⟨rfl, rfl, ?_, ?_, trivial⟩ ⟨?_, trivial⟩
      · show i64 _ = i64 _
        rw [wrap_i64 (by omega) (by omega), hnext]
        congr 1
        simp
      · show i64 _ = _
        rw [wrap_i64 (by omega) (by omega)]
        rfl
      · show Ob.vec _ _ _ = Ob.vec _ _ _
        rw [hseta, hnext]
        congr 3
        simp
    · have h : p L[j] = true := by simpa using h
      rw [if_pos h] at hnext
      repeat (refine Run.go rfl ?_)
      refine Run.of (IH (j + 1) ⟨by omega, by rw [hnext]; omega⟩ (by omega)) ⟨rfl, rfl, ?_, ?_, trivial⟩ ⟨?_, trivial⟩
      · show i64 _ = i64 _
        rw [hnext]
      · show i64 _ = _
        rw [wrap_i64 (by omega) (by omega)]
        rfl
      · show Ob.vec _ _ _ = Ob.vec _ _ _
        rw [hnext, hC]
  · have hj' : j = L.length := by simp at h; omega
    subst hj'
    rw [List.take_length] at hfl
    have hcl : ((fl ++ L.drop fl.length).map plA).length = L.length := by simp; omega
    repeat (refine Run.go rfl ?_)
    refine Run.val rfl rfl rfl (ValOk.cutv rfl rfl rfl rfl rfl rfl rfl (by omega) (by omega) (by omega)) rfl ?_
    refine Run.clearv (plA pl0) rfl rfl rfl rfl rfl rfl rfl rfl rfl rfl rfl rfl (lt_pl _) (by rw [hcl]; omega) ?_
    repeat (refine Run.go rfl ?_)
    refine Run.val rfl rfl rfl (ValOk.cutv rfl rfl rfl rfl rfl rfl rfl (by omega) (by omega) (by omega)) rfl ?_
    repeat (refine Run.go rfl ?_)
    refine Run.packTake 4 rfl rfl (by first | (simp; done) | (simp; omega)) ?_
    refine Run.ret hg rfl ?_
    rw [← hfl]
    show AV.own _ _ _ = AV.own _ _ _
    congr 1
    simp only [Int.toNat_natCast, Int.toNat_zero, Nat.sub_zero, Nat.zero_add]
    rw [List.append_assoc, List.take_append_of_le_length (by simp), List.take_take, Nat.min_self, List.map_append, List.take_append_of_le_length (by simp), List.take_of_length_le (by simp)]

noncomputable def X62 : Fx := ⟨Try.prog, tys, 62, Try.f62, [0, 1]⟩
theorem X62_ok : X62.Ok := ⟨Try.func62, tys_ok⟩
theorem takeBook1_ct (x : Pl) (a : Int) (h : i16r x.p) : Ct Try.prog 62 [plA x, .rp [i64 a] 0] (bo (x.p == a)) [] := by
  refine Ct.intro X62 X62_ok rfl (by kernel_rfl) rfl rfl fun g hg => ?_
  repeat (refine Run.go rfl ?_)
  refine Run.draw (by kernel_rfl) (by decide +kernel) ?_
  repeat (refine Quiet.go rfl ?_)
  refine Quiet.cs rfl rfl rfl rfl rfl (place_ct x h) rfl rfl ?_
  repeat (refine Quiet.go rfl ?_)
  refine Quiet.nil ?_
  repeat (refine Run.go rfl ?_)
  exact Run.ret hg rfl rfl

noncomputable def X27 : Fx := ⟨Try.prog, tys, 27, Try.f27, [1]⟩
theorem X27_ok : X27.Ok := ⟨Try.func27, tys_ok⟩
theorem implTakeBook_ct (r : Rk) (ex : Bool) (a : Int) (hr : rkOk r) : Ct Try.prog 27 [rkR ex r, i64 a] (rkRes (tkRes r a)) [] := by
  have hlen := hr.1.2
  have hpr := hr.1.1
  unfold i16r at hpr
  refine Ct.intro X27 X27_ok rfl (by kernel_rfl) rfl rfl fun g hg => ?_
  repeat (refine Run.go rfl ?_)
  refine Run.cs rfl (implValidRack_ct r ex hr) rfl rfl ?_
  repeat (refine Run.go rfl ?_)
  refine Run.cond rfl (fun h => ?_) (fun h => ?_)
  · have h : vR r = false := by simpa using h
    repeat (refine Run.go rfl ?_)
    refine Run.val rfl rfl rfl (ValOk.build rfl rfl rfl rfl rfl) rfl ?_
    repeat (refine Run.go rfl ?_)
    refine Run.nilBox (4, 0) 1 9 false rfl rfl ?_
    refine Run.ret hg rfl ?_
    rw [tkRes, if_neg (by rw [h]; decide)]
    rfl
  have hv : vR r = true := by simpa using h
  obtain ⟨hpl, hbs⟩ := vR_pl hv
  obtain ⟨n, hn⟩ : ∃ n : Nat, r.pl = (n : Int) := ⟨r.pl.toNat, by omega⟩
  have hw1 : IntKind.i64.wrap r.pl = r.pl := wrap_i64 (by omega) (by omega)
  have hw2 : IntKind.i64.wrap (r.pl - 1) = r.pl - 1 := wrap_i64 (by omega) (by omega)
  repeat (refine Run.go rfl ?_)
  refine Run.cs rfl (within64_ct a 0 (r.pl - 1)) (by show [i64 _, i64 _, i64 _] = _; rw [hw1, hw2]) rfl ?_
  repeat (refine Run.go rfl ?_)
  refine Run.cond rfl (fun h => ?_) (fun h => ?_)
  · have h : inr a 0 (r.pl - 1) = false := by simpa using h
    repeat (refine Run.go rfl ?_)
    refine Run.val rfl rfl rfl (ValOk.build rfl rfl rfl rfl rfl) rfl ?_
    repeat (refine Run.go rfl ?_)
    refine Run.nilBox (4, 0) 1 9 false rfl rfl ?_
    refine Run.ret hg rfl ?_
    rw [tkRes, if_pos hv, if_neg (by rw [h]; decide)]
    rfl
  have hin : inr a 0 (r.pl - 1) = true := by simpa using h
  have ha : 0 ≤ a ∧ a ≤ r.pl - 1 := by simpa [inr] using hin
  obtain ⟨i, hi⟩ : ∃ i : Nat, a = (i : Int) := ⟨a.toNat, by omega⟩
  repeat (refine Run.go rfl ?_)
  refine Run.drawn [[0, 1, 2, 3, 4, 5, 6], [0, 2, 1, 3, 4, 5, 6], [2, 0, 1, 3, 4, 5, 6]]
    ⟨[(2, .bp (2, 0) 0), (3, .bp (3, 0) 0), (4, .bp (4, 0) 0), (21, bo (!(r.bs.any fun x => x.p == (i : Int))))], [((2, 0), .box (rkR ex r).cells), ((3, 0), .box [i64 a]), ((4, 0), .box [i16 0, .lit (.slice none 0 0)])]⟩ (by decide +kernel) (by kernel_rfl) ?_ fun _ hN => ⟨?_, ?_, ?_, trivial⟩
  rotate_left
  iterate 3
    · repeat (refine Run.go rfl ?_)
      refine Run.cs rfl (taken_ct r ex n hn (by omega) hlen fun x hx => by have := (hbs x hx).1; omega) rfl (rfBo _) ?_
      refine Run.unpack 23 rfl rfl ?_
      repeat (refine Run.go rfl ?_)
      refine Run.val rfl rfl rfl (ValOk.idxv (m := (i : Int)) rfl rfl rfl rfl rfl (by show AV.lit (.int .i64 a) = _; rw [hi]) (by omega) (by rw [List.length_map, tk_len]; omega)) rfl ?_
      refine Run.val rfl rfl rfl (ValOk.loadv (bof (r.bs.any fun x => x.p == (i : Int))) rfl rfl rfl rfl (by rw [List.getElem?_map, Nat.zero_add, Int.toNat_natCast, tk_get (by omega)]; rfl) rfl) rfl ?_
      repeat (refine Run.go rfl ?_)
      exact Run.of hN ⟨rfl, rfl, rfl, rfl, trivial⟩ ⟨rfl, rfl, rfl, trivial⟩
  refine Run.cond rfl (fun h => ?_) (fun h => ?_)
  · have h : (r.bs.any fun x => x.p == (i : Int)) = false := by simpa using h
    repeat (refine Run.go rfl ?_)
    refine Run.val rfl rfl rfl (ValOk.build rfl rfl rfl rfl rfl) rfl ?_
    repeat (refine Run.go rfl ?_)
    refine Run.nilBox (4, 0) 1 9 false rfl rfl ?_
    refine Run.ret hg rfl ?_
    rw [tkRes, if_pos hv, if_pos hin, if_neg (by rw [hi, h]; decide)]
    rfl
  have hany : (r.bs.any fun x => x.p == (i : Int)) = true := by simpa using h
  iterate 2 (refine Run.go rfl ?_)
  refine Run.freezeBox 3 (3, 0) [i64 a] rfl rfl rfl rfl ?_
  repeat (refine Run.go rfl ?_)
  refine Run.cs rfl (rkOwn_ct r ex hlen) rfl (rk_rf _ _) ?_
  refine Run.unagg 30 1 (30, 1) rfl rfl rfl ?_
  repeat (refine Run.go rfl ?_)
  refine Run.callg (30, 1) rfl rfl rfl rfl rfl rfl rfl rfl rfl rfl rfl rfl (deleteP_ct r.bs false _ [i64 a] (fun x => x.p == a) hlen fun x hx => takeBook1_ct x a (hr.2 x hx).1) rfl ?_
  refine Run.unpack 34 rfl rfl ?_
  repeat (refine Run.go rfl ?_)
  refine Run.packBox (4, 0) 1 rfl rfl rfl rfl ?_
  refine Run.ret hg rfl ?_
  rw [tkRes, if_pos hv, if_pos hin, if_pos (by rw [hi]; exact hany)]
  rfl

/-! The reference. -/

noncomputable def X104 : Fx := ⟨Try.prog, tys, 104, Try.f104, [0]⟩
theorem X104_ok : X104.Ok := ⟨Try.func104, tys_ok⟩
theorem l05Places_ct (n : Int) : Ct Try.prog 104 [i64 n] (bo (inr n 1 60)) [] := by
  refine Ct.intro X104 X104_ok rfl rfl rfl rfl fun g hg => ?_
  repeat (refine Run.go rfl ?_)
  refine Run.cs rfl (l00In_ct n 1 60) rfl rfl ?_
  repeat (refine Run.go rfl ?_)
  exact Run.ret hg rfl rfl

/-- What is wrong with the book j of a rack. -/
def bad (n : Int) (l : List Pl) (j : Nat) : Bool := !vPl n (l.getD j pl0) || (decide (0 < j) && (decide ((l.getD j pl0).p ≤ (l.getD (j - 1) pl0).p) || decide (uc (l.getD j pl0).b (l.getD (j - 1) pl0).b < 0)))
theorem getD_pl {l : List Pl} {j : Nat} (h : j < l.length) : l.getD j pl0 = l[j] := by simp [h]
theorem vR_bad (r : Rk) : vR r = (inr r.pl 1 60 && !(List.range r.bs.length).any (bad r.pl r.bs)) := by
  obtain ⟨n, l⟩ := r
  show (inr n 1 60 && rs (pps l) && l.all (vPl n) && srt (pbs l)) = _
  have key : (rs (pps l) && l.all (vPl n) && srt (pbs l)) = !(List.range l.length).any (bad n l) := by
    rw [Bool.eq_iff_iff]
    simp only [Bool.and_eq_true, Bool.not_eq_true', List.any_eq_false, List.mem_range, rs, srt, List.all_eq_true, pps_len, pbs_len]
    constructor
    · rintro ⟨⟨h1, h2⟩, h3⟩ j hj
      have hv : vPl n (l.getD j pl0) = true := by rw [getD_pl hj]; exact h2 _ (by simp)
      unfold bad
      rw [hv]
      simp only [Bool.not_true, Bool.false_or, Bool.and_eq_true, Bool.or_eq_true, decide_eq_true_eq, not_and, not_or]
      intro h0
      have a1 := h1 (j - 1) (by omega)
      have a2 := h3 (j - 1) (by omega)
      have e1 : j - 1 + 1 = j := by omega
      simp only [rsP, pps, decide_eq_true_eq, e1] at a1
      rw [ooo_at (by rw [pbs_len]; omega)] at a2
      simp only [decide_eq_true_eq, e1] at a2
      have g1 : (l.map (·.p)).getD j 0 = (l.getD j pl0).p := by rw [getD_pl hj]; simp [hj]
      have g2 : (l.map (·.p)).getD (j - 1) 0 = (l.getD (j - 1) pl0).p := by rw [getD_pl (by omega)]; simp [show j - 1 < l.length by omega]
      rw [g1, g2] at a1
      have g3 : (pbs l)[j]'(by rw [pbs_len]; exact hj) = (l.getD j pl0).b := by rw [getD_pl hj]; simp [pbs]
      have g4 : (pbs l)[j - 1]'(by rw [pbs_len]; omega) = (l.getD (j - 1) pl0).b := by rw [getD_pl (by omega)]; simp [pbs]
      rw [← g3, ← g4]
      exact ⟨by omega, a2⟩
    · intro h
      refine ⟨⟨fun j hj => ?_, fun x hx => ?_⟩, fun j hj => ?_⟩
      · have := h (j + 1) (by omega)
        simp only [bad, Bool.or_eq_true, Bool.and_eq_true, decide_eq_true_eq, not_or, not_and, Nat.add_sub_cancel] at this
        have a1 := (this.2 (by omega)).1
        rw [getD_pl (show j + 1 < l.length by omega), getD_pl (show j < l.length by omega)] at a1
        simp only [rsP, pps, decide_eq_true_eq]
        simp [show j + 1 < l.length by omega, show j < l.length by omega]
        omega
      · obtain ⟨j, hj, rfl⟩ := List.getElem_of_mem hx
        have := h j hj
        simp only [bad, Bool.or_eq_true, not_or, getD_pl hj] at this
        simpa using this.1
      · have := h (j + 1) (by omega)
        simp only [bad, Bool.or_eq_true, Bool.and_eq_true, decide_eq_true_eq, not_or, not_and, Nat.add_sub_cancel] at this
        have a1 := (this.2 (by omega)).2
        rw [getD_pl (show j + 1 < l.length by omega), getD_pl (show j < l.length by omega)] at a1
        rw [ooo_at (by rw [pbs_len]; omega)]
        simp only [decide_eq_true_eq]
        simpa [pbs] using a1
  rw [← key]
  cases inr n 1 60 <;> simp [Bool.and_assoc]

theorem l01BookAt_ct (x : Pl) (hr : bkRng x.b) : Ct Try.prog 67 [.rp (plA x).cells 1] (bo (vB x.b)) [] := Ct.norm (l01Book_ct x.b hr)
theorem l01UsualAt_ct (x y : Pl) (hx : bkRng x.b) (hy : bkRng y.b) : Ct Try.prog 105 [.rp (plA x).cells 1, .rp (plA y).cells 1] (i64 (uc x.b y.b)) [] := Ct.norm (l01Usual_ct x.b y.b hx hy)

noncomputable def X54 : Fx := ⟨Try.prog, tys, 54, Try.f54, [0]⟩
theorem X54_ok : X54.Ok := ⟨Try.func54, tys_ok⟩
theorem l05Ok_ct (r : Rk) (ex : Bool) (hr : rkOk r) : Ct Try.prog 54 [.rp (rkR ex r).cells 0] (bo (vR r)) [] := by
  have hlen := hr.1.2
  have hpr := hr.1.1
  unfold i16r at hpr
  have hw : IntKind.i64.wrap r.pl = r.pl := wrap_i64 (by omega) (by omega)
  have hw2 : IntKind.i64.wrap (r.pl - 1) = r.pl - 1 := wrap_i64 (by omega) (by omega)
  rw [vR_bad]
  refine Ct.intro X54 X54_ok rfl (by kernel_rfl) rfl rfl fun g hg => ?_
  repeat (refine Run.go rfl ?_)
  refine Run.cs rfl (l05Places_ct r.pl) (by show [i64 _] = _; rw [hw]) rfl ?_
  repeat (refine Run.go rfl ?_)
  refine Run.cond rfl (fun h => ?_) (fun h => ?_)
  · have h : inr r.pl 1 60 = false := by simpa using h
    repeat (refine Run.go rfl ?_)
    refine Run.ret hg rfl ?_
    rw [h]
    rfl
  have hn : inr r.pl 1 60 = true := by simpa using h
  repeat (refine Run.go rfl ?_)
  refine Run.loop (fun j : Nat => ⟨[(0, .rp (rkR ex r).cells 0), (3, i64 j)], []⟩) (fun j => j ≤ r.bs.length ∧ ∀ i, i < j → bad r.pl r.bs i = false) (fun j => r.bs.length - j) 0 ⟨by omega, fun i h => by omega⟩ ?_ ?_
  · exact St.Le.mk' ⟨rfl, rfl, trivial⟩ trivial
  rintro j ⟨hj, hall⟩ IH
  repeat (refine Run.go rfl ?_)
  refine Run.cond rfl (fun h => ?_) (fun h => ?_)
  · have hlt : j < r.bs.length := by simpa using h
    have hxr := hr.2 r.bs[j] (by simp)
    have hxp := hxr.1
    unfold i16r at hxp
    have hwp : IntKind.i64.wrap r.bs[j].p = r.bs[j].p := wrap_i64 (by omega) (by omega)
    have hbadT : bad r.pl r.bs j = true → (inr r.pl 1 60 && !(List.range r.bs.length).any (bad r.pl r.bs)) = false := by
      intro hb
      rw [List.any_eq_true.2 ⟨j, List.mem_range.2 hlt, hb⟩, Bool.not_true, Bool.and_false]
    repeat (refine Run.go rfl ?_)
    refine Run.val rfl rfl rfl (ValOk.idx (plA r.bs[j]) rfl rfl rfl rfl rfl (by omega) (by simp [hlt])) rfl ?_
    repeat (refine Run.go rfl ?_)
    refine Run.cs rfl (l00In_ct r.bs[j].p 0 (r.pl - 1)) (by show [i64 _, i64 _, i64 _] = _; rw [hwp, hw, hw2]) rfl ?_
    repeat (refine Run.go rfl ?_)
    refine Run.bool 39 rfl (fun h1 => ?_) (fun h1 => ?_)
    · have h1 : inr r.bs[j].p 0 (r.pl - 1) = false := by simpa using h1
      repeat (refine Run.go rfl ?_)
      refine Run.cond rfl (fun h => ?_) (fun h => by simp at h)
      repeat (refine Run.go rfl ?_)
      refine Run.ret hg rfl ?_
      rw [hbadT (by rw [bad, getD_pl hlt, vPl, h1]; rfl)]
      rfl
    have h1 : inr r.bs[j].p 0 (r.pl - 1) = true := by simpa using h1
    repeat (refine Run.go rfl ?_)
    refine Run.val rfl rfl rfl (ValOk.idx (plA r.bs[j]) rfl rfl rfl rfl rfl (by omega) (by simp [hlt])) rfl ?_
    repeat (refine Run.go rfl ?_)
    refine Run.cs rfl (l01BookAt_ct r.bs[j] hxr.2) rfl rfl ?_
    repeat (refine Run.go rfl ?_)
    refine Run.cond rfl (fun h => ?_) (fun h2 => ?_)
    · have h : vB r.bs[j].b = false := by simpa using h
      repeat (refine Run.go rfl ?_)
      refine Run.ret hg rfl ?_
      rw [hbadT (by rw [bad, getD_pl hlt, vPl, h1, h]; rfl)]
      rfl
    have h2 : vB r.bs[j].b = true := by simpa using h2
    have hvp : vPl r.pl r.bs[j] = true := by rw [vPl, h1, h2]; rfl
    repeat (refine Run.go rfl ?_)
    refine Run.drawS ⟨[(0, .rp (rkR ex r).cells 0), (3, i64 j), (84, bo (bad r.pl r.bs j))], []⟩ (by kernel_rfl) (by decide +kernel) ?_ ?_
    · repeat (refine Quiet.go rfl ?_)
      refine Quiet.bool 52 rfl (fun h0 => ?_) (fun h0 => ?_)
      · have h0 : 0 < j := by simpa using h0
        have hj1 : j - 1 < r.bs.length := by omega
        have hyr := hr.2 r.bs[j - 1] (by simp)
        have hyp := hyr.1
        unfold i16r at hyp
        have hwy : IntKind.i64.wrap r.bs[j - 1].p = r.bs[j - 1].p := wrap_i64 (by omega) (by omega)
        have hwj : IntKind.i64.wrap ((j : Int) - 1) = (j - 1 : Nat) := by rw [wrap_i64 (by omega) (by omega)]; omega
        have hbd : bad r.pl r.bs j = (decide (r.bs[j].p ≤ r.bs[j - 1].p) || decide (uc r.bs[j].b r.bs[j - 1].b < 0)) := by
          rw [bad, getD_pl hlt, getD_pl hj1, hvp, decide_eq_true h0]
          rfl
        rw [hbd]
        repeat (refine Quiet.go rfl ?_)
        refine Quiet.val rfl rfl (ValOk.idx (m := (j - 1 : Nat)) (plA r.bs[j - 1]) rfl rfl rfl rfl (by show i64 (IntKind.i64.wrap ((j : Int) - 1)) = _; rw [hwj]) (by omega) (by rw [Int.toNat_natCast, List.getElem?_map, List.getElem?_eq_getElem hj1]; rfl)) rfl ?_
        repeat (refine Quiet.go rfl ?_)
        refine Quiet.bool (b := decide (r.bs[j].p ≤ r.bs[j - 1].p)) 65 (by show bo (decide (IntKind.i64.wrap r.bs[j].p ≤ IntKind.i64.wrap r.bs[j - 1].p)) = _; rw [hwp, hwy]) (fun h3 => ?_) (fun h3 => ?_)
        · repeat (refine Quiet.go rfl ?_)
          rw [h3]
          exact Quiet.nil (St.Le.mk' ⟨rfl, rfl, rfl, trivial⟩ trivial)
        · repeat (refine Quiet.go rfl ?_)
          refine Quiet.val rfl rfl (ValOk.idx (plA r.bs[j]) rfl rfl rfl rfl rfl (by omega) (by simp [hlt])) rfl ?_
          repeat (refine Quiet.go rfl ?_)
          refine Quiet.val rfl rfl (ValOk.idx (m := (j - 1 : Nat)) (plA r.bs[j - 1]) rfl rfl rfl rfl (by show i64 (IntKind.i64.wrap ((j : Int) - 1)) = _; rw [hwj]) (by omega) (by rw [Int.toNat_natCast, List.getElem?_map, List.getElem?_eq_getElem hj1]; rfl)) rfl ?_
          repeat (refine Quiet.go rfl ?_)
          refine Quiet.cs rfl rfl rfl rfl rfl (l01UsualAt_ct r.bs[j] r.bs[j - 1] hxr.2 hyr.2) rfl rfl ?_
          repeat (refine Quiet.go rfl ?_)
          rw [h3]
          exact Quiet.nil (St.Le.mk' ⟨rfl, rfl, rfl, trivial⟩ trivial)
      · have h0 : j = 0 := by simp at h0; omega
        subst h0
        repeat (refine Quiet.go rfl ?_)
        refine Quiet.nil (St.Le.mk' ⟨rfl, rfl, ?_, trivial⟩ trivial)
        show bo false = bo _
        rw [bad, getD_pl hlt, hvp]
        rfl
    refine Run.cond rfl (fun h => ?_) (fun h => ?_)
    · repeat (refine Run.go rfl ?_)
      refine Run.ret hg rfl ?_
      rw [hbadT h]
      rfl
    · repeat (refine Run.go rfl ?_)
      refine Run.of (IH (j + 1) ⟨by omega, fun i hi => ?_⟩ (by omega)) ⟨rfl, ?_, trivial⟩ trivial
      · by_cases e : i = j
        · subst e; exact h
        · exact hall i (by omega)
      · show i64 _ = _
        rw [wrap_i64 (by omega) (by omega)]
        rfl
  · have hj' : j = r.bs.length := by simp at h; omega
    subst hj'
    repeat (refine Run.go rfl ?_)
    refine Run.ret hg rfl ?_
    have : (List.range r.bs.length).any (bad r.pl r.bs) = false := by
      rw [List.any_eq_false]
      intro i hi
      rw [hall i (List.mem_range.1 hi)]
      decide
    rw [hn, this]
    rfl

theorem filter_any {l : List Pl} {a : Int} (h : (l.any fun x => x.p == a) = false) : (l.filter fun x => !(x.p == a)) = l := by
  rw [List.filter_eq_self]
  intro x hx
  have := List.any_eq_false.1 h x hx
  simpa using this
theorem filter_lt {l : List Pl} {a : Int} (h : (l.any fun x => x.p == a) = true) : (l.filter fun x => !(x.p == a)).length < l.length := by
  induction l with
  | nil => simp at h
  | cons x r ih =>
    rw [List.any_cons] at h
    rw [List.filter_cons]
    cases hx : (x.p == a) with
    | true =>
      have := List.length_filter_le (fun x : Pl => !(x.p == a)) r
      simp only [Bool.not_true, Bool.false_eq_true, if_false, List.length_cons]
      omega
    | false =>
      rw [hx, Bool.false_or] at h
      have := ih h
      simp only [Bool.not_false, if_true, List.length_cons]
      omega

noncomputable def X25 : Fx := ⟨Try.prog, tys, 25, Try.f25, [1]⟩
theorem X25_ok : X25.Ok := ⟨Try.func25, tys_ok⟩
theorem specTakeBook_ct (r : Rk) (ex : Bool) (a : Int) (hr : rkOk r) : Ct Try.prog 25 [rkR ex r, i64 a] (rkRes (tkRes r a)) [] := by
  have hlen := hr.1.2
  have hpr := hr.1.1
  unfold i16r at hpr
  have hw1 : IntKind.i64.wrap r.pl = r.pl := wrap_i64 (by omega) (by omega)
  have hw2 : IntKind.i64.wrap (r.pl - 1) = r.pl - 1 := wrap_i64 (by omega) (by omega)
  refine Ct.intro X25 X25_ok rfl (by kernel_rfl) rfl rfl fun g hg => ?_
  repeat (refine Run.go rfl ?_)
  refine Run.cs rfl (l05Ok_ct r ex hr) rfl rfl ?_
  repeat (refine Run.go rfl ?_)
  refine Run.cond rfl (fun h => ?_) (fun h => ?_)
  · have h : vR r = false := by simpa using h
    repeat (refine Run.go rfl ?_)
    refine Run.val rfl rfl rfl (ValOk.build rfl rfl rfl rfl rfl) rfl ?_
    repeat (refine Run.go rfl ?_)
    refine Run.nilBox (4, 0) 1 9 false rfl rfl ?_
    refine Run.ret hg rfl ?_
    rw [tkRes, if_neg (by rw [h]; decide)]
    rfl
  have hv : vR r = true := by simpa using h
  repeat (refine Run.go rfl ?_)
  refine Run.cs rfl (l00In_ct a 0 (r.pl - 1)) (by show [i64 _, i64 _, i64 _] = _; rw [hw1, hw2]) rfl ?_
  repeat (refine Run.go rfl ?_)
  refine Run.cond rfl (fun h => ?_) (fun h => ?_)
  · have h : inr a 0 (r.pl - 1) = false := by simpa using h
    repeat (refine Run.go rfl ?_)
    refine Run.val rfl rfl rfl (ValOk.build rfl rfl rfl rfl rfl) rfl ?_
    repeat (refine Run.go rfl ?_)
    refine Run.nilBox (4, 0) 1 9 false rfl rfl ?_
    refine Run.ret hg rfl ?_
    rw [tkRes, if_pos hv, if_neg (by rw [h]; decide)]
    rfl
  have hin : inr a 0 (r.pl - 1) = true := by simpa using h
  repeat (refine Run.go rfl ?_)
  refine Run.val rfl rfl rfl (ValOk.build rfl rfl rfl rfl rfl) rfl ?_
  repeat (refine Run.go rfl ?_)
  refine Run.nilBox (6, 0) 1 9 false rfl rfl ?_
  refine Run.loop (fun j : Nat => ⟨[(1, i64 a), (2, .bp (2, 0) 0), (4, .bp (4, 0) 0), (6, .bp (6, 0) 0), (7, i64 j)], [((2, 0), .box (rkR ex r).cells), ((4, 0), .box [i16 0, .lit (.slice none 0 0)]), ((6, 0), .box [i16 r.pl, .own 9 false (((r.bs.take j).filter fun x => !(x.p == a)).map plA)])]⟩)
    (fun j => j ≤ r.bs.length) (fun j => r.bs.length - j) 0 (by omega) ?_ ?_
  · exact St.Le.mk' ⟨rfl, rfl, rfl, rfl, rfl, trivial⟩ ⟨rfl, rfl, rfl, trivial⟩
  intro j hj IH
  repeat (refine Run.go rfl ?_)
  refine Run.cond rfl (fun h => ?_) (fun h => ?_)
  · have hlt : j < r.bs.length := by simpa using h
    have hxp := (hr.2 r.bs[j] (by simp)).1
    unfold i16r at hxp
    have hwp : IntKind.i64.wrap r.bs[j].p = r.bs[j].p := wrap_i64 (by omega) (by omega)
    have hst : (r.bs.take (j + 1)).filter (fun x => !(x.p == a)) = (r.bs.take j).filter (fun x => !(x.p == a)) ++ (if r.bs[j].p = a then [] else [r.bs[j]]) := by
      rw [List.take_succ_eq_append_getElem hlt, List.filter_append, List.filter_cons, List.filter_nil]
      by_cases e : r.bs[j].p = a <;> simp [e]
    have hDl : ((r.bs.take j).filter (fun x => !(x.p == a))).length ≤ j := by
      refine Nat.le_trans (List.length_filter_le _ _) ?_
      simp
      omega
    generalize (r.bs.take j).filter (fun x => !(x.p == a)) = D0 at hst hDl
    have hDm : (D0.map plA).length = D0.length := List.length_map ..
    repeat (refine Run.go rfl ?_)
    refine Run.val rfl rfl rfl (ValOk.idx (plA r.bs[j]) rfl rfl rfl rfl rfl (by omega) (by simp [hlt])) rfl ?_
    repeat (refine Run.go rfl ?_)
    refine Run.condJ ⟨[(1, i64 a), (2, .bp (2, 0) 0), (4, .bp (4, 0) 0), (6, .bp (6, 0) 0), (7, i64 j)], [((2, 0), .box (rkR ex r).cells), ((4, 0), .box [i16 0, .lit (.slice none 0 0)]), ((6, 0), .box [i16 r.pl, .own 9 false ((D0 ++ (if r.bs[j].p = a then [] else [r.bs[j]])).map plA)])]⟩ rfl (fun h k' hN => ?_) (fun h k' hN => ?_) ?_
    · have h : r.bs[j].p ≠ a := by
        have : (IntKind.i64.wrap r.bs[j].p != a) = true := h
        rw [hwp] at this
        simpa using this
      rw [if_neg h] at hN
      refine Run.unBox (6, 0) 1 (6, 1) rfl rfl rfl (by decide) ?_
      refine Run.le (st' := ⟨[(1, i64 a), (2, .bp (2, 0) 0), (4, .bp (4, 0) 0), (6, .bp (6, 0) 0), (7, i64 j)], [((2, 0), .box (rkR ex r).cells), ((4, 0), .box [i16 0, .lit (.slice none 0 0)]), ((6, 0), .box [i16 r.pl, .vec (6, 1) 0 D0.length]), ((6, 1), .vec 9 false (D0.map plA))]⟩) (St.Le.mk' ⟨rfl, rfl, rfl, rfl, rfl, trivial⟩ ⟨rfl, rfl, ?_, rfl, trivial⟩) ?_
      · show Ob.box [_, AV.vec _ _ (D0.map plA).length] = _
        rw [hDm]
      repeat (refine Run.go rfl ?_)
      refine Run.drawI (fun D => ⟨[(1, i64 a), (2, .bp (2, 0) 0), (4, .bp (4, 0) 0), (6, .bp (6, 0) 0), (7, i64 j), (38, bif D 0 then .bp (6, 0) 1 else .top), (39, bif D 1 then .vec (6, 1) 0 D0.length else .top), (40, bif D 2 then .bp (2, 0) 1 else .top), (41, bif D 3 then .ro 9 ex (r.bs.map plA) else .top), (42, bif D 4 then i64 j else .top), (43, bif D 5 then .rp (plA r.bs[j]).cells 0 else .top), (44, bif D 6 then plA r.bs[j] else .top), (45, bif D 8 then .top else bif D 7 then .own 9 true [plA r.bs[j]] else .top), (46, bif D 10 then .top else bif D 8 then .own 9 false ((D0.map plA) ++ [plA r.bs[j]]) else .top), (47, bif D 9 then .bp (6, 0) 1 else .top)], [((2, 0), Ob.box (rkR ex r).cells), ((4, 0), Ob.box [i16 0, .lit (.slice none 0 0)]), ((6, 0), (bif D 10 then Ob.box [i16 r.pl, .vec (46, 0) 0 ((D0.map plA) ++ [plA r.bs[j]]).length] else Ob.box [i16 r.pl, .vec (6, 1) 0 D0.length])), ((6, 1), (bif D 8 then Ob.gone else Ob.vec 9 false (D0.map plA))), ((46, 0), (bif D 10 then Ob.vec 9 false ((D0.map plA) ++ [plA r.bs[j]]) else Ob.gone))]⟩) (by decide +kernel) (by decide +kernel) ?_ ?_ fun k' => ⟨?_, ?_, ?_, ?_, ?_, ?_, ?_, ?_, ?_, ?_, ?_, trivial⟩
      · exact St.Le.mk' ⟨rfl, rfl, rfl, rfl, rfl, rfl, rfl, rfl, rfl, rfl, rfl, rfl, rfl, rfl, rfl, trivial⟩ ⟨rfl, rfl, rfl, rfl, rfl, trivial⟩
      rotate_left
      · intro D hid h0 hp hs rest hK
        obtain ⟨d1, -⟩ : AllD D false [1] := ideal_sub hs (by decide +kernel)
        simp only [d1, h0, cond_true, cond_false]
        refine Run.go rfl ?_
        refine Run.le ?_ hK
        simp only [d1, h0, Nat.reduceBEq, Bool.false_or, Bool.true_or, cond_true, cond_false]
        exact St.Le.mk' ⟨rfl, rfl, rfl, rfl, rfl, rfl, rfl, rfl, rfl, rfl, rfl, rfl, rfl, rfl, rfl, trivial⟩ ⟨rfl, rfl, rfl, rfl, rfl, trivial⟩
      · intro D hid h0 hp hs rest hK
        obtain ⟨d0, -⟩ : AllD D true [0] := ideal_sub hp (by decide +kernel)
        obtain ⟨d8, -⟩ : AllD D false [8] := ideal_sub hs (by decide +kernel)
        have d10 : D 10 = false := ideal_no (i := 10) (j := 1) hid (by decide +kernel) h0
        simp only [d0, d8, d10, h0, cond_true, cond_false]
        refine Run.go rfl ?_
        refine Run.le ?_ hK
        simp only [d0, d8, d10, h0, Nat.reduceBEq, Bool.false_or, Bool.true_or, cond_true, cond_false]
        exact St.Le.mk' ⟨rfl, rfl, rfl, rfl, rfl, rfl, rfl, rfl, rfl, rfl, rfl, rfl, rfl, rfl, rfl, trivial⟩ ⟨rfl, rfl, rfl, rfl, rfl, trivial⟩
      · intro D hid h0 hp hs rest hK
        obtain ⟨d3, -⟩ : AllD D false [3] := ideal_sub hs (by decide +kernel)
        simp only [d3, h0, cond_true, cond_false]
        refine Run.go rfl ?_
        refine Run.le ?_ hK
        simp only [d3, h0, Nat.reduceBEq, Bool.false_or, Bool.true_or, cond_true, cond_false]
        exact St.Le.mk' ⟨rfl, rfl, rfl, rfl, rfl, rfl, rfl, rfl, rfl, rfl, rfl, rfl, rfl, rfl, rfl, trivial⟩ ⟨rfl, rfl, rfl, rfl, rfl, trivial⟩
      · intro D hid h0 hp hs rest hK
        obtain ⟨d2, -⟩ : AllD D true [2] := ideal_sub hp (by decide +kernel)
        obtain ⟨d5, -⟩ : AllD D false [5] := ideal_sub hs (by decide +kernel)
        simp only [d2, d5, h0, cond_true, cond_false]
        refine Run.go rfl ?_
        refine Run.le ?_ hK
        simp only [d2, d5, h0, Nat.reduceBEq, Bool.false_or, Bool.true_or, cond_true, cond_false]
        exact St.Le.mk' ⟨rfl, rfl, rfl, rfl, rfl, rfl, rfl, rfl, rfl, rfl, rfl, rfl, rfl, rfl, rfl, trivial⟩ ⟨rfl, rfl, rfl, rfl, rfl, trivial⟩
      · intro D hid h0 hp hs rest hK
        obtain ⟨d5, -⟩ : AllD D false [5] := ideal_sub hs (by decide +kernel)
        simp only [d5, h0, cond_true, cond_false]
        refine Run.go rfl ?_
        refine Run.le ?_ hK
        simp only [d5, h0, Nat.reduceBEq, Bool.false_or, Bool.true_or, cond_true, cond_false]
        exact St.Le.mk' ⟨rfl, rfl, rfl, rfl, rfl, rfl, rfl, rfl, rfl, rfl, rfl, rfl, rfl, rfl, rfl, trivial⟩ ⟨rfl, rfl, rfl, rfl, rfl, trivial⟩
      · intro D hid h0 hp hs rest hK
        obtain ⟨d3, d4, -⟩ : AllD D true [3, 4] := ideal_sub hp (by decide +kernel)
        obtain ⟨d6, -⟩ : AllD D false [6] := ideal_sub hs (by decide +kernel)
        simp only [d3, d4, d6, h0, cond_true, cond_false]
        refine Run.val rfl rfl rfl (ValOk.idx (plA r.bs[j]) rfl rfl rfl rfl rfl (by omega) (by simp [hlt])) rfl ?_
        refine Run.le ?_ hK
        simp only [d3, d4, d6, h0, Nat.reduceBEq, Bool.false_or, Bool.true_or, cond_true, cond_false]
        exact St.Le.mk' ⟨rfl, rfl, rfl, rfl, rfl, rfl, rfl, rfl, rfl, rfl, rfl, rfl, rfl, rfl, rfl, trivial⟩ ⟨rfl, rfl, rfl, rfl, rfl, trivial⟩
      · intro D hid h0 hp hs rest hK
        obtain ⟨d5, -⟩ : AllD D true [5] := ideal_sub hp (by decide +kernel)
        obtain ⟨d7, -⟩ : AllD D false [7] := ideal_sub hs (by decide +kernel)
        simp only [d5, d7, h0, cond_true, cond_false]
        refine Run.go rfl ?_
        refine Run.le ?_ hK
        simp only [d5, d7, h0, Nat.reduceBEq, Bool.false_or, Bool.true_or, cond_true, cond_false]
        exact St.Le.mk' ⟨rfl, rfl, rfl, rfl, rfl, rfl, rfl, rfl, rfl, rfl, rfl, rfl, rfl, rfl, rfl, trivial⟩ ⟨rfl, rfl, rfl, rfl, rfl, trivial⟩
      · intro D hid h0 hp hs rest hK
        obtain ⟨d6, -⟩ : AllD D true [6] := ideal_sub hp (by decide +kernel)
        obtain ⟨d8, -⟩ : AllD D false [8] := ideal_sub hs (by decide +kernel)
        simp only [d6, d8, h0, cond_true, cond_false]
        refine Run.buildSlice [plA r.bs[j]] rfl rfl rfl rfl rfl rfl rfl rfl rfl rfl rfl rfl rfl rfl ?_
        refine Run.le ?_ hK
        simp only [d6, d8, h0, Nat.reduceBEq, Bool.false_or, Bool.true_or, cond_true, cond_false]
        exact St.Le.mk' ⟨rfl, rfl, rfl, rfl, rfl, rfl, rfl, rfl, rfl, rfl, rfl, rfl, rfl, rfl, rfl, trivial⟩ ⟨rfl, rfl, rfl, rfl, rfl, trivial⟩
      · intro D hid h0 hp hs rest hK
        obtain ⟨d1, d7, -⟩ : AllD D true [1, 7] := ideal_sub hp (by decide +kernel)
        obtain ⟨d10, -⟩ : AllD D false [10] := ideal_sub hs (by decide +kernel)
        simp only [d1, d7, d10, h0, cond_true, cond_false]
        refine Run.appendo (id := (6, 1)) rfl rfl rfl rfl rfl rfl rfl rfl rfl rfl rfl rfl hDm.symm rfl (by rw [hDm]; show (_ + 1) * 16 ≤ _; omega) (by rw [hDm]; show _ + 1 ≤ 9223372036854775807; omega) (by decide) rfl ?_
        refine Run.le ?_ hK
        simp only [d1, d7, d10, h0, Nat.reduceBEq, Bool.false_or, Bool.true_or, cond_true, cond_false]
        exact St.Le.mk' ⟨rfl, rfl, rfl, rfl, rfl, rfl, rfl, rfl, rfl, rfl, rfl, rfl, rfl, rfl, rfl, trivial⟩ ⟨rfl, rfl, rfl, rfl, rfl, trivial⟩
      · intro D hid h0 hp hs rest hK
        obtain ⟨d10, -⟩ : AllD D false [10] := ideal_sub hs (by decide +kernel)
        simp only [d10, h0, cond_true, cond_false]
        refine Run.go rfl ?_
        refine Run.le ?_ hK
        simp only [d10, h0, Nat.reduceBEq, Bool.false_or, Bool.true_or, cond_true, cond_false]
        exact St.Le.mk' ⟨rfl, rfl, rfl, rfl, rfl, rfl, rfl, rfl, rfl, rfl, rfl, rfl, rfl, rfl, rfl, trivial⟩ ⟨rfl, rfl, rfl, rfl, rfl, trivial⟩
      · intro D hid h0 hp hs rest hK
        obtain ⟨d8, d9, -⟩ : AllD D true [8, 9] := ideal_sub hp (by decide +kernel)
        have d1 : D 1 = true := hid 8 1 (by decide +kernel) (by decide +kernel) d8
        have d7 : D 7 = true := hid 8 7 (by decide +kernel) (by decide +kernel) d8
        have d6 : D 6 = true := hid 7 6 (by decide +kernel) (by decide +kernel) d7
        have d5 : D 5 = true := hid 6 5 (by decide +kernel) (by decide +kernel) d6
        have d3 : D 3 = true := hid 5 3 (by decide +kernel) (by decide +kernel) d5
        have d4 : D 4 = true := hid 5 4 (by decide +kernel) (by decide +kernel) d5
        have d2 : D 2 = true := hid 3 2 (by decide +kernel) (by decide +kernel) d3
        have d0 : D 0 = true := hid 1 0 (by decide +kernel) (by decide +kernel) d1
        simp only [d8, d9, d1, d7, d6, d5, d3, d4, d2, d0, h0, cond_true, cond_false]
        refine Run.unpack 46 rfl rfl ?_
        refine Run.go rfl ?_
        refine Run.forget 46 ?_
        refine Run.le ?_ hK
        simp only [d8, d9, d1, d7, d6, d5, d3, d4, d2, d0, h0, Nat.reduceBEq, Bool.false_or, Bool.true_or, cond_true, cond_false]
        exact St.Le.mk' ⟨rfl, rfl, rfl, rfl, rfl, rfl, rfl, rfl, rfl, rfl, rfl, rfl, rfl, rfl, rfl, trivial⟩ ⟨rfl, rfl, rfl, rfl, rfl, trivial⟩
      · repeat (refine Run.go rfl ?_)
        refine Run.packBox (6, 0) 1 rfl rfl rfl rfl ?_
        refine Run.of hN ⟨rfl, rfl, rfl, rfl, rfl, trivial⟩ ⟨rfl, rfl, ?_, trivial⟩
        show Ob.box [_, AV.own _ _ _] = Ob.box [_, AV.own _ _ _]
        rw [List.map_append]
        rfl
    · have h : r.bs[j].p = a := by
        have : (IntKind.i64.wrap r.bs[j].p != a) = false := h
        rw [hwp] at this
        simpa using this
      rw [if_pos h, List.append_nil] at hN
      repeat (refine Run.go rfl ?_)
      exact Run.of hN ⟨rfl, rfl, rfl, rfl, rfl, trivial⟩ ⟨rfl, rfl, rfl, trivial⟩
    repeat (refine Run.go rfl ?_)
    refine Run.of (IH (j + 1) (by omega) (by omega)) ⟨rfl, rfl, rfl, rfl, ?_, trivial⟩ ⟨rfl, rfl, ?_, trivial⟩
    · show i64 _ = _
      rw [wrap_i64 (by omega) (by omega)]
      rfl
    · rw [hst]
      rfl
  · have hj' : j = r.bs.length := by simp at h; omega
    subst hj'
    rw [List.take_length]
    have hfl := List.length_filter_le (fun x : Pl => !(x.p == a)) r.bs
    refine Run.unBox (6, 0) 1 (6, 1) rfl rfl rfl (by decide) ?_
    repeat (refine Run.go rfl ?_)
    refine Run.cond rfl (fun h => ?_) (fun h => ?_)
    · have h : (r.bs.filter fun x => !(x.p == a)).length = r.bs.length := by
        have h2 : ((((r.bs.filter fun x => !(x.p == a)).map plA).length : Int) == ((r.bs.map plA).length : Nat)) = true := h
        rw [List.length_map, List.length_map, beq_iff_eq] at h2
        omega
      have hany : (r.bs.any fun x => x.p == a) = false := by
        cases hx : (r.bs.any fun x => x.p == a) with
        | false => rfl
        | true => have := filter_lt hx; omega
      repeat (refine Run.go rfl ?_)
      refine Run.val rfl rfl rfl (ValOk.build rfl rfl rfl rfl rfl) rfl ?_
      repeat (refine Run.go rfl ?_)
      refine Run.nilBox (4, 0) 1 9 false rfl rfl ?_
      refine Run.ret hg rfl ?_
      rw [tkRes, if_pos hv, if_pos hin, if_neg (by rw [hany]; decide)]
      rfl
    · have h : ¬ (r.bs.filter fun x => !(x.p == a)).length = r.bs.length := by
        have h2 : ((((r.bs.filter fun x => !(x.p == a)).map plA).length : Int) == ((r.bs.map plA).length : Nat)) = false := h
        rw [List.length_map, List.length_map, beq_eq_false_iff_ne] at h2
        omega
      have hany : (r.bs.any fun x => x.p == a) = true := by
        cases hx : (r.bs.any fun x => x.p == a) with
        | true => rfl
        | false => exact absurd (by rw [filter_any hx]) h
      repeat (refine Run.go rfl ?_)
      refine Run.packBox (4, 0) 1 rfl rfl rfl (by simp) ?_
      refine Run.ret hg rfl ?_
      rw [tkRes, if_pos hv, if_pos hin, if_pos hany]
      rfl
end Go.Proofs.Ytlaabifehcfllaa
