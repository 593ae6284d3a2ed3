/- Contracts of the program's functions, and what follows from them. -/
import Derived.Test.YtofakfkmglmhoaaGreatK1
import Derived.Test.YtofakfkmglmhoaaGreatME
set_option linter.unusedVariables false
set_option maxRecDepth 100000
set_option linter.unusedSimpArgs false
namespace Go.Proofs.YtofakfkmglmhoaaGreat
open Go Go.Av

/-! Racks: valid ones; a book is taken out. -/

def plRng (x : Pl) : Prop := i16r x.p ∧ bkRng x.b
def rkOk (r : Rk) : Prop := (i16r r.pl ∧ r.bs.length ≤ 1048576) ∧ ∀ x ∈ r.bs, plRng x
def pps (l : List Pl) : List Int := l.map (·.p)
def pbs (l : List Pl) : List Bk := l.map (·.b)
def vPl (n : Int) (x : Pl) : Bool := inr x.p 0 (n - 1) && vB x.b
def vR (r : Rk) : Bool := inr r.pl 1 60 && rs (pps r.bs) && r.bs.all (vPl r.pl) && srt (pbs r.bs)
def rk0 : Rk := ⟨0, []⟩
theorem pbs_len (l : List Pl) : (pbs l).length = l.length := List.length_map ..
theorem pps_len (l : List Pl) : (pps l).length = l.length := List.length_map ..

noncomputable def X49 : Fx := ⟨Tryz.prog, tys, 49, Tryz.f49, [0]⟩
theorem X49_ok : X49.Ok := ⟨Tryz.func49, tys_ok⟩
theorem place_ct (x : Pl) (h : i16r x.p) : Ct Tryz.prog 49 [plA x] (i64 x.p) [] := by
  have hw : IntKind.i64.wrap x.p = x.p := wrap_i64 (by unfold i16r at h; omega) (by unfold i16r at h; omega)
  refine Ct.intro X49 X49_ok rfl rfl rfl rfl fun g hg => ?_
  repeat (refine Run.go rfl ?_)
  refine Run.ret hg rfl ?_
  show i64 _ = _
  rw [hw]

noncomputable def X80 : Fx := ⟨Tryz.prog, tys, 80, Tryz.f80, [0]⟩
theorem X80_ok : X80.Ok := ⟨Tryz.func80, tys_ok⟩
theorem bookOf_ct (x : Pl) : Ct Tryz.prog 80 [plA x] (bkA x.b) [] := by
  refine Ct.intro X80 X80_ok rfl rfl rfl rfl fun g hg => ?_
  repeat (refine Run.go rfl ?_)
  exact Run.ret hg rfl rfl

noncomputable def X48 : Fx := ⟨Tryz.prog, tys, 48, Tryz.f48, [1]⟩
theorem X48_ok : X48.Ok := ⟨Tryz.func48, tys_ok⟩
theorem eachPI_ct (L : List Pl) (ex : Bool) (f : Nat) (F : Pl → Int) (hlen : L.length ≤ 1048576) (hf : ∀ x ∈ L, Ct Tryz.prog f [plA x] (i64 (F x)) []) : Ct Tryz.prog 48 [.ro 9 ex (L.map plA), .fn f []] (.own 1 false ((L.map F).map i64)) [] := by
  refine Ct.intro X48 X48_ok rfl (by kernel_rfl) rfl rfl fun g hg => ?_
  repeat (refine Run.go rfl ?_)
  refine Run.nilSlot 5 1 false rfl ?_
  refine Run.loop (fun j : Nat => ⟨[(1, .fn f []), (5, .own 1 false (((L.take j).map F).map i64)), (8, .ro 9 ex (L.map plA)), (9, i64 L.length), (10, i64 j)], []⟩) (fun j => j ≤ L.length) (fun j => L.length - j) 0 (by omega) ?_ ?_
  · refine St.Le.mk' ⟨rfl, rfl, rfl, ?_, rfl, trivial⟩ trivial
    show i64 _ = _
    simp
  intro j hj IH
  repeat (refine Run.go rfl ?_)
  refine Run.cond rfl (fun h => ?_) (fun h => ?_)
  · have hlt : j < L.length := by simpa using h
    repeat (refine Run.go rfl ?_)
    refine Run.val rfl rfl rfl (ValOk.idx (plA L[j]) rfl rfl rfl rfl rfl (by omega) (by simp [hlt])) rfl ?_
    repeat (refine Run.go rfl ?_)
    refine Run.cs rfl (hf L[j] (by simp)) rfl rfl ?_
    refine Run.buildSlice [i64 (F L[j])] rfl rfl rfl rfl rfl rfl rfl rfl rfl rfl rfl rfl rfl rfl ?_
    refine Run.appendo rfl rfl rfl rfl rfl rfl rfl rfl rfl rfl rfl rfl rfl rfl (by show (_ + 1) * 8 ≤ _; simp; omega) (by simp [capMax]; omega) (by decide) rfl ?_
    repeat (refine Run.go rfl ?_)
    refine Run.of (IH (j + 1) (by omega) (by omega)) ⟨rfl, ?_, rfl, rfl, ?_, trivial⟩ trivial
    · rw [List.take_succ_eq_append_getElem hlt, List.map_append, List.map_append]
      rfl
    · show i64 _ = _
      rw [wrap_i64 (by omega) (by omega)]
      rfl
  · have hj' : j = L.length := by simp at h; omega
    subst hj'
    repeat (refine Run.go rfl ?_)
    refine Run.pack 4 rfl rfl rfl ?_
    refine Run.ret hg rfl ?_
    rw [List.take_length]
    rfl

noncomputable def X79 : Fx := ⟨Tryz.prog, tys, 79, Tryz.f79, [1]⟩
theorem X79_ok : X79.Ok := ⟨Tryz.func79, tys_ok⟩
theorem eachPB_ct (L : List Pl) (ex : Bool) (f : Nat) (hlen : L.length ≤ 1048576) (hf : ∀ x ∈ L, Ct Tryz.prog f [plA x] (bkA x.b) []) : Ct Tryz.prog 79 [.ro 9 ex (L.map plA), .fn f []] (.own 8 false ((pbs L).map bkA)) [] := by
  refine Ct.intro X79 X79_ok rfl (by kernel_rfl) rfl rfl fun g hg => ?_
  repeat (refine Run.go rfl ?_)
  refine Run.nilSlot 5 8 false rfl ?_
  refine Run.loop (fun j : Nat => ⟨[(1, .fn f []), (5, .own 8 false ((pbs (L.take j)).map bkA)), (8, .ro 9 ex (L.map plA)), (9, i64 L.length), (10, i64 j)], []⟩) (fun j => j ≤ L.length) (fun j => L.length - j) 0 (by omega) ?_ ?_
  · refine St.Le.mk' ⟨rfl, rfl, rfl, ?_, rfl, trivial⟩ trivial
    show i64 _ = _
    simp
  intro j hj IH
  repeat (refine Run.go rfl ?_)
  refine Run.cond rfl (fun h => ?_) (fun h => ?_)
  · have hlt : j < L.length := by simpa using h
    have hpl : (pbs (L.take j)).length ≤ j := by rw [pbs_len]; simp; omega
    have hst : pbs (L.take (j + 1)) = pbs (L.take j) ++ [L[j].b] := by
      rw [pbs, List.take_succ_eq_append_getElem hlt, List.map_append]
      rfl
    generalize pbs (L.take j) = D at hpl hst
    repeat (refine Run.go rfl ?_)
    refine Run.val rfl rfl rfl (ValOk.idx (plA L[j]) rfl rfl rfl rfl rfl (by omega) (by simp [hlt])) rfl ?_
    repeat (refine Run.go rfl ?_)
    refine Run.cs rfl (hf L[j] (by simp)) rfl rfl ?_
    refine Run.buildSlice [bkA L[j].b] rfl rfl rfl rfl rfl rfl rfl rfl rfl rfl rfl rfl rfl rfl ?_
    refine Run.appendo rfl rfl rfl rfl rfl rfl rfl rfl rfl rfl rfl rfl rfl rfl (by show (_ + 1) * 14 ≤ _; simp; omega) (by simp [capMax]; omega) (by decide) rfl ?_
    repeat (refine Run.go rfl ?_)
    refine Run.of (IH (j + 1) (by omega) (by omega)) ⟨rfl, ?_, rfl, rfl, ?_, trivial⟩ trivial
    · rw [hst, List.map_append]
      rfl
    · show i64 _ = _
      rw [wrap_i64 (by omega) (by omega)]
      rfl
  · have hj' : j = L.length := by simp at h; omega
    subst hj'
    repeat (refine Run.go rfl ?_)
    refine Run.pack 4 rfl rfl rfl ?_
    refine Run.ret hg rfl ?_
    rw [List.take_length]
    rfl

noncomputable def X44 : Fx := ⟨Tryz.prog, tys, 44, Tryz.f44, [0]⟩
theorem X44_ok : X44.Ok := ⟨Tryz.func44, tys_ok⟩
theorem rkBooks_ct (r : Rk) (ex : Bool) (hlen : r.bs.length ≤ 1048576) : Ct Tryz.prog 44 [rkR ex r] (.own 8 false ((pbs r.bs).map bkA)) [] := by
  refine Ct.intro X44 X44_ok rfl rfl rfl rfl fun g hg => ?_
  repeat (refine Run.go rfl ?_)
  refine Run.cs rfl (eachPB_ct r.bs ex _ hlen fun x _ => bookOf_ct x) rfl (rfB _) ?_
  repeat (refine Run.go rfl ?_)
  exact Run.ret hg rfl rfl

noncomputable def X92 : Fx := ⟨Tryz.prog, tys, 92, Tryz.f92, [0, 1]⟩
theorem X92_ok : X92.Ok := ⟨Tryz.func92, tys_ok⟩
theorem indexP_ct (l : List Pl) (ex : Bool) (f : Nat) (caps : List AV) (p : Pl → Bool) (hlen : l.length ≤ 1048576) (hc : AV.freeL caps = true)
    (hf : ∀ x ∈ l, Ct Tryz.prog f ([plA x] ++ caps) (bo (p x)) []) : Ct Tryz.prog 92 [.ro 9 ex (l.map plA), .fn f caps] (i64 (fi p l)) [] := by
  refine Ct.intro X92 X92_ok rfl (by kernel_rfl) rfl rfl fun g hg => ?_
  repeat (refine Run.step rfl ?_)
  refine Run.loop (fun j : Nat => ⟨[(0, .ro 9 ex (l.map plA)), (1, .fn f caps), (7, i64 l.length), (8, i64 j)], []⟩) (fun j => j ≤ l.length ∧ j ≤ l.findIdx p) (fun j => l.length - j) 0 ⟨by omega, by omega⟩ ?_ ?_
  · refine St.Le.mk' ⟨rfl, rfl, ?_, rfl, trivial⟩ trivial
    show i64 _ = _
    simp
  · rintro j ⟨hj1, hj2⟩ IH
    repeat (refine Run.step rfl ?_)
    refine Run.cond rfl (fun h => ?_) (fun h => ?_)
    · have hlt : j < l.length := by simpa using h
      repeat (refine Run.step rfl ?_)
      refine Run.val rfl rfl rfl (ValOk.idx (plA l[j]) rfl rfl rfl rfl rfl (by omega) (by simp [hlt])) rfl ?_
      repeat (refine Run.step rfl ?_)
      refine Run.callp rfl rfl rfl rfl rfl rfl rfl hc rfl (hf l[j] (by simp)) (by decide) (by decide) ?_
      repeat (refine Run.step rfl ?_)
      refine Run.cond rfl (fun h => ?_) (fun h => ?_)
      · repeat (refine Run.step rfl ?_)
        refine Run.ret hg rfl ?_
        show i64 _ = _
        rw [fi_at hlt h hj2]
      · repeat (refine Run.step rfl ?_)
        refine Run.of (IH (j + 1) ⟨by omega, fi_next hlt h hj2⟩ (by omega)) ⟨rfl, rfl, rfl, ?_, trivial⟩ trivial
        show i64 _ = _
        rw [wrap_i64 (by omega) (by omega)]
        rfl
    · repeat (refine Run.step rfl ?_)
      have hj : j = l.length := by simp at h; omega
      refine Run.ret hg rfl ?_
      show i64 (-1) = _
      rw [fi_none (by omega)]

noncomputable def X81 : Fx := ⟨Tryz.prog, tys, 81, Tryz.f81, [0, 1]⟩
theorem X81_ok : X81.Ok := ⟨Tryz.func81, tys_ok⟩
theorem containsP_ct (l : List Pl) (ex : Bool) (f : Nat) (caps : List AV) (p : Pl → Bool) (hlen : l.length ≤ 1048576) (hc : AV.freeL caps = true)
    (hf : ∀ x ∈ l, Ct Tryz.prog f ([plA x] ++ caps) (bo (p x)) []) : Ct Tryz.prog 81 [.ro 9 ex (l.map plA), .fn f caps] (bo (l.any p)) [] := by
  refine Ct.intro X81 X81_ok rfl (by kernel_rfl) rfl rfl fun g hg => ?_
  repeat (refine Run.go rfl ?_)
  refine Run.callp rfl rfl rfl rfl rfl rfl (by simp [AV.freeL, AV.free, hc]) rfl rfl (indexP_ct l ex f caps p hlen hc hf) (by decide) (by decide) ?_
  repeat (refine Run.go rfl ?_)
  refine Run.ret hg rfl ?_
  show bo _ = _
  rw [← fi_nonneg]

noncomputable def X82 : Fx := ⟨Tryz.prog, tys, 82, Tryz.f82, [0, 1]⟩
theorem X82_ok : X82.Ok := ⟨Tryz.func82, tys_ok⟩
theorem areAllP1_ct (c : Pl) (f : Nat) (cs : List AV) (jj : Nat) (p : Bool) (hf : Ct Tryz.prog f [plA c, .rp cs jj] (bo p) []) : Ct Tryz.prog 82 [plA c, .rp [.fn f [.rp cs jj]] 0] (bo (!p)) [] := by
  refine Ct.intro X82 X82_ok rfl (by kernel_rfl) rfl rfl fun g hg => ?_
  repeat (refine Run.go rfl ?_)
  refine Run.cs rfl hf rfl rfl ?_
  repeat (refine Run.go rfl ?_)
  exact Run.ret hg rfl rfl

noncomputable def X50 : Fx := ⟨Tryz.prog, tys, 50, Tryz.f50, [0, 1]⟩
theorem X50_ok : X50.Ok := ⟨Tryz.func50, tys_ok⟩
theorem areAllP_ct (l : List Pl) (ex : Bool) (f : Nat) (cs : List AV) (jj : Nat) (p : Pl → Bool) (hlen : l.length ≤ 1048576) (hf : ∀ x ∈ l, Ct Tryz.prog f [plA x, .rp cs jj] (bo (p x)) []) :
    Ct Tryz.prog 50 [.ro 9 ex (l.map plA), .fn f [.rp cs jj]] (bo (l.all p)) [] := by
  refine Ct.intro X50 X50_ok rfl (by kernel_rfl) rfl rfl fun g hg => ?_
  repeat (refine Run.go rfl ?_)
  refine Run.cs rfl (containsP_ct l ex 82 [.rp [.fn f [.rp cs jj]] 0] (fun x => !p x) hlen rfl (fun x hx => areAllP1_ct x f cs jj (p x) (hf x hx))) rfl rfl ?_
  repeat (refine Run.go rfl ?_)
  refine Run.ret hg rfl ?_
  show bo (!l.any fun x => !p x) = _
  congr 2
  simp [List.all_eq_not_any_not]

noncomputable def X68 : Fx := ⟨Tryz.prog, tys, 68, Tryz.f68, [0, 1]⟩
theorem X68_ok : X68.Ok := ⟨Tryz.func68, tys_ok⟩
theorem firstOfP_ct (L : List Pl) (ex : Bool) (f : Nat) (caps : List AV) (p : Pl → Bool) (hlen : L.length ≤ 1048576) (hc : AV.freeL caps = true) (hf : ∀ x ∈ L, Ct Tryz.prog f ([plA x] ++ caps) (bo (p x)) []) :
    Ct Tryz.prog 68 [.ro 9 ex (L.map plA), .fn f caps] (i64 (if 0 ≤ fi p L then fi p L else (L.length : Int))) [] := by
  refine Ct.intro X68 X68_ok rfl (by kernel_rfl) rfl rfl fun g hg => ?_
  repeat (refine Run.go rfl ?_)
  refine Run.callp rfl rfl rfl rfl rfl rfl (by simp [AV.freeL, AV.free, hc]) rfl rfl (indexP_ct L ex f caps p hlen hc hf) (by decide) (by decide) ?_
  repeat (refine Run.go rfl ?_)
  refine Run.cond rfl (fun h => ?_) (fun h => ?_)
  · have h : 0 ≤ fi p L := of_decide_eq_true h
    repeat (refine Run.go rfl ?_)
    refine Run.ret hg rfl ?_
    rw [if_pos h]
    rfl
  · have h : ¬ 0 ≤ fi p L := of_decide_eq_false h
    repeat (refine Run.go rfl ?_)
    refine Run.ret hg rfl ?_
    rw [if_neg h]
    show i64 ((L.map plA).length : Int) = _
    rw [List.length_map]

noncomputable def X51 : Fx := ⟨Tryz.prog, tys, 51, Tryz.f51, [0, 1]⟩
theorem X51_ok : X51.Ok := ⟨Tryz.func51, tys_ok⟩
theorem validRack1_ct (x : Pl) (r : Rk) (ex : Bool) (hn : 1 ≤ r.pl ∧ r.pl ≤ 60) : Ct Tryz.prog 51 [plA x, .rp (rkR ex r).cells 0] (bo (vPl r.pl x)) [] := by
  have hw : IntKind.i16.wrap (r.pl - 1) = r.pl - 1 := wrap_i16 (by omega) (by omega)
  refine Ct.intro X51 X51_ok rfl (by kernel_rfl) rfl rfl fun g hg => ?_
  repeat (refine Run.go rfl ?_)
  refine Run.cs rfl (within16_ct x.p 0 (r.pl - 1)) (by show [i16 _, i16 _, i16 _] = _; rw [hw]) rfl ?_
  repeat (refine Run.go rfl ?_)
  refine Run.bool 10 rfl (fun h => ?_) (fun h => ?_)
  · repeat (refine Run.go rfl ?_)
    refine Run.cs rfl (validBook_ct x.b) rfl rfl ?_
    repeat (refine Run.go rfl ?_)
    refine Run.ret hg rfl ?_
    show bo _ = bo _
    rw [vPl, h, Bool.true_and]
  · repeat (refine Run.go rfl ?_)
    refine Run.ret hg rfl ?_
    show bo _ = bo _
    rw [vPl, h, Bool.false_and]

noncomputable def X16 : Fx := ⟨Tryz.prog, tys, 16, Tryz.f16, [0]⟩
theorem X16_ok : X16.Ok := ⟨Tryz.func16, tys_ok⟩
theorem implValidRack_ct (r : Rk) (ex : Bool) (hr : rkOk r) : Ct Tryz.prog 16 [rkR ex r] (bo (vR r)) [] := by
  have hlen := hr.1.2
  refine Ct.intro X16 X16_ok rfl (by kernel_rfl) rfl rfl fun g hg => ?_
  repeat (refine Run.go rfl ?_)
  refine Run.cs rfl (within16_ct r.pl 1 60) rfl rfl ?_
  repeat (refine Run.go rfl ?_)
  refine Run.bool 6 rfl (fun h1 => ?_) (fun h1 => ?_)
  · have hn : 1 ≤ r.pl ∧ r.pl ≤ 60 := by simpa [inr] using h1
    repeat (refine Run.go rfl ?_)
    refine Run.cs rfl (eachPI_ct r.bs ex _ (·.p) hlen fun x hx => place_ct x (hr.2 x hx).1) rfl (rf64 _) ?_
    repeat (refine Run.go rfl ?_)
    refine Run.cs rfl (rises_ct (pps r.bs) false (by rw [pps_len]; exact hlen)) (by rw [frz64]; rfl) rfl ?_
    repeat (refine Run.go rfl ?_)
    refine Run.bool 12 rfl (fun h2 => ?_) (fun h2 => ?_)
    · repeat (refine Run.go rfl ?_)
      refine Run.cs rfl (areAllP_ct r.bs ex _ (rkR ex r).cells 0 (vPl r.pl) hlen fun x _ => validRack1_ct x r ex hn) rfl rfl ?_
      repeat (refine Run.go rfl ?_)
      refine Run.bool 18 rfl (fun h3 => ?_) (fun h3 => ?_)
      · repeat (refine Run.go rfl ?_)
        refine Run.cs rfl (rkBooks_ct r ex hlen) rfl (rfB _) ?_
        repeat (refine Run.go rfl ?_)
        refine Run.cs rfl (isSorted_ct (pbs r.bs) false (by rw [pbs_len]; exact hlen)) (by rw [frzB]) rfl ?_
        repeat (refine Run.go rfl ?_)
        refine Run.ret hg rfl ?_
        show bo _ = bo _
        rw [vR, h1, h2, h3]
        rfl
      · repeat (refine Run.go rfl ?_)
        refine Run.ret hg rfl ?_
        show bo _ = bo _
        rw [vR, h3, Bool.and_false, Bool.false_and]
    · repeat (refine Run.go rfl ?_)
      refine Run.ret hg rfl ?_
      show bo _ = bo _
      rw [vR, h2, Bool.and_false, Bool.false_and, Bool.false_and]
  · repeat (refine Run.go rfl ?_)
    refine Run.ret hg rfl ?_
    show bo _ = bo _
    rw [vR, h1, Bool.false_and, Bool.false_and, Bool.false_and]

noncomputable def X65 : Fx := ⟨Tryz.prog, tys, 65, Tryz.f65, [0]⟩
theorem X65_ok : X65.Ok := ⟨Tryz.func65, tys_ok⟩
theorem clonePl_ct (a : List Pl) (e1 : Bool) (ha : a.length ≤ 1048576) : Ct Tryz.prog 65 [.ro 9 e1 (a.map plA)] (.own 9 false (a.map plA)) [] := by
  refine Ct.intro X65 X65_ok rfl (by kernel_rfl) rfl rfl fun g hg => ?_
  repeat (refine Run.go rfl ?_)
  refine Run.roNil rfl rfl rfl rfl rfl rfl rfl rfl fun b hb => ?_
  repeat (refine Run.go rfl ?_)
  refine Run.cond rfl (fun h => ?_) (fun h => ?_)
  · have hn := hb h
    repeat (refine Run.go rfl ?_)
    refine Run.nilSlot 2 9 false rfl ?_
    refine Run.ret hg rfl ?_
    rw [hn]
    rfl
  · repeat (refine Run.go rfl ?_)
    refine Run.buildSlice [] rfl rfl rfl rfl rfl rfl rfl rfl rfl rfl rfl rfl rfl rfl ?_
    refine Run.unpack 5 rfl rfl ?_
    repeat (refine Run.go rfl ?_)
    refine Run.appendr rfl rfl rfl rfl rfl rfl rfl rfl rfl rfl rfl rfl rfl (one_pl a) (by show (_ + _) * 16 ≤ _; simp; omega) (by simp [capMax]; omega) rfl ?_
    repeat (refine Run.go rfl ?_)
    exact Run.ret hg rfl rfl

noncomputable def X30 : Fx := ⟨Tryz.prog, tys, 30, Tryz.f30, [0]⟩
theorem X30_ok : X30.Ok := ⟨Tryz.func30, tys_ok⟩
theorem rkOwn_ct (r : Rk) (ex : Bool) (hlen : r.bs.length ≤ 1048576) : Ct Tryz.prog 30 [rkR ex r] (rkO false r) [] := by
  refine Ct.intro X30 X30_ok rfl (by kernel_rfl) rfl rfl fun g hg => ?_
  repeat (refine Run.go rfl ?_)
  refine Run.drawn [[0, 1, 2, 3, 4, 5, 6], [0, 2, 1, 3, 4, 5, 6], [0, 2, 3, 1, 4, 5, 6], [0, 2, 3, 4, 1, 5, 6], [2, 0, 1, 3, 4, 5, 6], [2, 0, 3, 1, 4, 5, 6], [2, 0, 3, 4, 1, 5, 6], [2, 3, 0, 1, 4, 5, 6], [2, 3, 0, 4, 1, 5, 6], [2, 3, 4, 0, 1, 5, 6]]
    ⟨[(2, .bp (2, 0) 0)], [((2, 0), .box [i16 r.pl, .own 9 false (r.bs.map plA)])]⟩ (by decide +kernel) (by kernel_rfl) ?_ fun _ hN => ⟨?_, ?_, ?_, ?_, ?_, ?_, ?_, ?_, ?_, ?_, trivial⟩
  rotate_left
  iterate 10
    · repeat (refine Run.go rfl ?_)
      refine Run.cs rfl (clonePl_ct r.bs ex hlen) rfl (rfP _) ?_
      refine Run.unpack 7 rfl rfl ?_
      repeat (refine Run.go rfl ?_)
      refine Run.val rfl rfl rfl (ValOk.build rfl rfl rfl rfl rfl) rfl ?_
      repeat (refine Run.go rfl ?_)
      refine Run.packBox (2, 0) 1 rfl rfl rfl rfl ?_
      exact Run.of hN ⟨rfl, trivial⟩ ⟨rfl, trivial⟩
  exact Run.ret hg rfl rfl

/-! Which places are taken. -/

theorem rfBo (l : List Bool) : AV.rfL (l.map bof) = true := rfL_map (fun _ => rfl) l

def tk (l : List Pl) (n : Nat) : List Bool := (List.range n).map fun i : Nat => l.any fun x => x.p == (i : Int)
theorem tk_len (l : List Pl) (n : Nat) : (tk l n).length = n := by simp [tk]
theorem tk_get {l : List Pl} {n i : Nat} (h : i < n) : (tk l n)[i]? = some (l.any fun x => x.p == (i : Int)) := by simp [tk, h]
theorem tk_step (l : List Pl) (x : Pl) (n i : Nat) (hi : i < n) (hx : x.p = (i : Int)) : (tk l n).set i true = tk (l ++ [x]) n := by
  refine List.ext_getElem? fun j => ?_
  rw [List.getElem?_set]
  by_cases hj : j < n
  · rw [tk_get hj, tk_get hj, List.any_append]
    by_cases e : i = j
    · subst e
      simp [tk_len, hi, hx]
    · rw [if_neg e]
      have : (x.p == (j : Int)) = false := by simp [hx]; omega
      simp [this]
  · rw [if_neg (by omega), List.getElem?_eq_none (by rw [tk_len]; omega), List.getElem?_eq_none (by rw [tk_len]; omega)]

noncomputable def X56 : Fx := ⟨Tryz.prog, tys, 56, Tryz.f56, [0]⟩
theorem X56_ok : X56.Ok := ⟨Tryz.func56, tys_ok⟩
theorem taken_ct (r : Rk) (ex : Bool) (n : Nat) (hn : r.pl = (n : Int)) (hn1 : n ≤ 60) (hlen : r.bs.length ≤ 1048576) (hb : ∀ x ∈ r.bs, 0 ≤ x.p ∧ x.p < n) : Ct Tryz.prog 56 [rkR ex r] (.own 1 true ((tk r.bs n).map bof)) [] := by
  obtain ⟨pl, l⟩ := r
  simp only at hn hlen hb
  subst hn
  refine Ct.intro X56 X56_ok rfl (by kernel_rfl) rfl rfl fun g hg => ?_
  repeat (refine Run.go rfl ?_)
  refine Run.make rfl rfl rfl rfl rfl rfl rfl rfl rfl rfl (by omega) (by show _ * 1 ≤ _; omega) rfl ?_
  repeat (refine Run.go rfl ?_)
  refine Run.loop (fun j : Nat => ⟨[(3, .own 1 true ((tk (l.take j) n).map bof)), (10, .ro 9 ex (l.map plA)), (11, i64 l.length), (12, i64 j)], []⟩) (fun j => j ≤ l.length) (fun j => l.length - j) 0 (by omega) ?_ ?_
  · refine St.Le.mk' ⟨?_, rfl, ?_, rfl, trivial⟩ trivial
    · show AV.own 1 true (List.replicate n (bo false)) = _
      congr 1
      refine List.ext_getElem? fun j => ?_
      by_cases hj : j < n
      · rw [List.getElem?_map, List.take_zero, tk_get hj]
        simp [hj]
        rfl
      · rw [List.getElem?_eq_none (by simp; omega), List.getElem?_eq_none (by rw [List.length_map, tk_len]; omega)]
    · show i64 _ = _
      simp
  intro j hj IH
  repeat (refine Run.go rfl ?_)
  refine Run.cond rfl (fun h => ?_) (fun h => ?_)
  · have hlt : j < l.length := by simpa using h
    obtain ⟨hx0, hx1⟩ := hb l[j] (by simp)
    obtain ⟨i, hi⟩ : ∃ i : Nat, l[j].p = (i : Int) := ⟨l[j].p.toNat, by omega⟩
    have hin : i < n := by omega
    have hst : tk (l.take (j + 1)) n = (tk (l.take j) n).set i true := by
      rw [List.take_succ_eq_append_getElem hlt, tk_step _ _ _ _ hin hi]
    have htl := tk_len (l.take j) n
    obtain ⟨ob, hob⟩ : ∃ ob : Bool, (tk (l.take j) n)[i]? = some ob := ⟨_, tk_get hin⟩
    generalize tk (l.take j) n = D at hst htl hob
    repeat (refine Run.go rfl ?_)
    refine Run.val rfl rfl rfl (ValOk.idx (plA l[j]) rfl rfl rfl rfl rfl (by omega) (by simp [hlt])) rfl ?_
    repeat (refine Run.go rfl ?_)
    refine Run.val rfl rfl rfl (ValOk.idxv (m := (i : Int)) rfl rfl rfl rfl rfl (by show AV.lit (.int .i16 l[j].p) = _; rw [hi]) (by omega) (by rw [List.length_map, htl]; omega)) rfl ?_
    refine Run.storee (bof ob) (bof true) rfl rfl rfl rfl rfl rfl rfl (by rw [List.getElem?_map, Nat.zero_add, Int.toNat_natCast, hob]; rfl) rfl rfl rfl ?_
    repeat (refine Run.go rfl ?_)
    refine Run.pack 3 rfl rfl (by simp) ?_
    refine Run.of (IH (j + 1) (by omega) (by omega)) ⟨?_, rfl, rfl, ?_, trivial⟩ trivial
    · show AV.own _ _ _ = AV.own _ _ _
      rw [hst, List.map_set, Nat.zero_add, Int.toNat_natCast]
    · show i64 _ = _
      rw [wrap_i64 (by omega) (by omega)]
      rfl
  · have hj' : j = l.length := by simp at h; omega
    subst hj'
    repeat (refine Run.go rfl ?_)
    refine Run.pack 2 rfl rfl rfl ?_
    refine Run.ret hg rfl ?_
    rw [List.take_length]
    rfl

theorem lt_pl (L : List Pl) : (flatc (L.map plA)).all isLT = true := by
  induction L with
  | nil => rfl
  | cons x r ih =>
    rw [List.map_cons, show flatc (plA x :: r.map plA) = (plA x).cells ++ flatc (r.map plA) from rfl, List.all_append, ih]
    rfl

/-! The reference. -/

noncomputable def X73 : Fx := ⟨Tryz.prog, tys, 73, Tryz.f73, [0]⟩
theorem X73_ok : X73.Ok := ⟨Tryz.func73, tys_ok⟩
theorem l05Places_ct (n : Int) : Ct Tryz.prog 73 [i64 n] (bo (inr n 1 60)) [] := by
  refine Ct.intro X73 X73_ok rfl rfl rfl rfl fun g hg => ?_
  repeat (refine Run.go rfl ?_)
  refine Run.cs rfl (l00In_ct n 1 60) rfl rfl ?_
  repeat (refine Run.go rfl ?_)
  exact Run.ret hg rfl rfl

/-- What is wrong with the book j of a rack. -/
def bad (n : Int) (l : List Pl) (j : Nat) : Bool := !vPl n (l.getD j pl0) || (decide (0 < j) && (decide ((l.getD j pl0).p ≤ (l.getD (j - 1) pl0).p) || decide (uc (l.getD j pl0).b (l.getD (j - 1) pl0).b < 0)))
theorem getD_pl {l : List Pl} {j : Nat} (h : j < l.length) : l.getD j pl0 = l[j] := by simp [h]
theorem vR_bad (r : Rk) : vR r = (inr r.pl 1 60 && !(List.range r.bs.length).any (bad r.pl r.bs)) := by
  obtain ⟨n, l⟩ := r
  show (inr n 1 60 && rs (pps l) && l.all (vPl n) && srt (pbs l)) = _
  have key : (rs (pps l) && l.all (vPl n) && srt (pbs l)) = !(List.range l.length).any (bad n l) := by
    rw [Bool.eq_iff_iff]
    simp only [Bool.and_eq_true, Bool.not_eq_true', List.any_eq_false, List.mem_range, rs, srt, List.all_eq_true, pps_len, pbs_len]
    constructor
    · rintro ⟨⟨h1, h2⟩, h3⟩ j hj
      have hv : vPl n (l.getD j pl0) = true := by rw [getD_pl hj]; exact h2 _ (by simp)
      unfold bad
      rw [hv]
      simp only [Bool.not_true, Bool.false_or, Bool.and_eq_true, Bool.or_eq_true, decide_eq_true_eq, not_and, not_or]
      intro h0
      have a1 := h1 (j - 1) (by omega)
      have a2 := h3 (j - 1) (by omega)
      have e1 : j - 1 + 1 = j := by omega
      simp only [rsP, pps, decide_eq_true_eq, e1] at a1
      rw [ooo_at (by rw [pbs_len]; omega)] at a2
      simp only [decide_eq_true_eq, e1] at a2
      have g1 : (l.map (·.p)).getD j 0 = (l.getD j pl0).p := by rw [getD_pl hj]; simp [hj]
      have g2 : (l.map (·.p)).getD (j - 1) 0 = (l.getD (j - 1) pl0).p := by rw [getD_pl (by omega)]; simp [show j - 1 < l.length by omega]
      rw [g1, g2] at a1
      have g3 : (pbs l)[j]'(by rw [pbs_len]; exact hj) = (l.getD j pl0).b := by rw [getD_pl hj]; simp [pbs]
      have g4 : (pbs l)[j - 1]'(by rw [pbs_len]; omega) = (l.getD (j - 1) pl0).b := by rw [getD_pl (by omega)]; simp [pbs]
      rw [← g3, ← g4]
      exact ⟨by omega, a2⟩
    · intro h
      refine ⟨⟨fun j hj => ?_, fun x hx => ?_⟩, fun j hj => ?_⟩
      · have := h (j + 1) (by omega)
        simp only [bad, Bool.or_eq_true, Bool.and_eq_true, decide_eq_true_eq, not_or, not_and, Nat.add_sub_cancel] at this
        have a1 := (this.2 (by omega)).1
        rw [getD_pl (show j + 1 < l.length by omega), getD_pl (show j < l.length by omega)] at a1
        simp only [rsP, pps, decide_eq_true_eq]
        simp [show j + 1 < l.length by omega, show j < l.length by omega]
        omega
      · obtain ⟨j, hj, rfl⟩ := List.getElem_of_mem hx
        have := h j hj
        simp only [bad, Bool.or_eq_true, not_or, getD_pl hj] at this
        simpa using this.1
      · have := h (j + 1) (by omega)
        simp only [bad, Bool.or_eq_true, Bool.and_eq_true, decide_eq_true_eq, not_or, not_and, Nat.add_sub_cancel] at this
        have a1 := (this.2 (by omega)).2
        rw [getD_pl (show j + 1 < l.length by omega), getD_pl (show j < l.length by omega)] at a1
        rw [ooo_at (by rw [pbs_len]; omega)]
        simp only [decide_eq_true_eq]
        simpa [pbs] using a1
  rw [← key]
  cases inr n 1 60 <;> simp [Bool.and_assoc]

theorem l01BookAt_ct (x : Pl) (hr : bkRng x.b) : Ct Tryz.prog 74 [.rp (plA x).cells 1] (bo (vB x.b)) [] := Ct.norm (l01Book_ct x.b hr)
theorem l01UsualAt_ct (x y : Pl) (hx : bkRng x.b) (hy : bkRng y.b) : Ct Tryz.prog 75 [.rp (plA x).cells 1, .rp (plA y).cells 1] (i64 (uc x.b y.b)) [] := Ct.norm (l01Usual_ct x.b y.b hx hy)

noncomputable def X36 : Fx := ⟨Tryz.prog, tys, 36, Tryz.f36, [0]⟩
theorem X36_ok : X36.Ok := ⟨Tryz.func36, tys_ok⟩
theorem l05Ok_ct (r : Rk) (ex : Bool) (hr : rkOk r) : Ct Tryz.prog 36 [.rp (rkR ex r).cells 0] (bo (vR r)) [] := by
  have hlen := hr.1.2
  have hpr := hr.1.1
  unfold i16r at hpr
  have hw : IntKind.i64.wrap r.pl = r.pl := wrap_i64 (by omega) (by omega)
  have hw2 : IntKind.i64.wrap (r.pl - 1) = r.pl - 1 := wrap_i64 (by omega) (by omega)
  rw [vR_bad]
  refine Ct.intro X36 X36_ok rfl (by kernel_rfl) rfl rfl fun g hg => ?_
  repeat (refine Run.go rfl ?_)
  refine Run.cs rfl (l05Places_ct r.pl) (by show [i64 _] = _; rw [hw]) rfl ?_
  repeat (refine Run.go rfl ?_)
  refine Run.cond rfl (fun h => ?_) (fun h => ?_)
  · have h : inr r.pl 1 60 = false := by simpa using h
    repeat (refine Run.go rfl ?_)
    refine Run.ret hg rfl ?_
    rw [h]
    rfl
  have hn : inr r.pl 1 60 = true := by simpa using h
  repeat (refine Run.go rfl ?_)
  refine Run.loop (fun j : Nat => ⟨[(0, .rp (rkR ex r).cells 0), (3, i64 j)], []⟩) (fun j => j ≤ r.bs.length ∧ ∀ i, i < j → bad r.pl r.bs i = false) (fun j => r.bs.length - j) 0 ⟨by omega, fun i h => by omega⟩ ?_ ?_
  · exact St.Le.mk' ⟨rfl, rfl, trivial⟩ trivial
  rintro j ⟨hj, hall⟩ IH
  repeat (refine Run.go rfl ?_)
  refine Run.cond rfl (fun h => ?_) (fun h => ?_)
  · have hlt : j < r.bs.length := by simpa using h
    have hxr := hr.2 r.bs[j] (by simp)
    have hxp := hxr.1
    unfold i16r at hxp
    have hwp : IntKind.i64.wrap r.bs[j].p = r.bs[j].p := wrap_i64 (by omega) (by omega)
    have hbadT : bad r.pl r.bs j = true → (inr r.pl 1 60 && !(List.range r.bs.length).any (bad r.pl r.bs)) = false := by
      intro hb
      rw [List.any_eq_true.2 ⟨j, List.mem_range.2 hlt, hb⟩, Bool.not_true, Bool.and_false]
    repeat (refine Run.go rfl ?_)
    refine Run.val rfl rfl rfl (ValOk.idx (plA r.bs[j]) rfl rfl rfl rfl rfl (by omega) (by simp [hlt])) rfl ?_
    repeat (refine Run.go rfl ?_)
    refine Run.cs rfl (l00In_ct r.bs[j].p 0 (r.pl - 1)) (by show [i64 _, i64 _, i64 _] = _; rw [hwp, hw, hw2]) rfl ?_
    repeat (refine Run.go rfl ?_)
    refine Run.bool 39 rfl (fun h1 => ?_) (fun h1 => ?_)
    · have h1 : inr r.bs[j].p 0 (r.pl - 1) = false := by simpa using h1
      repeat (refine Run.go rfl ?_)
      refine Run.cond rfl (fun h => ?_) (fun h => by simp at h)
      repeat (refine Run.go rfl ?_)
      refine Run.ret hg rfl ?_
      rw [hbadT (by rw [bad, getD_pl hlt, vPl, h1]; rfl)]
      rfl
    have h1 : inr r.bs[j].p 0 (r.pl - 1) = true := by simpa using h1
    repeat (refine Run.go rfl ?_)
    refine Run.val rfl rfl rfl (ValOk.idx (plA r.bs[j]) rfl rfl rfl rfl rfl (by omega) (by simp [hlt])) rfl ?_
    repeat (refine Run.go rfl ?_)
    refine Run.cs rfl (l01BookAt_ct r.bs[j] hxr.2) rfl rfl ?_
    repeat (refine Run.go rfl ?_)
    refine Run.cond rfl (fun h => ?_) (fun h2 => ?_)
    · have h : vB r.bs[j].b = false := by simpa using h
      repeat (refine Run.go rfl ?_)
      refine Run.ret hg rfl ?_
      rw [hbadT (by rw [bad, getD_pl hlt, vPl, h1, h]; rfl)]
      rfl
    have h2 : vB r.bs[j].b = true := by simpa using h2
    have hvp : vPl r.pl r.bs[j] = true := by rw [vPl, h1, h2]; rfl
    repeat (refine Run.go rfl ?_)
    refine Run.drawS ⟨[(0, .rp (rkR ex r).cells 0), (3, i64 j), (84, bo (bad r.pl r.bs j))], []⟩ (by kernel_rfl) (by decide +kernel) ?_ ?_
    · repeat (refine Quiet.go rfl ?_)
      refine Quiet.bool 52 rfl (fun h0 => ?_) (fun h0 => ?_)
      · have h0 : 0 < j := by simpa using h0
        have hj1 : j - 1 < r.bs.length := by omega
        have hyr := hr.2 r.bs[j - 1] (by simp)
        have hyp := hyr.1
        unfold i16r at hyp
        have hwy : IntKind.i64.wrap r.bs[j - 1].p = r.bs[j - 1].p := wrap_i64 (by omega) (by omega)
        have hwj : IntKind.i64.wrap ((j : Int) - 1) = (j - 1 : Nat) := by rw [wrap_i64 (by omega) (by omega)]; omega
        have hbd : bad r.pl r.bs j = (decide (r.bs[j].p ≤ r.bs[j - 1].p) || decide (uc r.bs[j].b r.bs[j - 1].b < 0)) := by
          rw [bad, getD_pl hlt, getD_pl hj1, hvp, decide_eq_true h0]
          rfl
        rw [hbd]
        repeat (refine Quiet.go rfl ?_)
        refine Quiet.val rfl rfl (ValOk.idx (m := (j - 1 : Nat)) (plA r.bs[j - 1]) rfl rfl rfl rfl (by show i64 (IntKind.i64.wrap ((j : Int) - 1)) = _; rw [hwj]) (by omega) (by rw [Int.toNat_natCast, List.getElem?_map, List.getElem?_eq_getElem hj1]; rfl)) rfl ?_
        repeat (refine Quiet.go rfl ?_)
        refine Quiet.bool (b := decide (r.bs[j].p ≤ r.bs[j - 1].p)) 65 (by show bo (decide (IntKind.i64.wrap r.bs[j].p ≤ IntKind.i64.wrap r.bs[j - 1].p)) = _; rw [hwp, hwy]) (fun h3 => ?_) (fun h3 => ?_)
        · repeat (refine Quiet.go rfl ?_)
          rw [h3]
          exact Quiet.nil (St.Le.mk' ⟨rfl, rfl, rfl, trivial⟩ trivial)
        · repeat (refine Quiet.go rfl ?_)
          refine Quiet.val rfl rfl (ValOk.idx (plA r.bs[j]) rfl rfl rfl rfl rfl (by omega) (by simp [hlt])) rfl ?_
          repeat (refine Quiet.go rfl ?_)
          refine Quiet.val rfl rfl (ValOk.idx (m := (j - 1 : Nat)) (plA r.bs[j - 1]) rfl rfl rfl rfl (by show i64 (IntKind.i64.wrap ((j : Int) - 1)) = _; rw [hwj]) (by omega) (by rw [Int.toNat_natCast, List.getElem?_map, List.getElem?_eq_getElem hj1]; rfl)) rfl ?_
          repeat (refine Quiet.go rfl ?_)
          refine Quiet.cs rfl rfl rfl rfl rfl (l01UsualAt_ct r.bs[j] r.bs[j - 1] hxr.2 hyr.2) rfl rfl ?_
          repeat (refine Quiet.go rfl ?_)
          rw [h3]
          exact Quiet.nil (St.Le.mk' ⟨rfl, rfl, rfl, trivial⟩ trivial)
      · have h0 : j = 0 := by simp at h0; omega
        subst h0
        repeat (refine Quiet.go rfl ?_)
        refine Quiet.nil (St.Le.mk' ⟨rfl, rfl, ?_, trivial⟩ trivial)
        show bo false = bo _
        rw [bad, getD_pl hlt, hvp]
        rfl
    refine Run.cond rfl (fun h => ?_) (fun h => ?_)
    · repeat (refine Run.go rfl ?_)
      refine Run.ret hg rfl ?_
      rw [hbadT h]
      rfl
    · repeat (refine Run.go rfl ?_)
      refine Run.of (IH (j + 1) ⟨by omega, fun i hi => ?_⟩ (by omega)) ⟨rfl, ?_, trivial⟩ trivial
      · by_cases e : i = j
        · subst e; exact h
        · exact hall i (by omega)
      · show i64 _ = _
        rw [wrap_i64 (by omega) (by omega)]
        rfl
  · have hj' : j = r.bs.length := by simp at h; omega
    subst hj'
    repeat (refine Run.go rfl ?_)
    refine Run.ret hg rfl ?_
    have : (List.range r.bs.length).any (bad r.pl r.bs) = false := by
      rw [List.any_eq_false]
      intro i hi
      rw [hall i (List.mem_range.1 hi)]
      decide
    rw [hn, this]
    rfl

end Go.Proofs.YtofakfkmglmhoaaGreat
