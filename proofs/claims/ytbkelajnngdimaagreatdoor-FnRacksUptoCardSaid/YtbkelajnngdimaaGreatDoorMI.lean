/- Parts of a proof, in one text: K1, K2, KRd, K3, K4, K5, K6, K7. -/
import Derived.Test.YtbkelajnngdimaaGreatDoorME
import Derived.Test.YtbkelajnngdimaaGreatDoorMC
set_option linter.unusedVariables false

/- Contracts of the program's functions, and what follows from them. -/
set_option maxRecDepth 100000
namespace Go.Proofs.YtbkelajnngdimaaGreatDoor
open Go Go.Av
structure Pl where
  p : Int
  b : Bk
  deriving DecidableEq
structure Rk where
  pl : Int
  bs : List Pl
  deriving DecidableEq
def plA (x : Pl) : AV := .agg [i16 x.p, i16 x.b.cl, u8 x.b.a, u8 x.b.b, u8 x.b.c, i16 x.b.vol, i16 x.b.wd, i16 x.b.hi, i16 x.b.wt]
def pl0 : Pl := ⟨0, bk0⟩
def rkR (ex : Bool) (r : Rk) : AV := .agg [i16 r.pl, .ro 9 ex (r.bs.map plA)]
def rkO (ex : Bool) (r : Rk) : AV := .agg [i16 r.pl, .own 9 ex (r.bs.map plA)]
theorem pl_rf (x : Pl) : (plA x).rf = true := rfl
theorem pl_frz (x : Pl) : (plA x).frz = plA x := rfl
theorem frzP (l : List Pl) : AV.frzL (l.map plA) = l.map plA := frzL_map pl_frz l
theorem rfP (l : List Pl) : AV.rfL (l.map plA) = true := rfL_map pl_rf l
theorem rk_rf (ex : Bool) (r : Rk) : (rkO ex r).rf = true := by simp only [rkO, AV.rf, AV.rfL, rfP]; rfl
theorem rk_frz (ex : Bool) (r : Rk) : (rkO ex r).frz = rkR ex r := by simp only [rkO, rkR, AV.frz, AV.frzL, frzP]
theorem one_pl (a : List Pl) : oneC (a.map plA) = true := by
  simp only [oneC, List.all_map, List.all_eq_true]
  intro x _
  rfl
end Go.Proofs.YtbkelajnngdimaaGreatDoor

/- Contracts of the program's functions, and what follows from them. -/
set_option maxRecDepth 100000
namespace Go.Proofs.YtbkelajnngdimaaGreatDoor
open Go Go.Av
def plRng (x : Pl) : Prop := i16r x.p ∧ bkRng x.b
def rkOk (r : Rk) : Prop := (i16r r.pl ∧ r.bs.length ≤ 1048576) ∧ ∀ x ∈ r.bs, plRng x
def pps (l : List Pl) : List Int := l.map (·.p)
def pbs (l : List Pl) : List Bk := l.map (·.b)
def vPl (n : Int) (x : Pl) : Bool := inr x.p 0 (n - 1) && vB x.b
def vR (r : Rk) : Bool := inr r.pl 1 60 && rs (pps r.bs) && r.bs.all (vPl r.pl) && srt (pbs r.bs)
def rk0 : Rk := ⟨0, []⟩
theorem pbs_len (l : List Pl) : (pbs l).length = l.length := List.length_map ..
theorem pps_len (l : List Pl) : (pps l).length = l.length := List.length_map ..
noncomputable def X85 : Fx := ⟨Tryz.prog, tys, 85, Tryz.f85, [0]⟩
theorem X85_ok : X85.Ok := ⟨Tryz.func85, tys_ok⟩
theorem place_ct (x : Pl) (h : i16r x.p) : Ct Tryz.prog 85 [plA x] (i64 x.p) [] := by
  have hw : IntKind.i64.wrap x.p = x.p := wrap_i64 (by unfold i16r at h; omega) (by unfold i16r at h; omega)
  refine Ct.intro X85 X85_ok rfl rfl rfl rfl fun g hg => ?_
  repeat (refine Run.go rfl ?_)
  refine Run.ret hg rfl ?_
  show i64 _ = _
  rw [hw]
noncomputable def X162 : Fx := ⟨Tryz.prog, tys, 162, Tryz.f162, [0]⟩
theorem X162_ok : X162.Ok := ⟨Tryz.func162, tys_ok⟩
theorem bookOf_ct (x : Pl) : Ct Tryz.prog 162 [plA x] (bkA x.b) [] := by
  refine Ct.intro X162 X162_ok rfl rfl rfl rfl fun g hg => ?_
  repeat (refine Run.go rfl ?_)
  exact Run.ret hg rfl rfl
noncomputable def X84 : Fx := ⟨Tryz.prog, tys, 84, Tryz.f84, [1]⟩
theorem X84_ok : X84.Ok := ⟨Tryz.func84, tys_ok⟩
theorem eachPI_ct (L : List Pl) (ex : Bool) (f : Nat) (F : Pl → Int) (hlen : L.length ≤ 1048576) (hf : ∀ x ∈ L, Ct Tryz.prog f [plA x] (i64 (F x)) []) : Ct Tryz.prog 84 [.ro 9 ex (L.map plA), .fn f []] (.own 1 false ((L.map F).map i64)) [] := by
  refine Ct.intro X84 X84_ok rfl (by kernel_rfl) rfl rfl fun g hg => ?_
  repeat (refine Run.go rfl ?_)
  refine Run.nilSlot 5 1 false rfl ?_
  refine Run.loop (fun j : Nat => ⟨[(1, .fn f []), (5, .own 1 false (((L.take j).map F).map i64)), (8, .ro 9 ex (L.map plA)), (9, i64 L.length), (10, i64 j)], []⟩) (fun j => j ≤ L.length) (fun j => L.length - j) 0 (by omega) ?_ ?_
  · refine St.Le.mk' ⟨rfl, rfl, rfl, ?_, rfl, trivial⟩ trivial
    show i64 _ = _
    simp
  intro j hj IH
  repeat (refine Run.go rfl ?_)
  refine Run.cond rfl (fun h => ?_) (fun h => ?_)
  · have hlt : j < L.length := by simpa using h
    repeat (refine Run.go rfl ?_)
    refine Run.val rfl rfl rfl (ValOk.idx (plA L[j]) rfl rfl rfl rfl rfl (by omega) (by simp [hlt])) rfl ?_
    repeat (refine Run.go rfl ?_)
    refine Run.cs rfl (hf L[j] (by simp)) rfl rfl ?_
    refine Run.buildSlice [i64 (F L[j])] rfl rfl rfl rfl rfl rfl rfl rfl rfl rfl rfl rfl rfl rfl ?_
    refine Run.appendo rfl rfl rfl rfl rfl rfl rfl rfl rfl rfl rfl rfl rfl rfl (by show (_ + 1) * 8 ≤ _; simp; omega) (by simp [capMax]; omega) (by decide) rfl ?_
    repeat (refine Run.go rfl ?_)
    refine Run.of (IH (j + 1) (by omega) (by omega)) ⟨rfl, ?_, rfl, rfl, ?_, trivial⟩ trivial
    · rw [List.take_succ_eq_append_getElem hlt, List.map_append, List.map_append]
      rfl
    · show i64 _ = _
      rw [wrap_i64 (by omega) (by omega)]
      rfl
  · have hj' : j = L.length := by simp at h; omega
    subst hj'
    repeat (refine Run.go rfl ?_)
    refine Run.pack 4 rfl rfl rfl ?_
    refine Run.ret hg rfl ?_
    rw [List.take_length]
    rfl
noncomputable def X161 : Fx := ⟨Tryz.prog, tys, 161, Tryz.f161, [1]⟩
theorem X161_ok : X161.Ok := ⟨Tryz.func161, tys_ok⟩
theorem eachPB_ct (L : List Pl) (ex : Bool) (f : Nat) (hlen : L.length ≤ 1048576) (hf : ∀ x ∈ L, Ct Tryz.prog f [plA x] (bkA x.b) []) : Ct Tryz.prog 161 [.ro 9 ex (L.map plA), .fn f []] (.own 8 false ((pbs L).map bkA)) [] := by
  refine Ct.intro X161 X161_ok rfl (by kernel_rfl) rfl rfl fun g hg => ?_
  repeat (refine Run.go rfl ?_)
  refine Run.nilSlot 5 8 false rfl ?_
  refine Run.loop (fun j : Nat => ⟨[(1, .fn f []), (5, .own 8 false ((pbs (L.take j)).map bkA)), (8, .ro 9 ex (L.map plA)), (9, i64 L.length), (10, i64 j)], []⟩) (fun j => j ≤ L.length) (fun j => L.length - j) 0 (by omega) ?_ ?_
  · refine St.Le.mk' ⟨rfl, rfl, rfl, ?_, rfl, trivial⟩ trivial
    show i64 _ = _
    simp
  intro j hj IH
  repeat (refine Run.go rfl ?_)
  refine Run.cond rfl (fun h => ?_) (fun h => ?_)
  · have hlt : j < L.length := by simpa using h
    have hpl : (pbs (L.take j)).length ≤ j := by rw [pbs_len]; simp; omega
    have hst : pbs (L.take (j + 1)) = pbs (L.take j) ++ [L[j].b] := by
      rw [pbs, List.take_succ_eq_append_getElem hlt, List.map_append]
      rfl
    generalize pbs (L.take j) = D at hpl hst
    repeat (refine Run.go rfl ?_)
    refine Run.val rfl rfl rfl (ValOk.idx (plA L[j]) rfl rfl rfl rfl rfl (by omega) (by simp [hlt])) rfl ?_
    repeat (refine Run.go rfl ?_)
    refine Run.cs rfl (hf L[j] (by simp)) rfl rfl ?_
    refine Run.buildSlice [bkA L[j].b] rfl rfl rfl rfl rfl rfl rfl rfl rfl rfl rfl rfl rfl rfl ?_
    refine Run.appendo rfl rfl rfl rfl rfl rfl rfl rfl rfl rfl rfl rfl rfl rfl (by show (_ + 1) * 14 ≤ _; simp; omega) (by simp [capMax]; omega) (by decide) rfl ?_
    repeat (refine Run.go rfl ?_)
    refine Run.of (IH (j + 1) (by omega) (by omega)) ⟨rfl, ?_, rfl, rfl, ?_, trivial⟩ trivial
    · rw [hst, List.map_append]
      rfl
    · show i64 _ = _
      rw [wrap_i64 (by omega) (by omega)]
      rfl
  · have hj' : j = L.length := by simp at h; omega
    subst hj'
    repeat (refine Run.go rfl ?_)
    refine Run.pack 4 rfl rfl rfl ?_
    refine Run.ret hg rfl ?_
    rw [List.take_length]
    rfl
noncomputable def X67 : Fx := ⟨Tryz.prog, tys, 67, Tryz.f67, [0]⟩
theorem X67_ok : X67.Ok := ⟨Tryz.func67, tys_ok⟩
theorem rkBooks_ct (r : Rk) (ex : Bool) (hlen : r.bs.length ≤ 1048576) : Ct Tryz.prog 67 [rkR ex r] (.own 8 false ((pbs r.bs).map bkA)) [] := by
  refine Ct.intro X67 X67_ok rfl rfl rfl rfl fun g hg => ?_
  repeat (refine Run.go rfl ?_)
  refine Run.cs rfl (eachPB_ct r.bs ex _ hlen fun x _ => bookOf_ct x) rfl (rfB _) ?_
  repeat (refine Run.go rfl ?_)
  exact Run.ret hg rfl rfl
noncomputable def X179 : Fx := ⟨Tryz.prog, tys, 179, Tryz.f179, [0, 1]⟩
theorem X179_ok : X179.Ok := ⟨Tryz.func179, tys_ok⟩
theorem indexP_ct (l : List Pl) (ex : Bool) (f : Nat) (caps : List AV) (p : Pl → Bool) (hlen : l.length ≤ 1048576) (hc : AV.freeL caps = true)
    (hf : ∀ x ∈ l, Ct Tryz.prog f ([plA x] ++ caps) (bo (p x)) []) : Ct Tryz.prog 179 [.ro 9 ex (l.map plA), .fn f caps] (i64 (fi p l)) [] := by
  refine Ct.intro X179 X179_ok rfl (by kernel_rfl) rfl rfl fun g hg => ?_
  repeat (refine Run.step rfl ?_)
  refine Run.loop (fun j : Nat => ⟨[(0, .ro 9 ex (l.map plA)), (1, .fn f caps), (7, i64 l.length), (8, i64 j)], []⟩) (fun j => j ≤ l.length ∧ j ≤ l.findIdx p) (fun j => l.length - j) 0 ⟨by omega, by omega⟩ ?_ ?_
  · refine St.Le.mk' ⟨rfl, rfl, ?_, rfl, trivial⟩ trivial
    show i64 _ = _
    simp
  · rintro j ⟨hj1, hj2⟩ IH
    repeat (refine Run.step rfl ?_)
    refine Run.cond rfl (fun h => ?_) (fun h => ?_)
    · have hlt : j < l.length := by simpa using h
      repeat (refine Run.step rfl ?_)
      refine Run.val rfl rfl rfl (ValOk.idx (plA l[j]) rfl rfl rfl rfl rfl (by omega) (by simp [hlt])) rfl ?_
      repeat (refine Run.step rfl ?_)
      refine Run.callp rfl rfl rfl rfl rfl rfl rfl hc rfl (hf l[j] (by simp)) (by decide) (by decide) ?_
      repeat (refine Run.step rfl ?_)
      refine Run.cond rfl (fun h => ?_) (fun h => ?_)
      · repeat (refine Run.step rfl ?_)
        refine Run.ret hg rfl ?_
        show i64 _ = _
        rw [fi_at hlt h hj2]
      · repeat (refine Run.step rfl ?_)
        refine Run.of (IH (j + 1) ⟨by omega, fi_next hlt h hj2⟩ (by omega)) ⟨rfl, rfl, rfl, ?_, trivial⟩ trivial
        show i64 _ = _
        rw [wrap_i64 (by omega) (by omega)]
        rfl
    · repeat (refine Run.step rfl ?_)
      have hj : j = l.length := by simp at h; omega
      refine Run.ret hg rfl ?_
      show i64 (-1) = _
      rw [fi_none (by omega)]
noncomputable def X173 : Fx := ⟨Tryz.prog, tys, 173, Tryz.f173, [0, 1]⟩
theorem X173_ok : X173.Ok := ⟨Tryz.func173, tys_ok⟩
theorem containsP_ct (l : List Pl) (ex : Bool) (f : Nat) (caps : List AV) (p : Pl → Bool) (hlen : l.length ≤ 1048576) (hc : AV.freeL caps = true)
    (hf : ∀ x ∈ l, Ct Tryz.prog f ([plA x] ++ caps) (bo (p x)) []) : Ct Tryz.prog 173 [.ro 9 ex (l.map plA), .fn f caps] (bo (l.any p)) [] := by
  refine Ct.intro X173 X173_ok rfl (by kernel_rfl) rfl rfl fun g hg => ?_
  repeat (refine Run.go rfl ?_)
  refine Run.callp rfl rfl rfl rfl rfl rfl (by simp [AV.freeL, AV.free, hc]) rfl rfl (indexP_ct l ex f caps p hlen hc hf) (by decide) (by decide) ?_
  repeat (refine Run.go rfl ?_)
  refine Run.ret hg rfl ?_
  show bo _ = _
  rw [← fi_nonneg]
noncomputable def X174 : Fx := ⟨Tryz.prog, tys, 174, Tryz.f174, [0, 1]⟩
theorem X174_ok : X174.Ok := ⟨Tryz.func174, tys_ok⟩
theorem areAllP1_ct (c : Pl) (f : Nat) (cs : List AV) (jj : Nat) (p : Bool) (hf : Ct Tryz.prog f [plA c, .rp cs jj] (bo p) []) : Ct Tryz.prog 174 [plA c, .rp [.fn f [.rp cs jj]] 0] (bo (!p)) [] := by
  refine Ct.intro X174 X174_ok rfl (by kernel_rfl) rfl rfl fun g hg => ?_
  repeat (refine Run.go rfl ?_)
  refine Run.cs rfl hf rfl rfl ?_
  repeat (refine Run.go rfl ?_)
  exact Run.ret hg rfl rfl
noncomputable def X86 : Fx := ⟨Tryz.prog, tys, 86, Tryz.f86, [0, 1]⟩
theorem X86_ok : X86.Ok := ⟨Tryz.func86, tys_ok⟩
theorem areAllP_ct (l : List Pl) (ex : Bool) (f : Nat) (cs : List AV) (jj : Nat) (p : Pl → Bool) (hlen : l.length ≤ 1048576) (hf : ∀ x ∈ l, Ct Tryz.prog f [plA x, .rp cs jj] (bo (p x)) []) :
    Ct Tryz.prog 86 [.ro 9 ex (l.map plA), .fn f [.rp cs jj]] (bo (l.all p)) [] := by
  refine Ct.intro X86 X86_ok rfl (by kernel_rfl) rfl rfl fun g hg => ?_
  repeat (refine Run.go rfl ?_)
  refine Run.cs rfl (containsP_ct l ex 174 [.rp [.fn f [.rp cs jj]] 0] (fun x => !p x) hlen rfl (fun x hx => areAllP1_ct x f cs jj (p x) (hf x hx))) rfl rfl ?_
  repeat (refine Run.go rfl ?_)
  refine Run.ret hg rfl ?_
  show bo (!l.any fun x => !p x) = _
  congr 2
  simp [List.all_eq_not_any_not]
noncomputable def X170 : Fx := ⟨Tryz.prog, tys, 170, Tryz.f170, [0, 1]⟩
theorem X170_ok : X170.Ok := ⟨Tryz.func170, tys_ok⟩
theorem firstOfP_ct (L : List Pl) (ex : Bool) (f : Nat) (caps : List AV) (p : Pl → Bool) (hlen : L.length ≤ 1048576) (hc : AV.freeL caps = true) (hf : ∀ x ∈ L, Ct Tryz.prog f ([plA x] ++ caps) (bo (p x)) []) :
    Ct Tryz.prog 170 [.ro 9 ex (L.map plA), .fn f caps] (i64 (if 0 ≤ fi p L then fi p L else (L.length : Int))) [] := by
  refine Ct.intro X170 X170_ok rfl (by kernel_rfl) rfl rfl fun g hg => ?_
  repeat (refine Run.go rfl ?_)
  refine Run.callp rfl rfl rfl rfl rfl rfl (by simp [AV.freeL, AV.free, hc]) rfl rfl (indexP_ct L ex f caps p hlen hc hf) (by decide) (by decide) ?_
  repeat (refine Run.go rfl ?_)
  refine Run.cond rfl (fun h => ?_) (fun h => ?_)
  · have h : 0 ≤ fi p L := of_decide_eq_true h
    repeat (refine Run.go rfl ?_)
    refine Run.ret hg rfl ?_
    rw [if_pos h]
    rfl
  · have h : ¬ 0 ≤ fi p L := of_decide_eq_false h
    repeat (refine Run.go rfl ?_)
    refine Run.ret hg rfl ?_
    rw [if_neg h]
    show i64 ((L.map plA).length : Int) = _
    rw [List.length_map]
noncomputable def X87 : Fx := ⟨Tryz.prog, tys, 87, Tryz.f87, [0, 1]⟩
theorem X87_ok : X87.Ok := ⟨Tryz.func87, tys_ok⟩
theorem validRack1_ct (x : Pl) (r : Rk) (ex : Bool) (hn : 1 ≤ r.pl ∧ r.pl ≤ 60) : Ct Tryz.prog 87 [plA x, .rp (rkR ex r).cells 0] (bo (vPl r.pl x)) [] := by
  have hw : IntKind.i16.wrap (r.pl - 1) = r.pl - 1 := wrap_i16 (by omega) (by omega)
  refine Ct.intro X87 X87_ok rfl (by kernel_rfl) rfl rfl fun g hg => ?_
  repeat (refine Run.go rfl ?_)
  refine Run.cs rfl (within16_ct x.p 0 (r.pl - 1)) (by show [i16 _, i16 _, i16 _] = _; rw [hw]) rfl ?_
  repeat (refine Run.go rfl ?_)
  refine Run.bool 10 rfl (fun h => ?_) (fun h => ?_)
  · repeat (refine Run.go rfl ?_)
    refine Run.cs rfl (validBook_ct x.b) rfl rfl ?_
    repeat (refine Run.go rfl ?_)
    refine Run.ret hg rfl ?_
    show bo _ = bo _
    rw [vPl, h, Bool.true_and]
  · repeat (refine Run.go rfl ?_)
    refine Run.ret hg rfl ?_
    show bo _ = bo _
    rw [vPl, h, Bool.false_and]
noncomputable def X20 : Fx := ⟨Tryz.prog, tys, 20, Tryz.f20, [0]⟩
theorem X20_ok : X20.Ok := ⟨Tryz.func20, tys_ok⟩
theorem implValidRack_ct (r : Rk) (ex : Bool) (hr : rkOk r) : Ct Tryz.prog 20 [rkR ex r] (bo (vR r)) [] := by
  have hlen := hr.1.2
  refine Ct.intro X20 X20_ok rfl (by kernel_rfl) rfl rfl fun g hg => ?_
  repeat (refine Run.go rfl ?_)
  refine Run.cs rfl (within16_ct r.pl 1 60) rfl rfl ?_
  repeat (refine Run.go rfl ?_)
  refine Run.bool 6 rfl (fun h1 => ?_) (fun h1 => ?_)
  · have hn : 1 ≤ r.pl ∧ r.pl ≤ 60 := by simpa [inr] using h1
    repeat (refine Run.go rfl ?_)
    refine Run.cs rfl (eachPI_ct r.bs ex _ (·.p) hlen fun x hx => place_ct x (hr.2 x hx).1) rfl (rf64 _) ?_
    repeat (refine Run.go rfl ?_)
    refine Run.cs rfl (rises_ct (pps r.bs) false (by rw [pps_len]; exact hlen)) (by rw [frz64]; rfl) rfl ?_
    repeat (refine Run.go rfl ?_)
    refine Run.bool 12 rfl (fun h2 => ?_) (fun h2 => ?_)
    · repeat (refine Run.go rfl ?_)
      refine Run.cs rfl (areAllP_ct r.bs ex _ (rkR ex r).cells 0 (vPl r.pl) hlen fun x _ => validRack1_ct x r ex hn) rfl rfl ?_
      repeat (refine Run.go rfl ?_)
      refine Run.bool 18 rfl (fun h3 => ?_) (fun h3 => ?_)
      · repeat (refine Run.go rfl ?_)
        refine Run.cs rfl (rkBooks_ct r ex hlen) rfl (rfB _) ?_
        repeat (refine Run.go rfl ?_)
        refine Run.cs rfl (isSorted_ct (pbs r.bs) false (by rw [pbs_len]; exact hlen)) (by rw [frzB]) rfl ?_
        repeat (refine Run.go rfl ?_)
        refine Run.ret hg rfl ?_
        show bo _ = bo _
        rw [vR, h1, h2, h3]
        rfl
      · repeat (refine Run.go rfl ?_)
        refine Run.ret hg rfl ?_
        show bo _ = bo _
        rw [vR, h3, Bool.and_false, Bool.false_and]
    · repeat (refine Run.go rfl ?_)
      refine Run.ret hg rfl ?_
      show bo _ = bo _
      rw [vR, h2, Bool.and_false, Bool.false_and, Bool.false_and]
  · repeat (refine Run.go rfl ?_)
    refine Run.ret hg rfl ?_
    show bo _ = bo _
    rw [vR, h1, Bool.false_and, Bool.false_and, Bool.false_and]
noncomputable def X108 : Fx := ⟨Tryz.prog, tys, 108, Tryz.f108, [0]⟩
theorem X108_ok : X108.Ok := ⟨Tryz.func108, tys_ok⟩
theorem clonePl_ct (a : List Pl) (e1 : Bool) (ha : a.length ≤ 1048576) : Ct Tryz.prog 108 [.ro 9 e1 (a.map plA)] (.own 9 false (a.map plA)) [] := by
  refine Ct.intro X108 X108_ok rfl (by kernel_rfl) rfl rfl fun g hg => ?_
  repeat (refine Run.go rfl ?_)
  refine Run.roNil rfl rfl rfl rfl rfl rfl rfl rfl fun b hb => ?_
  repeat (refine Run.go rfl ?_)
  refine Run.cond rfl (fun h => ?_) (fun h => ?_)
  · have hn := hb h
    repeat (refine Run.go rfl ?_)
    refine Run.nilSlot 2 9 false rfl ?_
    refine Run.ret hg rfl ?_
    rw [hn]
    rfl
  · repeat (refine Run.go rfl ?_)
    refine Run.buildSlice [] rfl rfl rfl rfl rfl rfl rfl rfl rfl rfl rfl rfl rfl rfl ?_
    refine Run.unpack 5 rfl rfl ?_
    repeat (refine Run.go rfl ?_)
    refine Run.appendr rfl rfl rfl rfl rfl rfl rfl rfl rfl rfl rfl rfl rfl (one_pl a) (by show (_ + _) * 16 ≤ _; simp; omega) (by simp [capMax]; omega) rfl ?_
    repeat (refine Run.go rfl ?_)
    exact Run.ret hg rfl rfl
noncomputable def X94 : Fx := ⟨Tryz.prog, tys, 94, Tryz.f94, [0]⟩
theorem X94_ok : X94.Ok := ⟨Tryz.func94, tys_ok⟩
theorem rkOwn_ct (r : Rk) (ex : Bool) (hlen : r.bs.length ≤ 1048576) : Ct Tryz.prog 94 [rkR ex r] (rkO false r) [] := by
  refine Ct.intro X94 X94_ok rfl (by kernel_rfl) rfl rfl fun g hg => ?_
  repeat (refine Run.go rfl ?_)
  refine Run.drawn [[0, 1, 2, 3, 4, 5, 6], [0, 2, 1, 3, 4, 5, 6], [0, 2, 3, 1, 4, 5, 6], [0, 2, 3, 4, 1, 5, 6], [2, 0, 1, 3, 4, 5, 6], [2, 0, 3, 1, 4, 5, 6], [2, 0, 3, 4, 1, 5, 6], [2, 3, 0, 1, 4, 5, 6], [2, 3, 0, 4, 1, 5, 6], [2, 3, 4, 0, 1, 5, 6]]
    ⟨[(2, .bp (2, 0) 0)], [((2, 0), .box [i16 r.pl, .own 9 false (r.bs.map plA)])]⟩ (by decide +kernel) (by kernel_rfl) ?_ fun _ hN => ⟨?_, ?_, ?_, ?_, ?_, ?_, ?_, ?_, ?_, ?_, trivial⟩
  rotate_left
  iterate 10
    · repeat (refine Run.go rfl ?_)
      refine Run.cs rfl (clonePl_ct r.bs ex hlen) rfl (rfP _) ?_
      refine Run.unpack 7 rfl rfl ?_
      repeat (refine Run.go rfl ?_)
      refine Run.val rfl rfl rfl (ValOk.build rfl rfl rfl rfl rfl) rfl ?_
      repeat (refine Run.go rfl ?_)
      refine Run.packBox (2, 0) 1 rfl rfl rfl rfl ?_
      exact Run.of hN ⟨rfl, trivial⟩ ⟨rfl, trivial⟩
  exact Run.ret hg rfl rfl
theorem rfBo (l : List Bool) : AV.rfL (l.map bof) = true := rfL_map (fun _ => rfl) l
def tk (l : List Pl) (n : Nat) : List Bool := (List.range n).map fun i : Nat => l.any fun x => x.p == (i : Int)
theorem tk_len (l : List Pl) (n : Nat) : (tk l n).length = n := by simp [tk]
theorem tk_get {l : List Pl} {n i : Nat} (h : i < n) : (tk l n)[i]? = some (l.any fun x => x.p == (i : Int)) := by simp [tk, h]
theorem tk_step (l : List Pl) (x : Pl) (n i : Nat) (hi : i < n) (hx : x.p = (i : Int)) : (tk l n).set i true = tk (l ++ [x]) n := by
  refine List.ext_getElem? fun j => ?_
  rw [List.getElem?_set]
  by_cases hj : j < n
  · rw [tk_get hj, tk_get hj, List.any_append]
    by_cases e : i = j
    · subst e
      simp [tk_len, hi, hx]
    · rw [if_neg e]
      have : (x.p == (j : Int)) = false := by simp [hx]; omega
      simp [this]
  · rw [if_neg (by omega), List.getElem?_eq_none (by rw [tk_len]; omega), List.getElem?_eq_none (by rw [tk_len]; omega)]
noncomputable def X68 : Fx := ⟨Tryz.prog, tys, 68, Tryz.f68, [0]⟩
theorem X68_ok : X68.Ok := ⟨Tryz.func68, tys_ok⟩
theorem taken_ct (r : Rk) (ex : Bool) (n : Nat) (hn : r.pl = (n : Int)) (hn1 : n ≤ 60) (hlen : r.bs.length ≤ 1048576) (hb : ∀ x ∈ r.bs, 0 ≤ x.p ∧ x.p < n) : Ct Tryz.prog 68 [rkR ex r] (.own 1 true ((tk r.bs n).map bof)) [] := by
  obtain ⟨pl, l⟩ := r
  simp only at hn hlen hb
  subst hn
  refine Ct.intro X68 X68_ok rfl (by kernel_rfl) rfl rfl fun g hg => ?_
  repeat (refine Run.go rfl ?_)
  refine Run.make rfl rfl rfl rfl rfl rfl rfl rfl rfl rfl (by omega) (by show _ * 1 ≤ _; omega) rfl ?_
  repeat (refine Run.go rfl ?_)
  refine Run.loop (fun j : Nat => ⟨[(3, .own 1 true ((tk (l.take j) n).map bof)), (10, .ro 9 ex (l.map plA)), (11, i64 l.length), (12, i64 j)], []⟩) (fun j => j ≤ l.length) (fun j => l.length - j) 0 (by omega) ?_ ?_
  · refine St.Le.mk' ⟨?_, rfl, ?_, rfl, trivial⟩ trivial
    · show AV.own 1 true (List.replicate n (bo false)) = _
      congr 1
      refine List.ext_getElem? fun j => ?_
      by_cases hj : j < n
      · rw [List.getElem?_map, List.take_zero, tk_get hj]
        simp [hj]
        rfl
      · rw [List.getElem?_eq_none (by simp; omega), List.getElem?_eq_none (by rw [List.length_map, tk_len]; omega)]
    · show i64 _ = _
      simp
  intro j hj IH
  repeat (refine Run.go rfl ?_)
  refine Run.cond rfl (fun h => ?_) (fun h => ?_)
  · have hlt : j < l.length := by simpa using h
    obtain ⟨hx0, hx1⟩ := hb l[j] (by simp)
    obtain ⟨i, hi⟩ : ∃ i : Nat, l[j].p = (i : Int) := ⟨l[j].p.toNat, by omega⟩
    have hin : i < n := by omega
    have hst : tk (l.take (j + 1)) n = (tk (l.take j) n).set i true := by
      rw [List.take_succ_eq_append_getElem hlt, tk_step _ _ _ _ hin hi]
    have htl := tk_len (l.take j) n
    obtain ⟨ob, hob⟩ : ∃ ob : Bool, (tk (l.take j) n)[i]? = some ob := ⟨_, tk_get hin⟩
    generalize tk (l.take j) n = D at hst htl hob
    repeat (refine Run.go rfl ?_)
    refine Run.val rfl rfl rfl (ValOk.idx (plA l[j]) rfl rfl rfl rfl rfl (by omega) (by simp [hlt])) rfl ?_
    repeat (refine Run.go rfl ?_)
    refine Run.val rfl rfl rfl (ValOk.idxv (m := (i : Int)) rfl rfl rfl rfl rfl (by show AV.lit (.int .i16 l[j].p) = _; rw [hi]) (by omega) (by rw [List.length_map, htl]; omega)) rfl ?_
    refine Run.storee (bof ob) (bof true) rfl rfl rfl rfl rfl rfl rfl (by rw [List.getElem?_map, Nat.zero_add, Int.toNat_natCast, hob]; rfl) rfl rfl rfl ?_
    repeat (refine Run.go rfl ?_)
    refine Run.pack 3 rfl rfl (by simp) ?_
    refine Run.of (IH (j + 1) (by omega) (by omega)) ⟨?_, rfl, rfl, ?_, trivial⟩ trivial
    · show AV.own _ _ _ = AV.own _ _ _
      rw [hst, List.map_set, Nat.zero_add, Int.toNat_natCast]
    · show i64 _ = _
      rw [wrap_i64 (by omega) (by omega)]
      rfl
  · have hj' : j = l.length := by simp at h; omega
    subst hj'
    repeat (refine Run.go rfl ?_)
    refine Run.pack 2 rfl rfl rfl ?_
    refine Run.ret hg rfl ?_
    rw [List.take_length]
    rfl
theorem vR_pl {r : Rk} (h : vR r = true) : (1 ≤ r.pl ∧ r.pl ≤ 60) ∧ ∀ x ∈ r.bs, (0 ≤ x.p ∧ x.p < r.pl) ∧ vB x.b = true := by
  simp only [vR, Bool.and_eq_true, List.all_eq_true, vPl, inr, decide_eq_true_eq] at h
  refine ⟨h.1.1.1, fun x hx => ?_⟩
  have := h.1.2 x hx
  exact ⟨⟨this.1.1, by omega⟩, this.2⟩
def tkRes (r : Rk) (at' : Int) : Rk × Int := if vR r = true then (if inr at' 0 (r.pl - 1) = true then (if (r.bs.any fun x => x.p == at') = true then (⟨r.pl, r.bs.filter fun x => !(x.p == at')⟩, 0) else (rk0, 6)) else (rk0, 2)) else (rk0, 1)
def rkRes (r : Rk × Int) : AV := .tup [rkO false r.1, i64 r.2]
theorem lt_pl (L : List Pl) : (flatc (L.map plA)).all isLT = true := by
  induction L with
  | nil => rfl
  | cons x r ih =>
    rw [List.map_cons, show flatc (plA x :: r.map plA) = (plA x).cells ++ flatc (r.map plA) from rfl, List.all_append, ih]
    rfl
noncomputable def X95 : Fx := ⟨Tryz.prog, tys, 95, Tryz.f95, []⟩
theorem X95_ok : X95.Ok := ⟨Tryz.func95, tys_ok⟩
theorem deleteP_ct (L : List Pl) (ex : Bool) (f : Nat) (cs : List AV) (p : Pl → Bool) (hlen : L.length ≤ 1048576) (hf : ∀ x ∈ L, Ct Tryz.prog f [plA x, .rp cs 0] (bo (p x)) []) :
    Ct Tryz.prog 95 [.own 9 ex (L.map plA), .fn f [.rp cs 0]] (.own 9 false ((L.filter fun x => !p x).map plA)) [] := by
  refine Ct.intro X95 X95_ok rfl (by kernel_rfl) rfl rfl fun g hg => ?_
  repeat (refine Run.go rfl ?_)
  refine Run.cs rfl (indexP_ct L ex f [.rp cs 0] p hlen rfl hf) (by rw [frzP, decide_eq_true (by simp)]; rfl) rfl ?_
  repeat (refine Run.go rfl ?_)
  refine Run.cond rfl (fun h => ?_) (fun h => ?_)
  · have h : fi p L = -1 := by simpa using h
    have hnone : L.filter (fun x => !p x) = L := by
      rw [List.filter_eq_self]
      intro x hx
      have hany : L.any p = false := by
        rw [← fi_nonneg, h]
        rfl
      have := List.any_eq_false.1 hany x hx
      simpa using this
    repeat (refine Run.go rfl ?_)
    refine Run.packTake 4 rfl rfl (Nat.le_refl _) ?_
    refine Run.ret hg rfl ?_
    rw [hnone, List.take_length]
    rfl
  have h : fi p L ≠ -1 := by simpa using h
  have hi0 : L.findIdx p < L.length := by
    unfold fi at h
    split at h
    · assumption
    · exact absurd rfl h
  have hfi : fi p L = (L.findIdx p : Int) := by
    unfold fi
    rw [if_pos hi0]
  have hpi : p (L[L.findIdx p]) = true := List.findIdx_getElem
  have hfl0 : (L.take (L.findIdx p + 1)).filter (fun x => !p x) = L.take (L.findIdx p) := by
    rw [List.take_succ_eq_append_getElem hi0, List.filter_append, List.filter_cons, hpi]
    simp only [Bool.not_true, Bool.false_eq_true, if_false, List.filter_nil, List.append_nil]
    rw [List.filter_eq_self]
    intro x hx
    obtain ⟨q, hq, rfl⟩ := List.getElem_of_mem hx
    have hq2 : q < L.findIdx p := by simp at hq; omega
    have := List.not_of_lt_findIdx hq2
    simp only [List.getElem_take]
    simpa using this
  rw [hfi]
  generalize L.findIdx p = i0 at hi0 hfl0
  repeat (refine Run.go rfl ?_)
  refine Run.loop (fun j : Nat => ⟨[(0, .vec (0, 0) 0 L.length), (1, .fn f [.rp cs 0]), (5, i64 ((L.take j).filter (fun x => !p x)).length), (6, i64 j)], [((0, 0), .vec 9 ex (((L.take j).filter (fun x => !p x) ++ L.drop ((L.take j).filter (fun x => !p x)).length).map plA))]⟩)
    (fun j => j ≤ L.length ∧ ((L.take j).filter (fun x => !p x)).length < j) (fun j => L.length - j) (i0 + 1) ⟨by omega, by rw [hfl0]; simp; omega⟩ ?_ ?_
  · refine St.Le.mk' ⟨?_, rfl, ?_, ?_, trivial⟩ ⟨?_, trivial⟩
    · show AV.vec _ _ (L.map plA).length = _
      rw [List.length_map]
    · show i64 (i0 : Int) = i64 _
      rw [hfl0, List.length_take, Nat.min_eq_left (by omega)]
    · show i64 _ = _
      rw [wrap_i64 (by omega) (by omega)]
      rfl
    · show Ob.vec _ _ _ = Ob.vec _ _ _
      rw [hfl0, List.length_take, Nat.min_eq_left (by omega), List.take_append_drop]
  rintro j ⟨hj, hlt0⟩ IH
  obtain ⟨fl, hfl⟩ : ∃ fl, fl = (L.take j).filter (fun x => !p x) := ⟨_, rfl⟩
  rw [← hfl] at hlt0
  rw [← hfl]
  repeat (refine Run.go rfl ?_)
  refine Run.cond rfl (fun h => ?_) (fun h => ?_)
  · have hlt : j < L.length := by simpa using h
    have hat : ((fl ++ L.drop fl.length).map plA)[0 + (j : Int).toNat]? = some (plA L[j]) := by
      rw [List.getElem?_map, Nat.zero_add, Int.toNat_natCast, List.getElem?_append_right (by omega), List.getElem?_drop, show fl.length + (j - fl.length) = j by omega, List.getElem?_eq_getElem hlt]
      rfl
    have hat2 : ((fl ++ L.drop fl.length).map plA)[0 + (fl.length : Int).toNat]? = some (plA (L[fl.length]'(by omega))) := by
      rw [List.getElem?_map, Nat.zero_add, Int.toNat_natCast, List.getElem?_append_right (by omega), List.getElem?_drop, Nat.sub_self, Nat.add_zero, List.getElem?_eq_getElem (by omega)]
      rfl
    have hnext : (L.take (j + 1)).filter (fun x => !p x) = if p L[j] = true then fl else fl ++ [L[j]] := by
      rw [List.take_succ_eq_append_getElem hlt, List.filter_append, ← hfl, List.filter_cons]
      cases p L[j] <;> simp
    have hseta : ((fl ++ L.drop fl.length).map plA).set (0 + (fl.length : Int).toNat) (plA L[j]) = (fl ++ [L[j]] ++ L.drop (fl.length + 1)).map plA := by
      rw [← List.map_set, Nat.zero_add, Int.toNat_natCast, List.set_append, if_neg (by omega), Nat.sub_self, List.append_assoc]
      congr 2
      rw [List.drop_eq_getElem_cons (i := fl.length) (by omega)]
      rfl
    have hml : 0 + (j : Int) < (L.length : Int) := by omega
    have hcl : ((fl ++ L.drop fl.length).map plA).length = L.length := by simp; omega
    generalize hC : (fl ++ L.drop fl.length).map plA = C at hat hat2 hseta hcl
    repeat (refine Run.go rfl ?_)
    refine Run.val rfl rfl rfl (ValOk.idxv rfl rfl rfl rfl rfl rfl (by omega) (by omega)) rfl ?_
    repeat (refine Run.go rfl ?_)
    refine Run.val rfl rfl rfl (ValOk.loadv (plA L[j]) rfl rfl rfl rfl hat rfl) rfl ?_
    repeat (refine Run.go rfl ?_)
    refine Run.cs rfl (hf L[j] (by simp)) rfl rfl ?_
    repeat (refine Run.go rfl ?_)
    refine Run.cond rfl (fun h => ?_) (fun h => ?_)
    · have h : p L[j] = false := by simpa using h
      rw [if_neg (by rw [h]; decide)] at hnext
      repeat (refine Run.go rfl ?_)
      refine Run.val rfl rfl rfl (ValOk.idxv rfl rfl rfl rfl rfl rfl (by omega) (by omega)) rfl ?_
      refine Run.storee (plA (L[fl.length]'(by omega))) (plA L[j]) rfl rfl rfl rfl rfl rfl rfl hat2 rfl rfl rfl ?_
      repeat (refine Run.go rfl ?_)
      refine Run.of (IH (j + 1) ⟨by omega, by rw [hnext]; simp; omega⟩ (by omega)) ⟨rfl, rfl, ?_, ?_, trivial⟩ ⟨?_, trivial⟩
      · show i64 _ = i64 _
        rw [wrap_i64 (by omega) (by omega), hnext]
        congr 1
        simp
      · show i64 _ = _
        rw [wrap_i64 (by omega) (by omega)]
        rfl
      · show Ob.vec _ _ _ = Ob.vec _ _ _
        rw [hseta, hnext]
        congr 3
        simp
    · have h : p L[j] = true := by simpa using h
      rw [if_pos h] at hnext
      repeat (refine Run.go rfl ?_)
      refine Run.of (IH (j + 1) ⟨by omega, by rw [hnext]; omega⟩ (by omega)) ⟨rfl, rfl, ?_, ?_, trivial⟩ ⟨?_, trivial⟩
      · show i64 _ = i64 _
        rw [hnext]
      · show i64 _ = _
        rw [wrap_i64 (by omega) (by omega)]
        rfl
      · show Ob.vec _ _ _ = Ob.vec _ _ _
        rw [hnext, hC]
  · have hj' : j = L.length := by simp at h; omega
    subst hj'
    rw [List.take_length] at hfl
    have hcl : ((fl ++ L.drop fl.length).map plA).length = L.length := by simp; omega
    repeat (refine Run.go rfl ?_)
    refine Run.val rfl rfl rfl (ValOk.cutv rfl rfl rfl rfl rfl rfl rfl (by omega) (by omega) (by omega)) rfl ?_
    refine Run.clearv (plA pl0) rfl rfl rfl rfl rfl rfl rfl rfl rfl rfl rfl rfl (lt_pl _) (by rw [hcl]; omega) ?_
    repeat (refine Run.go rfl ?_)
    refine Run.val rfl rfl rfl (ValOk.cutv rfl rfl rfl rfl rfl rfl rfl (by omega) (by omega) (by omega)) rfl ?_
    repeat (refine Run.go rfl ?_)
    refine Run.packTake 4 rfl rfl (by first | (simp; done) | (simp; omega)) ?_
    refine Run.ret hg rfl ?_
    rw [← hfl]
    show AV.own _ _ _ = AV.own _ _ _
    congr 1
    simp only [Int.toNat_natCast, Int.toNat_zero, Nat.sub_zero, Nat.zero_add]
    rw [List.append_assoc, List.take_append_of_le_length (by simp), List.take_take, Nat.min_self, List.map_append, List.take_append_of_le_length (by simp), List.take_of_length_le (by simp)]
noncomputable def X96 : Fx := ⟨Tryz.prog, tys, 96, Tryz.f96, [0, 1]⟩
theorem X96_ok : X96.Ok := ⟨Tryz.func96, tys_ok⟩
theorem takeBook1_ct (x : Pl) (a : Int) (h : i16r x.p) : Ct Tryz.prog 96 [plA x, .rp [i64 a] 0] (bo (x.p == a)) [] := by
  refine Ct.intro X96 X96_ok rfl (by kernel_rfl) rfl rfl fun g hg => ?_
  repeat (refine Run.go rfl ?_)
  refine Run.draw (by kernel_rfl) (by decide +kernel) ?_
  repeat (refine Quiet.go rfl ?_)
  refine Quiet.cs rfl rfl rfl rfl rfl (place_ct x h) rfl rfl ?_
  repeat (refine Quiet.go rfl ?_)
  refine Quiet.nil ?_
  repeat (refine Run.go rfl ?_)
  exact Run.ret hg rfl rfl
noncomputable def X22 : Fx := ⟨Tryz.prog, tys, 22, Tryz.f22, [1]⟩
theorem X22_ok : X22.Ok := ⟨Tryz.func22, tys_ok⟩
theorem implTakeBook_ct (r : Rk) (ex : Bool) (a : Int) (hr : rkOk r) : Ct Tryz.prog 22 [rkR ex r, i64 a] (rkRes (tkRes r a)) [] := by
  have hlen := hr.1.2
  have hpr := hr.1.1
  unfold i16r at hpr
  refine Ct.intro X22 X22_ok rfl (by kernel_rfl) rfl rfl fun g hg => ?_
  repeat (refine Run.go rfl ?_)
  refine Run.cs rfl (implValidRack_ct r ex hr) rfl rfl ?_
  repeat (refine Run.go rfl ?_)
  refine Run.cond rfl (fun h => ?_) (fun h => ?_)
  · have h : vR r = false := by simpa using h
    repeat (refine Run.go rfl ?_)
    refine Run.val rfl rfl rfl (ValOk.build rfl rfl rfl rfl rfl) rfl ?_
    repeat (refine Run.go rfl ?_)
    refine Run.nilBox (4, 0) 1 9 false rfl rfl ?_
    refine Run.ret hg rfl ?_
    rw [tkRes, if_neg (by rw [h]; decide)]
    rfl
  have hv : vR r = true := by simpa using h
  obtain ⟨hpl, hbs⟩ := vR_pl hv
  obtain ⟨n, hn⟩ : ∃ n : Nat, r.pl = (n : Int) := ⟨r.pl.toNat, by omega⟩
  have hw1 : IntKind.i64.wrap r.pl = r.pl := wrap_i64 (by omega) (by omega)
  have hw2 : IntKind.i64.wrap (r.pl - 1) = r.pl - 1 := wrap_i64 (by omega) (by omega)
  repeat (refine Run.go rfl ?_)
  refine Run.cs rfl (within64_ct a 0 (r.pl - 1)) (by show [i64 _, i64 _, i64 _] = _; rw [hw1, hw2]) rfl ?_
  repeat (refine Run.go rfl ?_)
  refine Run.cond rfl (fun h => ?_) (fun h => ?_)
  · have h : inr a 0 (r.pl - 1) = false := by simpa using h
    repeat (refine Run.go rfl ?_)
    refine Run.val rfl rfl rfl (ValOk.build rfl rfl rfl rfl rfl) rfl ?_
    repeat (refine Run.go rfl ?_)
    refine Run.nilBox (4, 0) 1 9 false rfl rfl ?_
    refine Run.ret hg rfl ?_
    rw [tkRes, if_pos hv, if_neg (by rw [h]; decide)]
    rfl
  have hin : inr a 0 (r.pl - 1) = true := by simpa using h
  have ha : 0 ≤ a ∧ a ≤ r.pl - 1 := by simpa [inr] using hin
  obtain ⟨i, hi⟩ : ∃ i : Nat, a = (i : Int) := ⟨a.toNat, by omega⟩
  repeat (refine Run.go rfl ?_)
  refine Run.drawn [[0, 1, 2, 3, 4, 5, 6], [0, 2, 1, 3, 4, 5, 6], [2, 0, 1, 3, 4, 5, 6]]
    ⟨[(2, .bp (2, 0) 0), (3, .bp (3, 0) 0), (4, .bp (4, 0) 0), (21, bo (!(r.bs.any fun x => x.p == (i : Int))))], [((2, 0), .box (rkR ex r).cells), ((3, 0), .box [i64 a]), ((4, 0), .box [i16 0, .lit (.slice none 0 0)])]⟩ (by decide +kernel) (by kernel_rfl) ?_ fun _ hN => ⟨?_, ?_, ?_, trivial⟩
  rotate_left
  iterate 3
    · repeat (refine Run.go rfl ?_)
      refine Run.cs rfl (taken_ct r ex n hn (by omega) hlen fun x hx => by have := (hbs x hx).1; omega) rfl (rfBo _) ?_
      refine Run.unpack 23 rfl rfl ?_
      repeat (refine Run.go rfl ?_)
      refine Run.val rfl rfl rfl (ValOk.idxv (m := (i : Int)) rfl rfl rfl rfl rfl (by show AV.lit (.int .i64 a) = _; rw [hi]) (by omega) (by rw [List.length_map, tk_len]; omega)) rfl ?_
      refine Run.val rfl rfl rfl (ValOk.loadv (bof (r.bs.any fun x => x.p == (i : Int))) rfl rfl rfl rfl (by rw [List.getElem?_map, Nat.zero_add, Int.toNat_natCast, tk_get (by omega)]; rfl) rfl) rfl ?_
      repeat (refine Run.go rfl ?_)
      exact Run.of hN ⟨rfl, rfl, rfl, rfl, trivial⟩ ⟨rfl, rfl, rfl, trivial⟩
  refine Run.cond rfl (fun h => ?_) (fun h => ?_)
  · have h : (r.bs.any fun x => x.p == (i : Int)) = false := by simpa using h
    repeat (refine Run.go rfl ?_)
    refine Run.val rfl rfl rfl (ValOk.build rfl rfl rfl rfl rfl) rfl ?_
    repeat (refine Run.go rfl ?_)
    refine Run.nilBox (4, 0) 1 9 false rfl rfl ?_
    refine Run.ret hg rfl ?_
    rw [tkRes, if_pos hv, if_pos hin, if_neg (by rw [hi, h]; decide)]
    rfl
  have hany : (r.bs.any fun x => x.p == (i : Int)) = true := by simpa using h
  iterate 2 (refine Run.go rfl ?_)
  refine Run.freezeBox 3 (3, 0) [i64 a] rfl rfl rfl rfl ?_
  repeat (refine Run.go rfl ?_)
  refine Run.cs rfl (rkOwn_ct r ex hlen) rfl (rk_rf _ _) ?_
  refine Run.unagg 30 1 (30, 1) rfl rfl rfl ?_
  repeat (refine Run.go rfl ?_)
  refine Run.callg (30, 1) rfl rfl rfl rfl rfl rfl rfl rfl rfl rfl rfl rfl (deleteP_ct r.bs false _ [i64 a] (fun x => x.p == a) hlen fun x hx => takeBook1_ct x a (hr.2 x hx).1) rfl ?_
  refine Run.unpack 34 rfl rfl ?_
  repeat (refine Run.go rfl ?_)
  refine Run.packBox (4, 0) 1 rfl rfl rfl rfl ?_
  refine Run.ret hg rfl ?_
  rw [tkRes, if_pos hv, if_pos hin, if_pos (by rw [hi]; exact hany)]
  rfl
noncomputable def X146 : Fx := ⟨Tryz.prog, tys, 146, Tryz.f146, [0]⟩
theorem X146_ok : X146.Ok := ⟨Tryz.func146, tys_ok⟩
theorem l05Places_ct (n : Int) : Ct Tryz.prog 146 [i64 n] (bo (inr n 1 60)) [] := by
  refine Ct.intro X146 X146_ok rfl rfl rfl rfl fun g hg => ?_
  repeat (refine Run.go rfl ?_)
  refine Run.cs rfl (l00In_ct n 1 60) rfl rfl ?_
  repeat (refine Run.go rfl ?_)
  exact Run.ret hg rfl rfl
def bad (n : Int) (l : List Pl) (j : Nat) : Bool := !vPl n (l.getD j pl0) || (decide (0 < j) && (decide ((l.getD j pl0).p ≤ (l.getD (j - 1) pl0).p) || decide (uc (l.getD j pl0).b (l.getD (j - 1) pl0).b < 0)))
theorem getD_pl {l : List Pl} {j : Nat} (h : j < l.length) : l.getD j pl0 = l[j] := by simp [h]
theorem vR_bad (r : Rk) : vR r = (inr r.pl 1 60 && !(List.range r.bs.length).any (bad r.pl r.bs)) := by
  obtain ⟨n, l⟩ := r
  show (inr n 1 60 && rs (pps l) && l.all (vPl n) && srt (pbs l)) = _
  have key : (rs (pps l) && l.all (vPl n) && srt (pbs l)) = !(List.range l.length).any (bad n l) := by
    rw [Bool.eq_iff_iff]
    simp only [Bool.and_eq_true, Bool.not_eq_true', List.any_eq_false, List.mem_range, rs, srt, List.all_eq_true, pps_len, pbs_len]
    constructor
    · rintro ⟨⟨h1, h2⟩, h3⟩ j hj
      have hv : vPl n (l.getD j pl0) = true := by rw [getD_pl hj]; exact h2 _ (by simp)
      unfold bad
      rw [hv]
      simp only [Bool.not_true, Bool.false_or, Bool.and_eq_true, Bool.or_eq_true, decide_eq_true_eq, not_and, not_or]
      intro h0
      have a1 := h1 (j - 1) (by omega)
      have a2 := h3 (j - 1) (by omega)
      have e1 : j - 1 + 1 = j := by omega
      simp only [rsP, pps, decide_eq_true_eq, e1] at a1
      rw [ooo_at (by rw [pbs_len]; omega)] at a2
      simp only [decide_eq_true_eq, e1] at a2
      have g1 : (l.map (·.p)).getD j 0 = (l.getD j pl0).p := by rw [getD_pl hj]; simp [hj]
      have g2 : (l.map (·.p)).getD (j - 1) 0 = (l.getD (j - 1) pl0).p := by rw [getD_pl (by omega)]; simp [show j - 1 < l.length by omega]
      rw [g1, g2] at a1
      have g3 : (pbs l)[j]'(by rw [pbs_len]; exact hj) = (l.getD j pl0).b := by rw [getD_pl hj]; simp [pbs]
      have g4 : (pbs l)[j - 1]'(by rw [pbs_len]; omega) = (l.getD (j - 1) pl0).b := by rw [getD_pl (by omega)]; simp [pbs]
      rw [← g3, ← g4]
      exact ⟨by omega, a2⟩
    · intro h
      refine ⟨⟨fun j hj => ?_, fun x hx => ?_⟩, fun j hj => ?_⟩
      · have := h (j + 1) (by omega)
        simp only [bad, Bool.or_eq_true, Bool.and_eq_true, decide_eq_true_eq, not_or, not_and, Nat.add_sub_cancel] at this
        have a1 := (this.2 (by omega)).1
        rw [getD_pl (show j + 1 < l.length by omega), getD_pl (show j < l.length by omega)] at a1
        simp only [rsP, pps, decide_eq_true_eq]
        simp [show j + 1 < l.length by omega, show j < l.length by omega]
        omega
      · obtain ⟨j, hj, rfl⟩ := List.getElem_of_mem hx
        have := h j hj
        simp only [bad, Bool.or_eq_true, not_or, getD_pl hj] at this
        simpa using this.1
      · have := h (j + 1) (by omega)
        simp only [bad, Bool.or_eq_true, Bool.and_eq_true, decide_eq_true_eq, not_or, not_and, Nat.add_sub_cancel] at this
        have a1 := (this.2 (by omega)).2
        rw [getD_pl (show j + 1 < l.length by omega), getD_pl (show j < l.length by omega)] at a1
        rw [ooo_at (by rw [pbs_len]; omega)]
        simp only [decide_eq_true_eq]
        simpa [pbs] using a1
  rw [← key]
  cases inr n 1 60 <;> simp [Bool.and_assoc]
theorem l01BookAt_ct (x : Pl) (hr : bkRng x.b) : Ct Tryz.prog 72 [.rp (plA x).cells 1] (bo (vB x.b)) [] := Ct.norm (l01Book_ct x.b hr)
theorem l01UsualAt_ct (x y : Pl) (hx : bkRng x.b) (hy : bkRng y.b) : Ct Tryz.prog 120 [.rp (plA x).cells 1, .rp (plA y).cells 1] (i64 (uc x.b y.b)) [] := Ct.norm (l01Usual_ct x.b y.b hx hy)
noncomputable def X71 : Fx := ⟨Tryz.prog, tys, 71, Tryz.f71, [0]⟩
theorem X71_ok : X71.Ok := ⟨Tryz.func71, tys_ok⟩
theorem l05Ok_ct (r : Rk) (ex : Bool) (hr : rkOk r) : Ct Tryz.prog 71 [.rp (rkR ex r).cells 0] (bo (vR r)) [] := by
  have hlen := hr.1.2
  have hpr := hr.1.1
  unfold i16r at hpr
  have hw : IntKind.i64.wrap r.pl = r.pl := wrap_i64 (by omega) (by omega)
  have hw2 : IntKind.i64.wrap (r.pl - 1) = r.pl - 1 := wrap_i64 (by omega) (by omega)
  rw [vR_bad]
  refine Ct.intro X71 X71_ok rfl (by kernel_rfl) rfl rfl fun g hg => ?_
  repeat (refine Run.go rfl ?_)
  refine Run.cs rfl (l05Places_ct r.pl) (by show [i64 _] = _; rw [hw]) rfl ?_
  repeat (refine Run.go rfl ?_)
  refine Run.cond rfl (fun h => ?_) (fun h => ?_)
  · have h : inr r.pl 1 60 = false := by simpa using h
    repeat (refine Run.go rfl ?_)
    refine Run.ret hg rfl ?_
    rw [h]
    rfl
  have hn : inr r.pl 1 60 = true := by simpa using h
  repeat (refine Run.go rfl ?_)
  refine Run.loop (fun j : Nat => ⟨[(0, .rp (rkR ex r).cells 0), (3, i64 j)], []⟩) (fun j => j ≤ r.bs.length ∧ ∀ i, i < j → bad r.pl r.bs i = false) (fun j => r.bs.length - j) 0 ⟨by omega, fun i h => by omega⟩ ?_ ?_
  · exact St.Le.mk' ⟨rfl, rfl, trivial⟩ trivial
  rintro j ⟨hj, hall⟩ IH
  repeat (refine Run.go rfl ?_)
  refine Run.cond rfl (fun h => ?_) (fun h => ?_)
  · have hlt : j < r.bs.length := by simpa using h
    have hxr := hr.2 r.bs[j] (by simp)
    have hxp := hxr.1
    unfold i16r at hxp
    have hwp : IntKind.i64.wrap r.bs[j].p = r.bs[j].p := wrap_i64 (by omega) (by omega)
    have hbadT : bad r.pl r.bs j = true → (inr r.pl 1 60 && !(List.range r.bs.length).any (bad r.pl r.bs)) = false := by
      intro hb
      rw [List.any_eq_true.2 ⟨j, List.mem_range.2 hlt, hb⟩, Bool.not_true, Bool.and_false]
    repeat (refine Run.go rfl ?_)
    refine Run.val rfl rfl rfl (ValOk.idx (plA r.bs[j]) rfl rfl rfl rfl rfl (by omega) (by simp [hlt])) rfl ?_
    repeat (refine Run.go rfl ?_)
    refine Run.cs rfl (l00In_ct r.bs[j].p 0 (r.pl - 1)) (by show [i64 _, i64 _, i64 _] = _; rw [hwp, hw, hw2]) rfl ?_
    repeat (refine Run.go rfl ?_)
    refine Run.bool 39 rfl (fun h1 => ?_) (fun h1 => ?_)
    · have h1 : inr r.bs[j].p 0 (r.pl - 1) = false := by simpa using h1
      repeat (refine Run.go rfl ?_)
      refine Run.cond rfl (fun h => ?_) (fun h => by simp at h)
      repeat (refine Run.go rfl ?_)
      refine Run.ret hg rfl ?_
      rw [hbadT (by rw [bad, getD_pl hlt, vPl, h1]; rfl)]
      rfl
    have h1 : inr r.bs[j].p 0 (r.pl - 1) = true := by simpa using h1
    repeat (refine Run.go rfl ?_)
    refine Run.val rfl rfl rfl (ValOk.idx (plA r.bs[j]) rfl rfl rfl rfl rfl (by omega) (by simp [hlt])) rfl ?_
    repeat (refine Run.go rfl ?_)
    refine Run.cs rfl (l01BookAt_ct r.bs[j] hxr.2) rfl rfl ?_
    repeat (refine Run.go rfl ?_)
    refine Run.cond rfl (fun h => ?_) (fun h2 => ?_)
    · have h : vB r.bs[j].b = false := by simpa using h
      repeat (refine Run.go rfl ?_)
      refine Run.ret hg rfl ?_
      rw [hbadT (by rw [bad, getD_pl hlt, vPl, h1, h]; rfl)]
      rfl
    have h2 : vB r.bs[j].b = true := by simpa using h2
    have hvp : vPl r.pl r.bs[j] = true := by rw [vPl, h1, h2]; rfl
    repeat (refine Run.go rfl ?_)
    refine Run.drawS ⟨[(0, .rp (rkR ex r).cells 0), (3, i64 j), (84, bo (bad r.pl r.bs j))], []⟩ (by kernel_rfl) (by decide +kernel) ?_ ?_
    · repeat (refine Quiet.go rfl ?_)
      refine Quiet.bool 52 rfl (fun h0 => ?_) (fun h0 => ?_)
      · have h0 : 0 < j := by simpa using h0
        have hj1 : j - 1 < r.bs.length := by omega
        have hyr := hr.2 r.bs[j - 1] (by simp)
        have hyp := hyr.1
        unfold i16r at hyp
        have hwy : IntKind.i64.wrap r.bs[j - 1].p = r.bs[j - 1].p := wrap_i64 (by omega) (by omega)
        have hwj : IntKind.i64.wrap ((j : Int) - 1) = (j - 1 : Nat) := by rw [wrap_i64 (by omega) (by omega)]; omega
        have hbd : bad r.pl r.bs j = (decide (r.bs[j].p ≤ r.bs[j - 1].p) || decide (uc r.bs[j].b r.bs[j - 1].b < 0)) := by
          rw [bad, getD_pl hlt, getD_pl hj1, hvp, decide_eq_true h0]
          rfl
        rw [hbd]
        repeat (refine Quiet.go rfl ?_)
        refine Quiet.val rfl rfl (ValOk.idx (m := (j - 1 : Nat)) (plA r.bs[j - 1]) rfl rfl rfl rfl (by show i64 (IntKind.i64.wrap ((j : Int) - 1)) = _; rw [hwj]) (by omega) (by rw [Int.toNat_natCast, List.getElem?_map, List.getElem?_eq_getElem hj1]; rfl)) rfl ?_
        repeat (refine Quiet.go rfl ?_)
        refine Quiet.bool (b := decide (r.bs[j].p ≤ r.bs[j - 1].p)) 65 (by show bo (decide (IntKind.i64.wrap r.bs[j].p ≤ IntKind.i64.wrap r.bs[j - 1].p)) = _; rw [hwp, hwy]) (fun h3 => ?_) (fun h3 => ?_)
        · repeat (refine Quiet.go rfl ?_)
          rw [h3]
          exact Quiet.nil (St.Le.mk' ⟨rfl, rfl, rfl, trivial⟩ trivial)
        · repeat (refine Quiet.go rfl ?_)
          refine Quiet.val rfl rfl (ValOk.idx (plA r.bs[j]) rfl rfl rfl rfl rfl (by omega) (by simp [hlt])) rfl ?_
          repeat (refine Quiet.go rfl ?_)
          refine Quiet.val rfl rfl (ValOk.idx (m := (j - 1 : Nat)) (plA r.bs[j - 1]) rfl rfl rfl rfl (by show i64 (IntKind.i64.wrap ((j : Int) - 1)) = _; rw [hwj]) (by omega) (by rw [Int.toNat_natCast, List.getElem?_map, List.getElem?_eq_getElem hj1]; rfl)) rfl ?_
          repeat (refine Quiet.go rfl ?_)
          refine Quiet.cs rfl rfl rfl rfl rfl (l01UsualAt_ct r.bs[j] r.bs[j - 1] hxr.2 hyr.2) rfl rfl ?_
          repeat (refine Quiet.go rfl ?_)
          rw [h3]
          exact Quiet.nil (St.Le.mk' ⟨rfl, rfl, rfl, trivial⟩ trivial)
      · have h0 : j = 0 := by simp at h0; omega
        subst h0
        repeat (refine Quiet.go rfl ?_)
        refine Quiet.nil (St.Le.mk' ⟨rfl, rfl, ?_, trivial⟩ trivial)
        show bo false = bo _
        rw [bad, getD_pl hlt, hvp]
        rfl
    refine Run.cond rfl (fun h => ?_) (fun h => ?_)
    · repeat (refine Run.go rfl ?_)
      refine Run.ret hg rfl ?_
      rw [hbadT h]
      rfl
    · repeat (refine Run.go rfl ?_)
      refine Run.of (IH (j + 1) ⟨by omega, fun i hi => ?_⟩ (by omega)) ⟨rfl, ?_, trivial⟩ trivial
      · by_cases e : i = j
        · subst e; exact h
        · exact hall i (by omega)
      · show i64 _ = _
        rw [wrap_i64 (by omega) (by omega)]
        rfl
  · have hj' : j = r.bs.length := by simp at h; omega
    subst hj'
    repeat (refine Run.go rfl ?_)
    refine Run.ret hg rfl ?_
    have : (List.range r.bs.length).any (bad r.pl r.bs) = false := by
      rw [List.any_eq_false]
      intro i hi
      rw [hall i (List.mem_range.1 hi)]
      decide
    rw [hn, this]
    rfl
end Go.Proofs.YtbkelajnngdimaaGreatDoor

/- Contracts of the program's functions, and what follows from them. -/
set_option maxRecDepth 100000
namespace Go.Proofs.YtbkelajnngdimaaGreatDoor
open Go Go.Av
end Go.Proofs.YtbkelajnngdimaaGreatDoor

/- Contracts of the program's functions, and what follows from them. -/
set_option maxRecDepth 100000
namespace Go.Proofs.YtbkelajnngdimaaGreatDoor
open Go Go.Av
def ky (x : Bk) : Int := (((x.cl * 256 + x.a) * 256 + x.b) * 256 + x.c) * 65536 + x.vol
theorem cmpI_or (a b : Int) : (a < b ∧ cmpI a b = -1) ∨ (a = b ∧ cmpI a b = 0) ∨ (b < a ∧ cmpI a b = 1) := by
  unfold cmpI
  rcases Int.lt_trichotomy a b with h | h | h
  · exact .inl ⟨h, by rw [if_pos h]⟩
  · subst h; exact .inr (.inl ⟨rfl, by simp⟩)
  · exact .inr (.inr ⟨h, by rw [if_neg (by omega), if_pos h]⟩)
theorem uc_ky {x y : Bk} (hx : bkRng x) (hy : bkRng y) : (uc x y < 0 ↔ ky x < ky y) ∧ (0 < uc x y ↔ ky y < ky x) := by
  obtain ⟨x1, x2, x3, x4, x5, -⟩ := hx
  obtain ⟨y1, y2, y3, y4, y5, -⟩ := hy
  unfold u8r at x2 x3 x4 y2 y3 y4
  unfold i16r at x1 x5 y1 y5
  unfold ky
  have f0 := fc0 x y
  have f2 := fc2 x y
  rcases cmpI_or x.cl y.cl with ⟨h1, e1⟩ | ⟨h1, e1⟩ | ⟨h1, e1⟩
  · rw [uc, f0, e1, if_pos (by decide)]
    omega
  · have f1 : fc x y 1 = if cmpI x.a y.a ≠ 0 then cmpI x.a y.a else if cmpI x.b y.b ≠ 0 then cmpI x.b y.b else cmpI x.c y.c := rfl
    rw [uc, f0, e1, if_neg (by decide)]
    rcases cmpI_or x.a y.a with ⟨h2, e2⟩ | ⟨h2, e2⟩ | ⟨h2, e2⟩
    · rw [e2, if_pos (by decide)] at f1
      rw [f1, if_pos (by decide)]
      omega
    · rw [e2, if_neg (by decide)] at f1
      rcases cmpI_or x.b y.b with ⟨h3, e3⟩ | ⟨h3, e3⟩ | ⟨h3, e3⟩
      · rw [e3, if_pos (by decide)] at f1
        rw [f1, if_pos (by decide)]
        omega
      · rw [e3, if_neg (by decide)] at f1
        rcases cmpI_or x.c y.c with ⟨h4, e4⟩ | ⟨h4, e4⟩ | ⟨h4, e4⟩
        · rw [e4] at f1
          rw [f1, if_pos (by decide)]
          omega
        · rw [e4] at f1
          rw [f1, if_neg (by decide), f2]
          rcases cmpI_or x.vol y.vol with ⟨h5, e5⟩ | ⟨h5, e5⟩ | ⟨h5, e5⟩ <;> rw [e5] <;> omega
        · rw [e4] at f1
          rw [f1, if_pos (by decide)]
          omega
      · rw [e3, if_pos (by decide)] at f1
        rw [f1, if_pos (by decide)]
        omega
    · rw [e2, if_pos (by decide)] at f1
      rw [f1, if_pos (by decide)]
      omega
  · rw [uc, f0, e1, if_pos (by decide)]
    omega
def pa (l : List Pl) (i : Nat) : Int := (l.getD i pl0).p
def ba (l : List Pl) (i : Nat) : Bk := (l.getD i pl0).b
theorem pa_get {l : List Pl} {i : Nat} (h : i < l.length) : pa l i = l[i].p := by rw [pa, getD_pl h]
theorem ba_get {l : List Pl} {i : Nat} (h : i < l.length) : ba l i = l[i].b := by rw [ba, getD_pl h]
structure VR (n : Int) (l : List Pl) : Prop where
  hn : 1 ≤ n ∧ n ≤ 60
  inc : ∀ i j, i < j → j < l.length → pa l i < pa l j
  rng : ∀ i, i < l.length → 0 ≤ pa l i ∧ pa l i < n
  vb : ∀ x ∈ l, vB x.b = true
  so : ∀ i j, i < j → j < l.length → ky (ba l i) ≤ ky (ba l j)
theorem vR_VR {r : Rk} (hr : ∀ x ∈ r.bs, plRng x) : vR r = true ↔ VR r.pl r.bs := by
  obtain ⟨n, l⟩ := r
  rw [vR_bad]
  simp only [Bool.and_eq_true, Bool.not_eq_true', List.any_eq_false, List.mem_range, inr, decide_eq_true_eq]
  have hrg : ∀ i, i < l.length → bkRng (ba l i) := fun i hi => by rw [ba_get hi]; exact (hr _ (by simp)).2
  constructor
  · rintro ⟨hn, hb⟩
    have hv : ∀ j, j < l.length → vPl n (l.getD j pl0) = true := by
      intro j hj
      have := hb j hj
      simp only [bad, Bool.or_eq_true, not_or] at this
      simpa using this.1
    have hadj : ∀ j, j + 1 < l.length → pa l j < pa l (j + 1) ∧ ky (ba l j) ≤ ky (ba l (j + 1)) := by
      intro j hj
      have := hb (j + 1) hj
      simp only [bad, Bool.or_eq_true, Bool.and_eq_true, decide_eq_true_eq, not_or, not_and, Nat.add_sub_cancel] at this
      obtain ⟨h1, h2⟩ := this.2 (by omega)
      have h3 := (uc_ky (hrg (j + 1) hj) (hrg j (by omega))).1
      refine ⟨by unfold pa; omega, ?_⟩
      have : ¬ uc (ba l (j + 1)) (ba l j) < 0 := h2
      rw [h3] at this
      omega
    have hall : ∀ j i, i < j → j < l.length → pa l i < pa l j ∧ ky (ba l i) ≤ ky (ba l j) := by
      intro j
      induction j with
      | zero => intro i h; omega
      | succ j ih =>
        intro i hi hj
        have := hadj j hj
        by_cases e : i = j
        · subst e; exact this
        · have := ih i (by omega) (by omega)
          omega
    refine ⟨hn, fun i j h1 h2 => (hall j i h1 h2).1, fun i hi => ?_, fun x hx => ?_, fun i j h1 h2 => (hall j i h1 h2).2⟩
    · have := hv i hi
      simp only [vPl, inr, Bool.and_eq_true, decide_eq_true_eq] at this
      unfold pa
      omega
    · obtain ⟨j, hj, rfl⟩ := List.getElem_of_mem hx
      have := hv j hj
      rw [getD_pl hj] at this
      simp only [vPl, Bool.and_eq_true] at this
      exact this.2
  · rintro ⟨hn, h1, h2, h3, h4⟩
    refine ⟨hn, fun j hj => ?_⟩
    simp only [bad, Bool.or_eq_true, Bool.and_eq_true, decide_eq_true_eq, not_or, not_and]
    refine ⟨?_, fun h0 => ⟨?_, ?_⟩⟩
    · have := h2 j hj
      have hb := h3 (l.getD j pl0) (by rw [getD_pl hj]; simp)
      unfold pa at this
      have hv : vPl n (l.getD j pl0) = true := by
        rw [vPl, hb, Bool.and_true]
        simp only [inr, Bool.and_eq_true, decide_eq_true_eq]
        omega
      rw [hv]
      decide
    · have := h1 (j - 1) j (by omega) hj
      unfold pa at this
      omega
    · have := h4 (j - 1) j (by omega) hj
      have h3 := (uc_ky (hrg j hj) (hrg (j - 1) (by omega))).1
      have : ¬ uc (ba l j) (ba l (j - 1)) < 0 := by rw [h3]; omega
      exact this
theorem VR.ge {n : Int} {l : List Pl} (h : VR n l) : ∀ i, i < l.length → (i : Int) ≤ pa l i := by
  intro i
  induction i with
  | zero => intro hi; have := (h.rng 0 hi).1; simpa using this
  | succ i ih =>
    intro hi
    have := ih (by omega)
    have := h.inc i (i + 1) (by omega) hi
    omega
theorem VR.len {n : Int} {l : List Pl} (h : VR n l) : (l.length : Int) ≤ n := by
  by_cases h0 : l.length = 0
  · have := h.hn; omega
  · have h1 := h.ge (l.length - 1) (by omega)
    have h2 := (h.rng (l.length - 1) (by omega)).2
    omega
def fr (l : List Pl) (k : Nat) : Int := if 0 < k then pa l (k - 1) + 1 else 0
def too (n : Int) (l : List Pl) (k : Nat) : Int := if k < l.length then pa l k else n
def rm (n : Int) (l : List Pl) (k : Nat) : Int := too n l k - fr l k
theorem VR.rm0 {n : Int} {l : List Pl} (h : VR n l) {k : Nat} (hk : k ≤ l.length) : 0 ≤ rm n l k ∧ 0 ≤ fr l k ∧ fr l k ≤ n ∧ too n l k ≤ n := by
  unfold rm too fr
  have hn := h.hn
  by_cases h0 : 0 < k
  · rw [if_pos h0]
    have h1 := h.rng (k - 1) (by omega)
    by_cases h2 : k < l.length
    · rw [if_pos h2]
      have := h.inc (k - 1) k (by omega) h2
      have := h.rng k h2
      omega
    · rw [if_neg h2]; omega
  · rw [if_neg h0]
    by_cases h2 : k < l.length
    · rw [if_pos h2]
      have := h.rng k h2
      omega
    · rw [if_neg h2]; omega
theorem fr_step (n : Int) {l : List Pl} {k : Nat} (hk : k < l.length) : fr l (k + 1) = fr l k + rm n l k + 1 := by
  unfold rm too
  rw [if_pos hk]
  show (if 0 < k + 1 then pa l (k + 1 - 1) + 1 else 0) = _
  rw [if_pos (by omega), Nat.add_sub_cancel]
  omega
def lw (n : Int) (l : List Pl) : Nat → Option Nat
  | 0 => none
  | k + 1 => if 0 < rm n l k then some 1 else (lw n l k).map (· + 1)
def hgF (n : Int) (l : List Pl) : Nat → Nat → Option Nat
  | 0, _ => none
  | f + 1, k => if 0 < rm n l (k + 1) then some 1 else (hgF n l f (k + 1)).map (· + 1)
def hg (n : Int) (l : List Pl) (k : Nat) : Option Nat := hgF n l (l.length - k) k
theorem lw_some {n : Int} {l : List Pl} : ∀ {k c : Nat}, lw n l k = some c → 1 ≤ c ∧ c ≤ k ∧ 0 < rm n l (k - c)
  | 0, c, h => by simp [lw] at h
  | k + 1, c, h => by
    simp only [lw] at h
    split at h
    · rename_i h0
      cases h
      exact ⟨by omega, by omega, by simpa using h0⟩
    · obtain ⟨c', hc', rfl⟩ := Option.map_eq_some_iff.1 h
      obtain ⟨h1, h2, h3⟩ := lw_some hc'
      exact ⟨by omega, by omega, by rw [show k + 1 - (c' + 1) = k - c' by omega]; exact h3⟩
theorem lw_none {n : Int} {l : List Pl} : ∀ {k : Nat}, lw n l k = none → ∀ i, i < k → rm n l i ≤ 0
  | 0, h => fun i hi => by omega
  | k + 1, h => by
    simp only [lw] at h
    split at h
    · cases h
    · rename_i h0
      intro i hi
      by_cases e : i = k
      · subst e; omega
      · exact lw_none (Option.map_eq_none_iff.1 h) i (by omega)
theorem hgF_some {n : Int} {l : List Pl} : ∀ {f k d : Nat}, hgF n l f k = some d → 1 ≤ d ∧ d ≤ f ∧ 0 < rm n l (k + d)
  | 0, k, d, h => by simp [hgF] at h
  | f + 1, k, d, h => by
    simp only [hgF] at h
    split at h
    · rename_i h0
      cases h
      exact ⟨by omega, by omega, h0⟩
    · obtain ⟨d', hd', rfl⟩ := Option.map_eq_some_iff.1 h
      obtain ⟨h1, h2, h3⟩ := hgF_some hd'
      exact ⟨by omega, by omega, by rw [show k + (d' + 1) = k + 1 + d' by omega]; exact h3⟩
theorem hgF_none {n : Int} {l : List Pl} : ∀ {f k : Nat}, hgF n l f k = none → ∀ i, k < i → i ≤ k + f → rm n l i ≤ 0
  | 0, k, h => fun i h1 h2 => by omega
  | f + 1, k, h => by
    simp only [hgF] at h
    split at h
    · cases h
    · rename_i h0
      intro i h1 h2
      by_cases e : i = k + 1
      · subst e; omega
      · exact hgF_none (Option.map_eq_none_iff.1 h) i (by omega) (by omega)
theorem VR.full {n : Int} {l : List Pl} (h : VR n l) {k : Nat} (hk : k ≤ l.length) (h0 : rm n l k ≤ 0) (h1 : lw n l k = none) (h2 : hg n l k = none) : (l.length : Int) = n := by
  have hall : ∀ i, i ≤ l.length → rm n l i = 0 := by
    intro i hi
    have hp := (h.rm0 hi).1
    rcases Nat.lt_trichotomy i k with e | e | e
    · have := lw_none h1 i e; omega
    · subst e; omega
    · have := hgF_none h2 i e (by omega); omega
  have hf : ∀ i, i ≤ l.length → fr l i = i := by
    intro i
    induction i with
    | zero => intro _; rfl
    | succ i ih =>
      intro hi
      rw [fr_step n (by omega), ih (by omega), hall i (by omega)]
      omega
  have h3 := hall l.length (Nat.le_refl _)
  rw [rm, hf _ (Nat.le_refl _), too, if_neg (by omega)] at h3
  omega
theorem VR.full_rm {n : Int} {l : List Pl} (h : VR n l) (hf : (l.length : Int) = n) : ∀ i, i ≤ l.length → rm n l i = 0 := by
  have hge : ∀ i, i ≤ l.length → (i : Int) ≤ fr l i := by
    intro i
    induction i with
    | zero => intro _; exact Int.le_refl 0
    | succ i ih =>
      intro hi
      rw [fr_step n (by omega)]
      have := ih (by omega)
      have := (h.rm0 (k := i) (by omega)).1
      omega
  have hup : ∀ d i, i + d = l.length → fr l i + rm n l i ≤ i := by
    intro d
    induction d with
    | zero =>
      intro i hi
      rw [rm, too, if_neg (by omega)]
      omega
    | succ d ih =>
      intro i hi
      have h1 := ih (i + 1) (by omega)
      have h2 := (h.rm0 (k := i + 1) (by omega)).1
      rw [fr_step n (by omega)] at h1
      omega
  intro i hi
  have h1 := hup (l.length - i) i (by omega)
  have h2 := hge i hi
  have h3 := (h.rm0 hi).1
  omega
theorem full_lw {n : Int} {l : List Pl} (h : ∀ i, i ≤ l.length → rm n l i = 0) : ∀ k, k ≤ l.length → lw n l k = none := by
  intro k
  induction k with
  | zero => intro _; rfl
  | succ k ih =>
    intro hk
    rw [lw, if_neg (by rw [h k (by omega)]; omega), ih (by omega)]
    rfl
theorem full_hg {n : Int} {l : List Pl} (h : ∀ i, i ≤ l.length → rm n l i = 0) : ∀ f k, k + f = l.length → hgF n l f k = none := by
  intro f
  induction f with
  | zero => intro k _; rfl
  | succ f ih =>
    intro k hk
    rw [hgF, if_neg (by rw [h (k + 1) (by omega)]; omega), ih (k + 1) (by omega)]
    rfl
def psh (n : Int) (l : List Pl) (k : Nat) : Nat × Bool :=
  if 0 < rm n l k then (0, false) else match lw n l k, hg n l k with
    | some c, some d => if c ≤ d then (c, true) else (d, false)
    | some c, none => (c, true)
    | none, some d => (d, false)
    | none, none => (l.length - k, false)
def mvP (d : Int) (x : Pl) : Pl := ⟨x.p + d, x.b⟩
def shf (l : List Pl) (i c : Nat) (d : Int) : List Pl := l.take i ++ ((l.drop i).take c).map (mvP d) ++ l.drop (i + c)
theorem shf_len {l : List Pl} {i c : Nat} {d : Int} (h : i + c ≤ l.length) : (shf l i c d).length = l.length := by simp [shf]; omega
theorem shf_get {l : List Pl} {i c : Nat} {d : Int} (h : i + c ≤ l.length) {j : Nat} (hj : j < l.length) : (shf l i c d)[j]'(by rw [shf_len h]; exact hj) = if i ≤ j ∧ j < i + c then mvP d l[j] else l[j] := by
  have hl1 : (l.take i).length = i := by simp; omega
  have hl2 : (((l.drop i).take c).map (mvP d)).length = c := by simp; omega
  unfold shf
  by_cases h1 : j < i
  · rw [if_neg (by omega), List.getElem_append_left (by simp; omega), List.getElem_append_left (by omega), List.getElem_take]
  · by_cases h2 : j < i + c
    · rw [if_pos ⟨by omega, h2⟩, List.getElem_append_left (by simp; omega), List.getElem_append_right (by omega), List.getElem_map, List.getElem_take, List.getElem_drop]
      congr 2
      omega
    · rw [if_neg (by omega), List.getElem_append_right (by simp; omega), List.getElem_drop]
      congr 1
      simp
      omega
theorem shf_pa {l : List Pl} {i c : Nat} {d : Int} (h : i + c ≤ l.length) {j : Nat} (hj : j < l.length) : pa (shf l i c d) j = pa l j + (if i ≤ j ∧ j < i + c then d else 0) := by
  rw [pa_get (by rw [shf_len h]; exact hj), pa_get hj, shf_get h hj]
  by_cases e : i ≤ j ∧ j < i + c
  · rw [if_pos e, if_pos e]; rfl
  · rw [if_neg e, if_neg e]; simp
theorem shf_ba {l : List Pl} {i c : Nat} {d : Int} (h : i + c ≤ l.length) {j : Nat} (hj : j < l.length) : ba (shf l i c d) j = ba l j := by
  rw [ba_get (by rw [shf_len h]; exact hj), ba_get hj, shf_get h hj]
  by_cases e : i ≤ j ∧ j < i + c
  · rw [if_pos e]; rfl
  · rw [if_neg e]
theorem shf_mem {l : List Pl} {i c : Nat} {d : Int} {x : Pl} (hx : x ∈ shf l i c d) : ∃ y ∈ l, x.b = y.b := by
  unfold shf at hx
  rw [List.mem_append, List.mem_append] at hx
  rcases hx with (hx | hx) | hx
  · exact ⟨x, List.mem_of_mem_take hx, rfl⟩
  · obtain ⟨y, hy, rfl⟩ := List.mem_map.1 hx
    exact ⟨y, List.mem_of_mem_drop (List.mem_of_mem_take hy), rfl⟩
  · exact ⟨x, List.mem_of_mem_drop hx, rfl⟩
def sh (n : Int) (l : List Pl) (k : Nat) : List Pl := if 0 < rm n l k then l else if (psh n l k).2 = true then shf l (k - (psh n l k).1) (psh n l k).1 (-1) else shf l k (psh n l k).1 1
def nat' (n : Int) (l : List Pl) (k : Nat) : Int := if 0 < rm n l k then fr l k + (rm n l k - 1).tdiv 2 else if (psh n l k).2 = true then fr l k - 1 else fr l k
def idx (l : List Pl) (b : Bk) : Nat := l.findIdx fun x => decide (0 < uc x.b b)
def ins (S : List Pl) (k : Nat) (q : Int) (b : Bk) : List Pl := S.take k ++ [⟨q, b⟩] ++ S.drop k
def adL (n : Int) (l : List Pl) (b : Bk) : List Pl := ins (sh n l (idx l b)) (idx l b) (nat' n l (idx l b)) b
def adM (n : Int) (l : List Pl) (b : Bk) : Nat := (psh n l (idx l b)).1
theorem idx_le (l : List Pl) (b : Bk) : idx l b ≤ l.length := List.findIdx_le_length
theorem ins_len {S : List Pl} {k : Nat} {q : Int} {b : Bk} (hk : k ≤ S.length) : (ins S k q b).length = S.length + 1 := by simp [ins]; omega
theorem ins_get {S : List Pl} {k : Nat} {q : Int} {b : Bk} (hk : k ≤ S.length) {j : Nat} (hj : j < S.length + 1) : (ins S k q b)[j]'(by rw [ins_len hk]; exact hj) = if j < k then S.getD j pl0 else if j = k then ⟨q, b⟩ else S.getD (j - 1) pl0 := by
  have hl1 : (S.take k).length = k := by simp; omega
  unfold ins
  by_cases h1 : j < k
  · rw [if_pos h1, List.getElem_append_left (by simp; omega), List.getElem_append_left (by omega), List.getElem_take, getD_pl (by omega)]
  · by_cases h2 : j = k
    · subst h2
      rw [if_neg (by omega), if_pos rfl, List.getElem_append_left (by simp; omega), List.getElem_append_right (by omega)]
      simp [hl1]
    · rw [if_neg h1, if_neg h2, List.getElem_append_right (by simp; omega), List.getElem_drop, getD_pl (by omega)]
      congr 1
      simp
      omega
theorem ins_pa {S : List Pl} {k : Nat} {q : Int} {b : Bk} (hk : k ≤ S.length) {j : Nat} (hj : j < S.length + 1) : pa (ins S k q b) j = if j < k then pa S j else if j = k then q else pa S (j - 1) := by
  rw [pa_get (by rw [ins_len hk]; exact hj), ins_get hk hj]
  split
  · rfl
  · split <;> rfl
theorem ins_ba {S : List Pl} {k : Nat} {q : Int} {b : Bk} (hk : k ≤ S.length) {j : Nat} (hj : j < S.length + 1) : ba (ins S k q b) j = if j < k then ba S j else if j = k then b else ba S (j - 1) := by
  rw [ba_get (by rw [ins_len hk]; exact hj), ins_get hk hj]
  split
  · rfl
  · split <;> rfl
theorem VR.put {n : Int} {S : List Pl} {k : Nat} {q : Int} {b : Bk} (h : VR n S) (hk : k ≤ S.length) (h1 : 0 < k → pa S (k - 1) < q) (h2 : k < S.length → q < pa S k) (hq : 0 ≤ q ∧ q < n) (hb : vB b = true)
    (h3 : 0 < k → ky (ba S (k - 1)) ≤ ky b) (h4 : k < S.length → ky b ≤ ky (ba S k)) : VR n (ins S k q b) := by
  have hlen := ins_len (q := q) (b := b) hk
  have hp : ∀ i, i < k → pa S i < q := by
    intro i hi
    have := h1 (by omega)
    by_cases e : i = k - 1
    · subst e; exact this
    · have := h.inc i (k - 1) (by omega) (by omega); omega
  have hp2 : ∀ i, k ≤ i → i < S.length → q < pa S i := by
    intro i hi hil
    have := h2 (by omega)
    by_cases e : i = k
    · subst e; exact this
    · have := h.inc k i (by omega) hil; omega
  have hs : ∀ i, i < k → ky (ba S i) ≤ ky b := by
    intro i hi
    have := h3 (by omega)
    by_cases e : i = k - 1
    · subst e; exact this
    · have := h.so i (k - 1) (by omega) (by omega); omega
  have hs2 : ∀ i, k ≤ i → i < S.length → ky b ≤ ky (ba S i) := by
    intro i hi hil
    have := h4 (by omega)
    by_cases e : i = k
    · subst e; exact this
    · have := h.so k i (by omega) hil; omega
  refine ⟨h.hn, fun i j hij hj => ?_, fun i hi => ?_, fun x hx => ?_, fun i j hij hj => ?_⟩
  · rw [hlen] at hj
    rw [ins_pa hk (by omega), ins_pa hk hj]
    by_cases a1 : j < k
    · rw [if_pos (by omega), if_pos a1]; exact h.inc i j hij (by omega)
    · by_cases a2 : j = k
      · rw [if_pos (by omega), if_neg a1, if_pos a2]; exact hp i (by omega)
      · rw [if_neg a1, if_neg a2]
        by_cases a3 : i < k
        · rw [if_pos a3]; exact h.inc i (j - 1) (by omega) (by omega)
        · by_cases a4 : i = k
          · rw [if_neg a3, if_pos a4]; exact hp2 (j - 1) (by omega) (by omega)
          · rw [if_neg a3, if_neg a4]; exact h.inc (i - 1) (j - 1) (by omega) (by omega)
  · rw [hlen] at hi
    rw [ins_pa hk hi]
    by_cases a1 : i < k
    · rw [if_pos a1]; exact h.rng i (by omega)
    · by_cases a2 : i = k
      · rw [if_neg a1, if_pos a2]; exact hq
      · rw [if_neg a1, if_neg a2]; exact h.rng (i - 1) (by omega)
  · unfold ins at hx
    rw [List.mem_append, List.mem_append] at hx
    rcases hx with (hx | hx) | hx
    · exact h.vb x (List.mem_of_mem_take hx)
    · simp at hx; subst hx; exact hb
    · exact h.vb x (List.mem_of_mem_drop hx)
  · rw [hlen] at hj
    rw [ins_ba hk (by omega), ins_ba hk hj]
    by_cases a1 : j < k
    · rw [if_pos (by omega), if_pos a1]; exact h.so i j hij (by omega)
    · by_cases a2 : j = k
      · rw [if_pos (by omega), if_neg a1, if_pos a2]; exact hs i (by omega)
      · rw [if_neg a1, if_neg a2]
        by_cases a3 : i < k
        · rw [if_pos a3]; exact h.so i (j - 1) (by omega) (by omega)
        · by_cases a4 : i = k
          · rw [if_neg a3, if_pos a4]; exact hs2 (j - 1) (by omega) (by omega)
          · rw [if_neg a3, if_neg a4]; exact h.so (i - 1) (j - 1) (by omega) (by omega)
theorem VR.left {n : Int} {l : List Pl} (h : VR n l) {k c : Nat} (hk : k ≤ l.length) (h1 : 1 ≤ c) (h2 : c ≤ k) (h3 : 0 < rm n l (k - c)) : VR n (shf l (k - c) c (-1)) := by
  have hc : k - c + c ≤ l.length := by omega
  have hlen := shf_len (d := -1) hc
  have hgap : ∀ i, i < k - c → pa l i + 1 < pa l (k - c) := by
    intro i hi
    have hkl : k - c < l.length := by omega
    rw [rm, too, if_pos hkl, fr, if_pos (by omega)] at h3
    by_cases e : i = k - c - 1
    · subst e; omega
    · have := h.inc i (k - c - 1) (by omega) (by omega); omega
  have hz : 0 < pa l (k - c) := by
    have hkl : k - c < l.length := by omega
    rw [rm, too, if_pos hkl] at h3
    have := (h.rm0 (k := k - c) (by omega)).2.1
    omega
  refine ⟨h.hn, fun i j hij hj => ?_, fun i hi => ?_, fun x hx => ?_, fun i j hij hj => ?_⟩
  · rw [hlen] at hj
    rw [shf_pa hc (by omega), shf_pa hc hj]
    have h0 := h.inc i j hij hj
    by_cases a1 : k - c ≤ j ∧ j < k - c + c
    · rw [if_pos a1]
      by_cases a2 : k - c ≤ i ∧ i < k - c + c
      · rw [if_pos a2]; omega
      · rw [if_neg a2]
        have := hgap i (by omega)
        by_cases e : j = k - c
        · subst e; omega
        · have := h.inc (k - c) j (by omega) hj; omega
    · rw [if_neg a1]
      split <;> omega
  · rw [hlen] at hi
    rw [shf_pa hc hi]
    have := h.rng i hi
    split
    · rename_i a
      by_cases e : i = k - c
      · subst e; omega
      · have := h.inc (k - c) i (by omega) hi; omega
    · omega
  · obtain ⟨y, hy, e⟩ := shf_mem hx
    rw [e]; exact h.vb y hy
  · rw [hlen] at hj
    rw [shf_ba hc (by omega), shf_ba hc hj]
    exact h.so i j hij hj
theorem VR.right {n : Int} {l : List Pl} (h : VR n l) {k d : Nat} (h1 : 1 ≤ d) (h2 : k + d ≤ l.length) (h3 : 0 < rm n l (k + d)) : VR n (shf l k d 1) := by
  have hlen := shf_len (d := 1) h2
  have hfr : fr l (k + d) = pa l (k + d - 1) + 1 := by rw [fr, if_pos (by omega)]
  have hgap : ∀ j, k + d ≤ j → j < l.length → pa l (k + d - 1) + 1 < pa l j := by
    intro j hj hjl
    rw [rm, hfr, too, if_pos (by omega)] at h3
    by_cases e : j = k + d
    · subst e; omega
    · have := h.inc (k + d) j (by omega) hjl; omega
  have hz : pa l (k + d - 1) + 1 < n := by
    have := (h.rm0 (k := k + d) h2).2.2.2
    rw [rm, hfr] at h3
    omega
  have hmx : ∀ i, i < k + d → pa l i ≤ pa l (k + d - 1) := by
    intro i hi
    by_cases e : i = k + d - 1
    · subst e; omega
    · have := h.inc i (k + d - 1) (by omega) (by omega); omega
  refine ⟨h.hn, fun i j hij hj => ?_, fun i hi => ?_, fun x hx => ?_, fun i j hij hj => ?_⟩
  · rw [hlen] at hj
    rw [shf_pa h2 (by omega), shf_pa h2 hj]
    have h0 := h.inc i j hij hj
    by_cases a1 : k ≤ i ∧ i < k + d
    · rw [if_pos a1]
      by_cases a2 : k ≤ j ∧ j < k + d
      · rw [if_pos a2]; omega
      · rw [if_neg a2]
        have := hgap j (by omega) hj
        have := hmx i (by omega)
        omega
    · rw [if_neg a1]
      split <;> omega
  · rw [hlen] at hi
    rw [shf_pa h2 hi]
    have := h.rng i hi
    split
    · have := hmx i (by omega); omega
    · omega
  · obtain ⟨y, hy, e⟩ := shf_mem hx
    rw [e]; exact h.vb y hy
  · rw [hlen] at hj
    rw [shf_ba h2 (by omega), shf_ba h2 hj]
    exact h.so i j hij hj
theorem psh_cases {n : Int} {l : List Pl} (h : VR n l) {k : Nat} (hk : k ≤ l.length) (hf : (l.length : Int) < n) :
    (0 < rm n l k ∧ psh n l k = (0, false)) ∨
    (rm n l k = 0 ∧ ∃ c, psh n l k = (c, true) ∧ 1 ≤ c ∧ c ≤ k ∧ 0 < rm n l (k - c)) ∨
    (rm n l k = 0 ∧ ∃ d, psh n l k = (d, false) ∧ 1 ≤ d ∧ k + d ≤ l.length ∧ 0 < rm n l (k + d)) := by
  by_cases h0 : 0 < rm n l k
  · exact .inl ⟨h0, by rw [psh, if_pos h0]⟩
  have hz : rm n l k = 0 := by have := (h.rm0 hk).1; omega
  have hp : psh n l k = match lw n l k, hg n l k with
    | some c, some d => if c ≤ d then (c, true) else (d, false)
    | some c, none => (c, true)
    | none, some d => (d, false)
    | none, none => (l.length - k, false) := by rw [psh, if_neg h0]
  refine .inr ?_
  cases hl : lw n l k with
  | none =>
    cases hh : hg n l k with
    | none => have := h.full hk (by omega) hl hh; omega
    | some d =>
      rw [hl, hh] at hp
      obtain ⟨a1, a2, a3⟩ := hgF_some hh
      exact .inr ⟨hz, d, hp, a1, by omega, a3⟩
  | some c =>
    obtain ⟨b1, b2, b3⟩ := lw_some hl
    cases hh : hg n l k with
    | none => rw [hl, hh] at hp; exact .inl ⟨hz, c, hp, b1, b2, b3⟩
    | some d =>
      rw [hl, hh] at hp
      obtain ⟨a1, a2, a3⟩ := hgF_some hh
      by_cases e : c ≤ d
      · exact .inl ⟨hz, c, by rw [hp]; exact if_pos e, b1, b2, b3⟩
      · exact .inr ⟨hz, d, by rw [hp]; exact if_neg e, a1, by omega, a3⟩
theorem idx_spec {l : List Pl} {b : Bk} (hr : ∀ x ∈ l, bkRng x.b) (hb : bkRng b) : (∀ i, i < idx l b → ky (ba l i) ≤ ky b) ∧ (idx l b < l.length → ky b < ky (ba l (idx l b))) := by
  constructor
  · intro i hi
    have hil : i < l.length := Nat.lt_of_lt_of_le hi (idx_le l b)
    have := List.not_of_lt_findIdx hi
    have h2 := (uc_ky (hr l[i] (by simp)) hb).2
    rw [ba_get hil]
    have : ¬ 0 < uc l[i].b b := by simpa using this
    rw [h2] at this
    omega
  · intro h
    have := List.findIdx_getElem (w := h)
    have h2 := (uc_ky (hr l[idx l b] (by simp)) hb).2
    rw [ba_get h]
    have : 0 < uc l[idx l b].b b := of_decide_eq_true this
    rw [h2] at this
    exact this
theorem VR.added {n : Int} {l : List Pl} {b : Bk} (h : VR n l) (hf : (l.length : Int) < n) (hr : ∀ x ∈ l, bkRng x.b) (hb : bkRng b) (hv : vB b = true) :
    VR n (adL n l b) ∧ (adL n l b).length = l.length + 1 ∧ adM n l b ≤ l.length ∧ ∀ x ∈ adL n l b, x.b = b ∨ ∃ y ∈ l, x.b = y.b := by
  have hk := idx_le l b
  obtain ⟨i1, i2⟩ := idx_spec hr hb
  unfold adL adM
  generalize idx l b = k at hk i1 i2
  have hmem : ∀ {S : List Pl} {q : Int}, (∀ x ∈ S, ∃ y ∈ l, x.b = y.b) → ∀ x ∈ ins S k q b, x.b = b ∨ ∃ y ∈ l, x.b = y.b := by
    intro S q hS x hx
    unfold ins at hx
    rw [List.mem_append, List.mem_append] at hx
    rcases hx with (hx | hx) | hx
    · exact .inr (hS x (List.mem_of_mem_take hx))
    · simp at hx; subst hx; exact .inl rfl
    · exact .inr (hS x (List.mem_of_mem_drop hx))
  have hfr := h.rm0 hk
  rcases psh_cases h hk hf with ⟨h0, hp⟩ | ⟨h0, c, hp, c1, c2, c3⟩ | ⟨h0, d, hp, d1, d2, d3⟩
  · rw [sh, if_pos h0, nat', if_pos h0, hp]
    have ht : 0 ≤ (rm n l k - 1).tdiv 2 ∧ (rm n l k - 1).tdiv 2 < rm n l k := by
      rw [Int.tdiv_eq_ediv_of_nonneg (by omega)]
      omega
    have htoo : fr l k + rm n l k = too n l k := by unfold rm; omega
    refine ⟨h.put hk (fun hk0 => ?_) (fun hkl => ?_) (by omega) hv (fun hk0 => i1 _ (by omega)) (fun hkl => Int.le_of_lt (i2 hkl)), ins_len hk, Nat.zero_le _, hmem fun x hx => ⟨x, hx, rfl⟩⟩
    · have : fr l k = pa l (k - 1) + 1 := by rw [fr, if_pos hk0]
      omega
    · have : too n l k = pa l k := by rw [too, if_pos hkl]
      omega
  · have hS := h.left hk c1 c2 c3
    have hcl : k - c + c ≤ l.length := by omega
    have hSl := shf_len (d := -1) hcl
    have hfk : fr l k = pa l (k - 1) + 1 := by rw [fr, if_pos (by omega)]
    have hp1 := h.rng (k - 1) (by omega)
    have hn0 : ¬ 0 < rm n l k := by omega
    rw [show sh n l k = shf l (k - c) c (-1) by rw [sh, if_neg hn0, hp]; rfl, show nat' n l k = fr l k - 1 by rw [nat', if_neg hn0, hp]; rfl, hp]
    refine ⟨hS.put (by rw [hSl]; exact hk) (fun hk0 => ?_) (fun hkl => ?_) (by omega) hv (fun hk0 => ?_) (fun hkl => ?_), ?_, by show c ≤ _; omega, hmem fun x hx => shf_mem hx⟩
    · rw [shf_pa hcl (by omega), if_pos (by omega)]; omega
    · rw [hSl] at hkl
      rw [shf_pa hcl hkl, if_neg (by omega)]
      have := h.inc (k - 1) k (by omega) hkl
      omega
    · rw [shf_ba hcl (by omega)]; exact i1 _ (by omega)
    · rw [hSl] at hkl
      rw [shf_ba hcl hkl]; exact Int.le_of_lt (i2 hkl)
    · rw [ins_len (by rw [hSl]; exact hk), hSl]
  · have hS := h.right d1 d2 d3
    have hSl := shf_len (d := 1) d2
    have htoo : too n l k = pa l k := by rw [too, if_pos (by omega)]
    have heq : fr l k = pa l k := by unfold rm at h0; omega
    have hp1 := h.rng k (by omega)
    have hn0 : ¬ 0 < rm n l k := by omega
    rw [show sh n l k = shf l k d 1 by rw [sh, if_neg hn0, hp]; rfl, show nat' n l k = fr l k by rw [nat', if_neg hn0, hp]; rfl, hp]
    refine ⟨hS.put (by rw [hSl]; exact hk) (fun hk0 => ?_) (fun hkl => ?_) (by omega) hv (fun hk0 => ?_) (fun hkl => ?_), ?_, by show d ≤ _; omega, hmem fun x hx => shf_mem hx⟩
    · rw [shf_pa d2 (by omega), if_neg (by omega)]
      have := h.inc (k - 1) k (by omega) (by omega)
      omega
    · rw [shf_pa d2 (by omega), if_pos (by omega)]; omega
    · rw [shf_ba d2 (by omega)]; exact i1 _ (by omega)
    · rw [hSl] at hkl
      rw [shf_ba d2 hkl]; exact Int.le_of_lt (i2 hkl)
    · rw [ins_len (by rw [hSl]; exact hk), hSl]
end Go.Proofs.YtbkelajnngdimaaGreatDoor

/- Contracts of the program's functions, and what follows from them. -/
set_option maxRecDepth 100000
namespace Go.Proofs.YtbkelajnngdimaaGreatDoor
open Go Go.Av
noncomputable def X230 : Fx := ⟨Tryz.prog, tys, 230, Tryz.f230, []⟩
theorem X230_ok : X230.Ok := ⟨Tryz.func230, tys_ok⟩
theorem insert_pl_ct (L Y : List Pl) (ex e2 : Bool) (i : Nat) (hi : i ≤ L.length) (hlen : L.length + Y.length ≤ 1048576) : Ct Tryz.prog 230 [.own 9 ex (L.map plA), i64 i, .ro 9 e2 (Y.map plA)] (.own 9 false ((L.take i ++ Y ++ L.drop i).map plA)) [] := by
  have hml : (L.map plA).length = L.length := List.length_map ..
  have hyl : (Y.map plA).length = Y.length := List.length_map ..
  refine Ct.intro X230 X230_ok rfl (by kernel_rfl) rfl rfl fun g hg => ?_
  repeat (refine Run.go rfl ?_)
  refine Run.val rfl rfl rfl (ValOk.cutv (l := i) (h := (L.map plA).length) rfl rfl rfl rfl rfl rfl rfl (by omega) (by omega) (by omega)) rfl ?_
  repeat (refine Run.go rfl ?_)
  refine Run.cond rfl (fun h => ?_) (fun hY => ?_)
  · have h : Y = [] := by simpa using h
    repeat (refine Run.go rfl ?_)
    refine Run.packTake 6 rfl rfl (by simp) ?_
    refine Run.ret hg rfl ?_
    rw [h, List.append_nil, List.take_append_drop, List.take_length]
    rfl
  have hY : 0 < Y.length := by
    cases Y with
    | nil => simp at hY
    | cons => simp
  repeat (refine Run.go rfl ?_)
  refine Run.cond rfl (fun h => ?_) (fun hn => ?_)
  · have h : i = L.length := by simp at h; omega
    repeat (refine Run.go rfl ?_)
    refine Run.appendr rfl rfl rfl rfl rfl rfl rfl rfl rfl rfl rfl rfl rfl (one_pl _) (by show (_ + _) * 16 ≤ _; simp; omega) (by simp [capMax]; omega) rfl ?_
    repeat (refine Run.go rfl ?_)
    refine Run.ret hg rfl ?_
    rw [h, List.take_length, List.drop_length, List.append_nil, List.map_append]
    rfl
  have hn : i < L.length := by
    have : ¬ (i : Int) = L.length := by simpa using hn
    omega
  repeat (refine Run.go rfl ?_)
  refine Run.capx (.agg (List.replicate 9 .top)) rfl rfl rfl rfl rfl rfl rfl rfl (lt_pl _) rfl rfl fun c hc1 hc2 => ?_
  generalize hR : List.replicate (c - (L.map plA).length) (AV.agg (List.replicate 9 .top)) = R
  have hRl : R.length = c - L.length := by rw [← hR]; simp
  have hRlt : (flatc R).all isLT = true := by rw [← hR]; exact lt_rep _ _ (by decide)
  have hOlt : (flatc (L.map plA ++ R)).all isLT = true := by rw [lt_app, lt_pl, hRlt]; rfl
  have hOl : (L.map plA ++ R).length = c := by simp [hRl]; omega
  have hT : (L.map plA ++ R).take i = (L.take i).map plA := by rw [List.take_append_of_le_length (by omega), List.map_take]
  have hD : ((L.map plA ++ R).drop i).take (L.length - i) = (L.drop i).map plA := by
    rw [List.drop_append_of_le_length (by omega), List.take_append_of_le_length (by simp), ← List.map_drop, List.take_of_length_le (by simp)]
  have hTl : ((L.take i).map plA).length = i := by simp; omega
  have hDl : ((L.drop i).map plA).length = L.length - i := by simp
  have hcap : c ≤ 9223372036854775807 := hc2
  have hout : (L.take i).map plA ++ Y.map plA ++ (L.drop i).map plA = (L.take i ++ Y ++ L.drop i).map plA := by rw [List.map_append, List.map_append]
  clear hR
  generalize hT0 : (L.take i).map plA = T at *
  generalize hD0 : (L.drop i).map plA = D at *
  have hsum : IntKind.i64.wrap ((L.length : Int) + Y.length) = (L.length + Y.length : Nat) := by rw [wrap_i64 (by omega) (by omega)]; rfl
  have hsum2 : IntKind.i64.wrap ((i : Int) + Y.length) = (i + Y.length : Nat) := by rw [wrap_i64 (by omega) (by omega)]; rfl
  repeat (refine Run.go rfl ?_)
  refine Run.cond rfl (fun h => ?_) (fun h => ?_)
  · have h : c < L.length + Y.length := by
      have h : (c : Int) < IntKind.i64.wrap (((L.map plA).length : Int) + ((Y.map plA).length : Nat)) := by simpa using h
      rw [hml, hyl, hsum] at h
      omega
    repeat (refine Run.go rfl ?_)
    refine Run.val rfl rfl rfl (ValOk.cutl (l := 0) (h := i) rfl rfl rfl rfl rfl rfl rfl (by omega) (by omega) (by rw [hOl]; omega)) rfl ?_
    repeat (refine Run.go rfl ?_)
    have hmk : IntKind.i64.wrap (IntKind.i64.wrap (((L.map plA).length : Int) + ((Y.map plA).length : Nat)) - i) = (L.length + Y.length - i : Nat) := by rw [hml, hyl, hsum, wrap_i64 (by omega) (by omega)]; omega
    refine Run.appendz (kk := .i64) (id := (0, 0)) (p := i) (n := L.length + Y.length - i) (plA pl0) rfl rfl rfl rfl rfl rfl rfl ?_ ?_ rfl rfl rfl rfl rfl (by omega) (by rw [hOl]; omega) (by rw [hOl]; omega) hOlt (by show (_ + _) * 16 ≤ _; omega) (by show _ + _ ≤ 9223372036854775807; omega) rfl ?_
    · show i64 _ = i64 _
      rw [← hmk]
    · show AV.vec _ _ _ = _
      rfl
    rw [hT]
    have hZl : (T ++ List.replicate (L.length + Y.length - i) (plA pl0)).length = L.length + Y.length := by simp; omega
    have hZlt : (flatc (T ++ List.replicate (L.length + Y.length - i) (plA pl0))).all isLT = true := by rw [lt_app, lt_rep _ _ rfl, ← hT0, lt_pl]; rfl
    have hZt : (T ++ List.replicate (L.length + Y.length - i) (plA pl0)).take i = T := by rw [List.take_append_of_le_length (by omega), List.take_of_length_le (by omega)]
    generalize T ++ List.replicate (L.length + Y.length - i) (plA pl0) = Z at hZl hZlt hZt
    repeat (refine Run.go rfl ?_)
    refine Run.val rfl rfl rfl (ValOk.cutv (l := i) (h := Z.length) rfl rfl rfl rfl rfl rfl rfl (by omega) (by omega) (by omega)) rfl ?_
    repeat (refine Run.go rfl ?_)
    refine Run.copyd (id := (9, 0)) (m := i) (len := L.length + Y.length - i) (ys := Y.map plA) rfl rfl rfl rfl rfl ?_ rfl rfl (srcOf_ro rfl) hZlt (lt_pl _) (by rw [hZl]; omega) Y.length (by rw [hyl]; exact (Nat.min_eq_left (by omega)).symm) (by rw [List.take_of_length_le (Nat.le_of_eq hyl)]; exact one_pl _) rfl ?_
    · show AV.vec _ _ _ = AV.vec _ _ _
      congr 1
      · first | (simp; done) | (simp; omega)
      · rw [hZl]; first | (simp; done) | (simp; omega)
    rw [hZt, List.take_of_length_le (Nat.le_of_eq hyl)]
    have hWl : (T ++ Y.map plA ++ Z.drop (i + Y.length)).length = L.length + Y.length := by simp [hZl]; omega
    have hWlt : (flatc (T ++ Y.map plA ++ Z.drop (i + Y.length))).all isLT = true := by
      rw [lt_app, lt_app, ← hT0, lt_pl, lt_pl]
      rw [Bool.true_and, Bool.true_and]
      have := hZlt
      rw [← List.take_append_drop (i + Y.length) Z, lt_app, Bool.and_eq_true] at this
      exact this.2
    have hWt : (T ++ Y.map plA ++ Z.drop (i + Y.length)).take (i + Y.length) = T ++ Y.map plA := by rw [List.take_append_of_le_length (by simp; omega), List.take_of_length_le (by simp; omega)]
    generalize T ++ Y.map plA ++ Z.drop (i + Y.length) = W at hWl hWlt hWt
    repeat (refine Run.go rfl ?_)
    refine Run.drawQ1 8 [8] (by kernel_rfl) (by decide +kernel) (by decide +kernel) rfl (by decide +kernel) ?_
    repeat (refine Quiet.go rfl ?_)
    refine Quiet.val rfl rfl (ValOk.cutl (l := (i + Y.length : Nat)) (h := Z.length) rfl rfl rfl rfl rfl (by show some (IntKind.i64.wrap ((i : Int) + ((Y.map plA).length : Nat))) = _; rw [hyl, hsum2]) rfl (by omega) (by rw [hZl]; omega) (by rw [hWl, hZl]; omega)) rfl ?_
    repeat (refine Quiet.go rfl ?_)
    refine Quiet.val rfl rfl (ValOk.cutl (l := i) (h := (L.map plA).length) rfl rfl rfl rfl rfl rfl rfl (by omega) (by rw [hml]; omega) (by rw [hOl, hml]; omega)) rfl ?_
    refine Quiet.nil ?_
    refine Run.copyd (id := (9, 0)) (m := i + Y.length) (len := L.length - i) (ys := D) rfl rfl rfl rfl rfl ?_ rfl rfl ?_ hWlt (by rw [← hD0]; exact lt_pl _) (by rw [hWl]; omega) (L.length - i) (by rw [hDl]; exact (Nat.min_self _).symm) (by rw [List.take_of_length_le (Nat.le_of_eq hDl), ← hD0]; exact one_pl _) rfl ?_
    · show AV.vec _ _ _ = AV.vec _ _ _
      congr 1
      · first | (simp; done) | (simp; omega)
      · rw [hZl]; simp; omega
    · rw [← hD]
      refine srcOf_vec (id := (0, 0)) ?_ rfl (by rw [hOl]; omega)
      show AV.vec _ _ _ = AV.vec _ _ _
      congr 1
      · first | (simp; done) | (simp; omega)
      · rw [hml]; omega
    repeat (refine Run.go rfl ?_)
    refine Run.packTake 6 rfl rfl (by rw [hZl]; simp [hWl, hTl, hDl]; omega) ?_
    refine Run.ret hg rfl ?_
    show AV.own _ _ _ = AV.own _ _ _
    congr 1
    rw [hWt, List.take_of_length_le (Nat.le_of_eq hDl), List.take_append_of_le_length (by simp [hTl, hDl, hZl]; omega), hout, List.take_of_length_le (by rw [← hout]; simp [hTl, hDl, hZl]; omega)]
  · have h : L.length + Y.length ≤ c := by
      have h : ¬ (c : Int) < IntKind.i64.wrap (((L.map plA).length : Int) + ((Y.map plA).length : Nat)) := by simpa using h
      rw [hml, hyl, hsum] at h
      omega
    have e1 : IntKind.i64.wrap (((L.map plA).length : Int) + ((Y.map plA).length : Nat)) = (L.length + Y.length : Nat) := by rw [hml, hyl, hsum]
    have e2 : IntKind.i64.wrap ((i : Int) + ((Y.map plA).length : Nat)) = (i + Y.length : Nat) := by rw [hyl, hsum2]
    generalize hO : L.map plA ++ R = O at *
    repeat (refine Run.go rfl ?_)
    refine Run.val rfl rfl rfl (ValOk.cutl (l := 0) (h := (L.length + Y.length : Nat)) rfl rfl rfl rfl rfl rfl (by show some _ = some _; rw [e1]) (by omega) (by omega) (by rw [hOl]; omega)) rfl ?_
    repeat (refine Run.go rfl ?_)
    refine Run.val rfl rfl rfl (ValOk.cutl (l := (i + Y.length : Nat)) (h := (L.length + Y.length : Nat)) rfl rfl rfl rfl rfl (by show some _ = some _; rw [e2]) (by show some _ = some _; first | (simp; done) | (simp; omega)) (by omega) (by omega) (by rw [hOl]; simp; omega)) rfl ?_
    refine Run.overlapsR (fn := Tryz.f265) (t := 25) rfl rfl rfl rfl rfl Tryz.func265 (by kernel_rfl) (by kernel_rfl) (by kernel_rfl) (by kernel_rfl) (by kernel_rfl) rfl rfl rfl rfl rfl rfl ?_
    repeat (refine Run.go rfl ?_)
    refine Run.cond rfl (fun h => ?_) (fun h => by simp at h)
    repeat (refine Run.go rfl ?_)
    refine Run.drawQ1 8 [8] (by kernel_rfl) (by decide +kernel) (by decide +kernel) rfl (by decide +kernel) ?_
    repeat (refine Quiet.go rfl ?_)
    refine Quiet.val rfl rfl (ValOk.cutl (l := (i + Y.length : Nat)) (h := (L.length + Y.length : Nat)) rfl rfl rfl rfl rfl (by show some _ = some _; rw [e2]) (by show some _ = some _; first | (simp; done) | (simp; omega)) (by omega) (by omega) (by rw [hOl]; simp; omega)) rfl ?_
    repeat (refine Quiet.go rfl ?_)
    refine Quiet.val rfl rfl (ValOk.cutl (l := i) (h := (L.length + Y.length : Nat)) rfl rfl rfl rfl rfl rfl (by show some _ = some _; first | (simp; done) | (simp; omega)) (by omega) (by omega) (by rw [hOl]; simp; omega)) rfl ?_
    refine Quiet.nil ?_
    have hsrc : ((O.drop i).take (L.length + Y.length - i)).take (L.length - i) = D := by rw [List.take_take, Nat.min_eq_left (by omega), hD]
    have hslt : (flatc ((O.drop i).take (L.length + Y.length - i))).all isLT = true := by
      have := hOlt
      rw [← List.take_append_drop i O, lt_app, Bool.and_eq_true, ← List.take_append_drop (L.length + Y.length - i) (O.drop i), lt_app, Bool.and_eq_true] at this
      exact this.2.1
    refine Run.copyd (id := (0, 0)) (m := i + Y.length) (len := L.length - i) (ys := (O.drop i).take (L.length + Y.length - i)) rfl rfl rfl rfl rfl ?_ rfl rfl ?_ hOlt hslt (by rw [hOl]; omega) (L.length - i) ?_ (by rw [hsrc, ← hD0]; exact one_pl _) rfl ?_
    · show AV.vec _ _ _ = AV.vec _ _ _
      congr 1
      · first | (simp; done) | (simp; omega)
      · simp; omega
    · refine srcOf_vec (id := (0, 0)) ?_ rfl (by rw [hOl]; omega)
      show AV.vec _ _ _ = AV.vec _ _ _
      congr 1
      · first | (simp; done) | (simp; omega)
    · rw [List.length_take, List.length_drop, hOl]
      show _ = min _ _
      omega
    rw [hsrc]
    have hVl : (O.take (i + Y.length) ++ D ++ O.drop (i + Y.length + (L.length - i))).length = c := by simp [hOl, hDl]; omega
    have hVlt : (flatc (O.take (i + Y.length) ++ D ++ O.drop (i + Y.length + (L.length - i)))).all isLT = true := by
      have h1 := hOlt
      rw [← List.take_append_drop (i + Y.length) O, lt_app, Bool.and_eq_true] at h1
      have h2 := hOlt
      rw [← List.take_append_drop (i + Y.length + (L.length - i)) O, lt_app, Bool.and_eq_true] at h2
      rw [lt_app, lt_app, h1.1, h2.2, ← hD0, lt_pl]
      rfl
    have hVt : (O.take (i + Y.length) ++ D ++ O.drop (i + Y.length + (L.length - i))).take i = T := by
      rw [List.append_assoc, List.take_append_of_le_length (by simp [hOl]; omega), List.take_take, Nat.min_eq_left (by omega), hT]
    have hVd : (O.take (i + Y.length) ++ D ++ O.drop (i + Y.length + (L.length - i))).drop (i + Y.length) = D ++ O.drop (i + Y.length + (L.length - i)) := by
      rw [List.append_assoc, List.drop_left' (by simp [hOl]; omega)]
    generalize O.take (i + Y.length) ++ D ++ O.drop (i + Y.length + (L.length - i)) = V at hVl hVlt hVt hVd
    repeat (refine Run.go rfl ?_)
    refine Run.val rfl rfl rfl (ValOk.cutl (l := i) (h := (L.length + Y.length : Nat)) rfl rfl rfl rfl rfl rfl (by show some _ = some _; first | (simp; done) | (simp; omega)) (by omega) (by omega) (by rw [hVl]; simp; omega)) rfl ?_
    repeat (refine Run.go rfl ?_)
    refine Run.copyd (id := (0, 0)) (m := i) (len := L.length + Y.length - i) (ys := Y.map plA) rfl rfl rfl rfl rfl ?_ rfl rfl (srcOf_ro rfl) hVlt (lt_pl _) (by rw [hVl]; omega) Y.length (by rw [hyl]; exact (Nat.min_eq_left (by omega)).symm) (by rw [List.take_of_length_le (Nat.le_of_eq hyl)]; exact one_pl _) rfl ?_
    · show AV.vec _ _ _ = AV.vec _ _ _
      congr 1
      · first | (simp; done) | (simp; omega)
    rw [hVt, hVd, List.take_of_length_le (Nat.le_of_eq hyl)]
    repeat (refine Run.go rfl ?_)
    refine Run.packTake 6 rfl rfl (by simp [hTl, hDl, hOl]; omega) ?_
    refine Run.ret hg rfl ?_
    show AV.own _ _ _ = AV.own _ _ _
    congr 1
    rw [← List.append_assoc, List.take_append_of_le_length (by simp [hTl, hDl]; omega), hout, List.take_of_length_le (by rw [← hout]; simp [hTl, hDl]; omega)]
theorem fi_idx {l : List Pl} {p : Pl → Bool} : (if 0 ≤ fi p l then fi p l else (l.length : Int)) = (l.findIdx p : Nat) := by
  unfold fi
  have := List.findIdx_le_length (p := p) (xs := l)
  by_cases h : l.findIdx p < l.length
  · rw [if_pos h, if_pos (by omega)]
  · rw [if_neg h, if_neg (by omega)]
    omega
noncomputable def X171 : Fx := ⟨Tryz.prog, tys, 171, Tryz.f171, [0, 1]⟩
theorem X171_ok : X171.Ok := ⟨Tryz.func171, tys_ok⟩
theorem index1_ct (x : Pl) (b : Bk) : Ct Tryz.prog 171 [plA x, .rp (bkA b).cells 0] (bo (decide (0 < uc x.b b))) [] := by
  refine Ct.intro X171 X171_ok rfl rfl rfl rfl fun g hg => ?_
  repeat (refine Run.go rfl ?_)
  refine Run.cs rfl (compare_ct x.b b) rfl rfl ?_
  repeat (refine Run.go rfl ?_)
  exact Run.ret hg rfl rfl
noncomputable def X77 : Fx := ⟨Tryz.prog, tys, 77, Tryz.f77, [0]⟩
theorem X77_ok : X77.Ok := ⟨Tryz.func77, tys_ok⟩
theorem rkIndex_ct (r : Rk) (b : Bk) (ex : Bool) (hlen : r.bs.length ≤ 1048576) : Ct Tryz.prog 77 [rkR ex r, bkA b] (i64 (idx r.bs b : Nat)) [] := by
  refine Ct.intro X77 X77_ok rfl (by kernel_rfl) rfl rfl fun g hg => ?_
  repeat (refine Run.go rfl ?_)
  refine Run.cs rfl (firstOfP_ct r.bs ex _ [.rp (bkA b).cells 0] (fun x => decide (0 < uc x.b b)) hlen rfl fun x _ => index1_ct x b) rfl rfl ?_
  repeat (refine Run.go rfl ?_)
  refine Run.ret hg rfl ?_
  rw [fi_idx]
  rfl
theorem VR.i16 {n : Int} {l : List Pl} (h : VR n l) {i : Nat} (hi : i < l.length) : i16r (l[i].p) ∧ 0 ≤ l[i].p ∧ l[i].p < n := by
  have := h.rng i hi
  have := h.hn
  rw [pa_get hi] at *
  unfold i16r
  omega
noncomputable def X78 : Fx := ⟨Tryz.prog, tys, 78, Tryz.f78, [0, 1]⟩
theorem X78_ok : X78.Ok := ⟨Tryz.func78, tys_ok⟩
theorem room_ct (r : Rk) (ex : Bool) (k : Nat) (h : VR r.pl r.bs) (hk : k ≤ r.bs.length) : Ct Tryz.prog 78 [rkR ex r, i64 k] (.tup [i64 (fr r.bs k), i64 (rm r.pl r.bs k)]) [] := by
  obtain ⟨n, l⟩ := r
  simp only at h hk
  have hlen := h.len
  have hn := h.hn
  have hr := h.rm0 hk
  have hw : IntKind.i64.wrap n = n := wrap_i64 (by omega) (by omega)
  refine Ct.intro X78 X78_ok rfl (by kernel_rfl) rfl rfl fun g hg => ?_
  repeat (refine Run.go rfl ?_)
  refine Run.draw (by kernel_rfl) (by decide +kernel) ?_
  repeat (refine Quiet.go rfl ?_)
  refine Quiet.nil ?_
  repeat (refine Run.go rfl ?_)
  refine Run.condJ ⟨[(1, i64 k), (2, .bp (2, 0) 0), (6, i64 (fr l k)), (7, i64 n)], [((2, 0), .box (rkR ex ⟨n, l⟩).cells)]⟩ rfl (fun h0 k' hN => ?_) (fun h0 k' hN => ?_) ?_
  · have h0 : 0 < k := by simpa using h0
    have hk1 : k - 1 < l.length := by omega
    have hp := h.i16 hk1
    have hkw : IntKind.i64.wrap ((k : Int) - 1) = (k - 1 : Nat) := by rw [wrap_i64 (by omega) (by omega)]; omega
    have hf : fr l k = l[k - 1].p + 1 := by rw [fr, if_pos h0, pa_get hk1]
    repeat (refine Run.go rfl ?_)
    refine Run.val rfl rfl rfl (ValOk.idx (m := (k - 1 : Nat)) (plA l[k - 1]) rfl rfl rfl rfl (by show i64 (IntKind.i64.wrap ((k : Int) - 1)) = _; rw [hkw]) (by omega) (by rw [Int.toNat_natCast, List.getElem?_map, List.getElem?_eq_getElem hk1]; rfl)) rfl ?_
    repeat (refine Run.go rfl ?_)
    refine Run.cs rfl (place_ct l[k - 1] hp.1) rfl rfl ?_
    repeat (refine Run.go rfl ?_)
    refine Run.of hN ⟨rfl, rfl, ?_, ?_, trivial⟩ ⟨rfl, trivial⟩
    · show i64 (IntKind.i64.wrap (l[k - 1].p + 1)) = i64 _
      rw [hf, wrap_i64 (by omega) (by omega)]
    · show i64 (IntKind.i64.wrap n) = i64 n
      rw [hw]
  · have h0 : k = 0 := by simp at h0; omega
    subst h0
    repeat (refine Run.go rfl ?_)
    refine Run.of hN ⟨rfl, rfl, rfl, ?_, trivial⟩ ⟨rfl, trivial⟩
    show i64 (IntKind.i64.wrap n) = i64 n
    rw [hw]
  repeat (refine Run.go rfl ?_)
  refine Run.condJ ⟨[(6, i64 (fr l k)), (7, i64 (too n l k))], []⟩ rfl (fun h0 k' hN => ?_) (fun h0 k' hN => ?_) ?_
  · have h0 : k < l.length := by simpa using h0
    have hp := h.i16 h0
    repeat (refine Run.go rfl ?_)
    refine Run.val rfl rfl rfl (ValOk.idx (plA l[k]) rfl rfl rfl rfl rfl (by omega) (by simp [h0])) rfl ?_
    repeat (refine Run.go rfl ?_)
    refine Run.cs rfl (place_ct l[k] hp.1) rfl rfl ?_
    repeat (refine Run.go rfl ?_)
    refine Run.of hN ⟨rfl, ?_, trivial⟩ trivial
    show i64 l[k].p = i64 (too n l k)
    rw [too, if_pos h0, pa_get h0]
  · have h0 : ¬ k < l.length := by simpa using h0
    repeat (refine Run.go rfl ?_)
    refine Run.of hN ⟨rfl, ?_, trivial⟩ trivial
    show i64 n = i64 (too n l k)
    rw [too, if_neg h0]
  repeat (refine Run.go rfl ?_)
  refine Run.ret hg rfl ?_
  show AV.tup [i64 _, i64 (IntKind.i64.wrap (too n l k - fr l k))] = AV.tup [i64 _, i64 (rm n l k)]
  have : rm n l k = too n l k - fr l k := rfl
  rw [wrap_i64 (by omega) (by omega), this]
noncomputable def X75 : Fx := ⟨Tryz.prog, tys, 75, Tryz.f75, [0]⟩
theorem X75_ok : X75.Ok := ⟨Tryz.func75, tys_ok⟩
theorem isFull_ct (r : Rk) (ex : Bool) (h : i16r r.pl) : Ct Tryz.prog 75 [rkR ex r] (bo (decide ((r.bs.length : Int) = r.pl))) [] := by
  have hw : IntKind.i64.wrap r.pl = r.pl := wrap_i64 (by unfold i16r at h; omega) (by unfold i16r at h; omega)
  refine Ct.intro X75 X75_ok rfl rfl rfl rfl fun g hg => ?_
  repeat (refine Run.go rfl ?_)
  refine Run.ret hg rfl ?_
  show bo (((r.bs.map plA).length : Int) == IntKind.i64.wrap r.pl) = bo _
  rw [List.length_map, hw]
  rfl
def rl (D : List Bool) : Nat → Nat × Bool
  | 0 => (0, false)
  | q + 1 => if D.getD q false = true then ((rl D q).1 + 1, (rl D q).2) else (0, true)
def rrF (D : List Bool) : Nat → Nat → Nat × Bool
  | 0, _ => (0, false)
  | f + 1, q => if D.getD q false = true then ((rrF D f (q + 1)).1 + 1, (rrF D f (q + 1)).2) else (0, true)
def rowR (r : Nat × Bool) : AV := .tup [i64 (r.1 : Nat), bo r.2]
noncomputable def X169 : Fx := ⟨Tryz.prog, tys, 169, Tryz.f169, [0, 2]⟩
theorem X169_ok : X169.Ok := ⟨Tryz.func169, tys_ok⟩
theorem rowL_ct (D : List Bool) (ex : Bool) (q : Nat) (hq : q ≤ D.length) (hD : D.length ≤ 60) : Ct Tryz.prog 169 [.ro 1 ex (D.map bof), i64 ((q : Int) - 1), i64 (-1)] (rowR (rl D q)) [] := by
  refine Ct.intro X169 X169_ok rfl (by kernel_rfl) rfl rfl fun g hg => ?_
  repeat (refine Run.go rfl ?_)
  refine Run.loop (fun j : Nat => ⟨[(0, .ro 1 ex (D.map bof)), (1, i64 ((q : Int) - 1 - j)), (2, i64 (-1)), (8, i64 j)], []⟩) (fun j => j ≤ q ∧ rl D q = ((rl D (q - j)).1 + j, (rl D (q - j)).2)) (fun j => q - j) 0 ⟨by omega, rfl⟩ ?_ ?_
  · refine St.Le.mk' ⟨rfl, ?_, rfl, rfl, trivial⟩ trivial
    show i64 ((q : Int) - 1) = i64 ((q : Int) - 1 - (0 : Nat))
    rw [show ((q : Int) - 1 - (0 : Nat)) = (q : Int) - 1 by omega]
  rintro j ⟨hj, hrl⟩ IH
  repeat (refine Run.go rfl ?_)
  refine Run.cs rfl (within64_ct ((q : Int) - 1 - j) 0 (D.length - 1)) (by show [i64 _, i64 _, i64 (IntKind.i64.wrap (((D.map bof).length : Int) - 1))] = _; rw [List.length_map, wrap_i64 (by omega) (by omega)]) rfl ?_
  repeat (refine Run.go rfl ?_)
  refine Run.cond rfl (fun h => ?_) (fun h => ?_)
  · have hlt : j < q := by simp [inr] at h; omega
    have hm : (q : Int) - 1 - j = (q - j - 1 : Nat) := by omega
    have hqj : q - j = (q - j - 1) + 1 := by omega
    have hid : q - j - 1 < D.length := by omega
    rw [hqj, rl] at hrl
    have hgd : D.getD (q - j - 1) false = D[q - j - 1] := by simp [hid]
    rw [hgd] at hrl
    repeat (refine Run.go rfl ?_)
    refine Run.val rfl rfl rfl (ValOk.idx (m := (q - j - 1 : Nat)) (bof D[q - j - 1]) rfl rfl rfl rfl (by show i64 _ = _; rw [hm]) (by omega) (by rw [Int.toNat_natCast, List.getElem?_map, List.getElem?_eq_getElem hid]; rfl)) rfl ?_
    repeat (refine Run.go rfl ?_)
    refine Run.cond rfl (fun h2 => ?_) (fun h2 => ?_)
    · have h2 : D[q - j - 1] = false := by simpa using h2
      rw [h2, if_neg (by decide)] at hrl
      repeat (refine Run.go rfl ?_)
      refine Run.ret hg rfl ?_
      rw [hrl, rowR, Nat.zero_add]
      rfl
    · have h2 : D[q - j - 1] = true := by simpa using h2
      rw [h2, if_pos rfl] at hrl
      repeat (refine Run.go rfl ?_)
      refine Run.of (IH (j + 1) ⟨by omega, ?_⟩ (by omega)) ⟨rfl, ?_, rfl, ?_, trivial⟩ trivial
      · rw [hrl, show q - (j + 1) = q - j - 1 by omega]
        refine Prod.ext ?_ rfl
        show (rl D (q - j - 1)).1 + 1 + j = (rl D (q - j - 1)).1 + (j + 1)
        omega
      · show i64 (IntKind.i64.wrap ((q : Int) - 1 - j + -1)) = i64 ((q : Int) - 1 - (j + 1 : Nat))
        rw [wrap_i64 (by omega) (by omega), show (q : Int) - 1 - j + -1 = (q : Int) - 1 - (j + 1 : Nat) by omega]
      · show i64 (IntKind.i64.wrap _) = _
        rw [wrap_i64 (by omega) (by omega)]
        rfl
  · have hlt : j = q := by simp [inr] at h; omega
    subst hlt
    rw [Nat.sub_self] at hrl
    repeat (refine Run.go rfl ?_)
    refine Run.ret hg rfl ?_
    rw [hrl, rl, rowR, Nat.zero_add]
    rfl
theorem rowRt_ct (D : List Bool) (ex : Bool) (q : Nat) (hq : q ≤ D.length) (hD : D.length ≤ 60) : Ct Tryz.prog 169 [.ro 1 ex (D.map bof), i64 q, i64 1] (rowR (rrF D (D.length - q) q)) [] := by
  refine Ct.intro X169 X169_ok rfl (by kernel_rfl) rfl rfl fun g hg => ?_
  repeat (refine Run.go rfl ?_)
  refine Run.loop (fun j : Nat => ⟨[(0, .ro 1 ex (D.map bof)), (1, i64 ((q + j : Nat) : Int)), (2, i64 1), (8, i64 j)], []⟩) (fun j => q + j ≤ D.length ∧ rrF D (D.length - q) q = ((rrF D (D.length - (q + j)) (q + j)).1 + j, (rrF D (D.length - (q + j)) (q + j)).2)) (fun j => D.length - (q + j)) 0 ⟨by omega, rfl⟩ ?_ ?_
  · exact St.Le.mk' ⟨rfl, rfl, rfl, rfl, trivial⟩ trivial
  rintro j ⟨hj, hrl⟩ IH
  repeat (refine Run.go rfl ?_)
  refine Run.cs rfl (within64_ct ((q + j : Nat) : Int) 0 (D.length - 1)) (by show [i64 _, i64 _, i64 (IntKind.i64.wrap (((D.map bof).length : Int) - 1))] = _; rw [List.length_map, wrap_i64 (by omega) (by omega)]) rfl ?_
  repeat (refine Run.go rfl ?_)
  refine Run.cond rfl (fun h => ?_) (fun h => ?_)
  · have hid : q + j < D.length := by simp [inr] at h; omega
    rw [show D.length - (q + j) = (D.length - (q + (j + 1))) + 1 by omega, rrF] at hrl
    have hgd : D.getD (q + j) false = D[q + j] := by simp [hid]
    rw [hgd] at hrl
    repeat (refine Run.go rfl ?_)
    refine Run.val rfl rfl rfl (ValOk.idx (bof D[q + j]) rfl rfl rfl rfl rfl (by omega) (by rw [Int.toNat_natCast, List.getElem?_map, List.getElem?_eq_getElem hid]; rfl)) rfl ?_
    repeat (refine Run.go rfl ?_)
    refine Run.cond rfl (fun h2 => ?_) (fun h2 => ?_)
    · have h2 : D[q + j] = false := by simpa using h2
      rw [h2, if_neg (by decide)] at hrl
      repeat (refine Run.go rfl ?_)
      refine Run.ret hg rfl ?_
      rw [hrl, rowR, Nat.zero_add]
      rfl
    · have h2 : D[q + j] = true := by simpa using h2
      rw [h2, if_pos rfl] at hrl
      repeat (refine Run.go rfl ?_)
      refine Run.of (IH (j + 1) ⟨by omega, ?_⟩ (by omega)) ⟨rfl, ?_, rfl, ?_, trivial⟩ trivial
      · rw [hrl]
        refine Prod.ext ?_ rfl
        show _ + 1 + j = _ + (j + 1)
        rw [Nat.add_assoc, Nat.add_comm 1 j]
        rfl
      · show i64 (IntKind.i64.wrap _) = i64 _
        rw [wrap_i64 (by omega) (by omega)]
        rfl
      · show i64 (IntKind.i64.wrap _) = _
        rw [wrap_i64 (by omega) (by omega)]
        rfl
  · have hlt : q + j = D.length := by simp [inr] at h; omega
    rw [hlt, Nat.sub_self] at hrl
    repeat (refine Run.go rfl ?_)
    refine Run.ret hg rfl ?_
    rw [hrl, rrF, rowR, Nat.zero_add]
    rfl
theorem tk_at (l : List Pl) {N q : Nat} (hq : q < N) : (tk l N).getD q false = true ↔ ∃ i, i < l.length ∧ pa l i = (q : Int) := by
  rw [List.getD_eq_getElem?_getD, tk_get hq]
  show (l.any fun x => x.p == (q : Int)) = true ↔ _
  rw [List.any_eq_true]
  constructor
  · rintro ⟨x, hx, he⟩
    obtain ⟨i, hi, rfl⟩ := List.getElem_of_mem hx
    exact ⟨i, hi, by rw [pa_get hi]; simpa using he⟩
  · rintro ⟨i, hi, he⟩
    exact ⟨l[i], by simp, by rw [pa_get hi] at he; simpa using he⟩
theorem VR.free {n : Int} {l : List Pl} (h : VR n l) {k : Nat} (hk : k ≤ l.length) {N q : Nat} (hN : n = (N : Int)) (h1 : fr l k ≤ q) (h2 : (q : Int) < too n l k) : (tk l N).getD q false = false := by
  have hqN : q < N := by have := (h.rm0 hk).2.2.2; omega
  cases hx : (tk l N).getD q false with
  | false => rfl
  | true =>
    obtain ⟨i, hi, he⟩ := (tk_at l hqN).1 hx
    exfalso
    by_cases a : i < k
    · have hf : fr l k = pa l (k - 1) + 1 := by rw [fr, if_pos (by omega)]
      by_cases e : i = k - 1
      · subst e; omega
      · have := h.inc i (k - 1) (by omega) (by omega); omega
    · have hf : too n l k = pa l k := by rw [too, if_pos (by omega)]
      by_cases e : i = k
      · subst e; omega
      · have := h.inc k i (by omega) hi; omega
theorem rl_lw {n : Int} {l : List Pl} (h : VR n l) {N : Nat} (hN : n = (N : Int)) : ∀ k, k ≤ l.length → rl (tk l N) (fr l k).toNat = match lw n l k with | some c => (c, true) | none => (k, false)
  | 0, _ => rfl
  | k + 1, hk => by
    have hp := h.rng k (by omega)
    have hf : fr l (k + 1) = pa l k + 1 := by rw [fr, if_pos (by omega), Nat.add_sub_cancel]
    obtain ⟨q, hq⟩ : ∃ q : Nat, pa l k = (q : Int) := ⟨(pa l k).toNat, by omega⟩
    have hqN : q < N := by omega
    have ht : (tk l N).getD q false = true := (tk_at l hqN).2 ⟨k, by omega, hq⟩
    have htoo : too n l k = pa l k := by rw [too, if_pos (by omega)]
    rw [hf, hq, show ((q : Int) + 1).toNat = q + 1 by omega, rl, if_pos ht]
    simp only [lw]
    have h0 := (h.rm0 (k := k) (by omega))
    by_cases hr : 0 < rm n l k
    · rw [if_pos hr]
      unfold rm at hr
      obtain ⟨q', rfl⟩ : ∃ q', q = q' + 1 := ⟨q - 1, by omega⟩
      have := h.free (k := k) (by omega) hN (q := q') (by omega) (by omega)
      rw [rl, if_neg (by rw [this]; decide)]
    · rw [if_neg hr]
      have he : fr l k = (q : Int) := by unfold rm at h0 hr; omega
      have ih := rl_lw h hN k (by omega)
      rw [he, Int.toNat_natCast] at ih
      rw [ih]
      cases lw n l k <;> rfl
theorem rr_hg {n : Int} {l : List Pl} (h : VR n l) {N : Nat} (hN : n = (N : Int)) : ∀ f k, k + f = l.length → rrF (tk l N) (N - (too n l k).toNat) (too n l k).toNat = match hgF n l f k with | some d => (d, true) | none => (f, false)
  | 0, k, hk => by
    rw [too, if_neg (by omega), hN, Int.toNat_natCast, Nat.sub_self]
    rfl
  | f + 1, k, hk => by
    have hp := h.rng k (by omega)
    have htoo : too n l k = pa l k := by rw [too, if_pos (by omega)]
    obtain ⟨q, hq⟩ : ∃ q : Nat, pa l k = (q : Int) := ⟨(pa l k).toNat, by omega⟩
    have hqN : q < N := by omega
    have ht : (tk l N).getD q false = true := (tk_at l hqN).2 ⟨k, by omega, hq⟩
    have hf : fr l (k + 1) = pa l k + 1 := by rw [fr, if_pos (by omega), Nat.add_sub_cancel]
    rw [htoo, hq, Int.toNat_natCast, show N - q = (N - (q + 1)) + 1 by omega, rrF, if_pos ht]
    simp only [hgF]
    have h0 := (h.rm0 (k := k + 1) (by omega))
    by_cases hr : 0 < rm n l (k + 1)
    · rw [if_pos hr]
      unfold rm at hr
      have hq1 : q + 1 < N := by omega
      have := h.free (k := k + 1) (by omega) hN (q := q + 1) (by omega) (by omega)
      rw [show N - (q + 1) = (N - (q + 1 + 1)) + 1 by omega, rrF, if_neg (by rw [this]; decide)]
    · rw [if_neg hr]
      have he : too n l (k + 1) = ((q + 1 : Nat) : Int) := by unfold rm at h0 hr; omega
      have ih := rr_hg h hN f (k + 1) (by omega)
      rw [he, Int.toNat_natCast] at ih
      rw [ih]
      cases hgF n l f (k + 1) <;> rfl
noncomputable def X76 : Fx := ⟨Tryz.prog, tys, 76, Tryz.f76, [0, 1]⟩
theorem X76_ok : X76.Ok := ⟨Tryz.func76, tys_ok⟩
theorem pushed_ct (r : Rk) (ex : Bool) (k : Nat) (h : VR r.pl r.bs) (hk : k ≤ r.bs.length) : Ct Tryz.prog 76 [rkR ex r, i64 k] (rowR (psh r.pl r.bs k)) [] := by
  obtain ⟨n, l⟩ := r
  simp only at h hk
  have hlen := h.len
  have hn := h.hn
  have hr := h.rm0 hk
  obtain ⟨N, hN⟩ : ∃ N : Nat, n = (N : Int) := ⟨n.toNat, by omega⟩
  refine Ct.intro X76 X76_ok rfl (by kernel_rfl) rfl rfl fun g hg => ?_
  repeat (refine Run.go rfl ?_)
  refine Run.cs rfl (room_ct ⟨n, l⟩ ex k h hk) rfl rfl ?_
  repeat (refine Run.go rfl ?_)
  refine Run.cond rfl (fun h0 => ?_) (fun h0 => ?_)
  · have h0 : 0 < rm n l k := by simpa using h0
    repeat (refine Run.go rfl ?_)
    refine Run.ret hg rfl ?_
    show _ = rowR (psh n l k)
    rw [psh, if_pos h0]
    rfl
  have h0 : ¬ 0 < rm n l k := by simpa using h0
  have hz : rm n l k = 0 := by omega
  have hft : fr l k = too n l k := by unfold rm at hz; omega
  obtain ⟨q, hq⟩ : ∃ q : Nat, fr l k = (q : Int) := ⟨(fr l k).toNat, by omega⟩
  have hqN : q ≤ N := by omega
  have hL := rl_lw h hN k hk
  have hR := rr_hg h hN (l.length - k) k (by omega)
  rw [← hft, hq, Int.toNat_natCast] at hR
  rw [hq, Int.toNat_natCast] at hL
  have hpsh : psh n l k = match lw n l k, hgF n l (l.length - k) k with
    | some c, some d => if c ≤ d then (c, true) else (d, false)
    | some c, none => (c, true)
    | none, some d => (d, false)
    | none, none => (l.length - k, false) := by rw [psh, if_neg h0] <;> rfl
  have hlb : ∀ c, lw n l k = some c → c ≤ 60 := fun c hc => by have := lw_some hc; omega
  have hgb : ∀ d, hgF n l (l.length - k) k = some d → d ≤ 60 := fun d hd => by have := hgF_some hd; omega
  have htl := tk_len l N
  repeat (refine Run.go rfl ?_)
  refine Run.cs rfl (taken_ct ⟨n, l⟩ ex N hN (by omega) (by show l.length ≤ _; omega) fun x hx => by
    obtain ⟨i, hi, rfl⟩ := List.getElem_of_mem hx
    exact ⟨(h.i16 hi).2.1, hN ▸ (h.i16 hi).2.2⟩) rfl (rfBo _) ?_
  refine Run.unpack 22 rfl rfl ?_
  repeat (refine Run.go rfl ?_)
  refine Run.cs rfl (rowL_ct (tk l N) true q (by omega) (by omega)) ?_ rfl ?_
  · show [_, i64 (IntKind.i64.wrap (fr l k - 1)), i64 (-1)] = _
    rw [frzBo, hq, wrap_i64 (by omega) (by omega), decide_eq_true rfl]
    rfl
  repeat (refine Run.go rfl ?_)
  refine Run.cs rfl (rowRt_ct (tk l N) true q (by omega) (by omega)) ?_ rfl ?_
  · show [_, i64 (fr l k), i64 1] = _
    rw [frzBo, hq, decide_eq_true rfl]
    rfl
  rw [hL, htl, hR]
  clear hL hR
  repeat (refine Run.go rfl ?_)
  cases hl : lw n l k with
  | none =>
    repeat (refine Run.go rfl ?_)
    refine Run.cond rfl (fun h => by simp at h) (fun h => ?_)
    repeat (refine Run.go rfl ?_)
    refine Run.ret hg rfl ?_
    show _ = rowR (psh n l k)
    rw [hpsh, hl]
    cases hgF n l (l.length - k) k <;> rfl
  | some c =>
    cases hh : hgF n l (l.length - k) k with
    | none =>
      repeat (refine Run.go rfl ?_)
      refine Run.cond rfl (fun h => ?_) (fun h => by simp at h)
      repeat (refine Run.go rfl ?_)
      refine Run.ret hg rfl ?_
      show _ = rowR (psh n l k)
      rw [hpsh, hl, hh]
      rfl
    | some d =>
      repeat (refine Run.go rfl ?_)
      refine Run.cond rfl (fun h => ?_) (fun h => ?_)
      · have h : c ≤ d := by simpa using h
        repeat (refine Run.go rfl ?_)
        refine Run.ret hg rfl ?_
        show _ = rowR (psh n l k)
        rw [hpsh, hl, hh]
        simp only [if_pos h]
        rfl
      · have h : ¬ c ≤ d := by simpa using h
        repeat (refine Run.go rfl ?_)
        refine Run.ret hg rfl ?_
        show _ = rowR (psh n l k)
        rw [hpsh, hl, hh]
        simp only [if_neg h]
        rfl
end Go.Proofs.YtbkelajnngdimaaGreatDoor

/- Contracts of the program's functions, and what follows from them. -/
set_option maxRecDepth 100000
namespace Go.Proofs.YtbkelajnngdimaaGreatDoor
open Go Go.Av
theorem shf_step {l : List Pl} {i j : Nat} {d : Int} (h : i + j + 1 ≤ l.length) : (shf l i j d).set (i + j) (mvP d (l[i + j]'(by omega))) = shf l i (j + 1) d := by
  have h1 := shf_len (l := l) (i := i) (c := j) (d := d) (by omega)
  have h2 := shf_len (l := l) (i := i) (c := j + 1) (d := d) (by omega)
  refine List.ext_getElem (by rw [List.length_set, h1, h2]) fun q hq hq2 => ?_
  rw [List.length_set, h1] at hq
  rw [List.getElem_set, shf_get (by omega) hq, shf_get (by omega) hq]
  by_cases e : i + j = q
  · subst e
    rw [if_pos rfl, if_pos (by omega)]
  · rw [if_neg e]
    by_cases e2 : i ≤ q ∧ q < i + j
    · rw [if_pos e2, if_pos (by omega)]
    · rw [if_neg e2, if_neg (by omega)]
theorem shf_zero (l : List Pl) (i : Nat) (d : Int) : shf l i 0 d = l := by simp [shf]
theorem shf_at {l : List Pl} {i j : Nat} {d : Int} (h : i + j < l.length) : (shf l i j d)[i + j]? = some l[i + j] := by
  rw [List.getElem?_eq_getElem (by rw [shf_len (by omega)]; exact h), shf_get (by omega) h, if_neg (by omega)]
noncomputable def X165 : Fx := ⟨Tryz.prog, tys, 165, Tryz.f165, [0, 1]⟩
theorem X165_ok : X165.Ok := ⟨Tryz.func165, tys_ok⟩
theorem added_ct (r : Rk) (ex : Bool) (b : Bk) (h : VR r.pl r.bs) (hf : (r.bs.length : Int) < r.pl) (hr : ∀ x ∈ r.bs, bkRng x.b) (hb : bkRng b) (hv : vB b = true) :
    Ct Tryz.prog 165 [rkR ex r, bkA b] (.tup [rkO false ⟨r.pl, adL r.pl r.bs b⟩, i64 (adM r.pl r.bs b : Nat)]) [] := by
  obtain ⟨n, l⟩ := r
  simp only at h hf hr
  have hlen := h.len
  have hn := h.hn
  have hlen1 : l.length ≤ 1048576 := by omega
  have hk := idx_le l b
  have hrm := h.rm0 hk
  show Ct Tryz.prog _ _ (.tup [rkO false ⟨n, ins (sh n l (idx l b)) (idx l b) (nat' n l (idx l b)) b⟩, i64 ((psh n l (idx l b)).1 : Nat)]) []
  refine Ct.intro X165 X165_ok rfl (by kernel_rfl) rfl rfl fun g hg => ?_
  repeat (refine Run.go rfl ?_)
  refine Run.cs rfl (rkIndex_ct ⟨n, l⟩ b ex hlen1) rfl rfl ?_
  repeat (refine Run.go rfl ?_)
  have hcs := psh_cases h hk hf
  have hnat : 0 ≤ nat' n l (idx l b) ∧ nat' n l (idx l b) < n := by
    unfold nat'
    rcases hcs with ⟨h0, hp⟩ | ⟨h0, c, hp, c1, c2, c3⟩ | ⟨h0, d, hp, d1, d2, d3⟩
    · rw [if_pos h0, Int.tdiv_eq_ediv_of_nonneg (by omega)]
      have htoo : fr l (idx l b) + rm n l (idx l b) = too n l (idx l b) := by unfold rm; omega
      omega
    · rw [if_neg (by omega), hp, if_pos rfl]
      have hfk : fr l (idx l b) = pa l (idx l b - 1) + 1 := by rw [fr, if_pos (by omega)]
      have := h.rng (idx l b - 1) (by omega)
      omega
    · rw [if_neg (by omega), hp]
      have htoo : too n l (idx l b) = pa l (idx l b) := by rw [too, if_pos (by omega)]
      have hfk : fr l (idx l b) = too n l (idx l b) := by unfold rm at h0; omega
      have := h.rng (idx l b) (by omega)
      show 0 ≤ fr l (idx l b) ∧ fr l (idx l b) < n
      omega
  have hshl : (sh n l (idx l b)).length = l.length := by
    unfold sh
    rcases hcs with ⟨h0, hp⟩ | ⟨h0, c, hp, c1, c2, c3⟩ | ⟨h0, d, hp, d1, d2, d3⟩
    · rw [if_pos h0]
    · rw [if_neg (by omega), hp, if_pos rfl]
      exact shf_len (by show idx l b - c + c ≤ _; omega)
    · rw [if_neg (by omega), hp]
      exact shf_len d2
  generalize idx l b = k at *
  have hrn : rm n l k ≤ n := by unfold rm; omega
  refine Run.cs rfl (room_ct ⟨n, l⟩ ex k h hk) rfl rfl ?_
  repeat (refine Run.go rfl ?_)
  refine Run.cs rfl (pushed_ct ⟨n, l⟩ ex k h hk) rfl rfl ?_
  repeat (refine Run.go rfl ?_)
  refine Run.drawI (fun D => ⟨[(2, .bp (2, 0) 0), (3, .bp (3, 0) 0), (4, .bp (4, 0) 0), (6, i64 (k : Nat)), (7, i64 (fr l k)), (8, i64 (rm n l k)), (9, i64 ((psh n l k).1 : Nat)), (10, bo (psh n l k).2), (30, bif D 0 then .bp (2, 0) 0 else .top), (31, bif D 1 then i16 n else .top), (32, bif D 2 then .bp (2, 0) 1 else .top), (33, bif D 3 then .ro 9 ex (l.map plA) else .top), (34, bif D 5 then .top else bif D 4 then .own 9 false (l.map plA) else .top), (35, bif D 5 then .agg [i16 n, .vec (34, 0) 0 (l.map plA).length] else .top), (11, bif D 6 then .bp (11, 0) 0 else .top)], [((2, 0), Ob.box (rkR ex ⟨n, l⟩).cells), ((3, 0), Ob.box (bkA b).cells), ((4, 0), Ob.box [i16 0, .lit (.slice none 0 0)]), ((11, 0), (bif D 7 then Ob.box [i16 n, .vec (34, 0) 0 (l.map plA).length] else (bif D 6 then Ob.box [i16 0, .lit (.slice none 0 0)] else Ob.gone))), ((34, 0), (bif D 5 then Ob.vec 9 false (l.map plA) else Ob.gone))]⟩) (by decide +kernel) (by decide +kernel) ?_ ?_ fun k' => ⟨?_, ?_, ?_, ?_, ?_, ?_, ?_, ?_, trivial⟩
  · exact St.Le.mk' ⟨rfl, rfl, rfl, rfl, rfl, rfl, rfl, rfl, rfl, rfl, rfl, rfl, rfl, rfl, rfl, trivial⟩ ⟨rfl, rfl, rfl, rfl, rfl, trivial⟩
  rotate_left
  · intro D hid h0 hp hs rest hK
    obtain ⟨d1, -⟩ : AllD D false [1] := ideal_sub hs (by decide +kernel)
    simp only [d1, h0, cond_true, cond_false]
    refine Run.go rfl ?_
    refine Run.le ?_ hK
    simp only [d1, h0, Nat.reduceBEq, Bool.false_or, Bool.true_or, cond_true, cond_false]
    exact St.Le.mk' ⟨rfl, rfl, rfl, rfl, rfl, rfl, rfl, rfl, rfl, rfl, rfl, rfl, rfl, rfl, rfl, trivial⟩ ⟨rfl, rfl, rfl, rfl, rfl, trivial⟩
  · intro D hid h0 hp hs rest hK
    obtain ⟨d0, -⟩ : AllD D true [0] := ideal_sub hp (by decide +kernel)
    obtain ⟨d5, -⟩ : AllD D false [5] := ideal_sub hs (by decide +kernel)
    simp only [d0, d5, h0, cond_true, cond_false]
    refine Run.go rfl ?_
    refine Run.le ?_ hK
    simp only [d0, d5, h0, Nat.reduceBEq, Bool.false_or, Bool.true_or, cond_true, cond_false]
    exact St.Le.mk' ⟨rfl, rfl, rfl, rfl, rfl, rfl, rfl, rfl, rfl, rfl, rfl, rfl, rfl, rfl, rfl, trivial⟩ ⟨rfl, rfl, rfl, rfl, rfl, trivial⟩
  · intro D hid h0 hp hs rest hK
    obtain ⟨d3, -⟩ : AllD D false [3] := ideal_sub hs (by decide +kernel)
    simp only [d3, h0, cond_true, cond_false]
    refine Run.go rfl ?_
    refine Run.le ?_ hK
    simp only [d3, h0, Nat.reduceBEq, Bool.false_or, Bool.true_or, cond_true, cond_false]
    exact St.Le.mk' ⟨rfl, rfl, rfl, rfl, rfl, rfl, rfl, rfl, rfl, rfl, rfl, rfl, rfl, rfl, rfl, trivial⟩ ⟨rfl, rfl, rfl, rfl, rfl, trivial⟩
  · intro D hid h0 hp hs rest hK
    obtain ⟨d2, -⟩ : AllD D true [2] := ideal_sub hp (by decide +kernel)
    obtain ⟨d4, -⟩ : AllD D false [4] := ideal_sub hs (by decide +kernel)
    simp only [d2, d4, h0, cond_true, cond_false]
    refine Run.go rfl ?_
    refine Run.le ?_ hK
    simp only [d2, d4, h0, Nat.reduceBEq, Bool.false_or, Bool.true_or, cond_true, cond_false]
    exact St.Le.mk' ⟨rfl, rfl, rfl, rfl, rfl, rfl, rfl, rfl, rfl, rfl, rfl, rfl, rfl, rfl, rfl, trivial⟩ ⟨rfl, rfl, rfl, rfl, rfl, trivial⟩
  · intro D hid h0 hp hs rest hK
    obtain ⟨d3, -⟩ : AllD D true [3] := ideal_sub hp (by decide +kernel)
    obtain ⟨d5, -⟩ : AllD D false [5] := ideal_sub hs (by decide +kernel)
    simp only [d3, d5, h0, cond_true, cond_false]
    refine Run.cs rfl (clonePl_ct l ex hlen1) rfl (rfP _) ?_
    refine Run.le ?_ hK
    simp only [d3, d5, h0, Nat.reduceBEq, Bool.false_or, Bool.true_or, cond_true, cond_false]
    exact St.Le.mk' ⟨rfl, rfl, rfl, rfl, rfl, rfl, rfl, rfl, rfl, rfl, rfl, rfl, rfl, rfl, rfl, trivial⟩ ⟨rfl, rfl, rfl, rfl, rfl, trivial⟩
  · intro D hid h0 hp hs rest hK
    obtain ⟨d1, d4, -⟩ : AllD D true [1, 4] := ideal_sub hp (by decide +kernel)
    obtain ⟨d7, -⟩ : AllD D false [7] := ideal_sub hs (by decide +kernel)
    simp only [d1, d4, d7, h0, cond_true, cond_false]
    refine Run.unpack 34 rfl (by cases D 0 <;> cases D 2 <;> cases D 3 <;> cases D 6 <;> rfl) ?_
    refine Run.val rfl rfl rfl (ValOk.build rfl rfl rfl rfl rfl) rfl ?_
    refine Run.forget 34 ?_
    refine Run.le ?_ hK
    simp only [d1, d4, d7, h0, Nat.reduceBEq, Bool.false_or, Bool.true_or, cond_true, cond_false]
    exact St.Le.mk' ⟨rfl, rfl, rfl, rfl, rfl, rfl, rfl, rfl, rfl, rfl, rfl, rfl, rfl, rfl, rfl, trivial⟩ ⟨rfl, rfl, rfl, rfl, rfl, trivial⟩
  · intro D hid h0 hp hs rest hK
    obtain ⟨d7, -⟩ : AllD D false [7] := ideal_sub hs (by decide +kernel)
    simp only [d7, h0, cond_true, cond_false]
    refine Run.alloc rfl rfl rfl rfl rfl rfl (by cases D 0 <;> cases D 1 <;> cases D 2 <;> cases D 3 <;> cases D 4 <;> cases D 5 <;> rfl) rfl ?_
    refine Run.le ?_ hK
    simp only [d7, h0, Nat.reduceBEq, Bool.false_or, Bool.true_or, cond_true, cond_false]
    exact St.Le.mk' ⟨rfl, rfl, rfl, rfl, rfl, rfl, rfl, rfl, rfl, rfl, rfl, rfl, rfl, rfl, rfl, trivial⟩ ⟨rfl, rfl, rfl, rfl, rfl, trivial⟩
  · intro D hid h0 hp hs rest hK
    obtain ⟨d5, d6, -⟩ : AllD D true [5, 6] := ideal_sub hp (by decide +kernel)
    simp only [d5, d6, h0, cond_true, cond_false]
    refine Run.go rfl ?_
    refine Run.le ?_ hK
    simp only [d5, d6, h0, Nat.reduceBEq, Bool.false_or, Bool.true_or, cond_true, cond_false]
    exact St.Le.mk' ⟨rfl, rfl, rfl, rfl, rfl, rfl, rfl, rfl, rfl, rfl, rfl, rfl, rfl, rfl, rfl, trivial⟩ ⟨rfl, rfl, rfl, rfl, rfl, trivial⟩
  repeat (refine Run.go rfl ?_)
  refine Run.condJ ⟨[(3, .bp (3, 0) 0), (4, .bp (4, 0) 0), (6, i64 (k : Nat)), (9, i64 ((psh n l k).1 : Nat)), (11, .bp (11, 0) 0), (12, i64 (nat' n l k))],
    [((3, 0), .box (bkA b).cells), ((4, 0), .box [i16 0, .lit (.slice none 0 0)]), ((11, 0), .box [i16 n, .vec (34, 0) 0 l.length]), ((34, 0), .vec 9 false ((sh n l k).map plA))]⟩ rfl (fun h0 k' hN => ?_) (fun h0 k' hN => ?_) ?_
  · have h0 : 0 < rm n l k := by simpa using h0
    have hw : IntKind.i64.wrap (rm n l k - 1) = rm n l k - 1 := wrap_i64 (by omega) (by omega)
    have hn' : nat' n l k = fr l k + (rm n l k - 1).tdiv 2 := by rw [nat', if_pos h0]
    have hs' : sh n l k = l := by rw [sh, if_pos h0]
    have hd : 0 ≤ (rm n l k - 1).tdiv 2 ∧ (rm n l k - 1).tdiv 2 ≤ n := by
      rw [Int.tdiv_eq_ediv_of_nonneg (by omega)]
      omega
    repeat (refine Run.go rfl ?_)
    refine Run.of hN ⟨rfl, rfl, rfl, rfl, rfl, ?_, trivial⟩ ⟨rfl, rfl, ?_, ?_, trivial⟩
    · show i64 (IntKind.i64.wrap (fr l k + IntKind.i64.wrap ((IntKind.i64.wrap (rm n l k - 1)).tdiv 2))) = i64 _
      rw [hw, wrap_i64 (n := Int.tdiv _ _) (by omega) (by omega), wrap_i64 (by omega) (by omega), hn']
    · show Ob.box [_, AV.vec _ _ (l.map plA).length] = _
      rw [List.length_map]
    · show Ob.vec _ _ _ = Ob.vec _ _ _
      rw [hs']
  have h0 : ¬ 0 < rm n l k := by simpa using h0
  repeat (refine Run.go rfl ?_)
  refine Run.cond rfl (fun h1 => ?_) (fun h1 => ?_)
  · have h1 : (psh n l k).2 = true := h1
    obtain ⟨c, hp, c1, c2, c3⟩ : ∃ c, psh n l k = (c, true) ∧ 1 ≤ c ∧ c ≤ k ∧ 0 < rm n l (k - c) := by
      rcases hcs with ⟨h0', hp⟩ | ⟨-, c, hp, c1, c2, c3⟩ | ⟨-, d, hp, d1, d2, d3⟩
      · omega
      · exact ⟨c, hp, c1, c2, c3⟩
      · rw [hp] at h1; cases h1
    have hn' : nat' n l k = fr l k - 1 := by rw [nat', if_neg h0, hp]; rfl
    have hs' : sh n l k = shf l (k - c) c (-1) := by rw [sh, if_neg h0, hp]; rfl
    rw [hn', hs', hp] at hN
    rw [hp]
    repeat (refine Run.go rfl ?_)
    refine Run.loop (fun j : Nat => ⟨[(3, .bp (3, 0) 0), (4, .bp (4, 0) 0), (6, i64 (k : Nat)), (7, i64 (fr l k)), (9, i64 (c : Nat)), (11, .bp (11, 0) 0), (13, i64 ((k - c + j : Nat) : Int))],
      [((3, 0), .box (bkA b).cells), ((4, 0), .box [i16 0, .lit (.slice none 0 0)]), ((11, 0), .box [i16 n, .vec (34, 0) 0 l.length]), ((34, 0), .vec 9 false ((shf l (k - c) j (-1)).map plA))]⟩) (fun j => j ≤ c) (fun j => c - j) 0 (by omega) ?_ ?_
    · refine St.Le.mk' ⟨rfl, rfl, rfl, rfl, rfl, rfl, ?_, trivial⟩ ⟨rfl, rfl, ?_, ?_, trivial⟩
      · show i64 (IntKind.i64.wrap ((k : Int) - c)) = i64 ((k - c + 0 : Nat) : Int)
        rw [wrap_i64 (by omega) (by omega), show ((k - c + 0 : Nat) : Int) = (k : Int) - c by omega]
      · show Ob.box [_, AV.vec _ _ (l.map plA).length] = _
        rw [List.length_map]
      · rw [shf_zero]
        rfl
    intro j hj IH
    repeat (refine Run.go rfl ?_)
    refine Run.cond rfl (fun h2 => ?_) (fun h2 => ?_)
    · have h2 : j < c := by simp at h2; omega
      have hil : k - c + j < l.length := by omega
      have hp0 := (h.i16 hil).2
      have hat := shf_at (d := -1) hil
      have hst := shf_step (l := l) (i := k - c) (j := j) (d := -1) (by omega)
      have hsl := shf_len (l := l) (i := k - c) (c := j) (d := -1) (by omega)
      have hge := h.ge (k - c + j) hil
      have hw16 : IntKind.i16.wrap (l[k - c + j].p - 1) = l[k - c + j].p - 1 := wrap_i16 (by omega) (by omega)
      generalize shf l (k - c) j (-1) = S at hat hst hsl
      have hat2 : (S.map plA)[0 + ((k - c + j : Nat) : Int).toNat]? = some (plA l[k - c + j]) := by
        rw [List.getElem?_map, Nat.zero_add, Int.toNat_natCast, hat]; rfl
      repeat (refine Run.go rfl ?_)
      refine Run.val rfl rfl rfl (ValOk.idxv (m := ((k - c + j : Nat) : Int)) rfl rfl rfl rfl rfl rfl (by omega) (by omega)) rfl ?_
      repeat (refine Run.go rfl ?_)
      refine Run.val rfl rfl rfl (ValOk.loadv (plA l[k - c + j]) rfl rfl rfl rfl hat2 rfl) rfl ?_
      repeat (refine Run.go rfl ?_)
      refine Run.val rfl rfl rfl (ValOk.idxv (m := ((k - c + j : Nat) : Int)) rfl rfl rfl rfl rfl rfl (by omega) (by omega)) rfl ?_
      repeat (refine Run.go rfl ?_)
      refine Run.storee (plA l[k - c + j]) (plA (mvP (-1) l[k - c + j])) rfl rfl rfl rfl rfl rfl rfl hat2 rfl rfl ?_ ?_
      · show plA ⟨IntKind.i16.wrap (l[k - c + j].p - 1), l[k - c + j].b⟩ = _
        rw [hw16]
        rfl
      repeat (refine Run.go rfl ?_)
      refine Run.of (IH (j + 1) (by omega) (by omega)) ⟨rfl, rfl, rfl, rfl, rfl, rfl, ?_, trivial⟩ ⟨rfl, rfl, rfl, ?_, trivial⟩
      · show i64 (IntKind.i64.wrap _) = i64 _
        rw [wrap_i64 (by omega) (by omega)]
        rfl
      · show Ob.vec _ _ _ = Ob.vec _ _ _
        rw [← hst, ← List.map_set, Nat.zero_add, Int.toNat_natCast]
    · have h2 : j = c := by simp at h2; omega
      subst h2
      repeat (refine Run.go rfl ?_)
      refine Run.of hN ⟨rfl, rfl, rfl, rfl, rfl, ?_, trivial⟩ ⟨rfl, rfl, rfl, rfl, trivial⟩
      show i64 (IntKind.i64.wrap (fr l k - 1)) = i64 _
      rw [wrap_i64 (by omega) (by omega)]
  · have h1 : (psh n l k).2 = false := h1
    obtain ⟨d, hp, d1, d2, d3⟩ : ∃ d, psh n l k = (d, false) ∧ 1 ≤ d ∧ k + d ≤ l.length ∧ 0 < rm n l (k + d) := by
      rcases hcs with ⟨h0', hp⟩ | ⟨-, c, hp, c1, c2, c3⟩ | ⟨-, d, hp, d1, d2, d3⟩
      · omega
      · rw [hp] at h1; cases h1
      · exact ⟨d, hp, d1, d2, d3⟩
    have hn' : nat' n l k = fr l k := by rw [nat', if_neg h0, hp]; rfl
    have hs' : sh n l k = shf l k d 1 := by rw [sh, if_neg h0, hp]; rfl
    rw [hn', hs', hp] at hN
    rw [hp]
    repeat (refine Run.go rfl ?_)
    refine Run.loop (fun j : Nat => ⟨[(3, .bp (3, 0) 0), (4, .bp (4, 0) 0), (6, i64 (k : Nat)), (9, i64 (d : Nat)), (11, .bp (11, 0) 0), (12, i64 (fr l k)), (14, i64 ((k + j : Nat) : Int))],
      [((3, 0), .box (bkA b).cells), ((4, 0), .box [i16 0, .lit (.slice none 0 0)]), ((11, 0), .box [i16 n, .vec (34, 0) 0 l.length]), ((34, 0), .vec 9 false ((shf l k j 1).map plA))]⟩) (fun j => j ≤ d) (fun j => d - j) 0 (by omega) ?_ ?_
    · refine St.Le.mk' ⟨rfl, rfl, rfl, rfl, rfl, rfl, rfl, trivial⟩ ⟨rfl, rfl, ?_, ?_, trivial⟩
      · show Ob.box [_, AV.vec _ _ (l.map plA).length] = _
        rw [List.length_map]
      · rw [shf_zero]
        rfl
    intro j hj IH
    have hwk : IntKind.i64.wrap ((k : Int) + d) = k + d := wrap_i64 (by omega) (by omega)
    repeat (refine Run.go rfl ?_)
    refine Run.cond rfl (fun h2 => ?_) (fun h2 => ?_)
    · have h2 : ((k + j : Nat) : Int) < IntKind.i64.wrap ((k : Int) + d) := by simpa using h2
      rw [hwk] at h2
      have h2 : j < d := by omega
      have hil : k + j < l.length := by omega
      have hp0 := (h.i16 hil).2
      have hat := shf_at (d := 1) hil
      have hst := shf_step (l := l) (i := k) (j := j) (d := 1) (by omega)
      have hsl := shf_len (l := l) (i := k) (c := j) (d := 1) (by omega)
      have hw16 : IntKind.i16.wrap (l[k + j].p + 1) = l[k + j].p + 1 := wrap_i16 (by omega) (by omega)
      generalize shf l k j 1 = S at hat hst hsl
      have hat2 : (S.map plA)[0 + ((k + j : Nat) : Int).toNat]? = some (plA l[k + j]) := by
        rw [List.getElem?_map, Nat.zero_add, Int.toNat_natCast, hat]; rfl
      repeat (refine Run.go rfl ?_)
      refine Run.val rfl rfl rfl (ValOk.idxv (m := ((k + j : Nat) : Int)) rfl rfl rfl rfl rfl rfl (by omega) (by omega)) rfl ?_
      repeat (refine Run.go rfl ?_)
      refine Run.val rfl rfl rfl (ValOk.loadv (plA l[k + j]) rfl rfl rfl rfl hat2 rfl) rfl ?_
      repeat (refine Run.go rfl ?_)
      refine Run.val rfl rfl rfl (ValOk.idxv (m := ((k + j : Nat) : Int)) rfl rfl rfl rfl rfl rfl (by omega) (by omega)) rfl ?_
      repeat (refine Run.go rfl ?_)
      refine Run.storee (plA l[k + j]) (plA (mvP 1 l[k + j])) rfl rfl rfl rfl rfl rfl rfl hat2 rfl rfl ?_ ?_
      · show plA ⟨IntKind.i16.wrap (l[k + j].p + 1), l[k + j].b⟩ = _
        rw [hw16]
        rfl
      repeat (refine Run.go rfl ?_)
      refine Run.of (IH (j + 1) (by omega) (by omega)) ⟨rfl, rfl, rfl, rfl, rfl, rfl, ?_, trivial⟩ ⟨rfl, rfl, rfl, ?_, trivial⟩
      · show i64 (IntKind.i64.wrap _) = i64 _
        rw [wrap_i64 (by omega) (by omega)]
        rfl
      · show Ob.vec _ _ _ = Ob.vec _ _ _
        rw [← hst, ← List.map_set, Nat.zero_add, Int.toNat_natCast]
    · have h2 : ¬ ((k + j : Nat) : Int) < IntKind.i64.wrap ((k : Int) + d) := by simpa using h2
      rw [hwk] at h2
      have h2 : j = d := by omega
      subst h2
      repeat (refine Run.go rfl ?_)
      exact Run.of hN ⟨rfl, rfl, rfl, rfl, rfl, rfl, trivial⟩ ⟨rfl, rfl, rfl, rfl, trivial⟩
  have hw16 : IntKind.i16.wrap (nat' n l k) = nat' n l k := wrap_i16 (by omega) (by omega)
  repeat (refine Run.go rfl ?_)
  refine Run.val rfl rfl rfl (ValOk.build rfl rfl rfl rfl rfl) rfl ?_
  refine Run.buildSlice [plA ⟨IntKind.i16.wrap (nat' n l k), b⟩] rfl rfl rfl rfl rfl rfl rfl rfl rfl rfl rfl rfl rfl rfl ?_
  refine Run.freeze (v' := .ro 9 true ([(⟨nat' n l k, b⟩ : Pl)].map plA)) 90 rfl rfl (by rw [hw16]; rfl) ?_
  refine Run.callg (34, 0) rfl rfl rfl rfl rfl rfl rfl rfl ?_ rfl rfl rfl (insert_pl_ct (sh n l k) [⟨nat' n l k, b⟩] false true k (by omega) (by simp; omega)) rfl ?_
  · show l.length = ((sh n l k).map plA).length
    rw [List.length_map, hshl]
  repeat (refine Run.go rfl ?_)
  refine Run.unpack 91 rfl rfl ?_
  repeat (refine Run.go rfl ?_)
  refine Run.packBox (4, 0) 1 rfl rfl rfl rfl ?_
  refine Run.ret hg rfl ?_
  rfl
def adAll (n : Int) : List Bk → List Pl → Nat → Rk × Nat × Int
  | [], l, s => (⟨n, l⟩, s, 0)
  | b :: r, l, s => if (l.length : Int) = n then (rk0, 0, 3) else adAll n r (adL n l b) (s + adM n l b)
def aaRes (r : Rk) (lst : List Bk) : Rk × Nat × Int := if vR r = true then (if vBs lst = true then adAll r.pl lst r.bs 0 else (rk0, 0, 1)) else (rk0, 0, 1)
def aaA (x : Rk × Nat × Int) : AV := .tup [rkO false x.1, i64 (x.2.1 : Nat), i64 x.2.2]
noncomputable def X70 : Fx := ⟨Tryz.prog, tys, 70, Tryz.f70, [0, 1]⟩
theorem X70_ok : X70.Ok := ⟨Tryz.func70, tys_ok⟩
theorem implAddAll_ct (r : Rk) (ex : Bool) (lst : List Bk) (e2 : Bool) (hr : rkOk r) (hlb : ∀ x ∈ lst, bkRng x) (hll : lst.length ≤ 1048576) : Ct Tryz.prog 70 [rkR ex r, .ro 8 e2 (lst.map bkA)] (aaA (aaRes r lst)) [] := by
  have hlen := hr.1.2
  refine Ct.intro X70 X70_ok rfl (by kernel_rfl) rfl rfl fun g hg => ?_
  repeat (refine Run.go rfl ?_)
  refine Run.cs rfl (implValidRack_ct r ex hr) rfl rfl ?_
  repeat (refine Run.go rfl ?_)
  refine Run.bool 16 rfl (fun h => ?_) (fun h => ?_)
  · have h : vR r = false := by simpa using h
    repeat (refine Run.go rfl ?_)
    refine Run.cond rfl (fun _ => ?_) (fun h => by simp at h)
    repeat (refine Run.go rfl ?_)
    refine Run.val rfl rfl rfl (ValOk.build rfl rfl rfl rfl rfl) rfl ?_
    repeat (refine Run.go rfl ?_)
    refine Run.nilBox (4, 0) 1 9 false rfl rfl ?_
    refine Run.ret hg rfl ?_
    rw [aaRes, if_neg (by rw [h]; decide)]
    rfl
  have hv : vR r = true := by simpa using h
  have hV := (vR_VR hr.2).1 hv
  repeat (refine Run.go rfl ?_)
  refine Run.cs rfl (validBooks_ct lst e2 hll) rfl rfl ?_
  repeat (refine Run.go rfl ?_)
  refine Run.cond rfl (fun h => ?_) (fun h => ?_)
  · have h : vBs lst = false := by simpa using h
    repeat (refine Run.go rfl ?_)
    refine Run.val rfl rfl rfl (ValOk.build rfl rfl rfl rfl rfl) rfl ?_
    repeat (refine Run.go rfl ?_)
    refine Run.nilBox (4, 0) 1 9 false rfl rfl ?_
    refine Run.ret hg rfl ?_
    rw [aaRes, if_pos hv, if_neg (by rw [h]; decide)]
    rfl
  have hvb : vBs lst = true := by simpa using h
  have hvb1 : lst.length ≤ 60 ∧ ∀ x ∈ lst, vB x = true := by simpa [vBs] using hvb
  have hbr : ∀ x ∈ r.bs, bkRng x.b := fun x hx => (hr.2 x hx).2
  rw [aaRes, if_pos hv, if_pos hvb] at hg
  obtain ⟨n, l0⟩ := r
  simp only at hV hbr hg
  have hn := hV.hn
  repeat (refine Run.go rfl ?_)
  refine Run.cs rfl (rkOwn_ct ⟨n, l0⟩ ex hlen) rfl (rk_rf _ _) ?_
  repeat (refine Run.go rfl ?_)
  refine Run.unagg 23 1 (23, 1) rfl rfl rfl ?_
  repeat (refine Run.go rfl ?_)
  refine Run.packBox (7, 0) 1 rfl rfl rfl rfl ?_
  repeat (refine Run.go rfl ?_)
  refine Run.loop (fun q : Nat × List Pl × Nat => ⟨[(4, .bp (4, 0) 0), (7, .bp (7, 0) 0), (8, i64 (q.2.2 : Nat)), (24, .ro 8 e2 (lst.map bkA)), (25, i64 lst.length), (26, i64 (q.1 : Nat))],
    [((4, 0), .box [i16 0, .lit (.slice none 0 0)]), ((7, 0), .box [i16 n, .own 9 false (q.2.1.map plA)])]⟩)
    (fun q => q.1 ≤ lst.length ∧ VR n q.2.1 ∧ (∀ x ∈ q.2.1, bkRng x.b) ∧ q.2.2 ≤ q.1 * 60 ∧ adAll n lst l0 0 = adAll n (lst.drop q.1) q.2.1 q.2.2) (fun q => lst.length - q.1) (0, l0, 0) ⟨by simp, hV, hbr, by simp, rfl⟩ ?_ ?_
  · refine St.Le.mk' ⟨rfl, rfl, rfl, rfl, ?_, rfl, trivial⟩ ⟨rfl, rfl, trivial⟩
    show i64 (lst.map bkA).length = _
    rw [List.length_map]
  rintro ⟨j, l, s⟩ ⟨hj, hVl, hbl, hs, had⟩ IH
  simp only at hj hVl hbl hs had IH
  have hlen := hVl.len
  repeat (refine Run.go rfl ?_)
  refine Run.cond rfl (fun h => ?_) (fun h => ?_)
  · have hlt : j < lst.length := by simpa using h
    rw [List.drop_eq_getElem_cons hlt, adAll] at had
    have hbj := hlb lst[j] (by simp)
    have hvj := hvb1.2 lst[j] (by simp)
    have hf1 : rkR false ⟨n, l⟩ = .agg [i16 n, .ro 9 false (l.map plA)] := rfl
    repeat (refine Run.go rfl ?_)
    refine Run.val rfl rfl rfl (ValOk.idx (bkA lst[j]) rfl rfl rfl rfl rfl (by omega) (by simp [hlt])) rfl ?_
    repeat (refine Run.go rfl ?_)
    refine Run.unBox (7, 0) 1 (7, 1) rfl rfl rfl (by decide) ?_
    repeat (refine Run.go rfl ?_)
    refine Run.cs rfl (isFull_ct ⟨n, l⟩ false (by show -32768 ≤ n ∧ n ≤ 32767; omega)) (by rw [hf1, frzP, decide_eq_true rfl]; rfl) rfl ?_
    repeat (refine Run.go rfl ?_)
    refine Run.cond rfl (fun h => ?_) (fun h => ?_)
    · have h : (l.length : Int) = n := by simpa using h
      rw [if_pos h] at had
      repeat (refine Run.go rfl ?_)
      refine Run.val rfl rfl rfl (ValOk.build rfl rfl rfl rfl rfl) rfl ?_
      repeat (refine Run.go rfl ?_)
      refine Run.nilBox (4, 0) 1 9 false rfl rfl ?_
      refine Run.ret hg rfl ?_
      rw [had]
      rfl
    have h : ¬ (l.length : Int) = n := by simpa using h
    rw [if_neg h] at had
    obtain ⟨q1, q2, q3, q4⟩ := hVl.added (b := lst[j]) (by omega) hbl hbj hvj
    have q5 : ∀ x ∈ adL n l lst[j], bkRng x.b := fun x hx => by
      rcases q4 x hx with e | ⟨y, hy, e⟩
      · rw [e]; exact hbj
      · rw [e]; exact hbl y hy
    repeat (refine Run.go rfl ?_)
    refine Run.cs rfl (added_ct ⟨n, l⟩ false lst[j] hVl (by show (l.length : Int) < n; omega) hbl hbj hvj) (by rw [hf1, frzP, decide_eq_true rfl]; rfl) (by simp only [AV.rf, AV.rfL, rk_rf]; rfl) ?_
    repeat (refine Run.go rfl ?_)
    refine Run.unagg 37 1 (37, 1) rfl rfl rfl ?_
    repeat (refine Run.go rfl ?_)
    refine Run.packBox (7, 0) 1 rfl rfl rfl rfl ?_
    refine Run.of (IH (j + 1, adL n l lst[j], s + adM n l lst[j]) ⟨hlt, q1, q5, by show s + adM n l lst[j] ≤ (j + 1) * 60; omega, had⟩ (by show lst.length - (j + 1) < lst.length - j; omega)) ⟨rfl, rfl, ?_, rfl, rfl, ?_, trivial⟩ ⟨rfl, rfl, trivial⟩
    · show i64 (IntKind.i64.wrap ((s : Int) + adM n l lst[j])) = i64 _
      rw [wrap_i64 (by omega) (by omega)]
      rfl
    · show i64 (IntKind.i64.wrap _) = i64 _
      rw [wrap_i64 (by omega) (by omega)]
      rfl
  · have hjl : j = lst.length := by simp at h; omega
    subst hjl
    rw [List.drop_length, adAll] at had
    repeat (refine Run.go rfl ?_)
    refine Run.unBox (7, 0) 1 (7, 1) rfl rfl rfl (by decide) ?_
    repeat (refine Run.go rfl ?_)
    refine Run.packBox (4, 0) 1 rfl rfl rfl rfl ?_
    refine Run.ret hg rfl ?_
    rw [had]
    rfl
noncomputable def X13 : Fx := ⟨Tryz.prog, tys, 13, Tryz.f13, [0, 1]⟩
theorem X13_ok : X13.Ok := ⟨Tryz.func13, tys_ok⟩
theorem implAddBook_ct (r : Rk) (ex : Bool) (b : Bk) (hr : rkOk r) (hb : bkRng b) : Ct Tryz.prog 13 [rkR ex r, bkA b] (aaA (if vB b = true then aaRes r [b] else (rk0, 0, 1))) [] := by
  refine Ct.intro X13 X13_ok rfl (by kernel_rfl) rfl rfl fun g hg => ?_
  repeat (refine Run.go rfl ?_)
  refine Run.cs rfl (validBook_ct b) rfl rfl ?_
  repeat (refine Run.go rfl ?_)
  refine Run.cond rfl (fun h => ?_) (fun h => ?_)
  · have h : vB b = false := by simpa using h
    repeat (refine Run.go rfl ?_)
    refine Run.val rfl rfl rfl (ValOk.build rfl rfl rfl rfl rfl) rfl ?_
    repeat (refine Run.go rfl ?_)
    refine Run.nilBox (4, 0) 1 9 false rfl rfl ?_
    refine Run.ret hg rfl ?_
    rw [if_neg (by rw [h]; decide)]
    rfl
  have hv : vB b = true := by simpa using h
  repeat (refine Run.go rfl ?_)
  refine Run.buildSlice [bkA b] rfl rfl rfl rfl rfl rfl rfl rfl rfl rfl rfl rfl rfl rfl ?_
  refine Run.freeze (v' := .ro 8 true ([b].map bkA)) 13 rfl rfl rfl ?_
  refine Run.cs rfl (implAddAll_ct r ex [b] true hr (fun x hx => by simp at hx; subst hx; exact hb) (by simp)) rfl (by simp only [aaA, AV.rf, AV.rfL, rk_rf]; rfl) ?_
  rw [if_pos hv] at hg
  repeat (refine Run.go rfl ?_)
  refine Run.unagg 15 1 (15, 1) rfl rfl rfl ?_
  repeat (refine Run.go rfl ?_)
  refine Run.packBox (4, 0) 1 rfl rfl rfl rfl ?_
  exact Run.ret hg rfl rfl
end Go.Proofs.YtbkelajnngdimaaGreatDoor

/- Contracts of the program's functions, and what follows from them. -/
set_option maxRecDepth 100000
namespace Go.Proofs.YtbkelajnngdimaaGreatDoor
open Go Go.Av
def splB (L : List Bk) (b : Bk) : Nat → Nat
  | 0 => 0
  | k + 1 => if uc b (L.getD k bk0) < 0 then splB L b k else k + 1
noncomputable def X172 : Fx := ⟨Tryz.prog, tys, 172, Tryz.f172, [0, 1]⟩
theorem X172_ok : X172.Ok := ⟨Tryz.func172, tys_ok⟩
theorem l01Place_ct (L : List Bk) (ex : Bool) (b : Bk) (hL : ∀ x ∈ L, bkRng x) (hb : bkRng b) (hlen : L.length ≤ 1048576) : Ct Tryz.prog 172 [.ro 8 ex (L.map bkA), .rp (bkA b).cells 0] (i64 (splB L b L.length : Nat)) [] := by
  refine Ct.intro X172 X172_ok rfl (by kernel_rfl) rfl rfl fun g hg => ?_
  repeat (refine Run.go rfl ?_)
  refine Run.loop (fun j : Nat => ⟨[(0, .ro 8 ex (L.map bkA)), (1, .rp (bkA b).cells 0), (5, i64 ((L.length - j : Nat) : Int))], []⟩) (fun j => j ≤ L.length ∧ splB L b L.length = splB L b (L.length - j)) (fun j => L.length - j) 0 ⟨by omega, rfl⟩ ?_ ?_
  · refine St.Le.mk' ⟨rfl, rfl, ?_, trivial⟩ trivial
    show i64 ((L.map bkA).length : Nat) = i64 ((L.length - 0 : Nat) : Int)
    rw [List.length_map, Nat.sub_zero]
  rintro j ⟨hj, hsp⟩ IH
  repeat (refine Run.go rfl ?_)
  refine Run.bool 10 rfl (fun h => ?_) (fun h => ?_)
  · have h : 0 < L.length - j := by simp at h; omega
    obtain ⟨k, hk⟩ : ∃ k, L.length - j = k + 1 := ⟨L.length - j - 1, by omega⟩
    have hkl : k < L.length := by omega
    rw [hk, splB] at hsp
    have hw : IntKind.i64.wrap (((k + 1 : Nat) : Int) - 1) = (k : Nat) := by rw [wrap_i64 (by omega) (by omega)]; omega
    have hgk : L.getD k bk0 = L[k] := by simp [hkl]
    rw [hgk] at hsp
    rw [hk]
    repeat (refine Run.go rfl ?_)
    refine Run.val rfl rfl rfl (ValOk.idx (m := (k : Nat)) (bkA L[k]) rfl rfl rfl rfl (by show i64 (IntKind.i64.wrap (((k + 1 : Nat) : Int) - 1)) = _; rw [hw]) (by omega) (by rw [Int.toNat_natCast, List.getElem?_map, List.getElem?_eq_getElem hkl]; rfl)) rfl ?_
    repeat (refine Run.go rfl ?_)
    refine Run.cs rfl (l01Usual_ct b L[k] hb (hL _ (by simp))) rfl rfl ?_
    repeat (refine Run.go rfl ?_)
    refine Run.cond rfl (fun h2 => ?_) (fun h2 => ?_)
    · have h2 : uc b L[k] < 0 := by simpa using h2
      rw [if_pos h2] at hsp
      repeat (refine Run.go rfl ?_)
      refine Run.of (IH (j + 1) ⟨by omega, by rw [hsp, show L.length - (j + 1) = k by omega]⟩ (by omega)) ⟨rfl, rfl, ?_, trivial⟩ trivial
      show i64 (IntKind.i64.wrap (((k + 1 : Nat) : Int) - 1)) = i64 ((L.length - (j + 1) : Nat) : Int)
      rw [hw, show L.length - (j + 1) = k by omega]
    · have h2 : ¬ uc b L[k] < 0 := by simpa using h2
      rw [if_neg h2] at hsp
      repeat (refine Run.go rfl ?_)
      refine Run.ret hg rfl ?_
      rw [hsp]
      rfl
  · have h : L.length - j = 0 := by simp at h; omega
    rw [h] at hsp
    rw [h]
    repeat (refine Run.go rfl ?_)
    refine Run.cond rfl (fun h2 => by simp at h2) (fun h2 => ?_)
    repeat (refine Run.go rfl ?_)
    refine Run.ret hg rfl ?_
    rw [hsp]
    rfl
theorem splB_idx {l : List Pl} {b : Bk} (hr : ∀ x ∈ l, bkRng x.b) (hb : bkRng b) (hso : ∀ i j, i < j → j < l.length → ky (ba l i) ≤ ky (ba l j)) : splB (pbs l) b l.length = idx l b := by
  obtain ⟨i1, i2⟩ := idx_spec hr hb
  have hk := idx_le l b
  have hgd : ∀ i, i < l.length → (pbs l).getD i bk0 = ba l i := fun i hi => by rw [ba_get hi]; simp [pbs, hi]
  have hur : ∀ i, i < l.length → (uc b (ba l i) < 0 ↔ ky b < ky (ba l i)) := fun i hi => (uc_ky hb (by rw [ba_get hi]; exact hr _ (by simp))).1
  have key : ∀ d, idx l b + d ≤ l.length → splB (pbs l) b (idx l b + d) = idx l b := by
    intro d
    induction d with
    | zero =>
      intro _
      rw [Nat.add_zero]
      cases hi : idx l b with
      | zero => rfl
      | succ k =>
        rw [splB, if_neg]
        have := i1 k (by omega)
        rw [hgd k (by omega), hur k (by omega)]
        omega
    | succ d ih =>
      intro hd
      rw [show idx l b + (d + 1) = (idx l b + d) + 1 by omega, splB, if_pos, ih (by omega)]
      rw [hgd _ (by omega), hur _ (by omega)]
      have := i2 (by omega)
      by_cases e : d = 0
      · subst e; exact this
      · have := hso (idx l b) (idx l b + d) (by omega) (by omega)
        omega
  have := key (l.length - idx l b) (by omega)
  rwa [show idx l b + (l.length - idx l b) = l.length by omega] at this
noncomputable def X101 : Fx := ⟨Tryz.prog, tys, 101, Tryz.f101, [0]⟩
theorem X101_ok : X101.Ok := ⟨Tryz.func101, tys_ok⟩
theorem l05Books_ct (r : Rk) (ex : Bool) (hlen : r.bs.length ≤ 1048576) : Ct Tryz.prog 101 [.rp (rkR ex r).cells 0] (.own 8 false ((pbs r.bs).map bkA)) [] := by
  refine Ct.intro X101 X101_ok rfl rfl rfl rfl fun g hg => ?_
  repeat (refine Run.go rfl ?_)
  refine Run.buildSlice [] rfl rfl rfl rfl rfl rfl rfl rfl rfl rfl rfl rfl rfl rfl ?_
  refine Run.loosen0 5 rfl ?_
  repeat (refine Run.go rfl ?_)
  refine Run.loop (fun j : Nat => ⟨[(0, .rp (rkR ex r).cells 0), (3, .own 8 false ((pbs (r.bs.take j)).map bkA)), (4, i64 (j : Nat))], []⟩) (fun j => j ≤ r.bs.length) (fun j => r.bs.length - j) 0 (by omega) ?_ ?_
  · exact St.Le.mk' ⟨rfl, rfl, rfl, trivial⟩ trivial
  intro j hj IH
  repeat (refine Run.go rfl ?_)
  refine Run.cond rfl (fun h => ?_) (fun h => ?_)
  · have hlt : j < r.bs.length := by simpa using h
    have hpl : (pbs (r.bs.take j)).length ≤ j := by rw [pbs_len]; simp; omega
    have hst : pbs (r.bs.take (j + 1)) = pbs (r.bs.take j) ++ [r.bs[j].b] := by
      rw [pbs, List.take_succ_eq_append_getElem hlt, List.map_append]
      rfl
    generalize pbs (r.bs.take j) = D at hpl hst
    repeat (refine Run.go rfl ?_)
    refine Run.val rfl rfl rfl (ValOk.idx (plA r.bs[j]) rfl rfl rfl rfl rfl (by omega) (by simp [hlt])) rfl ?_
    repeat (refine Run.go rfl ?_)
    refine Run.buildSlice [bkA r.bs[j].b] rfl rfl rfl rfl rfl rfl rfl rfl rfl rfl rfl rfl rfl rfl ?_
    refine Run.appendo rfl rfl rfl rfl rfl rfl rfl rfl rfl rfl rfl rfl rfl rfl (by show (_ + 1) * 14 ≤ _; simp; omega) (by simp [capMax]; omega) (by decide) rfl ?_
    repeat (refine Run.go rfl ?_)
    refine Run.of (IH (j + 1) (by omega) (by omega)) ⟨rfl, ?_, ?_, trivial⟩ trivial
    · rw [hst, List.map_append]
      rfl
    · show i64 _ = _
      rw [wrap_i64 (by omega) (by omega)]
      rfl
  · have hj' : j = r.bs.length := by simp at h; omega
    subst hj'
    rw [List.take_length] at *
    repeat (refine Run.go rfl ?_)
    refine Run.pack 2 rfl rfl rfl ?_
    exact Run.ret hg rfl rfl
noncomputable def X80 : Fx := ⟨Tryz.prog, tys, 80, Tryz.f80, [0, 1]⟩
theorem X80_ok : X80.Ok := ⟨Tryz.func80, tys_ok⟩
theorem l05Index_ct (r : Rk) (ex : Bool) (b : Bk) (h : VR r.pl r.bs) (hr : ∀ x ∈ r.bs, bkRng x.b) (hb : bkRng b) : Ct Tryz.prog 80 [.rp (rkR ex r).cells 0, .rp (bkA b).cells 0] (i64 (idx r.bs b : Nat)) [] := by
  have hlen : r.bs.length ≤ 1048576 := by have := h.len; have := h.hn; omega
  refine Ct.intro X80 X80_ok rfl (by kernel_rfl) rfl rfl fun g hg => ?_
  repeat (refine Run.go rfl ?_)
  refine Run.cs rfl (l05Books_ct r ex hlen) rfl (rfB _) ?_
  repeat (refine Run.go rfl ?_)
  refine Run.cs rfl (l01Place_ct (pbs r.bs) false b (fun x hx => by obtain ⟨y, hy, rfl⟩ := List.mem_map.1 hx; exact hr y hy) hb (by rw [pbs_len]; exact hlen)) (by rw [frzB]; rfl) rfl ?_
  repeat (refine Run.go rfl ?_)
  refine Run.ret hg rfl ?_
  rw [pbs_len, splB_idx hr hb h.so]
  rfl
noncomputable def X79 : Fx := ⟨Tryz.prog, tys, 79, Tryz.f79, [0, 1]⟩
theorem X79_ok : X79.Ok := ⟨Tryz.func79, tys_ok⟩
theorem l05Room_ct (r : Rk) (ex : Bool) (k : Nat) (h : VR r.pl r.bs) (hk : k ≤ r.bs.length) : Ct Tryz.prog 79 [.rp (rkR ex r).cells 0, i64 k] (.tup [i64 (fr r.bs k), i64 (rm r.pl r.bs k)]) [] := by
  obtain ⟨n, l⟩ := r
  simp only at h hk
  have hlen := h.len
  have hn := h.hn
  have hr := h.rm0 hk
  have hw : IntKind.i64.wrap n = n := wrap_i64 (by omega) (by omega)
  refine Ct.intro X79 X79_ok rfl (by kernel_rfl) rfl rfl fun g hg => ?_
  repeat (refine Run.go rfl ?_)
  refine Run.condJ ⟨[(0, .rp (rkR ex ⟨n, l⟩).cells 0), (1, i64 k), (6, i64 (fr l k)), (7, i64 n)], []⟩ rfl (fun h0 k' hN => ?_) (fun h0 k' hN => ?_) ?_
  · have h0 : 0 < k := by simpa using h0
    have hk1 : k - 1 < l.length := by omega
    have hp := h.i16 hk1
    have hkw : IntKind.i64.wrap ((k : Int) - 1) = (k - 1 : Nat) := by rw [wrap_i64 (by omega) (by omega)]; omega
    have hf : fr l k = l[k - 1].p + 1 := by rw [fr, if_pos h0, pa_get hk1]
    repeat (refine Run.go rfl ?_)
    refine Run.val rfl rfl rfl (ValOk.idx (m := (k - 1 : Nat)) (plA l[k - 1]) rfl rfl rfl rfl (by show i64 (IntKind.i64.wrap ((k : Int) - 1)) = _; rw [hkw]) (by omega) (by rw [Int.toNat_natCast, List.getElem?_map, List.getElem?_eq_getElem hk1]; rfl)) rfl ?_
    repeat (refine Run.go rfl ?_)
    refine Run.of hN ⟨rfl, rfl, ?_, ?_, trivial⟩ trivial
    · show i64 (IntKind.i64.wrap (IntKind.i64.wrap l[k - 1].p + 1)) = i64 _
      rw [hf, wrap_i64 (n := l[k - 1].p) (by omega) (by omega), wrap_i64 (by omega) (by omega)]
    · show i64 (IntKind.i64.wrap n) = i64 n
      rw [hw]
  · have h0 : k = 0 := by simp at h0; omega
    subst h0
    repeat (refine Run.go rfl ?_)
    refine Run.of hN ⟨rfl, rfl, rfl, ?_, trivial⟩ trivial
    show i64 (IntKind.i64.wrap n) = i64 n
    rw [hw]
  repeat (refine Run.go rfl ?_)
  refine Run.condJ ⟨[(6, i64 (fr l k)), (7, i64 (too n l k))], []⟩ rfl (fun h0 k' hN => ?_) (fun h0 k' hN => ?_) ?_
  · have h0 : k < l.length := by simpa using h0
    have hp := h.i16 h0
    repeat (refine Run.go rfl ?_)
    refine Run.val rfl rfl rfl (ValOk.idx (plA l[k]) rfl rfl rfl rfl rfl (by omega) (by simp [h0])) rfl ?_
    repeat (refine Run.go rfl ?_)
    refine Run.of hN ⟨rfl, ?_, trivial⟩ trivial
    show i64 (IntKind.i64.wrap l[k].p) = i64 (too n l k)
    rw [too, if_pos h0, pa_get h0, wrap_i64 (by omega) (by omega)]
  · have h0 : ¬ k < l.length := by simpa using h0
    repeat (refine Run.go rfl ?_)
    refine Run.of hN ⟨rfl, ?_, trivial⟩ trivial
    show i64 n = i64 (too n l k)
    rw [too, if_neg h0]
  repeat (refine Run.go rfl ?_)
  refine Run.ret hg rfl ?_
  show AV.tup [i64 _, i64 (IntKind.i64.wrap (too n l k - fr l k))] = AV.tup [i64 _, i64 (rm n l k)]
  have : rm n l k = too n l k - fr l k := rfl
  rw [wrap_i64 (by omega) (by omega), this]
theorem Run.loopJ {X : Fx} {g : Gx} {st : St} {k : List Item} {c : Code} {it : Item} (S : St) (h : ∀ k', Nxt (X := X) (g := g) (K := k') S → Run X g (.code (.loop c) :: it :: k') st) (hk : Run X g k S) :
    Run X g (.code (.loop c) :: it :: k) st := h k hk
theorem Run.seqJ {X : Fx} {g : Gx} {st : St} {k : List Item} {x y : Code} (S : St) (h : ∀ k', Nxt (X := X) (g := g) (K := k') S → Run X g (.code x :: k') st) (hk : Run X g (.code y :: k) S) :
    Run X g (.code (.seq x y) :: k) st := Run.ctl rfl (h _ hk)
def oI (o : Option Nat) : Int := match o with | none => -1 | some c => (c : Int)
noncomputable def X168 : Fx := ⟨Tryz.prog, tys, 168, Tryz.f168, [0, 1]⟩
theorem X168_ok : X168.Ok := ⟨Tryz.func168, tys_ok⟩
theorem l05Sides_ct (r : Rk) (ex : Bool) (k : Nat) (h : VR r.pl r.bs) (hk : k ≤ r.bs.length) : Ct Tryz.prog 168 [.rp (rkR ex r).cells 0, i64 k] (.tup [i64 (oI (lw r.pl r.bs k)), i64 (oI (hg r.pl r.bs k))]) [] := by
  obtain ⟨n, l⟩ := r
  simp only at h hk
  have hlen := h.len
  have hn := h.hn
  refine Ct.intro X168 X168_ok rfl (by kernel_rfl) rfl rfl fun g hgg => ?_
  repeat (refine Run.go rfl ?_)
  refine Run.loopJ ⟨[(0, .rp (rkR ex ⟨n, l⟩).cells 0), (1, i64 k), (6, i64 (oI (lw n l k)))], []⟩ (fun k' hN => ?_) ?_
  · refine Run.loop (fun q : Nat × Option Nat => ⟨[(0, .rp (rkR ex ⟨n, l⟩).cells 0), (1, i64 k), (6, i64 (oI q.2)), (7, i64 ((k - q.1 : Nat) : Int))], []⟩)
      (fun q => q.1 ≤ k ∧ match q.2 with | none => lw n l k = (lw n l (k - q.1)).map (· + q.1) | some c => lw n l k = some c) (fun q => k - q.1) (0, none) ⟨by simp, ?_⟩ ?_ ?_
    · show lw n l k = (lw n l (k - 0)).map (· + 0)
      cases h : lw n l k <;> simp [h]
    · exact St.Le.mk' ⟨rfl, rfl, rfl, rfl, trivial⟩ trivial
    rintro ⟨j, o⟩ ⟨hj, ho⟩ IH
    simp only at hj ho IH
    repeat (refine Run.go rfl ?_)
    refine Run.bool 17 rfl (fun h0 => ?_) (fun h0 => ?_)
    · have h0 : 0 < k - j := by simp at h0; omega
      cases o with
      | some c =>
        repeat (refine Run.go rfl ?_)
        refine Run.cond rfl (fun h1 => ?_) (fun h1 => ?_)
        · have h1 : (c : Int) < 0 := of_decide_eq_true h1
          omega
        repeat (refine Run.go rfl ?_)
        refine Run.of hN ⟨rfl, rfl, ?_, trivial⟩ trivial
        rw [ho]
        rfl
      | none =>
        simp only at ho
        obtain ⟨m, hm⟩ : ∃ m, k - j = m + 1 := ⟨k - j - 1, by omega⟩
        have hw : IntKind.i64.wrap (((k - j : Nat) : Int) - 1) = (m : Nat) := by rw [wrap_i64 (by omega) (by omega)]; omega
        have hlw : lw n l (m + 1) = if 0 < rm n l m then some 1 else (lw n l m).map (· + 1) := rfl
        rw [hm, hlw] at ho
        repeat (refine Run.go rfl ?_)
        refine Run.cond rfl (fun h1 => ?_) (fun h1 => by cases h1)
        repeat (refine Run.go rfl ?_)
        refine Run.cs rfl (l05Room_ct ⟨n, l⟩ ex m h (by show m ≤ l.length; omega)) (by show [_, i64 (IntKind.i64.wrap (((k - j : Nat) : Int) - 1))] = _; rw [hw]; rfl) rfl ?_
        repeat (refine Run.go rfl ?_)
        refine Run.cond rfl (fun h2 => ?_) (fun h2 => ?_)
        · have h2 : 0 < rm n l m := by simpa using h2
          rw [if_pos h2] at ho
          repeat (refine Run.go rfl ?_)
          refine Run.of (IH (j + 1, some (j + 1)) ⟨by show j + 1 ≤ k; omega, by show lw n l k = some (j + 1); rw [ho]; simp; omega⟩ (by show k - (j + 1) < k - j; omega)) ⟨rfl, rfl, ?_, ?_, trivial⟩ trivial
          · show i64 (IntKind.i64.wrap (IntKind.i64.wrap ((k : Int) - (k - j : Nat)) + 1)) = i64 ((j + 1 : Nat) : Int)
            rw [wrap_i64 (n := (k : Int) - (k - j : Nat)) (by omega) (by omega), wrap_i64 (by omega) (by omega), show (k : Int) - (k - j : Nat) + 1 = (j + 1 : Nat) by omega]
          · show i64 (IntKind.i64.wrap (((k - j : Nat) : Int) - 1)) = i64 ((k - (j + 1) : Nat) : Int)
            rw [hw, show k - (j + 1) = m by omega]
        · have h2 : ¬ 0 < rm n l m := by simpa using h2
          rw [if_neg h2] at ho
          repeat (refine Run.go rfl ?_)
          refine Run.of (IH (j + 1, none) ⟨by show j + 1 ≤ k; omega, ?_⟩ (by show k - (j + 1) < k - j; omega)) ⟨rfl, rfl, rfl, ?_, trivial⟩ trivial
          · show lw n l k = (lw n l (k - (j + 1))).map (· + (j + 1))
            rw [ho, show k - (j + 1) = m by omega]
            cases lw n l m with
            | none => rfl
            | some c => simp; omega
          · show i64 (IntKind.i64.wrap (((k - j : Nat) : Int) - 1)) = i64 ((k - (j + 1) : Nat) : Int)
            rw [hw, show k - (j + 1) = m by omega]
    · have hz : k - j = 0 := by simp at h0; omega
      repeat (refine Run.go rfl ?_)
      refine Run.cond rfl (fun h1 => by cases h1) (fun h1 => ?_)
      repeat (refine Run.go rfl ?_)
      refine Run.of hN ⟨rfl, rfl, ?_, trivial⟩ trivial
      cases o with
      | none => simp only at ho; rw [hz] at ho; rw [ho]; rfl
      | some c => rw [ho]; rfl
  repeat (refine Run.go rfl ?_)
  refine Run.loopJ ⟨[(6, i64 (oI (lw n l k))), (10, i64 (oI (hg n l k)))], []⟩ (fun k' hN => ?_) ?_
  · refine Run.loop (fun q : Nat × Option Nat => ⟨[(0, .rp (rkR ex ⟨n, l⟩).cells 0), (1, i64 k), (6, i64 (oI (lw n l k))), (10, i64 (oI q.2)), (11, i64 ((k + q.1 : Nat) : Int))], []⟩)
      (fun q => k + q.1 ≤ l.length ∧ match q.2 with | none => hg n l k = (hgF n l (l.length - (k + q.1)) (k + q.1)).map (· + q.1) | some c => hg n l k = some c) (fun q => l.length - q.1) (0, none) ⟨by simpa using hk, ?_⟩ ?_ ?_
    · show hg n l k = (hgF n l (l.length - (k + 0)) (k + 0)).map (· + 0)
      unfold hg
      cases h : hgF n l (l.length - k) k <;> simp [h]
    · exact St.Le.mk' ⟨rfl, rfl, rfl, rfl, rfl, trivial⟩ trivial
    rintro ⟨j, o⟩ ⟨hj, ho⟩ IH
    simp only at hj ho IH
    repeat (refine Run.go rfl ?_)
    refine Run.bool 44 rfl (fun h0 => ?_) (fun h0 => ?_)
    · have h0 : k + j < l.length := by simp at h0; omega
      cases o with
      | some c =>
        repeat (refine Run.go rfl ?_)
        refine Run.cond rfl (fun h1 => ?_) (fun h1 => ?_)
        · have h1 : (c : Int) < 0 := of_decide_eq_true h1
          omega
        repeat (refine Run.go rfl ?_)
        refine Run.of hN ⟨rfl, ?_, trivial⟩ trivial
        rw [ho]
        rfl
      | none =>
        simp only at ho
        obtain ⟨f, hf⟩ : ∃ f, l.length - (k + j) = f + 1 := ⟨l.length - (k + j) - 1, by omega⟩
        have hw : IntKind.i64.wrap (((k + j : Nat) : Int) + 1) = ((k + j + 1 : Nat) : Int) := by rw [wrap_i64 (by omega) (by omega)]; omega
        have hhg : hgF n l (f + 1) (k + j) = if 0 < rm n l (k + j + 1) then some 1 else (hgF n l f (k + j + 1)).map (· + 1) := rfl
        rw [hf, hhg] at ho
        repeat (refine Run.go rfl ?_)
        refine Run.cond rfl (fun h1 => ?_) (fun h1 => by cases h1)
        repeat (refine Run.go rfl ?_)
        refine Run.cs rfl (l05Room_ct ⟨n, l⟩ ex (k + j + 1) h (by show k + j + 1 ≤ l.length; omega)) (by show [_, i64 (IntKind.i64.wrap (((k + j : Nat) : Int) + 1))] = _; rw [hw]; rfl) rfl ?_
        repeat (refine Run.go rfl ?_)
        refine Run.cond rfl (fun h2 => ?_) (fun h2 => ?_)
        · have h2 : 0 < rm n l (k + j + 1) := by simpa using h2
          rw [if_pos h2] at ho
          repeat (refine Run.go rfl ?_)
          refine Run.of (IH (j + 1, some (j + 1)) ⟨by show k + (j + 1) ≤ l.length; omega, by show hg n l k = some (j + 1); rw [ho]; simp; omega⟩ (by show l.length - (j + 1) < l.length - j; omega)) ⟨rfl, rfl, rfl, ?_, ?_, trivial⟩ trivial
          · show i64 (IntKind.i64.wrap (IntKind.i64.wrap (((k + j : Nat) : Int) - k) + 1)) = i64 ((j + 1 : Nat) : Int)
            rw [wrap_i64 (n := ((k + j : Nat) : Int) - k) (by omega) (by omega), wrap_i64 (by omega) (by omega), show ((k + j : Nat) : Int) - k + 1 = (j + 1 : Nat) by omega]
          · show i64 (IntKind.i64.wrap (((k + j : Nat) : Int) + 1)) = i64 ((k + (j + 1) : Nat) : Int)
            rw [hw, Nat.add_assoc]
        · have h2 : ¬ 0 < rm n l (k + j + 1) := by simpa using h2
          rw [if_neg h2] at ho
          repeat (refine Run.go rfl ?_)
          refine Run.of (IH (j + 1, none) ⟨by show k + (j + 1) ≤ l.length; omega, ?_⟩ (by show l.length - (j + 1) < l.length - j; omega)) ⟨rfl, rfl, rfl, rfl, ?_, trivial⟩ trivial
          · show hg n l k = (hgF n l (l.length - (k + (j + 1))) (k + (j + 1))).map (· + (j + 1))
            rw [ho, show l.length - (k + (j + 1)) = f by omega, ← Nat.add_assoc]
            cases hgF n l f (k + j + 1) with
            | none => rfl
            | some c => simp; omega
          · show i64 (IntKind.i64.wrap (((k + j : Nat) : Int) + 1)) = i64 ((k + (j + 1) : Nat) : Int)
            rw [hw, Nat.add_assoc]
    · have hz : k + j = l.length := by simp at h0; omega
      repeat (refine Run.go rfl ?_)
      refine Run.cond rfl (fun h1 => by cases h1) (fun h1 => ?_)
      repeat (refine Run.go rfl ?_)
      refine Run.of hN ⟨rfl, ?_, trivial⟩ trivial
      cases o with
      | none => simp only at ho; rw [hz, Nat.sub_self] at ho; rw [ho]; rfl
      | some c => rw [ho]; rfl
  repeat (refine Run.go rfl ?_)
  exact Run.ret hgg rfl rfl
theorem full_iff {n : Int} {l : List Pl} (h : VR n l) {k : Nat} (hk : k ≤ l.length) : (rm n l k = 0 ∧ lw n l k = none ∧ hg n l k = none) ↔ (l.length : Int) = n := by
  constructor
  · rintro ⟨h0, h1, h2⟩
    exact h.full hk (by omega) h1 h2
  · intro hf
    have hall := h.full_rm hf
    exact ⟨hall k hk, full_lw hall k hk, full_hg hall _ k (by omega)⟩
def axA (n : Int) (l : List Pl) (b : Bk) : AV := if (l.length : Int) = n then .tup [rkO false rk0, i64 ((0 : Nat) : Int), bo false] else .tup [rkO false ⟨n, adL n l b⟩, i64 (adM n l b : Nat), bo true]
noncomputable def X73 : Fx := ⟨Tryz.prog, tys, 73, Tryz.f73, [0, 1]⟩
theorem X73_ok : X73.Ok := ⟨Tryz.func73, tys_ok⟩
theorem l05Added_ct (r : Rk) (ex : Bool) (b : Bk) (h : VR r.pl r.bs) (hr : ∀ x ∈ r.bs, bkRng x.b) (hb : bkRng b) :
    Ct Tryz.prog 73 [.rp (rkR ex r).cells 0, .rp (bkA b).cells 0] (axA r.pl r.bs b) [] := by
  obtain ⟨n, l⟩ := r
  simp only at h hr
  have hlen := h.len
  have hn := h.hn
  have hk := idx_le l b
  have hrm := h.rm0 hk
  have hlm : (l.map plA).length = l.length := List.length_map ..
  show Ct Tryz.prog _ _ (if (l.length : Int) = n then .tup [rkO false rk0, i64 ((0 : Nat) : Int), bo false] else .tup [rkO false ⟨n, ins (sh n l (idx l b)) (idx l b) (nat' n l (idx l b)) b⟩, i64 ((psh n l (idx l b)).1 : Nat), bo true]) []
  refine Ct.intro X73 X73_ok rfl (by kernel_rfl) rfl rfl fun g hgg => ?_
  repeat (refine Run.go rfl ?_)
  refine Run.cs rfl (l05Index_ct ⟨n, l⟩ ex b h hr hb) rfl rfl ?_
  repeat (refine Run.go rfl ?_)
  show Run _ _ _ _
  have hfi := full_iff h hk
  have hcs := psh_cases h hk
  have hpsh0 : ¬ 0 < rm n l (idx l b) → psh n l (idx l b) = match lw n l (idx l b), hg n l (idx l b) with
    | some c, some d => if c ≤ d then (c, true) else (d, false)
    | some c, none => (c, true)
    | none, some d => (d, false)
    | none, none => (l.length - idx l b, false) := fun h0 => by rw [psh, if_neg h0] <;> rfl
  generalize idx l b = k at *
  have hrn : rm n l k ≤ n := by unfold rm; omega
  refine Run.cs rfl (l05Room_ct ⟨n, l⟩ ex k h hk) rfl rfl ?_
  repeat (refine Run.go rfl ?_)
  refine Run.buildSlice [] rfl rfl rfl rfl rfl rfl rfl rfl rfl rfl rfl rfl rfl rfl ?_
  refine Run.loosen0 27 rfl ?_
  repeat (refine Run.go rfl ?_)
  refine Run.unpack 27 rfl rfl ?_
  refine Run.appendr (ys := l.map plA) rfl rfl rfl rfl rfl rfl rfl rfl rfl rfl rfl rfl rfl (one_pl _) (by show (0 + _) * 16 ≤ _; rw [hlm]; omega) (by rw [hlm]; simp [capMax]; omega) rfl ?_
  rw [List.nil_append]
  have hwr : IntKind.i64.wrap (rm n l k - 1) = rm n l k - 1 := wrap_i64 (by omega) (by omega)
  repeat (refine Run.go rfl ?_)
  by_cases hful : (l.length : Int) = n
  · obtain ⟨f1, f2, f3⟩ := hfi.2 hful
    rw [if_pos hful] at hgg
    refine Run.cond rfl (fun h1 => ?_) (fun h1 => ?_)
    · repeat (refine Run.go rfl ?_)
      refine Run.cs rfl (l05Sides_ct ⟨n, l⟩ ex k h hk) rfl rfl ?_
      simp only [f2, f3]
      repeat (refine Run.go rfl ?_)
      refine Run.cond rfl (fun h2 => ?_) (fun h2 => by cases h2)
      repeat (refine Run.go rfl ?_)
      refine Run.val rfl rfl rfl (ValOk.build rfl rfl rfl rfl rfl) rfl ?_
      repeat (refine Run.go rfl ?_)
      refine Run.nilBox (4, 0) 1 9 false rfl rfl ?_
      exact Run.ret hgg rfl rfl
    · have h1 : ¬ rm n l k = 0 := of_decide_eq_false h1
      omega
  rw [if_neg hful] at hgg
  have hlt : (l.length : Int) < n := by omega
  have hcs := hcs hlt
  have hnat : 0 ≤ nat' n l k ∧ nat' n l k < n := by
    unfold nat'
    rcases hcs with ⟨h0, hp⟩ | ⟨h0, c, hp, c1, c2, c3⟩ | ⟨h0, d, hp, d1, d2, d3⟩
    · rw [if_pos h0, Int.tdiv_eq_ediv_of_nonneg (by omega)]
      have htoo : fr l k + rm n l k = too n l k := by unfold rm; omega
      omega
    · rw [if_neg (by omega), hp, if_pos rfl]
      have hfk : fr l k = pa l (k - 1) + 1 := by rw [fr, if_pos (by omega)]
      have := h.rng (k - 1) (by omega)
      omega
    · rw [if_neg (by omega), hp]
      have htoo : too n l k = pa l k := by rw [too, if_pos (by omega)]
      have hfk : fr l k = too n l k := by unfold rm at h0; omega
      have := h.rng k (by omega)
      show 0 ≤ fr l k ∧ fr l k < n
      omega
  have hshl : (sh n l k).length = l.length := by
    unfold sh
    rcases hcs with ⟨h0, hp⟩ | ⟨h0, c, hp, c1, c2, c3⟩ | ⟨h0, d, hp, d1, d2, d3⟩
    · rw [if_pos h0]
    · rw [if_neg (by omega), hp, if_pos rfl]
      exact shf_len (by show k - c + c ≤ _; omega)
    · rw [if_neg (by omega), hp]
      exact shf_len d2
  refine Run.condJ ⟨[(0, .rp (rkR ex ⟨n, l⟩).cells 0), (1, .rp (bkA b).cells 0), (4, .bp (4, 0) 0), (7, i64 (k : Nat)), (10, .own 9 false ((sh n l k).map plA)), (11, i64 ((psh n l k).1 : Nat)), (12, i64 (nat' n l k))], [((4, 0), .box [i16 0, .lit (.slice none 0 0)])]⟩ rfl (fun h1 k' hN => ?_) (fun h1 k' hN => ?_) ?_
  · have h1 : rm n l k = 0 := of_decide_eq_true h1
    have hn0 : ¬ 0 < rm n l k := by omega
    have hp := hpsh0 hn0
    have key : (∃ c, lw n l k = some c ∧ psh n l k = (c, true) ∧ 1 ≤ c ∧ c ≤ k) ∨ (∃ d, hg n l k = some d ∧ psh n l k = (d, false) ∧ 1 ≤ d ∧ k + d ≤ l.length) := by
      cases hl : lw n l k with
      | none =>
        cases hh : hg n l k with
        | none => exact absurd (hfi.1 ⟨h1, hl, hh⟩) hful
        | some d => rw [hl, hh] at hp; have := hgF_some hh; exact .inr ⟨d, rfl, hp, by omega, by omega⟩
      | some c =>
        have := lw_some hl
        cases hh : hg n l k with
        | none => rw [hl, hh] at hp; exact .inl ⟨c, rfl, hp, by omega, by omega⟩
        | some d =>
          rw [hl, hh] at hp
          have := hgF_some hh
          by_cases e : c ≤ d
          · exact .inl ⟨c, rfl, by rw [hp]; exact if_pos e, by omega, by omega⟩
          · exact .inr ⟨d, rfl, by rw [hp]; exact if_neg e, by omega, by omega⟩
    refine Run.seqJ ⟨[(0, .rp (rkR ex ⟨n, l⟩).cells 0), (1, .rp (bkA b).cells 0), (4, .bp (4, 0) 0), (7, i64 (k : Nat)), (8, i64 (fr l k)), (10, .own 9 false (l.map plA)), (13, i64 (oI (lw n l k))), (14, i64 (oI (hg n l k)))], [((4, 0), .box [i16 0, .lit (.slice none 0 0)])]⟩ (fun k' hM => ?_) ?_
    · repeat (refine Run.go rfl ?_)
      refine Run.cs rfl (l05Sides_ct ⟨n, l⟩ ex k h hk) rfl rfl ?_
      repeat (refine Run.go rfl ?_)
      exact Run.of hM ⟨rfl, rfl, rfl, rfl, rfl, rfl, rfl, rfl, trivial⟩ ⟨rfl, trivial⟩
    refine Run.seqJ ⟨[(0, .rp (rkR ex ⟨n, l⟩).cells 0), (1, .rp (bkA b).cells 0), (4, .bp (4, 0) 0), (7, i64 (k : Nat)), (8, i64 (fr l k)), (10, .own 9 false (l.map plA)), (13, i64 (oI (lw n l k))), (14, i64 (oI (hg n l k)))], [((4, 0), .box [i16 0, .lit (.slice none 0 0)])]⟩ (fun k' hM => ?_) ?_
    · repeat (refine Run.go rfl ?_)
      refine Run.bool 48 rfl (fun h2 => ?_) (fun h2 => ?_)
      · have h2 : oI (lw n l k) < 0 := of_decide_eq_true h2
        repeat (refine Run.go rfl ?_)
        refine Run.cond rfl (fun h3 => ?_) (fun h3 => ?_)
        · have h3 : oI (hg n l k) < 0 := of_decide_eq_true h3
          rcases key with ⟨c, e, -⟩ | ⟨d, e, -⟩
          · rw [e] at h2; exact absurd h2 (by unfold oI; simp only; omega)
          · rw [e] at h3; exact absurd h3 (by unfold oI; simp only; omega)
        · repeat (refine Run.go rfl ?_)
          exact Run.of hM ⟨rfl, rfl, rfl, rfl, rfl, rfl, rfl, rfl, trivial⟩ ⟨rfl, trivial⟩
      · repeat (refine Run.go rfl ?_)
        refine Run.cond rfl (fun h3 => by cases h3) (fun h3 => ?_)
        repeat (refine Run.go rfl ?_)
        exact Run.of hM ⟨rfl, rfl, rfl, rfl, rfl, rfl, rfl, rfl, trivial⟩ ⟨rfl, trivial⟩
    refine Run.seqJ ⟨[(0, .rp (rkR ex ⟨n, l⟩).cells 0), (1, .rp (bkA b).cells 0), (4, .bp (4, 0) 0), (7, i64 (k : Nat)), (8, i64 (fr l k)), (10, .own 9 false (l.map plA)), (13, i64 (oI (lw n l k))), (14, i64 (oI (hg n l k))), (63, bo (psh n l k).2)], [((4, 0), .box [i16 0, .lit (.slice none 0 0)])]⟩ (fun k' hM => ?_) ?_
    · repeat (refine Run.go rfl ?_)
      refine Run.bool 55 rfl (fun h2 => ?_) (fun h2 => ?_)
      · have h2 : oI (lw n l k) ≥ 0 := of_decide_eq_true h2
        obtain ⟨c, hc⟩ : ∃ c, lw n l k = some c := by
          cases hl : lw n l k with
          | none => rw [hl] at h2; exact absurd h2 (by decide)
          | some c => exact ⟨c, rfl⟩
        repeat (refine Run.go rfl ?_)
        refine Run.bool 58 rfl (fun h3 => ?_) (fun h3 => ?_)
        · have h3 : oI (hg n l k) < 0 := of_decide_eq_true h3
          have hd : hg n l k = none := by
            cases hh : hg n l k with
            | none => rfl
            | some d => rw [hh] at h3; exact absurd h3 (by unfold oI; simp only; omega)
          rw [hc, hd] at hp
          repeat (refine Run.go rfl ?_)
          refine Run.of hM ⟨rfl, rfl, rfl, rfl, rfl, rfl, rfl, rfl, ?_, trivial⟩ ⟨rfl, trivial⟩
          rw [hp]
          rfl
        · have h3 : ¬ oI (hg n l k) < 0 := of_decide_eq_false h3
          obtain ⟨d, hd⟩ : ∃ d, hg n l k = some d := by
            cases hh : hg n l k with
            | none => rw [hh] at h3; exact absurd (by decide) h3
            | some d => exact ⟨d, rfl⟩
          rw [hc, hd] at hp
          repeat (refine Run.go rfl ?_)
          refine Run.of hM ⟨rfl, rfl, rfl, rfl, rfl, rfl, rfl, rfl, ?_, trivial⟩ ⟨rfl, trivial⟩
          show bo (decide (oI (lw n l k) ≤ oI (hg n l k))) = _
          rw [hp, hc, hd]
          show bo (decide ((c : Int) ≤ (d : Int))) = bo (if c ≤ d then (c, true) else (d, false)).2
          by_cases e : c ≤ d
          · rw [if_pos e, decide_eq_true (by omega)]
          · rw [if_neg e, decide_eq_false (by omega)]
      · have h2 : ¬ oI (lw n l k) ≥ 0 := of_decide_eq_false h2
        have hc : lw n l k = none := by
          cases hl : lw n l k with
          | none => rfl
          | some c => rw [hl] at h2; exact absurd (by unfold oI; simp only; omega) h2
        rcases key with ⟨c, e, -⟩ | ⟨d, hd, hp2, -⟩
        · rw [hc] at e; cases e
        repeat (refine Run.go rfl ?_)
        refine Run.of hM ⟨rfl, rfl, rfl, rfl, rfl, rfl, rfl, rfl, ?_, trivial⟩ ⟨rfl, trivial⟩
        rw [hp2]
        rfl
    refine Run.cond rfl (fun h2 => ?_) (fun h2 => ?_)
    · obtain ⟨c, hc, hp2, c1, c2⟩ : ∃ c, lw n l k = some c ∧ psh n l k = (c, true) ∧ 1 ≤ c ∧ c ≤ k := by
        rcases key with e | ⟨d, hd, hp2, -⟩
        · exact e
        · rw [hp2] at h2; cases h2
      have hn' : nat' n l k = fr l k - 1 := by rw [nat', if_neg hn0, hp2]; rfl
      have hs' : sh n l k = shf l (k - c) c (-1) := by rw [sh, if_neg hn0, hp2]; rfl
      rw [hs', hp2] at hN
      rw [hc]
      repeat (refine Run.go rfl ?_)
      refine Run.unpack 10 rfl rfl ?_
      refine Run.loop (fun j : Nat => ⟨[(0, .rp (rkR ex ⟨n, l⟩).cells 0), (1, .rp (bkA b).cells 0), (4, .bp (4, 0) 0), (7, i64 (k : Nat)), (10, .vec (10, 0) 0 l.length), (11, i64 (c : Nat)), (12, i64 (nat' n l k)), (15, i64 ((k - c + j : Nat) : Int))],
        [((4, 0), .box [i16 0, .lit (.slice none 0 0)]), ((10, 0), .vec 9 false ((shf l (k - c) j (-1)).map plA))]⟩) (fun j => j ≤ c) (fun j => c - j) 0 (by omega) ?_ ?_
      · refine St.Le.mk' ⟨rfl, rfl, rfl, rfl, ?_, rfl, ?_, ?_, trivial⟩ ⟨rfl, ?_, trivial⟩
        · show AV.vec _ _ (l.map plA).length = _
          rw [hlm]
        · show i64 (IntKind.i64.wrap (fr l k - 1)) = i64 _
          rw [wrap_i64 (by omega) (by omega), hn']
        · show i64 (IntKind.i64.wrap ((k : Int) - c)) = i64 ((k - c + 0 : Nat) : Int)
          rw [wrap_i64 (by omega) (by omega), show ((k - c + 0 : Nat) : Int) = (k : Int) - c by omega]
        · show Ob.vec _ _ _ = Ob.vec _ _ _
          rw [shf_zero]
      intro j hj IH
      repeat (refine Run.go rfl ?_)
      refine Run.cond rfl (fun h2 => ?_) (fun h2 => ?_)
      · have h2 : j < c := by simp at h2; omega
        have hil : k - c + j < l.length := by omega
        have hp0 := (h.i16 hil).2
        have hat := shf_at (d := (-1)) hil
        have hst := shf_step (l := l) (i := k - c) (j := j) (d := (-1)) (by omega)
        have hsl := shf_len (l := l) (i := k - c) (c := j) (d := (-1)) (by omega)
        have hge := h.ge (k - c + j) hil
        have hw16 : IntKind.i16.wrap (l[k - c + j].p - 1) = l[k - c + j].p - 1 := wrap_i16 (by omega) (by omega)
        generalize shf l (k - c) j (-1) = S at hat hst hsl
        have hat2 : (S.map plA)[0 + ((k - c + j : Nat) : Int).toNat]? = some (plA l[k - c + j]) := by
          rw [List.getElem?_map, Nat.zero_add, Int.toNat_natCast, hat]; rfl
        repeat (refine Run.go rfl ?_)
        refine Run.val rfl rfl rfl (ValOk.idxv (m := ((k - c + j : Nat) : Int)) rfl rfl rfl rfl rfl rfl (by omega) (by omega)) rfl ?_
        repeat (refine Run.go rfl ?_)
        refine Run.val rfl rfl rfl (ValOk.loadv (plA l[k - c + j]) rfl rfl rfl rfl hat2 rfl) rfl ?_
        repeat (refine Run.go rfl ?_)
        refine Run.val rfl rfl rfl (ValOk.idxv (m := ((k - c + j : Nat) : Int)) rfl rfl rfl rfl rfl rfl (by omega) (by omega)) rfl ?_
        repeat (refine Run.go rfl ?_)
        refine Run.storee (plA l[k - c + j]) (plA (mvP (-1) l[k - c + j])) rfl rfl rfl rfl rfl rfl rfl hat2 rfl rfl ?_ ?_
        · show plA ⟨IntKind.i16.wrap (l[k - c + j].p - 1), l[k - c + j].b⟩ = _
          rw [hw16]
          rfl
        repeat (refine Run.go rfl ?_)
        refine Run.of (IH (j + 1) (by omega) (by omega)) ⟨rfl, rfl, rfl, rfl, rfl, rfl, rfl, ?_, trivial⟩ ⟨rfl, ?_, trivial⟩
        · show i64 (IntKind.i64.wrap _) = i64 _
          rw [wrap_i64 (by omega) (by omega)]
          rfl
        · show Ob.vec _ _ _ = Ob.vec _ _ _
          rw [← hst, ← List.map_set, Nat.zero_add, Int.toNat_natCast]
      · have h2 : j = c := by simp at h2; omega
        have hsl := shf_len (l := l) (i := k - c) (c := c) (d := (-1)) (by omega)
        subst h2
        repeat (refine Run.go rfl ?_)
        refine Run.pack 10 rfl rfl (by rw [List.length_map, hsl]) ?_
        exact Run.of hN ⟨rfl, rfl, rfl, rfl, rfl, rfl, rfl, trivial⟩ ⟨rfl, trivial⟩
    · obtain ⟨d, hd, hp2, d1, d2⟩ : ∃ d, hg n l k = some d ∧ psh n l k = (d, false) ∧ 1 ≤ d ∧ k + d ≤ l.length := by
        rcases key with ⟨c, hc, hp2, -⟩ | e
        · rw [hp2] at h2; cases h2
        · exact e
      have hn' : nat' n l k = fr l k := by rw [nat', if_neg hn0, hp2]; rfl
      have hs' : sh n l k = shf l k d 1 := by rw [sh, if_neg hn0, hp2]; rfl
      rw [hs', hp2] at hN
      rw [hd]
      repeat (refine Run.go rfl ?_)
      refine Run.unpack 10 rfl rfl ?_
      refine Run.loop (fun j : Nat => ⟨[(0, .rp (rkR ex ⟨n, l⟩).cells 0), (1, .rp (bkA b).cells 0), (4, .bp (4, 0) 0), (7, i64 (k : Nat)), (10, .vec (10, 0) 0 l.length), (11, i64 (d : Nat)), (12, i64 (nat' n l k)), (14, i64 (d : Nat)), (16, i64 ((k + j : Nat) : Int))],
        [((4, 0), .box [i16 0, .lit (.slice none 0 0)]), ((10, 0), .vec 9 false ((shf l k j 1).map plA))]⟩) (fun j => j ≤ d) (fun j => d - j) 0 (by omega) ?_ ?_
      · refine St.Le.mk' ⟨rfl, rfl, rfl, rfl, ?_, rfl, ?_, rfl, ?_, trivial⟩ ⟨rfl, ?_, trivial⟩
        · show AV.vec _ _ (l.map plA).length = _
          rw [hlm]
        · show i64 (fr l k) = i64 _
          rw [hn']
        · rfl
        · show Ob.vec _ _ _ = Ob.vec _ _ _
          rw [shf_zero]
      intro j hj IH
      have hwk : IntKind.i64.wrap ((k : Int) + d) = k + d := wrap_i64 (by omega) (by omega)
      repeat (refine Run.go rfl ?_)
      refine Run.cond rfl (fun h2 => ?_) (fun h2 => ?_)
      · have h2 : ((k + j : Nat) : Int) < IntKind.i64.wrap ((k : Int) + d) := by simpa using h2
        rw [hwk] at h2
        have h2 : j < d := by omega
        have hil : k + j < l.length := by omega
        have hp0 := (h.i16 hil).2
        have hat := shf_at (d := 1) hil
        have hst := shf_step (l := l) (i := k) (j := j) (d := 1) (by omega)
        have hsl := shf_len (l := l) (i := k) (c := j) (d := 1) (by omega)
        have hw16 : IntKind.i16.wrap (l[k + j].p + 1) = l[k + j].p + 1 := wrap_i16 (by omega) (by omega)
        generalize shf l k j 1 = S at hat hst hsl
        have hat2 : (S.map plA)[0 + ((k + j : Nat) : Int).toNat]? = some (plA l[k + j]) := by
          rw [List.getElem?_map, Nat.zero_add, Int.toNat_natCast, hat]; rfl
        repeat (refine Run.go rfl ?_)
        refine Run.val rfl rfl rfl (ValOk.idxv (m := ((k + j : Nat) : Int)) rfl rfl rfl rfl rfl rfl (by omega) (by omega)) rfl ?_
        repeat (refine Run.go rfl ?_)
        refine Run.val rfl rfl rfl (ValOk.loadv (plA l[k + j]) rfl rfl rfl rfl hat2 rfl) rfl ?_
        repeat (refine Run.go rfl ?_)
        refine Run.val rfl rfl rfl (ValOk.idxv (m := ((k + j : Nat) : Int)) rfl rfl rfl rfl rfl rfl (by omega) (by omega)) rfl ?_
        repeat (refine Run.go rfl ?_)
        refine Run.storee (plA l[k + j]) (plA (mvP 1 l[k + j])) rfl rfl rfl rfl rfl rfl rfl hat2 rfl rfl ?_ ?_
        · show plA ⟨IntKind.i16.wrap (l[k + j].p + 1), l[k + j].b⟩ = _
          rw [hw16]
          rfl
        repeat (refine Run.go rfl ?_)
        refine Run.of (IH (j + 1) (by omega) (by omega)) ⟨rfl, rfl, rfl, rfl, rfl, rfl, rfl, rfl, ?_, trivial⟩ ⟨rfl, ?_, trivial⟩
        · show i64 (IntKind.i64.wrap _) = i64 _
          rw [wrap_i64 (by omega) (by omega)]
          rfl
        · show Ob.vec _ _ _ = Ob.vec _ _ _
          rw [← hst, ← List.map_set, Nat.zero_add, Int.toNat_natCast]
      · have h2 : ¬ ((k + j : Nat) : Int) < IntKind.i64.wrap ((k : Int) + d) := by simpa using h2
        rw [hwk] at h2
        have h2 : j = d := by omega
        have hsl := shf_len (l := l) (i := k) (c := d) (d := 1) (by omega)
        subst h2
        repeat (refine Run.go rfl ?_)
        refine Run.pack 10 rfl rfl (by rw [List.length_map, hsl]) ?_
        exact Run.of hN ⟨rfl, rfl, rfl, rfl, rfl, rfl, rfl, trivial⟩ ⟨rfl, trivial⟩
  · have h1 : ¬ rm n l k = 0 := of_decide_eq_false h1
    have hpos : 0 < rm n l k := by omega
    have hn' : nat' n l k = fr l k + (rm n l k - 1).tdiv 2 := by rw [nat', if_pos hpos]
    have hs' : sh n l k = l := by rw [sh, if_pos hpos]
    have hd : 0 ≤ (rm n l k - 1).tdiv 2 ∧ (rm n l k - 1).tdiv 2 ≤ n := by
      rw [Int.tdiv_eq_ediv_of_nonneg (by omega)]
      omega
    have hp : psh n l k = (0, false) := by rw [psh, if_pos hpos]
    repeat (refine Run.go rfl ?_)
    refine Run.of hN ⟨rfl, rfl, rfl, rfl, ?_, ?_, ?_, trivial⟩ ⟨rfl, trivial⟩
    · rw [hs']; rfl
    · rw [hp]; rfl
    · show i64 (IntKind.i64.wrap (fr l k + IntKind.i64.wrap ((IntKind.i64.wrap (rm n l k - 1)).tdiv 2))) = i64 _
      rw [hwr, wrap_i64 (n := Int.tdiv _ _) (by omega) (by omega), wrap_i64 (by omega) (by omega), hn']
  have hw16 : IntKind.i16.wrap (nat' n l k) = nat' n l k := wrap_i16 (by omega) (by omega)
  generalize sh n l k = S at *
  have hSm : (S.map plA).length = S.length := List.length_map ..
  refine Run.freeze (v' := .ro 9 false (S.map plA)) 10 rfl rfl (by show AV.ro _ _ (AV.frzL _) = _; rw [frzP]) ?_
  repeat (refine Run.go rfl ?_)
  refine Run.buildSlice [] rfl rfl rfl rfl rfl rfl rfl rfl rfl rfl rfl rfl rfl rfl ?_
  refine Run.loosen0 101 rfl ?_
  repeat (refine Run.go rfl ?_)
  refine Run.val rfl rfl rfl (ValOk.cut (l := 0) (h := (k : Nat)) rfl rfl rfl rfl rfl rfl (by omega) (by omega) (by omega) rfl) rfl ?_
  refine Run.unpack 101 rfl rfl ?_
  have hTm : ((S.map plA).take k).length = k := by rw [List.length_take, hSm, hshl, Nat.min_eq_left hk]
  refine Run.appendr (ys := (S.map plA).take k) rfl rfl rfl rfl rfl rfl rfl rfl rfl rfl rfl rfl rfl (by rw [← List.map_take]; exact one_pl _) (by show (0 + _) * 16 ≤ _; rw [hTm]; omega) (by rw [hTm]; simp [capMax]; omega) rfl ?_
  rw [List.nil_append]
  repeat (refine Run.go rfl ?_)
  refine Run.val rfl rfl rfl (ValOk.build rfl rfl rfl rfl rfl) rfl ?_
  refine Run.buildSlice [plA ⟨IntKind.i16.wrap (nat' n l k), b⟩] rfl rfl rfl rfl rfl rfl rfl rfl rfl rfl rfl rfl rfl rfl ?_
  rw [hw16]
  refine Run.appendo rfl rfl rfl rfl rfl rfl rfl rfl rfl rfl rfl rfl rfl rfl (by show (_ + 1) * 16 ≤ _; rw [hTm]; omega) (by rw [hTm]; simp [capMax]; omega) (by decide) rfl ?_
  repeat (refine Run.go rfl ?_)
  obtain ⟨T, hT⟩ : ∃ T, T = S.take k ++ [⟨nat' n l k, b⟩] := ⟨_, rfl⟩
  have hT2 : (S.map plA).take k ++ [plA ⟨nat' n l k, b⟩] = T.map plA := by rw [hT, List.map_append, List.map_take]; rfl
  have hins : ins S k (nat' n l k) b = T ++ S.drop k := by rw [hT]; rfl
  rw [hT2]
  rw [hins] at hgg
  refine Run.le (st' := ⟨[(0, .rp (rkR ex ⟨n, l⟩).cells 0), (4, .bp (4, 0) 0), (7, i64 (k : Nat)), (10, .ro 9 false (S.map plA)), (11, i64 ((psh n l k).1 : Nat)), (17, .own 9 false (T.map plA))], [((4, 0), .box [i16 0, .lit (.slice none 0 0)])]⟩) (St.Le.mk' ⟨rfl, rfl, rfl, rfl, rfl, rfl, trivial⟩ ⟨rfl, trivial⟩) ?_
  refine Run.unpack 17 rfl rfl ?_
  have hTl : (T.map plA).length = k + 1 := by rw [← hT2, List.length_append, hTm]; rfl
  have hDl : ((S.drop k).map plA).length ≤ 60 := by simp; omega
  have hlenAB : ((T.map plA).length + ((S.drop k).map plA).length) * 16 ≤ 140737488355328 := by rw [hTl]; omega
  have hcapAB : (T.map plA).length + ((S.drop k).map plA).length ≤ capMax := by rw [hTl]; simp only [capMax]; omega
  generalize (psh n l k).1 = m at *
  refine Run.drawI (fun D => ⟨[(0, .rp (rkR ex ⟨n, l⟩).cells 0), (4, .bp (4, 0) 0), (7, i64 (k : Nat)), (10, .ro 9 false (S.map plA)), (11, i64 (m : Nat)), (17, .vec (17, 0) 0 (T.map plA).length), (115, bif D 0 then .rp (rkR ex ⟨n, l⟩).cells 0 else .top), (116, bif D 1 then .rp (rkR ex ⟨n, l⟩).cells 0 else .top), (117, bif D 2 then .rp (rkR ex ⟨n, l⟩).cells 0 else .top), (118, bif D 3 then i16 n else .top), (119, bif D 4 then .vec (17, 0) 0 (T.map plA).length else .top), (120, bif D 5 then .ro 9 false (S.map plA) else .top), (121, bif D 6 then i64 (k : Nat) else .top), (122, bif D 7 then .ro 9 false ((S.drop k).map plA) else .top), (123, bif D 9 then .top else bif D 8 then .own 9 false ((T.map plA) ++ ((S.drop k).map plA)) else .top), (124, bif D 9 then .agg [i16 n, .vec (123, 0) 0 ((T.map plA) ++ ((S.drop k).map plA)).length] else .top), (125, bif D 10 then i64 (m : Nat) else .top), (5, bif D 12 then i64 (m : Nat) else .top), (6, bif D 13 then bo true else .top)], [((4, 0), (bif D 11 then Ob.box [i16 n, .vec (123, 0) 0 ((T.map plA) ++ ((S.drop k).map plA)).length] else Ob.box [i16 0, .lit (.slice none 0 0)])), ((17, 0), (bif D 8 then Ob.gone else Ob.vec 9 false (T.map plA))), ((123, 0), (bif D 9 then Ob.vec 9 false ((T.map plA) ++ ((S.drop k).map plA)) else Ob.gone))]⟩) (by decide +kernel) (by decide +kernel) ?_ ?_ fun k' => ⟨?_, ?_, ?_, ?_, ?_, ?_, ?_, ?_, ?_, ?_, ?_, ?_, ?_, ?_, trivial⟩
  · exact St.Le.mk' ⟨rfl, rfl, rfl, rfl, rfl, rfl, rfl, rfl, rfl, rfl, rfl, rfl, rfl, rfl, rfl, rfl, rfl, rfl, rfl, trivial⟩ ⟨rfl, rfl, rfl, trivial⟩
  rotate_left
  · intro D hid h0 hp hs rest hK
    obtain ⟨d1, -⟩ : AllD D false [1] := ideal_sub hs (by decide +kernel)
    simp only [d1, h0, cond_true, cond_false]
    refine Run.go rfl ?_
    refine Run.le ?_ hK
    simp only [d1, h0, Nat.reduceBEq, Bool.false_or, Bool.true_or, cond_true, cond_false]
    exact St.Le.mk' ⟨rfl, rfl, rfl, rfl, rfl, rfl, rfl, rfl, rfl, rfl, rfl, rfl, rfl, rfl, rfl, rfl, rfl, rfl, rfl, trivial⟩ ⟨rfl, rfl, rfl, trivial⟩
  · intro D hid h0 hp hs rest hK
    obtain ⟨d0, -⟩ : AllD D true [0] := ideal_sub hp (by decide +kernel)
    obtain ⟨d2, -⟩ : AllD D false [2] := ideal_sub hs (by decide +kernel)
    simp only [d0, d2, h0, cond_true, cond_false]
    refine Run.go rfl ?_
    refine Run.le ?_ hK
    simp only [d0, d2, h0, Nat.reduceBEq, Bool.false_or, Bool.true_or, cond_true, cond_false]
    exact St.Le.mk' ⟨rfl, rfl, rfl, rfl, rfl, rfl, rfl, rfl, rfl, rfl, rfl, rfl, rfl, rfl, rfl, rfl, rfl, rfl, rfl, trivial⟩ ⟨rfl, rfl, rfl, trivial⟩
  · intro D hid h0 hp hs rest hK
    obtain ⟨d1, -⟩ : AllD D true [1] := ideal_sub hp (by decide +kernel)
    obtain ⟨d3, -⟩ : AllD D false [3] := ideal_sub hs (by decide +kernel)
    simp only [d1, d3, h0, cond_true, cond_false]
    refine Run.go rfl ?_
    refine Run.le ?_ hK
    simp only [d1, d3, h0, Nat.reduceBEq, Bool.false_or, Bool.true_or, cond_true, cond_false]
    exact St.Le.mk' ⟨rfl, rfl, rfl, rfl, rfl, rfl, rfl, rfl, rfl, rfl, rfl, rfl, rfl, rfl, rfl, rfl, rfl, rfl, rfl, trivial⟩ ⟨rfl, rfl, rfl, trivial⟩
  · intro D hid h0 hp hs rest hK
    obtain ⟨d2, -⟩ : AllD D true [2] := ideal_sub hp (by decide +kernel)
    obtain ⟨d9, -⟩ : AllD D false [9] := ideal_sub hs (by decide +kernel)
    simp only [d2, d9, h0, cond_true, cond_false]
    refine Run.go rfl ?_
    refine Run.le ?_ hK
    simp only [d2, d9, h0, Nat.reduceBEq, Bool.false_or, Bool.true_or, cond_true, cond_false]
    exact St.Le.mk' ⟨rfl, rfl, rfl, rfl, rfl, rfl, rfl, rfl, rfl, rfl, rfl, rfl, rfl, rfl, rfl, rfl, rfl, rfl, rfl, trivial⟩ ⟨rfl, rfl, rfl, trivial⟩
  · intro D hid h0 hp hs rest hK
    obtain ⟨d8, -⟩ : AllD D false [8] := ideal_sub hs (by decide +kernel)
    simp only [d8, h0, cond_true, cond_false]
    refine Run.go rfl ?_
    refine Run.le ?_ hK
    simp only [d8, h0, Nat.reduceBEq, Bool.false_or, Bool.true_or, cond_true, cond_false]
    exact St.Le.mk' ⟨rfl, rfl, rfl, rfl, rfl, rfl, rfl, rfl, rfl, rfl, rfl, rfl, rfl, rfl, rfl, rfl, rfl, rfl, rfl, trivial⟩ ⟨rfl, rfl, rfl, trivial⟩
  · intro D hid h0 hp hs rest hK
    obtain ⟨d7, -⟩ : AllD D false [7] := ideal_sub hs (by decide +kernel)
    simp only [d7, h0, cond_true, cond_false]
    refine Run.go rfl ?_
    refine Run.le ?_ hK
    simp only [d7, h0, Nat.reduceBEq, Bool.false_or, Bool.true_or, cond_true, cond_false]
    exact St.Le.mk' ⟨rfl, rfl, rfl, rfl, rfl, rfl, rfl, rfl, rfl, rfl, rfl, rfl, rfl, rfl, rfl, rfl, rfl, rfl, rfl, trivial⟩ ⟨rfl, rfl, rfl, trivial⟩
  · intro D hid h0 hp hs rest hK
    obtain ⟨d7, -⟩ : AllD D false [7] := ideal_sub hs (by decide +kernel)
    simp only [d7, h0, cond_true, cond_false]
    refine Run.go rfl ?_
    refine Run.le ?_ hK
    simp only [d7, h0, Nat.reduceBEq, Bool.false_or, Bool.true_or, cond_true, cond_false]
    exact St.Le.mk' ⟨rfl, rfl, rfl, rfl, rfl, rfl, rfl, rfl, rfl, rfl, rfl, rfl, rfl, rfl, rfl, rfl, rfl, rfl, rfl, trivial⟩ ⟨rfl, rfl, rfl, trivial⟩
  · intro D hid h0 hp hs rest hK
    obtain ⟨d5, d6, -⟩ : AllD D true [5, 6] := ideal_sub hp (by decide +kernel)
    obtain ⟨d8, -⟩ : AllD D false [8] := ideal_sub hs (by decide +kernel)
    simp only [d5, d6, d8, h0, cond_true, cond_false]
    refine Run.val rfl rfl rfl (ValOk.cut (l := (k : Nat)) (h := (S.map plA).length) (ys := ((S.drop k).map plA)) rfl rfl rfl rfl rfl rfl (by omega) (by omega) (by omega) (by rw [Int.toNat_natCast, Int.toNat_natCast, List.take_length, List.map_drop])) rfl ?_
    refine Run.le ?_ hK
    simp only [d5, d6, d8, h0, Nat.reduceBEq, Bool.false_or, Bool.true_or, cond_true, cond_false]
    exact St.Le.mk' ⟨rfl, rfl, rfl, rfl, rfl, rfl, rfl, rfl, rfl, rfl, rfl, rfl, rfl, rfl, rfl, rfl, rfl, rfl, rfl, trivial⟩ ⟨rfl, rfl, rfl, trivial⟩
  · intro D hid h0 hp hs rest hK
    obtain ⟨d4, d7, -⟩ : AllD D true [4, 7] := ideal_sub hp (by decide +kernel)
    obtain ⟨d9, -⟩ : AllD D false [9] := ideal_sub hs (by decide +kernel)
    have d11 : D 11 = false := ideal_no (i := 11) (j := 9) hid (by decide +kernel) d9
    simp only [d4, d7, d9, d11, h0, cond_true, cond_false]
    refine Run.appendr (id := (17, 0)) (ys := ((S.drop k).map plA)) rfl rfl rfl rfl rfl rfl rfl rfl rfl rfl rfl rfl rfl (one_pl _) hlenAB hcapAB rfl ?_
    refine Run.le ?_ hK
    simp only [d4, d7, d9, d11, h0, Nat.reduceBEq, Bool.false_or, Bool.true_or, cond_true, cond_false]
    exact St.Le.mk' ⟨rfl, rfl, rfl, rfl, rfl, rfl, rfl, rfl, rfl, rfl, rfl, rfl, rfl, rfl, rfl, rfl, rfl, rfl, rfl, trivial⟩ ⟨rfl, rfl, rfl, trivial⟩
  · intro D hid h0 hp hs rest hK
    obtain ⟨d3, d8, -⟩ : AllD D true [3, 8] := ideal_sub hp (by decide +kernel)
    obtain ⟨d11, -⟩ : AllD D false [11] := ideal_sub hs (by decide +kernel)
    have d2 : D 2 = true := hid 3 2 (by decide +kernel) (by decide +kernel) d3
    have d1 : D 1 = true := hid 2 1 (by decide +kernel) (by decide +kernel) d2
    have d0 : D 0 = true := hid 1 0 (by decide +kernel) (by decide +kernel) d1
    have d4 : D 4 = true := hid 8 4 (by decide +kernel) (by decide +kernel) d8
    have d7 : D 7 = true := hid 8 7 (by decide +kernel) (by decide +kernel) d8
    have d5 : D 5 = true := hid 7 5 (by decide +kernel) (by decide +kernel) d7
    have d6 : D 6 = true := hid 7 6 (by decide +kernel) (by decide +kernel) d7
    simp only [d3, d8, d11, d2, d1, d0, d4, d7, d5, d6, h0, cond_true, cond_false]
    refine Run.unpack 123 rfl (by cases D 10 <;> cases D 12 <;> cases D 13 <;> rfl) ?_
    refine Run.val rfl rfl rfl (ValOk.build rfl rfl rfl rfl rfl) rfl ?_
    refine Run.forget 123 ?_
    refine Run.le ?_ hK
    simp only [d3, d8, d11, d2, d1, d0, d4, d7, d5, d6, h0, Nat.reduceBEq, Bool.false_or, Bool.true_or, cond_true, cond_false]
    exact St.Le.mk' ⟨rfl, rfl, rfl, rfl, rfl, rfl, rfl, rfl, rfl, rfl, rfl, rfl, rfl, rfl, rfl, rfl, rfl, rfl, rfl, trivial⟩ ⟨rfl, rfl, rfl, trivial⟩
  · intro D hid h0 hp hs rest hK
    obtain ⟨d12, -⟩ : AllD D false [12] := ideal_sub hs (by decide +kernel)
    simp only [d12, h0, cond_true, cond_false]
    refine Run.go rfl ?_
    refine Run.le ?_ hK
    simp only [d12, h0, Nat.reduceBEq, Bool.false_or, Bool.true_or, cond_true, cond_false]
    exact St.Le.mk' ⟨rfl, rfl, rfl, rfl, rfl, rfl, rfl, rfl, rfl, rfl, rfl, rfl, rfl, rfl, rfl, rfl, rfl, rfl, rfl, trivial⟩ ⟨rfl, rfl, rfl, trivial⟩
  · intro D hid h0 hp hs rest hK
    obtain ⟨d9, -⟩ : AllD D true [9] := ideal_sub hp (by decide +kernel)
    obtain ⟨d12, -⟩ : AllD D false [12] := ideal_sub hs (by decide +kernel)
    simp only [d9, d12, h0, cond_true, cond_false]
    refine Run.go rfl ?_
    refine Run.le ?_ hK
    simp only [d9, d12, h0, Nat.reduceBEq, Bool.false_or, Bool.true_or, cond_true, cond_false]
    exact St.Le.mk' ⟨rfl, rfl, rfl, rfl, rfl, rfl, rfl, rfl, rfl, rfl, rfl, rfl, rfl, rfl, rfl, rfl, rfl, rfl, rfl, trivial⟩ ⟨rfl, rfl, rfl, trivial⟩
  · intro D hid h0 hp hs rest hK
    obtain ⟨d10, d11, -⟩ : AllD D true [10, 11] := ideal_sub hp (by decide +kernel)
    obtain ⟨d13, -⟩ : AllD D false [13] := ideal_sub hs (by decide +kernel)
    simp only [d10, d11, d13, h0, cond_true, cond_false]
    refine Run.go rfl ?_
    refine Run.le ?_ hK
    simp only [d10, d11, d13, h0, Nat.reduceBEq, Bool.false_or, Bool.true_or, cond_true, cond_false]
    exact St.Le.mk' ⟨rfl, rfl, rfl, rfl, rfl, rfl, rfl, rfl, rfl, rfl, rfl, rfl, rfl, rfl, rfl, rfl, rfl, rfl, rfl, trivial⟩ ⟨rfl, rfl, rfl, trivial⟩
  · intro D hid h0 hp hs rest hK
    obtain ⟨d12, -⟩ : AllD D true [12] := ideal_sub hp (by decide +kernel)
    simp only [d12, h0, cond_true, cond_false]
    refine Run.go rfl ?_
    refine Run.le ?_ hK
    simp only [d12, h0, Nat.reduceBEq, Bool.false_or, Bool.true_or, cond_true, cond_false]
    exact St.Le.mk' ⟨rfl, rfl, rfl, rfl, rfl, rfl, rfl, rfl, rfl, rfl, rfl, rfl, rfl, rfl, rfl, rfl, rfl, rfl, rfl, trivial⟩ ⟨rfl, rfl, rfl, trivial⟩
  repeat (refine Run.go rfl ?_)
  refine Run.packBox (4, 0) 1 rfl rfl rfl rfl ?_
  refine Run.ret hgg rfl ?_
  show AV.tup [.agg [i16 n, .own 9 false (T.map plA ++ (S.drop k).map plA)], _, _] = AV.tup [.agg [i16 n, .own 9 false ((T ++ S.drop k).map plA)], _, _]
  rw [List.map_append]
  rfl
noncomputable def X14 : Fx := ⟨Tryz.prog, tys, 14, Tryz.f14, [0, 1]⟩
theorem X14_ok : X14.Ok := ⟨Tryz.func14, tys_ok⟩
theorem specAddBook_ct (r : Rk) (ex : Bool) (b : Bk) (hr : rkOk r) (hb : bkRng b) : Ct Tryz.prog 14 [rkR ex r, bkA b] (aaA (if vB b = true then aaRes r [b] else (rk0, 0, 1))) [] := by
  refine Ct.intro X14 X14_ok rfl (by kernel_rfl) rfl rfl fun g hg => ?_
  repeat (refine Run.go rfl ?_)
  refine Run.cs rfl (l05Ok_ct r ex hr) rfl rfl ?_
  repeat (refine Run.go rfl ?_)
  refine Run.bool 12 rfl (fun h => ?_) (fun h => ?_)
  · have h : vR r = false := by simpa using h
    repeat (refine Run.go rfl ?_)
    refine Run.cond rfl (fun _ => ?_) (fun h => by simp at h)
    repeat (refine Run.go rfl ?_)
    refine Run.val rfl rfl rfl (ValOk.build rfl rfl rfl rfl rfl) rfl ?_
    repeat (refine Run.go rfl ?_)
    refine Run.nilBox (4, 0) 1 9 false rfl rfl ?_
    refine Run.ret hg rfl ?_
    have : (if vB b = true then aaRes r [b] else (rk0, 0, 1)) = (rk0, 0, 1) := by
      rw [aaRes, if_neg (c := vR r = true) (by rw [h]; decide)]
      split <;> rfl
    rw [this]
    rfl
  have hv : vR r = true := by simpa using h
  have hV := (vR_VR hr.2).1 hv
  repeat (refine Run.go rfl ?_)
  refine Run.cs rfl (l01Book_ct b hb) rfl rfl ?_
  repeat (refine Run.go rfl ?_)
  refine Run.cond rfl (fun h => ?_) (fun h => ?_)
  · have h : vB b = false := by simpa using h
    repeat (refine Run.go rfl ?_)
    refine Run.val rfl rfl rfl (ValOk.build rfl rfl rfl rfl rfl) rfl ?_
    repeat (refine Run.go rfl ?_)
    refine Run.nilBox (4, 0) 1 9 false rfl rfl ?_
    refine Run.ret hg rfl ?_
    rw [if_neg (by rw [h]; decide)]
    rfl
  have hvb : vB b = true := by simpa using h
  have hbr : ∀ x ∈ r.bs, bkRng x.b := fun x hx => (hr.2 x hx).2
  have hvs : vBs [b] = true := by simp [vBs, hvb]
  rw [if_pos hvb, aaRes, if_pos hv, if_pos hvs, adAll] at hg
  obtain ⟨n, l⟩ := r
  simp only at hV hbr hg
  have hct := l05Added_ct ⟨n, l⟩ ex b hV hbr hb
  have hax : axA n l b = if (l.length : Int) = n then .tup [rkO false rk0, i64 ((0 : Nat) : Int), bo false] else .tup [rkO false ⟨n, adL n l b⟩, i64 (adM n l b : Nat), bo true] := rfl
  rw [show axA (Rk.mk n l).pl (Rk.mk n l).bs b = axA n l b from rfl, hax] at hct
  repeat (refine Run.go rfl ?_)
  by_cases h : (l.length : Int) = n
  · rw [if_pos h] at hg hct
    refine Run.cs rfl hct rfl (by simp only [AV.rf, AV.rfL, rk_rf]; rfl) ?_
    repeat (refine Run.go rfl ?_)
    refine Run.unagg 19 1 (19, 1) rfl rfl rfl ?_
    repeat (refine Run.go rfl ?_)
    refine Run.cond rfl (fun _ => ?_) (fun h => by cases h)
    repeat (refine Run.go rfl ?_)
    refine Run.val rfl rfl rfl (ValOk.build rfl rfl rfl rfl rfl) rfl ?_
    repeat (refine Run.go rfl ?_)
    refine Run.nilBox (4, 0) 1 9 false rfl rfl ?_
    exact Run.ret hg rfl rfl
  rw [if_neg h, adAll, Nat.zero_add] at hg
  rw [if_neg h] at hct
  refine Run.cs rfl hct rfl (by simp only [AV.rf, AV.rfL, rk_rf]; rfl) ?_
  repeat (refine Run.go rfl ?_)
  refine Run.unagg 19 1 (19, 1) rfl rfl rfl ?_
  repeat (refine Run.go rfl ?_)
  refine Run.cond rfl (fun h => by cases h) (fun _ => ?_)
  repeat (refine Run.go rfl ?_)
  refine Run.packBox (4, 0) 1 rfl rfl rfl rfl ?_
  exact Run.ret hg rfl rfl
end Go.Proofs.YtbkelajnngdimaaGreatDoor

/- Contracts of the program's functions, and what follows from them. -/
set_option maxRecDepth 100000
namespace Go.Proofs.YtbkelajnngdimaaGreatDoor
open Go Go.Av
def spA (P n : Int) (i : Nat) : Int := ((2 * (i : Int) + 1) * P).tdiv (2 * n)
def sp (P : Int) (L : List Bk) : List Pl := (List.range L.length).map fun i => ⟨spA P L.length i, L.getD i bk0⟩
theorem sp_len (P : Int) (L : List Bk) : (sp P L).length = L.length := by simp [sp]
theorem sp_get {P : Int} {L : List Bk} {i : Nat} (h : i < L.length) : (sp P L)[i]'(by rw [sp_len]; exact h) = ⟨spA P L.length i, L[i]⟩ := by simp [sp, h]
theorem sp_pa {P : Int} {L : List Bk} {i : Nat} (h : i < L.length) : pa (sp P L) i = spA P L.length i := by rw [pa_get (by rw [sp_len]; exact h), sp_get h]
theorem sp_ba {P : Int} {L : List Bk} {i : Nat} (h : i < L.length) : ba (sp P L) i = L[i] := by rw [ba_get (by rw [sp_len]; exact h), sp_get h]
theorem sp_pbs (P : Int) (L : List Bk) : pbs (sp P L) = L := by
  refine List.ext_getElem (by rw [pbs_len, sp_len]) fun i h1 h2 => ?_
  simp [pbs, sp_get h2]
theorem spA_e {P n : Int} (hP : 0 ≤ P) {i : Nat} : spA P n i = ((2 * (i : Int) + 1) * P) / (2 * n) := by
  rw [spA, Int.tdiv_eq_ediv_of_nonneg (Int.mul_nonneg (by omega) hP)]
theorem spA_lt {P n : Int} (hn : 0 < n) (h : n ≤ P) (i : Nat) : spA P n i < spA P n (i + 1) := by
  rw [spA_e (by omega), spA_e (by omega)]
  have h1 : (2 * ((i + 1 : Nat) : Int) + 1) * P = (2 * (i : Int) + 1) * P + 2 * P := by
    rw [show (2 * ((i + 1 : Nat) : Int) + 1) = (2 * (i : Int) + 1) + 2 by omega, Int.add_mul]
  rw [h1]
  have h2 : ((2 * (i : Int) + 1) * P) / (2 * n) + 1 = ((2 * (i : Int) + 1) * P + 2 * n) / (2 * n) := by
    rw [Int.add_ediv_of_dvd_right (Int.dvd_refl _), Int.ediv_self (by omega)]
  have h3 := Int.ediv_le_ediv (a := (2 * (i : Int) + 1) * P + 2 * n) (b := (2 * (i : Int) + 1) * P + 2 * P) (c := 2 * n) (by omega) (by omega)
  omega
theorem spA_rng {P n : Int} (hP : 0 < P) {i : Nat} (hi : (i : Int) < n) : 0 ≤ spA P n i ∧ spA P n i < P := by
  rw [spA_e (by omega)]
  refine ⟨Int.ediv_nonneg (Int.mul_nonneg (by omega) (by omega)) (by omega), ?_⟩
  refine Int.ediv_lt_of_lt_mul (by omega) ?_
  rw [Int.mul_comm P]
  exact Int.mul_lt_mul_of_pos_right (by omega) hP
theorem spA_mono {P n : Int} (hn : 0 < n) (h : n ≤ P) : ∀ {j i : Nat}, i < j → spA P n i < spA P n j := by
  intro j
  induction j with
  | zero => intro i hi; omega
  | succ j ih =>
    intro i hi
    have := spA_lt hn h j
    by_cases e : i = j
    · subst e; exact this
    · have := ih (i := i) (by omega); omega
theorem VR.spread {n : Int} {l : List Pl} (h : VR n l) : VR n (sp n (pbs l)) := by
  have hn := h.hn
  have hlen := h.len
  have hl : (sp n (pbs l)).length = l.length := by rw [sp_len, pbs_len]
  have hb : ∀ i, i < l.length → ba (sp n (pbs l)) i = ba l i := fun i hi => by rw [sp_ba (by rw [pbs_len]; exact hi), ba_get hi]; simp [pbs]
  refine ⟨hn, fun i j hij hj => ?_, fun i hi => ?_, fun x hx => ?_, fun i j hij hj => ?_⟩
  · rw [hl] at hj
    rw [sp_pa (by rw [pbs_len]; omega), sp_pa (by rw [pbs_len]; omega), pbs_len]
    exact spA_mono (by omega) hlen hij
  · rw [hl] at hi
    rw [sp_pa (by rw [pbs_len]; omega), pbs_len]
    exact spA_rng (by omega) (by omega)
  · obtain ⟨i, hi, rfl⟩ := List.getElem_of_mem hx
    have hi' : i < l.length := by rw [hl] at hi; exact hi
    have := hb i hi'
    rw [ba_get hi, ba_get hi'] at this
    rw [this]
    exact h.vb _ (by simp)
  · rw [hl] at hj
    rw [hb i (by omega), hb j hj]
    exact h.so i j hij hj
def els (l m : List Pl) : Nat → Nat
  | 0 => 0
  | j + 1 => els l m j + if pa l j = pa m j then 0 else 1
theorem els_le (l m : List Pl) : ∀ j, els l m j ≤ j
  | 0 => Nat.le_refl 0
  | j + 1 => by have := els_le l m j; rw [els]; split <;> omega
end Go.Proofs.YtbkelajnngdimaaGreatDoor
