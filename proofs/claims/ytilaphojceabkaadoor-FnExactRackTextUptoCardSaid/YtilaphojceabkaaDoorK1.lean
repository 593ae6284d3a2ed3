/- Contracts of the program's functions, and what follows from them. -/
import Derived.Test.YtilaphojceabkaaDoorME
set_option linter.unusedVariables false
set_option maxRecDepth 100000
set_option linter.unusedSimpArgs false
namespace Go.Proofs.YtilaphojceabkaaDoor
open Go Go.Av

/-! Racks: copied, measured, compared, marked, held. -/

structure Pl where
  p : Int
  b : Bk
  deriving DecidableEq
structure Rk where
  pl : Int
  bs : List Pl
  deriving DecidableEq

def plA (x : Pl) : AV := .agg [i16 x.p, i16 x.b.cl, u8 x.b.a, u8 x.b.b, u8 x.b.c, i16 x.b.vol, i16 x.b.wd, i16 x.b.hi, i16 x.b.wt]
def pl0 : Pl := ⟨0, bk0⟩
def rkR (ex : Bool) (r : Rk) : AV := .agg [i16 r.pl, .ro 9 ex (r.bs.map plA)]
def rkO (ex : Bool) (r : Rk) : AV := .agg [i16 r.pl, .own 9 ex (r.bs.map plA)]
theorem pl_rf (x : Pl) : (plA x).rf = true := rfl
theorem pl_frz (x : Pl) : (plA x).frz = plA x := rfl
theorem frzP (l : List Pl) : AV.frzL (l.map plA) = l.map plA := frzL_map pl_frz l
theorem rfP (l : List Pl) : AV.rfL (l.map plA) = true := rfL_map pl_rf l
theorem rk_rf (ex : Bool) (r : Rk) : (rkO ex r).rf = true := by simp only [rkO, AV.rf, AV.rfL, rfP]; rfl
theorem rk_frz (ex : Bool) (r : Rk) : (rkO ex r).frz = rkR ex r := by simp only [rkO, rkR, AV.frz, AV.frzL, frzP]
theorem one_pl (a : List Pl) : oneC (a.map plA) = true := by
  simp only [oneC, List.all_map, List.all_eq_true]
  intro x _
  rfl

noncomputable def X101 : Fx := ⟨Tryd.prog, tys, 101, Tryd.f101, [0]⟩
theorem X101_ok : X101.Ok := ⟨Tryd.func101, tys_ok⟩
theorem toPlaced_ct (x : Pl) : Ct Tryd.prog 101 [plA x] (plA x) [] := by
  refine Ct.intro X101 X101_ok rfl rfl rfl rfl fun g hg => ?_
  repeat (refine Run.go rfl ?_)
  refine Run.cs rfl (toBook_ct x.b) rfl rfl ?_
  repeat (refine Run.go rfl ?_)
  exact Run.ret hg rfl rfl

noncomputable def X62 : Fx := ⟨Tryd.prog, tys, 62, Tryd.f62, [0]⟩
theorem X62_ok : X62.Ok := ⟨Tryd.func62, tys_ok⟩
theorem toPlacedS_ct (l : List Pl) (ex : Bool) (hlen : l.length ≤ 1048576) : Ct Tryd.prog 62 [.ro 9 ex (l.map plA)] (.own 9 true (l.map plA)) [] := by
  refine Ct.intro X62 X62_ok rfl rfl rfl rfl fun g hg => ?_
  repeat (refine Run.go rfl ?_)
  refine Run.make rfl rfl rfl rfl rfl rfl rfl rfl rfl rfl (by simp; omega) (by show _ * 16 ≤ _; simp; omega) rfl ?_
  repeat (refine Run.go rfl ?_)
  refine Run.loop (fun j : Nat => ⟨[(0, .ro 9 ex (l.map plA)), (3, .own 9 true ((l.take j).map plA ++ List.replicate (l.length - j) (plA pl0))), (4, i64 j)], []⟩) (fun j => j ≤ l.length) (fun j => l.length - j) 0 (by omega) ?_ ?_
  · refine St.Le.mk' ⟨rfl, ?_, rfl, trivial⟩ trivial
    show AV.own 9 true (List.replicate (l.map plA).length (plA pl0)) = _
    simp
  · intro j hj IH
    repeat (refine Run.go rfl ?_)
    refine Run.cond rfl (fun h => ?_) (fun h => ?_)
    · have hlt : j < l.length := by simpa using h
      repeat (refine Run.go rfl ?_)
      refine Run.val rfl rfl rfl (ValOk.idx (plA l[j]) rfl rfl rfl rfl rfl (by omega) (by simp [hlt])) rfl ?_
      repeat (refine Run.go rfl ?_)
      refine Run.cs rfl (toPlaced_ct l[j]) rfl rfl ?_
      refine Run.val rfl rfl rfl (ValOk.idxv rfl rfl rfl rfl rfl rfl (by omega) (by simp; omega)) rfl ?_
      refine Run.storee (plA pl0) (plA l[j]) rfl rfl rfl rfl rfl rfl rfl ?_ rfl rfl rfl ?_
      · simpa using fill_at hlt
      repeat (refine Run.go rfl ?_)
      refine Run.pack 3 rfl rfl (by simp) ?_
      refine Run.of (IH (j + 1) (by omega) (by omega)) ⟨rfl, ?_, ?_, trivial⟩ trivial
      · show AV.own _ _ _ = _
        congr 1
        simp only [Nat.zero_add, Int.toNat_natCast]
        exact fill_step (f := plA) hlt
      · show i64 _ = _
        rw [wrap_i64 (by omega) (by omega)]
        rfl
    · have hj' : j = l.length := by simp at h; omega
      subst hj'
      repeat (refine Run.go rfl ?_)
      refine Run.pack 2 rfl rfl rfl ?_
      refine Run.ret hg rfl ?_
      show AV.own _ _ _ = _
      simp

noncomputable def X26 : Fx := ⟨Tryd.prog, tys, 26, Tryd.f26, [0]⟩
theorem X26_ok : X26.Ok := ⟨Tryd.func26, tys_ok⟩
theorem toRack_ct (r : Rk) (ex : Bool) (hlen : r.bs.length ≤ 1048576) : Ct Tryd.prog 26 [rkR ex r] (rkO true r) [] := by
  refine Ct.intro X26 X26_ok rfl rfl rfl rfl fun g hg => ?_
  repeat (refine Run.go rfl ?_)
  refine Run.cs rfl (toPlacedS_ct r.bs ex hlen) rfl (rf_own pl_rf _) ?_
  refine Run.unpack 9 rfl rfl ?_
  repeat (refine Run.go rfl ?_)
  refine Run.packBox (2, 0) 1 rfl rfl rfl rfl ?_
  exact Run.ret (r := rkO true r) hg (by kernel_rfl) rfl

def szR (r : Rk) (n : Int) : Int := if n - r.bs.length < 0 then -1 else n - r.bs.length

noncomputable def X59 : Fx := ⟨Tryd.prog, tys, 59, Tryd.f59, [0]⟩
theorem X59_ok : X59.Ok := ⟨Tryd.func59, tys_ok⟩
theorem szPlacedS_ct (l : List Pl) (ex : Bool) (n : Int) (h0 : 0 ≤ n) (h1 : n ≤ 1048576) (hlen : l.length ≤ 1048576) : Ct Tryd.prog 59 [.ro 9 ex (l.map plA), i64 n] (i64 (szR ⟨0, l⟩ n)) [] := by
  have ew : IntKind.i64.wrap (n - (l.map plA).length) = n - l.length := by rw [List.length_map, wrap_i64 (by omega) (by omega)]
  refine Ct.intro X59 X59_ok rfl rfl rfl rfl fun g hg => ?_
  repeat (refine Run.go rfl ?_)
  rw [ew]
  refine Run.cond rfl (fun h => ?_) (fun h => ?_)
  · repeat (refine Run.go rfl ?_)
    refine Run.ret hg rfl ?_
    have h : n - l.length < 0 := by simpa using h
    rw [szR, if_pos h]
    rfl
  · repeat (refine Run.go rfl ?_)
    refine Run.ret hg rfl ?_
    have h : ¬ n - l.length < 0 := by simpa using h
    rw [szR, if_neg h]
    rfl

noncomputable def X24 : Fx := ⟨Tryd.prog, tys, 24, Tryd.f24, [0]⟩
theorem X24_ok : X24.Ok := ⟨Tryd.func24, tys_ok⟩
theorem szRack_ct (r : Rk) (ex : Bool) (n : Int) (h0 : 0 ≤ n) (h1 : n ≤ 1048576) (hlen : r.bs.length ≤ 1048576) : Ct Tryd.prog 24 [rkR ex r, i64 n] (i64 (szR r n)) [] := by
  refine Ct.intro X24 X24_ok rfl rfl rfl rfl fun g hg => ?_
  repeat (refine Run.go rfl ?_)
  refine Run.cs rfl (szPlacedS_ct r.bs ex n h0 h1 hlen) rfl rfl ?_
  repeat (refine Run.go rfl ?_)
  refine Run.cond rfl (fun h => ?_) (fun h => ?_)
  · repeat (refine Run.go rfl ?_)
    refine Run.ret hg rfl ?_
    show i64 _ = _
    have h : szR r n < 0 := of_decide_eq_true h
    have : szR r n = -1 := by
      unfold szR at h ⊢
      split <;> simp_all
    rw [this]
  · repeat (refine Run.go rfl ?_)
    exact Run.ret hg rfl rfl

noncomputable def X112 : Fx := ⟨Tryd.prog, tys, 112, Tryd.f112, [0, 1]⟩
theorem X112_ok : X112.Ok := ⟨Tryd.func112, tys_ok⟩
theorem eqPlaced_ct (x y : Pl) : Ct Tryd.prog 112 [plA x, plA y] (bo (decide (x = y))) [] := by
  obtain ⟨a1, a2⟩ := x
  obtain ⟨b1, b2⟩ := y
  refine Ct.intro X112 X112_ok rfl rfl rfl rfl fun g hg => ?_
  repeat (refine Run.go rfl ?_)
  refine Run.cond rfl (fun h => ?_) (fun h1 => ?_)
  · repeat (refine Run.go rfl ?_)
    refine Run.ret hg rfl ?_
    show bo _ = _
    simp at h
    simp [h]
  repeat (refine Run.go rfl ?_)
  refine Run.cs rfl (eqBook_ct a2 b2) rfl rfl ?_
  repeat (refine Run.go rfl ?_)
  refine Run.cond rfl (fun h => ?_) (fun h5 => ?_)
  · repeat (refine Run.go rfl ?_)
    refine Run.ret hg rfl ?_
    show bo _ = _
    simp at h
    simp [h]
  repeat (refine Run.go rfl ?_)
  refine Run.ret hg rfl ?_
  show bo _ = _
  simp at h1 h5
  simp [h1, h5]

noncomputable def X65 : Fx := ⟨Tryd.prog, tys, 65, Tryd.f65, [0, 1]⟩
theorem X65_ok : X65.Ok := ⟨Tryd.func65, tys_ok⟩
theorem eqPlacedS_ct (l m : List Pl) (ex ex' : Bool) (hb : l.length ≤ 1048576) : Ct Tryd.prog 65 [.ro 9 ex (l.map plA), .ro 9 ex' (m.map plA)] (bo (decide (l = m))) [] := by
  refine Ct.intro X65 X65_ok rfl rfl rfl rfl fun g hg => ?_
  repeat (refine Run.go rfl ?_)
  refine Run.cond rfl (fun h => ?_) (fun h => ?_)
  · repeat (refine Run.go rfl ?_)
    refine Run.ret hg rfl ?_
    show bo _ = _
    congr 2
    simp at h
    symm
    simp
    rintro rfl
    exact h rfl
  · have hlen : l.length = m.length := by simp at h; omega
    repeat (refine Run.go rfl ?_)
    refine Run.loop (fun j : Nat => ⟨[(0, .ro 9 ex (l.map plA)), (1, .ro 9 ex' (m.map plA)), (5, i64 j)], []⟩) (fun j => j ≤ l.length ∧ l.take j = m.take j) (fun j => l.length - j) 0 ⟨by omega, rfl⟩ ?_ ?_
    · exact St.Le.mk' ⟨rfl, rfl, rfl, trivial⟩ trivial
    · rintro j ⟨hj, hjm⟩ IH
      repeat (refine Run.go rfl ?_)
      refine Run.cond rfl (fun h => ?_) (fun h => ?_)
      · have hlt : j < l.length := by simpa using h
        have hlt' : j < m.length := by omega
        repeat (refine Run.go rfl ?_)
        refine Run.draw (by kernel_rfl) (by decide +kernel) ?_
        repeat (refine Quiet.go rfl ?_)
        refine Quiet.val rfl rfl (ValOk.idx (plA l[j]) rfl rfl rfl rfl rfl (by omega) (by simp [hlt])) rfl ?_
        repeat (refine Quiet.go rfl ?_)
        refine Quiet.val rfl rfl (ValOk.idx (plA m[j]) rfl rfl rfl rfl rfl (by omega) (by simp [hlt'])) rfl ?_
        repeat (refine Quiet.go rfl ?_)
        refine Quiet.cs rfl rfl rfl rfl rfl (eqPlaced_ct l[j] m[j]) rfl rfl ?_
        repeat (refine Quiet.go rfl ?_)
        refine Quiet.nil ?_
        repeat (refine Run.go rfl ?_)
        refine Run.cond rfl (fun h => ?_) (fun h => ?_)
        · repeat (refine Run.go rfl ?_)
          refine Run.ret hg rfl ?_
          show bo _ = _
          congr 2
          symm
          simp at h ⊢
          rintro rfl
          exact h rfl
        · repeat (refine Run.go rfl ?_)
          refine Run.of (IH (j + 1) ⟨by omega, ?_⟩ (by omega)) ⟨rfl, rfl, ?_, trivial⟩ trivial
          · rw [List.take_succ_eq_append_getElem hlt, List.take_succ_eq_append_getElem hlt', hjm]
            simp at h
            rw [h]
          · show i64 _ = _
            rw [wrap_i64 (by omega) (by omega)]
            rfl
      · have hj' : j = l.length := by simp at h; omega
        repeat (refine Run.go rfl ?_)
        refine Run.ret hg rfl ?_
        show bo _ = _
        rw [List.take_of_length_le (by omega), List.take_of_length_le (by omega)] at hjm
        simp [hjm]

noncomputable def X28 : Fx := ⟨Tryd.prog, tys, 28, Tryd.f28, [0, 1]⟩
theorem X28_ok : X28.Ok := ⟨Tryd.func28, tys_ok⟩
theorem eqRack_ct (c d : Rk) (e1 e2 : Bool) (hb : c.bs.length ≤ 1048576) : Ct Tryd.prog 28 [rkR e1 c, rkR e2 d] (bo (decide (c = d))) [] := by
  obtain ⟨a1, a2⟩ := c
  obtain ⟨b1, b2⟩ := d
  refine Ct.intro X28 X28_ok rfl rfl rfl rfl fun g hg => ?_
  repeat (refine Run.go rfl ?_)
  refine Run.cond rfl (fun h => ?_) (fun h1 => ?_)
  · repeat (refine Run.go rfl ?_)
    refine Run.ret hg rfl ?_
    show bo _ = _
    simp at h
    simp [h]
  repeat (refine Run.go rfl ?_)
  refine Run.cs rfl (eqPlacedS_ct a2 b2 e1 e2 hb) rfl rfl ?_
  repeat (refine Run.go rfl ?_)
  refine Run.cond rfl (fun h => ?_) (fun h5 => ?_)
  · repeat (refine Run.go rfl ?_)
    refine Run.ret hg rfl ?_
    show bo _ = _
    simp at h
    simp [h]
  repeat (refine Run.go rfl ?_)
  refine Run.ret hg rfl ?_
  show bo _ = _
  simp at h1 h5
  simp [h1, h5]

def mkP (K : Int) : Pl := ⟨IntKind.i16.wrap K, ⟨IntKind.i16.wrap (K + 1), IntKind.u8.wrap (K + 2), IntKind.u8.wrap (K + 3), IntKind.u8.wrap (K + 4), IntKind.i16.wrap (K + 5), IntKind.i16.wrap (K + 6), IntKind.i16.wrap (K + 7), IntKind.i16.wrap (K + 8)⟩⟩
def mkPs (n : Nat) (k : Int) : List Pl := (List.range n).map fun i : Nat => mkP (k + 9 * (i : Int))
theorem mkPs_len (n : Nat) (k : Int) : (mkPs n k).length = n := by simp [mkPs]
theorem mkPs_step (n : Nat) (k : Int) : mkPs (n + 1) k = mkPs n k ++ [mkP (k + 9 * (n : Int))] := by simp [mkPs, List.range_succ]
theorem mkPs_get {n j : Nat} (h : j < n) (k : Int) : (mkPs n k)[j]? = some (mkP (k + 9 * (j : Int))) := by simp [mkPs, h]
def emP (x : Pl) (K : Int) : Nat → Pl
  | 0 => ⟨IntKind.i16.wrap K, ⟨IntKind.i16.wrap (K + 1), x.b.a, x.b.b, x.b.c, x.b.vol, x.b.wd, x.b.hi, x.b.wt⟩⟩
  | 1 => ⟨IntKind.i16.wrap K, ⟨IntKind.i16.wrap (K + 1), IntKind.u8.wrap (K + 2), x.b.b, x.b.c, x.b.vol, x.b.wd, x.b.hi, x.b.wt⟩⟩
  | 2 => ⟨IntKind.i16.wrap K, ⟨IntKind.i16.wrap (K + 1), IntKind.u8.wrap (K + 2), IntKind.u8.wrap (K + 3), x.b.c, x.b.vol, x.b.wd, x.b.hi, x.b.wt⟩⟩
  | _ => ⟨IntKind.i16.wrap K, ⟨IntKind.i16.wrap (K + 1), IntKind.u8.wrap (K + 2), IntKind.u8.wrap (K + 3), IntKind.u8.wrap (K + 4), x.b.vol, x.b.wd, x.b.hi, x.b.wt⟩⟩
def mkR (r : Rk) (k : Int) : Rk := ⟨r.pl, mkPs r.bs.length k⟩

end Go.Proofs.YtilaphojceabkaaDoor
