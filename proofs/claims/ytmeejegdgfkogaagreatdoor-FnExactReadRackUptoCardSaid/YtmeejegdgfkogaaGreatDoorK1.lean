/- Contracts of the program's functions, and what follows from them. -/
import Derived.Test.YtmeejegdgfkogaaGreatDoorME
set_option linter.unusedVariables false
set_option maxRecDepth 100000
set_option linter.unusedSimpArgs false
namespace Go.Proofs.YtmeejegdgfkogaaGreatDoor
open Go Go.Av

/-! Racks: copied, measured, compared, marked, held. -/

structure Pl where
  p : Int
  b : Bk
  deriving DecidableEq
structure Rk where
  pl : Int
  bs : List Pl
  deriving DecidableEq

def plA (x : Pl) : AV := .agg [i16 x.p, i16 x.b.cl, u8 x.b.a, u8 x.b.b, u8 x.b.c, i16 x.b.vol, i16 x.b.wd, i16 x.b.hi, i16 x.b.wt]
def pl0 : Pl := ⟨0, bk0⟩
def rkR (ex : Bool) (r : Rk) : AV := .agg [i16 r.pl, .ro 9 ex (r.bs.map plA)]
def rkO (ex : Bool) (r : Rk) : AV := .agg [i16 r.pl, .own 9 ex (r.bs.map plA)]
theorem pl_rf (x : Pl) : (plA x).rf = true := rfl
theorem pl_frz (x : Pl) : (plA x).frz = plA x := rfl
theorem frzP (l : List Pl) : AV.frzL (l.map plA) = l.map plA := frzL_map pl_frz l
theorem rfP (l : List Pl) : AV.rfL (l.map plA) = true := rfL_map pl_rf l
theorem rk_rf (ex : Bool) (r : Rk) : (rkO ex r).rf = true := by simp only [rkO, AV.rf, AV.rfL, rfP]; rfl
theorem rk_frz (ex : Bool) (r : Rk) : (rkO ex r).frz = rkR ex r := by simp only [rkO, rkR, AV.frz, AV.frzL, frzP]
theorem one_pl (a : List Pl) : oneC (a.map plA) = true := by
  simp only [oneC, List.all_map, List.all_eq_true]
  intro x _
  rfl

def szR (r : Rk) (n : Int) : Int := if n - r.bs.length < 0 then -1 else n - r.bs.length

noncomputable def X46 : Fx := ⟨Tryz.prog, tys, 46, Tryz.f46, [0, 1]⟩
theorem X46_ok : X46.Ok := ⟨Tryz.func46, tys_ok⟩
theorem eqPlaced_ct (x y : Pl) : Ct Tryz.prog 46 [plA x, plA y] (bo (decide (x = y))) [] := by
  obtain ⟨a1, a2⟩ := x
  obtain ⟨b1, b2⟩ := y
  refine Ct.intro X46 X46_ok rfl rfl rfl rfl fun g hg => ?_
  repeat (refine Run.go rfl ?_)
  refine Run.cond rfl (fun h => ?_) (fun h1 => ?_)
  · repeat (refine Run.go rfl ?_)
    refine Run.ret hg rfl ?_
    show bo _ = _
    simp at h
    simp [h]
  repeat (refine Run.go rfl ?_)
  refine Run.cs rfl (eqBook_ct a2 b2) rfl rfl ?_
  repeat (refine Run.go rfl ?_)
  refine Run.cond rfl (fun h => ?_) (fun h5 => ?_)
  · repeat (refine Run.go rfl ?_)
    refine Run.ret hg rfl ?_
    show bo _ = _
    simp at h
    simp [h]
  repeat (refine Run.go rfl ?_)
  refine Run.ret hg rfl ?_
  show bo _ = _
  simp at h1 h5
  simp [h1, h5]

noncomputable def X20 : Fx := ⟨Tryz.prog, tys, 20, Tryz.f20, [0, 1]⟩
theorem X20_ok : X20.Ok := ⟨Tryz.func20, tys_ok⟩
theorem eqPlacedS_ct (l m : List Pl) (ex ex' : Bool) (hb : l.length ≤ 1048576) : Ct Tryz.prog 20 [.ro 9 ex (l.map plA), .ro 9 ex' (m.map plA)] (bo (decide (l = m))) [] := by
  refine Ct.intro X20 X20_ok rfl rfl rfl rfl fun g hg => ?_
  repeat (refine Run.go rfl ?_)
  refine Run.cond rfl (fun h => ?_) (fun h => ?_)
  · repeat (refine Run.go rfl ?_)
    refine Run.ret hg rfl ?_
    show bo _ = _
    congr 2
    simp at h
    symm
    simp
    rintro rfl
    exact h rfl
  · have hlen : l.length = m.length := by simp at h; omega
    repeat (refine Run.go rfl ?_)
    refine Run.loop (fun j : Nat => ⟨[(0, .ro 9 ex (l.map plA)), (1, .ro 9 ex' (m.map plA)), (5, i64 j)], []⟩) (fun j => j ≤ l.length ∧ l.take j = m.take j) (fun j => l.length - j) 0 ⟨by omega, rfl⟩ ?_ ?_
    · exact St.Le.mk' ⟨rfl, rfl, rfl, trivial⟩ trivial
    · rintro j ⟨hj, hjm⟩ IH
      repeat (refine Run.go rfl ?_)
      refine Run.cond rfl (fun h => ?_) (fun h => ?_)
      · have hlt : j < l.length := by simpa using h
        have hlt' : j < m.length := by omega
        repeat (refine Run.go rfl ?_)
        refine Run.draw (by kernel_rfl) (by decide +kernel) ?_
        repeat (refine Quiet.go rfl ?_)
        refine Quiet.val rfl rfl (ValOk.idx (plA l[j]) rfl rfl rfl rfl rfl (by omega) (by simp [hlt])) rfl ?_
        repeat (refine Quiet.go rfl ?_)
        refine Quiet.val rfl rfl (ValOk.idx (plA m[j]) rfl rfl rfl rfl rfl (by omega) (by simp [hlt'])) rfl ?_
        repeat (refine Quiet.go rfl ?_)
        refine Quiet.cs rfl rfl rfl rfl rfl (eqPlaced_ct l[j] m[j]) rfl rfl ?_
        repeat (refine Quiet.go rfl ?_)
        refine Quiet.nil ?_
        repeat (refine Run.go rfl ?_)
        refine Run.cond rfl (fun h => ?_) (fun h => ?_)
        · repeat (refine Run.go rfl ?_)
          refine Run.ret hg rfl ?_
          show bo _ = _
          congr 2
          symm
          simp at h ⊢
          rintro rfl
          exact h rfl
        · repeat (refine Run.go rfl ?_)
          refine Run.of (IH (j + 1) ⟨by omega, ?_⟩ (by omega)) ⟨rfl, rfl, ?_, trivial⟩ trivial
          · rw [List.take_succ_eq_append_getElem hlt, List.take_succ_eq_append_getElem hlt', hjm]
            simp at h
            rw [h]
          · show i64 _ = _
            rw [wrap_i64 (by omega) (by omega)]
            rfl
      · have hj' : j = l.length := by simp at h; omega
        repeat (refine Run.go rfl ?_)
        refine Run.ret hg rfl ?_
        show bo _ = _
        rw [List.take_of_length_le (by omega), List.take_of_length_le (by omega)] at hjm
        simp [hjm]

noncomputable def X6 : Fx := ⟨Tryz.prog, tys, 6, Tryz.f6, [0, 1]⟩
theorem X6_ok : X6.Ok := ⟨Tryz.func6, tys_ok⟩
theorem eqRack_ct (c d : Rk) (e1 e2 : Bool) (hb : c.bs.length ≤ 1048576) : Ct Tryz.prog 6 [rkR e1 c, rkR e2 d] (bo (decide (c = d))) [] := by
  obtain ⟨a1, a2⟩ := c
  obtain ⟨b1, b2⟩ := d
  refine Ct.intro X6 X6_ok rfl rfl rfl rfl fun g hg => ?_
  repeat (refine Run.go rfl ?_)
  refine Run.cond rfl (fun h => ?_) (fun h1 => ?_)
  · repeat (refine Run.go rfl ?_)
    refine Run.ret hg rfl ?_
    show bo _ = _
    simp at h
    simp [h]
  repeat (refine Run.go rfl ?_)
  refine Run.cs rfl (eqPlacedS_ct a2 b2 e1 e2 hb) rfl rfl ?_
  repeat (refine Run.go rfl ?_)
  refine Run.cond rfl (fun h => ?_) (fun h5 => ?_)
  · repeat (refine Run.go rfl ?_)
    refine Run.ret hg rfl ?_
    show bo _ = _
    simp at h
    simp [h]
  repeat (refine Run.go rfl ?_)
  refine Run.ret hg rfl ?_
  show bo _ = _
  simp at h1 h5
  simp [h1, h5]

def mkP (K : Int) : Pl := ⟨IntKind.i16.wrap K, ⟨IntKind.i16.wrap (K + 1), IntKind.u8.wrap (K + 2), IntKind.u8.wrap (K + 3), IntKind.u8.wrap (K + 4), IntKind.i16.wrap (K + 5), IntKind.i16.wrap (K + 6), IntKind.i16.wrap (K + 7), IntKind.i16.wrap (K + 8)⟩⟩
def mkPs (n : Nat) (k : Int) : List Pl := (List.range n).map fun i : Nat => mkP (k + 9 * (i : Int))
theorem mkPs_len (n : Nat) (k : Int) : (mkPs n k).length = n := by simp [mkPs]
theorem mkPs_step (n : Nat) (k : Int) : mkPs (n + 1) k = mkPs n k ++ [mkP (k + 9 * (n : Int))] := by simp [mkPs, List.range_succ]
theorem mkPs_get {n j : Nat} (h : j < n) (k : Int) : (mkPs n k)[j]? = some (mkP (k + 9 * (j : Int))) := by simp [mkPs, h]
def emP (x : Pl) (K : Int) : Nat → Pl
  | 0 => ⟨IntKind.i16.wrap K, ⟨IntKind.i16.wrap (K + 1), x.b.a, x.b.b, x.b.c, x.b.vol, x.b.wd, x.b.hi, x.b.wt⟩⟩
  | 1 => ⟨IntKind.i16.wrap K, ⟨IntKind.i16.wrap (K + 1), IntKind.u8.wrap (K + 2), x.b.b, x.b.c, x.b.vol, x.b.wd, x.b.hi, x.b.wt⟩⟩
  | 2 => ⟨IntKind.i16.wrap K, ⟨IntKind.i16.wrap (K + 1), IntKind.u8.wrap (K + 2), IntKind.u8.wrap (K + 3), x.b.c, x.b.vol, x.b.wd, x.b.hi, x.b.wt⟩⟩
  | _ => ⟨IntKind.i16.wrap K, ⟨IntKind.i16.wrap (K + 1), IntKind.u8.wrap (K + 2), IntKind.u8.wrap (K + 3), IntKind.u8.wrap (K + 4), x.b.vol, x.b.wd, x.b.hi, x.b.wt⟩⟩
def mkR (r : Rk) (k : Int) : Rk := ⟨r.pl, mkPs r.bs.length k⟩

noncomputable def X21 : Fx := ⟨Tryz.prog, tys, 21, Tryz.f21, [0]⟩
theorem X21_ok : X21.Ok := ⟨Tryz.func21, tys_ok⟩
theorem markPlacedS_ct (l : List Pl) (k : Int) (ex : Bool) (hb : l.length ≤ 1048576) (hk : 0 ≤ k ∧ k ≤ 1099511627776) :
    Ct Tryz.prog 21 [.own 9 ex (l.map plA), i64 k] (i64 (k + 9 * (l.length : Nat))) [.own 9 ex ((mkPs l.length k).map plA)] := by
  refine Ct.intro X21 X21_ok rfl (by kernel_rfl) rfl rfl fun g hg => ?_
  refine Run.unpack 0 rfl rfl ?_
  repeat (refine Run.go rfl ?_)
  refine Run.loop (fun j : Nat => ⟨[(0, .vec (0, 0) 0 l.length), (1, i64 (k + 9 * (j : Int))), (5, i64 j)], [((0, 0), .vec 9 ex ((mkPs j k).map plA ++ (l.drop j).map plA))]⟩) (fun j => j ≤ l.length) (fun j => l.length - j) 0 (by omega) ?_ ?_
  · refine St.Le.mk' ⟨?_, ?_, rfl, trivial⟩ ⟨?_, trivial⟩
    · show AV.vec _ _ (l.map plA).length = _
      simp
    · show i64 k = _
      simp
    · show Ob.vec _ _ _ = _
      simp [mkPs]
  · intro j hj IH
    repeat (refine Run.go rfl ?_)
    refine Run.cond rfl (fun h => ?_) (fun h => ?_)
    · have hlt : j < l.length := by simpa using h
      have hA : ((mkPs j k).map plA).length = j := by simp [mkPs_len]
      rw [List.drop_eq_getElem_cons hlt, List.map_cons]
      have hfin : ∀ y : Pl, y = mkP (k + 9 * (j : Int)) → (mkPs j k).map plA ++ plA y :: (l.drop (j + 1)).map plA = (mkPs (j + 1) k).map plA ++ (l.drop (j + 1)).map plA := by
        intro y hy
        rw [hy, mkPs_step, List.map_append, List.append_assoc]
        rfl
      generalize hBB : (l.drop (j + 1)).map plA = B at hfin
      generalize hAA : (mkPs j k).map plA = A at hA hfin
      have hat : ∀ y : AV, (A ++ y :: B)[j]? = some y := by
        intro y
        rw [List.getElem?_append_right (by omega), hA, Nat.sub_self]
        rfl
      have hset : ∀ y z : AV, (A ++ y :: B).set j z = A ++ z :: B := by
        intro y z
        rw [List.set_append_right _ _ (by omega), hA, Nat.sub_self]
        rfl
      have hlen : ∀ y : AV, j < (A ++ y :: B).length := by intro y; simp; omega
      obtain ⟨K, hK⟩ : ∃ K : Int, K = k + 9 * (j : Int) := ⟨_, rfl⟩
      rw [← hK] at hfin
      rw [← hK]
      generalize l[j] = x
      have hm : 0 + ((j : Int)).toNat = j := by simp
      have w1 : IntKind.i64.wrap (K + 1) = K + 1 := wrap_i64 (by omega) (by omega)
      have w2 : IntKind.i64.wrap (K + 1 + 1) = K + 2 := by rw [wrap_i64 (by omega) (by omega)]; omega
      have w3 : IntKind.i64.wrap (K + 2 + 1) = K + 3 := by rw [wrap_i64 (by omega) (by omega)]; omega
      have w4 : IntKind.i64.wrap (K + 3 + 1) = K + 4 := by rw [wrap_i64 (by omega) (by omega)]; omega
      have w5 : IntKind.i64.wrap (K + 4 + 1) = K + 5 := by rw [wrap_i64 (by omega) (by omega)]; omega
      have w6 : IntKind.i64.wrap (K + 5 + 1) = K + 6 := by rw [wrap_i64 (by omega) (by omega)]; omega
      have w7 : IntKind.i64.wrap (K + 6 + 1) = K + 7 := by rw [wrap_i64 (by omega) (by omega)]; omega
      have w8 : IntKind.i64.wrap (K + 7 + 1) = K + 8 := by rw [wrap_i64 (by omega) (by omega)]; omega
      have w9 : IntKind.i64.wrap (K + 8 + 1) = K + 9 := by rw [wrap_i64 (by omega) (by omega)]; omega
      repeat (refine Run.go rfl ?_)
      refine Run.val rfl rfl rfl (ValOk.idxv rfl rfl rfl rfl rfl rfl (by omega) (by omega)) rfl ?_
      rw [hm]
      repeat (refine Run.go rfl ?_)
      refine Run.storee (plA x) (plA ⟨IntKind.i16.wrap K, ⟨x.b.cl, x.b.a, x.b.b, x.b.c, x.b.vol, x.b.wd, x.b.hi, x.b.wt⟩⟩) rfl rfl rfl rfl rfl rfl rfl (hat _) rfl rfl rfl ?_
      rw [hset]
      repeat (refine Run.go rfl ?_)
      rw [w1]
      repeat (refine Run.go rfl ?_)
      refine Run.val rfl rfl rfl (ValOk.idxv rfl rfl rfl rfl rfl rfl (by omega) (by omega)) rfl ?_
      rw [hm]
      repeat (refine Run.go rfl ?_)
      refine Run.storee (plA ⟨IntKind.i16.wrap K, ⟨x.b.cl, x.b.a, x.b.b, x.b.c, x.b.vol, x.b.wd, x.b.hi, x.b.wt⟩⟩) (plA ⟨IntKind.i16.wrap K, ⟨IntKind.i16.wrap (K + 1), x.b.a, x.b.b, x.b.c, x.b.vol, x.b.wd, x.b.hi, x.b.wt⟩⟩) rfl rfl rfl rfl rfl rfl rfl (hat _) rfl rfl rfl ?_
      rw [hset]
      repeat (refine Run.go rfl ?_)
      rw [w2]
      repeat (refine Run.go rfl ?_)
      refine Run.loop (fun m : Nat => ⟨[(0, .vec (0, 0) 0 l.length), (1, i64 (K + 2 + (m : Int))), (5, i64 j), (6, i64 m)], [((0, 0), .vec 9 ex (A ++ plA (emP x K m) :: B))]⟩) (fun m => m ≤ 3) (fun m => 3 - m) 0 (by omega) ?_ ?_
      · refine St.Le.mk' ⟨rfl, ?_, rfl, rfl, trivial⟩ ⟨rfl, trivial⟩
        show i64 (K + 2) = i64 (K + 2 + 0)
        rw [Int.add_zero]
      intro m hm3 IH2
      have hm4 : m = 0 ∨ m = 1 ∨ m = 2 ∨ m = 3 := by omega
      rcases hm4 with rfl | rfl | rfl | rfl
      · show Run _ _ _ ⟨[(0, .vec (0, 0) 0 l.length), (1, i64 (K + 2 + 0)), (5, i64 j), (6, i64 0)], [((0, 0), .vec 9 ex (A ++ plA ⟨IntKind.i16.wrap K, ⟨IntKind.i16.wrap (K + 1), x.b.a, x.b.b, x.b.c, x.b.vol, x.b.wd, x.b.hi, x.b.wt⟩⟩ :: B))]⟩
        rw [show K + 2 + (0 : Int) = K + 2 by omega]
        repeat (refine Run.go rfl ?_)
        refine Run.cond rfl (fun h => ?_) (fun h => by simp at h)
        repeat (refine Run.go rfl ?_)
        refine Run.val rfl rfl rfl (ValOk.idxv rfl rfl rfl rfl rfl rfl (by omega) (by omega)) rfl ?_
        rw [hm]
        repeat (refine Run.go rfl ?_)
        refine Run.storee (plA ⟨IntKind.i16.wrap K, ⟨IntKind.i16.wrap (K + 1), x.b.a, x.b.b, x.b.c, x.b.vol, x.b.wd, x.b.hi, x.b.wt⟩⟩) (plA ⟨IntKind.i16.wrap K, ⟨IntKind.i16.wrap (K + 1), IntKind.u8.wrap (K + 2), x.b.b, x.b.c, x.b.vol, x.b.wd, x.b.hi, x.b.wt⟩⟩) rfl rfl rfl rfl rfl rfl rfl (hat _) rfl rfl rfl ?_
        rw [hset]
        repeat (refine Run.go rfl ?_)
        rw [w3]
        refine Run.of (IH2 1 (by omega) (by omega)) ⟨rfl, ?_, rfl, rfl, trivial⟩ ⟨rfl, trivial⟩
        show i64 (K + 3) = i64 (K + 2 + 1)
        exact congrArg i64 (by omega)
      · show Run _ _ _ ⟨[(0, .vec (0, 0) 0 l.length), (1, i64 (K + 2 + 1)), (5, i64 j), (6, i64 1)], [((0, 0), .vec 9 ex (A ++ plA ⟨IntKind.i16.wrap K, ⟨IntKind.i16.wrap (K + 1), IntKind.u8.wrap (K + 2), x.b.b, x.b.c, x.b.vol, x.b.wd, x.b.hi, x.b.wt⟩⟩ :: B))]⟩
        rw [show K + 2 + (1 : Int) = K + 3 by omega]
        repeat (refine Run.go rfl ?_)
        refine Run.cond rfl (fun h => ?_) (fun h => by simp at h)
        repeat (refine Run.go rfl ?_)
        refine Run.val rfl rfl rfl (ValOk.idxv rfl rfl rfl rfl rfl rfl (by omega) (by omega)) rfl ?_
        rw [hm]
        repeat (refine Run.go rfl ?_)
        refine Run.storee (plA ⟨IntKind.i16.wrap K, ⟨IntKind.i16.wrap (K + 1), IntKind.u8.wrap (K + 2), x.b.b, x.b.c, x.b.vol, x.b.wd, x.b.hi, x.b.wt⟩⟩) (plA ⟨IntKind.i16.wrap K, ⟨IntKind.i16.wrap (K + 1), IntKind.u8.wrap (K + 2), IntKind.u8.wrap (K + 3), x.b.c, x.b.vol, x.b.wd, x.b.hi, x.b.wt⟩⟩) rfl rfl rfl rfl rfl rfl rfl (hat _) rfl rfl rfl ?_
        rw [hset]
        repeat (refine Run.go rfl ?_)
        rw [w4]
        refine Run.of (IH2 2 (by omega) (by omega)) ⟨rfl, ?_, rfl, rfl, trivial⟩ ⟨rfl, trivial⟩
        show i64 (K + 4) = i64 (K + 2 + 2)
        exact congrArg i64 (by omega)
      · show Run _ _ _ ⟨[(0, .vec (0, 0) 0 l.length), (1, i64 (K + 2 + 2)), (5, i64 j), (6, i64 2)], [((0, 0), .vec 9 ex (A ++ plA ⟨IntKind.i16.wrap K, ⟨IntKind.i16.wrap (K + 1), IntKind.u8.wrap (K + 2), IntKind.u8.wrap (K + 3), x.b.c, x.b.vol, x.b.wd, x.b.hi, x.b.wt⟩⟩ :: B))]⟩
        rw [show K + 2 + (2 : Int) = K + 4 by omega]
        repeat (refine Run.go rfl ?_)
        refine Run.cond rfl (fun h => ?_) (fun h => by simp at h)
        repeat (refine Run.go rfl ?_)
        refine Run.val rfl rfl rfl (ValOk.idxv rfl rfl rfl rfl rfl rfl (by omega) (by omega)) rfl ?_
        rw [hm]
        repeat (refine Run.go rfl ?_)
        refine Run.storee (plA ⟨IntKind.i16.wrap K, ⟨IntKind.i16.wrap (K + 1), IntKind.u8.wrap (K + 2), IntKind.u8.wrap (K + 3), x.b.c, x.b.vol, x.b.wd, x.b.hi, x.b.wt⟩⟩) (plA ⟨IntKind.i16.wrap K, ⟨IntKind.i16.wrap (K + 1), IntKind.u8.wrap (K + 2), IntKind.u8.wrap (K + 3), IntKind.u8.wrap (K + 4), x.b.vol, x.b.wd, x.b.hi, x.b.wt⟩⟩) rfl rfl rfl rfl rfl rfl rfl (hat _) rfl rfl rfl ?_
        rw [hset]
        repeat (refine Run.go rfl ?_)
        rw [w5]
        refine Run.of (IH2 3 (by omega) (by omega)) ⟨rfl, ?_, rfl, rfl, trivial⟩ ⟨rfl, trivial⟩
        show i64 (K + 5) = i64 (K + 2 + 3)
        exact congrArg i64 (by omega)
      · show Run _ _ _ ⟨[(0, .vec (0, 0) 0 l.length), (1, i64 (K + 2 + 3)), (5, i64 j), (6, i64 3)], [((0, 0), .vec 9 ex (A ++ plA ⟨IntKind.i16.wrap K, ⟨IntKind.i16.wrap (K + 1), IntKind.u8.wrap (K + 2), IntKind.u8.wrap (K + 3), IntKind.u8.wrap (K + 4), x.b.vol, x.b.wd, x.b.hi, x.b.wt⟩⟩ :: B))]⟩
        rw [show K + 2 + (3 : Int) = K + 5 by omega]
        repeat (refine Run.go rfl ?_)
        refine Run.cond rfl (fun h => by simp at h) (fun h => ?_)
        repeat (refine Run.go rfl ?_)
        refine Run.val rfl rfl rfl (ValOk.idxv rfl rfl rfl rfl rfl rfl (by omega) (by omega)) rfl ?_
        rw [hm]
        repeat (refine Run.go rfl ?_)
        refine Run.storee (plA ⟨IntKind.i16.wrap K, ⟨IntKind.i16.wrap (K + 1), IntKind.u8.wrap (K + 2), IntKind.u8.wrap (K + 3), IntKind.u8.wrap (K + 4), x.b.vol, x.b.wd, x.b.hi, x.b.wt⟩⟩) (plA ⟨IntKind.i16.wrap K, ⟨IntKind.i16.wrap (K + 1), IntKind.u8.wrap (K + 2), IntKind.u8.wrap (K + 3), IntKind.u8.wrap (K + 4), IntKind.i16.wrap (K + 5), x.b.wd, x.b.hi, x.b.wt⟩⟩) rfl rfl rfl rfl rfl rfl rfl (hat _) rfl rfl rfl ?_
        rw [hset]
        repeat (refine Run.go rfl ?_)
        rw [w6]
        repeat (refine Run.go rfl ?_)
        refine Run.val rfl rfl rfl (ValOk.idxv rfl rfl rfl rfl rfl rfl (by omega) (by omega)) rfl ?_
        rw [hm]
        repeat (refine Run.go rfl ?_)
        refine Run.storee (plA ⟨IntKind.i16.wrap K, ⟨IntKind.i16.wrap (K + 1), IntKind.u8.wrap (K + 2), IntKind.u8.wrap (K + 3), IntKind.u8.wrap (K + 4), IntKind.i16.wrap (K + 5), x.b.wd, x.b.hi, x.b.wt⟩⟩) (plA ⟨IntKind.i16.wrap K, ⟨IntKind.i16.wrap (K + 1), IntKind.u8.wrap (K + 2), IntKind.u8.wrap (K + 3), IntKind.u8.wrap (K + 4), IntKind.i16.wrap (K + 5), IntKind.i16.wrap (K + 6), x.b.hi, x.b.wt⟩⟩) rfl rfl rfl rfl rfl rfl rfl (hat _) rfl rfl rfl ?_
        rw [hset]
        repeat (refine Run.go rfl ?_)
        rw [w7]
        repeat (refine Run.go rfl ?_)
        refine Run.val rfl rfl rfl (ValOk.idxv rfl rfl rfl rfl rfl rfl (by omega) (by omega)) rfl ?_
        rw [hm]
        repeat (refine Run.go rfl ?_)
        refine Run.storee (plA ⟨IntKind.i16.wrap K, ⟨IntKind.i16.wrap (K + 1), IntKind.u8.wrap (K + 2), IntKind.u8.wrap (K + 3), IntKind.u8.wrap (K + 4), IntKind.i16.wrap (K + 5), IntKind.i16.wrap (K + 6), x.b.hi, x.b.wt⟩⟩) (plA ⟨IntKind.i16.wrap K, ⟨IntKind.i16.wrap (K + 1), IntKind.u8.wrap (K + 2), IntKind.u8.wrap (K + 3), IntKind.u8.wrap (K + 4), IntKind.i16.wrap (K + 5), IntKind.i16.wrap (K + 6), IntKind.i16.wrap (K + 7), x.b.wt⟩⟩) rfl rfl rfl rfl rfl rfl rfl (hat _) rfl rfl rfl ?_
        rw [hset]
        repeat (refine Run.go rfl ?_)
        rw [w8]
        repeat (refine Run.go rfl ?_)
        refine Run.val rfl rfl rfl (ValOk.idxv rfl rfl rfl rfl rfl rfl (by omega) (by omega)) rfl ?_
        rw [hm]
        repeat (refine Run.go rfl ?_)
        refine Run.storee (plA ⟨IntKind.i16.wrap K, ⟨IntKind.i16.wrap (K + 1), IntKind.u8.wrap (K + 2), IntKind.u8.wrap (K + 3), IntKind.u8.wrap (K + 4), IntKind.i16.wrap (K + 5), IntKind.i16.wrap (K + 6), IntKind.i16.wrap (K + 7), x.b.wt⟩⟩) (plA ⟨IntKind.i16.wrap K, ⟨IntKind.i16.wrap (K + 1), IntKind.u8.wrap (K + 2), IntKind.u8.wrap (K + 3), IntKind.u8.wrap (K + 4), IntKind.i16.wrap (K + 5), IntKind.i16.wrap (K + 6), IntKind.i16.wrap (K + 7), IntKind.i16.wrap (K + 8)⟩⟩) rfl rfl rfl rfl rfl rfl rfl (hat _) rfl rfl rfl ?_
        rw [hset]
        repeat (refine Run.go rfl ?_)
        rw [w9]
        repeat (refine Run.go rfl ?_)
        refine Run.of (IH (j + 1) (by omega) (by omega)) ⟨rfl, ?_, ?_, trivial⟩ ⟨?_, trivial⟩
        · show i64 (K + 9) = _
          exact congrArg i64 (by rw [hK]; omega)
        · show i64 _ = _
          rw [wrap_i64 (by omega) (by omega)]
          rfl
        · rw [hBB]
          exact congrArg (Ob.vec 9 ex) (hfin _ rfl)
    · have hj' : j = l.length := by simp at h; omega
      subst hj'
      repeat (refine Run.go rfl ?_)
      refine Run.pack 0 rfl rfl (by simp [mkPs]) ?_
      refine Run.reto hg rfl rfl rfl ?_ rfl rfl
      show AV.own _ _ _ = _
      simp

noncomputable def X7 : Fx := ⟨Tryz.prog, tys, 7, Tryz.f7, [0]⟩
theorem X7_ok : X7.Ok := ⟨Tryz.func7, tys_ok⟩
theorem markRack_ct (r : Rk) (k : Int) (ex : Bool) (hb : r.bs.length ≤ 1048576) (hk : 0 ≤ k ∧ k ≤ 1099511627776) :
    Ct Tryz.prog 7 [rkO ex r, i64 k] (i64 (k + 9 * (r.bs.length : Nat))) [rkO ex (mkR r k)] := by
  refine Ct.intro X7 X7_ok rfl rfl rfl rfl fun g hg => ?_
  refine Run.unagg 0 1 (0, 1) rfl rfl rfl ?_
  repeat (refine Run.go rfl ?_)
  refine Run.callo (0, 1) none rfl rfl rfl rfl rfl rfl rfl rfl rfl rfl (markPlacedS_ct r.bs k ex hb hk) rfl (rfP _) rfl ?_
  repeat (refine Run.go rfl ?_)
  refine Run.packAgg 0 1 rfl rfl rfl (by simp [mkPs_len]) ?_
  exact Run.reto hg rfl rfl rfl rfl rfl rfl

noncomputable def X22 : Fx := ⟨Tryz.prog, tys, 22, Tryz.f22, [0]⟩
theorem X22_ok : X22.Ok := ⟨Tryz.func22, tys_ok⟩
theorem heldPlacedS_ct (n : Nat) (k : Int) (ex : Bool) (hb : n ≤ 1048576) (hk : 0 ≤ k ∧ k ≤ 1099511627776) : Ct Tryz.prog 22 [.ro 9 ex ((mkPs n k).map plA), i64 k] (i64 (k + 9 * (n : Nat))) [] := by
  have hn := mkPs_len n k
  refine Ct.intro X22 X22_ok rfl (by kernel_rfl) rfl rfl fun g hg => ?_
  repeat (refine Run.go rfl ?_)
  refine Run.loop (fun j : Nat => ⟨[(0, .ro 9 ex ((mkPs n k).map plA)), (1, i64 (k + 9 * (j : Int))), (5, i64 j)], []⟩) (fun j => j ≤ n) (fun j => n - j) 0 (by omega) ?_ ?_
  · refine St.Le.mk' ⟨rfl, ?_, rfl, trivial⟩ trivial
    show i64 k = _
    simp
  · intro j hj IH
    repeat (refine Run.go rfl ?_)
    refine Run.cond rfl (fun h => ?_) (fun h => ?_)
    · have hlt : j < n := by simp [hn] at h; omega
      obtain ⟨K, hK⟩ : ∃ K : Int, K = k + 9 * (j : Int) := ⟨_, rfl⟩
      have hat : ((mkPs n k).map plA)[((j : Int)).toNat]? = some (plA (mkP K)) := by
        rw [Int.toNat_natCast, List.getElem?_map, mkPs_get hlt, ← hK]
        rfl
      rw [← hK]
      have w1 : IntKind.i64.wrap (K + 1) = K + 1 := wrap_i64 (by omega) (by omega)
      have w2 : IntKind.i64.wrap (K + 1 + 1) = K + 2 := by rw [wrap_i64 (by omega) (by omega)]; omega
      have w3 : IntKind.i64.wrap (K + 2 + 1) = K + 3 := by rw [wrap_i64 (by omega) (by omega)]; omega
      have w4 : IntKind.i64.wrap (K + 3 + 1) = K + 4 := by rw [wrap_i64 (by omega) (by omega)]; omega
      have w5 : IntKind.i64.wrap (K + 4 + 1) = K + 5 := by rw [wrap_i64 (by omega) (by omega)]; omega
      have w6 : IntKind.i64.wrap (K + 5 + 1) = K + 6 := by rw [wrap_i64 (by omega) (by omega)]; omega
      have w7 : IntKind.i64.wrap (K + 6 + 1) = K + 7 := by rw [wrap_i64 (by omega) (by omega)]; omega
      have w8 : IntKind.i64.wrap (K + 7 + 1) = K + 8 := by rw [wrap_i64 (by omega) (by omega)]; omega
      have w9 : IntKind.i64.wrap (K + 8 + 1) = K + 9 := by rw [wrap_i64 (by omega) (by omega)]; omega
      repeat (refine Run.go rfl ?_)
      refine Run.val rfl rfl rfl (ValOk.idx _ rfl rfl rfl rfl rfl (by omega) hat) rfl ?_
      repeat (refine Run.go rfl ?_)
      refine Run.cond rfl (fun h2 => by simp [mkP] at h2) (fun h2 => ?_)
      repeat (refine Run.go rfl ?_)
      rw [w1]
      repeat (refine Run.go rfl ?_)
      refine Run.val rfl rfl rfl (ValOk.idx _ rfl rfl rfl rfl rfl (by omega) hat) rfl ?_
      repeat (refine Run.go rfl ?_)
      refine Run.cond rfl (fun h2 => by simp [mkP] at h2) (fun h2 => ?_)
      repeat (refine Run.go rfl ?_)
      rw [w2]
      repeat (refine Run.go rfl ?_)
      refine Run.loop (fun m : Nat => ⟨[(0, .ro 9 ex ((mkPs n k).map plA)), (1, i64 (K + 2 + (m : Int))), (5, i64 j), (6, i64 m)], []⟩) (fun m => m ≤ 3) (fun m => 3 - m) 0 (by omega) ?_ ?_
      · refine St.Le.mk' ⟨rfl, ?_, rfl, rfl, trivial⟩ trivial
        show i64 (K + 2) = i64 (K + 2 + 0)
        rw [Int.add_zero]
      intro m hm3 IH2
      have hm4 : m = 0 ∨ m = 1 ∨ m = 2 ∨ m = 3 := by omega
      rcases hm4 with rfl | rfl | rfl | rfl
      · show Run _ _ _ ⟨[(0, .ro 9 ex ((mkPs n k).map plA)), (1, i64 (K + 2 + 0)), (5, i64 j), (6, i64 0)], []⟩
        rw [show K + 2 + (0 : Int) = K + 2 by omega]
        repeat (refine Run.go rfl ?_)
        refine Run.cond rfl (fun h => ?_) (fun h => by simp at h)
        repeat (refine Run.go rfl ?_)
        refine Run.val rfl rfl rfl (ValOk.idx _ rfl rfl rfl rfl rfl (by omega) hat) rfl ?_
        repeat (refine Run.go rfl ?_)
        refine Run.cond rfl (fun h2 => by simp [mkP] at h2) (fun h2 => ?_)
        repeat (refine Run.go rfl ?_)
        rw [w3]
        refine Run.of (IH2 1 (by omega) (by omega)) ⟨rfl, ?_, rfl, rfl, trivial⟩ trivial
        show i64 (K + 3) = i64 (K + 2 + 1)
        exact congrArg i64 (by omega)
      · show Run _ _ _ ⟨[(0, .ro 9 ex ((mkPs n k).map plA)), (1, i64 (K + 2 + 1)), (5, i64 j), (6, i64 1)], []⟩
        rw [show K + 2 + (1 : Int) = K + 3 by omega]
        repeat (refine Run.go rfl ?_)
        refine Run.cond rfl (fun h => ?_) (fun h => by simp at h)
        repeat (refine Run.go rfl ?_)
        refine Run.val rfl rfl rfl (ValOk.idx _ rfl rfl rfl rfl rfl (by omega) hat) rfl ?_
        repeat (refine Run.go rfl ?_)
        refine Run.cond rfl (fun h2 => by simp [mkP] at h2) (fun h2 => ?_)
        repeat (refine Run.go rfl ?_)
        rw [w4]
        refine Run.of (IH2 2 (by omega) (by omega)) ⟨rfl, ?_, rfl, rfl, trivial⟩ trivial
        show i64 (K + 4) = i64 (K + 2 + 2)
        exact congrArg i64 (by omega)
      · show Run _ _ _ ⟨[(0, .ro 9 ex ((mkPs n k).map plA)), (1, i64 (K + 2 + 2)), (5, i64 j), (6, i64 2)], []⟩
        rw [show K + 2 + (2 : Int) = K + 4 by omega]
        repeat (refine Run.go rfl ?_)
        refine Run.cond rfl (fun h => ?_) (fun h => by simp at h)
        repeat (refine Run.go rfl ?_)
        refine Run.val rfl rfl rfl (ValOk.idx _ rfl rfl rfl rfl rfl (by omega) hat) rfl ?_
        repeat (refine Run.go rfl ?_)
        refine Run.cond rfl (fun h2 => by simp [mkP] at h2) (fun h2 => ?_)
        repeat (refine Run.go rfl ?_)
        rw [w5]
        refine Run.of (IH2 3 (by omega) (by omega)) ⟨rfl, ?_, rfl, rfl, trivial⟩ trivial
        show i64 (K + 5) = i64 (K + 2 + 3)
        exact congrArg i64 (by omega)
      · show Run _ _ _ ⟨[(0, .ro 9 ex ((mkPs n k).map plA)), (1, i64 (K + 2 + 3)), (5, i64 j), (6, i64 3)], []⟩
        rw [show K + 2 + (3 : Int) = K + 5 by omega]
        repeat (refine Run.go rfl ?_)
        refine Run.cond rfl (fun h => by simp at h) (fun h => ?_)
        repeat (refine Run.go rfl ?_)
        refine Run.val rfl rfl rfl (ValOk.idx _ rfl rfl rfl rfl rfl (by omega) hat) rfl ?_
        repeat (refine Run.go rfl ?_)
        refine Run.cond rfl (fun h2 => by simp [mkP] at h2) (fun h2 => ?_)
        repeat (refine Run.go rfl ?_)
        rw [w6]
        repeat (refine Run.go rfl ?_)
        refine Run.val rfl rfl rfl (ValOk.idx _ rfl rfl rfl rfl rfl (by omega) hat) rfl ?_
        repeat (refine Run.go rfl ?_)
        refine Run.cond rfl (fun h2 => by simp [mkP] at h2) (fun h2 => ?_)
        repeat (refine Run.go rfl ?_)
        rw [w7]
        repeat (refine Run.go rfl ?_)
        refine Run.val rfl rfl rfl (ValOk.idx _ rfl rfl rfl rfl rfl (by omega) hat) rfl ?_
        repeat (refine Run.go rfl ?_)
        refine Run.cond rfl (fun h2 => by simp [mkP] at h2) (fun h2 => ?_)
        repeat (refine Run.go rfl ?_)
        rw [w8]
        repeat (refine Run.go rfl ?_)
        refine Run.val rfl rfl rfl (ValOk.idx _ rfl rfl rfl rfl rfl (by omega) hat) rfl ?_
        repeat (refine Run.go rfl ?_)
        refine Run.cond rfl (fun h2 => by simp [mkP] at h2) (fun h2 => ?_)
        repeat (refine Run.go rfl ?_)
        rw [w9]
        repeat (refine Run.go rfl ?_)
        refine Run.of (IH (j + 1) (by omega) (by omega)) ⟨rfl, ?_, ?_, trivial⟩ trivial
        · show i64 (K + 9) = _
          exact congrArg i64 (by rw [hK]; omega)
        · show i64 _ = _
          rw [wrap_i64 (by omega) (by omega)]
          rfl
    · have hj' : j = n := by simp [hn] at h; omega
      subst hj'
      repeat (refine Run.go rfl ?_)
      exact Run.ret hg rfl rfl

noncomputable def X8 : Fx := ⟨Tryz.prog, tys, 8, Tryz.f8, [0]⟩
theorem X8_ok : X8.Ok := ⟨Tryz.func8, tys_ok⟩
theorem heldRack_ct (r : Rk) (k : Int) (ex : Bool) (hb : r.bs.length ≤ 1048576) (hk : 0 ≤ k ∧ k ≤ 1099511627776) : Ct Tryz.prog 8 [rkR ex (mkR r k), i64 k] (i64 (k + 9 * (r.bs.length : Nat))) [] := by
  refine Ct.intro X8 X8_ok rfl rfl rfl rfl fun g hg => ?_
  repeat (refine Run.go rfl ?_)
  refine Run.cs rfl (heldPlacedS_ct r.bs.length k ex hb hk) rfl rfl ?_
  repeat (refine Run.go rfl ?_)
  refine Run.cond rfl (fun h2 => by simp at h2; omega) (fun h2 => ?_)
  repeat (refine Run.go rfl ?_)
  exact Run.ret hg rfl rfl
end Go.Proofs.YtmeejegdgfkogaaGreatDoor
