/- Contracts of the program's functions, and what follows from them. -/
import Derived.Test.YtlaabifehcfllaaGreatK11
import Derived.Test.YtlaabifehcfllaaGreatLAddAll
import Derived.Test.YtlaabifehcfllaaGreatMD
set_option linter.unusedVariables false
set_option maxRecDepth 100000
set_option linter.unusedSimpArgs false
namespace Go.Proofs.YtlaabifehcfllaaGreat
open Go Go.Av

theorem gyA'_rf (x : Rk × List Int × Int) : (gyA' x).rf = true := by simp only [gyA', AV.rf, AV.rfL, rk_rf, rf64]; rfl
theorem gl_len (n most : Int) (l : List Pl) (b : Bk) : (gl n most l b).length = l.length := by
  unfold gl
  split
  · rw [sp_len, pbs_len]
  · rfl
theorem gy1_len {n most : Int} : ∀ {y : List Bk} {l l' : List Pl} {s s' : Nat}, (l.length : Int) ≤ n → gy1 n most y l s = some (l', s') → (l'.length : Int) ≤ n
  | [], l, l', s, s', h, he => by
    simp only [gy1, Option.some.injEq, Prod.mk.injEq] at he
    rw [← he.1]; exact h
  | b :: r, l, l', s, s', h, he => by
    rw [gy1] at he
    split at he
    · cases he
    · refine gy1_len ?_ he
      rw [adL_len, gl_len]
      omega
theorem gyA_len {n most : Int} : ∀ {ys : List (List Bk)} {l l' : List Pl} {ms ms' : List Int}, (l.length : Int) ≤ n → gyA n most ys l ms = some (l', ms') → (l'.length : Int) ≤ n ∧ ms'.length = ms.length + ys.length
  | [], l, l', ms, ms', h, he => by
    simp only [gyA, Option.some.injEq, Prod.mk.injEq] at he
    rw [← he.1, ← he.2]; exact ⟨h, by simp⟩
  | y :: r, l, l', ms, ms', h, he => by
    rw [gyA] at he
    split at he
    · cases he
    · rename_i l1 s1 e1
      have := gyA_len (gy1_len h e1) he
      rw [List.length_append] at this
      simp only [List.length_cons, List.length_nil] at this ⊢
      exact ⟨this.1, by omega⟩
theorem gyRes_len (r : Rk) (ys : List (List Bk)) (most : Int) (hr : rkOk r) : (gyRes r ys most).1.bs.length ≤ 60 ∧ (gyRes r ys most).2.1.length ≤ 20 := by
  unfold gyRes
  split
  · rename_i hv
    split
    · rename_i hy
      have hV := (vR_VR hr.2).1 hv.1
      have h1 := hV.len
      have h2 := hV.hn
      split
      · simp [rk0]
      · rename_i l ms e
        have := gyA_len h1 e
        simp only [List.length_nil, Nat.zero_add] at this
        have h20 := hy.1
        exact ⟨by show l.length ≤ 60; omega, by show ms.length ≤ 20; omega⟩
    · simp [rk0]
  · simp [rk0]
theorem szBs_cnt : ∀ {ys : List (List Bk)} {n : Int}, 0 ≤ n → 0 ≤ szBs ys n → (cntB ys : Int) ≤ n
  | [], n, h, _ => by simpa [cntB] using h
  | y :: ys, n, h, hs => by
    rw [szBs] at hs
    split at hs
    · omega
    · rename_i h2
      have := szBs_cnt (by omega) hs
      rw [cntB_cons]
      unfold szB at h2 this
      split at h2 <;> split at this <;> omega

def bssOk (l : List (List Bk)) : Prop := l.length ≤ 1048576 ∧ ∀ x ∈ l, bksOk x

theorem rdBss : Rd Tryz.prog 1048576 26 1 (fun l : List (List Bk) => .ro 1 false (l.map fun l => .ro 8 false (l.map bkA))) bssOk :=
  .slice Tryz.underlying26 (by kernel_rfl) (by decide) rdBks

noncomputable def X3 : Fx := ⟨Tryz.prog, tys, 3, Tryz.f3, [1, 2]⟩
theorem X3_ok : X3.Ok := ⟨Tryz.func3, tys_ok⟩
theorem lawGrowYears_ct (r : Rk) (ys : List (List Bk)) (most : Int) (hr : rkOk r) (hy : bssOk ys) : Ct Tryz.prog 3 [rkR false r, .ro 1 false (ys.map (blA false)), i64 most] (bo true) [] := by
  have hyl : ∀ y ∈ ys, y.length ≤ 1048576 ∧ ∀ x ∈ y, bkRng x := fun y h => hy.2 y h
  have hyq : ∀ y ∈ ys, y.length ≤ 1048576 := fun y h => (hy.2 y h).1
  have hS := specGrowYears_ct r true true true ys most hr hy.1 hyl
  have hI := implGrowYears_ct r true true true ys most hr hy.1 hyl
  have hl := hr.1.2
  obtain ⟨hL1, hM1⟩ := gyRes_len r ys most hr
  generalize gyRes r ys most = R at hS hI hL1 hM1
  obtain ⟨Q, M, c⟩ := R
  simp only at hL1 hM1
  have hL : Q.bs.length ≤ 1048576 := by omega
  have hM : M.length ≤ 1048576 := by omega
  refine Ct.intro X3 X3_ok rfl (by kernel_rfl) rfl rfl fun g hg => ?_
  repeat (refine Run.go rfl ?_)
  refine Run.cs rfl (szRack_ct r false 1048576 (by omega) (by omega) hl) rfl rfl ?_
  repeat (refine Run.go rfl ?_)
  refine Run.cond rfl (fun h => ?_) (fun hsz => ?_)
  · repeat (refine Run.go rfl ?_)
    exact Run.ret hg rfl rfl
  have hs1 : 0 ≤ szR r 1048576 ∧ szR r 1048576 ≤ 1048576 := by
    have : ¬ szR r 1048576 < 0 := by simpa using hsz
    refine ⟨by omega, ?_⟩
    unfold szR
    split <;> omega
  repeat (refine Run.go rfl ?_)
  refine Run.cs rfl (szBookSS_ct ys false false (szR r 1048576) (by omega) (by omega) hy.1 hyq) rfl rfl ?_
  repeat (refine Run.go rfl ?_)
  refine Run.cond rfl (fun h => ?_) (fun hsb => ?_)
  · repeat (refine Run.go rfl ?_)
    exact Run.ret hg rfl rfl
  have hcn : cntB ys ≤ 1048576 := by
    have h2 : ¬ szBB ys (szR r 1048576) < 0 := by simpa using hsb
    unfold szBB at h2
    split at h2
    · omega
    · have := szBs_cnt (by omega) (by omega : 0 ≤ szBs ys (szR r 1048576 - ys.length))
      omega
  repeat (refine Run.go rfl ?_)
  refine Run.cs rfl (toRack_ct r false hl) rfl (rk_rf _ _) ?_
  repeat (refine Run.go rfl ?_)
  refine Run.cs rfl (toBookSS_ct ys false false hy.1 hyq) rfl (rfL_map blO_rf _) ?_
  repeat (refine Run.go rfl ?_)
  refine Run.cs rfl hS (by rw [frzP, frzBL]; rfl) (gyA'_rf _) ?_
  repeat (refine Run.go rfl ?_)
  refine Run.freeze (v' := rkR false Q) 39 rfl rfl (rk_frz _ _) ?_
  refine Run.freeze (v' := .ro 1 false (M.map i64)) 40 rfl rfl (by show AV.ro _ _ (AV.frzL _) = _; rw [frz64]) ?_
  repeat (refine Run.go rfl ?_)
  refine Run.cs rfl (toRack_ct r false hl) rfl (rk_rf _ _) ?_
  refine Run.unagg 43 1 (43, 1) rfl rfl rfl ?_
  repeat (refine Run.go rfl ?_)
  refine Run.cs rfl (toBookSS_ct ys false false hy.1 hyq) rfl (rfL_map blO_rf _) ?_
  refine Run.unpack 45 rfl rfl ?_
  repeat (refine Run.go rfl ?_)
  refine Run.cs rfl hI (by rw [frzP, frzBL, decide_eq_true rfl, decide_eq_true rfl]; rfl) (gyA'_rf _) ?_
  repeat (refine Run.go rfl ?_)
  refine Run.unagg 51 1 (51, 1) rfl rfl rfl ?_
  refine Run.unpack 52 rfl rfl ?_
  repeat (refine Run.go rfl ?_)
  refine Run.cs rfl (eqRack_ct Q Q false false hL) (by rw [frzP, decide_eq_true rfl]; rfl) rfl ?_
  repeat (refine Run.go rfl ?_)
  refine Run.bool 58 rfl (fun h => by simp at h) (fun h => ?_)
  repeat (refine Run.go rfl ?_)
  refine Run.cs rfl (eqInt64S_ct M M false false hM) (by rw [frz64, decide_eq_true rfl]; rfl) rfl ?_
  repeat (refine Run.go rfl ?_)
  refine Run.bool 64 rfl (fun h => by simp at h) (fun h => ?_)
  repeat (refine Run.go rfl ?_)
  refine Run.cond rfl (fun h => by simp at h) (fun h => ?_)
  repeat (refine Run.go rfl ?_)
  refine Run.drawn [[0, 1, 2, 3, 4], [1, 0, 2, 3, 4], [1, 2, 0, 3, 4]] ⟨[(1, .ro 1 false (ys.map (blA false))), (2, i64 most), (3, .bp (3, 0) 0), (8, .bp (8, 0) 0), (9, .ro 1 false (M.map i64)), (10, i64 c), (11, .bp (11, 0) 0), (12, .vec (45, 0) 0 (ys.map blO).length), (13, .bp (13, 0) 0), (14, .vec (52, 0) 0 (M.map i64).length), (15, i64 c), (73, bo (!decide (r = r)))],
    [((3, 0), .box (rkR false r).cells), ((8, 0), .box (rkR false Q).cells), ((11, 0), .box [i16 r.pl, .vec (43, 1) 0 (r.bs.map plA).length]), ((43, 1), .vec 9 true (r.bs.map plA)), ((45, 0), .vec 1 true (ys.map blO)), ((13, 0), .box [i16 Q.pl, .vec (51, 1) 0 (Q.bs.map plA).length]), ((51, 1), .vec 9 false (Q.bs.map plA)), ((52, 0), .vec 1 false (M.map i64))]⟩ (by decide +kernel) (by kernel_rfl) ?_ fun _ hN => ⟨?_, ?_, ?_, trivial⟩
  rotate_left
  iterate 3
    · repeat (refine Run.go rfl ?_)
      refine Run.cs rfl (toRack_ct r false hl) rfl (rk_rf _ _) ?_
      repeat (refine Run.go rfl ?_)
      refine Run.cs rfl (eqRack_ct r r true true hl) (by rw [frzP, decide_eq_true rfl]; rfl) rfl ?_
      repeat (refine Run.go rfl ?_)
      exact Run.of hN ⟨rfl, rfl, rfl, rfl, rfl, rfl, rfl, rfl, rfl, rfl, rfl, rfl, trivial⟩ ⟨rfl, rfl, rfl, rfl, rfl, rfl, rfl, rfl, trivial⟩
  refine Run.cond rfl (fun h => by simp at h) (fun h => ?_)
  repeat (refine Run.go rfl ?_)
  refine Run.cs rfl (toBookSS_ct ys false false hy.1 hyq) rfl (rfL_map blO_rf _) ?_
  repeat (refine Run.go rfl ?_)
  refine Run.cs rfl (eqBookSS_ct ys ys true true true true hy.1 hyq) (by rw [frzBL, decide_eq_true rfl]; rfl) rfl ?_
  repeat (refine Run.go rfl ?_)
  refine Run.cond rfl (fun h => by simp at h) (fun h => ?_)
  repeat (refine Run.go rfl ?_)
  refine Run.callo (43, 1) (some 1) rfl rfl rfl rfl rfl rfl rfl rfl rfl rfl (markRack_ct r 1 true hl (by omega)) rfl (rfP _) rfl ?_
  repeat (refine Run.go rfl ?_)
  refine Run.callo (45, 0) none rfl rfl rfl rfl rfl rfl rfl rfl rfl rfl (markBookSS_ct ys (1 + 9 * (r.bs.length : Nat)) hy.1 hyq (by omega) (by omega)) rfl (rfL_map blO_rf _) rfl ?_
  repeat (refine Run.go rfl ?_)
  refine Run.bool 87 rfl (fun h => by simp at h; omega) (fun h => ?_)
  repeat (refine Run.go rfl ?_)
  refine Run.cs rfl (eqRack_ct Q Q false false hL) (by rw [frzP, decide_eq_true rfl]; rfl) rfl ?_
  repeat (refine Run.go rfl ?_)
  refine Run.bool 93 rfl (fun h => by simp at h) (fun h => ?_)
  repeat (refine Run.go rfl ?_)
  refine Run.cs rfl (eqInt64S_ct M M false false hM) (by rw [frz64, decide_eq_true rfl]; rfl) rfl ?_
  repeat (refine Run.go rfl ?_)
  refine Run.bool 99 rfl (fun h => by simp at h) (fun h => ?_)
  repeat (refine Run.go rfl ?_)
  refine Run.cond rfl (fun h => by simp at h) (fun h => ?_)
  repeat (refine Run.go rfl ?_)
  refine Run.callo (51, 1) (some 1) rfl rfl rfl rfl rfl rfl rfl rfl rfl rfl (markRack_ct Q 1 false hL (by omega)) rfl (rfP _) rfl ?_
  repeat (refine Run.go rfl ?_)
  refine Run.callo (52, 0) none rfl rfl rfl rfl rfl rfl rfl rfl rfl rfl (markInt64S_ct M (1 + 9 * (Q.bs.length : Nat)) false hM (by omega)) rfl (rf64 _) rfl ?_
  repeat (refine Run.go rfl ?_)
  refine Run.cs rfl (heldRack_ct Q 1 false hL (by omega)) (by rw [frzP, decide_eq_true (by simp [mkR, mkPs])]; rfl) rfl ?_
  repeat (refine Run.go rfl ?_)
  refine Run.cond rfl (fun h => by simp at h; omega) (fun h => ?_)
  repeat (refine Run.go rfl ?_)
  refine Run.cs rfl (heldInt64S_ct M.length (1 + 9 * (Q.bs.length : Nat)) false hM (by omega)) (by rw [frz64, decide_eq_true (by simp [mk64])]; rfl) rfl ?_
  repeat (refine Run.go rfl ?_)
  refine Run.cond rfl (fun h => by simp at h; omega) (fun h => ?_)
  repeat (refine Run.go rfl ?_)
  refine Run.cond rfl (fun h => by simp at h) (fun h => ?_)
  repeat (refine Run.go rfl ?_)
  refine Run.cs rfl (toRack_ct r false hl) rfl (rk_rf _ _) ?_
  repeat (refine Run.go rfl ?_)
  refine Run.cs rfl (toBookSS_ct ys false false hy.1 hyq) rfl (rfL_map blO_rf _) ?_
  repeat (refine Run.go rfl ?_)
  refine Run.cs rfl hI (by rw [frzP, frzBL]; rfl) (gyA'_rf _) ?_
  repeat (refine Run.go rfl ?_)
  refine Run.freeze (v' := rkR false Q) 130 rfl rfl (rk_frz _ _) ?_
  refine Run.freeze (v' := .ro 1 false (M.map i64)) 131 rfl rfl (by show AV.ro _ _ (AV.frzL _) = _; rw [frz64]) ?_
  repeat (refine Run.go rfl ?_)
  refine Run.cs rfl (eqRack_ct Q Q false false hL) rfl rfl ?_
  repeat (refine Run.go rfl ?_)
  refine Run.bool 137 rfl (fun h => by simp at h) (fun h => ?_)
  repeat (refine Run.go rfl ?_)
  refine Run.cs rfl (eqInt64S_ct M M false false hM) rfl rfl ?_
  repeat (refine Run.go rfl ?_)
  refine Run.bool 143 rfl (fun h => by simp at h) (fun h => ?_)
  repeat (refine Run.go rfl ?_)
  refine Run.cond rfl (fun h => by simp at h) (fun h => ?_)
  repeat (refine Run.go rfl ?_)
  refine Run.cs rfl (heldRack_ct Q 1 false hL (by omega)) (by rw [frzP, decide_eq_true (by simp [mkR, mkPs])]; rfl) rfl ?_
  repeat (refine Run.go rfl ?_)
  refine Run.cond rfl (fun h => by simp at h; omega) (fun h => ?_)
  repeat (refine Run.go rfl ?_)
  refine Run.cs rfl (heldInt64S_ct M.length (1 + 9 * (Q.bs.length : Nat)) false hM (by omega)) (by rw [frz64, decide_eq_true (by simp [mk64])]; rfl) rfl ?_
  repeat (refine Run.go rfl ?_)
  refine Run.cond rfl (fun h => by simp at h; omega) (fun h => ?_)
  repeat (refine Run.go rfl ?_)
  refine Run.cond rfl (fun h => by simp at h) (fun h => ?_)
  repeat (refine Run.go rfl ?_)
  exact Run.ret hg rfl rfl
end Go.Proofs.YtlaabifehcfllaaGreat
