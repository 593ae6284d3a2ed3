/- Contracts of the program's functions, and what follows from them. -/
import Derived.Test.YtlaabifehcfllaaGreatK10
import Derived.Test.YtlaabifehcfllaaGreatMF
import Derived.Test.YtlaabifehcfllaaGreatKRd
import Derived.Test.YtlaabifehcfllaaGreatMC
set_option linter.unusedVariables false
set_option maxRecDepth 100000
set_option linter.unusedSimpArgs false
namespace Go.Proofs.YtlaabifehcfllaaGreat
open Go Go.Av

/-! Lists of lists of books. -/

def blO (l : List Bk) : AV := .own 8 true (l.map bkA)
def blZ : AV := .lit (.slice none 0 0)
theorem blO_rf (l : List Bk) : (blO l).rf = true := by simp only [blO, AV.rf, rfB]
theorem blO_frz (l : List Bk) : (blO l).frz = blA true l := by simp only [blO, blA, AV.frz, frzB]
theorem frzBL (ys : List (List Bk)) : AV.frzL (ys.map blO) = ys.map (blA true) := by
  rw [AV.frzL_eq, List.map_map]
  exact List.map_congr_left fun x _ => blO_frz x

noncomputable def X10 : Fx := ⟨Tryz.prog, tys, 10, Tryz.f10, [0]⟩
theorem X10_ok : X10.Ok := ⟨Tryz.func10, tys_ok⟩
theorem toBookSS_ct (ys : List (List Bk)) (ex e2 : Bool) (hlen : ys.length ≤ 1048576) (hq : ∀ y ∈ ys, y.length ≤ 1048576) : Ct Tryz.prog 10 [.ro 1 ex (ys.map (blA e2))] (.own 1 true (ys.map blO)) [] := by
  refine Ct.intro X10 X10_ok rfl rfl rfl rfl fun g hg => ?_
  repeat (refine Run.go rfl ?_)
  refine Run.make rfl rfl rfl rfl rfl rfl rfl rfl rfl rfl (by simp; omega) (by show _ * 24 ≤ _; simp; omega) rfl ?_
  repeat (refine Run.go rfl ?_)
  refine Run.loop (fun j : Nat => ⟨[(0, .ro 1 ex (ys.map (blA e2))), (3, .own 1 true ((ys.take j).map blO ++ List.replicate (ys.length - j) blZ)), (4, i64 j)], []⟩) (fun j => j ≤ ys.length) (fun j => ys.length - j) 0 (by omega) ?_ ?_
  · refine St.Le.mk' ⟨rfl, ?_, rfl, trivial⟩ trivial
    show AV.own 1 true (List.replicate (ys.map (blA e2)).length blZ) = _
    simp
  · intro j hj IH
    repeat (refine Run.go rfl ?_)
    refine Run.cond rfl (fun h => ?_) (fun h => ?_)
    · have hlt : j < ys.length := by simpa using h
      repeat (refine Run.go rfl ?_)
      refine Run.val rfl rfl rfl (ValOk.idx (blA e2 ys[j]) rfl rfl rfl rfl rfl (by omega) (by simp [hlt])) rfl ?_
      repeat (refine Run.go rfl ?_)
      refine Run.cs rfl (toBookS_ct ys[j] e2 (hq _ (by simp))) rfl (rfB _) ?_
      refine Run.val rfl rfl rfl (ValOk.idxv rfl rfl rfl rfl rfl rfl (by omega) (by simp; omega)) rfl ?_
      refine Run.open1 20 (20, 4) (20, 5) rfl rfl (by decide) rfl fun A n => ?_
      refine Run.storee blZ (.lit (.slice A (ys[j].map bkA).length n)) rfl rfl rfl rfl rfl rfl rfl ?_ rfl rfl rfl ?_
      · simpa using fill_at hlt
      refine Run.recell1 (3, 0) (20, 4) (20, 5) j 0 (.lit (.slice A (ys[j].map bkA).length n)) rfl ?_ rfl rfl rfl rfl (by decide) ?_
      · simp only [Nat.zero_add, Int.toNat_natCast]
        exact List.getElem?_set_self (by simp; omega)
      repeat (refine Run.go rfl ?_)
      refine Run.pack 3 rfl rfl (by simp) ?_
      refine Run.of (IH (j + 1) (by omega) (by omega)) ⟨rfl, ?_, ?_, trivial⟩ trivial
      · show AV.own _ _ _ = _
        congr 1
        simp only [Nat.zero_add, Int.toNat_natCast]
        rw [List.set_set]
        exact fill_step (f := blO) hlt
      · show i64 _ = _
        rw [wrap_i64 (by omega) (by omega)]
        rfl
    · have hj' : j = ys.length := by simp at h; omega
      subst hj'
      repeat (refine Run.go rfl ?_)
      refine Run.pack 2 rfl rfl rfl ?_
      refine Run.ret hg rfl ?_
      show AV.own _ _ _ = _
      simp

def szBs : List (List Bk) → Int → Int
  | [], n => n
  | y :: ys, n => if szB y n < 0 then -1 else szBs ys (szB y n)
def szBB (ys : List (List Bk)) (n : Int) : Int := if n - ys.length < 0 then -1 else szBs ys (n - ys.length)
theorem szB_le {l : List Bk} {n : Int} (h : 0 ≤ n) : szB l n ≤ n ∧ -1 ≤ szB l n := by
  unfold szB; split <;> omega

noncomputable def X7 : Fx := ⟨Tryz.prog, tys, 7, Tryz.f7, [0]⟩
theorem X7_ok : X7.Ok := ⟨Tryz.func7, tys_ok⟩
theorem szBookSS_ct (ys : List (List Bk)) (ex e2 : Bool) (n : Int) (h0 : 0 ≤ n) (h1 : n ≤ 1048576) (hlen : ys.length ≤ 1048576) (hq : ∀ y ∈ ys, y.length ≤ 1048576) :
    Ct Tryz.prog 7 [.ro 1 ex (ys.map (blA e2)), i64 n] (i64 (szBB ys n)) [] := by
  unfold szBB
  refine Ct.intro X7 X7_ok rfl rfl rfl rfl fun g hg => ?_
  repeat (refine Run.go rfl ?_)
  have e : IntKind.i64.wrap (n - (ys.map (blA e2)).length) = n - ys.length := by rw [List.length_map, wrap_i64 (by omega) (by omega)]
  refine Run.cond rfl (fun h => ?_) (fun h => ?_)
  · repeat (refine Run.go rfl ?_)
    refine Run.ret hg rfl ?_
    show i64 _ = _
    rw [e] at h
    simp at h
    rw [if_pos (by omega)]
  · rw [e] at h
    have h : 0 ≤ n - ys.length := by simp at h; omega
    repeat (refine Run.go rfl ?_)
    refine Run.loop (fun i : Nat × Int => ⟨[(0, .ro 1 ex (ys.map (blA e2))), (1, i64 i.2), (5, i64 i.1)], []⟩) (fun i => i.1 ≤ ys.length ∧ 0 ≤ i.2 ∧ i.2 ≤ 1048576 ∧ szBs (ys.drop i.1) i.2 = szBs ys (n - ys.length)) (fun i => ys.length - i.1) (0, n - ys.length) ⟨by simp, h, by simp; omega, by simp⟩ ?_ ?_
    · refine St.Le.mk' ⟨rfl, ?_, rfl, trivial⟩ trivial
      show i64 (IntKind.i64.wrap (n - (ys.map (blA e2)).length)) = i64 _
      rw [e]
    · rintro ⟨j, m⟩ ⟨hj, hm0, hm1, hjm⟩ IH
      simp only at hj hm0 hm1 hjm
      repeat (refine Run.go rfl ?_)
      refine Run.cond rfl (fun h' => ?_) (fun h' => ?_)
      · have hlt : j < ys.length := by simpa using h'
        repeat (refine Run.go rfl ?_)
        refine Run.val rfl rfl rfl (ValOk.idx (blA e2 ys[j]) rfl rfl rfl rfl rfl (by omega) (by simp [hlt])) rfl ?_
        repeat (refine Run.go rfl ?_)
        refine Run.cs rfl (szBookS_ct ys[j] e2 m hm0 hm1 (hq _ (by simp))) rfl rfl ?_
        repeat (refine Run.go rfl ?_)
        rw [List.drop_eq_getElem_cons hlt, szBs] at hjm
        have := szB_le (l := ys[j]) hm0
        refine Run.cond rfl (fun h2 => ?_) (fun h2 => ?_)
        · repeat (refine Run.go rfl ?_)
          refine Run.ret hg rfl ?_
          show i64 _ = _
          simp at h2
          rw [if_pos h2] at hjm
          rw [if_neg (by omega), ← hjm]
        · repeat (refine Run.go rfl ?_)
          simp at h2
          rw [if_neg (by omega)] at hjm
          refine Run.of (IH (j + 1, szB ys[j] m) ⟨by simp; omega, by simp; omega, by simp; omega, hjm⟩ (by simp; omega)) ⟨rfl, rfl, ?_, trivial⟩ trivial
          show i64 _ = _
          rw [wrap_i64 (by omega) (by omega)]
          rfl
      · have hj' : j = ys.length := by simp at h'; omega
        subst hj'
        repeat (refine Run.go rfl ?_)
        refine Run.ret hg rfl ?_
        show i64 m = _
        rw [List.drop_length] at hjm
        rw [if_neg (by omega), ← hjm]
        rfl

noncomputable def X14 : Fx := ⟨Tryz.prog, tys, 14, Tryz.f14, [0, 1]⟩
theorem X14_ok : X14.Ok := ⟨Tryz.func14, tys_ok⟩
theorem eqBookSS_ct (l m : List (List Bk)) (e1 e2 e3 e4 : Bool) (hb : l.length ≤ 1048576) (hq : ∀ y ∈ l, y.length ≤ 1048576) : Ct Tryz.prog 14 [.ro 1 e1 (l.map (blA e2)), .ro 1 e3 (m.map (blA e4))] (bo (decide (l = m))) [] := by
  refine Ct.intro X14 X14_ok rfl rfl rfl rfl fun g hg => ?_
  repeat (refine Run.go rfl ?_)
  refine Run.cond rfl (fun h => ?_) (fun h => ?_)
  · repeat (refine Run.go rfl ?_)
    refine Run.ret hg rfl ?_
    show bo _ = _
    congr 2
    simp at h
    symm
    simp
    rintro rfl
    exact h rfl
  · have hlen : l.length = m.length := by simp at h; omega
    repeat (refine Run.go rfl ?_)
    refine Run.loop (fun j : Nat => ⟨[(0, .ro 1 e1 (l.map (blA e2))), (1, .ro 1 e3 (m.map (blA e4))), (5, i64 j)], []⟩) (fun j => j ≤ l.length ∧ l.take j = m.take j) (fun j => l.length - j) 0 ⟨by omega, rfl⟩ ?_ ?_
    · exact St.Le.mk' ⟨rfl, rfl, rfl, trivial⟩ trivial
    · rintro j ⟨hj, hjm⟩ IH
      repeat (refine Run.go rfl ?_)
      refine Run.cond rfl (fun h => ?_) (fun h => ?_)
      · have hlt : j < l.length := by simpa using h
        have hlt' : j < m.length := by omega
        repeat (refine Run.go rfl ?_)
        refine Run.draw (by kernel_rfl) (by decide +kernel) ?_
        repeat (refine Quiet.go rfl ?_)
        refine Quiet.val rfl rfl (ValOk.idx (blA e2 l[j]) rfl rfl rfl rfl rfl (by omega) (by simp [hlt])) rfl ?_
        repeat (refine Quiet.go rfl ?_)
        refine Quiet.val rfl rfl (ValOk.idx (blA e4 m[j]) rfl rfl rfl rfl rfl (by omega) (by simp [hlt'])) rfl ?_
        repeat (refine Quiet.go rfl ?_)
        refine Quiet.call rfl rfl rfl rfl rfl rfl (eqBookS_ct l[j] m[j] e2 e4 (hq _ (by simp))) rfl ?_
        repeat (refine Quiet.go rfl ?_)
        refine Quiet.nil ?_
        repeat (refine Run.go rfl ?_)
        refine Run.cond rfl (fun h => ?_) (fun h => ?_)
        · repeat (refine Run.go rfl ?_)
          refine Run.ret hg rfl ?_
          show bo _ = _
          congr 2
          symm
          simp at h ⊢
          rintro rfl
          exact h rfl
        · repeat (refine Run.go rfl ?_)
          refine Run.of (IH (j + 1) ⟨by omega, ?_⟩ (by omega)) ⟨rfl, rfl, ?_, trivial⟩ trivial
          · rw [List.take_succ_eq_append_getElem hlt, List.take_succ_eq_append_getElem hlt', hjm]
            simp at h
            rw [h]
          · show i64 _ = _
            rw [wrap_i64 (by omega) (by omega)]
            rfl
      · have hj' : j = l.length := by simp at h; omega
        repeat (refine Run.go rfl ?_)
        refine Run.ret hg rfl ?_
        show bo _ = _
        rw [List.take_of_length_le (by omega), List.take_of_length_le (by omega)] at hjm
        simp [hjm]

def cntB (l : List (List Bk)) : Nat := (l.map List.length).sum
def mkBB : List (List Bk) → Int → List (List Bk)
  | [], _ => []
  | y :: l, k => mkBs y.length k :: mkBB l (k + 8 * (y.length : Nat))
theorem mkBB_len (l : List (List Bk)) (k : Int) : (mkBB l k).length = l.length := by
  induction l generalizing k with
  | nil => rfl
  | cons c l ih => simp [mkBB, ih]
theorem cntB_cons (y : List Bk) (l : List (List Bk)) : cntB (y :: l) = y.length + cntB l := by simp [cntB]
theorem cntB_append (l m : List (List Bk)) : cntB (l ++ m) = cntB l + cntB m := by simp [cntB]
theorem mkBB_append (l m : List (List Bk)) (k : Int) : mkBB (l ++ m) k = mkBB l k ++ mkBB m (k + 8 * (cntB l : Nat)) := by
  induction l generalizing k with
  | nil => simp [mkBB, cntB]
  | cons c l ih =>
    simp only [List.cons_append, mkBB, ih, cntB_cons]
    congr 3
    omega
theorem mkBB_step {l : List (List Bk)} {j : Nat} (h : j < l.length) (k : Int) : mkBB (l.take (j + 1)) k = mkBB (l.take j) k ++ [mkBs l[j].length (k + 8 * (cntB (l.take j) : Nat))] := by
  rw [List.take_succ_eq_append_getElem h, mkBB_append]
  rfl
theorem cntB_step {l : List (List Bk)} {j : Nat} (h : j < l.length) : cntB (l.take (j + 1)) = cntB (l.take j) + l[j].length := by
  rw [List.take_succ_eq_append_getElem h, cntB_append]
  rfl
theorem cntB_take (l : List (List Bk)) (j : Nat) : cntB (l.take j) ≤ cntB l := by
  have := cntB_append (l.take j) (l.drop j)
  rw [List.take_append_drop] at this
  omega

noncomputable def X16 : Fx := ⟨Tryz.prog, tys, 16, Tryz.f16, [0]⟩
theorem X16_ok : X16.Ok := ⟨Tryz.func16, tys_ok⟩
theorem markBookSS_ct (l : List (List Bk)) (k : Int) (hb : l.length ≤ 1048576) (hq : ∀ y ∈ l, y.length ≤ 1048576) (hc : cntB l ≤ 1099511627776) (hk : 0 ≤ k ∧ k + 8 * (cntB l : Nat) ≤ 1099511627776) :
    Ct Tryz.prog 16 [.own 1 true (l.map blO), i64 k] (i64 (k + 8 * (cntB l : Nat))) [.own 1 true ((mkBB l k).map blO)] := by
  refine Ct.intro X16 X16_ok rfl rfl rfl rfl fun g hg => ?_
  refine Run.unpack 0 rfl rfl ?_
  repeat (refine Run.go rfl ?_)
  refine Run.loop (fun j : Nat => ⟨[(0, .vec (0, 0) 0 l.length), (1, i64 (k + 8 * (cntB (l.take j) : Nat))), (5, i64 j)], [((0, 0), .vec 1 true ((mkBB (l.take j) k).map blO ++ (l.drop j).map blO))]⟩) (fun j => j ≤ l.length) (fun j => l.length - j) 0 (by omega) ?_ ?_
  · refine St.Le.mk' ⟨?_, ?_, rfl, trivial⟩ ⟨?_, trivial⟩
    · show AV.vec _ _ (l.map blO).length = _
      simp
    · show i64 k = _
      simp [cntB]
    · show Ob.vec _ _ _ = _
      simp [mkBB]
  · intro j hj IH
    repeat (refine Run.go rfl ?_)
    refine Run.cond rfl (fun h => ?_) (fun h => ?_)
    · have hlt : j < l.length := by simpa using h
      have hct := cntB_take l j
      have hct1 := cntB_take l (j + 1)
      have hcs := cntB_step hlt
      have hat : ∀ x : AV, ((mkBB (l.take j) k).map blO ++ x :: (l.drop (j + 1)).map blO)[j]? = some x := by
        intro x
        rw [List.getElem?_append_right (by simp [mkBB_len]; omega)]
        simp [mkBB_len, Nat.min_eq_left hj]
      have hset : ∀ x y : AV, ((mkBB (l.take j) k).map blO ++ x :: (l.drop (j + 1)).map blO).set j y = (mkBB (l.take j) k).map blO ++ y :: (l.drop (j + 1)).map blO := by
        intro x y
        rw [List.set_append_right _ _ (by simp [mkBB_len]; omega)]
        simp [mkBB_len, Nat.min_eq_left hj]
      rw [List.drop_eq_getElem_cons hlt, List.map_cons]
      repeat (refine Run.go rfl ?_)
      have hm : 0 + ((j : Int)).toNat = j := by simp
      refine Run.val rfl rfl rfl (ValOk.idxv rfl rfl rfl rfl rfl rfl (by omega) (by omega)) rfl ?_
      rw [hm]
      have hl := hq l[j] (by simp)
      refine Run.uncell1 (0, 0) (15, 0) (15, 1) j 0 _ rfl (hat _) rfl (fun _ => rfl) rfl (by decide) (by decide) (by decide) rfl fun A n => ?_
      rw [hset]
      refine Run.val rfl rfl rfl (ValOk.loadv _ rfl rfl rfl rfl (hat _) rfl) rfl ?_
      refine Run.name 15 (15, 1) rfl rfl rfl ?_
      repeat (refine Run.go rfl ?_)
      refine Run.callo (15, 0) none rfl rfl rfl rfl rfl rfl rfl rfl rfl rfl (markBookS_ct l[j] (k + 8 * (cntB (l.take j) : Nat)) true hl (by omega)) rfl (rfB _) rfl ?_
      repeat (refine Run.go rfl ?_)
      refine Run.recell1 (0, 0) (15, 0) (15, 1) j 0 _ rfl (hat _) rfl rfl rfl rfl (by decide) ?_
      rw [hset]
      repeat (refine Run.go rfl ?_)
      refine Run.of (IH (j + 1) (by omega) (by omega)) ⟨rfl, ?_, ?_, trivial⟩ ⟨?_, trivial⟩
      · rw [hcs]
        show i64 (k + 8 * (cntB (l.take j) : Nat) + 8 * (l[j].length : Nat)) = i64 _
        exact congrArg i64 (by omega)
      · show i64 _ = _
        rw [wrap_i64 (by omega) (by omega)]
        rfl
      · rw [mkBB_step hlt, List.map_append, List.append_assoc]
        rfl
    · have hj' : j = l.length := by simp at h; omega
      subst hj'
      rw [List.take_length, List.drop_length]
      repeat (refine Run.go rfl ?_)
      refine Run.pack 0 rfl rfl (by simp [mkBB_len]) ?_
      refine Run.reto hg rfl rfl rfl ?_ rfl rfl
      show AV.own _ _ _ = _
      simp
end Go.Proofs.YtlaabifehcfllaaGreat
