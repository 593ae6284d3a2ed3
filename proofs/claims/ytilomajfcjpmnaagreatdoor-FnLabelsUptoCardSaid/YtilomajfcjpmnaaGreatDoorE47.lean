/- Contracts of the program's functions, and what follows from them. -/
import Derived.Test.YtilomajfcjpmnaaGreatDoorE46
import Derived.Test.YtilomajfcjpmnaaGreatDoorE28
set_option linter.unusedVariables false
set_option maxRecDepth 100000
set_option linter.unusedSimpArgs false
namespace Go.Proofs.YtilomajfcjpmnaaGreatDoor
open Go Go.Av

/-! Labels mistyped: the law. -/

noncomputable def X33 : Fx := ⟨Tryz.prog, tys, 33, Tryz.f33, [0, 1]⟩
theorem X33_ok : X33.Ok := ⟨Tryz.func33, tys_ok⟩
theorem SameTexts_ct (l m : List (List UInt8)) (ex ex' : Bool) (hb : l.length ≤ 1048576) : Ct Tryz.prog 33 [.ro 1 ex (l.map str), .ro 1 ex' (m.map str)] (bo (decide (l = m))) [] := by
  refine Ct.intro X33 X33_ok rfl rfl rfl rfl fun g hg => ?_
  repeat (refine Run.go rfl ?_)
  refine Run.cond rfl (fun h => ?_) (fun h => ?_)
  · repeat (refine Run.go rfl ?_)
    refine Run.ret hg rfl ?_
    show bo _ = _
    congr 2
    simp at h
    symm
    simp
    rintro rfl
    exact h rfl
  · have hlen : l.length = m.length := by simp at h; omega
    repeat (refine Run.go rfl ?_)
    refine Run.loop (fun j : Nat => ⟨[(0, .ro 1 ex (l.map str)), (1, .ro 1 ex' (m.map str)), (5, i64 j)], []⟩) (fun j => j ≤ l.length ∧ l.take j = m.take j) (fun j => l.length - j) 0 ⟨by omega, rfl⟩ ?_ ?_
    · exact St.Le.mk' ⟨rfl, rfl, rfl, trivial⟩ trivial
    · rintro j ⟨hj, hjm⟩ IH
      repeat (refine Run.go rfl ?_)
      refine Run.cond rfl (fun h => ?_) (fun h => ?_)
      · have hlt : j < l.length := by simpa using h
        have hlt' : j < m.length := by omega
        repeat (refine Run.go rfl ?_)
        refine Run.draw (by kernel_rfl) (by decide +kernel) ?_
        repeat (refine Quiet.go rfl ?_)
        refine Quiet.val rfl rfl (ValOk.idx (str l[j]) rfl rfl rfl rfl rfl (by omega) (by simp [hlt])) rfl ?_
        repeat (refine Quiet.go rfl ?_)
        refine Quiet.val rfl rfl (ValOk.idx (str m[j]) rfl rfl rfl rfl rfl (by omega) (by simp [hlt'])) rfl ?_
        repeat (refine Quiet.go rfl ?_)
        refine Quiet.nil ?_
        repeat (refine Run.go rfl ?_)
        refine Run.cond rfl (fun h => ?_) (fun h => ?_)
        · repeat (refine Run.go rfl ?_)
          refine Run.ret hg rfl ?_
          have h : (!decide (l[j] = m[j])) = true := (str_neq l[j] m[j]).symm.trans h
          show bo false = bo (decide (l = m))
          rw [decide_eq_false]
          rintro rfl
          simp at h
        · have h : (!decide (l[j] = m[j])) = false := (str_neq l[j] m[j]).symm.trans h
          repeat (refine Run.go rfl ?_)
          refine Run.of (IH (j + 1) ⟨by omega, ?_⟩ (by omega)) ⟨rfl, rfl, ?_, trivial⟩ trivial
          · rw [List.take_succ_eq_append_getElem hlt, List.take_succ_eq_append_getElem hlt', hjm]
            simp at h
            rw [h]
          · show i64 _ = _
            rw [wrap_i64 (by omega) (by omega)]
            rfl
      · have hj' : j = l.length := by simp at h; omega
        repeat (refine Run.go rfl ?_)
        refine Run.ret hg rfl ?_
        show bo _ = _
        rw [List.take_of_length_le (by omega), List.take_of_length_le (by omega)] at hjm
        simp [hjm]

theorem nr9 {w : List UInt8} (h : w.length = 9) : nrRes w = (lbsOf w (nearAll w), 0) := by rw [nrRes, if_pos h]
theorem sw9 {w : List UInt8} (h : w.length = 9) : swRes w = (lbsOf w (swps w 8), 0) := by rw [swRes, if_pos h]
theorem rd_not {w : List UInt8} (h : isLb w = false) : rdR w = (0, [], 0, 5) := by rw [rdR, h]; rfl
theorem vB_vol {x : Bk} (h : vB x = true) : x.vol ≠ 0 := by
  simp only [vB, Bool.and_eq_true, inr, decide_eq_true_eq] at h
  omega
theorem near_len (w : List UInt8) : (lbsOf w (nearAll w)).length ≤ 324 := by
  have h1 := (lbsOf_facts w (nearAll w)).2.2
  have h2 := outsN_len w (List.range 9)
  have h3 : nearAll w = outsN w (List.range 9) := rfl
  rw [h3] at h1 ⊢
  rw [h2, List.length_range] at h1
  exact h1

/-- The places of digits. -/
def posI : List Int := [0, 1, 2, 6, 7, 8]

noncomputable def X4 : Fx := ⟨Tryz.prog, tys, 4, Tryz.f4, [0, 1]⟩
theorem X4_ok : X4.Ok := ⟨Tryz.func4, tys_ok⟩
theorem lawLabels_ct (ex ex' : Bool) (C C' : List Int) (hb : ∀ x ∈ C, 0 ≤ x ∧ x ≤ 255) (hb' : ∀ x ∈ C', 0 ≤ x ∧ x ≤ 255) : CtA ambS Tryz.prog 4 [.ro 1 ex (C.map u8), .ro 1 ex' (C'.map u8)] (bo true) [] := by
  have hml : ∀ D : List Int, (D.map u8).length = D.length := fun D => List.length_map ..
  refine CtA.intro ambS X4 X4_ok rfl (by kernel_rfl) rfl rfl fun g hA hg => ?_
  repeat (refine Run.go rfl ?_)
  refine Run.cs rfl (f6big_ct ex (C.map u8)) rfl rfl ?_
  repeat (refine Run.go rfl ?_)
  refine Run.bool 36 rfl (fun hB => ?_) (fun hB => ?_)
  · repeat (refine Run.go rfl ?_)
    refine Run.cond rfl (fun _ => ?_) (fun h => by simp at h)
    repeat (refine Run.go rfl ?_)
    exact Run.ret hg rfl rfl
  have hC : C.length ≤ 1048576 := by
    have := of_decide_eq_false hB
    rw [hml] at this
    omega
  repeat (refine Run.go rfl ?_)
  refine Run.cs rfl (f6big_ct ex' (C'.map u8)) rfl rfl ?_
  repeat (refine Run.go rfl ?_)
  refine Run.cond rfl (fun _ => ?_) (fun hB' => ?_)
  · repeat (refine Run.go rfl ?_)
    exact Run.ret hg rfl rfl
  have hC' : C'.length ≤ 1048576 := by
    have hB' : decide (4096 < (C'.map u8).length) = false := hB'
    have := of_decide_eq_false hB'
    rw [hml] at this
    omega
  obtain ⟨x, hv, hr, cB⟩ := P6Book_ct ex C hC hb
  obtain ⟨i, hi, cI⟩ := P6Pick_ct ex' C' hC' hb' 6 (by omega)
  obtain ⟨k, hk, cK⟩ := P6Pick_ct ex C hC hb 9 (by omega)
  have hlb := vB_lb hv
  have hvol := vB_vol hv
  have hL := lab_isLb hlb hvol
  have hlr : lRes x = labT x := by rw [lRes, if_pos hv]
  have cS := specLabelOf_ct x hr
  have cP := implLabelOf_ct x
  rw [hlr] at cS cP
  have cR := implReadLabel_ct (labT x)
  rw [rd_lab hlb hvol] at cR
  have cC := implCheckLabel_ct (labT x)
  rw [hL] at cC
  have hl9 := (isLb_rl hL).1
  repeat (refine Run.go rfl ?_)
  refine Run.cs rfl cB rfl rfl ?_
  iterate 2 (refine Run.go rfl ?_)
  refine Run.freezeBox 5 (5, 0) (bkA x).cells rfl rfl rfl rfl ?_
  repeat (refine Run.go rfl ?_)
  refine Run.csA rfl (cP.at (ambS_T hA)) rfl rfl ?_
  repeat (refine Run.go rfl ?_)
  refine Run.cs rfl cS rfl rfl ?_
  repeat (refine Run.go rfl ?_)
  refine Run.csA rfl (cR.at hA) rfl rfl ?_
  repeat (refine Run.go rfl ?_)
  refine Run.bool 56 rfl (fun h => by simp at h) (fun _ => ?_)
  repeat (refine Run.go rfl ?_)
  refine Run.bool 61 rfl (fun h => ?_) (fun _ => ?_)
  · have h : ((((⟨(labT x).toArray⟩ : ByteArray).size : Nat) : Int) != 9) = true := h
    rw [bsz, hl9] at h
    simp at h
  repeat (refine Run.go rfl ?_)
  refine Run.csA rfl (cC.at hA) rfl rfl ?_
  repeat (refine Run.go rfl ?_)
  have ecl : IntKind.i64.wrap x.cl = x.cl := by rw [wrap_i64 (by have := hlb.1; omega) (by have := hlb.1; omega)]
  have evl : IntKind.i64.wrap x.vol = x.vol := by rw [wrap_i64 (by have := hlb.2.2; omega) (by have := hlb.2.2; omega)]
  refine Run.bool 77 rfl (fun h => ?_) (fun _ => ?_)
  · have h : (x.cl != IntKind.i64.wrap x.cl) = true := h
    rw [ecl] at h
    simp at h
  repeat (refine Run.go rfl ?_)
  refine Run.val rfl rfl rfl (ValOk.cutArr (ys := [x.a, x.b, x.c].map u8) rfl rfl rfl rfl rfl rfl rfl rfl rfl (by decide)) rfl ?_
  refine Run.val rfl rfl rfl (ValOk.b2s (ex := true) [x.a, x.b, x.c] rfl rfl rfl rfl rfl (.inr rfl)) rfl ?_
  repeat (refine Run.go rfl ?_)
  refine Run.bool 84 rfl (fun h => by simp at h) (fun _ => ?_)
  repeat (refine Run.go rfl ?_)
  refine Run.cond rfl (fun h => ?_) (fun _ => ?_)
  · have h : (x.vol != IntKind.i64.wrap x.vol) = true := h
    rw [evl] at h
    simp at h
  repeat (refine Run.go rfl ?_)
  refine Run.buildSlice (posI.map i64) rfl rfl rfl rfl rfl rfl rfl rfl rfl rfl rfl rfl rfl rfl ?_
  refine Run.freeze (v' := .ro 1 true (posI.map i64)) 91 rfl rfl rfl ?_
  repeat (refine Run.go rfl ?_)
  refine Run.cs rfl cI rfl rfl ?_
  obtain ⟨q, hq, hqs⟩ : ∃ q : Nat, (posI.map i64)[i.toNat]? = some (i64 (q : Int)) ∧ (q = 0 ∨ q = 1 ∨ q = 2 ∨ q = 6 ∨ q = 7 ∨ q = 8) := by
    have hh : i = 0 ∨ i = 1 ∨ i = 2 ∨ i = 3 ∨ i = 4 ∨ i = 5 := by omega
    rcases hh with rfl | rfl | rfl | rfl | rfl | rfl
    · exact ⟨0, rfl, by omega⟩
    · exact ⟨1, rfl, by omega⟩
    · exact ⟨2, rfl, by omega⟩
    · exact ⟨6, rfl, by omega⟩
    · exact ⟨7, rfl, by omega⟩
    · exact ⟨8, rfl, by omega⟩
  refine Run.val rfl rfl rfl (ValOk.idx (i64 (q : Int)) rfl rfl rfl rfl rfl hi.1 hq) rfl ?_
  repeat (refine Run.go rfl ?_)
  refine Run.cs rfl cK rfl rfl ?_
  repeat (refine Run.go rfl ?_)
  refine Run.s2bo (labT x) rfl rfl rfl rfl rfl rfl rfl rfl (by omega) rfl ?_
  rw [nsOf_map]
  refine Run.go rfl ?_
  refine Run.unpack 15 rfl rfl ?_
  have hq9 : q < 9 := by omega
  have hbq := (isLb_all hL).2.2.1 q hq9 (by omega)
  have hbv : (((labT x).getD q 0).toNat : Int) = bv (labT x) q := rfl
  have hmv : 48 ≤ mv10 (bv (labT x) q) (1 + k) ∧ mv10 (bv (labT x) q) (1 + k) ≤ 57 := by unfold mv10; omega
  have hnl : (nsOf (labT x)).length = 9 := by unfold nsOf; rw [List.length_map, hl9]
  have hnm : ((nsOf (labT x)).map u8).length = 9 := by rw [List.length_map, hnl]
  have hold : ((nsOf (labT x)).map u8)[q]? = some (u8 (bv (labT x) q)) := by
    unfold nsOf
    rw [List.getElem?_map, List.getElem?_map, getD_some _ _ (by omega)]
    rfl
  have hwv : IntKind.u8.wrap (48 + IntKind.u8.wrap ((IntKind.i64.wrap (IntKind.i64.wrap (IntKind.u8.wrap (bv (labT x) q - 48)) + IntKind.i64.wrap (1 + k))).tmod 10)) = mv10 (bv (labT x) q) (1 + k) := by
    have e1 : IntKind.u8.wrap (bv (labT x) q - 48) = bv (labT x) q - 48 := wu8 (by omega) (by omega)
    have e2 : IntKind.i64.wrap (bv (labT x) q - 48) = bv (labT x) q - 48 := wrap_i64 (by omega) (by omega)
    have e3 : IntKind.i64.wrap (1 + k) = 1 + k := wrap_i64 (by omega) (by omega)
    have e4 : IntKind.i64.wrap (bv (labT x) q - 48 + (1 + k)) = bv (labT x) q - 48 + (1 + k) := wrap_i64 (by omega) (by omega)
    rw [e1, e2, e3, e4, Int.tmod_eq_emod_of_nonneg (by omega), wu8 (n := _ % 10) (by omega) (by omega), wu8 (by omega) (by omega)]
    rfl
  repeat (refine Run.go rfl ?_)
  refine Run.val rfl rfl rfl (ValOk.sidx (labT x) ((labT x).getD q 0) rfl rfl rfl rfl rfl (by omega) (by rw [Int.toNat_natCast]; exact getD_some _ _ (by omega))) rfl ?_
  rw [hbv]
  repeat (refine Run.go rfl ?_)
  rw [hwv]
  refine Run.val rfl rfl rfl (ValOk.idxv rfl rfl rfl rfl rfl rfl (by omega) (by omega)) rfl ?_
  rw [show 0 + ((q : Nat) : Int).toNat = q by omega]
  refine Run.storee (u8 (bv (labT x) q)) (u8 (mv10 (bv (labT x) q) (1 + k))) rfl rfl rfl rfl rfl rfl rfl hold rfl rfl rfl ?_
  rw [show ((nsOf (labT x)).map u8).set q (u8 (mv10 (bv (labT x) q) (1 + k))) = ((nsOf (labT x)).set q (mv10 (bv (labT x) q) (1 + k))).map u8 from (List.map_set ..).symm]
  refine Run.go rfl ?_
  refine Run.pack 15 rfl rfl (by simp) ?_
  refine Run.freeze 15 (v' := .ro 1 false (((nsOf (labT x)).set q (mv10 (bv (labT x) q) (1 + k))).map u8)) rfl rfl (by show AV.ro 1 false (AV.frzL _) = _; rw [frzU8]) ?_
  repeat (refine Run.go rfl ?_)
  refine Run.val rfl rfl rfl (ValOk.b2s (ex := false) ((nsOf (labT x)).set q (mv10 (bv (labT x) q) (1 + k))) rfl rfl rfl rfl rfl (.inr rfl)) rfl ?_
  obtain ⟨c, hc, hw⟩ : ∃ c : UInt8, (c.toNat : Int) = mv10 (bv (labT x) q) (1 + k) ∧ bys ((nsOf (labT x)).set q (mv10 (bv (labT x) q) (1 + k))) = (labT x).set q c := by
    refine ⟨UInt8.ofNat (mv10 (bv (labT x) q) (1 + k)).toNat, ?_, ?_⟩
    · simp only [UInt8.toNat_ofNat']; omega
    · unfold bys nsOf
      rw [List.map_set, List.map_map]
      congr 1
      refine (List.map_congr_left fun b _ => ?_).trans (List.map_id _)
      exact ofI b
  rw [hw]
  have hno := moved_not hL hqs (k := 1 + k) (by omega) hc
  have hdue := due_near hL hq9 (by omega) hno
  have hwl : ((labT x).set q c).length = 9 := by rw [List.length_set, hl9]
  generalize (labT x).set q c = w at hno hdue hwl
  have cIN := implNear_ct w (by omega)
  have cSN := specNear_ct w (by omega)
  have cIS := implSwapped_ct w (by omega)
  have cSS := specSwapped_ct w (by omega)
  rw [nr9 hwl] at cIN cSN
  rw [sw9 hwl] at cIS cSS
  dsimp only at cIN cSN cIS cSS
  have hnlen := near_len w
  have hslen : (lbsOf w (swps w 8)).length ≤ 8 := by
    have := (lbsOf_facts w (swps w 8)).2.2
    rwa [swps_len] at this
  have hsort := (lbsOf_facts w (nearAll w)).1
  have hnear := fun (y : List UInt8) (h : y ∈ lbsOf w (nearAll w)) => near_dfs hwl h
  have hswp := fun (y : List UInt8) (h : y ∈ lbsOf w (swps w 8)) => (((lbsOf_facts w (swps w 8)).2.1 y).1 h).2.2
  generalize lbsOf w (nearAll w) = nl at cIN cSN hnlen hsort hnear hdue
  generalize lbsOf w (swps w 8) = sl at cIS cSS hslen hswp
  have cRw := implReadLabel_ct w
  rw [rd_not hno] at cRw
  have cCw := implCheckLabel_ct w
  rw [hno] at cCw
  repeat (refine Run.go rfl ?_)
  refine Run.csA rfl (cIN.at hA) rfl (by simp only [AV.rf, AV.rfL, rfS]; rfl) ?_
  refine Run.freeze (v' := .tup [.ro 1 false (nl.map str), i64 0]) 119 rfl rfl (by show AV.tup [.ro 1 false (AV.frzL (nl.map str)), _] = _; rw [frzS]; rfl) ?_
  repeat (refine Run.go rfl ?_)
  refine Run.callp rfl rfl rfl rfl rfl rfl rfl rfl rfl cSN (by decide) (by decide) ?_
  repeat (refine Run.go rfl ?_)
  refine Run.csA rfl (cIS.at hA) rfl (by simp only [AV.rf, AV.rfL, rfS]; rfl) ?_
  refine Run.freeze (v' := .tup [.ro 1 false (sl.map str), i64 0]) 129 rfl rfl (by show AV.tup [.ro 1 false (AV.frzL (sl.map str)), _] = _; rw [frzS]; rfl) ?_
  repeat (refine Run.go rfl ?_)
  refine Run.callp rfl rfl rfl rfl rfl rfl rfl rfl rfl cSS (by decide) (by decide) ?_
  repeat (refine Run.go rfl ?_)
  refine Run.csA rfl (cRw.at hA) rfl rfl ?_
  repeat (refine Run.go rfl ?_)
  refine Run.csA rfl (cCw.at hA) rfl rfl ?_
  repeat (refine Run.go rfl ?_)
  refine Run.cs rfl (SameTexts_ct nl nl false false (by omega)) rfl rfl ?_
  rw [decide_eq_true rfl]
  repeat (refine Run.go rfl ?_)
  refine Run.cs rfl (SameTexts_ct sl sl false false (by omega)) rfl rfl ?_
  rw [decide_eq_true rfl]
  repeat (refine Run.go rfl ?_)
  refine Run.cond rfl (fun h => by simp at h) (fun _ => ?_)
  repeat (refine Run.go rfl ?_)
  refine Run.loop (fun j : Nat => ⟨[(7, str (labT x)), (16, str w), (19, .ro 1 false (nl.map str)), (23, .ro 1 false (sl.map str)), (29, bo (decide (labT x ∈ nl.take j))), (30, i64 j)], []⟩) (fun j => j ≤ nl.length) (fun j => nl.length - j) 0 (by omega) ?_ ?_
  · exact St.Le.mk' ⟨rfl, rfl, rfl, rfl, by show bo false = bo (decide _); rw [decide_eq_false (by simp)], rfl, trivial⟩ trivial
  intro j hj IH
  repeat (refine Run.go rfl ?_)
  refine Run.cond rfl (fun h => ?_) (fun h => ?_)
  · have hlt : j < nl.length := by
      have : (j : Int) < ((nl.map str).length : Nat) := of_decide_eq_true h
      rw [List.length_map] at this
      omega
    have hmem : nl[j] ∈ nl := List.getElem_mem hlt
    obtain ⟨hyl, hy9, hyd⟩ := hnear _ hmem
    have hget : (nl.map str)[((j : Nat) : Int).toNat]? = some (str nl[j]) := by rw [Int.toNat_natCast, List.getElem?_map, List.getElem?_eq_getElem hlt]; rfl
    have cCj := implCheckLabel_ct nl[j]
    rw [hyl] at cCj
    repeat (refine Run.go rfl ?_)
    refine Run.loop (fun r : Nat => ⟨[(7, str (labT x)), (16, str w), (19, .ro 1 false (nl.map str)), (23, .ro 1 false (sl.map str)), (29, bo (decide (labT x ∈ nl.take j))), (30, i64 j), (31, i64 (dfs nl[j] w r)), (32, i64 r)], []⟩) (fun r => r ≤ 9) (fun r => 9 - r) 0 (by omega) ?_ ?_
    · exact St.Le.mk' ⟨rfl, rfl, rfl, rfl, rfl, rfl, rfl, rfl, trivial⟩ trivial
    intro r hr9 IHr
    have hdl : dfs nl[j] w r ≤ r := by
      clear IHr hr9
      induction r with
      | zero => exact Nat.le_refl _
      | succ r ih => unfold dfs; split <;> omega
    repeat (refine Run.go rfl ?_)
    refine Run.val rfl rfl rfl (ValOk.idx (str nl[j]) rfl rfl rfl rfl rfl (by omega) hget) rfl ?_
    repeat (refine Run.go rfl ?_)
    refine Run.bool 193 rfl (fun h1 => ?_) (fun h1 => ?_)
    · have h1 : r < 9 := by
        have h1 : decide ((r : Int) < (((⟨nl[j].toArray⟩ : ByteArray).size : Nat) : Int)) = true := h1
        rw [bsz, hy9] at h1
        have := of_decide_eq_true h1
        omega
      repeat (refine Run.go rfl ?_)
      refine Run.cond rfl (fun _ => ?_) (fun h2 => ?_)
      rotate_left
      · exfalso
        have h2 : decide ((r : Int) < (((⟨w.toArray⟩ : ByteArray).size : Nat) : Int)) = false := h2
        rw [bsz, hwl] at h2
        have := of_decide_eq_false h2
        omega
      repeat (refine Run.go rfl ?_)
      refine Run.draw (by kernel_rfl) (by decide +kernel) ?_
      repeat (refine Quiet.go rfl ?_)
      refine Quiet.val rfl rfl (ValOk.idx (str nl[j]) rfl rfl rfl rfl rfl (by omega) hget) rfl ?_
      repeat (refine Quiet.go rfl ?_)
      refine Quiet.val rfl rfl (ValOk.sidx nl[j] (nl[j].getD r 0) rfl rfl rfl rfl rfl (by omega) (by rw [Int.toNat_natCast]; exact getD_some _ _ (by omega))) rfl ?_
      repeat (refine Quiet.go rfl ?_)
      refine Quiet.val rfl rfl (ValOk.sidx w (w.getD r 0) rfl rfl rfl rfl rfl (by omega) (by rw [Int.toNat_natCast]; exact getD_some _ _ (by omega))) rfl ?_
      repeat (refine Quiet.go rfl ?_)
      refine Quiet.nil ?_
      repeat (refine Run.go rfl ?_)
      refine Run.cond rfl (fun h2 => ?_) (fun h2 => ?_)
      · have h2 : bv nl[j] r ≠ bv w r := by
          have h2 : (bv nl[j] r != bv w r) = true := h2
          simpa using h2
        repeat (refine Run.go rfl ?_)
        refine Run.of (IHr (r + 1) (by omega) (by omega)) ⟨rfl, rfl, rfl, rfl, rfl, rfl, ?_, ?_, trivial⟩ trivial
        · show i64 (IntKind.i64.wrap ((dfs nl[j] w r : Nat) + 1)) = i64 ((dfs nl[j] w (r + 1) : Nat) : Int)
          rw [wrap_i64 (by omega) (by omega), dfs, if_neg h2]
          rfl
        · show i64 _ = i64 _
          rw [wrap_i64 (by omega) (by omega)]
          rfl
      · have h2 : bv nl[j] r = bv w r := by
          have h2 : (bv nl[j] r != bv w r) = false := h2
          simpa using h2
        repeat (refine Run.go rfl ?_)
        refine Run.of (IHr (r + 1) (by omega) (by omega)) ⟨rfl, rfl, rfl, rfl, rfl, rfl, ?_, ?_, trivial⟩ trivial
        · show i64 ((dfs nl[j] w r : Nat) : Int) = i64 ((dfs nl[j] w (r + 1) : Nat) : Int)
          rw [dfs, if_pos h2]
          rfl
        · show i64 _ = i64 _
          rw [wrap_i64 (by omega) (by omega)]
          rfl
    · have h1 : r = 9 := by
        have h1 : decide ((r : Int) < (((⟨nl[j].toArray⟩ : ByteArray).size : Nat) : Int)) = false := h1
        rw [bsz, hy9] at h1
        have := of_decide_eq_false h1
        omega
      subst h1
      rw [hyd]
      repeat (refine Run.go rfl ?_)
      refine Run.cond rfl (fun h2 => by simp at h2) (fun _ => ?_)
      repeat (refine Run.go rfl ?_)
      refine Run.drawS ⟨[(7, str (labT x)), (16, str w), (19, .ro 1 false (nl.map str)), (23, .ro 1 false (sl.map str)), (29, bo (decide (labT x ∈ nl.take j))), (30, i64 j), (248, bo false)], []⟩ (by kernel_rfl) (by decide +kernel) ?_ ?_
      rotate_left
      · repeat (refine Run.go rfl ?_)
        refine Run.cond rfl (fun h2 => by simp at h2) (fun _ => ?_)
        repeat (refine Run.go rfl ?_)
        refine Run.bool 250 rfl (fun h2 => ?_) (fun h2 => ?_)
        · have h2 : labT x ∈ nl.take j := of_decide_eq_true h2
          repeat (refine Run.go rfl ?_)
          refine Run.of (IH (j + 1) (by omega) (by omega)) ⟨rfl, rfl, rfl, rfl, ?_, ?_, trivial⟩ trivial
          · show bo true = bo (decide _)
            rw [decide_eq_true (by rw [List.take_succ_eq_append_getElem hlt]; exact List.mem_append_left _ h2)]
          · show i64 _ = i64 _
            rw [wrap_i64 (by omega) (by omega)]
            rfl
        · have h2 : ¬ labT x ∈ nl.take j := of_decide_eq_false h2
          repeat (refine Run.go rfl ?_)
          refine Run.val rfl rfl rfl (ValOk.idx (str nl[j]) rfl rfl rfl rfl rfl (by omega) hget) rfl ?_
          repeat (refine Run.go rfl ?_)
          refine Run.of (IH (j + 1) (by omega) (by omega)) ⟨rfl, rfl, rfl, rfl, ?_, ?_, trivial⟩ trivial
          · show bo ((⟨nl[j].toArray⟩ : ByteArray).toList == (⟨(labT x).toArray⟩ : ByteArray).toList) = bo (decide _)
            congr 1
            rw [str_eq]
            refine decide_eq_decide.2 ?_
            rw [List.take_succ_eq_append_getElem hlt, List.mem_append, List.mem_singleton]
            constructor
            · intro e; exact .inr e.symm
            · rintro (e | e)
              · exact absurd e h2
              · exact e.symm
          · show i64 _ = i64 _
            rw [wrap_i64 (by omega) (by omega)]
            rfl
      repeat (refine Quiet.go rfl ?_)
      refine Quiet.val rfl rfl (ValOk.idx (str nl[j]) rfl rfl rfl rfl rfl (by omega) hget) rfl ?_
      repeat (refine Quiet.go rfl ?_)
      refine Quiet.csA rfl rfl rfl rfl rfl (cCj.at hA) rfl rfl ?_
      repeat (refine Quiet.go rfl ?_)
      refine Quiet.val rfl rfl (ValOk.idx (str nl[j]) rfl rfl rfl rfl rfl (by omega) hget) rfl ?_
      repeat (refine Quiet.go rfl ?_)
      refine Quiet.bool 229 rfl (fun h2 => ?_) (fun _ => ?_)
      · exfalso
        have h2 : ((((⟨nl[j].toArray⟩ : ByteArray).size : Nat) : Int) != (((⟨w.toArray⟩ : ByteArray).size : Nat) : Int)) = true := h2
        rw [bsz, bsz, hy9, hwl] at h2
        simp at h2
      repeat (refine Quiet.go rfl ?_)
      refine Quiet.bool 236 rfl (fun h2 => ?_) (fun _ => ?_)
      · have h2 : 0 < j := by
          have := of_decide_eq_true h2
          omega
        have hpm : j - 1 < nl.length := by omega
        have hprev : (nl.map str)[((j : Int) - 1).toNat]? = some (str nl[j - 1]) := by
          rw [show ((j : Int) - 1).toNat = j - 1 by omega, List.getElem?_map, List.getElem?_eq_getElem hpm]; rfl
        have hwj : IntKind.i64.wrap ((j : Int) - 1) = (j : Int) - 1 := wrap_i64 (by omega) (by omega)
        have hltp : nl[j - 1] < nl[j] := (List.pairwise_iff_getElem.1 hsort) (j - 1) j hpm hlt (by omega)
        repeat (refine Quiet.go rfl ?_)
        refine Quiet.val rfl rfl (ValOk.idx (str nl[j]) rfl rfl rfl rfl rfl (by omega) hget) rfl ?_
        repeat (refine Quiet.go rfl ?_)
        rw [hwj]
        refine Quiet.val rfl rfl (ValOk.idx (str nl[j - 1]) rfl rfl rfl rfl rfl (by omega) hprev) rfl ?_
        repeat (refine Quiet.go rfl ?_)
        refine Quiet.val rfl rfl (ValOk.sleq nl[j] nl[j - 1] rfl rfl rfl) rfl ?_
        rw [show (Op.bytesLess nl[j] nl[j - 1] || nl[j] == nl[j - 1]) = false by
          rw [bytesLess_lt, decide_eq_false (fun h => List.lt_irrefl _ (List.lt_trans h hltp)), Bool.false_or, beq_eq_false_iff_ne]
          intro e
          rw [e] at hltp
          exact List.lt_irrefl _ hltp]
        repeat (refine Quiet.go rfl ?_)
        refine Quiet.nil ?_
        exact St.Le.mk' ⟨rfl, rfl, rfl, rfl, rfl, rfl, rfl, trivial⟩ trivial
      · repeat (refine Quiet.go rfl ?_)
        refine Quiet.nil ?_
        exact St.Le.mk' ⟨rfl, rfl, rfl, rfl, rfl, rfl, rfl, trivial⟩ trivial
  · have hj' : j = nl.length := by
      have : ¬ (j : Int) < ((nl.map str).length : Nat) := of_decide_eq_false h
      rw [List.length_map] at this
      omega
    subst hj'
    rw [List.take_length, decide_eq_true hdue]
    repeat (refine Run.go rfl ?_)
    refine Run.loop (fun j : Nat => ⟨[(16, str w), (23, .ro 1 false (sl.map str)), (29, bo true), (33, i64 j)], []⟩) (fun j => j ≤ sl.length) (fun j => sl.length - j) 0 (by omega) ?_ ?_
    · exact St.Le.mk' ⟨rfl, rfl, rfl, rfl, trivial⟩ trivial
    intro j hj IH
    repeat (refine Run.go rfl ?_)
    refine Run.cond rfl (fun h => ?_) (fun h => ?_)
    · have hlt : j < sl.length := by
        have : (j : Int) < ((sl.map str).length : Nat) := of_decide_eq_true h
        rw [List.length_map] at this
        omega
      have hyl := hswp _ (List.getElem_mem hlt)
      have hy9 := (isLb_rl hyl).1
      have hget : (sl.map str)[((j : Nat) : Int).toNat]? = some (str sl[j]) := by rw [Int.toNat_natCast, List.getElem?_map, List.getElem?_eq_getElem hlt]; rfl
      have cCj := implCheckLabel_ct sl[j]
      rw [hyl] at cCj
      repeat (refine Run.go rfl ?_)
      refine Run.val rfl rfl rfl (ValOk.idx (str sl[j]) rfl rfl rfl rfl rfl (by omega) hget) rfl ?_
      repeat (refine Run.go rfl ?_)
      refine Run.csA rfl (cCj.at hA) rfl rfl ?_
      repeat (refine Run.go rfl ?_)
      refine Run.val rfl rfl rfl (ValOk.idx (str sl[j]) rfl rfl rfl rfl rfl (by omega) hget) rfl ?_
      repeat (refine Run.go rfl ?_)
      refine Run.cond rfl (fun h2 => ?_) (fun _ => ?_)
      · exfalso
        have h2 : ((((⟨sl[j].toArray⟩ : ByteArray).size : Nat) : Int) != (((⟨w.toArray⟩ : ByteArray).size : Nat) : Int)) = true := h2
        rw [bsz, bsz, hy9, hwl] at h2
        simp at h2
      repeat (refine Run.go rfl ?_)
      refine Run.of (IH (j + 1) (by omega) (by omega)) ⟨rfl, rfl, rfl, ?_, trivial⟩ trivial
      show i64 _ = i64 _
      rw [wrap_i64 (by omega) (by omega)]
      rfl
    · repeat (refine Run.go rfl ?_)
      exact Run.ret hg rfl rfl


theorem lwu8 {n : Int} (h : (Lit.int .u8 n).wf = true) : 0 ≤ n ∧ n ≤ 255 := by
  simpa [Lit.wf, IntKind.min, IntKind.max, IntKind.signed, IntKind.bits] using h
end Go.Proofs.YtilomajfcjpmnaaGreatDoor
