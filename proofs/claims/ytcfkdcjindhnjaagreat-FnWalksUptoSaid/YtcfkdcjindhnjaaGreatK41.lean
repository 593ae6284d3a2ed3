/- Contracts of the program's functions, and what follows from them. -/
import Derived.Test.YtcfkdcjindhnjaaGreatK40
set_option linter.unusedVariables false
set_option maxRecDepth 100000
set_option linter.unusedSimpArgs false
namespace Go.Proofs.YtcfkdcjindhnjaaGreat
open Go Go.Av

/-! The law of walks. -/

theorem lsK_frz (L : List Int) (c : Int) : (lsR (L, c)).frz = .tup [.ro 1 false (L.map i64), i64 c] := by
  show AV.tup [.ro 1 false (AV.frzL (L.map i64)), i64 c] = _
  rw [frz64]
theorem lsK_rf (L : List Int) (c : Int) : (lsR (L, c)).rf = true := by
  simp only [lsR, AV.rf, AV.rfL, rf64]
  rfl
theorem sw_frz (L : List Int) (d c : Int) : (AV.tup [.own 1 false (L.map i64), i64 d, i64 c]).frz = .tup [.ro 1 false (L.map i64), i64 d, i64 c] := by
  show AV.tup [.ro 1 false (AV.frzL (L.map i64)), i64 d, i64 c] = _
  rw [frz64]
theorem sw_rf (L : List Int) (d c : Int) : (AV.tup [.own 1 false (L.map i64), i64 d, i64 c]).rf = true := by
  simp only [AV.rf, AV.rfL, rf64]
  rfl
theorem ev_rev {L : List Bk} {k : Nat} (h : 2 * k < L.length) : (ev L.reverse)[k]? = some (L.getD (L.length - 1 - 2 * k) bk0) := by
  rw [ev_get, List.getElem?_reverse h, List.getD_eq_getElem?_getD, List.getElem?_eq_getElem (by omega)]
  rfl
theorem rev_at {L : List Int} {k : Nat} (h : k < L.length) : L.reverse[k]? = some (L.getD (L.length - 1 - k) 0) := by
  rw [List.getElem?_reverse h, List.getD_eq_getElem?_getD, List.getElem?_eq_getElem (by omega)]
  rfl

theorem lwu8 {n : Int} (h : (Lit.int .u8 n).wf = true) : 0 ≤ n ∧ n ≤ 255 := by
  simpa [Lit.wf, IntKind.min, IntKind.max, IntKind.signed, IntKind.bits] using h

noncomputable def X3 : Fx := ⟨Tryz.prog, tys, 3, Tryz.f3, [0, 1]⟩
theorem X3_ok : X3.Ok := ⟨Tryz.func3, tys_ok⟩
set_option maxHeartbeats 8000000 in
theorem lawWalks_ct (ex ex' : Bool) (C C' : List Int) (hb : ∀ x ∈ C, 0 ≤ x ∧ x ≤ 255) (hb' : ∀ x ∈ C', 0 ≤ x ∧ x ≤ 255) : Ct Tryz.prog 3 [.ro 1 ex (C.map u8), .ro 1 ex' (C'.map u8)] (bo true) [] := by
  have hml : ∀ D : List Int, (D.map u8).length = D.length := fun D => List.length_map ..
  refine Ct.intro X3 X3_ok rfl (by kernel_rfl) rfl rfl fun g hg => ?_
  repeat (refine Run.go rfl ?_)
  refine Run.cs rfl (f6big_ct ex (C.map u8)) rfl rfl ?_
  repeat (refine Run.go rfl ?_)
  refine Run.bool 43 rfl (fun h => ?_) (fun hB1 => ?_)
  · repeat (refine Run.go rfl ?_)
    refine Run.cond rfl (fun _ => ?_) (fun h => by simp at h)
    repeat (refine Run.go rfl ?_)
    exact Run.ret hg rfl rfl
  repeat (refine Run.go rfl ?_)
  refine Run.cs rfl (f6big_ct ex' (C'.map u8)) rfl rfl ?_
  repeat (refine Run.go rfl ?_)
  refine Run.cond rfl (fun _ => ?_) (fun hB2 => ?_)
  · repeat (refine Run.go rfl ?_)
    exact Run.ret hg rfl rfl
  have hB1 : decide (4096 < (C.map u8).length) = false := hB1
  have hB2 : decide (4096 < (C'.map u8).length) = false := hB2
  simp only [decide_eq_false_iff_not, hml] at hB1 hB2
  have hC : C.length ≤ 1048576 := by omega
  have hC' : C'.length ≤ 1048576 := by omega
  obtain ⟨S, hSl, hSr, cS⟩ := P6Stops_ct ex C hC hb
  obtain ⟨s, hs, cs⟩ := P6Pick_ct ex' C' hC' hb' 30 (by omega)
  have hO : StO S s := ⟨by omega, fun x hx => by have := hSr x hx; omega, by omega⟩
  obtain ⟨f1, f2⟩ := sw_facts hO
  have f3 := wk_ge S s
  have f4 := wk_ge S.reverse s
  rw [lst_perm (List.reverse_perm S) s] at f4
  have cI := swI_ct S false s (by omega)
  have cR := swS_ct S false s (by omega)
  rw [swL, swD, if_pos hO.code, if_pos hO.code, hO.code] at cI cR
  generalize hG : grd S.length S s = G at cI cR f1 f2
  have hGl : G.length = S.length := f2.length_eq
  have cW1 := implWalkLength_ct S false s hO.code
  have cW2 := implWalkLength_ct G false s (hO.perm f2).code
  have cW3 := implWalkLength_ct S.reverse false s (hO.perm (List.reverse_perm S)).code
  rw [f1] at cW2
  generalize lst S s = D at cI cR f3 f4 cW2 f1
  generalize wkL S s = w1 at cW1 f3
  generalize wkL S.reverse s = w3 at cW3 f4
  obtain ⟨L, hLl, hLb, cL⟩ := P6List_ct ex' C' hC' hb'
  obtain ⟨r, hr, cr⟩ := P6Pick_ct ex C hC hb 150 (by omega)
  have hLr : ∀ x ∈ L, bkRng x := fun x hx => (hLb x hx).1
  have hvL : vBs L = true := by
    rw [vBs, Bool.and_eq_true]
    exact ⟨decide_eq_true (by omega), List.all_eq_true.2 fun x hx => (hLb x hx).2⟩
  have hsr : ∀ z : Int, (((S.map i64).length : Nat) : Int) = (S.length : Int) := fun _ => by rw [List.length_map]
  have hmS : ((S.map i64).length : Nat) = S.length := List.length_map ..
  have hmG : ((G.map i64).length : Nat) = G.length := List.length_map ..
  have hmL : ((L.map bkA).length : Nat) = L.length := List.length_map ..
  repeat (refine Run.go rfl ?_)
  refine Run.cs rfl cS rfl (rf_own (fun _ => rfl) _) ?_
  repeat (refine Run.go rfl ?_)
  refine Run.freeze (v' := .ro 1 false (S.map i64)) 5 rfl rfl (by show AV.ro _ _ (AV.frzL _) = _; rw [frz64]) ?_
  refine Run.cs rfl cs rfl rfl ?_
  repeat (refine Run.go rfl ?_)
  refine Run.cs rfl cI rfl (sw_rf _ _ _) ?_
  refine Run.freeze 54 rfl rfl (sw_frz _ _ _) ?_
  repeat (refine Run.go rfl ?_)
  refine Run.cs rfl cR rfl (sw_rf _ _ _) ?_
  refine Run.freeze 61 rfl rfl (sw_frz _ _ _) ?_
  repeat (refine Run.go rfl ?_)
  refine Run.cs rfl cW1 rfl rfl ?_
  repeat (refine Run.go rfl ?_)
  refine Run.cs rfl cW2 rfl rfl ?_
  repeat (refine Run.go rfl ?_)
  refine Run.cs rfl (SameNumbers_ct G G false false (by omega)) rfl rfl ?_
  rw [decide_eq_true rfl]
  repeat (refine Run.go rfl ?_)
  refine Run.bool 95 rfl (fun h => by simp at h) (fun _ => ?_)
  repeat (refine Run.go rfl ?_)
  refine Run.bool 104 rfl (fun h => ?_) (fun _ => ?_)
  · exfalso
    have := of_decide_eq_true h
    omega
  repeat (refine Run.go rfl ?_)
  refine Run.bool 113 rfl (fun h => by simp at h) (fun _ => ?_)
  repeat (refine Run.go rfl ?_)
  refine Run.cond rfl (fun h => ?_) (fun _ => ?_)
  · exfalso
    have h : ((((G.map i64).length : Nat) : Int) != ((S.map i64).length : Nat)) = true := h
    rw [hmG, hmS, hGl] at h
    simp at h
  repeat (refine Run.go rfl ?_)
  refine Run.le (st' := ⟨[(0, .ro 1 ex (C.map u8)), (1, .ro 1 ex' (C'.map u8)), (5, .ro 1 false (S.map i64)), (6, i64 s), (11, i64 D)], []⟩) (St.Le.mk' ⟨rfl, rfl, rfl, rfl, rfl, trivial⟩ trivial) ?_
  refine Run.buildSlice [] rfl rfl rfl rfl rfl rfl rfl rfl rfl rfl rfl rfl rfl rfl ?_
  iterate 2 (refine Run.go rfl ?_)
  refine Run.loosen0 17 rfl ?_
  repeat (refine Run.go rfl ?_)
  refine Run.loopTo ⟨[(0, .ro 1 ex (C.map u8)), (1, .ro 1 ex' (C'.map u8)), (6, i64 s), (11, i64 D), (17, .own 1 false (S.reverse.map i64))], []⟩ (fun k' hN => ?_) ?_
  · refine Run.loop (fun k : Nat => ⟨[(0, .ro 1 ex (C.map u8)), (1, .ro 1 ex' (C'.map u8)), (5, .ro 1 false (S.map i64)), (6, i64 s), (11, i64 D), (17, .own 1 false ((S.reverse.take k).map i64)), (18, i64 ((S.length : Int) - 1 - (k : Nat)))], []⟩) (fun k => k ≤ S.length) (fun k => S.length - k) 0 (Nat.zero_le _) ?_ ?_
    · refine St.Le.mk' ⟨rfl, rfl, rfl, rfl, rfl, rfl, ?_, trivial⟩ trivial
      show i64 (IntKind.i64.wrap ((((S.map i64).length : Nat) : Int) - 1)) = _
      rw [hmS, wrap_i64 (by omega) (by omega)]
      congr 1
      omega
    intro k hk IH
    repeat (refine Run.go rfl ?_)
    refine Run.cond rfl (fun h => ?_) (fun h => ?_)
    · have hlt : k < S.length := by have := of_decide_eq_true h; omega
      have hat : (S.map i64)[((S.length : Int) - 1 - (k : Nat)).toNat]? = some (i64 (S.getD (S.length - 1 - k) 0)) := by
        rw [show ((S.length : Int) - 1 - (k : Nat)).toNat = S.length - 1 - k by omega, List.getElem?_map, getD_at (by omega)]
        rfl
      repeat (refine Run.go rfl ?_)
      refine Run.val rfl rfl rfl (ValOk.idx (i64 (S.getD (S.length - 1 - k) 0)) rfl rfl rfl rfl rfl (by omega) hat) rfl ?_
      repeat (refine Run.go rfl ?_)
      refine Run.buildSlice [i64 (S.getD (S.length - 1 - k) 0)] rfl rfl rfl rfl rfl rfl rfl rfl rfl rfl rfl rfl rfl rfl ?_
      refine Run.appendo rfl rfl rfl rfl rfl rfl rfl rfl rfl rfl rfl rfl rfl rfl (by show (List.length _ + 1) * 8 ≤ 140737488355328; rw [List.length_map, List.length_take, List.length_reverse]; omega) (by simp [capMax]; omega) (by decide) rfl ?_
      repeat (refine Run.go rfl ?_)
      refine Run.of (IH (k + 1) (by omega) (by omega)) ⟨rfl, rfl, rfl, rfl, rfl, ?_, ?_, trivial⟩ trivial
      · show AV.own _ _ _ = AV.own _ _ _
        rw [List.take_add_one, rev_at hlt, List.map_append]
        rfl
      · show i64 _ = i64 _
        rw [wrap_i64 (by omega) (by omega)]
        congr 1
        omega
    · have hk' : k = S.length := by have := of_decide_eq_false h; omega
      subst hk'
      rw [List.take_of_length_le (by simp)]
      repeat (refine Run.go rfl ?_)
      exact Run.of hN ⟨rfl, rfl, rfl, rfl, rfl, trivial⟩ trivial
  refine Run.freeze (v' := .ro 1 false (S.reverse.map i64)) 17 rfl rfl (by show AV.ro _ _ (AV.frzL _) = _; rw [frz64]) ?_
  repeat (refine Run.go rfl ?_)
  refine Run.cs rfl cW3 rfl rfl ?_
  repeat (refine Run.go rfl ?_)
  refine Run.cond rfl (fun h => ?_) (fun _ => ?_)
  · exfalso
    have := of_decide_eq_true h
    omega
  repeat (refine Run.go rfl ?_)
  refine Run.cs rfl cL rfl (rfB _) ?_
  repeat (refine Run.go rfl ?_)
  refine Run.freeze (v' := .ro 8 false (L.map bkA)) 21 rfl rfl (by show AV.ro _ _ (AV.frzL _) = _; rw [frzB]) ?_
  refine Run.cs rfl cr rfl rfl ?_
  repeat (refine Run.go rfl ?_)
  have hw : IntKind.i64.wrap (1 + r) = 1 + r := wrap_i64 (by omega) (by omega)
  rw [hw]
  obtain ⟨w, hwd⟩ : ∃ w, w = 1 + r := ⟨_, rfl⟩
  rw [← hwd]
  have hwr : 1 ≤ w ∧ w ≤ 6000 := by omega
  have hwi : inr w 1 6000 = true := by simp [inr, hwr]
  have cHi := implHeaviestShelf_ct L false w (by omega) hLr
  have cHs := specHeaviestShelf_ct L false w (by omega) hLr
  have hH := hs_law (l := L) (w := w) hLb
  obtain ⟨A, B, M, c, hRes, hcase⟩ : ∃ A B M c : Int, hsRes L w = .tup [i64 A, i64 B, i64 M, i64 c] ∧ ((c = 6 ∧ ∀ x ∈ L, ¬ x.wd ≤ w) ∨ (c = 0 ∧ ∃ i k : Nat, i < k ∧ k ≤ L.length ∧ A = (i : Int) ∧ B = (k : Int) - i ∧ M = sT (part L i k) ∧ sW (part L i k) ≤ w ∧ ∀ x ∈ L, x.wd ≤ w → x.wt ≤ M)) := by
    rcases hH with ⟨h1, h2⟩ | ⟨i, k, h1, h2, h3, h4, h5⟩
    · exact ⟨0, 0, 0, 6, by rw [hsRes, if_pos hvL, if_pos hwi, if_pos h1], .inl ⟨rfl, h2⟩⟩
    · refine ⟨(i : Int), (k : Int) - i, sT (part L i k), 0, ?_, .inr ⟨rfl, i, k, h1, h2, rfl, rfl, rfl, h4, h5⟩⟩
      rw [hsRes, if_pos hvL, if_pos hwi, if_neg (by rw [h3]; show ¬ (k : Int) - i = 0; omega), h3]
  rw [hRes] at cHi cHs
  refine Run.cs rfl cHi rfl rfl ?_
  repeat (refine Run.go rfl ?_)
  refine Run.cs rfl cHs rfl rfl ?_
  repeat (refine Run.go rfl ?_)
  have hmost : ∀ x ∈ L, (decide (x.wd ≤ w) && (c != 0 || decide (x.wt > M))) = false := fun x hx => by
    rcases hcase with ⟨h1, h2⟩ | ⟨h1, i, k, _, _, _, _, _, _, h7⟩
    · rw [decide_eq_false (h2 x hx)]; rfl
    · by_cases e : x.wd ≤ w
      · rw [h1, decide_eq_true e, decide_eq_false (by have := h7 x hx e; omega)]; rfl
      · rw [decide_eq_false e]; rfl
  refine Run.regTo ⟨[(21, .ro 8 false (L.map bkA)), (22, i64 w), (26, i64 c), (27, i64 A), (28, i64 B), (29, i64 M), (194, bo false)], []⟩ (fun k' hN => ?_) ?_
  · refine Run.bool 172 rfl (fun h => by simp at h) (fun _ => ?_)
    repeat (refine Run.go rfl ?_)
    refine Run.bool 177 rfl (fun h => by simp at h) (fun _ => ?_)
    repeat (refine Run.go rfl ?_)
    refine Run.bool 182 rfl (fun h => by simp at h) (fun _ => ?_)
    repeat (refine Run.go rfl ?_)
    refine Run.bool 187 rfl (fun h => by simp at h) (fun _ => ?_)
    repeat (refine Run.go rfl ?_)
    rcases hcase with ⟨rfl, _⟩ | ⟨rfl, _⟩
    · repeat (refine Run.go rfl ?_)
      exact Run.of hN ⟨rfl, rfl, rfl, rfl, rfl, rfl, rfl, trivial⟩ trivial
    · repeat (refine Run.go rfl ?_)
      exact Run.of hN ⟨rfl, rfl, rfl, rfl, rfl, rfl, rfl, trivial⟩ trivial
  repeat (refine Run.go rfl ?_)
  refine Run.cond rfl (fun h => by simp at h) (fun _ => ?_)
  repeat (refine Run.go rfl ?_)
  refine Run.condJ ⟨[(21, .ro 8 false (L.map bkA)), (22, i64 w), (26, i64 c), (29, i64 M)], []⟩ rfl (fun h k' hN => ?_) (fun h k' hN => ?_) ?_
  · have hc : c = 0 := by simpa using h
    rcases hcase with ⟨h1, _⟩ | ⟨_, i, k, q1, q2, q3, q4, q5, q6, q7⟩
    · omega
    subst hc q3 q4
    have hw2 : IntKind.i64.wrap ((i : Int) + ((k : Int) - i)) = (k : Int) := by rw [wrap_i64 (by omega) (by omega)]; omega
    have cT := TotalsOf_ct (part L i k) false (by have := part_len L i k; omega) (fun x hx => hLr x (part_mem hx)) (by
      rw [vBs, Bool.and_eq_true]
      exact ⟨decide_eq_true (by have := part_len L i k; omega), List.all_eq_true.2 fun x hx => (hLb x (part_mem hx)).2⟩)
    rw [← q5] at cT
    repeat (refine Run.go rfl ?_)
    refine Run.regTo ⟨[(21, .ro 8 false (L.map bkA)), (22, i64 w), (26, i64 0), (27, i64 (i : Int)), (28, i64 ((k : Int) - i)), (29, i64 M), (210, bo false)], []⟩ (fun k'' hN2 => ?_) ?_
    · refine Run.bool 199 rfl (fun h => ?_) (fun _ => ?_)
      · exfalso; have := of_decide_eq_true h; omega
      repeat (refine Run.go rfl ?_)
      refine Run.bool 203 rfl (fun h => ?_) (fun _ => ?_)
      · exfalso; have := of_decide_eq_true h; omega
      repeat (refine Run.go rfl ?_)
      refine Run.of hN2 ⟨rfl, rfl, rfl, rfl, rfl, rfl, ?_, trivial⟩ trivial
      show bo (decide (IntKind.i64.wrap ((i : Int) + ((k : Int) - i)) > (((L.map bkA).length : Nat) : Int))) = _
      rw [hw2, hmL, decide_eq_false (by omega)]
    repeat (refine Run.go rfl ?_)
    refine Run.cond rfl (fun h => by simp at h) (fun _ => ?_)
    repeat (refine Run.go rfl ?_)
    refine Run.val rfl rfl rfl (ValOk.cut (ys := (part L i k).map bkA) (l := (i : Int)) (h := (k : Int)) rfl rfl rfl rfl rfl (by show some (IntKind.i64.wrap _) = _; rw [hw2]) (by omega) (by omega) (by omega) (by simp only [Int.toNat_natCast, part, List.map_drop, List.map_take])) rfl ?_
    refine Run.cs rfl cT rfl rfl ?_
    repeat (refine Run.go rfl ?_)
    refine Run.bool 229 rfl (fun h => ?_) (fun _ => ?_)
    · exfalso; have := of_decide_eq_true h; omega
    repeat (refine Run.go rfl ?_)
    refine Run.cond rfl (fun h => ?_) (fun _ => ?_)
    · exfalso
      have h : (M != M) = true := h
      simp at h
    repeat (refine Run.go rfl ?_)
    exact Run.of hN ⟨rfl, rfl, rfl, rfl, trivial⟩ trivial
  · repeat (refine Run.go rfl ?_)
    exact Run.of hN ⟨rfl, rfl, rfl, rfl, trivial⟩ trivial
  repeat (refine Run.go rfl ?_)
  refine Run.loopTo ⟨[(21, .ro 8 false (L.map bkA))], []⟩ (fun k' hN => ?_) ?_
  · refine Run.loop (fun i : Nat => ⟨[(21, .ro 8 false (L.map bkA)), (22, i64 w), (26, i64 c), (29, i64 M), (33, i64 (i : Nat))], []⟩) (fun i => i ≤ L.length) (fun i => L.length - i) 0 (Nat.zero_le _) ?_ ?_
    · exact St.Le.mk' ⟨rfl, rfl, rfl, rfl, rfl, trivial⟩ trivial
    intro i hi IH
    repeat (refine Run.go rfl ?_)
    refine Run.cond rfl (fun h => ?_) (fun h => ?_)
    · have hlt : i < L.length := by have := of_decide_eq_true h; rw [hmL] at this; omega
      have hx := hmost L[i] (List.getElem_mem _)
      have hrg := hLr L[i] (List.getElem_mem _)
      have w1 := w64 hrg.2.2.2.2.2.1
      have w3 := w64 hrg.2.2.2.2.2.2.2
      have hat : (L.map bkA)[((i : Nat) : Int).toNat]? = some (bkA L[i]) := by rw [Int.toNat_natCast, List.getElem?_map, List.getElem?_eq_getElem hlt]; rfl
      repeat (refine Run.go rfl ?_)
      refine Run.val rfl rfl rfl (ValOk.idx (bkA L[i]) rfl rfl rfl rfl rfl (by omega) hat) rfl ?_
      repeat (refine Run.go rfl ?_)
      rw [w1]
      refine Run.regTo ⟨[(21, .ro 8 false (L.map bkA)), (22, i64 w), (26, i64 c), (29, i64 M), (33, i64 (i : Nat)), (262, bo false)], []⟩ (fun k'' hN2 => ?_) ?_
      · refine Run.bool 249 rfl (fun h1 => ?_) (fun h1 => ?_)
        · rw [h1, Bool.true_and] at hx
          repeat (refine Run.go rfl ?_)
          refine Run.bool 252 rfl (fun h2 => ?_) (fun h2 => ?_)
          · have h2 : (c != 0) = true := h2
            rw [h2] at hx
            simp at hx
          · have h2 : (c != 0) = false := h2
            rw [h2, Bool.false_or] at hx
            repeat (refine Run.go rfl ?_)
            refine Run.val rfl rfl rfl (ValOk.idx (bkA L[i]) rfl rfl rfl rfl rfl (by omega) hat) rfl ?_
            repeat (refine Run.go rfl ?_)
            refine Run.of hN2 ⟨rfl, rfl, rfl, rfl, rfl, ?_, trivial⟩ trivial
            show bo (decide (IntKind.i64.wrap L[i].wt > M)) = _
            rw [w3, hx]
        · repeat (refine Run.go rfl ?_)
          exact Run.of hN2 ⟨rfl, rfl, rfl, rfl, rfl, rfl, trivial⟩ trivial
      repeat (refine Run.go rfl ?_)
      refine Run.cond rfl (fun h => by simp at h) (fun _ => ?_)
      repeat (refine Run.go rfl ?_)
      refine Run.of (IH (i + 1) (by omega) (by omega)) ⟨rfl, rfl, rfl, rfl, ?_, trivial⟩ trivial
      show i64 _ = _
      rw [wrap_i64 (by omega) (by omega)]
      rfl
    · repeat (refine Run.go rfl ?_)
      exact Run.of hN ⟨rfl, trivial⟩ trivial
  clear hcase hmost cHi cHs hRes hH
  repeat (refine Run.go rfl ?_)
  refine Run.buildSlice [] rfl rfl rfl rfl rfl rfl rfl rfl rfl rfl rfl rfl rfl rfl ?_
  iterate 2 (refine Run.go rfl ?_)
  refine Run.loosen0 34 rfl ?_
  repeat (refine Run.go rfl ?_)
  have hel := ev_len L.reverse
  rw [List.length_reverse] at hel
  refine Run.loopTo ⟨[(21, .ro 8 false (L.map bkA)), (34, .own 8 false ((ev L.reverse).map bkA))], []⟩ (fun k' hN => ?_) ?_
  · refine Run.loop (fun k : Nat => ⟨[(21, .ro 8 false (L.map bkA)), (34, .own 8 false (((ev L.reverse).take k).map bkA)), (35, i64 ((L.length : Int) - 1 - 2 * (k : Nat)))], []⟩) (fun k => k ≤ (ev L.reverse).length) (fun k => (ev L.reverse).length - k) 0 (Nat.zero_le _) ?_ ?_
    · refine St.Le.mk' ⟨rfl, rfl, ?_, trivial⟩ trivial
      show i64 (IntKind.i64.wrap ((((L.map bkA).length : Nat) : Int) - 1)) = _
      rw [hmL, wrap_i64 (by omega) (by omega)]
      congr 1
      omega
    intro k hk IH
    repeat (refine Run.go rfl ?_)
    refine Run.cond rfl (fun h => ?_) (fun h => ?_)
    · have hlt : 2 * k < L.length := by have := of_decide_eq_true h; omega
      have hat : (L.map bkA)[((L.length : Int) - 1 - 2 * (k : Nat)).toNat]? = some (bkA (L.getD (L.length - 1 - 2 * k) bk0)) := by
        rw [show ((L.length : Int) - 1 - 2 * (k : Nat)).toNat = L.length - 1 - 2 * k by omega, List.getElem?_map, List.getD_eq_getElem?_getD, List.getElem?_eq_getElem (by omega)]
        rfl
      have her := ev_rev hlt
      generalize L.getD (L.length - 1 - 2 * k) bk0 = x at hat her
      repeat (refine Run.go rfl ?_)
      refine Run.val rfl rfl rfl (ValOk.idx (bkA x) rfl rfl rfl rfl rfl (by omega) hat) rfl ?_
      repeat (refine Run.go rfl ?_)
      refine Run.buildSlice [bkA x] rfl rfl rfl rfl rfl rfl rfl rfl rfl rfl rfl rfl rfl rfl ?_
      refine Run.appendo rfl rfl rfl rfl rfl rfl rfl rfl rfl rfl rfl rfl rfl rfl (by show (List.length _ + 1) * 14 ≤ 140737488355328; rw [List.length_map, List.length_take]; omega) (by show List.length _ + 1 ≤ _; rw [List.length_map, List.length_take]; simp [capMax]; omega) (by decide) rfl ?_
      repeat (refine Run.go rfl ?_)
      refine Run.of (IH (k + 1) (by omega) (by omega)) ⟨rfl, ?_, ?_, trivial⟩ trivial
      · show AV.own _ _ _ = AV.own _ _ _
        rw [List.take_add_one, her, List.map_append]
        rfl
      · show i64 _ = i64 _
        rw [wrap_i64 (by omega) (by omega)]
        congr 1
        omega
    · have hk' : k = (ev L.reverse).length := by have := of_decide_eq_false h; omega
      subst hk'
      rw [List.take_length]
      repeat (refine Run.go rfl ?_)
      exact Run.of hN ⟨rfl, rfl, trivial⟩ trivial
  have hWb : ∀ x ∈ ev L.reverse, x ∈ L := fun x hx => List.mem_reverse.1 ((ev_sub _).mem hx)
  have hcnt : ∀ v : Int, ((ev L.reverse).map ky).count v ≤ (L.map ky).count v := fun v => by
    refine Nat.le_trans (((ev_sub L.reverse).map ky).count_le v) ?_
    rw [List.map_reverse, List.count_reverse]
    exact Nat.le_refl _
  generalize hWd : ev L.reverse = W at hel hWb hcnt
  have hWl : W.length ≤ 11 := by omega
  have hWr : ∀ x ∈ W, bkRng x := fun x hx => hLr x (hWb x hx)
  have hM := ms_ok hLr hWr hcnt W.length (Nat.le_refl _)
  have hvW : vBs W = true := by
    rw [vBs, Bool.and_eq_true]
    exact ⟨decide_eq_true (by omega), List.all_eq_true.2 fun x hx => (hLb x (hWb x hx)).2⟩
  have hwt : wtRes L W = ((ms L W lkU W.length).1, 0) := by rw [wtRes, hvL, hvW, if_pos (by rfl), if_pos hM.ok]
  have cTi := implWalkTo_ct L W false false ⟨by omega, hLr⟩ ⟨by omega, hWr⟩
  have cTs := specWalkTo_ct L W false false ⟨by omega, hLr⟩ ⟨by omega, hWr⟩
  rw [hwt] at cTi cTs
  have hPl := (ms_len L W lkU W.length).2.1 hM.ok
  have hnd := hM.nd
  have hPat := hM.at'
  generalize (ms L W lkU W.length).1 = P at cTi cTs hPl hnd hPat
  have hmP : ((P.map i64).length : Nat) = P.length := List.length_map ..
  have hmW : ((W.map bkA).length : Nat) = W.length := List.length_map ..
  refine Run.freeze (v' := .ro 8 false (W.map bkA)) 34 rfl rfl (by show AV.ro _ _ (AV.frzL _) = _; rw [frzB]) ?_
  repeat (refine Run.go rfl ?_)
  refine Run.cs rfl cTi rfl (lsK_rf _ _) ?_
  refine Run.freeze 281 rfl rfl (lsK_frz _ _) ?_
  repeat (refine Run.go rfl ?_)
  refine Run.cs rfl cTs rfl (lsK_rf _ _) ?_
  refine Run.freeze 287 rfl rfl (lsK_frz _ _) ?_
  repeat (refine Run.go rfl ?_)
  refine Run.cs rfl (SameNumbers_ct P P false false (by omega)) rfl rfl ?_
  rw [decide_eq_true rfl]
  repeat (refine Run.go rfl ?_)
  refine Run.cond rfl (fun h => ?_) (fun _ => ?_)
  · exfalso
    have h : ((((P.map i64).length : Nat) : Int) != ((W.map bkA).length : Nat)) = true := h
    rw [hmP, hmW, hPl] at h
    simp at h
  repeat (refine Run.go rfl ?_)
  refine Run.loop (fun j : Nat => ⟨[(21, .ro 8 false (L.map bkA)), (34, .ro 8 false (W.map bkA)), (38, .ro 1 false (P.map i64)), (40, i64 (j : Nat))], []⟩) (fun j => j ≤ P.length) (fun j => P.length - j) 0 (Nat.zero_le _) ?_ ?_
  · exact St.Le.mk' ⟨rfl, rfl, rfl, rfl, trivial⟩ trivial
  intro j hj IH
  repeat (refine Run.go rfl ?_)
  refine Run.cond rfl (fun h => ?_) (fun h => ?_)
  rotate_left
  · repeat (refine Run.go rfl ?_)
    exact Run.ret hg rfl rfl
  have hlt : j < P.length := by have := of_decide_eq_true h; rw [hmP] at this; omega
  obtain ⟨k, hk, hPj, hky⟩ := hPat j (by omega)
  have hjW : j < W.length := by omega
  have hat : (P.map i64)[((j : Nat) : Int).toNat]? = some (i64 (k : Nat)) := by rw [Int.toNat_natCast, List.getElem?_map, hPj]; rfl
  have hatL : (L.map bkA)[((k : Nat) : Int).toNat]? = some (bkA L[k]) := by rw [Int.toNat_natCast, List.getElem?_map, List.getElem?_eq_getElem hk]; rfl
  have hatW : (W.map bkA)[((j : Nat) : Int).toNat]? = some (bkA W[j]) := by rw [Int.toNat_natCast, List.getElem?_map, List.getElem?_eq_getElem hjW]; rfl
  have huc : uc L[k] W[j] = 0 := by
    have := (lkU_ky (hLr _ (List.getElem_mem hk)) (hWr _ (List.getElem_mem hjW))).2 (by
      rw [List.getD_eq_getElem?_getD, List.getElem?_eq_getElem hk, List.getD_eq_getElem?_getD, List.getElem?_eq_getElem hjW] at hky
      exact hky)
    simpa [lkU] using this
  have hno : ((P.take j).any fun x => x == (k : Int)) = false := by
    rw [List.any_eq_false]
    intro x hx e
    have e : x = (k : Int) := by simpa using e
    obtain ⟨m, hm, hmx⟩ := List.mem_iff_getElem.1 hx
    rw [List.length_take] at hm
    rw [List.getElem_take] at hmx
    have hPj' : P[j] = (k : Int) := by rw [List.getElem?_eq_getElem hlt] at hPj; exact Option.some.inj hPj
    have := (List.pairwise_iff_getElem.1 hnd) m j (by omega) hlt (by omega)
    exact this (by rw [hmx, hPj', e])
  repeat (refine Run.go rfl ?_)
  refine Run.drawS ⟨[(21, .ro 8 false (L.map bkA)), (34, .ro 8 false (W.map bkA)), (38, .ro 1 false (P.map i64)), (40, i64 (j : Nat)), (354, bo false)], []⟩ (by kernel_rfl) (by decide +kernel) ?_ ?_
  · repeat (refine Quiet.go rfl ?_)
    refine Quiet.val rfl rfl (ValOk.idx (i64 (k : Nat)) rfl rfl rfl rfl rfl (by omega) hat) rfl ?_
    repeat (refine Quiet.go rfl ?_)
    refine Quiet.bool 321 rfl (fun h => ?_) (fun _ => ?_)
    · exfalso; have := of_decide_eq_true h; omega
    repeat (refine Quiet.go rfl ?_)
    refine Quiet.val rfl rfl (ValOk.idx (i64 (k : Nat)) rfl rfl rfl rfl rfl (by omega) hat) rfl ?_
    repeat (refine Quiet.go rfl ?_)
    refine Quiet.bool 330 rfl (fun h => ?_) (fun _ => ?_)
    · exfalso; have := of_decide_eq_true h; rw [hmL] at this; omega
    repeat (refine Quiet.go rfl ?_)
    refine Quiet.val rfl rfl (ValOk.idx (i64 (k : Nat)) rfl rfl rfl rfl rfl (by omega) hat) rfl ?_
    repeat (refine Quiet.go rfl ?_)
    refine Quiet.val rfl rfl (ValOk.idx (bkA L[k]) rfl rfl rfl rfl rfl (by omega) hatL) rfl ?_
    repeat (refine Quiet.go rfl ?_)
    refine Quiet.val rfl rfl (ValOk.idx (bkA W[j]) rfl rfl rfl rfl rfl (by omega) hatW) rfl ?_
    repeat (refine Quiet.go rfl ?_)
    refine Quiet.cs rfl rfl rfl rfl rfl (CompareBooks_ct L[k] W[j]) rfl rfl ?_
    rw [huc]
    repeat (refine Quiet.go rfl ?_)
    refine Quiet.val rfl rfl (ValOk.cut (ys := (P.take j).map i64) (l := 0) (h := (j : Nat)) rfl rfl rfl rfl rfl rfl (by omega) (by omega) (by omega) (by rw [Int.toNat_natCast, List.map_take]; rfl)) rfl ?_
    repeat (refine Quiet.go rfl ?_)
    refine Quiet.val rfl rfl (ValOk.idx (i64 (k : Nat)) rfl rfl rfl rfl rfl (by omega) hat) rfl ?_
    repeat (refine Quiet.go rfl ?_)
    refine Quiet.cs rfl rfl rfl rfl rfl (HasNumber_ct (P.take j) false (k : Int) (by rw [List.length_take]; omega)) rfl rfl ?_
    rw [hno]
    repeat (refine Quiet.go rfl ?_)
    exact Quiet.nil (St.Le.mk' ⟨rfl, rfl, rfl, rfl, rfl, trivial⟩ trivial)
  refine Run.cond rfl (fun h => by simp at h) (fun _ => ?_)
  repeat (refine Run.go rfl ?_)
  refine Run.of (IH (j + 1) (by omega) (by omega)) ⟨rfl, rfl, rfl, ?_, trivial⟩ trivial
  show i64 _ = _
  rw [wrap_i64 (by omega) (by omega)]
  rfl
end Go.Proofs.YtcfkdcjindhnjaaGreat
